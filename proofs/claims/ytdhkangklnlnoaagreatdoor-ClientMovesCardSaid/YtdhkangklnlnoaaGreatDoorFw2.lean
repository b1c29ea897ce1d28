import Derived.Test.YtdhkangklnlnoaaGreatDoorFw1
import Derived.MapKept
import Derived.Lib.Builder
import Derived.Lib.UnsafeStr
import Derived.Laws.Externs
import Derived.Scope
import Derived.Maps.RangeRun
import Derived.Deep.Slices
import Derived.OpenShut
import Derived.Carry
import Derived.ChangeVars
import Derived.WideShapes
import Derived.Below
set_option linter.unusedVariables false
set_option linter.unusedSimpArgs false
namespace Go.Tw
open Go
theorem filter_lt {α:Type} {p q:α->Bool} (hpq: ∀ x,q x=true->p x=true): ∀ {l:List α} {x:α},x∈l->p x=true->q x=false->(l.filter q).length < (l.filter p).length
 | [],_,h,_,_=>by cases h
 | y::l,x,h,hp,hq=>by
  have hle: ∀ l:List α,(l.filter q).length<=(l.filter p).length:=by
   intro l
   induction l with
   | nil=>exact Nat.le_refl _
   | cons z l ih =>
    rw [List.filter_cons,List.filter_cons]
    split
    ·rename_i hz
     rw [if_pos (hpq z hz)]
     simpa using ih
    ·split
     ·simp only [List.length_cons]
      omega
     ·exact ih
  rw [List.filter_cons,List.filter_cons]
  rcases List.mem_cons.1 h with rfl | h
  ·rw [if_pos hp,if_neg (by rw [hq]; simp)]
   have:=hle l
   simp only [List.length_cons]
   omega
  ·have ih:=filter_lt hpq h hp hq
   split
   ·rename_i hz
    rw [if_pos (hpq y hz)]
    simpa using ih
   ·split
    ·simp only [List.length_cons]
     omega
    ·exact ih
def unl (n:Nat) (L:List Nat):Nat:=((List.range n).filter λi=> !mem i L).length
theorem ov {n i:Nat} {L:List Nat} (h:i < n) (hi:mem i L=false):unl n (i::L)+1<=unl n L:=by
 unfold unl
 refine filter_lt (p:=λj=> !mem j L) (q:=λj=> !mem j (i::L)) ?_ (x:=i) (by simpa using h) (by simp [hi]) (by simp [mem])
 intro x hx
 simp only [mem,Bool.not_eq_true',Bool.or_eq_false_iff] at hx ⊢
 exact hx.2
theorem Ea {n i:Nat} {L:List Nat} (h:i < n) (hi:mem i L=false):0 < unl n L:=by
 have:=ov h hi
 omega
theorem nD {i:Nat} {l:List Nat}:mem i l=false ↔ ¬ i∈l:=by
 constructor
 ·intro h h2
  rw [mem_iff.2 h2] at h
  cases h
 ·intro h
  cases hb:mem i l with
  | false=>rfl
  | true=>exact absurd (mem_iff.1 hb) h
structure FO where
 i:Nat
 d:Nat
 σ:Type
 v:σ->Value
 S:σ->List Ch
 J:σ->List Im
def fwd (ops:List Oper):Nat->List Oper->Bool
 | _,[]=>true
 | k,o::r=>o.after.toList.all (λe=> !kv e || Nat.blt e.on k) && fwd ops (k+1) r
theorem w7 {ops:List Oper}: ∀ {r:List Oper} {k:Nat},fwd ops k r=true -> ∀ j oj,r[j]?=some oj -> ∀ e∈oj.after,kv e=true->e.on < k+j
 | [],_,_,j,oj,h=>by simp at h
 | o::r,k,h,j,oj,hj=>by
  simp only [fwd,Bool.and_eq_true] at h
  cases j with
  | zero =>
   simp at hj
   subst hj
   intro e he hb
   have:=List.all_eq_true.1 h.1 e (by simpa using he)
   rw [hb] at this
   have:=fW (by simpa using this)
   omega
  | succ j =>
   have:=w7 h.2 j oj (by simpa using hj)
   intro e he hb
   have:=this e he hb
   omega
def o4 (i:Nat):List FO->Bool
 | []=>false
 | f::F=>Nat.beq i f.i || o4 i F
theorem kH {i:Nat}: ∀ {F:List FO},o4 i F=true ↔ ∃ f∈F,f.i=i
 | []=>by simp [o4]
 | f::F=>by
  simp only [o4,Bool.or_eq_true,kH (F:=F),List.mem_cons]
  constructor
  ·rintro (h | ⟨g,hg,h⟩)
   ·exact ⟨f,.inl rfl,(Nat.eq_of_beq_eq_true h).symm⟩
   ·exact ⟨g,.inr hg,h⟩
  ·rintro ⟨g,rfl | hg,h⟩
   ·left
    rw [h]
    exact Nat.beq_refl _
   ·exact .inr ⟨g,hg,h⟩
def tD (F:List FO) (l:List Nat):Nat->List Oper->List Nat
 | _,[]=>[]
 | i,o::r=>match !mem i l && !o4 i F && o.after.toList.all (λe=> !kv e || mem e.on l || o4 e.on F) with
  | true=>i::tD F l (i+1) r
  | false=>tD F l (i+1) r
theorem uS {F:List FO} {l:List Nat}: ∀ {r:List Oper} {k i:Nat},(∃ j o,i=k+j/\r[j]?=some o/\(!mem i l && !o4 i F && o.after.toList.all (λe=> !kv e || mem e.on l || o4 e.on F))=true)->i∈tD F l k r
 | [],k,i,⟨j,o,_,h,_⟩=>by simp at h
 | o::r,k,i,⟨j,o',he,h1,h2⟩=>by
  simp only [tD]
  cases j with
  | zero =>
   simp at h1
   subst h1
   rw [Nat.add_zero] at he
   subst he
   rw [h2]
   exact List.mem_cons_self ..
  | succ j =>
   have ih:=uS (F:=F) (l:=l) (r:=r) (k:=k+1) (i:=i) ⟨j,o',by omega,by simpa using h1,h2⟩
   split
   ·exact List.mem_cons_of_mem _ ih
   ·exact ih
def fnd:List FO->Bool
 | []=>true
 | f::F=> !o4 f.i F && fnd F
theorem BJ: ∀ {F:List FO},fnd F=true -> ∀ {f g:FO},f∈F->g∈F->f.i=g.i->f=g
 | [],_,_,_,h,_,_=>by cases h
 | x::F,h,f,g,hf,hg,he=>by
  simp only [fnd,Bool.and_eq_true,Bool.not_eq_true'] at h
  rcases List.mem_cons.1 hf with e1 | hf1
  ·rcases List.mem_cons.1 hg with e2 | hg1
   ·rw [e1,e2]
   ·have h3:o4 x.i F=true:=kH.2 ⟨g,hg1,by rw [<- he,e1]⟩
    rw [h.1] at h3
    cases h3
  ·rcases List.mem_cons.1 hg with e2 | hg1
   ·have h3:o4 x.i F=true:=kH.2 ⟨f,hf1,by rw [he,e2]⟩
    rw [h.1] at h3
    cases h3
   ·exact BJ h.2 hf1 hg1 he
def fok (F:List FO) (m:Env):Bool:=fnd F && F.all λf=>(look m f.d).isNone && F.all λg=>Nat.beq f.i g.i || !Nat.beq f.d g.d
def onb (ops:List Oper) (j i:Nat):Bool:=match ops[j]? with
 | some oj=>oj.after.toList.any λe=>kv e && Nat.beq e.on i
 | none=>false
def Exd (a:Act) (A:eL) (w:World):List FO->List Nat->List Ch->Prop
 | [],_,R=>R=[]
 | f::F,L,R=>(¬ f.i∈L/\Exd a A w F L R)\/(f.i∈L /\ ∃ x R',a.tmps.getD f.d undef=f.v x/\(∀ g∈f.J x,g.ok A w)/\R=f.S x++R'/\Exd a A w F L R')
theorem Exd.get {a:Act} {A:eL} {w:World} {L:List Nat}: ∀ {F:List FO} {R:List Ch},Exd a A w F L R -> ∀ f∈F,f.i∈L -> ∃ x,a.tmps.getD f.d undef=f.v x /\ ∀ g∈f.J x,g.ok A w
 | [],_,_,f,hf,_=>by cases hf
 | h::F,R,he,f,hf,hL=>by
  rcases he with ⟨h1,h2⟩ | ⟨h1,x,R',h2,h3,h4,h5⟩
  ·rcases List.mem_cons.1 hf with rfl | hf
   ·exact absurd hL h1
   ·exact Exd.get h2 f hf hL
  ·rcases List.mem_cons.1 hf with rfl | hf
   ·exact ⟨x,h2,h3⟩
   ·exact Exd.get h5 f hf hL
theorem Exd.mono {a a':Act} {A A':eL} {w w':World} {L L':List Nat} (hk: ∀ g:Im,g.ok A w->g.ok A' w'): ∀ {F:List FO} {R:List Ch},(∀ f∈F,a'.tmps.getD f.d undef=a.tmps.getD f.d undef)->(∀ f∈F,f.i∈L'↔f.i∈L)->Exd a A w F L R->Exd a' A' w' F L' R
 | [],_,_,_,he=>he
 | h::F,R,hs,hL,he=>by
  rcases he with ⟨h1,h2⟩ | ⟨h1,x,R',h2,h3,h4,h5⟩
  ·exact .inl ⟨λhh=>h1 ((hL h (List.mem_cons_self ..)).1 hh),h2.mono hk (λf hf=>hs f (List.mem_cons_of_mem _ hf)) λf hf=>hL f (List.mem_cons_of_mem _ hf)⟩
  ·exact .inr ⟨(hL h (List.mem_cons_self ..)).2 h1,x,R',(hs h (List.mem_cons_self ..)).trans h2,λg hg=>hk g (h3 g hg),h4,h5.mono hk (λf hf=>hs f (List.mem_cons_of_mem _ hf)) λf hf=>hL f (List.mem_cons_of_mem _ hf)⟩
theorem Exd.exec {a a':Act} {A A':eL} {w w':World} {L:List Nat} {f:FO} {x:f.σ} (hk: ∀ g:Im,g.ok A w->g.ok A' w') (hL: ¬ f.i∈L) (hv:a'.tmps.getD f.d undef=f.v x) (hJ: ∀ g∈f.J x,g.ok A' w'): ∀ {F:List FO} {R:List Ch},fnd F=true->(∀ g∈F,g.i≠f.i->a'.tmps.getD g.d undef=a.tmps.getD g.d undef)->f∈F->Exd a A w F L R -> ∃ R',Exd a' A' w' F (f.i::L) R'/\R'.Perm (f.S x++R)
 | [],_,_,_,hf,_=>by cases hf
 | h::F,R,hn,hs,hf,he=>by
  have hn':=hn
  simp only [fnd,Bool.and_eq_true,Bool.not_eq_true'] at hn'
  have hnot: ∀ g∈F,g.i≠h.i:=λg hg e=>by
   have:=kH.2 ⟨g,hg,e⟩
   rw [hn'.1] at this
   cases this
  by_cases hhf:h.i=f.i
  ·obtain rfl:=BJ hn (List.mem_cons_self ..) hf hhf
   rcases he with ⟨h1,h2⟩ | ⟨h1,_⟩
   ·refine ⟨h.S x++R,.inr ⟨List.mem_cons_self ..,x,R,hv,hJ,rfl,?_⟩,List.Perm.refl _⟩
    refine h2.mono hk (λg hg=>hs g (List.mem_cons_of_mem _ hg) (hnot g hg)) λg hg=> ?_
    rw [List.mem_cons]
    exact ⟨λhh=>hh.resolve_left (hnot g hg),.inr⟩
   ·exact absurd h1 hL
  ·have hfF:f∈F:=(List.mem_cons.1 hf).resolve_left λe=>hhf (by rw [e])
   have hs': ∀ g∈F,g.i≠f.i->a'.tmps.getD g.d undef=a.tmps.getD g.d undef:=λg hg=>hs g (List.mem_cons_of_mem _ hg)
   rcases he with ⟨h1,h2⟩ | ⟨h1,y,R1,h2,h3,h4,h5⟩
   ·obtain ⟨R',h6,h7⟩:=Exd.exec hk hL hv hJ hn'.2 hs' hfF h2
    exact ⟨R',.inl ⟨λhh=>h1 ((List.mem_cons.1 hh).resolve_left hhf),h6⟩,h7⟩
   ·obtain ⟨R',h6,h7⟩:=Exd.exec hk hL hv hJ hn'.2 hs' hfF h5
    refine ⟨h.S y++R',.inr ⟨List.mem_cons_of_mem _ h1,y,R',(hs h (List.mem_cons_self ..) hhf).trans h2,λg hg=>hk g (h3 g hg),rfl,h6⟩,?_⟩
    rw [h4]
    refine (h7.append_left (h.S y)).trans ?_
    rw [<- List.append_assoc,<- List.append_assoc]
    exact List.perm_append_comm.append_right R1
theorem Exd.FV {a:Act} {A:eL} {w:World} {L:List Nat} {f:FO} (hL:f.i∈L): ∀ {F:List FO} {R:List Ch} {k:Nat},F[k]?=some f->Exd a A w F L R -> ∃ x R',a.tmps.getD f.d undef=f.v x/\(∀ g∈f.J x,g.ok A w)/\R.Perm (f.S x++R')/\Exd a A w (F.eraseIdx k) L R'
 | [],_,k,hk,_=>by simp at hk
 | h::F,R,0,hk,he=>by
  simp at hk
  subst hk
  rcases he with ⟨h1,_⟩ | ⟨_,x,R',h2,h3,h4,h5⟩
  ·exact absurd hL h1
  ·exact ⟨x,R',h2,h3,by rw [h4],by simpa using h5⟩
 | h::F,R,k+1,hk,he=>by
  have hk':F[k]?=some f:=by simpa using hk
  rcases he with ⟨h1,h2⟩ | ⟨h1,y,R1,h2,h3,h4,h5⟩
  ·obtain ⟨x,R',q1,q2,q3,q4⟩:=Exd.FV hL hk' h2
   exact ⟨x,R',q1,q2,q3,by rw [List.eraseIdx_cons_succ]; exact .inl ⟨h1,q4⟩⟩
  ·obtain ⟨x,R',q1,q2,q3,q4⟩:=Exd.FV hL hk' h5
   refine ⟨x,h.S y++R',q1,q2,?_,by rw [List.eraseIdx_cons_succ]; exact .inr ⟨h1,y,R',h2,h3,rfl,q4⟩⟩
   rw [h4]
   refine (q3.append_left (h.S y)).trans ?_
   rw [<- List.append_assoc,<- List.append_assoc]
   exact List.perm_append_comm.append_right R'
theorem Ec {C V R X R':List Ch} (h:R'.Perm (X++R)):(C++(V++R')).Perm (X++(C++(V++R))):=by
 have h1:(C++(V++R')).Perm (C++(V++(X++R))):=(h.append_left V).append_left C
 refine h1.trans ?_
 have h2:(C++(V++(X++R))).Perm ((X++(C++V))++R):=by
  have:C++(V++(X++R))=((C++V)++X)++R:=by simp
  rw [this]
  exact List.perm_append_comm.append_right R
 refine h2.trans ?_
 simp
section
variable {G : Pg} {n : Nd} {K : Key} {Q : Exit -> Act -> World -> Prop} {m : Env} {C V : List Ch} {I : List Im} {ops : List Oper} {late l : List Nat} {o : Oper} {F : List FO}
theorem Fr.GO {a:Act} {d:Nat} {v:Value} (h:Fr n m a) (hv:a.tmps.getD d undef=v):Fr n ((d,v)::m) a:=by
 refine ⟨h.size,h.defers,λi u hu=> ?_⟩
 simp only [look] at hu
 cases hb:Nat.beq d i with
 | true =>
  rw [hb] at hu
  rw [<- Nat.eq_of_beq_eq_true hb,hv]
  exact Option.some.inj hu
 | false =>
  rw [hb] at hu
  exact h.at_ i u hu
def FSp (G:Pg) (n:Nd) (Q:Exit->Act->World->Prop) (ops:List Oper) (C:List Ch) (m:Env) (I:List Im) (F:List FO) (f:FO):Prop :=
 ∀ K A a w V (Kc:Act->World->Prop),Fr n m a->SS K A (C++V) I w->(∀ g∈F,onb ops f.i g.i=true -> ∃ x,a.tmps.getD g.d undef=g.v x /\ ∀ q∈g.J x,q.ok A w)->(∀ x w' A',SS K A' (f.S x++(C++V)) I w'->(∀ g∈f.J x,g.ok A' w')->(∀ g:Im,g.ok A w->g.ok A' w')->Kc (a.put (some f.d) (f.v x)) w')->f.d < n.n/\f.i < ops.length/\wpOp G.P ops.toArray (NP Q) f.i Kc a w
theorem FSp.mono {f:FO} {m':Env} {I':List Im} {F':List FO} (h:FSp G n Q ops C m I F f) (hm: ∀ i v,look m i=some v->look m' i=some v) (hI: ∀ g∈I,g∈I') (hF: ∀ A a w,Fr n m' a->(∀ g∈I',g.ok A w)->(∀ g∈F',onb ops f.i g.i=true -> ∃ x,a.tmps.getD g.d undef=g.v x /\ ∀ q∈g.J x,q.ok A w) -> ∀ g∈F,onb ops f.i g.i=true -> ∃ x,a.tmps.getD g.d undef=g.v x /\ ∀ q∈g.J x,q.ok A w):FSp G n Q ops C m' I' F' f:=by
 intro K A a w V Kc hf hs hd hk
 refine h K A a w V Kc (hf.sub hm) (hs.perm (List.Perm.refl _) hI) (hF A a w hf hs.st.im hd) λx w' A' h1 h2 h3=>hk x w' A' ?_ h2 h3
 exact (h1.dD (J:=I') λg hg=>h3 g (hs.st.im g hg)).perm (List.Perm.refl _) λg hg=>List.mem_append_left _ hg
theorem zJ {A A':eL} {S R S':List Ch} {I I':List Im} {w w':World} (h:SS K A (S++R) I w) (h2:SS ⟨w,A,Own S⟩ A' S' I' w') (g:Im) (hg:g.ok A w):g.ok A' w':=by
 have h3:=(SS.dD h (J:=[g]) λf hf=>by rw [List.mem_singleton.1 hf]; exact hg).frame h2
 exact h3.st.im g (by simp)
theorem FSp.ac (i:Nat) {d:Nat} {J:List Im} {σ:Type} {v:σ->Value} {S':σ->List Ch} {I':σ->List Im} (js:List Nat) (hA:Ac G n m o [] J v S' I') (hi:ops[i]?=some o) (hw:wg ops m o=some true) (hd:o.dst=some d) (hn:Nat.blt d n.n=true) (hJ:pick I js=some J):FSp G n Q ops C m I F ⟨i,d,σ,v,S',I'⟩:=by
 intro K A a w V Kc hf hs _ hk
 refine ⟨fW hn,(List.getElem?_eq_some_iff.1 hi).1,?_⟩
 have hi':ops.toArray[i]?=some o:=by simpa using hi
 unfold wpOp
 simp only [hi']
 rw [if_pos (kx hw hf)]
 left
 have hs0:SS K A ([]++(C++V)) I w:=hs
 refine (hA A a w _ (NP Q) hf (St.left (S:=[]) hs0.st (eF hJ)) λx w' A' h2=> ?_).1
 have h3:=hs0.frame h2
 rw [hd]
 exact hk x w' A' (h3.perm (List.Perm.refl _) λg hg=>List.mem_append_right _ hg) (λg hg=>h3.st.im g (List.mem_append_left _ hg)) (zJ hs0 h2)
theorem FSp.y (i:Nat) {d:Nat} {v:Value} (hy:Yl G n m C I o v) (hi:ops[i]?=some o) (hw:wg ops m o=some true) (hd:o.dst=some d) (hn:Nat.blt d n.n=true):FSp G n Q ops C m I F ⟨i,d,Unit,λ_=>v,λ_=>[],λ_=>[]⟩:=by
 intro K A a w V Kc hf hs _ hk
 refine ⟨fW hn,(List.getElem?_eq_some_iff.1 hi).1,?_⟩
 have hi':ops.toArray[i]?=some o:=by simpa using hi
 unfold wpOp
 simp only [hi']
 rw [if_pos (kx hw hf)]
 left
 have hr:=hy A a w hf (λc hc=>hs.st.ch c (List.mem_append_left _ hc)) hs.st.im
 have h4:Kc (a.put (some d) v) w:=hk () w A hs (λg hg=>by cases hg) (λ_ h=>h)
 rw [<- hd] at h4
 unfold Oper.wp
 rw [hr]
 exact h4
theorem FSp.dep {f g:FO} (k:Nat) (hk:F[k]?=some g) (hon:onb ops f.i g.i=true) (h: ∀ x,FSp G n Q ops C ((g.d,g.v x)::m) (g.J x++I) F f):FSp G n Q ops C m I F f:=by
 intro K A a w V Kc hf hs hd hk'
 obtain ⟨x,h1,h2⟩:=hd g (List.mem_of_getElem? hk) hon
 refine h x K A a w V Kc (Fr.GO hf h1) (hs.dD h2) hd λy w' A' h3 h4 h5=>hk' y w' A' (h3.perm (List.Perm.refl _) λq hq=>List.mem_append_right _ hq) h4 h5
def DF (G:Pg) (n:Nd) (K:Key) (Q:Exit->Act->World->Prop) (ops:List Oper) (late:List Nat) (F:List FO) (l:List Nat) (C:List Ch) (m:Env) (V:List Ch) (I:List Im):Prop :=
 (∀ f∈F,FSp G n Q ops C m I F f) -> ∀ A a w fuel L,(∀ i∈l,i∈L)->(∀ i∈L,i∈l \/ ∃ f∈F,f.i=i)->unl ops.length L<=fuel->Fr n m a -> ∀ R,SS K A (C++(V++R)) I w ->
  Exd a A w F L R->wpG G.P ops.toArray (NP Q) late fuel (WS C I) (lst ops.length L) a w
def DFp (G:Pg) (n:Nd) (K:Key) (Q:Exit->Act->World->Prop) (ops:List Oper) (late:List Nat) (j:Nat) (F:List FO) (l:List Nat) (C:List Ch) (m:Env) (V:List Ch) (I:List Im):Prop :=
 (∀ f∈F,FSp G n Q ops C m I F f) -> ∀ A a w fuel L,(∀ i∈l,i∈L)->(∀ i∈L,i∈l \/ ∃ f∈F,f.i=i)->unl ops.length L<=fuel+1->mem j L=false->(∀ oj,ops[j]?=some oj -> ∀ e∈oj.after,kv e=true->e.on∈L)->Fr n m a -> ∀ R,SS K A (C++(V++R)) I w ->
  Exd a A w F L R ->
  wpOp G.P ops.toArray (NP Q) j (λa' w'=> ∃ S':World->Prop,(j∈late \/ ∀ w,S' w->WS C I w)/\S' w'/\wpG G.P ops.toArray (NP Q) late fuel S' ((lst ops.length L).setIfInBounds j true) a' w') a w
def DFe (G:Pg) (n:Nd) (K:Key) (Q:Exit->Act->World->Prop) (F:List FO) (C:List Ch) (m:Env) (V:List Ch) (I:List Im):Prop :=
 ∀ A a w L,(∀ f∈F,f.i∈L)->Fr n m a -> ∀ R,SS K A (C++(V++R)) I w->Exd a A w F L R->NP Q .normal a w
theorem DF.of (hl:Nat.ble (unl ops.length l+l.length) ops.length=true) (h:DF G n K Q ops late [] l C m V I):D G n K Q ops late l C m V I:=by
 intro A a w fuel hfu hf hs
 have:=Nat.le_of_ble_eq_true hl
 exact h (λf hf=>by cases hf) A a w fuel l (λi hi=>hi) (λi hi=> .inl hi) (by omega) hf [] (by rw [List.append_nil]; exact hs) rfl
theorem DF.add (f:FO) (hsp:FSp G n Q ops C m I F f) (hc:(!mem f.i l && !o4 f.i F)=true) (h:DF G n K Q ops late (f::F) l C m V I):DF G n K Q ops late F l C m V I:=by
 simp only [Bool.and_eq_true,Bool.not_eq_true'] at hc
 intro hF A a w fuel L h1 h2 hfu hf R hs hx
 have hnot: ¬ f.i∈L:=λhi=>by
  rcases h2 _ hi with h3 | ⟨g,hg,h3⟩
  ·exact nD.1 hc.1 h3
  ·have:=kH.2 ⟨g,hg,h3⟩
   rw [hc.2] at this
   cases this
 refine h (λg hg=> ?_) A a w fuel L h1 (λi hi=>(h2 i hi).imp id λ⟨g,hg,e⟩=>⟨g,List.mem_cons_of_mem _ hg,e⟩) hfu hf R hs (.inl ⟨hnot,hx⟩)
 ·have hup: ∀ A a w,Fr n m a->(∀ g∈I,g.ok A w)->(∀ q∈f::F,onb ops g.i q.i=true -> ∃ x,a.tmps.getD q.d undef=q.v x /\ ∀ p∈q.J x,p.ok A w) -> ∀ q∈F,onb ops g.i q.i=true -> ∃ x,a.tmps.getD q.d undef=q.v x /\ ∀ p∈q.J x,p.ok A w:=λA a w _ _ hh q hq=>hh q (List.mem_cons_of_mem _ hq)
  rcases List.mem_cons.1 hg with rfl | hg
  ·exact hsp.mono (λ_ _ h=>h) (λ_ h=>h) hup
  ·exact (hF g hg).mono (λ_ _ h=>h) (λ_ h=>h) hup
theorem w9 {a:Act} {d e:Nat} {v:Value} (h:d≠e):(a.put (some d) v).tmps.getD e undef=a.tmps.getD e undef:=by
 show (a.tmps.setIfInBounds d v).getD e undef=_
 simp only [Array.getD_eq_getD_getElem?,Array.getElem?_setIfInBounds,if_neg h]
theorem AH {a:Act} {d:Nat} {v:Value} (h:d < a.tmps.size):(a.put (some d) v).tmps.getD d undef=v:=by
 show (a.tmps.setIfInBounds d v).getD d undef=_
 simp [Array.getD,h]
theorem DF.core (hc:closed ops=true) (hfw:fwd ops 0 ops=true) (hfo:fok F m=true) {js:List Nat} (hcs:tD F l 0 ops=js) (h: ∀ j∈js,DFp G n K Q ops late j F l C m V I)
  (he: ∀ A a w (L:List Nat),(∀ i,i < ops.length->i∈L)->(∀ i∈L,i∈l \/ ∃ f∈F,f.i=i)->Fr n m a -> ∀ R,SS K A (C++(V++R)) I w->Exd a A w F L R->NP Q .normal a w):DF G n K Q ops late F l C m V I:=by
 intro hF A a w fuel
 induction fuel generalizing A a w with
 | zero =>
  intro L h1 h2 hfu hf R hs hx
  have hall: ∀ i,i < ops.length->i∈L:=λi hi=>by
   cases hb:mem i L with
   | true=>exact mem_iff.1 hb
   | false=>have:=Ea hi hb; omega
  refine ⟨List.eq_nil_iff_forall_not_mem.2 λi hi=> ?_,he A a w L hall h2 hf R hs hx⟩
  rw [ld hc,nC] at hi
  obtain ⟨j,o,e,h3,h4⟩:=hi
  have hj:i < ops.length:=by have:=(List.getElem?_eq_some_iff.1 h3).1; omega
  rw [mem_iff.2 (hall i hj)] at h4
  simp at h4
 | succ fuel ih =>
  intro L h1 h2 hfu hf R hs hx
  refine ⟨λhr=> ?_,λi hi=> ?_⟩
  ·have hall: ∀ i,i < ops.length->i∈L:=by
    intro i
    induction i using Nat.strongRecOn with
    | _ i ihi =>
     intro hi
     cases hb:mem i L with
     | true=>exact mem_iff.1 hb
     | false =>
      exfalso
      have hin:i∈Region.ready .any ops.toArray (lst ops.length L):=by
       rw [ld hc,nC]
       refine ⟨i,ops[i],by omega,List.getElem?_eq_getElem hi,?_⟩
       rw [hb]
       simp only [Bool.not_false,Bool.true_and,yA,List.all_eq_true,Bool.or_eq_true,Bool.not_eq_true']
       intro e hee
       cases hbe:kv e with
       | false=>exact .inl rfl
       | true =>
        right
        have hlt:=w7 hfw i ops[i] (List.getElem?_eq_getElem hi) e (by simpa using hee) hbe
        exact mem_iff.2 (ihi e.on (by omega) (by omega))
      rw [hr] at hin
      cases hin
   exact he A a w L hall h2 hf R hs hx
  ·rw [ld hc,nC] at hi
   obtain ⟨j,o,e0,h3,h4⟩:=hi
   obtain rfl:i=j:=by omega
   have hilt:i < ops.length:=(List.getElem?_eq_some_iff.1 h3).1
   simp only [Bool.and_eq_true,Bool.not_eq_true'] at h4
   cases hb:o4 i F with
   | true =>
    obtain ⟨f,hfF,rfl⟩:=kH.1 hb
    have hdeps: ∀ g∈F,onb ops f.i g.i=true -> ∃ x,a.tmps.getD g.d undef=g.v x /\ ∀ q∈g.J x,q.ok A w:=λg hgF hon=>by
     refine hx.get g hgF ?_
     unfold onb at hon
     rw [h3] at hon
     obtain ⟨e,hee,hbb⟩:=List.any_eq_true.1 hon
     simp only [Bool.and_eq_true] at hbb
     have h5:=List.all_eq_true.1 h4.2 e hee
     rw [hbb.1] at h5
     rw [<- Nat.eq_of_beq_eq_true hbb.2]
     exact mem_iff.1 (by simpa using h5)
    refine (hF f hfF K A a w (V++R) _ hf hs hdeps λx w' A' hs' hg hk=> ?_).2.2
    have hdn:f.d < n.n:=(hF f hfF K A a w (V++R) (λ_ _=>True) hf hs hdeps λ_ _ _ _ _ _=>trivial).1
    have hfo':=hfo
    simp only [fok,Bool.and_eq_true] at hfo'
    have hok:=List.all_eq_true.1 hfo'.2 f hfF
    simp only [Bool.and_eq_true,Option.isNone_iff_eq_none] at hok
    obtain ⟨R',hx',hp⟩:=hx.exec (a':=a.put (some f.d) (f.v x)) hk (nD.1 h4.1) (AH (by rw [hf.size]; exact hdn)) hg hfo'.1 (λg hgF hgi=>by
     have h5:=List.all_eq_true.1 hok.2 g hgF
     simp only [Bool.or_eq_true,Bool.not_eq_true'] at h5
     exact w9 (Nat.ne_of_beq_eq_false (h5.resolve_left λhh=>hgi (Nat.eq_of_beq_eq_true hh).symm))) hfF
    have hs2:=hs'.perm (Ec (C:=C) (V:=V) hp) (λ_ h=>h)
    refine ⟨WS C I,.inr λ_ h=>h,hs2.ws,?_⟩
    rw [mb]
    have hput:Fr n m (a.put (some f.d) (f.v x)):=by
     refine (hf.put (f.v x) hdn).sub λi u hu=> ?_
     simp only [look]
     cases hbb:Nat.beq f.d i with
     | true=>rw [<- Nat.eq_of_beq_eq_true hbb,hok.1] at hu; cases hu
     | false=>exact hu
    refine ih A' _ w' (f.i::L) (λi hi=>List.mem_cons_of_mem _ (h1 i hi)) (λi hi=> ?_) ?_ hput R' hs2 hx'
    ·rcases List.mem_cons.1 hi with rfl | hi
     ·exact .inr ⟨f,hfF,rfl⟩
     ·exact h2 i hi
    ·have:=ov hilt h4.1
     omega
   | false =>
    have hcand:i∈js:=by
     rw [<- hcs]
     refine uS ⟨i,o,by omega,h3,?_⟩
     have hml:mem i l=false:=nD.2 λhh=>nD.1 h4.1 (h1 i hh)
     rw [hml,hb]
     simp only [Bool.not_false,Bool.true_and,List.all_eq_true,Bool.or_eq_true,Bool.not_eq_true']
     intro e hee
     cases hbe:kv e with
     | false=>exact .inl (.inl rfl)
     | true =>
      have h5:=List.all_eq_true.1 h4.2 e hee
      rw [hbe] at h5
      have h6:=mem_iff.1 (by simpa using h5:mem e.on L=true)
      rcases h2 _ h6 with h7 | h7
      ·exact .inl (.inr (mem_iff.2 h7))
      ·exact .inr (kH.2 h7)
    refine h i hcand hF A a w fuel L h1 h2 hfu h4.1 (λoj hoj e hee hbe=> ?_) hf R hs hx
    rw [h3] at hoj
    cases hoj
    have h5:=List.all_eq_true.1 h4.2 e (by simpa using hee)
    rw [hbe] at h5
    exact mem_iff.1 (by simpa using h5)
theorem DF.step (j:Nat) (hc:closed ops=true) (hfw:fwd ops 0 ops=true) (hfo:fok F m=true) (hcs:tD F l 0 ops=[j]) (hj:(!mem j l && !o4 j F && Nat.blt j ops.length)=true) (h:DFp G n K Q ops late j F l C m V I):DF G n K Q ops late F l C m V I:=by
 simp only [Bool.and_eq_true,Bool.not_eq_true'] at hj
 refine DF.core hc hfw hfo hcs (λk hk=>by rw [List.mem_singleton.1 hk]; exact h) (λA a w L hall h2 hf R hs hx=> ?_)
 exfalso
 rcases h2 j (hall j (fW hj.2)) with h3 | h3
 ·exact nD.1 hj.1.1 h3
 ·have:=kH.2 h3
  rw [hj.1.2] at this
  cases this
theorem DF.fin (hc:closed ops=true) (hfw:fwd ops 0 ops=true) (hfo:fok F m=true) (hcs:tD F l 0 ops=[]) (hlt:(F.all λf=>Nat.blt f.i ops.length)=true) (h:DFe G n K Q F C m V I):DF G n K Q ops late F l C m V I :=
 DF.core hc hfw hfo hcs (λk hk=>by cases hk) λA a w L hall h1 hf R hs hx=>h A a w L (λf hfF=>hall _ (fW (List.all_eq_true.1 hlt f hfF))) hf R hs hx
theorem DFe.nil (h:E n K Q .normal m (C++V) I):DFe G n K Q [] C m V I:=λA a w L _ hf R hs hx=>by
 obtain rfl:R=[]:=hx
 rw [List.append_nil] at hs
 exact h A a w hf hs
theorem BK {C V R X R':List Ch} (h:R.Perm (X++R')):(C++((X++V)++R')).Perm (C++(V++R)):=by
 refine List.Perm.append_left C ?_
 refine List.Perm.trans ?_ (h.symm.append_left V)
 rw [<- List.append_assoc]
 exact List.perm_append_comm.append_right R'
theorem uT {d:Nat} {v:Value} (h:look m d=none): ∀ i u,look m i=some u->look ((d,v)::m) i=some u:=by
 intro i u hu
 simp only [look]
 cases hb:Nat.beq d i with
 | true=>rw [<- Nat.eq_of_beq_eq_true hb,h] at hu; cases hu
 | false=>exact hu
theorem DFp.use {j:Nat} (k:Nat) {f:FO} (hk:F[k]?=some f) (hon:onb ops j f.i=true) (hnew:(look m f.d).isNone=true) (h: ∀ x,DFp G n K Q ops late j (F.eraseIdx k) (f.i::l) C ((f.d,f.v x)::m) (f.S x++V) (f.J x++I)):DFp G n K Q ops late j F l C m V I:=by
 intro hF A a w fuel L h1 h2 hfu hjL hdep hf R hs hx
 have hfF:f∈F:=List.mem_of_getElem? hk
 have hfL:f.i∈L:=by
  unfold onb at hon
  split at hon
  ·rename_i oj hoj
   obtain ⟨e,he,hb⟩:=List.any_eq_true.1 hon
   simp only [Bool.and_eq_true] at hb
   have:=hdep oj hoj e (by simpa using he) hb.1
   rwa [Nat.eq_of_beq_eq_true hb.2] at this
  ·cases hon
 obtain ⟨x,R',hx1,hx2,hp,hx3⟩:=hx.FV hfL hk
 have hnew':look m f.d=none:=by simpa using hnew
 have hsub: ∀ g∈F.eraseIdx k,g∈F:=λg hg=>List.mem_of_mem_eraseIdx hg
 have hsplit: ∀ g∈F,g=f\/g∈F.eraseIdx k:=λg hg=>by
  obtain ⟨q,hq⟩:=List.getElem?_of_mem hg
  by_cases hqk:q=k
  ·left
   subst hqk
   rw [hk] at hq
   cases hq
   rfl
  ·exact .inr (List.mem_eraseIdx_iff_getElem?.2 ⟨q,hqk,hq⟩)
 have hF': ∀ g∈F.eraseIdx k,FSp G n Q ops C ((f.d,f.v x)::m) (f.J x++I) (F.eraseIdx k) g:=λg hg=>(hF g (hsub g hg)).mono (uT hnew') (λq hq=>List.mem_append_right _ hq) λA a w hf hI hh q hq hon=>by
  rcases hsplit q hq with rfl | hq'
  ·exact ⟨x,hf.at_ _ _ (by simp [look]),λp hp=>hI p (List.mem_append_left _ hp)⟩
  ·exact hh q hq' hon
 have h3:=h x hF' A a w fuel L (λi hi=> ?_) (λi hi=> ?_) hfu hjL hdep (hf.GO hx1) R' ((hs.perm (BK hp) λ_ h=>h).dD hx2) hx3
 ·refine wpOp_mono (λa' w' hh=> ?_) h3
  obtain ⟨S',hS,h4⟩:=hh
  exact ⟨S',hS.imp id λhw w0 hw0=>by obtain ⟨A0,q1,q2⟩:=hw w0 hw0; exact ⟨A0,q1,λq hq=>q2 q (List.mem_append_right _ hq)⟩,h4⟩
 ·rcases List.mem_cons.1 hi with rfl | hi
  ·exact hfL
  ·exact h1 i hi
 ·rcases h2 i hi with h4 | ⟨g,hg,h4⟩
  ·exact .inl (List.mem_cons_of_mem _ h4)
  ·rcases hsplit g hg with rfl | hg'
   ·left
    rw [<- h4]
    exact List.mem_cons_self ..
   ·exact .inr ⟨g,hg',h4⟩
def BL (F:List FO) (m:Env):Option Nat->Bool
 | some d=>(look m d).isNone && F.all λf=> !Nat.beq f.d d
 | none=>true
theorem AI {d:Option Nat} (h:BL F m d=true) (v:Value): ∀ i u,look m i=some u->look (ma d v m) i=some u:=by
 cases d with
 | none=>exact λ_ _ h=>h
 | some d =>
  simp only [BL,Bool.and_eq_true] at h
  exact uT (by simpa using h.1)
theorem BM {d:Option Nat} (h:BL F m d=true) {a:Act} {v:Value}: ∀ f∈F,(a.put d v).tmps.getD f.d undef=a.tmps.getD f.d undef:=by
 intro f hf
 cases d with
 | none=>rfl
 | some d =>
  simp only [BL,Bool.and_eq_true] at h
  have:=List.all_eq_true.1 h.2 f hf
  simp only [Bool.not_eq_true'] at this
  exact w9 λe=>Nat.ne_of_beq_eq_false this e.symm
theorem xb {j:Nat} (hjF:o4 j F=false) {L:List Nat}: ∀ f∈F,f.i∈j::L↔f.i∈L:=by
 intro f hf
 rw [List.mem_cons]
 refine ⟨λhh=>hh.resolve_left λe=> ?_,.inr⟩
 have:=kH.2 ⟨f,hf,e⟩
 rw [hjF] at this
 cases this
theorem oQ {α:Type} (X Y Z:List α):(X++(Y++Z)).Perm (Y++(X++Z)):=by
 rw [<- List.append_assoc,<- List.append_assoc]
 exact (List.perm_append_comm (l₁:=X) (l₂:=Y)).append_right Z
theorem DFp.a {j:Nat} (is js:List Nat) {d:Option Nat} {Sp R:List Ch} {J:List Im} {σ:Type} {v:σ->Value} {S':σ->List Ch} {I':σ->List Im} (hA:Ac G n m o Sp J v S' I') (hi:ops[j]?=some o) (hw:wg ops m o=some true) (hd:o.dst=d) (hn:dok d n.n=true) (hS:ext V is=some (Sp,R)) (hJ:pick I js=some J) (hjF:o4 j F=false) (hnew:BL F m d=true)
  (h: ∀ x,DF G n K Q ops late F (j::l) C (ma d (v x) m) (S' x++R) (I' x++I)):DFp G n K Q ops late j F l C m V I:=by
 intro hF A a w fuel L h1 h2 hfu hjL hdep hf R0 hs hx
 have hi':ops.toArray[j]?=some o:=by simpa using hi
 have hjlt:j < ops.length:=(List.getElem?_eq_some_iff.1 hi).1
 unfold wpOp
 simp only [hi']
 rw [if_pos (kx hw hf)]
 left
 have hp:(Sp++(C++(R++R0))).Perm (C++(V++R0)):=by
  have h1:(Sp++R).Perm V:=dC hS
  refine (oQ Sp C (R++R0)).trans (List.Perm.append_left C ?_)
  rw [<- List.append_assoc]
  exact h1.append_right R0
 have hs':=hs.perm hp (λi hi=>hi)
 refine (hA A a w _ (NP Q) hf (hs'.st.left (eF hJ)) λx w' A' h2'=> ?_).1
 have h3:=hs'.frame h2'
 have hp2:(C++((S' x++R)++R0)).Perm (S' x++(C++(R++R0))):=by
  rw [List.append_assoc]
  exact oQ C (S' x) (R++R0)
 have h4:=h3.perm hp2 (λi hi=>hi)
 refine ⟨WS C (I' x++I),.inr λw ⟨A,h1,h2⟩=>⟨A,h1,λf hf=>h2 f (List.mem_append_right _ hf)⟩,h4.ws,?_⟩
 rw [mb,hd]
 refine h x (λf hfF=>(hF f hfF).mono (AI hnew _) (λg hg=>List.mem_append_right _ hg) λ_ _ _ _ _ hh=>hh) A' _ w' fuel (j::L) (λi hi=> ?_) (λi hi=> ?_) ?_ (hf.sH hn _) R0 h4 (hx.mono (zJ hs' h2') (BM hnew) (xb hjF))
 ·rcases List.mem_cons.1 hi with rfl | hi
  ·exact List.mem_cons_self ..
  ·exact List.mem_cons_of_mem _ (h1 i hi)
 ·rcases List.mem_cons.1 hi with rfl | hi
  ·exact .inl (List.mem_cons_self ..)
  ·exact (h2 i hi).imp (List.mem_cons_of_mem _) id
 ·have:=ov hjlt hjL
  omega
theorem DFp.al {j:Nat} (is js:List Nat) {d:Option Nat} {Sp R:List Ch} {J:List Im} {σ:Type} {v:σ->Value} {S':σ->List Ch} {I':σ->List Im} (hA:Ac G n m o Sp J v S' I') (hl:mem j late=true) (hi:ops[j]?=some o) (hw:wg ops m o=some true) (hd:o.dst=d) (hn:dok d n.n=true) (hS:ext (C++V) is=some (Sp,R)) (hJ:pick I js=some J)
  (h: ∀ x,DF G n K Q ops late [] (j::l) [] (ma d (v x) m) (S' x++R) (I' x++I)):DFp G n K Q ops late j [] l C m V I:=by
 intro hF A a w fuel L h1 h2 hfu hjL hdep hf R0 hs hx
 obtain rfl:R0=[]:=hx
 rw [List.append_nil] at hs
 have hi':ops.toArray[j]?=some o:=by simpa using hi
 have hjlt:j < ops.length:=(List.getElem?_eq_some_iff.1 hi).1
 unfold wpOp
 simp only [hi']
 rw [if_pos (kx hw hf)]
 left
 have hs':=hs.perm (dC hS) (λi hi=>hi)
 refine (hA A a w _ (NP Q) hf (hs'.st.left (eF hJ)) λx w' A' h2'=> ?_).1
 have h3:=hs'.frame h2'
 refine ⟨WS [] (I' x++I),.inl (mem_iff.1 hl),SS.ws (C:=[]) h3,?_⟩
 rw [mb,hd]
 refine h x (λf hf=>by cases hf) A' _ w' fuel (j::L) (λi hi=> ?_) (λi hi=> ?_) ?_ (hf.sH hn _) [] (by rw [List.append_nil]; exact h3) rfl
 ·rcases List.mem_cons.1 hi with rfl | hi
  ·exact List.mem_cons_self ..
  ·exact List.mem_cons_of_mem _ (h1 i hi)
 ·rcases List.mem_cons.1 hi with rfl | hi
  ·exact .inl (List.mem_cons_self ..)
  ·exact (h2 i hi).imp (List.mem_cons_of_mem _) id
 ·have:=ov hjlt hjL
  omega
theorem DFp.pre {j:Nat} {V':List Ch} {I':List Im} (hI: ∀ g∈I,g∈I') (hq: ∀ A w R,SS K A (C++(V++R)) I w -> ∃ A',(∀ g:Im,g.ok A w->g.ok A' w)/\SS K A' (C++(V'++R)) I' w) (h:DFp G n K Q ops late j F l C m V' I'):DFp G n K Q ops late j F l C m V I:=by
 intro hF A a w fuel L h1 h2 hfu hj hd hf R hs hx
 obtain ⟨A',hA,hs'⟩:=hq A w R hs
 refine wpOp_mono (λa' w' hh=> ?_) (h (λf hfF=>(hF f hfF).mono (λ_ _ h=>h) hI λ_ _ _ _ _ hh=>hh) A' a w fuel L h1 h2 hfu hj hd hf R hs' (hx.mono hA (λ_ _=>rfl) λ_ _=>Iff.rfl))
 obtain ⟨S',hS,h4⟩:=hh
 exact ⟨S',hS.imp id λhw w0 hw0=>by obtain ⟨A0,q1,q2⟩:=hw w0 hw0; exact ⟨A0,q1,λq hq=>q2 q (hI q hq)⟩,h4⟩
theorem BN {α:Type} (ty:Ty α) (T0:Nat): ∀ A w R0,SS K A (C++(V++R0)) I w -> ∃ A',(∀ g:Im,g.ok A w->g.ok A' w)/\SS K A' (C++((Ch.arr ty T0 none 0 []::V)++R0)) I w :=
 λA w R0 hs=>⟨A,λ_ h=>h,(hs.fZ (ty:=ty) (T0:=T0)).perm List.perm_middle λ_ h=>h⟩
theorem DFp.fZ {j:Nat} {α:Type} (ty:Ty α) (T0:Nat) (h:DFp G n K Q ops late j F l C m (Ch.arr ty T0 none 0 []::V) I):DFp G n K Q ops late j F l C m V I:=DFp.pre (λ_ h=>h) (BN ty T0) h
theorem Ac.frz {Sp:List Ch} {J:List Im} {σ α:Type} {v:σ->Value} {S':σ->List Ch} {I':σ->List Im} {ty:Ty α} {T:Nat} {a0:σ->Option Addr} {c:σ->Nat} {xs:σ->List α} (hA:Ac G n m o Sp J v (λx=>Ch.arr ty T (a0 x) (c x) (xs x)::S' x) I'):Ac G n m o Sp J v S' (λx=>Im.sl ty (a0 x) (c x) (xs x)::I' x) :=
 λA a w Kc Q hf hs hk=>hA A a w Kc Q hf hs λx w' A' h2=>hk x w' _ (h2.frz qd)
end
def shk (y:Int):Bool:=decide (0<=y)
section
variable {G : Pg} {n : Nd} {m : Env} {S : List Ch} {I : List Im} {o : Oper}
theorem Yl.shl {t t2 nb:Nat} {x y:Operand} {k k':IntKind} {a b:Int} {u:Unit} (hb:k.bits=nb) (h:chk (shk b)=some u) (ho:o.op = .binOp .shl t x y t2) (hx:ev m x=some (.int k a)) (hy:ev m y=some (.int k' b)):Yl G n m S I o (.int k (k.wrap (a*2 ^ (min b.toNat nb)))):=λA ac w hf _ _=>by
 have h0:0<=b:=fm h
 have hg:(eqGuard .shl t x y (.int k a) (.int k' b)).run G.P w = .ok () w:=by unfold eqGuard; rfl
 have hr:(binOp .shl t (.int k a) (.int k' b)).run G.P w = .ok (.int k (k.wrap (a*2 ^ (min b.toNat nb)))) w:=by
  subst hb
  simp only [binOp,Op.shift]
  rw [if_neg (by omega)]
  rfl
 simp only [execOp,ho,hf.ev hx,hf.ev hy,Sem.run_bind,hg,Result.andThen_ok,hr,Sem.run_pure]
end
def sel (i:Int) (j:Nat) (v e:Int):Int:=if i.toNat=j then v else e
def BO (i:Int) (v:Int):Nat->List Value->List Value
 | j,.int k e::r=> .int k (sel i j v e)::BO i v (j+1) r
 | _,_=>[]
def ints (k:IntKind) (xs:List Int):List Value:=xs.map (Value.int k)
theorem uU (i v:Int) (k:IntKind): ∀ (xs:List Int) (j:Nat),BO i v j (ints k xs)=(ints k xs).mapIdx λq c=>if i.toNat=j+q then .int k v else c
 | [],j=>rfl
 | x::xs,j=>by
  have ih:=uU i v k xs (j+1)
  show Value.int k (sel i j v x)::BO i v (j+1) (ints k xs)=_
  rw [ih]
  show _=(Value.int k x::ints k xs).mapIdx _
  rw [List.mapIdx_cons]
  congr 1
  ·unfold sel
   rw [Nat.add_zero]
   split <;> rfl
  ·congr 1
   funext q c
   have:j+1+q=j+(q+1):=by omega
   rw [this]
theorem BP (i v:Int) (k:IntKind) (xs:List Int):BO i v 0 (ints k xs)=(ints k xs).set i.toNat (.int k v):=by
 rw [uU]
 apply List.ext_getElem?
 intro q
 rw [List.getElem?_mapIdx,List.getElem?_set]
 by_cases h:i.toNat=q
 ·subst h
  cases hg:(ints k xs)[i.toNat]? with
  | none =>
   have:=List.getElem?_eq_none_iff.1 hg
   simp
   omega
  | some c =>
   have:=(List.getElem?_eq_some_iff.1 hg).1
   simp [this]
 ·rw [if_neg h]
  cases hg:(ints k xs)[q]? with
  | none=>rfl
  | some c=>simp [h]
section
variable {G : Pg} {n : Nd} {m : Env} {S : List Ch} {I : List Im} {o : Oper}
theorem Yl.xa {t e N:Nat} {x ix:Operand} {k k2:IntKind} {i r:Int} {cs:Array Value} {ti te:TI} {xs:List Int} (hi:idx xs i=some r) (ho:o.op = .index t x ix) (hx:ev m x=some (.agg cs)) (hcs:cs.toList=ints k xs) (hix:ev m ix=some (.int k2 i)) (ht:bL G.τ t=some ti) (hk:ti.k = .array N e) (hN:xs.length=N) (he:bL G.τ e=some te) (hsz:(Nat.beq te.size 1 && !te.agg)=true):Yl G n m S I o (.int k r):=λA ac w hf _ _=>by
 obtain ⟨d,f,z,hd,hfi,hkk,_⟩:=G.ok.info ht
 rw [hk] at hkk
 cases hkk
 simp only [Bool.and_eq_true,Bool.not_eq_true'] at hsz
 have hs1:=Nat.eq_of_beq_eq_true hsz.1
 obtain ⟨h0,h1⟩:=aI hi
 have h2:=(List.getElem?_eq_some_iff.1 h1).1
 have hp:(part e cs (i.toNat*te.size)).run G.P w = .ok (.int k r) w:=by
  refine p9 G.ok ?_ w
  unfold AB
  rw [he]
  dsimp only
  rw [hsz.2,hs1,Nat.mul_one,hcs]
  show (xs.map (Value.int k))[i.toNat]?=_
  rw [List.getElem?_map,h1]
  rfl
 have hr:(Instr.index t (.agg cs) (.int k2 i)).run G.P w = .ok (.int k r) w:=by
  simp only [Instr.index,asIntOf,Sem.run_bind,Sem.run_pure,Result.andThen_ok,run_underlying hd]
  rw [if_pos ⟨h0,by omega⟩]
  simp only [Sem.run_bind,run_sizeOf G.ok he,Result.andThen_ok,hp]
 simp only [execOp,ho,hf.ev hx,hf.ev hix,Sem.run_bind,hr,Result.andThen_ok,Sem.run_pure]
def BQ (i:Int) (N:Nat):Bool:=decide (0<=i/\i < N)
theorem Yl.xp {t e N g off:Nat} {x ix:Operand} {k2:IntKind} {i:Int} {ti te:TI} {u:Unit} (hb:chk (BQ i N)=some u) (ho:o.op = .indexAddr t x ix) (hx:ev m x=some (.pointer (some ⟨g,off,none⟩))) (hix:ev m ix=some (.int k2 i)) (ht:bL G.τ t=some ti) (hk:ti.k = .array N e) (he:bL G.τ e=some te) (hsz:Nat.beq te.size 1=true):Yl G n m S I o (.pointer (some ⟨g,off+i.toNat,none⟩)):=λA ac w hf _ _=>by
 obtain ⟨d,f,z,hd,hfi,hkk,_⟩:=G.ok.info ht
 rw [hk] at hkk
 cases hkk
 have hs1:=Nat.eq_of_beq_eq_true hsz
 have h0:0<=i/\i < N:=fm hb
 have hr:(Instr.indexAt t (.pointer (some ⟨g,off,none⟩)) (.int k2 i)).run G.P w = .ok (.pointer (some ⟨g,off+i.toNat,none⟩)) w:=by
  simp only [Instr.indexAt,asIntOf,Instr.sureAddr,Sem.run_bind,Sem.run_pure,Result.andThen_ok,run_underlying hd]
  rw [if_pos h0]
  simp only [Sem.run_bind,run_sizeOf G.ok he,Result.andThen_ok,Sem.run_pure,add_lit,hs1,Nat.mul_one]
 simp only [execOp,ho,hf.ev hx,hf.ev hix,Sem.run_bind,hr,Result.andThen_ok,Sem.run_pure]
theorem Yl.xl (j:Nat) {t g off T:Nat} {x:Operand} {k:IntKind} {i r:Int} {cs:List Value} {ti:TI} {xs:List Int} (hi:idx xs i=some r) (ho:o.op = .load t x) (hx:ev m x=some (.pointer (some ⟨g,off+i.toNat,none⟩))) (hS:S[j]?=some (Ch.box g T cs)) (hcs:(cs.drop off).take xs.length=ints k xs) (ht:bL G.τ t=some ti) (ha:ti.agg=false):Yl G n m S I o (.int k r):=λA ac w hf hs _=>by
 have hb:w.heap[g]?=some (.cells cs.toArray T (0,0)):=hs _ (List.mem_of_getElem? hS)
 obtain ⟨h0,h1⟩:=aI hi
 have h2:=(List.getElem?_eq_some_iff.1 h1).1
 have h3:(cs.drop (off+i.toNat))[0]?=some (.int k r):=by
  have h4:((cs.drop off).take xs.length)[i.toNat]?=some (.int k r):=by
   rw [hcs]
   show (xs.map (Value.int k))[i.toNat]?=_
   rw [List.getElem?_map,h1]
   rfl
  rw [List.getElem?_take_of_lt h2,List.getElem?_drop] at h4
  rw [List.getElem?_drop]
  exact h4
 have hv:od G.τ t (cs.drop (off+i.toNat)) 0=some (.int k r):=by
  unfold od
  rw [ht]
  dsimp only
  rw [ha]
  exact h3
 simp only [execOp,ho,hf.ev hx,Instr.loadAt,Instr.sureAddr,Sem.run_bind,Sem.run_pure,Result.andThen_ok]
 rw [ky G.ok hv (λj u hu=>by rw [tj hb]; simpa using hu)]
 rfl
theorem Ac.sx {t g off N T:Nat} {x y:Operand} {k:IntKind} {i v:Int} {cs cs':List Value} {ti:TI} {u:Unit} (hbd:chk (BQ i N)=some u) (xs:List Int) (hN:xs.length=N) (ho:o.op = .store t x y) (hx:ev m x=some (.pointer (some ⟨g,off+i.toNat,none⟩))) (hy:ev m y=some (.int k v)) (hcs:(cs.drop off).take N=ints k xs) (ht:bL G.τ t=some ti) (hsz:Nat.beq ti.size 1=true) (hr0:cs.take off++BO i v 0 ((cs.drop off).take N)++cs.drop (off+N)=cs') :
  Ac G n m o [Ch.box g T cs] [] (λ_:Unit=>undef) (λ_=>[Ch.box g T cs']) (λ_=>[]):=by
 have hs1:=Nat.eq_of_beq_eq_true hsz
 have h0:0<=i/\i < N:=fm hbd
 have hlen:N<=(cs.drop off).length:=by
  have h4:((cs.drop off).take N).length=N:=by
   rw [hcs]
   show (xs.map (Value.int k)).length=N
   rw [List.length_map,hN]
  rw [List.length_take] at h4
  omega
 have hlen2:off+N<=cs.length:=by rw [List.length_drop] at hlen; omega
 have hset:cs'=cs.take (off+i.toNat)++[.int k v]++cs.drop (off+i.toNat+1):=by
  rw [<- hr0,hcs,BP,<- hcs]
  have h5:cs=cs.take off++((cs.drop off).take N)++cs.drop (off+N):=by
   rw [List.append_assoc,<- List.drop_drop,List.take_append_drop,List.take_append_drop]
  have h6:cs.take off++((cs.drop off).take N).set i.toNat (.int k v)++cs.drop (off+N)=cs.set (off+i.toNat) (.int k v):=by
   conv=>rhs; rw [h5]
   have e1:(cs.take off).length=off:=by rw [List.length_take]; omega
   have e2:((cs.drop off).take N).length=N:=by rw [List.length_take]; omega
   rw [List.set_append_left _ _ (by rw [List.length_append,e1,e2]; omega),List.set_append_right _ _ (by rw [e1]; omega),e1]
   congr 3
   omega
  rw [h6,List.set_eq_take_append_cons_drop,if_pos (by omega)]
  simp
 subst hset
 refine Ac.run (v:=λ_=>none) λA a w hf hs=> ?_
 have hb:w.heap[g]?=some (.cells cs.toArray T (0,0)):=hs.ch _ (List.mem_singleton.2 rfl)
 have hr:=nW G.ok (P:=G.P) (o:=off+i.toNat) (v:= .int k v) ht (by rw [hs1]; rfl) rfl hb (by show off+i.toNat+1<=cs.length; omega)
 have hk:w.grownBy (w.setRow g (cs.take (off+i.toNat)++[Value.int k v]++cs.drop (off+i.toNat+1)).toArray) (some g):=⟨rfl,rfl,rfl,by rw [setRow_size]; exact Nat.le_refl _,λk _ hk=>setRow_other _ _ _ _ (λe=>hk (by rw [e]))⟩
 refine ⟨(),w.setRow g (cs.take (off+i.toNat)++[Value.int k v]++cs.drop (off+i.toNat+1)).toArray,A,?_,SS.grown hs hk (λb e=>(Option.some.inj e).symm) (λb hb2=>⟨.inl hb2,?_⟩) (setRow_heap w g _ _ T (0,0) hb)⟩
 ·have hvc:vc (.int k v)=[.int k v]:=rfl
  rw [hvc] at hr
  simp only [execOp,ho,hf.ev hx,hf.ev hy,Instr.storeAt,Instr.sureAddr,Sem.run_bind,Sem.run_pure,Result.andThen_ok,hr,nx]
  rfl
 ·rw [setRow_size]
  obtain rfl:b=g:=hb2
  exact (Array.getElem?_eq_some_iff.1 hb).1
theorem Yl.xg {t e g N:Nat} {x ix:Operand} {k:IntKind} {i:Int} {α:Type} {x0:α} {xs:List α} {ti te:TI} (hi:idx xs i=some x0) (hN:xs.length=N) (ho:o.op = .indexAddr t x ix) (hx:ev m x=some (.pointer (some ⟨g,0,none⟩))) (hix:ev m ix=some (.int k i)) (ht:bL G.τ t=some ti) (hk:ti.k = .array N e) (he:bL G.τ e=some te):Yl G n m S I o (.pointer (some ⟨g,0+i.toNat*te.size,none⟩)):=λA ac w hf _ _=>by
 obtain ⟨h0,h1⟩:=aI hi
 have h2:=(List.getElem?_eq_some_iff.1 h1).1
 obtain ⟨d,f,z,hd,hfi,hkk,_⟩:=G.ok.info ht
 rw [hk] at hkk
 cases hkk
 have hr:(Instr.indexAt t (.pointer (some ⟨g,0,none⟩)) (.int k i)).run G.P w = .ok (.pointer (some ⟨g,0+i.toNat*te.size,none⟩)) w:=by
  simp only [Instr.indexAt,asIntOf,Instr.sureAddr,Sem.run_bind,Sem.run_pure,Result.andThen_ok,run_underlying hd]
  rw [if_pos ⟨h0,by omega⟩]
  simp only [Sem.run_bind,run_sizeOf G.ok he,Result.andThen_ok,Sem.run_pure,add_lit]
 simp only [execOp,ho,hf.ev hx,hf.ev hix,Sem.run_bind,hr,Result.andThen_ok,Sem.run_pure]
theorem Yl.com {t:Nat} {x:Operand} {k:IntKind} {a c:Int} (hc:(if k.signed then -1 else k.max)=c) (ho:o.op = .unOp .xor t x) (hx:ev m x=some (.int k a)):Yl G n m S I o (.int k (Go.bits .xor k c a)):=λA ac w hf _ _=>by
 subst hc
 simp only [execOp,ho,hf.ev hx,Op.unary,intBits_xor,Sem.run_bind,Sem.run_pure,Result.andThen_ok]
end
def mkv:Bool->List Value->Value
 | true,cs=> .agg cs.toArray
 | false,v::_=>v
 | false,[]=>undef
abbrev Mp (α:Type):=Option (List (Int×α))
section
variable {α : Type}
def mgl (k:Int):List (Int×α)->Option α
 | []=>none
 | (j,x)::l=>if k=j then some x else mgl k l
def msl (k:Int) (x:α):List (Int×α)->List (Int×α)
 | []=>[(k,x)]
 | (j,y)::l=>if k=j then (j,x)::l else (j,y)::msl k x l
def mdl (k:Int):List (Int×α)->List (Int×α)
 | []=>[]
 | (j,y)::l=>if k=j then l else (j,y)::mdl k l
def mgd (m:Mp α) (k:Int) (z:α):α:=(mgl k (m.getD [])).getD z
def gL (m:Mp α) (k:Int):Bool:=(mgl k (m.getD [])).isSome
def yD (m:Mp α):Nat:=(m.getD []).length
def AJ (m:Mp α) (k:Int) (x:α):Mp α:=m.map (msl k x)
def AK (m:Mp α) (k:Int):Mp α:=m.map (mdl k)
def Ed (m:Mp α):Mp α:=m.map λ_=>[]
end
inductive Ens {α:Type} (d:Ty α) (ag:Bool) (A:eL) (w:World):List (Int×α)->List MapEntry->Prop where
 | nil:Ens d ag A w [] []
 | cons {k:Int} {x:α} {l:List (Int×α)} {e:MapEntry} {es:List MapEntry} (h:d.Hid) (hk:e.key = .int .i64 k) (hv:e.val=mkv ag (d.cs x h)) (hi: ∀ f∈d.im x h,f.ok A w) (hr:Ens d ag A w l es):Ens d ag A w ((k,x)::l) (e::es)
section
variable {α : Type} {d : Ty α} {ag : Bool} {A A' : eL} {w w' : World} {l : List (Int × α)} {es : List MapEntry}
theorem Ens.st (hA: ∀ b,A b->A' b) (hw: ∀ b,A b->w'.heap[b]?=w.heap[b]?) (h:Ens d ag A w l es):Ens d ag A' w' l es:=by
 induction h with
 | nil=>exact .nil
 | cons h hk hv hi hr ih=>exact .cons h hk hv (λf hf=>f.st hA hw (hi f hf)) ih
theorem Ens.len (h:Ens d ag A w l es):es.length=l.length:=by
 induction h with
 | nil=>rfl
 | cons h hk hv hi hr ih=>simp [ih]
theorem iO {k j:Int} {e:MapEntry} {es:List MapEntry} {i:Nat} (hk:e.key = .int .i64 j):Instr.findNow (.int .i64) (.int .i64 k) (e::es) i=if k=j then some (some (i,e.val)) else Instr.findNow (.int .i64) (.int .i64 k) es (i+1):=by
 simp only [Instr.findNow,Instr.sameNow,hk,if_true]
 by_cases h:k=j
 ·subst h
  simp
 ·rw [if_neg h]
  have:(k == j)=false:=by simpa using h
  rw [this]
theorem Ens.find (h:Ens d ag A w l es) (k:Int): ∀ i,(Instr.findNow (.int .i64) (.int .i64 k) es i=some none/\mgl k l=none) \/ ∃ j e x,Instr.findNow (.int .i64) (.int .i64 k) es i=some (some (i+j,e.val))/\es[j]?=some e/\e.key = .int .i64 k/\mgl k l=some x /\ ∃ hd,e.val=mkv ag (d.cs x hd) /\ ∀ f∈d.im x hd,f.ok A w:=by
 induction h with
 | nil=>intro i; exact .inl ⟨rfl,rfl⟩
 | @cons j x l e es h hk hv hi hr ih =>
  intro i
  by_cases hkj:k=j
  ·subst hkj
   refine .inr ⟨0,e,x,?_,rfl,hk,by simp [mgl],h,hv,hi⟩
   rw [iO hk,if_pos rfl]
   rfl
  ·rcases ih (i+1) with ⟨h1,h2⟩ | ⟨j',e',x',h1,h2,h3,h4,h5⟩
   ·refine .inl ⟨?_,by simp [mgl,hkj,h2]⟩
    rw [iO hk,if_neg hkj]
    exact h1
   ·refine .inr ⟨j'+1,e',x',?_,by simpa using h2,h3,by simp [mgl,hkj,h4],h5⟩
    rw [iO hk,if_neg hkj,h1]
    congr 3
    omega
theorem Ens.push (h:Ens d ag A w l es) {k:Int} {x:α} {e:MapEntry} (hd:d.Hid) (hk:e.key = .int .i64 k) (hv:e.val=mkv ag (d.cs x hd)) (hi: ∀ f∈d.im x hd,f.ok A w) (hn:mgl k l=none):Ens d ag A w (msl k x l) (es++[e]):=by
 induction h with
 | nil=>exact .cons hd hk hv hi .nil
 | @cons j y l e' es h hk' hv' hi' hr ih =>
  have hkj:k≠j:=λe=>by simp [mgl,e] at hn
  have hn':mgl k l=none:=by simpa [mgl,hkj] using hn
  simp only [msl,if_neg hkj,List.cons_append]
  exact .cons h hk' hv' hi' (ih hn')
theorem Ens.at_ (h:Ens d ag A w l es) {k:Int}: ∀ i j e x,Instr.findNow (.int .i64) (.int .i64 k) es i=some (some (i+j,e)) -> ∀ (e2:MapEntry->MapEntry) (hd:d.Hid),(∀ e0,(e2 e0).val=mkv ag (d.cs x hd))->(∀ e0,e0.key = .int .i64 k->(e2 e0).key = .int .i64 k)->(∀ f∈d.im x hd,f.ok A w)->Ens d ag A w (msl k x l) (es.modify j e2):=by
 induction h with
 | nil=>intro i j e x h1; simp [Instr.findNow] at h1
 | @cons k' y l e' es h hk' hv' hi' hr ih =>
  intro i j e x h1 e2 hd hv2 hk2 hi2
  by_cases hkj:k=k'
  ·subst hkj
   rw [iO hk',if_pos rfl] at h1
   injection h1 with h1
   injection h1 with h1
   injection h1 with h1 _
   obtain rfl:j=0:=by omega
   simp only [msl,if_pos,List.modify_cons,if_true]
   exact .cons hd (hk2 _ hk') (hv2 _) hi2 hr
  ·rw [iO hk',if_neg hkj] at h1
   cases j with
   | zero =>
    exfalso
    have key: ∀ (es:List MapEntry) (i n:Nat) (v:Value),Instr.findNow (.int .i64) (.int .i64 k) es i=some (some (n,v))->i<=n:=by
     intro es
     induction es with
     | nil=>intro i n v h; simp [Instr.findNow] at h
     | cons e es ih =>
      intro i n v h
      simp only [Instr.findNow] at h
      split at h
      ·simp at h; omega
      ·have:=ih _ _ _ h; omega
      ·cases h
    have:=key _ _ _ _ h1
    omega
   | succ j =>
    have e3:i+(j+1)=i+1+j:=by omega
    rw [e3] at h1
    simp only [msl,if_neg hkj,List.modify_succ_cons]
    exact .cons h hk' hv' hi' (ih (i+1) j e x h1 e2 hd hv2 hk2 hi2)
end
def Ch.mp {α:Type} (d:Ty α) (ag:Bool) (v:Option Nat) (m:Mp α):Ch where
 blk:=λb=>v=some b
 ok:=λA w=>(v=none/\m=none) \/ ∃ g l es clock,v=some g/\m=some l/\w.heap[g]?=some (.map es clock)/\Ens d ag A w l es.toList/\MapKept.Stamped es clock
 st:=by
  rintro A A' w w' hA hw hb (h | ⟨g,l,es,clock,rfl,rfl,h1,h2,h3⟩)
  ·exact .inl h
  ·exact .inr ⟨g,l,es,clock,rfl,rfl,(hb g rfl).trans h1,h2.st hA hw,h3⟩
def yE (P:Program) (T:Nat) (ag:Bool):Bool:=match P.info? T with
 | some i=>match i.zero with
  | some (.agg _)=>ag
  | some _=> !ag
  | none=>false
 | none=>false
theorem BR {P:Program} {T:Nat} {ag:Bool} (h:yE P T ag=true) {i:TypeInfo} {z:Value} (hi:P.info? T=some i) (hz:i.zero=some z):z=mkv ag z.cells.toList:=by
 unfold yE at h
 rw [hi] at h
 dsimp only at h
 rw [hz] at h
 cases z <;> simp at h <;> subst h <;> rfl
section
variable {G : Pg} {n : Nd} {m : Env} {o : Oper} {S : List Ch} {I : List Im} {α : Type} {ty : Ty α} {ag : Bool} {v : Option Nat} {mp : Mp α}
theorem run_checkKey {P:Program} {t:Nat} {k:Int} {b:Bool} (h:P.underlying t=some (.int .i64)) (w:World):(Instr.checkKey b 10000 t (.int .i64 k)).run P w = .ok () w:=by
 exact MapKept.run_checkKey (d:= .int .i64) h (by simp [MapKept.IsKey]) b 9999
theorem run_findKey {P:Program} {t:Nat} {k:Int} {es:List MapEntry} {r:Option (Nat×Value)} (h:P.underlying t=some (.int .i64)) (hr:Instr.findNow (.int .i64) (.int .i64 k) es 0=some r) (w:World):(Instr.findKey t (.int .i64 k) es).run P w = .ok r w:=by
 simp [Instr.findKey,run_underlying h,Result.andThen,hr]
theorem Ac.mkm {t kt e:Nat} {ti:TI} (ho:o.op = .makeMap t none) (ht:bL G.τ t=some ti) (hk:ti.k = .map kt e) :
  Ac G n m o [] [] (λg:Nat=> .map (some g)) (λg=>[Ch.mp ty ag (some g) (some [])]) (λ_=>[]):=by
 refine Ac.run (v:=λg:Nat=>some (.map (some g))) λA a w hf hs=> ?_
 refine ⟨w.heap.size,w.alloc (.map #[] 0),A,?_,?_⟩
 ·simp only [execOp,ho,Instr.makeMap,Option.map_none,Sem.run_bind,Sem.run_pure,Result.andThen_ok,nx]
  rfl
 ·refine SS.fresh (w':=w.alloc (.map #[] 0)) (o:= .map #[] 0) hs.lt rfl rfl rfl rfl (Ch.mp ty ag (some w.heap.size) (some [])) (λb hb=>(Option.some.inj hb).symm) ?_
  exact .inr ⟨w.heap.size,[],#[],0,rfl,rfl,heap_alloc_new w _,.nil,MapKept.stamped_empty 0⟩
theorem Ac.ml {vv:ty.Hid->Value} (k:Int) (x0:α) (h0:ty.Hid) {t kt e:Nat} {x ix:Operand} {ti tk te:TI} (ho:o.op = .lookup t x ix true) (hx:ev m x=some (.map v)) (hix:ev m ix=some (.int .i64 k)) (ht:bL G.τ t=some ti) (hk:ti.k = .map kt e) (htk:bL G.τ kt=some tk) (hkk:tk.k = .int .i64) (he:bL G.τ e=some te) (hz0:te.zero=ty.cs x0 h0) (hfree: ∀ A w,∀ f∈ty.im x0 h0,f.ok A w) (hz:yE G.P e ag=true) (hvv: ∀ hd,mkv ag (ty.cs (mgd mp k x0) hd)=vv hd) :
  Ac G n m o [Ch.mp ty ag v mp] [] (λhd=> .tuple #[vv hd,.bool (gL mp k)]) (λ_=>[Ch.mp ty ag v mp]) (λhd=>ty.im (mgd mp k x0) hd):=by
 obtain rfl:vv=λhd=>mkv ag (ty.cs (mgd mp k x0) hd):=funext λhd=>(hvv hd).symm
 refine Ac.run (v:=λhd=>some (.tuple #[mkv ag (ty.cs (mgd mp k x0) hd),.bool (gL mp k)])) λA a w hf hs=> ?_
 have hok:=hs.ch _ (List.mem_singleton.2 rfl)
 obtain ⟨dd,f,z0,hdd,hfi,hkt,_⟩:=G.ok.info ht
 rw [hk] at hkt
 cases hkt
 obtain ⟨dk,fk,zk,hdk,_,hkk2,_⟩:=G.ok.info htk
 rw [hkk] at hkk2
 cases hkk2
 obtain ⟨de,fe,ze,hde,hfe,_,hfs,hfb,hfz,hzc,_⟩:=G.ok.info he
 have hzv:ze=mkv ag (ty.cs x0 h0):=by rw [<- hz0,<- hzc]; exact BR hz hfe hfz
 have hzr:(zeroValue e).run G.P w = .ok (mkv ag (ty.cs x0 h0)) w:=by
  rw [<- hzv]
  simp [zeroValue,typeInfo,hfe,hfz,Result.andThen]
 have same:SS ⟨w,A,Own [Ch.mp ty ag v mp]⟩ A [Ch.mp ty ag v mp] [] w:=SS.grown hs (ob:=none) ⟨rfl,rfl,rfl,Nat.le_refl _,λ_ _ _=>rfl⟩ (λ_ e=>nomatch e) (λb hb=>⟨.inl hb,(hs.own _ (List.mem_singleton.2 rfl) b hb).1⟩) hok
 rcases hok with ⟨rfl,rfl⟩ | ⟨g,l,es,clock,rfl,rfl,h1,h2,h3⟩
 ·have e9:mgd (none:Mp α) k x0=x0:=rfl
  have h9:SS ⟨w,A,Own [Ch.mp ty ag none none]⟩ A [Ch.mp ty ag none none] (ty.im (mgd (none:Mp α) k x0) h0) w:=by
   rw [e9]
   simpa using same.dD (J:=ty.im x0 h0) (hfree _ _)
  refine ⟨h0,w,A,?_,h9⟩
  simp [execOp,ho,hf.ev hx,hf.ev hix,Instr.lookup,run_underlying hdd,run_checkKey hdk,run_findKey hdk (es:=[]) (r:=none) rfl,hzr,Result.andThen,nx,mgd,gL,mgl]
 ·rcases h2.find k 0 with ⟨h4,h5⟩ | ⟨j,e1,x1,h4,h5,h6,h7,hd,h8,h9⟩
  ·refine ⟨h0,w,A,?_,?_⟩
   ·simp [execOp,ho,hf.ev hx,hf.ev hix,Instr.lookup,run_underlying hdd,MapKept.run_getObj_map h1,run_checkKey hdk,run_findKey hdk h4,hzr,Result.andThen,nx,mgd,gL,h5]
   ·have e9:mgd (some l) k x0=x0:=by simp [mgd,h5]
    rw [e9]
    simpa using same.dD (J:=ty.im x0 h0) (hfree _ _)
  ·refine ⟨hd,w,A,?_,?_⟩
   ·simp [execOp,ho,hf.ev hx,hf.ev hix,Instr.lookup,run_underlying hdd,MapKept.run_getObj_map h1,run_checkKey hdk,run_findKey hdk h4,Result.andThen,nx,mgd,gL,h7,h8]
   ·have e9:mgd (some l) k x0=x1:=by simp [mgd,h7]
    rw [e9]
    simpa using same.dD (J:=ty.im x1 hd) h9
theorem Ac.ml1 {vv:ty.Hid->Value} (k:Int) (x0:α) (h0:ty.Hid) {t kt e:Nat} {x ix:Operand} {ti tk te:TI} (ho:o.op = .lookup t x ix false) (hx:ev m x=some (.map v)) (hix:ev m ix=some (.int .i64 k)) (ht:bL G.τ t=some ti) (hk:ti.k = .map kt e) (htk:bL G.τ kt=some tk) (hkk:tk.k = .int .i64) (he:bL G.τ e=some te) (hz0:te.zero=ty.cs x0 h0) (hfree: ∀ A w,∀ f∈ty.im x0 h0,f.ok A w) (hz:yE G.P e ag=true) (hvv: ∀ hd,mkv ag (ty.cs (mgd mp k x0) hd)=vv hd) :
  Ac G n m o [Ch.mp ty ag v mp] [] vv (λ_=>[Ch.mp ty ag v mp]) (λhd=>ty.im (mgd mp k x0) hd):=by
 obtain rfl:vv=λhd=>mkv ag (ty.cs (mgd mp k x0) hd):=funext λhd=>(hvv hd).symm
 refine Ac.run (v:=λhd=>some (mkv ag (ty.cs (mgd mp k x0) hd))) λA a w hf hs=> ?_
 have hok:=hs.ch _ (List.mem_singleton.2 rfl)
 obtain ⟨dd,f,z0,hdd,hfi,hkt,_⟩:=G.ok.info ht
 rw [hk] at hkt
 cases hkt
 obtain ⟨dk,fk,zk,hdk,_,hkk2,_⟩:=G.ok.info htk
 rw [hkk] at hkk2
 cases hkk2
 obtain ⟨de,fe,ze,hde,hfe,_,hfs,hfb,hfz,hzc,_⟩:=G.ok.info he
 have hzv:ze=mkv ag (ty.cs x0 h0):=by rw [<- hz0,<- hzc]; exact BR hz hfe hfz
 have hzr:(zeroValue e).run G.P w = .ok (mkv ag (ty.cs x0 h0)) w:=by
  rw [<- hzv]
  simp [zeroValue,typeInfo,hfe,hfz,Result.andThen]
 have same:SS ⟨w,A,Own [Ch.mp ty ag v mp]⟩ A [Ch.mp ty ag v mp] [] w:=SS.grown hs (ob:=none) ⟨rfl,rfl,rfl,Nat.le_refl _,λ_ _ _=>rfl⟩ (λ_ e=>nomatch e) (λb hb=>⟨.inl hb,(hs.own _ (List.mem_singleton.2 rfl) b hb).1⟩) hok
 rcases hok with ⟨rfl,rfl⟩ | ⟨g,l,es,clock,rfl,rfl,h1,h2,h3⟩
 ·have e9:mgd (none:Mp α) k x0=x0:=rfl
  have h9:SS ⟨w,A,Own [Ch.mp ty ag none none]⟩ A [Ch.mp ty ag none none] (ty.im (mgd (none:Mp α) k x0) h0) w:=by
   rw [e9]
   simpa using same.dD (J:=ty.im x0 h0) (hfree _ _)
  refine ⟨h0,w,A,?_,h9⟩
  simp [execOp,ho,hf.ev hx,hf.ev hix,Instr.lookup,run_underlying hdd,run_checkKey hdk,run_findKey hdk (es:=[]) (r:=none) rfl,hzr,Result.andThen,nx,mgd,mgl]
 ·rcases h2.find k 0 with ⟨h4,h5⟩ | ⟨j,e1,x1,h4,h5,h6,h7,hd,h8,h9⟩
  ·refine ⟨h0,w,A,?_,?_⟩
   ·simp [execOp,ho,hf.ev hx,hf.ev hix,Instr.lookup,run_underlying hdd,MapKept.run_getObj_map h1,run_checkKey hdk,run_findKey hdk h4,hzr,Result.andThen,nx,mgd,h5]
   ·have e9:mgd (some l) k x0=x0:=by simp [mgd,h5]
    rw [e9]
    simpa using same.dD (J:=ty.im x0 h0) (hfree _ _)
  ·refine ⟨hd,w,A,?_,?_⟩
   ·simp [execOp,ho,hf.ev hx,hf.ev hix,Instr.lookup,run_underlying hdd,MapKept.run_getObj_map h1,run_checkKey hdk,run_findKey hdk h4,Result.andThen,nx,mgd,h7,h8]
   ·have e9:mgd (some l) k x0=x1:=by simp [mgd,h7]
    rw [e9]
    simpa using same.dD (J:=ty.im x1 hd) h9
theorem tE {A:eL} {w:World} {J:List Im} {g:Nat} {l l':List (Int×α)} {es es':Array MapEntry} {clock clock':Nat} (hs:St A [Ch.mp ty ag (some g) (some l)] J w) (hb:w.heap[g]?=some (.map es clock)) (he:Ens ty ag A w l' es'.toList) (hst:MapKept.Stamped es' clock') :
  SS ⟨w,A,Own [Ch.mp ty ag (some g) (some l)]⟩ A [Ch.mp ty ag (some g) (some l')] [] { w with heap:=w.heap.setIfInBounds g (.map es' clock') }:=by
 have hlt:g < w.heap.size:=(Array.getElem?_eq_some_iff.1 hb).1
 have hA: ¬ A g:=(hs.own _ (List.mem_singleton.2 rfl) g rfl).2
 have h2:=MapKept.heap_set (o':= .map es' clock') hb
 refine SS.grown hs (ob:=some g) ⟨rfl,rfl,rfl,by simp,λk hk hne=>h2.2 k (λe=>hne (by rw [e]))⟩ (λb e=>e) (λb hb2=>⟨.inl hb2,?_⟩) ?_
 ·injection hb2 with hb2
  subst hb2
  simpa using hlt
 ·exact .inr ⟨g,l',es',clock',rfl,rfl,h2.1,he.st (λ_ h=>h) (λb hb3=>h2.2 b (λe=>hA (e ▸ hb3))),hst⟩
theorem Ac.mu (k:Int) (x1:α) (hd:ty.Hid) {J:List Im} {t kt e:Nat} {x ix y:Operand} {ti tk:TI} {u:Unit} (hn:chk mp.isSome=some u) (ho:o.op = .mapUpdate t x ix y\/o.op = .insert t x ix y) (hx:ev m x=some (.map v)) (hix:ev m ix=some (.int .i64 k)) (hy:ev m y=some (mkv ag (ty.cs x1 hd))) (ht:bL G.τ t=some ti) (hk:ti.k = .map kt e) (htk:bL G.τ kt=some tk) (hkk:tk.k = .int .i64) (hJ:J=ty.im x1 hd) :
  Ac G n m o [Ch.mp ty ag v mp] J (λ_:Unit=>undef) (λ_=>[Ch.mp ty ag v (AJ mp k x1)]) (λ_=>[]):=by
 subst hJ
 refine Ac.run (v:=λ_=>none) λA a w hf hs=> ?_
 have hrun:execOp a.eval o=(do Instr.mapUpdate t (a.eval x) (a.eval ix) (a.eval y); pure .skip):=by rcases ho with ho | ho <;> simp only [execOp,ho] <;> rfl
 have hok:=hs.ch _ (List.mem_singleton.2 rfl)
 obtain ⟨dd,f,z0,hdd,hfi,hkt,_⟩:=G.ok.info ht
 rw [hk] at hkt
 cases hkt
 obtain ⟨dk,fk,zk,hdk,_,hkk2,_⟩:=G.ok.info htk
 rw [hkk] at hkk2
 cases hkk2
 have hkey:MapKept.IsKey (.int .i64) (.int .i64 k):=rfl
 rcases hok with ⟨rfl,rfl⟩ | ⟨g,l,es,clock,rfl,rfl,h1,h2,h3⟩
 ·exact absurd hn (by simp [chk])
 ·rcases h2.find k 0 with ⟨h4,h5⟩ | ⟨j,e1,x2,h4,h5,h6,h7,hd2,h8,h9⟩
  ·have hne: ∀ y∈es.toList,y.key ≠ .int .i64 k:=by
    intro y hy e
    have key: ∀ {l:List (Int×α)} {es:List MapEntry},Ens ty ag A w l es->mgl k l=none -> ∀ y∈es,y.key ≠ .int .i64 k:=by
     intro l es h
     induction h with
     | nil=>intro _ y hy; cases hy
     | @cons j x l e es h hk hv hi hr ih =>
      intro hn y hy
      have hkj:k≠j:=λe=>by simp [mgl,e] at hn
      have hn':mgl k l=none:=by simpa [mgl,hkj] using hn
      rcases List.mem_cons.1 hy with rfl | hy
      ·rw [hk]; intro e; injection e with _ e; exact hkj e.symm
      ·exact ih hn' y hy
    exact key h2 h5 y hy e
   refine ⟨(),_,A,?_,tE hs h1 (es':=es.push { key:= .int .i64 k,val:=mkv ag (ty.cs x1 hd),born:=clock }) (clock':=clock+1) ?_ (MapKept.stamped_push h3 hne)⟩
   ·simp [hrun,hf.ev hx,hf.ev hix,hf.ev hy,Instr.mapUpdate,run_underlying hdd,MapKept.run_getObj_map h1,run_checkKey hdk,run_findKey hdk h4,MapKept.run_setObj_map _ h1,Result.andThen,nx]
   ·rw [Array.toList_push]
    exact h2.push hd rfl rfl hs.im h5
  ·have hj:es[j]?=some e1:=by simpa using h5
   simp only [Nat.zero_add] at h4
   refine ⟨(),_,A,?_,tE hs h1 (es':=es.modify j λe=>{ e with key:= .int .i64 k,val:=mkv ag (ty.cs x1 hd) }) (clock':=clock) ?_ (MapKept.stamped_modify h3 _ _ (λ_ _=>rfl) (λe' _ he'=>by rw [hj] at he'; cases he'; exact h6.symm))⟩
   ·simp [hrun,hf.ev hx,hf.ev hix,hf.ev hy,Instr.mapUpdate,run_underlying hdd,MapKept.run_getObj_map h1,run_checkKey hdk,run_findKey hdk h4,hj,h6,MapKept.run_keyThatStays hkey,MapKept.run_setObj_map _ h1,Result.andThen,nx]
   ·rw [Array.toList_modify]
    exact h2.at_ 0 j _ x1 (by rw [Nat.zero_add]; exact h4) _ hd (λ_=>rfl) (λ_ _=>rfl) hs.im
theorem Yl.mn (i:Nat) {t kt e:Nat} {x:Operand} {ti:TI} (hS:S[i]?=some (Ch.mp ty ag v mp)) (ho:o.op = .call { callee:= .builtin .len,args:= #[x],argTypes:= #[t] }) (hx:ev m x=some (.map v)) (ht:bL G.τ t=some ti) (hk:ti.k = .map kt e):Yl G n m S I o (.int .i64 ((yD mp:Nat):Int)):=λA a w hf hS' _=>by
 have hok:=hS' _ (List.mem_of_getElem? hS)
 obtain ⟨dd,f,z0,hdd,hfi,hkt,_⟩:=G.ok.info ht
 rw [hk] at hkt
 cases hkt
 rcases hok with ⟨rfl,rfl⟩ | ⟨g,l,es,clock,rfl,rfl,h1,h2,h3⟩
 ·simp [execOp,ho,hf.ev hx,resolve,invoke,builtin,Builtin.len_,run_underlying hdd,Result.andThen,yD,goInt]
 ·simp [execOp,ho,hf.ev hx,resolve,invoke,builtin,Builtin.len_,run_underlying hdd,MapKept.run_getObj_map h1,Result.andThen,yD,goInt,<- h2.len]
end
section
variable {G : Pg} {n : Nd} {K : Key} {Q : Exit -> Act -> World -> Prop} {m : Env} {S : List Ch} {I : List Im} {α : Type} (ty : Ty α) (ag : Bool)
theorem SS.mp0 {A:eL} {w:World} (h:SS K A S I w):SS K A (Ch.mp ty ag none none::S) I w:=by
 refine ⟨⟨h.st.lt,?_,?_,?_,h.st.im⟩,⟨h.fx.os,h.fx.tape,h.fx.output,h.fx.size,h.fx.mR,h.fx.up,h.fx.dn,?_⟩⟩
 ·intro c hc
  rcases List.mem_cons.1 hc with rfl | hc
  ·exact .inl ⟨rfl,rfl⟩
  ·exact h.st.ch c hc
 ·intro c hc b hb
  rcases List.mem_cons.1 hc with rfl | hc
  ·cases hb
  ·exact h.st.own c hc b hb
 ·refine List.pairwise_cons.2 ⟨λd _ b hb=> ?_,h.st.dis⟩
  cases hb
 ·rintro b ⟨c,hc,e⟩
  rcases List.mem_cons.1 hc with rfl | hc
  ·cases e
  ·exact h.fx.own b ⟨c,hc,e⟩
theorem E.mp0 {e0:Exit} (h:E n K Q e0 m (Ch.mp ty ag none none::S) I):E n K Q e0 m S I:=λA a w hf hs=>h A a w hf (hs.mp0 ty ag)
end
section
variable {G : Pg} {n : Nd} {K : Key} {Q : Exit -> Act -> World -> Prop} {m : Env} {S : List Ch} {I : List Im} {ops : Array Oper} {α : Type} {ty : Ty α} {xs : List α}
theorem SS.FW {A:eL} {w:World} (i T0:Nat) (hI:I[i]?=some (Im.sl ty none 0 xs)) (h:SS K A S I w):SS K A (Ch.arr ty T0 none 0 xs::S) I w:=by
 have h1:=(h.st.im _ (List.mem_of_getElem? hI)).1
 obtain rfl:xs=[]:=List.eq_nil_of_length_eq_zero (Nat.le_zero.1 h1)
 exact h.fZ
theorem L.FW {l:List Oper} (i T0:Nat) (hI:I[i]?=some (Im.sl ty none 0 xs)) (h:L G n K ops Q l m (Ch.arr ty T0 none 0 xs::S) I):L G n K ops Q l m S I:=λA a w hf hs=>h A a w hf (hs.FW i T0 hI)
end
section
variable {G : Pg} {n : Nd} {m : Env} {o : Oper} {S : List Ch} {I : List Im}
theorem Ac.q {v:Value} (h:qx G.τ m o.op=some v):Ac G n m o [] [] (λ_:Unit=>v) (λ_=>[]) (λ_=>[]):=by
 refine Ac.run (v:=λ_=>some v) λA a w hf hs=> ?_
 exact ⟨(),w,A,By G.ok hf h w,SS.start hs⟩
end
theorem BS {L Sp:List Ch} {I:List Im}:Own [Ch.pk (L++Sp) I]=Own (Ch.pk L I::Sp):=by
 funext b
 apply propext
 rw [vu,vu,List.append_nil]
theorem YT.Ha {η:Type} {G:Pg} {yl:Nat} {args:List Value} {af:List Im} {val:η->Value} (L:List Ch) (I:List Im) (L':η->List Ch) (I':η->List Im) (Sp:List Ch)
  (h:YT G yl args [Ch.pk (L++Sp) I] af val (λh'=>[Ch.pk (L' h'++Sp) (I' h')]) (λ_=>[])):YT G yl args (Ch.pk L I::Sp) af val (λh'=>Ch.pk (L' h') (I' h')::Sp) (λ_=>[]):=by
 intro A w hs
 have s1:=SS.unpack (SS.start hs)
 have s2:SS ⟨w,A,Own (Ch.pk L I::Sp)⟩ A [Ch.pk (L++Sp) I] af w:=SS.pack (R:=[]) (by rw [List.append_nil]; exact s1)
 obtain ⟨fn,tmps,assign,body,h1,h2⟩:=h A w s2.st
 refine ⟨fn,tmps,assign,body,h1,RoundIn.mono h2 ?_⟩
 rintro e w' ⟨x,A',he,h3⟩
 rw [BS] at h3
 have h4:=SS.unpack h3
 rw [List.append_nil] at h4
 exact ⟨x,A',he,SS.pack h4⟩
section
variable {σ η : Type}
variable {G : Pg} {n : Nd} {K : Key} {Q : Exit -> Act -> World -> Prop} {m : Env} {S : List Ch} {I : List Im} {SL : σ -> η -> List Ch} {IL : σ -> η -> List Im} {jp : σ -> Option Code} {z : σ × Bool} {body : Code}
theorem T.Hb {ξ τ:Type} (Y:σ->ξ->Option (σ×Bool)) (av:ξ->List Value) (af:ξ->List Im) {g:Operand} {ps:Array Tmp} {assign:Code} {k:Nat} {ds:List Nat} {f:FuncId} {bs caps:Array Value} {val:τ->Value} {S':τ->List Ch} {I':τ->List Im} {Sp R S0:List Ch} {J:List Im} {s0 s1:σ} {h0:η} {hx:τ->η} (jp:σ->Option Code)
  (SL:σ->η->List Ch) (IL:σ->η->List Im) (di:Nat) (is jl js:List Nat)
  (hrd:G.rd=none) (hg:ev m g=some (.func (.func f) bs caps)) (hps: ∀ p,(av p).length=ps.size) (hpk:ps.toList.all (λd=>Nat.blt d k)=true)
  (hC: ∀ yl (C:σ->η->Ch),(∀ s h p z,Y s p=some z->YT G yl (av p) (C s h::Sp) (af p) (λ_:η=> .bool z.2) (λh'=>C z.1 h'::Sp) (λ_=>[]))->CT G f (bs.toList ++ .func (.yield yl) #[] #[]::caps.toList) (C s0 h0::Sp) J val (λx=>C s1 (hx x)::S' x) I')
  (hjy: ∀ s p z,Y s p=some z->jp s=none) (hj0:jp s0=none)
  (hd:ext S [di]=some ([Ch.dfs ds],S0)) (hS:ext S0 is=some (SL s0 h0++Sp,R)) (hIL:pick I jl=some (IL s0 h0)) (hJ:pick I js=some J)
  (hround: ∀ yl K s h p z,Y s p=some z->T (G.at yl) ⟨k,[]⟩ K (Exit.then (BG (G.at yl) ⟨k,[]⟩ (λs h=>SL s h++Sp) IL jp z body K) (λ_ _ _=>False)) assign (pm ps.toList (av p) m) (SL s h++Sp) (af p++IL s h))
  (hj1:jok (jp s1)=true)
  (h: ∀ x D,E ⟨k,D::ds⟩ K Q (jx (jp s1)) m (Ch.dfs (D::ds)::(SL s1 (hx x)++S' x++R)) (IL s1 (hx x)++I' x++I)) :
  T G ⟨k,ds⟩ K Q (.rangeFunc g ps assign body) m S I:=by
 intro A a w hf hs
 have hF:G.F=Fence.wide:=by unfold Pg.F; rw [hrd]
 refine wpIn_rangeFunc ?_
 intro fn _
 have hro:G.F.round=none:=by rw [G.round,hrd]
 rw [hro]
 obtain ⟨D0,hD0⟩: ∃ D0,w.heap.size=D0:=⟨_,rfl⟩
 obtain ⟨rec,hrec⟩: ∃ rec:LoopState->Option Code->Loop,rec=λst pe=>{ state:=st,pending:=pe,fn,tmps:=a.tmps,params:=ps,assign,body,defers:=D0 }:=⟨_,rfl⟩
 obtain ⟨C,hCd⟩: ∃ C:σ->η->Ch,C=λs h=>Ch.pk (Ch.lp (D0+1) (rec (if (jp s).isNone then .ready else .done) (jp s))::SL s h) (IL s h):=⟨_,rfl⟩
 have hm:Fr ⟨k,[]⟩ m ⟨a.tmps,[]⟩:=⟨hf.size,rfl,hf.at_⟩
 have hY0:=w6 (G:=G) (yl:=D0+1) Y av af hm hps hpk hjy hround rec hrec _ rfl
 have hY: ∀ s h p z,Y s p=some z->YT G (D0+1) (av p) (C s h::Sp) (af p) (λ_:η=> .bool z.2) (λh'=>C z.1 h'::Sp) (λ_=>[]):=by
  intro s h p z hz
  rw [hCd]
  exact YT.Ha (Ch.lp (D0+1) (rec (if (jp s).isNone then .ready else .done) (jp s))::SL s h) (IL s h) (λh'=>Ch.lp (D0+1) (rec (if (jp z.1).isNone then .ready else .done) (jp z.1))::SL z.1 h') (λh'=>IL z.1 h') Sp (hY0 s h p z hz)
 obtain ⟨⟨fnc,hfnc,h1,h2⟩,hcalls⟩:=hC (D0+1) C hY
 -- the two blocks
 have a1:=(hs.perm (dC hd) (λi hi=>hi))
 have a2:=a1.alloc (.deferred (some [])) (Ch.dfs [D0]) (λb hb=>by rw [hD0]; exact List.mem_singleton.1 hb) ⟨by simp,λD hD=>by
  rw [List.mem_singleton.1 hD,<- hD0]; exact World.alloc_heap_new w _⟩
 have e2:(w.alloc (.deferred (some []))).heap.size=D0+1:=by rw [World.size_alloc,hD0]
 have a3:=a2.alloc (.loop (rec .ready none)) (Ch.lp (D0+1) (rec .ready none)) (λb hb=>by rw [e2]; exact hb) (by
  show (World.alloc _ _).heap[D0+1]?=_
  rw [<- e2]; exact World.alloc_heap_new _ _)
 obtain ⟨W,hW⟩: ∃ W,(w.alloc (.deferred (some []))).alloc (.loop (rec .ready none))=W:=⟨_,rfl⟩
 rw [hW] at a3
 -- marks together
 have a4:SS K A (Ch.dfs (D0::ds)::Ch.lp (D0+1) (rec .ready none)::S0) I W:=by
  have hd3:=List.pairwise_cons.1 a3.st.dis
  have hd4:=List.pairwise_cons.1 hd3.2
  have hd5:=List.pairwise_cons.1 hd4.2
  have hok1:=a3.st.ch (Ch.dfs [D0]) (by simp)
  have hok2:=a3.st.ch (Ch.dfs ds) (by simp)
  refine a3.ux ?_ ?_ ?_ a3.st.im
  ·intro c hc
   rcases List.mem_cons.1 hc with rfl | hc
   ·refine ⟨List.nodup_cons.2 ⟨λhmem=>hd4.1 (Ch.dfs ds) (by simp) D0 (List.mem_singleton.2 rfl) hmem,hok2.1⟩,λD hD=> ?_⟩
    rcases List.mem_cons.1 hD with rfl | hD
    ·exact hok1.2 D (by simp)
    ·exact hok2.2 D hD
   ·rcases List.mem_cons.1 hc with rfl | hc
    ·exact a3.st.ch _ (by simp)
    ·exact a3.st.ch _ (by simp [hc])
  ·rintro b ⟨c,hc,hb⟩
   rcases List.mem_cons.1 hc with rfl | hc
   ·rcases List.mem_cons.1 hb with rfl | hb
    ·exact ⟨Ch.dfs [b],by simp,List.mem_singleton.2 rfl⟩
    ·exact ⟨Ch.dfs ds,by simp,hb⟩
   ·rcases List.mem_cons.1 hc with rfl | hc
    ·exact ⟨Ch.lp (D0+1) (rec .ready none),by simp,hb⟩
    ·exact ⟨c,by simp [hc],hb⟩
  ·refine List.pairwise_cons.2 ⟨?_,List.pairwise_cons.2 ⟨λc hc=>hd3.1 c (by simp [hc]),hd5.2⟩⟩
   intro c hc b hb hb2
   have hb3:b=D0\/b∈ds:=List.mem_cons.1 hb
   rcases List.mem_cons.1 hc with hc | hc
   ·rw [hc] at hb2
    rcases hb3 with h3 | h3
    ·exact hd3.1 (Ch.dfs [D0]) (by simp) b hb2 (List.mem_singleton.2 h3)
    ·exact hd3.1 (Ch.dfs ds) (by simp) b hb2 h3
   ·rcases hb3 with h3 | h3
    ·exact hd4.1 c (by simp [hc]) b (List.mem_singleton.2 h3) hb2
    ·exact hd5.1 c hc b h3 hb2
 -- the pack
 have hpS:=dC hS
 have a5:SS K A ((Ch.lp (D0+1) (rec .ready none)::SL s0 h0)++(Sp++(Ch.dfs (D0::ds)::R))) (IL s0 h0++(J++I)) W:=by
  refine a4.perm ?_ ?_
  ·have p1:(Ch.dfs (D0::ds)::Ch.lp (D0+1) (rec .ready none)::((SL s0 h0++Sp)++R)).Perm (Ch.dfs (D0::ds)::Ch.lp (D0+1) (rec .ready none)::S0):=(hpS.cons _).cons _
   refine List.Perm.trans ?_ p1
   have p2:((Ch.lp (D0+1) (rec .ready none)::SL s0 h0)++(Sp++(Ch.dfs (D0::ds)::R))).Perm (Ch.dfs (D0::ds)::((Ch.lp (D0+1) (rec .ready none)::SL s0 h0)++(Sp++R))):=by
    have:(Sp++(Ch.dfs (D0::ds)::R)).Perm (Ch.dfs (D0::ds)::(Sp++R)):=List.perm_middle
    exact (this.append_left _).trans List.perm_middle
   refine p2.trans ?_
   simp
  ·intro i hi
   rcases List.mem_append.1 hi with hi | hi
   ·exact eF hIL i hi
   ·rcases List.mem_append.1 hi with hi | hi
    ·exact eF hJ i hi
    ·exact hi
 have a6:=SS.pack a5
 have eC0:Ch.pk (Ch.lp (D0+1) (rec .ready none)::SL s0 h0) (IL s0 h0)=C s0 h0:=by rw [hCd]; simp only [hj0]; rfl
 rw [eC0] at a6
 have hct:=hcalls A W ((SS.st (S:=(C s0 h0::Sp)++(Ch.dfs (D0::ds)::R)) (by simpa using a6)).left (λi hi=>List.mem_append_left _ hi))
 have hev:=hf.ev hg
 refine ⟨D0+1,[mark D0],W,{ target:= .fn (.func f) caps,args:=bs ++ #[.func (.yield (D0+1)) #[] #[]] },W,f,bs ++ #[.func (.yield (D0+1)) #[] #[]]++caps,W,?_,?_,?_,?_,G.deep,?_⟩
 ·rw [<- hW,hrec,<- hD0]; exact run_enterLoop_outer _ _ _ _ _
 ·simp [resolve,Deferred.ofValue,hev]
  rfl
 ·intro f' _; exact G.fn f'
 ·simp [invoke,nX hfnc h1 h2]
 ·refine G.calls ?_
  have earr:(bs.toList++Value.func (.yield (D0+1)) #[] #[]::caps.toList).toArray=bs ++ #[.func (.yield (D0+1)) #[] #[]]++caps:=by apply Array.ext'; simp
  rw [earr] at hct
  refine hct.mono ?_
  rintro e W2 ⟨x,A',rfl,h3⟩
  have b1:SS K A' ((C s1 (hx x)::S' x)++(Ch.dfs (D0::ds)::R)) (I' x++(J++I)) W2:=SS.frame (S:=C s0 h0::Sp) (R:=Ch.dfs (D0::ds)::R) (I:=J++I) (by simpa using a6) h3
  obtain ⟨r1,hr1⟩: ∃ r1,rec (if (jp s1).isNone then LoopState.ready else .done) (jp s1)=r1:=⟨_,rfl⟩
  have hnb:r1.state ≠ .busy:=by rw [<- hr1,hrec]; cases jp s1 <;> simp
  have ep:r1.pending=jp s1:=by rw [<- hr1,hrec]
  have eC1:C s1 (hx x)=Ch.pk (Ch.lp (D0+1) r1::SL s1 (hx x)) (IL s1 (hx x)):=by rw [<- hr1,hCd]
  rw [eC1] at b1
  have b2:SS K A' ((Ch.lp (D0+1) r1::SL s1 (hx x))++(S' x++(Ch.dfs (D0::ds)::R))) (IL s1 (hx x)++(I' x++(J++I))) W2:=SS.unpack b1
  have hl:W2.heap[D0+1]?=some (.loop r1):=b2.st.ch _ (List.mem_cons_self ..)
  have hlt:D0+1 < W2.heap.size:=(Array.getElem?_eq_some_iff.1 hl).1
  have hend:=run_endLoop (P:=G.P) hl hnb
  obtain ⟨r2,hr2⟩: ∃ r2,({ r1 with state:= .exhausted }:Loop)=r2:=⟨_,rfl⟩
  rw [hr2] at hend
  refine ⟨_,_,hend,?_⟩
  have b3:=SS.put (o:= .loop r2) (D:=D0+1) (c':=Ch.lp (D0+1) r2) (c:=Ch.lp (D0+1) r1) (R:=SL s1 (hx x)++(S' x++(Ch.dfs (D0::ds)::R))) b2 rfl (λb hb=>hb) (World.putObj_heap_same hlt)
  have b4:=b3.tl
  have b5:=b4.perm (S':=Ch.dfs (D0::ds)::(SL s1 (hx x)++S' x++R)) (I':=IL s1 (hx x)++I' x++I) (by
   have:(SL s1 (hx x)++(S' x++(Ch.dfs (D0::ds)::R))).Perm (Ch.dfs (D0::ds)::(SL s1 (hx x)++S' x++R)):=by
    rw [<- List.append_assoc]
    exact List.perm_middle
   exact this.symm) (λi hi=>by simp only [List.mem_append] at hi ⊢; rcases hi with (hi | hi) | hi <;> simp [hi])
  have hE:=h x D0 A' ⟨a.tmps,[mark D0]++a.defers⟩ _ ⟨hf.size,by simp [hf.defers],hf.at_⟩ b5
  rw [ep]
  generalize jp s1=j at hE hj1 ⊢
  cases j with
  | none=>exact hE
  | some c =>
   cases c <;> first | (cases hj1; done) | skip
   ·exact wpIn_exit hE
   ·exact wpIn_ret hE
end
section
variable {σ η X θ τ : Type} {G : Pg} {n : Nd} {K : Key} {Q : Exit -> Act -> World -> Prop} {m : Env} {S : List Ch} {I : List Im} {body : Code}
theorem T.rf3 {Y:σ->X->Option (σ×Bool)} {g:Operand} {ps:Array Tmp} {assign:Code} {k:Nat} {ds:List Nat} {f:FuncId} {bs caps:Array Value} {val:τ->Value} {S':τ->List Ch} {I':τ->List Im} {R S0:List Ch} {J:List Im} {s0 s1:σ} {h0:η} {hx:τ->η} (av:X->θ->List Value) (af:X->θ->List Im) (jp:σ->Option Code)
  (Sp:List Ch) (SL:σ->η->List Ch) (IL:σ->η->List Im) (di:Nat) (is jl js:List Nat)
  (hrd:G.rd=none) (hg:ev m g=some (.func (.func f) bs caps)) (hps: ∀ x t,(av x t).length=ps.size) (hpk:ps.toList.all (λd=>Nat.blt d k)=true)
  (hC: ∀ yl (C:σ->η->Ch),(∀ s h x t z,Y s x=some z->YT G yl (av x t) (C s h::Sp) (af x t) (λ_:η=> .bool z.2) (λh'=>C z.1 h'::Sp) (λ_=>[]))->CT G f (bs.toList ++ .func (.yield yl) #[] #[]::caps.toList) (C s0 h0::Sp) J val (λx=>C s1 (hx x)::S' x) I')
  (hjy: ∀ s x z,Y s x=some z->jp s=none) (hj0:jp s0=none)
  (hd:ext S [di]=some ([Ch.dfs ds],S0)) (hS:ext S0 is=some (SL s0 h0++Sp,R)) (hIL:pick I jl=some (IL s0 h0)) (hJ:pick I js=some J)
  (hround: ∀ yl K s h x t z,Y s x=some z->T (G.at yl) ⟨k,[]⟩ K (Exit.then (BG (G.at yl) ⟨k,[]⟩ (λs h=>SL s h++Sp) IL jp z body K) (λ_ _ _=>False)) assign (pm ps.toList (av x t) m) (SL s h++Sp) (af x t++IL s h))
  (hj1:jok (jp s1)=true)
  (h: ∀ x D,E ⟨k,D::ds⟩ K Q (jx (jp s1)) m (Ch.dfs (D::ds)::(SL s1 (hx x)++S' x++R)) (IL s1 (hx x)++I' x++I)) :
  T G ⟨k,ds⟩ K Q (.rangeFunc g ps assign body) m S I :=
 T.Hb (ξ:=X×θ) (λs p=>Y s p.1) (λp=>av p.1 p.2) (λp=>af p.1 p.2) jp SL IL di is jl js hrd hg (λp=>hps p.1 p.2) hpk (λyl C hY=>hC yl C λs h x t z hz=>hY s h (x,t) z hz) (λs p z hz=>hjy s p.1 z hz) hj0 hd hS hIL hJ
  (λyl K s h p z hz=>hround yl K s h p.1 p.2 z hz) hj1 h
end
section
variable {G : Pg} {n : Nd} {m : Env} {o : Oper} {S : List Ch} {I : List Im} {α : Type} {ty : Ty α} {ag : Bool} {v : Option Nat} {mp : Mp α}
theorem Ac.mcl {t kt e:Nat} {x:Operand} {ti:TI} (ho:o.op = .call { callee:= .builtin .clear,args:= #[x],argTypes:= #[t] }) (hx:ev m x=some (.map v)) (ht:bL G.τ t=some ti) (hk:ti.k = .map kt e) :
  Ac G n m o [Ch.mp ty ag v mp] [] (λ_:Unit=> .tuple #[]) (λ_=>[Ch.mp ty ag v (Ed mp)]) (λ_=>[]):=by
 refine Ac.run (v:=λ_=>some (.tuple #[])) λA a w hf hs=> ?_
 have hok:=hs.ch _ (List.mem_singleton.2 rfl)
 obtain ⟨dd,f,z0,hdd,hfi,hkt,_⟩:=G.ok.info ht
 rw [hk] at hkt
 cases hkt
 rcases hok with ⟨rfl,rfl⟩ | ⟨g,l,es,clock,rfl,rfl,h1,h2,h3⟩
 ·refine ⟨(),w,A,?_,?_⟩
  ·simp [execOp,ho,hf.ev hx,resolve,invoke,builtin,Builtin.clear_,run_underlying hdd,Result.andThen,nx]
  ·exact SS.grown hs (ob:=none) ⟨rfl,rfl,rfl,Nat.le_refl _,λ_ _ _=>rfl⟩ (λ_ e=>nomatch e) (λb hb=>⟨.inl hb,(hs.own _ (List.mem_singleton.2 rfl) b hb).1⟩) (.inl ⟨rfl,rfl⟩)
 ·refine ⟨(),_,A,?_,tE hs h1 (es':= #[]) (clock':=clock) .nil (MapKept.stamped_empty clock)⟩
  simp [execOp,ho,hf.ev hx,resolve,invoke,builtin,Builtin.clear_,run_underlying hdd,MapKept.run_getObj_map h1,MapKept.run_setObj_map _ h1,Result.andThen,nx]
theorem Ens.del {d:Ty α} {A:eL} {w:World} {l:List (Int×α)} {es:List MapEntry} (h:Ens d ag A w l es) {k:Int}: ∀ i j e,Instr.findNow (.int .i64) (.int .i64 k) es i=some (some (i+j,e))->Ens d ag A w (mdl k l) (es.eraseIdx j):=by
 induction h with
 | nil=>intro i j e h1; simp [Instr.findNow] at h1
 | @cons k' y l e' es h hk' hv' hi' hr ih =>
  intro i j e h1
  by_cases hkj:k=k'
  ·subst hkj
   rw [iO hk',if_pos rfl] at h1
   injection h1 with h1
   injection h1 with h1
   injection h1 with h1 _
   obtain rfl:j=0:=by omega
   simp only [mdl,if_pos,List.eraseIdx_cons_zero]
   exact hr
  ·rw [iO hk',if_neg hkj] at h1
   cases j with
   | zero =>
    exfalso
    have key: ∀ (es:List MapEntry) (i n:Nat) (v:Value),Instr.findNow (.int .i64) (.int .i64 k) es i=some (some (n,v))->i<=n:=by
     intro es
     induction es with
     | nil=>intro i n v h; simp [Instr.findNow] at h
     | cons e es ih =>
      intro i n v h
      simp only [Instr.findNow] at h
      split at h
      ·simp at h; omega
      ·have:=ih _ _ _ h; omega
      ·cases h
    have:=key _ _ _ _ h1
    omega
   | succ j =>
    have e3:i+(j+1)=i+1+j:=by omega
    rw [e3] at h1
    simp only [mdl,if_neg hkj,List.eraseIdx_cons_succ]
    exact .cons h hk' hv' hi' (ih (i+1) j e h1)
theorem xc (k:Int): ∀ l:List (Int×α),mgl k l=none->mdl k l=l
 | [],_=>rfl
 | (j,y)::l,h=>by
  have hkj:k≠j:=λe=>by simp [mgl,e] at h
  have h':mgl k l=none:=by simpa [mgl,hkj] using h
  simp only [mdl,if_neg hkj,xc k l h']
theorem Ac.mde (k:Int) {t t2 kt e:Nat} {x ix:Operand} {ti tk:TI} (ho:o.op = .call { callee:= .builtin .delete,args:= #[x,ix],argTypes:= #[t,t2] }) (hx:ev m x=some (.map v)) (hix:ev m ix=some (.int .i64 k)) (ht:bL G.τ t=some ti) (hk:ti.k = .map kt e) (htk:bL G.τ kt=some tk) (hkk:tk.k = .int .i64) :
  Ac G n m o [Ch.mp ty ag v mp] [] (λ_:Unit=> .tuple #[]) (λ_=>[Ch.mp ty ag v (AK mp k)]) (λ_=>[]):=by
 refine Ac.run (v:=λ_=>some (.tuple #[])) λA a w hf hs=> ?_
 have hok:=hs.ch _ (List.mem_singleton.2 rfl)
 obtain ⟨dd,f,z0,hdd,hfi,hkt,_⟩:=G.ok.info ht
 rw [hk] at hkt
 cases hkt
 obtain ⟨dk,fk,zk,hdk,_,hkk2,_⟩:=G.ok.info htk
 rw [hkk] at hkk2
 cases hkk2
 rcases hok with ⟨rfl,rfl⟩ | ⟨g,l,es,clock,rfl,rfl,h1,h2,h3⟩
 ·refine ⟨(),w,A,?_,?_⟩
  ·simp [execOp,ho,hf.ev hx,hf.ev hix,resolve,invoke,builtin,Builtin.delete_,run_underlying hdd,run_checkKey hdk,Result.andThen,nx]
  ·exact SS.grown hs (ob:=none) ⟨rfl,rfl,rfl,Nat.le_refl _,λ_ _ _=>rfl⟩ (λ_ e=>nomatch e) (λb hb=>⟨.inl hb,(hs.own _ (List.mem_singleton.2 rfl) b hb).1⟩) (.inl ⟨rfl,rfl⟩)
 ·rcases h2.find k 0 with ⟨h4,h5⟩ | ⟨j,e1,x1,h4,h5,h6,h7,hd,h8,h9⟩
  ·have e9:AK (some l) k=some l:=by show some (mdl k l)=_; rw [xc k l h5]
   refine ⟨(),_,A,?_,by rw [e9]; exact tE hs h1 (es':=es) (clock':=clock) h2 h3⟩
   simp [execOp,ho,hf.ev hx,hf.ev hix,resolve,invoke,builtin,Builtin.delete_,run_underlying hdd,MapKept.run_getObj_map h1,run_checkKey hdk,run_findKey hdk h4,MapKept.run_setObj_map _ h1,Result.andThen,nx]
  ·simp only [Nat.zero_add] at h4
   refine ⟨(),_,A,?_,tE hs h1 (es':=es.eraseIdxIfInBounds j) (clock':=clock) (by rw [Array.toList_eraseIdxIfInBounds]; exact h2.del 0 j _ (by rw [Nat.zero_add]; exact h4)) (MapKept.stamped_erase h3 j)⟩
   simp [execOp,ho,hf.ev hx,hf.ev hix,resolve,invoke,builtin,Builtin.delete_,run_underlying hdd,MapKept.run_getObj_map h1,run_checkKey hdk,run_findKey hdk h4,MapKept.run_setObj_map _ h1,Result.andThen,nx]
end
section
variable {G : Pg} {n : Nd} {K : Key} {Q : Exit -> Act -> World -> Prop} {m : Env} {S C V : List Ch} {I : List Im} {ops : List Oper} {late l : List Nat} {o : Oper}
theorem Dp.ab {i:Nat} (is js ks:List Nat) {d:Option Nat} {Sp R:List Ch} {J:List Im} {σ:Type} {v:σ->Value} {S' V':σ->List Ch} {I':σ->List Im} (hA:Ac G n m o Sp J v S' I') (hi:ops[i]?=some o) (hw:wg ops m o=some true) (hd:o.dst=d) (hn:dok d n.n=true) (hS:ext (C++V) is=some (Sp,R)) (hJ:pick I js=some J) (hB: ∀ x,ext (S' x++R) ks=some (C,V' x))
  (h: ∀ x,D G n K Q ops late (i::l) C (ma d (v x) m) (V' x) (I' x++I)):Dp G n K Q ops late l i C m V I:=by
 intro A a w fuel hfu hf hs
 have hi':ops.toArray[i]?=some o:=by simpa using hi
 unfold wpOp
 simp only [hi']
 rw [if_pos (kx hw hf)]
 left
 have hs':=hs.perm (dC hS) (λi hi=>hi)
 refine (hA A a w _ (NP Q) hf (hs'.st.left (eF hJ)) λx w' A' h2=> ?_).1
 have h3:=hs'.frame h2
 have h4:=h3.perm (dC (hB x)) (λi hi=>hi)
 refine ⟨WS C (I' x++I),.inr λw ⟨A,h1,h2⟩=>⟨A,h1,λf hf=>h2 f (List.mem_append_right _ hf)⟩,h4.ws,?_⟩
 rw [mb,hd]
 exact h x A' _ w' fuel (by simp only [List.length_cons]; omega) (hf.sH hn _) h4
theorem D.rsl (i:Nat) {α:Type} {ty:Ty α} {xs:List α} {a0:Option Addr} {c:Nat} (k:Nat) {d t e:Nat} {x:Operand} {lo hi:Option Operand} {lv hv:Int} {ti te:TI} {u:Unit} (hk0:chk (eN lv hv xs.length)=some u) (hi':ops[k]?=some o) (hc':uy ops late l k=true) (hw:wg ops m o=some true) (hd:o.dst=some d) (hn:dok (some d) n.n=true) (ho:o.op = .slice t x lo hi none) (hx:ev m x=some (.slice a0 xs.length c)) (hlo:evb m lo 0=some lv) (hhi:evb m hi xs.length=some hv) (hI:I[i]?=some (Im.sl ty a0 c xs)) (ht:bL G.τ t=some ti) (hk:ti.k = .slice e) (he:bL G.τ e=some te) (hsz:te.size=ty.sz)
  (h: ∀ a1 c1,D G n K Q ops late (k::l) C ((d,.slice a1 (cut xs lv hv).length c1)::m) V (Im.sl ty a1 c1 (cut xs lv hv)::I)):D G n K Q ops late l C m V I:=by
 refine D.put (v:= .slice (lE a0 c lv ty.sz) (cut xs lv hv).length (c - lv.toNat)) (S0:=λ_=>True) k hi' hc' (.inl λ_=>trivial) (λ_ _=>trivial) hd hn (λA a w hf hs=> .inl ⟨kx hw hf,λw' _=> ?_⟩) (D.dD [_] (λA w _ hI' f hf'=> ?_) (h _ _))
 ·obtain ⟨h0,h1,h2⟩:=fm hk0
  have hle:=(hs.st.im _ (List.mem_of_getElem? hI)).1
  have hr:=ny (P:=G.P) (w:=w') G.ok hf ht hk he hlo hhi h0 h1 (by omega:hv<=(c:Int)) a0
  rw [iN ⟨h0,h1,h2⟩,lE,<- hsz]
  simp only [execOp,ho,hf.ev hx,Option.map_none,Sem.run_bind,hr,Result.andThen_ok,Sem.run_pure]
 ·rw [List.mem_singleton.1 hf']
  exact zv hk0 (hI' _ (List.mem_of_getElem? hI))
end
theorem sm {α:Type _} {a b:α} (h:some a=some b):a=b:=Option.some.inj h
theorem qf {m:Env}: ∀ {M:Env},M.map (λp=>look m p.1)=M.map (λp=>some p.2)->sF m M
 | [],_=>trivial
 | (i,v)::M,h=>by
  simp only [List.map_cons,List.cons.injEq] at h
  exact ⟨h.1,qf h.2⟩
section
variable {G : Pg} {n : Nd} {K : Key} {Q : Exit -> Act -> World -> Prop} {m : Env} {S : List Ch} {I : List Im} {ops : Array Oper} {o : Oper} {l : List Oper}
theorem Ln (h:E n K Q .normal m S I):L G n K ops Q [] m S I:=L.nil h
theorem Et {y:Code} (h:Tw.T G n K Q y m S I):E n K (Exit.then (y.wpIn G.F 0 G.P Q) Q) .normal m S I:=E.then h
theorem Ts {x y:Code} (h:Tw.T G n K (Exit.then (y.wpIn G.F 0 G.P Q) Q) x m S I):Tw.T G n K Q (.seq x y) m S I:=T.seq h
theorem Tr {id:Nat} {l:List Oper} (h:L G n K l.toArray Q l m S I):Tw.T G n K Q (.region id l.toArray false) m S I:=T.region h
theorem Tk (h:E n K Q .normal m S I):Tw.T G n K Q .skip m S I:=T.skip h
theorem Tv (h:E n K Q .ret m S I):Tw.T G n K Q .ret m S I:=T.ret h
theorem Tx {id:Nat} (h:E n K Q (.exit id) m S I):Tw.T G n K Q (.exit id) m S I:=T.exit h
theorem Tl {id:Nat} {c:Code} (h:Tw.T G n K (Exit.inBlock id Q) c m S I):Tw.T G n K Q (.block id c) m S I:=T.block h
theorem Ex {y:Act->World->Prop} {id:Nat} (h:E n K Q (.exit id) m S I):E n K (Exit.then y Q) (.exit id) m S I:=E.yr h
theorem Er {y:Act->World->Prop} (h:E n K Q .ret m S I):E n K (Exit.then y Q) .ret m S I:=E.pZ h
theorem Eb {id:Nat} (h:E n K Q .normal m S I):E n K (Exit.inBlock id Q) .normal m S I:=E.block h
theorem Eh {id:Nat} (h:E n K Q .normal m S I):E n K (Exit.inBlock id Q) (.exit id) m S I:=E.yu h
theorem Ev {id:Nat} (h:E n K Q .ret m S I):E n K (Exit.inBlock id Q) .ret m S I:=E.AA h
theorem Tra {id:Nat} {l:List Oper} (h:L G n K ops Q l m S I) (h0:ops.toList=l:=by exact rfl):Tw.T G n K Q (.region id ops false) m S I:=T.G8 h0 h
theorem Lq (k:Nat) {l l':List Oper} {m':Env} (hl:L G n K ops Q l' m' S I) (h:yv G.τ n.n ops.toList k l m=some (m',l'):=by exact rfl):L G n K ops Q l m S I:=sR h hl
theorem Ly {d:Nat} {v:Value} (hy:Yl G n m S I o v) (h:L G n K ops Q l ((d,v)::m) S I) (hw:wg ops.toList m o=some true:=by exact rfl) (hd:o.dst=some d:=by exact rfl) (hn:Nat.blt d n.n=true:=by exact rfl):L G n K ops Q (o::l) m S I:=L.y hy hw hd hn h
theorem Lb (i:Nat) {d:Nat} {t g o' T:Nat} {x:Operand} {cs:List Value} {v:Value} (h:L G n K ops Q l ((d,v)::m) S I) (ho:o.op = .load t x:=by exact rfl) (hx:ev m x=some (.pointer (some ⟨g,o',none⟩)):=by exact rfl) (hS:S[i]?=some (Ch.box g T cs):=by exact rfl) (hv:od G.τ t (cs.drop o') 0=some v:=by exact rfl) (hw:wg ops.toList m o=some true:=by exact rfl) (hd:o.dst=some d:=by exact rfl) (hn:Nat.blt d n.n=true:=by exact rfl):L G n K ops Q (o::l) m S I:=L.y (Yl.ldb i ho hx hS hv) hw hd hn h
theorem Lc (i k:Nat) {d:Nat} {t b off:Nat} {x:Operand} {vs:List Value} {v:Value} (h:L G n K ops Q l ((d,v)::m) S I) (ho:o.op = .load t x:=by exact rfl) (hx:ev m x=some (.pointer (some ⟨b,off+k,none⟩)):=by exact rfl) (hI:I[i]?=some (Im.cells b off vs):=by exact rfl) (hv:od G.τ t (vs.drop k) 0=some v:=by exact rfl) (hw:wg ops.toList m o=some true:=by exact rfl) (hd:o.dst=some d:=by exact rfl) (hn:Nat.blt d n.n=true:=by exact rfl):L G n K ops Q (o::l) m S I:=L.y (Yl.ldc i k ho hx hI hv) hw hd hn h
theorem La (is js:List Nat) {d:Option Nat} {Sp R:List Ch} {J:List Im} {σ:Type} {v:σ->Value} {S':σ->List Ch} {I':σ->List Im} (hA:Ac G n m o Sp J v S' I') (h: ∀ x,L G n K ops Q l (ma d (v x) m) (S' x++R) (I' x++I)) (hw:wg ops.toList m o=some true:=by exact rfl) (hd:o.dst=d:=by exact rfl) (hn:dok d n.n=true:=by exact rfl) (hS:ext S is=some (Sp,R):=by exact rfl) (hJ:pick I js=some J:=by exact rfl):L G n K ops Q (o::l) m S I:=L.a is js hA hw hd hn hS hJ h
theorem Lk (is js:List Nat) {d:Option Nat} {R:List Ch} {σ:Type} {f:FuncId} {fo:Operand} {as:Array Operand} {ts:Array Nat} {vs args:List Value} {a1 a2:Array Value} {Sp:List Ch} {J:List Im} {val:σ->Value} {S':σ->List Ch} {I':σ->List Im} (hC:CT G f args Sp J val S' I') (h: ∀ x,L G n K ops Q l (ma d (val x) m) (S' x++R) (I' x++I)) (ho:o.op = .call { callee:= .value fo,args:=as,argTypes:=ts }:=by exact rfl) (hfo:ev m fo=some (.func (.func f) a1 a2):=by exact rfl) (ha:evl m as.toList=some vs:=by exact rfl) (hargs:a1.toList++vs++a2.toList=args:=by exact rfl) (hw:wg ops.toList m o=some true:=by exact rfl) (hd:o.dst=d:=by exact rfl) (hn:dok d n.n=true:=by exact rfl) (hS:ext S is=some (Sp,R):=by exact rfl) (hJ:pick I js=some J:=by exact rfl):L G n K ops Q (o::l) m S I:=L.a is js (Ac.call hC ho hfo ha hargs) hw hd hn hS hJ h
theorem Lt (i:Nat) {R:List Ch} {d:Option Nat} {t g o' T:Nat} {x y:Operand} {cs cs':List Value} {v:Value} {ti:TI} (h:L G n K ops Q l (ma d undef m) (Ch.box g T cs'::R) I) (ho:o.op = .store t x y:=by exact rfl) (hx:ev m x=some (.pointer (some ⟨g,o',none⟩)):=by exact rfl) (hy:ev m y=some v:=by exact rfl) (hi:bL G.τ t=some ti:=by exact rfl) (hc:(Nat.beq (vc v).length ti.size && (vc v).all Value.oneCell')=true:=by exact rfl) (hS:ext S [i]=some ([Ch.box g T cs],R):=by exact rfl) (hr0:wr cs o' (vc v)=some cs':=by exact rfl) (hw:wg ops.toList m o=some true:=by exact rfl) (hd:o.dst=d:=by exact rfl) (hn:dok d n.n=true:=by exact rfl):L G n K ops Q (o::l) m S I:=L.a [i] [] (Ac.stb ho hx hy hi hc hr0) hw hd hn hS rfl λ_=>h
theorem Ll {d:Option Nat} {T:Nat} {ti:TI} (h: ∀ g:Nat,L G n K ops Q l (ma d (.pointer (some ⟨g,0,none⟩)) m) (Ch.box g T ti.zero::S) I) (ho:o.op = .alloc T:=by exact rfl) (hi:bL G.τ T=some ti:=by exact rfl) (hw:wg ops.toList m o=some true:=by exact rfl) (hd:o.dst=d:=by exact rfl) (hn:dok d n.n=true:=by exact rfl):L G n K ops Q (o::l) m S I:=L.a [] [] (Ac.alloc ho hi) hw hd hn rfl rfl h
theorem Lx {d:Option Nat} {T:Nat} {x:Operand} {v:Value} (h: ∀ g:Nat,L G n K ops Q l (ma d (.pointer (some ⟨g,0,none⟩)) m) (Ch.box g T (vc v)::S) I) (ho:o.op = .box T x:=by exact rfl) (hx:ev m x=some v:=by exact rfl) (hw:wg ops.toList m o=some true:=by exact rfl) (hd:o.dst=d:=by exact rfl) (hn:dok d n.n=true:=by exact rfl):L G n K ops Q (o::l) m S I:=L.a [] [] (Ac.box ho hx) hw hd hn rfl rfl h
theorem Tb {ρ:Type} {g h:Option ρ} {r:ρ} {c:Operand} {x y:Code} {b:Bool} (H:(bif b then g else h)=some r) (ht:g=some r->T G n K Q x m S I) (hf:h=some r->T G n K Q y m S I) (hc:ev m c=some (.bool b):=by exact rfl):T G n K Q (.cond c x y) m S I:=T.bif hc H (λ_=>ht) (λ_=>hf)
theorem Lw (j:Nat) {ρ:Type} {g h:Option ρ} {r:ρ} {b:Bool} (H:(bif b then g else h)=some r) (ht:g=some r->L G n K ops Q l ((j,.bool true)::m) S I) (hf:h=some r->L G n K ops Q l ((j,.bool false)::m) S I) (hj:look m j=some (.bool b):=by exact rfl):L G n K ops Q l m S I:=L.cs j H hj (λ_=>ht) (λ_=>hf)
theorem Tj {x y:Code} {η:Type} (φ:η->Prop) (EM:η->Env) (ds:List Nat) (ES:η->List Ch) (is:List Nat) (EI:η->List Im) {PM:Env} {PS:List Ch} (h1:T G n K (Exit.then (Mid n K φ (λz=>EM z++PM) (λz=>ES z++PS) (λz=>EI z++I)) Q) x m S I) (h2: ∀ z,φ z->T G n K Q y (EM z++PM) (ES z++PS) (EI z++I)) (hm:prn m ds=some PM:=by exact rfl) (hS:pick S is=some PS:=by exact rfl):T G n K (Exit.then (y.wpIn G.F 0 G.P Q) Q) x m S I:=T.join φ _ _ _ h1 h2
theorem Tjh {x y:Code} {η:Type} (EM:η->Env) (ds:List Nat) (ES:η->List Ch) (is:List Nat) (EI:η->List Im) {PM:Env} {PS:List Ch} (h1:T G n K (Exit.then (Mid n K (λ_=>True) (λz=>EM z++PM) (λz=>ES z++PS) (λz=>EI z++I)) Q) x m S I) (h2: ∀ z,T G n K Q y (EM z++PM) (ES z++PS) (EI z++I)) (hm:prn m ds=some PM:=by exact rfl) (hS:pick S is=some PS:=by exact rfl):T G n K (Exit.then (y.wpIn G.F 0 G.P Q) Q) x m S I:=T.join (λ_=>True) _ _ _ h1 λz _=>h2 z
theorem Tj0 {x y:Code} (EM:Env) (ds:List Nat) (ES:List Ch) (is:List Nat) {PM:Env} {PS:List Ch} (h1:T G n K (Exit.then (Mid n K (λ_:Unit=>True) (λ_=>EM++PM) (λ_=>ES++PS) (λ_=>I)) Q) x m S I) (h2:T G n K Q y (EM++PM) (ES++PS) I) (hm:prn m ds=some PM:=by exact rfl) (hS:pick S is=some PS:=by exact rfl):T G n K (Exit.then (y.wpIn G.F 0 G.P Q) Q) x m S I:=T.join (λ_=>True) _ _ _ h1 λ_ _=>h2
theorem Eg {η:Type} {φ:η->Prop} {M:η->Env} {S':η->List Ch} {I0:List Im} {EI:η->List Im} (z:η) (hz:φ z) (is js:List Nat) (k:Nat) {R:List Ch} (hm:(M z).map (λp=>look m p.1)=(M z).map (λp=>some p.2):=by exact rfl) (hS:ext S is=some (S' z,R):=by exact rfl) (hJ:pick I js=some (EI z):=by exact rfl) (hk:I.drop k=I0:=by exact rfl):E n K (Exit.then (Mid n K φ M S' (λz=>EI z++I0)) Q) .normal m S I:=by
 intro A a w hf hs
 have h2:=hs.perm (dC hS) (λi hi=>hi)
 refine ⟨z,A,hz,hf.sub (my (qf hm)),h2.drop λf hf=> ?_⟩
 rcases List.mem_append.1 hf with h | h
 ·exact eF hJ f h
 ·rw [<- hk] at h; exact List.mem_of_mem_drop h
theorem Egx {η:Type} {φ:η->Prop} {M:η->Env} {S':η->List Ch} {I':η->List Im} (z:η) (hz:φ z) (is js:List Nat) {R:List Ch} (hm:(M z).map (λp=>look m p.1)=(M z).map (λp=>some p.2):=by exact rfl) (hS:ext S is=some (S' z,R):=by exact rfl) (hJ:pick I js=some (I' z):=by exact rfl):E n K (Exit.then (Mid n K φ M S' I') Q) .normal m S I:=E.ux z is js hz (qf hm) hS hJ
theorem Eg0 {M:Env} {S':List Ch} {I0:List Im} (is:List Nat) (k:Nat) {R:List Ch} (hm:M.map (λp=>look m p.1)=M.map (λp=>some p.2):=by exact rfl) (hS:ext S is=some (S',R):=by exact rfl) (hk:I.drop k=I0:=by exact rfl):E n K (Exit.then (Mid n K (λ_:Unit=>True) (λ_=>M) (λ_=>S') (λ_=>I0)) Q) .normal m S I:=by
 intro A a w hf hs
 have h2:=hs.perm (dC hS) (λi hi=>hi)
 refine ⟨(),A,trivial,hf.sub (my (qf hm)),h2.drop λf h=> ?_⟩
 rw [<- hk] at h
 exact List.mem_of_mem_drop h
theorem Tq {ρ σ η:Type} {r:ρ} {c:Code} {f:σ->Option (σ ⊕ ρ)} (EM:σ->η->Env) (ds:List Nat) (ES:σ->η->List Ch) (is0:List Nat) (EI:σ->η->List Im) {PM:Env} {PS:List Ch} {s:σ} (x:η) (is js:List Nat) (h:iter f s=some r)
  (round: ∀ k s x z,f s=some z->(∀ s',z = .inl s'->iX f k s'=some r)->(∀ r',z = .inr r'->r'=r)->T G n K (Exit.then (Mid n K (λp:σ×η=>iX f k p.1=some r) (λp=>EM p.1 p.2++PM) (λp=>ES p.1 p.2++PS) (λp=>EI p.1 p.2++I)) Q) c (EM s x++PM) (ES s x++PS) (EI s x++I)) (hm0:prn m ds=some PM:=by exact rfl) (hS0:pick S is0=some PS:=by exact rfl) {R:List Ch} (hm:(EM s x).map (λp=>look m p.1)=(EM s x).map (λp=>some p.2):=by exact rfl) (hS:ext S is=some (ES s x++PS,R):=by exact rfl) (hJ:pick I js=some (EI s x):=by exact rfl):T G n K Q (.loop c) m S I:=by
 have e:Tw.T G n K Q (.loop c) (EM s x++PM) (ES s x++PS) (EI s x++I):=T.it (λs x=>EM s x++PM) (λs x=>ES s x++PS) (λs x=>EI s x++I) round h
 intro A a w hf hs
 have h2:=hs.perm (dC hS) (λi hi=>hi)
 refine e A a w ?_ (h2.drop λf hf=> ?_)
 ·have h3:=qf hm
  have h4:=BD hm0
  have h5: ∀ {a b:Env},sF m a->sF m b->sF m (a++b):=by
   intro a b ha hb
   induction a with
   | nil=>exact hb
   | cons p a ih=>exact ⟨ha.1,ih ha.2⟩
  exact hf.sub (my (h5 h3 h4))
 ·rcases List.mem_append.1 hf with h | h
  ·exact eF hJ f h
  ·exact h
theorem Eo {G:Pg} {k:Nat} {K:Key} {m:Env} {S:List Ch} {I:List Im} {fn:Func} {σ:Type} {val:σ->Value} {S':σ->List Ch} {I':σ->List Im} (x:σ) (is js:List Nat) {vs:List Value} {R:List Ch} (hr:RVs G.τ m S fn.results.toList vs) (hv:tr vs=val x:=by exact rfl) (hS:ext S is=some (S' x,R):=by exact rfl) (hJ:pick I js=some (I' x):=by exact rfl):E ⟨k,[]⟩ K (nh G fn K val S' I') .ret m S I:=E.ret x is js hr hv hS hJ
theorem Eo1 {G:Pg} {k:Nat} {K:Key} {m:Env} {S:List Ch} {I:List Im} {fn:Func} {σ:Type} {val:σ->Value} {S':σ->List Ch} {I':σ->List Im} (x:σ) (is js:List Nat) {t:Nat} {R:List Ch} (hf:fn.results.toList=[.tmp t]:=by exact rfl) (hv:look m t=some (val x):=by exact rfl) (hS:ext S is=some (S' x,R):=by exact rfl) (hJ:pick I js=some (I' x):=by exact rfl):E ⟨k,[]⟩ K (nh G fn K val S' I') .ret m S I:=E.ret (vs:=[val x]) x is js (by rw [hf]; exact .tmp hv .nil) rfl hS hJ
end
section
variable {G : Pg} {n : Nd} {K : Key} {Q : Exit -> Act -> World -> Prop} {m : Env} {S C V : List Ch} {I : List Im} {ops : List Oper} {late l : List Nat} {o : Oper}
theorem Td {id:Nat} (late:List Nat) (is:List Nat) (hmo:G.P.follows .mixedOrders=true) (h:D G n K Q ops late [] C m V I) (hS:ext S is=some (C,V):=by exact rfl) (hnd:zx ops=true:=by exact rfl):T G n K Q (.region id ops.toArray true) m S I:=T.draw late is hmo hnd hS h
theorem Dn (h:E n K Q .normal m (C++V) I) (hc:closed ops=true:=by exact rfl) (hr:qe l 0 ops=[]:=by exact rfl):D G n K Q ops late l C m V I:=D.nil hc hr h
theorem Dq (i:Nat) {d:Nat} {v:Value} (h:D G n K Q ops late (i::l) C ((d,v)::m) V I) (hi:ops[i]?=some o:=by exact rfl) (hc:uy ops late l i=true:=by exact rfl) (hw:wg ops m o=some true:=by exact rfl) (hd:o.dst=some d:=by exact rfl) (hn:dok (some d) n.n=true:=by exact rfl) (hq:qx G.τ m o.op=some v:=by exact rfl):D G n K Q ops late l C m V I:=D.q i hi hc hw hd hn hq h
theorem Ds (i:Nat) {d:Option Nat} (h:D G n K Q ops late (i::l) C (ma d undef m) V I) (hi:ops[i]?=some o:=by exact rfl) (hc:uy ops late l i=true:=by exact rfl) (hw:wg ops m o=some false:=by exact rfl) (hd:o.dst=d:=by exact rfl) (hn:dok d n.n=true:=by exact rfl):D G n K Q ops late l C m V I:=D.sk i hi hc hw hd hn h
theorem Dy (i:Nat) {d:Nat} {v:Value} (hy:Yl G n m C I o v) (h:D G n K Q ops late (i::l) C ((d,v)::m) V I) (hi:ops[i]?=some o:=by exact rfl) (hc:uy ops late l i=true:=by exact rfl) (hl:vr ops late i=true:=by exact rfl) (hw:wg ops m o=some true:=by exact rfl) (hd:o.dst=some d:=by exact rfl) (hn:dok (some d) n.n=true:=by exact rfl):D G n K Q ops late l C m V I:=D.y i hy hi hc hl hw hd hn h
theorem Db (i j:Nat) {d:Nat} {t g o' T:Nat} {x:Operand} {cs:List Value} {v:Value} (h:D G n K Q ops late (i::l) C ((d,v)::m) V I) (hi:ops[i]?=some o:=by exact rfl) (ho:o.op = .load t x:=by exact rfl) (hx:ev m x=some (.pointer (some ⟨g,o',none⟩)):=by exact rfl) (hS:C[j]?=some (Ch.box g T cs):=by exact rfl) (hv:od G.τ t (cs.drop o') 0=some v:=by exact rfl) (hc:uy ops late l i=true:=by exact rfl) (hl:vr ops late i=true:=by exact rfl) (hw:wg ops m o=some true:=by exact rfl) (hd:o.dst=some d:=by exact rfl) (hn:dok (some d) n.n=true:=by exact rfl):D G n K Q ops late l C m V I:=D.y i (Yl.ldb j ho hx hS hv) hi hc hl hw hd hn h
theorem Da {i:Nat} (is js:List Nat) {d:Option Nat} {Sp R:List Ch} {J:List Im} {σ:Type} {v:σ->Value} {S':σ->List Ch} {I':σ->List Im} (hr:qe l 0 ops=[i]) (hi:ops[i]?=some o) (hA:Ac G n m o Sp J v S' I') (h: ∀ x,D G n K Q ops late (i::l) C (ma d (v x) m) (S' x++R) (I' x++I)) (hc:closed ops=true:=by exact rfl) (hl:Nat.blt l.length ops.length=true:=by exact rfl) (hw:wg ops m o=some true:=by exact rfl) (hd:o.dst=d:=by exact rfl) (hn:dok d n.n=true:=by exact rfl) (hS:ext V is=some (Sp,R):=by exact rfl) (hJ:pick I js=some J:=by exact rfl):D G n K Q ops late l C m V I:=D.one hc hr hl (Dp.a is js hA hi hw hd hn hS hJ h)
theorem Dk {i:Nat} (is js:List Nat) {d:Option Nat} {R:List Ch} {σ:Type} {f:FuncId} {fo:Operand} {as:Array Operand} {ts:Array Nat} {vs args:List Value} {a1 a2:Array Value} {Sp:List Ch} {J:List Im} {val:σ->Value} {S':σ->List Ch} {I':σ->List Im} (hC:CT G f args Sp J val S' I') (h: ∀ x,D G n K Q ops late (i::l) C (ma d (val x) m) (S' x++R) (I' x++I)) (hr:qe l 0 ops=[i]:=by exact rfl) (hi:ops[i]?=some o:=by exact rfl) (ho:o.op = .call { callee:= .value fo,args:=as,argTypes:=ts }:=by exact rfl) (hfo:ev m fo=some (.func (.func f) a1 a2):=by exact rfl) (ha:evl m as.toList=some vs:=by exact rfl) (hargs:a1.toList++vs++a2.toList=args:=by exact rfl) (hc:closed ops=true:=by exact rfl) (hl:Nat.blt l.length ops.length=true:=by exact rfl) (hw:wg ops m o=some true:=by exact rfl) (hd:o.dst=d:=by exact rfl) (hn:dok d n.n=true:=by exact rfl) (hS:ext V is=some (Sp,R):=by exact rfl) (hJ:pick I js=some J:=by exact rfl):D G n K Q ops late l C m V I:=D.one hc hr hl (Dp.a is js (Ac.call hC ho hfo ha hargs) hi hw hd hn hS hJ h)
theorem Dt {i:Nat} (j:Nat) {R:List Ch} {d:Option Nat} {t g o' T:Nat} {x y:Operand} {cs cs':List Value} {v:Value} {ti:TI} (h:D G n K Q ops late (i::l) [] (ma d undef m) (Ch.box g T cs'::R) I) (hr:qe l 0 ops=[i]:=by exact rfl) (hi:ops[i]?=some o:=by exact rfl) (ho:o.op = .store t x y:=by exact rfl) (hx:ev m x=some (.pointer (some ⟨g,o',none⟩)):=by exact rfl) (hy:ev m y=some v:=by exact rfl) (hti:bL G.τ t=some ti:=by exact rfl) (hoc:(Nat.beq (vc v).length ti.size && (vc v).all Value.oneCell')=true:=by exact rfl) (hS:ext (C++V) [j]=some ([Ch.box g T cs],R):=by exact rfl) (hr0:wr cs o' (vc v)=some cs':=by exact rfl) (hlt:mem i late=true:=by exact rfl) (hc:closed ops=true:=by exact rfl) (hl:Nat.blt l.length ops.length=true:=by exact rfl) (hw:wg ops m o=some true:=by exact rfl) (hd:o.dst=d:=by exact rfl) (hn:dok d n.n=true:=by exact rfl):D G n K Q ops late l C m V I:=D.one hc hr hl (Dp.al [j] [] (Ac.stb ho hx hy hti hoc hr0) hlt hi hw hd hn hS rfl λ_=>h)
end
theorem Li {G:Pg} {n:Nd} {K:Key} {Q:Exit->Act->World->Prop} {m:Env} {S:List Ch} {I:List Im} {ops:Array Oper} {l:List Oper} (h:L G n K ops Q l m S I):L G n K ops Q l m S I:=h
theorem Ejn {n:Nd} {K:Key} {Q:Exit->Act->World->Prop} {m:Env} {S:List Ch} {I:List Im} (h:E n K Q .normal m S I):E n K Q (jx none) m S I:=h
theorem Ebm {n:Nd} {K:Key} {Q:Exit->Act->World->Prop} {m:Env} {S:List Ch} {I:List Im} {id id':Nat} (h:E n K (Exit.inBlock id Q) (.exit id') m S I):E n K (Exit.inBlock id Q) (.exit id') m S I:=h
theorem Z0 {P Q:Prop} (h:Q) (f:Q->P:=by
 intro h
 repeat (first
  | ((with_reducible refine Li ?_); first | refine Lq 1 ?_ | (with_reducible refine Ln ?_) | refine Lb 0 ?_ | refine Lb 1 ?_ | refine Lb 2 ?_ | refine Lb 3 ?_ | refine Lb 4 ?_ | refine Lb 5 ?_ | refine Lb 6 ?_ | refine Lb 7 ?_ | refine Lb 8 ?_ | refine Lb 9 ?_)
  | with_reducible refine Et ?_
  | with_reducible refine Tr ?_
  | with_reducible refine Tk ?_
  | with_reducible refine Tv ?_
  | with_reducible refine Tx ?_
  | with_reducible refine Ex ?_
  | with_reducible refine Er ?_
  | with_reducible refine Eb ?_
  | with_reducible refine Eh ?_
  | ((with_reducible refine Ebm ?_); refine E.Bq rfl ?_)
  | with_reducible refine Ev ?_
  | with_reducible refine Ejn ?_
  | with_reducible refine Ejr ?_
  | with_reducible refine Eje ?_)
 exact h):P:=f h
theorem Z1 {P Q:Prop} (h:Q) (f:Q->P:=by intro h; refine Z0 ?_; refine Ts ?_; refine Z0 ?_; exact h):P:=f h
theorem Z2 {P Q:Prop} (h:Q) (f:Q->P:=by intro h; refine Z1 ?_; refine Ts ?_; refine Z0 ?_; exact h):P:=f h
theorem Z3 {P Q:Prop} (h:Q) (f:Q->P:=by intro h; refine Z2 ?_; refine Ts ?_; refine Z0 ?_; exact h):P:=f h
theorem Y1 {P Q:Prop} (h:Q) (f:Q->P:=by intro h; refine Z0 ?_; refine Ts ?_; exact h):P:=f h
theorem Y2 {P Q:Prop} (h:Q) (f:Q->P:=by intro h; refine Z1 ?_; refine Ts ?_; exact h):P:=f h
theorem Y3 {P Q:Prop} (h:Q) (f:Q->P:=by intro h; refine Z2 ?_; refine Ts ?_; exact h):P:=f h
theorem Zl {P Q:Prop} (h:Q) (f:Q->P:=by intro h; refine Z0 ?_; refine Tl ?_; refine Z0 ?_; exact h):P:=f h
theorem Yl0 {P Q:Prop} (h:Q) (f:Q->P:=by intro h; refine Z0 ?_; refine Tl ?_; exact h):P:=f h
theorem Cf {G : Pg} {f : FuncId} {fn : Func} {c : Code} {args : List Value} {S : List Ch} {I : List Im} {σ : Type} {val : σ -> Value} {S' : σ -> List Ch} {I' : σ -> List Im} (hf : G.P.funcs[f]? = some fn) (h : ∀ K, T G ⟨fn.ntmps, []⟩ K (nh G fn K val S' I') c (en 0 args) S I) (h1 : (fn.name == "runtime.NumGoroutine") = false := by kernel_rfl) (hb : fn.body = some c := by exact rfl) (hn : Nat.ble args.length fn.ntmps = true := by exact rfl)
  (hrd:G.rd=none:=by exact rfl):CT G f args S I val S' I':=CT.of hf h1 hb hn hrd h
section
variable {G : Pg} {n : Nd} {K : Key} {Q : Exit -> Act -> World -> Prop} {ops : List Oper} {late : List Nat} {l : List Nat} {C : List Ch} {m : Env} {V : List Ch} {I : List Im} {o : Oper}
theorem DFp.a0 {j:Nat} (is js:List Nat) {d:Option Nat} {Sp R:List Ch} {J:List Im} {σ:Type} {v:σ->Value} {S':σ->List Ch} {I':σ->List Im} (hA:Ac G n m o Sp J v S' I') (hi:ops[j]?=some o) (hw:wg ops m o=some true) (hd:o.dst=d) (hn:dok d n.n=true) (hS:ext V is=some (Sp,R)) (hJ:pick I js=some J)
  (h: ∀ x,DF G n K Q ops late [] (j::l) C (ma d (v x) m) (S' x++R) (I' x++I)):DFp G n K Q ops late j [] l C m V I:=by
 intro hF A a w fuel L h1 h2 hfu hjL hdep hf R0 hs hx
 obtain rfl:R0=[]:=hx
 rw [List.append_nil] at hs
 have hi':ops.toArray[j]?=some o:=by simpa using hi
 have hjlt:j < ops.length:=(List.getElem?_eq_some_iff.1 hi).1
 unfold wpOp
 simp only [hi']
 rw [if_pos (kx hw hf)]
 left
 have hp:(Sp++(C++R)).Perm (C++V):=by
  have h1:(Sp++R).Perm V:=dC hS
  exact (oQ Sp C R).trans (List.Perm.append_left C h1)
 have hs':=hs.perm hp (λi hi=>hi)
 refine (hA A a w _ (NP Q) hf (hs'.st.left (eF hJ)) λx w' A' h2'=> ?_).1
 have h3:=hs'.frame h2'
 have h4:=h3.perm (oQ C (S' x) R) (λi hi=>hi)
 refine ⟨WS C (I' x++I),.inr λw ⟨A,h1,h2⟩=>⟨A,h1,λf hf=>h2 f (List.mem_append_right _ hf)⟩,h4.ws,?_⟩
 rw [mb,hd]
 refine h x (λf hf=>by cases hf) A' _ w' fuel (j::L) (λi hi=> ?_) (λi hi=> ?_) ?_ (hf.sH hn _) [] (by rw [List.append_nil]; exact h4) rfl
 ·rcases List.mem_cons.1 hi with rfl | hi
  ·exact List.mem_cons_self ..
  ·exact List.mem_cons_of_mem _ (h1 i hi)
 ·rcases List.mem_cons.1 hi with rfl | hi
  ·exact .inl (List.mem_cons_self ..)
  ·exact (h2 i hi).imp (List.mem_cons_of_mem _) id
 ·have:=ov hjlt hjL
  omega
end
def uV:Bool->Nat->Option Addr
 | true,g=>some ⟨g,0,none⟩
 | false,_=>none
section
variable {G : Pg} {n : Nd} {m : Env} {S : List Ch} {I : List Im} {o : Oper}
theorem Yl.pz {t t2 e:Nat} {x y:Operand} {ti:TI} (ho:o.op = .binOp .eql t x y t2) (hx:ev m x=some (.pointer none)) (hy:ev m y=some (.pointer none)) (ht:bL G.τ t=some ti) (hk:ti.k = .pointer e):Yl G n m S I o (.bool true):=λA a w hf _ _=>by
 obtain ⟨dd,_,_,hdd,_,hkk,_⟩:=G.ok.info ht
 rw [hk] at hkk
 cases hkk
 have he: ∀ k,(Op.equalIn (k+1) t (.pointer none) (.pointer none)).run G.P w = .ok true w:=λk=>by
  simp [Op.equalIn,run_underlying hdd]
 have he2:(Op.equal t (.pointer none) (.pointer none)).run G.P w = .ok true w:=he 9999
 have hg:(eqGuard .eql t x y (.pointer none) (.pointer none)).run G.P w = .ok () w:=rfl
 simp only [execOp,ho,hf.ev hx,hf.ev hy,Sem.run_bind,hg,Result.andThen_ok,binOp,he2,Sem.run_pure]
theorem Yl.ps {t t2 e:Nat} {x y:Operand} {ad:Addr} {ti te:TI} (ho:o.op = .binOp .neq t x y t2) (hx:ev m x=some (.pointer (some ad))) (hy:ev m y=some (.pointer (some ad))) (ht:bL G.τ t=some ti) (hk:ti.k = .pointer e) (he:bL G.τ e=some te):Yl G n m S I o (.bool false):=λA a w hf _ _=>by
 obtain ⟨dd,_,_,hdd,_,hkk,_⟩:=G.ok.info ht
 rw [hk] at hkk
 cases hkk
 obtain ⟨_,f,_,_,hf2,_⟩:=G.ok.info he
 have hr:=Lib.run_neq_ptr_same (P:=G.P) w ad hdd hf2
 have hg:(eqGuard .neq t x y (.pointer (some ad)) (.pointer (some ad))).run G.P w = .ok () w:=rfl
 simp only [execOp,ho,hf.ev hx,hf.ev hy,Sem.run_bind,hg,Result.andThen_ok,hr,Sem.run_pure]
theorem Yl.tou (i:Nat) {src dst t g T:Nat} {x:Operand} {cs:List Value} {te:TI} (ho:o.op = .convert src dst x) (hx:ev m x=some (.pointer (some ⟨g,0,none⟩))) (hS:S[i]?=some (Ch.box g T cs)) (hs:G.P.underlying src=some (.pointer t)) (hd:G.P.underlying dst=some .unsafePointer) (he:bL G.τ t=some te) (hj:Nat.blt 0 te.size=true) (hc:Nat.blt 0 cs.length=true):Yl G n m S I o (.pointer (some ⟨g,0,none⟩)):=λA a w hf hst _=>by
 have hb:w.heap[g]?=some (.cells cs.toArray T (0,0)):=hst _ (List.mem_of_getElem? hS)
 obtain ⟨_,f,_,_,hf2,_,hsz,_⟩:=G.ok.info he
 have hr:=Lib.run_to_unsafe (P:=G.P) w (src:=src) (dst:=dst) (t:=t) (e:=T) (j:=f) (cells:=cs.length) ⟨g,0,none⟩ hs hd hf2 (by rw [hsz]; have:=fW hj; omega) (by simp [World.shape?,hb]) (by have:=fW hc; exact this)
 simp only [execOp,ho,hf.ev hx,Sem.run_bind,hr,Result.andThen_ok,Sem.run_pure]
theorem Yl.fru (i:Nat) {src dst u g T:Nat} {x:Operand} {cs:List Value} {te:TI} (ho:o.op = .convert src dst x) (hx:ev m x=some (.pointer (some ⟨g,0,none⟩))) (hS:S[i]?=some (Ch.box g T cs)) (hs:G.P.underlying src=some .unsafePointer) (hd:G.P.underlying dst=some (.pointer u)) (he:bL G.τ u=some te) (hl:liesAt G.P G.P.depth T (cs.length / G.P.cellsOf T) 0 u 1=true):Yl G n m S I o (.pointer (some ⟨g,0,none⟩)):=λA a w hf hst _=>by
 have hb:w.heap[g]?=some (.cells cs.toArray T (0,0)):=hst _ (List.mem_of_getElem? hS)
 obtain ⟨_,f,_,_,hf2,_,hsz,_⟩:=G.ok.info he
 have hr:=Lib.run_from_unsafe (P:=G.P) w (src:=src) (dst:=dst) (u:=u) (e:=T) (j:=f) (cells:=cs.length) ⟨g,0,none⟩ hs hd hf2 (by simp [World.shape?,hb]) hl
 simp only [execOp,ho,hf.ev hx,Sem.run_bind,hr,Result.andThen_ok,Sem.run_pure]
theorem Yl.Hc {f : FuncId} {fn : Func} {fo x : Operand} {ts : Array Nat} {v : Value} (ho : o.op = .call { callee := .value fo, args := #[x], argTypes := ts }) (hfo : ev m fo = some (.func (.func f) #[] #[])) (hx : ev m x = some v) (hf' : G.P.funcs[f]? = some fn) (h1 : (fn.name == "runtime.NumGoroutine") = false) (hb : fn.body.isNone = true) (hn : Extern.findNext fn = none) (he : Extern.find fn = some Extern.AbiNoEscape.same) : Yl G n m S I o v := λA a w hf _ _ => by
 have hr:(callFunc f #[v]).run G.P w = .ok (.value v) w:=by
  rw [run_callFunc_extern hf' h1 hb hn he,Lib.run_noEscape]
  rfl
 simp only [execOp,ho,resolve,Deferred.ofValue,hf.ev hfo,invoke,Sem.run_bind,Sem.run_pure,Result.andThen_ok]
 simp [hf.ev hx,hr]
theorem BT {P:Program} (w:World): ∀ (l:List Int) (a:Addr) (acc:ByteArray),(∀ j x,l[j]?=some x->w.cell? (a.add j)=some (.int .u8 x))->(loadBytes a acc l.length).run P w = .ok (l.foldl (λr n=>r.push (UInt8.ofNat n.toNat)) acc) w
 | [],a,acc,_=>by simp [loadBytes]
 | x::l,a,acc,h=>by
  have h0:w.cell? a=some (.int .u8 x):=by
   have:=h 0 x rfl
   simpa [Addr.add] using this
  have ih:=BT (P:=P) w l (a.add 1) (acc.push (UInt8.ofNat x.toNat)) (λj y hy=>by
   have:=h (j+1) y (by simpa using hy)
   have e:(a.add 1).add j=a.add (j+1):=by
    unfold Addr.add
    by_cases hj:j=0
    ·subst hj; simp
    ·simp [hj]; omega
   rw [e]; exact this)
  simp only [List.length_cons,loadBytes,Sem.run_bind,run_load,h0,Result.andThen,List.foldl_cons]
  exact ih
theorem FY {P:Program} (w:World) (pt it ty e:TypeId) (hp:P.underlying pt=some (.pointer e)) (hc:P.cellsOf e=1) (g cells:Nat) (hsh:w.shape? g=some (e,cells)) (l:List Int) (h0:l≠[]) (hn:l.length<=cells) (h63:l.length<=9223372036854775807)
  (hcell: ∀ j x,l[j]?=some x->w.cell? ((⟨g,0,none⟩:Addr).add j)=some (.int .u8 x)) :
  (Builtin.unsafeString_ #[pt,it] ty #[.pointer (some ⟨g,0,none⟩),.int .i64 l.length]).run P w = .ok (.string (dM l)) (w.freeze ⟨g,0,none⟩ l.length):=by
 have hl:l.length≠0:=by simpa using h0
 have hlb:=BT (P:=P) w l ⟨g,0,none⟩ .empty hcell
 have hlies:=Lib.liesAt_bytes (P:=P) hc (cells / P.cellsOf e) l.length (by rw [hc]; simpa using hn)
 have h63': ¬ (9223372036854775807:Int) < (l.length:Int):=by omega
 have hdef:Builtin.unsafeString_ #[pt,it] ty #[.pointer (some ⟨g,0,none⟩),.int .i64 l.length] =
   (do
    let n <- asInt (.int .i64 l.length)
    if n < 0 then runtimePanic (.error "unsafe.String: len out of range")
    if n > IntKind.i64.max then unsupported (.unsafePointer "String: a length above the largest int")
    if n=0 then pure (.string .empty)
    else if <- variablesAt ⟨g,0,none⟩ (<- elemOf pt) n.toNat then do
     let s <- loadBytes ⟨g,0,none⟩ .empty n.toNat
     freeze ⟨g,0,none⟩ n.toNat
     pure (.string s)
    else unsupported (.unsafePointer "String: not so many bytes at ptr")) := rfl
 rw [hdef]
 have hmax:IntKind.i64.max=9223372036854775807:=rfl
 have hneg: ¬ (l.length:Int) < 0:=by omega
 simp [asInt,asIntOf,hmax,h63',hneg,hl,variablesAt,hsh,elemOf,run_underlying hp,hlies,hlb,dM]
def Ch.usd (T:Nat) (a0:Option Addr) (c:Nat) (xs:List Int) (p:Option Addr):Ch where
 blk:=(Ch.arr (Ty.int .u8) T a0 c xs).blk
 ok:=λA w=>(Ch.arr (Ty.int .u8) T a0 c xs).ok A w/\(xs≠[]->p=a0)
 st:=λhA hw hb h=>⟨(Ch.arr (Ty.int .u8) T a0 c xs).st hA hw hb h.1,h.2⟩
theorem SS.usd {A:eL} {T:Nat} {a0 p:Option Addr} {c:Nat} {xs:List Int} {w:World} (hs:St A [Ch.arr (Ty.int .u8) T a0 c xs] [] w) (hp:xs≠[]->p=a0):SS ⟨w,A,Own [Ch.arr (Ty.int .u8) T a0 c xs]⟩ A [Ch.usd T a0 c xs p] [] w:=by
 have h:=SS.start hs
 refine ⟨⟨hs.lt,λd hd=> ?_,λd hd b hb=> ?_,List.pairwise_singleton _ _,λi hi=>by cases hi⟩,⟨h.fx.os,h.fx.tape,h.fx.output,h.fx.size,h.fx.mR,h.fx.up,h.fx.dn,λb ⟨d,hd,e⟩=> ?_⟩⟩
 ·rw [List.mem_singleton.1 hd]
  exact ⟨hs.ch _ (List.mem_singleton.2 rfl),hp⟩
 ·rw [List.mem_singleton.1 hd] at hb
  exact hs.own _ (List.mem_singleton.2 rfl) b hb
 ·rw [List.mem_singleton.1 hd] at e
  exact .inl ⟨_,List.mem_singleton.2 rfl,e⟩
theorem SS.GP {K:Key} {A:eL} {S:List Ch} {I:List Im} {w w':World} (h:SS K A S I w) {o:Obj} (hh:w'.heap=w.heap.push o) (ho:w'.os=w.os) (ht:w'.tape=w.tape) (hu:w'.output=w.output):SS K A S I w':=by
 have hs:w'.heap.size=w.heap.size+1:=by rw [hh]; simp
 have old: ∀ b,b < w.heap.size->w'.heap[b]?=w.heap[b]?:=λb hb=>by
  rw [hh]
  exact Array.getElem?_push_lt hb |>.trans (Array.getElem?_eq_getElem hb).symm
 refine ⟨⟨λb hb=>by have:=h.st.lt b hb; omega,λc hc=>c.st (λ_ h=>h) (λb hb=>old b (h.st.lt b hb)) (λb hb=>old b (h.st.own c hc b hb).1) (h.st.ch c hc),λc hc b hb=>⟨by have:=(h.st.own c hc b hb).1; omega,(h.st.own c hc b hb).2⟩,h.st.dis,λi hi=>i.st (λ_ h=>h) (λb hb=>old b (h.st.lt b hb)) (h.st.im i hi)⟩,
  ⟨ho.trans h.fx.os,ht.trans h.fx.tape,hu.trans h.fx.output,by have:=h.fx.size; omega,λb hb hn=>(old b (by have:=h.fx.size; omega)).trans (h.fx.mR b hb hn),h.fx.up,h.fx.dn,h.fx.own⟩⟩
theorem Ac.usd {T c e:Nat} {a0:Option Addr} {xs:List Int} {x:Operand} {ts:Array Nat} (ho:o.op = .call { callee:= .builtin .unsafeSliceData,args:= #[x],argTypes:=ts }) (hx:ev m x=some (.slice a0 xs.length c)) (hty:G.P.underlying o.type=some (.pointer e)) :
  Ac G n m o [Ch.arr (Ty.int .u8) T a0 c xs] [] (λp:Option Addr=> .pointer p) (λp=>[Ch.usd T a0 c xs p]) (λ_=>[]):=by
 refine Ac.run (v:=λp:Option Addr=>some (.pointer p)) λA a w hf hs=> ?_
 rcases kF (hs.ch _ (List.mem_singleton.2 rfl)) with ⟨rfl,rfl,rfl⟩ | ⟨g,cur,cs,rfl,h2,h3,h4,h5,h6,h7⟩
 ·refine ⟨none,w,A,?_,SS.usd hs λh=>absurd rfl h⟩
  have hr:=Lib.run_unsafeSliceData_nil (P:=G.P) w ts o.type 0 0
  simp only [execOp,ho,resolve,invoke,builtin,Sem.run_bind,Sem.run_pure,Result.andThen_ok,List.map_toArray,List.map_cons,List.map_nil,hf.ev hx,List.length_nil,hr,nx]
 ·by_cases hc:c=0
  ·subst hc
   obtain rfl:xs=[]:=List.eq_nil_of_length_eq_zero (by omega)
   refine ⟨some ⟨w.heap.size,0,none⟩,w.alloc (.view ⟨g,0,none⟩ e),A,?_,(SS.usd (p:=some ⟨w.heap.size,0,none⟩) hs λh=>absurd rfl h).GP rfl rfl rfl rfl⟩
   have hr:=Lib.run_unsafeSliceData_zero (P:=G.P) w ts o.type e hty ⟨g,0,none⟩ 0 (T,cur.size) (by simp [World.shape?,h2])
   simp only [execOp,ho,resolve,invoke,builtin,Sem.run_bind,Sem.run_pure,Result.andThen_ok,List.map_toArray,List.map_cons,List.map_nil,hf.ev hx,List.length_nil,hr,nx]
  ·refine ⟨some ⟨g,0,none⟩,w,A,?_,SS.usd hs λ_=>rfl⟩
   have hr:=Lib.run_unsafeSliceData_row (P:=G.P) w ts o.type ⟨g,0,none⟩ xs.length c hc
   simp only [execOp,ho,resolve,invoke,builtin,Sem.run_bind,Sem.run_pure,Result.andThen_ok,List.map_toArray,List.map_cons,List.map_nil,hf.ev hx,hr,nx]
theorem xd (w:World) (g n b:Nat) (h:b≠g):(w.freeze ⟨g,0,none⟩ n).heap[b]?=w.heap[b]?:=by
 unfold World.freeze
 split
 ·rfl
 ·simp only [Array.getElem?_modify]
  rw [if_neg (λe=>h e.symm)]
theorem xe (w:World) (g n:Nat):(w.freeze ⟨g,0,none⟩ n).os=w.os/\(w.freeze ⟨g,0,none⟩ n).tape=w.tape/\(w.freeze ⟨g,0,none⟩ n).output=w.output/\(w.freeze ⟨g,0,none⟩ n).heap.size=w.heap.size:=by
 unfold World.freeze
 split
 ·exact ⟨rfl,rfl,rfl,rfl⟩
 ·exact ⟨rfl,rfl,rfl,by simp⟩
theorem Ac.ust {T c pt it:Nat} {a0 p:Option Addr} {xs:List Int} {x y:Operand} (ho:o.op = .call { callee:= .builtin .unsafeString,args:= #[x,y],argTypes:= #[pt,it] }) (hx:ev m x=some (.pointer p)) (hy:ev m y=some (.int .i64 (xs.length:Int))) (hty:G.P.underlying pt=some (.pointer T)) (hc1:G.P.cellsOf T=1) :
  Ac G n m o [Ch.usd T a0 c xs p] [] (λ_:Unit=> .string (dM xs)) (λ_=>[]) (λ_=>[]):=by
 refine Ac.run (v:=λ_:Unit=>some (.string (dM xs))) λA a w hf hs=> ?_
 obtain ⟨hok,hp⟩:=hs.ch _ (List.mem_singleton.2 rfl)
 by_cases hx0:xs=[]
 ·subst hx0
  refine ⟨(),w,A,?_,?_⟩
  ·have hr:=Lib.run_unsafeString_none (P:=G.P) w pt it o.type p
   have hy':ev m y=some (.int .i64 0):=hy
   simp only [execOp,ho,resolve,invoke,builtin,Sem.run_bind,Sem.run_pure,Result.andThen_ok,List.map_toArray,List.map_cons,List.map_nil,hf.ev hx,hf.ev hy',hr,nx]
   rfl
  ·exact SS.drop (R:=[Ch.usd T a0 c [] p]) (S:=[]) (SS.start hs) (λi hi=>hi)
 ·have hpa:=hp hx0
  subst hpa
  obtain ⟨h1,h2⟩:=gy hok
  rcases h2 with h2 | ⟨b,cs,rfl,hels,hrd⟩
  ·exact absurd h2 hx0
  have hcs:=yC hels
  subst hcs
  rcases kF hok with ⟨e,_,_⟩ | ⟨g,cur,cs,e,hb,h3,h4,h5,h6,h7⟩
  ·cases e
  injection e with e
  injection e with e
  subst e
  have hsz:cur.size=c:=by rw [h5]; show c*1=c; omega
  have h63:xs.length<=9223372036854775807:=by unfold maxLen at h4; omega
  refine ⟨(),w.freeze ⟨b,0,none⟩ xs.length,A,?_,?_⟩
  ·have hr:=FY (P:=G.P) w pt it o.type T hty hc1 b cur.size (by simp [World.shape?,hb]) xs hx0 (by omega) h63 (λj x hj=>by
    rw [add_lit,Nat.zero_add]
    exact hrd j _ (by rw [List.getElem?_map,hj]; rfl))
   simp only [execOp,ho,resolve,invoke,builtin,Sem.run_bind,Sem.run_pure,Result.andThen_ok,List.map_toArray,List.map_cons,List.map_nil,hf.ev hx,hf.ev hy,hr,nx]
  ·obtain ⟨f1,f2,f3,f4⟩:=xe w b xs.length
   have hnA: ¬ A b:=(hs.own _ (List.mem_singleton.2 rfl) b rfl).2
   refine ⟨⟨λx hx=>by rw [f4]; exact hs.lt x hx,λc hc=>(by cases hc),λc hc=>(by cases hc),.nil,λi hi=>(by cases hi)⟩,⟨f1,f2,f3,Nat.le_of_eq f4.symm,λx hx hn=>xd w b _ x (λe=>hn ⟨_,List.mem_singleton.2 rfl,by rw [e]; rfl⟩),λ_ h=>h,λ_ h=> .inl h,λx ⟨c,hc,_⟩=>(by cases hc)⟩⟩
end
section
variable {G : Pg} {n : Nd} {m : Env} {o : Oper} {S : List Ch} {I : List Im} {α : Type} {ty : Ty α} {ag : Bool} {v : Option Nat} {mp : Mp α}
theorem Yl.mz (i:Nat) {t t2 kt e:Nat} {x y:Operand} {ti:TI} (hS:S[i]?=some (Ch.mp ty ag v mp)) (ho:o.op = .binOp .eql t x y t2) (hx:ev m x=some (.map v)) (hy:ev m y=some (.map none)) (ht:bL G.τ t=some ti) (hk:ti.k = .map kt e):Yl G n m S I o (.bool mp.isNone):=λA a w hf hS' _=>by
 have hok:=hS' _ (List.mem_of_getElem? hS)
 obtain ⟨dd,_,_,hdd,_,hkk,_⟩:=G.ok.info ht
 rw [hk] at hkk
 cases hkk
 have hg:(eqGuard .eql t x y (.map v) (.map none)).run G.P w = .ok () w:=rfl
 have hv:v.isNone=mp.isNone:=by rcases hok with ⟨rfl,rfl⟩ | ⟨g,l,es,clock,rfl,rfl,_⟩ <;> rfl
 have he:(Op.equal t (.map v) (.map none)).run G.P w = .ok v.isNone w:=by
  have: ∀ k,(Op.equalIn (k+1) t (.map v) (.map none)).run G.P w = .ok v.isNone w:=λk=>by
   cases v <;> simp [Op.equalIn,run_underlying hdd]
  exact this 9999
 simp only [execOp,ho,hf.ev hx,hf.ev hy,Sem.run_bind,hg,Result.andThen_ok,binOp,he,Sem.run_pure,hv]
theorem Yl.mif {t kt e:Nat} {x:Operand} {u:Value} {ti:TI} (ho:o.op = .makeInterface t x) (hx:ev m x=some u) (ht:bL G.τ t=some ti) (hk:ti.k = .map kt e):Yl G n m S I o (.iface t u):=λA a w hf _ _=>by
 obtain ⟨dd,_,_,hdd,_,hkk,_⟩:=G.ok.info ht
 rw [hk] at hkk
 cases hkk
 simp [execOp,ho,hf.ev hx,Instr.makeInterface,run_underlying hdd,Result.andThen]
theorem Yl.mta {t xt kt e:Nat} {x:Operand} {u:Value} {ti:TI} (ho:o.op = .typeAssert x xt t false) (hx:ev m x=some (.iface t u)) (ht:bL G.τ t=some ti) (hk:ti.k = .map kt e):Yl G n m S I o u:=λA a w hf _ _=>by
 obtain ⟨dd,_,_,hdd,_,hkk,_⟩:=G.ok.info ht
 rw [hk] at hkk
 cases hkk
 simp [execOp,ho,hf.ev hx,Instr.typeAssert,run_underlying hdd,Result.andThen]
theorem yF {P:Program} (w:World) {r:Nat} {es:Array MapEntry} {clock:Nat} (t:TypeId) (hb:w.heap[r]?=some (.map es clock)) :
  (Extern.MapsClone.clone #[.iface t (.map (some r))]).run P w = .ok (.iface t (.map (some w.heap.size))) (w.alloc (.map es clock)):=by
 have e:Extern.MapsClone.clone #[.iface t (.map (some r))]=(getObj r >>= λo=>match o with
   | .map entries clock=>(newObj (.map entries clock) >>= λn=>pure (.iface t (.map (some n))))
   | _ => stuck "maps.clone: a map expected") := rfl
 rw [e]
 simp [MapKept.run_getObj_map hb,Result.andThen]
theorem Ac.mpc {l : List (Int × α)} {f : FuncId} {fn : Func} {fo x : Operand} {ts : Array Nat} {t : Nat} (ho : o.op = .call { callee := .value fo, args := #[x], argTypes := ts }) (hfo : ev m fo = some (.func (.func f) #[] #[])) (hx : ev m x = some (.iface t (.map v))) (hf' : G.P.funcs[f]? = some fn) (h1 : (fn.name == "runtime.NumGoroutine") = false) (hb : fn.body.isNone = true) (hn : Extern.findNext fn = none) (he : Extern.find fn = some Extern.MapsClone.clone) :
  Ac G n m o [Ch.mp ty ag v (some l)] [] (λg:Nat=> .iface t (.map (some g))) (λg=>[Ch.mp ty ag (some g) (some l),Ch.mp ty ag v (some l)]) (λ_=>[]):=by
 refine Ac.run (v:=λg:Nat=>some (.iface t (.map (some g)))) λA a w hf hs=> ?_
 have hok:=hs.ch _ (List.mem_singleton.2 rfl)
 rcases hok with ⟨rfl,h⟩ | ⟨g,l',es,clock,rfl,h,h1',h2,h3⟩
 ·cases h
 ·cases h
  refine ⟨w.heap.size,w.alloc (.map es clock),A,?_,?_⟩
  ·have hr:(callFunc f #[.iface t (.map (some g))]).run G.P w = .ok (.value (.iface t (.map (some w.heap.size)))) (w.alloc (.map es clock)):=by
    rw [run_callFunc_extern hf' h1 hb hn he,yF w t h1']
    rfl
   simp only [execOp,ho,resolve,Deferred.ofValue,hf.ev hfo,invoke,Sem.run_bind,Sem.run_pure,Result.andThen_ok]
   simp [hf.ev hx,hr,nx]
  ·have h9:SS ⟨w,A,Own []⟩ A [Ch.mp ty ag (some w.heap.size) (some l)] [] (w.alloc (.map es clock)):=SS.fresh (w':=w.alloc (.map es clock)) (o:= .map es clock) hs.lt rfl rfl rfl rfl _ (λb hb=>(Option.some.inj hb).symm) (.inr ⟨w.heap.size,l,es,clock,rfl,rfl,heap_alloc_new w _,h2.st (λ_ h=>h) (λb hb=>Array.getElem?_push_lt (hs.lt b hb) |>.trans (Array.getElem?_eq_getElem (hs.lt b hb)).symm),h3⟩)
   have h8:SS ⟨w,A,Own [Ch.mp ty ag (some g) (some l)]⟩ A ([]++[Ch.mp ty ag (some g) (some l)]) [] w:=SS.start hs
   exact SS.frame h8 h9
end
end Go.Tw
namespace Go
section
variable {P : Program} {b : Frame} {a : Act} {k : List Item} {cs : List Frame} {w : World}
theorem kz {c:Code}:step P (lone (b.atR a (.code (.scope c)::k)) cs w) = .next (lone (b.atR a (.code c :: .inScope c::k)) cs w) :=
 step_lone_go (by simp [stepG,stepG.exec,Frame.atR])
theorem uA {c:Code}:step P (lone (b.atR a (.inScope c::k)) cs w) = .next (lone (b.atR a k) cs w) :=
 step_lone_go (by simp [stepG,stepG.exec,Frame.atR])
theorem yG {F:Fence} {n:Nat} {Q:Exit->Act->World->Prop} {c:Code} (h:c.wpIn F n P (Exit.noGoto Q) a w):(Code.scope c).wpIn F n P Q a w:=by
 intro b k cs hro hb hr
 have h0:(lone (b.atR a (.code (.scope c)::k)) cs w).fenced P F:=fenced_calm hb hr rfl
 obtain ⟨e,a₁,w₁,hq,harr⟩:=h b (.inScope c::k) cs hro hb hr
 cases e with
 | normal=>exact ⟨.normal,a₁,w₁,hq,.head h0 kz (StepsIn.trans harr (.one (fenced_calm hb hr rfl) uA))⟩
 | exit id =>
  have hx:exitTo id (.inScope c::k)=exitTo id k:=by simp [exitTo]
  exact ⟨.exit id,a₁,w₁,hq,λk' hk=> .head h0 kz (harr.1 k' (by rw [hx]; exact hk)),
   λhr' hk=>let ⟨k₁,h1,h2⟩:=harr.2 hr' (by rw [hx]; exact hk); ⟨k₁,h1,.head h0 kz h2⟩⟩
 | goto l=>exact hq.elim
 | ret=>exact ⟨_,a₁,w₁,hq,.of_steps (.one h0 kz) harr⟩
 | panic ch=>exact ⟨_,a₁,w₁,hq,.of_steps (.one h0 kz) harr⟩
 | outgrown=>exact ⟨_,a₁,w₁,hq,.of_steps (.one h0 kz) harr⟩
end
end Go
namespace Go.Tw
open Go
section
variable {G : Pg} {n : Nd} {K : Key} {Q : Exit -> Act -> World -> Prop} {m : Env} {S : List Ch} {I : List Im}
theorem T.scope {c:Code} (h:Tw.T G n K (Exit.noGoto Q) c m S I):Tw.T G n K Q (.scope c) m S I:=λA a w hf hs=>yG (h A a w hf hs)
theorem T.label {l:Nat} (h:E n K Q .normal m S I):Tw.T G n K Q (.label l) m S I:=λA a w hf hs=>wpIn_label (h A a w hf hs)
theorem E.scn (h:E n K Q .normal m S I):E n K (Exit.noGoto Q) .normal m S I:=h
end
noncomputable def vw {β ρ:Type} (l:List β) (f:List β->Option ρ):Option ρ:=open Classical in if ∃ r,∀ R,R.Perm l->f R=some r then f l else none
theorem uW {β ρ:Type} {l:List β} {f:List β->Option ρ} {r:ρ} (h:vw l f=some r): ∀ R,R.Perm l->f R=some r:=by
 classical
 unfold vw at h
 by_cases c: ∃ r,∀ R,R.Perm l->f R=some r
 ·rw [if_pos c] at h
  obtain ⟨r',h'⟩:=c
  rw [h' l (.refl _)] at h
  cases h
  exact h'
 ·rw [if_neg c] at h
  cases h
theorem vx {β ρ:Type} {l:List β} {f:List β->Option ρ} {r:ρ} (h: ∀ R,R.Perm l->f R=some r):vw l f=some r:=by
 classical
 unfold vw
 rw [if_pos ⟨r,h⟩]
 exact h l (.refl _)
def mC {β σ ρ:Type} (A:σ->Option (σ ⊕ ρ)) (B:β->σ->Option (σ ⊕ ρ)):List β->σ->Option ρ
 | [],s=>Option.bind (A s) λz=>match z with | .inl _=>none | .inr r=>some r
 | e::R,s=>Option.bind (B e s) λz=>match z with | .inl s'=>mC A B R s' | .inr r=>some r
def mks {α:Type} (m:Mp α):List Int:=(m.getD []).map Prod.fst
end Go.Tw
namespace Go.Tw
open Go
open Go.ChangeMaps (setBlock)
def Lft {α:Type} (seen:Array Nat) (l:List (Int×α)) (es:List MapEntry):List (Int×α):=((l.zip es).filter λp=> !seen.contains p.2.born).map (·.1)
def Ch.mit {α:Type} (d:Ty α) (ag:Bool) (v:Option Nat) (l:List (Int×α)) (g:Nat) (R:List (Int×α)) (cur:Option Int):Ch where
 blk:=λb=>v=some b\/b=g
 ok:=λA w=> ∃ b es clock seen c0,v=some b/\w.heap[b]?=some (.map es clock)/\Ens d ag A w l es.toList/\MapKept.Stamped es clock/\w.heap[g]?=some (.mapIter (some b) clock seen c0)/\clock<=c0/\R.Perm (Lft seen l es.toList) /\ ∀ k,cur=some k->c0=clock /\ ∃ e∈es.toList,e.key = .int .i64 k /\ ∃ s0,seen=Array.push s0 e.born
 st:=by
  rintro A A' w w' hA hw hb ⟨b,es,clock,seen,c0,rfl,h1,h2,h3,h4,h5⟩
  exact ⟨b,es,clock,seen,c0,rfl,(hb b (.inl rfl)).trans h1,h2.st hA hw,h3,(hb g (.inr rfl)).trans h4,h5⟩
theorem xf {β:Type} (seen:Array Nat) (b:Nat) (p:β×MapEntry) (hb:p.2.born=b) (hs:seen.contains b=false): ∀ Z:List (β×MapEntry),(Z.map (·.2.born)).Nodup->p∈Z->(Z.filter λp=> !seen.contains p.2.born).Perm (p::Z.filter λp=> !(seen.push b).contains p.2.born)
 | [],_,h=>by cases h
 | q::Z,hn,h=>by
  have hn':=List.nodup_cons.1 hn
  have mR: ∀ q:β×MapEntry,q.2.born≠b->(!(seen.push b).contains q.2.born) = !seen.contains q.2.born:=λq hq=>by
   simp [Array.contains_push,hq]
  by_cases hq:q.2.born=b
  ·have hpq:p=q:=by
    rcases List.mem_cons.1 h with e | e
    ·exact e
    ·exact absurd (List.mem_map.2 ⟨p,e,show p.2.born=q.2.born by rw [hb,hq]⟩) hn'.1
   subst hpq
   have h2: ∀ x∈Z,x.2.born≠b:=λx hx e=>hn'.1 (List.mem_map.2 ⟨x,hx,show x.2.born=p.2.born by rw [e,hb]⟩)
   rw [List.filter_cons_of_pos (by rw [hb,hs]; rfl),List.filter_cons_of_neg (by simp [hb])]
   refine .cons _ ?_
   rw [List.filter_congr (λx hx=>(mR x (h2 x hx)).symm)]
  ·have hp:p∈Z:=by
    rcases List.mem_cons.1 h with e | e
    ·exact absurd (e ▸ hb) hq
    ·exact e
   have ih:=xf seen b p hb hs Z hn'.2 hp
   by_cases hc:seen.contains q.2.born=true
   ·rw [List.filter_cons_of_neg (by simpa using hc),List.filter_cons_of_neg (by rw [mR q hq]; simpa using hc)]
    exact ih
   ·rw [List.filter_cons_of_pos (by simpa using hc),List.filter_cons_of_pos (by rw [mR q hq]; simpa using hc)]
    exact (List.Perm.cons q ih).trans (List.Perm.swap _ _ _)
section
variable {α : Type} {d : Ty α} {ag : Bool} {A : eL} {w : World}
theorem Ens.zip {l:List (Int×α)} {es:List MapEntry} (h:Ens d ag A w l es): ∀ e∈es,∃ k x,((k,x),e)∈l.zip es/\e.key = .int .i64 k:=by
 induction h with
 | nil=>intro e he; cases he
 | @cons k x l e0 es h hk hv hi hr ih =>
  intro e he
  rcases List.mem_cons.1 he with rfl | he
  ·exact ⟨k,x,List.mem_cons_self,hk⟩
  ·obtain ⟨k,x,h1,h2⟩:=ih e he
   exact ⟨k,x,List.mem_cons_of_mem _ h1,h2⟩
theorem uX {β:Type}: ∀ (l:List β) (es:List MapEntry),(es.map (·.born)).Nodup->((l.zip es).map (·.2.born)).Nodup
 | [],_,_=>by simp
 | _::_,[],_=>by simp
 | a::l,e::es,h=>by
  have h':=List.nodup_cons.1 h
  refine List.nodup_cons.2 ⟨λhm=>h'.1 ?_,uX l es h'.2⟩
  obtain ⟨p,hp,e2⟩:=List.mem_map.1 hm
  exact List.mem_map.2 ⟨p.2,(List.of_mem_zip (show (p.1,p.2)∈l.zip es from hp)).2,e2⟩
theorem Ee {l:List (Int×α)} {es:List MapEntry} (h:es.length=l.length):Lft #[] l es=l:=by
 unfold Lft
 rw [List.filter_eq_self.2 (λ_ _=>by simp),List.map_fst_zip (by omega)]
end
section
variable {G : Pg} {n : Nd} {m : Env} {o : Oper} {S : List Ch} {I : List Im} {α : Type} {ty : Ty α} {ag : Bool} {v : Option Nat} {l R : List (Int × α)} {g : Nat} {cur : Option Int}
theorem Ac.mrg {t kt e:Nat} {x:Operand} {ti:TI} (ho:o.op = .range t x) (hx:ev m x=some (.map v)) (ht:bL G.τ t=some ti) (hk:ti.k = .map kt e) :
  Ac G n m o [Ch.mp ty ag v (some l)] [] (λg:Nat=> .pointer (some ⟨g,0,none⟩)) (λg=>[Ch.mit ty ag v l g l none]) (λ_=>[]):=by
 refine Ac.run (v:=λg:Nat=>some (.pointer (some ⟨g,0,none⟩))) λA a w hf hs=> ?_
 have hok:=hs.ch _ (List.mem_singleton.2 rfl)
 obtain ⟨dd,f,z0,hdd,hfi,hkt,_⟩:=G.ok.info ht
 rw [hk] at hkt
 cases hkt
 rcases hok with ⟨rfl,h⟩ | ⟨b,l',es,clock,rfl,h,h1,h2,h3⟩
 ·cases h
 ·cases h
  have hlt:b < w.heap.size:=(Array.getElem?_eq_some_iff.1 h1).1
  refine ⟨w.heap.size,w.alloc (.mapIter (some b) clock #[] clock),A,?_,?_⟩
  ·simp only [execOp,ho,hf.ev hx,Sem.run_bind,run_range_map w t kt e b es clock hdd h1,Result.andThen_ok,Sem.run_pure,nx]
  ·have hg:w.grownBy (w.alloc (.mapIter (some b) clock #[] clock)) none:=⟨rfl,rfl,rfl,by show _<=(w.heap.push _).size; simp,λk hk _=>heap_alloc_old w _ hk⟩
   refine SS.grown hs (ob:=none) hg (λ_ e=>nomatch e) (λb' hb=> ?_) ?_
   ·have hsz:(w.alloc (.mapIter (some b) clock #[] clock)).heap.size=w.heap.size+1:=by show (w.heap.push _).size=_; simp
    rcases hb with hb | rfl
    ·exact ⟨.inl hb,by cases hb; omega⟩
    ·exact ⟨.inr (Nat.le_refl _),by omega⟩
   ·exact ⟨b,es,clock,#[],clock,rfl,(heap_alloc_old w _ hlt).trans h1,h2.st (λ_ h=>h) (λc hc=>heap_alloc_old w _ (hs.lt c hc)),h3,heap_alloc_new w _,Nat.le_refl _,by rw [Ee h2.len],λk e=>nomatch e⟩
inductive Nxt {α:Type} (R:List (Int×α)) where
 | none (h:R=[])
 | some (k:Int) (x:α) (R':List (Int×α)) (h:R.Perm ((k,x)::R')) (u1 u2:Value)
def Nxt.val {R:List (Int×α)}:Nxt R->Value
 | .none _=> .tuple #[.bool false]
 | .some _ _ _ _ u1 u2=> .tuple #[.bool true,u1,u2]
def Nxt.ch (ty:Ty α) (ag:Bool) (v:Option Nat) (l:List (Int×α)) (g:Nat) {R:List (Int×α)}:Nxt R->List Ch
 | .none _=>[Ch.mit ty ag v l g [] .none]
 | .some k _ R' _ _ _=>[Ch.mit ty ag v l g R' (.some k)]
theorem Ac.mnx {x:Operand} (ho:o.op = .next x false) (hx:ev m x=some (.pointer (some ⟨g,0,none⟩))) :
  Ac G n m o [Ch.mit ty ag v l g R cur] [] (λz:Nxt R=>z.val) (λz=>z.ch ty ag v l g) (λ_=>[]):=by
 refine Ac.run (v:=λz:Nxt R=>some z.val) λA a w hf hs=> ?_
 obtain ⟨b,es,clock,seen,c0,rfl,h1,h2,h3,h4,h5,h6,h7⟩:=hs.ch _ (List.mem_singleton.2 rfl)
 have hgs:g < w.heap.size:=(Array.getElem?_eq_some_iff.1 h4).1
 have hbs:b < w.heap.size:=(Array.getElem?_eq_some_iff.1 h1).1
 have hbg:b≠g:=λe=>by rw [e,h4] at h1; cases h1
 rcases run_next_at (P:=G.P) w o.type g b clock c0 seen es clock h4 h1 h3.1 h5 with ⟨h8,h9⟩ | ⟨e,h8,w1,h9,h10⟩
 ·have hR:R=[]:=by
   rcases hL:Lft seen l es.toList with _ | ⟨p,L⟩
   ·rw [hL] at h6; exact h6.eq_nil
   ·exfalso
    have hp:p∈Lft seen l es.toList:=by rw [hL]; exact List.mem_cons_self
    obtain ⟨q,hq,rfl⟩:=List.mem_map.1 hp
    obtain ⟨hq1,hq2⟩:=List.mem_filter.1 hq
    have:q.2∈leftOf es seen:=Array.mem_filter.2 ⟨Array.mem_toList_iff.1 (List.of_mem_zip (show (q.1,q.2)∈_ from hq1)).2,hq2⟩
    rw [Array.eq_empty_of_size_eq_zero h8] at this
    simp at this
  refine ⟨.none hR,w,A,?_,?_⟩
  ·simp only [execOp,ho,hf.ev hx,Sem.run_bind,h9,Result.andThen_ok,Sem.run_pure,nx,Nxt.val]
  ·exact SS.grown hs (ob:=Option.none) ⟨rfl,rfl,rfl,Nat.le_refl _,λ_ _ _=>rfl⟩ (λ_ e=>nomatch e) (λb' hb=>⟨.inl hb,by rcases hb with hb | rfl; cases hb; exact hbs; exact hgs⟩) ⟨b,es,clock,seen,c0,rfl,h1,h2,h3,h4,h5,hR ▸ h6,λk e=>nomatch e⟩
 ·have he:e∈es/\seen.contains e.born=false:=by
   have:=Array.mem_filter.1 (Array.mem_toList_iff.1 h8)
   exact ⟨this.1,by simpa using this.2⟩
  obtain ⟨k,y,hz,hk⟩:=h2.zip e (Array.mem_toList_iff.2 he.1)
  have hp:=(xf seen e.born ((k,y),e) rfl he.2 (l.zip es.toList) (uX _ _ h3.2.1) hz).map Prod.fst
  have hw1:w1.heap=w.heap/\w1.os=w.os/\w1.tape=w.tape/\w1.output=w.output:=by rcases h9 with rfl | rfl <;> exact ⟨rfl,rfl,rfl,rfl⟩
  have hother: ∀ c,c≠g->(setBlock w1 g (.mapIter (some b) clock (seen.push e.born) clock)).heap[c]?=w.heap[c]?:=λc hc=>by
   show (w1.heap.setIfInBounds _ _)[c]?=_
   rw [hw1.1,Array.getElem?_setIfInBounds_ne (Ne.symm hc)]
  refine ⟨.some k y (Lft (seen.push e.born) l es.toList) (h6.trans hp) e.key e.val,setBlock w1 g (.mapIter (some b) clock (seen.push e.born) clock),A,?_,?_⟩
  ·simp only [execOp,ho,hf.ev hx,Sem.run_bind,h10,Result.andThen_ok,Sem.run_pure,nx,Nxt.val]
  ·have hA: ¬ A g:=(hs.own _ (List.mem_singleton.2 rfl) g (.inr rfl)).2
   have hsz:(setBlock w1 g (.mapIter (some b) clock (seen.push e.born) clock)).heap.size=w.heap.size:=by show (w1.heap.setIfInBounds _ _).size=_; rw [hw1.1]; simp
   refine SS.grown hs (ob:=Option.some g) ⟨hw1.2.1,hw1.2.2.1,hw1.2.2.2,by rw [hsz]; exact Nat.le_refl _,λc _ hne=>hother c (λe=>hne (by rw [e]))⟩ (λc e=>by cases e; exact .inr rfl) (λb' hb=>⟨.inl hb,by rw [hsz]; rcases hb with hb | rfl; cases hb; exact hbs; exact hgs⟩) ?_
   refine ⟨b,es,clock,seen.push e.born,clock,rfl,(hother b hbg).trans h1,h2.st (λ_ h=>h) (λc hc=>hother c (λe=>hA (e ▸ hc))),h3,?_,Nat.le_refl _,.refl _,λk2 e2=> ?_⟩
   ·show (w1.heap.setIfInBounds _ _)[g]?=_
    rw [hw1.1]
    simp [hgs]
   ·cases e2
    exact ⟨rfl,e,Array.mem_toList_iff.2 he.1,hk,seen,rfl⟩
theorem Ac.men {x:Operand} {k:Int} (ho:o.op = .entry x) (hx:ev m x=some (.pointer (some ⟨g,0,none⟩))) :
  Ac G n m o [Ch.mit ty ag v l g R (some k)] [] (λu:Value=> .tuple #[.int .i64 k,u]) (λ_=>[Ch.mit ty ag v l g R none]) (λ_=>[]):=by
 refine Ac.run (v:=λu:Value=>some (.tuple #[.int .i64 k,u])) λA a w hf hs=> ?_
 have hok:=hs.ch _ (List.mem_singleton.2 rfl)
 obtain ⟨b,es,clock,seen,c0,rfl,h1,h2,h3,h4,h5,h6,h7⟩:=hok
 obtain ⟨rfl,e,he,hk,s0,rfl⟩:=h7 k rfl
 have hgs:g < w.heap.size:=(Array.getElem?_eq_some_iff.1 h4).1
 have hbs:b < w.heap.size:=(Array.getElem?_eq_some_iff.1 h1).1
 refine ⟨e.val,w,A,?_,SS.grown hs (ob:=Option.none) ⟨rfl,rfl,rfl,Nat.le_refl _,λ_ _ _=>rfl⟩ (λ_ e=>nomatch e) (λb' hb=>⟨.inl hb,by rcases hb with hb | rfl; cases hb; exact hbs; exact hgs⟩) ⟨b,es,c0,Array.push s0 e.born,c0,rfl,h1,h2,h3,h4,h5,h6,λk e=>nomatch e⟩⟩
 simp only [execOp,ho,hf.ev hx,Sem.run_bind,run_entry_at w g b c0 s0 es c0 e h4 h1 he h3.2.1,Result.andThen_ok,Sem.run_pure,nx,hk]
end
def Ivm {β σ ρ:Type} (A:σ->Option (σ ⊕ ρ)) (B:β->σ->Option (σ ⊕ ρ)) (r:ρ) (R:List β) (s:σ):Prop:= ∀ R',R'.Perm R->mC A B R' s=some r
section
variable {G : Pg} {n : Nd} {K : Key} {Q : Exit -> Act -> World -> Prop} {m : Env} {S : List Ch} {I : List Im}
theorem T.lpm {β ρ σ η:Type} {r:ρ} {c:Code} {a:σ->Option (σ ⊕ ρ)} {b:β->σ->Option (σ ⊕ ρ)} (M:List β->σ->η->Env) (SL:List β->σ->η->List Ch) (IL:List β->σ->η->List Im) {l:List β} {s:σ} (x:η) (is js:List Nat) {R:List Ch} (h:vw l (λR=>mC a b R s)=some r) (hm:sF m (M l s x)) (hS:ext S is=some (SL l s x,R)) (hJ:pick I js=some (IL l s x))
  (round: ∀ R s x,(R=[] -> ∃ z,a s=some z /\ ∀ r',z = .inr r'->r'=r)->(∀ e R',R.Perm (e::R') -> ∃ z,b e s=some z/\(∀ s',z = .inl s'->Ivm a b r R' s'/\R'.length < R.length) /\ ∀ r',z = .inr r'->r'=r)->Tw.T G n K (Exit.then (Mid n K (λp:(List β×σ)×η=>Ivm a b r p.1.1 p.1.2/\p.1.1.length < R.length) (λp=>M p.1.1 p.1.2 p.2) (λp=>SL p.1.1 p.1.2 p.2) (λp=>IL p.1.1 p.1.2 p.2)) Q) c (M R s x) (SL R s x) (IL R s x)):Tw.T G n K Q (.loop c) m S I:=by
 refine T.GK is js hm hS hJ ?_
 classical
 refine T.loop (r:=()) (σ:=(List β×σ)×η) (λk p=>if Ivm a b r p.1.1 p.1.2/\p.1.1.length < k then some () else none) (λp=>M p.1.1 p.1.2 p.2) (λp=>SL p.1.1 p.1.2 p.2) (λp=>IL p.1.1 p.1.2 p.2) (λs e=> ?_) ?_ (k:=l.length+1) (s:=((l,s),x)) (if_pos ⟨uW h,Nat.lt_succ_self _⟩)
 ·rw [if_neg (λh=>Nat.not_lt_zero _ h.2)] at e
  cases e
 ·rintro k ⟨⟨R,s⟩,x⟩ hs
  by_cases hc:Ivm a b r R s/\R.length < k+1
  ·intro A a' w hf hss
   refine Code.wpIn_mono ?_ (round R s x (λe=> ?_) (λe R' hp=> ?_) A a' w hf hss)
   ·intro e a' w' hq
    cases e with
    | normal =>
     obtain ⟨p,A',hp,hf',hs'⟩:=hq
     exact ⟨p,A',if_pos ⟨hp.1,by have:=hp.2; omega⟩,hf',hs'⟩
    | exit id=>exact hq
    | goto id=>exact hq
    | ret=>exact hq
    | panic ch=>exact hq
    | outgrown=>exact hq
   ·subst e
    have:=hc.1 [] (.refl _)
    simp only [mC] at this
    cases hz:a s with
    | none=>rw [hz] at this; cases this
    | some z =>
     rw [hz] at this
     refine ⟨z,rfl,λr' e=> ?_⟩
     subst e
     exact Option.some.inj this
   ·have h1:=hc.1 (e::R') hp.symm
    simp only [mC] at h1
    cases hz:b e s with
    | none=>rw [hz] at h1; cases h1
    | some z =>
     rw [hz] at h1
     refine ⟨z,rfl,λs' e2=>⟨λR2 hp2=> ?_,?_⟩,λr' e2=> ?_⟩
     ·subst e2
      have h2:=hc.1 (e::R2) ((hp2.cons e).trans hp.symm)
      simp only [mC,hz] at h2
      exact h2
     ·have:=hp.length_eq
      simp at this
      omega
     ·subst e2
      exact Option.some.inj h1
  ·rw [if_neg hc] at hs
   cases hs
end
end Go.Tw
namespace Go.Tw
open Go
def Ch.pr (p:Prop):Ch:=⟨λ_=>False,λ_ _=>p,λ_ _ _ h=>h⟩
section
variable {G : Pg} {n : Nd} {K : Key} {Q : Exit -> Act -> World -> Prop} {m : Env} {S : List Ch} {I : List Im} {ops : Array Oper}
theorem SS.prd {A:eL} {w:World} {p:Prop} (h:SS K A S I w) (i:Nat) (hS:S[i]?=some (Ch.pr p)):p/\SS K A (S.eraseIdx i) I w:=by
 have hi:=List.getElem?_eq_some_iff.1 hS
 refine ⟨by have:=h.st.ch _ (List.mem_of_getElem? hS); exact this,h.ux (λd hd=>h.st.ch d (List.mem_of_mem_eraseIdx hd)) (λb ⟨d,hd,hb⟩=>⟨d,List.mem_of_mem_eraseIdx hd,hb⟩) (h.st.dis.sublist (List.eraseIdx_sublist _ _)) h.st.im⟩
theorem L.prd (i:Nat) {p:Prop} {l:List Oper} (hS:S[i]?=some (Ch.pr p)) (h:p->L G n K ops Q l m (S.eraseIdx i) I):L G n K ops Q l m S I:=λA a w hf hs=>h (hs.prd i hS).1 A a w hf (hs.prd i hS).2
theorem E.prd (i:Nat) {p:Prop} {e0:Exit} (hS:S[i]?=some (Ch.pr p)) (h:p->E n K Q e0 m (S.eraseIdx i) I):E n K Q e0 m S I:=λA a w hf hs=>h (hs.prd i hS).1 A a w hf (hs.prd i hS).2
theorem SS.prc {A:eL} {w:World} {p:Prop} (h:SS K A S I w) (hp:p):SS K A (Ch.pr p::S) I w:=by
 refine ⟨⟨h.st.lt,?_,?_,List.pairwise_cons.2 ⟨λc hc b hb=>hb.elim,h.st.dis⟩,h.st.im⟩,⟨h.fx.os,h.fx.tape,h.fx.output,h.fx.size,h.fx.mR,h.fx.up,h.fx.dn,?_⟩⟩
 ·intro c hc
  rcases List.mem_cons.1 hc with rfl | hc
  ·exact hp
  ·exact h.st.ch c hc
 ·intro c hc b hb
  rcases List.mem_cons.1 hc with rfl | hc
  ·exact hb.elim
  ·exact h.st.own c hc b hb
 ·rintro b ⟨c,hc,hb⟩
  rcases List.mem_cons.1 hc with rfl | hc
  ·exact hb.elim
  ·exact h.fx.own b ⟨c,hc,hb⟩
theorem T.prc {p:Prop} {c:Code} (hp:p) (h:Tw.T G n K Q c m (Ch.pr p::S) I):Tw.T G n K Q c m S I:=λA a w hf hs=>h A a w hf (hs.prc hp)
theorem E.prc {p:Prop} {e0:Exit} (hp:p) (h:E n K Q e0 m (Ch.pr p::S) I):E n K Q e0 m S I:=λA a w hf hs=>h A a w hf (hs.prc hp)
theorem SS.mof {A:eL} {w:World} {α:Type} {ty:Ty α} {ag:Bool} {v:Option Nat} {l R:List (Int×α)} {g:Nat} {cur:Option Int} {S':List Ch} (is:List Nat) (hS:ext S is=some ([Ch.mit ty ag v l g R cur],S')) (hs:SS K A S I w):SS K A (Ch.mp ty ag v (some l)::S') I w:=by
 have h2:=hs.perm (dC hS) (λi hi=>hi)
 refine SS.frame (S':=[Ch.mp ty ag v (some l)]) (I':=[]) h2 ?_
 obtain ⟨b,es,clock,seen,c0,rfl,h1,h2',h3,h4,h5⟩:=h2.st.ch _ (List.mem_append_left _ (List.mem_singleton.2 rfl))
 have hst:St A [Ch.mit ty ag (some b) l g R cur] [] w:=h2.st.left (λ_ h=>by cases h)
 exact SS.grown hst (ob:=Option.none) ⟨rfl,rfl,rfl,Nat.le_refl _,λ_ _ _=>rfl⟩ (λ_ e=>nomatch e) (λb' hb=>⟨.inl (.inl hb),by cases hb; exact (Array.getElem?_eq_some_iff.1 h1).1⟩) (.inr ⟨b,l,es,clock,rfl,rfl,h1,h2',h3⟩)
theorem Ac.Hd {o:Oper} {α:Type} {ty:Ty α} {ag:Bool} {v:Option Nat} {mp:Mp α} {u:Unit} (h:chk mp.isSome=some u) {t kt e:Nat} {x:Operand} {ti:TI} (ho:o.op = .range t x) (hx:ev m x=some (.map v)) (ht:bL G.τ t=some ti) (hk:ti.k = .map kt e) :
  Ac G n m o [Ch.mp ty ag v mp] [] (λg:Nat=> .pointer (some ⟨g,0,none⟩)) (λg=>[Ch.mit ty ag v (mp.getD []) g (mp.getD []) none]) (λ_=>[]):=by
 cases mp with
 | none=>cases h
 | some l=>exact Ac.mrg ho hx ht hk
theorem T.He {α:Type} {ty:Ty α} {ag:Bool} {v:Option Nat} {mp:Mp α} {u:Unit} (h':chk mp.isSome=some u) {R:List (Int×α)} {g:Nat} {cur:Option Int} {c:Code} {S':List Ch} (is:List Nat) (hS:ext S is=some ([Ch.mit ty ag v (mp.getD []) g R cur],S')) (h:Tw.T G n K Q c m (Ch.mp ty ag v mp::S') I):Tw.T G n K Q c m S I:=by
 cases mp with
 | none=>cases h'
 | some l=>exact λA a w hf hs=>h A a w hf (SS.mof is hS hs)
theorem E.mof {α:Type} {ty:Ty α} {ag:Bool} {v:Option Nat} {l R:List (Int×α)} {g:Nat} {cur:Option Int} {e0:Exit} {S':List Ch} (is:List Nat) (hS:ext S is=some ([Ch.mit ty ag v l g R cur],S')) (h:E n K Q e0 m (Ch.mp ty ag v (some l)::S') I):E n K Q e0 m S I:=λA a w hf hs=>h A a w hf (SS.mof is hS hs)
end
def kY (s:Nat×(Int->Nat)) (x:Int):Option ((Nat×(Int->Nat))×Bool):=Option.bind (chk (cQ s.1 1 8)) λ_=>some ((s.1+1,λk=>s.2 k+[x].count k),true)
theorem zL {a b n:Nat} (h:a<=b) {u:Unit} (hb:chk (cQ b n 8)=some u):chk (cQ a n 8)=some ():=by
 have:=fm hb
 have h2:cQ a n 8=true:=by
  unfold cQ at this ⊢
  simp only [decide_eq_true_eq] at this ⊢
  omega
 rw [h2]
 rfl
theorem BU {α:Type}: ∀ (R:List (Int×α)) (s:Nat×(Int->Nat)) {u:Unit},chk (cQ (s.1+R.length) 1 8)=some u->mC (λs=>some (.inr s)) (λ(e:Int×α) s=>Option.bind (kY s e.1) λz=>bif !z.2 then some (.inr z.1) else some (.inl z.1)) R s=some (s.1+R.length,λk=>s.2 k+(R.map Prod.fst).count k)
 | [],s,_,h=>by simp [mC]
 | e::R,s,_,h=>by
  have h1:=zL (show s.1<=s.1+(e::R).length by omega) h
  have ih:=BU R (s.1+1,λk=>s.2 k+[e.1].count k) (u:=()) (zL (by simp; omega) h)
  have e1:s.1+1+R.length=s.1+(e::R).length:=by simp; omega
  have e2:(λk=>s.2 k+[e.1].count k+(R.map Prod.fst).count k)=λk=>s.2 k+((e::R).map Prod.fst).count k:=funext λk=>by
   rw [List.map_cons,List.count_cons,List.count_cons]
   simp only [List.count_nil]
   omega
  have hk:kY s e.1=some ((s.1+1,λk=>s.2 k+[e.1].count k),true):=by unfold kY; rw [h1]; rfl
  simp only [mC]
  rw [hk]
  refine Eq.trans ih ?_
  dsimp only
  rw [e1,e2]
theorem GQ {α:Type} (m:List (Int×α)) {u:Unit} (h:chk (cQ m.length 1 8)=some u):vw m (λR=>mC (λs=>some (.inr s)) (λ(e:Int×α) s=>Option.bind (kY s e.1) λz=>bif !z.2 then some (.inr z.1) else some (.inl z.1)) R (0,λ_=>0))=some (m.length,λk=>(m.map Prod.fst).count k):=by
 refine vx λR hR=> ?_
 rw [BU R (0,λ_=>0) (u:=()) (by rw [hR.length_eq,Nat.zero_add]; exact h),hR.length_eq]
 simp only [Nat.zero_add,Option.some.injEq,Prod.mk.injEq,true_and]
 exact funext λk=>(hR.map _).count_eq k
section
variable {G : Pg} {n : Nd} {m : Env} {o : Oper} {α : Type} {ty : Ty α} {xs ys zs : List α} {a0 a1 a2 : Option Addr} {c c1 c2 : Nat}
theorem GR {sz:Nat}:lE a0 c 0 sz=a0:=by
 unfold lE
 split
 ·rfl
 ·cases a0 <;> simp [Addr.add]
theorem Ef {T:Nat} {A:eL} {w:World} {hv:Int} {u:Unit} (hk0:chk (eN 0 hv xs.length)=some u) (hok:(Ch.arr ty T a0 c xs).ok A w):(Ch.arr ty T a0 c (cut xs 0 hv)).ok A w:=by
 obtain ⟨_,h1,h2⟩:=fm hk0
 have ec:cut xs 0 hv=xs.take hv.toNat:=by simp [cut]
 have hlen:(xs.take hv.toNat).length=hv.toNat:=by rw [List.length_take]; omega
 rw [ec]
 rcases kF hok with ⟨rfl,rfl,rfl⟩ | ⟨g,cur,cs,rfl,hb,h4,h5,h6,h7,h8⟩
 ·exact ⟨[],⟨by simp,.inl ⟨by simp,by simp⟩⟩,by simp; exact .nil⟩
 ·refine ⟨_,⟨?_,.inr ⟨g,c,cur,rfl,Nat.zero_le _,hb,by rw [hlen]; omega,h5,h6,?_⟩⟩,h8.take hv.toNat⟩
  ·rw [(h8.take hv.toNat).len]
  ·rw [hlen,<- h7,List.take_take,Nat.min_eq_left]
   exact Nat.mul_le_mul_right _ (by omega)
theorem Ac.app {t T:Nat} {x y:Operand} {hv:Int} {ti te:TI} {u u':Unit} (hk0:chk (eN 0 hv xs.length)=some u') (hlim:chk (cQ (cut xs 0 hv).length ys.length te.bytes)=some u) (ho:o.op = .call { callee:= .builtin .append,args:= #[x,y],argTypes:= #[t,t] }) (hx:ev m x=some (.slice (lE a0 c 0 ty.sz) (cut xs 0 hv).length (c - (0:Int).toNat))) (hy:ev m y=some (.slice a1 ys.length c1)) (ht:bL G.τ t=some ti) (hk:ti.k = .slice T) (he:bL G.τ T=some te) (hsz:(Nat.beq te.size ty.sz && Nat.beq te.zero.length ty.sz && Nat.blt 0 ty.sz && Nat.blt 0 te.bytes)=true) :
  Ac G n m o [Ch.arr ty T a0 c xs] [Im.sl ty a1 c1 ys] (λz:Option Addr×Nat=> .slice z.1 (cut xs 0 hv++ys).length z.2) (λz=>[Ch.arr ty T z.1 z.2 (cut xs 0 hv++ys)]) (λ_=>[]):=by
 rw [GR] at hx
 replace hx:ev m x=some (.slice a0 (cut xs 0 hv).length c):=hx
 intro A a w Kc Q hf hs hk2
 have hok:=hs.ch _ (List.mem_singleton.2 rfl)
 have h2:St A [Ch.arr ty T a0 c (cut xs 0 hv)] [Im.sl ty a1 c1 ys] w:=⟨hs.lt,λd hd=>by rw [List.mem_singleton.1 hd]; exact Ef hk0 hok,λd hd b hb=>by rw [List.mem_singleton.1 hd] at hb; exact hs.own _ (List.mem_singleton.2 rfl) b hb,List.pairwise_singleton _ _,hs.im⟩
 have e:Own [Ch.arr ty T a0 c (cut xs 0 hv)]=Own [Ch.arr ty T a0 c xs]:=funext λb=>propext ⟨λ⟨d,hd,hb⟩=>⟨_,List.mem_singleton.2 rfl,by rw [List.mem_singleton.1 hd] at hb; exact hb⟩,λ⟨d,hd,hb⟩=>⟨_,List.mem_singleton.2 rfl,by rw [List.mem_singleton.1 hd] at hb; exact hb⟩⟩
 exact Ac.ap hlim ho hx hy ht hk he hsz A a w Kc Q hf h2 λx w' A' h=>hk2 x w' A' (by rw [e] at h; exact h)
end
end Go.Tw
namespace Go.Tw
open Go Go.Deep
def Im.okW (w:World) (f:Im):Prop:=f.ok (λb=>b < w.heap.size) w
def Opn {α:Type} (P:Program) (t:TypeId) (ty:Ty α) (wf:α->Prop):Prop :=
 ∀ {H:Type} (enc:TypeId×Value->H) (w:World) (sp:Nat->Bool) (hd:Bool) (fuel:Nat) (cs:List Value) (x:DataW H×List MemPlace),DataW.trod enc P w 0 sp hd fuel t cs=some x -> ∃ y h,cs=ty.cs y h/\wf y /\ ∀ f∈ty.im y h,f.okW w
variable {P : Program} {α β : Type}
theorem Opn.int {t:TypeId} {k:IntKind} (ht:P.underlying t=some (.int k)):Opn P t (Ty.int k) (inK k):=by
 intro H enc w sp hd fuel cs x h
 obtain ⟨n,rfl,_,hw⟩:=DataW.trod_int ht h
 simp only [Lit.wf,Bool.and_eq_true,decide_eq_true_eq] at hw
 exact ⟨n,(),rfl,hw,λf hf=>by cases hf⟩
theorem Opn.str {t:TypeId} (ht:P.underlying t=some .string):Opn P t Ty.str (λs=>s.size<=maxLen):=by
 intro H enc w sp hd fuel cs x h
 obtain ⟨s,rfl,_,hs⟩:=DataW.trod_string ht h
 exact ⟨s,(),rfl,hs,λf hf=>by cases hf⟩
theorem BV {ty:Ty α} {wf:α->Prop} {A:eL} {w:World} {a:Addr}: ∀ n:Nat,(∀ i,i < n -> ∃ y h,(∀ j u,(ty.cs y h)[j]?=some u->w.cell? (a.add (i*ty.sz+j))=some u)/\wf y /\ ∀ f∈ty.im y h,f.ok A w) ->
  ∃ xs cs,xs.length=n/\Els ty A w xs cs/\(∀ j u,cs[j]?=some u->w.cell? (a.add j)=some u) /\ ∀ x∈xs,wf x
 | 0,_=>⟨[],[],rfl,.nil,by simp,by simp⟩
 | n+1,h=>by
  obtain ⟨xs,cs,hl,he,hc,hw⟩:=BV n λi hi=>h i (Nat.lt_succ_of_lt hi)
  obtain ⟨y,hd,h1,h2,h3⟩:=h n (Nat.lt_succ_self n)
  refine ⟨xs++[y],cs++(ty.cs y hd++[]),by simp [hl],he.app (.cons hd h3 .nil),?_,?_⟩
  ·intro j u hu
   rw [List.append_nil] at hu
   have hlen:=he.len
   rw [hl] at hlen
   by_cases hj:j < cs.length
   ·rw [List.getElem?_append_left hj] at hu
    exact hc j u hu
   ·rw [List.getElem?_append_right (by omega)] at hu
    have:=h1 (j - cs.length) u hu
    rw [hlen] at this hj
    rwa [show n*ty.sz+(j - n*ty.sz)=j by omega] at this
  ·intro x hx
   rcases List.mem_append.1 hx with hx | hx
   ·exact hw x hx
   ·rw [List.mem_singleton.1 hx]; exact h2
theorem Opn.slice {t e:TypeId} {ty:Ty α} {wf:α->Prop} (ht:P.underlying t=some (.slice e)) (he:Opn P e ty wf) (hsz:P.cellsOf e=ty.sz) (hpos:0 < ty.sz):Opn P t (Ty.slice ty) (λxs=> ∀ x∈xs,wf x):=by
 intro H enc w sp hd fuel cs x h
 rcases open_slice ht h with ⟨rfl,_⟩ | ⟨a,len,cap,m,n,D,Pl,rfl,hb,hl,hm,hmm,_,hx⟩
 ·exact ⟨[],(none,0),rfl,by simp,λf hf=>by rw [List.mem_singleton.1 hf]; exact Im.bV _ _⟩
 ·have hlm:len<=m:=by rw [hmm]; split <;> omega
  obtain ⟨xs,cs,h1,h2,h3,h4⟩:=BV (ty:=ty) (wf:=wf) (A:=λb=>b < w.heap.size) (w:=w) (a:=a) len λi hi=>by
   obtain ⟨cs',h5,h6⟩:=hx i (Nat.lt_of_lt_of_le hi hlm)
   obtain ⟨y,hh,rfl,hw,hf⟩:=he enc w sp hd n cs' _ h6
   refine ⟨y,hh,λj u hu=> ?_,hw,hf⟩
   obtain ⟨_,hlen,hc⟩:=World.cells?_some h5
   have hj:j < P.cellsOf e:=by rw [<- hlen]; exact (List.getElem?_eq_some_iff.1 hu).1
   rw [<- hsz,<- add_add,hc j hj]
   exact hu
  refine ⟨xs,(some a,cap),by rw [<- h1]; rfl,h4,λf hf=> ?_⟩
  rw [List.mem_singleton.1 hf]
  refine ⟨by rw [h1]; exact hl,?_⟩
  cases hxs:xs with
  | nil=>exact .inl rfl
  | cons x0 xr =>
   right
   have hcl:=h2.len
   have hpos2:0 < cs.length:=by
    rw [hcl,hxs,List.length_cons]
    exact Nat.mul_pos (Nat.succ_pos _) hpos
   have hc0:=h3 0 cs[0] (by simp [hpos2])
   have ha0:a.add 0=a:=by simp [Addr.add]
   rw [ha0] at hc0
   have hsp:a.spot=none/\a.block < w.heap.size:=by
    unfold World.cell? at hc0
    split at hc0
    ·rename_i hh
     have hlt:=(Array.getElem?_eq_some_iff.1 hh).1
     split at hc0
     ·cases hc0
     ·rename_i hs
      refine ⟨?_,hlt⟩
      cases hsp:a.spot with
      | none=>rfl
      | some _=>rw [hsp] at hs; simp at hs
    ·cases hc0
   obtain ⟨b,o,s⟩:=a
   obtain ⟨rfl,hlt⟩:=hsp
   refine ⟨b,o,cs,rfl,hlt,by rw [<- hxs]; exact h2,λj u hu=> ?_⟩
   have:=h3 j u hu
   rwa [add_lit] at this
inductive AL (P:Program):Nat->List (Nat×Nat)->{α:Type}->Ty α->(α->Prop)->Prop where
 | nil {o}:AL P o [] (⟨0,Unit,λ_ _=>[],λ_ _=>[],λ_ _=>rfl,by simp⟩:Ty Unit) (λ_=>True)
 | cons {α β:Type} {o t r} {ta:Ty α} {tb:Ty β} {wa:α->Prop} {wb:β->Prop} (ha:Opn P t ta wa) (hsz:P.cellsOf t=ta.sz) (hr:AL P (o+ta.sz) r tb wb):AL P o ((t,o)::r) (Ty.pair ta tb) (λy=>wa y.1/\wb y.2)
theorem AL.open {H:Type} {enc:TypeId×Value->H} {w:World} {sp:Nat->Bool} {hd:Bool} {n:Nat} {cs:List Value} {o:Nat} {fs:List (Nat×Nat)} {ty:Ty α} {wf:α->Prop} (h:AL P o fs ty wf) (hc:cs.length=o+ty.sz) (hx: ∀ f∈fs,∃ x,DataW.trod enc P w 0 sp hd n f.1 ((cs.drop f.2).take (P.cellsOf f.1))=some x): ∃ y h,cs.drop o=ty.cs y h/\wf y /\ ∀ f∈ty.im y h,f.okW w:=by
 induction h with
 | nil=>exact ⟨(),(),List.drop_of_length_le (Nat.le_of_eq hc),trivial,λf hf=>by cases hf⟩
 | @cons α β o t r ta tb wa wb ha hsz hr ih =>
  obtain ⟨x,hx0⟩:=hx (t,o) (by simp)
  obtain ⟨y,hy,e,hw,hf⟩:=ha enc w sp hd n _ x hx0
  have hc':cs.length=o+ta.sz+tb.sz:=by rw [hc]; show o+(ta.sz+tb.sz)=_; omega
  obtain ⟨z,hz,e2,hw2,hf2⟩:=ih hc' λf hf=>hx f (by simp [hf])
  refine ⟨(y,z),(hy,hz),?_,⟨hw,hw2⟩,λf hf'=> ?_⟩
  ·show _=ta.cs y hy++tb.cs z hz
   rw [<- e,<- e2,hsz,<- List.drop_drop]
   exact (List.take_append_drop _ _).symm
  ·rcases List.mem_append.1 hf' with h | h
   ·exact hf f h
   ·exact hf2 f h
def vy (P:Program) (t:TypeId) (fs:List (Nat×Nat)):Bool:=match P.underlying t with
 | some (.struct a)=>fsb fs a.toList
 | _=>false
theorem yH {t:TypeId} {fs:List (Nat×Nat)} (h:vy P t fs=true): ∃ fa,P.underlying t=some (.struct fa)/\fsb fs fa.toList=true:=by
 unfold vy at h
 split at h
 ·rename_i a ha; exact ⟨a,ha,h⟩
 ·cases h
theorem Opn.struct {t:TypeId} {fs:List (Nat×Nat)} {ty:Ty α} {wf:α->Prop} (hst:vy P t fs=true) (hsz:P.cellsOf t=ty.sz) (h:AL P 0 fs ty wf):Opn P t ty wf:=by
 obtain ⟨fa,ht,hfs⟩:=yH hst
 intro H enc w sp hd fuel cs x hx
 obtain ⟨xs,n,rfl,_,hlen,hxl,hfx⟩:=DataW.trod_struct ht hx
 have he:=yy hfs
 obtain ⟨y,hh,e,hw,hf⟩:=h.open (enc:=enc) (w:=w) (sp:=sp) (hd:=hd) (n:=n) (cs:=cs) (by rw [hlen,hsz,Nat.zero_add]) λf hf=>by
  rw [<- he] at hf
  obtain ⟨f0,hf0,rfl⟩:=List.mem_map.1 hf
  obtain ⟨i,hi⟩:=List.getElem?_of_mem hf0
  have hi':fa[i]?=some f0:=by simpa using hi
  have h1:=hfx i f0 hi'
  have hlt:i < xs.length:=by rw [hxl]; exact (Array.getElem?_eq_some_iff.1 hi').1
  exact ⟨xs[i],by rw [h1]; simp [hlt]⟩
 exact ⟨y,hh,e,hw,hf⟩
theorem Opn.to {t:TypeId} {ty:Ty α} {ty':Ty β} {wf:α->Prop} {wf':β->Prop} (g:α->β) (gh:ty.Hid->ty'.Hid) (h:Opn P t ty wf) (h1: ∀ y hh,ty'.cs (g y) (gh hh)=ty.cs y hh) (h2: ∀ y hh,ty'.im (g y) (gh hh)=ty.im y hh) (h3: ∀ y,wf y->wf' (g y)):Opn P t ty' wf':=by
 intro H enc w sp hd fuel cs x hx
 obtain ⟨y,hh,e,hw,hf⟩:=h enc w sp hd fuel cs x hx
 exact ⟨g y,gh hh,by rw [h1]; exact e,h3 y hw,by rw [h2]; exact hf⟩
def rZ {H:Type}:Nat->DataW H->List Value
 | _,.lit (.int k n)=>[.int k n]
 | _,.lit (.bool b)=>[.bool b]
 | d+1,.agg l=>l.flatMap (rZ d)
 | _,_=>[]
def zM (P:Program) (f:TypeId->Bool):Nat->List (Nat×Nat)->Nat->Bool
 | o,[],m=>Nat.beq o m
 | o,(t,o')::r,m=>Nat.beq o o' && f t && zM P f (o+P.cellsOf t) r m
def uY (P:Program):Nat->TypeId->Bool
 | 0,_=>false
 | d+1,t=>match P.underlying t with
  | some (.int _)=>true
  | some .bool=>true
  | some (.struct fa)=>zM P (uY P d) 0 (fa.toList.map λf=>(f.type,f.offset)) (P.cellsOf t)
  | some (.array n e)=>Nat.beq (P.cellsOf t) (n*P.cellsOf e) && uY P d e
  | _=>false
theorem zO {γ:Type} {sz:Nat} {f:Nat->List γ}: ∀ {n:Nat} {cs:List γ},cs.length=n*sz->(∀ i,i < n->(cs.drop (i*sz)).take sz=f i)->cs=(List.range n).flatMap f
 | 0,cs,hl,_=>by
  have:cs=[]:=List.eq_nil_of_length_eq_zero (by simpa using hl)
  simp [this]
 | n+1,cs,hl,h=>by
  have h1:=zO (sz:=sz) (n:=n) (cs:=cs.take (n*sz)) (f:=f) (by rw [List.length_take,hl,Nat.succ_mul]; omega) λi hi=>by
   rw [<- h i (Nat.lt_succ_of_lt hi)]
   have hle:(i+1)*sz<=n*sz:=Nat.mul_le_mul_right sz hi
   rw [Nat.succ_mul] at hle
   rw [List.drop_take,List.take_take]
   congr 1
   omega
  have h2:=h n (Nat.lt_succ_self n)
  rw [List.range_succ,List.flatMap_append,<- h1]
  have h3:(cs.drop (n*sz)).take sz=cs.drop (n*sz):=List.take_of_length_le (by rw [List.length_drop,hl,Nat.succ_mul]; omega)
  rw [h3] at h2
  simp only [List.flatMap_cons,List.flatMap_nil,List.append_nil,<- h2]
  exact (List.take_append_drop _ _).symm
theorem sb {H:Type} {enc:TypeId×Value->H} {w:World} {sp:Nat->Bool} {hd:Bool} {f:TypeId->Bool} {g:DataW H->List Value} (hf: ∀ t,f t=true -> ∀ {fuel:Nat} {cs:List Value} {x:DataW H×List MemPlace},DataW.trod enc P w 0 sp hd fuel t cs=some x->cs=g x.1): ∀ {fs:List (Nat×Nat)} {o m:Nat},zM P f o fs m=true -> ∀ {n:Nat} {cs:List Value} {xs:List (DataW H×List MemPlace)},cs.length=m->(∀ (i:Nat) (f:Nat×Nat),fs[i]?=some f->DataW.trod enc P w 0 sp hd n f.1 ((cs.drop f.2).take (P.cellsOf f.1))=xs[i]?)->xs.length=fs.length->cs.drop o=xs.flatMap λx=>g x.1
 | [],o,m,hb,n,cs,xs,hl,_,hx=>by
  have:xs=[]:=List.eq_nil_of_length_eq_zero hx
  subst this
  have:=Nat.eq_of_beq_eq_true hb
  exact List.drop_of_length_le (by omega)
 | (t,o')::r,o,m,hb,n,cs,xs,hl,h,hx=>by
  simp only [zM,Bool.and_eq_true] at hb
  obtain rfl:=Nat.eq_of_beq_eq_true hb.1.1
  cases xs with
  | nil=>simp at hx
  | cons x xs =>
   have h0:=h 0 (t,o) rfl
   have e0:=hf t hb.1.2 h0
   have e1:=sb hf hb.2 (n:=n) (cs:=cs) (xs:=xs) hl (λi f hi=>h (i+1) f hi) (by simpa using hx)
   rw [List.flatMap_cons,<- e0,<- e1,<- List.drop_drop]
   exact (List.take_append_drop _ _).symm
theorem pI {H:Type} {enc:TypeId×Value->H} {w:World} {sp:Nat->Bool} {hd:Bool}: ∀ {d:Nat} {t:TypeId},uY P d t=true -> ∀ {fuel:Nat} {cs:List Value} {x:DataW H×List MemPlace},DataW.trod enc P w 0 sp hd fuel t cs=some x->cs=rZ d x.1
 | 0,t,hb,fuel,cs,x,h=>by cases hb
 | d+1,t,hb,fuel,cs,x,h=>by
  unfold uY at hb
  split at hb
  ·rename_i ht
   obtain ⟨n,rfl,rfl,_⟩:=DataW.trod_int ht h
   rfl
  ·rename_i ht
   obtain ⟨b,rfl,rfl⟩:=DataW.trod_bool ht h
   rfl
  ·rename_i fa ht
   obtain ⟨xs,n,rfl,rfl,hlen,hxl,hfx⟩:=DataW.trod_struct ht h
   have key:=sb (g:=rZ d) (λt ht=>pI ht) hb (enc:=enc) (w:=w) (sp:=sp) (hd:=hd) (n:=n) (cs:=cs) (xs:=xs) hlen (λi f hi=>by
    rw [List.getElem?_map] at hi
    cases hfa:fa[i]? with
    | none=>simp [hfa] at hi
    | some f0 =>
     simp [hfa] at hi
     subst hi
     exact hfx i f0 hfa) (by rw [hxl,List.length_map,Array.length_toList])
   show cs=(xs.map (·.1)).flatMap (rZ d)
   rw [List.flatMap_map]
   simpa using key
  ·rename_i m e ht
   simp only [Bool.and_eq_true] at hb
   have hc:=Nat.eq_of_beq_eq_true hb.1
   obtain ⟨xs,n,rfl,rfl,hlen,hxl,hfx⟩:=DataW.trod_array ht h
   show cs=(xs.map (·.1)).flatMap (rZ d)
   rw [List.flatMap_map]
   have h1: ∀ i,i < m->(cs.drop (i*P.cellsOf e)).take (P.cellsOf e)=((xs[i]?).map λx=>rZ d x.1).getD []:=λi hi=>by
    have h2:=hfx i hi
    have hlt:i < xs.length:=by rw [hxl]; exact hi
    rw [List.getElem?_eq_getElem hlt] at h2 ⊢
    exact pI hb.2 h2
   rw [zO (by rw [hlen,hc]) h1]
   clear h1 hfx
   subst hxl
   rw [flatMap_by_index xs (.nil,[]) λx=>rZ d x.1]
   exact flatMap_congr_range λi hi=>by simp [List.getD,hi]
  ·cases hb
theorem AM {w:World} {name:String} {d:DataW Unit} {laid:List (String×DataW Unit)} {ps:List MemPlace} {g:Nat} {t:TypeId} (h:DataW.LaidVars P w laid ps) (hm:(name,d)∈laid) (hg:P.globalNamed name=some g) (hty:(P.globals[g]?).map (·.type)=some t) {dp:Nat} (hf:uY P dp t=true): ∀ i,w.cell? ⟨g,i,none⟩=(rZ dp d)[i]?:=by
 induction laid generalizing ps with
 | nil=>cases hm
 | cons y laid ih =>
  obtain ⟨n,d'⟩:=y
  obtain ⟨g',t',cs,fuel,p,q,hg',ht',hvar,hd,hr,_⟩:=h
  rcases List.mem_cons.1 hm with e | hm
  ·injection e with e1 e2
   subst e1 e2
   obtain rfl:=Option.some.inj (hg.symm.trans hg')
   obtain rfl:=Option.some.inj (hty.symm.trans ht')
   have:=pI hf hd
   intro i
   rw [World.var?_cell hg hvar i,<- this]
   simp
  ·exact ih hr hm
theorem FZ {ty:Ty α} {w:World} {g n:Nat} {cs:List Value} {xs:List α} (h0:ty.Hid) (hfree: ∀ x,ty.im x h0=[]) (hc: ∀ i,w.cell? ⟨g,i,none⟩=cs[i]?) (he:cs=xs.flatMap λx=>ty.cs x h0) (hn:xs.length<=n) (hlt:g < w.heap.size):(Im.sl ty (some ⟨g,0,none⟩) n xs).okW w:=by
 refine ⟨hn,.inr ⟨g,0,cs,rfl,hlt,?_,λj u hu=>by rw [Nat.zero_add,hc]; exact hu⟩⟩
 rw [he]
 clear he hc hn
 induction xs with
 | nil=>exact .nil
 | cons x xs ih=>exact .cons h0 (λf hf=>by rw [hfree] at hf; cases hf) ih
theorem F0 {w:World} {g:Nat} {cs:List Value} (hc: ∀ i,w.cell? ⟨g,i,none⟩=cs[i]?) (hpos:0 < cs.length):g < w.heap.size:=by
 have h:=hc 0
 rw [List.getElem?_eq_getElem hpos] at h
 unfold World.cell? at h
 split at h
 ·rename_i hh; exact (Array.getElem?_eq_some_iff.1 hh).1
 ·cases h
theorem SS.below {w w':World} {A A':eL} {S':List Ch} {I':List Im} (h:SS ⟨w,A,Own []⟩ A' S' I' w'):RowKit.Below w.heap.size w w' :=
 ⟨h.fx.os,h.fx.tape,h.fx.output,h.fx.size,λk hk=>h.fx.mR k hk λ⟨c,hc,_⟩=>by cases hc⟩
theorem St.first {w:World} {I:List Im} (h: ∀ f∈I,f.okW w):St (λb=>b < w.heap.size) [] I w :=
 ⟨λ_ h=>h,(λ_ h=>by cases h),(λ_ h=>by cases h),List.Pairwise.nil,h⟩
end Go.Tw
namespace Go.Tw
open Go
theorem GS {k:IntKind} {n m:Int} (e:(Value.int k n).cells.toList=[Value.int k m]):m=n:=by simpa [Value.cells,eq_comm] using e
theorem Hf {a b:Option Addr} {n m c d:Nat} (e:(Value.slice a n c).cells.toList=[Value.slice b m d]):a=b/\n=m/\c=d:=by simpa [Value.cells] using e
theorem w64 {x:Int} (h1: -9223372036854775808<=x) (h2:x<=9223372036854775807):IntKind.i64.wrap x=x:=by rw [IntKind.wrap_i64]; omega
theorem qg {α:Type} (xs:List α) (n:Nat):idx xs (n:Int)=xs[n]?:=by simp [idx]
theorem sS {α:Type} (l r:List α) (x:α):idx (l++x::r) (l.length:Int)=some x:=by rw [qg]; simp
theorem jA {p:Prop} [Decidable p] (h:p):chk (decide p)=some ():=by simp [chk,h]
theorem bQ {n m b:Nat} (h:(n+m)*b<=140737488355328):chk (cQ n m b)=some ():=jA h
theorem cX {lo hi n:Int} (h0:0<=lo) (h1:lo<=hi) (h2:hi<=n):chk (eN lo hi n)=some ():=jA ⟨h0,h1,h2⟩
theorem rB {k:Int} {b:Nat} (h0:0<=k) (h1:k*b<=140737488355328) (h2:k<=140737488355328):chk (tA k b)=some ():=jA ⟨h0,h1,h2⟩
theorem AN {k:Int} {b:Nat} (h0:0 < k) (h1:k*b<=140737488355328) (h2:k<=140737488355328):chk (FN k b)=some ():=jA ⟨h0,h1,h2⟩
theorem aA {α β:Type _} (x:α) (f:α->Option β):Option.bind (some x) f=f x:=rfl
end Go.Tw

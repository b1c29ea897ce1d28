import Derived.Test.YtmekokacemcfoaaGreatDoorFw1
import Derived.MapKept
import Derived.Deep.Slices
import Derived.OpenShut
import Derived.Carry
import Derived.ChangeVars
import Derived.WideShapes
import Derived.Below
set_option linter.unusedVariables false
set_option linter.unusedSimpArgs false
namespace Go.Tw
open Go
theorem filter_lt {α:Type} {p q:α→Bool} (hpq: ∀ x,q x=true→p x=true): ∀ {l:List α} {x:α},x∈l→p x=true→q x=false→(l.filter q).length < (l.filter p).length
  | [],_,h,_,_=>by cases h
  | y::l,x,h,hp,hq=>by
    have hle: ∀ l:List α,(l.filter q).length≤(l.filter p).length:=by
      intro l
      induction l with
      | nil=>exact Nat.le_refl _
      | cons z l ih =>
        rw [List.filter_cons,List.filter_cons]
        split
        · rename_i hz
          rw [if_pos (hpq z hz)]
          simpa using ih
        · split
          · simp only [List.length_cons]
            omega
          · exact ih
    rw [List.filter_cons,List.filter_cons]
    rcases List.mem_cons.1 h with rfl | h
    · rw [if_pos hp,if_neg (by rw [hq]; simp)]
      have:=hle l
      simp only [List.length_cons]
      omega
    · have ih:=filter_lt hpq h hp hq
      split
      · rename_i hz
        rw [if_pos (hpq y hz)]
        simpa using ih
      · split
        · simp only [List.length_cons]
          omega
        · exact ih
def unl (n:Nat) (L:List Nat):Nat:=((List.range n).filter fun i=> !mem i L).length
theorem pq {n i:Nat} {L:List Nat} (h:i < n) (hi:mem i L=false):unl n (i::L)+1≤unl n L:=by
  unfold unl
  refine filter_lt (p:=fun j=> !mem j L) (q:=fun j=> !mem j (i::L)) ?_ (x:=i) (by simpa using h) (by simp [hi]) (by simp [mem])
  intro x hx
  simp only [mem,Bool.not_eq_true',Bool.or_eq_false_iff] at hx ⊢
  exact hx.2
theorem By {n i:Nat} {L:List Nat} (h:i < n) (hi:mem i L=false):0 < unl n L:=by
  have:=pq h hi
  omega
theorem mg {i:Nat} {l:List Nat}:mem i l=false ↔ ¬ i∈l:=by
  constructor
  · intro h h2
    rw [mem_iff.2 h2] at h
    cases h
  · intro h
    cases hb:mem i l with
    | false=>rfl
    | true=>exact absurd (mem_iff.1 hb) h
structure FO where
  i:Nat
  d:Nat
  σ:Type
  v:σ→Value
  S:σ→List Ch
  J:σ→List Im
def fwd (ops:List Oper):Nat→List Oper→Bool
  | _,[]=>true
  | k,o::r=>o.after.toList.all (fun e=> !jy e || Nat.blt e.on k) && fwd ops (k+1) r
theorem uI {ops:List Oper}: ∀ {r:List Oper} {k:Nat},fwd ops k r=true → ∀ j oj,r[j]?=some oj → ∀ e∈oj.after,jy e=true→e.on < k+j
  | [],_,_,j,oj,h=>by simp at h
  | o::r,k,h,j,oj,hj=>by
    simp only [fwd,Bool.and_eq_true] at h
    cases j with
    | zero =>
      simp at hj
      subst hj
      intro e he hb
      have:=List.all_eq_true.1 h.1 e (by simpa using he)
      rw [hb] at this
      have:=fE (by simpa using this)
      omega
    | succ j =>
      have:=uI h.2 j oj (by simpa using hj)
      intro e he hb
      have:=this e he hb
      omega
def oy (i:Nat):List FO→Bool
  | []=>false
  | f::F=>Nat.beq i f.i || oy i F
theorem jJ {i:Nat}: ∀ {F:List FO},oy i F=true ↔ ∃ f∈F,f.i=i
  | []=>by simp [oy]
  | f::F=>by
    simp only [oy,Bool.or_eq_true,jJ (F:=F),List.mem_cons]
    constructor
    · rintro (h | ⟨g,hg,h⟩)
      · exact ⟨f,.inl rfl,(Nat.eq_of_beq_eq_true h).symm⟩
      · exact ⟨g,.inr hg,h⟩
    · rintro ⟨g,rfl | hg,h⟩
      · left
        rw [h]
        exact Nat.beq_refl _
      · exact .inr ⟨g,hg,h⟩
def rS (F:List FO) (l:List Nat):Nat→List Oper→List Nat
  | _,[]=>[]
  | i,o::r=>match !mem i l && !oy i F && o.after.toList.all (fun e=> !jy e || mem e.on l || oy e.on F) with
    | true=>i::rS F l (i+1) r
    | false=>rS F l (i+1) r
theorem td {F:List FO} {l:List Nat}: ∀ {r:List Oper} {k i:Nat},(∃ j o,i=k+j∧r[j]?=some o∧(!mem i l && !oy i F && o.after.toList.all (fun e=> !jy e || mem e.on l || oy e.on F))=true)→i∈rS F l k r
  | [],k,i,⟨j,o,_,h,_⟩=>by simp at h
  | o::r,k,i,⟨j,o',he,h1,h2⟩=>by
    simp only [rS]
    cases j with
    | zero =>
      simp at h1
      subst h1
      rw [Nat.add_zero] at he
      subst he
      rw [h2]
      exact List.mem_cons_self ..
    | succ j =>
      have ih:=td (F:=F) (l:=l) (r:=r) (k:=k+1) (i:=i) ⟨j,o',by omega,by simpa using h1,h2⟩
      split
      · exact List.mem_cons_of_mem _ ih
      · exact ih
def fnd:List FO→Bool
  | []=>true
  | f::F=> !oy f.i F && fnd F
theorem zt: ∀ {F:List FO},fnd F=true → ∀ {f g:FO},f∈F→g∈F→f.i=g.i→f=g
  | [],_,_,_,h,_,_=>by cases h
  | x::F,h,f,g,hf,hg,he=>by
    simp only [fnd,Bool.and_eq_true,Bool.not_eq_true'] at h
    rcases List.mem_cons.1 hf with e1 | hf1
    · rcases List.mem_cons.1 hg with e2 | hg1
      · rw [e1,e2]
      · have h3:oy x.i F=true:=jJ.2 ⟨g,hg1,by rw [← he,e1]⟩
        rw [h.1] at h3
        cases h3
    · rcases List.mem_cons.1 hg with e2 | hg1
      · have h3:oy x.i F=true:=jJ.2 ⟨f,hf1,by rw [he,e2]⟩
        rw [h.1] at h3
        cases h3
      · exact zt h.2 hf1 hg1 he
def fok (F:List FO) (m:Env):Bool:=fnd F && F.all fun f=>(look m f.d).isNone && F.all fun g=>Nat.beq f.i g.i || !Nat.beq f.d g.d
def onb (ops:List Oper) (j i:Nat):Bool:=match ops[j]? with
  | some oj=>oj.after.toList.any fun e=>jy e && Nat.beq e.on i
  | none=>false
def Exd (a:Act) (A:dN) (w:World):List FO→List Nat→List Ch→Prop
  | [],_,R=>R=[]
  | f::F,L,R=>(¬ f.i∈L∧Exd a A w F L R)∨(f.i∈L ∧ ∃ x R',a.tmps.getD f.d undef=f.v x∧(∀ g∈f.J x,g.ok A w)∧R=f.S x++R'∧Exd a A w F L R')
theorem Exd.get {a:Act} {A:dN} {w:World} {L:List Nat}: ∀ {F:List FO} {R:List Ch},Exd a A w F L R → ∀ f∈F,f.i∈L → ∃ x,a.tmps.getD f.d undef=f.v x ∧ ∀ g∈f.J x,g.ok A w
  | [],_,_,f,hf,_=>by cases hf
  | h::F,R,he,f,hf,hL=>by
    rcases he with ⟨h1,h2⟩ | ⟨h1,x,R',h2,h3,h4,h5⟩
    · rcases List.mem_cons.1 hf with rfl | hf
      · exact absurd hL h1
      · exact Exd.get h2 f hf hL
    · rcases List.mem_cons.1 hf with rfl | hf
      · exact ⟨x,h2,h3⟩
      · exact Exd.get h5 f hf hL
theorem Exd.mono {a a':Act} {A A':dN} {w w':World} {L L':List Nat} (hk: ∀ g:Im,g.ok A w→g.ok A' w'): ∀ {F:List FO} {R:List Ch},(∀ f∈F,a'.tmps.getD f.d undef=a.tmps.getD f.d undef)→(∀ f∈F,f.i∈L'↔f.i∈L)→Exd a A w F L R→Exd a' A' w' F L' R
  | [],_,_,_,he=>he
  | h::F,R,hs,hL,he=>by
    rcases he with ⟨h1,h2⟩ | ⟨h1,x,R',h2,h3,h4,h5⟩
    · exact .inl ⟨fun hh=>h1 ((hL h (List.mem_cons_self ..)).1 hh),h2.mono hk (fun f hf=>hs f (List.mem_cons_of_mem _ hf)) fun f hf=>hL f (List.mem_cons_of_mem _ hf)⟩
    · exact .inr ⟨(hL h (List.mem_cons_self ..)).2 h1,x,R',(hs h (List.mem_cons_self ..)).trans h2,fun g hg=>hk g (h3 g hg),h4,h5.mono hk (fun f hf=>hs f (List.mem_cons_of_mem _ hf)) fun f hf=>hL f (List.mem_cons_of_mem _ hf)⟩
theorem Exd.exec {a a':Act} {A A':dN} {w w':World} {L:List Nat} {f:FO} {x:f.σ} (hk: ∀ g:Im,g.ok A w→g.ok A' w') (hL: ¬ f.i∈L) (hv:a'.tmps.getD f.d undef=f.v x) (hJ: ∀ g∈f.J x,g.ok A' w'): ∀ {F:List FO} {R:List Ch},fnd F=true→(∀ g∈F,g.i≠f.i→a'.tmps.getD g.d undef=a.tmps.getD g.d undef)→f∈F→Exd a A w F L R → ∃ R',Exd a' A' w' F (f.i::L) R'∧R'.Perm (f.S x++R)
  | [],_,_,_,hf,_=>by cases hf
  | h::F,R,hn,hs,hf,he=>by
    have hn':=hn
    simp only [fnd,Bool.and_eq_true,Bool.not_eq_true'] at hn'
    have hnot: ∀ g∈F,g.i≠h.i:=fun g hg e=>by
      have:=jJ.2 ⟨g,hg,e⟩
      rw [hn'.1] at this
      cases this
    by_cases hhf:h.i=f.i
    · obtain rfl:=zt hn (List.mem_cons_self ..) hf hhf
      rcases he with ⟨h1,h2⟩ | ⟨h1,_⟩
      · refine ⟨h.S x++R,.inr ⟨List.mem_cons_self ..,x,R,hv,hJ,rfl,?_⟩,List.Perm.refl _⟩
        refine h2.mono hk (fun g hg=>hs g (List.mem_cons_of_mem _ hg) (hnot g hg)) fun g hg=> ?_
        rw [List.mem_cons]
        exact ⟨fun hh=>hh.resolve_left (hnot g hg),.inr⟩
      · exact absurd h1 hL
    · have hfF:f∈F:=(List.mem_cons.1 hf).resolve_left fun e=>hhf (by rw [e])
      have hs': ∀ g∈F,g.i≠f.i→a'.tmps.getD g.d undef=a.tmps.getD g.d undef:=fun g hg=>hs g (List.mem_cons_of_mem _ hg)
      rcases he with ⟨h1,h2⟩ | ⟨h1,y,R1,h2,h3,h4,h5⟩
      · obtain ⟨R',h6,h7⟩:=Exd.exec hk hL hv hJ hn'.2 hs' hfF h2
        exact ⟨R',.inl ⟨fun hh=>h1 ((List.mem_cons.1 hh).resolve_left hhf),h6⟩,h7⟩
      · obtain ⟨R',h6,h7⟩:=Exd.exec hk hL hv hJ hn'.2 hs' hfF h5
        refine ⟨h.S y++R',.inr ⟨List.mem_cons_of_mem _ h1,y,R',(hs h (List.mem_cons_self ..) hhf).trans h2,fun g hg=>hk g (h3 g hg),rfl,h6⟩,?_⟩
        rw [h4]
        refine (h7.append_left (h.S y)).trans ?_
        rw [← List.append_assoc,← List.append_assoc]
        exact List.perm_append_comm.append_right R1
theorem Exd.Dz {a:Act} {A:dN} {w:World} {L:List Nat} {f:FO} (hL:f.i∈L): ∀ {F:List FO} {R:List Ch} {k:Nat},F[k]?=some f→Exd a A w F L R → ∃ x R',a.tmps.getD f.d undef=f.v x∧(∀ g∈f.J x,g.ok A w)∧R.Perm (f.S x++R')∧Exd a A w (F.eraseIdx k) L R'
  | [],_,k,hk,_=>by simp at hk
  | h::F,R,0,hk,he=>by
    simp at hk
    subst hk
    rcases he with ⟨h1,_⟩ | ⟨_,x,R',h2,h3,h4,h5⟩
    · exact absurd hL h1
    · exact ⟨x,R',h2,h3,by rw [h4],by simpa using h5⟩
  | h::F,R,k+1,hk,he=>by
    have hk':F[k]?=some f:=by simpa using hk
    rcases he with ⟨h1,h2⟩ | ⟨h1,y,R1,h2,h3,h4,h5⟩
    · obtain ⟨x,R',q1,q2,q3,q4⟩:=Exd.Dz hL hk' h2
      exact ⟨x,R',q1,q2,q3,by rw [List.eraseIdx_cons_succ]; exact .inl ⟨h1,q4⟩⟩
    · obtain ⟨x,R',q1,q2,q3,q4⟩:=Exd.Dz hL hk' h5
      refine ⟨x,h.S y++R',q1,q2,?_,by rw [List.eraseIdx_cons_succ]; exact .inr ⟨h1,y,R',h2,h3,rfl,q4⟩⟩
      rw [h4]
      refine (q3.append_left (h.S y)).trans ?_
      rw [← List.append_assoc,← List.append_assoc]
      exact List.perm_append_comm.append_right R'
theorem Bz {C V R X R':List Ch} (h:R'.Perm (X++R)):(C++(V++R')).Perm (X++(C++(V++R))):=by
  have h1:(C++(V++R')).Perm (C++(V++(X++R))):=(h.append_left V).append_left C
  refine h1.trans ?_
  have h2:(C++(V++(X++R))).Perm ((X++(C++V))++R):=by
    have:C++(V++(X++R))=((C++V)++X)++R:=by simp
    rw [this]
    exact List.perm_append_comm.append_right R
  refine h2.trans ?_
  simp
section
variable {G : Pg} {n : Nd} {K : Key} {Q : Exit → Act → World → Prop} {m : Env} {C V : List Ch} {I : List Im} {ops : List Oper} {late l : List Nat} {o : Oper} {F : List FO}
theorem Fr.FF {a:Act} {d:Nat} {v:Value} (h:Fr n m a) (hv:a.tmps.getD d undef=v):Fr n ((d,v)::m) a:=by
  refine ⟨h.size,h.defers,fun i u hu=> ?_⟩
  simp only [look] at hu
  cases hb:Nat.beq d i with
  | true =>
    rw [hb] at hu
    rw [← Nat.eq_of_beq_eq_true hb,hv]
    exact Option.some.inj hu
  | false =>
    rw [hb] at hu
    exact h.at_ i u hu
def FSp (G:Pg) (n:Nd) (Q:Exit→Act→World→Prop) (ops:List Oper) (C:List Ch) (m:Env) (I:List Im) (F:List FO) (f:FO):Prop :=
  ∀ K A a w V (Kc:Act→World→Prop),Fr n m a→SS K A (C++V) I w→(∀ g∈F,onb ops f.i g.i=true → ∃ x,a.tmps.getD g.d undef=g.v x ∧ ∀ q∈g.J x,q.ok A w)→(∀ x w' A',SS K A' (f.S x++(C++V)) I w'→(∀ g∈f.J x,g.ok A' w')→(∀ g:Im,g.ok A w→g.ok A' w')→Kc (a.put (some f.d) (f.v x)) w')→f.d < n.n∧f.i < ops.length∧wpOp G.P ops.toArray (NP Q) f.i Kc a w
theorem FSp.mono {f:FO} {m':Env} {I':List Im} {F':List FO} (h:FSp G n Q ops C m I F f) (hm: ∀ i v,look m i=some v→look m' i=some v) (hI: ∀ g∈I,g∈I') (hF: ∀ A a w,Fr n m' a→(∀ g∈I',g.ok A w)→(∀ g∈F',onb ops f.i g.i=true → ∃ x,a.tmps.getD g.d undef=g.v x ∧ ∀ q∈g.J x,q.ok A w) → ∀ g∈F,onb ops f.i g.i=true → ∃ x,a.tmps.getD g.d undef=g.v x ∧ ∀ q∈g.J x,q.ok A w):FSp G n Q ops C m' I' F' f:=by
  intro K A a w V Kc hf hs hd hk
  refine h K A a w V Kc (hf.sub hm) (hs.perm (List.Perm.refl _) hI) (hF A a w hf hs.st.im hd) fun x w' A' h1 h2 h3=>hk x w' A' ?_ h2 h3
  exact (h1.ma (J:=I') fun g hg=>h3 g (hs.st.im g hg)).perm (List.Perm.refl _) fun g hg=>List.mem_append_left _ hg
theorem wW {A A':dN} {S R S':List Ch} {I I':List Im} {w w':World} (h:SS K A (S++R) I w) (h2:SS ⟨w,A,Own S⟩ A' S' I' w') (g:Im) (hg:g.ok A w):g.ok A' w':=by
  have h3:=(SS.ma h (J:=[g]) fun f hf=>by rw [List.mem_singleton.1 hf]; exact hg).frame h2
  exact h3.st.im g (by simp)
theorem FSp.ac (i:Nat) {d:Nat} {J:List Im} {σ:Type} {v:σ→Value} {S':σ→List Ch} {I':σ→List Im} (js:List Nat) (hA:Ac G n m o [] J v S' I') (hi:ops[i]?=some o) (hw:wg ops m o=some true) (hd:o.dst=some d) (hn:Nat.blt d n.n=true) (hJ:pick I js=some J):FSp G n Q ops C m I F ⟨i,d,σ,v,S',I'⟩:=by
  intro K A a w V Kc hf hs _ hk
  refine ⟨fE hn,(List.getElem?_eq_some_iff.1 hi).1,?_⟩
  have hi':ops.toArray[i]?=some o:=by simpa using hi
  unfold wpOp
  simp only [hi']
  rw [if_pos (jI hw hf)]
  left
  have hs0:SS K A ([]++(C++V)) I w:=hs
  refine (hA A a w _ (NP Q) hf (St.left (S:=[]) hs0.st (dG hJ)) fun x w' A' h2=> ?_).1
  have h3:=hs0.frame h2
  rw [hd]
  exact hk x w' A' (h3.perm (List.Perm.refl _) fun g hg=>List.mem_append_right _ hg) (fun g hg=>h3.st.im g (List.mem_append_left _ hg)) (wW hs0 h2)
def DF (G:Pg) (n:Nd) (K:Key) (Q:Exit→Act→World→Prop) (ops:List Oper) (late:List Nat) (F:List FO) (l:List Nat) (C:List Ch) (m:Env) (V:List Ch) (I:List Im):Prop :=
  (∀ f∈F,FSp G n Q ops C m I F f) → ∀ A a w fuel L,(∀ i∈l,i∈L)→(∀ i∈L,i∈l ∨ ∃ f∈F,f.i=i)→unl ops.length L≤fuel→Fr n m a → ∀ R,SS K A (C++(V++R)) I w →
    Exd a A w F L R→wpG G.P ops.toArray (NP Q) late fuel (WS C I) (lst ops.length L) a w
def DFp (G:Pg) (n:Nd) (K:Key) (Q:Exit→Act→World→Prop) (ops:List Oper) (late:List Nat) (j:Nat) (F:List FO) (l:List Nat) (C:List Ch) (m:Env) (V:List Ch) (I:List Im):Prop :=
  (∀ f∈F,FSp G n Q ops C m I F f) → ∀ A a w fuel L,(∀ i∈l,i∈L)→(∀ i∈L,i∈l ∨ ∃ f∈F,f.i=i)→unl ops.length L≤fuel+1→mem j L=false→(∀ oj,ops[j]?=some oj → ∀ e∈oj.after,jy e=true→e.on∈L)→Fr n m a → ∀ R,SS K A (C++(V++R)) I w →
    Exd a A w F L R →
    wpOp G.P ops.toArray (NP Q) j (fun a' w'=> ∃ S':World→Prop,(j∈late ∨ ∀ w,S' w→WS C I w)∧S' w'∧wpG G.P ops.toArray (NP Q) late fuel S' ((lst ops.length L).setIfInBounds j true) a' w') a w
def DFe (G:Pg) (n:Nd) (K:Key) (Q:Exit→Act→World→Prop) (F:List FO) (C:List Ch) (m:Env) (V:List Ch) (I:List Im):Prop :=
  ∀ A a w L,(∀ f∈F,f.i∈L)→Fr n m a → ∀ R,SS K A (C++(V++R)) I w→Exd a A w F L R→NP Q .normal a w
theorem DF.of (hl:Nat.ble (unl ops.length l+l.length) ops.length=true) (h:DF G n K Q ops late [] l C m V I):D G n K Q ops late l C m V I:=by
  intro A a w fuel hfu hf hs
  have:=Nat.le_of_ble_eq_true hl
  exact h (fun f hf=>by cases hf) A a w fuel l (fun i hi=>hi) (fun i hi=> .inl hi) (by omega) hf [] (by rw [List.append_nil]; exact hs) rfl
theorem DF.add (f:FO) (hsp:FSp G n Q ops C m I F f) (hc:(!mem f.i l && !oy f.i F)=true) (h:DF G n K Q ops late (f::F) l C m V I):DF G n K Q ops late F l C m V I:=by
  simp only [Bool.and_eq_true,Bool.not_eq_true'] at hc
  intro hF A a w fuel L h1 h2 hfu hf R hs hx
  have hnot: ¬ f.i∈L:=fun hi=>by
    rcases h2 _ hi with h3 | ⟨g,hg,h3⟩
    · exact mg.1 hc.1 h3
    · have:=jJ.2 ⟨g,hg,h3⟩
      rw [hc.2] at this
      cases this
  refine h (fun g hg=> ?_) A a w fuel L h1 (fun i hi=>(h2 i hi).imp id fun ⟨g,hg,e⟩=>⟨g,List.mem_cons_of_mem _ hg,e⟩) hfu hf R hs (.inl ⟨hnot,hx⟩)
  · have hup: ∀ A a w,Fr n m a→(∀ g∈I,g.ok A w)→(∀ q∈f::F,onb ops g.i q.i=true → ∃ x,a.tmps.getD q.d undef=q.v x ∧ ∀ p∈q.J x,p.ok A w) → ∀ q∈F,onb ops g.i q.i=true → ∃ x,a.tmps.getD q.d undef=q.v x ∧ ∀ p∈q.J x,p.ok A w:=fun A a w _ _ hh q hq=>hh q (List.mem_cons_of_mem _ hq)
    rcases List.mem_cons.1 hg with rfl | hg
    · exact hsp.mono (fun _ _ h=>h) (fun _ h=>h) hup
    · exact (hF g hg).mono (fun _ _ h=>h) (fun _ h=>h) hup
theorem uJ {a:Act} {d e:Nat} {v:Value} (h:d≠e):(a.put (some d) v).tmps.getD e undef=a.tmps.getD e undef:=by
  show (a.tmps.setIfInBounds d v).getD e undef=_
  simp only [Array.getD_eq_getD_getElem?,Array.getElem?_setIfInBounds,if_neg h]
theorem yc {a:Act} {d:Nat} {v:Value} (h:d < a.tmps.size):(a.put (some d) v).tmps.getD d undef=v:=by
  show (a.tmps.setIfInBounds d v).getD d undef=_
  simp [Array.getD,h]
theorem DF.core (hc:closed ops=true) (hfw:fwd ops 0 ops=true) (hfo:fok F m=true) {js:List Nat} (hcs:rS F l 0 ops=js) (h: ∀ j∈js,DFp G n K Q ops late j F l C m V I)
    (he: ∀ A a w (L:List Nat),(∀ i,i < ops.length→i∈L)→(∀ i∈L,i∈l ∨ ∃ f∈F,f.i=i)→Fr n m a → ∀ R,SS K A (C++(V++R)) I w→Exd a A w F L R→NP Q .normal a w):DF G n K Q ops late F l C m V I:=by
  intro hF A a w fuel
  induction fuel generalizing A a w with
  | zero =>
    intro L h1 h2 hfu hf R hs hx
    have hall: ∀ i,i < ops.length→i∈L:=fun i hi=>by
      cases hb:mem i L with
      | true=>exact mem_iff.1 hb
      | false=>have:=By hi hb; omega
    refine ⟨List.eq_nil_iff_forall_not_mem.2 fun i hi=> ?_,he A a w L hall h2 hf R hs hx⟩
    rw [kl hc,me] at hi
    obtain ⟨j,o,e,h3,h4⟩:=hi
    have hj:i < ops.length:=by have:=(List.getElem?_eq_some_iff.1 h3).1; omega
    rw [mem_iff.2 (hall i hj)] at h4
    simp at h4
  | succ fuel ih =>
    intro L h1 h2 hfu hf R hs hx
    refine ⟨fun hr=> ?_,fun i hi=> ?_⟩
    · have hall: ∀ i,i < ops.length→i∈L:=by
        intro i
        induction i using Nat.strongRecOn with
        | _ i ihi =>
          intro hi
          cases hb:mem i L with
          | true=>exact mem_iff.1 hb
          | false =>
            exfalso
            have hin:i∈Region.ready .any ops.toArray (lst ops.length L):=by
              rw [kl hc,me]
              refine ⟨i,ops[i],by omega,List.getElem?_eq_getElem hi,?_⟩
              rw [hb]
              simp only [Bool.not_false,Bool.true_and,vM,List.all_eq_true,Bool.or_eq_true,Bool.not_eq_true']
              intro e hee
              cases hbe:jy e with
              | false=>exact .inl rfl
              | true =>
                right
                have hlt:=uI hfw i ops[i] (List.getElem?_eq_getElem hi) e (by simpa using hee) hbe
                exact mem_iff.2 (ihi e.on (by omega) (by omega))
            rw [hr] at hin
            cases hin
      exact he A a w L hall h2 hf R hs hx
    · rw [kl hc,me] at hi
      obtain ⟨j,o,e0,h3,h4⟩:=hi
      obtain rfl:i=j:=by omega
      have hilt:i < ops.length:=(List.getElem?_eq_some_iff.1 h3).1
      simp only [Bool.and_eq_true,Bool.not_eq_true'] at h4
      cases hb:oy i F with
      | true =>
        obtain ⟨f,hfF,rfl⟩:=jJ.1 hb
        have hdeps: ∀ g∈F,onb ops f.i g.i=true → ∃ x,a.tmps.getD g.d undef=g.v x ∧ ∀ q∈g.J x,q.ok A w:=fun g hgF hon=>by
          refine hx.get g hgF ?_
          unfold onb at hon
          rw [h3] at hon
          obtain ⟨e,hee,hbb⟩:=List.any_eq_true.1 hon
          simp only [Bool.and_eq_true] at hbb
          have h5:=List.all_eq_true.1 h4.2 e hee
          rw [hbb.1] at h5
          rw [← Nat.eq_of_beq_eq_true hbb.2]
          exact mem_iff.1 (by simpa using h5)
        refine (hF f hfF K A a w (V++R) _ hf hs hdeps fun x w' A' hs' hg hk=> ?_).2.2
        have hdn:f.d < n.n:=(hF f hfF K A a w (V++R) (fun _ _=>True) hf hs hdeps fun _ _ _ _ _ _=>trivial).1
        have hfo':=hfo
        simp only [fok,Bool.and_eq_true] at hfo'
        have hok:=List.all_eq_true.1 hfo'.2 f hfF
        simp only [Bool.and_eq_true,Option.isNone_iff_eq_none] at hok
        obtain ⟨R',hx',hp⟩:=hx.exec (a':=a.put (some f.d) (f.v x)) hk (mg.1 h4.1) (yc (by rw [hf.size]; exact hdn)) hg hfo'.1 (fun g hgF hgi=>by
          have h5:=List.all_eq_true.1 hok.2 g hgF
          simp only [Bool.or_eq_true,Bool.not_eq_true'] at h5
          exact uJ (Nat.ne_of_beq_eq_false (h5.resolve_left fun hh=>hgi (Nat.eq_of_beq_eq_true hh).symm))) hfF
        have hs2:=hs'.perm (Bz (C:=C) (V:=V) hp) (fun _ h=>h)
        refine ⟨WS C I,.inr fun _ h=>h,hs2.ws,?_⟩
        rw [lP]
        have hput:Fr n m (a.put (some f.d) (f.v x)):=by
          refine (hf.put (f.v x) hdn).sub fun i u hu=> ?_
          simp only [look]
          cases hbb:Nat.beq f.d i with
          | true=>rw [← Nat.eq_of_beq_eq_true hbb,hok.1] at hu; cases hu
          | false=>exact hu
        refine ih A' _ w' (f.i::L) (fun i hi=>List.mem_cons_of_mem _ (h1 i hi)) (fun i hi=> ?_) ?_ hput R' hs2 hx'
        · rcases List.mem_cons.1 hi with rfl | hi
          · exact .inr ⟨f,hfF,rfl⟩
          · exact h2 i hi
        · have:=pq hilt h4.1
          omega
      | false =>
        have hcand:i∈js:=by
          rw [← hcs]
          refine td ⟨i,o,by omega,h3,?_⟩
          have hml:mem i l=false:=mg.2 fun hh=>mg.1 h4.1 (h1 i hh)
          rw [hml,hb]
          simp only [Bool.not_false,Bool.true_and,List.all_eq_true,Bool.or_eq_true,Bool.not_eq_true']
          intro e hee
          cases hbe:jy e with
          | false=>exact .inl (.inl rfl)
          | true =>
            have h5:=List.all_eq_true.1 h4.2 e hee
            rw [hbe] at h5
            have h6:=mem_iff.1 (by simpa using h5:mem e.on L=true)
            rcases h2 _ h6 with h7 | h7
            · exact .inl (.inr (mem_iff.2 h7))
            · exact .inr (jJ.2 h7)
        refine h i hcand hF A a w fuel L h1 h2 hfu h4.1 (fun oj hoj e hee hbe=> ?_) hf R hs hx
        rw [h3] at hoj
        cases hoj
        have h5:=List.all_eq_true.1 h4.2 e (by simpa using hee)
        rw [hbe] at h5
        exact mem_iff.1 (by simpa using h5)
theorem DF.step (j:Nat) (hc:closed ops=true) (hfw:fwd ops 0 ops=true) (hfo:fok F m=true) (hcs:rS F l 0 ops=[j]) (hj:(!mem j l && !oy j F && Nat.blt j ops.length)=true) (h:DFp G n K Q ops late j F l C m V I):DF G n K Q ops late F l C m V I:=by
  simp only [Bool.and_eq_true,Bool.not_eq_true'] at hj
  refine DF.core hc hfw hfo hcs (fun k hk=>by rw [List.mem_singleton.1 hk]; exact h) (fun A a w L hall h2 hf R hs hx=> ?_)
  exfalso
  rcases h2 j (hall j (fE hj.2)) with h3 | h3
  · exact mg.1 hj.1.1 h3
  · have:=jJ.2 h3
    rw [hj.1.2] at this
    cases this
theorem DF.fin (hc:closed ops=true) (hfw:fwd ops 0 ops=true) (hfo:fok F m=true) (hcs:rS F l 0 ops=[]) (hlt:(F.all fun f=>Nat.blt f.i ops.length)=true) (h:DFe G n K Q F C m V I):DF G n K Q ops late F l C m V I :=
  DF.core hc hfw hfo hcs (fun k hk=>by cases hk) fun A a w L hall h1 hf R hs hx=>h A a w L (fun f hfF=>hall _ (fE (List.all_eq_true.1 hlt f hfF))) hf R hs hx
theorem DFe.nil (h:E n K Q .normal m (C++V) I):DFe G n K Q [] C m V I:=fun A a w L _ hf R hs hx=>by
  obtain rfl:R=[]:=hx
  rw [List.append_nil] at hs
  exact h A a w hf hs
theorem zu {C V R X R':List Ch} (h:R.Perm (X++R')):(C++((X++V)++R')).Perm (C++(V++R)):=by
  refine List.Perm.append_left C ?_
  refine List.Perm.trans ?_ (h.symm.append_left V)
  rw [← List.append_assoc]
  exact List.perm_append_comm.append_right R'
theorem tf {d:Nat} {v:Value} (h:look m d=none): ∀ i u,look m i=some u→look ((d,v)::m) i=some u:=by
  intro i u hu
  simp only [look]
  cases hb:Nat.beq d i with
  | true=>rw [← Nat.eq_of_beq_eq_true hb,h] at hu; cases hu
  | false=>exact hu
theorem DFp.use {j:Nat} (k:Nat) {f:FO} (hk:F[k]?=some f) (hon:onb ops j f.i=true) (hnew:(look m f.d).isNone=true) (h: ∀ x,DFp G n K Q ops late j (F.eraseIdx k) (f.i::l) C ((f.d,f.v x)::m) (f.S x++V) (f.J x++I)):DFp G n K Q ops late j F l C m V I:=by
  intro hF A a w fuel L h1 h2 hfu hjL hdep hf R hs hx
  have hfF:f∈F:=List.mem_of_getElem? hk
  have hfL:f.i∈L:=by
    unfold onb at hon
    split at hon
    · rename_i oj hoj
      obtain ⟨e,he,hb⟩:=List.any_eq_true.1 hon
      simp only [Bool.and_eq_true] at hb
      have:=hdep oj hoj e (by simpa using he) hb.1
      rwa [Nat.eq_of_beq_eq_true hb.2] at this
    · cases hon
  obtain ⟨x,R',hx1,hx2,hp,hx3⟩:=hx.Dz hfL hk
  have hnew':look m f.d=none:=by simpa using hnew
  have hsub: ∀ g∈F.eraseIdx k,g∈F:=fun g hg=>List.mem_of_mem_eraseIdx hg
  have hsplit: ∀ g∈F,g=f∨g∈F.eraseIdx k:=fun g hg=>by
    obtain ⟨q,hq⟩:=List.getElem?_of_mem hg
    by_cases hqk:q=k
    · left
      subst hqk
      rw [hk] at hq
      cases hq
      rfl
    · exact .inr (List.mem_eraseIdx_iff_getElem?.2 ⟨q,hqk,hq⟩)
  have hF': ∀ g∈F.eraseIdx k,FSp G n Q ops C ((f.d,f.v x)::m) (f.J x++I) (F.eraseIdx k) g:=fun g hg=>(hF g (hsub g hg)).mono (tf hnew') (fun q hq=>List.mem_append_right _ hq) fun A a w hf hI hh q hq hon=>by
    rcases hsplit q hq with rfl | hq'
    · exact ⟨x,hf.at_ _ _ (by simp [look]),fun p hp=>hI p (List.mem_append_left _ hp)⟩
    · exact hh q hq' hon
  have h3:=h x hF' A a w fuel L (fun i hi=> ?_) (fun i hi=> ?_) hfu hjL hdep (hf.FF hx1) R' ((hs.perm (zu hp) fun _ h=>h).ma hx2) hx3
  · refine wpOp_mono (fun a' w' hh=> ?_) h3
    obtain ⟨S',hS,h4⟩:=hh
    exact ⟨S',hS.imp id fun hw w0 hw0=>by obtain ⟨A0,q1,q2⟩:=hw w0 hw0; exact ⟨A0,q1,fun q hq=>q2 q (List.mem_append_right _ hq)⟩,h4⟩
  · rcases List.mem_cons.1 hi with rfl | hi
    · exact hfL
    · exact h1 i hi
  · rcases h2 i hi with h4 | ⟨g,hg,h4⟩
    · exact .inl (List.mem_cons_of_mem _ h4)
    · rcases hsplit g hg with rfl | hg'
      · left
        rw [← h4]
        exact List.mem_cons_self ..
      · exact .inr ⟨g,hg',h4⟩
def zv (F:List FO) (m:Env):Option Nat→Bool
  | some d=>(look m d).isNone && F.all fun f=> !Nat.beq f.d d
  | none=>true
theorem ye {d:Option Nat} (h:zv F m d=true) (v:Value): ∀ i u,look m i=some u→look (kW d v m) i=some u:=by
  cases d with
  | none=>exact fun _ _ h=>h
  | some d =>
    simp only [zv,Bool.and_eq_true] at h
    exact tf (by simpa using h.1)
theorem zw {d:Option Nat} (h:zv F m d=true) {a:Act} {v:Value}: ∀ f∈F,(a.put d v).tmps.getD f.d undef=a.tmps.getD f.d undef:=by
  intro f hf
  cases d with
  | none=>rfl
  | some d =>
    simp only [zv,Bool.and_eq_true] at h
    have:=List.all_eq_true.1 h.2 f hf
    simp only [Bool.not_eq_true'] at this
    exact uJ fun e=>Nat.ne_of_beq_eq_false this e.symm
theorem uK {j:Nat} (hjF:oy j F=false) {L:List Nat}: ∀ f∈F,f.i∈j::L↔f.i∈L:=by
  intro f hf
  rw [List.mem_cons]
  refine ⟨fun hh=>hh.resolve_left fun e=> ?_,.inr⟩
  have:=jJ.2 ⟨f,hf,e⟩
  rw [hjF] at this
  cases this
theorem th {α:Type} (X Y Z:List α):(X++(Y++Z)).Perm (Y++(X++Z)):=by
  rw [← List.append_assoc,← List.append_assoc]
  exact (List.perm_append_comm (l₁:=X) (l₂:=Y)).append_right Z
theorem DFp.a {j:Nat} (is js:List Nat) {d:Option Nat} {Sp R:List Ch} {J:List Im} {σ:Type} {v:σ→Value} {S':σ→List Ch} {I':σ→List Im} (hA:Ac G n m o Sp J v S' I') (hi:ops[j]?=some o) (hw:wg ops m o=some true) (hd:o.dst=d) (hn:dok d n.n=true) (hS:ext V is=some (Sp,R)) (hJ:pick I js=some J) (hjF:oy j F=false) (hnew:zv F m d=true)
    (h: ∀ x,DF G n K Q ops late F (j::l) C (kW d (v x) m) (S' x++R) (I' x++I)):DFp G n K Q ops late j F l C m V I:=by
  intro hF A a w fuel L h1 h2 hfu hjL hdep hf R0 hs hx
  have hi':ops.toArray[j]?=some o:=by simpa using hi
  have hjlt:j < ops.length:=(List.getElem?_eq_some_iff.1 hi).1
  unfold wpOp
  simp only [hi']
  rw [if_pos (jI hw hf)]
  left
  have hp:(Sp++(C++(R++R0))).Perm (C++(V++R0)):=by
    have h1:(Sp++R).Perm V:=cG hS
    refine (th Sp C (R++R0)).trans (List.Perm.append_left C ?_)
    rw [← List.append_assoc]
    exact h1.append_right R0
  have hs':=hs.perm hp (fun i hi=>hi)
  refine (hA A a w _ (NP Q) hf (hs'.st.left (dG hJ)) fun x w' A' h2'=> ?_).1
  have h3:=hs'.frame h2'
  have hp2:(C++((S' x++R)++R0)).Perm (S' x++(C++(R++R0))):=by
    rw [List.append_assoc]
    exact th C (S' x) (R++R0)
  have h4:=h3.perm hp2 (fun i hi=>hi)
  refine ⟨WS C (I' x++I),.inr fun w ⟨A,h1,h2⟩=>⟨A,h1,fun f hf=>h2 f (List.mem_append_right _ hf)⟩,h4.ws,?_⟩
  rw [lP,hd]
  refine h x (fun f hfF=>(hF f hfF).mono (ye hnew _) (fun g hg=>List.mem_append_right _ hg) fun _ _ _ _ _ hh=>hh) A' _ w' fuel (j::L) (fun i hi=> ?_) (fun i hi=> ?_) ?_ (hf.rE hn _) R0 h4 (hx.mono (wW hs' h2') (zw hnew) (uK hjF))
  · rcases List.mem_cons.1 hi with rfl | hi
    · exact List.mem_cons_self ..
    · exact List.mem_cons_of_mem _ (h1 i hi)
  · rcases List.mem_cons.1 hi with rfl | hi
    · exact .inl (List.mem_cons_self ..)
    · exact (h2 i hi).imp (List.mem_cons_of_mem _) id
  · have:=pq hjlt hjL
    omega
theorem DFp.al {j:Nat} (is js:List Nat) {d:Option Nat} {Sp R:List Ch} {J:List Im} {σ:Type} {v:σ→Value} {S':σ→List Ch} {I':σ→List Im} (hA:Ac G n m o Sp J v S' I') (hl:mem j late=true) (hi:ops[j]?=some o) (hw:wg ops m o=some true) (hd:o.dst=d) (hn:dok d n.n=true) (hS:ext (C++V) is=some (Sp,R)) (hJ:pick I js=some J)
    (h: ∀ x,DF G n K Q ops late [] (j::l) [] (kW d (v x) m) (S' x++R) (I' x++I)):DFp G n K Q ops late j [] l C m V I:=by
  intro hF A a w fuel L h1 h2 hfu hjL hdep hf R0 hs hx
  obtain rfl:R0=[]:=hx
  rw [List.append_nil] at hs
  have hi':ops.toArray[j]?=some o:=by simpa using hi
  have hjlt:j < ops.length:=(List.getElem?_eq_some_iff.1 hi).1
  unfold wpOp
  simp only [hi']
  rw [if_pos (jI hw hf)]
  left
  have hs':=hs.perm (cG hS) (fun i hi=>hi)
  refine (hA A a w _ (NP Q) hf (hs'.st.left (dG hJ)) fun x w' A' h2'=> ?_).1
  have h3:=hs'.frame h2'
  refine ⟨WS [] (I' x++I),.inl (mem_iff.1 hl),SS.ws (C:=[]) h3,?_⟩
  rw [lP,hd]
  refine h x (fun f hf=>by cases hf) A' _ w' fuel (j::L) (fun i hi=> ?_) (fun i hi=> ?_) ?_ (hf.rE hn _) [] (by rw [List.append_nil]; exact h3) rfl
  · rcases List.mem_cons.1 hi with rfl | hi
    · exact List.mem_cons_self ..
    · exact List.mem_cons_of_mem _ (h1 i hi)
  · rcases List.mem_cons.1 hi with rfl | hi
    · exact .inl (List.mem_cons_self ..)
    · exact (h2 i hi).imp (List.mem_cons_of_mem _) id
  · have:=pq hjlt hjL
    omega
theorem Ac.frz {Sp:List Ch} {J:List Im} {σ α:Type} {v:σ→Value} {S':σ→List Ch} {I':σ→List Im} {ty:Ty α} {T:Nat} {a0:σ→Option Addr} {c:σ→Nat} {xs:σ→List α} (hA:Ac G n m o Sp J v (fun x=>Ch.arr ty T (a0 x) (c x) (xs x)::S' x) I'):Ac G n m o Sp J v S' (fun x=>Im.sl ty (a0 x) (c x) (xs x)::I' x) :=
  fun A a w Kc Q hf hs hk=>hA A a w Kc Q hf hs fun x w' A' h2=>hk x w' _ (h2.frz mO)
end
def shk (y:Int):Bool:=decide (0≤y)
section
variable {G : Pg} {n : Nd} {m : Env} {S : List Ch} {I : List Im} {o : Oper}
theorem Yl.shr {t t2 nb:Nat} {x y:Operand} {k k':IntKind} {a b:Int} {u:Unit} (hb:k.bits=nb) (h:chk (shk b)=some u) (ho:o.op = .binOp .shr t x y t2) (hx:ev m x=some (.int k a)) (hy:ev m y=some (.int k' b)):Yl G n m S I o (.int k (a.fdiv (2 ^ (min b.toNat nb)))):=fun A ac w hf _ _=>by
  have h0:0≤b:=dD h
  have hg:(eqGuard .shr t x y (.int k a) (.int k' b)).run G.P w = .ok () w:=by unfold eqGuard; rfl
  have hr:(binOp .shr t (.int k a) (.int k' b)).run G.P w = .ok (.int k (a.fdiv (2 ^ (min b.toNat nb)))) w:=by
    subst hb
    simp only [binOp,Op.shift]
    rw [if_neg (by omega)]
    rfl
  simp only [execOp,ho,hf.ev hx,hf.ev hy,Sem.run_bind,hg,Result.andThen_ok,hr,Sem.run_pure]
end
end Go.Tw
set_option linter.unusedVariables false
set_option linter.unusedSimpArgs false
namespace Go.Tw
open Go
section
variable {G : Pg} {n : Nd} {m : Env} {S : List Ch} {I : List Im} {o : Oper}
theorem Yl.xg {t e g N:Nat} {x ix:Operand} {k:IntKind} {i:Int} {α:Type} {x0:α} {xs:List α} {ti te:TI} (hi:idx xs i=some x0) (hN:xs.length=N) (ho:o.op = .indexAddr t x ix) (hx:ev m x=some (.pointer (some ⟨g,0,none⟩))) (hix:ev m ix=some (.int k i)) (ht:bM G.τ t=some ti) (hk:ti.k = .array N e) (he:bM G.τ e=some te):Yl G n m S I o (.pointer (some ⟨g,0+i.toNat*te.size,none⟩)):=fun A ac w hf _ _=>by
  obtain ⟨h0,h1⟩:=bC hi
  have h2:=(List.getElem?_eq_some_iff.1 h1).1
  obtain ⟨d,f,z,hd,hfi,hkk,_⟩:=G.ok.info ht
  rw [hk] at hkk
  cases hkk
  have hr:(Instr.indexAt t (.pointer (some ⟨g,0,none⟩)) (.int k i)).run G.P w = .ok (.pointer (some ⟨g,0+i.toNat*te.size,none⟩)) w:=by
    simp only [Instr.indexAt,asIntOf,Instr.sureAddr,Sem.run_bind,Sem.run_pure,Result.andThen_ok,run_underlying hd]
    rw [if_pos ⟨h0,by omega⟩]
    simp only [Sem.run_bind,run_sizeOf G.ok he,Result.andThen_ok,Sem.run_pure,add_lit]
  simp only [execOp,ho,hf.ev hx,hf.ev hix,Sem.run_bind,hr,Result.andThen_ok,Sem.run_pure]
theorem Yl.com {t:Nat} {x:Operand} {k:IntKind} {a c:Int} (hc:(if k.signed then -1 else k.max)=c) (ho:o.op = .unOp .xor t x) (hx:ev m x=some (.int k a)):Yl G n m S I o (.int k (Go.bits .xor k c a)):=fun A ac w hf _ _=>by
  subst hc
  simp only [execOp,ho,hf.ev hx,Op.unary,intBits_xor,Sem.run_bind,Sem.run_pure,Result.andThen_ok]
end
end Go.Tw
set_option linter.unusedVariables false
set_option linter.unusedSimpArgs false
namespace Go.Tw
open Go
section
variable {α : Type} {ty : Ty α} {A : dN} {w : World} {xs ys : List α} {T : Nat} {a0 a1 : Option Addr} {c c1 : Nat}
end
section
variable {G : Pg} {n : Nd} {K : Key} {Q : Exit → Act → World → Prop} {m : Env} {S : List Ch} {I : List Im} {ops : Array Oper} {α : Type} {ty : Ty α} {xs : List α} {a0 : Option Addr} {c0 T0 : Nat}
theorem Bw.bx (i:Nat) {g T:Nat} {cs:List Value} {J:List Im} (hS:S[i]?=some (Ch.box g T cs)) (h:Bw S I J):Bw S I (Im.cells g 0 cs::J):=fun A w hs=>by
  obtain ⟨A',h1,h2⟩:=h A w hs
  have hc:=List.mem_of_getElem? hS
  have hk:=hs.ch _ hc
  refine ⟨fun b=>A' b∨b=g,fun b hb=> .inl (h1 b hb),?_,(fun _ h=>by cases h),(fun _ h=>by cases h),List.Pairwise.nil,fun f hg=> ?_⟩
  · rintro b (hb | hb)
    · exact h2.lt b hb
    · exact (hs.own _ hc b hb).1
  · rcases List.mem_cons.1 hg with rfl | hg
    · refine ⟨.inr rfl,fun j u hu=> ?_⟩
      rw [Nat.zero_add,rG hk]
      exact hu
    · exact f.st (fun b hb=> .inl hb) (fun _ _=>rfl) (h2.im f hg)
end
section
variable {G : Pg} {n : Nd} {K : Key} {Q : Exit → Act → World → Prop} {m : Env} {S : List Ch} {I : List Im} {ops : Array Oper} {α : Type} {ty : Ty α} {xs : List α}
end
section
variable {G : Pg} {n : Nd} {m : Env} {S : List Ch} {I : List Im} {o : Oper} {α : Type} {ty : Ty α} {xs ys : List α} {a0 a1 : Option Addr} {c c1 : Nat}
end
section
variable {G : Pg} {n : Nd} {m : Env} {o : Oper} {α : Type} {ty : Ty α} {xs : List α}
end
section
variable {G : Pg} {n : Nd} {m : Env} {o : Oper} {S : List Ch} {I : List Im}
end
end Go.Tw
set_option linter.unusedVariables false
set_option linter.unusedSimpArgs false
namespace Go.Tw
open Go
theorem zx {L Sp:List Ch} {I:List Im}:Own [Ch.pk (L++Sp) I]=Own (Ch.pk L I::Sp):=by
  funext b
  apply propext
  rw [tO,tO,List.append_nil]
theorem YT.FG {η:Type} {G:Pg} {yl:Nat} {args:List Value} {af:List Im} {val:η→Value} (L:List Ch) (I:List Im) (L':η→List Ch) (I':η→List Im) (Sp:List Ch)
    (h:YT G yl args [Ch.pk (L++Sp) I] af val (fun h'=>[Ch.pk (L' h'++Sp) (I' h')]) (fun _=>[])):YT G yl args (Ch.pk L I::Sp) af val (fun h'=>Ch.pk (L' h') (I' h')::Sp) (fun _=>[]):=by
  intro A w hs
  have s1:=SS.unpack (SS.start hs)
  have s2:SS ⟨w,A,Own (Ch.pk L I::Sp)⟩ A [Ch.pk (L++Sp) I] af w:=SS.pack (R:=[]) (by rw [List.append_nil]; exact s1)
  obtain ⟨fn,tmps,assign,body,h1,h2⟩:=h A w s2.st
  refine ⟨fn,tmps,assign,body,h1,RoundIn.mono h2 ?_⟩
  rintro e w' ⟨x,A',he,h3⟩
  rw [zx] at h3
  have h4:=SS.unpack h3
  rw [List.append_nil] at h4
  exact ⟨x,A',he,SS.pack h4⟩
section
variable {σ η : Type}
variable {G : Pg} {n : Nd} {K : Key} {Q : Exit → Act → World → Prop} {m : Env} {S : List Ch} {I : List Im} {SL : σ → η → List Ch} {IL : σ → η → List Im} {jp : σ → Option Code} {z : σ × Bool} {body : Code}
end
section
variable {σ η X θ τ : Type} {G : Pg} {n : Nd} {K : Key} {Q : Exit → Act → World → Prop} {m : Env} {S : List Ch} {I : List Im} {body : Code}
end
end Go.Tw
set_option linter.unusedVariables false
set_option linter.unusedSimpArgs false
namespace Go.Tw
open Go
section
variable {G : Pg} {n : Nd} {K : Key} {Q : Exit → Act → World → Prop} {m : Env} {S C V : List Ch} {I : List Im} {ops : List Oper} {late l : List Nat} {o : Oper}
theorem Dp.ab {i:Nat} (is js ks:List Nat) {d:Option Nat} {Sp R:List Ch} {J:List Im} {σ:Type} {v:σ→Value} {S' V':σ→List Ch} {I':σ→List Im} (hA:Ac G n m o Sp J v S' I') (hi:ops[i]?=some o) (hw:wg ops m o=some true) (hd:o.dst=d) (hn:dok d n.n=true) (hS:ext (C++V) is=some (Sp,R)) (hJ:pick I js=some J) (hB: ∀ x,ext (S' x++R) ks=some (C,V' x))
    (h: ∀ x,D G n K Q ops late (i::l) C (kW d (v x) m) (V' x) (I' x++I)):Dp G n K Q ops late l i C m V I:=by
  intro A a w fuel hfu hf hs
  have hi':ops.toArray[i]?=some o:=by simpa using hi
  unfold wpOp
  simp only [hi']
  rw [if_pos (jI hw hf)]
  left
  have hs':=hs.perm (cG hS) (fun i hi=>hi)
  refine (hA A a w _ (NP Q) hf (hs'.st.left (dG hJ)) fun x w' A' h2=> ?_).1
  have h3:=hs'.frame h2
  have h4:=h3.perm (cG (hB x)) (fun i hi=>hi)
  refine ⟨WS C (I' x++I),.inr fun w ⟨A,h1,h2⟩=>⟨A,h1,fun f hf=>h2 f (List.mem_append_right _ hf)⟩,h4.ws,?_⟩
  rw [lP,hd]
  exact h x A' _ w' fuel (by simp only [List.length_cons]; omega) (hf.rE hn _) h4
theorem D.rsl (i:Nat) {α:Type} {ty:Ty α} {xs:List α} {a0:Option Addr} {c:Nat} (k:Nat) {d t e:Nat} {x:Operand} {lo hi:Option Operand} {lv hv:Int} {ti te:TI} {u:Unit} (hk0:chk (cF lv hv xs.length)=some u) (hi':ops[k]?=some o) (hc':rQ ops late l k=true) (hw:wg ops m o=some true) (hd:o.dst=some d) (hn:dok (some d) n.n=true) (ho:o.op = .slice t x lo hi none) (hx:ev m x=some (.slice a0 xs.length c)) (hlo:evb m lo 0=some lv) (hhi:evb m hi xs.length=some hv) (hI:I[i]?=some (Im.sl ty a0 c xs)) (ht:bM G.τ t=some ti) (hk:ti.k = .slice e) (he:bM G.τ e=some te) (hsz:te.size=ty.sz)
    (h: ∀ a1 c1,D G n K Q ops late (k::l) C ((d,.slice a1 (cut xs lv hv).length c1)::m) V (Im.sl ty a1 c1 (cut xs lv hv)::I)):D G n K Q ops late l C m V I:=by
  refine D.put (v:= .slice (gN a0 c lv ty.sz) (cut xs lv hv).length (c - lv.toNat)) (S0:=fun _=>True) k hi' hc' (.inl fun _=>trivial) (fun _ _=>trivial) hd hn (fun A a w hf hs=> .inl ⟨jI hw hf,fun w' _=> ?_⟩) (D.ma [_] (fun A w _ hI' f hf'=> ?_) (h _ _))
  · obtain ⟨h0,h1,h2⟩:=dD hk0
    have hle:=(hs.st.im _ (List.mem_of_getElem? hI)).1
    have hr:=kj (P:=G.P) (w:=w') G.ok hf ht hk he hlo hhi h0 h1 (by omega:hv≤(c:Int)) a0
    rw [dX ⟨h0,h1,h2⟩,gN,← hsz]
    simp only [execOp,ho,hf.ev hx,Option.map_none,Sem.run_bind,hr,Result.andThen_ok,Sem.run_pure]
  · rw [List.mem_singleton.1 hf']
    exact wQ hk0 (hI' _ (List.mem_of_getElem? hI))
end
end Go.Tw
set_option linter.unusedVariables false
set_option linter.unusedSimpArgs false
namespace Go.Tw
open Go
theorem sm {α:Type _} {a b:α} (h:some a=some b):a=b:=Option.some.inj h
theorem pt {m:Env}: ∀ {M:Env},M.map (fun p=>look m p.1)=M.map (fun p=>some p.2)→rz m M
  | [],_=>trivial
  | (i,v)::M,h=>by
    simp only [List.map_cons,List.cons.injEq] at h
    exact ⟨h.1,pt h.2⟩
section
variable {G : Pg} {n : Nd} {K : Key} {Q : Exit → Act → World → Prop} {m : Env} {S : List Ch} {I : List Im} {ops : Array Oper} {o : Oper} {l : List Oper}
theorem Ln (h:E n K Q .normal m S I):L G n K ops Q [] m S I:=L.nil h
theorem Et {y:Code} (h:Tw.T G n K Q y m S I):E n K (Exit.then (y.wpIn G.F 0 G.P Q) Q) .normal m S I:=E.then h
theorem Ts {x y:Code} (h:Tw.T G n K (Exit.then (y.wpIn G.F 0 G.P Q) Q) x m S I):Tw.T G n K Q (.seq x y) m S I:=T.seq h
theorem Tr {id:Nat} {l:List Oper} (h:L G n K l.toArray Q l m S I):Tw.T G n K Q (.region id l.toArray false) m S I:=T.region h
theorem Tk (h:E n K Q .normal m S I):Tw.T G n K Q .skip m S I:=T.skip h
theorem Tv (h:E n K Q .ret m S I):Tw.T G n K Q .ret m S I:=T.ret h
theorem Tx {id:Nat} (h:E n K Q (.exit id) m S I):Tw.T G n K Q (.exit id) m S I:=T.exit h
theorem Tl {id:Nat} {c:Code} (h:Tw.T G n K (Exit.inBlock id Q) c m S I):Tw.T G n K Q (.block id c) m S I:=T.block h
theorem Ex {y:Act→World→Prop} {id:Nat} (h:E n K Q (.exit id) m S I):E n K (Exit.then y Q) (.exit id) m S I:=E.vF h
theorem Er {y:Act→World→Prop} (h:E n K Q .ret m S I):E n K (Exit.then y Q) .ret m S I:=E.nt h
theorem Eb {id:Nat} (h:E n K Q .normal m S I):E n K (Exit.inBlock id Q) .normal m S I:=E.block h
theorem Eh {id:Nat} (h:E n K Q .normal m S I):E n K (Exit.inBlock id Q) (.exit id) m S I:=E.vG h
theorem Ev {id:Nat} (h:E n K Q .ret m S I):E n K (Exit.inBlock id Q) .ret m S I:=E.x4 h
theorem Lq (k:Nat) {l l':List Oper} {m':Env} (hl:L G n K ops Q l' m' S I) (h:vH G.τ n.n ops.toList k l m=some (m',l'):=by exact rfl):L G n K ops Q l m S I:=qY h hl
theorem Ly {d:Nat} {v:Value} (hy:Yl G n m S I o v) (h:L G n K ops Q l ((d,v)::m) S I) (hw:wg ops.toList m o=some true:=by exact rfl) (hd:o.dst=some d:=by exact rfl) (hn:Nat.blt d n.n=true:=by exact rfl):L G n K ops Q (o::l) m S I:=L.y hy hw hd hn h
theorem Lb (i:Nat) {d:Nat} {t g o' T:Nat} {x:Operand} {cs:List Value} {v:Value} (h:L G n K ops Q l ((d,v)::m) S I) (ho:o.op = .load t x:=by exact rfl) (hx:ev m x=some (.pointer (some ⟨g,o',none⟩)):=by exact rfl) (hS:S[i]?=some (Ch.box g T cs):=by exact rfl) (hv:nv G.τ t (cs.drop o') 0=some v:=by exact rfl) (hw:wg ops.toList m o=some true:=by exact rfl) (hd:o.dst=some d:=by exact rfl) (hn:Nat.blt d n.n=true:=by exact rfl):L G n K ops Q (o::l) m S I:=L.y (Yl.ldb i ho hx hS hv) hw hd hn h
theorem Lc (i k:Nat) {d:Nat} {t b off:Nat} {x:Operand} {vs:List Value} {v:Value} (h:L G n K ops Q l ((d,v)::m) S I) (ho:o.op = .load t x:=by exact rfl) (hx:ev m x=some (.pointer (some ⟨b,off+k,none⟩)):=by exact rfl) (hI:I[i]?=some (Im.cells b off vs):=by exact rfl) (hv:nv G.τ t (vs.drop k) 0=some v:=by exact rfl) (hw:wg ops.toList m o=some true:=by exact rfl) (hd:o.dst=some d:=by exact rfl) (hn:Nat.blt d n.n=true:=by exact rfl):L G n K ops Q (o::l) m S I:=L.y (Yl.ldc i k ho hx hI hv) hw hd hn h
theorem La (is js:List Nat) {d:Option Nat} {Sp R:List Ch} {J:List Im} {σ:Type} {v:σ→Value} {S':σ→List Ch} {I':σ→List Im} (hA:Ac G n m o Sp J v S' I') (h: ∀ x,L G n K ops Q l (kW d (v x) m) (S' x++R) (I' x++I)) (hw:wg ops.toList m o=some true:=by exact rfl) (hd:o.dst=d:=by exact rfl) (hn:dok d n.n=true:=by exact rfl) (hS:ext S is=some (Sp,R):=by exact rfl) (hJ:pick I js=some J:=by exact rfl):L G n K ops Q (o::l) m S I:=L.a is js hA hw hd hn hS hJ h
theorem Lk (is js:List Nat) {d:Option Nat} {R:List Ch} {σ:Type} {f:FuncId} {fo:Operand} {as:Array Operand} {ts:Array Nat} {vs args:List Value} {a1 a2:Array Value} {Sp:List Ch} {J:List Im} {val:σ→Value} {S':σ→List Ch} {I':σ→List Im} (hC:CT G f args Sp J val S' I') (h: ∀ x,L G n K ops Q l (kW d (val x) m) (S' x++R) (I' x++I)) (ho:o.op = .call { callee:= .value fo,args:=as,argTypes:=ts }:=by exact rfl) (hfo:ev m fo=some (.func (.func f) a1 a2):=by exact rfl) (ha:evl m as.toList=some vs:=by exact rfl) (hargs:a1.toList++vs++a2.toList=args:=by exact rfl) (hw:wg ops.toList m o=some true:=by exact rfl) (hd:o.dst=d:=by exact rfl) (hn:dok d n.n=true:=by exact rfl) (hS:ext S is=some (Sp,R):=by exact rfl) (hJ:pick I js=some J:=by exact rfl):L G n K ops Q (o::l) m S I:=L.a is js (Ac.call hC ho hfo ha hargs) hw hd hn hS hJ h
theorem Lt (i:Nat) {R:List Ch} {d:Option Nat} {t g o' T:Nat} {x y:Operand} {cs cs':List Value} {v:Value} {ti:TI} (h:L G n K ops Q l (kW d undef m) (Ch.box g T cs'::R) I) (ho:o.op = .store t x y:=by exact rfl) (hx:ev m x=some (.pointer (some ⟨g,o',none⟩)):=by exact rfl) (hy:ev m y=some v:=by exact rfl) (hi:bM G.τ t=some ti:=by exact rfl) (hc:(Nat.beq (vc v).length ti.size && (vc v).all Value.oneCell')=true:=by exact rfl) (hS:ext S [i]=some ([Ch.box g T cs],R):=by exact rfl) (hr0:wr cs o' (vc v)=some cs':=by exact rfl) (hw:wg ops.toList m o=some true:=by exact rfl) (hd:o.dst=d:=by exact rfl) (hn:dok d n.n=true:=by exact rfl):L G n K ops Q (o::l) m S I:=L.a [i] [] (Ac.stb ho hx hy hi hc hr0) hw hd hn hS rfl fun _=>h
theorem Ll {d:Option Nat} {T:Nat} {ti:TI} (h: ∀ g:Nat,L G n K ops Q l (kW d (.pointer (some ⟨g,0,none⟩)) m) (Ch.box g T ti.zero::S) I) (ho:o.op = .alloc T:=by exact rfl) (hi:bM G.τ T=some ti:=by exact rfl) (hw:wg ops.toList m o=some true:=by exact rfl) (hd:o.dst=d:=by exact rfl) (hn:dok d n.n=true:=by exact rfl):L G n K ops Q (o::l) m S I:=L.a [] [] (Ac.alloc ho hi) hw hd hn rfl rfl h
theorem Lx {d:Option Nat} {T:Nat} {x:Operand} {v:Value} (h: ∀ g:Nat,L G n K ops Q l (kW d (.pointer (some ⟨g,0,none⟩)) m) (Ch.box g T (vc v)::S) I) (ho:o.op = .box T x:=by exact rfl) (hx:ev m x=some v:=by exact rfl) (hw:wg ops.toList m o=some true:=by exact rfl) (hd:o.dst=d:=by exact rfl) (hn:dok d n.n=true:=by exact rfl):L G n K ops Q (o::l) m S I:=L.a [] [] (Ac.box ho hx) hw hd hn rfl rfl h
theorem Tb {ρ:Type} {g h:Option ρ} {r:ρ} {c:Operand} {x y:Code} {b:Bool} (H:(bif b then g else h)=some r) (ht:g=some r→T G n K Q x m S I) (hf:h=some r→T G n K Q y m S I) (hc:ev m c=some (.bool b):=by exact rfl):T G n K Q (.cond c x y) m S I:=T.bif hc H (fun _=>ht) (fun _=>hf)
theorem Lw (j:Nat) {ρ:Type} {g h:Option ρ} {r:ρ} {b:Bool} (H:(bif b then g else h)=some r) (ht:g=some r→L G n K ops Q l ((j,.bool true)::m) S I) (hf:h=some r→L G n K ops Q l ((j,.bool false)::m) S I) (hj:look m j=some (.bool b):=by exact rfl):L G n K ops Q l m S I:=L.cs j H hj (fun _=>ht) (fun _=>hf)
theorem Tj {x y:Code} {η:Type} (φ:η→Prop) (EM:η→Env) (ds:List Nat) (ES:η→List Ch) (is:List Nat) (EI:η→List Im) {PM:Env} {PS:List Ch} (h1:T G n K (Exit.then (Mid n K φ (fun z=>EM z++PM) (fun z=>ES z++PS) (fun z=>EI z++I)) Q) x m S I) (h2: ∀ z,φ z→T G n K Q y (EM z++PM) (ES z++PS) (EI z++I)) (hm:prn m ds=some PM:=by exact rfl) (hS:pick S is=some PS:=by exact rfl):T G n K (Exit.then (y.wpIn G.F 0 G.P Q) Q) x m S I:=T.join φ _ _ _ h1 h2
theorem Tjh {x y:Code} {η:Type} (EM:η→Env) (ds:List Nat) (ES:η→List Ch) (is:List Nat) (EI:η→List Im) {PM:Env} {PS:List Ch} (h1:T G n K (Exit.then (Mid n K (fun _=>True) (fun z=>EM z++PM) (fun z=>ES z++PS) (fun z=>EI z++I)) Q) x m S I) (h2: ∀ z,T G n K Q y (EM z++PM) (ES z++PS) (EI z++I)) (hm:prn m ds=some PM:=by exact rfl) (hS:pick S is=some PS:=by exact rfl):T G n K (Exit.then (y.wpIn G.F 0 G.P Q) Q) x m S I:=T.join (fun _=>True) _ _ _ h1 fun z _=>h2 z
theorem Tj0 {x y:Code} (EM:Env) (ds:List Nat) (ES:List Ch) (is:List Nat) {PM:Env} {PS:List Ch} (h1:T G n K (Exit.then (Mid n K (fun _:Unit=>True) (fun _=>EM++PM) (fun _=>ES++PS) (fun _=>I)) Q) x m S I) (h2:T G n K Q y (EM++PM) (ES++PS) I) (hm:prn m ds=some PM:=by exact rfl) (hS:pick S is=some PS:=by exact rfl):T G n K (Exit.then (y.wpIn G.F 0 G.P Q) Q) x m S I:=T.join (fun _=>True) _ _ _ h1 fun _ _=>h2
theorem Eg {η:Type} {φ:η→Prop} {M:η→Env} {S':η→List Ch} {I0:List Im} {EI:η→List Im} (z:η) (hz:φ z) (is js:List Nat) (k:Nat) {R:List Ch} (hm:(M z).map (fun p=>look m p.1)=(M z).map (fun p=>some p.2):=by exact rfl) (hS:ext S is=some (S' z,R):=by exact rfl) (hJ:pick I js=some (EI z):=by exact rfl) (hk:I.drop k=I0:=by exact rfl):E n K (Exit.then (Mid n K φ M S' (fun z=>EI z++I0)) Q) .normal m S I:=by
  intro A a w hf hs
  have h2:=hs.perm (cG hS) (fun i hi=>hi)
  refine ⟨z,A,hz,hf.sub (lq (pt hm)),h2.drop fun f hf=> ?_⟩
  rcases List.mem_append.1 hf with h | h
  · exact dG hJ f h
  · rw [← hk] at h; exact List.mem_of_mem_drop h
theorem Egx {η:Type} {φ:η→Prop} {M:η→Env} {S':η→List Ch} {I':η→List Im} (z:η) (hz:φ z) (is js:List Nat) {R:List Ch} (hm:(M z).map (fun p=>look m p.1)=(M z).map (fun p=>some p.2):=by exact rfl) (hS:ext S is=some (S' z,R):=by exact rfl) (hJ:pick I js=some (I' z):=by exact rfl):E n K (Exit.then (Mid n K φ M S' I') Q) .normal m S I:=E.sR z is js hz (pt hm) hS hJ
theorem Eg0 {M:Env} {S':List Ch} {I0:List Im} (is:List Nat) (k:Nat) {R:List Ch} (hm:M.map (fun p=>look m p.1)=M.map (fun p=>some p.2):=by exact rfl) (hS:ext S is=some (S',R):=by exact rfl) (hk:I.drop k=I0:=by exact rfl):E n K (Exit.then (Mid n K (fun _:Unit=>True) (fun _=>M) (fun _=>S') (fun _=>I0)) Q) .normal m S I:=by
  intro A a w hf hs
  have h2:=hs.perm (cG hS) (fun i hi=>hi)
  refine ⟨(),A,trivial,hf.sub (lq (pt hm)),h2.drop fun f h=> ?_⟩
  rw [← hk] at h
  exact List.mem_of_mem_drop h
theorem Tq {ρ σ η:Type} {r:ρ} {c:Code} {f:σ→Option (σ ⊕ ρ)} (EM:σ→η→Env) (ds:List Nat) (ES:σ→η→List Ch) (is0:List Nat) (EI:σ→η→List Im) {PM:Env} {PS:List Ch} {s:σ} (x:η) (is js:List Nat) (h:iter f s=some r)
    (round: ∀ k s x z,f s=some z→(∀ s',z = .inl s'→iq f k s'=some r)→(∀ r',z = .inr r'→r'=r)→T G n K (Exit.then (Mid n K (fun p:σ×η=>iq f k p.1=some r) (fun p=>EM p.1 p.2++PM) (fun p=>ES p.1 p.2++PS) (fun p=>EI p.1 p.2++I)) Q) c (EM s x++PM) (ES s x++PS) (EI s x++I)) (hm0:prn m ds=some PM:=by exact rfl) (hS0:pick S is0=some PS:=by exact rfl) {R:List Ch} (hm:(EM s x).map (fun p=>look m p.1)=(EM s x).map (fun p=>some p.2):=by exact rfl) (hS:ext S is=some (ES s x++PS,R):=by exact rfl) (hJ:pick I js=some (EI s x):=by exact rfl):T G n K Q (.loop c) m S I:=by
  have e:Tw.T G n K Q (.loop c) (EM s x++PM) (ES s x++PS) (EI s x++I):=T.it (fun s x=>EM s x++PM) (fun s x=>ES s x++PS) (fun s x=>EI s x++I) round h
  intro A a w hf hs
  have h2:=hs.perm (cG hS) (fun i hi=>hi)
  refine e A a w ?_ (h2.drop fun f hf=> ?_)
  · have h3:=pt hm
    have h4:=zh hm0
    have h5: ∀ {a b:Env},rz m a→rz m b→rz m (a++b):=by
      intro a b ha hb
      induction a with
      | nil=>exact hb
      | cons p a ih=>exact ⟨ha.1,ih ha.2⟩
    exact hf.sub (lq (h5 h3 h4))
  · rcases List.mem_append.1 hf with h | h
    · exact dG hJ f h
    · exact h
theorem Eo {G:Pg} {k:Nat} {K:Key} {m:Env} {S:List Ch} {I:List Im} {fn:Func} {σ:Type} {val:σ→Value} {S':σ→List Ch} {I':σ→List Im} (x:σ) (is js:List Nat) {vs:List Value} {R:List Ch} (hr:RVs G.τ m S fn.results.toList vs) (hv:rI vs=val x:=by exact rfl) (hS:ext S is=some (S' x,R):=by exact rfl) (hJ:pick I js=some (I' x):=by exact rfl):E ⟨k,[]⟩ K (nw G fn K val S' I') .ret m S I:=E.ret x is js hr hv hS hJ
theorem Eo1 {G:Pg} {k:Nat} {K:Key} {m:Env} {S:List Ch} {I:List Im} {fn:Func} {σ:Type} {val:σ→Value} {S':σ→List Ch} {I':σ→List Im} (x:σ) (is js:List Nat) {t:Nat} {R:List Ch} (hf:fn.results.toList=[.tmp t]:=by exact rfl) (hv:look m t=some (val x):=by exact rfl) (hS:ext S is=some (S' x,R):=by exact rfl) (hJ:pick I js=some (I' x):=by exact rfl):E ⟨k,[]⟩ K (nw G fn K val S' I') .ret m S I:=E.ret (vs:=[val x]) x is js (by rw [hf]; exact .tmp hv .nil) rfl hS hJ
end
section
variable {G : Pg} {n : Nd} {K : Key} {Q : Exit → Act → World → Prop} {m : Env} {S C V : List Ch} {I : List Im} {ops : List Oper} {late l : List Nat} {o : Oper}
theorem Td {id:Nat} (late:List Nat) (is:List Nat) (hmo:G.P.follows .mixedOrders=true) (h:D G n K Q ops late [] C m V I) (hS:ext S is=some (C,V):=by exact rfl) (hnd:wS ops=true:=by exact rfl):T G n K Q (.region id ops.toArray true) m S I:=T.draw late is hmo hnd hS h
theorem Dn (h:E n K Q .normal m (C++V) I) (hc:closed ops=true:=by exact rfl) (hr:oV l 0 ops=[]:=by exact rfl):D G n K Q ops late l C m V I:=D.nil hc hr h
theorem Dq (i:Nat) {d:Nat} {v:Value} (h:D G n K Q ops late (i::l) C ((d,v)::m) V I) (hi:ops[i]?=some o:=by exact rfl) (hc:rQ ops late l i=true:=by exact rfl) (hw:wg ops m o=some true:=by exact rfl) (hd:o.dst=some d:=by exact rfl) (hn:dok (some d) n.n=true:=by exact rfl) (hq:qx G.τ m o.op=some v:=by exact rfl):D G n K Q ops late l C m V I:=D.q i hi hc hw hd hn hq h
theorem Ds (i:Nat) {d:Option Nat} (h:D G n K Q ops late (i::l) C (kW d undef m) V I) (hi:ops[i]?=some o:=by exact rfl) (hc:rQ ops late l i=true:=by exact rfl) (hw:wg ops m o=some false:=by exact rfl) (hd:o.dst=d:=by exact rfl) (hn:dok d n.n=true:=by exact rfl):D G n K Q ops late l C m V I:=D.sk i hi hc hw hd hn h
theorem Dy (i:Nat) {d:Nat} {v:Value} (hy:Yl G n m C I o v) (h:D G n K Q ops late (i::l) C ((d,v)::m) V I) (hi:ops[i]?=some o:=by exact rfl) (hc:rQ ops late l i=true:=by exact rfl) (hl:rO ops late i=true:=by exact rfl) (hw:wg ops m o=some true:=by exact rfl) (hd:o.dst=some d:=by exact rfl) (hn:dok (some d) n.n=true:=by exact rfl):D G n K Q ops late l C m V I:=D.y i hy hi hc hl hw hd hn h
theorem Db (i j:Nat) {d:Nat} {t g o' T:Nat} {x:Operand} {cs:List Value} {v:Value} (h:D G n K Q ops late (i::l) C ((d,v)::m) V I) (hi:ops[i]?=some o:=by exact rfl) (ho:o.op = .load t x:=by exact rfl) (hx:ev m x=some (.pointer (some ⟨g,o',none⟩)):=by exact rfl) (hS:C[j]?=some (Ch.box g T cs):=by exact rfl) (hv:nv G.τ t (cs.drop o') 0=some v:=by exact rfl) (hc:rQ ops late l i=true:=by exact rfl) (hl:rO ops late i=true:=by exact rfl) (hw:wg ops m o=some true:=by exact rfl) (hd:o.dst=some d:=by exact rfl) (hn:dok (some d) n.n=true:=by exact rfl):D G n K Q ops late l C m V I:=D.y i (Yl.ldb j ho hx hS hv) hi hc hl hw hd hn h
theorem Da {i:Nat} (is js:List Nat) {d:Option Nat} {Sp R:List Ch} {J:List Im} {σ:Type} {v:σ→Value} {S':σ→List Ch} {I':σ→List Im} (hr:oV l 0 ops=[i]) (hi:ops[i]?=some o) (hA:Ac G n m o Sp J v S' I') (h: ∀ x,D G n K Q ops late (i::l) C (kW d (v x) m) (S' x++R) (I' x++I)) (hc:closed ops=true:=by exact rfl) (hl:Nat.blt l.length ops.length=true:=by exact rfl) (hw:wg ops m o=some true:=by exact rfl) (hd:o.dst=d:=by exact rfl) (hn:dok d n.n=true:=by exact rfl) (hS:ext V is=some (Sp,R):=by exact rfl) (hJ:pick I js=some J:=by exact rfl):D G n K Q ops late l C m V I:=D.one hc hr hl (Dp.a is js hA hi hw hd hn hS hJ h)
theorem Dk {i:Nat} (is js:List Nat) {d:Option Nat} {R:List Ch} {σ:Type} {f:FuncId} {fo:Operand} {as:Array Operand} {ts:Array Nat} {vs args:List Value} {a1 a2:Array Value} {Sp:List Ch} {J:List Im} {val:σ→Value} {S':σ→List Ch} {I':σ→List Im} (hC:CT G f args Sp J val S' I') (h: ∀ x,D G n K Q ops late (i::l) C (kW d (val x) m) (S' x++R) (I' x++I)) (hr:oV l 0 ops=[i]:=by exact rfl) (hi:ops[i]?=some o:=by exact rfl) (ho:o.op = .call { callee:= .value fo,args:=as,argTypes:=ts }:=by exact rfl) (hfo:ev m fo=some (.func (.func f) a1 a2):=by exact rfl) (ha:evl m as.toList=some vs:=by exact rfl) (hargs:a1.toList++vs++a2.toList=args:=by exact rfl) (hc:closed ops=true:=by exact rfl) (hl:Nat.blt l.length ops.length=true:=by exact rfl) (hw:wg ops m o=some true:=by exact rfl) (hd:o.dst=d:=by exact rfl) (hn:dok d n.n=true:=by exact rfl) (hS:ext V is=some (Sp,R):=by exact rfl) (hJ:pick I js=some J:=by exact rfl):D G n K Q ops late l C m V I:=D.one hc hr hl (Dp.a is js (Ac.call hC ho hfo ha hargs) hi hw hd hn hS hJ h)
theorem Dkl {i:Nat} (is js:List Nat) {d:Option Nat} {R:List Ch} {σ:Type} {f:FuncId} {fo:Operand} {as:Array Operand} {ts:Array Nat} {vs args:List Value} {a1 a2:Array Value} {Sp:List Ch} {J:List Im} {val:σ→Value} {S':σ→List Ch} {I':σ→List Im} (hC:CT G f args Sp J val S' I') (h: ∀ x,D G n K Q ops late (i::l) [] (kW d (val x) m) (S' x++R) (I' x++I)) (hr:oV l 0 ops=[i]:=by exact rfl) (hi:ops[i]?=some o:=by exact rfl) (ho:o.op = .call { callee:= .value fo,args:=as,argTypes:=ts }:=by exact rfl) (hfo:ev m fo=some (.func (.func f) a1 a2):=by exact rfl) (ha:evl m as.toList=some vs:=by exact rfl) (hargs:a1.toList++vs++a2.toList=args:=by exact rfl) (hlt:mem i late=true:=by exact rfl) (hc:closed ops=true:=by exact rfl) (hl:Nat.blt l.length ops.length=true:=by exact rfl) (hw:wg ops m o=some true:=by exact rfl) (hd:o.dst=d:=by exact rfl) (hn:dok d n.n=true:=by exact rfl) (hS:ext (C++V) is=some (Sp,R):=by exact rfl) (hJ:pick I js=some J:=by exact rfl):D G n K Q ops late l C m V I:=D.one hc hr hl (Dp.al is js (Ac.call hC ho hfo ha hargs) hlt hi hw hd hn hS hJ h)
theorem Dt {i:Nat} (j:Nat) {R:List Ch} {d:Option Nat} {t g o' T:Nat} {x y:Operand} {cs cs':List Value} {v:Value} {ti:TI} (h:D G n K Q ops late (i::l) [] (kW d undef m) (Ch.box g T cs'::R) I) (hr:oV l 0 ops=[i]:=by exact rfl) (hi:ops[i]?=some o:=by exact rfl) (ho:o.op = .store t x y:=by exact rfl) (hx:ev m x=some (.pointer (some ⟨g,o',none⟩)):=by exact rfl) (hy:ev m y=some v:=by exact rfl) (hti:bM G.τ t=some ti:=by exact rfl) (hoc:(Nat.beq (vc v).length ti.size && (vc v).all Value.oneCell')=true:=by exact rfl) (hS:ext (C++V) [j]=some ([Ch.box g T cs],R):=by exact rfl) (hr0:wr cs o' (vc v)=some cs':=by exact rfl) (hlt:mem i late=true:=by exact rfl) (hc:closed ops=true:=by exact rfl) (hl:Nat.blt l.length ops.length=true:=by exact rfl) (hw:wg ops m o=some true:=by exact rfl) (hd:o.dst=d:=by exact rfl) (hn:dok d n.n=true:=by exact rfl):D G n K Q ops late l C m V I:=D.one hc hr hl (Dp.al [j] [] (Ac.stb ho hx hy hti hoc hr0) hlt hi hw hd hn hS rfl fun _=>h)
end
end Go.Tw
set_option linter.unusedVariables false
set_option linter.unusedSimpArgs false
namespace Go.Tw
open Go
section
variable {σ η : Type}
variable {G : Pg} {n : Nd} {K : Key} {Q : Exit → Act → World → Prop} {m : Env} {S : List Ch} {I : List Im} {SL : σ → η → List Ch} {IL : σ → η → List Im} {jp : σ → Option Code} {z : σ × Bool} {body : Code}
theorem T.FH {ξ τ:Type} (Y:σ→ξ→Option (σ×Bool)) (av:ξ→List Value) (af:ξ→List Im) {g:Operand} {ps:Array Tmp} {assign:Code} {k:Nat} {ds:List Nat} {f:FuncId} {bs caps:Array Value} {val:τ→Value} {S':τ→List Ch} {I':τ→List Im} {Sp Sl R S0:List Ch} {J:List Im} {s0 s1:σ} {h0:η} {hx:τ→η} (jp:σ→Option Code)
    (SL:σ→η→List Ch) (IL:σ→η→List Im) (di:Nat) (is jl js:List Nat)
    (hrd:G.rd=none) (hg:ev m g=some (.func (.func f) bs caps)) (hps: ∀ p,(av p).length=ps.size) (hpk:ps.toList.all (fun d=>Nat.blt d k)=true)
    (hC: ∀ yl (C:σ→η→Ch),(∀ s h p z,Y s p=some z→YT G yl (av p) (C s h::Sl) (af p) (fun _:η=> .bool z.2) (fun h'=>C z.1 h'::Sl) (fun _=>[]))→CT G f (bs.toList ++ .func (.yield yl) #[] #[]::caps.toList) (C s0 h0::Sp) J val (fun x=>C s1 (hx x)::S' x) I')
    (hjy: ∀ s p z,Y s p=some z→jp s=none) (hj0:jp s0=none)
    (hd:ext S [di]=some ([Ch.dfs ds],S0)) (hS:ext S0 is=some (SL s0 h0++Sp,R)) (hIL:pick I jl=some (IL s0 h0)) (hJ:pick I js=some J)
    (hround: ∀ yl K s h p z,Y s p=some z→T (G.at yl) ⟨k,[]⟩ K (Exit.then (BG (G.at yl) ⟨k,[]⟩ (fun s h=>SL s h++Sl) IL jp z body K) (fun _ _ _=>False)) assign (pm ps.toList (av p) m) (SL s h++Sl) (af p++IL s h))
    (hj1:jok (jp s1)=true)
    (h: ∀ x D,E ⟨k,D::ds⟩ K Q (jx (jp s1)) m (Ch.dfs (D::ds)::(SL s1 (hx x)++S' x++R)) (IL s1 (hx x)++I' x++I)) :
    T G ⟨k,ds⟩ K Q (.rangeFunc g ps assign body) m S I:=by
  intro A a w hf hs
  have hF:G.F=Fence.wide:=by unfold Pg.F; rw [hrd]
  refine wpIn_rangeFunc ?_
  intro fn _
  have hro:G.F.round=none:=by rw [G.round,hrd]
  rw [hro]
  obtain ⟨D0,hD0⟩: ∃ D0,w.heap.size=D0:=⟨_,rfl⟩
  obtain ⟨rec,hrec⟩: ∃ rec:LoopState→Option Code→Loop,rec=fun st pe=>{ state:=st,pending:=pe,fn,tmps:=a.tmps,params:=ps,assign,body,defers:=D0 }:=⟨_,rfl⟩
  obtain ⟨C,hCd⟩: ∃ C:σ→η→Ch,C=fun s h=>Ch.pk (Ch.lp (D0+1) (rec (if (jp s).isNone then .ready else .done) (jp s))::SL s h) (IL s h):=⟨_,rfl⟩
  have hm:Fr ⟨k,[]⟩ m ⟨a.tmps,[]⟩:=⟨hf.size,rfl,hf.at_⟩
  have hY0:=uG (G:=G) (yl:=D0+1) Y av af hm hps hpk hjy hround rec hrec _ rfl
  have hY: ∀ s h p z,Y s p=some z→YT G (D0+1) (av p) (C s h::Sl) (af p) (fun _:η=> .bool z.2) (fun h'=>C z.1 h'::Sl) (fun _=>[]):=by
    intro s h p z hz
    rw [hCd]
    exact YT.FG (Ch.lp (D0+1) (rec (if (jp s).isNone then .ready else .done) (jp s))::SL s h) (IL s h) (fun h'=>Ch.lp (D0+1) (rec (if (jp z.1).isNone then .ready else .done) (jp z.1))::SL z.1 h') (fun h'=>IL z.1 h') Sl (hY0 s h p z hz)
  obtain ⟨⟨fnc,hfnc,h1,h2⟩,hcalls⟩:=hC (D0+1) C hY
  -- the two blocks
  have a1:=(hs.perm (cG hd) (fun i hi=>hi))
  have a2:=a1.alloc (.deferred (some [])) (Ch.dfs [D0]) (fun b hb=>by rw [hD0]; exact List.mem_singleton.1 hb) ⟨by simp,fun D hD=>by
    rw [List.mem_singleton.1 hD,← hD0]; exact World.alloc_heap_new w _⟩
  have e2:(w.alloc (.deferred (some []))).heap.size=D0+1:=by rw [World.size_alloc,hD0]
  have a3:=a2.alloc (.loop (rec .ready none)) (Ch.lp (D0+1) (rec .ready none)) (fun b hb=>by rw [e2]; exact hb) (by
    show (World.alloc _ _).heap[D0+1]?=_
    rw [← e2]; exact World.alloc_heap_new _ _)
  obtain ⟨W,hW⟩: ∃ W,(w.alloc (.deferred (some []))).alloc (.loop (rec .ready none))=W:=⟨_,rfl⟩
  rw [hW] at a3
  -- marks together
  have a4:SS K A (Ch.dfs (D0::ds)::Ch.lp (D0+1) (rec .ready none)::S0) I W:=by
    have hd3:=List.pairwise_cons.1 a3.st.dis
    have hd4:=List.pairwise_cons.1 hd3.2
    have hd5:=List.pairwise_cons.1 hd4.2
    have hok1:=a3.st.ch (Ch.dfs [D0]) (by simp)
    have hok2:=a3.st.ch (Ch.dfs ds) (by simp)
    refine a3.sR ?_ ?_ ?_ a3.st.im
    · intro c hc
      rcases List.mem_cons.1 hc with rfl | hc
      · refine ⟨List.nodup_cons.2 ⟨fun hmem=>hd4.1 (Ch.dfs ds) (by simp) D0 (List.mem_singleton.2 rfl) hmem,hok2.1⟩,fun D hD=> ?_⟩
        rcases List.mem_cons.1 hD with rfl | hD
        · exact hok1.2 D (by simp)
        · exact hok2.2 D hD
      · rcases List.mem_cons.1 hc with rfl | hc
        · exact a3.st.ch _ (by simp)
        · exact a3.st.ch _ (by simp [hc])
    · rintro b ⟨c,hc,hb⟩
      rcases List.mem_cons.1 hc with rfl | hc
      · rcases List.mem_cons.1 hb with rfl | hb
        · exact ⟨Ch.dfs [b],by simp,List.mem_singleton.2 rfl⟩
        · exact ⟨Ch.dfs ds,by simp,hb⟩
      · rcases List.mem_cons.1 hc with rfl | hc
        · exact ⟨Ch.lp (D0+1) (rec .ready none),by simp,hb⟩
        · exact ⟨c,by simp [hc],hb⟩
    · refine List.pairwise_cons.2 ⟨?_,List.pairwise_cons.2 ⟨fun c hc=>hd3.1 c (by simp [hc]),hd5.2⟩⟩
      intro c hc b hb hb2
      have hb3:b=D0∨b∈ds:=List.mem_cons.1 hb
      rcases List.mem_cons.1 hc with hc | hc
      · rw [hc] at hb2
        rcases hb3 with h3 | h3
        · exact hd3.1 (Ch.dfs [D0]) (by simp) b hb2 (List.mem_singleton.2 h3)
        · exact hd3.1 (Ch.dfs ds) (by simp) b hb2 h3
      · rcases hb3 with h3 | h3
        · exact hd4.1 c (by simp [hc]) b (List.mem_singleton.2 h3) hb2
        · exact hd5.1 c hc b h3 hb2
  -- the pack
  have hpS:=cG hS
  have a5:SS K A ((Ch.lp (D0+1) (rec .ready none)::SL s0 h0)++(Sp++(Ch.dfs (D0::ds)::R))) (IL s0 h0++(J++I)) W:=by
    refine a4.perm ?_ ?_
    · have p1:(Ch.dfs (D0::ds)::Ch.lp (D0+1) (rec .ready none)::((SL s0 h0++Sp)++R)).Perm (Ch.dfs (D0::ds)::Ch.lp (D0+1) (rec .ready none)::S0):=(hpS.cons _).cons _
      refine List.Perm.trans ?_ p1
      have p2:((Ch.lp (D0+1) (rec .ready none)::SL s0 h0)++(Sp++(Ch.dfs (D0::ds)::R))).Perm (Ch.dfs (D0::ds)::((Ch.lp (D0+1) (rec .ready none)::SL s0 h0)++(Sp++R))):=by
        have:(Sp++(Ch.dfs (D0::ds)::R)).Perm (Ch.dfs (D0::ds)::(Sp++R)):=List.perm_middle
        exact (this.append_left _).trans List.perm_middle
      refine p2.trans ?_
      simp
    · intro i hi
      rcases List.mem_append.1 hi with hi | hi
      · exact dG hIL i hi
      · rcases List.mem_append.1 hi with hi | hi
        · exact dG hJ i hi
        · exact hi
  have a6:=SS.pack a5
  have eC0:Ch.pk (Ch.lp (D0+1) (rec .ready none)::SL s0 h0) (IL s0 h0)=C s0 h0:=by rw [hCd]; simp only [hj0]; rfl
  rw [eC0] at a6
  have hct:=hcalls A W ((SS.st (S:=(C s0 h0::Sp)++(Ch.dfs (D0::ds)::R)) (by simpa using a6)).left (fun i hi=>List.mem_append_left _ hi))
  have hev:=hf.ev hg
  refine ⟨D0+1,[mark D0],W,{ target:= .fn (.func f) caps,args:=bs ++ #[.func (.yield (D0+1)) #[] #[]] },W,f,bs ++ #[.func (.yield (D0+1)) #[] #[]]++caps,W,?_,?_,?_,?_,G.deep,?_⟩
  · rw [← hW,hrec,← hD0]; exact run_enterLoop_outer _ _ _ _ _
  · simp [resolve,Deferred.ofValue,hev]
    rfl
  · intro f' _; exact G.fn f'
  · simp [invoke,mN hfnc h1 h2]
  · refine G.calls ?_
    have earr:(bs.toList++Value.func (.yield (D0+1)) #[] #[]::caps.toList).toArray=bs ++ #[.func (.yield (D0+1)) #[] #[]]++caps:=by apply Array.ext'; simp
    rw [earr] at hct
    refine hct.mono ?_
    rintro e W2 ⟨x,A',rfl,h3⟩
    have b1:SS K A' ((C s1 (hx x)::S' x)++(Ch.dfs (D0::ds)::R)) (I' x++(J++I)) W2:=SS.frame (S:=C s0 h0::Sp) (R:=Ch.dfs (D0::ds)::R) (I:=J++I) (by simpa using a6) h3
    obtain ⟨r1,hr1⟩: ∃ r1,rec (if (jp s1).isNone then LoopState.ready else .done) (jp s1)=r1:=⟨_,rfl⟩
    have hnb:r1.state ≠ .busy:=by rw [← hr1,hrec]; cases jp s1 <;> simp
    have ep:r1.pending=jp s1:=by rw [← hr1,hrec]
    have eC1:C s1 (hx x)=Ch.pk (Ch.lp (D0+1) r1::SL s1 (hx x)) (IL s1 (hx x)):=by rw [← hr1,hCd]
    rw [eC1] at b1
    have b2:SS K A' ((Ch.lp (D0+1) r1::SL s1 (hx x))++(S' x++(Ch.dfs (D0::ds)::R))) (IL s1 (hx x)++(I' x++(J++I))) W2:=SS.unpack b1
    have hl:W2.heap[D0+1]?=some (.loop r1):=b2.st.ch _ (List.mem_cons_self ..)
    have hlt:D0+1 < W2.heap.size:=(Array.getElem?_eq_some_iff.1 hl).1
    have hend:=run_endLoop (P:=G.P) hl hnb
    obtain ⟨r2,hr2⟩: ∃ r2,({ r1 with state:= .exhausted }:Loop)=r2:=⟨_,rfl⟩
    rw [hr2] at hend
    refine ⟨_,_,hend,?_⟩
    have b3:=SS.put (o:= .loop r2) (D:=D0+1) (c':=Ch.lp (D0+1) r2) (c:=Ch.lp (D0+1) r1) (R:=SL s1 (hx x)++(S' x++(Ch.dfs (D0::ds)::R))) b2 rfl (fun b hb=>hb) (World.putObj_heap_same hlt)
    have b4:=b3.tl
    have b5:=b4.perm (S':=Ch.dfs (D0::ds)::(SL s1 (hx x)++S' x++R)) (I':=IL s1 (hx x)++I' x++I) (by
      have:(SL s1 (hx x)++(S' x++(Ch.dfs (D0::ds)::R))).Perm (Ch.dfs (D0::ds)::(SL s1 (hx x)++S' x++R)):=by
        rw [← List.append_assoc]
        exact List.perm_middle
      exact this.symm) (fun i hi=>by simp only [List.mem_append] at hi ⊢; rcases hi with (hi | hi) | hi <;> simp [hi])
    have hE:=h x D0 A' ⟨a.tmps,[mark D0]++a.defers⟩ _ ⟨hf.size,by simp [hf.defers],hf.at_⟩ b5
    rw [ep]
    generalize jp s1=j at hE hj1 ⊢
    cases j with
    | none=>exact hE
    | some c =>
      cases c <;> first | (cases hj1; done) | skip
      · exact wpIn_exit hE
      · exact wpIn_ret hE
end
section
variable {σ η X θ τ : Type} {G : Pg} {n : Nd} {K : Key} {Q : Exit → Act → World → Prop} {m : Env} {S : List Ch} {I : List Im} {body : Code}
theorem T.rf4 {Y:σ→X→Option (σ×Bool)} {g:Operand} {ps:Array Tmp} {assign:Code} {k:Nat} {ds:List Nat} {f:FuncId} {bs caps:Array Value} {val:τ→Value} {S':τ→List Ch} {I':τ→List Im} {R S0:List Ch} {J:List Im} {s0 s1:σ} {h0:η} {hx:τ→η} (av:X→θ→List Value) (af:X→θ→List Im) (jp:σ→Option Code)
    (Sp Sl:List Ch) (SL:σ→η→List Ch) (IL:σ→η→List Im) (di:Nat) (is jl js:List Nat)
    (hrd:G.rd=none) (hg:ev m g=some (.func (.func f) bs caps)) (hps: ∀ x t,(av x t).length=ps.size) (hpk:ps.toList.all (fun d=>Nat.blt d k)=true)
    (hC: ∀ yl (C:σ→η→Ch),(∀ s h x t z,Y s x=some z→YT G yl (av x t) (C s h::Sl) (af x t) (fun _:η=> .bool z.2) (fun h'=>C z.1 h'::Sl) (fun _=>[]))→CT G f (bs.toList ++ .func (.yield yl) #[] #[]::caps.toList) (C s0 h0::Sp) J val (fun x=>C s1 (hx x)::S' x) I')
    (hjy: ∀ s x z,Y s x=some z→jp s=none) (hj0:jp s0=none)
    (hd:ext S [di]=some ([Ch.dfs ds],S0)) (hS:ext S0 is=some (SL s0 h0++Sp,R)) (hIL:pick I jl=some (IL s0 h0)) (hJ:pick I js=some J)
    (hround: ∀ yl K s h x t z,Y s x=some z→T (G.at yl) ⟨k,[]⟩ K (Exit.then (BG (G.at yl) ⟨k,[]⟩ (fun s h=>SL s h++Sl) IL jp z body K) (fun _ _ _=>False)) assign (pm ps.toList (av x t) m) (SL s h++Sl) (af x t++IL s h))
    (hj1:jok (jp s1)=true)
    (h: ∀ x D,E ⟨k,D::ds⟩ K Q (jx (jp s1)) m (Ch.dfs (D::ds)::(SL s1 (hx x)++S' x++R)) (IL s1 (hx x)++I' x++I)) :
    T G ⟨k,ds⟩ K Q (.rangeFunc g ps assign body) m S I :=
  T.FH (ξ:=X×θ) (fun s p=>Y s p.1) (fun p=>av p.1 p.2) (fun p=>af p.1 p.2) jp SL IL di is jl js hrd hg (fun p=>hps p.1 p.2) hpk (fun yl C hY=>hC yl C fun s h x t z hz=>hY s h (x,t) z hz) (fun s p z hz=>hjy s p.1 z hz) hj0 hd hS hIL hJ
    (fun yl K s h p z hz=>hround yl K s h p.1 p.2 z hz) hj1 h
end
end Go.Tw
set_option linter.unusedVariables false
set_option linter.unusedSimpArgs false
namespace Go.Tw
open Go
def Ch.imc {α:Type} (d:Ty α) (a0:Option Addr) (c:Nat) (xs:List α):Ch where
  blk:=fun _=>False
  ok:=(Im.sl d a0 c xs).ok
  st:=fun hA hw _ h=>(Im.sl d a0 c xs).st hA hw h
def Ch.opt {α:Type} (b:Bool) (d:Ty α) (T:Nat) (a0:Option Addr) (c:Nat) (xs:List α):Ch:=bif b then Ch.arr d T a0 c xs else Ch.imc d a0 c xs
theorem DA {b:Bool} {u:Unit} (h:chk (!b)=some u):b=false:=by cases b with
 | false=>rfl
 | true=>cases h
section
variable {G : Pg} {n : Nd} {K : Key} {Q : Exit → Act → World → Prop} {m : Env} {S R : List Ch} {I : List Im} {α : Type} {ty : Ty α} {xs : List α} {a0 : Option Addr} {c T0 : Nat} {b b' : Bool}
theorem SS.FI {A:dN} {w:World} (h:SS K A (Ch.imc ty a0 c xs::S) I w):SS K A S (Im.sl ty a0 c xs::I) w :=
  (h.tl).ma (J:=[_]) fun f hf=>by rw [List.mem_singleton.1 hf]; exact h.st.ch (Ch.imc ty a0 c xs) (by simp)
theorem SS.DB {A:dN} {w:World} (h:SS K A S I w) (hf:(Im.sl ty a0 c xs).ok A w):SS K A (Ch.imc ty a0 c xs::S) I w:=by
  refine h.sR ?_ ?_ (List.pairwise_cons.2 ⟨fun d _ b hb=>hb.elim,h.st.dis⟩) h.st.im
  · intro d hd
    rcases List.mem_cons.1 hd with rfl | hd
    · exact hf
    · exact h.st.ch d hd
  · rintro b ⟨d,hd,hb⟩
    rcases List.mem_cons.1 hd with rfl | hd
    · exact hb.elim
    · exact ⟨d,hd,hb⟩
theorem SS.FJ {A:dN} {w:World} (h:SS K A (Ch.opt b ty T0 a0 c xs::S) I w): ∃ A',SS K A' S (Im.sl ty a0 c xs::I) w:=by
  cases b with
  | true=>exact ⟨_,SS.frz h mO⟩
  | false=>exact ⟨A,SS.FI h⟩
theorem SS.yf {A:dN} {w:World} (b:Bool) (h:SS K A (Ch.arr ty T0 a0 c xs::S) I w): ∃ A',SS K A' (Ch.opt b ty T0 a0 c xs::S) I w:=by
  cases b with
  | true=>exact ⟨A,h⟩
  | false =>
    have h2:=SS.frz h mO
    have h3:=h2.DB (h2.st.im (Im.sl ty a0 c xs) (by simp))
    exact ⟨_,h3.perm (List.Perm.refl _) (fun i hi=>by simp [hi])⟩
theorem SS.oset {A:dN} {w:World} (hb:b'=false) (h:SS K A (Ch.opt b ty T0 a0 c xs::S) I w): ∃ A',SS K A' (Ch.opt b' ty T0 a0 c xs::S) I w:=by
  subst hb
  obtain ⟨A',h2⟩:=h.FJ
  have h3:=h2.DB (h2.st.im (Im.sl ty a0 c xs) (by simp))
  exact ⟨_,h3.perm (List.Perm.refl _) (fun i hi=>by simp [hi])⟩
theorem SS.oim {A:dN} {w:World} (hb:b'=false) (i:Nat) (hI:I[i]?=some (Im.sl ty a0 c xs)) (h:SS K A S I w):SS K A (Ch.opt b' ty T0 a0 c xs::S) I w:=by
  subst hb
  exact h.DB (h.st.im _ (List.mem_of_getElem? hI))
theorem SS.BA {A:dN} {w:World} {u:Unit} (hk:chk b=some u) (h:SS K A (Ch.opt b ty T0 a0 c xs::S) I w):SS K A (Ch.arr ty T0 a0 c xs::S) I w:=by
  cases b with
  | true=>exact h
  | false=>cases hk
-- for code,for what is left of a region,for an exit
theorem L.BA {ops:Array Oper} {l:List Oper} {u:Unit} (p:Nat) (hk:chk b=some u) (hS:ext S [p]=some ([Ch.opt b ty T0 a0 c xs],R)) (h:L G n K ops Q l m (Ch.arr ty T0 a0 c xs::R) I):L G n K ops Q l m S I:=fun A a w hf hs=>h A a w hf ((hs.perm (cG hS) fun _ h=>h).BA hk)
theorem E.yf {e:Exit} (p:Nat) (b:Bool) (hS:ext S [p]=some ([Ch.arr ty T0 a0 c xs],R)) (h:E n K Q e m (Ch.opt b ty T0 a0 c xs::R) I):E n K Q e m S I:=fun A a w hf hs=>by
  obtain ⟨A',h2⟩:=SS.yf b (hs.perm (cG hS) fun _ h=>h)
  exact h A' a w hf h2
theorem T.oset {c':Code} (p:Nat) (b':Bool) (hb:b'=false) (hS:ext S [p]=some ([Ch.opt b ty T0 a0 c xs],R)) (h:Tw.T G n K Q c' m (Ch.opt b' ty T0 a0 c xs::R) I):Tw.T G n K Q c' m S I:=fun A a w hf hs=>by
  obtain ⟨A',h2⟩:=SS.oset hb (hs.perm (cG hS) fun _ h=>h)
  exact h A' a w hf h2
theorem L.oset {ops:Array Oper} {l:List Oper} (p:Nat) (b':Bool) (hb:b'=false) (hS:ext S [p]=some ([Ch.opt b ty T0 a0 c xs],R)) (h:L G n K ops Q l m (Ch.opt b' ty T0 a0 c xs::R) I):L G n K ops Q l m S I:=fun A a w hf hs=>by
  obtain ⟨A',h2⟩:=SS.oset hb (hs.perm (cG hS) fun _ h=>h)
  exact h A' a w hf h2
theorem E.oset {e:Exit} (p:Nat) (b':Bool) (hb:b'=false) (hS:ext S [p]=some ([Ch.opt b ty T0 a0 c xs],R)) (h:E n K Q e m (Ch.opt b' ty T0 a0 c xs::R) I):E n K Q e m S I:=fun A a w hf hs=>by
  obtain ⟨A',h2⟩:=SS.oset hb (hs.perm (cG hS) fun _ h=>h)
  exact h A' a w hf h2
theorem E.oim {e:Exit} (i T0:Nat) (b':Bool) (hb:b'=false) (hI:I[i]?=some (Im.sl ty a0 c xs)) (h:E n K Q e m (Ch.opt b' ty T0 a0 c xs::S) I):E n K Q e m S I:=fun A a w hf hs=>h A a w hf (hs.oim hb i hI)
end
end Go.Tw
set_option linter.unusedVariables false
set_option linter.unusedSimpArgs false
namespace Go.Tw
open Go
def tcs {α:Type} (ty:Ty α) (h0:ty.Hid) (xs:List α):List Value:=xs.flatMap fun x=>ty.cs x h0
section
variable {G : Pg} {n : Nd} {m : Env} {S : List Ch} {I : List Im} {o : Oper} {α : Type} {ty : Ty α} {xs : List α}
theorem wX {h0:ty.Hid} (hh: ∀ x h,ty.cs x h=ty.cs x h0) {A:dN} {w:World}: ∀ {xs:List α} {cs:List Value},Els ty A w xs cs→cs=tcs ty h0 xs
  | _,_,.nil=>rfl
  | _,_,.cons h hi hr=>by
    rw [wX hh hr,hh]
    rfl
theorem tQ (h0:ty.Hid): ∀ xs:List α,(tcs ty h0 xs).length=xs.length*ty.sz
  | []=>by simp [tcs]
  | x::xs=>by
    have:=tQ h0 xs
    simp only [tcs,List.flatMap_cons,List.length_append,ty.len,List.length_cons,Nat.succ_mul] at *
    omega
theorem zy (h0:ty.Hid): ∀ (xs:List α) (i:Nat) (r:α),xs[i]?=some r→((tcs ty h0 xs).drop (i*ty.sz)).take ty.sz=ty.cs r h0
  | [],i,r,h=>by simp at h
  | x::xs,0,r,h=>by
    simp only [List.getElem?_cons_zero,Option.some.injEq] at h
    subst h
    simp only [tcs,List.flatMap_cons,Nat.zero_mul,List.drop_zero]
    rw [← ty.len x h0,List.take_left]
  | x::xs,i+1,r,h=>by
    have:=zy h0 xs i r (by simpa using h)
    simp only [tcs,List.flatMap_cons] at *
    rw [show (i+1)*ty.sz=(ty.cs x h0).length+i*ty.sz from by rw [ty.len,Nat.succ_mul,Nat.add_comm],List.drop_append,List.drop_of_length_le (by omega),List.nil_append,Nat.add_sub_cancel_left]
    exact this
theorem Yl.ldt (q:Nat) {t b c:Nat} {x:Operand} {h0:ty.Hid} {ti:TI} (ho:o.op = .load t x) (hx:ev m x=some (.pointer (some ⟨b,0,none⟩))) (hI:I[q]?=some (Im.sl ty (some ⟨b,0,none⟩) c xs)) (hh: ∀ x h,ty.cs x h=ty.cs x h0) (ht:bM G.τ t=some ti) (ha:ti.agg=true) (hsz:ti.size=xs.length*ty.sz) (hne:Nat.blt 0 xs.length=true):Yl G n m S I o (.agg (tcs ty h0 xs).toArray):=fun A ac w hf _ hI'=>by
  obtain ⟨_,h1⟩:=hI' _ (List.mem_of_getElem? hI)
  rcases h1 with rfl | ⟨b1,o1,cs,e,_,hels,hc⟩
  · cases hne
  injection e with e
  injection e with e1 e2
  subst e1 e2
  have he:=wX hh hels
  subst he
  have hr:(loadVar t ⟨b,0,none⟩).run G.P w = .ok (.agg (tcs ty h0 xs).toArray) w:=jC (cs:=tcs ty h0 xs) G.ok (by
    unfold nv
    rw [ht]
    dsimp only
    rw [ha]
    dsimp only
    rw [Nat.zero_add,hsz,tQ,Nat.ble_eq_true_of_le (Nat.le_refl _)]
    dsimp only
    rw [List.drop_zero,← tQ h0 xs,List.take_length]) fun j u hu=>hc j u (by simpa using hu)
  simp only [execOp,ho,hf.ev hx,Instr.loadAt,Instr.sureAddr,Sem.run_bind,Sem.run_pure,Result.andThen_ok,hr]
theorem Yl.xav {t e N:Nat} {x ix:Operand} {k2:IntKind} {i:Int} {r:α} {cs:Array Value} {ti te:TI} {h0:ty.Hid} (hi:idx xs i=some r) (ho:o.op = .index t x ix) (hx:ev m x=some (.agg cs)) (hcs:cs.toList=tcs ty h0 xs) (hix:ev m ix=some (.int k2 i)) (ht:bM G.τ t=some ti) (hk:ti.k = .array N e) (hN:xs.length=N) (he:bM G.τ e=some te) (hsz:(Nat.beq te.size ty.sz && te.agg)=true):Yl G n m S I o (.agg (ty.cs r h0).toArray):=fun A ac w hf _ _=>by
  obtain ⟨d,f,z,hd,hfi,hkk,_⟩:=G.ok.info ht
  rw [hk] at hkk
  cases hkk
  simp only [Bool.and_eq_true] at hsz
  have hs1:=Nat.eq_of_beq_eq_true hsz.1
  obtain ⟨h00,h1⟩:=bC hi
  have h2:=(List.getElem?_eq_some_iff.1 h1).1
  have hp:(part e cs (i.toNat*te.size)).run G.P w = .ok (.agg (ty.cs r h0).toArray) w:=by
    refine pg G.ok ?_ w
    unfold x6
    rw [he]
    dsimp only
    rw [hsz.2,hs1,hcs]
    dsimp only
    rw [zy h0 xs _ _ h1]
  have hr:(Instr.index t (.agg cs) (.int k2 i)).run G.P w = .ok (.agg (ty.cs r h0).toArray) w:=by
    simp only [Instr.index,asIntOf,Sem.run_bind,Sem.run_pure,Result.andThen_ok,run_underlying hd]
    rw [if_pos ⟨h00,by omega⟩]
    simp only [Sem.run_bind,run_sizeOf G.ok he,Result.andThen_ok,hp]
  simp only [execOp,ho,hf.ev hx,hf.ev hix,Sem.run_bind,hr,Result.andThen_ok,Sem.run_pure]
end
section
variable {G : Pg} {n : Nd} {m : Env} {o : Oper} {α : Type} {ty : Ty α} {xs ys : List α} {a0 a1 : Option Addr} {c c1 : Nat}
end
theorem Ac.ofY {G:Pg} {n:Nd} {m:Env} {o:Oper} {Sp:List Ch} {v:Value} (h:Yl G n m Sp [] o v):Ac G n m o Sp [] (fun _:Unit=>v) (fun _=>Sp) (fun _=>[]):=by
  refine Ac.run (v:=fun _:Unit=>some v) fun A a w hf hs=> ?_
  exact ⟨(),w,A,h A a w hf hs.ch (fun f hf=>by cases hf),SS.start ⟨hs.lt,hs.ch,hs.own,hs.dis,fun f hf=>by cases hf⟩⟩
end Go.Tw
set_option linter.unusedVariables false
set_option linter.unusedSimpArgs false
namespace Go.Tw
open Go
theorem Li {G:Pg} {n:Nd} {K:Key} {Q:Exit→Act→World→Prop} {m:Env} {S:List Ch} {I:List Im} {ops:Array Oper} {l:List Oper} (h:L G n K ops Q l m S I):L G n K ops Q l m S I:=h
theorem Ejn {n:Nd} {K:Key} {Q:Exit→Act→World→Prop} {m:Env} {S:List Ch} {I:List Im} (h:E n K Q .normal m S I):E n K Q (jx none) m S I:=h
theorem Z0 {P Q:Prop} (h:Q) (f:Q→P:=by
  intro h
  repeat (first
    | ((with_reducible refine Li ?_); first | refine Lq 1 ?_ | (with_reducible refine Ln ?_) | refine Lb 0 ?_ | refine Lb 1 ?_ | refine Lb 2 ?_ | refine Lb 3 ?_ | refine Lb 4 ?_ | refine Lb 5 ?_ | refine Lb 6 ?_ | refine Lb 7 ?_ | refine Lb 8 ?_ | refine Lb 9 ?_)
    | with_reducible refine Et ?_
    | with_reducible refine Tr ?_
    | with_reducible refine Tk ?_
    | with_reducible refine Tv ?_
    | with_reducible refine Tx ?_
    | with_reducible refine Ex ?_
    | with_reducible refine Er ?_
    | with_reducible refine Eb ?_
    | with_reducible refine Eh ?_
    | with_reducible refine Ev ?_
    | with_reducible refine Ejn ?_
    | with_reducible refine Ejr ?_
    | with_reducible refine Eje ?_)
  exact h):P:=f h
theorem Z1 {P Q:Prop} (h:Q) (f:Q→P:=by intro h; refine Z0 ?_; refine Ts ?_; refine Z0 ?_; exact h):P:=f h
theorem Z2 {P Q:Prop} (h:Q) (f:Q→P:=by intro h; refine Z1 ?_; refine Ts ?_; refine Z0 ?_; exact h):P:=f h
theorem Z3 {P Q:Prop} (h:Q) (f:Q→P:=by intro h; refine Z2 ?_; refine Ts ?_; refine Z0 ?_; exact h):P:=f h
theorem Y1 {P Q:Prop} (h:Q) (f:Q→P:=by intro h; refine Z0 ?_; refine Ts ?_; exact h):P:=f h
theorem Y2 {P Q:Prop} (h:Q) (f:Q→P:=by intro h; refine Z1 ?_; refine Ts ?_; exact h):P:=f h
theorem Y3 {P Q:Prop} (h:Q) (f:Q→P:=by intro h; refine Z2 ?_; refine Ts ?_; exact h):P:=f h
theorem Zl {P Q:Prop} (h:Q) (f:Q→P:=by intro h; refine Z0 ?_; refine Tl ?_; refine Z0 ?_; exact h):P:=f h
theorem Yl0 {P Q:Prop} (h:Q) (f:Q→P:=by intro h; refine Z0 ?_; refine Tl ?_; exact h):P:=f h
theorem Cf {G : Pg} {f : FuncId} {fn : Func} {c : Code} {args : List Value} {S : List Ch} {I : List Im} {σ : Type} {val : σ → Value} {S' : σ → List Ch} {I' : σ → List Im} (hf : G.P.funcs[f]? = some fn) (h : ∀ K, T G ⟨fn.ntmps, []⟩ K (nw G fn K val S' I') c (en 0 args) S I) (h1 : (fn.name == "runtime.NumGoroutine") = false := by kernel_rfl) (hb : fn.body = some c := by exact rfl) (hn : Nat.ble args.length fn.ntmps = true := by exact rfl)
    (hrd:G.rd=none:=by exact rfl):CT G f args S I val S' I':=CT.of hf h1 hb hn hrd h
section
variable {G : Pg} {n : Nd} {K : Key} {Q : Exit → Act → World → Prop} {ops : List Oper} {late : List Nat} {l : List Nat} {C : List Ch} {m : Env} {V : List Ch} {I : List Im} {o : Oper}
end
end Go.Tw
set_option linter.unusedVariables false
set_option linter.unusedSimpArgs false
namespace Go.Tw
open Go Go.Deep
def Im.okW (w:World) (f:Im):Prop:=f.ok (fun b=>b < w.heap.size) w
def Opn {α:Type} (P:Program) (t:TypeId) (ty:Ty α) (wf:α→Prop):Prop :=
  ∀ {H:Type} (enc:TypeId×Value→H) (w:World) (sp:Nat→Bool) (hd:Bool) (fuel:Nat) (cs:List Value) (x:DataW H×List MemPlace),DataW.trod enc P w 0 sp hd fuel t cs=some x → ∃ y h,cs=ty.cs y h∧wf y ∧ ∀ f∈ty.im y h,f.okW w
variable {P : Program} {α β : Type}
theorem Opn.int {t:TypeId} {k:IntKind} (ht:P.underlying t=some (.int k)):Opn P t (Ty.int k) (inK k):=by
  intro H enc w sp hd fuel cs x h
  obtain ⟨n,rfl,_,hw⟩:=DataW.trod_int ht h
  simp only [Lit.wf,Bool.and_eq_true,decide_eq_true_eq] at hw
  exact ⟨n,(),rfl,hw,fun f hf=>by cases hf⟩
theorem Opn.str {t:TypeId} (ht:P.underlying t=some .string):Opn P t Ty.str (fun s=>s.size≤maxLen):=by
  intro H enc w sp hd fuel cs x h
  obtain ⟨s,rfl,_,hs⟩:=DataW.trod_string ht h
  exact ⟨s,(),rfl,hs,fun f hf=>by cases hf⟩
theorem zz {ty:Ty α} {wf:α→Prop} {A:dN} {w:World} {a:Addr}: ∀ n:Nat,(∀ i,i < n → ∃ y h,(∀ j u,(ty.cs y h)[j]?=some u→w.cell? (a.add (i*ty.sz+j))=some u)∧wf y ∧ ∀ f∈ty.im y h,f.ok A w) →
    ∃ xs cs,xs.length=n∧Els ty A w xs cs∧(∀ j u,cs[j]?=some u→w.cell? (a.add j)=some u) ∧ ∀ x∈xs,wf x
  | 0,_=>⟨[],[],rfl,.nil,by simp,by simp⟩
  | n+1,h=>by
    obtain ⟨xs,cs,hl,he,hc,hw⟩:=zz n fun i hi=>h i (Nat.lt_succ_of_lt hi)
    obtain ⟨y,hd,h1,h2,h3⟩:=h n (Nat.lt_succ_self n)
    refine ⟨xs++[y],cs++(ty.cs y hd++[]),by simp [hl],he.app (.cons hd h3 .nil),?_,?_⟩
    · intro j u hu
      rw [List.append_nil] at hu
      have hlen:=he.len
      rw [hl] at hlen
      by_cases hj:j < cs.length
      · rw [List.getElem?_append_left hj] at hu
        exact hc j u hu
      · rw [List.getElem?_append_right (by omega)] at hu
        have:=h1 (j - cs.length) u hu
        rw [hlen] at this hj
        rwa [show n*ty.sz+(j - n*ty.sz)=j by omega] at this
    · intro x hx
      rcases List.mem_append.1 hx with hx | hx
      · exact hw x hx
      · rw [List.mem_singleton.1 hx]; exact h2
theorem Opn.slice {t e:TypeId} {ty:Ty α} {wf:α→Prop} (ht:P.underlying t=some (.slice e)) (he:Opn P e ty wf) (hsz:P.cellsOf e=ty.sz) (hpos:0 < ty.sz):Opn P t (Ty.slice ty) (fun xs=> ∀ x∈xs,wf x):=by
  intro H enc w sp hd fuel cs x h
  rcases open_slice ht h with ⟨rfl,_⟩ | ⟨a,len,cap,m,n,D,Pl,rfl,hb,hl,hm,hmm,_,hx⟩
  · exact ⟨[],(none,0),rfl,by simp,fun f hf=>by rw [List.mem_singleton.1 hf]; exact Im.qb _ _⟩
  · have hlm:len≤m:=by rw [hmm]; split <;> omega
    obtain ⟨xs,cs,h1,h2,h3,h4⟩:=zz (ty:=ty) (wf:=wf) (A:=fun b=>b < w.heap.size) (w:=w) (a:=a) len fun i hi=>by
      obtain ⟨cs',h5,h6⟩:=hx i (Nat.lt_of_lt_of_le hi hlm)
      obtain ⟨y,hh,rfl,hw,hf⟩:=he enc w sp hd n cs' _ h6
      refine ⟨y,hh,fun j u hu=> ?_,hw,hf⟩
      obtain ⟨_,hlen,hc⟩:=World.cells?_some h5
      have hj:j < P.cellsOf e:=by rw [← hlen]; exact (List.getElem?_eq_some_iff.1 hu).1
      rw [← hsz,← add_add,hc j hj]
      exact hu
    refine ⟨xs,(some a,cap),by rw [← h1]; rfl,h4,fun f hf=> ?_⟩
    rw [List.mem_singleton.1 hf]
    refine ⟨by rw [h1]; exact hl,?_⟩
    cases hxs:xs with
    | nil=>exact .inl rfl
    | cons x0 xr =>
      right
      have hcl:=h2.len
      have hpos2:0 < cs.length:=by
        rw [hcl,hxs,List.length_cons]
        exact Nat.mul_pos (Nat.succ_pos _) hpos
      have hc0:=h3 0 cs[0] (by simp [hpos2])
      have ha0:a.add 0=a:=by simp [Addr.add]
      rw [ha0] at hc0
      have hsp:a.spot=none∧a.block < w.heap.size:=by
        unfold World.cell? at hc0
        split at hc0
        · rename_i hh
          have hlt:=(Array.getElem?_eq_some_iff.1 hh).1
          split at hc0
          · cases hc0
          · rename_i hs
            refine ⟨?_,hlt⟩
            cases hsp:a.spot with
            | none=>rfl
            | some _=>rw [hsp] at hs; simp at hs
        · cases hc0
      obtain ⟨b,o,s⟩:=a
      obtain ⟨rfl,hlt⟩:=hsp
      refine ⟨b,o,cs,rfl,hlt,by rw [← hxs]; exact h2,fun j u hu=> ?_⟩
      have:=h3 j u hu
      rwa [add_lit] at this
inductive yg (P:Program):Nat→List (Nat×Nat)→{α:Type}→Ty α→(α→Prop)→Prop where
  | nil {o}:yg P o [] (⟨0,Unit,fun _ _=>[],fun _ _=>[],fun _ _=>rfl,by simp⟩:Ty Unit) (fun _=>True)
  | cons {α β:Type} {o t r} {ta:Ty α} {tb:Ty β} {wa:α→Prop} {wb:β→Prop} (ha:Opn P t ta wa) (hsz:P.cellsOf t=ta.sz) (hr:yg P (o+ta.sz) r tb wb):yg P o ((t,o)::r) (Ty.pair ta tb) (fun y=>wa y.1∧wb y.2)
theorem yg.open {H:Type} {enc:TypeId×Value→H} {w:World} {sp:Nat→Bool} {hd:Bool} {n:Nat} {cs:List Value} {o:Nat} {fs:List (Nat×Nat)} {ty:Ty α} {wf:α→Prop} (h:yg P o fs ty wf) (hc:cs.length=o+ty.sz) (hx: ∀ f∈fs,∃ x,DataW.trod enc P w 0 sp hd n f.1 ((cs.drop f.2).take (P.cellsOf f.1))=some x): ∃ y h,cs.drop o=ty.cs y h∧wf y ∧ ∀ f∈ty.im y h,f.okW w:=by
  induction h with
  | nil=>exact ⟨(),(),List.drop_of_length_le (Nat.le_of_eq hc),trivial,fun f hf=>by cases hf⟩
  | @cons α β o t r ta tb wa wb ha hsz hr ih =>
    obtain ⟨x,hx0⟩:=hx (t,o) (by simp)
    obtain ⟨y,hy,e,hw,hf⟩:=ha enc w sp hd n _ x hx0
    have hc':cs.length=o+ta.sz+tb.sz:=by rw [hc]; show o+(ta.sz+tb.sz)=_; omega
    obtain ⟨z,hz,e2,hw2,hf2⟩:=ih hc' fun f hf=>hx f (by simp [hf])
    refine ⟨(y,z),(hy,hz),?_,⟨hw,hw2⟩,fun f hf'=> ?_⟩
    · show _=ta.cs y hy++tb.cs z hz
      rw [← e,← e2,hsz,← List.drop_drop]
      exact (List.take_append_drop _ _).symm
    · rcases List.mem_append.1 hf' with h | h
      · exact hf f h
      · exact hf2 f h
def tR (P:Program) (t:TypeId) (fs:List (Nat×Nat)):Bool:=match P.underlying t with
  | some (.struct a)=>fsb fs a.toList
  | _=>false
theorem vP {t:TypeId} {fs:List (Nat×Nat)} (h:tR P t fs=true): ∃ fa,P.underlying t=some (.struct fa)∧fsb fs fa.toList=true:=by
  unfold tR at h
  split at h
  · rename_i a ha; exact ⟨a,ha,h⟩
  · cases h
theorem Opn.struct {t:TypeId} {fs:List (Nat×Nat)} {ty:Ty α} {wf:α→Prop} (hst:tR P t fs=true) (hsz:P.cellsOf t=ty.sz) (h:yg P 0 fs ty wf):Opn P t ty wf:=by
  obtain ⟨fa,ht,hfs⟩:=vP hst
  intro H enc w sp hd fuel cs x hx
  obtain ⟨xs,n,rfl,_,hlen,hxl,hfx⟩:=DataW.trod_struct ht hx
  have he:=vK hfs
  obtain ⟨y,hh,e,hw,hf⟩:=h.open (enc:=enc) (w:=w) (sp:=sp) (hd:=hd) (n:=n) (cs:=cs) (by rw [hlen,hsz,Nat.zero_add]) fun f hf=>by
    rw [← he] at hf
    obtain ⟨f0,hf0,rfl⟩:=List.mem_map.1 hf
    obtain ⟨i,hi⟩:=List.getElem?_of_mem hf0
    have hi':fa[i]?=some f0:=by simpa using hi
    have h1:=hfx i f0 hi'
    have hlt:i < xs.length:=by rw [hxl]; exact (Array.getElem?_eq_some_iff.1 hi').1
    exact ⟨xs[i],by rw [h1]; simp [hlt]⟩
  exact ⟨y,hh,e,hw,hf⟩
theorem Opn.to {t:TypeId} {ty:Ty α} {ty':Ty β} {wf:α→Prop} {wf':β→Prop} (g:α→β) (gh:ty.Hid→ty'.Hid) (h:Opn P t ty wf) (h1: ∀ y hh,ty'.cs (g y) (gh hh)=ty.cs y hh) (h2: ∀ y hh,ty'.im (g y) (gh hh)=ty.im y hh) (h3: ∀ y,wf y→wf' (g y)):Opn P t ty' wf':=by
  intro H enc w sp hd fuel cs x hx
  obtain ⟨y,hh,e,hw,hf⟩:=h enc w sp hd fuel cs x hx
  exact ⟨g y,gh hh,by rw [h1]; exact e,h3 y hw,by rw [h2]; exact hf⟩
def qJ {H:Type}:Nat→DataW H→List Value
  | _,.lit (.int k n)=>[.int k n]
  | _,.lit (.bool b)=>[.bool b]
  | d+1,.agg l=>l.flatMap (qJ d)
  | _,_=>[]
def wY (P:Program) (f:TypeId→Bool):Nat→List (Nat×Nat)→Nat→Bool
  | o,[],m=>Nat.beq o m
  | o,(t,o')::r,m=>Nat.beq o o' && f t && wY P f (o+P.cellsOf t) r m
def pw (P:Program):Nat→TypeId→Bool
  | 0,_=>false
  | d+1,t=>match P.underlying t with
    | some (.int _)=>true
    | some .bool=>true
    | some (.struct fa)=>wY P (pw P d) 0 (fa.toList.map fun f=>(f.type,f.offset)) (P.cellsOf t)
    | some (.array n e)=>Nat.beq (P.cellsOf t) (n*P.cellsOf e) && pw P d e
    | _=>false
theorem qZ {γ:Type} {sz:Nat} {f:Nat→List γ}: ∀ {n:Nat} {cs:List γ},cs.length=n*sz→(∀ i,i < n→(cs.drop (i*sz)).take sz=f i)→cs=(List.range n).flatMap f
  | 0,cs,hl,_=>by
    have:cs=[]:=List.eq_nil_of_length_eq_zero (by simpa using hl)
    simp [this]
  | n+1,cs,hl,h=>by
    have h1:=qZ (sz:=sz) (n:=n) (cs:=cs.take (n*sz)) (f:=f) (by rw [List.length_take,hl,Nat.succ_mul]; omega) fun i hi=>by
      rw [← h i (Nat.lt_succ_of_lt hi)]
      have hle:(i+1)*sz≤n*sz:=Nat.mul_le_mul_right sz hi
      rw [Nat.succ_mul] at hle
      rw [List.drop_take,List.take_take]
      congr 1
      omega
    have h2:=h n (Nat.lt_succ_self n)
    rw [List.range_succ,List.flatMap_append,← h1]
    have h3:(cs.drop (n*sz)).take sz=cs.drop (n*sz):=List.take_of_length_le (by rw [List.length_drop,hl,Nat.succ_mul]; omega)
    rw [h3] at h2
    simp only [List.flatMap_cons,List.flatMap_nil,List.append_nil,← h2]
    exact (List.take_append_drop _ _).symm
theorem qK {H:Type} {enc:TypeId×Value→H} {w:World} {sp:Nat→Bool} {hd:Bool} {f:TypeId→Bool} {g:DataW H→List Value} (hf: ∀ t,f t=true → ∀ {fuel:Nat} {cs:List Value} {x:DataW H×List MemPlace},DataW.trod enc P w 0 sp hd fuel t cs=some x→cs=g x.1): ∀ {fs:List (Nat×Nat)} {o m:Nat},wY P f o fs m=true → ∀ {n:Nat} {cs:List Value} {xs:List (DataW H×List MemPlace)},cs.length=m→(∀ (i:Nat) (f:Nat×Nat),fs[i]?=some f→DataW.trod enc P w 0 sp hd n f.1 ((cs.drop f.2).take (P.cellsOf f.1))=xs[i]?)→xs.length=fs.length→cs.drop o=xs.flatMap fun x=>g x.1
  | [],o,m,hb,n,cs,xs,hl,_,hx=>by
    have:xs=[]:=List.eq_nil_of_length_eq_zero hx
    subst this
    have:=Nat.eq_of_beq_eq_true hb
    exact List.drop_of_length_le (by omega)
  | (t,o')::r,o,m,hb,n,cs,xs,hl,h,hx=>by
    simp only [wY,Bool.and_eq_true] at hb
    obtain rfl:=Nat.eq_of_beq_eq_true hb.1.1
    cases xs with
    | nil=>simp at hx
    | cons x xs =>
      have h0:=h 0 (t,o) rfl
      have e0:=hf t hb.1.2 h0
      have e1:=qK hf hb.2 (n:=n) (cs:=cs) (xs:=xs) hl (fun i f hi=>h (i+1) f hi) (by simpa using hx)
      rw [List.flatMap_cons,← e0,← e1,← List.drop_drop]
      exact (List.take_append_drop _ _).symm
theorem oW {H:Type} {enc:TypeId×Value→H} {w:World} {sp:Nat→Bool} {hd:Bool}: ∀ {d:Nat} {t:TypeId},pw P d t=true → ∀ {fuel:Nat} {cs:List Value} {x:DataW H×List MemPlace},DataW.trod enc P w 0 sp hd fuel t cs=some x→cs=qJ d x.1
  | 0,t,hb,fuel,cs,x,h=>by cases hb
  | d+1,t,hb,fuel,cs,x,h=>by
    unfold pw at hb
    split at hb
    · rename_i ht
      obtain ⟨n,rfl,rfl,_⟩:=DataW.trod_int ht h
      rfl
    · rename_i ht
      obtain ⟨b,rfl,rfl⟩:=DataW.trod_bool ht h
      rfl
    · rename_i fa ht
      obtain ⟨xs,n,rfl,rfl,hlen,hxl,hfx⟩:=DataW.trod_struct ht h
      have key:=qK (g:=qJ d) (fun t ht=>oW ht) hb (enc:=enc) (w:=w) (sp:=sp) (hd:=hd) (n:=n) (cs:=cs) (xs:=xs) hlen (fun i f hi=>by
        rw [List.getElem?_map] at hi
        cases hfa:fa[i]? with
        | none=>simp [hfa] at hi
        | some f0 =>
          simp [hfa] at hi
          subst hi
          exact hfx i f0 hfa) (by rw [hxl,List.length_map,Array.length_toList])
      show cs=(xs.map (·.1)).flatMap (qJ d)
      rw [List.flatMap_map]
      simpa using key
    · rename_i m e ht
      simp only [Bool.and_eq_true] at hb
      have hc:=Nat.eq_of_beq_eq_true hb.1
      obtain ⟨xs,n,rfl,rfl,hlen,hxl,hfx⟩:=DataW.trod_array ht h
      show cs=(xs.map (·.1)).flatMap (qJ d)
      rw [List.flatMap_map]
      have h1: ∀ i,i < m→(cs.drop (i*P.cellsOf e)).take (P.cellsOf e)=((xs[i]?).map fun x=>qJ d x.1).getD []:=fun i hi=>by
        have h2:=hfx i hi
        have hlt:i < xs.length:=by rw [hxl]; exact hi
        rw [List.getElem?_eq_getElem hlt] at h2 ⊢
        exact oW hb.2 h2
      rw [qZ (by rw [hlen,hc]) h1]
      clear h1 hfx
      subst hxl
      rw [flatMap_by_index xs (.nil,[]) fun x=>qJ d x.1]
      exact flatMap_congr_range fun i hi=>by simp [List.getD,hi]
    · cases hb
theorem nZ {w:World} {name:String} {d:DataW Unit} {laid:List (String×DataW Unit)} {ps:List MemPlace} {g:Nat} {t:TypeId} (h:DataW.LaidVars P w laid ps) (hm:(name,d)∈laid) (hg:P.globalNamed name=some g) (hty:(P.globals[g]?).map (·.type)=some t) {dp:Nat} (hf:pw P dp t=true): ∀ i,w.cell? ⟨g,i,none⟩=(qJ dp d)[i]?:=by
  induction laid generalizing ps with
  | nil=>cases hm
  | cons y laid ih =>
    obtain ⟨n,d'⟩:=y
    obtain ⟨g',t',cs,fuel,p,q,hg',ht',hvar,hd,hr,_⟩:=h
    rcases List.mem_cons.1 hm with e | hm
    · injection e with e1 e2
      subst e1 e2
      obtain rfl:=Option.some.inj (hg.symm.trans hg')
      obtain rfl:=Option.some.inj (hty.symm.trans ht')
      have:=oW hf hd
      intro i
      rw [World.var?_cell hg hvar i,← this]
      simp
    · exact ih hr hm
theorem tS {ty:Ty α} {w:World} {g n:Nat} {cs:List Value} {xs:List α} (h0:ty.Hid) (hfree: ∀ x,ty.im x h0=[]) (hc: ∀ i,w.cell? ⟨g,i,none⟩=cs[i]?) (he:cs=xs.flatMap fun x=>ty.cs x h0) (hn:xs.length≤n) (hlt:g < w.heap.size):(Im.sl ty (some ⟨g,0,none⟩) n xs).okW w:=by
  refine ⟨hn,.inr ⟨g,0,cs,rfl,hlt,?_,fun j u hu=>by rw [Nat.zero_add,hc]; exact hu⟩⟩
  rw [he]
  clear he hc hn
  induction xs with
  | nil=>exact .nil
  | cons x xs ih=>exact .cons h0 (fun f hf=>by rw [hfree] at hf; cases hf) ih
theorem tT {w:World} {g:Nat} {cs:List Value} (hc: ∀ i,w.cell? ⟨g,i,none⟩=cs[i]?) (hpos:0 < cs.length):g < w.heap.size:=by
  have h:=hc 0
  rw [List.getElem?_eq_getElem hpos] at h
  unfold World.cell? at h
  split at h
  · rename_i hh; exact (Array.getElem?_eq_some_iff.1 hh).1
  · cases h
theorem SS.below {w w':World} {A A':dN} {S':List Ch} {I':List Im} (h:SS ⟨w,A,Own []⟩ A' S' I' w'):RowKit.Below w.heap.size w w' :=
  ⟨h.fx.os,h.fx.tape,h.fx.output,h.fx.size,fun k hk=>h.fx.po k hk fun ⟨c,hc,_⟩=>by cases hc⟩
theorem St.first {w:World} {I:List Im} (h: ∀ f∈I,f.okW w):St (fun b=>b < w.heap.size) [] I w :=
  ⟨fun _ h=>h,(fun _ h=>by cases h),(fun _ h=>by cases h),List.Pairwise.nil,h⟩
end Go.Tw
namespace Go.Tw
open Go
theorem FK {a b:Option Addr} {n m c d:Nat} (e:(Value.slice a n c).cells.toList=[Value.slice b m d]):a=b∧n=m∧c=d:=by simpa [Value.cells] using e
end Go.Tw
set_option linter.unusedVariables false
set_option linter.unusedSimpArgs false
namespace Go.Tw
open Go
theorem w64 {x:Int} (h1: -9223372036854775808≤x) (h2:x≤9223372036854775807):IntKind.i64.wrap x=x:=by rw [IntKind.wrap_i64]; omega
theorem eC {α:Type} (xs:List α) (n:Nat):idx xs (n:Int)=xs[n]?:=by simp [idx]
theorem zA {α:Type} (xs:List α):idx xs 0=xs[0]?:=eC xs 0
theorem jK {α:Type} (l r:List α) (x:α):idx (l++x::r) (l.length:Int)=some x:=by rw [eC]; simp
theorem jL {p:Prop} [Decidable p] (h:p):chk (decide p)=some ():=by simp [chk,h]
theorem bI {n m b:Nat} (h:(n+m)*b≤140737488355328):chk (dg n m b)=some ():=jL h
theorem bK {lo hi n:Int} (h0:0≤lo) (h1:lo≤hi) (h2:hi≤n):chk (cF lo hi n)=some ():=jL ⟨h0,h1,h2⟩
theorem yh {k:Int} {b:Nat} (h0:0≤k) (h1:k*b≤140737488355328) (h2:k≤140737488355328):chk (Du k b)=some ():=jL ⟨h0,h1,h2⟩
theorem yi {k:Int} {b:Nat} (h0:0 < k) (h1:k*b≤140737488355328) (h2:k≤140737488355328):chk (Dv k b)=some ():=jL ⟨h0,h1,h2⟩
theorem aB {α β:Type _} (x:α) (f:α→Option β):Option.bind (some x) f=f x:=rfl
def oL {α:Type} (d:α):List α→α
  | []=>d
  | [x]=>x
  | _::y::l=>oL d (y::l)
theorem rT {α:Type} (d x:α): ∀ l:List α,oL d (l++[x])=x
  | []=>rfl
  | [y]=>rfl
  | a::b::l=>by
    show oL d (b::(l++[x]))=x
    exact rT d x (b::l)
theorem uL {α:Type} (l r:List α) (d x:α) (h:0 < l.length):idx (l++x::r) ((l.length:Int) - 1)=some (oL d l):=by
  have e:((l.length:Int) - 1)=((l.length - 1:Nat):Int):=by omega
  rw [e,eC]
  have hl:l=l.take (l.length - 1)++[oL d l]:=by
    clear e
    induction l with
    | nil=>simp at h
    | cons a t ih =>
      cases t with
      | nil=>rfl
      | cons b t =>
        have:=ih (by simp)
        simp only [List.length_cons,Nat.add_sub_cancel] at this ⊢
        rw [List.take_succ_cons,List.cons_append]
        congr 1
  rw [List.getElem?_append_left (by omega)]
  have h2:(l.take (l.length - 1)).length=l.length - 1:=by rw [List.length_take]; omega
  conv=>lhs; rw [hl]
  rw [List.getElem?_append_right (by simp)]
  simp
theorem uM {α:Type} (l r:List α) (x:α):idx (l++x::r) ((l.length:Int)+1)=r[0]?:=by
  have e:((l.length:Int)+1)=((l.length+1:Nat):Int):=by omega
  rw [e,eC,List.getElem?_append_right (by omega)]
  have:l.length+1 - l.length=1:=by omega
  rw [this]
  simp
end Go.Tw

import Derived.Test.YthecomompebjaaaGreatDoorFw1
import Derived.Lib.AppendStr
import Derived.MapKept
import Derived.Lib.Builder
import Derived.Lib.UnsafeStr
import Derived.Laws.Externs
import Derived.Scope
import Derived.Deep.Slices
import Derived.OpenShut
import Derived.Carry
import Derived.ChangeVars
import Derived.WideShapes
import Derived.Below
set_option linter.unusedVariables false
set_option linter.unusedSimpArgs false
namespace Go.Tw
open Go Go.Lib
def sbs (s:ByteArray):List Int:=s.data.toList.map λb=>(b.toNat:Int)
theorem bG (s:ByteArray):(sbs s).length=s.size:=by
  unfold sbs
  rw [List.length_map,Array.length_toList]
  rfl
def IM (P:Program) (T:Nat):Bool:=match P.info? T with
  | some i=>match i.zero with
    | some (.int .u8 n)=>decide (n=0)
    | _=>false
  | none=>false
theorem Lr {P:Program} {T:Nat} (h:IM P T=true) {i:TypeInfo} (hi:P.info? T=some i):i.zero=some (.int .u8 0):=by
  unfold IM at h
  rw [hi] at h
  dsimp only at h
  split at h
  · rename_i n hz
    rw [hz,of_decide_eq_true h]
  · cases h
theorem IN {P:Program} (w:World) (t u ty e:TypeId) (i:TypeInfo) (ht:P.underlying t=some (.slice e)) (hu:P.underlying u=some .string) (hi:P.info? e=some i) (hz:i.zero=some (.int .u8 0)) (hsize:i.size=1) (hby:i.bytes=1)
    (v:Value) (n:Nat) (xs:List Value) (hown:w.ownsRow 0 e 1 v n xs) (s:ByteArray) (h63:n+s.size<=maxLen) (hbytes:n+s.size<=140737488355328) :
    ∃ v' w',(Builtin.append_ #[t,u] ty #[v,.string s]).run P w = .ok v' w'/\w'.ownsRow 0 e 1 v' (n+s.size) (xs++strCells s)/\w.grownBy w' v.ownBlock/\(∀ b,v'.ownBlock=some b->(v.ownBlock=some b\/w.heap.size<=b)/\b < w'.heap.size):=by
  obtain ⟨v',w',hr,h2,h3,h4⟩:=run_append_own_string (P:=P) w 0 t u ty e i ht hu hi hz hsize hby v n xs hown s h63 hbytes (Nat.zero_le _)
  refine ⟨v',w',hr,h2,h3,λb hb=>⟨?_,(h2.lt b hb).2⟩⟩
  simp only [maxLen] at h63
  rcases hown.2 with ⟨rfl,rfl⟩ | ⟨g,cap,cur,rfl,hbg,hg,hnc,hcm,hcs,htake⟩
  · by_cases hm:s.size=0
    · rw [h4.2 ⟨rfl,hm⟩] at hb
      cases hb
    · have hr2:=run_append_nil_string (P:=P) w t u ty e i (.int .u8 0) ht hu hi hz s (by omega) (by omega) (by rw [hby]; omega)
      rw [hr] at hr2
      injection hr2 with hv
      rw [hv] at hb
      injection hb with hb
      exact .inr (Nat.le_of_eq hb)
  · by_cases hroom:n+s.size<=cap
    · have hr2:=run_append_room_string (P:=P) w t u ty e i ht hu hi hsize g n cap cur hg s hroom (by simp only [Nat.mul_one] at hcs; omega)
      rw [hr] at hr2
      injection hr2 with hv
      rw [hv] at hb
      exact .inl hb
    · have hr2:=run_append_grow_string (P:=P) w t u ty e i (.int .u8 0) ht hu hi hz ⟨g,0,none⟩ n cap xs (by rw [hsize]; exact hown.1) (hown.cells (g:=g) rfl) s (by omega) (by omega) (by rw [hby]; exact growslice_fits (by omega) (by omega))
      rw [hr] at hr2
      injection hr2 with hv
      rw [hv] at hb
      injection hb with hb
      exact .inr (Nat.le_of_eq hb)
theorem IP {A:fy} {w:World} (s:ByteArray):Els (Ty.int .u8) A w (sbs s) (strCells s):=by
  unfold sbs strCells
  induction s.data.toList with
  | nil=>exact .nil
  | cons b l ih=>exact .cons (d:=Ty.int .u8) () (λf hf=>by cases hf) ih
section
variable {G : Pg} {n : Nd} {m : Env} {o : Oper} {xs : List Int} {a0 : Option Addr} {c : Nat}
theorem Ac.aps {t t2 T:Nat} {x y:Operand} {ti te ti2:TI} {u:Unit} {s:ByteArray} (hlim:chk (eY xs.length s.size te.bytes)=some u) (ho:o.op = .call { callee:= .builtin .append,args:= #[x,y],argTypes:= #[t,t2] }) (hx:ev m x=some (.slice a0 xs.length c)) (hy:ev m y=some (.string s)) (ht:bU G.τ t=some ti) (hk:ti.k = .slice T) (he:bU G.τ T=some te) (hsz:(Nat.beq te.size 1 && Nat.beq te.bytes 1)=true) (ht2:bU G.τ t2=some ti2) (hk2:ti2.k = .string) (hz:IM G.P T=true) :
    Ac G n m o [Ch.arr (Ty.int .u8) T a0 c xs] [] (λz:Option Addr×Nat=> .slice z.1 (xs++sbs s).length z.2) (λz=>[Ch.arr (Ty.int .u8) T z.1 z.2 (xs++sbs s)]) (λ_=>[]):=by
  have hlim:(xs.length+s.size)*te.bytes<=140737488355328:=eG hlim
  simp only [Bool.and_eq_true] at hsz
  have hs1:=Nat.eq_of_beq_eq_true hsz.1
  have hs2:=Nat.eq_of_beq_eq_true hsz.2
  rw [hs2,Nat.mul_one] at hlim
  refine Ac.run (v:=λz:Option Addr×Nat=>some (.slice z.1 (xs++sbs s).length z.2)) λA a w hf hs=> ?_
  obtain ⟨dd,f,z0,hdd,hfi,hkk,_⟩:=G.ok.info ht
  rw [hk] at hkk
  cases hkk
  obtain ⟨d2,f2,z2,hdd2,hfi2,hkk2,_⟩:=G.ok.info ht2
  rw [hk2] at hkk2
  cases hkk2
  obtain ⟨de,fe,ze,hde,hfe,_,hfs,hfb,hfz,hzc,_⟩:=G.ok.info he
  have hok:=hs.ch _ (List.mem_singleton.2 rfl)
  obtain ⟨cs,hown,hels⟩:=hok
  have h63:xs.length+s.size<=maxLen:=by
    simp only [maxLen]
    omega
  obtain ⟨v',w',hr,hown',hgr,hat⟩:=IN (P:=G.P) w t t2 o.type T fe hdd hdd2 hfe (Lr hz hfe) (hfs.trans hs1) (hfb.trans hs2) (.slice a0 xs.length c) xs.length cs hown s h63 hlim
  have hv': ∃ a2 c2,v' = .slice a2 (xs.length+s.size) c2:=by
    rcases hown'.2 with ⟨rfl,e⟩ | ⟨g,cap,cur,rfl,_⟩
    · exact ⟨none,0,by rw [e]⟩
    · exact ⟨_,_,rfl⟩
  obtain ⟨a2,c2,rfl⟩:=hv'
  have hblk:(Value.slice a0 xs.length c).ownBlock=a0.map (·.block):=by cases a0 <;> rfl
  have hblk2:(Value.slice a2 (xs.length+s.size) c2).ownBlock=a2.map (·.block):=by cases a2 <;> rfl
  have hA: ∀ b,A b->w'.heap[b]?=w.heap[b]?:=λb hb=>hgr.block b (hs.lt b hb) (λe=>(hs.own _ (List.mem_singleton.2 rfl) b (hblk.symm.trans e.symm)).2 hb)
  rw [hblk2,hblk] at hat
  have hl:(xs++sbs s).length=xs.length+s.size:=by rw [List.length_append,bG]
  rw [<- hl] at hown'
  refine ⟨(a2,c2),w',A,?_,SS.grown hs (by rw [<- hblk]; exact hgr) (λb e=>e) hat ⟨_,hown',(hels.app (IP s)).st (λ_ h=>h) hA⟩⟩
  simp only [execOp,ho,resolve,invoke,builtin,Sem.run_bind,Sem.run_pure,Result.andThen_ok,List.map_toArray,List.map_cons,List.map_nil,hf.ev hx,hf.ev hy,hr,nx,hl]
end
end Go.Tw
namespace Go.Tw
open Go
theorem filter_lt {α:Type} {p q:α->Bool} (hpq: ∀ x,q x=true->p x=true): ∀ {l:List α} {x:α},x∈l->p x=true->q x=false->(l.filter q).length < (l.filter p).length
  | [],_,h,_,_=>by cases h
  | y::l,x,h,hp,hq=>by
    have hle: ∀ l:List α,(l.filter q).length<=(l.filter p).length:=by
      intro l
      induction l with
      | nil=>exact Nat.le_refl _
      | cons z l ih =>
        rw [List.filter_cons,List.filter_cons]
        split
        · rename_i hz
          rw [if_pos (hpq z hz)]
          simpa using ih
        · split
          · simp only [List.length_cons]
            omega
          · exact ih
    rw [List.filter_cons,List.filter_cons]
    rcases List.mem_cons.1 h with rfl | h
    · rw [if_pos hp,if_neg (by rw [hq]; simp)]
      have:=hle l
      simp only [List.length_cons]
      omega
    · have ih:=filter_lt hpq h hp hq
      split
      · rename_i hz
        rw [if_pos (hpq y hz)]
        simpa using ih
      · split
        · simp only [List.length_cons]
          omega
        · exact ih
def unl (n:Nat) (L:List Nat):Nat:=((List.range n).filter λi=> !mem i L).length
theorem qY {n i:Nat} {L:List Nat} (h:i < n) (hi:mem i L=false):unl n (i::L)+1<=unl n L:=by
  unfold unl
  refine filter_lt (p:=λj=> !mem j L) (q:=λj=> !mem j (i::L)) ?_ (x:=i) (by simpa using h) (by simp [hi]) (by simp [mem])
  intro x hx
  simp only [mem,Bool.not_eq_true',Bool.or_eq_false_iff] at hx ⊢
  exact hx.2
theorem IQ {n i:Nat} {L:List Nat} (h:i < n) (hi:mem i L=false):0 < unl n L:=by
  have:=qY h hi
  omega
theorem pA {i:Nat} {l:List Nat}:mem i l=false ↔ ¬ i∈l:=by
  constructor
  · intro h h2
    rw [mem_iff.2 h2] at h
    cases h
  · intro h
    cases hb:mem i l with
    | false=>rfl
    | true=>exact absurd (mem_iff.1 hb) h
structure FO where
  i:Nat
  d:Nat
  σ:Type
  v:σ->Value
  S:σ->List Ch
  J:σ->List Im
def fwd (ops:List Oper):Nat->List Oper->Bool
  | _,[]=>true
  | k,o::r=>o.after.toList.all (λe=> !mj e || Nat.blt e.on k) && fwd ops (k+1) r
theorem Ah {ops:List Oper}: ∀ {r:List Oper} {k:Nat},fwd ops k r=true -> ∀ j oj,r[j]?=some oj -> ∀ e∈oj.after,mj e=true->e.on < k+j
  | [],_,_,j,oj,h=>by simp at h
  | o::r,k,h,j,oj,hj=>by
    simp only [fwd,Bool.and_eq_true] at h
    cases j with
    | zero =>
      simp at hj
      subst hj
      intro e he hb
      have:=List.all_eq_true.1 h.1 e (by simpa using he)
      rw [hb] at this
      have:=gS (by simpa using this)
      omega
    | succ j =>
      have:=Ah h.2 j oj (by simpa using hj)
      intro e he hb
      have:=this e he hb
      omega
def sE (i:Nat):List FO->Bool
  | []=>false
  | f::F=>Nat.beq i f.i || sE i F
theorem mE {i:Nat}: ∀ {F:List FO},sE i F=true ↔ ∃ f∈F,f.i=i
  | []=>by simp [sE]
  | f::F=>by
    simp only [sE,Bool.or_eq_true,mE (F:=F),List.mem_cons]
    constructor
    · rintro (h | ⟨g,hg,h⟩)
      · exact ⟨f,.inl rfl,(Nat.eq_of_beq_eq_true h).symm⟩
      · exact ⟨g,.inr hg,h⟩
    · rintro ⟨g,rfl | hg,h⟩
      · left
        rw [h]
        exact Nat.beq_refl _
      · exact .inr ⟨g,hg,h⟩
def w9 (F:List FO) (l:List Nat):Nat->List Oper->List Nat
  | _,[]=>[]
  | i,o::r=>match !mem i l && !sE i F && o.after.toList.all (λe=> !mj e || mem e.on l || sE e.on F) with
    | true=>i::w9 F l (i+1) r
    | false=>w9 F l (i+1) r
theorem yz {F:List FO} {l:List Nat}: ∀ {r:List Oper} {k i:Nat},(∃ j o,i=k+j/\r[j]?=some o/\(!mem i l && !sE i F && o.after.toList.all (λe=> !mj e || mem e.on l || sE e.on F))=true)->i∈w9 F l k r
  | [],k,i,⟨j,o,_,h,_⟩=>by simp at h
  | o::r,k,i,⟨j,o',he,h1,h2⟩=>by
    simp only [w9]
    cases j with
    | zero =>
      simp at h1
      subst h1
      rw [Nat.add_zero] at he
      subst he
      rw [h2]
      exact List.mem_cons_self ..
    | succ j =>
      have ih:=yz (F:=F) (l:=l) (r:=r) (k:=k+1) (i:=i) ⟨j,o',by omega,by simpa using h1,h2⟩
      split
      · exact List.mem_cons_of_mem _ ih
      · exact ih
def fnd:List FO->Bool
  | []=>true
  | f::F=> !sE f.i F && fnd F
theorem Ga: ∀ {F:List FO},fnd F=true -> ∀ {f g:FO},f∈F->g∈F->f.i=g.i->f=g
  | [],_,_,_,h,_,_=>by cases h
  | x::F,h,f,g,hf,hg,he=>by
    simp only [fnd,Bool.and_eq_true,Bool.not_eq_true'] at h
    rcases List.mem_cons.1 hf with e1 | hf1
    · rcases List.mem_cons.1 hg with e2 | hg1
      · rw [e1,e2]
      · have h3:sE x.i F=true:=mE.2 ⟨g,hg1,by rw [<- he,e1]⟩
        rw [h.1] at h3
        cases h3
    · rcases List.mem_cons.1 hg with e2 | hg1
      · have h3:sE x.i F=true:=mE.2 ⟨f,hf1,by rw [he,e2]⟩
        rw [h.1] at h3
        cases h3
      · exact Ga h.2 hf1 hg1 he
def fok (F:List FO) (m:Env):Bool:=fnd F && F.all λf=>(look m f.d).isNone && F.all λg=>Nat.beq f.i g.i || !Nat.beq f.d g.d
def onb (ops:List Oper) (j i:Nat):Bool:=match ops[j]? with
  | some oj=>oj.after.toList.any λe=>mj e && Nat.beq e.on i
  | none=>false
def Exd (a:Act) (A:fy) (w:World):List FO->List Nat->List Ch->Prop
  | [],_,R=>R=[]
  | f::F,L,R=>(¬ f.i∈L/\Exd a A w F L R)\/(f.i∈L /\ ∃ x R',a.tmps.getD f.d undef=f.v x/\(∀ g∈f.J x,g.ok A w)/\R=f.S x++R'/\Exd a A w F L R')
theorem Exd.get {a:Act} {A:fy} {w:World} {L:List Nat}: ∀ {F:List FO} {R:List Ch},Exd a A w F L R -> ∀ f∈F,f.i∈L -> ∃ x,a.tmps.getD f.d undef=f.v x /\ ∀ g∈f.J x,g.ok A w
  | [],_,_,f,hf,_=>by cases hf
  | h::F,R,he,f,hf,hL=>by
    rcases he with ⟨h1,h2⟩ | ⟨h1,x,R',h2,h3,h4,h5⟩
    · rcases List.mem_cons.1 hf with rfl | hf
      · exact absurd hL h1
      · exact Exd.get h2 f hf hL
    · rcases List.mem_cons.1 hf with rfl | hf
      · exact ⟨x,h2,h3⟩
      · exact Exd.get h5 f hf hL
theorem Exd.mono {a a':Act} {A A':fy} {w w':World} {L L':List Nat} (hk: ∀ g:Im,g.ok A w->g.ok A' w'): ∀ {F:List FO} {R:List Ch},(∀ f∈F,a'.tmps.getD f.d undef=a.tmps.getD f.d undef)->(∀ f∈F,f.i∈L'↔f.i∈L)->Exd a A w F L R->Exd a' A' w' F L' R
  | [],_,_,_,he=>he
  | h::F,R,hs,hL,he=>by
    rcases he with ⟨h1,h2⟩ | ⟨h1,x,R',h2,h3,h4,h5⟩
    · exact .inl ⟨λhh=>h1 ((hL h (List.mem_cons_self ..)).1 hh),h2.mono hk (λf hf=>hs f (List.mem_cons_of_mem _ hf)) λf hf=>hL f (List.mem_cons_of_mem _ hf)⟩
    · exact .inr ⟨(hL h (List.mem_cons_self ..)).2 h1,x,R',(hs h (List.mem_cons_self ..)).trans h2,λg hg=>hk g (h3 g hg),h4,h5.mono hk (λf hf=>hs f (List.mem_cons_of_mem _ hf)) λf hf=>hL f (List.mem_cons_of_mem _ hf)⟩
theorem Exd.exec {a a':Act} {A A':fy} {w w':World} {L:List Nat} {f:FO} {x:f.σ} (hk: ∀ g:Im,g.ok A w->g.ok A' w') (hL: ¬ f.i∈L) (hv:a'.tmps.getD f.d undef=f.v x) (hJ: ∀ g∈f.J x,g.ok A' w'): ∀ {F:List FO} {R:List Ch},fnd F=true->(∀ g∈F,g.i≠f.i->a'.tmps.getD g.d undef=a.tmps.getD g.d undef)->f∈F->Exd a A w F L R -> ∃ R',Exd a' A' w' F (f.i::L) R'/\R'.Perm (f.S x++R)
  | [],_,_,_,hf,_=>by cases hf
  | h::F,R,hn,hs,hf,he=>by
    have hn':=hn
    simp only [fnd,Bool.and_eq_true,Bool.not_eq_true'] at hn'
    have hnot: ∀ g∈F,g.i≠h.i:=λg hg e=>by
      have:=mE.2 ⟨g,hg,e⟩
      rw [hn'.1] at this
      cases this
    by_cases hhf:h.i=f.i
    · obtain rfl:=Ga hn (List.mem_cons_self ..) hf hhf
      rcases he with ⟨h1,h2⟩ | ⟨h1,_⟩
      · refine ⟨h.S x++R,.inr ⟨List.mem_cons_self ..,x,R,hv,hJ,rfl,?_⟩,List.Perm.refl _⟩
        refine h2.mono hk (λg hg=>hs g (List.mem_cons_of_mem _ hg) (hnot g hg)) λg hg=> ?_
        rw [List.mem_cons]
        exact ⟨λhh=>hh.resolve_left (hnot g hg),.inr⟩
      · exact absurd h1 hL
    · have hfF:f∈F:=(List.mem_cons.1 hf).resolve_left λe=>hhf (by rw [e])
      have hs': ∀ g∈F,g.i≠f.i->a'.tmps.getD g.d undef=a.tmps.getD g.d undef:=λg hg=>hs g (List.mem_cons_of_mem _ hg)
      rcases he with ⟨h1,h2⟩ | ⟨h1,y,R1,h2,h3,h4,h5⟩
      · obtain ⟨R',h6,h7⟩:=Exd.exec hk hL hv hJ hn'.2 hs' hfF h2
        exact ⟨R',.inl ⟨λhh=>h1 ((List.mem_cons.1 hh).resolve_left hhf),h6⟩,h7⟩
      · obtain ⟨R',h6,h7⟩:=Exd.exec hk hL hv hJ hn'.2 hs' hfF h5
        refine ⟨h.S y++R',.inr ⟨List.mem_cons_of_mem _ h1,y,R',(hs h (List.mem_cons_self ..) hhf).trans h2,λg hg=>hk g (h3 g hg),rfl,h6⟩,?_⟩
        rw [h4]
        refine (h7.append_left (h.S y)).trans ?_
        rw [<- List.append_assoc,<- List.append_assoc]
        exact List.perm_append_comm.append_right R1
theorem Exd.IS {a:Act} {A:fy} {w:World} {L:List Nat} {f:FO} (hL:f.i∈L): ∀ {F:List FO} {R:List Ch} {k:Nat},F[k]?=some f->Exd a A w F L R -> ∃ x R',a.tmps.getD f.d undef=f.v x/\(∀ g∈f.J x,g.ok A w)/\R.Perm (f.S x++R')/\Exd a A w (F.eraseIdx k) L R'
  | [],_,k,hk,_=>by simp at hk
  | h::F,R,0,hk,he=>by
    simp at hk
    subst hk
    rcases he with ⟨h1,_⟩ | ⟨_,x,R',h2,h3,h4,h5⟩
    · exact absurd hL h1
    · exact ⟨x,R',h2,h3,by rw [h4],by simpa using h5⟩
  | h::F,R,k+1,hk,he=>by
    have hk':F[k]?=some f:=by simpa using hk
    rcases he with ⟨h1,h2⟩ | ⟨h1,y,R1,h2,h3,h4,h5⟩
    · obtain ⟨x,R',q1,q2,q3,q4⟩:=Exd.IS hL hk' h2
      exact ⟨x,R',q1,q2,q3,by rw [List.eraseIdx_cons_succ]; exact .inl ⟨h1,q4⟩⟩
    · obtain ⟨x,R',q1,q2,q3,q4⟩:=Exd.IS hL hk' h5
      refine ⟨x,h.S y++R',q1,q2,?_,by rw [List.eraseIdx_cons_succ]; exact .inr ⟨h1,y,R',h2,h3,rfl,q4⟩⟩
      rw [h4]
      refine (q3.append_left (h.S y)).trans ?_
      rw [<- List.append_assoc,<- List.append_assoc]
      exact List.perm_append_comm.append_right R'
theorem IT {C V R X R':List Ch} (h:R'.Perm (X++R)):(C++(V++R')).Perm (X++(C++(V++R))):=by
  have h1:(C++(V++R')).Perm (C++(V++(X++R))):=(h.append_left V).append_left C
  refine h1.trans ?_
  have h2:(C++(V++(X++R))).Perm ((X++(C++V))++R):=by
    have:C++(V++(X++R))=((C++V)++X)++R:=by simp
    rw [this]
    exact List.perm_append_comm.append_right R
  refine h2.trans ?_
  simp
section
variable {G : Pg} {n : Nd} {K : Key} {Q : Exit -> Act -> World -> Prop} {m : Env} {C V : List Ch} {I : List Im} {ops : List Oper} {late l : List Nat} {o : Oper} {F : List FO}
theorem Fr.Ls {a:Act} {d:Nat} {v:Value} (h:Fr n m a) (hv:a.tmps.getD d undef=v):Fr n ((d,v)::m) a:=by
  refine ⟨h.size,h.defers,λi u hu=> ?_⟩
  simp only [look] at hu
  cases hb:Nat.beq d i with
  | true =>
    rw [hb] at hu
    rw [<- Nat.eq_of_beq_eq_true hb,hv]
    exact Option.some.inj hu
  | false =>
    rw [hb] at hu
    exact h.at_ i u hu
def FSp (G:Pg) (n:Nd) (Q:Exit->Act->World->Prop) (ops:List Oper) (C:List Ch) (m:Env) (I:List Im) (F:List FO) (f:FO):Prop :=
  ∀ K A a w V (Kc:Act->World->Prop),Fr n m a->SS K A (C++V) I w->(∀ g∈F,onb ops f.i g.i=true -> ∃ x,a.tmps.getD g.d undef=g.v x /\ ∀ q∈g.J x,q.ok A w)->(∀ x w' A',SS K A' (f.S x++(C++V)) I w'->(∀ g∈f.J x,g.ok A' w')->(∀ g:Im,g.ok A w->g.ok A' w')->Kc (a.put (some f.d) (f.v x)) w')->f.d < n.n/\f.i < ops.length/\wpOp G.P ops.toArray (NP Q) f.i Kc a w
theorem FSp.mono {f:FO} {m':Env} {I':List Im} {F':List FO} (h:FSp G n Q ops C m I F f) (hm: ∀ i v,look m i=some v->look m' i=some v) (hI: ∀ g∈I,g∈I') (hF: ∀ A a w,Fr n m' a->(∀ g∈I',g.ok A w)->(∀ g∈F',onb ops f.i g.i=true -> ∃ x,a.tmps.getD g.d undef=g.v x /\ ∀ q∈g.J x,q.ok A w) -> ∀ g∈F,onb ops f.i g.i=true -> ∃ x,a.tmps.getD g.d undef=g.v x /\ ∀ q∈g.J x,q.ok A w):FSp G n Q ops C m' I' F' f:=by
  intro K A a w V Kc hf hs hd hk
  refine h K A a w V Kc (hf.sub hm) (hs.perm (List.Perm.refl _) hI) (hF A a w hf hs.st.im hd) λx w' A' h1 h2 h3=>hk x w' A' ?_ h2 h3
  exact (h1.lk (J:=I') λg hg=>h3 g (hs.st.im g hg)).perm (List.Perm.refl _) λg hg=>List.mem_append_left _ hg
theorem Dh {A A':fy} {S R S':List Ch} {I I':List Im} {w w':World} (h:SS K A (S++R) I w) (h2:SS ⟨w,A,Own S⟩ A' S' I' w') (g:Im) (hg:g.ok A w):g.ok A' w':=by
  have h3:=(SS.lk h (J:=[g]) λf hf=>by rw [List.mem_singleton.1 hf]; exact hg).frame h2
  exact h3.st.im g (by simp)
theorem FSp.ac (i:Nat) {d:Nat} {J:List Im} {σ:Type} {v:σ->Value} {S':σ->List Ch} {I':σ->List Im} (js:List Nat) (hA:Ac G n m o [] J v S' I') (hi:ops[i]?=some o) (hw:wg ops m o=some true) (hd:o.dst=some d) (hn:Nat.blt d n.n=true) (hJ:pick I js=some J):FSp G n Q ops C m I F ⟨i,d,σ,v,S',I'⟩:=by
  intro K A a w V Kc hf hs _ hk
  refine ⟨gS hn,(List.getElem?_eq_some_iff.1 hi).1,?_⟩
  have hi':ops.toArray[i]?=some o:=by simpa using hi
  unfold wpOp
  simp only [hi']
  rw [if_pos (lT hw hf)]
  left
  have hs0:SS K A ([]++(C++V)) I w:=hs
  refine (hA A a w _ (NP Q) hf (St.left (S:=[]) hs0.st (eQ hJ)) λx w' A' h2=> ?_).1
  have h3:=hs0.frame h2
  rw [hd]
  exact hk x w' A' (h3.perm (List.Perm.refl _) λg hg=>List.mem_append_right _ hg) (λg hg=>h3.st.im g (List.mem_append_left _ hg)) (Dh hs0 h2)
theorem FSp.y (i:Nat) {d:Nat} {v:Value} (hy:Yl G n m C I o v) (hi:ops[i]?=some o) (hw:wg ops m o=some true) (hd:o.dst=some d) (hn:Nat.blt d n.n=true):FSp G n Q ops C m I F ⟨i,d,Unit,λ_=>v,λ_=>[],λ_=>[]⟩:=by
  intro K A a w V Kc hf hs _ hk
  refine ⟨gS hn,(List.getElem?_eq_some_iff.1 hi).1,?_⟩
  have hi':ops.toArray[i]?=some o:=by simpa using hi
  unfold wpOp
  simp only [hi']
  rw [if_pos (lT hw hf)]
  left
  have hr:=hy A a w hf (λc hc=>hs.st.ch c (List.mem_append_left _ hc)) hs.st.im
  have h4:Kc (a.put (some d) v) w:=hk () w A hs (λg hg=>by cases hg) (λ_ h=>h)
  rw [<- hd] at h4
  unfold Oper.wp
  rw [hr]
  exact h4
theorem FSp.q (i:Nat) {d:Nat} {v:Value} (hi:ops[i]?=some o) (hw:wg ops m o=some true) (hd:o.dst=some d) (hn:Nat.blt d n.n=true) (hq:qx G.τ m o.op=some v):FSp G n Q ops C m I F ⟨i,d,Unit,λ_=>v,λ_=>[],λ_=>[]⟩ :=
  FSp.y i (λA a w hf _ _=>CW G.ok hf hq w) hi hw hd hn
theorem FSp.dep {f g:FO} (k:Nat) (hk:F[k]?=some g) (hon:onb ops f.i g.i=true) (h: ∀ x,FSp G n Q ops C ((g.d,g.v x)::m) (g.J x++I) F f):FSp G n Q ops C m I F f:=by
  intro K A a w V Kc hf hs hd hk'
  obtain ⟨x,h1,h2⟩:=hd g (List.mem_of_getElem? hk) hon
  refine h x K A a w V Kc (Fr.Ls hf h1) (hs.lk h2) hd λy w' A' h3 h4 h5=>hk' y w' A' (h3.perm (List.Perm.refl _) λq hq=>List.mem_append_right _ hq) h4 h5
def DF (G:Pg) (n:Nd) (K:Key) (Q:Exit->Act->World->Prop) (ops:List Oper) (late:List Nat) (F:List FO) (l:List Nat) (C:List Ch) (m:Env) (V:List Ch) (I:List Im):Prop :=
  (∀ f∈F,FSp G n Q ops C m I F f) -> ∀ A a w fuel L,(∀ i∈l,i∈L)->(∀ i∈L,i∈l \/ ∃ f∈F,f.i=i)->unl ops.length L<=fuel->Fr n m a -> ∀ R,SS K A (C++(V++R)) I w ->
    Exd a A w F L R->wpG G.P ops.toArray (NP Q) late fuel (WS C I) (lst ops.length L) a w
def DFp (G:Pg) (n:Nd) (K:Key) (Q:Exit->Act->World->Prop) (ops:List Oper) (late:List Nat) (j:Nat) (F:List FO) (l:List Nat) (C:List Ch) (m:Env) (V:List Ch) (I:List Im):Prop :=
  (∀ f∈F,FSp G n Q ops C m I F f) -> ∀ A a w fuel L,(∀ i∈l,i∈L)->(∀ i∈L,i∈l \/ ∃ f∈F,f.i=i)->unl ops.length L<=fuel+1->mem j L=false->(∀ oj,ops[j]?=some oj -> ∀ e∈oj.after,mj e=true->e.on∈L)->Fr n m a -> ∀ R,SS K A (C++(V++R)) I w ->
    Exd a A w F L R ->
    wpOp G.P ops.toArray (NP Q) j (λa' w'=> ∃ S':World->Prop,(j∈late \/ ∀ w,S' w->WS C I w)/\S' w'/\wpG G.P ops.toArray (NP Q) late fuel S' ((lst ops.length L).setIfInBounds j true) a' w') a w
def DFe (G:Pg) (n:Nd) (K:Key) (Q:Exit->Act->World->Prop) (F:List FO) (C:List Ch) (m:Env) (V:List Ch) (I:List Im):Prop :=
  ∀ A a w L,(∀ f∈F,f.i∈L)->Fr n m a -> ∀ R,SS K A (C++(V++R)) I w->Exd a A w F L R->NP Q .normal a w
theorem DF.of (hl:Nat.ble (unl ops.length l+l.length) ops.length=true) (h:DF G n K Q ops late [] l C m V I):D G n K Q ops late l C m V I:=by
  intro A a w fuel hfu hf hs
  have:=Nat.le_of_ble_eq_true hl
  exact h (λf hf=>by cases hf) A a w fuel l (λi hi=>hi) (λi hi=> .inl hi) (by omega) hf [] (by rw [List.append_nil]; exact hs) rfl
theorem DF.add (f:FO) (hsp:FSp G n Q ops C m I F f) (hc:(!mem f.i l && !sE f.i F)=true) (h:DF G n K Q ops late (f::F) l C m V I):DF G n K Q ops late F l C m V I:=by
  simp only [Bool.and_eq_true,Bool.not_eq_true'] at hc
  intro hF A a w fuel L h1 h2 hfu hf R hs hx
  have hnot: ¬ f.i∈L:=λhi=>by
    rcases h2 _ hi with h3 | ⟨g,hg,h3⟩
    · exact pA.1 hc.1 h3
    · have:=mE.2 ⟨g,hg,h3⟩
      rw [hc.2] at this
      cases this
  refine h (λg hg=> ?_) A a w fuel L h1 (λi hi=>(h2 i hi).imp id λ⟨g,hg,e⟩=>⟨g,List.mem_cons_of_mem _ hg,e⟩) hfu hf R hs (.inl ⟨hnot,hx⟩)
  · have hup: ∀ A a w,Fr n m a->(∀ g∈I,g.ok A w)->(∀ q∈f::F,onb ops g.i q.i=true -> ∃ x,a.tmps.getD q.d undef=q.v x /\ ∀ p∈q.J x,p.ok A w) -> ∀ q∈F,onb ops g.i q.i=true -> ∃ x,a.tmps.getD q.d undef=q.v x /\ ∀ p∈q.J x,p.ok A w:=λA a w _ _ hh q hq=>hh q (List.mem_cons_of_mem _ hq)
    rcases List.mem_cons.1 hg with rfl | hg
    · exact hsp.mono (λ_ _ h=>h) (λ_ h=>h) hup
    · exact (hF g hg).mono (λ_ _ h=>h) (λ_ h=>h) hup
theorem Ai {a:Act} {d e:Nat} {v:Value} (h:d≠e):(a.put (some d) v).tmps.getD e undef=a.tmps.getD e undef:=by
  show (a.tmps.setIfInBounds d v).getD e undef=_
  simp only [Array.getD_eq_getD_getElem?,Array.getElem?_setIfInBounds,if_neg h]
theorem EK {a:Act} {d:Nat} {v:Value} (h:d < a.tmps.size):(a.put (some d) v).tmps.getD d undef=v:=by
  show (a.tmps.setIfInBounds d v).getD d undef=_
  simp [Array.getD,h]
theorem DF.core (hc:closed ops=true) (hfw:fwd ops 0 ops=true) (hfo:fok F m=true) {js:List Nat} (hcs:w9 F l 0 ops=js) (h: ∀ j∈js,DFp G n K Q ops late j F l C m V I)
    (he: ∀ A a w (L:List Nat),(∀ i,i < ops.length->i∈L)->(∀ i∈L,i∈l \/ ∃ f∈F,f.i=i)->Fr n m a -> ∀ R,SS K A (C++(V++R)) I w->Exd a A w F L R->NP Q .normal a w):DF G n K Q ops late F l C m V I:=by
  intro hF A a w fuel
  induction fuel generalizing A a w with
  | zero =>
    intro L h1 h2 hfu hf R hs hx
    have hall: ∀ i,i < ops.length->i∈L:=λi hi=>by
      cases hb:mem i L with
      | true=>exact mem_iff.1 hb
      | false=>have:=IQ hi hb; omega
    refine ⟨List.eq_nil_iff_forall_not_mem.2 λi hi=> ?_,he A a w L hall h2 hf R hs hx⟩
    rw [m6 hc,py] at hi
    obtain ⟨j,o,e,h3,h4⟩:=hi
    have hj:i < ops.length:=by have:=(List.getElem?_eq_some_iff.1 h3).1; omega
    rw [mem_iff.2 (hall i hj)] at h4
    simp at h4
  | succ fuel ih =>
    intro L h1 h2 hfu hf R hs hx
    refine ⟨λhr=> ?_,λi hi=> ?_⟩
    · have hall: ∀ i,i < ops.length->i∈L:=by
        intro i
        induction i using Nat.strongRecOn with
        | _ i ihi =>
          intro hi
          cases hb:mem i L with
          | true=>exact mem_iff.1 hb
          | false =>
            exfalso
            have hin:i∈Region.ready .any ops.toArray (lst ops.length L):=by
              rw [m6 hc,py]
              refine ⟨i,ops[i],by omega,List.getElem?_eq_getElem hi,?_⟩
              rw [hb]
              simp only [Bool.not_false,Bool.true_and,BM,List.all_eq_true,Bool.or_eq_true,Bool.not_eq_true']
              intro e hee
              cases hbe:mj e with
              | false=>exact .inl rfl
              | true =>
                right
                have hlt:=Ah hfw i ops[i] (List.getElem?_eq_getElem hi) e (by simpa using hee) hbe
                exact mem_iff.2 (ihi e.on (by omega) (by omega))
            rw [hr] at hin
            cases hin
      exact he A a w L hall h2 hf R hs hx
    · rw [m6 hc,py] at hi
      obtain ⟨j,o,e0,h3,h4⟩:=hi
      obtain rfl:i=j:=by omega
      have hilt:i < ops.length:=(List.getElem?_eq_some_iff.1 h3).1
      simp only [Bool.and_eq_true,Bool.not_eq_true'] at h4
      cases hb:sE i F with
      | true =>
        obtain ⟨f,hfF,rfl⟩:=mE.1 hb
        have hdeps: ∀ g∈F,onb ops f.i g.i=true -> ∃ x,a.tmps.getD g.d undef=g.v x /\ ∀ q∈g.J x,q.ok A w:=λg hgF hon=>by
          refine hx.get g hgF ?_
          unfold onb at hon
          rw [h3] at hon
          obtain ⟨e,hee,hbb⟩:=List.any_eq_true.1 hon
          simp only [Bool.and_eq_true] at hbb
          have h5:=List.all_eq_true.1 h4.2 e hee
          rw [hbb.1] at h5
          rw [<- Nat.eq_of_beq_eq_true hbb.2]
          exact mem_iff.1 (by simpa using h5)
        refine (hF f hfF K A a w (V++R) _ hf hs hdeps λx w' A' hs' hg hk=> ?_).2.2
        have hdn:f.d < n.n:=(hF f hfF K A a w (V++R) (λ_ _=>True) hf hs hdeps λ_ _ _ _ _ _=>trivial).1
        have hfo':=hfo
        simp only [fok,Bool.and_eq_true] at hfo'
        have hok:=List.all_eq_true.1 hfo'.2 f hfF
        simp only [Bool.and_eq_true,Option.isNone_iff_eq_none] at hok
        obtain ⟨R',hx',hp⟩:=hx.exec (a':=a.put (some f.d) (f.v x)) hk (pA.1 h4.1) (EK (by rw [hf.size]; exact hdn)) hg hfo'.1 (λg hgF hgi=>by
          have h5:=List.all_eq_true.1 hok.2 g hgF
          simp only [Bool.or_eq_true,Bool.not_eq_true'] at h5
          exact Ai (Nat.ne_of_beq_eq_false (h5.resolve_left λhh=>hgi (Nat.eq_of_beq_eq_true hh).symm))) hfF
        have hs2:=hs'.perm (IT (C:=C) (V:=V) hp) (λ_ h=>h)
        refine ⟨WS C I,.inr λ_ h=>h,hs2.ws,?_⟩
        rw [nW]
        have hput:Fr n m (a.put (some f.d) (f.v x)):=by
          refine (hf.put (f.v x) hdn).sub λi u hu=> ?_
          simp only [look]
          cases hbb:Nat.beq f.d i with
          | true=>rw [<- Nat.eq_of_beq_eq_true hbb,hok.1] at hu; cases hu
          | false=>exact hu
        refine ih A' _ w' (f.i::L) (λi hi=>List.mem_cons_of_mem _ (h1 i hi)) (λi hi=> ?_) ?_ hput R' hs2 hx'
        · rcases List.mem_cons.1 hi with rfl | hi
          · exact .inr ⟨f,hfF,rfl⟩
          · exact h2 i hi
        · have:=qY hilt h4.1
          omega
      | false =>
        have hcand:i∈js:=by
          rw [<- hcs]
          refine yz ⟨i,o,by omega,h3,?_⟩
          have hml:mem i l=false:=pA.2 λhh=>pA.1 h4.1 (h1 i hh)
          rw [hml,hb]
          simp only [Bool.not_false,Bool.true_and,List.all_eq_true,Bool.or_eq_true,Bool.not_eq_true']
          intro e hee
          cases hbe:mj e with
          | false=>exact .inl (.inl rfl)
          | true =>
            have h5:=List.all_eq_true.1 h4.2 e hee
            rw [hbe] at h5
            have h6:=mem_iff.1 (by simpa using h5:mem e.on L=true)
            rcases h2 _ h6 with h7 | h7
            · exact .inl (.inr (mem_iff.2 h7))
            · exact .inr (mE.2 h7)
        refine h i hcand hF A a w fuel L h1 h2 hfu h4.1 (λoj hoj e hee hbe=> ?_) hf R hs hx
        rw [h3] at hoj
        cases hoj
        have h5:=List.all_eq_true.1 h4.2 e (by simpa using hee)
        rw [hbe] at h5
        exact mem_iff.1 (by simpa using h5)
theorem DF.step (j:Nat) (hc:closed ops=true) (hfw:fwd ops 0 ops=true) (hfo:fok F m=true) (hcs:w9 F l 0 ops=[j]) (hj:(!mem j l && !sE j F && Nat.blt j ops.length)=true) (h:DFp G n K Q ops late j F l C m V I):DF G n K Q ops late F l C m V I:=by
  simp only [Bool.and_eq_true,Bool.not_eq_true'] at hj
  refine DF.core hc hfw hfo hcs (λk hk=>by rw [List.mem_singleton.1 hk]; exact h) (λA a w L hall h2 hf R hs hx=> ?_)
  exfalso
  rcases h2 j (hall j (gS hj.2)) with h3 | h3
  · exact pA.1 hj.1.1 h3
  · have:=mE.2 h3
    rw [hj.1.2] at this
    cases this
theorem DF.fin (hc:closed ops=true) (hfw:fwd ops 0 ops=true) (hfo:fok F m=true) (hcs:w9 F l 0 ops=[]) (hlt:(F.all λf=>Nat.blt f.i ops.length)=true) (h:DFe G n K Q F C m V I):DF G n K Q ops late F l C m V I :=
  DF.core hc hfw hfo hcs (λk hk=>by cases hk) λA a w L hall h1 hf R hs hx=>h A a w L (λf hfF=>hall _ (gS (List.all_eq_true.1 hlt f hfF))) hf R hs hx
theorem DFe.nil (h:E n K Q .normal m (C++V) I):DFe G n K Q [] C m V I:=λA a w L _ hf R hs hx=>by
  obtain rfl:R=[]:=hx
  rw [List.append_nil] at hs
  exact h A a w hf hs
theorem Aj {C V R X R':List Ch} (h:R.Perm (X++R')):(C++((X++V)++R')).Perm (C++(V++R)):=by
  refine List.Perm.append_left C ?_
  refine List.Perm.trans ?_ (h.symm.append_left V)
  rw [<- List.append_assoc]
  exact List.perm_append_comm.append_right R'
theorem DFe.use {f:FO} (h: ∀ x,DFe G n K Q F C ((f.d,f.v x)::m) (f.S x++V) (f.J x++I)):DFe G n K Q (f::F) C m V I:=by
  intro A a w L hL hf R hs hx
  obtain ⟨x,R',h1,h2,h3,h4⟩:=hx.IS (k:=0) (hL f (List.mem_cons_self ..)) rfl
  exact h x A a w L (λg hg=>hL g (List.mem_cons_of_mem _ hg)) (hf.Ls h1) R' ((hs.perm (Aj h3) λ_ h=>h).lk h2) (by simpa using h4)
theorem yA {d:Nat} {v:Value} (h:look m d=none): ∀ i u,look m i=some u->look ((d,v)::m) i=some u:=by
  intro i u hu
  simp only [look]
  cases hb:Nat.beq d i with
  | true=>rw [<- Nat.eq_of_beq_eq_true hb,h] at hu; cases hu
  | false=>exact hu
theorem DFp.use {j:Nat} (k:Nat) {f:FO} (hk:F[k]?=some f) (hon:onb ops j f.i=true) (hnew:(look m f.d).isNone=true) (h: ∀ x,DFp G n K Q ops late j (F.eraseIdx k) (f.i::l) C ((f.d,f.v x)::m) (f.S x++V) (f.J x++I)):DFp G n K Q ops late j F l C m V I:=by
  intro hF A a w fuel L h1 h2 hfu hjL hdep hf R hs hx
  have hfF:f∈F:=List.mem_of_getElem? hk
  have hfL:f.i∈L:=by
    unfold onb at hon
    split at hon
    · rename_i oj hoj
      obtain ⟨e,he,hb⟩:=List.any_eq_true.1 hon
      simp only [Bool.and_eq_true] at hb
      have:=hdep oj hoj e (by simpa using he) hb.1
      rwa [Nat.eq_of_beq_eq_true hb.2] at this
    · cases hon
  obtain ⟨x,R',hx1,hx2,hp,hx3⟩:=hx.IS hfL hk
  have hnew':look m f.d=none:=by simpa using hnew
  have hsub: ∀ g∈F.eraseIdx k,g∈F:=λg hg=>List.mem_of_mem_eraseIdx hg
  have hsplit: ∀ g∈F,g=f\/g∈F.eraseIdx k:=λg hg=>by
    obtain ⟨q,hq⟩:=List.getElem?_of_mem hg
    by_cases hqk:q=k
    · left
      subst hqk
      rw [hk] at hq
      cases hq
      rfl
    · exact .inr (List.mem_eraseIdx_iff_getElem?.2 ⟨q,hqk,hq⟩)
  have hF': ∀ g∈F.eraseIdx k,FSp G n Q ops C ((f.d,f.v x)::m) (f.J x++I) (F.eraseIdx k) g:=λg hg=>(hF g (hsub g hg)).mono (yA hnew') (λq hq=>List.mem_append_right _ hq) λA a w hf hI hh q hq hon=>by
    rcases hsplit q hq with rfl | hq'
    · exact ⟨x,hf.at_ _ _ (by simp [look]),λp hp=>hI p (List.mem_append_left _ hp)⟩
    · exact hh q hq' hon
  have h3:=h x hF' A a w fuel L (λi hi=> ?_) (λi hi=> ?_) hfu hjL hdep (hf.Ls hx1) R' ((hs.perm (Aj hp) λ_ h=>h).lk hx2) hx3
  · refine wpOp_mono (λa' w' hh=> ?_) h3
    obtain ⟨S',hS,h4⟩:=hh
    exact ⟨S',hS.imp id λhw w0 hw0=>by obtain ⟨A0,q1,q2⟩:=hw w0 hw0; exact ⟨A0,q1,λq hq=>q2 q (List.mem_append_right _ hq)⟩,h4⟩
  · rcases List.mem_cons.1 hi with rfl | hi
    · exact hfL
    · exact h1 i hi
  · rcases h2 i hi with h4 | ⟨g,hg,h4⟩
    · exact .inl (List.mem_cons_of_mem _ h4)
    · rcases hsplit g hg with rfl | hg'
      · left
        rw [<- h4]
        exact List.mem_cons_self ..
      · exact .inr ⟨g,hg',h4⟩
def Gb (F:List FO) (m:Env):Option Nat->Bool
  | some d=>(look m d).isNone && F.all λf=> !Nat.beq f.d d
  | none=>true
theorem EL {d:Option Nat} (h:Gb F m d=true) (v:Value): ∀ i u,look m i=some u->look (nO d v m) i=some u:=by
  cases d with
  | none=>exact λ_ _ h=>h
  | some d =>
    simp only [Gb,Bool.and_eq_true] at h
    exact yA (by simpa using h.1)
theorem Gc {d:Option Nat} (h:Gb F m d=true) {a:Act} {v:Value}: ∀ f∈F,(a.put d v).tmps.getD f.d undef=a.tmps.getD f.d undef:=by
  intro f hf
  cases d with
  | none=>rfl
  | some d =>
    simp only [Gb,Bool.and_eq_true] at h
    have:=List.all_eq_true.1 h.2 f hf
    simp only [Bool.not_eq_true'] at this
    exact Ai λe=>Nat.ne_of_beq_eq_false this e.symm
theorem Ak {j:Nat} (hjF:sE j F=false) {L:List Nat}: ∀ f∈F,f.i∈j::L↔f.i∈L:=by
  intro f hf
  rw [List.mem_cons]
  refine ⟨λhh=>hh.resolve_left λe=> ?_,.inr⟩
  have:=mE.2 ⟨f,hf,e⟩
  rw [hjF] at this
  cases this
theorem rR {α:Type} (X Y Z:List α):(X++(Y++Z)).Perm (Y++(X++Z)):=by
  rw [<- List.append_assoc,<- List.append_assoc]
  exact (List.perm_append_comm (l₁:=X) (l₂:=Y)).append_right Z
theorem DFp.a {j:Nat} (is js:List Nat) {d:Option Nat} {Sp R:List Ch} {J:List Im} {σ:Type} {v:σ->Value} {S':σ->List Ch} {I':σ->List Im} (hA:Ac G n m o Sp J v S' I') (hi:ops[j]?=some o) (hw:wg ops m o=some true) (hd:o.dst=d) (hn:dok d n.n=true) (hS:ext V is=some (Sp,R)) (hJ:pick I js=some J) (hjF:sE j F=false) (hnew:Gb F m d=true)
    (h: ∀ x,DF G n K Q ops late F (j::l) C (nO d (v x) m) (S' x++R) (I' x++I)):DFp G n K Q ops late j F l C m V I:=by
  intro hF A a w fuel L h1 h2 hfu hjL hdep hf R0 hs hx
  have hi':ops.toArray[j]?=some o:=by simpa using hi
  have hjlt:j < ops.length:=(List.getElem?_eq_some_iff.1 hi).1
  unfold wpOp
  simp only [hi']
  rw [if_pos (lT hw hf)]
  left
  have hp:(Sp++(C++(R++R0))).Perm (C++(V++R0)):=by
    have h1:(Sp++R).Perm V:=cV hS
    refine (rR Sp C (R++R0)).trans (List.Perm.append_left C ?_)
    rw [<- List.append_assoc]
    exact h1.append_right R0
  have hs':=hs.perm hp (λi hi=>hi)
  refine (hA A a w _ (NP Q) hf (hs'.st.left (eQ hJ)) λx w' A' h2'=> ?_).1
  have h3:=hs'.frame h2'
  have hp2:(C++((S' x++R)++R0)).Perm (S' x++(C++(R++R0))):=by
    rw [List.append_assoc]
    exact rR C (S' x) (R++R0)
  have h4:=h3.perm hp2 (λi hi=>hi)
  refine ⟨WS C (I' x++I),.inr λw ⟨A,h1,h2⟩=>⟨A,h1,λf hf=>h2 f (List.mem_append_right _ hf)⟩,h4.ws,?_⟩
  rw [nW,hd]
  refine h x (λf hfF=>(hF f hfF).mono (EL hnew _) (λg hg=>List.mem_append_right _ hg) λ_ _ _ _ _ hh=>hh) A' _ w' fuel (j::L) (λi hi=> ?_) (λi hi=> ?_) ?_ (hf.vW hn _) R0 h4 (hx.mono (Dh hs' h2') (Gc hnew) (Ak hjF))
  · rcases List.mem_cons.1 hi with rfl | hi
    · exact List.mem_cons_self ..
    · exact List.mem_cons_of_mem _ (h1 i hi)
  · rcases List.mem_cons.1 hi with rfl | hi
    · exact .inl (List.mem_cons_self ..)
    · exact (h2 i hi).imp (List.mem_cons_of_mem _) id
  · have:=qY hjlt hjL
    omega
theorem DFp.al {j:Nat} (is js:List Nat) {d:Option Nat} {Sp R:List Ch} {J:List Im} {σ:Type} {v:σ->Value} {S':σ->List Ch} {I':σ->List Im} (hA:Ac G n m o Sp J v S' I') (hl:mem j late=true) (hi:ops[j]?=some o) (hw:wg ops m o=some true) (hd:o.dst=d) (hn:dok d n.n=true) (hS:ext (C++V) is=some (Sp,R)) (hJ:pick I js=some J)
    (h: ∀ x,DF G n K Q ops late [] (j::l) [] (nO d (v x) m) (S' x++R) (I' x++I)):DFp G n K Q ops late j [] l C m V I:=by
  intro hF A a w fuel L h1 h2 hfu hjL hdep hf R0 hs hx
  obtain rfl:R0=[]:=hx
  rw [List.append_nil] at hs
  have hi':ops.toArray[j]?=some o:=by simpa using hi
  have hjlt:j < ops.length:=(List.getElem?_eq_some_iff.1 hi).1
  unfold wpOp
  simp only [hi']
  rw [if_pos (lT hw hf)]
  left
  have hs':=hs.perm (cV hS) (λi hi=>hi)
  refine (hA A a w _ (NP Q) hf (hs'.st.left (eQ hJ)) λx w' A' h2'=> ?_).1
  have h3:=hs'.frame h2'
  refine ⟨WS [] (I' x++I),.inl (mem_iff.1 hl),SS.ws (C:=[]) h3,?_⟩
  rw [nW,hd]
  refine h x (λf hf=>by cases hf) A' _ w' fuel (j::L) (λi hi=> ?_) (λi hi=> ?_) ?_ (hf.vW hn _) [] (by rw [List.append_nil]; exact h3) rfl
  · rcases List.mem_cons.1 hi with rfl | hi
    · exact List.mem_cons_self ..
    · exact List.mem_cons_of_mem _ (h1 i hi)
  · rcases List.mem_cons.1 hi with rfl | hi
    · exact .inl (List.mem_cons_self ..)
    · exact (h2 i hi).imp (List.mem_cons_of_mem _) id
  · have:=qY hjlt hjL
    omega
theorem DFp.pre {j:Nat} {V':List Ch} {I':List Im} (hI: ∀ g∈I,g∈I') (hq: ∀ A w R,SS K A (C++(V++R)) I w -> ∃ A',(∀ g:Im,g.ok A w->g.ok A' w)/\SS K A' (C++(V'++R)) I' w) (h:DFp G n K Q ops late j F l C m V' I'):DFp G n K Q ops late j F l C m V I:=by
  intro hF A a w fuel L h1 h2 hfu hj hd hf R hs hx
  obtain ⟨A',hA,hs'⟩:=hq A w R hs
  refine wpOp_mono (λa' w' hh=> ?_) (h (λf hfF=>(hF f hfF).mono (λ_ _ h=>h) hI λ_ _ _ _ _ hh=>hh) A' a w fuel L h1 h2 hfu hj hd hf R hs' (hx.mono hA (λ_ _=>rfl) λ_ _=>Iff.rfl))
  obtain ⟨S',hS,h4⟩:=hh
  exact ⟨S',hS.imp id λhw w0 hw0=>by obtain ⟨A0,q1,q2⟩:=hw w0 hw0; exact ⟨A0,q1,λq hq=>q2 q (hI q hq)⟩,h4⟩
theorem Gd {α:Type} (ty:Ty α) (T0:Nat): ∀ A w R0,SS K A (C++(V++R0)) I w -> ∃ A',(∀ g:Im,g.ok A w->g.ok A' w)/\SS K A' (C++((Ch.arr ty T0 none 0 []::V)++R0)) I w :=
  λA w R0 hs=>⟨A,λ_ h=>h,(hs.gA (ty:=ty) (T0:=T0)).perm List.perm_middle λ_ h=>h⟩
theorem DFp.gA {j:Nat} {α:Type} (ty:Ty α) (T0:Nat) (h:DFp G n K Q ops late j F l C m (Ch.arr ty T0 none 0 []::V) I):DFp G n K Q ops late j F l C m V I:=DFp.pre (λ_ h=>h) (Gd ty T0) h
theorem Ac.frz {Sp:List Ch} {J:List Im} {σ α:Type} {v:σ->Value} {S':σ->List Ch} {I':σ->List Im} {ty:Ty α} {T:Nat} {a0:σ->Option Addr} {c:σ->Nat} {xs:σ->List α} (hA:Ac G n m o Sp J v (λx=>Ch.arr ty T (a0 x) (c x) (xs x)::S' x) I'):Ac G n m o Sp J v S' (λx=>Im.sl ty (a0 x) (c x) (xs x)::I' x) :=
  λA a w Kc Q hf hs hk=>hA A a w Kc Q hf hs λx w' A' h2=>hk x w' _ (h2.frz p9)
end
def shk (y:Int):Bool:=decide (0<=y)
section
variable {G : Pg} {n : Nd} {m : Env} {S : List Ch} {I : List Im} {o : Oper}
theorem Yl.shl {t t2 nb:Nat} {x y:Operand} {k k':IntKind} {a b:Int} {u:Unit} (hb:k.bits=nb) (h:chk (shk b)=some u) (ho:o.op = .binOp .shl t x y t2) (hx:ev m x=some (.int k a)) (hy:ev m y=some (.int k' b)):Yl G n m S I o (.int k (k.wrap (a*2 ^ (min b.toNat nb)))):=λA ac w hf _ _=>by
  have h0:0<=b:=eG h
  have hg:(eqGuard .shl t x y (.int k a) (.int k' b)).run G.P w = .ok () w:=by unfold eqGuard; rfl
  have hr:(binOp .shl t (.int k a) (.int k' b)).run G.P w = .ok (.int k (k.wrap (a*2 ^ (min b.toNat nb)))) w:=by
    subst hb
    simp only [binOp,Op.shift]
    rw [if_neg (by omega)]
    rfl
  simp only [execOp,ho,hf.ev hx,hf.ev hy,Sem.run_bind,hg,Result.andThen_ok,hr,Sem.run_pure]
theorem Yl.shr {t t2 nb:Nat} {x y:Operand} {k k':IntKind} {a b:Int} {u:Unit} (hb:k.bits=nb) (h:chk (shk b)=some u) (ho:o.op = .binOp .shr t x y t2) (hx:ev m x=some (.int k a)) (hy:ev m y=some (.int k' b)):Yl G n m S I o (.int k (a.fdiv (2 ^ (min b.toNat nb)))):=λA ac w hf _ _=>by
  have h0:0<=b:=eG h
  have hg:(eqGuard .shr t x y (.int k a) (.int k' b)).run G.P w = .ok () w:=by unfold eqGuard; rfl
  have hr:(binOp .shr t (.int k a) (.int k' b)).run G.P w = .ok (.int k (a.fdiv (2 ^ (min b.toNat nb)))) w:=by
    subst hb
    simp only [binOp,Op.shift]
    rw [if_neg (by omega)]
    rfl
  simp only [execOp,ho,hf.ev hx,hf.ev hy,Sem.run_bind,hg,Result.andThen_ok,hr,Sem.run_pure]
end
def ints (k:IntKind) (xs:List Int):List Value:=xs.map (Value.int k)
section
variable {G : Pg} {n : Nd} {m : Env} {S : List Ch} {I : List Im} {o : Oper}
theorem Yl.xg {t e g N:Nat} {x ix:Operand} {k:IntKind} {i:Int} {α:Type} {x0:α} {xs:List α} {ti te:TI} (hi:idx xs i=some x0) (hN:xs.length=N) (ho:o.op = .indexAddr t x ix) (hx:ev m x=some (.pointer (some ⟨g,0,none⟩))) (hix:ev m ix=some (.int k i)) (ht:bU G.τ t=some ti) (hk:ti.k = .array N e) (he:bU G.τ e=some te):Yl G n m S I o (.pointer (some ⟨g,0+i.toNat*te.size,none⟩)):=λA ac w hf _ _=>by
  obtain ⟨h0,h1⟩:=aY hi
  have h2:=(List.getElem?_eq_some_iff.1 h1).1
  obtain ⟨d,f,z,hd,hfi,hkk,_⟩:=G.ok.info ht
  rw [hk] at hkk
  cases hkk
  have hr:(Instr.indexAt t (.pointer (some ⟨g,0,none⟩)) (.int k i)).run G.P w = .ok (.pointer (some ⟨g,0+i.toNat*te.size,none⟩)) w:=by
    simp only [Instr.indexAt,asIntOf,Instr.sureAddr,Sem.run_bind,Sem.run_pure,Result.andThen_ok,run_underlying hd]
    rw [if_pos ⟨h0,by omega⟩]
    simp only [Sem.run_bind,run_sizeOf G.ok he,Result.andThen_ok,Sem.run_pure,add_lit]
  simp only [execOp,ho,hf.ev hx,hf.ev hix,Sem.run_bind,hr,Result.andThen_ok,Sem.run_pure]
theorem Yl.com {t:Nat} {x:Operand} {k:IntKind} {a c:Int} (hc:(if k.signed then -1 else k.max)=c) (ho:o.op = .unOp .xor t x) (hx:ev m x=some (.int k a)):Yl G n m S I o (.int k (Go.bits .xor k c a)):=λA ac w hf _ _=>by
  subst hc
  simp only [execOp,ho,hf.ev hx,Op.unary,intBits_xor,Sem.run_bind,Sem.run_pure,Result.andThen_ok]
end
def Ch.aro {α:Type} (d:Ty α) (T:Nat) (a0:Option Addr) (c:Nat) (xs:List α):Ch where
  blk:=λb=>a0.map (·.block)=some b
  ok:=λA w=>(a0=none/\xs=[]/\c=0) \/ ∃ g o cur cs,a0=some ⟨g,o,none⟩/\w.heap[g]?=some (.cells cur T (0,0))/\xs.length<=c/\c<=maxLen/\o+c*d.sz<=cur.size/\(cur.toList.drop o).take (xs.length*d.sz)=cs/\Els d A w xs cs
  st:=by
    rintro A A' w w' hA hw hb (h | ⟨g,o,cur,cs,rfl,h2,h3,h4,h5,h6,h7⟩)
    · exact .inl h
    · exact .inr ⟨g,o,cur,cs,rfl,(hb g rfl).trans h2,h3,h4,h5,h6,h7.st hA hw⟩
section
variable {α : Type} {ty : Ty α} {A : fy} {w : World} {xs ys : List α} {T : Nat} {a0 a1 : Option Addr} {c c1 : Nat}
theorem BP (h:(Ch.arr ty T a0 c xs).ok A w):(Ch.aro ty T a0 c xs).ok A w:=by
  rcases ny h with h | ⟨g,cur,cs,rfl,h2,h3,h4,h5,h6,h7⟩
  · exact .inl h
  · exact .inr ⟨g,0,cur,cs,rfl,h2,h3,h4,by rw [h5,Nat.zero_add]; exact Nat.le_refl _,by simpa using h6,h7⟩
theorem pB (h:(Ch.aro ty T a0 c xs).ok A w):Rd ty a0 c xs A w:=by
  rcases h with ⟨rfl,rfl,rfl⟩ | ⟨g,o,cur,cs,rfl,h2,h3,h4,h5,h6,h7⟩
  · exact ⟨Nat.zero_le _,.inl rfl⟩
  · refine ⟨h3,.inr ⟨g,o,cs,rfl,h7,λj u hu=> ?_⟩⟩
    rw [cell_of_row w g (o+j) _ T (0,0) h2]
    rw [<- h6,List.getElem?_take] at hu
    split at hu
    · rw [List.getElem?_drop] at hu
      simpa using hu
    · cases hu
theorem Di: ∀ A w,(Ch.aro ty T a0 c xs).ok A w->(Im.sl ty a0 c xs).ok (λb=>A b\/(Ch.aro ty T a0 c xs).blk b) w:=by
  intro A w h
  obtain ⟨h1,h2⟩:=pB h
  refine ⟨h1,?_⟩
  rcases h2 with h2 | ⟨b,o,cs,rfl,he,hc⟩
  · exact .inl h2
  · exact .inr ⟨b,o,cs,rfl,.inr rfl,he.st (λ_ h=> .inl h) (λ_ _=>rfl),hc⟩
end
section
variable {G : Pg} {n : Nd} {K : Key} {Q : Exit -> Act -> World -> Prop} {m : Env} {S : List Ch} {I : List Im} {ops : Array Oper} {α : Type} {ty : Ty α} {xs : List α} {a0 : Option Addr} {c0 T0 : Nat}
theorem L.Ob {l:List Oper} (p:Nat) {R:List Ch} (hS:ext S [p]=some ([Ch.aro ty T0 a0 c0 xs],R)) (h:L G n K ops Q l m R (Im.sl ty a0 c0 xs::I)):L G n K ops Q l m S I:=λA a w hf hs=>h _ a w hf ((hs.perm (cV hS) λ_ h=>h).frz Di)
theorem SS.wk {A:fy} {w:World} {x y:Ch} {R:List Ch} (hb: ∀ b,y.blk b->x.blk b) (hk: ∀ A w,x.ok A w->y.ok A w) (h:SS K A (x::R) I w):SS K A (y::R) I w :=
  h.wT (λd hd=>by
    rcases List.mem_cons.1 hd with rfl | hd
    · exact hk _ _ (h.st.ch x (by simp))
    · exact h.st.ch d (by simp [hd])) (λb ⟨d,hd,hb2⟩=>by
    rcases List.mem_cons.1 hd with rfl | hd
    · exact ⟨x,by simp,hb b hb2⟩
    · exact ⟨d,by simp [hd],hb2⟩) (List.pairwise_cons.2 ⟨λd hd b hb2=>(List.pairwise_cons.1 h.st.dis).1 d hd b (hb b hb2),(List.pairwise_cons.1 h.st.dis).2⟩) h.st.im
theorem E.MP {e0:Exit} (p:Nat) {R:List Ch} (hS:ext S [p]=some ([Ch.arr ty T0 a0 c0 xs],R)) (h:E n K Q e0 m (Ch.aro ty T0 a0 c0 xs::R) I):E n K Q e0 m S I:=λA a w hf hs=>h _ a w hf (SS.wk (x:=Ch.arr ty T0 a0 c0 xs) (λ_ h=>h) (λ_ _ h=>BP h) (hs.perm (cV hS) λ_ h=>h))
theorem L.MR {l:List Oper} (i:Nat) (hI:S[i]?=some (Ch.aro ty T0 a0 c0 xs)) (hne:0 < xs.length) (h: ∀ b o',a0=some ⟨b,o',none⟩->L G n K ops Q l m S I):L G n K ops Q l m S I:=λA a w hf hs=>by
  obtain ⟨_,h2⟩:=pB (hs.st.ch _ (List.mem_of_getElem? hI))
  rcases h2 with rfl | ⟨b,o',cs,e,_⟩
  · exact absurd hne (by simp)
  · exact h b o' e A a w hf hs
theorem Bw.cho (i:Nat) {J:List Im} (hS:S[i]?=some (Ch.aro ty T0 a0 c0 xs)) (h:Bw S I J):Bw S I (Im.sl ty a0 c0 xs::J):=λA w hs=>by
  obtain ⟨A',h1,h2⟩:=h A w hs
  have hc:=List.mem_of_getElem? hS
  have hk:=Di A w (hs.ch _ hc)
  refine ⟨λb=>A' b\/(Ch.aro ty T0 a0 c0 xs).blk b,λb hb=> .inl (h1 b hb),?_,(λ_ h=>by cases h),(λ_ h=>by cases h),List.Pairwise.nil,λg hg=> ?_⟩
  · rintro b (hb | hb)
    · exact h2.lt b hb
    · exact (hs.own _ hc b hb).1
  · rcases List.mem_cons.1 hg with rfl | hg
    · exact Im.st _ (λb hb=>hb.imp (h1 b) id) (λ_ _=>rfl) hk
    · exact g.st (λb hb=> .inl hb) (λ_ _=>rfl) (h2.im g hg)
theorem Bw.bx (i:Nat) {g T:Nat} {cs:List Value} {J:List Im} (hS:S[i]?=some (Ch.box g T cs)) (h:Bw S I J):Bw S I (Im.cells g 0 cs::J):=λA w hs=>by
  obtain ⟨A',h1,h2⟩:=h A w hs
  have hc:=List.mem_of_getElem? hS
  have hk:=hs.ch _ hc
  refine ⟨λb=>A' b\/b=g,λb hb=> .inl (h1 b hb),?_,(λ_ h=>by cases h),(λ_ h=>by cases h),List.Pairwise.nil,λf hg=> ?_⟩
  · rintro b (hb | hb)
    · exact h2.lt b hb
    · exact (hs.own _ hc b hb).1
  · rcases List.mem_cons.1 hg with rfl | hg
    · refine ⟨.inr rfl,λj u hu=> ?_⟩
      rw [Nat.zero_add,wO hk]
      exact hu
    · exact f.st (λb hb=> .inl hb) (λ_ _=>rfl) (h2.im f hg)
end
section
variable {G : Pg} {n : Nd} {K : Key} {Q : Exit -> Act -> World -> Prop} {m : Env} {S : List Ch} {I : List Im} {ops : Array Oper} {α : Type} {ty : Ty α} {xs : List α}
end
section
variable {G : Pg} {n : Nd} {m : Env} {S : List Ch} {I : List Im} {o : Oper} {α : Type} {ty : Ty α} {xs ys : List α} {a0 a1 : Option Addr} {c c1 : Nat}
theorem Ac.olo (i k:Nat) {t b ob off T:Nat} {x:Operand} {x0:α} {v:ty.Hid->Value} (hx0:xs[i]?=some x0) (ho:o.op = .load t x) (hx:ev m x=some (.pointer (some ⟨b,off,none⟩))) (hoff:off=ob+i*ty.sz+k) (hv: ∀ hd,qA G.τ t ((ty.cs x0 hd).drop k) 0=some (v hd)):Ac G n m o [Ch.aro ty T (some ⟨b,ob,none⟩) c xs] [] v (λ_=>[Ch.aro ty T (some ⟨b,ob,none⟩) c xs]) (λhd=>ty.im x0 hd):=by
  refine Ac.run (v:=λhd=>some (v hd)) λA a w hf hs=> ?_
  have hok:=hs.ch _ (List.mem_singleton.2 rfl)
  obtain ⟨_,h2⟩:=pB hok
  rcases h2 with rfl | ⟨b1,o1,cs,e1,hels,hc⟩
  · simp at hx0
  · injection e1 with e1
    injection e1 with e1 e2
    subst e1 e2
    obtain ⟨hd',him,hcs⟩:=hels.at_ i x0 hx0
    have hr:(loadVar t ⟨b,off,none⟩).run G.P w = .ok (v hd') w:=by
      refine lj G.ok (hv hd') λj u hu=> ?_
      have h3:=hc (i*ty.sz+(k+j)) u (hcs (k+j) u (by simpa using hu))
      rw [hoff,<- h3]
      congr 2
      omega
    refine ⟨hd',w,A,?_,?_⟩
    · simp only [execOp,ho,hf.ev hx,Instr.loadAt,Instr.sureAddr,Sem.run_bind,Sem.run_pure,Result.andThen_ok,hr,nx]
    · have h5:=SS.grown hs (ob:=none) ⟨rfl,rfl,rfl,Nat.le_refl _,λ_ _ _=>rfl⟩ (λ_ e=>nomatch e) (λb hb=>⟨.inl hb,(hs.own _ (List.mem_singleton.2 rfl) b hb).1⟩) hok
      have h6:=h5.lk (J:=ty.im x0 hd') him
      simpa using h6
theorem Ac.ors {t T:Nat} {x:Operand} {lo hi:Option Operand} {lv hv:Int} {ti te:TI} {u:Unit} (hk0:chk (cZ lv hv xs.length)=some u) (ho:o.op = .slice t x lo hi none) (hx:ev m x=some (.slice a0 xs.length c)) (hlo:evb m lo 0=some lv) (hhi:evb m hi xs.length=some hv) (ht:bU G.τ t=some ti) (hk:ti.k = .slice T) (he:bU G.τ T=some te) (hsz:te.size=ty.sz) :
    Ac G n m o [Ch.aro ty T a0 c xs] [] (λz:Option Addr×Nat=> .slice z.1 (cut xs lv hv).length z.2) (λz=>[Ch.aro ty T z.1 z.2 (cut xs lv hv)]) (λ_=>[]):=by
  obtain ⟨h0,h1,h2⟩:=eG hk0
  refine Ac.run (v:=λz:Option Addr×Nat=>some (.slice z.1 (cut xs lv hv).length z.2)) λA a w hf hs=> ?_
  have hok:=hs.ch _ (List.mem_singleton.2 rfl)
  have hle:xs.length<=c:=(pB hok).1
  have hlen:=fJ (xs:=xs) ⟨h0,h1,h2⟩
  have hr:=mq (P:=G.P) (w:=w) (cap:=c) G.ok hf ht hk he hlo hhi h0 h1 (by omega) a0
  refine ⟨(if c=lv.toNat then a0 else a0.map (·.add (lv.toNat*te.size)),c - lv.toNat),w,A,?_,SS.grown hs (ob:=none) ⟨rfl,rfl,rfl,Nat.le_refl _,λ_ _ _=>rfl⟩ (λ_ e=>nomatch e) (λb hb=> ?_) ?_⟩
  · simp only [execOp,ho,hf.ev hx,Option.map_none,Sem.run_bind,hlen,nx] at hr ⊢
    rw [hr]
    simp
  · have hb2:(Ch.aro ty T a0 c xs).blk b:=by
      revert hb
      show Option.map _ _=some b->Option.map _ a0=some b
      dsimp only
      split
      · exact id
      · cases a0 with
        | none=>exact id
        | some ad =>
          obtain ⟨g,o1,s1⟩:=ad
          intro h
          have h2: ∀ k,((⟨g,o1,s1⟩:Addr).add k).block=g:=λk=>by unfold Addr.add; split <;> (try split) <;> rfl
          simpa [h2] using h
    exact ⟨.inl hb2,(hs.own _ (List.mem_singleton.2 rfl) b hb2).1⟩
  · rcases hok with ⟨rfl,rfl,rfl⟩ | ⟨g,o1,cur,cs,rfl,hb,h4,h5,h6,h7,h8⟩
    · refine .inl ⟨by split <;> rfl,by simp [cut],by omega⟩
    · by_cases hc:c=lv.toNat
      · rw [if_pos hc]
        have e0:cut xs lv hv=[]:=List.eq_nil_of_length_eq_zero (by omega)
        rw [e0]
        refine .inr ⟨g,o1,cur,[],rfl,hb,Nat.zero_le _,by omega,?_,by simp,.nil⟩
        have:c - lv.toNat=0:=by omega
        rw [this,Nat.zero_mul]
        omega
      · rw [if_neg hc]
        have hm:lv.toNat*ty.sz+(c - lv.toNat)*ty.sz=c*ty.sz:=by rw [<- Nat.add_mul]; congr 1; omega
        refine .inr ⟨g,o1+lv.toNat*ty.sz,cur,_,by rw [hsz]; simp [add_lit],hb,by omega,by omega,by show o1+lv.toNat*ty.sz+(c - lv.toNat)*ty.sz<=cur.size; omega,?_,(h8.take hv.toNat).drop lv.toNat⟩
        have hm2:hv.toNat*ty.sz<=xs.length*ty.sz:=Nat.mul_le_mul_right _ (by omega)
        rw [hlen,<- h7,<- List.drop_drop,List.take_take,Nat.min_eq_left hm2,List.drop_take,Nat.sub_mul]
theorem Al {P:Program} (w:World) (t ty e:TypeId) (i:TypeInfo) (ht:P.underlying t=some (.slice e)) (hi:P.info? e=some i)
    (g o sLen sCap:Nat) (cur:Array Value) (hg:w.heap[g]?=some (.cells cur e (0,0)))
    (a:Addr) (m c:Nat) (news:List Value) (hl:news.length=m*i.size) (hnews: ∀ j u,news[j]?=some u->w.cell? (a.add j)=some u) (h1: ∀ u∈news,u.oneCell'=true)
    (hroom:sLen+m<=sCap) (hfit:o+sLen*i.size+news.length<=cur.size) :
    (Builtin.append_ #[t,t] ty #[.slice (some ⟨g,o,none⟩) sLen sCap,.slice (some a) m c]).run P w =
      .ok (.slice (some ⟨g,o,none⟩) (sLen+m) sCap) (w.setRow g (cur.toList.take (o+sLen*i.size)++news++cur.toList.drop (o+sLen*i.size+news.length)).toArray):=by
  have hf:=run_firstCells_some (P:=P) w i.size m a m c news hl hnews
  have hst:=run_storeCells_at P g (o+sLen*i.size) e news 0 cur w hg (by simpa using hfit) h1
  simp only [Nat.add_zero] at hst
  simp [Builtin.append_,run_underlying ht,sizeOf,typeInfo,hi,Builtin.lenOf,hroom,hf,Addr.add_lit,hst]
theorem BQ (l es:List Value) (o n:Nat) (h:o+n<=l.length):((l.take (o+n)++es++l.drop (o+n+es.length)).drop o).take (n+es.length)=(l.drop o).take n++es:=by
  rw [List.append_assoc,List.drop_append_of_le_length (by simp; omega),List.drop_take]
  have h2:o+n - o=n:=by omega
  have h3:((l.drop o).take n).length=n:=by simp; omega
  rw [h2,List.take_append,h3,List.take_of_length_le (by rw [h3]; omega)]
  congr 1
  have h4:n+es.length - n=es.length:=by omega
  rw [h4,List.take_append_of_le_length (Nat.le_refl _),List.take_length]
theorem EN {w:World} {e:TypeId} {n m c size:Nat} {z:Value} {xs news:List Value} (hxl:xs.length=n*size) (hl:news.length=m*size) (hzs:z.cells.size=size) (h63:n+m<=maxLen) (ho:c < n+m) :
    (w.drew.alloc (.cells (xs.toArray++news.toArray++Builtin.zeroCells z.cells (grownCap w (n+m) c e - (n+m))) e)).ownsRow 0 e size (.slice (some ⟨w.heap.size,0,none⟩) (n+m) (grownCap w (n+m) c e)) (n+m) (xs++news) /\
    w.grownBy (w.drew.alloc (.cells (xs.toArray++news.toArray++Builtin.zeroCells z.cells (grownCap w (n+m) c e - (n+m))) e)) none:=by
  have hlen:(xs++news).length=(n+m)*size:=by rw [List.length_append,hxl,hl,Nat.add_mul]
  have hge:=grownCap_ge w (n+m) c e
  have hcm:grownCap w (n+m) c e<=maxLen:=grownCap_le_maxLen w (n+m) c e h63
  refine ⟨⟨hlen,.inr ⟨w.heap.size,_,_,rfl,Nat.zero_le _,heap_alloc_new w.drew _,hge,hcm,?_,?_⟩⟩,⟨rfl,rfl,rfl,by simp,λk hk _=>heap_alloc_old w.drew _ k hk⟩⟩
  · simp only [Array.size_append,List.size_toArray,size_zeroCells,hzs,hxl,hl,<- Nat.add_mul]
    congr 1
    omega
  · simp only [Array.toList_append,List.append_assoc]
    rw [<- List.append_assoc,<- hlen]
    exact List.take_left
theorem Ac.oap {t T:Nat} {x y:Operand} {ti te:TI} {u:Unit} (hlim:chk (eY xs.length ys.length te.bytes)=some u) (ho:o.op = .call { callee:= .builtin .append,args:= #[x,y],argTypes:= #[t,t] }) (hx:ev m x=some (.slice a0 xs.length c)) (hy:ev m y=some (.slice a1 ys.length c1)) (ht:bU G.τ t=some ti) (hk:ti.k = .slice T) (he:bU G.τ T=some te) (hsz:(Nat.beq te.size ty.sz && Nat.beq te.zero.length ty.sz && Nat.blt 0 ty.sz && Nat.blt 0 te.bytes)=true) :
    Ac G n m o [Ch.aro ty T a0 c xs] [Im.sl ty a1 c1 ys] (λz:Option Addr×Nat=> .slice z.1 (xs++ys).length z.2) (λz=>[Ch.aro ty T z.1 z.2 (xs++ys)]) (λ_=>[]):=by
  have hlim:(xs.length+ys.length)*te.bytes<=140737488355328:=eG hlim
  simp only [Bool.and_eq_true] at hsz
  obtain ⟨⟨⟨hs1,hs2⟩,hpos⟩,hby⟩:=hsz
  have hs1:=Nat.eq_of_beq_eq_true hs1
  have hs2:=Nat.eq_of_beq_eq_true hs2
  have hpos':0 < ty.sz:=gS hpos
  have hby':0 < te.bytes:=gS hby
  refine Ac.run (v:=λz:Option Addr×Nat=>some (.slice z.1 (xs++ys).length z.2)) λA a w hf hs=> ?_
  obtain ⟨dd,f,z0,hdd,hfi,hkk,_⟩:=G.ok.info ht
  rw [hk] at hkk
  cases hkk
  obtain ⟨de,fe,ze,hde,hfe,_,hfs,hfb,hfz,hzc,_⟩:=G.ok.info he
  have hok:=hs.ch _ (List.mem_singleton.2 rfl)
  have hym:=hs.im _ (List.mem_singleton.2 rfl)
  have h63:xs.length+ys.length<=maxLen:=by
    have h1:(xs.length+ys.length)*1<=(xs.length+ys.length)*te.bytes:=Nat.mul_le_mul_left _ hby'
    simp only [maxLen]
    omega
  have hzs:ze.cells.size=ty.sz:=by rw [<- hs2,<- hzc,Array.length_toList]
  have hblk: ∀ b,(Ch.aro ty T a0 c xs).blk b->b < w.heap.size /\ ¬ A b:=λb hb=>hs.own _ (List.mem_singleton.2 rfl) b hb
  have key: ∀ (ad:Addr) (es:List Value),a1=some ad->Els ty A w ys es->(∀ j u,es[j]?=some u->w.cell? (ad.add j)=some u) -> ∃ (x:Option Addr×Nat) (w':World) (A':fy),(execOp a.eval o).run G.P w = .ok (nx (some (.slice x.1 (xs++ys).length x.2))) w'/\SS ⟨w,A,Own [Ch.aro ty T a0 c xs]⟩ A' [Ch.aro ty T x.1 x.2 (xs++ys)] [] w':=by
    rintro ad es rfl hes hcells
    rcases hok with ⟨rfl,rfl,rfl⟩ | ⟨g,o1,cur,cs,rfl,hb,h4,h5,h6,h7,h8⟩
    · obtain ⟨v',w',hr,hown',hgr,hat⟩:=BK (P:=G.P) w t o.type T fe ze ty.sz te.bytes hdd hfe hfz (hfs.trans hs1) hfb hzs hpos' (.slice none 0 0) 0 [] (World.ownsRow_nil w 0 T ty.sz) ad ys.length c1 es hes.len hcells hes.one (by simpa using h63) (by simpa using hlim)
      have hv': ∃ a2 c2,v' = .slice a2 ys.length c2:=by
        rcases hown'.2 with ⟨rfl,e⟩ | ⟨g,cap,cur,rfl,_⟩
        · exact ⟨none,0,by rw [<- e,Nat.zero_add]⟩
        · exact ⟨_,_,by rw [Nat.zero_add]⟩
      obtain ⟨a2,c2,rfl⟩:=hv'
      have hblk2:(Value.slice a2 ys.length c2).ownBlock=a2.map (·.block):=by cases a2 <;> rfl
      rw [hblk2] at hat
      have hA: ∀ b,A b->w'.heap[b]?=w.heap[b]?:=λb hb=>hgr.block b (hs.lt b hb) (by simp [Value.ownBlock])
      rw [Nat.zero_add,List.nil_append] at hown'
      refine ⟨(a2,c2),w',A,?_,SS.grown hs (ob:=none) (by simpa [Value.ownBlock] using hgr) (λb e=>nomatch e) (λb hb=> ?_) ?_⟩
      · simp only [execOp,ho,resolve,invoke,builtin,Sem.run_bind,Sem.run_pure,Result.andThen_ok,List.map_toArray,List.map_cons,List.map_nil,hf.ev hx,hf.ev hy,hr,nx,List.nil_append,List.length_nil]
      · have:=hat b hb
        exact ⟨.inr (this.1.resolve_left (by simp [Value.ownBlock])),this.2⟩
      · exact BP ⟨es,by simpa using hown',by simpa using hes.st (λ_ h=>h) hA⟩
    · by_cases hroom:xs.length+ys.length<=c
      · have hm1:(xs.length+ys.length)*ty.sz<=c*ty.sz:=Nat.mul_le_mul_right _ hroom
        rw [Nat.add_mul] at hm1
        have hel:=hes.len
        have hr:=Al (P:=G.P) w t o.type T fe hdd hfe g o1 xs.length c cur hb ad ys.length c1 es (by rw [hfs,hs1]; exact hel) hcells hes.one hroom (by rw [hfs,hs1]; omega)
        rw [hfs,hs1] at hr
        obtain ⟨nc,hnc⟩: ∃ nc,(cur.toList.take (o1+xs.length*ty.sz)++es++cur.toList.drop (o1+xs.length*ty.sz+es.length))=nc:=⟨_,rfl⟩
        rw [hnc] at hr
        have hcl:cur.toList.length=cur.size:=Array.length_toList
        have hncl:nc.length=cur.size:=by rw [<- hnc]; simp; omega
        have hgr:w.grownBy (w.setRow g nc.toArray) (some g):=⟨rfl,rfl,rfl,by rw [setRow_size]; exact Nat.le_refl _,λk _ hk=>setRow_other _ _ _ _ (λe=>hk (by rw [e]))⟩
        have hA: ∀ b',A b'->(w.setRow g nc.toArray).heap[b']?=w.heap[b']?:=λb' hA=>setRow_other _ _ _ _ (λe=>(hblk b' (by subst e; rfl)).2 hA)
        refine ⟨(some ⟨g,o1,none⟩,c),_,A,?_,SS.grown hs hgr (λb e=>e) (λb' hb2=>⟨.inl hb2,?_⟩) (.inr ⟨g,o1,nc.toArray,_,rfl,setRow_heap w g _ _ T (0,0) hb,by rw [List.length_append]; exact hroom,h5,by simpa [hncl] using h6,?_,(h8.app hes).st (λ_ h=>h) hA⟩)⟩
        · simp only [execOp,ho,resolve,invoke,builtin,Sem.run_bind,Sem.run_pure,Result.andThen_ok,List.map_toArray,List.map_cons,List.map_nil,hf.ev hx,hf.ev hy,hr,nx,List.length_append]
        · rw [setRow_size]
          exact (hblk b' hb2).1
        · rw [List.length_append,Nat.add_mul,<- hel,<- hnc]
          show List.take _ (List.drop o1 (cur.toList.take _++es++_).toArray.toList)=_
          rw [List.toList_toArray,BQ _ _ _ _ (by omega),h7]
      · have hcl:=h8.len
        have holds: ∀ j u,cs[j]?=some u->w.cell? ((⟨g,o1,none⟩:Addr).add j)=some u:=λj u hu=>by
          rw [add_lit,cell_of_row w g (o1+j) _ T (0,0) hb]
          rw [<- h7,List.getElem?_take] at hu
          split at hu
          · rw [List.getElem?_drop] at hu
            simpa using hu
          · cases hu
        have hr:=run_append_grow (P:=G.P) w t o.type T fe ze hdd hfe hfz ⟨g,o1,none⟩ xs.length c cs (by rw [hfs,hs1]; exact hcl) holds ad ys.length c1 es (by rw [hfs,hs1]; exact hes.len) hcells (by omega) (by simp only [maxLen] at h63; omega) (growslice_fits (by omega) (by rw [hfb]; exact hlim))
        have hgr:=EN (w:=w) (e:=T) (n:=xs.length) (m:=ys.length) (c:=c) hcl hes.len hzs h63 (by omega)
        have hA: ∀ b,A b->(w.drew.alloc (.cells (cs.toArray++es.toArray++Builtin.zeroCells ze.cells (grownCap w (xs.length+ys.length) c T - (xs.length+ys.length))) T)).heap[b]?=w.heap[b]?:=λb hb=>hgr.2.block b (hs.lt b hb) (λe=>nomatch e)
        have hown':=hgr.1
        have elen:(xs++ys).length=xs.length+ys.length:=List.length_append
        refine ⟨(some ⟨w.heap.size,0,none⟩,grownCap w (xs.length+ys.length) c T),_,A,?_,SS.grown hs (ob:=none) hgr.2 (λb e=>nomatch e) (λb hb=> ?_) (BP ⟨_,by rw [elen]; exact hown',(h8.app hes).st (λ_ h=>h) hA⟩)⟩
        · simp only [execOp,ho,resolve,invoke,builtin,Sem.run_bind,Sem.run_pure,Result.andThen_ok,List.map_toArray,List.map_cons,List.map_nil,hf.ev hx,hf.ev hy,hr,nx,List.length_append]
        · injection hb with hb
          subst hb
          exact ⟨.inr (Nat.le_refl _),by simp⟩
  rcases hym.2 with rfl | ⟨b,o',es,ha1,hb,hes,hc⟩
  · cases a1 with
    | none =>
      refine ⟨(a0,c),w,A,?_,SS.grown hs (ob:=none) ⟨rfl,rfl,rfl,Nat.le_refl _,λ_ _ _=>rfl⟩ (λ_ e=>nomatch e) (λb hb=>⟨.inl hb,(hs.own _ (List.mem_singleton.2 rfl) b hb).1⟩) (by rw [List.append_nil]; exact hok)⟩
      have hle:xs.length<=c:=(pB hok).1
      simp only [execOp,ho,resolve,invoke,builtin,Sem.run_bind,Sem.run_pure,Result.andThen_ok,List.map_toArray,List.map_cons,List.map_nil,hf.ev hx,hf.ev hy,List.length_nil,tj w t o.type T fe hdd hfe a0 xs.length c hle,nx,List.append_nil]
    | some ad=>exact key ad [] rfl .nil (λj u hu=>by simp at hu)
  · exact key _ es ha1 hes (λj u hu=>by rw [add_lit]; exact hc j u hu)
end
section
variable {G : Pg} {n : Nd} {m : Env} {o : Oper} {α : Type} {ty : Ty α} {xs : List α}
end
section
variable {G : Pg} {n : Nd} {m : Env} {o : Oper} {S : List Ch} {I : List Im}
theorem Ac.q {v:Value} (h:qx G.τ m o.op=some v):Ac G n m o [] [] (λ_:Unit=>v) (λ_=>[]) (λ_=>[]):=by
  refine Ac.run (v:=λ_=>some v) λA a w hf hs=> ?_
  exact ⟨(),w,A,CW G.ok hf h w,SS.start hs⟩
end
theorem Ge {L Sp:List Ch} {I:List Im}:Own [Ch.pk (L++Sp) I]=Own (Ch.pk L I::Sp):=by
  funext b
  apply propext
  rw [zh,zh,List.append_nil]
theorem YT.Oc {η:Type} {G:Pg} {yl:Nat} {args:List Value} {af:List Im} {val:η->Value} (L:List Ch) (I:List Im) (L':η->List Ch) (I':η->List Im) (Sp:List Ch)
    (h:YT G yl args [Ch.pk (L++Sp) I] af val (λh'=>[Ch.pk (L' h'++Sp) (I' h')]) (λ_=>[])):YT G yl args (Ch.pk L I::Sp) af val (λh'=>Ch.pk (L' h') (I' h')::Sp) (λ_=>[]):=by
  intro A w hs
  have s1:=SS.unpack (SS.start hs)
  have s2:SS ⟨w,A,Own (Ch.pk L I::Sp)⟩ A [Ch.pk (L++Sp) I] af w:=SS.pack (R:=[]) (by rw [List.append_nil]; exact s1)
  obtain ⟨fn,tmps,assign,body,h1,h2⟩:=h A w s2.st
  refine ⟨fn,tmps,assign,body,h1,RoundIn.mono h2 ?_⟩
  rintro e w' ⟨x,A',he,h3⟩
  rw [Ge] at h3
  have h4:=SS.unpack h3
  rw [List.append_nil] at h4
  exact ⟨x,A',he,SS.pack h4⟩
section
variable {σ η : Type}
variable {G : Pg} {n : Nd} {K : Key} {Q : Exit -> Act -> World -> Prop} {m : Env} {S : List Ch} {I : List Im} {SL : σ -> η -> List Ch} {IL : σ -> η -> List Im} {jp : σ -> Option Code} {z : σ × Bool} {body : Code}
end
section
variable {σ η X θ τ : Type} {G : Pg} {n : Nd} {K : Key} {Q : Exit -> Act -> World -> Prop} {m : Env} {S : List Ch} {I : List Im} {body : Code}
end
section
variable {G : Pg} {n : Nd} {K : Key} {Q : Exit -> Act -> World -> Prop} {m : Env} {S C V : List Ch} {I : List Im} {ops : List Oper} {late l : List Nat} {o : Oper}
theorem Dp.ab {i:Nat} (is js ks:List Nat) {d:Option Nat} {Sp R:List Ch} {J:List Im} {σ:Type} {v:σ->Value} {S' V':σ->List Ch} {I':σ->List Im} (hA:Ac G n m o Sp J v S' I') (hi:ops[i]?=some o) (hw:wg ops m o=some true) (hd:o.dst=d) (hn:dok d n.n=true) (hS:ext (C++V) is=some (Sp,R)) (hJ:pick I js=some J) (hB: ∀ x,ext (S' x++R) ks=some (C,V' x))
    (h: ∀ x,D G n K Q ops late (i::l) C (nO d (v x) m) (V' x) (I' x++I)):Dp G n K Q ops late l i C m V I:=by
  intro A a w fuel hfu hf hs
  have hi':ops.toArray[i]?=some o:=by simpa using hi
  unfold wpOp
  simp only [hi']
  rw [if_pos (lT hw hf)]
  left
  have hs':=hs.perm (cV hS) (λi hi=>hi)
  refine (hA A a w _ (NP Q) hf (hs'.st.left (eQ hJ)) λx w' A' h2=> ?_).1
  have h3:=hs'.frame h2
  have h4:=h3.perm (cV (hB x)) (λi hi=>hi)
  refine ⟨WS C (I' x++I),.inr λw ⟨A,h1,h2⟩=>⟨A,h1,λf hf=>h2 f (List.mem_append_right _ hf)⟩,h4.ws,?_⟩
  rw [nW,hd]
  exact h x A' _ w' fuel (by simp only [List.length_cons]; omega) (hf.vW hn _) h4
theorem D.rsl (i:Nat) {α:Type} {ty:Ty α} {xs:List α} {a0:Option Addr} {c:Nat} (k:Nat) {d t e:Nat} {x:Operand} {lo hi:Option Operand} {lv hv:Int} {ti te:TI} {u:Unit} (hk0:chk (cZ lv hv xs.length)=some u) (hi':ops[k]?=some o) (hc':wY ops late l k=true) (hw:wg ops m o=some true) (hd:o.dst=some d) (hn:dok (some d) n.n=true) (ho:o.op = .slice t x lo hi none) (hx:ev m x=some (.slice a0 xs.length c)) (hlo:evb m lo 0=some lv) (hhi:evb m hi xs.length=some hv) (hI:I[i]?=some (Im.sl ty a0 c xs)) (ht:bU G.τ t=some ti) (hk:ti.k = .slice e) (he:bU G.τ e=some te) (hsz:te.size=ty.sz)
    (h: ∀ a1 c1,D G n K Q ops late (k::l) C ((d,.slice a1 (cut xs lv hv).length c1)::m) V (Im.sl ty a1 c1 (cut xs lv hv)::I)):D G n K Q ops late l C m V I:=by
  refine D.put (v:= .slice (kc a0 c lv ty.sz) (cut xs lv hv).length (c - lv.toNat)) (S0:=λ_=>True) k hi' hc' (.inl λ_=>trivial) (λ_ _=>trivial) hd hn (λA a w hf hs=> .inl ⟨lT hw hf,λw' _=> ?_⟩) (D.lk [_] (λA w _ hI' f hf'=> ?_) (h _ _))
  · obtain ⟨h0,h1,h2⟩:=eG hk0
    have hle:=(hs.st.im _ (List.mem_of_getElem? hI)).1
    have hr:=mq (P:=G.P) (w:=w') G.ok hf ht hk he hlo hhi h0 h1 (by omega:hv<=(c:Int)) a0
    rw [fJ ⟨h0,h1,h2⟩,kc,<- hsz]
    simp only [execOp,ho,hf.ev hx,Option.map_none,Sem.run_bind,hr,Result.andThen_ok,Sem.run_pure]
  · rw [List.mem_singleton.1 hf']
    exact Dc hk0 (hI' _ (List.mem_of_getElem? hI))
end
theorem sm {α:Type _} {a b:α} (h:some a=some b):a=b:=Option.some.inj h
theorem tT {m:Env}: ∀ {M:Env},M.map (λp=>look m p.1)=M.map (λp=>some p.2)->wJ m M
  | [],_=>trivial
  | (i,v)::M,h=>by
    simp only [List.map_cons,List.cons.injEq] at h
    exact ⟨h.1,tT h.2⟩
section
variable {G : Pg} {n : Nd} {K : Key} {Q : Exit -> Act -> World -> Prop} {m : Env} {S : List Ch} {I : List Im} {ops : Array Oper} {o : Oper} {l : List Oper}
theorem Ln (h:E n K Q .normal m S I):L G n K ops Q [] m S I:=L.nil h
theorem Et {y:Code} (h:Tw.T G n K Q y m S I):E n K (Exit.then (y.wpIn G.F 0 G.P Q) Q) .normal m S I:=E.then h
theorem Ts {x y:Code} (h:Tw.T G n K (Exit.then (y.wpIn G.F 0 G.P Q) Q) x m S I):Tw.T G n K Q (.seq x y) m S I:=T.seq h
theorem Tr {id:Nat} {l:List Oper} (h:L G n K l.toArray Q l m S I):Tw.T G n K Q (.region id l.toArray false) m S I:=T.region h
theorem Tk (h:E n K Q .normal m S I):Tw.T G n K Q .skip m S I:=T.skip h
theorem Tv (h:E n K Q .ret m S I):Tw.T G n K Q .ret m S I:=T.ret h
theorem Tx {id:Nat} (h:E n K Q (.exit id) m S I):Tw.T G n K Q (.exit id) m S I:=T.exit h
theorem Tl {id:Nat} {c:Code} (h:Tw.T G n K (Exit.inBlock id Q) c m S I):Tw.T G n K Q (.block id c) m S I:=T.block h
theorem Ex {y:Act->World->Prop} {id:Nat} (h:E n K Q (.exit id) m S I):E n K (Exit.then y Q) (.exit id) m S I:=E.BD h
theorem Er {y:Act->World->Prop} (h:E n K Q .ret m S I):E n K (Exit.then y Q) .ret m S I:=E.pt h
theorem Eb {id:Nat} (h:E n K Q .normal m S I):E n K (Exit.inBlock id Q) .normal m S I:=E.block h
theorem Eh {id:Nat} (h:E n K Q .normal m S I):E n K (Exit.inBlock id Q) (.exit id) m S I:=E.BE h
theorem Ev {id:Nat} (h:E n K Q .ret m S I):E n K (Exit.inBlock id Q) .ret m S I:=E.ED h
theorem Lq (k:Nat) {l l':List Oper} {m':Env} (hl:L G n K ops Q l' m' S I) (h:BF G.τ n.n ops.toList k l m=some (m',l'):=by exact rfl):L G n K ops Q l m S I:=wo h hl
theorem Ly {d:Nat} {v:Value} (hy:Yl G n m S I o v) (h:L G n K ops Q l ((d,v)::m) S I) (hw:wg ops.toList m o=some true:=by exact rfl) (hd:o.dst=some d:=by exact rfl) (hn:Nat.blt d n.n=true:=by exact rfl):L G n K ops Q (o::l) m S I:=L.y hy hw hd hn h
theorem Lb (i:Nat) {d:Nat} {t g o' T:Nat} {x:Operand} {cs:List Value} {v:Value} (h:L G n K ops Q l ((d,v)::m) S I) (ho:o.op = .load t x:=by exact rfl) (hx:ev m x=some (.pointer (some ⟨g,o',none⟩)):=by exact rfl) (hS:S[i]?=some (Ch.box g T cs):=by exact rfl) (hv:qA G.τ t (cs.drop o') 0=some v:=by exact rfl) (hw:wg ops.toList m o=some true:=by exact rfl) (hd:o.dst=some d:=by exact rfl) (hn:Nat.blt d n.n=true:=by exact rfl):L G n K ops Q (o::l) m S I:=L.y (Yl.ldb i ho hx hS hv) hw hd hn h
theorem Lc (i k:Nat) {d:Nat} {t b off:Nat} {x:Operand} {vs:List Value} {v:Value} (h:L G n K ops Q l ((d,v)::m) S I) (ho:o.op = .load t x:=by exact rfl) (hx:ev m x=some (.pointer (some ⟨b,off+k,none⟩)):=by exact rfl) (hI:I[i]?=some (Im.cells b off vs):=by exact rfl) (hv:qA G.τ t (vs.drop k) 0=some v:=by exact rfl) (hw:wg ops.toList m o=some true:=by exact rfl) (hd:o.dst=some d:=by exact rfl) (hn:Nat.blt d n.n=true:=by exact rfl):L G n K ops Q (o::l) m S I:=L.y (Yl.ldc i k ho hx hI hv) hw hd hn h
theorem La (is js:List Nat) {d:Option Nat} {Sp R:List Ch} {J:List Im} {σ:Type} {v:σ->Value} {S':σ->List Ch} {I':σ->List Im} (hA:Ac G n m o Sp J v S' I') (h: ∀ x,L G n K ops Q l (nO d (v x) m) (S' x++R) (I' x++I)) (hw:wg ops.toList m o=some true:=by exact rfl) (hd:o.dst=d:=by exact rfl) (hn:dok d n.n=true:=by exact rfl) (hS:ext S is=some (Sp,R):=by exact rfl) (hJ:pick I js=some J:=by exact rfl):L G n K ops Q (o::l) m S I:=L.a is js hA hw hd hn hS hJ h
theorem Lk (is js:List Nat) {d:Option Nat} {R:List Ch} {σ:Type} {f:FuncId} {fo:Operand} {as:Array Operand} {ts:Array Nat} {vs args:List Value} {a1 a2:Array Value} {Sp:List Ch} {J:List Im} {val:σ->Value} {S':σ->List Ch} {I':σ->List Im} (hC:CT G f args Sp J val S' I') (h: ∀ x,L G n K ops Q l (nO d (val x) m) (S' x++R) (I' x++I)) (ho:o.op = .call { callee:= .value fo,args:=as,argTypes:=ts }:=by exact rfl) (hfo:ev m fo=some (.func (.func f) a1 a2):=by exact rfl) (ha:evl m as.toList=some vs:=by exact rfl) (hargs:a1.toList++vs++a2.toList=args:=by exact rfl) (hw:wg ops.toList m o=some true:=by exact rfl) (hd:o.dst=d:=by exact rfl) (hn:dok d n.n=true:=by exact rfl) (hS:ext S is=some (Sp,R):=by exact rfl) (hJ:pick I js=some J:=by exact rfl):L G n K ops Q (o::l) m S I:=L.a is js (Ac.call hC ho hfo ha hargs) hw hd hn hS hJ h
theorem Lt (i:Nat) {R:List Ch} {d:Option Nat} {t g o' T:Nat} {x y:Operand} {cs cs':List Value} {v:Value} {ti:TI} (h:L G n K ops Q l (nO d undef m) (Ch.box g T cs'::R) I) (ho:o.op = .store t x y:=by exact rfl) (hx:ev m x=some (.pointer (some ⟨g,o',none⟩)):=by exact rfl) (hy:ev m y=some v:=by exact rfl) (hi:bU G.τ t=some ti:=by exact rfl) (hc:(Nat.beq (vc v).length ti.size && (vc v).all Value.oneCell')=true:=by exact rfl) (hS:ext S [i]=some ([Ch.box g T cs],R):=by exact rfl) (hr0:wr cs o' (vc v)=some cs':=by exact rfl) (hw:wg ops.toList m o=some true:=by exact rfl) (hd:o.dst=d:=by exact rfl) (hn:dok d n.n=true:=by exact rfl):L G n K ops Q (o::l) m S I:=L.a [i] [] (Ac.stb ho hx hy hi hc hr0) hw hd hn hS rfl λ_=>h
theorem Ll {d:Option Nat} {T:Nat} {ti:TI} (h: ∀ g:Nat,L G n K ops Q l (nO d (.pointer (some ⟨g,0,none⟩)) m) (Ch.box g T ti.zero::S) I) (ho:o.op = .alloc T:=by exact rfl) (hi:bU G.τ T=some ti:=by exact rfl) (hw:wg ops.toList m o=some true:=by exact rfl) (hd:o.dst=d:=by exact rfl) (hn:dok d n.n=true:=by exact rfl):L G n K ops Q (o::l) m S I:=L.a [] [] (Ac.alloc ho hi) hw hd hn rfl rfl h
theorem Lx {d:Option Nat} {T:Nat} {x:Operand} {v:Value} (h: ∀ g:Nat,L G n K ops Q l (nO d (.pointer (some ⟨g,0,none⟩)) m) (Ch.box g T (vc v)::S) I) (ho:o.op = .box T x:=by exact rfl) (hx:ev m x=some v:=by exact rfl) (hw:wg ops.toList m o=some true:=by exact rfl) (hd:o.dst=d:=by exact rfl) (hn:dok d n.n=true:=by exact rfl):L G n K ops Q (o::l) m S I:=L.a [] [] (Ac.box ho hx) hw hd hn rfl rfl h
theorem Tb {ρ:Type} {g h:Option ρ} {r:ρ} {c:Operand} {x y:Code} {b:Bool} (H:(bif b then g else h)=some r) (ht:g=some r->T G n K Q x m S I) (hf:h=some r->T G n K Q y m S I) (hc:ev m c=some (.bool b):=by exact rfl):T G n K Q (.cond c x y) m S I:=T.bif hc H (λ_=>ht) (λ_=>hf)
theorem Lw (j:Nat) {ρ:Type} {g h:Option ρ} {r:ρ} {b:Bool} (H:(bif b then g else h)=some r) (ht:g=some r->L G n K ops Q l ((j,.bool true)::m) S I) (hf:h=some r->L G n K ops Q l ((j,.bool false)::m) S I) (hj:look m j=some (.bool b):=by exact rfl):L G n K ops Q l m S I:=L.cs j H hj (λ_=>ht) (λ_=>hf)
theorem Tj {x y:Code} {η:Type} (φ:η->Prop) (EM:η->Env) (ds:List Nat) (ES:η->List Ch) (is:List Nat) (EI:η->List Im) {PM:Env} {PS:List Ch} (h1:T G n K (Exit.then (Mid n K φ (λz=>EM z++PM) (λz=>ES z++PS) (λz=>EI z++I)) Q) x m S I) (h2: ∀ z,φ z->T G n K Q y (EM z++PM) (ES z++PS) (EI z++I)) (hm:prn m ds=some PM:=by exact rfl) (hS:pick S is=some PS:=by exact rfl):T G n K (Exit.then (y.wpIn G.F 0 G.P Q) Q) x m S I:=T.join φ _ _ _ h1 h2
theorem Tjh {x y:Code} {η:Type} (EM:η->Env) (ds:List Nat) (ES:η->List Ch) (is:List Nat) (EI:η->List Im) {PM:Env} {PS:List Ch} (h1:T G n K (Exit.then (Mid n K (λ_=>True) (λz=>EM z++PM) (λz=>ES z++PS) (λz=>EI z++I)) Q) x m S I) (h2: ∀ z,T G n K Q y (EM z++PM) (ES z++PS) (EI z++I)) (hm:prn m ds=some PM:=by exact rfl) (hS:pick S is=some PS:=by exact rfl):T G n K (Exit.then (y.wpIn G.F 0 G.P Q) Q) x m S I:=T.join (λ_=>True) _ _ _ h1 λz _=>h2 z
theorem Tj0 {x y:Code} (EM:Env) (ds:List Nat) (ES:List Ch) (is:List Nat) {PM:Env} {PS:List Ch} (h1:T G n K (Exit.then (Mid n K (λ_:Unit=>True) (λ_=>EM++PM) (λ_=>ES++PS) (λ_=>I)) Q) x m S I) (h2:T G n K Q y (EM++PM) (ES++PS) I) (hm:prn m ds=some PM:=by exact rfl) (hS:pick S is=some PS:=by exact rfl):T G n K (Exit.then (y.wpIn G.F 0 G.P Q) Q) x m S I:=T.join (λ_=>True) _ _ _ h1 λ_ _=>h2
theorem Eg {η:Type} {φ:η->Prop} {M:η->Env} {S':η->List Ch} {I0:List Im} {EI:η->List Im} (z:η) (hz:φ z) (is js:List Nat) (k:Nat) {R:List Ch} (hm:(M z).map (λp=>look m p.1)=(M z).map (λp=>some p.2):=by exact rfl) (hS:ext S is=some (S' z,R):=by exact rfl) (hJ:pick I js=some (EI z):=by exact rfl) (hk:I.drop k=I0:=by exact rfl):E n K (Exit.then (Mid n K φ M S' (λz=>EI z++I0)) Q) .normal m S I:=by
  intro A a w hf hs
  have h2:=hs.perm (cV hS) (λi hi=>hi)
  refine ⟨z,A,hz,hf.sub (om (tT hm)),h2.drop λf hf=> ?_⟩
  rcases List.mem_append.1 hf with h | h
  · exact eQ hJ f h
  · rw [<- hk] at h; exact List.mem_of_mem_drop h
theorem Egx {η:Type} {φ:η->Prop} {M:η->Env} {S':η->List Ch} {I':η->List Im} (z:η) (hz:φ z) (is js:List Nat) {R:List Ch} (hm:(M z).map (λp=>look m p.1)=(M z).map (λp=>some p.2):=by exact rfl) (hS:ext S is=some (S' z,R):=by exact rfl) (hJ:pick I js=some (I' z):=by exact rfl):E n K (Exit.then (Mid n K φ M S' I') Q) .normal m S I:=E.wT z is js hz (tT hm) hS hJ
theorem Eg0 {M:Env} {S':List Ch} {I0:List Im} (is:List Nat) (k:Nat) {R:List Ch} (hm:M.map (λp=>look m p.1)=M.map (λp=>some p.2):=by exact rfl) (hS:ext S is=some (S',R):=by exact rfl) (hk:I.drop k=I0:=by exact rfl):E n K (Exit.then (Mid n K (λ_:Unit=>True) (λ_=>M) (λ_=>S') (λ_=>I0)) Q) .normal m S I:=by
  intro A a w hf hs
  have h2:=hs.perm (cV hS) (λi hi=>hi)
  refine ⟨(),A,trivial,hf.sub (om (tT hm)),h2.drop λf h=> ?_⟩
  rw [<- hk] at h
  exact List.mem_of_mem_drop h
theorem Tq {ρ σ η:Type} {r:ρ} {c:Code} {f:σ->Option (σ ⊕ ρ)} (EM:σ->η->Env) (ds:List Nat) (ES:σ->η->List Ch) (is0:List Nat) (EI:σ->η->List Im) {PM:Env} {PS:List Ch} {s:σ} (x:η) (is js:List Nat) (h:iter f s=some r)
    (round: ∀ k s x z,f s=some z->(∀ s',z = .inl s'->kP f k s'=some r)->(∀ r',z = .inr r'->r'=r)->T G n K (Exit.then (Mid n K (λp:σ×η=>kP f k p.1=some r) (λp=>EM p.1 p.2++PM) (λp=>ES p.1 p.2++PS) (λp=>EI p.1 p.2++I)) Q) c (EM s x++PM) (ES s x++PS) (EI s x++I)) (hm0:prn m ds=some PM:=by exact rfl) (hS0:pick S is0=some PS:=by exact rfl) {R:List Ch} (hm:(EM s x).map (λp=>look m p.1)=(EM s x).map (λp=>some p.2):=by exact rfl) (hS:ext S is=some (ES s x++PS,R):=by exact rfl) (hJ:pick I js=some (EI s x):=by exact rfl):T G n K Q (.loop c) m S I:=by
  have e:Tw.T G n K Q (.loop c) (EM s x++PM) (ES s x++PS) (EI s x++I):=T.it (λs x=>EM s x++PM) (λs x=>ES s x++PS) (λs x=>EI s x++I) round h
  intro A a w hf hs
  have h2:=hs.perm (cV hS) (λi hi=>hi)
  refine e A a w ?_ (h2.drop λf hf=> ?_)
  · have h3:=tT hm
    have h4:=F1 hm0
    have h5: ∀ {a b:Env},wJ m a->wJ m b->wJ m (a++b):=by
      intro a b ha hb
      induction a with
      | nil=>exact hb
      | cons p a ih=>exact ⟨ha.1,ih ha.2⟩
    exact hf.sub (om (h5 h3 h4))
  · rcases List.mem_append.1 hf with h | h
    · exact eQ hJ f h
    · exact h
theorem Eo {G:Pg} {k:Nat} {K:Key} {m:Env} {S:List Ch} {I:List Im} {fn:Func} {σ:Type} {val:σ->Value} {S':σ->List Ch} {I':σ->List Im} (x:σ) (is js:List Nat) {vs:List Value} {R:List Ch} (hr:RVs G.τ m S fn.results.toList vs) (hv:wQ vs=val x:=by exact rfl) (hS:ext S is=some (S' x,R):=by exact rfl) (hJ:pick I js=some (I' x):=by exact rfl):E ⟨k,[]⟩ K (qW G fn K val S' I') .ret m S I:=E.ret x is js hr hv hS hJ
theorem Eo1 {G:Pg} {k:Nat} {K:Key} {m:Env} {S:List Ch} {I:List Im} {fn:Func} {σ:Type} {val:σ->Value} {S':σ->List Ch} {I':σ->List Im} (x:σ) (is js:List Nat) {t:Nat} {R:List Ch} (hf:fn.results.toList=[.tmp t]:=by exact rfl) (hv:look m t=some (val x):=by exact rfl) (hS:ext S is=some (S' x,R):=by exact rfl) (hJ:pick I js=some (I' x):=by exact rfl):E ⟨k,[]⟩ K (qW G fn K val S' I') .ret m S I:=E.ret (vs:=[val x]) x is js (by rw [hf]; exact .tmp hv .nil) rfl hS hJ
end
section
variable {G : Pg} {n : Nd} {K : Key} {Q : Exit -> Act -> World -> Prop} {m : Env} {S C V : List Ch} {I : List Im} {ops : List Oper} {late l : List Nat} {o : Oper}
theorem Td {id:Nat} (late:List Nat) (is:List Nat) (hmo:G.P.follows .mixedOrders=true) (h:D G n K Q ops late [] C m V I) (hS:ext S is=some (C,V):=by exact rfl) (hnd:De ops=true:=by exact rfl):T G n K Q (.region id ops.toArray true) m S I:=T.draw late is hmo hnd hS h
theorem Dn (h:E n K Q .normal m (C++V) I) (hc:closed ops=true:=by exact rfl) (hr:tp l 0 ops=[]:=by exact rfl):D G n K Q ops late l C m V I:=D.nil hc hr h
theorem Dq (i:Nat) {d:Nat} {v:Value} (h:D G n K Q ops late (i::l) C ((d,v)::m) V I) (hi:ops[i]?=some o:=by exact rfl) (hc:wY ops late l i=true:=by exact rfl) (hw:wg ops m o=some true:=by exact rfl) (hd:o.dst=some d:=by exact rfl) (hn:dok (some d) n.n=true:=by exact rfl) (hq:qx G.τ m o.op=some v:=by exact rfl):D G n K Q ops late l C m V I:=D.q i hi hc hw hd hn hq h
theorem Ds (i:Nat) {d:Option Nat} (h:D G n K Q ops late (i::l) C (nO d undef m) V I) (hi:ops[i]?=some o:=by exact rfl) (hc:wY ops late l i=true:=by exact rfl) (hw:wg ops m o=some false:=by exact rfl) (hd:o.dst=d:=by exact rfl) (hn:dok d n.n=true:=by exact rfl):D G n K Q ops late l C m V I:=D.sk i hi hc hw hd hn h
theorem Dy (i:Nat) {d:Nat} {v:Value} (hy:Yl G n m C I o v) (h:D G n K Q ops late (i::l) C ((d,v)::m) V I) (hi:ops[i]?=some o:=by exact rfl) (hc:wY ops late l i=true:=by exact rfl) (hl:wW ops late i=true:=by exact rfl) (hw:wg ops m o=some true:=by exact rfl) (hd:o.dst=some d:=by exact rfl) (hn:dok (some d) n.n=true:=by exact rfl):D G n K Q ops late l C m V I:=D.y i hy hi hc hl hw hd hn h
theorem Db (i j:Nat) {d:Nat} {t g o' T:Nat} {x:Operand} {cs:List Value} {v:Value} (h:D G n K Q ops late (i::l) C ((d,v)::m) V I) (hi:ops[i]?=some o:=by exact rfl) (ho:o.op = .load t x:=by exact rfl) (hx:ev m x=some (.pointer (some ⟨g,o',none⟩)):=by exact rfl) (hS:C[j]?=some (Ch.box g T cs):=by exact rfl) (hv:qA G.τ t (cs.drop o') 0=some v:=by exact rfl) (hc:wY ops late l i=true:=by exact rfl) (hl:wW ops late i=true:=by exact rfl) (hw:wg ops m o=some true:=by exact rfl) (hd:o.dst=some d:=by exact rfl) (hn:dok (some d) n.n=true:=by exact rfl):D G n K Q ops late l C m V I:=D.y i (Yl.ldb j ho hx hS hv) hi hc hl hw hd hn h
theorem Da {i:Nat} (is js:List Nat) {d:Option Nat} {Sp R:List Ch} {J:List Im} {σ:Type} {v:σ->Value} {S':σ->List Ch} {I':σ->List Im} (hr:tp l 0 ops=[i]) (hi:ops[i]?=some o) (hA:Ac G n m o Sp J v S' I') (h: ∀ x,D G n K Q ops late (i::l) C (nO d (v x) m) (S' x++R) (I' x++I)) (hc:closed ops=true:=by exact rfl) (hl:Nat.blt l.length ops.length=true:=by exact rfl) (hw:wg ops m o=some true:=by exact rfl) (hd:o.dst=d:=by exact rfl) (hn:dok d n.n=true:=by exact rfl) (hS:ext V is=some (Sp,R):=by exact rfl) (hJ:pick I js=some J:=by exact rfl):D G n K Q ops late l C m V I:=D.one hc hr hl (Dp.a is js hA hi hw hd hn hS hJ h)
theorem Dk {i:Nat} (is js:List Nat) {d:Option Nat} {R:List Ch} {σ:Type} {f:FuncId} {fo:Operand} {as:Array Operand} {ts:Array Nat} {vs args:List Value} {a1 a2:Array Value} {Sp:List Ch} {J:List Im} {val:σ->Value} {S':σ->List Ch} {I':σ->List Im} (hC:CT G f args Sp J val S' I') (h: ∀ x,D G n K Q ops late (i::l) C (nO d (val x) m) (S' x++R) (I' x++I)) (hr:tp l 0 ops=[i]:=by exact rfl) (hi:ops[i]?=some o:=by exact rfl) (ho:o.op = .call { callee:= .value fo,args:=as,argTypes:=ts }:=by exact rfl) (hfo:ev m fo=some (.func (.func f) a1 a2):=by exact rfl) (ha:evl m as.toList=some vs:=by exact rfl) (hargs:a1.toList++vs++a2.toList=args:=by exact rfl) (hc:closed ops=true:=by exact rfl) (hl:Nat.blt l.length ops.length=true:=by exact rfl) (hw:wg ops m o=some true:=by exact rfl) (hd:o.dst=d:=by exact rfl) (hn:dok d n.n=true:=by exact rfl) (hS:ext V is=some (Sp,R):=by exact rfl) (hJ:pick I js=some J:=by exact rfl):D G n K Q ops late l C m V I:=D.one hc hr hl (Dp.a is js (Ac.call hC ho hfo ha hargs) hi hw hd hn hS hJ h)
theorem Dkl {i:Nat} (is js:List Nat) {d:Option Nat} {R:List Ch} {σ:Type} {f:FuncId} {fo:Operand} {as:Array Operand} {ts:Array Nat} {vs args:List Value} {a1 a2:Array Value} {Sp:List Ch} {J:List Im} {val:σ->Value} {S':σ->List Ch} {I':σ->List Im} (hC:CT G f args Sp J val S' I') (h: ∀ x,D G n K Q ops late (i::l) [] (nO d (val x) m) (S' x++R) (I' x++I)) (hr:tp l 0 ops=[i]:=by exact rfl) (hi:ops[i]?=some o:=by exact rfl) (ho:o.op = .call { callee:= .value fo,args:=as,argTypes:=ts }:=by exact rfl) (hfo:ev m fo=some (.func (.func f) a1 a2):=by exact rfl) (ha:evl m as.toList=some vs:=by exact rfl) (hargs:a1.toList++vs++a2.toList=args:=by exact rfl) (hlt:mem i late=true:=by exact rfl) (hc:closed ops=true:=by exact rfl) (hl:Nat.blt l.length ops.length=true:=by exact rfl) (hw:wg ops m o=some true:=by exact rfl) (hd:o.dst=d:=by exact rfl) (hn:dok d n.n=true:=by exact rfl) (hS:ext (C++V) is=some (Sp,R):=by exact rfl) (hJ:pick I js=some J:=by exact rfl):D G n K Q ops late l C m V I:=D.one hc hr hl (Dp.al is js (Ac.call hC ho hfo ha hargs) hlt hi hw hd hn hS hJ h)
theorem Dt {i:Nat} (j:Nat) {R:List Ch} {d:Option Nat} {t g o' T:Nat} {x y:Operand} {cs cs':List Value} {v:Value} {ti:TI} (h:D G n K Q ops late (i::l) [] (nO d undef m) (Ch.box g T cs'::R) I) (hr:tp l 0 ops=[i]:=by exact rfl) (hi:ops[i]?=some o:=by exact rfl) (ho:o.op = .store t x y:=by exact rfl) (hx:ev m x=some (.pointer (some ⟨g,o',none⟩)):=by exact rfl) (hy:ev m y=some v:=by exact rfl) (hti:bU G.τ t=some ti:=by exact rfl) (hoc:(Nat.beq (vc v).length ti.size && (vc v).all Value.oneCell')=true:=by exact rfl) (hS:ext (C++V) [j]=some ([Ch.box g T cs],R):=by exact rfl) (hr0:wr cs o' (vc v)=some cs':=by exact rfl) (hlt:mem i late=true:=by exact rfl) (hc:closed ops=true:=by exact rfl) (hl:Nat.blt l.length ops.length=true:=by exact rfl) (hw:wg ops m o=some true:=by exact rfl) (hd:o.dst=d:=by exact rfl) (hn:dok d n.n=true:=by exact rfl):D G n K Q ops late l C m V I:=D.one hc hr hl (Dp.al [j] [] (Ac.stb ho hx hy hti hoc hr0) hlt hi hw hd hn hS rfl λ_=>h)
end
section
variable {σ η : Type}
variable {G : Pg} {n : Nd} {K : Key} {Q : Exit -> Act -> World -> Prop} {m : Env} {S : List Ch} {I : List Im} {SL : σ -> η -> List Ch} {IL : σ -> η -> List Im} {jp : σ -> Option Code} {z : σ × Bool} {body : Code}
theorem T.Od {ξ τ:Type} (Y:σ->ξ->Option (σ×Bool)) (av:ξ->List Value) (af:ξ->List Im) {g:Operand} {ps:Array Tmp} {assign:Code} {k:Nat} {ds:List Nat} {f:FuncId} {bs caps:Array Value} {val:τ->Value} {S':τ->List Ch} {I':τ->List Im} {Sp Sl R S0:List Ch} {J:List Im} {s0 s1:σ} {h0:η} {hx:τ->η} (jp:σ->Option Code)
    (SL:σ->η->List Ch) (IL:σ->η->List Im) (di:Nat) (is jl js:List Nat)
    (hrd:G.rd=none) (hg:ev m g=some (.func (.func f) bs caps)) (hps: ∀ p,(av p).length=ps.size) (hpk:ps.toList.all (λd=>Nat.blt d k)=true)
    (hC: ∀ yl (C:σ->η->Ch),(∀ s h p z,Y s p=some z->YT G yl (av p) (C s h::Sl) (af p) (λ_:η=> .bool z.2) (λh'=>C z.1 h'::Sl) (λ_=>[]))->CT G f (bs.toList ++ .func (.yield yl) #[] #[]::caps.toList) (C s0 h0::Sp) J val (λx=>C s1 (hx x)::S' x) I')
    (hjy: ∀ s p z,Y s p=some z->jp s=none) (hj0:jp s0=none)
    (hd:ext S [di]=some ([Ch.dfs ds],S0)) (hS:ext S0 is=some (SL s0 h0++Sp,R)) (hIL:pick I jl=some (IL s0 h0)) (hJ:pick I js=some J)
    (hround: ∀ yl K s h p z,Y s p=some z->T (G.at yl) ⟨k,[]⟩ K (Exit.then (BG (G.at yl) ⟨k,[]⟩ (λs h=>SL s h++Sl) IL jp z body K) (λ_ _ _=>False)) assign (pm ps.toList (av p) m) (SL s h++Sl) (af p++IL s h))
    (hj1:jok (jp s1)=true)
    (h: ∀ x D,E ⟨k,D::ds⟩ K Q (jx (jp s1)) m (Ch.dfs (D::ds)::(SL s1 (hx x)++S' x++R)) (IL s1 (hx x)++I' x++I)) :
    T G ⟨k,ds⟩ K Q (.rangeFunc g ps assign body) m S I:=by
  intro A a w hf hs
  have hF:G.F=Fence.wide:=by unfold Pg.F; rw [hrd]
  refine wpIn_rangeFunc ?_
  intro fn _
  have hro:G.F.round=none:=by rw [G.round,hrd]
  rw [hro]
  obtain ⟨D0,hD0⟩: ∃ D0,w.heap.size=D0:=⟨_,rfl⟩
  obtain ⟨rec,hrec⟩: ∃ rec:LoopState->Option Code->Loop,rec=λst pe=>{ state:=st,pending:=pe,fn,tmps:=a.tmps,params:=ps,assign,body,defers:=D0 }:=⟨_,rfl⟩
  obtain ⟨C,hCd⟩: ∃ C:σ->η->Ch,C=λs h=>Ch.pk (Ch.lp (D0+1) (rec (if (jp s).isNone then .ready else .done) (jp s))::SL s h) (IL s h):=⟨_,rfl⟩
  have hm:Fr ⟨k,[]⟩ m ⟨a.tmps,[]⟩:=⟨hf.size,rfl,hf.at_⟩
  have hY0:=Ae (G:=G) (yl:=D0+1) Y av af hm hps hpk hjy hround rec hrec _ rfl
  have hY: ∀ s h p z,Y s p=some z->YT G (D0+1) (av p) (C s h::Sl) (af p) (λ_:η=> .bool z.2) (λh'=>C z.1 h'::Sl) (λ_=>[]):=by
    intro s h p z hz
    rw [hCd]
    exact YT.Oc (Ch.lp (D0+1) (rec (if (jp s).isNone then .ready else .done) (jp s))::SL s h) (IL s h) (λh'=>Ch.lp (D0+1) (rec (if (jp z.1).isNone then .ready else .done) (jp z.1))::SL z.1 h') (λh'=>IL z.1 h') Sl (hY0 s h p z hz)
  obtain ⟨⟨fnc,hfnc,h1,h2⟩,hcalls⟩:=hC (D0+1) C hY
  -- the two blocks
  have a1:=(hs.perm (cV hd) (λi hi=>hi))
  have a2:=a1.alloc (.deferred (some [])) (Ch.dfs [D0]) (λb hb=>by rw [hD0]; exact List.mem_singleton.1 hb) ⟨by simp,λD hD=>by
    rw [List.mem_singleton.1 hD,<- hD0]; exact World.alloc_heap_new w _⟩
  have e2:(w.alloc (.deferred (some []))).heap.size=D0+1:=by rw [World.size_alloc,hD0]
  have a3:=a2.alloc (.loop (rec .ready none)) (Ch.lp (D0+1) (rec .ready none)) (λb hb=>by rw [e2]; exact hb) (by
    show (World.alloc _ _).heap[D0+1]?=_
    rw [<- e2]; exact World.alloc_heap_new _ _)
  obtain ⟨W,hW⟩: ∃ W,(w.alloc (.deferred (some []))).alloc (.loop (rec .ready none))=W:=⟨_,rfl⟩
  rw [hW] at a3
  -- marks together
  have a4:SS K A (Ch.dfs (D0::ds)::Ch.lp (D0+1) (rec .ready none)::S0) I W:=by
    have hd3:=List.pairwise_cons.1 a3.st.dis
    have hd4:=List.pairwise_cons.1 hd3.2
    have hd5:=List.pairwise_cons.1 hd4.2
    have hok1:=a3.st.ch (Ch.dfs [D0]) (by simp)
    have hok2:=a3.st.ch (Ch.dfs ds) (by simp)
    refine a3.wT ?_ ?_ ?_ a3.st.im
    · intro c hc
      rcases List.mem_cons.1 hc with rfl | hc
      · refine ⟨List.nodup_cons.2 ⟨λhmem=>hd4.1 (Ch.dfs ds) (by simp) D0 (List.mem_singleton.2 rfl) hmem,hok2.1⟩,λD hD=> ?_⟩
        rcases List.mem_cons.1 hD with rfl | hD
        · exact hok1.2 D (by simp)
        · exact hok2.2 D hD
      · rcases List.mem_cons.1 hc with rfl | hc
        · exact a3.st.ch _ (by simp)
        · exact a3.st.ch _ (by simp [hc])
    · rintro b ⟨c,hc,hb⟩
      rcases List.mem_cons.1 hc with rfl | hc
      · rcases List.mem_cons.1 hb with rfl | hb
        · exact ⟨Ch.dfs [b],by simp,List.mem_singleton.2 rfl⟩
        · exact ⟨Ch.dfs ds,by simp,hb⟩
      · rcases List.mem_cons.1 hc with rfl | hc
        · exact ⟨Ch.lp (D0+1) (rec .ready none),by simp,hb⟩
        · exact ⟨c,by simp [hc],hb⟩
    · refine List.pairwise_cons.2 ⟨?_,List.pairwise_cons.2 ⟨λc hc=>hd3.1 c (by simp [hc]),hd5.2⟩⟩
      intro c hc b hb hb2
      have hb3:b=D0\/b∈ds:=List.mem_cons.1 hb
      rcases List.mem_cons.1 hc with hc | hc
      · rw [hc] at hb2
        rcases hb3 with h3 | h3
        · exact hd3.1 (Ch.dfs [D0]) (by simp) b hb2 (List.mem_singleton.2 h3)
        · exact hd3.1 (Ch.dfs ds) (by simp) b hb2 h3
      · rcases hb3 with h3 | h3
        · exact hd4.1 c (by simp [hc]) b (List.mem_singleton.2 h3) hb2
        · exact hd5.1 c hc b h3 hb2
  -- the pack
  have hpS:=cV hS
  have a5:SS K A ((Ch.lp (D0+1) (rec .ready none)::SL s0 h0)++(Sp++(Ch.dfs (D0::ds)::R))) (IL s0 h0++(J++I)) W:=by
    refine a4.perm ?_ ?_
    · have p1:(Ch.dfs (D0::ds)::Ch.lp (D0+1) (rec .ready none)::((SL s0 h0++Sp)++R)).Perm (Ch.dfs (D0::ds)::Ch.lp (D0+1) (rec .ready none)::S0):=(hpS.cons _).cons _
      refine List.Perm.trans ?_ p1
      have p2:((Ch.lp (D0+1) (rec .ready none)::SL s0 h0)++(Sp++(Ch.dfs (D0::ds)::R))).Perm (Ch.dfs (D0::ds)::((Ch.lp (D0+1) (rec .ready none)::SL s0 h0)++(Sp++R))):=by
        have:(Sp++(Ch.dfs (D0::ds)::R)).Perm (Ch.dfs (D0::ds)::(Sp++R)):=List.perm_middle
        exact (this.append_left _).trans List.perm_middle
      refine p2.trans ?_
      simp
    · intro i hi
      rcases List.mem_append.1 hi with hi | hi
      · exact eQ hIL i hi
      · rcases List.mem_append.1 hi with hi | hi
        · exact eQ hJ i hi
        · exact hi
  have a6:=SS.pack a5
  have eC0:Ch.pk (Ch.lp (D0+1) (rec .ready none)::SL s0 h0) (IL s0 h0)=C s0 h0:=by rw [hCd]; simp only [hj0]; rfl
  rw [eC0] at a6
  have hct:=hcalls A W ((SS.st (S:=(C s0 h0::Sp)++(Ch.dfs (D0::ds)::R)) (by simpa using a6)).left (λi hi=>List.mem_append_left _ hi))
  have hev:=hf.ev hg
  refine ⟨D0+1,[mark D0],W,{ target:= .fn (.func f) caps,args:=bs ++ #[.func (.yield (D0+1)) #[] #[]] },W,f,bs ++ #[.func (.yield (D0+1)) #[] #[]]++caps,W,?_,?_,?_,?_,G.deep,?_⟩
  · rw [<- hW,hrec,<- hD0]; exact run_enterLoop_outer _ _ _ _ _
  · simp [resolve,Deferred.ofValue,hev]
    rfl
  · intro f' _; exact G.fn f'
  · simp [invoke,p8 hfnc h1 h2]
  · refine G.calls ?_
    have earr:(bs.toList++Value.func (.yield (D0+1)) #[] #[]::caps.toList).toArray=bs ++ #[.func (.yield (D0+1)) #[] #[]]++caps:=by apply Array.ext'; simp
    rw [earr] at hct
    refine hct.mono ?_
    rintro e W2 ⟨x,A',rfl,h3⟩
    have b1:SS K A' ((C s1 (hx x)::S' x)++(Ch.dfs (D0::ds)::R)) (I' x++(J++I)) W2:=SS.frame (S:=C s0 h0::Sp) (R:=Ch.dfs (D0::ds)::R) (I:=J++I) (by simpa using a6) h3
    obtain ⟨r1,hr1⟩: ∃ r1,rec (if (jp s1).isNone then LoopState.ready else .done) (jp s1)=r1:=⟨_,rfl⟩
    have hnb:r1.state ≠ .busy:=by rw [<- hr1,hrec]; cases jp s1 <;> simp
    have ep:r1.pending=jp s1:=by rw [<- hr1,hrec]
    have eC1:C s1 (hx x)=Ch.pk (Ch.lp (D0+1) r1::SL s1 (hx x)) (IL s1 (hx x)):=by rw [<- hr1,hCd]
    rw [eC1] at b1
    have b2:SS K A' ((Ch.lp (D0+1) r1::SL s1 (hx x))++(S' x++(Ch.dfs (D0::ds)::R))) (IL s1 (hx x)++(I' x++(J++I))) W2:=SS.unpack b1
    have hl:W2.heap[D0+1]?=some (.loop r1):=b2.st.ch _ (List.mem_cons_self ..)
    have hlt:D0+1 < W2.heap.size:=(Array.getElem?_eq_some_iff.1 hl).1
    have hend:=run_endLoop (P:=G.P) hl hnb
    obtain ⟨r2,hr2⟩: ∃ r2,({ r1 with state:= .exhausted }:Loop)=r2:=⟨_,rfl⟩
    rw [hr2] at hend
    refine ⟨_,_,hend,?_⟩
    have b3:=SS.put (o:= .loop r2) (D:=D0+1) (c':=Ch.lp (D0+1) r2) (c:=Ch.lp (D0+1) r1) (R:=SL s1 (hx x)++(S' x++(Ch.dfs (D0::ds)::R))) b2 rfl (λb hb=>hb) (World.putObj_heap_same hlt)
    have b4:=b3.tl
    have b5:=b4.perm (S':=Ch.dfs (D0::ds)::(SL s1 (hx x)++S' x++R)) (I':=IL s1 (hx x)++I' x++I) (by
      have:(SL s1 (hx x)++(S' x++(Ch.dfs (D0::ds)::R))).Perm (Ch.dfs (D0::ds)::(SL s1 (hx x)++S' x++R)):=by
        rw [<- List.append_assoc]
        exact List.perm_middle
      exact this.symm) (λi hi=>by simp only [List.mem_append] at hi ⊢; rcases hi with (hi | hi) | hi <;> simp [hi])
    have hE:=h x D0 A' ⟨a.tmps,[mark D0]++a.defers⟩ _ ⟨hf.size,by simp [hf.defers],hf.at_⟩ b5
    rw [ep]
    generalize jp s1=j at hE hj1 ⊢
    cases j with
    | none=>exact hE
    | some c =>
      cases c <;> first | (cases hj1; done) | skip
      · exact wpIn_exit hE
      · exact wpIn_ret hE
end
section
variable {σ η X θ τ : Type} {G : Pg} {n : Nd} {K : Key} {Q : Exit -> Act -> World -> Prop} {m : Env} {S : List Ch} {I : List Im} {body : Code}
theorem T.rf4 {Y:σ->X->Option (σ×Bool)} {g:Operand} {ps:Array Tmp} {assign:Code} {k:Nat} {ds:List Nat} {f:FuncId} {bs caps:Array Value} {val:τ->Value} {S':τ->List Ch} {I':τ->List Im} {R S0:List Ch} {J:List Im} {s0 s1:σ} {h0:η} {hx:τ->η} (av:X->θ->List Value) (af:X->θ->List Im) (jp:σ->Option Code)
    (Sp Sl:List Ch) (SL:σ->η->List Ch) (IL:σ->η->List Im) (di:Nat) (is jl js:List Nat)
    (hrd:G.rd=none) (hg:ev m g=some (.func (.func f) bs caps)) (hps: ∀ x t,(av x t).length=ps.size) (hpk:ps.toList.all (λd=>Nat.blt d k)=true)
    (hC: ∀ yl (C:σ->η->Ch),(∀ s h x t z,Y s x=some z->YT G yl (av x t) (C s h::Sl) (af x t) (λ_:η=> .bool z.2) (λh'=>C z.1 h'::Sl) (λ_=>[]))->CT G f (bs.toList ++ .func (.yield yl) #[] #[]::caps.toList) (C s0 h0::Sp) J val (λx=>C s1 (hx x)::S' x) I')
    (hjy: ∀ s x z,Y s x=some z->jp s=none) (hj0:jp s0=none)
    (hd:ext S [di]=some ([Ch.dfs ds],S0)) (hS:ext S0 is=some (SL s0 h0++Sp,R)) (hIL:pick I jl=some (IL s0 h0)) (hJ:pick I js=some J)
    (hround: ∀ yl K s h x t z,Y s x=some z->T (G.at yl) ⟨k,[]⟩ K (Exit.then (BG (G.at yl) ⟨k,[]⟩ (λs h=>SL s h++Sl) IL jp z body K) (λ_ _ _=>False)) assign (pm ps.toList (av x t) m) (SL s h++Sl) (af x t++IL s h))
    (hj1:jok (jp s1)=true)
    (h: ∀ x D,E ⟨k,D::ds⟩ K Q (jx (jp s1)) m (Ch.dfs (D::ds)::(SL s1 (hx x)++S' x++R)) (IL s1 (hx x)++I' x++I)) :
    T G ⟨k,ds⟩ K Q (.rangeFunc g ps assign body) m S I :=
  T.Od (ξ:=X×θ) (λs p=>Y s p.1) (λp=>av p.1 p.2) (λp=>af p.1 p.2) jp SL IL di is jl js hrd hg (λp=>hps p.1 p.2) hpk (λyl C hY=>hC yl C λs h x t z hz=>hY s h (x,t) z hz) (λs p z hz=>hjy s p.1 z hz) hj0 hd hS hIL hJ
    (λyl K s h p z hz=>hround yl K s h p.1 p.2 z hz) hj1 h
end
def Ch.imc {α:Type} (d:Ty α) (a0:Option Addr) (c:Nat) (xs:List α):Ch where
  blk:=λ_=>False
  ok:=(Im.sl d a0 c xs).ok
  st:=λhA hw _ h=>(Im.sl d a0 c xs).st hA hw h
def Ch.opt {α:Type} (b:Bool) (d:Ty α) (T:Nat) (a0:Option Addr) (c:Nat) (xs:List α):Ch:=bif b then Ch.arr d T a0 c xs else Ch.imc d a0 c xs
theorem Lu {b:Bool} {u:Unit} (h:chk (!b)=some u):b=false:=by cases b with
 | false=>rfl
 | true=>cases h
section
variable {G : Pg} {n : Nd} {K : Key} {Q : Exit -> Act -> World -> Prop} {m : Env} {S R : List Ch} {I : List Im} {α : Type} {ty : Ty α} {xs : List α} {a0 : Option Addr} {c T0 : Nat} {b b' : Bool}
theorem SS.Oe {A:fy} {w:World} (h:SS K A (Ch.imc ty a0 c xs::S) I w):SS K A S (Im.sl ty a0 c xs::I) w :=
  (h.tl).lk (J:=[_]) λf hf=>by rw [List.mem_singleton.1 hf]; exact h.st.ch (Ch.imc ty a0 c xs) (by simp)
theorem SS.Lv {A:fy} {w:World} (h:SS K A S I w) (hf:(Im.sl ty a0 c xs).ok A w):SS K A (Ch.imc ty a0 c xs::S) I w:=by
  refine h.wT ?_ ?_ (List.pairwise_cons.2 ⟨λd _ b hb=>hb.elim,h.st.dis⟩) h.st.im
  · intro d hd
    rcases List.mem_cons.1 hd with rfl | hd
    · exact hf
    · exact h.st.ch d hd
  · rintro b ⟨d,hd,hb⟩
    rcases List.mem_cons.1 hd with rfl | hd
    · exact hb.elim
    · exact ⟨d,hd,hb⟩
theorem SS.Of {A:fy} {w:World} (h:SS K A (Ch.opt b ty T0 a0 c xs::S) I w): ∃ A',SS K A' S (Im.sl ty a0 c xs::I) w:=by
  cases b with
  | true=>exact ⟨_,SS.frz h p9⟩
  | false=>exact ⟨A,SS.Oe h⟩
theorem SS.EO {A:fy} {w:World} (b:Bool) (h:SS K A (Ch.arr ty T0 a0 c xs::S) I w): ∃ A',SS K A' (Ch.opt b ty T0 a0 c xs::S) I w:=by
  cases b with
  | true=>exact ⟨A,h⟩
  | false =>
    have h2:=SS.frz h p9
    have h3:=h2.Lv (h2.st.im (Im.sl ty a0 c xs) (by simp))
    exact ⟨_,h3.perm (List.Perm.refl _) (λi hi=>by simp [hi])⟩
theorem SS.oset {A:fy} {w:World} (hb:b'=false) (h:SS K A (Ch.opt b ty T0 a0 c xs::S) I w): ∃ A',SS K A' (Ch.opt b' ty T0 a0 c xs::S) I w:=by
  subst hb
  obtain ⟨A',h2⟩:=h.Of
  have h3:=h2.Lv (h2.st.im (Im.sl ty a0 c xs) (by simp))
  exact ⟨_,h3.perm (List.Perm.refl _) (λi hi=>by simp [hi])⟩
theorem SS.oim {A:fy} {w:World} (hb:b'=false) (i:Nat) (hI:I[i]?=some (Im.sl ty a0 c xs)) (h:SS K A S I w):SS K A (Ch.opt b' ty T0 a0 c xs::S) I w:=by
  subst hb
  exact h.Lv (h.st.im _ (List.mem_of_getElem? hI))
theorem SS.IU {A:fy} {w:World} {u:Unit} (hk:chk b=some u) (h:SS K A (Ch.opt b ty T0 a0 c xs::S) I w):SS K A (Ch.arr ty T0 a0 c xs::S) I w:=by
  cases b with
  | true=>exact h
  | false=>cases hk
-- for code,for what is left of a region,for an exit
theorem L.IU {ops:Array Oper} {l:List Oper} {u:Unit} (p:Nat) (hk:chk b=some u) (hS:ext S [p]=some ([Ch.opt b ty T0 a0 c xs],R)) (h:L G n K ops Q l m (Ch.arr ty T0 a0 c xs::R) I):L G n K ops Q l m S I:=λA a w hf hs=>h A a w hf ((hs.perm (cV hS) λ_ h=>h).IU hk)
theorem E.EO {e:Exit} (p:Nat) (b:Bool) (hS:ext S [p]=some ([Ch.arr ty T0 a0 c xs],R)) (h:E n K Q e m (Ch.opt b ty T0 a0 c xs::R) I):E n K Q e m S I:=λA a w hf hs=>by
  obtain ⟨A',h2⟩:=SS.EO b (hs.perm (cV hS) λ_ h=>h)
  exact h A' a w hf h2
theorem T.oset {c':Code} (p:Nat) (b':Bool) (hb:b'=false) (hS:ext S [p]=some ([Ch.opt b ty T0 a0 c xs],R)) (h:Tw.T G n K Q c' m (Ch.opt b' ty T0 a0 c xs::R) I):Tw.T G n K Q c' m S I:=λA a w hf hs=>by
  obtain ⟨A',h2⟩:=SS.oset hb (hs.perm (cV hS) λ_ h=>h)
  exact h A' a w hf h2
theorem L.oset {ops:Array Oper} {l:List Oper} (p:Nat) (b':Bool) (hb:b'=false) (hS:ext S [p]=some ([Ch.opt b ty T0 a0 c xs],R)) (h:L G n K ops Q l m (Ch.opt b' ty T0 a0 c xs::R) I):L G n K ops Q l m S I:=λA a w hf hs=>by
  obtain ⟨A',h2⟩:=SS.oset hb (hs.perm (cV hS) λ_ h=>h)
  exact h A' a w hf h2
theorem E.oset {e:Exit} (p:Nat) (b':Bool) (hb:b'=false) (hS:ext S [p]=some ([Ch.opt b ty T0 a0 c xs],R)) (h:E n K Q e m (Ch.opt b' ty T0 a0 c xs::R) I):E n K Q e m S I:=λA a w hf hs=>by
  obtain ⟨A',h2⟩:=SS.oset hb (hs.perm (cV hS) λ_ h=>h)
  exact h A' a w hf h2
theorem E.oim {e:Exit} (i T0:Nat) (b':Bool) (hb:b'=false) (hI:I[i]?=some (Im.sl ty a0 c xs)) (h:E n K Q e m (Ch.opt b' ty T0 a0 c xs::S) I):E n K Q e m S I:=λA a w hf hs=>h A a w hf (hs.oim hb i hI)
end
def tcs {α:Type} (ty:Ty α) (h0:ty.Hid) (xs:List α):List Value:=xs.flatMap λx=>ty.cs x h0
section
variable {G : Pg} {n : Nd} {m : Env} {S : List Ch} {I : List Im} {o : Oper} {α : Type} {ty : Ty α} {xs : List α}
theorem Dj {h0:ty.Hid} (hh: ∀ x h,ty.cs x h=ty.cs x h0) {A:fy} {w:World}: ∀ {xs:List α} {cs:List Value},Els ty A w xs cs->cs=tcs ty h0 xs
  | _,_,.nil=>rfl
  | _,_,.cons h hi hr=>by
    rw [Dj hh hr,hh]
    rfl
theorem zk (h0:ty.Hid): ∀ xs:List α,(tcs ty h0 xs).length=xs.length*ty.sz
  | []=>by simp [tcs]
  | x::xs=>by
    have:=zk h0 xs
    simp only [tcs,List.flatMap_cons,List.length_append,ty.len,List.length_cons,Nat.succ_mul] at *
    omega
theorem Gf (h0:ty.Hid): ∀ (xs:List α) (i:Nat) (r:α),xs[i]?=some r->((tcs ty h0 xs).drop (i*ty.sz)).take ty.sz=ty.cs r h0
  | [],i,r,h=>by simp at h
  | x::xs,0,r,h=>by
    simp only [List.getElem?_cons_zero,Option.some.injEq] at h
    subst h
    simp only [tcs,List.flatMap_cons,Nat.zero_mul,List.drop_zero]
    rw [<- ty.len x h0,List.take_left]
  | x::xs,i+1,r,h=>by
    have:=Gf h0 xs i r (by simpa using h)
    simp only [tcs,List.flatMap_cons] at *
    rw [show (i+1)*ty.sz=(ty.cs x h0).length+i*ty.sz from by rw [ty.len,Nat.succ_mul,Nat.add_comm],List.drop_append,List.drop_of_length_le (by omega),List.nil_append,Nat.add_sub_cancel_left]
    exact this
theorem Yl.ldt (q:Nat) {t b c:Nat} {x:Operand} {h0:ty.Hid} {ti:TI} (ho:o.op = .load t x) (hx:ev m x=some (.pointer (some ⟨b,0,none⟩))) (hI:I[q]?=some (Im.sl ty (some ⟨b,0,none⟩) c xs)) (hh: ∀ x h,ty.cs x h=ty.cs x h0) (ht:bU G.τ t=some ti) (ha:ti.agg=true) (hsz:ti.size=xs.length*ty.sz) (hne:Nat.blt 0 xs.length=true):Yl G n m S I o (.agg (tcs ty h0 xs).toArray):=λA ac w hf _ hI'=>by
  obtain ⟨_,h1⟩:=hI' _ (List.mem_of_getElem? hI)
  rcases h1 with rfl | ⟨b1,o1,cs,e,_,hels,hc⟩
  · cases hne
  injection e with e
  injection e with e1 e2
  subst e1 e2
  have he:=Dj hh hels
  subst he
  have hr:(loadVar t ⟨b,0,none⟩).run G.P w = .ok (.agg (tcs ty h0 xs).toArray) w:=lj (cs:=tcs ty h0 xs) G.ok (by
    unfold qA
    rw [ht]
    dsimp only
    rw [ha]
    dsimp only
    rw [Nat.zero_add,hsz,zk,Nat.ble_eq_true_of_le (Nat.le_refl _)]
    dsimp only
    rw [List.drop_zero,<- zk h0 xs,List.take_length]) λj u hu=>hc j u (by simpa using hu)
  simp only [execOp,ho,hf.ev hx,Instr.loadAt,Instr.sureAddr,Sem.run_bind,Sem.run_pure,Result.andThen_ok,hr]
theorem Yl.xav {t e N:Nat} {x ix:Operand} {k2:IntKind} {i:Int} {r:α} {cs:Array Value} {ti te:TI} {h0:ty.Hid} (hi:idx xs i=some r) (ho:o.op = .index t x ix) (hx:ev m x=some (.agg cs)) (hcs:cs.toList=tcs ty h0 xs) (hix:ev m ix=some (.int k2 i)) (ht:bU G.τ t=some ti) (hk:ti.k = .array N e) (hN:xs.length=N) (he:bU G.τ e=some te) (hsz:(Nat.beq te.size ty.sz && te.agg)=true):Yl G n m S I o (.agg (ty.cs r h0).toArray):=λA ac w hf _ _=>by
  obtain ⟨d,f,z,hd,hfi,hkk,_⟩:=G.ok.info ht
  rw [hk] at hkk
  cases hkk
  simp only [Bool.and_eq_true] at hsz
  have hs1:=Nat.eq_of_beq_eq_true hsz.1
  obtain ⟨h00,h1⟩:=aY hi
  have h2:=(List.getElem?_eq_some_iff.1 h1).1
  have hp:(part e cs (i.toNat*te.size)).run G.P w = .ok (.agg (ty.cs r h0).toArray) w:=by
    refine tP G.ok ?_ w
    unfold EE
    rw [he]
    dsimp only
    rw [hsz.2,hs1,hcs]
    dsimp only
    rw [Gf h0 xs _ _ h1]
  have hr:(Instr.index t (.agg cs) (.int k2 i)).run G.P w = .ok (.agg (ty.cs r h0).toArray) w:=by
    simp only [Instr.index,asIntOf,Sem.run_bind,Sem.run_pure,Result.andThen_ok,run_underlying hd]
    rw [if_pos ⟨h00,by omega⟩]
    simp only [Sem.run_bind,run_sizeOf G.ok he,Result.andThen_ok,hp]
  simp only [execOp,ho,hf.ev hx,hf.ev hix,Sem.run_bind,hr,Result.andThen_ok,Sem.run_pure]
end
section
variable {G : Pg} {n : Nd} {m : Env} {o : Oper} {α : Type} {ty : Ty α} {xs ys : List α} {a0 a1 : Option Addr} {c c1 : Nat}
end
theorem Ac.ofY {G:Pg} {n:Nd} {m:Env} {o:Oper} {Sp:List Ch} {v:Value} (h:Yl G n m Sp [] o v):Ac G n m o Sp [] (λ_:Unit=>v) (λ_=>Sp) (λ_=>[]):=by
  refine Ac.run (v:=λ_:Unit=>some v) λA a w hf hs=> ?_
  exact ⟨(),w,A,h A a w hf hs.ch (λf hf=>by cases hf),SS.start ⟨hs.lt,hs.ch,hs.own,hs.dis,λf hf=>by cases hf⟩⟩
theorem L.rv {G:Pg} {n:Nd} {K:Key} {Q:Exit->Act->World->Prop} {m:Env} {S:List Ch} {I:List Im} {ops:Array Oper} {l:List Oper} (d:Nat) (v:Value) (hd:look m d=some v) (h:L G n K ops Q l ((d,v)::m) S I):L G n K ops Q l m S I :=
  λA a w hf hs=>h A a w (hf.sub λi u hu=>by
    simp only [look] at hu
    cases hb:Nat.beq d i with
    | true =>
      rw [hb] at hu
      rw [<- Nat.eq_of_beq_eq_true hb,hd]
      exact hu
    | false =>
      rw [hb] at hu
      exact hu) hs
theorem Li {G:Pg} {n:Nd} {K:Key} {Q:Exit->Act->World->Prop} {m:Env} {S:List Ch} {I:List Im} {ops:Array Oper} {l:List Oper} (h:L G n K ops Q l m S I):L G n K ops Q l m S I:=h
theorem Ejn {n:Nd} {K:Key} {Q:Exit->Act->World->Prop} {m:Env} {S:List Ch} {I:List Im} (h:E n K Q .normal m S I):E n K Q (jx none) m S I:=h
theorem Eje {n:Nd} {K:Key} {Q:Exit->Act->World->Prop} {m:Env} {S:List Ch} {I:List Im} {id:Nat} (h:E n K Q (.exit id) m S I):E n K Q (jx (some (.exit id))) m S I:=h
theorem Ebm {n:Nd} {K:Key} {Q:Exit->Act->World->Prop} {m:Env} {S:List Ch} {I:List Im} {id id':Nat} (h:E n K (Exit.inBlock id Q) (.exit id') m S I):E n K (Exit.inBlock id Q) (.exit id') m S I:=h
theorem Z0 {P Q:Prop} (h:Q) (f:Q->P:=by
  intro h
  repeat (first
    | ((with_reducible refine Li ?_); first | refine Lq 1 ?_ | (with_reducible refine Ln ?_) | refine Lb 0 ?_ | refine Lb 1 ?_ | refine Lb 2 ?_ | refine Lb 3 ?_ | refine Lb 4 ?_ | refine Lb 5 ?_ | refine Lb 6 ?_ | refine Lb 7 ?_ | refine Lb 8 ?_ | refine Lb 9 ?_)
    | with_reducible refine Et ?_
    | with_reducible refine Tr ?_
    | with_reducible refine Tk ?_
    | with_reducible refine Tv ?_
    | with_reducible refine Tx ?_
    | with_reducible refine Ex ?_
    | with_reducible refine Er ?_
    | with_reducible refine Eb ?_
    | with_reducible refine Eh ?_
    | ((with_reducible refine Ebm ?_); refine E.FR rfl ?_)
    | with_reducible refine Ev ?_
    | with_reducible refine Ejn ?_
    | with_reducible refine Ejr ?_
    | with_reducible refine Eje ?_)
  exact h):P:=f h
theorem Z1 {P Q:Prop} (h:Q) (f:Q->P:=by intro h; refine Z0 ?_; refine Ts ?_; refine Z0 ?_; exact h):P:=f h
theorem Z2 {P Q:Prop} (h:Q) (f:Q->P:=by intro h; refine Z1 ?_; refine Ts ?_; refine Z0 ?_; exact h):P:=f h
theorem Z3 {P Q:Prop} (h:Q) (f:Q->P:=by intro h; refine Z2 ?_; refine Ts ?_; refine Z0 ?_; exact h):P:=f h
theorem Y1 {P Q:Prop} (h:Q) (f:Q->P:=by intro h; refine Z0 ?_; refine Ts ?_; exact h):P:=f h
theorem Y2 {P Q:Prop} (h:Q) (f:Q->P:=by intro h; refine Z1 ?_; refine Ts ?_; exact h):P:=f h
theorem Y3 {P Q:Prop} (h:Q) (f:Q->P:=by intro h; refine Z2 ?_; refine Ts ?_; exact h):P:=f h
theorem Zl {P Q:Prop} (h:Q) (f:Q->P:=by intro h; refine Z0 ?_; refine Tl ?_; refine Z0 ?_; exact h):P:=f h
theorem Yl0 {P Q:Prop} (h:Q) (f:Q->P:=by intro h; refine Z0 ?_; refine Tl ?_; exact h):P:=f h
theorem Cf {G : Pg} {f : FuncId} {fn : Func} {c : Code} {args : List Value} {S : List Ch} {I : List Im} {σ : Type} {val : σ -> Value} {S' : σ -> List Ch} {I' : σ -> List Im} (hf : G.P.funcs[f]? = some fn) (h : ∀ K, T G ⟨fn.ntmps, []⟩ K (qW G fn K val S' I') c (en 0 args) S I) (h1 : (fn.name == "runtime.NumGoroutine") = false := by kernel_rfl) (hb : fn.body = some c := by exact rfl) (hn : Nat.ble args.length fn.ntmps = true := by exact rfl)
    (hrd:G.rd=none:=by exact rfl):CT G f args S I val S' I':=CT.of hf h1 hb hn hrd h
section
variable {G : Pg} {n : Nd} {K : Key} {Q : Exit -> Act -> World -> Prop} {ops : List Oper} {late : List Nat} {l : List Nat} {C : List Ch} {m : Env} {V : List Ch} {I : List Im} {o : Oper}
theorem DFp.a0 {j:Nat} (is js:List Nat) {d:Option Nat} {Sp R:List Ch} {J:List Im} {σ:Type} {v:σ->Value} {S':σ->List Ch} {I':σ->List Im} (hA:Ac G n m o Sp J v S' I') (hi:ops[j]?=some o) (hw:wg ops m o=some true) (hd:o.dst=d) (hn:dok d n.n=true) (hS:ext V is=some (Sp,R)) (hJ:pick I js=some J)
    (h: ∀ x,DF G n K Q ops late [] (j::l) C (nO d (v x) m) (S' x++R) (I' x++I)):DFp G n K Q ops late j [] l C m V I:=by
  intro hF A a w fuel L h1 h2 hfu hjL hdep hf R0 hs hx
  obtain rfl:R0=[]:=hx
  rw [List.append_nil] at hs
  have hi':ops.toArray[j]?=some o:=by simpa using hi
  have hjlt:j < ops.length:=(List.getElem?_eq_some_iff.1 hi).1
  unfold wpOp
  simp only [hi']
  rw [if_pos (lT hw hf)]
  left
  have hp:(Sp++(C++R)).Perm (C++V):=by
    have h1:(Sp++R).Perm V:=cV hS
    exact (rR Sp C R).trans (List.Perm.append_left C h1)
  have hs':=hs.perm hp (λi hi=>hi)
  refine (hA A a w _ (NP Q) hf (hs'.st.left (eQ hJ)) λx w' A' h2'=> ?_).1
  have h3:=hs'.frame h2'
  have h4:=h3.perm (rR C (S' x) R) (λi hi=>hi)
  refine ⟨WS C (I' x++I),.inr λw ⟨A,h1,h2⟩=>⟨A,h1,λf hf=>h2 f (List.mem_append_right _ hf)⟩,h4.ws,?_⟩
  rw [nW,hd]
  refine h x (λf hf=>by cases hf) A' _ w' fuel (j::L) (λi hi=> ?_) (λi hi=> ?_) ?_ (hf.vW hn _) [] (by rw [List.append_nil]; exact h4) rfl
  · rcases List.mem_cons.1 hi with rfl | hi
    · exact List.mem_cons_self ..
    · exact List.mem_cons_of_mem _ (h1 i hi)
  · rcases List.mem_cons.1 hi with rfl | hi
    · exact .inl (List.mem_cons_self ..)
    · exact (h2 i hi).imp (List.mem_cons_of_mem _) id
  · have:=qY hjlt hjL
    omega
end
end Go.Tw
namespace Go
section
variable {P : Program} {b : Frame} {a : Act} {k : List Item} {cs : List Frame} {w : World}
theorem mr {c:Code}:step P (lone (b.atR a (.code (.scope c)::k)) cs w) = .next (lone (b.atR a (.code c :: .inScope c::k)) cs w) :=
  step_lone_go (by simp [stepG,stepG.exec,Frame.atR])
theorem ye {c:Code}:step P (lone (b.atR a (.inScope c::k)) cs w) = .next (lone (b.atR a k) cs w) :=
  step_lone_go (by simp [stepG,stepG.exec,Frame.atR])
theorem BR {F:Fence} {n:Nat} {Q:Exit->Act->World->Prop} {c:Code} (h:c.wpIn F n P (Exit.noGoto Q) a w):(Code.scope c).wpIn F n P Q a w:=by
  intro b k cs hro hb hr
  have h0:(lone (b.atR a (.code (.scope c)::k)) cs w).fenced P F:=fenced_calm hb hr rfl
  obtain ⟨e,a₁,w₁,hq,harr⟩:=h b (.inScope c::k) cs hro hb hr
  cases e with
  | normal=>exact ⟨.normal,a₁,w₁,hq,.head h0 mr (StepsIn.trans harr (.one (fenced_calm hb hr rfl) ye))⟩
  | exit id =>
    have hx:exitTo id (.inScope c::k)=exitTo id k:=by simp [exitTo]
    exact ⟨.exit id,a₁,w₁,hq,λk' hk=> .head h0 mr (harr.1 k' (by rw [hx]; exact hk)),
      λhr' hk=>let ⟨k₁,h1,h2⟩:=harr.2 hr' (by rw [hx]; exact hk); ⟨k₁,h1,.head h0 mr h2⟩⟩
  | goto l=>exact hq.elim
  | ret=>exact ⟨_,a₁,w₁,hq,.of_steps (.one h0 mr) harr⟩
  | panic ch=>exact ⟨_,a₁,w₁,hq,.of_steps (.one h0 mr) harr⟩
  | outgrown=>exact ⟨_,a₁,w₁,hq,.of_steps (.one h0 mr) harr⟩
end
end Go
namespace Go.Tw
open Go
section
variable {G : Pg} {n : Nd} {K : Key} {Q : Exit -> Act -> World -> Prop} {m : Env} {S : List Ch} {I : List Im}
theorem T.scope {c:Code} (h:Tw.T G n K (Exit.noGoto Q) c m S I):Tw.T G n K Q (.scope c) m S I:=λA a w hf hs=>BR (h A a w hf hs)
theorem T.label {l:Nat} (h:E n K Q .normal m S I):Tw.T G n K Q (.label l) m S I:=λA a w hf hs=>wpIn_label (h A a w hf hs)
theorem E.scn (h:E n K Q .normal m S I):E n K (Exit.noGoto Q) .normal m S I:=h
end
end Go.Tw
namespace Go.Tw
open Go Go.Deep
def Im.okW (w:World) (f:Im):Prop:=f.ok (λb=>b < w.heap.size) w
def Opn {α:Type} (P:Program) (t:TypeId) (ty:Ty α) (wf:α->Prop):Prop :=
  ∀ {H:Type} (enc:TypeId×Value->H) (w:World) (sp:Nat->Bool) (hd:Bool) (fuel:Nat) (cs:List Value) (x:DataW H×List MemPlace),DataW.trod enc P w 0 sp hd fuel t cs=some x -> ∃ y h,cs=ty.cs y h/\wf y /\ ∀ f∈ty.im y h,f.okW w
variable {P : Program} {α β : Type}
theorem Opn.int {t:TypeId} {k:IntKind} (ht:P.underlying t=some (.int k)):Opn P t (Ty.int k) (inK k):=by
  intro H enc w sp hd fuel cs x h
  obtain ⟨n,rfl,_,hw⟩:=DataW.trod_int ht h
  simp only [Lit.wf,Bool.and_eq_true,decide_eq_true_eq] at hw
  exact ⟨n,(),rfl,hw,λf hf=>by cases hf⟩
theorem Opn.str {t:TypeId} (ht:P.underlying t=some .string):Opn P t Ty.str (λs=>s.size<=maxLen):=by
  intro H enc w sp hd fuel cs x h
  obtain ⟨s,rfl,_,hs⟩:=DataW.trod_string ht h
  exact ⟨s,(),rfl,hs,λf hf=>by cases hf⟩
theorem Gg {ty:Ty α} {wf:α->Prop} {A:fy} {w:World} {a:Addr}: ∀ n:Nat,(∀ i,i < n -> ∃ y h,(∀ j u,(ty.cs y h)[j]?=some u->w.cell? (a.add (i*ty.sz+j))=some u)/\wf y /\ ∀ f∈ty.im y h,f.ok A w) ->
    ∃ xs cs,xs.length=n/\Els ty A w xs cs/\(∀ j u,cs[j]?=some u->w.cell? (a.add j)=some u) /\ ∀ x∈xs,wf x
  | 0,_=>⟨[],[],rfl,.nil,by simp,by simp⟩
  | n+1,h=>by
    obtain ⟨xs,cs,hl,he,hc,hw⟩:=Gg n λi hi=>h i (Nat.lt_succ_of_lt hi)
    obtain ⟨y,hd,h1,h2,h3⟩:=h n (Nat.lt_succ_self n)
    refine ⟨xs++[y],cs++(ty.cs y hd++[]),by simp [hl],he.app (.cons hd h3 .nil),?_,?_⟩
    · intro j u hu
      rw [List.append_nil] at hu
      have hlen:=he.len
      rw [hl] at hlen
      by_cases hj:j < cs.length
      · rw [List.getElem?_append_left hj] at hu
        exact hc j u hu
      · rw [List.getElem?_append_right (by omega)] at hu
        have:=h1 (j - cs.length) u hu
        rw [hlen] at this hj
        rwa [show n*ty.sz+(j - n*ty.sz)=j by omega] at this
    · intro x hx
      rcases List.mem_append.1 hx with hx | hx
      · exact hw x hx
      · rw [List.mem_singleton.1 hx]; exact h2
theorem Opn.slice {t e:TypeId} {ty:Ty α} {wf:α->Prop} (ht:P.underlying t=some (.slice e)) (he:Opn P e ty wf) (hsz:P.cellsOf e=ty.sz) (hpos:0 < ty.sz):Opn P t (Ty.slice ty) (λxs=> ∀ x∈xs,wf x):=by
  intro H enc w sp hd fuel cs x h
  rcases open_slice ht h with ⟨rfl,_⟩ | ⟨a,len,cap,m,n,D,Pl,rfl,hb,hl,hm,hmm,_,hx⟩
  · exact ⟨[],(none,0),rfl,by simp,λf hf=>by rw [List.mem_singleton.1 hf]; exact Im.k9 _ _⟩
  · have hlm:len<=m:=by rw [hmm]; split <;> omega
    obtain ⟨xs,cs,h1,h2,h3,h4⟩:=Gg (ty:=ty) (wf:=wf) (A:=λb=>b < w.heap.size) (w:=w) (a:=a) len λi hi=>by
      obtain ⟨cs',h5,h6⟩:=hx i (Nat.lt_of_lt_of_le hi hlm)
      obtain ⟨y,hh,rfl,hw,hf⟩:=he enc w sp hd n cs' _ h6
      refine ⟨y,hh,λj u hu=> ?_,hw,hf⟩
      obtain ⟨_,hlen,hc⟩:=World.cells?_some h5
      have hj:j < P.cellsOf e:=by rw [<- hlen]; exact (List.getElem?_eq_some_iff.1 hu).1
      rw [<- hsz,<- add_add,hc j hj]
      exact hu
    refine ⟨xs,(some a,cap),by rw [<- h1]; rfl,h4,λf hf=> ?_⟩
    rw [List.mem_singleton.1 hf]
    refine ⟨by rw [h1]; exact hl,?_⟩
    cases hxs:xs with
    | nil=>exact .inl rfl
    | cons x0 xr =>
      right
      have hcl:=h2.len
      have hpos2:0 < cs.length:=by
        rw [hcl,hxs,List.length_cons]
        exact Nat.mul_pos (Nat.succ_pos _) hpos
      have hc0:=h3 0 cs[0] (by simp [hpos2])
      have ha0:a.add 0=a:=by simp [Addr.add]
      rw [ha0] at hc0
      have hsp:a.spot=none/\a.block < w.heap.size:=by
        unfold World.cell? at hc0
        split at hc0
        · rename_i hh
          have hlt:=(Array.getElem?_eq_some_iff.1 hh).1
          split at hc0
          · cases hc0
          · rename_i hs
            refine ⟨?_,hlt⟩
            cases hsp:a.spot with
            | none=>rfl
            | some _=>rw [hsp] at hs; simp at hs
        · cases hc0
      obtain ⟨b,o,s⟩:=a
      obtain ⟨rfl,hlt⟩:=hsp
      refine ⟨b,o,cs,rfl,hlt,by rw [<- hxs]; exact h2,λj u hu=> ?_⟩
      have:=h3 j u hu
      rwa [add_lit] at this
inductive EP (P:Program):Nat->List (Nat×Nat)->{α:Type}->Ty α->(α->Prop)->Prop where
  | nil {o}:EP P o [] (⟨0,Unit,λ_ _=>[],λ_ _=>[],λ_ _=>rfl,by simp⟩:Ty Unit) (λ_=>True)
  | cons {α β:Type} {o t r} {ta:Ty α} {tb:Ty β} {wa:α->Prop} {wb:β->Prop} (ha:Opn P t ta wa) (hsz:P.cellsOf t=ta.sz) (hr:EP P (o+ta.sz) r tb wb):EP P o ((t,o)::r) (Ty.pair ta tb) (λy=>wa y.1/\wb y.2)
theorem EP.open {H:Type} {enc:TypeId×Value->H} {w:World} {sp:Nat->Bool} {hd:Bool} {n:Nat} {cs:List Value} {o:Nat} {fs:List (Nat×Nat)} {ty:Ty α} {wf:α->Prop} (h:EP P o fs ty wf) (hc:cs.length=o+ty.sz) (hx: ∀ f∈fs,∃ x,DataW.trod enc P w 0 sp hd n f.1 ((cs.drop f.2).take (P.cellsOf f.1))=some x): ∃ y h,cs.drop o=ty.cs y h/\wf y /\ ∀ f∈ty.im y h,f.okW w:=by
  induction h with
  | nil=>exact ⟨(),(),List.drop_of_length_le (Nat.le_of_eq hc),trivial,λf hf=>by cases hf⟩
  | @cons α β o t r ta tb wa wb ha hsz hr ih =>
    obtain ⟨x,hx0⟩:=hx (t,o) (by simp)
    obtain ⟨y,hy,e,hw,hf⟩:=ha enc w sp hd n _ x hx0
    have hc':cs.length=o+ta.sz+tb.sz:=by rw [hc]; show o+(ta.sz+tb.sz)=_; omega
    obtain ⟨z,hz,e2,hw2,hf2⟩:=ih hc' λf hf=>hx f (by simp [hf])
    refine ⟨(y,z),(hy,hz),?_,⟨hw,hw2⟩,λf hf'=> ?_⟩
    · show _=ta.cs y hy++tb.cs z hz
      rw [<- e,<- e2,hsz,<- List.drop_drop]
      exact (List.take_append_drop _ _).symm
    · rcases List.mem_append.1 hf' with h | h
      · exact hf f h
      · exact hf2 f h
def wq (P:Program) (t:TypeId) (fs:List (Nat×Nat)):Bool:=match P.underlying t with
  | some (.struct a)=>fsb fs a.toList
  | _=>false
theorem xa {t:TypeId} {fs:List (Nat×Nat)} (h:wq P t fs=true): ∃ fa,P.underlying t=some (.struct fa)/\fsb fs fa.toList=true:=by
  unfold wq at h
  split at h
  · rename_i a ha; exact ⟨a,ha,h⟩
  · cases h
theorem Opn.struct {t:TypeId} {fs:List (Nat×Nat)} {ty:Ty α} {wf:α->Prop} (hst:wq P t fs=true) (hsz:P.cellsOf t=ty.sz) (h:EP P 0 fs ty wf):Opn P t ty wf:=by
  obtain ⟨fa,ht,hfs⟩:=xa hst
  intro H enc w sp hd fuel cs x hx
  obtain ⟨xs,n,rfl,_,hlen,hxl,hfx⟩:=DataW.trod_struct ht hx
  have he:=BJ hfs
  obtain ⟨y,hh,e,hw,hf⟩:=h.open (enc:=enc) (w:=w) (sp:=sp) (hd:=hd) (n:=n) (cs:=cs) (by rw [hlen,hsz,Nat.zero_add]) λf hf=>by
    rw [<- he] at hf
    obtain ⟨f0,hf0,rfl⟩:=List.mem_map.1 hf
    obtain ⟨i,hi⟩:=List.getElem?_of_mem hf0
    have hi':fa[i]?=some f0:=by simpa using hi
    have h1:=hfx i f0 hi'
    have hlt:i < xs.length:=by rw [hxl]; exact (Array.getElem?_eq_some_iff.1 hi').1
    exact ⟨xs[i],by rw [h1]; simp [hlt]⟩
  exact ⟨y,hh,e,hw,hf⟩
theorem Opn.to {t:TypeId} {ty:Ty α} {ty':Ty β} {wf:α->Prop} {wf':β->Prop} (g:α->β) (gh:ty.Hid->ty'.Hid) (h:Opn P t ty wf) (h1: ∀ y hh,ty'.cs (g y) (gh hh)=ty.cs y hh) (h2: ∀ y hh,ty'.im (g y) (gh hh)=ty.im y hh) (h3: ∀ y,wf y->wf' (g y)):Opn P t ty' wf':=by
  intro H enc w sp hd fuel cs x hx
  obtain ⟨y,hh,e,hw,hf⟩:=h enc w sp hd fuel cs x hx
  exact ⟨g y,gh hh,by rw [h1]; exact e,h3 y hw,by rw [h2]; exact hf⟩
def vI {H:Type}:Nat->DataW H->List Value
  | _,.lit (.int k n)=>[.int k n]
  | _,.lit (.bool b)=>[.bool b]
  | d+1,.agg l=>l.flatMap (vI d)
  | _,_=>[]
def Dl (P:Program) (f:TypeId->Bool):Nat->List (Nat×Nat)->Nat->Bool
  | o,[],m=>Nat.beq o m
  | o,(t,o')::r,m=>Nat.beq o o' && f t && Dl P f (o+P.cellsOf t) r m
def tU (P:Program):Nat->TypeId->Bool
  | 0,_=>false
  | d+1,t=>match P.underlying t with
    | some (.int _)=>true
    | some .bool=>true
    | some (.struct fa)=>Dl P (tU P d) 0 (fa.toList.map λf=>(f.type,f.offset)) (P.cellsOf t)
    | some (.array n e)=>Nat.beq (P.cellsOf t) (n*P.cellsOf e) && tU P d e
    | _=>false
theorem wu {γ:Type} {sz:Nat} {f:Nat->List γ}: ∀ {n:Nat} {cs:List γ},cs.length=n*sz->(∀ i,i < n->(cs.drop (i*sz)).take sz=f i)->cs=(List.range n).flatMap f
  | 0,cs,hl,_=>by
    have:cs=[]:=List.eq_nil_of_length_eq_zero (by simpa using hl)
    simp [this]
  | n+1,cs,hl,h=>by
    have h1:=wu (sz:=sz) (n:=n) (cs:=cs.take (n*sz)) (f:=f) (by rw [List.length_take,hl,Nat.succ_mul]; omega) λi hi=>by
      rw [<- h i (Nat.lt_succ_of_lt hi)]
      have hle:(i+1)*sz<=n*sz:=Nat.mul_le_mul_right sz hi
      rw [Nat.succ_mul] at hle
      rw [List.drop_take,List.take_take]
      congr 1
      omega
    have h2:=h n (Nat.lt_succ_self n)
    rw [List.range_succ,List.flatMap_append,<- h1]
    have h3:(cs.drop (n*sz)).take sz=cs.drop (n*sz):=List.take_of_length_le (by rw [List.length_drop,hl,Nat.succ_mul]; omega)
    rw [h3] at h2
    simp only [List.flatMap_cons,List.flatMap_nil,List.append_nil,<- h2]
    exact (List.take_append_drop _ _).symm
theorem vJ {H:Type} {enc:TypeId×Value->H} {w:World} {sp:Nat->Bool} {hd:Bool} {f:TypeId->Bool} {g:DataW H->List Value} (hf: ∀ t,f t=true -> ∀ {fuel:Nat} {cs:List Value} {x:DataW H×List MemPlace},DataW.trod enc P w 0 sp hd fuel t cs=some x->cs=g x.1): ∀ {fs:List (Nat×Nat)} {o m:Nat},Dl P f o fs m=true -> ∀ {n:Nat} {cs:List Value} {xs:List (DataW H×List MemPlace)},cs.length=m->(∀ (i:Nat) (f:Nat×Nat),fs[i]?=some f->DataW.trod enc P w 0 sp hd n f.1 ((cs.drop f.2).take (P.cellsOf f.1))=xs[i]?)->xs.length=fs.length->cs.drop o=xs.flatMap λx=>g x.1
  | [],o,m,hb,n,cs,xs,hl,_,hx=>by
    have:xs=[]:=List.eq_nil_of_length_eq_zero hx
    subst this
    have:=Nat.eq_of_beq_eq_true hb
    exact List.drop_of_length_le (by omega)
  | (t,o')::r,o,m,hb,n,cs,xs,hl,h,hx=>by
    simp only [Dl,Bool.and_eq_true] at hb
    obtain rfl:=Nat.eq_of_beq_eq_true hb.1.1
    cases xs with
    | nil=>simp at hx
    | cons x xs =>
      have h0:=h 0 (t,o) rfl
      have e0:=hf t hb.1.2 h0
      have e1:=vJ hf hb.2 (n:=n) (cs:=cs) (xs:=xs) hl (λi f hi=>h (i+1) f hi) (by simpa using hx)
      rw [List.flatMap_cons,<- e0,<- e1,<- List.drop_drop]
      exact (List.take_append_drop _ _).symm
theorem tq {H:Type} {enc:TypeId×Value->H} {w:World} {sp:Nat->Bool} {hd:Bool}: ∀ {d:Nat} {t:TypeId},tU P d t=true -> ∀ {fuel:Nat} {cs:List Value} {x:DataW H×List MemPlace},DataW.trod enc P w 0 sp hd fuel t cs=some x->cs=vI d x.1
  | 0,t,hb,fuel,cs,x,h=>by cases hb
  | d+1,t,hb,fuel,cs,x,h=>by
    unfold tU at hb
    split at hb
    · rename_i ht
      obtain ⟨n,rfl,rfl,_⟩:=DataW.trod_int ht h
      rfl
    · rename_i ht
      obtain ⟨b,rfl,rfl⟩:=DataW.trod_bool ht h
      rfl
    · rename_i fa ht
      obtain ⟨xs,n,rfl,rfl,hlen,hxl,hfx⟩:=DataW.trod_struct ht h
      have key:=vJ (g:=vI d) (λt ht=>tq ht) hb (enc:=enc) (w:=w) (sp:=sp) (hd:=hd) (n:=n) (cs:=cs) (xs:=xs) hlen (λi f hi=>by
        rw [List.getElem?_map] at hi
        cases hfa:fa[i]? with
        | none=>simp [hfa] at hi
        | some f0 =>
          simp [hfa] at hi
          subst hi
          exact hfx i f0 hfa) (by rw [hxl,List.length_map,Array.length_toList])
      show cs=(xs.map (·.1)).flatMap (vI d)
      rw [List.flatMap_map]
      simpa using key
    · rename_i m e ht
      simp only [Bool.and_eq_true] at hb
      have hc:=Nat.eq_of_beq_eq_true hb.1
      obtain ⟨xs,n,rfl,rfl,hlen,hxl,hfx⟩:=DataW.trod_array ht h
      show cs=(xs.map (·.1)).flatMap (vI d)
      rw [List.flatMap_map]
      have h1: ∀ i,i < m->(cs.drop (i*P.cellsOf e)).take (P.cellsOf e)=((xs[i]?).map λx=>vI d x.1).getD []:=λi hi=>by
        have h2:=hfx i hi
        have hlt:i < xs.length:=by rw [hxl]; exact hi
        rw [List.getElem?_eq_getElem hlt] at h2 ⊢
        exact tq hb.2 h2
      rw [wu (by rw [hlen,hc]) h1]
      clear h1 hfx
      subst hxl
      rw [flatMap_by_index xs (.nil,[]) λx=>vI d x.1]
      exact flatMap_congr_range λi hi=>by simp [List.getD,hi]
    · cases hb
theorem rS {w:World} {name:String} {d:DataW Unit} {laid:List (String×DataW Unit)} {ps:List MemPlace} {g:Nat} {t:TypeId} (h:DataW.LaidVars P w laid ps) (hm:(name,d)∈laid) (hg:P.globalNamed name=some g) (hty:(P.globals[g]?).map (·.type)=some t) {dp:Nat} (hf:tU P dp t=true): ∀ i,w.cell? ⟨g,i,none⟩=(vI dp d)[i]?:=by
  induction laid generalizing ps with
  | nil=>cases hm
  | cons y laid ih =>
    obtain ⟨n,d'⟩:=y
    obtain ⟨g',t',cs,fuel,p,q,hg',ht',hvar,hd,hr,_⟩:=h
    rcases List.mem_cons.1 hm with e | hm
    · injection e with e1 e2
      subst e1 e2
      obtain rfl:=Option.some.inj (hg.symm.trans hg')
      obtain rfl:=Option.some.inj (hty.symm.trans ht')
      have:=tq hf hd
      intro i
      rw [World.var?_cell hg hvar i,<- this]
      simp
    · exact ih hr hm
theorem zl {ty:Ty α} {w:World} {g n:Nat} {cs:List Value} {xs:List α} (h0:ty.Hid) (hfree: ∀ x,ty.im x h0=[]) (hc: ∀ i,w.cell? ⟨g,i,none⟩=cs[i]?) (he:cs=xs.flatMap λx=>ty.cs x h0) (hn:xs.length<=n) (hlt:g < w.heap.size):(Im.sl ty (some ⟨g,0,none⟩) n xs).okW w:=by
  refine ⟨hn,.inr ⟨g,0,cs,rfl,hlt,?_,λj u hu=>by rw [Nat.zero_add,hc]; exact hu⟩⟩
  rw [he]
  clear he hc hn
  induction xs with
  | nil=>exact .nil
  | cons x xs ih=>exact .cons h0 (λf hf=>by rw [hfree] at hf; cases hf) ih
theorem zm {w:World} {g:Nat} {cs:List Value} (hc: ∀ i,w.cell? ⟨g,i,none⟩=cs[i]?) (hpos:0 < cs.length):g < w.heap.size:=by
  have h:=hc 0
  rw [List.getElem?_eq_getElem hpos] at h
  unfold World.cell? at h
  split at h
  · rename_i hh; exact (Array.getElem?_eq_some_iff.1 hh).1
  · cases h
theorem SS.below {w w':World} {A A':fy} {S':List Ch} {I':List Im} (h:SS ⟨w,A,Own []⟩ A' S' I' w'):RowKit.Below w.heap.size w w' :=
  ⟨h.fx.os,h.fx.tape,h.fx.output,h.fx.size,λk hk=>h.fx.tS k hk λ⟨c,hc,_⟩=>by cases hc⟩
theorem St.first {w:World} {I:List Im} (h: ∀ f∈I,f.okW w):St (λb=>b < w.heap.size) [] I w :=
  ⟨λ_ h=>h,(λ_ h=>by cases h),(λ_ h=>by cases h),List.Pairwise.nil,h⟩
end Go.Tw
namespace Go.Tw
open Go
theorem Og {a b:Option Addr} {n m c d:Nat} (e:(Value.slice a n c).cells.toList=[Value.slice b m d]):a=b/\n=m/\c=d:=by simpa [Value.cells] using e
theorem BS {P:Program} {w:World} {r:Reach} {base:Nat} {t:TypeId} {v:Value} {fs:List (Nat×Nat)} (hst:wq P t fs=true) (h:Value.okWide P w r base t v): ∃ cs,v = .agg cs:=by
  obtain ⟨fa,ht,_⟩:=xa hst
  obtain ⟨cs,h1,_⟩:=WideShapes.okWide_struct ht h
  exact ⟨cs,h1⟩
theorem MS {cs:Array Value} {l:List Value} (e:(Value.agg cs).cells.toList=l):cs=l.toArray:=by
  apply Array.ext'
  simpa [Value.cells] using e
theorem w64 {x:Int} (h1: -9223372036854775808<=x) (h2:x<=9223372036854775807):IntKind.i64.wrap x=x:=by rw [IntKind.wrap_i64]; omega
theorem fL {α:Type} (xs:List α) (n:Nat):idx xs (n:Int)=xs[n]?:=by simp [idx]
theorem Gh {α:Type} (xs:List α):idx xs 0=xs[0]?:=fL xs 0
theorem lG {α:Type} (l r:List α) (x:α):idx (l++x::r) (l.length:Int)=some x:=by rw [fL]; simp
theorem lU {p:Prop} [Decidable p] (h:p):chk (decide p)=some ():=by simp [chk,h]
theorem bP {n m b:Nat} (h:(n+m)*b<=140737488355328):chk (eY n m b)=some ():=lU h
theorem bQ {lo hi n:Int} (h0:0<=lo) (h1:lo<=hi) (h2:hi<=n):chk (cZ lo hi n)=some ():=lU ⟨h0,h1,h2⟩
theorem yB {k:Int} {b:Nat} (h0:0<=k) (h1:k*b<=140737488355328) (h2:k<=140737488355328):chk (IJ k b)=some ():=lU ⟨h0,h1,h2⟩
theorem ER {k:Int} {b:Nat} (h0:0 < k) (h1:k*b<=140737488355328) (h2:k<=140737488355328):chk (Lm k b)=some ():=lU ⟨h0,h1,h2⟩
theorem aA {α β:Type _} (x:α) (f:α->Option β):Option.bind (some x) f=f x:=rfl
def sR {α:Type} (d:α):List α->α
  | []=>d
  | [x]=>x
  | _::y::l=>sR d (y::l)
theorem xc {α:Type} (d x:α): ∀ l:List α,sR d (l++[x])=x
  | []=>rfl
  | [y]=>rfl
  | a::b::l=>by
    show sR d (b::(l++[x]))=x
    exact xc d x (b::l)
theorem Am {α:Type} (l r:List α) (d x:α) (h:0 < l.length):idx (l++x::r) ((l.length:Int) - 1)=some (sR d l):=by
  have e:((l.length:Int) - 1)=((l.length - 1:Nat):Int):=by omega
  rw [e,fL]
  have hl:l=l.take (l.length - 1)++[sR d l]:=by
    clear e
    induction l with
    | nil=>simp at h
    | cons a t ih =>
      cases t with
      | nil=>rfl
      | cons b t =>
        have:=ih (by simp)
        simp only [List.length_cons,Nat.add_sub_cancel] at this ⊢
        rw [List.take_succ_cons,List.cons_append]
        congr 1
  rw [List.getElem?_append_left (by omega)]
  have h2:(l.take (l.length - 1)).length=l.length - 1:=by rw [List.length_take]; omega
  conv=>lhs; rw [hl]
  rw [List.getElem?_append_right (by simp)]
  simp
theorem An {α:Type} (l r:List α) (x:α):idx (l++x::r) ((l.length:Int)+1)=r[0]?:=by
  have e:((l.length:Int)+1)=((l.length+1:Nat):Int):=by omega
  rw [e,fL,List.getElem?_append_right (by omega)]
  have:l.length+1 - l.length=1:=by omega
  rw [this]
  simp
end Go.Tw

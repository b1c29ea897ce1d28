import Derived.Test.YtjpeabeokdkkbaaGreatDoorFw1
import Derived.Lib.AppendStr
import Derived.MapKept
import Derived.Deep.Slices
import Derived.OpenShut
import Derived.Carry
import Derived.ChangeVars
import Derived.WideShapes
import Derived.Below
set_option linter.unusedVariables false
set_option linter.unusedSimpArgs false
namespace Go.Tw
open Go Go.Lib
def sbs (s:ByteArray):List Int:=s.data.toList.map fun b=>(b.toNat:Int)
theorem bL (s:ByteArray):(sbs s).length=s.size:=by
  unfold sbs
  rw [List.length_map,Array.length_toList]
  rfl
def Hb (P:Program) (T:Nat):Bool:=match P.info? T with
  | some i=>match i.zero with
    | some (.int .u8 n)=>decide (n=0)
    | _=>false
  | none=>false
theorem JD {P:Program} {T:Nat} (h:Hb P T=true) {i:TypeInfo} (hi:P.info? T=some i):i.zero=some (.int .u8 0):=by
  unfold Hb at h
  rw [hi] at h
  dsimp only at h
  split at h
  · rename_i n hz
    rw [hz,of_decide_eq_true h]
  · cases h
theorem Hc {P:Program} (w:World) (t u ty e:TypeId) (i:TypeInfo) (ht:P.underlying t=some (.slice e)) (hu:P.underlying u=some .string) (hi:P.info? e=some i) (hz:i.zero=some (.int .u8 0)) (hsize:i.size=1) (hby:i.bytes=1)
    (v:Value) (n:Nat) (xs:List Value) (hown:w.ownsRow 0 e 1 v n xs) (s:ByteArray) (h63:n+s.size≤maxLen) (hbytes:n+s.size≤140737488355328) :
    ∃ v' w',(Builtin.append_ #[t,u] ty #[v,.string s]).run P w = .ok v' w'∧w'.ownsRow 0 e 1 v' (n+s.size) (xs++strCells s)∧w.grownBy w' v.ownBlock∧(∀ b,v'.ownBlock=some b→(v.ownBlock=some b∨w.heap.size≤b)∧b < w'.heap.size):=by
  obtain ⟨v',w',hr,h2,h3,h4⟩:=run_append_own_string (P:=P) w 0 t u ty e i ht hu hi hz hsize hby v n xs hown s h63 hbytes (Nat.zero_le _)
  refine ⟨v',w',hr,h2,h3,fun b hb=>⟨?_,(h2.lt b hb).2⟩⟩
  simp only [maxLen] at h63
  rcases hown.2 with ⟨rfl,rfl⟩ | ⟨g,cap,cur,rfl,hbg,hg,hnc,hcm,hcs,htake⟩
  · by_cases hm:s.size=0
    · rw [h4.2 ⟨rfl,hm⟩] at hb
      cases hb
    · have hr2:=run_append_nil_string (P:=P) w t u ty e i (.int .u8 0) ht hu hi hz s (by omega) (by omega) (by rw [hby]; omega)
      rw [hr] at hr2
      injection hr2 with hv
      rw [hv] at hb
      injection hb with hb
      exact .inr (Nat.le_of_eq hb)
  · by_cases hroom:n+s.size≤cap
    · have hr2:=run_append_room_string (P:=P) w t u ty e i ht hu hi hsize g n cap cur hg s hroom (by simp only [Nat.mul_one] at hcs; omega)
      rw [hr] at hr2
      injection hr2 with hv
      rw [hv] at hb
      exact .inl hb
    · have hr2:=run_append_grow_string (P:=P) w t u ty e i (.int .u8 0) ht hu hi hz ⟨g,0,none⟩ n cap xs (by rw [hsize]; exact hown.1) (hown.cells (g:=g) rfl) s (by omega) (by omega) (by rw [hby]; exact growslice_fits (by omega) (by omega))
      rw [hr] at hr2
      injection hr2 with hv
      rw [hv] at hb
      injection hb with hb
      exact .inr (Nat.le_of_eq hb)
theorem Hd {A:eQ} {w:World} (s:ByteArray):Els (Ty.int .u8) A w (sbs s) (strCells s):=by
  unfold sbs strCells
  induction s.data.toList with
  | nil=>exact .nil
  | cons b l ih=>exact .cons (d:=Ty.int .u8) () (fun f hf=>by cases hf) ih
section
variable {G : Pg} {n : Nd} {m : Env} {o : Oper} {xs : List Int} {a0 : Option Addr} {c : Nat}
theorem Ac.aps {t t2 T:Nat} {x y:Operand} {ti te ti2:TI} {u:Unit} {s:ByteArray} (hlim:chk (eL xs.length s.size te.bytes)=some u) (ho:o.op = .call { callee:= .builtin .append,args:= #[x,y],argTypes:= #[t,t2] }) (hx:ev m x=some (.slice a0 xs.length c)) (hy:ev m y=some (.string s)) (ht:bP G.τ t=some ti) (hk:ti.k = .slice T) (he:bP G.τ T=some te) (hsz:(Nat.beq te.size 1 && Nat.beq te.bytes 1)=true) (ht2:bP G.τ t2=some ti2) (hk2:ti2.k = .string) (hz:Hb G.P T=true) :
    Ac G n m o [Ch.arr (Ty.int .u8) T a0 c xs] [] (fun z:Option Addr×Nat=> .slice z.1 (xs++sbs s).length z.2) (fun z=>[Ch.arr (Ty.int .u8) T z.1 z.2 (xs++sbs s)]) (fun _=>[]):=by
  have hlim:(xs.length+s.size)*te.bytes≤140737488355328:=dV hlim
  simp only [Bool.and_eq_true] at hsz
  have hs1:=Nat.eq_of_beq_eq_true hsz.1
  have hs2:=Nat.eq_of_beq_eq_true hsz.2
  rw [hs2,Nat.mul_one] at hlim
  refine Ac.run (v:=fun z:Option Addr×Nat=>some (.slice z.1 (xs++sbs s).length z.2)) fun A a w hf hs=> ?_
  obtain ⟨dd,f,z0,hdd,hfi,hkk,_⟩:=G.ok.info ht
  rw [hk] at hkk
  cases hkk
  obtain ⟨d2,f2,z2,hdd2,hfi2,hkk2,_⟩:=G.ok.info ht2
  rw [hk2] at hkk2
  cases hkk2
  obtain ⟨de,fe,ze,hde,hfe,_,hfs,hfb,hfz,hzc,_⟩:=G.ok.info he
  have hok:=hs.ch _ (List.mem_singleton.2 rfl)
  obtain ⟨cs,hown,hels⟩:=hok
  have h63:xs.length+s.size≤maxLen:=by
    simp only [maxLen]
    omega
  obtain ⟨v',w',hr,hown',hgr,hat⟩:=Hc (P:=G.P) w t t2 o.type T fe hdd hdd2 hfe (JD hz hfe) (hfs.trans hs1) (hfb.trans hs2) (.slice a0 xs.length c) xs.length cs hown s h63 hlim
  have hv': ∃ a2 c2,v' = .slice a2 (xs.length+s.size) c2:=by
    rcases hown'.2 with ⟨rfl,e⟩ | ⟨g,cap,cur,rfl,_⟩
    · exact ⟨none,0,by rw [e]⟩
    · exact ⟨_,_,rfl⟩
  obtain ⟨a2,c2,rfl⟩:=hv'
  have hblk:(Value.slice a0 xs.length c).ownBlock=a0.map (·.block):=by cases a0 <;> rfl
  have hblk2:(Value.slice a2 (xs.length+s.size) c2).ownBlock=a2.map (·.block):=by cases a2 <;> rfl
  have hA: ∀ b,A b→w'.heap[b]?=w.heap[b]?:=fun b hb=>hgr.block b (hs.lt b hb) (fun e=>(hs.own _ (List.mem_singleton.2 rfl) b (hblk.symm.trans e.symm)).2 hb)
  rw [hblk2,hblk] at hat
  have hl:(xs++sbs s).length=xs.length+s.size:=by rw [List.length_append,bL]
  rw [← hl] at hown'
  refine ⟨(a2,c2),w',A,?_,SS.grown hs (by rw [← hblk]; exact hgr) (fun b e=>e) hat ⟨_,hown',(hels.app (Hd s)).st (fun _ h=>h) hA⟩⟩
  simp only [execOp,ho,resolve,invoke,builtin,Sem.run_bind,Sem.run_pure,Result.andThen_ok,List.map_toArray,List.map_cons,List.map_nil,hf.ev hx,hf.ev hy,hr,nx,hl]
end
end Go.Tw
set_option linter.unusedVariables false
set_option linter.unusedSimpArgs false
namespace Go.Tw
open Go
theorem filter_lt {α:Type} {p q:α→Bool} (hpq: ∀ x,q x=true→p x=true): ∀ {l:List α} {x:α},x∈l→p x=true→q x=false→(l.filter q).length < (l.filter p).length
  | [],_,h,_,_=>by cases h
  | y::l,x,h,hp,hq=>by
    have hle: ∀ l:List α,(l.filter q).length≤(l.filter p).length:=by
      intro l
      induction l with
      | nil=>exact Nat.le_refl _
      | cons z l ih =>
        rw [List.filter_cons,List.filter_cons]
        split
        · rename_i hz
          rw [if_pos (hpq z hz)]
          simpa using ih
        · split
          · simp only [List.length_cons]
            omega
          · exact ih
    rw [List.filter_cons,List.filter_cons]
    rcases List.mem_cons.1 h with rfl | h
    · rw [if_pos hp,if_neg (by rw [hq]; simp)]
      have:=hle l
      simp only [List.length_cons]
      omega
    · have ih:=filter_lt hpq h hp hq
      split
      · rename_i hz
        rw [if_pos (hpq y hz)]
        simpa using ih
      · split
        · simp only [List.length_cons]
          omega
        · exact ih
def unl (n:Nat) (L:List Nat):Nat:=((List.range n).filter fun i=> !mem i L).length
theorem pX {n i:Nat} {L:List Nat} (h:i < n) (hi:mem i L=false):unl n (i::L)+1≤unl n L:=by
  unfold unl
  refine filter_lt (p:=fun j=> !mem j L) (q:=fun j=> !mem j (i::L)) ?_ (x:=i) (by simpa using h) (by simp [hi]) (by simp [mem])
  intro x hx
  simp only [mem,Bool.not_eq_true',Bool.or_eq_false_iff] at hx ⊢
  exact hx.2
theorem He {n i:Nat} {L:List Nat} (h:i < n) (hi:mem i L=false):0 < unl n L:=by
  have:=pX h hi
  omega
theorem ov {i:Nat} {l:List Nat}:mem i l=false ↔ ¬ i∈l:=by
  constructor
  · intro h h2
    rw [mem_iff.2 h2] at h
    cases h
  · intro h
    cases hb:mem i l with
    | false=>rfl
    | true=>exact absurd (mem_iff.1 hb) h
structure FO where
  i:Nat
  d:Nat
  σ:Type
  v:σ→Value
  S:σ→List Ch
  J:σ→List Im
def fwd (ops:List Oper):Nat→List Oper→Bool
  | _,[]=>true
  | k,o::r=>o.after.toList.all (fun e=> !lW e || Nat.blt e.on k) && fwd ops (k+1) r
theorem y7 {ops:List Oper}: ∀ {r:List Oper} {k:Nat},fwd ops k r=true → ∀ j oj,r[j]?=some oj → ∀ e∈oj.after,lW e=true→e.on < k+j
  | [],_,_,j,oj,h=>by simp at h
  | o::r,k,h,j,oj,hj=>by
    simp only [fwd,Bool.and_eq_true] at h
    cases j with
    | zero =>
      simp at hj
      subst hj
      intro e he hb
      have:=List.all_eq_true.1 h.1 e (by simpa using he)
      rw [hb] at this
      have:=gT (by simpa using this)
      omega
    | succ j =>
      have:=y7 h.2 j oj (by simpa using hj)
      intro e he hb
      have:=this e he hb
      omega
def rq (i:Nat):List FO→Bool
  | []=>false
  | f::F=>Nat.beq i f.i || rq i F
theorem l9 {i:Nat}: ∀ {F:List FO},rq i F=true ↔ ∃ f∈F,f.i=i
  | []=>by simp [rq]
  | f::F=>by
    simp only [rq,Bool.or_eq_true,l9 (F:=F),List.mem_cons]
    constructor
    · rintro (h | ⟨g,hg,h⟩)
      · exact ⟨f,.inl rfl,(Nat.eq_of_beq_eq_true h).symm⟩
      · exact ⟨g,.inr hg,h⟩
    · rintro ⟨g,rfl | hg,h⟩
      · left
        rw [h]
        exact Nat.beq_refl _
      · exact .inr ⟨g,hg,h⟩
def vO (F:List FO) (l:List Nat):Nat→List Oper→List Nat
  | _,[]=>[]
  | i,o::r=>match !mem i l && !rq i F && o.after.toList.all (fun e=> !lW e || mem e.on l || rq e.on F) with
    | true=>i::vO F l (i+1) r
    | false=>vO F l (i+1) r
theorem xk {F:List FO} {l:List Nat}: ∀ {r:List Oper} {k i:Nat},(∃ j o,i=k+j∧r[j]?=some o∧(!mem i l && !rq i F && o.after.toList.all (fun e=> !lW e || mem e.on l || rq e.on F))=true)→i∈vO F l k r
  | [],k,i,⟨j,o,_,h,_⟩=>by simp at h
  | o::r,k,i,⟨j,o',he,h1,h2⟩=>by
    simp only [vO]
    cases j with
    | zero =>
      simp at h1
      subst h1
      rw [Nat.add_zero] at he
      subst he
      rw [h2]
      exact List.mem_cons_self ..
    | succ j =>
      have ih:=xk (F:=F) (l:=l) (r:=r) (k:=k+1) (i:=i) ⟨j,o',by omega,by simpa using h1,h2⟩
      split
      · exact List.mem_cons_of_mem _ ih
      · exact ih
def fnd:List FO→Bool
  | []=>true
  | f::F=> !rq f.i F && fnd F
theorem EK: ∀ {F:List FO},fnd F=true → ∀ {f g:FO},f∈F→g∈F→f.i=g.i→f=g
  | [],_,_,_,h,_,_=>by cases h
  | x::F,h,f,g,hf,hg,he=>by
    simp only [fnd,Bool.and_eq_true,Bool.not_eq_true'] at h
    rcases List.mem_cons.1 hf with e1 | hf1
    · rcases List.mem_cons.1 hg with e2 | hg1
      · rw [e1,e2]
      · have h3:rq x.i F=true:=l9.2 ⟨g,hg1,by rw [← he,e1]⟩
        rw [h.1] at h3
        cases h3
    · rcases List.mem_cons.1 hg with e2 | hg1
      · have h3:rq x.i F=true:=l9.2 ⟨f,hf1,by rw [he,e2]⟩
        rw [h.1] at h3
        cases h3
      · exact EK h.2 hf1 hg1 he
def fok (F:List FO) (m:Env):Bool:=fnd F && F.all fun f=>(look m f.d).isNone && F.all fun g=>Nat.beq f.i g.i || !Nat.beq f.d g.d
def onb (ops:List Oper) (j i:Nat):Bool:=match ops[j]? with
  | some oj=>oj.after.toList.any fun e=>lW e && Nat.beq e.on i
  | none=>false
def Exd (a:Act) (A:eQ) (w:World):List FO→List Nat→List Ch→Prop
  | [],_,R=>R=[]
  | f::F,L,R=>(¬ f.i∈L∧Exd a A w F L R)∨(f.i∈L ∧ ∃ x R',a.tmps.getD f.d undef=f.v x∧(∀ g∈f.J x,g.ok A w)∧R=f.S x++R'∧Exd a A w F L R')
theorem Exd.get {a:Act} {A:eQ} {w:World} {L:List Nat}: ∀ {F:List FO} {R:List Ch},Exd a A w F L R → ∀ f∈F,f.i∈L → ∃ x,a.tmps.getD f.d undef=f.v x ∧ ∀ g∈f.J x,g.ok A w
  | [],_,_,f,hf,_=>by cases hf
  | h::F,R,he,f,hf,hL=>by
    rcases he with ⟨h1,h2⟩ | ⟨h1,x,R',h2,h3,h4,h5⟩
    · rcases List.mem_cons.1 hf with rfl | hf
      · exact absurd hL h1
      · exact Exd.get h2 f hf hL
    · rcases List.mem_cons.1 hf with rfl | hf
      · exact ⟨x,h2,h3⟩
      · exact Exd.get h5 f hf hL
theorem Exd.mono {a a':Act} {A A':eQ} {w w':World} {L L':List Nat} (hk: ∀ g:Im,g.ok A w→g.ok A' w'): ∀ {F:List FO} {R:List Ch},(∀ f∈F,a'.tmps.getD f.d undef=a.tmps.getD f.d undef)→(∀ f∈F,f.i∈L'↔f.i∈L)→Exd a A w F L R→Exd a' A' w' F L' R
  | [],_,_,_,he=>he
  | h::F,R,hs,hL,he=>by
    rcases he with ⟨h1,h2⟩ | ⟨h1,x,R',h2,h3,h4,h5⟩
    · exact .inl ⟨fun hh=>h1 ((hL h (List.mem_cons_self ..)).1 hh),h2.mono hk (fun f hf=>hs f (List.mem_cons_of_mem _ hf)) fun f hf=>hL f (List.mem_cons_of_mem _ hf)⟩
    · exact .inr ⟨(hL h (List.mem_cons_self ..)).2 h1,x,R',(hs h (List.mem_cons_self ..)).trans h2,fun g hg=>hk g (h3 g hg),h4,h5.mono hk (fun f hf=>hs f (List.mem_cons_of_mem _ hf)) fun f hf=>hL f (List.mem_cons_of_mem _ hf)⟩
theorem Exd.exec {a a':Act} {A A':eQ} {w w':World} {L:List Nat} {f:FO} {x:f.σ} (hk: ∀ g:Im,g.ok A w→g.ok A' w') (hL: ¬ f.i∈L) (hv:a'.tmps.getD f.d undef=f.v x) (hJ: ∀ g∈f.J x,g.ok A' w'): ∀ {F:List FO} {R:List Ch},fnd F=true→(∀ g∈F,g.i≠f.i→a'.tmps.getD g.d undef=a.tmps.getD g.d undef)→f∈F→Exd a A w F L R → ∃ R',Exd a' A' w' F (f.i::L) R'∧R'.Perm (f.S x++R)
  | [],_,_,_,hf,_=>by cases hf
  | h::F,R,hn,hs,hf,he=>by
    have hn':=hn
    simp only [fnd,Bool.and_eq_true,Bool.not_eq_true'] at hn'
    have hnot: ∀ g∈F,g.i≠h.i:=fun g hg e=>by
      have:=l9.2 ⟨g,hg,e⟩
      rw [hn'.1] at this
      cases this
    by_cases hhf:h.i=f.i
    · obtain rfl:=EK hn (List.mem_cons_self ..) hf hhf
      rcases he with ⟨h1,h2⟩ | ⟨h1,_⟩
      · refine ⟨h.S x++R,.inr ⟨List.mem_cons_self ..,x,R,hv,hJ,rfl,?_⟩,List.Perm.refl _⟩
        refine h2.mono hk (fun g hg=>hs g (List.mem_cons_of_mem _ hg) (hnot g hg)) fun g hg=> ?_
        rw [List.mem_cons]
        exact ⟨fun hh=>hh.resolve_left (hnot g hg),.inr⟩
      · exact absurd h1 hL
    · have hfF:f∈F:=(List.mem_cons.1 hf).resolve_left fun e=>hhf (by rw [e])
      have hs': ∀ g∈F,g.i≠f.i→a'.tmps.getD g.d undef=a.tmps.getD g.d undef:=fun g hg=>hs g (List.mem_cons_of_mem _ hg)
      rcases he with ⟨h1,h2⟩ | ⟨h1,y,R1,h2,h3,h4,h5⟩
      · obtain ⟨R',h6,h7⟩:=Exd.exec hk hL hv hJ hn'.2 hs' hfF h2
        exact ⟨R',.inl ⟨fun hh=>h1 ((List.mem_cons.1 hh).resolve_left hhf),h6⟩,h7⟩
      · obtain ⟨R',h6,h7⟩:=Exd.exec hk hL hv hJ hn'.2 hs' hfF h5
        refine ⟨h.S y++R',.inr ⟨List.mem_cons_of_mem _ h1,y,R',(hs h (List.mem_cons_self ..) hhf).trans h2,fun g hg=>hk g (h3 g hg),rfl,h6⟩,?_⟩
        rw [h4]
        refine (h7.append_left (h.S y)).trans ?_
        rw [← List.append_assoc,← List.append_assoc]
        exact List.perm_append_comm.append_right R1
theorem Exd.Hf {a:Act} {A:eQ} {w:World} {L:List Nat} {f:FO} (hL:f.i∈L): ∀ {F:List FO} {R:List Ch} {k:Nat},F[k]?=some f→Exd a A w F L R → ∃ x R',a.tmps.getD f.d undef=f.v x∧(∀ g∈f.J x,g.ok A w)∧R.Perm (f.S x++R')∧Exd a A w (F.eraseIdx k) L R'
  | [],_,k,hk,_=>by simp at hk
  | h::F,R,0,hk,he=>by
    simp at hk
    subst hk
    rcases he with ⟨h1,_⟩ | ⟨_,x,R',h2,h3,h4,h5⟩
    · exact absurd hL h1
    · exact ⟨x,R',h2,h3,by rw [h4],by simpa using h5⟩
  | h::F,R,k+1,hk,he=>by
    have hk':F[k]?=some f:=by simpa using hk
    rcases he with ⟨h1,h2⟩ | ⟨h1,y,R1,h2,h3,h4,h5⟩
    · obtain ⟨x,R',q1,q2,q3,q4⟩:=Exd.Hf hL hk' h2
      exact ⟨x,R',q1,q2,q3,by rw [List.eraseIdx_cons_succ]; exact .inl ⟨h1,q4⟩⟩
    · obtain ⟨x,R',q1,q2,q3,q4⟩:=Exd.Hf hL hk' h5
      refine ⟨x,h.S y++R',q1,q2,?_,by rw [List.eraseIdx_cons_succ]; exact .inr ⟨h1,y,R',h2,h3,rfl,q4⟩⟩
      rw [h4]
      refine (q3.append_left (h.S y)).trans ?_
      rw [← List.append_assoc,← List.append_assoc]
      exact List.perm_append_comm.append_right R'
theorem Hg {C V R X R':List Ch} (h:R'.Perm (X++R)):(C++(V++R')).Perm (X++(C++(V++R))):=by
  have h1:(C++(V++R')).Perm (C++(V++(X++R))):=(h.append_left V).append_left C
  refine h1.trans ?_
  have h2:(C++(V++(X++R))).Perm ((X++(C++V))++R):=by
    have:C++(V++(X++R))=((C++V)++X)++R:=by simp
    rw [this]
    exact List.perm_append_comm.append_right R
  refine h2.trans ?_
  simp
section
variable {G : Pg} {n : Nd} {K : Key} {Q : Exit → Act → World → Prop} {m : Env} {C V : List Ch} {I : List Im} {ops : List Oper} {late l : List Nat} {o : Oper} {F : List FO}
theorem Fr.JE {a:Act} {d:Nat} {v:Value} (h:Fr n m a) (hv:a.tmps.getD d undef=v):Fr n ((d,v)::m) a:=by
  refine ⟨h.size,h.defers,fun i u hu=> ?_⟩
  simp only [look] at hu
  cases hb:Nat.beq d i with
  | true =>
    rw [hb] at hu
    rw [← Nat.eq_of_beq_eq_true hb,hv]
    exact Option.some.inj hu
  | false =>
    rw [hb] at hu
    exact h.at_ i u hu
def FSp (G:Pg) (n:Nd) (Q:Exit→Act→World→Prop) (ops:List Oper) (C:List Ch) (m:Env) (I:List Im) (F:List FO) (f:FO):Prop :=
  ∀ K A a w V (Kc:Act→World→Prop),Fr n m a→SS K A (C++V) I w→(∀ g∈F,onb ops f.i g.i=true → ∃ x,a.tmps.getD g.d undef=g.v x ∧ ∀ q∈g.J x,q.ok A w)→(∀ x w' A',SS K A' (f.S x++(C++V)) I w'→(∀ g∈f.J x,g.ok A' w')→(∀ g:Im,g.ok A w→g.ok A' w')→Kc (a.put (some f.d) (f.v x)) w')→f.d < n.n∧f.i < ops.length∧wpOp G.P ops.toArray (NP Q) f.i Kc a w
theorem FSp.mono {f:FO} {m':Env} {I':List Im} {F':List FO} (h:FSp G n Q ops C m I F f) (hm: ∀ i v,look m i=some v→look m' i=some v) (hI: ∀ g∈I,g∈I') (hF: ∀ A a w,Fr n m' a→(∀ g∈I',g.ok A w)→(∀ g∈F',onb ops f.i g.i=true → ∃ x,a.tmps.getD g.d undef=g.v x ∧ ∀ q∈g.J x,q.ok A w) → ∀ g∈F,onb ops f.i g.i=true → ∃ x,a.tmps.getD g.d undef=g.v x ∧ ∀ q∈g.J x,q.ok A w):FSp G n Q ops C m' I' F' f:=by
  intro K A a w V Kc hf hs hd hk
  refine h K A a w V Kc (hf.sub hm) (hs.perm (List.Perm.refl _) hI) (hF A a w hf hs.st.im hd) fun x w' A' h1 h2 h3=>hk x w' A' ?_ h2 h3
  exact (h1.jf (J:=I') fun g hg=>h3 g (hs.st.im g hg)).perm (List.Perm.refl _) fun g hg=>List.mem_append_left _ hg
theorem BU {A A':eQ} {S R S':List Ch} {I I':List Im} {w w':World} (h:SS K A (S++R) I w) (h2:SS ⟨w,A,Own S⟩ A' S' I' w') (g:Im) (hg:g.ok A w):g.ok A' w':=by
  have h3:=(SS.jf h (J:=[g]) fun f hf=>by rw [List.mem_singleton.1 hf]; exact hg).frame h2
  exact h3.st.im g (by simp)
theorem FSp.ac (i:Nat) {d:Nat} {J:List Im} {σ:Type} {v:σ→Value} {S':σ→List Ch} {I':σ→List Im} (js:List Nat) (hA:Ac G n m o [] J v S' I') (hi:ops[i]?=some o) (hw:wg ops m o=some true) (hd:o.dst=some d) (hn:Nat.blt d n.n=true) (hJ:pick I js=some J):FSp G n Q ops C m I F ⟨i,d,σ,v,S',I'⟩:=by
  intro K A a w V Kc hf hs _ hk
  refine ⟨gT hn,(List.getElem?_eq_some_iff.1 hi).1,?_⟩
  have hi':ops.toArray[i]?=some o:=by simpa using hi
  unfold wpOp
  simp only [hi']
  rw [if_pos (lD hw hf)]
  left
  have hs0:SS K A ([]++(C++V)) I w:=hs
  refine (hA A a w _ (NP Q) hf (St.left (S:=[]) hs0.st (eR hJ)) fun x w' A' h2=> ?_).1
  have h3:=hs0.frame h2
  rw [hd]
  exact hk x w' A' (h3.perm (List.Perm.refl _) fun g hg=>List.mem_append_right _ hg) (fun g hg=>h3.st.im g (List.mem_append_left _ hg)) (BU hs0 h2)
theorem FSp.y (i:Nat) {d:Nat} {v:Value} (hy:Yl G n m C I o v) (hi:ops[i]?=some o) (hw:wg ops m o=some true) (hd:o.dst=some d) (hn:Nat.blt d n.n=true):FSp G n Q ops C m I F ⟨i,d,Unit,fun _=>v,fun _=>[],fun _=>[]⟩:=by
  intro K A a w V Kc hf hs _ hk
  refine ⟨gT hn,(List.getElem?_eq_some_iff.1 hi).1,?_⟩
  have hi':ops.toArray[i]?=some o:=by simpa using hi
  unfold wpOp
  simp only [hi']
  rw [if_pos (lD hw hf)]
  left
  have hr:=hy A a w hf (fun c hc=>hs.st.ch c (List.mem_append_left _ hc)) hs.st.im
  have h4:Kc (a.put (some d) v) w:=hk () w A hs (fun g hg=>by cases hg) (fun _ h=>h)
  rw [← hd] at h4
  unfold Oper.wp
  rw [hr]
  exact h4
theorem FSp.q (i:Nat) {d:Nat} {v:Value} (hi:ops[i]?=some o) (hw:wg ops m o=some true) (hd:o.dst=some d) (hn:Nat.blt d n.n=true) (hq:qx G.τ m o.op=some v):FSp G n Q ops C m I F ⟨i,d,Unit,fun _=>v,fun _=>[],fun _=>[]⟩ :=
  FSp.y i (fun A a w hf _ _=>BL G.ok hf hq w) hi hw hd hn
theorem FSp.dep {f g:FO} (k:Nat) (hk:F[k]?=some g) (hon:onb ops f.i g.i=true) (h: ∀ x,FSp G n Q ops C ((g.d,g.v x)::m) (g.J x++I) F f):FSp G n Q ops C m I F f:=by
  intro K A a w V Kc hf hs hd hk'
  obtain ⟨x,h1,h2⟩:=hd g (List.mem_of_getElem? hk) hon
  refine h x K A a w V Kc (Fr.JE hf h1) (hs.jf h2) hd fun y w' A' h3 h4 h5=>hk' y w' A' (h3.perm (List.Perm.refl _) fun q hq=>List.mem_append_right _ hq) h4 h5
def DF (G:Pg) (n:Nd) (K:Key) (Q:Exit→Act→World→Prop) (ops:List Oper) (late:List Nat) (F:List FO) (l:List Nat) (C:List Ch) (m:Env) (V:List Ch) (I:List Im):Prop :=
  (∀ f∈F,FSp G n Q ops C m I F f) → ∀ A a w fuel L,(∀ i∈l,i∈L)→(∀ i∈L,i∈l ∨ ∃ f∈F,f.i=i)→unl ops.length L≤fuel→Fr n m a → ∀ R,SS K A (C++(V++R)) I w →
    Exd a A w F L R→wpG G.P ops.toArray (NP Q) late fuel (WS C I) (lst ops.length L) a w
def DFp (G:Pg) (n:Nd) (K:Key) (Q:Exit→Act→World→Prop) (ops:List Oper) (late:List Nat) (j:Nat) (F:List FO) (l:List Nat) (C:List Ch) (m:Env) (V:List Ch) (I:List Im):Prop :=
  (∀ f∈F,FSp G n Q ops C m I F f) → ∀ A a w fuel L,(∀ i∈l,i∈L)→(∀ i∈L,i∈l ∨ ∃ f∈F,f.i=i)→unl ops.length L≤fuel+1→mem j L=false→(∀ oj,ops[j]?=some oj → ∀ e∈oj.after,lW e=true→e.on∈L)→Fr n m a → ∀ R,SS K A (C++(V++R)) I w →
    Exd a A w F L R →
    wpOp G.P ops.toArray (NP Q) j (fun a' w'=> ∃ S':World→Prop,(j∈late ∨ ∀ w,S' w→WS C I w)∧S' w'∧wpG G.P ops.toArray (NP Q) late fuel S' ((lst ops.length L).setIfInBounds j true) a' w') a w
def DFe (G:Pg) (n:Nd) (K:Key) (Q:Exit→Act→World→Prop) (F:List FO) (C:List Ch) (m:Env) (V:List Ch) (I:List Im):Prop :=
  ∀ A a w L,(∀ f∈F,f.i∈L)→Fr n m a → ∀ R,SS K A (C++(V++R)) I w→Exd a A w F L R→NP Q .normal a w
theorem DF.of (hl:Nat.ble (unl ops.length l+l.length) ops.length=true) (h:DF G n K Q ops late [] l C m V I):D G n K Q ops late l C m V I:=by
  intro A a w fuel hfu hf hs
  have:=Nat.le_of_ble_eq_true hl
  exact h (fun f hf=>by cases hf) A a w fuel l (fun i hi=>hi) (fun i hi=> .inl hi) (by omega) hf [] (by rw [List.append_nil]; exact hs) rfl
theorem DF.add (f:FO) (hsp:FSp G n Q ops C m I F f) (hc:(!mem f.i l && !rq f.i F)=true) (h:DF G n K Q ops late (f::F) l C m V I):DF G n K Q ops late F l C m V I:=by
  simp only [Bool.and_eq_true,Bool.not_eq_true'] at hc
  intro hF A a w fuel L h1 h2 hfu hf R hs hx
  have hnot: ¬ f.i∈L:=fun hi=>by
    rcases h2 _ hi with h3 | ⟨g,hg,h3⟩
    · exact ov.1 hc.1 h3
    · have:=l9.2 ⟨g,hg,h3⟩
      rw [hc.2] at this
      cases this
  refine h (fun g hg=> ?_) A a w fuel L h1 (fun i hi=>(h2 i hi).imp id fun ⟨g,hg,e⟩=>⟨g,List.mem_cons_of_mem _ hg,e⟩) hfu hf R hs (.inl ⟨hnot,hx⟩)
  · have hup: ∀ A a w,Fr n m a→(∀ g∈I,g.ok A w)→(∀ q∈f::F,onb ops g.i q.i=true → ∃ x,a.tmps.getD q.d undef=q.v x ∧ ∀ p∈q.J x,p.ok A w) → ∀ q∈F,onb ops g.i q.i=true → ∃ x,a.tmps.getD q.d undef=q.v x ∧ ∀ p∈q.J x,p.ok A w:=fun A a w _ _ hh q hq=>hh q (List.mem_cons_of_mem _ hq)
    rcases List.mem_cons.1 hg with rfl | hg
    · exact hsp.mono (fun _ _ h=>h) (fun _ h=>h) hup
    · exact (hF g hg).mono (fun _ _ h=>h) (fun _ h=>h) hup
theorem y8 {a:Act} {d e:Nat} {v:Value} (h:d≠e):(a.put (some d) v).tmps.getD e undef=a.tmps.getD e undef:=by
  show (a.tmps.setIfInBounds d v).getD e undef=_
  simp only [Array.getD_eq_getD_getElem?,Array.getElem?_setIfInBounds,if_neg h]
theorem Dj {a:Act} {d:Nat} {v:Value} (h:d < a.tmps.size):(a.put (some d) v).tmps.getD d undef=v:=by
  show (a.tmps.setIfInBounds d v).getD d undef=_
  simp [Array.getD,h]
theorem DF.core (hc:closed ops=true) (hfw:fwd ops 0 ops=true) (hfo:fok F m=true) {js:List Nat} (hcs:vO F l 0 ops=js) (h: ∀ j∈js,DFp G n K Q ops late j F l C m V I)
    (he: ∀ A a w (L:List Nat),(∀ i,i < ops.length→i∈L)→(∀ i∈L,i∈l ∨ ∃ f∈F,f.i=i)→Fr n m a → ∀ R,SS K A (C++(V++R)) I w→Exd a A w F L R→NP Q .normal a w):DF G n K Q ops late F l C m V I:=by
  intro hF A a w fuel
  induction fuel generalizing A a w with
  | zero =>
    intro L h1 h2 hfu hf R hs hx
    have hall: ∀ i,i < ops.length→i∈L:=fun i hi=>by
      cases hb:mem i L with
      | true=>exact mem_iff.1 hb
      | false=>have:=He hi hb; omega
    refine ⟨List.eq_nil_iff_forall_not_mem.2 fun i hi=> ?_,he A a w L hall h2 hf R hs hx⟩
    rw [mH hc,ot] at hi
    obtain ⟨j,o,e,h3,h4⟩:=hi
    have hj:i < ops.length:=by have:=(List.getElem?_eq_some_iff.1 h3).1; omega
    rw [mem_iff.2 (hall i hj)] at h4
    simp at h4
  | succ fuel ih =>
    intro L h1 h2 hfu hf R hs hx
    refine ⟨fun hr=> ?_,fun i hi=> ?_⟩
    · have hall: ∀ i,i < ops.length→i∈L:=by
        intro i
        induction i using Nat.strongRecOn with
        | _ i ihi =>
          intro hi
          cases hb:mem i L with
          | true=>exact mem_iff.1 hb
          | false =>
            exfalso
            have hin:i∈Region.ready .any ops.toArray (lst ops.length L):=by
              rw [mH hc,ot]
              refine ⟨i,ops[i],by omega,List.getElem?_eq_getElem hi,?_⟩
              rw [hb]
              simp only [Bool.not_false,Bool.true_and,AL,List.all_eq_true,Bool.or_eq_true,Bool.not_eq_true']
              intro e hee
              cases hbe:lW e with
              | false=>exact .inl rfl
              | true =>
                right
                have hlt:=y7 hfw i ops[i] (List.getElem?_eq_getElem hi) e (by simpa using hee) hbe
                exact mem_iff.2 (ihi e.on (by omega) (by omega))
            rw [hr] at hin
            cases hin
      exact he A a w L hall h2 hf R hs hx
    · rw [mH hc,ot] at hi
      obtain ⟨j,o,e0,h3,h4⟩:=hi
      obtain rfl:i=j:=by omega
      have hilt:i < ops.length:=(List.getElem?_eq_some_iff.1 h3).1
      simp only [Bool.and_eq_true,Bool.not_eq_true'] at h4
      cases hb:rq i F with
      | true =>
        obtain ⟨f,hfF,rfl⟩:=l9.1 hb
        have hdeps: ∀ g∈F,onb ops f.i g.i=true → ∃ x,a.tmps.getD g.d undef=g.v x ∧ ∀ q∈g.J x,q.ok A w:=fun g hgF hon=>by
          refine hx.get g hgF ?_
          unfold onb at hon
          rw [h3] at hon
          obtain ⟨e,hee,hbb⟩:=List.any_eq_true.1 hon
          simp only [Bool.and_eq_true] at hbb
          have h5:=List.all_eq_true.1 h4.2 e hee
          rw [hbb.1] at h5
          rw [← Nat.eq_of_beq_eq_true hbb.2]
          exact mem_iff.1 (by simpa using h5)
        refine (hF f hfF K A a w (V++R) _ hf hs hdeps fun x w' A' hs' hg hk=> ?_).2.2
        have hdn:f.d < n.n:=(hF f hfF K A a w (V++R) (fun _ _=>True) hf hs hdeps fun _ _ _ _ _ _=>trivial).1
        have hfo':=hfo
        simp only [fok,Bool.and_eq_true] at hfo'
        have hok:=List.all_eq_true.1 hfo'.2 f hfF
        simp only [Bool.and_eq_true,Option.isNone_iff_eq_none] at hok
        obtain ⟨R',hx',hp⟩:=hx.exec (a':=a.put (some f.d) (f.v x)) hk (ov.1 h4.1) (Dj (by rw [hf.size]; exact hdn)) hg hfo'.1 (fun g hgF hgi=>by
          have h5:=List.all_eq_true.1 hok.2 g hgF
          simp only [Bool.or_eq_true,Bool.not_eq_true'] at h5
          exact y8 (Nat.ne_of_beq_eq_false (h5.resolve_left fun hh=>hgi (Nat.eq_of_beq_eq_true hh).symm))) hfF
        have hs2:=hs'.perm (Hg (C:=C) (V:=V) hp) (fun _ h=>h)
        refine ⟨WS C I,.inr fun _ h=>h,hs2.ws,?_⟩
        rw [nj]
        have hput:Fr n m (a.put (some f.d) (f.v x)):=by
          refine (hf.put (f.v x) hdn).sub fun i u hu=> ?_
          simp only [look]
          cases hbb:Nat.beq f.d i with
          | true=>rw [← Nat.eq_of_beq_eq_true hbb,hok.1] at hu; cases hu
          | false=>exact hu
        refine ih A' _ w' (f.i::L) (fun i hi=>List.mem_cons_of_mem _ (h1 i hi)) (fun i hi=> ?_) ?_ hput R' hs2 hx'
        · rcases List.mem_cons.1 hi with rfl | hi
          · exact .inr ⟨f,hfF,rfl⟩
          · exact h2 i hi
        · have:=pX hilt h4.1
          omega
      | false =>
        have hcand:i∈js:=by
          rw [← hcs]
          refine xk ⟨i,o,by omega,h3,?_⟩
          have hml:mem i l=false:=ov.2 fun hh=>ov.1 h4.1 (h1 i hh)
          rw [hml,hb]
          simp only [Bool.not_false,Bool.true_and,List.all_eq_true,Bool.or_eq_true,Bool.not_eq_true']
          intro e hee
          cases hbe:lW e with
          | false=>exact .inl (.inl rfl)
          | true =>
            have h5:=List.all_eq_true.1 h4.2 e hee
            rw [hbe] at h5
            have h6:=mem_iff.1 (by simpa using h5:mem e.on L=true)
            rcases h2 _ h6 with h7 | h7
            · exact .inl (.inr (mem_iff.2 h7))
            · exact .inr (l9.2 h7)
        refine h i hcand hF A a w fuel L h1 h2 hfu h4.1 (fun oj hoj e hee hbe=> ?_) hf R hs hx
        rw [h3] at hoj
        cases hoj
        have h5:=List.all_eq_true.1 h4.2 e (by simpa using hee)
        rw [hbe] at h5
        exact mem_iff.1 (by simpa using h5)
theorem DF.step (j:Nat) (hc:closed ops=true) (hfw:fwd ops 0 ops=true) (hfo:fok F m=true) (hcs:vO F l 0 ops=[j]) (hj:(!mem j l && !rq j F && Nat.blt j ops.length)=true) (h:DFp G n K Q ops late j F l C m V I):DF G n K Q ops late F l C m V I:=by
  simp only [Bool.and_eq_true,Bool.not_eq_true'] at hj
  refine DF.core hc hfw hfo hcs (fun k hk=>by rw [List.mem_singleton.1 hk]; exact h) (fun A a w L hall h2 hf R hs hx=> ?_)
  exfalso
  rcases h2 j (hall j (gT hj.2)) with h3 | h3
  · exact ov.1 hj.1.1 h3
  · have:=l9.2 h3
    rw [hj.1.2] at this
    cases this
theorem DF.fin (hc:closed ops=true) (hfw:fwd ops 0 ops=true) (hfo:fok F m=true) (hcs:vO F l 0 ops=[]) (hlt:(F.all fun f=>Nat.blt f.i ops.length)=true) (h:DFe G n K Q F C m V I):DF G n K Q ops late F l C m V I :=
  DF.core hc hfw hfo hcs (fun k hk=>by cases hk) fun A a w L hall h1 hf R hs hx=>h A a w L (fun f hfF=>hall _ (gT (List.all_eq_true.1 hlt f hfF))) hf R hs hx
theorem DFe.nil (h:E n K Q .normal m (C++V) I):DFe G n K Q [] C m V I:=fun A a w L _ hf R hs hx=>by
  obtain rfl:R=[]:=hx
  rw [List.append_nil] at hs
  exact h A a w hf hs
theorem y9 {C V R X R':List Ch} (h:R.Perm (X++R')):(C++((X++V)++R')).Perm (C++(V++R)):=by
  refine List.Perm.append_left C ?_
  refine List.Perm.trans ?_ (h.symm.append_left V)
  rw [← List.append_assoc]
  exact List.perm_append_comm.append_right R'
theorem DFe.use {f:FO} (h: ∀ x,DFe G n K Q F C ((f.d,f.v x)::m) (f.S x++V) (f.J x++I)):DFe G n K Q (f::F) C m V I:=by
  intro A a w L hL hf R hs hx
  obtain ⟨x,R',h1,h2,h3,h4⟩:=hx.Hf (k:=0) (hL f (List.mem_cons_self ..)) rfl
  exact h x A a w L (fun g hg=>hL g (List.mem_cons_of_mem _ hg)) (hf.JE h1) R' ((hs.perm (y9 h3) fun _ h=>h).jf h2) (by simpa using h4)
theorem xm {d:Nat} {v:Value} (h:look m d=none): ∀ i u,look m i=some u→look ((d,v)::m) i=some u:=by
  intro i u hu
  simp only [look]
  cases hb:Nat.beq d i with
  | true=>rw [← Nat.eq_of_beq_eq_true hb,h] at hu; cases hu
  | false=>exact hu
theorem DFp.use {j:Nat} (k:Nat) {f:FO} (hk:F[k]?=some f) (hon:onb ops j f.i=true) (hnew:(look m f.d).isNone=true) (h: ∀ x,DFp G n K Q ops late j (F.eraseIdx k) (f.i::l) C ((f.d,f.v x)::m) (f.S x++V) (f.J x++I)):DFp G n K Q ops late j F l C m V I:=by
  intro hF A a w fuel L h1 h2 hfu hjL hdep hf R hs hx
  have hfF:f∈F:=List.mem_of_getElem? hk
  have hfL:f.i∈L:=by
    unfold onb at hon
    split at hon
    · rename_i oj hoj
      obtain ⟨e,he,hb⟩:=List.any_eq_true.1 hon
      simp only [Bool.and_eq_true] at hb
      have:=hdep oj hoj e (by simpa using he) hb.1
      rwa [Nat.eq_of_beq_eq_true hb.2] at this
    · cases hon
  obtain ⟨x,R',hx1,hx2,hp,hx3⟩:=hx.Hf hfL hk
  have hnew':look m f.d=none:=by simpa using hnew
  have hsub: ∀ g∈F.eraseIdx k,g∈F:=fun g hg=>List.mem_of_mem_eraseIdx hg
  have hsplit: ∀ g∈F,g=f∨g∈F.eraseIdx k:=fun g hg=>by
    obtain ⟨q,hq⟩:=List.getElem?_of_mem hg
    by_cases hqk:q=k
    · left
      subst hqk
      rw [hk] at hq
      cases hq
      rfl
    · exact .inr (List.mem_eraseIdx_iff_getElem?.2 ⟨q,hqk,hq⟩)
  have hF': ∀ g∈F.eraseIdx k,FSp G n Q ops C ((f.d,f.v x)::m) (f.J x++I) (F.eraseIdx k) g:=fun g hg=>(hF g (hsub g hg)).mono (xm hnew') (fun q hq=>List.mem_append_right _ hq) fun A a w hf hI hh q hq hon=>by
    rcases hsplit q hq with rfl | hq'
    · exact ⟨x,hf.at_ _ _ (by simp [look]),fun p hp=>hI p (List.mem_append_left _ hp)⟩
    · exact hh q hq' hon
  have h3:=h x hF' A a w fuel L (fun i hi=> ?_) (fun i hi=> ?_) hfu hjL hdep (hf.JE hx1) R' ((hs.perm (y9 hp) fun _ h=>h).jf hx2) hx3
  · refine wpOp_mono (fun a' w' hh=> ?_) h3
    obtain ⟨S',hS,h4⟩:=hh
    exact ⟨S',hS.imp id fun hw w0 hw0=>by obtain ⟨A0,q1,q2⟩:=hw w0 hw0; exact ⟨A0,q1,fun q hq=>q2 q (List.mem_append_right _ hq)⟩,h4⟩
  · rcases List.mem_cons.1 hi with rfl | hi
    · exact hfL
    · exact h1 i hi
  · rcases h2 i hi with h4 | ⟨g,hg,h4⟩
    · exact .inl (List.mem_cons_of_mem _ h4)
    · rcases hsplit g hg with rfl | hg'
      · left
        rw [← h4]
        exact List.mem_cons_self ..
      · exact .inr ⟨g,hg',h4⟩
def EL (F:List FO) (m:Env):Option Nat→Bool
  | some d=>(look m d).isNone && F.all fun f=> !Nat.beq f.d d
  | none=>true
theorem Dl {d:Option Nat} (h:EL F m d=true) (v:Value): ∀ i u,look m i=some u→look (na d v m) i=some u:=by
  cases d with
  | none=>exact fun _ _ h=>h
  | some d =>
    simp only [EL,Bool.and_eq_true] at h
    exact xm (by simpa using h.1)
theorem EN {d:Option Nat} (h:EL F m d=true) {a:Act} {v:Value}: ∀ f∈F,(a.put d v).tmps.getD f.d undef=a.tmps.getD f.d undef:=by
  intro f hf
  cases d with
  | none=>rfl
  | some d =>
    simp only [EL,Bool.and_eq_true] at h
    have:=List.all_eq_true.1 h.2 f hf
    simp only [Bool.not_eq_true'] at this
    exact y8 fun e=>Nat.ne_of_beq_eq_false this e.symm
theorem za {j:Nat} (hjF:rq j F=false) {L:List Nat}: ∀ f∈F,f.i∈j::L↔f.i∈L:=by
  intro f hf
  rw [List.mem_cons]
  refine ⟨fun hh=>hh.resolve_left fun e=> ?_,.inr⟩
  have:=l9.2 ⟨f,hf,e⟩
  rw [hjF] at this
  cases this
theorem qL {α:Type} (X Y Z:List α):(X++(Y++Z)).Perm (Y++(X++Z)):=by
  rw [← List.append_assoc,← List.append_assoc]
  exact (List.perm_append_comm (l₁:=X) (l₂:=Y)).append_right Z
theorem DFp.a {j:Nat} (is js:List Nat) {d:Option Nat} {Sp R:List Ch} {J:List Im} {σ:Type} {v:σ→Value} {S':σ→List Ch} {I':σ→List Im} (hA:Ac G n m o Sp J v S' I') (hi:ops[j]?=some o) (hw:wg ops m o=some true) (hd:o.dst=d) (hn:dok d n.n=true) (hS:ext V is=some (Sp,R)) (hJ:pick I js=some J) (hjF:rq j F=false) (hnew:EL F m d=true)
    (h: ∀ x,DF G n K Q ops late F (j::l) C (na d (v x) m) (S' x++R) (I' x++I)):DFp G n K Q ops late j F l C m V I:=by
  intro hF A a w fuel L h1 h2 hfu hjL hdep hf R0 hs hx
  have hi':ops.toArray[j]?=some o:=by simpa using hi
  have hjlt:j < ops.length:=(List.getElem?_eq_some_iff.1 hi).1
  unfold wpOp
  simp only [hi']
  rw [if_pos (lD hw hf)]
  left
  have hp:(Sp++(C++(R++R0))).Perm (C++(V++R0)):=by
    have h1:(Sp++R).Perm V:=cU hS
    refine (qL Sp C (R++R0)).trans (List.Perm.append_left C ?_)
    rw [← List.append_assoc]
    exact h1.append_right R0
  have hs':=hs.perm hp (fun i hi=>hi)
  refine (hA A a w _ (NP Q) hf (hs'.st.left (eR hJ)) fun x w' A' h2'=> ?_).1
  have h3:=hs'.frame h2'
  have hp2:(C++((S' x++R)++R0)).Perm (S' x++(C++(R++R0))):=by
    rw [List.append_assoc]
    exact qL C (S' x) (R++R0)
  have h4:=h3.perm hp2 (fun i hi=>hi)
  refine ⟨WS C (I' x++I),.inr fun w ⟨A,h1,h2⟩=>⟨A,h1,fun f hf=>h2 f (List.mem_append_right _ hf)⟩,h4.ws,?_⟩
  rw [nj,hd]
  refine h x (fun f hfF=>(hF f hfF).mono (Dl hnew _) (fun g hg=>List.mem_append_right _ hg) fun _ _ _ _ _ hh=>hh) A' _ w' fuel (j::L) (fun i hi=> ?_) (fun i hi=> ?_) ?_ (hf.uX hn _) R0 h4 (hx.mono (BU hs' h2') (EN hnew) (za hjF))
  · rcases List.mem_cons.1 hi with rfl | hi
    · exact List.mem_cons_self ..
    · exact List.mem_cons_of_mem _ (h1 i hi)
  · rcases List.mem_cons.1 hi with rfl | hi
    · exact .inl (List.mem_cons_self ..)
    · exact (h2 i hi).imp (List.mem_cons_of_mem _) id
  · have:=pX hjlt hjL
    omega
theorem DFp.al {j:Nat} (is js:List Nat) {d:Option Nat} {Sp R:List Ch} {J:List Im} {σ:Type} {v:σ→Value} {S':σ→List Ch} {I':σ→List Im} (hA:Ac G n m o Sp J v S' I') (hl:mem j late=true) (hi:ops[j]?=some o) (hw:wg ops m o=some true) (hd:o.dst=d) (hn:dok d n.n=true) (hS:ext (C++V) is=some (Sp,R)) (hJ:pick I js=some J)
    (h: ∀ x,DF G n K Q ops late [] (j::l) [] (na d (v x) m) (S' x++R) (I' x++I)):DFp G n K Q ops late j [] l C m V I:=by
  intro hF A a w fuel L h1 h2 hfu hjL hdep hf R0 hs hx
  obtain rfl:R0=[]:=hx
  rw [List.append_nil] at hs
  have hi':ops.toArray[j]?=some o:=by simpa using hi
  have hjlt:j < ops.length:=(List.getElem?_eq_some_iff.1 hi).1
  unfold wpOp
  simp only [hi']
  rw [if_pos (lD hw hf)]
  left
  have hs':=hs.perm (cU hS) (fun i hi=>hi)
  refine (hA A a w _ (NP Q) hf (hs'.st.left (eR hJ)) fun x w' A' h2'=> ?_).1
  have h3:=hs'.frame h2'
  refine ⟨WS [] (I' x++I),.inl (mem_iff.1 hl),SS.ws (C:=[]) h3,?_⟩
  rw [nj,hd]
  refine h x (fun f hf=>by cases hf) A' _ w' fuel (j::L) (fun i hi=> ?_) (fun i hi=> ?_) ?_ (hf.uX hn _) [] (by rw [List.append_nil]; exact h3) rfl
  · rcases List.mem_cons.1 hi with rfl | hi
    · exact List.mem_cons_self ..
    · exact List.mem_cons_of_mem _ (h1 i hi)
  · rcases List.mem_cons.1 hi with rfl | hi
    · exact .inl (List.mem_cons_self ..)
    · exact (h2 i hi).imp (List.mem_cons_of_mem _) id
  · have:=pX hjlt hjL
    omega
theorem DFp.pre {j:Nat} {V':List Ch} {I':List Im} (hI: ∀ g∈I,g∈I') (hq: ∀ A w R,SS K A (C++(V++R)) I w → ∃ A',(∀ g:Im,g.ok A w→g.ok A' w)∧SS K A' (C++(V'++R)) I' w) (h:DFp G n K Q ops late j F l C m V' I'):DFp G n K Q ops late j F l C m V I:=by
  intro hF A a w fuel L h1 h2 hfu hj hd hf R hs hx
  obtain ⟨A',hA,hs'⟩:=hq A w R hs
  refine wpOp_mono (fun a' w' hh=> ?_) (h (fun f hfF=>(hF f hfF).mono (fun _ _ h=>h) hI fun _ _ _ _ _ hh=>hh) A' a w fuel L h1 h2 hfu hj hd hf R hs' (hx.mono hA (fun _ _=>rfl) fun _ _=>Iff.rfl))
  obtain ⟨S',hS,h4⟩:=hh
  exact ⟨S',hS.imp id fun hw w0 hw0=>by obtain ⟨A0,q1,q2⟩:=hw w0 hw0; exact ⟨A0,q1,fun q hq=>q2 q (hI q hq)⟩,h4⟩
theorem EO {α:Type} (ty:Ty α) (T0:Nat): ∀ A w R0,SS K A (C++(V++R0)) I w → ∃ A',(∀ g:Im,g.ok A w→g.ok A' w)∧SS K A' (C++((Ch.arr ty T0 none 0 []::V)++R0)) I w :=
  fun A w R0 hs=>⟨A,fun _ h=>h,(hs.iM (ty:=ty) (T0:=T0)).perm List.perm_middle fun _ h=>h⟩
theorem DFp.iM {j:Nat} {α:Type} (ty:Ty α) (T0:Nat) (h:DFp G n K Q ops late j F l C m (Ch.arr ty T0 none 0 []::V) I):DFp G n K Q ops late j F l C m V I:=DFp.pre (fun _ h=>h) (EO ty T0) h
theorem Ac.frz {Sp:List Ch} {J:List Im} {σ α:Type} {v:σ→Value} {S':σ→List Ch} {I':σ→List Im} {ty:Ty α} {T:Nat} {a0:σ→Option Addr} {c:σ→Nat} {xs:σ→List α} (hA:Ac G n m o Sp J v (fun x=>Ch.arr ty T (a0 x) (c x) (xs x)::S' x) I'):Ac G n m o Sp J v S' (fun x=>Im.sl ty (a0 x) (c x) (xs x)::I' x) :=
  fun A a w Kc Q hf hs hk=>hA A a w Kc Q hf hs fun x w' A' h2=>hk x w' _ (h2.frz oZ)
end
def shk (y:Int):Bool:=decide (0≤y)
section
variable {G : Pg} {n : Nd} {m : Env} {S : List Ch} {I : List Im} {o : Oper}
theorem Yl.shl {t t2 nb:Nat} {x y:Operand} {k k':IntKind} {a b:Int} {u:Unit} (hb:k.bits=nb) (h:chk (shk b)=some u) (ho:o.op = .binOp .shl t x y t2) (hx:ev m x=some (.int k a)) (hy:ev m y=some (.int k' b)):Yl G n m S I o (.int k (k.wrap (a*2 ^ (min b.toNat nb)))):=fun A ac w hf _ _=>by
  have h0:0≤b:=dV h
  have hg:(eqGuard .shl t x y (.int k a) (.int k' b)).run G.P w = .ok () w:=by unfold eqGuard; rfl
  have hr:(binOp .shl t (.int k a) (.int k' b)).run G.P w = .ok (.int k (k.wrap (a*2 ^ (min b.toNat nb)))) w:=by
    subst hb
    simp only [binOp,Op.shift]
    rw [if_neg (by omega)]
    rfl
  simp only [execOp,ho,hf.ev hx,hf.ev hy,Sem.run_bind,hg,Result.andThen_ok,hr,Sem.run_pure]
theorem Yl.shr {t t2 nb:Nat} {x y:Operand} {k k':IntKind} {a b:Int} {u:Unit} (hb:k.bits=nb) (h:chk (shk b)=some u) (ho:o.op = .binOp .shr t x y t2) (hx:ev m x=some (.int k a)) (hy:ev m y=some (.int k' b)):Yl G n m S I o (.int k (a.fdiv (2 ^ (min b.toNat nb)))):=fun A ac w hf _ _=>by
  have h0:0≤b:=dV h
  have hg:(eqGuard .shr t x y (.int k a) (.int k' b)).run G.P w = .ok () w:=by unfold eqGuard; rfl
  have hr:(binOp .shr t (.int k a) (.int k' b)).run G.P w = .ok (.int k (a.fdiv (2 ^ (min b.toNat nb)))) w:=by
    subst hb
    simp only [binOp,Op.shift]
    rw [if_neg (by omega)]
    rfl
  simp only [execOp,ho,hf.ev hx,hf.ev hy,Sem.run_bind,hg,Result.andThen_ok,hr,Sem.run_pure]
end
end Go.Tw
set_option linter.unusedVariables false
set_option linter.unusedSimpArgs false
namespace Go.Tw
open Go
def sel (i:Int) (j:Nat) (v e:Int):Int:=if i.toNat=j then v else e
def EP (i:Int) (v:Int):Nat→List Value→List Value
  | j,.int k e::r=> .int k (sel i j v e)::EP i v (j+1) r
  | _,_=>[]
def ints (k:IntKind) (xs:List Int):List Value:=xs.map (Value.int k)
theorem xn (i v:Int) (k:IntKind): ∀ (xs:List Int) (j:Nat),EP i v j (ints k xs)=(ints k xs).mapIdx fun q c=>if i.toNat=j+q then .int k v else c
  | [],j=>rfl
  | x::xs,j=>by
    have ih:=xn i v k xs (j+1)
    show Value.int k (sel i j v x)::EP i v (j+1) (ints k xs)=_
    rw [ih]
    show _=(Value.int k x::ints k xs).mapIdx _
    rw [List.mapIdx_cons]
    congr 1
    · unfold sel
      rw [Nat.add_zero]
      split <;> rfl
    · congr 1
      funext q c
      have:j+1+q=j+(q+1):=by omega
      rw [this]
theorem ER (i v:Int) (k:IntKind) (xs:List Int):EP i v 0 (ints k xs)=(ints k xs).set i.toNat (.int k v):=by
  rw [xn]
  apply List.ext_getElem?
  intro q
  rw [List.getElem?_mapIdx,List.getElem?_set]
  by_cases h:i.toNat=q
  · subst h
    cases hg:(ints k xs)[i.toNat]? with
    | none =>
      have:=List.getElem?_eq_none_iff.1 hg
      simp
      omega
    | some c =>
      have:=(List.getElem?_eq_some_iff.1 hg).1
      simp [this]
  · rw [if_neg h]
    cases hg:(ints k xs)[q]? with
    | none=>rfl
    | some c=>simp [h]
section
variable {G : Pg} {n : Nd} {m : Env} {S : List Ch} {I : List Im} {o : Oper}
theorem Yl.xa {t e N:Nat} {x ix:Operand} {k k2:IntKind} {i r:Int} {cs:Array Value} {ti te:TI} {xs:List Int} (hi:idx xs i=some r) (ho:o.op = .index t x ix) (hx:ev m x=some (.agg cs)) (hcs:cs.toList=ints k xs) (hix:ev m ix=some (.int k2 i)) (ht:bP G.τ t=some ti) (hk:ti.k = .array N e) (hN:xs.length=N) (he:bP G.τ e=some te) (hsz:(Nat.beq te.size 1 && !te.agg)=true):Yl G n m S I o (.int k r):=fun A ac w hf _ _=>by
  obtain ⟨d,f,z,hd,hfi,hkk,_⟩:=G.ok.info ht
  rw [hk] at hkk
  cases hkk
  simp only [Bool.and_eq_true,Bool.not_eq_true'] at hsz
  have hs1:=Nat.eq_of_beq_eq_true hsz.1
  obtain ⟨h0,h1⟩:=bD hi
  have h2:=(List.getElem?_eq_some_iff.1 h1).1
  have hp:(part e cs (i.toNat*te.size)).run G.P w = .ok (.int k r) w:=by
    refine pV G.ok ?_ w
    unfold AG
    rw [he]
    dsimp only
    rw [hsz.2,hs1,Nat.mul_one,hcs]
    show (xs.map (Value.int k))[i.toNat]?=_
    rw [List.getElem?_map,h1]
    rfl
  have hr:(Instr.index t (.agg cs) (.int k2 i)).run G.P w = .ok (.int k r) w:=by
    simp only [Instr.index,asIntOf,Sem.run_bind,Sem.run_pure,Result.andThen_ok,run_underlying hd]
    rw [if_pos ⟨h0,by omega⟩]
    simp only [Sem.run_bind,run_sizeOf G.ok he,Result.andThen_ok,hp]
  simp only [execOp,ho,hf.ev hx,hf.ev hix,Sem.run_bind,hr,Result.andThen_ok,Sem.run_pure]
def ET (i:Int) (N:Nat):Bool:=decide (0≤i∧i < N)
theorem Yl.xp {t e N g off:Nat} {x ix:Operand} {k2:IntKind} {i:Int} {ti te:TI} {u:Unit} (hb:chk (ET i N)=some u) (ho:o.op = .indexAddr t x ix) (hx:ev m x=some (.pointer (some ⟨g,off,none⟩))) (hix:ev m ix=some (.int k2 i)) (ht:bP G.τ t=some ti) (hk:ti.k = .array N e) (he:bP G.τ e=some te) (hsz:Nat.beq te.size 1=true):Yl G n m S I o (.pointer (some ⟨g,off+i.toNat,none⟩)):=fun A ac w hf _ _=>by
  obtain ⟨d,f,z,hd,hfi,hkk,_⟩:=G.ok.info ht
  rw [hk] at hkk
  cases hkk
  have hs1:=Nat.eq_of_beq_eq_true hsz
  have h0:0≤i∧i < N:=dV hb
  have hr:(Instr.indexAt t (.pointer (some ⟨g,off,none⟩)) (.int k2 i)).run G.P w = .ok (.pointer (some ⟨g,off+i.toNat,none⟩)) w:=by
    simp only [Instr.indexAt,asIntOf,Instr.sureAddr,Sem.run_bind,Sem.run_pure,Result.andThen_ok,run_underlying hd]
    rw [if_pos h0]
    simp only [Sem.run_bind,run_sizeOf G.ok he,Result.andThen_ok,Sem.run_pure,add_lit,hs1,Nat.mul_one]
  simp only [execOp,ho,hf.ev hx,hf.ev hix,Sem.run_bind,hr,Result.andThen_ok,Sem.run_pure]
theorem Yl.xl (j:Nat) {t g off T:Nat} {x:Operand} {k:IntKind} {i r:Int} {cs:List Value} {ti:TI} {xs:List Int} (hi:idx xs i=some r) (ho:o.op = .load t x) (hx:ev m x=some (.pointer (some ⟨g,off+i.toNat,none⟩))) (hS:S[j]?=some (Ch.box g T cs)) (hcs:(cs.drop off).take xs.length=ints k xs) (ht:bP G.τ t=some ti) (ha:ti.agg=false):Yl G n m S I o (.int k r):=fun A ac w hf hs _=>by
  have hb:w.heap[g]?=some (.cells cs.toArray T (0,0)):=hs _ (List.mem_of_getElem? hS)
  obtain ⟨h0,h1⟩:=bD hi
  have h2:=(List.getElem?_eq_some_iff.1 h1).1
  have h3:(cs.drop (off+i.toNat))[0]?=some (.int k r):=by
    have h4:((cs.drop off).take xs.length)[i.toNat]?=some (.int k r):=by
      rw [hcs]
      show (xs.map (Value.int k))[i.toNat]?=_
      rw [List.getElem?_map,h1]
      rfl
    rw [List.getElem?_take_of_lt h2,List.getElem?_drop] at h4
    rw [List.getElem?_drop]
    exact h4
  have hv:om G.τ t (cs.drop (off+i.toNat)) 0=some (.int k r):=by
    unfold om
    rw [ht]
    dsimp only
    rw [ha]
    exact h3
  simp only [execOp,ho,hf.ev hx,Instr.loadAt,Instr.sureAddr,Sem.run_bind,Sem.run_pure,Result.andThen_ok]
  rw [kV G.ok hv (fun j u hu=>by rw [sM hb]; simpa using hu)]
  rfl
theorem Ac.sx {t g off N T:Nat} {x y:Operand} {k:IntKind} {i v:Int} {cs cs':List Value} {ti:TI} {u:Unit} (hbd:chk (ET i N)=some u) (xs:List Int) (hN:xs.length=N) (ho:o.op = .store t x y) (hx:ev m x=some (.pointer (some ⟨g,off+i.toNat,none⟩))) (hy:ev m y=some (.int k v)) (hcs:(cs.drop off).take N=ints k xs) (ht:bP G.τ t=some ti) (hsz:Nat.beq ti.size 1=true) (hr0:cs.take off++EP i v 0 ((cs.drop off).take N)++cs.drop (off+N)=cs') :
    Ac G n m o [Ch.box g T cs] [] (fun _:Unit=>undef) (fun _=>[Ch.box g T cs']) (fun _=>[]):=by
  have hs1:=Nat.eq_of_beq_eq_true hsz
  have h0:0≤i∧i < N:=dV hbd
  have hlen:N≤(cs.drop off).length:=by
    have h4:((cs.drop off).take N).length=N:=by
      rw [hcs]
      show (xs.map (Value.int k)).length=N
      rw [List.length_map,hN]
    rw [List.length_take] at h4
    omega
  have hlen2:off+N≤cs.length:=by rw [List.length_drop] at hlen; omega
  have hset:cs'=cs.take (off+i.toNat)++[.int k v]++cs.drop (off+i.toNat+1):=by
    rw [← hr0,hcs,ER,← hcs]
    have h5:cs=cs.take off++((cs.drop off).take N)++cs.drop (off+N):=by
      rw [List.append_assoc,← List.drop_drop,List.take_append_drop,List.take_append_drop]
    have h6:cs.take off++((cs.drop off).take N).set i.toNat (.int k v)++cs.drop (off+N)=cs.set (off+i.toNat) (.int k v):=by
      conv=>rhs; rw [h5]
      have e1:(cs.take off).length=off:=by rw [List.length_take]; omega
      have e2:((cs.drop off).take N).length=N:=by rw [List.length_take]; omega
      rw [List.set_append_left _ _ (by rw [List.length_append,e1,e2]; omega),List.set_append_right _ _ (by rw [e1]; omega),e1]
      congr 3
      omega
    rw [h6,List.set_eq_take_append_cons_drop,if_pos (by omega)]
    simp
  subst hset
  refine Ac.run (v:=fun _=>none) fun A a w hf hs=> ?_
  have hb:w.heap[g]?=some (.cells cs.toArray T (0,0)):=hs.ch _ (List.mem_singleton.2 rfl)
  have hr:=oX G.ok (P:=G.P) (o:=off+i.toNat) (v:= .int k v) ht (by rw [hs1]; rfl) rfl hb (by show off+i.toNat+1≤cs.length; omega)
  have hk:w.grownBy (w.setRow g (cs.take (off+i.toNat)++[Value.int k v]++cs.drop (off+i.toNat+1)).toArray) (some g):=⟨rfl,rfl,rfl,by rw [setRow_size]; exact Nat.le_refl _,fun k _ hk=>setRow_other _ _ _ _ (fun e=>hk (by rw [e]))⟩
  refine ⟨(),w.setRow g (cs.take (off+i.toNat)++[Value.int k v]++cs.drop (off+i.toNat+1)).toArray,A,?_,SS.grown hs hk (fun b e=>(Option.some.inj e).symm) (fun b hb2=>⟨.inl hb2,?_⟩) (setRow_heap w g _ _ T (0,0) hb)⟩
  · have hvc:vc (.int k v)=[.int k v]:=rfl
    rw [hvc] at hr
    simp only [execOp,ho,hf.ev hx,hf.ev hy,Instr.storeAt,Instr.sureAddr,Sem.run_bind,Sem.run_pure,Result.andThen_ok,hr,nx]
    rfl
  · rw [setRow_size]
    obtain rfl:b=g:=hb2
    exact (Array.getElem?_eq_some_iff.1 hb).1
theorem Yl.xg {t e g N:Nat} {x ix:Operand} {k:IntKind} {i:Int} {α:Type} {x0:α} {xs:List α} {ti te:TI} (hi:idx xs i=some x0) (hN:xs.length=N) (ho:o.op = .indexAddr t x ix) (hx:ev m x=some (.pointer (some ⟨g,0,none⟩))) (hix:ev m ix=some (.int k i)) (ht:bP G.τ t=some ti) (hk:ti.k = .array N e) (he:bP G.τ e=some te):Yl G n m S I o (.pointer (some ⟨g,0+i.toNat*te.size,none⟩)):=fun A ac w hf _ _=>by
  obtain ⟨h0,h1⟩:=bD hi
  have h2:=(List.getElem?_eq_some_iff.1 h1).1
  obtain ⟨d,f,z,hd,hfi,hkk,_⟩:=G.ok.info ht
  rw [hk] at hkk
  cases hkk
  have hr:(Instr.indexAt t (.pointer (some ⟨g,0,none⟩)) (.int k i)).run G.P w = .ok (.pointer (some ⟨g,0+i.toNat*te.size,none⟩)) w:=by
    simp only [Instr.indexAt,asIntOf,Instr.sureAddr,Sem.run_bind,Sem.run_pure,Result.andThen_ok,run_underlying hd]
    rw [if_pos ⟨h0,by omega⟩]
    simp only [Sem.run_bind,run_sizeOf G.ok he,Result.andThen_ok,Sem.run_pure,add_lit]
  simp only [execOp,ho,hf.ev hx,hf.ev hix,Sem.run_bind,hr,Result.andThen_ok,Sem.run_pure]
theorem Yl.com {t:Nat} {x:Operand} {k:IntKind} {a c:Int} (hc:(if k.signed then -1 else k.max)=c) (ho:o.op = .unOp .xor t x) (hx:ev m x=some (.int k a)):Yl G n m S I o (.int k (Go.bits .xor k c a)):=fun A ac w hf _ _=>by
  subst hc
  simp only [execOp,ho,hf.ev hx,Op.unary,intBits_xor,Sem.run_bind,Sem.run_pure,Result.andThen_ok]
end
end Go.Tw
set_option linter.unusedVariables false
set_option linter.unusedSimpArgs false
namespace Go.Tw
open Go
def mkv:Bool→List Value→Value
  | true,cs=> .agg cs.toArray
  | false,v::_=>v
  | false,[]=>undef
abbrev Mp (α:Type):=Option (List (Int×α))
section
variable {α : Type}
def mgl (k:Int):List (Int×α)→Option α
  | []=>none
  | (j,x)::l=>if k=j then some x else mgl k l
def msl (k:Int) (x:α):List (Int×α)→List (Int×α)
  | []=>[(k,x)]
  | (j,y)::l=>if k=j then (j,x)::l else (j,y)::msl k x l
def mgd (m:Mp α) (k:Int) (z:α):α:=(mgl k (m.getD [])).getD z
def rX (m:Mp α) (k:Int):Bool:=(mgl k (m.getD [])).isSome
def JF (m:Mp α) (k:Int) (x:α):Mp α:=m.map (msl k x)
end
inductive Ens {α:Type} (d:Ty α) (ag:Bool) (A:eQ) (w:World):List (Int×α)→List MapEntry→Prop where
  | nil:Ens d ag A w [] []
  | cons {k:Int} {x:α} {l:List (Int×α)} {e:MapEntry} {es:List MapEntry} (h:d.Hid) (hk:e.key = .int .i64 k) (hv:e.val=mkv ag (d.cs x h)) (hi: ∀ f∈d.im x h,f.ok A w) (hr:Ens d ag A w l es):Ens d ag A w ((k,x)::l) (e::es)
section
variable {α : Type} {d : Ty α} {ag : Bool} {A A' : eQ} {w w' : World} {l : List (Int × α)} {es : List MapEntry}
theorem Ens.st (hA: ∀ b,A b→A' b) (hw: ∀ b,A b→w'.heap[b]?=w.heap[b]?) (h:Ens d ag A w l es):Ens d ag A' w' l es:=by
  induction h with
  | nil=>exact .nil
  | cons h hk hv hi hr ih=>exact .cons h hk hv (fun f hf=>f.st hA hw (hi f hf)) ih
theorem ma {k j:Int} {e:MapEntry} {es:List MapEntry} {i:Nat} (hk:e.key = .int .i64 j):Instr.findNow (.int .i64) (.int .i64 k) (e::es) i=if k=j then some (some (i,e.val)) else Instr.findNow (.int .i64) (.int .i64 k) es (i+1):=by
  simp only [Instr.findNow,Instr.sameNow,hk,if_true]
  by_cases h:k=j
  · subst h
    simp
  · rw [if_neg h]
    have:(k == j)=false:=by simpa using h
    rw [this]
theorem Ens.find (h:Ens d ag A w l es) (k:Int): ∀ i,(Instr.findNow (.int .i64) (.int .i64 k) es i=some none∧mgl k l=none) ∨ ∃ j e x,Instr.findNow (.int .i64) (.int .i64 k) es i=some (some (i+j,e.val))∧es[j]?=some e∧e.key = .int .i64 k∧mgl k l=some x ∧ ∃ hd,e.val=mkv ag (d.cs x hd) ∧ ∀ f∈d.im x hd,f.ok A w:=by
  induction h with
  | nil=>intro i; exact .inl ⟨rfl,rfl⟩
  | @cons j x l e es h hk hv hi hr ih =>
    intro i
    by_cases hkj:k=j
    · subst hkj
      refine .inr ⟨0,e,x,?_,rfl,hk,by simp [mgl],h,hv,hi⟩
      rw [ma hk,if_pos rfl]
      rfl
    · rcases ih (i+1) with ⟨h1,h2⟩ | ⟨j',e',x',h1,h2,h3,h4,h5⟩
      · refine .inl ⟨?_,by simp [mgl,hkj,h2]⟩
        rw [ma hk,if_neg hkj]
        exact h1
      · refine .inr ⟨j'+1,e',x',?_,by simpa using h2,h3,by simp [mgl,hkj,h4],h5⟩
        rw [ma hk,if_neg hkj,h1]
        congr 3
        omega
theorem Ens.push (h:Ens d ag A w l es) {k:Int} {x:α} {e:MapEntry} (hd:d.Hid) (hk:e.key = .int .i64 k) (hv:e.val=mkv ag (d.cs x hd)) (hi: ∀ f∈d.im x hd,f.ok A w) (hn:mgl k l=none):Ens d ag A w (msl k x l) (es++[e]):=by
  induction h with
  | nil=>exact .cons hd hk hv hi .nil
  | @cons j y l e' es h hk' hv' hi' hr ih =>
    have hkj:k≠j:=fun e=>by simp [mgl,e] at hn
    have hn':mgl k l=none:=by simpa [mgl,hkj] using hn
    simp only [msl,if_neg hkj,List.cons_append]
    exact .cons h hk' hv' hi' (ih hn')
theorem Ens.at_ (h:Ens d ag A w l es) {k:Int}: ∀ i j e x,Instr.findNow (.int .i64) (.int .i64 k) es i=some (some (i+j,e)) → ∀ (e2:MapEntry→MapEntry) (hd:d.Hid),(∀ e0,(e2 e0).val=mkv ag (d.cs x hd))→(∀ e0,e0.key = .int .i64 k→(e2 e0).key = .int .i64 k)→(∀ f∈d.im x hd,f.ok A w)→Ens d ag A w (msl k x l) (es.modify j e2):=by
  induction h with
  | nil=>intro i j e x h1; simp [Instr.findNow] at h1
  | @cons k' y l e' es h hk' hv' hi' hr ih =>
    intro i j e x h1 e2 hd hv2 hk2 hi2
    by_cases hkj:k=k'
    · subst hkj
      rw [ma hk',if_pos rfl] at h1
      injection h1 with h1
      injection h1 with h1
      injection h1 with h1 _
      obtain rfl:j=0:=by omega
      simp only [msl,if_pos,List.modify_cons,if_true]
      exact .cons hd (hk2 _ hk') (hv2 _) hi2 hr
    · rw [ma hk',if_neg hkj] at h1
      cases j with
      | zero =>
        exfalso
        have key: ∀ (es:List MapEntry) (i n:Nat) (v:Value),Instr.findNow (.int .i64) (.int .i64 k) es i=some (some (n,v))→i≤n:=by
          intro es
          induction es with
          | nil=>intro i n v h; simp [Instr.findNow] at h
          | cons e es ih =>
            intro i n v h
            simp only [Instr.findNow] at h
            split at h
            · simp at h; omega
            · have:=ih _ _ _ h; omega
            · cases h
        have:=key _ _ _ _ h1
        omega
      | succ j =>
        have e3:i+(j+1)=i+1+j:=by omega
        rw [e3] at h1
        simp only [msl,if_neg hkj,List.modify_succ_cons]
        exact .cons h hk' hv' hi' (ih (i+1) j e x h1 e2 hd hv2 hk2 hi2)
end
def Ch.mp {α:Type} (d:Ty α) (ag:Bool) (v:Option Nat) (m:Mp α):Ch where
  blk:=fun b=>v=some b
  ok:=fun A w=>(v=none∧m=none) ∨ ∃ g l es clock,v=some g∧m=some l∧w.heap[g]?=some (.map es clock)∧Ens d ag A w l es.toList∧MapKept.Stamped es clock
  st:=by
    rintro A A' w w' hA hw hb (h | ⟨g,l,es,clock,rfl,rfl,h1,h2,h3⟩)
    · exact .inl h
    · exact .inr ⟨g,l,es,clock,rfl,rfl,(hb g rfl).trans h1,h2.st hA hw,h3⟩
def Hh (P:Program) (T:Nat) (ag:Bool):Bool:=match P.info? T with
  | some i=>match i.zero with
    | some (.agg _)=>ag
    | some _=> !ag
    | none=>false
  | none=>false
theorem JG {P:Program} {T:Nat} {ag:Bool} (h:Hh P T ag=true) {i:TypeInfo} {z:Value} (hi:P.info? T=some i) (hz:i.zero=some z):z=mkv ag z.cells.toList:=by
  unfold Hh at h
  rw [hi] at h
  dsimp only at h
  rw [hz] at h
  cases z <;> simp at h <;> subst h <;> rfl
section
variable {G : Pg} {n : Nd} {m : Env} {o : Oper} {S : List Ch} {I : List Im} {α : Type} {ty : Ty α} {ag : Bool} {v : Option Nat} {mp : Mp α}
theorem run_checkKey {P:Program} {t:Nat} {k:Int} {b:Bool} (h:P.underlying t=some (.int .i64)) (w:World):(Instr.checkKey b 10000 t (.int .i64 k)).run P w = .ok () w:=by
  exact MapKept.run_checkKey (d:= .int .i64) h (by simp [MapKept.IsKey]) b 9999
theorem run_findKey {P:Program} {t:Nat} {k:Int} {es:List MapEntry} {r:Option (Nat×Value)} (h:P.underlying t=some (.int .i64)) (hr:Instr.findNow (.int .i64) (.int .i64 k) es 0=some r) (w:World):(Instr.findKey t (.int .i64 k) es).run P w = .ok r w:=by
  simp [Instr.findKey,run_underlying h,Result.andThen,hr]
theorem Ac.mkm {t kt e:Nat} {ti:TI} (ho:o.op = .makeMap t none) (ht:bP G.τ t=some ti) (hk:ti.k = .map kt e) :
    Ac G n m o [] [] (fun g:Nat=> .map (some g)) (fun g=>[Ch.mp ty ag (some g) (some [])]) (fun _=>[]):=by
  refine Ac.run (v:=fun g:Nat=>some (.map (some g))) fun A a w hf hs=> ?_
  refine ⟨w.heap.size,w.alloc (.map #[] 0),A,?_,?_⟩
  · simp only [execOp,ho,Instr.makeMap,Option.map_none,Sem.run_bind,Sem.run_pure,Result.andThen_ok,nx]
    rfl
  · refine SS.fresh (w':=w.alloc (.map #[] 0)) (o:= .map #[] 0) hs.lt rfl rfl rfl rfl (Ch.mp ty ag (some w.heap.size) (some [])) (fun b hb=>(Option.some.inj hb).symm) ?_
    exact .inr ⟨w.heap.size,[],#[],0,rfl,rfl,heap_alloc_new w _,.nil,MapKept.stamped_empty 0⟩
theorem Ac.ml {vv:ty.Hid→Value} (k:Int) (x0:α) (h0:ty.Hid) {t kt e:Nat} {x ix:Operand} {ti tk te:TI} (ho:o.op = .lookup t x ix true) (hx:ev m x=some (.map v)) (hix:ev m ix=some (.int .i64 k)) (ht:bP G.τ t=some ti) (hk:ti.k = .map kt e) (htk:bP G.τ kt=some tk) (hkk:tk.k = .int .i64) (he:bP G.τ e=some te) (hz0:te.zero=ty.cs x0 h0) (hfree: ∀ A w,∀ f∈ty.im x0 h0,f.ok A w) (hz:Hh G.P e ag=true) (hvv: ∀ hd,mkv ag (ty.cs (mgd mp k x0) hd)=vv hd) :
    Ac G n m o [Ch.mp ty ag v mp] [] (fun hd=> .tuple #[vv hd,.bool (rX mp k)]) (fun _=>[Ch.mp ty ag v mp]) (fun hd=>ty.im (mgd mp k x0) hd):=by
  obtain rfl:vv=fun hd=>mkv ag (ty.cs (mgd mp k x0) hd):=funext fun hd=>(hvv hd).symm
  refine Ac.run (v:=fun hd=>some (.tuple #[mkv ag (ty.cs (mgd mp k x0) hd),.bool (rX mp k)])) fun A a w hf hs=> ?_
  have hok:=hs.ch _ (List.mem_singleton.2 rfl)
  obtain ⟨dd,f,z0,hdd,hfi,hkt,_⟩:=G.ok.info ht
  rw [hk] at hkt
  cases hkt
  obtain ⟨dk,fk,zk,hdk,_,hkk2,_⟩:=G.ok.info htk
  rw [hkk] at hkk2
  cases hkk2
  obtain ⟨de,fe,ze,hde,hfe,_,hfs,hfb,hfz,hzc,_⟩:=G.ok.info he
  have hzv:ze=mkv ag (ty.cs x0 h0):=by rw [← hz0,← hzc]; exact JG hz hfe hfz
  have hzr:(zeroValue e).run G.P w = .ok (mkv ag (ty.cs x0 h0)) w:=by
    rw [← hzv]
    simp [zeroValue,typeInfo,hfe,hfz,Result.andThen]
  have same:SS ⟨w,A,Own [Ch.mp ty ag v mp]⟩ A [Ch.mp ty ag v mp] [] w:=SS.grown hs (ob:=none) ⟨rfl,rfl,rfl,Nat.le_refl _,fun _ _ _=>rfl⟩ (fun _ e=>nomatch e) (fun b hb=>⟨.inl hb,(hs.own _ (List.mem_singleton.2 rfl) b hb).1⟩) hok
  rcases hok with ⟨rfl,rfl⟩ | ⟨g,l,es,clock,rfl,rfl,h1,h2,h3⟩
  · have e9:mgd (none:Mp α) k x0=x0:=rfl
    have h9:SS ⟨w,A,Own [Ch.mp ty ag none none]⟩ A [Ch.mp ty ag none none] (ty.im (mgd (none:Mp α) k x0) h0) w:=by
      rw [e9]
      simpa using same.jf (J:=ty.im x0 h0) (hfree _ _)
    refine ⟨h0,w,A,?_,h9⟩
    simp [execOp,ho,hf.ev hx,hf.ev hix,Instr.lookup,run_underlying hdd,run_checkKey hdk,run_findKey hdk (es:=[]) (r:=none) rfl,hzr,Result.andThen,nx,mgd,rX,mgl]
  · rcases h2.find k 0 with ⟨h4,h5⟩ | ⟨j,e1,x1,h4,h5,h6,h7,hd,h8,h9⟩
    · refine ⟨h0,w,A,?_,?_⟩
      · simp [execOp,ho,hf.ev hx,hf.ev hix,Instr.lookup,run_underlying hdd,MapKept.run_getObj_map h1,run_checkKey hdk,run_findKey hdk h4,hzr,Result.andThen,nx,mgd,rX,h5]
      · have e9:mgd (some l) k x0=x0:=by simp [mgd,h5]
        rw [e9]
        simpa using same.jf (J:=ty.im x0 h0) (hfree _ _)
    · refine ⟨hd,w,A,?_,?_⟩
      · simp [execOp,ho,hf.ev hx,hf.ev hix,Instr.lookup,run_underlying hdd,MapKept.run_getObj_map h1,run_checkKey hdk,run_findKey hdk h4,Result.andThen,nx,mgd,rX,h7,h8]
      · have e9:mgd (some l) k x0=x1:=by simp [mgd,h7]
        rw [e9]
        simpa using same.jf (J:=ty.im x1 hd) h9
theorem EU {A:eQ} {w:World} {J:List Im} {g:Nat} {l l':List (Int×α)} {es es':Array MapEntry} {clock clock':Nat} (hs:St A [Ch.mp ty ag (some g) (some l)] J w) (hb:w.heap[g]?=some (.map es clock)) (he:Ens ty ag A w l' es'.toList) (hst:MapKept.Stamped es' clock') :
    SS ⟨w,A,Own [Ch.mp ty ag (some g) (some l)]⟩ A [Ch.mp ty ag (some g) (some l')] [] { w with heap:=w.heap.setIfInBounds g (.map es' clock') }:=by
  have hlt:g < w.heap.size:=(Array.getElem?_eq_some_iff.1 hb).1
  have hA: ¬ A g:=(hs.own _ (List.mem_singleton.2 rfl) g rfl).2
  have h2:=MapKept.heap_set (o':= .map es' clock') hb
  refine SS.grown hs (ob:=some g) ⟨rfl,rfl,rfl,by simp,fun k hk hne=>h2.2 k (fun e=>hne (by rw [e]))⟩ (fun b e=>e) (fun b hb2=>⟨.inl hb2,?_⟩) ?_
  · injection hb2 with hb2
    subst hb2
    simpa using hlt
  · exact .inr ⟨g,l',es',clock',rfl,rfl,h2.1,he.st (fun _ h=>h) (fun b hb3=>h2.2 b (fun e=>hA (e ▸ hb3))),hst⟩
theorem Ac.mu (k:Int) (x1:α) (hd:ty.Hid) {J:List Im} {t kt e:Nat} {x ix y:Operand} {ti tk:TI} {u:Unit} (hn:chk mp.isSome=some u) (ho:o.op = .mapUpdate t x ix y∨o.op = .insert t x ix y) (hx:ev m x=some (.map v)) (hix:ev m ix=some (.int .i64 k)) (hy:ev m y=some (mkv ag (ty.cs x1 hd))) (ht:bP G.τ t=some ti) (hk:ti.k = .map kt e) (htk:bP G.τ kt=some tk) (hkk:tk.k = .int .i64) (hJ:J=ty.im x1 hd) :
    Ac G n m o [Ch.mp ty ag v mp] J (fun _:Unit=>undef) (fun _=>[Ch.mp ty ag v (JF mp k x1)]) (fun _=>[]):=by
  subst hJ
  refine Ac.run (v:=fun _=>none) fun A a w hf hs=> ?_
  have hrun:execOp a.eval o=(do Instr.mapUpdate t (a.eval x) (a.eval ix) (a.eval y); pure .skip):=by rcases ho with ho | ho <;> simp only [execOp,ho] <;> rfl
  have hok:=hs.ch _ (List.mem_singleton.2 rfl)
  obtain ⟨dd,f,z0,hdd,hfi,hkt,_⟩:=G.ok.info ht
  rw [hk] at hkt
  cases hkt
  obtain ⟨dk,fk,zk,hdk,_,hkk2,_⟩:=G.ok.info htk
  rw [hkk] at hkk2
  cases hkk2
  have hkey:MapKept.IsKey (.int .i64) (.int .i64 k):=rfl
  rcases hok with ⟨rfl,rfl⟩ | ⟨g,l,es,clock,rfl,rfl,h1,h2,h3⟩
  · exact absurd hn (by simp [chk])
  · rcases h2.find k 0 with ⟨h4,h5⟩ | ⟨j,e1,x2,h4,h5,h6,h7,hd2,h8,h9⟩
    · have hne: ∀ y∈es.toList,y.key ≠ .int .i64 k:=by
        intro y hy e
        have key: ∀ {l:List (Int×α)} {es:List MapEntry},Ens ty ag A w l es→mgl k l=none → ∀ y∈es,y.key ≠ .int .i64 k:=by
          intro l es h
          induction h with
          | nil=>intro _ y hy; cases hy
          | @cons j x l e es h hk hv hi hr ih =>
            intro hn y hy
            have hkj:k≠j:=fun e=>by simp [mgl,e] at hn
            have hn':mgl k l=none:=by simpa [mgl,hkj] using hn
            rcases List.mem_cons.1 hy with rfl | hy
            · rw [hk]; intro e; injection e with _ e; exact hkj e.symm
            · exact ih hn' y hy
        exact key h2 h5 y hy e
      refine ⟨(),_,A,?_,EU hs h1 (es':=es.push { key:= .int .i64 k,val:=mkv ag (ty.cs x1 hd),born:=clock }) (clock':=clock+1) ?_ (MapKept.stamped_push h3 hne)⟩
      · simp [hrun,hf.ev hx,hf.ev hix,hf.ev hy,Instr.mapUpdate,run_underlying hdd,MapKept.run_getObj_map h1,run_checkKey hdk,run_findKey hdk h4,MapKept.run_setObj_map _ h1,Result.andThen,nx]
      · rw [Array.toList_push]
        exact h2.push hd rfl rfl hs.im h5
    · have hj:es[j]?=some e1:=by simpa using h5
      simp only [Nat.zero_add] at h4
      refine ⟨(),_,A,?_,EU hs h1 (es':=es.modify j fun e=>{ e with key:= .int .i64 k,val:=mkv ag (ty.cs x1 hd) }) (clock':=clock) ?_ (MapKept.stamped_modify h3 _ _ (fun _ _=>rfl) (fun e' _ he'=>by rw [hj] at he'; cases he'; exact h6.symm))⟩
      · simp [hrun,hf.ev hx,hf.ev hix,hf.ev hy,Instr.mapUpdate,run_underlying hdd,MapKept.run_getObj_map h1,run_checkKey hdk,run_findKey hdk h4,hj,h6,MapKept.run_keyThatStays hkey,MapKept.run_setObj_map _ h1,Result.andThen,nx]
      · rw [Array.toList_modify]
        exact h2.at_ 0 j _ x1 (by rw [Nat.zero_add]; exact h4) _ hd (fun _=>rfl) (fun _ _=>rfl) hs.im
end
section
variable {G : Pg} {n : Nd} {K : Key} {Q : Exit → Act → World → Prop} {m : Env} {S : List Ch} {I : List Im} {α : Type} (ty : Ty α) (ag : Bool)
end
end Go.Tw
set_option linter.unusedVariables false
set_option linter.unusedSimpArgs false
namespace Go.Tw
open Go
section
variable {α : Type} {ty : Ty α} {A : eQ} {w : World} {xs ys : List α} {T : Nat} {a0 a1 : Option Addr} {c c1 : Nat}
end
section
variable {G : Pg} {n : Nd} {K : Key} {Q : Exit → Act → World → Prop} {m : Env} {S : List Ch} {I : List Im} {ops : Array Oper} {α : Type} {ty : Ty α} {xs : List α} {a0 : Option Addr} {c0 T0 : Nat}
theorem Bw.bx (i:Nat) {g T:Nat} {cs:List Value} {J:List Im} (hS:S[i]?=some (Ch.box g T cs)) (h:Bw S I J):Bw S I (Im.cells g 0 cs::J):=fun A w hs=>by
  obtain ⟨A',h1,h2⟩:=h A w hs
  have hc:=List.mem_of_getElem? hS
  have hk:=hs.ch _ hc
  refine ⟨fun b=>A' b∨b=g,fun b hb=> .inl (h1 b hb),?_,(fun _ h=>by cases h),(fun _ h=>by cases h),List.Pairwise.nil,fun f hg=> ?_⟩
  · rintro b (hb | hb)
    · exact h2.lt b hb
    · exact (hs.own _ hc b hb).1
  · rcases List.mem_cons.1 hg with rfl | hg
    · refine ⟨.inr rfl,fun j u hu=> ?_⟩
      rw [Nat.zero_add,sM hk]
      exact hu
    · exact f.st (fun b hb=> .inl hb) (fun _ _=>rfl) (h2.im f hg)
end
section
variable {G : Pg} {n : Nd} {K : Key} {Q : Exit → Act → World → Prop} {m : Env} {S : List Ch} {I : List Im} {ops : Array Oper} {α : Type} {ty : Ty α} {xs : List α}
theorem SS.JH {A:eQ} {w:World} (i T0:Nat) (hI:I[i]?=some (Im.sl ty none 0 xs)) (h:SS K A S I w):SS K A (Ch.arr ty T0 none 0 xs::S) I w:=by
  have h1:=(h.st.im _ (List.mem_of_getElem? hI)).1
  obtain rfl:xs=[]:=List.eq_nil_of_length_eq_zero (Nat.le_zero.1 h1)
  exact h.iM
theorem L.JH {l:List Oper} (i T0:Nat) (hI:I[i]?=some (Im.sl ty none 0 xs)) (h:L G n K ops Q l m (Ch.arr ty T0 none 0 xs::S) I):L G n K ops Q l m S I:=fun A a w hf hs=>h A a w hf (hs.JH i T0 hI)
end
section
variable {G : Pg} {n : Nd} {m : Env} {S : List Ch} {I : List Im} {o : Oper} {α : Type} {ty : Ty α} {xs ys : List α} {a0 a1 : Option Addr} {c c1 : Nat}
end
section
variable {G : Pg} {n : Nd} {m : Env} {o : Oper} {α : Type} {ty : Ty α} {xs : List α}
end
section
variable {G : Pg} {n : Nd} {m : Env} {o : Oper} {S : List Ch} {I : List Im}
theorem Ac.q {v:Value} (h:qx G.τ m o.op=some v):Ac G n m o [] [] (fun _:Unit=>v) (fun _=>[]) (fun _=>[]):=by
  refine Ac.run (v:=fun _=>some v) fun A a w hf hs=> ?_
  exact ⟨(),w,A,BL G.ok hf h w,SS.start hs⟩
end
end Go.Tw
set_option linter.unusedVariables false
set_option linter.unusedSimpArgs false
namespace Go.Tw
open Go
theorem EV {L Sp:List Ch} {I:List Im}:Own [Ch.pk (L++Sp) I]=Own (Ch.pk L I::Sp):=by
  funext b
  apply propext
  rw [x6,x6,List.append_nil]
theorem YT.LV {η:Type} {G:Pg} {yl:Nat} {args:List Value} {af:List Im} {val:η→Value} (L:List Ch) (I:List Im) (L':η→List Ch) (I':η→List Im) (Sp:List Ch)
    (h:YT G yl args [Ch.pk (L++Sp) I] af val (fun h'=>[Ch.pk (L' h'++Sp) (I' h')]) (fun _=>[])):YT G yl args (Ch.pk L I::Sp) af val (fun h'=>Ch.pk (L' h') (I' h')::Sp) (fun _=>[]):=by
  intro A w hs
  have s1:=SS.unpack (SS.start hs)
  have s2:SS ⟨w,A,Own (Ch.pk L I::Sp)⟩ A [Ch.pk (L++Sp) I] af w:=SS.pack (R:=[]) (by rw [List.append_nil]; exact s1)
  obtain ⟨fn,tmps,assign,body,h1,h2⟩:=h A w s2.st
  refine ⟨fn,tmps,assign,body,h1,RoundIn.mono h2 ?_⟩
  rintro e w' ⟨x,A',he,h3⟩
  rw [EV] at h3
  have h4:=SS.unpack h3
  rw [List.append_nil] at h4
  exact ⟨x,A',he,SS.pack h4⟩
section
variable {σ η : Type}
variable {G : Pg} {n : Nd} {K : Key} {Q : Exit → Act → World → Prop} {m : Env} {S : List Ch} {I : List Im} {SL : σ → η → List Ch} {IL : σ → η → List Im} {jp : σ → Option Code} {z : σ × Bool} {body : Code}
end
section
variable {σ η X θ τ : Type} {G : Pg} {n : Nd} {K : Key} {Q : Exit → Act → World → Prop} {m : Env} {S : List Ch} {I : List Im} {body : Code}
end
end Go.Tw
set_option linter.unusedVariables false
set_option linter.unusedSimpArgs false
namespace Go.Tw
open Go
section
variable {G : Pg} {n : Nd} {K : Key} {Q : Exit → Act → World → Prop} {m : Env} {S C V : List Ch} {I : List Im} {ops : List Oper} {late l : List Nat} {o : Oper}
theorem Dp.ab {i:Nat} (is js ks:List Nat) {d:Option Nat} {Sp R:List Ch} {J:List Im} {σ:Type} {v:σ→Value} {S' V':σ→List Ch} {I':σ→List Im} (hA:Ac G n m o Sp J v S' I') (hi:ops[i]?=some o) (hw:wg ops m o=some true) (hd:o.dst=d) (hn:dok d n.n=true) (hS:ext (C++V) is=some (Sp,R)) (hJ:pick I js=some J) (hB: ∀ x,ext (S' x++R) ks=some (C,V' x))
    (h: ∀ x,D G n K Q ops late (i::l) C (na d (v x) m) (V' x) (I' x++I)):Dp G n K Q ops late l i C m V I:=by
  intro A a w fuel hfu hf hs
  have hi':ops.toArray[i]?=some o:=by simpa using hi
  unfold wpOp
  simp only [hi']
  rw [if_pos (lD hw hf)]
  left
  have hs':=hs.perm (cU hS) (fun i hi=>hi)
  refine (hA A a w _ (NP Q) hf (hs'.st.left (eR hJ)) fun x w' A' h2=> ?_).1
  have h3:=hs'.frame h2
  have h4:=h3.perm (cU (hB x)) (fun i hi=>hi)
  refine ⟨WS C (I' x++I),.inr fun w ⟨A,h1,h2⟩=>⟨A,h1,fun f hf=>h2 f (List.mem_append_right _ hf)⟩,h4.ws,?_⟩
  rw [nj,hd]
  exact h x A' _ w' fuel (by simp only [List.length_cons]; omega) (hf.uX hn _) h4
theorem D.rsl (i:Nat) {α:Type} {ty:Ty α} {xs:List α} {a0:Option Addr} {c:Nat} (k:Nat) {d t e:Nat} {x:Operand} {lo hi:Option Operand} {lv hv:Int} {ti te:TI} {u:Unit} (hk0:chk (dB lv hv xs.length)=some u) (hi':ops[k]?=some o) (hc':vL ops late l k=true) (hw:wg ops m o=some true) (hd:o.dst=some d) (hn:dok (some d) n.n=true) (ho:o.op = .slice t x lo hi none) (hx:ev m x=some (.slice a0 xs.length c)) (hlo:evb m lo 0=some lv) (hhi:evb m hi xs.length=some hv) (hI:I[i]?=some (Im.sl ty a0 c xs)) (ht:bP G.τ t=some ti) (hk:ti.k = .slice e) (he:bP G.τ e=some te) (hsz:te.size=ty.sz)
    (h: ∀ a1 c1,D G n K Q ops late (k::l) C ((d,.slice a1 (cut xs lv hv).length c1)::m) V (Im.sl ty a1 c1 (cut xs lv hv)::I)):D G n K Q ops late l C m V I:=by
  refine D.put (v:= .slice (jI a0 c lv ty.sz) (cut xs lv hv).length (c - lv.toNat)) (S0:=fun _=>True) k hi' hc' (.inl fun _=>trivial) (fun _ _=>trivial) hd hn (fun A a w hf hs=> .inl ⟨lD hw hf,fun w' _=> ?_⟩) (D.jf [_] (fun A w _ hI' f hf'=> ?_) (h _ _))
  · obtain ⟨h0,h1,h2⟩:=dV hk0
    have hle:=(hs.st.im _ (List.mem_of_getElem? hI)).1
    have hr:=mG (P:=G.P) (w:=w') G.ok hf ht hk he hlo hhi h0 h1 (by omega:hv≤(c:Int)) a0
    rw [fS ⟨h0,h1,h2⟩,jI,← hsz]
    simp only [execOp,ho,hf.ev hx,Option.map_none,Sem.run_bind,hr,Result.andThen_ok,Sem.run_pure]
  · rw [List.mem_singleton.1 hf']
    exact BP hk0 (hI' _ (List.mem_of_getElem? hI))
end
end Go.Tw
set_option linter.unusedVariables false
set_option linter.unusedSimpArgs false
namespace Go.Tw
open Go
theorem sm {α:Type _} {a b:α} (h:some a=some b):a=b:=Option.some.inj h
theorem sP {m:Env}: ∀ {M:Env},M.map (fun p=>look m p.1)=M.map (fun p=>some p.2)→vm m M
  | [],_=>trivial
  | (i,v)::M,h=>by
    simp only [List.map_cons,List.cons.injEq] at h
    exact ⟨h.1,sP h.2⟩
section
variable {G : Pg} {n : Nd} {K : Key} {Q : Exit → Act → World → Prop} {m : Env} {S : List Ch} {I : List Im} {ops : Array Oper} {o : Oper} {l : List Oper}
theorem Ln (h:E n K Q .normal m S I):L G n K ops Q [] m S I:=L.nil h
theorem Et {y:Code} (h:Tw.T G n K Q y m S I):E n K (Exit.then (y.wpIn G.F 0 G.P Q) Q) .normal m S I:=E.then h
theorem Ts {x y:Code} (h:Tw.T G n K (Exit.then (y.wpIn G.F 0 G.P Q) Q) x m S I):Tw.T G n K Q (.seq x y) m S I:=T.seq h
theorem Tr {id:Nat} {l:List Oper} (h:L G n K l.toArray Q l m S I):Tw.T G n K Q (.region id l.toArray false) m S I:=T.region h
theorem Tk (h:E n K Q .normal m S I):Tw.T G n K Q .skip m S I:=T.skip h
theorem Tv (h:E n K Q .ret m S I):Tw.T G n K Q .ret m S I:=T.ret h
theorem Tx {id:Nat} (h:E n K Q (.exit id) m S I):Tw.T G n K Q (.exit id) m S I:=T.exit h
theorem Tl {id:Nat} {c:Code} (h:Tw.T G n K (Exit.inBlock id Q) c m S I):Tw.T G n K Q (.block id c) m S I:=T.block h
theorem Ex {y:Act→World→Prop} {id:Nat} (h:E n K Q (.exit id) m S I):E n K (Exit.then y Q) (.exit id) m S I:=E.AE h
theorem Er {y:Act→World→Prop} (h:E n K Q .ret m S I):E n K (Exit.then y Q) .ret m S I:=E.pU h
theorem Eb {id:Nat} (h:E n K Q .normal m S I):E n K (Exit.inBlock id Q) .normal m S I:=E.block h
theorem Eh {id:Nat} (h:E n K Q .normal m S I):E n K (Exit.inBlock id Q) (.exit id) m S I:=E.AF h
theorem Ev {id:Nat} (h:E n K Q .ret m S I):E n K (Exit.inBlock id Q) .ret m S I:=E.De h
theorem Tra {id:Nat} {l:List Oper} (h:L G n K ops Q l m S I) (h0:ops.toList=l:=by exact rfl):Tw.T G n K Q (.region id ops false) m S I:=T.LS h0 h
theorem Lq (k:Nat) {l l':List Oper} {m':Env} (hl:L G n K ops Q l' m' S I) (h:AH G.τ n.n ops.toList k l m=some (m',l'):=by exact rfl):L G n K ops Q l m S I:=u6 h hl
theorem Ly {d:Nat} {v:Value} (hy:Yl G n m S I o v) (h:L G n K ops Q l ((d,v)::m) S I) (hw:wg ops.toList m o=some true:=by exact rfl) (hd:o.dst=some d:=by exact rfl) (hn:Nat.blt d n.n=true:=by exact rfl):L G n K ops Q (o::l) m S I:=L.y hy hw hd hn h
theorem Lb (i:Nat) {d:Nat} {t g o' T:Nat} {x:Operand} {cs:List Value} {v:Value} (h:L G n K ops Q l ((d,v)::m) S I) (ho:o.op = .load t x:=by exact rfl) (hx:ev m x=some (.pointer (some ⟨g,o',none⟩)):=by exact rfl) (hS:S[i]?=some (Ch.box g T cs):=by exact rfl) (hv:om G.τ t (cs.drop o') 0=some v:=by exact rfl) (hw:wg ops.toList m o=some true:=by exact rfl) (hd:o.dst=some d:=by exact rfl) (hn:Nat.blt d n.n=true:=by exact rfl):L G n K ops Q (o::l) m S I:=L.y (Yl.ldb i ho hx hS hv) hw hd hn h
theorem Lc (i k:Nat) {d:Nat} {t b off:Nat} {x:Operand} {vs:List Value} {v:Value} (h:L G n K ops Q l ((d,v)::m) S I) (ho:o.op = .load t x:=by exact rfl) (hx:ev m x=some (.pointer (some ⟨b,off+k,none⟩)):=by exact rfl) (hI:I[i]?=some (Im.cells b off vs):=by exact rfl) (hv:om G.τ t (vs.drop k) 0=some v:=by exact rfl) (hw:wg ops.toList m o=some true:=by exact rfl) (hd:o.dst=some d:=by exact rfl) (hn:Nat.blt d n.n=true:=by exact rfl):L G n K ops Q (o::l) m S I:=L.y (Yl.ldc i k ho hx hI hv) hw hd hn h
theorem La (is js:List Nat) {d:Option Nat} {Sp R:List Ch} {J:List Im} {σ:Type} {v:σ→Value} {S':σ→List Ch} {I':σ→List Im} (hA:Ac G n m o Sp J v S' I') (h: ∀ x,L G n K ops Q l (na d (v x) m) (S' x++R) (I' x++I)) (hw:wg ops.toList m o=some true:=by exact rfl) (hd:o.dst=d:=by exact rfl) (hn:dok d n.n=true:=by exact rfl) (hS:ext S is=some (Sp,R):=by exact rfl) (hJ:pick I js=some J:=by exact rfl):L G n K ops Q (o::l) m S I:=L.a is js hA hw hd hn hS hJ h
theorem Lk (is js:List Nat) {d:Option Nat} {R:List Ch} {σ:Type} {f:FuncId} {fo:Operand} {as:Array Operand} {ts:Array Nat} {vs args:List Value} {a1 a2:Array Value} {Sp:List Ch} {J:List Im} {val:σ→Value} {S':σ→List Ch} {I':σ→List Im} (hC:CT G f args Sp J val S' I') (h: ∀ x,L G n K ops Q l (na d (val x) m) (S' x++R) (I' x++I)) (ho:o.op = .call { callee:= .value fo,args:=as,argTypes:=ts }:=by exact rfl) (hfo:ev m fo=some (.func (.func f) a1 a2):=by exact rfl) (ha:evl m as.toList=some vs:=by exact rfl) (hargs:a1.toList++vs++a2.toList=args:=by exact rfl) (hw:wg ops.toList m o=some true:=by exact rfl) (hd:o.dst=d:=by exact rfl) (hn:dok d n.n=true:=by exact rfl) (hS:ext S is=some (Sp,R):=by exact rfl) (hJ:pick I js=some J:=by exact rfl):L G n K ops Q (o::l) m S I:=L.a is js (Ac.call hC ho hfo ha hargs) hw hd hn hS hJ h
theorem Lt (i:Nat) {R:List Ch} {d:Option Nat} {t g o' T:Nat} {x y:Operand} {cs cs':List Value} {v:Value} {ti:TI} (h:L G n K ops Q l (na d undef m) (Ch.box g T cs'::R) I) (ho:o.op = .store t x y:=by exact rfl) (hx:ev m x=some (.pointer (some ⟨g,o',none⟩)):=by exact rfl) (hy:ev m y=some v:=by exact rfl) (hi:bP G.τ t=some ti:=by exact rfl) (hc:(Nat.beq (vc v).length ti.size && (vc v).all Value.oneCell')=true:=by exact rfl) (hS:ext S [i]=some ([Ch.box g T cs],R):=by exact rfl) (hr0:wr cs o' (vc v)=some cs':=by exact rfl) (hw:wg ops.toList m o=some true:=by exact rfl) (hd:o.dst=d:=by exact rfl) (hn:dok d n.n=true:=by exact rfl):L G n K ops Q (o::l) m S I:=L.a [i] [] (Ac.stb ho hx hy hi hc hr0) hw hd hn hS rfl fun _=>h
theorem Ll {d:Option Nat} {T:Nat} {ti:TI} (h: ∀ g:Nat,L G n K ops Q l (na d (.pointer (some ⟨g,0,none⟩)) m) (Ch.box g T ti.zero::S) I) (ho:o.op = .alloc T:=by exact rfl) (hi:bP G.τ T=some ti:=by exact rfl) (hw:wg ops.toList m o=some true:=by exact rfl) (hd:o.dst=d:=by exact rfl) (hn:dok d n.n=true:=by exact rfl):L G n K ops Q (o::l) m S I:=L.a [] [] (Ac.alloc ho hi) hw hd hn rfl rfl h
theorem Lx {d:Option Nat} {T:Nat} {x:Operand} {v:Value} (h: ∀ g:Nat,L G n K ops Q l (na d (.pointer (some ⟨g,0,none⟩)) m) (Ch.box g T (vc v)::S) I) (ho:o.op = .box T x:=by exact rfl) (hx:ev m x=some v:=by exact rfl) (hw:wg ops.toList m o=some true:=by exact rfl) (hd:o.dst=d:=by exact rfl) (hn:dok d n.n=true:=by exact rfl):L G n K ops Q (o::l) m S I:=L.a [] [] (Ac.box ho hx) hw hd hn rfl rfl h
theorem Tb {ρ:Type} {g h:Option ρ} {r:ρ} {c:Operand} {x y:Code} {b:Bool} (H:(bif b then g else h)=some r) (ht:g=some r→T G n K Q x m S I) (hf:h=some r→T G n K Q y m S I) (hc:ev m c=some (.bool b):=by exact rfl):T G n K Q (.cond c x y) m S I:=T.bif hc H (fun _=>ht) (fun _=>hf)
theorem Lw (j:Nat) {ρ:Type} {g h:Option ρ} {r:ρ} {b:Bool} (H:(bif b then g else h)=some r) (ht:g=some r→L G n K ops Q l ((j,.bool true)::m) S I) (hf:h=some r→L G n K ops Q l ((j,.bool false)::m) S I) (hj:look m j=some (.bool b):=by exact rfl):L G n K ops Q l m S I:=L.cs j H hj (fun _=>ht) (fun _=>hf)
theorem Tj {x y:Code} {η:Type} (φ:η→Prop) (EM:η→Env) (ds:List Nat) (ES:η→List Ch) (is:List Nat) (EI:η→List Im) {PM:Env} {PS:List Ch} (h1:T G n K (Exit.then (Mid n K φ (fun z=>EM z++PM) (fun z=>ES z++PS) (fun z=>EI z++I)) Q) x m S I) (h2: ∀ z,φ z→T G n K Q y (EM z++PM) (ES z++PS) (EI z++I)) (hm:prn m ds=some PM:=by exact rfl) (hS:pick S is=some PS:=by exact rfl):T G n K (Exit.then (y.wpIn G.F 0 G.P Q) Q) x m S I:=T.join φ _ _ _ h1 h2
theorem Tjh {x y:Code} {η:Type} (EM:η→Env) (ds:List Nat) (ES:η→List Ch) (is:List Nat) (EI:η→List Im) {PM:Env} {PS:List Ch} (h1:T G n K (Exit.then (Mid n K (fun _=>True) (fun z=>EM z++PM) (fun z=>ES z++PS) (fun z=>EI z++I)) Q) x m S I) (h2: ∀ z,T G n K Q y (EM z++PM) (ES z++PS) (EI z++I)) (hm:prn m ds=some PM:=by exact rfl) (hS:pick S is=some PS:=by exact rfl):T G n K (Exit.then (y.wpIn G.F 0 G.P Q) Q) x m S I:=T.join (fun _=>True) _ _ _ h1 fun z _=>h2 z
theorem Tj0 {x y:Code} (EM:Env) (ds:List Nat) (ES:List Ch) (is:List Nat) {PM:Env} {PS:List Ch} (h1:T G n K (Exit.then (Mid n K (fun _:Unit=>True) (fun _=>EM++PM) (fun _=>ES++PS) (fun _=>I)) Q) x m S I) (h2:T G n K Q y (EM++PM) (ES++PS) I) (hm:prn m ds=some PM:=by exact rfl) (hS:pick S is=some PS:=by exact rfl):T G n K (Exit.then (y.wpIn G.F 0 G.P Q) Q) x m S I:=T.join (fun _=>True) _ _ _ h1 fun _ _=>h2
theorem Eg {η:Type} {φ:η→Prop} {M:η→Env} {S':η→List Ch} {I0:List Im} {EI:η→List Im} (z:η) (hz:φ z) (is js:List Nat) (k:Nat) {R:List Ch} (hm:(M z).map (fun p=>look m p.1)=(M z).map (fun p=>some p.2):=by exact rfl) (hS:ext S is=some (S' z,R):=by exact rfl) (hJ:pick I js=some (EI z):=by exact rfl) (hk:I.drop k=I0:=by exact rfl):E n K (Exit.then (Mid n K φ M S' (fun z=>EI z++I0)) Q) .normal m S I:=by
  intro A a w hf hs
  have h2:=hs.perm (cU hS) (fun i hi=>hi)
  refine ⟨z,A,hz,hf.sub (nB (sP hm)),h2.drop fun f hf=> ?_⟩
  rcases List.mem_append.1 hf with h | h
  · exact eR hJ f h
  · rw [← hk] at h; exact List.mem_of_mem_drop h
theorem Egx {η:Type} {φ:η→Prop} {M:η→Env} {S':η→List Ch} {I':η→List Im} (z:η) (hz:φ z) (is js:List Nat) {R:List Ch} (hm:(M z).map (fun p=>look m p.1)=(M z).map (fun p=>some p.2):=by exact rfl) (hS:ext S is=some (S' z,R):=by exact rfl) (hJ:pick I js=some (I' z):=by exact rfl):E n K (Exit.then (Mid n K φ M S' I') Q) .normal m S I:=E.wV z is js hz (sP hm) hS hJ
theorem Eg0 {M:Env} {S':List Ch} {I0:List Im} (is:List Nat) (k:Nat) {R:List Ch} (hm:M.map (fun p=>look m p.1)=M.map (fun p=>some p.2):=by exact rfl) (hS:ext S is=some (S',R):=by exact rfl) (hk:I.drop k=I0:=by exact rfl):E n K (Exit.then (Mid n K (fun _:Unit=>True) (fun _=>M) (fun _=>S') (fun _=>I0)) Q) .normal m S I:=by
  intro A a w hf hs
  have h2:=hs.perm (cU hS) (fun i hi=>hi)
  refine ⟨(),A,trivial,hf.sub (nB (sP hm)),h2.drop fun f h=> ?_⟩
  rw [← hk] at h
  exact List.mem_of_mem_drop h
theorem Tq {ρ σ η:Type} {r:ρ} {c:Code} {f:σ→Option (σ ⊕ ρ)} (EM:σ→η→Env) (ds:List Nat) (ES:σ→η→List Ch) (is0:List Nat) (EI:σ→η→List Im) {PM:Env} {PS:List Ch} {s:σ} (x:η) (is js:List Nat) (h:iter f s=some r)
    (round: ∀ k s x z,f s=some z→(∀ s',z = .inl s'→kA f k s'=some r)→(∀ r',z = .inr r'→r'=r)→T G n K (Exit.then (Mid n K (fun p:σ×η=>kA f k p.1=some r) (fun p=>EM p.1 p.2++PM) (fun p=>ES p.1 p.2++PS) (fun p=>EI p.1 p.2++I)) Q) c (EM s x++PM) (ES s x++PS) (EI s x++I)) (hm0:prn m ds=some PM:=by exact rfl) (hS0:pick S is0=some PS:=by exact rfl) {R:List Ch} (hm:(EM s x).map (fun p=>look m p.1)=(EM s x).map (fun p=>some p.2):=by exact rfl) (hS:ext S is=some (ES s x++PS,R):=by exact rfl) (hJ:pick I js=some (EI s x):=by exact rfl):T G n K Q (.loop c) m S I:=by
  have e:Tw.T G n K Q (.loop c) (EM s x++PM) (ES s x++PS) (EI s x++I):=T.it (fun s x=>EM s x++PM) (fun s x=>ES s x++PS) (fun s x=>EI s x++I) round h
  intro A a w hf hs
  have h2:=hs.perm (cU hS) (fun i hi=>hi)
  refine e A a w ?_ (h2.drop fun f hf=> ?_)
  · have h3:=sP hm
    have h4:=EA hm0
    have h5: ∀ {a b:Env},vm m a→vm m b→vm m (a++b):=by
      intro a b ha hb
      induction a with
      | nil=>exact hb
      | cons p a ih=>exact ⟨ha.1,ih ha.2⟩
    exact hf.sub (nB (h5 h3 h4))
  · rcases List.mem_append.1 hf with h | h
    · exact eR hJ f h
    · exact h
theorem Eo {G:Pg} {k:Nat} {K:Key} {m:Env} {S:List Ch} {I:List Im} {fn:Func} {σ:Type} {val:σ→Value} {S':σ→List Ch} {I':σ→List Im} (x:σ) (is js:List Nat) {vs:List Value} {R:List Ch} (hr:RVs G.τ m S fn.results.toList vs) (hv:vt vs=val x:=by exact rfl) (hS:ext S is=some (S' x,R):=by exact rfl) (hJ:pick I js=some (I' x):=by exact rfl):E ⟨k,[]⟩ K (pW G fn K val S' I') .ret m S I:=E.ret x is js hr hv hS hJ
theorem Eo1 {G:Pg} {k:Nat} {K:Key} {m:Env} {S:List Ch} {I:List Im} {fn:Func} {σ:Type} {val:σ→Value} {S':σ→List Ch} {I':σ→List Im} (x:σ) (is js:List Nat) {t:Nat} {R:List Ch} (hf:fn.results.toList=[.tmp t]:=by exact rfl) (hv:look m t=some (val x):=by exact rfl) (hS:ext S is=some (S' x,R):=by exact rfl) (hJ:pick I js=some (I' x):=by exact rfl):E ⟨k,[]⟩ K (pW G fn K val S' I') .ret m S I:=E.ret (vs:=[val x]) x is js (by rw [hf]; exact .tmp hv .nil) rfl hS hJ
end
section
variable {G : Pg} {n : Nd} {K : Key} {Q : Exit → Act → World → Prop} {m : Env} {S C V : List Ch} {I : List Im} {ops : List Oper} {late l : List Nat} {o : Oper}
theorem Td {id:Nat} (late:List Nat) (is:List Nat) (hmo:G.P.follows .mixedOrders=true) (h:D G n K Q ops late [] C m V I) (hS:ext S is=some (C,V):=by exact rfl) (hnd:BR ops=true:=by exact rfl):T G n K Q (.region id ops.toArray true) m S I:=T.draw late is hmo hnd hS h
theorem Dn (h:E n K Q .normal m (C++V) I) (hc:closed ops=true:=by exact rfl) (hr:rW l 0 ops=[]:=by exact rfl):D G n K Q ops late l C m V I:=D.nil hc hr h
theorem Dq (i:Nat) {d:Nat} {v:Value} (h:D G n K Q ops late (i::l) C ((d,v)::m) V I) (hi:ops[i]?=some o:=by exact rfl) (hc:vL ops late l i=true:=by exact rfl) (hw:wg ops m o=some true:=by exact rfl) (hd:o.dst=some d:=by exact rfl) (hn:dok (some d) n.n=true:=by exact rfl) (hq:qx G.τ m o.op=some v:=by exact rfl):D G n K Q ops late l C m V I:=D.q i hi hc hw hd hn hq h
theorem Ds (i:Nat) {d:Option Nat} (h:D G n K Q ops late (i::l) C (na d undef m) V I) (hi:ops[i]?=some o:=by exact rfl) (hc:vL ops late l i=true:=by exact rfl) (hw:wg ops m o=some false:=by exact rfl) (hd:o.dst=d:=by exact rfl) (hn:dok d n.n=true:=by exact rfl):D G n K Q ops late l C m V I:=D.sk i hi hc hw hd hn h
theorem Dy (i:Nat) {d:Nat} {v:Value} (hy:Yl G n m C I o v) (h:D G n K Q ops late (i::l) C ((d,v)::m) V I) (hi:ops[i]?=some o:=by exact rfl) (hc:vL ops late l i=true:=by exact rfl) (hl:vI ops late i=true:=by exact rfl) (hw:wg ops m o=some true:=by exact rfl) (hd:o.dst=some d:=by exact rfl) (hn:dok (some d) n.n=true:=by exact rfl):D G n K Q ops late l C m V I:=D.y i hy hi hc hl hw hd hn h
theorem Db (i j:Nat) {d:Nat} {t g o' T:Nat} {x:Operand} {cs:List Value} {v:Value} (h:D G n K Q ops late (i::l) C ((d,v)::m) V I) (hi:ops[i]?=some o:=by exact rfl) (ho:o.op = .load t x:=by exact rfl) (hx:ev m x=some (.pointer (some ⟨g,o',none⟩)):=by exact rfl) (hS:C[j]?=some (Ch.box g T cs):=by exact rfl) (hv:om G.τ t (cs.drop o') 0=some v:=by exact rfl) (hc:vL ops late l i=true:=by exact rfl) (hl:vI ops late i=true:=by exact rfl) (hw:wg ops m o=some true:=by exact rfl) (hd:o.dst=some d:=by exact rfl) (hn:dok (some d) n.n=true:=by exact rfl):D G n K Q ops late l C m V I:=D.y i (Yl.ldb j ho hx hS hv) hi hc hl hw hd hn h
theorem Da {i:Nat} (is js:List Nat) {d:Option Nat} {Sp R:List Ch} {J:List Im} {σ:Type} {v:σ→Value} {S':σ→List Ch} {I':σ→List Im} (hr:rW l 0 ops=[i]) (hi:ops[i]?=some o) (hA:Ac G n m o Sp J v S' I') (h: ∀ x,D G n K Q ops late (i::l) C (na d (v x) m) (S' x++R) (I' x++I)) (hc:closed ops=true:=by exact rfl) (hl:Nat.blt l.length ops.length=true:=by exact rfl) (hw:wg ops m o=some true:=by exact rfl) (hd:o.dst=d:=by exact rfl) (hn:dok d n.n=true:=by exact rfl) (hS:ext V is=some (Sp,R):=by exact rfl) (hJ:pick I js=some J:=by exact rfl):D G n K Q ops late l C m V I:=D.one hc hr hl (Dp.a is js hA hi hw hd hn hS hJ h)
theorem Dk {i:Nat} (is js:List Nat) {d:Option Nat} {R:List Ch} {σ:Type} {f:FuncId} {fo:Operand} {as:Array Operand} {ts:Array Nat} {vs args:List Value} {a1 a2:Array Value} {Sp:List Ch} {J:List Im} {val:σ→Value} {S':σ→List Ch} {I':σ→List Im} (hC:CT G f args Sp J val S' I') (h: ∀ x,D G n K Q ops late (i::l) C (na d (val x) m) (S' x++R) (I' x++I)) (hr:rW l 0 ops=[i]:=by exact rfl) (hi:ops[i]?=some o:=by exact rfl) (ho:o.op = .call { callee:= .value fo,args:=as,argTypes:=ts }:=by exact rfl) (hfo:ev m fo=some (.func (.func f) a1 a2):=by exact rfl) (ha:evl m as.toList=some vs:=by exact rfl) (hargs:a1.toList++vs++a2.toList=args:=by exact rfl) (hc:closed ops=true:=by exact rfl) (hl:Nat.blt l.length ops.length=true:=by exact rfl) (hw:wg ops m o=some true:=by exact rfl) (hd:o.dst=d:=by exact rfl) (hn:dok d n.n=true:=by exact rfl) (hS:ext V is=some (Sp,R):=by exact rfl) (hJ:pick I js=some J:=by exact rfl):D G n K Q ops late l C m V I:=D.one hc hr hl (Dp.a is js (Ac.call hC ho hfo ha hargs) hi hw hd hn hS hJ h)
theorem Dkl {i:Nat} (is js:List Nat) {d:Option Nat} {R:List Ch} {σ:Type} {f:FuncId} {fo:Operand} {as:Array Operand} {ts:Array Nat} {vs args:List Value} {a1 a2:Array Value} {Sp:List Ch} {J:List Im} {val:σ→Value} {S':σ→List Ch} {I':σ→List Im} (hC:CT G f args Sp J val S' I') (h: ∀ x,D G n K Q ops late (i::l) [] (na d (val x) m) (S' x++R) (I' x++I)) (hr:rW l 0 ops=[i]:=by exact rfl) (hi:ops[i]?=some o:=by exact rfl) (ho:o.op = .call { callee:= .value fo,args:=as,argTypes:=ts }:=by exact rfl) (hfo:ev m fo=some (.func (.func f) a1 a2):=by exact rfl) (ha:evl m as.toList=some vs:=by exact rfl) (hargs:a1.toList++vs++a2.toList=args:=by exact rfl) (hlt:mem i late=true:=by exact rfl) (hc:closed ops=true:=by exact rfl) (hl:Nat.blt l.length ops.length=true:=by exact rfl) (hw:wg ops m o=some true:=by exact rfl) (hd:o.dst=d:=by exact rfl) (hn:dok d n.n=true:=by exact rfl) (hS:ext (C++V) is=some (Sp,R):=by exact rfl) (hJ:pick I js=some J:=by exact rfl):D G n K Q ops late l C m V I:=D.one hc hr hl (Dp.al is js (Ac.call hC ho hfo ha hargs) hlt hi hw hd hn hS hJ h)
theorem Dt {i:Nat} (j:Nat) {R:List Ch} {d:Option Nat} {t g o' T:Nat} {x y:Operand} {cs cs':List Value} {v:Value} {ti:TI} (h:D G n K Q ops late (i::l) [] (na d undef m) (Ch.box g T cs'::R) I) (hr:rW l 0 ops=[i]:=by exact rfl) (hi:ops[i]?=some o:=by exact rfl) (ho:o.op = .store t x y:=by exact rfl) (hx:ev m x=some (.pointer (some ⟨g,o',none⟩)):=by exact rfl) (hy:ev m y=some v:=by exact rfl) (hti:bP G.τ t=some ti:=by exact rfl) (hoc:(Nat.beq (vc v).length ti.size && (vc v).all Value.oneCell')=true:=by exact rfl) (hS:ext (C++V) [j]=some ([Ch.box g T cs],R):=by exact rfl) (hr0:wr cs o' (vc v)=some cs':=by exact rfl) (hlt:mem i late=true:=by exact rfl) (hc:closed ops=true:=by exact rfl) (hl:Nat.blt l.length ops.length=true:=by exact rfl) (hw:wg ops m o=some true:=by exact rfl) (hd:o.dst=d:=by exact rfl) (hn:dok d n.n=true:=by exact rfl):D G n K Q ops late l C m V I:=D.one hc hr hl (Dp.al [j] [] (Ac.stb ho hx hy hti hoc hr0) hlt hi hw hd hn hS rfl fun _=>h)
end
end Go.Tw
set_option linter.unusedVariables false
set_option linter.unusedSimpArgs false
namespace Go.Tw
open Go
section
variable {σ η : Type}
variable {G : Pg} {n : Nd} {K : Key} {Q : Exit → Act → World → Prop} {m : Env} {S : List Ch} {I : List Im} {SL : σ → η → List Ch} {IL : σ → η → List Im} {jp : σ → Option Code} {z : σ × Bool} {body : Code}
theorem T.LW {ξ τ:Type} (Y:σ→ξ→Option (σ×Bool)) (av:ξ→List Value) (af:ξ→List Im) {g:Operand} {ps:Array Tmp} {assign:Code} {k:Nat} {ds:List Nat} {f:FuncId} {bs caps:Array Value} {val:τ→Value} {S':τ→List Ch} {I':τ→List Im} {Sp Sl R S0:List Ch} {J:List Im} {s0 s1:σ} {h0:η} {hx:τ→η} (jp:σ→Option Code)
    (SL:σ→η→List Ch) (IL:σ→η→List Im) (di:Nat) (is jl js:List Nat)
    (hrd:G.rd=none) (hg:ev m g=some (.func (.func f) bs caps)) (hps: ∀ p,(av p).length=ps.size) (hpk:ps.toList.all (fun d=>Nat.blt d k)=true)
    (hC: ∀ yl (C:σ→η→Ch),(∀ s h p z,Y s p=some z→YT G yl (av p) (C s h::Sl) (af p) (fun _:η=> .bool z.2) (fun h'=>C z.1 h'::Sl) (fun _=>[]))→CT G f (bs.toList ++ .func (.yield yl) #[] #[]::caps.toList) (C s0 h0::Sp) J val (fun x=>C s1 (hx x)::S' x) I')
    (hjy: ∀ s p z,Y s p=some z→jp s=none) (hj0:jp s0=none)
    (hd:ext S [di]=some ([Ch.dfs ds],S0)) (hS:ext S0 is=some (SL s0 h0++Sp,R)) (hIL:pick I jl=some (IL s0 h0)) (hJ:pick I js=some J)
    (hround: ∀ yl K s h p z,Y s p=some z→T (G.at yl) ⟨k,[]⟩ K (Exit.then (BG (G.at yl) ⟨k,[]⟩ (fun s h=>SL s h++Sl) IL jp z body K) (fun _ _ _=>False)) assign (pm ps.toList (av p) m) (SL s h++Sl) (af p++IL s h))
    (hj1:jok (jp s1)=true)
    (h: ∀ x D,E ⟨k,D::ds⟩ K Q (jx (jp s1)) m (Ch.dfs (D::ds)::(SL s1 (hx x)++S' x++R)) (IL s1 (hx x)++I' x++I)) :
    T G ⟨k,ds⟩ K Q (.rangeFunc g ps assign body) m S I:=by
  intro A a w hf hs
  have hF:G.F=Fence.wide:=by unfold Pg.F; rw [hrd]
  refine wpIn_rangeFunc ?_
  intro fn _
  have hro:G.F.round=none:=by rw [G.round,hrd]
  rw [hro]
  obtain ⟨D0,hD0⟩: ∃ D0,w.heap.size=D0:=⟨_,rfl⟩
  obtain ⟨rec,hrec⟩: ∃ rec:LoopState→Option Code→Loop,rec=fun st pe=>{ state:=st,pending:=pe,fn,tmps:=a.tmps,params:=ps,assign,body,defers:=D0 }:=⟨_,rfl⟩
  obtain ⟨C,hCd⟩: ∃ C:σ→η→Ch,C=fun s h=>Ch.pk (Ch.lp (D0+1) (rec (if (jp s).isNone then .ready else .done) (jp s))::SL s h) (IL s h):=⟨_,rfl⟩
  have hm:Fr ⟨k,[]⟩ m ⟨a.tmps,[]⟩:=⟨hf.size,rfl,hf.at_⟩
  have hY0:=y5 (G:=G) (yl:=D0+1) Y av af hm hps hpk hjy hround rec hrec _ rfl
  have hY: ∀ s h p z,Y s p=some z→YT G (D0+1) (av p) (C s h::Sl) (af p) (fun _:η=> .bool z.2) (fun h'=>C z.1 h'::Sl) (fun _=>[]):=by
    intro s h p z hz
    rw [hCd]
    exact YT.LV (Ch.lp (D0+1) (rec (if (jp s).isNone then .ready else .done) (jp s))::SL s h) (IL s h) (fun h'=>Ch.lp (D0+1) (rec (if (jp z.1).isNone then .ready else .done) (jp z.1))::SL z.1 h') (fun h'=>IL z.1 h') Sl (hY0 s h p z hz)
  obtain ⟨⟨fnc,hfnc,h1,h2⟩,hcalls⟩:=hC (D0+1) C hY
  -- the two blocks
  have a1:=(hs.perm (cU hd) (fun i hi=>hi))
  have a2:=a1.alloc (.deferred (some [])) (Ch.dfs [D0]) (fun b hb=>by rw [hD0]; exact List.mem_singleton.1 hb) ⟨by simp,fun D hD=>by
    rw [List.mem_singleton.1 hD,← hD0]; exact World.alloc_heap_new w _⟩
  have e2:(w.alloc (.deferred (some []))).heap.size=D0+1:=by rw [World.size_alloc,hD0]
  have a3:=a2.alloc (.loop (rec .ready none)) (Ch.lp (D0+1) (rec .ready none)) (fun b hb=>by rw [e2]; exact hb) (by
    show (World.alloc _ _).heap[D0+1]?=_
    rw [← e2]; exact World.alloc_heap_new _ _)
  obtain ⟨W,hW⟩: ∃ W,(w.alloc (.deferred (some []))).alloc (.loop (rec .ready none))=W:=⟨_,rfl⟩
  rw [hW] at a3
  -- marks together
  have a4:SS K A (Ch.dfs (D0::ds)::Ch.lp (D0+1) (rec .ready none)::S0) I W:=by
    have hd3:=List.pairwise_cons.1 a3.st.dis
    have hd4:=List.pairwise_cons.1 hd3.2
    have hd5:=List.pairwise_cons.1 hd4.2
    have hok1:=a3.st.ch (Ch.dfs [D0]) (by simp)
    have hok2:=a3.st.ch (Ch.dfs ds) (by simp)
    refine a3.wV ?_ ?_ ?_ a3.st.im
    · intro c hc
      rcases List.mem_cons.1 hc with rfl | hc
      · refine ⟨List.nodup_cons.2 ⟨fun hmem=>hd4.1 (Ch.dfs ds) (by simp) D0 (List.mem_singleton.2 rfl) hmem,hok2.1⟩,fun D hD=> ?_⟩
        rcases List.mem_cons.1 hD with rfl | hD
        · exact hok1.2 D (by simp)
        · exact hok2.2 D hD
      · rcases List.mem_cons.1 hc with rfl | hc
        · exact a3.st.ch _ (by simp)
        · exact a3.st.ch _ (by simp [hc])
    · rintro b ⟨c,hc,hb⟩
      rcases List.mem_cons.1 hc with rfl | hc
      · rcases List.mem_cons.1 hb with rfl | hb
        · exact ⟨Ch.dfs [b],by simp,List.mem_singleton.2 rfl⟩
        · exact ⟨Ch.dfs ds,by simp,hb⟩
      · rcases List.mem_cons.1 hc with rfl | hc
        · exact ⟨Ch.lp (D0+1) (rec .ready none),by simp,hb⟩
        · exact ⟨c,by simp [hc],hb⟩
    · refine List.pairwise_cons.2 ⟨?_,List.pairwise_cons.2 ⟨fun c hc=>hd3.1 c (by simp [hc]),hd5.2⟩⟩
      intro c hc b hb hb2
      have hb3:b=D0∨b∈ds:=List.mem_cons.1 hb
      rcases List.mem_cons.1 hc with hc | hc
      · rw [hc] at hb2
        rcases hb3 with h3 | h3
        · exact hd3.1 (Ch.dfs [D0]) (by simp) b hb2 (List.mem_singleton.2 h3)
        · exact hd3.1 (Ch.dfs ds) (by simp) b hb2 h3
      · rcases hb3 with h3 | h3
        · exact hd4.1 c (by simp [hc]) b (List.mem_singleton.2 h3) hb2
        · exact hd5.1 c hc b h3 hb2
  -- the pack
  have hpS:=cU hS
  have a5:SS K A ((Ch.lp (D0+1) (rec .ready none)::SL s0 h0)++(Sp++(Ch.dfs (D0::ds)::R))) (IL s0 h0++(J++I)) W:=by
    refine a4.perm ?_ ?_
    · have p1:(Ch.dfs (D0::ds)::Ch.lp (D0+1) (rec .ready none)::((SL s0 h0++Sp)++R)).Perm (Ch.dfs (D0::ds)::Ch.lp (D0+1) (rec .ready none)::S0):=(hpS.cons _).cons _
      refine List.Perm.trans ?_ p1
      have p2:((Ch.lp (D0+1) (rec .ready none)::SL s0 h0)++(Sp++(Ch.dfs (D0::ds)::R))).Perm (Ch.dfs (D0::ds)::((Ch.lp (D0+1) (rec .ready none)::SL s0 h0)++(Sp++R))):=by
        have:(Sp++(Ch.dfs (D0::ds)::R)).Perm (Ch.dfs (D0::ds)::(Sp++R)):=List.perm_middle
        exact (this.append_left _).trans List.perm_middle
      refine p2.trans ?_
      simp
    · intro i hi
      rcases List.mem_append.1 hi with hi | hi
      · exact eR hIL i hi
      · rcases List.mem_append.1 hi with hi | hi
        · exact eR hJ i hi
        · exact hi
  have a6:=SS.pack a5
  have eC0:Ch.pk (Ch.lp (D0+1) (rec .ready none)::SL s0 h0) (IL s0 h0)=C s0 h0:=by rw [hCd]; simp only [hj0]; rfl
  rw [eC0] at a6
  have hct:=hcalls A W ((SS.st (S:=(C s0 h0::Sp)++(Ch.dfs (D0::ds)::R)) (by simpa using a6)).left (fun i hi=>List.mem_append_left _ hi))
  have hev:=hf.ev hg
  refine ⟨D0+1,[mark D0],W,{ target:= .fn (.func f) caps,args:=bs ++ #[.func (.yield (D0+1)) #[] #[]] },W,f,bs ++ #[.func (.yield (D0+1)) #[] #[]]++caps,W,?_,?_,?_,?_,G.deep,?_⟩
  · rw [← hW,hrec,← hD0]; exact run_enterLoop_outer _ _ _ _ _
  · simp [resolve,Deferred.ofValue,hev]
    rfl
  · intro f' _; exact G.fn f'
  · simp [invoke,oY hfnc h1 h2]
  · refine G.calls ?_
    have earr:(bs.toList++Value.func (.yield (D0+1)) #[] #[]::caps.toList).toArray=bs ++ #[.func (.yield (D0+1)) #[] #[]]++caps:=by apply Array.ext'; simp
    rw [earr] at hct
    refine hct.mono ?_
    rintro e W2 ⟨x,A',rfl,h3⟩
    have b1:SS K A' ((C s1 (hx x)::S' x)++(Ch.dfs (D0::ds)::R)) (I' x++(J++I)) W2:=SS.frame (S:=C s0 h0::Sp) (R:=Ch.dfs (D0::ds)::R) (I:=J++I) (by simpa using a6) h3
    obtain ⟨r1,hr1⟩: ∃ r1,rec (if (jp s1).isNone then LoopState.ready else .done) (jp s1)=r1:=⟨_,rfl⟩
    have hnb:r1.state ≠ .busy:=by rw [← hr1,hrec]; cases jp s1 <;> simp
    have ep:r1.pending=jp s1:=by rw [← hr1,hrec]
    have eC1:C s1 (hx x)=Ch.pk (Ch.lp (D0+1) r1::SL s1 (hx x)) (IL s1 (hx x)):=by rw [← hr1,hCd]
    rw [eC1] at b1
    have b2:SS K A' ((Ch.lp (D0+1) r1::SL s1 (hx x))++(S' x++(Ch.dfs (D0::ds)::R))) (IL s1 (hx x)++(I' x++(J++I))) W2:=SS.unpack b1
    have hl:W2.heap[D0+1]?=some (.loop r1):=b2.st.ch _ (List.mem_cons_self ..)
    have hlt:D0+1 < W2.heap.size:=(Array.getElem?_eq_some_iff.1 hl).1
    have hend:=run_endLoop (P:=G.P) hl hnb
    obtain ⟨r2,hr2⟩: ∃ r2,({ r1 with state:= .exhausted }:Loop)=r2:=⟨_,rfl⟩
    rw [hr2] at hend
    refine ⟨_,_,hend,?_⟩
    have b3:=SS.put (o:= .loop r2) (D:=D0+1) (c':=Ch.lp (D0+1) r2) (c:=Ch.lp (D0+1) r1) (R:=SL s1 (hx x)++(S' x++(Ch.dfs (D0::ds)::R))) b2 rfl (fun b hb=>hb) (World.putObj_heap_same hlt)
    have b4:=b3.tl
    have b5:=b4.perm (S':=Ch.dfs (D0::ds)::(SL s1 (hx x)++S' x++R)) (I':=IL s1 (hx x)++I' x++I) (by
      have:(SL s1 (hx x)++(S' x++(Ch.dfs (D0::ds)::R))).Perm (Ch.dfs (D0::ds)::(SL s1 (hx x)++S' x++R)):=by
        rw [← List.append_assoc]
        exact List.perm_middle
      exact this.symm) (fun i hi=>by simp only [List.mem_append] at hi ⊢; rcases hi with (hi | hi) | hi <;> simp [hi])
    have hE:=h x D0 A' ⟨a.tmps,[mark D0]++a.defers⟩ _ ⟨hf.size,by simp [hf.defers],hf.at_⟩ b5
    rw [ep]
    generalize jp s1=j at hE hj1 ⊢
    cases j with
    | none=>exact hE
    | some c =>
      cases c <;> first | (cases hj1; done) | skip
      · exact wpIn_exit hE
      · exact wpIn_ret hE
end
section
variable {σ η X θ τ : Type} {G : Pg} {n : Nd} {K : Key} {Q : Exit → Act → World → Prop} {m : Env} {S : List Ch} {I : List Im} {body : Code}
theorem T.rf4 {Y:σ→X→Option (σ×Bool)} {g:Operand} {ps:Array Tmp} {assign:Code} {k:Nat} {ds:List Nat} {f:FuncId} {bs caps:Array Value} {val:τ→Value} {S':τ→List Ch} {I':τ→List Im} {R S0:List Ch} {J:List Im} {s0 s1:σ} {h0:η} {hx:τ→η} (av:X→θ→List Value) (af:X→θ→List Im) (jp:σ→Option Code)
    (Sp Sl:List Ch) (SL:σ→η→List Ch) (IL:σ→η→List Im) (di:Nat) (is jl js:List Nat)
    (hrd:G.rd=none) (hg:ev m g=some (.func (.func f) bs caps)) (hps: ∀ x t,(av x t).length=ps.size) (hpk:ps.toList.all (fun d=>Nat.blt d k)=true)
    (hC: ∀ yl (C:σ→η→Ch),(∀ s h x t z,Y s x=some z→YT G yl (av x t) (C s h::Sl) (af x t) (fun _:η=> .bool z.2) (fun h'=>C z.1 h'::Sl) (fun _=>[]))→CT G f (bs.toList ++ .func (.yield yl) #[] #[]::caps.toList) (C s0 h0::Sp) J val (fun x=>C s1 (hx x)::S' x) I')
    (hjy: ∀ s x z,Y s x=some z→jp s=none) (hj0:jp s0=none)
    (hd:ext S [di]=some ([Ch.dfs ds],S0)) (hS:ext S0 is=some (SL s0 h0++Sp,R)) (hIL:pick I jl=some (IL s0 h0)) (hJ:pick I js=some J)
    (hround: ∀ yl K s h x t z,Y s x=some z→T (G.at yl) ⟨k,[]⟩ K (Exit.then (BG (G.at yl) ⟨k,[]⟩ (fun s h=>SL s h++Sl) IL jp z body K) (fun _ _ _=>False)) assign (pm ps.toList (av x t) m) (SL s h++Sl) (af x t++IL s h))
    (hj1:jok (jp s1)=true)
    (h: ∀ x D,E ⟨k,D::ds⟩ K Q (jx (jp s1)) m (Ch.dfs (D::ds)::(SL s1 (hx x)++S' x++R)) (IL s1 (hx x)++I' x++I)) :
    T G ⟨k,ds⟩ K Q (.rangeFunc g ps assign body) m S I :=
  T.LW (ξ:=X×θ) (fun s p=>Y s p.1) (fun p=>av p.1 p.2) (fun p=>af p.1 p.2) jp SL IL di is jl js hrd hg (fun p=>hps p.1 p.2) hpk (fun yl C hY=>hC yl C fun s h x t z hz=>hY s h (x,t) z hz) (fun s p z hz=>hjy s p.1 z hz) hj0 hd hS hIL hJ
    (fun yl K s h p z hz=>hround yl K s h p.1 p.2 z hz) hj1 h
end
end Go.Tw
set_option linter.unusedVariables false
set_option linter.unusedSimpArgs false
namespace Go.Tw
open Go
def Ch.imc {α:Type} (d:Ty α) (a0:Option Addr) (c:Nat) (xs:List α):Ch where
  blk:=fun _=>False
  ok:=(Im.sl d a0 c xs).ok
  st:=fun hA hw _ h=>(Im.sl d a0 c xs).st hA hw h
def Ch.opt {α:Type} (b:Bool) (d:Ty α) (T:Nat) (a0:Option Addr) (c:Nat) (xs:List α):Ch:=bif b then Ch.arr d T a0 c xs else Ch.imc d a0 c xs
theorem JI {b:Bool} {u:Unit} (h:chk (!b)=some u):b=false:=by cases b with
 | false=>rfl
 | true=>cases h
section
variable {G : Pg} {n : Nd} {K : Key} {Q : Exit → Act → World → Prop} {m : Env} {S R : List Ch} {I : List Im} {α : Type} {ty : Ty α} {xs : List α} {a0 : Option Addr} {c T0 : Nat} {b b' : Bool}
theorem SS.LX {A:eQ} {w:World} (h:SS K A (Ch.imc ty a0 c xs::S) I w):SS K A S (Im.sl ty a0 c xs::I) w :=
  (h.tl).jf (J:=[_]) fun f hf=>by rw [List.mem_singleton.1 hf]; exact h.st.ch (Ch.imc ty a0 c xs) (by simp)
theorem SS.JJ {A:eQ} {w:World} (h:SS K A S I w) (hf:(Im.sl ty a0 c xs).ok A w):SS K A (Ch.imc ty a0 c xs::S) I w:=by
  refine h.wV ?_ ?_ (List.pairwise_cons.2 ⟨fun d _ b hb=>hb.elim,h.st.dis⟩) h.st.im
  · intro d hd
    rcases List.mem_cons.1 hd with rfl | hd
    · exact hf
    · exact h.st.ch d hd
  · rintro b ⟨d,hd,hb⟩
    rcases List.mem_cons.1 hd with rfl | hd
    · exact hb.elim
    · exact ⟨d,hd,hb⟩
theorem SS.LY {A:eQ} {w:World} (h:SS K A (Ch.opt b ty T0 a0 c xs::S) I w): ∃ A',SS K A' S (Im.sl ty a0 c xs::I) w:=by
  cases b with
  | true=>exact ⟨_,SS.frz h oZ⟩
  | false=>exact ⟨A,SS.LX h⟩
theorem SS.Dm {A:eQ} {w:World} (b:Bool) (h:SS K A (Ch.arr ty T0 a0 c xs::S) I w): ∃ A',SS K A' (Ch.opt b ty T0 a0 c xs::S) I w:=by
  cases b with
  | true=>exact ⟨A,h⟩
  | false =>
    have h2:=SS.frz h oZ
    have h3:=h2.JJ (h2.st.im (Im.sl ty a0 c xs) (by simp))
    exact ⟨_,h3.perm (List.Perm.refl _) (fun i hi=>by simp [hi])⟩
theorem SS.oset {A:eQ} {w:World} (hb:b'=false) (h:SS K A (Ch.opt b ty T0 a0 c xs::S) I w): ∃ A',SS K A' (Ch.opt b' ty T0 a0 c xs::S) I w:=by
  subst hb
  obtain ⟨A',h2⟩:=h.LY
  have h3:=h2.JJ (h2.st.im (Im.sl ty a0 c xs) (by simp))
  exact ⟨_,h3.perm (List.Perm.refl _) (fun i hi=>by simp [hi])⟩
theorem SS.oim {A:eQ} {w:World} (hb:b'=false) (i:Nat) (hI:I[i]?=some (Im.sl ty a0 c xs)) (h:SS K A S I w):SS K A (Ch.opt b' ty T0 a0 c xs::S) I w:=by
  subst hb
  exact h.JJ (h.st.im _ (List.mem_of_getElem? hI))
theorem SS.Hi {A:eQ} {w:World} {u:Unit} (hk:chk b=some u) (h:SS K A (Ch.opt b ty T0 a0 c xs::S) I w):SS K A (Ch.arr ty T0 a0 c xs::S) I w:=by
  cases b with
  | true=>exact h
  | false=>cases hk
-- for code,for what is left of a region,for an exit
theorem L.Hi {ops:Array Oper} {l:List Oper} {u:Unit} (p:Nat) (hk:chk b=some u) (hS:ext S [p]=some ([Ch.opt b ty T0 a0 c xs],R)) (h:L G n K ops Q l m (Ch.arr ty T0 a0 c xs::R) I):L G n K ops Q l m S I:=fun A a w hf hs=>h A a w hf ((hs.perm (cU hS) fun _ h=>h).Hi hk)
theorem E.Dm {e:Exit} (p:Nat) (b:Bool) (hS:ext S [p]=some ([Ch.arr ty T0 a0 c xs],R)) (h:E n K Q e m (Ch.opt b ty T0 a0 c xs::R) I):E n K Q e m S I:=fun A a w hf hs=>by
  obtain ⟨A',h2⟩:=SS.Dm b (hs.perm (cU hS) fun _ h=>h)
  exact h A' a w hf h2
theorem T.oset {c':Code} (p:Nat) (b':Bool) (hb:b'=false) (hS:ext S [p]=some ([Ch.opt b ty T0 a0 c xs],R)) (h:Tw.T G n K Q c' m (Ch.opt b' ty T0 a0 c xs::R) I):Tw.T G n K Q c' m S I:=fun A a w hf hs=>by
  obtain ⟨A',h2⟩:=SS.oset hb (hs.perm (cU hS) fun _ h=>h)
  exact h A' a w hf h2
theorem L.oset {ops:Array Oper} {l:List Oper} (p:Nat) (b':Bool) (hb:b'=false) (hS:ext S [p]=some ([Ch.opt b ty T0 a0 c xs],R)) (h:L G n K ops Q l m (Ch.opt b' ty T0 a0 c xs::R) I):L G n K ops Q l m S I:=fun A a w hf hs=>by
  obtain ⟨A',h2⟩:=SS.oset hb (hs.perm (cU hS) fun _ h=>h)
  exact h A' a w hf h2
theorem E.oset {e:Exit} (p:Nat) (b':Bool) (hb:b'=false) (hS:ext S [p]=some ([Ch.opt b ty T0 a0 c xs],R)) (h:E n K Q e m (Ch.opt b' ty T0 a0 c xs::R) I):E n K Q e m S I:=fun A a w hf hs=>by
  obtain ⟨A',h2⟩:=SS.oset hb (hs.perm (cU hS) fun _ h=>h)
  exact h A' a w hf h2
theorem E.oim {e:Exit} (i T0:Nat) (b':Bool) (hb:b'=false) (hI:I[i]?=some (Im.sl ty a0 c xs)) (h:E n K Q e m (Ch.opt b' ty T0 a0 c xs::S) I):E n K Q e m S I:=fun A a w hf hs=>h A a w hf (hs.oim hb i hI)
end
end Go.Tw
set_option linter.unusedVariables false
set_option linter.unusedSimpArgs false
namespace Go.Tw
open Go
def tcs {α:Type} (ty:Ty α) (h0:ty.Hid) (xs:List α):List Value:=xs.flatMap fun x=>ty.cs x h0
section
variable {G : Pg} {n : Nd} {m : Env} {S : List Ch} {I : List Im} {o : Oper} {α : Type} {ty : Ty α} {xs : List α}
theorem BV {h0:ty.Hid} (hh: ∀ x h,ty.cs x h=ty.cs x h0) {A:eQ} {w:World}: ∀ {xs:List α} {cs:List Value},Els ty A w xs cs→cs=tcs ty h0 xs
  | _,_,.nil=>rfl
  | _,_,.cons h hi hr=>by
    rw [BV hh hr,hh]
    rfl
theorem x8 (h0:ty.Hid): ∀ xs:List α,(tcs ty h0 xs).length=xs.length*ty.sz
  | []=>by simp [tcs]
  | x::xs=>by
    have:=x8 h0 xs
    simp only [tcs,List.flatMap_cons,List.length_append,ty.len,List.length_cons,Nat.succ_mul] at *
    omega
theorem EW (h0:ty.Hid): ∀ (xs:List α) (i:Nat) (r:α),xs[i]?=some r→((tcs ty h0 xs).drop (i*ty.sz)).take ty.sz=ty.cs r h0
  | [],i,r,h=>by simp at h
  | x::xs,0,r,h=>by
    simp only [List.getElem?_cons_zero,Option.some.injEq] at h
    subst h
    simp only [tcs,List.flatMap_cons,Nat.zero_mul,List.drop_zero]
    rw [← ty.len x h0,List.take_left]
  | x::xs,i+1,r,h=>by
    have:=EW h0 xs i r (by simpa using h)
    simp only [tcs,List.flatMap_cons] at *
    rw [show (i+1)*ty.sz=(ty.cs x h0).length+i*ty.sz from by rw [ty.len,Nat.succ_mul,Nat.add_comm],List.drop_append,List.drop_of_length_le (by omega),List.nil_append,Nat.add_sub_cancel_left]
    exact this
theorem Yl.ldt (q:Nat) {t b c:Nat} {x:Operand} {h0:ty.Hid} {ti:TI} (ho:o.op = .load t x) (hx:ev m x=some (.pointer (some ⟨b,0,none⟩))) (hI:I[q]?=some (Im.sl ty (some ⟨b,0,none⟩) c xs)) (hh: ∀ x h,ty.cs x h=ty.cs x h0) (ht:bP G.τ t=some ti) (ha:ti.agg=true) (hsz:ti.size=xs.length*ty.sz) (hne:Nat.blt 0 xs.length=true):Yl G n m S I o (.agg (tcs ty h0 xs).toArray):=fun A ac w hf _ hI'=>by
  obtain ⟨_,h1⟩:=hI' _ (List.mem_of_getElem? hI)
  rcases h1 with rfl | ⟨b1,o1,cs,e,_,hels,hc⟩
  · cases hne
  injection e with e
  injection e with e1 e2
  subst e1 e2
  have he:=BV hh hels
  subst he
  have hr:(loadVar t ⟨b,0,none⟩).run G.P w = .ok (.agg (tcs ty h0 xs).toArray) w:=kV (cs:=tcs ty h0 xs) G.ok (by
    unfold om
    rw [ht]
    dsimp only
    rw [ha]
    dsimp only
    rw [Nat.zero_add,hsz,x8,Nat.ble_eq_true_of_le (Nat.le_refl _)]
    dsimp only
    rw [List.drop_zero,← x8 h0 xs,List.take_length]) fun j u hu=>hc j u (by simpa using hu)
  simp only [execOp,ho,hf.ev hx,Instr.loadAt,Instr.sureAddr,Sem.run_bind,Sem.run_pure,Result.andThen_ok,hr]
theorem Yl.xav {t e N:Nat} {x ix:Operand} {k2:IntKind} {i:Int} {r:α} {cs:Array Value} {ti te:TI} {h0:ty.Hid} (hi:idx xs i=some r) (ho:o.op = .index t x ix) (hx:ev m x=some (.agg cs)) (hcs:cs.toList=tcs ty h0 xs) (hix:ev m ix=some (.int k2 i)) (ht:bP G.τ t=some ti) (hk:ti.k = .array N e) (hN:xs.length=N) (he:bP G.τ e=some te) (hsz:(Nat.beq te.size ty.sz && te.agg)=true):Yl G n m S I o (.agg (ty.cs r h0).toArray):=fun A ac w hf _ _=>by
  obtain ⟨d,f,z,hd,hfi,hkk,_⟩:=G.ok.info ht
  rw [hk] at hkk
  cases hkk
  simp only [Bool.and_eq_true] at hsz
  have hs1:=Nat.eq_of_beq_eq_true hsz.1
  obtain ⟨h00,h1⟩:=bD hi
  have h2:=(List.getElem?_eq_some_iff.1 h1).1
  have hp:(part e cs (i.toNat*te.size)).run G.P w = .ok (.agg (ty.cs r h0).toArray) w:=by
    refine pV G.ok ?_ w
    unfold AG
    rw [he]
    dsimp only
    rw [hsz.2,hs1,hcs]
    dsimp only
    rw [EW h0 xs _ _ h1]
  have hr:(Instr.index t (.agg cs) (.int k2 i)).run G.P w = .ok (.agg (ty.cs r h0).toArray) w:=by
    simp only [Instr.index,asIntOf,Sem.run_bind,Sem.run_pure,Result.andThen_ok,run_underlying hd]
    rw [if_pos ⟨h00,by omega⟩]
    simp only [Sem.run_bind,run_sizeOf G.ok he,Result.andThen_ok,hp]
  simp only [execOp,ho,hf.ev hx,hf.ev hix,Sem.run_bind,hr,Result.andThen_ok,Sem.run_pure]
end
section
variable {G : Pg} {n : Nd} {m : Env} {o : Oper} {α : Type} {ty : Ty α} {xs ys : List α} {a0 a1 : Option Addr} {c c1 : Nat}
end
theorem Ac.ofY {G:Pg} {n:Nd} {m:Env} {o:Oper} {Sp:List Ch} {v:Value} (h:Yl G n m Sp [] o v):Ac G n m o Sp [] (fun _:Unit=>v) (fun _=>Sp) (fun _=>[]):=by
  refine Ac.run (v:=fun _:Unit=>some v) fun A a w hf hs=> ?_
  exact ⟨(),w,A,h A a w hf hs.ch (fun f hf=>by cases hf),SS.start ⟨hs.lt,hs.ch,hs.own,hs.dis,fun f hf=>by cases hf⟩⟩
end Go.Tw
set_option linter.unusedVariables false
set_option linter.unusedSimpArgs false
namespace Go.Tw
open Go
theorem Li {G:Pg} {n:Nd} {K:Key} {Q:Exit→Act→World→Prop} {m:Env} {S:List Ch} {I:List Im} {ops:Array Oper} {l:List Oper} (h:L G n K ops Q l m S I):L G n K ops Q l m S I:=h
theorem Ejn {n:Nd} {K:Key} {Q:Exit→Act→World→Prop} {m:Env} {S:List Ch} {I:List Im} (h:E n K Q .normal m S I):E n K Q (jx none) m S I:=h
theorem Z0 {P Q:Prop} (h:Q) (f:Q→P:=by
  intro h
  repeat (first
    | ((with_reducible refine Li ?_); first | refine Lq 1 ?_ | (with_reducible refine Ln ?_) | refine Lb 0 ?_ | refine Lb 1 ?_ | refine Lb 2 ?_ | refine Lb 3 ?_ | refine Lb 4 ?_ | refine Lb 5 ?_ | refine Lb 6 ?_ | refine Lb 7 ?_ | refine Lb 8 ?_ | refine Lb 9 ?_)
    | with_reducible refine Et ?_
    | with_reducible refine Tr ?_
    | with_reducible refine Tk ?_
    | with_reducible refine Tv ?_
    | with_reducible refine Tx ?_
    | with_reducible refine Ex ?_
    | with_reducible refine Er ?_
    | with_reducible refine Eb ?_
    | with_reducible refine Eh ?_
    | with_reducible refine Ev ?_
    | with_reducible refine Ejn ?_
    | with_reducible refine Ejr ?_
    | with_reducible refine Eje ?_)
  exact h):P:=f h
theorem Z1 {P Q:Prop} (h:Q) (f:Q→P:=by intro h; refine Z0 ?_; refine Ts ?_; refine Z0 ?_; exact h):P:=f h
theorem Z2 {P Q:Prop} (h:Q) (f:Q→P:=by intro h; refine Z1 ?_; refine Ts ?_; refine Z0 ?_; exact h):P:=f h
theorem Z3 {P Q:Prop} (h:Q) (f:Q→P:=by intro h; refine Z2 ?_; refine Ts ?_; refine Z0 ?_; exact h):P:=f h
theorem Y1 {P Q:Prop} (h:Q) (f:Q→P:=by intro h; refine Z0 ?_; refine Ts ?_; exact h):P:=f h
theorem Y2 {P Q:Prop} (h:Q) (f:Q→P:=by intro h; refine Z1 ?_; refine Ts ?_; exact h):P:=f h
theorem Y3 {P Q:Prop} (h:Q) (f:Q→P:=by intro h; refine Z2 ?_; refine Ts ?_; exact h):P:=f h
theorem Zl {P Q:Prop} (h:Q) (f:Q→P:=by intro h; refine Z0 ?_; refine Tl ?_; refine Z0 ?_; exact h):P:=f h
theorem Yl0 {P Q:Prop} (h:Q) (f:Q→P:=by intro h; refine Z0 ?_; refine Tl ?_; exact h):P:=f h
theorem Cf {G : Pg} {f : FuncId} {fn : Func} {c : Code} {args : List Value} {S : List Ch} {I : List Im} {σ : Type} {val : σ → Value} {S' : σ → List Ch} {I' : σ → List Im} (hf : G.P.funcs[f]? = some fn) (h : ∀ K, T G ⟨fn.ntmps, []⟩ K (pW G fn K val S' I') c (en 0 args) S I) (h1 : (fn.name == "runtime.NumGoroutine") = false := by kernel_rfl) (hb : fn.body = some c := by exact rfl) (hn : Nat.ble args.length fn.ntmps = true := by exact rfl)
    (hrd:G.rd=none:=by exact rfl):CT G f args S I val S' I':=CT.of hf h1 hb hn hrd h
section
variable {G : Pg} {n : Nd} {K : Key} {Q : Exit → Act → World → Prop} {ops : List Oper} {late : List Nat} {l : List Nat} {C : List Ch} {m : Env} {V : List Ch} {I : List Im} {o : Oper}
theorem DFp.a0 {j:Nat} (is js:List Nat) {d:Option Nat} {Sp R:List Ch} {J:List Im} {σ:Type} {v:σ→Value} {S':σ→List Ch} {I':σ→List Im} (hA:Ac G n m o Sp J v S' I') (hi:ops[j]?=some o) (hw:wg ops m o=some true) (hd:o.dst=d) (hn:dok d n.n=true) (hS:ext V is=some (Sp,R)) (hJ:pick I js=some J)
    (h: ∀ x,DF G n K Q ops late [] (j::l) C (na d (v x) m) (S' x++R) (I' x++I)):DFp G n K Q ops late j [] l C m V I:=by
  intro hF A a w fuel L h1 h2 hfu hjL hdep hf R0 hs hx
  obtain rfl:R0=[]:=hx
  rw [List.append_nil] at hs
  have hi':ops.toArray[j]?=some o:=by simpa using hi
  have hjlt:j < ops.length:=(List.getElem?_eq_some_iff.1 hi).1
  unfold wpOp
  simp only [hi']
  rw [if_pos (lD hw hf)]
  left
  have hp:(Sp++(C++R)).Perm (C++V):=by
    have h1:(Sp++R).Perm V:=cU hS
    exact (qL Sp C R).trans (List.Perm.append_left C h1)
  have hs':=hs.perm hp (fun i hi=>hi)
  refine (hA A a w _ (NP Q) hf (hs'.st.left (eR hJ)) fun x w' A' h2'=> ?_).1
  have h3:=hs'.frame h2'
  have h4:=h3.perm (qL C (S' x) R) (fun i hi=>hi)
  refine ⟨WS C (I' x++I),.inr fun w ⟨A,h1,h2⟩=>⟨A,h1,fun f hf=>h2 f (List.mem_append_right _ hf)⟩,h4.ws,?_⟩
  rw [nj,hd]
  refine h x (fun f hf=>by cases hf) A' _ w' fuel (j::L) (fun i hi=> ?_) (fun i hi=> ?_) ?_ (hf.uX hn _) [] (by rw [List.append_nil]; exact h4) rfl
  · rcases List.mem_cons.1 hi with rfl | hi
    · exact List.mem_cons_self ..
    · exact List.mem_cons_of_mem _ (h1 i hi)
  · rcases List.mem_cons.1 hi with rfl | hi
    · exact .inl (List.mem_cons_self ..)
    · exact (h2 i hi).imp (List.mem_cons_of_mem _) id
  · have:=pX hjlt hjL
    omega
end
end Go.Tw
set_option linter.unusedVariables false
set_option linter.unusedSimpArgs false
namespace Go.Tw
open Go Go.Deep
def Im.okW (w:World) (f:Im):Prop:=f.ok (fun b=>b < w.heap.size) w
def Opn {α:Type} (P:Program) (t:TypeId) (ty:Ty α) (wf:α→Prop):Prop :=
  ∀ {H:Type} (enc:TypeId×Value→H) (w:World) (sp:Nat→Bool) (hd:Bool) (fuel:Nat) (cs:List Value) (x:DataW H×List MemPlace),DataW.trod enc P w 0 sp hd fuel t cs=some x → ∃ y h,cs=ty.cs y h∧wf y ∧ ∀ f∈ty.im y h,f.okW w
variable {P : Program} {α β : Type}
theorem Opn.int {t:TypeId} {k:IntKind} (ht:P.underlying t=some (.int k)):Opn P t (Ty.int k) (inK k):=by
  intro H enc w sp hd fuel cs x h
  obtain ⟨n,rfl,_,hw⟩:=DataW.trod_int ht h
  simp only [Lit.wf,Bool.and_eq_true,decide_eq_true_eq] at hw
  exact ⟨n,(),rfl,hw,fun f hf=>by cases hf⟩
theorem Opn.str {t:TypeId} (ht:P.underlying t=some .string):Opn P t Ty.str (fun s=>s.size≤maxLen):=by
  intro H enc w sp hd fuel cs x h
  obtain ⟨s,rfl,_,hs⟩:=DataW.trod_string ht h
  exact ⟨s,(),rfl,hs,fun f hf=>by cases hf⟩
theorem EX {ty:Ty α} {wf:α→Prop} {A:eQ} {w:World} {a:Addr}: ∀ n:Nat,(∀ i,i < n → ∃ y h,(∀ j u,(ty.cs y h)[j]?=some u→w.cell? (a.add (i*ty.sz+j))=some u)∧wf y ∧ ∀ f∈ty.im y h,f.ok A w) →
    ∃ xs cs,xs.length=n∧Els ty A w xs cs∧(∀ j u,cs[j]?=some u→w.cell? (a.add j)=some u) ∧ ∀ x∈xs,wf x
  | 0,_=>⟨[],[],rfl,.nil,by simp,by simp⟩
  | n+1,h=>by
    obtain ⟨xs,cs,hl,he,hc,hw⟩:=EX n fun i hi=>h i (Nat.lt_succ_of_lt hi)
    obtain ⟨y,hd,h1,h2,h3⟩:=h n (Nat.lt_succ_self n)
    refine ⟨xs++[y],cs++(ty.cs y hd++[]),by simp [hl],he.app (.cons hd h3 .nil),?_,?_⟩
    · intro j u hu
      rw [List.append_nil] at hu
      have hlen:=he.len
      rw [hl] at hlen
      by_cases hj:j < cs.length
      · rw [List.getElem?_append_left hj] at hu
        exact hc j u hu
      · rw [List.getElem?_append_right (by omega)] at hu
        have:=h1 (j - cs.length) u hu
        rw [hlen] at this hj
        rwa [show n*ty.sz+(j - n*ty.sz)=j by omega] at this
    · intro x hx
      rcases List.mem_append.1 hx with hx | hx
      · exact hw x hx
      · rw [List.mem_singleton.1 hx]; exact h2
theorem Opn.slice {t e:TypeId} {ty:Ty α} {wf:α→Prop} (ht:P.underlying t=some (.slice e)) (he:Opn P e ty wf) (hsz:P.cellsOf e=ty.sz) (hpos:0 < ty.sz):Opn P t (Ty.slice ty) (fun xs=> ∀ x∈xs,wf x):=by
  intro H enc w sp hd fuel cs x h
  rcases open_slice ht h with ⟨rfl,_⟩ | ⟨a,len,cap,m,n,D,Pl,rfl,hb,hl,hm,hmm,_,hx⟩
  · exact ⟨[],(none,0),rfl,by simp,fun f hf=>by rw [List.mem_singleton.1 hf]; exact Im.gU _ _⟩
  · have hlm:len≤m:=by rw [hmm]; split <;> omega
    obtain ⟨xs,cs,h1,h2,h3,h4⟩:=EX (ty:=ty) (wf:=wf) (A:=fun b=>b < w.heap.size) (w:=w) (a:=a) len fun i hi=>by
      obtain ⟨cs',h5,h6⟩:=hx i (Nat.lt_of_lt_of_le hi hlm)
      obtain ⟨y,hh,rfl,hw,hf⟩:=he enc w sp hd n cs' _ h6
      refine ⟨y,hh,fun j u hu=> ?_,hw,hf⟩
      obtain ⟨_,hlen,hc⟩:=World.cells?_some h5
      have hj:j < P.cellsOf e:=by rw [← hlen]; exact (List.getElem?_eq_some_iff.1 hu).1
      rw [← hsz,← add_add,hc j hj]
      exact hu
    refine ⟨xs,(some a,cap),by rw [← h1]; rfl,h4,fun f hf=> ?_⟩
    rw [List.mem_singleton.1 hf]
    refine ⟨by rw [h1]; exact hl,?_⟩
    cases hxs:xs with
    | nil=>exact .inl rfl
    | cons x0 xr =>
      right
      have hcl:=h2.len
      have hpos2:0 < cs.length:=by
        rw [hcl,hxs,List.length_cons]
        exact Nat.mul_pos (Nat.succ_pos _) hpos
      have hc0:=h3 0 cs[0] (by simp [hpos2])
      have ha0:a.add 0=a:=by simp [Addr.add]
      rw [ha0] at hc0
      have hsp:a.spot=none∧a.block < w.heap.size:=by
        unfold World.cell? at hc0
        split at hc0
        · rename_i hh
          have hlt:=(Array.getElem?_eq_some_iff.1 hh).1
          split at hc0
          · cases hc0
          · rename_i hs
            refine ⟨?_,hlt⟩
            cases hsp:a.spot with
            | none=>rfl
            | some _=>rw [hsp] at hs; simp at hs
        · cases hc0
      obtain ⟨b,o,s⟩:=a
      obtain ⟨rfl,hlt⟩:=hsp
      refine ⟨b,o,cs,rfl,hlt,by rw [← hxs]; exact h2,fun j u hu=> ?_⟩
      have:=h3 j u hu
      rwa [add_lit] at this
def LQ (P:Program) (t:TypeId) (fs:List (Nat×Nat)):Bool:=match P.underlying t with
  | some (.struct a)=>fsb fs a.toList
  | _=>false
def uI {H:Type}:Nat→DataW H→List Value
  | _,.lit (.int k n)=>[.int k n]
  | _,.lit (.bool b)=>[.bool b]
  | d+1,.agg l=>l.flatMap (uI d)
  | _,_=>[]
def BW (P:Program) (f:TypeId→Bool):Nat→List (Nat×Nat)→Nat→Bool
  | o,[],m=>Nat.beq o m
  | o,(t,o')::r,m=>Nat.beq o o' && f t && BW P f (o+P.cellsOf t) r m
def sQ (P:Program):Nat→TypeId→Bool
  | 0,_=>false
  | d+1,t=>match P.underlying t with
    | some (.int _)=>true
    | some .bool=>true
    | some (.struct fa)=>BW P (sQ P d) 0 (fa.toList.map fun f=>(f.type,f.offset)) (P.cellsOf t)
    | some (.array n e)=>Nat.beq (P.cellsOf t) (n*P.cellsOf e) && sQ P d e
    | _=>false
theorem u7 {γ:Type} {sz:Nat} {f:Nat→List γ}: ∀ {n:Nat} {cs:List γ},cs.length=n*sz→(∀ i,i < n→(cs.drop (i*sz)).take sz=f i)→cs=(List.range n).flatMap f
  | 0,cs,hl,_=>by
    have:cs=[]:=List.eq_nil_of_length_eq_zero (by simpa using hl)
    simp [this]
  | n+1,cs,hl,h=>by
    have h1:=u7 (sz:=sz) (n:=n) (cs:=cs.take (n*sz)) (f:=f) (by rw [List.length_take,hl,Nat.succ_mul]; omega) fun i hi=>by
      rw [← h i (Nat.lt_succ_of_lt hi)]
      have hle:(i+1)*sz≤n*sz:=Nat.mul_le_mul_right sz hi
      rw [Nat.succ_mul] at hle
      rw [List.drop_take,List.take_take]
      congr 1
      omega
    have h2:=h n (Nat.lt_succ_self n)
    rw [List.range_succ,List.flatMap_append,← h1]
    have h3:(cs.drop (n*sz)).take sz=cs.drop (n*sz):=List.take_of_length_le (by rw [List.length_drop,hl,Nat.succ_mul]; omega)
    rw [h3] at h2
    simp only [List.flatMap_cons,List.flatMap_nil,List.append_nil,← h2]
    exact (List.take_append_drop _ _).symm
theorem uJ {H:Type} {enc:TypeId×Value→H} {w:World} {sp:Nat→Bool} {hd:Bool} {f:TypeId→Bool} {g:DataW H→List Value} (hf: ∀ t,f t=true → ∀ {fuel:Nat} {cs:List Value} {x:DataW H×List MemPlace},DataW.trod enc P w 0 sp hd fuel t cs=some x→cs=g x.1): ∀ {fs:List (Nat×Nat)} {o m:Nat},BW P f o fs m=true → ∀ {n:Nat} {cs:List Value} {xs:List (DataW H×List MemPlace)},cs.length=m→(∀ (i:Nat) (f:Nat×Nat),fs[i]?=some f→DataW.trod enc P w 0 sp hd n f.1 ((cs.drop f.2).take (P.cellsOf f.1))=xs[i]?)→xs.length=fs.length→cs.drop o=xs.flatMap fun x=>g x.1
  | [],o,m,hb,n,cs,xs,hl,_,hx=>by
    have:xs=[]:=List.eq_nil_of_length_eq_zero hx
    subst this
    have:=Nat.eq_of_beq_eq_true hb
    exact List.drop_of_length_le (by omega)
  | (t,o')::r,o,m,hb,n,cs,xs,hl,h,hx=>by
    simp only [BW,Bool.and_eq_true] at hb
    obtain rfl:=Nat.eq_of_beq_eq_true hb.1.1
    cases xs with
    | nil=>simp at hx
    | cons x xs =>
      have h0:=h 0 (t,o) rfl
      have e0:=hf t hb.1.2 h0
      have e1:=uJ hf hb.2 (n:=n) (cs:=cs) (xs:=xs) hl (fun i f hi=>h (i+1) f hi) (by simpa using hx)
      rw [List.flatMap_cons,← e0,← e1,← List.drop_drop]
      exact (List.take_append_drop _ _).symm
theorem rY {H:Type} {enc:TypeId×Value→H} {w:World} {sp:Nat→Bool} {hd:Bool}: ∀ {d:Nat} {t:TypeId},sQ P d t=true → ∀ {fuel:Nat} {cs:List Value} {x:DataW H×List MemPlace},DataW.trod enc P w 0 sp hd fuel t cs=some x→cs=uI d x.1
  | 0,t,hb,fuel,cs,x,h=>by cases hb
  | d+1,t,hb,fuel,cs,x,h=>by
    unfold sQ at hb
    split at hb
    · rename_i ht
      obtain ⟨n,rfl,rfl,_⟩:=DataW.trod_int ht h
      rfl
    · rename_i ht
      obtain ⟨b,rfl,rfl⟩:=DataW.trod_bool ht h
      rfl
    · rename_i fa ht
      obtain ⟨xs,n,rfl,rfl,hlen,hxl,hfx⟩:=DataW.trod_struct ht h
      have key:=uJ (g:=uI d) (fun t ht=>rY ht) hb (enc:=enc) (w:=w) (sp:=sp) (hd:=hd) (n:=n) (cs:=cs) (xs:=xs) hlen (fun i f hi=>by
        rw [List.getElem?_map] at hi
        cases hfa:fa[i]? with
        | none=>simp [hfa] at hi
        | some f0 =>
          simp [hfa] at hi
          subst hi
          exact hfx i f0 hfa) (by rw [hxl,List.length_map,Array.length_toList])
      show cs=(xs.map (·.1)).flatMap (uI d)
      rw [List.flatMap_map]
      simpa using key
    · rename_i m e ht
      simp only [Bool.and_eq_true] at hb
      have hc:=Nat.eq_of_beq_eq_true hb.1
      obtain ⟨xs,n,rfl,rfl,hlen,hxl,hfx⟩:=DataW.trod_array ht h
      show cs=(xs.map (·.1)).flatMap (uI d)
      rw [List.flatMap_map]
      have h1: ∀ i,i < m→(cs.drop (i*P.cellsOf e)).take (P.cellsOf e)=((xs[i]?).map fun x=>uI d x.1).getD []:=fun i hi=>by
        have h2:=hfx i hi
        have hlt:i < xs.length:=by rw [hxl]; exact hi
        rw [List.getElem?_eq_getElem hlt] at h2 ⊢
        exact rY hb.2 h2
      rw [u7 (by rw [hlen,hc]) h1]
      clear h1 hfx
      subst hxl
      rw [flatMap_by_index xs (.nil,[]) fun x=>uI d x.1]
      exact flatMap_congr_range fun i hi=>by simp [List.getD,hi]
    · cases hb
theorem qM {w:World} {name:String} {d:DataW Unit} {laid:List (String×DataW Unit)} {ps:List MemPlace} {g:Nat} {t:TypeId} (h:DataW.LaidVars P w laid ps) (hm:(name,d)∈laid) (hg:P.globalNamed name=some g) (hty:(P.globals[g]?).map (·.type)=some t) {dp:Nat} (hf:sQ P dp t=true): ∀ i,w.cell? ⟨g,i,none⟩=(uI dp d)[i]?:=by
  induction laid generalizing ps with
  | nil=>cases hm
  | cons y laid ih =>
    obtain ⟨n,d'⟩:=y
    obtain ⟨g',t',cs,fuel,p,q,hg',ht',hvar,hd,hr,_⟩:=h
    rcases List.mem_cons.1 hm with e | hm
    · injection e with e1 e2
      subst e1 e2
      obtain rfl:=Option.some.inj (hg.symm.trans hg')
      obtain rfl:=Option.some.inj (hty.symm.trans ht')
      have:=rY hf hd
      intro i
      rw [World.var?_cell hg hvar i,← this]
      simp
    · exact ih hr hm
theorem ya {ty:Ty α} {w:World} {g n:Nat} {cs:List Value} {xs:List α} (h0:ty.Hid) (hfree: ∀ x,ty.im x h0=[]) (hc: ∀ i,w.cell? ⟨g,i,none⟩=cs[i]?) (he:cs=xs.flatMap fun x=>ty.cs x h0) (hn:xs.length≤n) (hlt:g < w.heap.size):(Im.sl ty (some ⟨g,0,none⟩) n xs).okW w:=by
  refine ⟨hn,.inr ⟨g,0,cs,rfl,hlt,?_,fun j u hu=>by rw [Nat.zero_add,hc]; exact hu⟩⟩
  rw [he]
  clear he hc hn
  induction xs with
  | nil=>exact .nil
  | cons x xs ih=>exact .cons h0 (fun f hf=>by rw [hfree] at hf; cases hf) ih
theorem yb {w:World} {g:Nat} {cs:List Value} (hc: ∀ i,w.cell? ⟨g,i,none⟩=cs[i]?) (hpos:0 < cs.length):g < w.heap.size:=by
  have h:=hc 0
  rw [List.getElem?_eq_getElem hpos] at h
  unfold World.cell? at h
  split at h
  · rename_i hh; exact (Array.getElem?_eq_some_iff.1 hh).1
  · cases h
theorem SS.below {w w':World} {A A':eQ} {S':List Ch} {I':List Im} (h:SS ⟨w,A,Own []⟩ A' S' I' w'):RowKit.Below w.heap.size w w' :=
  ⟨h.fx.os,h.fx.tape,h.fx.output,h.fx.size,fun k hk=>h.fx.sO k hk fun ⟨c,hc,_⟩=>by cases hc⟩
theorem St.first {w:World} {I:List Im} (h: ∀ f∈I,f.okW w):St (fun b=>b < w.heap.size) [] I w :=
  ⟨fun _ h=>h,(fun _ h=>by cases h),(fun _ h=>by cases h),List.Pairwise.nil,h⟩
end Go.Tw
namespace Go.Tw
open Go
theorem KJ {k:IntKind} {n m:Int} (e:(Value.int k n).cells.toList=[Value.int k m]):m=n:=by simpa [Value.cells,eq_comm] using e
theorem LZ {a b:Option Addr} {n m c d:Nat} (e:(Value.slice a n c).cells.toList=[Value.slice b m d]):a=b∧n=m∧c=d:=by simpa [Value.cells] using e
end Go.Tw
set_option linter.unusedVariables false
set_option linter.unusedSimpArgs false
namespace Go.Tw
open Go
theorem w64 {x:Int} (h1: -9223372036854775808≤x) (h2:x≤9223372036854775807):IntKind.i64.wrap x=x:=by rw [IntKind.wrap_i64]; omega
theorem fE {α:Type} (xs:List α) (n:Nat):idx xs (n:Int)=xs[n]?:=by simp [idx]
theorem EY {α:Type} (xs:List α):idx xs 0=xs[0]?:=fE xs 0
theorem ld {α:Type} (l r:List α) (x:α):idx (l++x::r) (l.length:Int)=some x:=by rw [fE]; simp
theorem lF {p:Prop} [Decidable p] (h:p):chk (decide p)=some ():=by simp [chk,h]
theorem bR {n m b:Nat} (h:(n+m)*b≤140737488355328):chk (eL n m b)=some ():=lF h
theorem bY {lo hi n:Int} (h0:0≤lo) (h1:lo≤hi) (h2:hi≤n):chk (dB lo hi n)=some ():=lF ⟨h0,h1,h2⟩
theorem Dr {k:Int} {b:Nat} (h0:0≤k) (h1:k*b≤140737488355328) (h2:k≤140737488355328):chk (Jy k b)=some ():=lF ⟨h0,h1,h2⟩
theorem Du {k:Int} {b:Nat} (h0:0 < k) (h1:k*b≤140737488355328) (h2:k≤140737488355328):chk (Jz k b)=some ():=lF ⟨h0,h1,h2⟩
theorem aA {α β:Type _} (x:α) (f:α→Option β):Option.bind (some x) f=f x:=rfl
def rK {α:Type} (d:α):List α→α
  | []=>d
  | [x]=>x
  | _::y::l=>rK d (y::l)
theorem vP {α:Type} (d x:α): ∀ l:List α,rK d (l++[x])=x
  | []=>rfl
  | [y]=>rfl
  | a::b::l=>by
    show rK d (b::(l++[x]))=x
    exact vP d x (b::l)
theorem zb {α:Type} (l r:List α) (d x:α) (h:0 < l.length):idx (l++x::r) ((l.length:Int) - 1)=some (rK d l):=by
  have e:((l.length:Int) - 1)=((l.length - 1:Nat):Int):=by omega
  rw [e,fE]
  have hl:l=l.take (l.length - 1)++[rK d l]:=by
    clear e
    induction l with
    | nil=>simp at h
    | cons a t ih =>
      cases t with
      | nil=>rfl
      | cons b t =>
        have:=ih (by simp)
        simp only [List.length_cons,Nat.add_sub_cancel] at this ⊢
        rw [List.take_succ_cons,List.cons_append]
        congr 1
  rw [List.getElem?_append_left (by omega)]
  have h2:(l.take (l.length - 1)).length=l.length - 1:=by rw [List.length_take]; omega
  conv=>lhs; rw [hl]
  rw [List.getElem?_append_right (by simp)]
  simp
theorem zc {α:Type} (l r:List α) (x:α):idx (l++x::r) ((l.length:Int)+1)=r[0]?:=by
  have e:((l.length:Int)+1)=((l.length+1:Nat):Int):=by omega
  rw [e,fE,List.getElem?_append_right (by omega)]
  have:l.length+1 - l.length=1:=by omega
  rw [this]
  simp
end Go.Tw

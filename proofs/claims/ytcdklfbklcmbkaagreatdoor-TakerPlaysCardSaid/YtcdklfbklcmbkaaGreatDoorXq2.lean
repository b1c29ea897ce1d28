import Derived.Test.YtcdklfbklcmbkaaGreatDoorXq1
import Derived.Test.YtcdklfbklcmbkaaGreatDoorFw2
import Derived.Test.YtcdklfbklcmbkaaGreatDoorXp1
set_option linter.unusedVariables false
set_option linter.unusedSimpArgs false
namespace Go.Tw.X
open Go Go.Tw
def jM (a:aC) (s:ByteArray):aC×Int :=
 if ie a=false then (fq,1)
 else if kJ (zR s).2≠0 then (fq,kJ (zR s).2)
 else if (zA s).1≠((kX (fF a):Nat):Int) then (fq,7)
 else match fU a.rows (zR s).1 (zD s).1.toNat 0 [] with
  | none=>(fq,1)
  | some l=>if kf (gZ (zS s) l) then (fq,1) else (gZ (zS s) l,0)
theorem rV {i:aI} (hV:VI i) (h:kJ i=0):i.e=0/\i.s=noS:=by
 unfold kJ at h
 split at h
 ·cases h
 ·rename_i h1
  exact ⟨h,Classical.not_not.1 h1⟩
theorem zVI {s:ByteArray} (h:s.size<=1000000):VI (zB s).2/\VI (zC s).2/\VI (zF s).2/\VI (zH s).2/\VI (zK s).2/\VI (zN s).2/\VI (zR s).2:=by
 have v0:VI (⟨s,0⟩:aI):=⟨h,.inl rfl⟩
 have vB:VI (zB s).2:=eX (eX v0)
 have vC:VI (zC s).2:=eI _ vB
 have vF:VI (zF s).2:=eX (eX (eI _ vC))
 have vH:VI (zH s).2:=eX (eX (qA vF))
 have vK:VI (zK s).2:=sL vH
 have vN:VI (zN s).2:=eX vK
 exact ⟨vB,vC,vF,vH,vK,vN,zo _ _ _ _ _ _ vN⟩
def prl (l:List (Int×aE)):List Int:=l.flatMap λp=>bK p.1++cV p.2
theorem BA {i:aI} (hV:VI i) (h:(rdS i).2.e=0):i.e=0/\sbs i.s=bK (rdS i).1++sbs (rdS i).2.s:=by
 obtain ⟨h1,w,h2,h3,h4⟩:=rK h hV
 exact ⟨h1,by rw [h2,iz h3]; exact h4⟩
theorem rW: ∀ (k:Nat) (w h:Int) (i:aI) (last:Int) (l:List (Int×aE)),VI i->(dlL k w h i last l).2.e=0 -> ∃ D,prl (dlL k w h i last l).1=prl l++D/\sbs i.s=D++sbs (dlL k w h i last l).2.s
 | 0,w,h,i,last,l,hV,he=>⟨[],by simp [dlL],by simp [dlL]⟩
 | k+1,w,h,i,last,l,hV,he=>by
  have hi:=B7 _ _ _ _ _ _ he
  unfold dlL at he ⊢
  rw [if_pos hi] at he ⊢
  have h0:=B7 _ _ _ _ _ _ he
  have h1:=sU (jC hV) h0
  obtain ⟨h2,h3,h4⟩:=vn h1
  obtain ⟨D,d1,d2⟩:=rW k w h _ _ _ (oo (jC hV)) he
  have hr:(rdS i).2.e=0:=by rw [<- h4]; exact h1
  obtain ⟨-,h5⟩:=BA hV hr
  have h6:=ve (jC (h:=h) (last:=last) hV) h0
  refine ⟨bK (rdS i).1++cV (gv (dlI h i last) w).1++D,?_,?_⟩
  ·rw [d1]
   unfold prl
   rw [List.flatMap_append,List.flatMap_singleton]
   simp only [List.append_assoc]
  ·rw [h5,<- h4,h6,d2]
   simp only [List.append_assoc]
theorem Dr {i:aI} {m:Nat} (h:SZ m i):(kW i).2.s.size<=m:=by
 by_cases he:(kW i).2.e=0
 ·obtain ⟨-,hw⟩:=CN h.1 he
  have:=congrArg List.length hw
  rw [List.length_append,aR,aR] at this
  have:=h.2
  omega
 ·rcases (qA h.1).2 with h1 | h1
  ·exact absurd h1 he
  ·rw [h1]; exact Nat.zero_le _
theorem Ei {i:aI} {m:Nat} (h:SZ m i):(bkS i).2.s.size<=m:=by
 by_cases he:(bkS i).2.e=0
 ·obtain ⟨-,hw⟩:=xF h.1 he
  have:=congrArg List.length hw
  rw [List.length_append,aR,aR] at this
  have:=h.2
  omega
 ·rcases (sL h.1).2 with h1 | h1
  ·exact absurd h1 he
  ·rw [h1]; exact Nat.zero_le _
theorem qG: ∀ (k:Nat) (w h:Int) (i:aI) (last:Int) (l:List (Int×aE)),VI i->w<=1000->(∀ p∈l,okR p.2.cells/\p.2.cells.length<=1000) -> ∀ p∈(dlL k w h i last l).1,okR p.2.cells/\p.2.cells.length<=1000
 | 0,w,h,i,last,l,hV,hw,hl=>hl
 | k+1,w,h,i,last,l,hV,hw,hl=>by
  unfold dlL
  split
  ·refine qG k w h _ _ _ (oo (jC hV)) hw ?_
   intro p hp
   rcases List.mem_append.1 hp with hp | hp
   ·exact hl p hp
   ·rw [List.mem_singleton.1 hp]
    exact AR (jC hV) hw
  ·exact hl
theorem m8 {α:Type} {k:Int} {x:α}: ∀ {l:List (Int×α)},mgl k l=some x->(k,x)∈l
 | [],h=>by cases h
 | (j,y)::l,h=>by
  simp only [mgl] at h
  split at h
  ·rename_i hk
   injection h with h
   subst h hk
   exact List.mem_cons_self ..
  ·exact List.mem_cons_of_mem _ (m8 h)
theorem qH {A:List aE} {l:List (Int×aE)} (Q:aE->Prop) (hA: ∀ r∈A,Q r) (hl: ∀ p∈l,Q p.2): ∀ (k y:Nat) (acc out:List aE),fU A l k y acc=some out->(∀ r∈acc,Q r)->(∀ r∈out,Q r)/\out.length=acc.length+k
 | 0,y,acc,out,h,hacc=>by
  injection h with h
  subst h
  exact ⟨hacc,rfl⟩
 | k+1,y,acc,out,h,hacc=>by
  have go: ∀ r,Q r->fU A l k (y+1) (acc++[r])=some out->(∀ r∈out,Q r)/\out.length=acc.length+(k+1):=by
   intro r hr h2
   obtain ⟨h3,h4⟩:=qH Q hA hl k (y+1) (acc++[r]) out h2 (λq hq=>by
    rcases List.mem_append.1 hq with hq | hq
    ·exact hacc q hq
    ·rw [List.mem_singleton.1 hq]; exact hr)
   refine ⟨h3,h4.trans ?_⟩
   simp only [List.length_append,List.length_cons,List.length_nil]
   omega
  simp only [fU] at h
  split at h
  ·rename_i r q h1 h2
   split at h
   ·cases h
   ·exact go r (hl _ (m8 h1)) h
  ·rename_i r h1 h2
   exact go r (hl _ (m8 h1)) h
  ·rename_i q h1 h2
   exact go q (hA _ (List.mem_of_getElem? h2)) h
  ·cases h
def tot (y:Int):List (Int×aE)->Nat
 | []=>0
 | (j,z)::l=>(if y<=j then (cV z).length else 0)+tot y l
theorem qI (y:Int): ∀ l,tot (y+1) l<=tot y l
 | []=>Nat.le_refl _
 | (j,z)::l=>by
  have:=qI y l
  simp only [tot]
  by_cases h1:y+1<=j
  ·rw [if_pos h1,if_pos (by omega)]; omega
  ·rw [if_neg h1]; omega
theorem sW (y:Int) {r:aE}: ∀ l,mgl y l=some r->(cV r).length+tot (y+1) l<=tot y l
 | [],h=>by cases h
 | (j,z)::l,h=>by
  simp only [mgl] at h
  simp only [tot]
  split at h
  ·rename_i hk
   injection h with h
   subst h hk
   have:=qI y l
   rw [if_neg (by omega),if_pos (Int.le_refl _)]
   omega
  ·have:=sW y l h
   by_cases h1:y+1<=j
   ·rw [if_pos h1,if_pos (by omega)]; omega
   ·rw [if_neg h1]; omega
theorem vq (y:Int): ∀ l,tot y l<=(prl l).length
 | []=>Nat.le_refl _
 | (j,z)::l=>by
  have:=vq y l
  unfold prl at this ⊢
  simp only [tot,List.flatMap_cons,List.length_append]
  split <;> omega
theorem qJ {A:List aE} {l:List (Int×aE)}: ∀ (k y:Nat) (acc out:List aE),fU A l k y acc=some out->(out.flatMap cV).length<=(acc.flatMap cV).length+tot (y:Int) l+((A.drop y).flatMap cV).length
 | 0,y,acc,out,h=>by
  injection h with h
  subst h
  omega
 | k+1,y,acc,out,h=>by
  have hn:=qI (y:Int) l
  have e1:((y+1:Nat):Int)=(y:Int)+1:=rfl
  have hd: ∀ q,A[y]?=some q->((A.drop y).flatMap cV).length=(cV q).length+((A.drop (y+1)).flatMap cV).length:=by
   intro q hq
   obtain ⟨h1,h2⟩:=List.getElem?_eq_some_iff.1 hq
   rw [List.drop_eq_getElem_cons h1,List.flatMap_cons,List.length_append,h2]
  have go: ∀ r,fU A l k (y+1) (acc++[r])=some out->(out.flatMap cV).length<=(acc.flatMap cV).length+(cV r).length+tot ((y:Int)+1) l+((A.drop (y+1)).flatMap cV).length:=by
   intro r h2
   have:=qJ k (y+1) (acc++[r]) out h2
   rw [List.flatMap_append,List.flatMap_singleton,List.length_append,e1] at this
   exact this
  have hdd:((A.drop (y+1)).flatMap cV).length<=((A.drop y).flatMap cV).length:=by
   by_cases hy:y < A.length
   ·rw [hd _ (List.getElem?_eq_getElem hy)]; omega
   ·rw [List.drop_eq_nil_of_le (by omega:A.length<=y+1)]
    exact Nat.zero_le _
  simp only [fU] at h
  split at h
  ·rename_i r q h1 h2
   split at h
   ·cases h
   ·have:=go r h
    have:=sW (y:Int) l h1
    omega
  ·rename_i r h1 h2
   have:=go r h
   have:=sW (y:Int) l h1
   omega
  ·rename_i q h1 h2
   have:=go q h
   have:=hd q h2
   omega
  ·cases h
theorem zq {s:ByteArray} (h:s.size<=1000000) (he:(zR s).2.e=0):(prl (zR s).1).length<=s.size:=by
 obtain ⟨vB,vC,vF,vH,vK,vN,vR⟩:=zVI h
 obtain ⟨D,h1,h2⟩:=rW _ _ _ _ _ _ vN he
 have hD:prl (zR s).1=D:=h1
 have h3:=congrArg List.length h2
 rw [List.length_append,aR,<- hD] at h3
 have v0:SZ s.size (⟨s,0⟩:aI):=⟨⟨h,.inl rfl⟩,Nat.le_refl _⟩
 have s1:SZ s.size (zF s).2:=me (me (sM _ (sM _ (me (me v0)))))
 have s2:SZ s.size (zT s).2:=⟨qA s1.1,Dr s1⟩
 have s3:SZ s.size (zH s).2:=me (me s2)
 have s4:SZ s.size (zK s).2:=⟨sL s3.1,Ei s3⟩
 have s5:=(me s4).2
 have:(zN s).2.s.size<=s.size:=s5
 omega
theorem oB {a:aC} {s:ByteArray} {l:List aE} (ha:SW a) (pa:(a.rows.flatMap cV).length<=12000) (h:s.size<=100000) (ht:(zT s).1.size<=6000) (he:(zR s).2.e=0) (hl:fU a.rows (zR s).1 (zD s).1.toNat 0 []=some l):SW (gZ (zS s) l)/\(l.flatMap cV).length<=200000:=by
 obtain ⟨vB,vC,vF,vH,vK,vN,vR⟩:=zVI (s:=s) (by omega)
 have b1:=fN (m:=1000) vB (by omega)
 have c1:=fN (m:=1000) vC (by omega)
 have hw1:0<=(zC s).1:=b1.1
 have hw2:(zC s).1<=1000:=b1.2
 have hh1:0<=(zD s).1:=c1.1
 have hh2:(zD s).1<=1000:=c1.2
 have bo:=CP vH
 have hrows:=qG (zN s).1.toNat (zC s).1 (zD s).1 (zN s).2 (-1) [] vN hw2 (λp hp=>by cases hp)
 obtain ⟨p1,p2⟩:=qH (λr=>okR r.cells/\r.cells.length<=1000) ha.ro hrows _ _ _ _ hl (λr hr=>by cases hr)
 have p3:=qJ _ _ _ _ hl
 have p4:=vq ((0:Nat):Int) (zR s).1
 have p5:=zq (by omega) he
 have p6:((a.rows.drop 0).flatMap cV).length<=12000:=by simpa using pa
 refine ⟨⟨?_,?_,bo.1,p1,?_,Nat.le_trans bo.2 (by decide),ht⟩,?_⟩
 ·show _<=(zC s).1/\(zC s).1<=_
  omega
 ·show _<=(zD s).1/\(zD s).1<=_
  omega
 ·show l.length<=1000
  rw [p2]
  simp only [List.length_nil]
  omega
 ·simp only [List.flatMap_nil,List.length_nil] at p3
  omega
theorem zr (a:aC) (s:ByteArray) (ha:SW a) (pa:(a.rows.flatMap cV).length<=12000) (h:s.size<=100000) (ht:(zT s).1.size<=6000) (he:(zR s).2.e=0) (sum:Int) :
  (∀ l,fU a.rows (zR s).1 (zD s).1.toNat 0 []=some l->dP ⟨sum,zS s,some (zR s).1⟩ a=some (!kf (gZ (zS s) l),⟨sum,gZ (zS s) l,some (zR s).1⟩))/\(fU a.rows (zR s).1 (zD s).1.toNat 0 []=none -> ∃ p',dP ⟨sum,zS s,some (zR s).1⟩ a=some (false,p')):=by
 obtain ⟨vB,vC,vF,vH,vK,vN,vR⟩:=zVI (s:=s) (by omega)
 have c1:=fN (m:=1000) vC (by omega)
 have hh1:0<=(zD s).1:=c1.1
 have hh2:(zD s).1<=1000:=c1.2
 have har: ∀ r∈a.rows,r.cells.length<=1000000:=λr hr=>by have:=(ha.ro r hr).2; omega
 obtain ⟨H,hH⟩:=Int.eq_ofNat_of_zero_le hh1
 obtain ⟨b1,b2⟩:=vp sum (zS s) a (zR s).1 H (by omega) hH har _ rfl H 0 [] (by omega) rfl
 have hH2:(zD s).1.toNat=H:=by rw [hH,Int.toNat_natCast]
 have hz:gZ (zS s) []=zS s:=rfl
 rw [hz] at b1 b2
 refine ⟨λl hl=> ?_,λhl=> ?_⟩
 ·obtain ⟨SWx,pl⟩:=oB ha pa h ht he hl
  rw [hH2] at hl
  have e:=b1 l hl
  unfold dP
  refine (congrArg (λz=>Option.bind z _) e).trans ?_
  rw [aA]
  dsimp only
  have hm:gn (gZ (zS s) l)=some (!kf (gZ (zS s) l)):=um _ SWx (by show (l.flatMap cV).length<=1000000; omega)
  show Option.bind (gn (gZ (zS s) l)) _=_
  rw [hm,aA]
 ·rw [hH2] at hl
  obtain ⟨p',this⟩:=b2 hl
  refine ⟨p',?_⟩
  unfold dP
  refine (congrArg (λz=>Option.bind z _) this).trans ?_
  rw [aA]
theorem ur (a:aC) (s:ByteArray) (ha:SW a) (pa:(a.rows.flatMap cV).length<=12000) (h:s.size<=100000) (ht:(zT s).1.size<=6000):ib a s=some (jM a s):=by
 obtain ⟨vB,vC,vF,vH,vK,vN,vR⟩:=zVI (s:=s) (by omega)
 unfold ib jM
 rw [oq a ha,aA]
 cases hm:ie a with
 | false=>rw [if_neg (by simp),if_pos rfl]; rfl
 | true =>
  rw [if_pos rfl,if_neg (by simp)]
  obtain ⟨m',r1,r2⟩:=zp s (by omega)
  have k0:((0:Int) != 0)=false:=rfl
  rw [k0,cond_false,r1,aA]
  dsimp only
  by_cases he:kJ (zR s).2=0
  ·have k1:(kJ (zR s).2 != 0)=false:=by simp [he]
   rw [k1,cond_false,if_neg (λhh=>hh he),wM a ha pa,aA]
   obtain ⟨he0, -⟩:=rV vR he
   obtain rfl:=r2 he0
   by_cases hs:(zA s).1=((kX (fF a):Nat):Int)
   ·have k2:((zA s).1 != ((kX (fF a):Nat):Int))=false:=by simp [hs]
    rw [k2,cond_false,if_neg (λhh=>hh hs)]
    obtain ⟨b1,b2⟩:=zr a s ha pa h ht he0 (zA s).1
    cases hl:fU a.rows (zR s).1 (zD s).1.toNat 0 [] with
    | none =>
     obtain ⟨p',b3⟩:=b2 hl
     rw [b3,aA]
     rfl
    | some l =>
     obtain ⟨SWx,pl⟩:=oB ha pa h ht he0 hl
     rw [b1 l hl,aA]
     dsimp only
     cases hn:kf (gZ (zS s) l) with
     | true=>rfl
     | false =>
      rw [Bool.not_false,Bool.not_true,cond_false,if_neg (by simp),lJ _ SWx,aA]
   ·have k2:((zA s).1 != ((kX (fF a):Nat):Int))=true:=by simp [hs]
    rw [k2,cond_true,if_pos hs]
    rfl
  ·have k1:(kJ (zR s).2 != 0)=true:=by simp [he]
   rw [k1,cond_true,if_pos he]
   rfl
def nh (l:List (Int×aE)) (H:Nat):List Bool:=(List.range H).map λy:Nat=>(mgl (y:Int) l).isSome
def kg (l:List (Int×aE)) (H:Nat):List aE:=(List.range H).map λy:Nat=>(mgl (y:Int) l).getD ng
theorem zt (l:List (Int×aE)) (H:Nat):(nh l H).length=H:=by simp [nh]
theorem uu (l:List (Int×aE)) (H:Nat):(kg l H).length=H:=by simp [kg]
theorem oC (l:List (Int×aE)) (k j:Int) (x:aE) (hn: ∀ p∈l,p.1≠j):mgl k (l++[(j,x)])=if k=j then some x else mgl k l:=by
 induction l with
 | nil=>simp [mgl]
 | cons p l ih =>
  obtain ⟨i,z⟩:=p
  simp only [List.cons_append,mgl]
  have hi:i≠j:=hn (i,z) (by simp)
  by_cases h:k=i
  ·rw [if_pos h,if_neg (by omega),if_pos h]
  ·rw [if_neg h,ih λp hp=>hn p (by simp [hp]),if_neg h]
theorem zu (l:List (Int×aE)) (H j:Nat) (x:aE) (hj:j < H) (hn: ∀ p∈l,p.1≠(j:Int)):(nh l H).set j true=nh (l++[((j:Int),x)]) H:=by
 apply List.ext_getElem?
 intro i
 rw [List.getElem?_set]
 unfold nh
 simp only [List.getElem?_map,List.length_map,List.length_range]
 by_cases h:j=i
 ·subst h
  rw [if_pos rfl,if_pos hj,List.getElem?_range hj]
  simp [oC _ _ _ _ hn]
 ·rw [if_neg h]
  by_cases hi:i < H
  ·rw [List.getElem?_range hi]
   simp only [Option.map_some]
   rw [oC _ _ _ _ hn,if_neg (by omega)]
  ·rw [List.getElem?_eq_none (by simpa using hi)]
   rfl
theorem zv (l:List (Int×aE)) (H j:Nat) (x:aE) (hj:j < H) (hn: ∀ p∈l,p.1≠(j:Int)):(kg l H).set j x=kg (l++[((j:Int),x)]) H:=by
 apply List.ext_getElem?
 intro i
 rw [List.getElem?_set]
 unfold kg
 simp only [List.getElem?_map,List.length_map,List.length_range]
 by_cases h:j=i
 ·subst h
  rw [if_pos rfl,if_pos hj,List.getElem?_range hj]
  simp [oC _ _ _ _ hn]
 ·rw [if_neg h]
  by_cases hi:i < H
  ·rw [List.getElem?_range hi]
   simp only [Option.map_some]
   rw [oC _ _ _ _ hn,if_neg (by omega)]
  ·rw [List.getElem?_eq_none (by simpa using hi)]
   rfl
theorem zw (H:Nat):nh [] H=List.replicate H false:=by
 apply List.ext_getElem?
 intro i
 unfold nh
 simp only [List.getElem?_map,List.getElem?_replicate]
 by_cases hi:i < H
 ·rw [List.getElem?_range hi,if_pos hi]; rfl
 ·rw [List.getElem?_eq_none (by simpa using hi),if_neg hi]; rfl
theorem zx (H:Nat):(kg [] H).map told=List.replicate H (told ng):=by
 apply List.ext_getElem?
 intro i
 unfold kg
 simp only [List.getElem?_map,List.getElem?_replicate]
 by_cases hi:i < H
 ·rw [List.getElem?_range hi,if_pos hi]; rfl
 ·rw [List.getElem?_eq_none (by simpa using hi),if_neg hi]; rfl
theorem lL (l:List (Int×aE)) {H y:Nat} (h:y < H):idx (nh l H) (y:Int)=some (mgl (y:Int) l).isSome:=by
 rw [bN _ _ (by rw [zt]; exact h)]
 simp [nh]
theorem zy (l:List (Int×aE)) {H y:Nat} (h:y < H):(kg l H)[y]?=some ((mgl (y:Int) l).getD ng):=by
 unfold kg
 rw [List.getElem?_map,List.getElem?_range h]
 rfl
theorem Du (x:aC) (H N:Nat) (hH:H<=1000) (hh:x.h=(H:Int)) (hw:x.w<=1000) (hN:N<=4611686018427387904) (f:aQ×(List Bool)×(List aU)×Int×Int->Option ((aQ×(List Bool)×(List aU)×Int×Int) ⊕ (((List Bool)×(List aU)×aQ) ⊕ (aV×Int)))) (hf:f=(λa=>(bif (decide (a.2.2.2.2 < (N:Int))) then (Option.bind (aY a.1) λb=>(Option.bind ((bif (b.1.e == 0) then (bif (decide (b.2<=a.2.2.2.1)) then some true else some (decide (b.2>=x.h))) else some false):Option Bool) λd=>(bif d then (eJ (some ((aV.mk 0 0 0 0 0 (ByteArray.mk #[]) ([]:List aU) 0 0 ([]:List aN)),1))) else (Option.bind (fY b.1 x.w) λc=>(bif (c.1.e != 0) then (eJ (some ((aV.mk 0 0 0 0 0 (ByteArray.mk #[]) ([]:List aU) 0 0 ([]:List aN)),c.1.e))) else (Option.bind (idx a.2.1 b.2) λg=>(Option.bind (idx a.2.2.1 b.2) λj=>some (.inl (c.1,(a.2.1.set b.2.toNat true),(a.2.2.1.set b.2.toNat c.2),b.2,(IntKind.i64.wrap (a.2.2.2.2+1))))))))))) else some (.inr (.inl (a.2.1,a.2.2.1,a.1))))) ) :
  ∀ (k n:Nat) (i:aI) (last:Int) (l:List (Int×aE)),n+k=N->VI i->i.e=0 -> -1<=last->(∀ p∈l,p.1<=last) ->
  iter f (asR i,nh l H,(kg l H).map told,last,(n:Int))=some (if (dlL k x.w x.h i last l).2.e=0 then .inl (nh (dlL k x.w x.h i last l).1 H,(kg (dlL k x.w x.h i last l).1 H).map told,asR (dlL k x.w x.h i last l).2) else .inr (eW fq,(dlL k x.w x.h i last l).2.e)):=by
 intro k
 induction k with
 | zero =>
  intro n i last l hn hV he h1 hl
  have e0:dlL 0 x.w x.h i last l=(l,i):=rfl
  rw [e0,if_pos he]
  refine bM ?_
  subst hf
  dsimp only
  rw [decide_eq_false (by omega),cond_false]
 | succ k ih =>
  intro n i last l hn hV he h1 hl
  have hrr:=jB hV
  have hd:dlL (k+1) x.w x.h i last l=dlL k x.w x.h (gv (dlI x.h i last) x.w).2 (rdS i).1 (l++[((rdS i).1,(gv (dlI x.h i last) x.w).1)]):=by
   conv=>lhs; unfold dlL
   rw [if_pos he]
  rw [hd]
  have hcond:((bif ((asR (rdS i).2).e == 0) then (bif (decide ((rdS i).1<=last)) then some true else some (decide ((rdS i).1>=x.h))) else some false):Option Bool)=some (decide ((rdS i).2.e=0/\((rdS i).1<=last\/(rdS i).1>=x.h))):=by
   rw [lH,or2]
   by_cases h0:(rdS i).2.e=0
   ·have:((rdS i).2.e == 0)=true:=by simpa using h0
    rw [this,cond_true]
    simp [h0]
   ·have:((rdS i).2.e == 0)=false:=by simpa using h0
    rw [this,cond_false]
    simp [h0]
  by_cases hrow:(gv (dlI x.h i last) x.w).2.e=0
  ·-- all right
   obtain ⟨h2,h3,h4⟩:=vn (sU (jC hV) hrow)
   have h5:(rdS i).2.e=0:=by rw [<- h4]; exact sU (jC hV) hrow
   obtain ⟨y,hy⟩:=Int.eq_ofNat_of_zero_le hrr.1
   have hyH:y < H:=by omega
   have hnew: ∀ p∈l,p.1≠(y:Int):=λp hp e=>by have:=hl p hp; omega
   rw [cM (s':=(asR (gv (dlI x.h i last) x.w).2,nh (l++[((rdS i).1,(gv (dlI x.h i last) x.w).1)]) H,(kg (l++[((rdS i).1,(gv (dlI x.h i last) x.w).1)]) H).map told,(rdS i).1,((n+1:Nat):Int)))]
   ·refine ih (n+1) _ _ _ (by omega) (oo (jC hV)) hrow (by omega) ?_
    intro p hp
    rcases List.mem_append.1 hp with hp | hp
    ·have:=hl p hp
     omega
    ·rw [List.mem_singleton.1 hp]
     exact Int.le_refl _
   ·subst hf
    dsimp only
    rw [decide_eq_true (by omega),cond_true,gF _ hV,aA]
    dsimp only
    rw [hcond,decide_eq_false (by omega),aA,cond_false,<- h4,pA _ _ (jC hV) hw,aA]
    have k1:((asR (gv (dlI x.h i last) x.w).2).e != 0)=false:=by rw [lH]; simpa using hrow
    dsimp only
    rw [k1,cond_false,hy,lL l hyH,aA,bN _ _ (by rw [List.length_map,uu]; exact hyH),aA,Int.toNat_natCast,w64 (by omega) (by omega),<- zu l H y _ hyH hnew,<- zv l H y _ hyH hnew,List.map_set]
    rfl
  ·rw [oA _ _ _ _ _ _ hrow,if_neg hrow]
   refine bM ?_
   subst hf
   dsimp only
   rw [decide_eq_true (by omega),cond_true,gF _ hV,aA]
   dsimp only
   rw [hcond]
   by_cases hc:(rdS i).2.e=0/\((rdS i).1<=last\/(rdS i).1>=x.h)
   ·rw [decide_eq_true hc,aA,cond_true]
    have h6:dlI x.h i last=iM:=by
     unfold dlI
     rw [if_pos hc.2]
     unfold qF
     rw [if_pos hc.1]
    have h7:(gv iM x.w).2.e=1:=by
     have:(bE iM 1).2=iM:=by
      have:=oh (i:=iM) (by decide) 1 (by omega)
      exact this
     unfold gv
     rw [this]
     have h8:rrS (x.w.toNat+1) x.w iM []=([],iM):=by
      unfold rrS
      rw [if_neg (λhh=>absurd hh.2 (by decide))]
     rw [h8,if_neg (by decide)]
     rfl
    rw [h6,h7]
    rfl
   ·rw [decide_eq_false hc,aA,cond_false]
    have h6:dlI x.h i last=if (rdS i).2.e=0 then (rdS i).2 else (rdS i).2:=by
     unfold dlI
     by_cases h0:(rdS i).2.e=0
     ·rw [if_pos h0,if_neg (λhh=>hc ⟨h0,hh⟩)]
     ·rw [if_neg h0]
      split
      ·unfold qF
       rw [if_neg h0]
      ·rfl
    have h7:dlI x.h i last=(rdS i).2:=by rw [h6]; split <;> rfl
    rw [<- h7,pA _ _ (jC hV) hw,aA]
    have k1:((asR (gv (dlI x.h i last) x.w).2).e != 0)=true:=by rw [lH]; simpa using hrow
    dsimp only
    rw [k1,cond_true]
    rfl
theorem Dv (a:aC) (l:List (Int×aE)) (H:Nat) (hH:H<=1000) (ha: ∀ r∈a.rows,r.cells.length<=1000000) (hl: ∀ p∈l,p.2.cells.length<=1000000) (f:(List aU)×Int->Option (((List aU)×Int) ⊕ ((List aU) ⊕ (aV×Int)))) (hf:f=(λb=>(bif (decide (b.2 < (((kg l H).map told).length:Int))) then (Option.bind ((Option.bind ((Option.bind (idx (nh l H) b.2) λc=>(bif (!c) then (bif (decide (b.2>=((eW a).rows.length:Int))) then some true else (Option.bind (idx (nh l H) b.2) λd=>(bif d then (bif (decide (b.2 < ((eW a).rows.length:Int))) then (Option.bind (idx b.1 b.2) λe=>(Option.bind (idx (eW a).rows b.2) λg=>(Option.bind (gu e g) λh=>some h))) else some false) else some false))) else (Option.bind (idx (nh l H) b.2) λi=>(bif i then (bif (decide (b.2 < ((eW a).rows.length:Int))) then (Option.bind (idx b.1 b.2) λj=>(Option.bind (idx (eW a).rows b.2) λm=>(Option.bind (gu j m) λn=>some n))) else some false) else some false)))):Option Bool) λo=>(bif o then (my (eJ (some ((aV.mk 0 0 0 0 0 (ByteArray.mk #[]) ([]:List aU) 0 0 ([]:List aN)),1)))) else (Option.bind (idx (nh l H) b.2) λq=>(bif (!q) then (Option.bind (idx (eW a).rows b.2) λs=>(Option.bind (idx b.1 b.2) λt=>some (.inl (b.1.set b.2.toNat s)))) else some (.inl b.1))))):Option ((List aU) ⊕ (((List aU)×Int) ⊕ ((List aU) ⊕ (aV×Int))))) λ | .inl e4726=>some (.inl (e4726,(IntKind.i64.wrap (b.2+1)))) | .inr w=>some w) else some (.inr (.inl b.1)))) ) :
  ∀ (k y:Nat) (acc:List aE),y+k=H->acc.length=y ->
  iter f (acc.map told++((kg l H).map told).drop y,(y:Int))=some (match fU a.rows l k y acc with | some out=> .inl (out.map told) | none=> .inr (eW fq,1)):=by
 have lr:((kg l H).map told).length=H:=by rw [List.length_map,uu]
 have la:(eW a).rows.length=a.rows.length:=List.length_map ..
 intro k
 induction k with
 | zero =>
  intro y acc hy hacc
  refine bM ?_
  subst hf
  dsimp only
  rw [decide_eq_false (by omega),cond_false,List.drop_eq_nil_of_le (by omega),List.append_nil]
  rfl
 | succ k ih =>
  intro y acc hy hacc
  have hyH:y < H:=by omega
  have hcell:(((kg l H).map told).drop y)=told ((mgl (y:Int) l).getD ng)::((kg l H).map told).drop (y+1):=by
   rw [List.drop_eq_getElem_cons (by omega)]
   congr 1
   have:=zy l hyH
   rw [List.getElem_map]
   congr 1
   exact Option.some.inj ((List.getElem?_eq_getElem _).symm.trans this)
  have haccl:(acc.map told).length=y:=by rw [List.length_map]; exact hacc
  have hat:idx (acc.map told++told ((mgl (y:Int) l).getD ng)::((kg l H).map told).drop (y+1)) (y:Int)=some (told ((mgl (y:Int) l).getD ng)):=yH (by rw [haccl])
  rw [hcell]
  have hset: ∀ r:aE,(acc.map told++told ((mgl (y:Int) l).getD ng)::((kg l H).map told).drop (y+1)).set y (told r)=(acc++[r]).map told++((kg l H).map told).drop (y+1):=by
   intro r
   rw [yI (by rw [haccl]),List.map_append]
   simp
  have hon: ∀ r:aE,f (acc.map told++told ((mgl (y:Int) l).getD ng)::((kg l H).map told).drop (y+1),(y:Int))=some (.inl ((acc++[r]).map told++((kg l H).map told).drop (y+1),((y+1:Nat):Int)))->fU a.rows l (k+1) y acc=fU a.rows l k (y+1) (acc++[r])->iter f (acc.map told++told ((mgl (y:Int) l).getD ng)::((kg l H).map told).drop (y+1),(y:Int))=some (match fU a.rows l (k+1) y acc with | some out=> .inl (out.map told) | none=> .inr (eW fq,1)):=by
   intro r h1 h2
   rw [h2,cM h1]
   exact ih (y+1) (acc++[r]) (by omega) (by simp [hacc])
  have hd:decide ((y:Int) < (((kg l H).map told).length:Int))=true:=decide_eq_true (by omega)
  have hwr:IntKind.i64.wrap ((y:Int)+1)=((y+1:Nat):Int):=by rw [w64 (by omega) (by omega)]; rfl
  cases hm:mgl (y:Int) l with
  | some r =>
   rw [hm] at hat hset hon
   simp only [Option.getD_some] at hat hset hon ⊢
   have hrc:r.cells.length<=1000000:=hl _ (m8 hm)
   have hself:(acc.map told++told r::((kg l H).map told).drop (y+1))=(acc++[r]).map told++((kg l H).map told).drop (y+1):=by simp
   by_cases hya:y < a.rows.length
   ·have e1:a.rows[y]?=some a.rows[y]:=List.getElem?_eq_getElem hya
    have ga:idx (eW a).rows (y:Int)=some (told a.rows[y]):=by rw [bN _ _ (by omega)]; simp
    by_cases hq:a.rows[y]=r
    ·have h2:fU a.rows l (k+1) y acc=none:=by simp only [fU,hm,e1,if_pos hq]
     rw [h2]
     refine bM ?_
     subst hf
     dsimp only
     rw [hd,cond_true,lL l hyH,hm,aA]
     simp only [Option.isSome_some,Bool.not_true,cond_false,aA,cond_true]
     rw [decide_eq_true (show (y:Int) < ((eW a).rows.length:Int) by omega),cond_true,hat,aA,ga,aA,uk _ _ hrc,decide_eq_true hq.symm]
     rfl
    ·refine hon r ?_ (by simp only [fU,hm,e1,if_neg hq])
     subst hf
     dsimp only
     rw [hd,cond_true,lL l hyH,hm,aA]
     simp only [Option.isSome_some,Bool.not_true,cond_false,aA,cond_true]
     rw [decide_eq_true (show (y:Int) < ((eW a).rows.length:Int) by omega),cond_true,hat,aA,ga,aA,uk _ _ hrc,decide_eq_false (λhh=>hq hh.symm),aA,aA,cond_false,aA,hwr,hself]
   ·have e1:a.rows[y]?=none:=List.getElem?_eq_none (by omega)
    refine hon r ?_ (by simp only [fU,hm,e1])
    subst hf
    dsimp only
    rw [hd,cond_true,lL l hyH,hm,aA]
    simp only [Option.isSome_some,Bool.not_true,cond_false,aA,cond_true]
    rw [decide_eq_false (show ¬ (y:Int) < ((eW a).rows.length:Int) by omega),cond_false,aA,cond_false,aA,hwr,hself]
  | none =>
   rw [hm] at hat hset hon
   simp only [Option.getD_none] at hat hset hon ⊢
   by_cases hya:y < a.rows.length
   ·have e1:a.rows[y]?=some a.rows[y]:=List.getElem?_eq_getElem hya
    have ga:idx (eW a).rows (y:Int)=some (told a.rows[y]):=by rw [bN _ _ (by omega)]; simp
    refine hon a.rows[y] ?_ (by simp only [fU,hm,e1])
    subst hf
    dsimp only
    rw [hd,cond_true,lL l hyH,hm,aA]
    simp only [Option.isSome_none,Bool.not_false,cond_true,aA,cond_false]
    rw [decide_eq_false (show ¬ (y:Int)>=((eW a).rows.length:Int) by omega),cond_false,aA,cond_false,ga,aA,hat,aA,aA,hwr,Int.toNat_natCast,hset]
   ·have e1:a.rows[y]?=none:=List.getElem?_eq_none (by omega)
    have h2:fU a.rows l (k+1) y acc=none:=by simp only [fU,hm,e1]
    rw [h2]
    refine bM ?_
    subst hf
    dsimp only
    rw [hd,cond_true,lL l hyH,hm,aA]
    simp only [Option.isSome_none,Bool.not_false,cond_true,aA,cond_false]
    rw [decide_eq_true (show (y:Int)>=((eW a).rows.length:Int) by omega)]
    rfl
theorem wQ {α β:Type} {x:Option α} {y:α} {g:α->Option β} {out:Option β} (h:x=some y) (h2:g y=out):Option.bind x g=out:=by rw [h]; exact h2
theorem iS {i:aI} (h:i.e≠0):rdS i=(0,i):=by unfold rdS; rw [if_neg h]
theorem uv {i:aI} (h:i.e≠0):kW i=(noS,i):=by
 unfold kW
 rw [iS h]
 unfold sK
 rw [if_pos h]
theorem rX {i:aI} (h:i.e≠0) (m:Int) (hm:0<=m):bE i m=(0,i):=by
 unfold bE
 rw [iS h,if_neg (by dsimp only; omega)]
theorem sZ {i:aI} (h:i.e≠0):bkS i=([],i):=by
 unfold bkS
 rw [rX h 1024 (by omega)]
 dsimp only
 rw [pX _ _ _ h,if_neg h]
theorem Dw {s:ByteArray} (h:(zC s).2.e≠0):(zR s).2=(zC s).2:=by
 have e1:(zD s).2=(zC s).2:=by unfold zD; rw [rX h _ (by omega)]
 have e2:(zE s).2=(zC s).2:=by unfold zE; rw [e1,iS h]
 have e3:(zF s).2=(zC s).2:=by unfold zF; rw [e2,iS h]
 have e4:(zT s).2=(zC s).2:=by unfold zT; rw [e3,uv h]
 have e5:(zG s).2=(zC s).2:=by unfold zG; rw [e4,iS h]
 have e6:(zH s).2=(zC s).2:=by unfold zH; rw [e5,iS h]
 have e7:(zK s).2=(zC s).2:=by unfold zK; rw [e6,sZ h]
 have e8:(zN s).2=(zC s).2:=by unfold zN; rw [e7,iS h]
 unfold zR
 rw [e8,oA _ _ _ _ _ _ h]
theorem Dx {s:ByteArray} (h:(zD s).2.e≠0):(zR s).2=(zD s).2:=by
 have e2:(zE s).2=(zD s).2:=by unfold zE; rw [iS h]
 have e3:(zF s).2=(zD s).2:=by unfold zF; rw [e2,iS h]
 have e4:(zT s).2=(zD s).2:=by unfold zT; rw [e3,uv h]
 have e5:(zG s).2=(zD s).2:=by unfold zG; rw [e4,iS h]
 have e6:(zH s).2=(zD s).2:=by unfold zH; rw [e5,iS h]
 have e7:(zK s).2=(zD s).2:=by unfold zK; rw [e6,sZ h]
 have e8:(zN s).2=(zD s).2:=by unfold zN; rw [e7,iS h]
 unfold zR
 rw [e8,oA _ _ _ _ _ _ h]
theorem zI {i:aI} (hV:VI i) (h:i.e≠0):kJ i=i.e:=by
 unfold kJ
 rcases hV.2 with h1 | h1
 ·exact absurd h1 h
 ·rw [if_neg (λhh=>hh h1)]
theorem wR {i:aI} (hV:VI i):((bif ((asR (rdS i).2).e == 0) then some (decide ((rdS i).1 > 1000)) else some false):Option Bool)=some (decide ((rdS i).1 > 1000)):=by
 rw [lH]
 by_cases h0:(rdS i).2.e=0
 ·have:((rdS i).2.e == 0)=true:=by simpa using h0
  rw [this,cond_true]
 ·have:((rdS i).2.e == 0)=false:=by simpa using h0
  rw [this,cond_false]
  have h1:(rdS i).1=0:=nH h0
  rw [h1]
  rfl
theorem xL (a:aC) (s:ByteArray) (ha:SW a) (pa:(a.rows.flatMap cV).length<=12000) (h:s.size<=100000) (ht:(zT s).1.size<=6000):iK (eW a) s=some (eW (jM a s).1,(jM a s).2):=by
 obtain ⟨vB,vC,vF,vH,vK,vN,vR⟩:=zVI (s:=s) (by omega)
 have v0:VI (⟨s,0⟩:aI):=⟨by show s.size<=1000000; omega,.inl rfl⟩
 have vA:VI (zA s).2:=eX v0
 have vD:VI (zD s).2:=eI _ vC
 have vE:VI (zE s).2:=eX vD
 have vT:VI (zT s).2:=qA vF
 have vG:VI (zG s).2:=eX vT
 unfold iK jM
 rw [yQ a ha,aA]
 cases hm:ie a with
 | false=>rw [if_pos rfl]; rfl
 | true =>
  rw [if_neg (by simp),Bool.not_true,cond_false]
  have e1:aY ⟨s,0⟩=some (asR (zA s).2,(zA s).1):=gF ⟨s,0⟩ v0
  have e2:aY (asR (zA s).2)=some (asR (zB s).2,(zB s).1):=gF _ vA
  have e3:=gF _ vB
  rw [e1,aA]
  dsimp only
  rw [e2,aA]
  dsimp only
  rw [e3,aA]
  dsimp only
  rw [wR vB,aA]
  by_cases hW:(rdS (zB s).2).1 > 1000
  ·have hC:(zC s).2=iM:=by unfold zC bE; rw [if_pos hW]
   have hR:(zR s).2=iM:=by rw [Dw (by rw [hC]; decide),hC]
   have hE:kJ (zR s).2=1:=by rw [hR]; rfl
   rw [decide_eq_true hW,cond_true,hE,if_pos (by decide)]
   rfl
  rw [decide_eq_false hW,cond_false]
  have hC:zC s=((rdS (zB s).2).1,(rdS (zB s).2).2):=by unfold zC bE; rw [if_neg hW]
  have hC1:(rdS (zB s).2).1=(zC s).1:=by rw [hC]
  have hC2:(rdS (zB s).2).2=(zC s).2:=by rw [hC]
  rw [hC1,hC2]
  have e4:=gF _ vC
  rw [e4,aA]
  dsimp only
  rw [wR vC,aA]
  by_cases hHH:(rdS (zC s).2).1 > 1000
  ·have hD:(zD s).2=iM:=by unfold zD bE; rw [if_pos hHH]
   have hR:(zR s).2=iM:=by rw [Dx (by rw [hD]; decide),hD]
   have hE:kJ (zR s).2=1:=by rw [hR]; rfl
   rw [decide_eq_true hHH,cond_true,hE,if_pos (by decide)]
   rfl
  rw [decide_eq_false hHH,cond_false]
  have hD:zD s=((rdS (zC s).2).1,(rdS (zC s).2).2):=by unfold zD bE; rw [if_neg hHH]
  have hD1:(rdS (zC s).2).1=(zD s).1:=by rw [hD]
  have hD2:(rdS (zC s).2).2=(zD s).2:=by rw [hD]
  rw [hD1,hD2]
  have e5:aY (asR (zD s).2)=some (asR (zE s).2,(zE s).1):=gF _ vD
  have e6:aY (asR (zE s).2)=some (asR (zF s).2,(zF s).1):=gF _ vE
  have e7:fM (asR (zF s).2)=some (asR (zT s).2,(zT s).1):=xC _ vF
  have e8:aY (asR (zT s).2)=some (asR (zG s).2,(zG s).1):=gF _ vT
  have e9:aY (asR (zG s).2)=some (asR (zH s).2,(zH s).1):=gF _ vG
  rw [e5,aA]
  dsimp only
  rw [e6,aA]
  dsimp only
  rw [e7,aA]
  dsimp only
  rw [e8,aA]
  dsimp only
  rw [e9,aA]
  dsimp only
  have hbook:((bif ((asR (zH s).2).e == 0) then (Option.bind (iD (asR (zH s).2)) λb=>some ((aV.mk (zB s).1 (zC s).1 (zD s).1 (zE s).1 (zF s).1 (zT s).1 ([]:List aU) (zG s).1 (zH s).1 b.2),b.1)) else some ((aV.mk (zB s).1 (zC s).1 (zD s).1 (zE s).1 (zF s).1 (zT s).1 ([]:List aU) (zG s).1 (zH s).1 ([]:List aN)),(asR (zH s).2))):Option (aV×aQ))=some (eW (zS s),asR (zK s).2):=by
   rw [lH]
   by_cases h0:(zH s).2.e=0
   ·have:((zH s).2.e == 0)=true:=by simpa using h0
    rw [this,cond_true,xD _ vH,aA]
    rfl
   ·have:((zH s).2.e == 0)=false:=by simpa using h0
    rw [this,cond_false]
    have hk:zK s=([],(zH s).2):=sZ h0
    unfold zS
    rw [hk]
    rfl
  rw [hbook,aA]
  dsimp only
  have e10:aY (asR (zK s).2)=some (asR (zN s).2,(zN s).1):=gF _ vK
  rw [e10,aA]
  dsimp only
  rw [lH]
  by_cases hN0:(zN s).2.e=0
  ·have k1:((zN s).2.e != 0)=false:=by simp [hN0]
   rw [k1,cond_false]
   have hn:=jB vK
   have c1:=fN (m:=1000) vC (by omega)
   have b1:=fN (m:=1000) vB (by omega)
   have hw:(zC s).1<=1000:=b1.2
   have hh1:0<=(zD s).1:=c1.1
   have hh2:(zD s).1<=1000:=c1.2
   obtain ⟨N,hN⟩:=Int.eq_ofNat_of_zero_le (show 0<=(zN s).1 from hn.1)
   have hN2:N<=4611686018427387904:=by have:(zN s).1<=4611686018427387904:=hn.2; omega
   obtain ⟨H,hH⟩:=Int.eq_ofNat_of_zero_le hh1
   have hR:zR s=dlL N (zS s).w (zS s).h (zN s).2 (-1) []:=by
    unfold zR
    rw [hN,Int.toNat_natCast]
    rfl
   have hHt:(zD s).1.toNat=H:=by rw [hH,Int.toNat_natCast]
   have hz:(zS s).h=(zD s).1:=rfl
   have hHt2:(zS s).h.toNat=H:=hHt
   have l1:=Du (zS s) H N (by omega) hH hw hN2 _ rfl N 0 (zN s).2 (-1) [] (by omega) vN hN0 (by omega) (λp hp=>by cases hp)
   rw [<- hR,zw,zx] at l1
   rw [mV (by omega) (by omega) (by omega),aA,mV (by omega) (by omega) (by omega),aA,hHt2,hN,hHt]
   refine wQ l1 ?_
   by_cases he:(zR s).2.e=0
   ·rw [if_pos he]
    dsimp only
    have hst:((zR s).2.s.toList == (ByteArray.mk #[]).toList)=decide ((zR s).2.s=noS):=mZ _ noS
    show (bif !((zR s).2.s.toList == (ByteArray.mk #[]).toList) then _ else _)=_
    rw [hst]
    by_cases hs0:(zR s).2.s=noS
    ·have hE:kJ (zR s).2=0:=by unfold kJ; rw [if_neg (λhh=>hh hs0)]; exact he
     rw [decide_eq_true hs0,Bool.not_true,cond_false,y8 a ha pa,aA,hE,if_neg (λhh=>hh rfl)]
     by_cases hs:(zA s).1=((kX (fF a):Nat):Int)
     ·have k2:((zA s).1 != ((kX (fF a):Nat):Int))=false:=by simp [hs]
      rw [k2,cond_false,if_neg (λhh=>hh hs)]
      have har: ∀ r∈a.rows,r.cells.length<=1000000:=λr hr=>by have:=(ha.ro r hr).2; omega
      have hrows:=qG (zN s).1.toNat (zC s).1 (zD s).1 (zN s).2 (-1) [] vN hw (λp hp=>by cases hp)
      have hrows2: ∀ p∈(zR s).1,p.2.cells.length<=1000000:=λp hp=>by have:=(hrows p hp).2; omega
      have l2:=Dv a (zR s).1 H (by omega) har hrows2 _ rfl H 0 [] (by omega) rfl
      simp only [List.map_nil,List.nil_append,List.drop_zero] at l2
      refine wQ l2 ?_
      cases hb:fU a.rows (zR s).1 H 0 [] with
      | none=>rfl
      | some l =>
       rw [<- hHt] at hb
       obtain ⟨SWx,pl⟩:=oB ha pa h ht he hb
       dsimp only
       have hpk:gq (eW (gZ (zS s) l))=some (fF (gZ (zS s) l)):=uf _ SWx (by show (l.flatMap cV).length<=1000000; omega)
       show Option.bind (gq (eW (gZ (zS s) l))) _=_
       rw [hpk,aA]
       have hst2:((fF (gZ (zS s) l)).toList == (ByteArray.mk #[]).toList)=kf (gZ (zS s) l):=by
        have e:((fF (gZ (zS s) l)).toList == (ByteArray.mk #[]).toList)=decide (fF (gZ (zS s) l)=noS):=mZ _ noS
        rw [e]
        cases hn:kf (gZ (zS s) l) with
        | true=>rw [decide_eq_true (m7.2 hn)]
        | false=>rw [decide_eq_false (λhh=>by rw [m7.1 hh] at hn; cases hn)]
       rw [hst2]
       cases kf (gZ (zS s) l) with
       | true=>rfl
       | false=>rfl
     ·have k2:((zA s).1 != ((kX (fF a):Nat):Int))=true:=by simp [hs]
      rw [k2,cond_true,if_pos hs]
      rfl
    ·have hE:kJ (zR s).2=1:=by unfold kJ; rw [if_pos hs0]
     rw [decide_eq_false hs0,hE,if_pos (by decide)]
     rfl
   ·have hE:kJ (zR s).2=(zR s).2.e:=zI vR he
    rw [if_neg he,hE,if_pos he]
  ·have k1:((zN s).2.e != 0)=true:=by simp [hN0]
   have hR:(zR s).2=(zN s).2:=by unfold zR; rw [oA _ _ _ _ _ _ hN0]
   have hE:kJ (zR s).2=(zN s).2.e:=by rw [hR]; exact zI vN hN0
   rw [k1,cond_true,hE,if_pos hN0]
   rfl
theorem wS (a b:List aE) (y:Nat): ∀ i,y∈chN a b i↔(y < i/\a[y]?≠b[y]?)
 | 0=>by simp [chN]
 | i+1=>by
  rw [kK]
  have ih:=wS a b y i
  split
  ·rename_i h
   rw [ih]
   constructor
   ·rintro ⟨h1,h2⟩; exact ⟨by omega,h2⟩
   ·rintro ⟨h1,h2⟩
    refine ⟨?_,h2⟩
    rcases Nat.lt_succ_iff_lt_or_eq.1 h1 with h3 | h3
    ·exact h3
    ·subst h3; exact absurd h h2
  ·rename_i h
   rw [List.mem_append,ih,List.mem_singleton]
   constructor
   ·rintro (⟨h1,h2⟩ | h1)
    ·exact ⟨by omega,h2⟩
    ·subst h1; exact ⟨by omega,h⟩
   ·rintro ⟨h1,h2⟩
    rcases Nat.lt_succ_iff_lt_or_eq.1 h1 with h3 | h3
    ·exact .inl ⟨h3,h2⟩
    ·exact .inr h3
theorem nQ (a b:List aE): ∀ i,(chN a b i).Pairwise (· < ·)
 | 0=> .nil
 | i+1=>by
  rw [kK]
  split
  ·exact nQ a b i
  ·refine List.pairwise_append.2 ⟨nQ a b i,by simp,λx hx y hy=> ?_⟩
   rw [List.mem_singleton.1 hy]
   exact sR a b i x hx
def prs (b:List aE) (C:List Nat):List (Int×aE):=C.map λy:Nat=>((y:Int),b[y]?.getD ng)
theorem wT (b:List aE) (y:Nat): ∀ C:List Nat,mgl (y:Int) (prs b C)=if y∈C then some (b[y]?.getD ng) else none
 | []=>rfl
 | c::C=>by
  have ih:=wT b y C
  show (if (y:Int)=(c:Int) then some (b[c]?.getD ng) else mgl (y:Int) (prs b C))=_
  rw [ih]
  by_cases h:y=c
  ·subst h
   rw [if_pos rfl,if_pos (by simp)]
  ·rw [if_neg (by omega)]
   by_cases h2:y∈C
   ·rw [if_pos h2,if_pos (by simp [h2])]
   ·rw [if_neg h2,if_neg (by simp [h,h2])]
theorem wU (b:List aE) (w h:Int) (hw:w<=1000) (hh:h=(b.length:Int)) (hb:b.length<=1000) (hr: ∀ r∈b,(r.cells.length:Int)=w /\ ∀ c∈r.cells,okC c=true) {R:List Int} (hR:BB R): ∀ (C:List Nat) (last:Int) (acc:List (Int×aE)),C.Pairwise (· < ·)->(∀ y∈C,last < (y:Int)/\y < b.length)->dlL C.length w h (bI (pch b C++R)) last acc=(acc++prs b C,bI R)
 | [],last,acc,_,_=>by simp [dlL,pch,prs]
 | c::C,last,acc,hs,hl=>by
  have hc:=hl c (by simp)
  have hs2:=List.pairwise_cons.1 hs
  have hrc:=hr _ (List.getElem_mem hc.2)
  have hgc:b[c]?.getD ng=b[c]:=by rw [List.getElem?_eq_getElem hc.2]; rfl
  have hBB:BB (pch b C++R):=dS (zm _ _) hR
  have e1:pch b (c::C)++R=bK (c:Int)++(cV b[c]++(pch b C++R)):=by
   unfold pch
   rw [List.flatMap_cons,hgc]
   simp only [List.append_assoc]
  have e2:rdS (bI (pch b (c::C)++R))=((c:Int),bI (cV b[c]++(pch b C++R))):=by
   rw [e1]
   exact rh (dS (sN _) hBB) (by omega) (by omega)
  have e3:dlI h (bI (pch b (c::C)++R)) last=bI (cV b[c]++(pch b C++R)):=by
   unfold dlI
   rw [e2,if_neg (by dsimp only; omega)]
  have e4:=CR b[c] w hBB hw hrc.1 hrc.2
  show dlL (C.length+1) w h (bI (pch b (c::C)++R)) last acc=_
  unfold dlL
  rw [if_pos (show (bI (pch b (c::C)++R)).e=0 from rfl),e3,e4,e2]
  dsimp only
  rw [wU b w h hw hh hb hr hR C (c:Int) _ hs2.2 (λy hy=>⟨by have:=hs2.1 y hy; omega,(hl y (by simp [hy])).2⟩)]
  unfold prs
  rw [List.map_cons,hgc,List.append_assoc]
  rfl
theorem uw (a b:List aE): ∀ k y,y+k=b.length->fU a (prs b (chg a b)) k y (b.take y)=some b
 | 0,y,hy=>by
  show some (b.take y)=some b
  rw [List.take_of_length_le (by omega)]
 | k+1,y,hy=>by
  have hyb:y < b.length:=by omega
  have hb:b[y]?=some b[y]:=List.getElem?_eq_getElem hyb
  have ih:=uw a b k (y+1) (by omega)
  rw [List.take_succ_eq_append_getElem hyb] at ih
  have hm:=wT b y (chg a b)
  have hmem:y∈chg a b↔a[y]?≠b[y]?:=by
   unfold chg
   rw [wS]
   exact ⟨λh=>h.2,λh=>⟨hyb,h⟩⟩
  simp only [fU]
  by_cases hc:y∈chg a b
  ·rw [if_pos hc,hb] at hm
   rw [hm]
   simp only [Option.getD_some]
   have hne:=hmem.1 hc
   rw [hb] at hne
   cases ha:a[y]? with
   | none=>exact ih
   | some q =>
    dsimp only
    rw [ha] at hne
    rw [if_neg (λhh=>hne (by rw [hh]))]
    exact ih
  ·rw [if_neg hc] at hm
   rw [hm]
   have he:a[y]?=b[y]?:=Classical.not_not.1 λh=>hc (hmem.2 h)
   rw [he,hb]
   exact ih
theorem rY (a b:aC) (hb:SW b) (hma:ie a=true) (hnb:kf b=false):zT (gM a b)=(b.title,(zT (gM a b)).2)/\jM a (gM a b)=(b,0):=by
 have hbe:dR b=false/\ie b=true:=by
  unfold kf at hnb
  cases h1:dR b <;> cases h2:ie b <;> rw [h1,h2] at hnb <;> first | exact ⟨rfl,rfl⟩ | cases hnb
 have M:=(Bb hbe.1).1 hbe.2
 have hbad:xK a b=false:=by unfold xK; rw [hma,hnb]; rfl
 have hs:gM a b=cO (l7 a b):=by unfold gM; rw [hbad]; rfl
 rw [hs]
 generalize hC:chg a.rows b.rows=C
 have hCl:C.length<=b.rows.length:=by rw [<- hC]; exact sQ _ _ _
 have hrl:=hb.rl
 have htl:=M.t
 have r0:BB ([]:List Int):=CQ
 have rP:BB (pch b.rows C):=zm _ _
 obtain ⟨t11,ht11⟩: ∃ t,t=pch b.rows C:=⟨_,rfl⟩
 obtain ⟨t10,ht10⟩: ∃ t,t=bK (C.length:Int)++t11:=⟨_,rfl⟩
 obtain ⟨t9,ht9⟩: ∃ t,t=gR b.begun++t10:=⟨_,rfl⟩
 obtain ⟨t8,ht8⟩: ∃ t,t=bK b.chain++t9:=⟨_,rfl⟩
 obtain ⟨t7,ht7⟩: ∃ t,t=bK b.len++t8:=⟨_,rfl⟩
 obtain ⟨t6,ht6⟩: ∃ t,t=bK b.title.size++sbs b.title++t7:=⟨_,rfl⟩
 obtain ⟨t5,ht5⟩: ∃ t,t=bK b.y++t6:=⟨_,rfl⟩
 obtain ⟨t4,ht4⟩: ∃ t,t=bK b.x++t5:=⟨_,rfl⟩
 obtain ⟨t3,ht3⟩: ∃ t,t=bK b.h++t4:=⟨_,rfl⟩
 obtain ⟨t2,ht2⟩: ∃ t,t=bK b.w++t3:=⟨_,rfl⟩
 obtain ⟨t1,ht1⟩: ∃ t,t=bK b.k++t2:=⟨_,rfl⟩
 have hpd:l7 a b=bK ((kX (fF a):Nat):Int)++t1:=by
  rw [ht1,ht2,ht3,ht4,ht5,ht6,ht7,ht8,ht9,ht10,ht11]
  unfold l7 mJ
  rw [hC]
  simp only [List.flatMap_cons,List.flatMap_nil,List.append_nil,List.append_assoc]
 have q11:BB t11:=by rw [ht11]; exact rP
 have q10:BB t10:=by rw [ht10]; exact dS (fR _) q11
 have q9:BB t9:=by rw [ht9]; exact dS (wP b.begun) q10
 have q8:BB t8:=by rw [ht8]; exact dS (fR b.chain) q9
 have q7:BB t7:=by rw [ht7]; exact dS (fR b.len) q8
 have q6:BB t6:=by rw [ht6]; exact dS (dS (fR _) (l5 _)) q7
 have q5:BB t5:=by rw [ht5]; exact dS (fR b.y) q6
 have q4:BB t4:=by rw [ht4]; exact dS (fR b.x) q5
 have q3:BB t3:=by rw [ht3]; exact dS (fR b.h) q4
 have q2:BB t2:=by rw [ht2]; exact dS (fR b.w) q3
 have q1:BB t1:=by rw [ht1]; exact dS (fR b.k) q2
 have hk:=M.k
 have hw:=M.w
 have hh:=M.h
 have hx:=M.x
 have hy:=M.y
 have hl:=M.l
 have hch:=M.c
 have hsum:=wL (fF a)
 have zA':zA (cO (l7 a b))=(((kX (fF a):Nat):Int),bI t1):=by unfold zA; rw [hpd]; exact rh q1 (by omega) (by omega)
 have zB':zB (cO (l7 a b))=(b.k,bI t2):=by unfold zB; rw [zA',ht1]; exact rh q2 (by omega) (by omega)
 have zC':zC (cO (l7 a b))=(b.w,bI t3):=by unfold zC; rw [zB',ht2]; exact nu q3 (by omega) (by omega) (by omega)
 have zD':zD (cO (l7 a b))=(b.h,bI t4):=by unfold zD; rw [zC',ht3]; exact nu q4 (by omega) (by omega) (by omega)
 have zE':zE (cO (l7 a b))=(b.x,bI t5):=by unfold zE; rw [zD',ht4]; exact rh q5 (by omega) (by omega)
 have zF':zF (cO (l7 a b))=(b.y,bI t6):=by unfold zF; rw [zE',ht5]; exact rh q6 (by omega) (by omega)
 have zT':zT (cO (l7 a b))=(b.title,bI t7):=by unfold zT; rw [zF',ht6]; exact D8 b.title q7 hb.tl
 have zG':zG (cO (l7 a b))=(b.len,bI t8):=by unfold zG; rw [zT',ht7]; exact rh q8 (by omega) (by omega)
 have zH':zH (cO (l7 a b))=(b.chain,bI t9):=by unfold zH; rw [zG',ht8]; exact rh q9 (by omega) (by omega)
 have zK':zK (cO (l7 a b))=(b.begun,bI t10):=by unfold zK; rw [zH',ht9]; exact D9 b.begun q10 M.g M.b
 have zN':zN (cO (l7 a b))=((C.length:Int),bI t11):=by unfold zN; rw [zK',ht10]; exact rh q11 (by omega) (by omega)
 have zR':zR (cO (l7 a b))=(prs b.rows C,bI []):=by
  unfold zR
  rw [zN',zC',zD',ht11]
  dsimp only
  rw [Int.toNat_natCast]
  have:=wU b.rows b.w b.h (by omega) M.r.symm hrl M.rr r0 C (-1) [] (by rw [<- hC]; exact nQ _ _ _) (λy hy=>⟨by omega,by rw [<- hC] at hy; exact sR _ _ _ y hy⟩)
  rw [List.append_nil,List.nil_append] at this
  exact this
 refine ⟨by rw [zT'],?_⟩
 unfold jM
 rw [hma,if_neg (by simp),zR']
 have hE:kJ (bI [])=0:=AZ
 rw [hE,if_neg (λh=>h rfl),zA',if_neg (λh=>h rfl),zD']
 dsimp only
 have hb0:=uw a.rows b.rows b.rows.length 0 (by omega)
 have hht:b.h.toNat=b.rows.length:=by have:=M.r; omega
 rw [hht,<- hC,show fU a.rows (prs b.rows (chg a.rows b.rows)) b.rows.length 0 []=some b.rows from hb0]
 dsimp only
 have hset:gZ (zS (cO (l7 a b))) b.rows=b:=by
  unfold gZ zS
  rw [zB',zC',zD',zE',zF',zT',zG',zH',zK']
 rw [hset,hnb]
 rfl
theorem rZ (a b:List Int) (ha:a.length<=1000000) (hb:b.length<=1000000):iC a b=some (decide (a=b)):=by
 unfold iC
 by_cases hl:a.length=b.length
 ·have k1:((a.length:Int) != (b.length:Int))=false:=by simp [hl]
  rw [k1,cond_false]
  have:=lI a b hl (λc=>(bif (decide (c < (a.length:Int))) then (Option.bind (idx a c) λd=>(Option.bind (idx b c) λe=>(bif (d != e) then (eJ (some false)) else some (.inl (IntKind.i64.wrap (c+1)))))) else some (.inr (.inl ())))) (by
   intro n h1 h2
   rw [decide_eq_true (by omega),cond_true,bN _ _ h1,aA,bN _ _ h2,aA]
   by_cases he:a[n]=b[n]
   ·have k2:(a[n] != b[n])=false:=by simp [he]
    rw [if_pos he,k2,cond_false,w64 (by omega) (by omega)]
    rfl
   ·have k2:(a[n] != b[n])=true:=by simp [he]
    rw [if_neg he,k2,cond_true]
    rfl) (by rw [decide_eq_false (by omega),cond_false])
  rw [this,aA]
  by_cases he:a=b
  ·rw [if_pos he,decide_eq_true he]
  ·rw [if_neg he,decide_eq_false he]
 ·have k1:((a.length:Int) != (b.length:Int))=true:=by
   have: ¬ ((a.length:Int)=(b.length:Int)):=by omega
   simp [this]
  rw [k1,cond_true,decide_eq_false (λhh=>hl (by rw [hh]))]
theorem nR (a b:aC) (hb:SW b) (pb:(b.rows.flatMap cV).length<=12000):(gM a b).size<=67000:=by
 unfold gM
 split
 ·exact Nat.zero_le _
 ·rw [bO]
  unfold l7
  have h1:=rU a b hb
  have h2:=zl a.rows b.rows pb hb.rl b.rows.length (Nat.le_refl _)
  have h3:(pch b.rows (chg a.rows b.rows)).length<=21000:=h2
  rw [List.length_append]
  omega
theorem BC:(fq.rows.flatMap cV).length<=12000:=by decide
theorem zJ:ie fq=true:=by
 unfold ie
 have:dR fq=true:=xG.2 rfl
 rw [this]
 rfl
structure CT1 (x:aC):Prop where
 sw:SW x
 pk:(x.rows.flatMap cV).length<=11600
theorem BD {s:ByteArray} (h:s.size<=6000):(zT s).1.size<=6000:=by
 have v0:SZ s.size (⟨s,0⟩:aI):=⟨⟨by show s.size<=1000000; omega,.inl rfl⟩,Nat.le_refl _⟩
 have s1:SZ s.size (zF s).2:=me (me (sM _ (sM _ (me (me v0)))))
 have:=(yS s1.1 s1.2).1
 have h2:(zT s).1.size<=s.size:=this
 omega
theorem vr (a:aC) (s:ByteArray) (ha:SW a) (pa:(a.rows.flatMap cV).length<=12000) (h:s.size<=100000) (ht:(zT s).1.size<=6000):SW (jM a s).1/\((jM a s).1.rows.flatMap cV).length<=(a.rows.flatMap cV).length+s.size:=by
 have z:SW fq/\(fq.rows.flatMap cV).length<=(a.rows.flatMap cV).length+s.size:=⟨mG,Nat.zero_le _⟩
 unfold jM
 split
 ·exact z
 ·split
  ·exact z
  ·rename_i hE
   split
   ·exact z
   ·obtain ⟨vB,vC,vF,vH,vK,vN,vR⟩:=zVI (s:=s) (by omega)
    obtain ⟨he,hs0⟩:=rV vR (Classical.not_not.1 hE)
    split
    ·exact z
    ·rename_i l hl
     split
     ·exact z
     ·refine ⟨(oB ha pa h ht he hl).1,?_⟩
      have p3:=qJ _ _ _ _ hl
      have p4:=vq ((0:Nat):Int) (zR s).1
      have p5:=zq (by omega) he
      have p6:((a.rows.drop 0).flatMap cV).length=(a.rows.flatMap cV).length:=by simp
      simp only [List.flatMap_nil,List.length_nil] at p3
      show (l.flatMap cV).length<=_
      omega
end Go.Tw.X
set_option maxHeartbeats 1000000
namespace Go.Tw.X
open Go Go.Tw
structure SG (s:aC):Prop where
 sw:SW s
 pk:(s.rows.flatMap cV).length<=12000
 may:ie s=true
theorem BE:SG fq:=⟨mG,BC,zJ⟩
theorem wV {s:aC} (g:SG s) (he:dR s=false):kf s=false:=by
 unfold kf
 rw [he,g.may]
 rfl
theorem zL {a b c:aC} (ga:SG a) (gb:SG b) (hb:dR b=false) (gc:SG c):ib c (gM a b)=some (jM c (gM a b)):=by
 have h1:=nR a b gb.sw gb.pk
 have h2:=(rY a b gb.sw ga.may (wV gb hb)).1
 refine ur c _ gc.sw gc.pk (by omega) ?_
 rw [h2]
 exact gb.sw.tl
theorem ux {a b:aC} (ga:SG a) (gb:SG b) (hb:dR b=false):jM a (gM a b)=(b,0):=(rY a b gb.sw ga.may (wV gb hb)).2
theorem BF {a b:aC} (ga:SG a):fL a b=some (decide (a=b)):=yW a b ga.sw
def ptN (size:Int):Nat:=(max 1 (min size 8000)).toNat
theorem Dz (size:Int):imax 1 (gG size 8000)=(ptN size:Int):=by rw [jO,iQ]; unfold ptN; omega
theorem wW (n:Int):1<=ptN n:=by unfold ptN; omega
theorem DA (n:Int):ptN n<=8000:=by unfold ptN; omega
def jD (z n:Nat):Nat:=max 1 ((z+n - 1) / n)
def nv (s:ByteArray) (n i:Nat):ByteArray:=eK s ((i*n:Nat):Int) ((min s.size (i*n+n):Nat):Int)
def mq (s:ByteArray) (n:Nat):List ByteArray:=(List.range (jD s.size n)).map (nv s n)
theorem oD (s:ByteArray) (n:Nat):(mq s n).length=jD s.size n:=by unfold mq; rw [List.length_map,List.length_range]
theorem s6 (z n:Nat):1<=jD z n:=by unfold jD; omega
theorem zM (z n:Nat) (h:1<=n):jD z n<=z+1:=by
 unfold jD
 have:(z+n - 1) / n<=z+1:=Nat.le_of_lt_succ ((Nat.div_lt_iff_lt_mul (by omega)).2 (by
  have h1:z*1<=z*n:=Nat.mul_le_mul_left _ h
  have h2:(z+1+1)*n=z*n+n+n:=by rw [Nat.add_mul,Nat.add_mul,Nat.one_mul]
  rw [Nat.succ_eq_add_one,h2]
  omega))
 omega
theorem qK {z n i:Nat} (h:1<=n):i+1 < jD z n↔i*n+n < z:=by
 unfold jD
 have h2:(i+2)*n=i*n+n+n:=by rw [Nat.add_mul]; omega
 have key:i+2<=(z+n - 1) / n↔(i+2)*n<=z+n - 1:=Nat.le_div_iff_mul_le (by omega)
 omega
theorem DB {z n i:Nat} (h:1<=n) (hi:i < jD z n):i*n<=z:=by
 cases i with
 | zero=>omega
 | succ i =>
  have:=(qK h).1 hi
  rw [Nat.add_mul]
  omega
theorem xM (s:ByteArray) (a b:Nat) (h:b<=s.size):(eK s a b).size=b - a:=by
 rw [<- aR,eS,List.length_drop,List.length_take,aR]
 omega
theorem r8 (s:ByteArray):eK s 0 (s.size:Int)=s:=by
 apply m4
 have:=eS s 0 s.size
 rw [show eK s 0 (s.size:Int)=eK s ((0:Nat):Int) (s.size:Int) from rfl,this,List.drop_zero,<- aR,List.take_length]
theorem sb (s:ByteArray) (a b c d:Nat) (h:a+d<=b):eK (eK s a b) c d=eK s ((a+c:Nat):Int) ((a+d:Nat):Int):=by
 apply m4
 rw [eS,eS,eS,List.take_drop,List.take_take,List.drop_drop]
 rw [show min (a+d) b=a+d by omega]
theorem xN (s:ByteArray) (size:Int) (h:s.size<=1000000):iI s size=some (mq s (ptN size)):=by
 unfold iI
 rw [Dz]
 have hp:=wW size
 have hl:=DA size
 generalize ptN size=n at hp hl
 have hc:=s6 s.size n
 have hcl:=zM s.size n hp
 have hz: ∀ i,(eK s ((i*n:Nat):Int) (s.size:Int)).size=s.size - i*n:=λi=>xM _ _ _ (Nat.le_refl _)
 refine fw (λi=>(eK s ((i*n:Nat):Int) (s.size:Int),(List.range i).map (nv s n))) (jD s.size n - 1) (eK s (((jD s.size n - 1)*n:Nat):Int) (s.size:Int),(List.range (jD s.size n - 1)).map (nv s n)) ?_ ?_ ?_ ?_
 ·rw [Nat.zero_mul,show ((0:Nat):Int)=0 from rfl,r8]
  rfl
 ·intro i hi
  have h1:i*n+n < s.size:=(qK hp).1 (by omega)
  dsimp only
  rw [hz,decide_eq_true (by omega),cond_true,dI (by omega) (by omega) (by omega),aA,cF (by simp; omega),aA,dI (by omega) (by omega) (by omega),aA]
  have e1:eK (eK s ((i*n:Nat):Int) (s.size:Int)) (n:Int) ((s.size - i*n:Nat):Int)=eK s (((i+1)*n:Nat):Int) (s.size:Int):=by
   rw [sb _ _ _ _ _ (by omega),Nat.add_mul,Nat.one_mul,show i*n+(s.size - i*n)=s.size by omega]
  have e2:eK (eK s ((i*n:Nat):Int) (s.size:Int)) 0 (n:Int)=nv s n i:=by
   rw [show (0:Int)=((0:Nat):Int) from rfl,sb _ _ _ _ _ (by omega),Nat.add_zero]
   unfold nv
   rw [show min s.size (i*n+n)=i*n+n by omega]
  rw [e1,e2,List.range_succ,List.map_append]
  rfl
 ·have h1: ¬ ((jD s.size n - 1)*n+n < s.size):=λhh=>by
   have:=(qK (z:=s.size) hp).2 hh
   omega
  dsimp only
  rw [hz,decide_eq_false (by omega),cond_false]
 ·dsimp only
  rw [cF (by simp; omega),aA]
  have h1: ¬ ((jD s.size n - 1)*n+n < s.size):=λhh=>by
   have:=(qK (z:=s.size) hp).2 hh
   omega
  have e:eK s (((jD s.size n - 1)*n:Nat):Int) (s.size:Int)=nv s n (jD s.size n - 1):=by
   unfold nv
   rw [show min s.size ((jD s.size n - 1)*n+n)=s.size by omega]
  rw [e]
  unfold mq
  conv=>rhs; rw [show jD s.size n=(jD s.size n - 1)+1 by omega,List.range_succ,List.map_append]
  rfl
theorem DD (s:aH):aH.mk (cK.mk s.config.part s.config.every s.config.most) (aC.mk s.current.k s.current.w s.current.h s.current.x s.current.y s.current.title s.current.rows s.current.len s.current.chain s.current.begun) (aC.mk s.aL.k s.aL.w s.aL.h s.aL.x s.aL.y s.aL.title s.aL.rows s.aL.len s.aL.chain s.aL.begun) s.kept (bD.mk s.message.id s.message.key s.message.base s.message.parts s.message.there s.message.due) s.next=s:=rfl
def zO (m:bD) (i:Nat):Option (Int×ByteArray):=if m.there[i]?=some true then none else some ((i:Int),(m.parts[i]?).getD noS)
def qL (m:bD) (n:Nat):List (Int×ByteArray):=(List.range n).filterMap (zO m)
def wX (m:bD):List (Int×ByteArray):=qL m m.parts.length
theorem xO (m:bD) (n:Nat):(qL m n).length<=n:=by
 have:=List.length_filterMap_le (zO m) (List.range n)
 rw [List.length_range] at this
 exact this
theorem qM (m:bD) (n:Nat):qL m (n+1)=qL m n++(if m.there[n]?=some true then [] else [((n:Int),(m.parts[n]?).getD noS)]):=by
 unfold qL
 rw [List.range_succ,List.filterMap_append]
 congr 1
 unfold zO
 by_cases h:m.there[n]?=some true
 ·simp [h]
 ·simp [h]
theorem zP {α:Type} (m:bD) (F:Int×ByteArray->α) (Y:List α->Int×ByteArray->Option (List α×Bool)) (hl:m.there.length=m.parts.length) (hp:m.parts.length<=1000000) (hY: ∀ (l:List α) x,l.length<=1000000->Y l x=some (l++[F x],true)):eR m Y []=some ((wX m).map F):=by
 unfold eR
 refine fw (λi:Nat=>((i:Int),(qL m i).map F)) m.parts.length (.inl ((wX m).map F)) rfl ?_ ?_ rfl
 ·intro i hi
  have hi2:i < m.there.length:=by omega
  have hn:=xO m i
  dsimp only
  rw [decide_eq_true (by omega),cond_true,bN _ _ hi,aA,bN _ _ hi2,aA,qM,List.getElem?_eq_getElem hi2,List.getElem?_eq_getElem hi]
  cases hb:m.there[i] with
  | true =>
   rw [Bool.not_true,cond_false,aA,cond_false,w64 (by omega) (by omega),if_pos rfl,List.append_nil]
   rfl
  | false =>
   rw [Bool.not_false,cond_true,hY _ _ (by rw [List.length_map]; omega),aA,Bool.not_true,aA,cond_false,w64 (by omega) (by omega),if_neg (by simp),List.map_append]
   rfl
 ·dsimp only
  rw [decide_eq_false (by omega),cond_false]
  rfl
def gr (m:bD) (x:Int×ByteArray):bY:=⟨1,1,[m.id,m.key,m.base,x.1,(m.parts.length:Int)],x.2⟩
def s7 (m:bD):List bY:=(wX m).map (gr m)
def has (k:Int) (l:List aC):Bool:=l.any λx=>x.k == k
def DE (s:aH) (now:Int):bD:=⟨s.next,s.current.k,s.aL.k,mq (gM s.aL s.current) (ptN s.config.part),List.replicate (mq (gM s.aL s.current) (ptN s.config.part)).length false,now⟩
def nS (s:aH):List aC:=if has s.current.k s.kept then s.kept else s.kept++[s.current]
def vt (s:aH) (now:Int):aH:=⟨s.config,s.current,s.aL,(nS s).drop ((nS s).length - s.config.most.toNat),DE s now,IntKind.i64.wrap (s.next+1)⟩
structure SNI (s:aH):Prop where
 cur:CT1 s.current
 ack:CT1 s.aL
 kp: ∀ x∈s.kept,CT1 x
 m0:1<=s.config.most/\s.config.most<=64
 kl:(s.kept.length:Int)<=s.config.most
 pl:s.message.parts.length<=67001
 tl:s.message.there.length=s.message.parts.length
 so:s.kept.Pairwise λx y=>x.k < y.k
 ck: ∀ x∈s.kept,x.k<=s.current.k
theorem DG (l:List aC) (S:aH) (hl:l.length<=1000000):bG l S=some (has S.current.k l):=by
 unfold bG cD has
 obtain ⟨q,h1,h2⟩:=find_eq l (λx=>x.k == S.current.k) hl (λa=>(bif (decide (a < (l.length:Int))) then (Option.bind (idx l a) λb=>(Option.bind (dL b S) λc=>(bif c then (eJ (some a)) else some (.inl (IntKind.i64.wrap (a+1)))))) else some (.inr (.inl ())))) (by
  intro n hn
  unfold dL
  rw [decide_eq_true (by omega),cond_true,bN l n hn,aA,aA,w64 (by omega) (by omega)]
  cases (l[n].k == S.current.k) <;> rfl) (by
  rw [decide_eq_false (by omega),cond_false])
 rw [h1,aA]
 rcases h2 with ⟨rfl,h3⟩ | ⟨w,rfl,h4,h3⟩
 ·rw [h3]
  rfl
 ·rw [h3]
  show some (decide (w>=0))=some true
  rw [decide_eq_true h4]
theorem zQ (s:aH):(nS s).length<=s.kept.length+1:=by
 unfold nS
 split
 ·omega
 ·simp
theorem sd (s:aH) (h:SNI s):(mq (gM s.aL s.current) (ptN s.config.part)).length<=67001:=by
 have h1:=nR s.aL s.current h.cur.sw (by have:=h.cur.pk; omega)
 have h2:=zM (gM s.aL s.current).size (ptN s.config.part) (wW _)
 rw [oD]
 omega
theorem zU {α:Type} (l:List α) (a:Nat):cut l (a:Int) (l.length:Int)=l.drop a:=by rw [wC,List.take_length]
theorem uy (s:aH) (now:Int) (h:SNI s):dU s now=some (vt s now):=by
 unfold dU
 have h1:=nR s.aL s.current h.cur.sw (by have:=h.cur.pk; omega)
 have h2:=sd s h
 have hk:=h.kl
 have hm:=h.m0
 rw [diff_eq _ _ h.ack.sw h.cur.sw (by have:=h.ack.pk; omega) (by have:=h.cur.pk; omega),aA,xN _ _ (by omega),aA,mV (by omega) (by omega) (by omega),aA,DG _ _ (by omega),aA,Int.toNat_natCast]
 dsimp only
 have hlen:=zQ s
 have fin: ∀ e:aH,e=⟨s.config,s.current,s.aL,nS s,DE s now,IntKind.i64.wrap (s.next+1)⟩->(Option.bind (chk (fE (imax 0 (IntKind.i64.wrap ((e.kept.length:Int) - e.config.most))) (e.kept.length:Int) e.kept.length)) λ_=>some (aH.mk (cK.mk e.config.part e.config.every e.config.most) (aC.mk e.current.k e.current.w e.current.h e.current.x e.current.y e.current.title e.current.rows e.current.len e.current.chain e.current.begun) (aC.mk e.aL.k e.aL.w e.aL.h e.aL.x e.aL.y e.aL.title e.aL.rows e.aL.len e.aL.chain e.aL.begun) (cut e.kept (imax 0 (IntKind.i64.wrap ((e.kept.length:Int) - e.config.most))) (e.kept.length:Int)) (bD.mk e.message.id e.message.key e.message.base e.message.parts e.message.there e.message.due) e.next))=some (vt s now):=by
  rintro e rfl
  dsimp only
  rw [w64 (by omega) (by omega),show imax 0 (((nS s).length:Int) - s.config.most)=(((nS s).length - s.config.most.toNat:Nat):Int) by rw [jO]; omega,dI (by omega) (by omega) (by omega),aA,zU]
  rfl
 cases hh:has s.current.k s.kept with
 | true =>
  rw [Bool.not_true,cond_false,aA]
  exact fin _ (by unfold nS; rw [hh,if_pos rfl]; rfl)
 | false =>
  rw [Bool.not_false,cond_true,cF (by simp; omega),aA,aA]
  exact fin _ (by unfold nS; rw [hh,if_neg (by simp)]; rfl)
theorem xP {k:Int} {l:List aC} (h:has k l=false): ∀ x∈l,x.k≠k:=by
 intro x hx he
 have:has k l=true:=List.any_eq_true.2 ⟨x,hx,by simp [he]⟩
 rw [h] at this
 cases this
theorem DH {s:aH} (now:Int) (h:SNI s):SNI (vt s now):=by
 have hm:=h.m0
 have hk: ∀ x∈nS s,CT1 x/\x.k<=s.current.k:=by
  unfold nS
  split
  ·exact λx hx=>⟨h.kp x hx,h.ck x hx⟩
  ·intro x hx
   rcases List.mem_append.1 hx with hx | hx
   ·exact ⟨h.kp x hx,h.ck x hx⟩
   ·rw [List.mem_singleton.1 hx]
    exact ⟨h.cur,Int.le_refl _⟩
 have hs:(nS s).Pairwise λx y=>x.k < y.k:=by
  unfold nS
  split
  ·exact h.so
  ·rename_i hh
   rw [List.pairwise_append]
   refine ⟨h.so,List.pairwise_singleton ..,?_⟩
   intro x hx y hy
   rw [List.mem_singleton.1 hy]
   have h1:=h.ck x hx
   have h2:=xP (by simpa using hh) x hx
   omega
 refine ⟨h.cur,h.ack,λx hx=>(hk x (List.mem_of_mem_drop hx)).1,hm,?_,sd s h,by show (List.replicate _ false).length=_; rw [List.length_replicate]; rfl,hs.sublist (List.drop_sublist _ _),λx hx=>(hk x (List.mem_of_mem_drop hx)).2⟩
 show (((nS s).drop ((nS s).length - s.config.most.toNat)).length:Int)<=s.config.most
 rw [List.length_drop]
 omega
def B8:bD:=⟨0,0,0,[],[],0⟩
def Ej (s:aH) (d:Int):aH:=⟨s.config,s.current,s.aL,s.kept,⟨s.message.id,s.message.key,s.message.base,s.message.parts,s.message.there,d⟩,s.next⟩
def o4 (s:aH):Bool:=(s.message.id == 0) || ((s.message.key != s.current.k) || (s.message.base != s.aL.k))
def jN (s:aH) (now:Int):aH:=if o4 s then vt s now else s
def qN (s:aH) (now:Int):List bY×aH :=
 if s.current.k=s.aL.k then ([],⟨s.config,s.current,s.aL,s.kept,B8,s.next⟩)
 else if now < (jN s now).message.due then ([],jN s now)
 else (s7 (jN s now).message,Ej (jN s now) (IntKind.i64.wrap (now+s.config.every)))
theorem zV {s:aH} (now:Int) (h:SNI s):SNI (jN s now):=by
 unfold jN
 split
 ·exact DH now h
 ·exact h
theorem xQ (s:aH) (now:Int):(jN s now).config=s.config:=by unfold jN; split <;> rfl
theorem zW (s:aH):((bif (s.message.id == 0) then some true else (bif (s.message.key != s.current.k) then some true else some (s.message.base != s.aL.k))):Option Bool)=some (o4 s):=by
 unfold o4
 cases (s.message.id == 0) <;> cases (s.message.key != s.current.k) <;> rfl
theorem xR (s:aH) (now:Int) (h:SNI s):eH s now=some (qN s now):=by
 unfold eH
 simp only [DD]
 by_cases hk:s.current.k=s.aL.k
 ·rw [show (s.current.k == s.aL.k)=true by simp [hk],cond_true]
  unfold qN
  rw [if_pos hk]
  rfl
 ·rw [show (s.current.k == s.aL.k)=false by simp [hk],cond_false,zW,aA]
  have hb:((bif o4 s then (Option.bind (dU s now) λc=>some c) else some s):Option aH)=some (jN s now):=by
   unfold jN
   cases o4 s with
   | true=>rw [cond_true,uy s now h,aA,if_pos rfl]
   | false=>rw [cond_false,if_neg (by simp)]
  rw [hb,aA]
  have hS:=zV now h
  have hc:=xQ s now
  unfold qN
  rw [if_neg hk]
  generalize jN s now=e at hS hc
  by_cases hd:now < e.message.due
  ·rw [decide_eq_true hd,cond_true,if_pos hd]
  ·rw [decide_eq_false hd,cond_false,if_neg hd]
   have hpl:=hS.pl
   have:=zP ⟨e.message.id,e.message.key,e.message.base,e.message.parts,e.message.there,IntKind.i64.wrap (now+e.config.every)⟩ (gr e.message) (λb a=>(Option.bind (chk (fu b.length ([(bY.mk 1 1 [e.message.id,e.message.key,e.message.base,a.1,(e.message.parts.length:Int)] a.2)]).length 56)) λ_=>some ((b++[(bY.mk 1 1 [e.message.id,e.message.key,e.message.base,a.1,(e.message.parts.length:Int)] a.2)]),true))) hS.tl (by show e.message.parts.length<=_; omega) (by
    intro l x hl
    rw [cF (by simp; omega),aA]
    rfl)
   rw [this,aA,<- hc]
   rfl
def BH (h:ByteArray) (i:Nat):Bool:=match (sbs h)[i / 8]? with | some b=>decide ((b / 2 ^ (i % 8)) % 2=1) | none=>false
theorem wY:CT1 fq:=⟨mG,by decide⟩
def nuS (c:cK):aH:=⟨⟨imax 1 (gG c.part 8000),imax 1 (gG c.every 1048576),imax 1 (gG c.most 64)⟩,fq,fq,[],B8,1⟩
theorem vu (c:cK):kr c=some (nuS c):=rfl
theorem DI (c:cK):SNI (nuS c):=by
 have hm:imax 1 (gG c.most 64)=max 1 (min c.most 64):=by rw [jO,iQ]
 refine ⟨wY,wY,λx hx=>(by cases hx),?_,?_,Nat.zero_le _,rfl,List.Pairwise.nil,λx hx=>(by cases hx)⟩
 ·show 1<=imax 1 (gG c.most 64)/\imax 1 (gG c.most 64)<=64
  omega
 ·show (0:Int)<=imax 1 (gG c.most 64)
  omega
def setCur (s:aH) (x:aC):aH:=⟨s.config,x,s.aL,s.kept,s.message,s.next⟩
def sg (s:aH) (x:aC):Bool×aH:=if ie x=false\/x.k<=s.current.k then (false,s) else (true,setCur s x)
theorem zX (s:aH) (x:aC) (h:SW x):eG s x=some (sg s x):=by
 unfold eG sg
 rw [oq x h,aA,lJ x h]
 by_cases hm:ie x=true
 ·rw [hm,if_pos rfl,show ((0:Int) != 0)=false from rfl,cond_false,aA]
  by_cases hk:x.k<=s.current.k
  ·rw [decide_eq_true hk,cond_true,if_pos (.inr hk)]
  ·rw [decide_eq_false hk,cond_false,if_neg (by simp [hk]),aA]
   rfl
 ·have hm2:ie x=false:=by simpa using hm
  rw [hm2,if_neg (by simp),show ((1:Int) != 0)=true from rfl,cond_true,aA,cond_true,if_pos (Or.inl rfl)]
theorem BI {s:aH} {x:aC} (h:SNI s) (hx:CT1 x):SNI (sg s x).2:=by
 unfold sg
 split
 ·exact h
 ·rename_i hn
  exact ⟨hx,h.ack,h.kp,h.m0,h.kl,h.pl,h.tl,h.so,λy hy=>by have:=h.ck y hy; show y.k<=x.k; omega⟩
theorem vw {s:aH} (now:Int) (hk:s.current.k≠s.aL.k) (hf:o4 s=true):qN s now=(s7 (DE s now),Ej (vt s now) (IntKind.i64.wrap (now+s.config.every))):=by
 have e:jN s now=vt s now:=by unfold jN; rw [hf,if_pos rfl]
 unfold qN
 rw [if_neg hk,e,if_neg (show ¬ now < (vt s now).message.due from Int.lt_irrefl now)]
 rfl
theorem zY {m:bD} (h:m.there=List.replicate m.parts.length false):wX m=(List.range m.parts.length).map λi:Nat=>((i:Int),(m.parts[i]?).getD noS):=by
 have key: ∀ n,n<=m.parts.length->qL m n=(List.range n).map λi:Nat=>((i:Int),(m.parts[i]?).getD noS):=by
  intro n
  induction n with
  | zero=>intro _; rfl
  | succ n ih =>
   intro hn
   rw [qM,ih (by omega),List.range_succ,List.map_append,show m.there[n]?=some false by rw [h,List.getElem?_replicate,if_pos (by omega)],if_neg (by simp)]
   rfl
 exact key _ (Nat.le_refl _)
theorem xS (s:ByteArray) (n i:Nat) (hi:i*n<=s.size):eK s 0 ((min s.size (i*n):Nat):Int)++nv s n i=eK s 0 ((min s.size ((i+1)*n):Nat):Int):=by
 apply m4
 unfold nv
 rw [qu,show (0:Int)=((0:Nat):Int) from rfl,eS,eS,eS,List.drop_zero,List.drop_zero,show min s.size (i*n)=i*n by omega,Nat.add_mul,Nat.one_mul]
 have h2:i*n<=min s.size (i*n+n):=by omega
 generalize min s.size (i*n+n)=b at h2
 have:=List.take_append_drop (i*n) ((sbs s).take b)
 rw [List.take_take,show min (i*n) b=i*n by omega] at this
 exact this
theorem vx: ∀ (n:Nat) (l:List Nat),l.Nodup->(∀ x∈l,x < n)->l.length<=n/\(l.length=n -> ∀ i,i < n->i∈l)
 | 0,l,_,h=>by
  have:l=[]:=by
   cases l with
   | nil=>rfl
   | cons a l=>exact absurd (h a List.mem_cons_self) (Nat.not_lt_zero a)
  subst this
  exact ⟨Nat.le_refl _,λ_ i hi=>absurd hi (Nat.not_lt_zero i)⟩
 | n+1,l,hn,h=>by
  by_cases hm:n∈l
  ·have hl:=List.length_erase_of_mem hm
   have hpos:0 < l.length:=List.length_pos_of_mem hm
   obtain ⟨h1,h2⟩:=vx n (l.erase n) (hn.erase n) (λx hx=>by
    have h3:=(hn.mem_erase_iff.1 hx)
    have:=h x h3.2
    have:=h3.1
    omega)
   refine ⟨by omega,λe i hi=> ?_⟩
   by_cases hin:i=n
   ·rw [hin]; exact hm
   ·exact List.mem_of_mem_erase (h2 (by omega) i (by omega))
  ·obtain ⟨h1,h2⟩:=vx n l hn (λx hx=>by
    have:=h x hx
    have:x≠n:=λe=>hm (e ▸ hx)
    omega)
   exact ⟨by omega,λe=>by omega⟩
structure SL (P:List ByteArray) (l:List (Int×ByteArray)):Prop where
 nd:(l.map Prod.fst).Nodup
 at_: ∀ p∈l,∃ i:Nat,p.1=(i:Int)/\P[i]?=some p.2
theorem vy (P:List ByteArray):SL P []:=⟨List.nodup_nil,λp hp=>by cases hp⟩
theorem oE {α:Type} {k:Int}: ∀ {l:List (Int×α)},mgl k l=none -> ∀ p∈l,p.1≠k
 | [],_,p,hp=>by cases hp
 | (j,y)::l,h,p,hp=>by
  unfold mgl at h
  split at h
  ·cases h
  ·rename_i hne
   rcases List.mem_cons.1 hp with rfl | hp
   ·exact λe=>hne e.symm
   ·exact oE h p hp
theorem l8 {α:Type} {k:Int} {x:α}: ∀ {l:List (Int×α)},(l.map Prod.fst).Nodup->(k,x)∈l->mgl k l=some x
 | (j,y)::l,hn,hm=>by
  rw [List.map_cons,List.nodup_cons] at hn
  unfold mgl
  rcases List.mem_cons.1 hm with h | h
  ·injection h with h1 h2
   rw [if_pos h1,h2]
  ·split
   ·rename_i e
    exact absurd (List.mem_map_of_mem (f:=Prod.fst) h) (by rw [e]; exact hn.1)
   ·exact l8 hn.2 h
theorem SL.add {P:List ByteArray} {l:List (Int×ByteArray)} (h:SL P l) {i:Nat} {d:ByteArray} (hi:P[i]?=some d) (hn:mgl (i:Int) l=none):SL P (msl (i:Int) d l)/\msl (i:Int) d l=l++[((i:Int),d)]:=by
 have e:=sV (i:Int) d l (oE hn)
 refine ⟨?_,e⟩
 rw [e]
 refine ⟨?_,λp hp=> ?_⟩
 ·rw [List.map_append,List.nodup_append]
  refine ⟨h.nd,by simp,λa ha b hb=> ?_⟩
  obtain ⟨p,hp,rfl⟩:=List.mem_map.1 ha
  simp at hb
  rw [hb]
  exact oE hn p hp
 ·rcases List.mem_append.1 hp with hp | hp
  ·exact h.at_ p hp
  ·rw [List.mem_singleton.1 hp]; exact ⟨i,rfl,hi⟩
theorem SL.le {P:List ByteArray} {l:List (Int×ByteArray)} (h:SL P l):l.length<=P.length/\(l.length=P.length -> ∀ i (hi:i < P.length),mgl (i:Int) l=some P[i]):=by
 have hk: ∀ p∈l,p.1=((p.1.toNat:Nat):Int):=λp hp=>by
  obtain ⟨i,e,_⟩:=h.at_ p hp
  rw [e]; simp
 have hnd:(l.map λp=>p.1.toNat).Nodup:=by
  have h1:=h.nd
  rw [List.nodup_iff_pairwise_ne] at h1 ⊢
  rw [List.pairwise_map] at h1 ⊢
  refine List.Pairwise.imp_of_mem ?_ h1
  intro a b ha hb hne e
  exact hne (by rw [hk a ha,hk b hb,e])
 obtain ⟨p1,p2⟩:=vx P.length (l.map λp=>p.1.toNat) hnd (λx hx=>by
  obtain ⟨p,hp,rfl⟩:=List.mem_map.1 hx
  obtain ⟨i,e,hi⟩:=h.at_ p hp
  rw [e,Int.toNat_natCast]
  exact (List.getElem?_eq_some_iff.1 hi).1)
 rw [List.length_map] at p1 p2
 refine ⟨p1,λe i hi=> ?_⟩
 obtain ⟨p,hp,hpi⟩:=List.mem_map.1 (p2 e i hi)
 obtain ⟨j,ej,hj⟩:=h.at_ p hp
 have hji:j=i:=by rw [ej,Int.toNat_natCast] at hpi; exact hpi
 subst hji
 rw [List.getElem?_eq_getElem hi] at hj
 refine l8 h.nd ?_
 rw [Option.some.inj hj,<- ej]
 exact hp
theorem m9 {σ:Type} {s:aW} {n:Nat} (hc:s.count=(n:Int)) (hn:n<=1000000) (Y:σ->Int×Bool->Option (σ×Bool)) (S:Nat->σ) (h: ∀ i,i < n->Y (S i) ((i:Int),kU s.parts (i:Int))=some (S (i+1),true)):fv s Y (S 0)=some (S n):=by
 unfold fv
 refine fw (λi:Nat=>((i:Int),S i)) n (.inl (S n)) rfl ?_ ?_ rfl
 ·intro i hi
  dsimp only
  rw [hc,decide_eq_true (by omega),cond_true,h i hi,aA]
  dsimp only
  rw [Bool.not_true,cond_false,w64 (by omega) (by omega)]
  rfl
 ·dsimp only
  rw [hc,decide_eq_false (by omega),cond_false]
def dF (P:List ByteArray):List Int:=P.flatMap sbs
theorem l9 (P:List ByteArray) (i:Nat) (h:i < P.length):dF (P.take (i+1))=dF (P.take i)++sbs P[i]:=by
 unfold dF
 rw [List.take_succ_eq_append_getElem h,List.flatMap_append]
 simp
theorem qO {P:List ByteArray} {l:List (Int×ByteArray)} {id b:Int} (hid:1<=id) (h:SL P l) (hP:P.length<=4096) (hb:(dF P).length<=1000000) :
  eD ⟨id,(P.length:Int),some l,b⟩=some (if l.length < P.length then (noS,false) else (cO (dF P),true)):=by
 obtain ⟨h1,h2⟩:=h.le
 unfold eD
 dsimp only
 rw [C9 (by omega),cond_false,aA]
 show (bif decide (((l.length:Nat):Int) < (P.length:Int)) then _ else _)=_
 by_cases c:l.length < P.length
 ·rw [decide_eq_true (by omega),cond_true,if_pos c]
  rfl
 ·rw [decide_eq_false (by omega),cond_false,if_neg c]
  have hall:=h2 (by omega)
  have hpre: ∀ i,(dF (P.take i)).length<=(dF P).length:=λi=>by
   have e:dF P=dF (P.take i)++dF (P.drop i):=by
    unfold dF
    rw [<- List.flatMap_append,List.take_append_drop]
   rw [e,List.length_append]
   omega
  have e:=m9 (s:=⟨id,(P.length:Int),some l,b⟩) (n:=P.length) rfl (by omega) (λa f=>(Option.bind (cZ (bX.mk a.addr a.buf) (mgd (some l) f.1 (ByteArray.mk #[]))) λd=>some ((bX.mk d.addr d.buf),true))) (λi=>bX.mk (decide (0 < i)) (dF (P.take i))) (λi hi=>by
   dsimp only
   have hg:mgd (some l) (i:Int) (ByteArray.mk #[])=P[i]:=by
    unfold mgd
    rw [Option.getD_some,hall i hi,Option.getD_some]
   have h3:=hpre (i+1)
   rw [l9 P i hi,List.length_append,aR] at h3
   rw [hg]
   unfold cZ
   rw [cF (by dsimp only; omega),aA,aA,l9 P i hi]
   rfl)
  try dsimp only at e
  rw [show (bX.mk false ([]:List Int))=bX.mk (decide (0 < 0)) (dF (P.take 0)) from rfl,e,aA]
  try dsimp only
  rw [List.take_length]
  rfl
theorem sj {α:Type} [BEq α] [LawfulBEq α]: ∀ (A B:List α),A.Nodup->(∀ x∈A,x∈B)->A.length<=B.length
 | [],B,_,_=>Nat.zero_le _
 | a::A,B,h,hs=>by
  rw [List.nodup_cons] at h
  have ha:=hs a List.mem_cons_self
  have e:=List.length_erase_of_mem ha
  have hp:0 < B.length:=List.length_pos_of_mem ha
  have:=sj A (B.erase a) h.2 λx hx=>by
   have hne:x≠a:=λe=>h.1 (e ▸ hx)
   exact (List.mem_erase_of_ne hne).2 (hs x (List.mem_cons_of_mem _ hx))
  rw [List.length_cons]
  omega
theorem SL.full {P:List ByteArray} {l:List (Int×ByteArray)} (hall: ∀ i:Nat,i < P.length->(mgl (i:Int) l).isSome=true):P.length<=l.length:=by
 have h:=sj ((List.range P.length).map λi:Nat=>(i:Int)) (l.map Prod.fst) (by
  rw [List.nodup_iff_pairwise_ne,List.pairwise_map]
  exact (List.nodup_iff_pairwise_ne.1 List.nodup_range).imp λh e=>h (by omega)) (λx hx=>by
   obtain ⟨i,hi,rfl⟩:=List.mem_map.1 hx
   have:=hall i (List.mem_range.1 hi)
   rw [Option.isSome_iff_exists] at this
   obtain ⟨d,hd⟩:=this
   exact List.mem_map.2 ⟨((i:Int),d),m8 hd,rfl⟩)
 simpa using h
def nT (l:List (Int×ByteArray)) (i:Nat) (d:ByteArray):List (Int×ByteArray):=if (mgl (i:Int) l).isSome then l else msl (i:Int) d l
def AtL (id:Int) (n:Nat) (s:aW) (l:List (Int×ByteArray)):Prop:=(s.key < id/\l=[]) \/ ∃ b,s=⟨id,(n:Int),some l,b⟩
theorem DJ {P:List ByteArray} {s:aW} {l:List (Int×ByteArray)} {id:Int} {i:Nat} (d:ByteArray) (h:AtL id P.length s l) (hid:1<=id) (hn:P.length<=4096) (hi:i < P.length) :
  ∃ b,eY s id (i:Int) (P.length:Int) d=some (0,⟨id,(P.length:Int),some (nT l i d),b⟩):=by
 unfold eY
 rw [decide_eq_false (by omega),cond_false,decide_eq_false (by omega),cond_false,decide_eq_false (by omega),cond_false,decide_eq_false (by omega),cond_false,decide_eq_false (by omega),aA,cond_false]
 rcases h with ⟨h1,rfl⟩ | ⟨b,rfl⟩
 ·rw [decide_eq_false (by omega),cond_false,decide_eq_true (by omega),cond_true,aA]
  dsimp only
  exact ⟨_,rfl⟩
 ·dsimp only
  rw [decide_eq_false (by omega),cond_false,cond_false,zj,cond_false,aA]
  dsimp only
  unfold nT
  show ∃ b',Option.bind (bif !(mgl (i:Int) l).isSome then _ else _) _=_
  cases hm:(mgl (i:Int) l).isSome with
  | true=>exact ⟨b,rfl⟩
  | false=>exact ⟨_,rfl⟩
theorem SL.nT {P:List ByteArray} {l:List (Int×ByteArray)} (h:SL P l) {i:Nat} (hi:i < P.length) :
  SL P (nT l i P[i])/\(mgl (i:Int) (X.nT l i P[i])).isSome=true/\(∀ j,(mgl j l).isSome=true->(mgl j (X.nT l i P[i])).isSome=true):=by
 unfold X.nT
 cases hm:(mgl (i:Int) l).isSome with
 | true=>exact ⟨h,hm,λ_ h=>h⟩
 | false =>
  have hn:mgl (i:Int) l=none:=by
   cases hg:mgl (i:Int) l with
   | none=>rfl
   | some x=>rw [hg] at hm; cases hm
  obtain ⟨h1,h2⟩:=h.add (List.getElem?_eq_getElem hi) hn
  refine ⟨h1,?_,λj hj=> ?_⟩
  ·have:mgl (i:Int) (msl (i:Int) P[i] l)=some P[i]:=l8 h1.nd (by rw [h2]; exact List.mem_append_right _ (List.mem_singleton.2 rfl))
   rw [if_neg (by simp),this]
   rfl
  ·rw [Option.isSome_iff_exists] at hj
   obtain ⟨d,hd⟩:=hj
   have:mgl j (msl (i:Int) P[i] l)=some d:=l8 h1.nd (by rw [h2]; exact List.mem_append_left _ (m8 hd))
   rw [if_neg (by simp),this]
   rfl
theorem zZ (d:ByteArray) (n:Nat) (h:1<=n):dF (mq d n)=sbs d:=by
 have hl:=oD d n
 have key: ∀ i,i<=jD d.size n->dF ((mq d n).take i)=sbs (eK d 0 ((min d.size (i*n):Nat):Int)):=by
  intro i
  induction i with
  | zero =>
   intro _
   rw [List.take_zero,Nat.zero_mul,Nat.min_zero,show (0:Int)=((0:Nat):Int) from rfl,eS]
   rfl
  | succ i ih =>
   intro hi
   have hil:i < (mq d n).length:=by omega
   have hg:(mq d n)[i]=nv d n i:=by simp [mq]
   rw [l9 _ i hil,ih (by omega),hg,<- qu,xS d n i (DB h (by omega))]
 have hc:=s6 d.size n
 have hge:d.size<=jD d.size n*n:=by
  have h2: ¬ (jD d.size n - 1)*n+n < d.size:=λe=>by have:=(qK (z:=d.size) (i:=jD d.size n - 1) h).2 e; omega
  have h3:(jD d.size n - 1)*n+n=jD d.size n*n:=by
   have:jD d.size n=(jD d.size n - 1)+1:=by omega
   rw [this,Nat.add_sub_cancel,Nat.add_mul,Nat.one_mul]
  omega
 have e:=key (jD d.size n) (Nat.le_refl _)
 rw [<- hl,List.take_length,hl,Nat.min_eq_left hge,r8] at e
 exact e
structure Msg (P:List ByteArray) (f x:aC):Prop where
 jo:cO (dF P)=gM f x
 jl:(dF P).length<=1000000
 np:P.length<=4096
 gf:SG f
 gx:SG x
 nx:dR x=false
theorem z3 {t:aK} {P:List ByteArray} {l:List (Int×ByteArray)} {id key base:Int} {i:Nat} (d:ByteArray) (hk:t.aO.k < key) (hb:base=0\/base=t.aO.k) (hA:AtL id P.length t.slot l) (hid:1<=id) (hn:P.length<=4096) (hi:i < P.length) :
  ∃ b,eT t ⟨1,1,[id,key,base,(i:Int),(P.length:Int)],d⟩=some (0,⟨⟨id,(P.length:Int),some (nT l i d),b⟩,t.aO⟩):=by
 obtain ⟨b,e⟩:=DJ d hA hid hn hi
 refine ⟨b,?_⟩
 unfold eT
 have x0:idx [id,key,base,(i:Int),(P.length:Int)] 0=some id:=rfl
 have x1:idx [id,key,base,(i:Int),(P.length:Int)] 1=some key:=rfl
 have x2:idx [id,key,base,(i:Int),(P.length:Int)] 2=some base:=rfl
 have x3:idx [id,key,base,(i:Int),(P.length:Int)] 3=some (i:Int):=rfl
 have x4:idx [id,key,base,(i:Int),(P.length:Int)] 4=some (P.length:Int):=rfl
 dsimp only
 rw [show ((1:Int) != 1)=false from rfl,cond_false,show (([id,key,base,(i:Int),(P.length:Int)].length:Int) != 5)=false from rfl,cond_false,x1,aA,decide_eq_false (by omega),cond_false,x2]
 simp only [aA]
 have hq:((bif base != 0 then some (base != t.aO.k) else some false):Option Bool)=some false:=by
  rcases hb with h | h
  ·rw [h]; rfl
  ·rw [h,zj]; cases t.aO.k != 0 <;> rfl
 rw [hq,aA,cond_false,x0,aA,x3,aA,x4,aA,e,aA]
theorem xT {t:aK} {f x:aC} {P:List ByteArray} {l:List (Int×ByteArray)} {id base:Int} {i:Nat} (hM:Msg P f x) (hk:t.aO.k < x.k) (hb:base=0/\f=fq\/base≠0/\base=t.aO.k/\f=t.aO) (hA:AtL id P.length t.slot l) (hl:SL P l) (hid:1<=id) (hi:i < P.length) :
  ∃ t',dA t ⟨1,1,[id,x.k,base,(i:Int),(P.length:Int)],P[i]⟩=some (0,t')/\((t'.slot=⟨0,0,none,0⟩/\t'.aO=x /\ ¬ (nT l i P[i]).length < P.length) \/ ∃ l' b,t'=⟨⟨id,(P.length:Int),some l',b⟩,t.aO⟩/\SL P l'/\l'.length < P.length/\l'=nT l i P[i]):=by
 obtain ⟨b,e⟩:=z3 P[i] hk (hb.imp (λh=>h.1) λh=>h.2.1) hA hid hM.np hi
 obtain ⟨s1,s2,s3⟩:=hl.nT hi
 have hw:=qO (b:=b) hid s1 hM.np hM.jl
 unfold dA
 rw [e,aA]
 dsimp only
 rw [show ((0:Int) != 0)=false from rfl,cond_false,hw,aA]
 by_cases c:(nT l i P[i]).length < P.length
 ·rw [if_pos c]
  dsimp only
  rw [Bool.not_false,cond_true]
  exact ⟨_,rfl,.inr ⟨_,b,rfl,s1,c,rfl⟩⟩
 ·rw [if_neg c]
  dsimp only
  have x1:idx [id,x.k,base,(i:Int),(P.length:Int)] 1=some x.k:=rfl
  have x2:idx [id,x.k,base,(i:Int),(P.length:Int)] 2=some base:=rfl
  have hf:((bif base != 0 then some t.aO else some (aC.mk 0 0 0 0 0 (ByteArray.mk #[]) ([]:List aE) 0 0 ([]:List aG))):Option aC)=some f:=by
   rcases hb with ⟨h1,h2⟩ | ⟨h1,h2,h3⟩
   ·rw [h1,h2]; rfl
   ·rw [show (base != 0)=true by simpa using h1,cond_true,h3]
  rw [Bool.not_true,cond_false,show ∀ s,fA s=some ⟨0,0,none,0⟩ from λs=>rfl,aA,x2,aA,hf,aA,hM.jo,zL hM.gf hM.gx hM.nx hM.gf,ux hM.gf hM.gx hM.nx,aA]
  dsimp only
  rw [show ((0:Int) == 0)=true from rfl,cond_true,x1,aA,zj,aA,cond_false,aA,show ((0:Int) == 0)=true from rfl,cond_true,aA]
  exact ⟨_,rfl,.inl ⟨rfl,rfl,c⟩⟩
theorem wZ (k:Nat) {v:Int} (h1:v < 128 ^ (k+1)):(bK v).length<=k+1:=by
 refine mE k _ ?_
 unfold clN
 have h2:((max 0 (min v 4611686018427387904)).toNat:Int) < ((128 ^ (k+1):Nat):Int):=by
  have h3:(0:Int) < 128 ^ (k+1):=Int.pow_pos (by decide)
  rw [Int.natCast_pow]
  show ((max 0 (min v 4611686018427387904)).toNat:Int) < (128:Int) ^ (k+1)
  omega
 exact Int.ofNat_lt.1 h2
theorem DK {g:aG} (h:gOk g):(ku g).length<=5:=by
 obtain ⟨⟨_,a⟩,_,b⟩:=h
 have h1:=wZ 2 (v:=g.rune) (by omega)
 have h2:=wZ 1 (v:=g.aM) (by omega)
 show ([g.rune,g.aM].flatMap bK).length<=5
 simp only [List.flatMap_cons,List.flatMap_nil,List.append_nil,List.length_append]
 omega
theorem w6: ∀ (l:List aG),gls l->(l.flatMap ku).length<=5*l.length
 | [],_=>Nat.le_refl _
 | g::l,h=>by
  have h1:=DK (h g List.mem_cons_self)
  have h2:=w6 l λq hq=>h q (List.mem_cons_of_mem _ hq)
  rw [List.flatMap_cons,List.length_append,List.length_cons]
  omega
structure SQ (s:aC):Prop where
 g:SG s
 ne:dR s=false
 bg:gls s.begun
 bl:s.begun.length < 1024
 tl:s.title.size<=200
 rl:s.rows.length<=6
 rw_: ∀ r∈s.rows,r.cells.length<=10
theorem SQ.pk {s:aC} (h:SQ s):(s.rows.flatMap cV).length<=2214:=by
 have h1:=oZ 10 s.rows h.rw_
 have:=h.rl
 have:s.rows.length*(9+36*10)<=6*369:=Nat.mul_le_mul this (by decide)
 omega
theorem SQ.ct {s:aC} (h:SQ s):CT1 s:=⟨h.g.sw,by have:=h.pk; omega⟩
theorem z4 (l:List Int):(cO l).size=l.length:=bO l
theorem qP {a x:aC} (hx:SQ x):(gM a x).size<=8000:=by
 unfold gM
 split
 ·show noS.size<=8000; decide
 ·rw [z4]
  unfold l7 mJ gR
  have h1:=lK [((kX (fF a):Nat):Int),x.k,x.w,x.h,x.x,x.y]
  have h2:=lK [x.len,x.chain]
  have h3:=bL (x.title.size:Int)
  have h4:=bL ((chg a.rows x.rows).length:Int)
  have h5:=bL (x.begun.length:Int)
  have h6:=w6 x.begun hx.bg
  have h7:=sT a.rows x.rows x.rows.length (Nat.le_refl _)
  have h8:=hx.pk
  have h9:=hx.rl
  have h10:=hx.bl
  have h11:=hx.tl
  rw [List.take_length] at h7
  simp only [List.length_append,aR]
  simp only [List.length_cons,List.length_nil] at h1 h2
  show _<=8000
  have h12:(pch x.rows (chg a.rows x.rows)).length<=9*x.rows.length+(x.rows.flatMap cV).length:=h7
  omega
theorem xU {a x:aC} (hx:SQ x) {p:Nat} (hp:4<=p):(mq (gM a x) p).length<=2001:=by
 rw [oD]
 unfold jD
 have h:=qP (a:=a) hx
 have:((gM a x).size+p - 1) / p<=2001:=by
  refine Nat.div_le_of_le_mul ?_
  have:4*2001<=p*2001:=Nat.mul_le_mul_right _ hp
  have e:p*2001=p*2000+p:=by omega
  have:4*2000<=p*2000:=Nat.mul_le_mul_right _ hp
  omega
 omega
theorem DL {a x:aC} (ga:SG a) (hx:SQ x) {p:Nat} (hp:4<=p):Msg (mq (gM a x) p) a x:=by
 have hj:=zZ (gM a x) p (by omega)
 have hs:=qP (a:=a) hx
 exact ⟨by rw [hj,lG],by rw [hj,aR]; omega,by have:=xU (a:=a) hx hp; omega,ga,hx.g,hx.ne⟩
def grm (id key base:Int) (P:List ByteArray) (i:Nat):bY:=⟨1,1,[id,key,base,(i:Int),(P.length:Int)],(P[i]?).getD noS⟩
theorem DM {id key base:Int} {P:List ByteArray} {i:Nat} (h:i < P.length):grm id key base P i=⟨1,1,[id,key,base,(i:Int),(P.length:Int)],P[i]⟩:=by
 unfold grm
 rw [List.getElem?_eq_getElem h]
 rfl
theorem xV {m:bD} (h:m.there=List.replicate m.parts.length false):s7 m=(List.range m.parts.length).map (grm m.id m.key m.base m.parts):=by
 unfold s7
 rw [zY h,List.map_map]
 rfl
inductive In_ (P:List ByteArray) (id:Int) (a x:aC) (t:aK) (i:Nat):Prop where
 | done (h1:t.slot=⟨0,0,none,0⟩) (h2:t.aO=x) (h3:P.length<=i)
 | part (l:List (Int×ByteArray)) (h1:AtL id P.length t.slot l) (h2:SL P l) (h3:l.length=i) (h4:t.aO=a) (h5: ∀ j:Nat,i<=j->mgl (j:Int) l=none) (h6:i < P.length)
theorem nw {α:Type} {k j:Int} {x:α} (hne:k≠j): ∀ {l:List (Int×α)},mgl k l=none->mgl k (l++[(j,x)])=none
 | [],_=>by
  show (if k=j then _ else _)=_
  rw [if_neg hne]
  rfl
 | (q,y)::l,h=>by
  unfold mgl at h
  rw [List.cons_append]
  unfold mgl
  split at h
  ·cases h
  ·rename_i hq
   rw [if_neg hq]
   exact nw hne h
theorem BJ {P:List ByteArray} {id base:Int} {a f x:aC} {t:aK} {i:Nat} (hM:Msg P f x) (hk:a.k < x.k) (hb:base=0/\f=fq\/base≠0/\base=a.k/\f=a) (hid:1<=id) (h:In_ P id a x t i) (hi:i < P.length) :
  ∃ t',dA t (grm id x.k base P i)=some (0,t')/\In_ P id a x t' (i+1):=by
 rw [DM hi]
 cases h with
 | done h1 h2 h3=>omega
 | part l h1 h2 h3 h4 h5 h6 =>
  obtain ⟨t',e1,e2⟩:=xT (t:=t) (i:=i) hM (by rw [h4]; exact hk) (by rw [h4]; exact hb) h1 h2 hid hi
  have hn:=h5 i (Nat.le_refl _)
  have ha:nT l i P[i]=l++[((i:Int),P[i])]:=by
   unfold nT
   rw [hn,if_neg (by simp)]
   exact (h2.add (List.getElem?_eq_getElem hi) hn).2
  have hlen:(nT l i P[i]).length=i+1:=by rw [ha]; simp [h3]
  refine ⟨t',e1,?_⟩
  rcases e2 with ⟨e2,e3,e4⟩ | ⟨l',b,rfl,e3,e4,rfl⟩
  ·exact .done e2 e3 (by omega)
  ·refine .part _ (.inr ⟨b,rfl⟩) e3 hlen h4 (λj hj=> ?_) (by omega)
   rw [ha]
   exact nw (by omega) (h5 j (by omega))
theorem DN {P:List ByteArray} {id:Int} {a x:aC} {t:aK} (h:In_ P id a x t P.length):t.slot=⟨0,0,none,0⟩/\t.aO=x:=by
 cases h with
 | done h1 h2 h3=>exact ⟨h1,h2⟩
 | part l h1 h2 h3 h4 h5 h6=>omega
theorem z5 {t:aK} (h:t.slot=⟨0,0,none,0⟩):cY t=some ⟨1,2,[t.aO.k,0],cO []⟩:=by
 unfold cY
 rw [h,show eZ ⟨0,0,none,0⟩=some 0 from rfl,aA]
 have e1:IntKind.i64.wrap ((IntKind.i64.wrap ((IntKind.i64.wrap ((0:Int)+8)) - 1)).tdiv 8)=0:=by decide
 have e2:cQ ⟨0,0,none,0⟩=some []:=by
  unfold cQ dK
  have:=m9 (s:=⟨0,0,none,0⟩) (n:=0) rfl (by decide) (λs32 x3=>(bif (x3.2 == true) then (Option.bind (chk (fu s32.length [x3.1].length 8)) λ_=>some ((s32++[x3.1]),true)) else some (s32,true))) (λ_=>([]:List Int)) (λi hi=>absurd hi (Nat.not_lt_zero i))
  rw [this]
  rfl
 rw [e1,show chk (oU 0 1)=some () from gI (by decide),aA,e2,aA]
 refine fw (λ_=>((0:Int),([]:List Int))) 0 [] rfl (λi hi=>absurd hi (Nat.not_lt_zero i)) rfl ?_
 rfl
theorem vz {c:cK} {x:aC} (hx:SQ x) (hk:1<=x.k) {now:Int} :
  eG (nuS c) x=some (true,setCur (nuS c) x)/\eH (setCur (nuS c) x) now=some (qN (setCur (nuS c) x) now) /\
   (qN (setCur (nuS c) x) now).1=(List.range (mq (gM fq x) (ptN (nuS c).config.part)).length).map (grm 1 x.k 0 (mq (gM fq x) (ptN (nuS c).config.part))):=by
 have hn:=zX (nuS c) x hx.g.sw
 have hc: ¬ (ie x=false\/x.k<=(nuS c).current.k):=by
  rw [hx.g.may]
  rintro (h | h)
  ·cases h
  ·have:(nuS c).current.k=0:=rfl
   omega
 have e:sg (nuS c) x=(true,setCur (nuS c) x):=by
  unfold sg
  rw [if_neg hc]
 rw [e] at hn
 have hs:SNI (setCur (nuS c) x):=by
  have:=BI (DI c) hx.ct
  rw [e] at this
  exact this
 refine ⟨hn,xR _ now hs,?_⟩
 rw [vw now (by show x.k≠0; omega) rfl]
 rw [xV rfl]
 rfl
structure MQ (N:Nat) (m:dJ) (z:Zt):Prop where
 ex: ∃ W x,W<=10/\MX W (484000*N) N z m x
 g:MG m z
 h:m.bP.g.l.length<=6
theorem DO {w h:Int} (hw:w<=10) (hh:h<=6):MQ 0 (zf w h) ([],[]):=by
 refine ⟨⟨szN w,_,by unfold szN; omega,Di w h⟩,Dj w h,?_⟩
 show (List.replicate (szN h) (u7 (szN w) 0)).length<=6
 rw [List.length_replicate]
 unfold szN
 omega
theorem BK {N:Nat} {m:dJ} {z:Zt} (h:MQ N m z) (hN:N<=90):eC m=some (sOf m z,m)/\SQ (sOf m z)/\1<=(sOf m z).k/\(sOf m z).k=m.k+1/\m.k<=N:=by
 obtain ⟨W,x,hW,hx⟩:=h.ex
 have hk0:=hx.k0
 have hkN:=hx.kN
 have hrw: ∀ r∈(sOf m z).rows,r.cells.length<=10:=λr hr=>by
  have:=(hx.si.gi.rs r hr).1
  omega
 have hpk:((sOf m z).rows.flatMap cV).length<=12000:=by
  have h1:=oZ 10 (sOf m z).rows hrw
  have h2:(sOf m z).rows.length<=6:=h.h
  have:(sOf m z).rows.length*(9+36*10)<=6*369:=Nat.mul_le_mul h2 (by decide)
  omega
 refine ⟨zh hx (by omega) (by omega),⟨⟨Dl hx h.g,hpk,Bv hx h.g (by omega) (by omega)⟩,?_,h.g.zg.b,hx.zi.b,h.g.sc.t,h.h,hrw⟩,?_,rfl,hkN⟩
 ·unfold dR
  rw [show (sOf m z).k=m.k+1 from rfl,C9 (by omega)]
  rfl
 ·show 1<=m.k+1
  omega
theorem BL (d:ByteArray) (p:Nat):0 < (mq d p).length:=by rw [oD]; exact s6 _ _
def Ek:aK:=⟨⟨0,0,none,0⟩,fq⟩
theorem BM:iv=some Ek:=rfl
theorem DP (P:List ByteArray) (x:aC) (h:0 < P.length):In_ P 1 fq x Ek 0:= .part [] (.inl ⟨by decide,rfl⟩) (vy P) rfl rfl (λ_ _=>rfl) h
theorem z6 {t:aK} (h:SW t.aO):dM t=some t.aO:=by
 unfold dM
 rw [lJ _ h,aA]
theorem xW {α:Type} (f:Nat->α) (n i:Nat) (h:i < n):idx ((List.range n).map f) (i:Int)=some (f i):=by
 rw [bN _ i (by simpa using h)]
 simp
theorem vI:iL=some true:=by
 unfold iL
 obtain ⟨e1,hx,hk,hk2,_⟩:=BK (DO (w:=3) (h:=2) (by decide) (by decide)) (by decide)
 generalize hX:sOf (zf 3 2) ([],[])=x at e1 hx hk hk2
 have hx1:x.k=1:=by rw [hk2]; rfl
 obtain ⟨s1,s2,s3⟩:=vz (c:=⟨5,1,2⟩) hx hk (now:=0)
 have hp:ptN (nuS ⟨5,1,2⟩).config.part=5:=by decide
 rw [hp] at s3
 have hM:=DL BE hx (p:=5) (by decide)
 have hpos:=BL (gM fq x) 5
 generalize mq (gM fq x) 5=P at s3 hM hpos
 rw [vu,aA,BM,aA,Br,aA,e1,aA]
 dsimp only
 rw [s1,aA]
 dsimp only
 rw [s2,aA,s3]
 have hkz:fq.k < x.k:=by show (0:Int) < x.k; omega
 refine mD (λs:aK×Int=> ∃ i:Nat,s.2=i/\i<=P.length/\In_ P 1 fq x s.1 i) (λs=>P.length - s.2.toNat) (λr=> ∃ t,r = .inl t/\t.slot=⟨0,0,none,0⟩/\t.aO=x) ⟨0,rfl,Nat.zero_le _,DP P x hpos⟩ ?_ ?_
 ·rintro ⟨t,j⟩ ⟨i,h1,h2,h3⟩
  dsimp only at h1 h2 h3 ⊢
  subst h1
  rw [List.length_map,List.length_range]
  by_cases c:i < P.length
  ·left
   obtain ⟨t',e,h4⟩:=BJ hM hkz (.inl ⟨rfl,rfl⟩) (Int.le_refl 1) h3 c
   rw [decide_eq_true (by omega),cond_true,xW _ _ _ c,aA,e,aA]
   dsimp only
   rw [show ((0:Int) != 0)=false from rfl,cond_false,w64 (by omega) (by have:=hM.np; omega)]
   exact ⟨_,rfl,⟨i+1,by dsimp only; omega,by omega,h4⟩,by dsimp only; omega⟩
  ·right
   rw [decide_eq_false (by omega),cond_false]
   have hi:i=P.length:=by omega
   subst hi
   obtain ⟨h4,h5⟩:=DN h3
   exact ⟨_,rfl,t,rfl,h4,h5⟩
 ·rintro r ⟨t,rfl,h4,h5⟩
  dsimp only
  rw [show fX t=some t.aO.k from rfl,aA,h5,hx1,show ((1:Int) == 1)=true from rfl,cond_true,z6 (by rw [h5]; exact hx.g.sw),aA,e1,aA]
  dsimp only
  rw [h5,BF hx.g,aA,decide_eq_true rfl,cond_true,z5 h4,aA,h5,hx1]
  rfl
theorem or8 {a b:Nat} (ha:a < 256) (hb:b < 256):Go.bits .or .u8 (a:Int) (b:Int)=((a ||| b:Nat):Int):=by
 show IntKind.u8.wrap ((BitVec.ofInt 8 (a:Int) ||| BitVec.ofInt 8 (b:Int)).toNat:Int)=_
 rw [BitVec.ofInt_natCast,BitVec.ofInt_natCast,BitVec.toNat_or,BitVec.toNat_ofNat,BitVec.toNat_ofNat,Nat.mod_eq_of_lt ha,Nat.mod_eq_of_lt hb]
 have:=Nat.or_lt_two_pow (n:=8) ha hb
 exact CE (by omega) (by omega)
theorem oF (b j:Nat):(((b:Int) / 2 ^ j) % 2=1)↔b.testBit j=true:=by
 rw [Nat.testBit_eq_decide_div_mod_eq,decide_eq_true_eq]
 have:((b:Int) / 2 ^ j) % 2=((b / 2 ^ j % 2:Nat):Int):=by
  rw [Int.natCast_emod,Int.natCast_ediv,Int.natCast_pow]
  rfl
 rw [this]
 omega
def oG (B:List Int) (i:Nat):List Int:=B.set (i / 8) (Go.bits .or .u8 ((B[i / 8]?).getD 0) (IntKind.u8.wrap (1*2 ^ (min (i % 8) 8))))
theorem BN (k:Nat) (h:k < 8):IntKind.u8.wrap (1*2 ^ (min k 8))=((2 ^ k:Nat):Int):=by
 have:k=0\/k=1\/k=2\/k=3\/k=4\/k=5\/k=6\/k=7:=by omega
 rcases this with rfl | rfl | rfl | rfl | rfl | rfl | rfl | rfl <;> decide
theorem BO (k:Nat) (h:k < 8):2 ^ k < 256:=by
 have:k=0\/k=1\/k=2\/k=3\/k=4\/k=5\/k=6\/k=7:=by omega
 rcases this with rfl | rfl | rfl | rfl | rfl | rfl | rfl | rfl <;> decide
def o5 (B:List Int) (i:Nat):Bool:=match B[i / 8]? with
 | some b=>decide ((b / 2 ^ (i % 8)) % 2=1)
 | none=>false
theorem BP {B:List Int} (h:BB B) {i:Nat} (hi:i / 8 < B.length):BB (oG B i)/\(oG B i).length=B.length /\ ∀ j,o5 (oG B i) j=(decide (j=i) || o5 B j):=by
 have hb:=h _ (List.getElem_mem hi)
 obtain ⟨b,hbn⟩:=Int.eq_ofNat_of_zero_le hb.1
 have hb2:b < 256:=by omega
 have hk:i % 8 < 8:=Nat.mod_lt _ (by decide)
 have hp:=BO (i % 8) hk
 have hv:Go.bits .or .u8 ((B[i / 8]?).getD 0) (IntKind.u8.wrap (1*2 ^ (min (i % 8) 8)))=((b ||| 2 ^ (i % 8):Nat):Int):=by
  rw [List.getElem?_eq_getElem hi,Option.getD_some,hbn,BN _ hk,or8 hb2 hp]
 have hlt:=Nat.or_lt_two_pow (n:=8) hb2 hp
 have hlen:(oG B i).length=B.length:=by unfold oG; rw [List.length_set]
 refine ⟨?_,hlen,λj=> ?_⟩
 ·unfold oG
  rw [hv]
  intro x hx
  rcases List.mem_or_eq_of_mem_set hx with hx | rfl
  ·exact h x hx
  ·omega
 ·unfold o5 oG
  rw [hv,List.getElem?_set]
  by_cases hq:i / 8=j / 8
  ·rw [if_pos hq,if_pos hi,<- hq,List.getElem?_eq_getElem hi,hbn]
   dsimp only
   have e1:decide ((((b ||| 2 ^ (i % 8):Nat):Int) / 2 ^ (j % 8)) % 2=1)=(b ||| 2 ^ (i % 8)).testBit (j % 8):=by
    rw [Bool.eq_iff_iff,decide_eq_true_eq]
    exact oF _ _
   have e2:decide (((b:Int) / 2 ^ (j % 8)) % 2=1)=b.testBit (j % 8):=by
    rw [Bool.eq_iff_iff,decide_eq_true_eq]
    exact oF _ _
   rw [e1,e2,Nat.testBit_or,Nat.testBit_two_pow]
   have e3:decide (i % 8=j % 8)=decide (j=i):=by
    rw [Bool.eq_iff_iff,decide_eq_true_eq,decide_eq_true_eq]
    omega
   rw [e3,Bool.or_comm]
  ·rw [if_neg hq,show decide (j=i)=false from decide_eq_false (λe=>hq (by rw [e])),Bool.false_or]
theorem qQ: ∀ (L:List Nat) {B:List Int},BB B->(∀ i∈L,i / 8 < B.length)->BB (L.foldl oG B)/\(L.foldl oG B).length=B.length /\ ∀ j,o5 (L.foldl oG B) j=(decide (j∈L) || o5 B j)
 | [],B,h,_=>⟨h,rfl,λj=>by simp⟩
 | i::L,B,h,hl=>by
  obtain ⟨h1,h2,h3⟩:=BP h (hl i List.mem_cons_self)
  obtain ⟨k1,k2,k3⟩:=qQ L h1 λq hq=>by rw [h2]; exact hl q (List.mem_cons_of_mem _ hq)
  refine ⟨k1,k2.trans h2,λj=> ?_⟩
  rw [List.foldl_cons,k3 j,h3 j]
  by_cases h4:j=i
  ·subst h4; simp
  ·simp [h4]
def gN (l:List (Int×ByteArray)) (n:Nat):List Nat:=(List.range n).filter λi=>(mgl (i:Int) l).isSome
theorem BQ {l:List (Int×ByteArray)} {n:Nat} {id b:Int} (hn:n<=5000):cQ ⟨id,(n:Int),some l,b⟩=some ((gN l n).map λi:Nat=>(i:Int)):=by
 unfold cQ dK
 have hlen: ∀ i,(gN l i).length<=i:=λi=>by
  unfold gN
  have:=List.length_filter_le (λq:Nat=>(mgl (q:Int) l).isSome) (List.range i)
  rw [List.length_range] at this
  exact this
 have:=m9 (s:=⟨id,(n:Int),some l,b⟩) (n:=n) rfl (by omega) (λs32 x3=>(bif (x3.2 == true) then (Option.bind (chk (fu s32.length [x3.1].length 8)) λ_=>some ((s32++[x3.1]),true)) else some (s32,true))) (λi=>(gN l i).map λi:Nat=>(i:Int)) (λi hi=>by
  dsimp only
  have hs:gN l (i+1)=gN l i++(if (mgl (i:Int) l).isSome=true then [i] else []):=by
   unfold gN
   rw [List.range_succ,List.filter_append]
   congr 1
   rw [List.filter_cons]
   rfl
  have hh:kU (some l) (i:Int)=(mgl (i:Int) l).isSome:=rfl
  have:=hlen i
  rw [hh,hs]
  cases hm:(mgl (i:Int) l).isSome with
  | true =>
   rw [show (true == true)=true from rfl,cond_true,cF (by simp; omega),aA,if_pos rfl,List.map_append]
   rfl
  | false =>
   rw [show (false == true)=false from rfl,cond_false,if_neg (by simp),List.append_nil])
 rw [show ((gN l 0).map λi:Nat=>(i:Int))=([]:List Int) from rfl] at this
 rw [this]
 rfl
def s8 (l:List (Int×ByteArray)) (n:Nat):List Int:=(gN l n).foldl oG (List.replicate ((n+7) / 8) 0)
theorem BR (l:List (Int×ByteArray)) (n:Nat):BB (s8 l n)/\(s8 l n).length=(n+7) / 8 /\ ∀ j,o5 (s8 l n) j=decide (j∈gN l n):=by
 have h0:BB (List.replicate ((n+7) / 8) (0:Int)):=λx hx=>by rw [List.eq_of_mem_replicate hx]; exact ⟨by decide,by decide⟩
 obtain ⟨h1,h2,h3⟩:=qQ (gN l n) h0 λi hi=>by
  have:=List.mem_range.1 (List.mem_filter.1 hi).1
  rw [List.length_replicate]
  omega
 refine ⟨h1,by rw [show (s8 l n).length=_ from h2,List.length_replicate],λj=> ?_⟩
 rw [show o5 (s8 l n) j=_ from h3 j]
 have:o5 (List.replicate ((n+7) / 8) (0:Int)) j=false:=by
  unfold o5
  rw [List.getElem?_replicate]
  split
  ·rename_i b hb
   split at hb
   ·injection hb with hb
    rw [<- hb]
    simp
   ·cases hb
  ·rfl
 rw [this,Bool.or_false]
theorem z7 {t:aK} {l:List (Int×ByteArray)} {n:Nat} {id b:Int} (h:t.slot=⟨id,(n:Int),some l,b⟩) (hn:n<=5000):cY t=some ⟨1,2,[t.aO.k,id],cO (s8 l n)⟩:=by
 unfold cY
 have e1:IntKind.i64.wrap ((IntKind.i64.wrap ((IntKind.i64.wrap ((n:Int)+8)) - 1)).tdiv 8)=(((n+7) / 8:Nat):Int):=by
  rw [w64 (x:=(n:Int)+8) (by omega) (by omega),w64 (x:=(n:Int)+8 - 1) (by omega) (by omega)]
  have:((n:Int)+8 - 1).tdiv 8=(((n+7) / 8:Nat):Int):=by
   rw [show (n:Int)+8 - 1=((n+7:Nat):Int) by omega]
   rfl
  rw [this,w64 (by omega) (by omega)]
 rw [h,show eZ ⟨id,(n:Int),some l,b⟩=some (n:Int) from rfl,aA,e1,show chk (oU (((n+7) / 8:Nat):Int) 1)=some () from gI (by unfold big; omega),aA,BQ hn,aA,Int.toNat_natCast]
 have hlen: ∀ i,(((gN l n).take i).foldl oG (List.replicate ((n+7) / 8) (0:Int))).length=(n+7) / 8:=λi=>by
  have h0:BB (List.replicate ((n+7) / 8) (0:Int)):=λx hx=>by rw [List.eq_of_mem_replicate hx]; exact ⟨by decide,by decide⟩
  have:=(qQ ((gN l n).take i) h0 λi hi=>by
   have:=List.mem_range.1 (List.mem_filter.1 (List.mem_of_mem_take hi)).1
   rw [List.length_replicate]
   omega).2.1
  rw [this,List.length_replicate]
 refine fw (λi:Nat=>((i:Int),((gN l n).take i).foldl oG (List.replicate ((n+7) / 8) (0:Int)))) (gN l n).length (s8 l n) rfl ?_ ?_ ?_
 ·intro i hi
  dsimp only
  have hm:=List.mem_range.1 (List.mem_filter.1 (List.getElem_mem hi)).1
  have hl:=hlen i
  have hh:(gN l n).length<=n:=by
   unfold gN
   have:=List.length_filter_le (λq:Nat=>(mgl (q:Int) l).isSome) (List.range n)
   rw [List.length_range] at this
   exact this
  have e2:(((gN l n)[i]:Nat):Int).tdiv 8=(((gN l n)[i] / 8:Nat):Int):=rfl
  have e3:(((gN l n)[i]:Nat):Int).tmod 8=(((gN l n)[i] % 8:Nat):Int):=rfl
  have hmod:(gN l n)[i] % 8 < 8:=Nat.mod_lt _ (by decide)
  rw [List.length_map,decide_eq_true (by omega),cond_true,bN _ i (by rw [List.length_map]; exact hi),aA,List.getElem_map,e2,e3,w64 (x:=(((gN l n)[i] / 8:Nat):Int)) (by omega) (by omega),bN _ ((gN l n)[i] / 8) (by rw [hl]; omega),aA,show chk (shk (((gN l n)[i] % 8:Nat):Int))=some () from gI (by omega),aA,aA,w64 (by omega) (by have:=hh; omega),List.take_succ_eq_append_getElem hi,List.foldl_append]
  simp only [List.foldl_cons,List.foldl_nil]
  rw [oG,List.getElem?_eq_getElem (by rw [hl]; omega),Option.getD_some,Int.toNat_natCast,Int.toNat_natCast]
  rfl
 ·dsimp only
  rw [List.length_map,decide_eq_false (by omega),cond_false,List.take_length]
  rfl
 ·rfl
theorem s9 {α:Type} (k j:Int) (x:α): ∀ l:List (Int×α),mgl k (msl j x l)=if k=j then some x else mgl k l
 | []=>by simp [msl,mgl]
 | (i,y)::l=>by
  unfold msl
  by_cases h:j=i
  ·subst h
   rw [if_pos rfl]
   simp only [mgl]
   split <;> rfl
  ·rw [if_neg h]
   simp only [mgl]
   rw [s9 k j x l]
   by_cases h1:k=i
   ·rw [if_pos h1,if_neg (λe=>h (by rw [<- e]; exact h1)),if_pos h1]
   ·rw [if_neg h1,if_neg h1]
structure SR (s:aW) (x:bZ) (l:List (Int×ByteArray)):Prop where
 key:x.key=s.key
 cnt:s.count=(x.parts.length:Int)
 has:x.has=(List.range x.parts.length).map λi:Nat=>(mgl (i:Int) l).isSome
 sl:SL x.parts l
 zz: ∀ i:Nat,mgl (i:Int) l=none->i < x.parts.length->x.parts[i]?=some noS
 st:(s.parts=some l/\1<=s.key)\/(s.parts=none/\l=[]/\s.key=0/\x.parts=[])
 le:x.parts.length<=60
theorem vJ:SR ⟨0,0,none,0⟩ ⟨0,[],[]⟩ []:=⟨rfl,rfl,rfl,vy _,λ_ _ h=>absurd h (Nat.not_lt_zero _),.inr ⟨rfl,rfl,rfl,rfl⟩,by decide⟩
theorem SR.mh {s:aW} {x:bZ} {l:List (Int×ByteArray)} (h:SR s x l) (i:Int):kU s.parts i=(mgl i l).isSome:=by
 rcases h.st with ⟨e,_⟩ | ⟨e,e2,_⟩
 ·rw [e]; rfl
 ·rw [e,e2]; rfl
theorem SR.hl {s:aW} {x:bZ} {l:List (Int×ByteArray)} (h:SR s x l):x.has.length=x.parts.length:=by rw [h.has]; simp
theorem BS (count index key:Int):((bif (decide (count < 1)) then some true else (bif (decide (count > 4096)) then some true else (bif (decide (index < 0)) then some true else (bif (decide (index>=count)) then some true else some (decide (key < 1)))))):Option Bool)=some (decide (count < 1\/count > 4096\/index < 0\/index>=count\/key < 1)):=by
 by_cases a:count < 1 <;> by_cases b:count > 4096 <;> by_cases c:index < 0 <;> by_cases d:index>=count <;> simp [a,b,c,d]
theorem uz: ∀ (P:List ByteArray) (i:Nat) (d:ByteArray),(dF (P.set i d)).length<=(dF P).length+d.size
 | [],i,d=>by simp [dF]
 | p::P,0,d=>by simp [dF,aR]; omega
 | p::P,i+1,d=>by
  have:=uz P i d
  simp only [dF,List.set_cons_succ,List.flatMap_cons,List.length_append] at this ⊢
  omega
theorem z8 (n:Nat):dF (List.replicate n noS)=[]:=by
 unfold dF
 rw [List.flatMap_eq_nil_iff]
 intro x hx
 rw [List.eq_of_mem_replicate hx]
 rfl
theorem w7 {α:Type} (a b:List α) (h:a.length=b.length):cpy a b=b:=by
 unfold cpy
 simp [h]
theorem z9 {s:aW} {x:bZ} {l:List (Int×ByteArray)} (h:SR s x l) (hk:1<=s.key) {i:Nat} (hi:i < x.parts.length) (d:ByteArray) :
  ∃ s' x' l',(Option.bind ((bif (!(kU s.parts (i:Int))) then (Option.bind (chk s.parts.isSome) λ_=>some (aW.mk s.key s.count (yv s.parts (i:Int) d) (IntKind.i64.wrap (s.bytes+(d.size:Int))))) else some s):Option aW) λa=>some ((0:Int),a))=some (0,s') /\
   (Option.bind (idx x.has (i:Int)) λb=>(Option.bind ((bif (!b) then (Option.bind (idx x.has (i:Int)) λg=>(Option.bind (idx x.parts (i:Int)) λk=>some (bZ.mk x.key (x.has.set ((i:Int)).toNat true) (x.parts.set ((i:Int)).toNat d)))) else some x):Option bZ) λf=>some (f,(0:Int))))=some (x',0)/\SR s' x' l'/\(dF x'.parts).length<=(dF x.parts).length+d.size:=by
 have e1:s.parts=some l:=by
  rcases h.st with ⟨e,_⟩ | ⟨_,_,e,_⟩
  ·exact e
  ·omega
 have e2:idx x.has (i:Int)=some (mgl (i:Int) l).isSome:=by
  rw [bN _ i (by rw [h.hl]; exact hi)]
  congr 1
  simp [h.has]
 rw [h.mh,e2,aA]
 cases hm:(mgl (i:Int) l).isSome with
 | true=>exact ⟨s,x,l,rfl,rfl,h,by omega⟩
 | false =>
  have hn:mgl (i:Int) l=none:=by
   cases hg:mgl (i:Int) l with
   | none=>rfl
   | some x=>rw [hg] at hm; cases hm
  rw [Bool.not_false,cond_true,cond_true,e1,show chk (some l).isSome=some () from rfl,aA,aA,aA,bN _ i hi,aA,aA,Int.toNat_natCast]
  have hs:SL (x.parts.set i d) l:=⟨h.sl.nd,λp hp=>by
   obtain ⟨j,ej,hj⟩:=h.sl.at_ p hp
   have hne:i≠j:=λe=>oE hn p hp (by rw [ej,e])
   exact ⟨j,ej,by rw [List.getElem?_set_ne hne]; exact hj⟩⟩
  obtain ⟨h1,h2⟩:=hs.add (i:=i) (d:=d) (by simp [hi]) hn
  refine ⟨_,_,msl (i:Int) d l,rfl,rfl,⟨h.key,by simpa using h.cnt,?_,h1,λj hj hj2=> ?_,.inl ⟨rfl,hk⟩,by simpa using h.le⟩,uz _ _ _⟩
  ·dsimp only
   rw [List.length_set,h.has]
   refine List.ext_getElem (by simp) λj hj1 hj2=> ?_
   simp only [List.length_set,List.length_map,List.length_range] at hj1
   rw [List.getElem_set]
   simp only [List.getElem_map,List.getElem_range,s9]
   by_cases c:i=j
   ·subst c; simp
   ·rw [if_neg c,if_neg (by omega)]
  ·dsimp only at hj2 ⊢
   rw [s9] at hj
   rw [List.length_set] at hj2
   have c:i≠j:=λe=>by subst e; simp at hj
   rw [if_neg (by omega)] at hj
   rw [List.getElem?_set_ne c]
   exact h.zz j hj hj2
theorem DQ {s:aW} {x:bZ} {l:List (Int×ByteArray)} (h:SR s x l) (key index count:Int) (d:ByteArray) (hc:count<=60\/4096 < count) :
  ∃ e s' x' l',eY s key index count d=some (e,s')/\jX x key index count d=some (x',e)/\SR s' x' l'/\(dF x'.parts).length<=(dF x.parts).length+d.size/\(e≠0->s'=s/\x'=x):=by
 unfold eY jX
 rw [BS,aA,aA]
 by_cases c:count < 1\/count > 4096\/index < 0\/index>=count\/key < 1
 ·rw [decide_eq_true c,cond_true,cond_true]
  exact ⟨6,s,x,l,rfl,rfl,h,by omega,λ_=>⟨rfl,rfl⟩⟩
 ·rw [decide_eq_false c,cond_false,cond_false,h.key]
  by_cases c1:key < s.key
  ·rw [decide_eq_true c1,cond_true,cond_true]
   exact ⟨8,s,x,l,rfl,rfl,h,by omega,λ_=>⟨rfl,rfl⟩⟩
  ·rw [decide_eq_false c1,cond_false,cond_false,show chk (oU count 1)=some () from gI (by unfold big; omega),aA,show chk (oU count 16)=some () from gI (by unfold big; omega),aA]
   obtain ⟨n,rfl⟩: ∃ n:Nat,count=(n:Int):=⟨count.toNat,by omega⟩
   obtain ⟨i,rfl⟩: ∃ i:Nat,index=(i:Int):=⟨index.toNat,by omega⟩
   by_cases c2:key > s.key
   ·rw [decide_eq_true c2,cond_true,C9 (by omega),cond_false,aA,aA,Int.toNat_natCast]
    have h0:SR ⟨key,(n:Int),some [],0⟩ ⟨key,List.replicate n false,List.replicate n noS⟩ []:=by
     refine ⟨rfl,by simp,?_,vy _,λi _ hi=> ?_,.inl ⟨rfl,show 1<=key by omega⟩,by simp; omega⟩
     ·dsimp only
      rw [List.length_replicate]
      refine List.ext_getElem (by simp) λj hj1 hj2=>by simp [mgl]
     ·dsimp only at hi ⊢
      rw [List.length_replicate] at hi
      simp [hi]
    obtain ⟨s',x',l',e1,e2,e3,e4⟩:=z9 h0 (show 1<=key by omega) (i:=i) (by simp; omega) d
    dsimp only
    refine ⟨0,s',x',l',e1,e2,e3,?_,λh=>absurd rfl h⟩
    dsimp only at e4
    rw [z8] at e4
    simp at e4
    omega
   ·have hk:key=s.key:=by omega
    subst hk
    have hk1:1<=s.key:=by omega
    rw [decide_eq_false c2,cond_false,show (s.key == s.key)=true by simp,cond_true,h.cnt,h.hl]
    by_cases c3:n=x.parts.length
    ·subst c3
     rw [zj,cond_false,cond_false,aA,aA,Int.toNat_natCast,w7 _ x.has (by rw [List.length_replicate,h.hl]),w7 _ x.parts (by rw [List.length_replicate])]
     obtain ⟨s',x',l',e1,e2,e3,e4⟩:=z9 h hk1 (i:=i) (by omega) d
     have ex:bZ.mk s.key x.has x.parts=x:=by rw [<- h.key]
     rw [ex]
     exact ⟨0,s',x',l',e1,e2,e3,e4,λh=>absurd rfl h⟩
    ·rw [show ((n:Int) != (x.parts.length:Int))=true by simp; omega,cond_true,cond_true]
     exact ⟨1,s,x,l,rfl,rfl,h,by omega,λ_=>⟨rfl,rfl⟩⟩
def whL (l:List (Int×ByteArray)) (n:Nat) (b:Bool):List Nat:=(List.range n).filter λi=>(mgl (i:Int) l).isSome == b
theorem td (l:List (Int×ByteArray)) (n:Nat) (b:Bool):(whL l n b).length<=n:=by
 unfold whL
 have:=List.length_filter_le (λi:Nat=>(mgl (i:Int) l).isSome == b) (List.range n)
 rw [List.length_range] at this
 exact this
theorem uA (l:List (Int×ByteArray)) (n:Nat) (b:Bool):whL l (n+1) b=whL l n b++(if ((mgl (n:Int) l).isSome == b)=true then [n] else []):=by
 unfold whL
 rw [List.range_succ,List.filter_append]
 congr 1
 rw [List.filter_cons]
 rfl
theorem Aa {s:aW} {l:List (Int×ByteArray)} {n:Nat} (hc:s.count=(n:Int)) (hm: ∀ i,kU s.parts i=(mgl i l).isSome) (hn:n<=5000) (b:Bool):dK s b=some ((whL l n b).map λi:Nat=>(i:Int)):=by
 unfold dK
 have:=m9 (s:=s) (n:=n) hc (by omega) (λs32 x3=>(bif (x3.2 == b) then (Option.bind (chk (fu s32.length [x3.1].length 8)) λ_=>some ((s32++[x3.1]),true)) else some (s32,true))) (λi=>(whL l i b).map λi:Nat=>(i:Int)) (λi hi=>by
  dsimp only
  have:=td l i b
  rw [hm,uA]
  cases hg:((mgl (i:Int) l).isSome == b) with
  | true =>
   rw [cond_true,cF (by simp; omega),aA,if_pos rfl,List.map_append]
   rfl
  | false=>rw [cond_false,if_neg (by simp),List.append_nil])
 rw [show ((whL l 0 b).map λi:Nat=>(i:Int))=([]:List Int) from rfl] at this
 rw [this]
 rfl
theorem Ab {x:bZ} {l:List (Int×ByteArray)} {n:Nat} (hh:x.has=(List.range n).map λi:Nat=>(mgl (i:Int) l).isSome) (hn:n<=5000) (b:Bool):ic x b=some ((whL l n b).map λi:Nat=>(i:Int)):=by
 unfold ic
 have hl:x.has.length=n:=by rw [hh]; simp
 refine fw (λi:Nat=>((i:Int),(whL l i b).map λi:Nat=>(i:Int))) n _ rfl ?_ ?_ rfl
 ·intro i hi
  dsimp only
  have:=td l i b
  rw [hl,decide_eq_true (by omega),cond_true,bN _ i (by omega),aA,show x.has[i]'(by omega)=(mgl (i:Int) l).isSome by simp [hh],uA]
  cases hg:((mgl (i:Int) l).isSome == b) with
  | true=>rw [cond_true,cF (by simp; omega),aA,aA,if_pos rfl,List.map_append,w64 (by omega) (by omega)]; rfl
  | false=>rw [cond_false,aA,if_neg (by simp),List.append_nil,w64 (by omega) (by omega)]; rfl
 ·dsimp only
  rw [hl,decide_eq_false (by omega),cond_false]
theorem DR {s:aW} {x:bZ} {l:List (Int×ByteArray)} (h:SR s x l) (hb:(dF x.parts).length<=100000) :
  ∃ w u b,eD s=some (w,b)/\jY x=some (u,b)/\(b=true->w=u/\w=cO (dF x.parts)):=by
 have hA: ∀ R:ByteArray->Option (ByteArray×Bool),Option.bind (iter (σ:=Int×ByteArray) (ρ:=ByteArray) (λd=>(bif (decide (d.1 < (x.parts.length:Int))) then (Option.bind (idx x.parts d.1) λf=>(Option.bind (chk (kz d.2.size f.size)) λ_=>some (.inl ((IntKind.i64.wrap (d.1+1)),(d.2++f))))) else some (.inr d.2))) (0,(ByteArray.mk #[]))) R=R (cO (dF x.parts)):=λR=>by
  refine fw (λi:Nat=>((i:Int),cO (dF (x.parts.take i)))) x.parts.length (cO (dF x.parts)) rfl ?_ ?_ rfl
  ·intro i hi
   dsimp only
   have hpre:(dF (x.parts.take (i+1))).length<=(dF x.parts).length:=by
    have e:dF x.parts=dF (x.parts.take (i+1))++dF (x.parts.drop (i+1)):=by
     unfold dF
     rw [<- List.flatMap_append,List.take_append_drop]
    rw [e,List.length_append]
    omega
   have e2:=l9 x.parts i hi
   have e3:(dF (x.parts.take (i+1))).length=(dF (x.parts.take i)).length+x.parts[i].size:=by rw [e2,List.length_append,aR]
   have:=h.le
   rw [decide_eq_true (by omega),cond_true,bN _ i hi,aA,fg (by rw [bO]; omega),aA,w64 (by omega) (by omega),e2,dN,lG]
   rfl
  ·dsimp only
   rw [decide_eq_false (by omega),cond_false,List.take_length]
 unfold jY
 rw [hA]
 have hle:=h.le
 rcases h.st with ⟨e1,e2⟩ | ⟨e1,e2,e3,e4⟩
 ·have hs:s=⟨s.key,(x.parts.length:Int),some l,s.bytes⟩:=by rw [<- e1,<- h.cnt]
  have hw:=qO (b:=s.bytes) e2 h.sl (by omega) (by omega)
  rw [<- hs] at hw
  rw [hw,decide_eq_true (show x.key > 0 by rw [h.key]; omega),cond_true,Ab h.has (by omega),aA,aA]
  by_cases c:l.length < x.parts.length
  ·refine ⟨noS,cO (dF x.parts),false,by rw [if_pos c],?_,λh=>by cases h⟩
   have:whL l x.parts.length false≠[]:=λe=>by
    have:=SL.full (P:=x.parts) (l:=l) λi hi=>by
     have:=(List.filter_eq_nil_iff.1 e) i (List.mem_range.2 hi)
     simpa [Option.isSome_iff_ne_none] using this
    omega
   cases hq:whL l x.parts.length false with
   | nil=>exact absurd hq this
   | cons a b=>rfl
  ·refine ⟨cO (dF x.parts),cO (dF x.parts),true,by rw [if_neg c],?_,λ_=>⟨rfl,rfl⟩⟩
   have:whL l x.parts.length false=[]:=by
    unfold whL
    rw [List.filter_eq_nil_iff]
    intro i hi
    have hall:=(h.sl.le).2 (by have:=h.sl.le.1; omega) i (List.mem_range.1 hi)
    rw [hall]
    simp
   rw [this]
   rfl
 ·refine ⟨noS,cO (dF x.parts),false,?_,?_,λh=>by cases h⟩
  ·unfold eD
   rw [e3]
   rfl
  ·rw [h.key,e3]
   rfl
def ln (hs:List Bool) (i:Nat):Nat->Nat
 | 0=>0
 | k+1=>ln hs i k+if hs[i+k]?.getD false=true then 2 ^ k else 0
theorem na (hs:List Bool) (i:Nat): ∀ k,ln hs i k < 2 ^ k
 | 0=>by simp [ln]
 | k+1=>by
  have:=na hs i k
  unfold ln
  split <;> omega
theorem sn (hs:List Bool) (i:Nat): ∀ k j,(ln hs i k).testBit j=(decide (j < k) && hs[i+j]?.getD false)
 | 0,j=>by simp [ln]
 | k+1,j=>by
  have hl:=na hs i k
  have ih:=sn hs i k j
  unfold ln
  split
  ·rename_i hk
   have e:ln hs i k+2 ^ k=2 ^ k*1 ||| ln hs i k:=by
    rw [<- Nat.two_pow_add_eq_or_of_lt hl 1]
    omega
   rw [e,Nat.testBit_or,Nat.mul_one,Nat.testBit_two_pow,ih]
   by_cases c:k=j
   ·subst c; simp [hk]
   ·by_cases c2:j < k
    ·simp [c,c2,show j < k+1 by omega]
    ·simp [c,c2,show ¬ j < k+1 by omega]
  ·rename_i hk
   rw [Nat.add_zero,ih]
   by_cases c:k=j
   ·subst c; simp [hk]
   ·by_cases c2:j < k
    ·simp [c,c2,show j < k+1 by omega]
    ·simp [c,c2,show ¬ j < k+1 by omega]
theorem uB (hs:List Bool) (i:Nat): ∀ k d,hs.length<=i+k->ln hs i (k+d)=ln hs i k
 | k,0,_=>rfl
 | k,d+1,h=>by
  rw [<- Nat.add_assoc,ln,uB hs i k d h,List.getElem?_eq_none (by omega)]
  simp
theorem EU: ∀ k:Nat,k < 8->idx ([1,2,4,8,16,32,64,128]:List Int) (k:Int)=some ((2 ^ k:Nat):Int)
 | 0,_ | 1,_ | 2,_ | 3,_ | 4,_ | 5,_ | 6,_ | 7,_=>by rfl
 | k+8,h=>by omega
def uC (hs:List Bool):List Int:=(List.range ((hs.length+7) / 8)).map λj:Nat=>((ln hs (8*j) 8:Nat):Int)
theorem BT (x:bU) (hn:x.slot.has.length<=5000):jZ x=some ⟨1,2,[x.aO.k,x.slot.key],cO (uC x.slot.has)⟩:=by
 unfold jZ
 generalize hhs:x.slot.has=hs at hn ⊢
 have hB: ∀ j,BB ((List.range j).map λj:Nat=>((ln hs (8*j) 8:Nat):Int)):=λj b hb=>by
  obtain ⟨i,_,rfl⟩:=List.mem_map.1 hb
  have:=na hs (8*i) 8
  omega
 refine fw (λj:Nat=>(cO ((List.range j).map λj:Nat=>((ln hs (8*j) 8:Nat):Int)),((8*j:Nat):Int))) ((hs.length+7) / 8) (cO (uC hs)) rfl ?_ ?_ rfl
 ·intro j hj
  dsimp only
  rw [decide_eq_true (by omega),cond_true]
  have hin:iter (σ:=Int×Int) (ρ:=Int) (λa=>(Option.bind ((bif (decide (a.2 < 8)) then some (decide ((IntKind.i64.wrap (((8*j:Nat):Int)+a.2)) < (hs.length:Int))) else some false):Option Bool) λd=>(bif d then (Option.bind ((Option.bind (idx hs (IntKind.i64.wrap (((8*j:Nat):Int)+a.2))) λe=>(bif e then (Option.bind (idx [1,2,4,8,16,32,64,128] a.2) λf=>some (IntKind.i64.wrap (a.1+f))) else some a.1)):Option Int) λg=>some (.inl (g,(IntKind.i64.wrap (a.2+1))))) else some (.inr a.1)))) (0,0)=some ((ln hs (8*j) 8:Nat):Int):=by
   have hm:min 8 (hs.length - 8*j)<=8:=Nat.min_le_left _ _
   refine mY (λk:Nat=>(((ln hs (8*j) k:Nat):Int),(k:Int))) (min 8 (hs.length - 8*j)) _ ?_ ?_
   ·intro k hk
    have hlt:8*j+k < hs.length:=by omega
    have hb:=na hs (8*j) k
    have hp:2 ^ k<=128:=Nat.pow_le_pow_right (n:=2) (by decide) (show k<=7 by omega)
    dsimp only
    rw [decide_eq_true (by omega),cond_true,w64 (by omega) (by omega),aA,decide_eq_true (by omega),cond_true,show (((8*j:Nat):Int)+(k:Int))=((8*j+k:Nat):Int) by omega,bN _ _ hlt,aA,EU k (by omega),aA]
    have hg:hs[8*j+k]?.getD false=hs[8*j+k]:=by rw [List.getElem?_eq_getElem hlt]; rfl
    rw [ln,hg]
    cases hs[8*j+k] with
    | true=>rw [cond_true,aA,if_pos rfl,w64 (by omega) (by omega),w64 (by omega) (by omega)]; simp
    | false=>rw [cond_false,aA,if_neg (by simp),w64 (by omega) (by omega)]; simp
   ·dsimp only
    by_cases c:8<=hs.length - 8*j
    ·rw [Nat.min_eq_left c,decide_eq_false (by omega),cond_false,aA,cond_false]
    ·rw [Nat.min_eq_right (by omega),decide_eq_true (by omega),cond_true,w64 (by omega) (by omega),aA,decide_eq_false (by omega),cond_false]
     have:=uB hs (8*j) (hs.length - 8*j) (8 - (hs.length - 8*j)) (by omega)
     rw [show hs.length - 8*j+(8 - (hs.length - 8*j))=8 by omega] at this
     rw [this]
  rw [hin,aA]
  have hb:=na hs (8*j) 8
  have hu:IntKind.u8.wrap ((ln hs (8*j) 8:Nat):Int)=((ln hs (8*j) 8:Nat):Int):=by
   show ((ln hs (8*j) 8:Nat):Int) % 256=_
   omega
  rw [hu,fg (by rw [bO,bO]; simp; omega),aA,w64 (by omega) (by omega),<- dN,List.range_succ,List.map_append]
  simp only [List.map_cons,List.map_nil]
  congr 3
 ·dsimp only
  rw [decide_eq_false (by omega),cond_false]
  rfl
theorem xX {A B:List Int} (ha:BB A) (hb:BB B) (hl:A.length=B.length) (h: ∀ i,o5 A i=o5 B i):A=B:=by
 refine List.ext_getElem hl λj h1 h2=> ?_
 have b1:=ha _ (List.getElem_mem h1)
 have b2:=hb _ (List.getElem_mem h2)
 obtain ⟨x,hx⟩: ∃ x:Nat,A[j]=(x:Int):=⟨A[j].toNat,by omega⟩
 obtain ⟨y,hy⟩: ∃ y:Nat,B[j]=(y:Int):=⟨B[j].toNat,by omega⟩
 rw [hx,hy]
 rw [hx] at b1
 rw [hy] at b2
 congr 1
 refine Nat.eq_of_testBit_eq λt=> ?_
 by_cases c:t < 8
 ·have:=h (8*j+t)
  unfold o5 at this
  rw [show (8*j+t) / 8=j by omega,show (8*j+t) % 8=t by omega,List.getElem?_eq_getElem h1,List.getElem?_eq_getElem h2,hx,hy] at this
  dsimp only at this
  rw [Bool.eq_iff_iff,decide_eq_true_eq,decide_eq_true_eq,oF,oF] at this
  rw [Bool.eq_iff_iff]
  exact this
 ·have hp:256<=2 ^ t:=Nat.pow_le_pow_right (n:=2) (by decide) (show 8<=t by omega)
  rw [Nat.testBit_lt_two_pow (by omega),Nat.testBit_lt_two_pow (by omega)]
theorem Ad {l:List (Int×ByteArray)} {n:Nat} {hs:List Bool} (hh:hs=(List.range n).map λi:Nat=>(mgl (i:Int) l).isSome):uC hs=s8 l n:=by
 have hl:hs.length=n:=by rw [hh]; simp
 obtain ⟨a1,a2,a3⟩:=BR l n
 refine xX (λb hb=> ?_) a1 (by rw [a2,uC]; simp [hl]) λi=> ?_
 ·obtain ⟨j,_,rfl⟩:=List.mem_map.1 hb
  have:=na hs (8*j) 8
  omega
 ·rw [a3 i]
  have hI:(i∈gN l n)↔(i < n/\(mgl (i:Int) l).isSome=true):=by
   unfold gN
   rw [List.mem_filter,List.mem_range]
  unfold o5 uC
  rw [hl,List.getElem?_map]
  by_cases c:i / 8 < (n+7) / 8
  ·rw [List.getElem?_range c]
   dsimp only [Option.map_some]
   rw [Bool.eq_iff_iff,decide_eq_true_eq,decide_eq_true_eq,oF,sn,hI,show 8*(i / 8)+i % 8=i by omega]
   have:i % 8 < 8:=Nat.mod_lt _ (by decide)
   rw [decide_eq_true this,Bool.true_and]
   by_cases c2:i < n
   ·rw [List.getElem?_eq_getElem (by omega)]
    simp [hh,c2]
   ·rw [List.getElem?_eq_none (by omega)]
    simp [c2]
  ·have: ¬ i < n:=by omega
   rw [List.getElem?_eq_none (by simp; omega)]
   simp [hI,this]
theorem DS {t:aK} {x:bU} {l:List (Int×ByteArray)} (h:SR t.slot x.slot l):cY t=some ⟨1,2,[t.aO.k,t.slot.key],cO (s8 l x.slot.parts.length)⟩:=by
 have hn:=h.le
 have e:=z7 (t:=⟨⟨t.slot.key,(x.slot.parts.length:Int),some l,t.slot.bytes⟩,t.aO⟩) (l:=l) (n:=x.slot.parts.length) rfl (by omega)
 rw [<- e]
 have h1:cQ t.slot=some ((whL l x.slot.parts.length true).map λi:Nat=>(i:Int)):=by
  unfold cQ
  rw [Aa h.cnt h.mh (by omega)]
  rfl
 have h2:cQ ⟨t.slot.key,(x.slot.parts.length:Int),some l,t.slot.bytes⟩=some ((whL l x.slot.parts.length true).map λi:Nat=>(i:Int)):=by
  unfold cQ
  rw [Aa (l:=l) (n:=x.slot.parts.length) rfl (λi=>rfl) (by omega)]
  rfl
 have h3:eZ t.slot=some (x.slot.parts.length:Int):=congrArg some h.cnt
 unfold cY
 rw [h1,h2,h3]
 rfl
structure TP (t:aK) (x:bU) (q:Nat):Prop where
 sr: ∃ l,SR t.slot x.slot l
 hv:x.aO=eW t.aO
 sw:SW t.aO
 bd:(t.aO.rows.flatMap cV).length+(dF x.slot.parts).length<=q
theorem Ae:TP ⟨⟨0,0,none,0⟩,fq⟩ ⟨eW fq,⟨0,[],[]⟩⟩ 0:=⟨⟨[],vJ⟩,rfl,mG,Nat.le_refl _⟩
theorem TP.more {t:aK} {x:bU} {q q':Nat} (h:TP t x q) (hq:q<=q'):TP t x q':=⟨h.sr,h.hv,h.sw,Nat.le_trans h.bd hq⟩
theorem BU {t:aK} {x:bU} {q:Nat} {g:bY} {y:cL} (h:TP t x q) (hq:q<=4800) (e1:y.kind=g.kind) (e2:y.bW=g.bW) (e3:y.data=g.data) (hd:g.data.size<=200) (hc: ∀ c,g.bW[4]?=some c->c<=60\/4096 < c) :
  ∃ e t' x',dA t g=some (e,t')/\jw x y=some (x',e)/\TP t' x' (q+200):=by
 obtain ⟨l,hs⟩:=h.sr
 unfold dA eT jw
 rw [e1,e2,e3]
 by_cases k1: ¬ g.kind=1
 ·rw [show (g.kind != 1)=true by simpa using k1,cond_true,cond_true,aA]
  exact ⟨5,t,x,rfl,rfl,h.more (by omega)⟩
 replace k1:=Classical.not_not.1 k1
 rw [show (g.kind != 1)=false by simp [k1],cond_false,cond_false]
 by_cases k2: ¬ g.bW.length=5
 ·rw [show ((g.bW.length:Int) != 5)=true by simp; omega,cond_true,cond_true,aA]
  exact ⟨1,t,x,rfl,rfl,h.more (by omega)⟩
 replace k2:=Classical.not_not.1 k2
 rw [show ((g.bW.length:Int) != 5)=false by simp; omega,cond_false,cond_false]
 obtain ⟨a,b,c,d,n,hg⟩: ∃ a b c d n,g.bW=[a,b,c,d,n]:=by
  match hh:g.bW,k2 with
  | [a,b,c,d,n],_=>exact ⟨a,b,c,d,n,rfl⟩
 have hn:=hc n (by rw [hg]; rfl)
 rw [hg]
 simp only [show idx [a,b,c,d,n] 0=some a from rfl,show idx [a,b,c,d,n] 1=some b from rfl,show idx [a,b,c,d,n] 2=some c from rfl,show idx [a,b,c,d,n] 3=some d from rfl,show idx [a,b,c,d,n] 4=some n from rfl,aA]
 rw [h.hv,show (eW t.aO).k=t.aO.k from rfl]
 by_cases k3:b<=t.aO.k
 ·rw [decide_eq_true k3,cond_true,cond_true,aA]
  exact ⟨8,t,x,rfl,rfl,h.more (by omega)⟩
 rw [decide_eq_false k3,cond_false,cond_false]
 have hcc:((bif c != 0 then some (c != t.aO.k) else some false):Option Bool)=some (decide (c≠0/\c≠t.aO.k)):=by
  by_cases c1:c=0
  ·subst c1; simp
  ·rw [show (c != 0)=true by simpa using c1,cond_true]
   by_cases c2:c=t.aO.k <;> simp [c1,c2]
 rw [hcc,aA,aA]
 by_cases k4:c≠0/\c≠t.aO.k
 ·rw [decide_eq_true k4,cond_true,cond_true,aA]
  exact ⟨7,t,x,rfl,rfl,h.more (by omega)⟩
 rw [decide_eq_false k4,cond_false,cond_false]
 obtain ⟨e,s',x',l',p1,p2,p3,p4,p5⟩:=DQ hs a d n g.data hn
 rw [p1,p2]
 simp only [aA]
 have hbd:(t.aO.rows.flatMap cV).length+(dF x'.parts).length<=q+200:=by have:=h.bd; omega
 by_cases k5: ¬ e=0
 ·rw [show (e != 0)=true by simpa using k5,cond_true,cond_true]
  refine ⟨e,⟨s',t.aO⟩,x,rfl,rfl,?_⟩
  -- an error changes nothing
  rw [(p5 k5).1]
  exact h.more (by omega)
 replace k5:=Classical.not_not.1 k5
 subst k5
 rw [show ((0:Int) != 0)=false from rfl,cond_false,cond_false]
 obtain ⟨w,u,bb,w1,w2,w3⟩:=DR p3 (by omega)
 rw [w1,w2,aA,aA]
 dsimp only
 cases bb with
 | false =>
  rw [Bool.not_false,cond_true,cond_true,<- h.hv]
  exact ⟨0,⟨s',t.aO⟩,⟨x.aO,x'⟩,rfl,rfl,⟨⟨l',p3⟩,h.hv,h.sw,hbd⟩⟩
 | true =>
  obtain ⟨w4,w5⟩:=w3 rfl
  subst w4
  rw [Bool.not_true,cond_false,cond_false,show fA s'=some ⟨0,0,none,0⟩ from rfl,aA]
  obtain ⟨f,hf,sf,pf,f1⟩: ∃ f:aC,((bif c != 0 then some t.aO else some (aC.mk 0 0 0 0 0 (ByteArray.mk #[]) ([]:List aE) 0 0 ([]:List aG))):Option aC)=some f/\SW f/\(f.rows.flatMap cV).length<=(t.aO.rows.flatMap cV).length/\((bif c != 0 then some (eW t.aO) else some (aV.mk 0 0 0 0 0 (ByteArray.mk #[]) ([]:List aU) 0 0 ([]:List aN))):Option aV)=some (eW f):=by
   cases c != 0 with
   | true=>exact ⟨t.aO,rfl,h.sw,Nat.le_refl _,rfl⟩
   | false=>exact ⟨fq,rfl,mG,Nat.zero_le _,rfl⟩
  have hsz:w.size=(dF x'.parts).length:=by rw [w5,bO]
  have hz:=BD (s:=w) (by omega)
  have hap:=ur f w sf (by omega) (by omega) hz
  have har:=xL f w sf (by omega) (by omega) hz
  obtain ⟨q1,q2⟩:=vr f w sf (by omega) (by omega) hz
  rw [hf,aA,hap,aA,f1,aA,har,aA]
  generalize jM f w=z at q1 q2 ⊢
  obtain ⟨z,er⟩:=z
  dsimp only at q1 q2 ⊢
  have he:Option.bind ((bif (er == 0) then some (z.k != b) else some false):Option Bool) (λi=>((bif i then some 1 else some er):Option Int))=some (if er=0/\z.k≠b then 1 else er):=by
   by_cases c1:er=0
   ·subst c1
    rw [show ((0:Int) == 0)=true from rfl,cond_true,aA]
    by_cases c2:z.k=b
    ·simp [c2]
    ·rw [show (z.k != b)=true by simpa using c2,cond_true,if_pos ⟨rfl,c2⟩]
   ·rw [show (er == 0)=false by simpa using c1,cond_false,aA,cond_false,if_neg (λh=>c1 h.1)]
  generalize hE:(if er=0/\z.k≠b then 1 else er)=E at he
  cases hq:((bif (er == 0) then some (z.k != b) else some false):Option Bool) with
  | none=>rw [hq] at he; cases he
  | some v =>
   rw [hq,aA] at he
   rw [aA,aA,he,aA,aA]
   by_cases c1:E=0
   ·subst c1
    rw [show ((0:Int) == 0)=true from rfl,cond_true,aA,show ((0:Int) != 0)=false from rfl,cond_false]
    exact ⟨0,⟨⟨0,0,none,0⟩,z⟩,⟨eW z,⟨0,[],[]⟩⟩,rfl,rfl,⟨⟨[],vJ⟩,rfl,q1,by show (z.rows.flatMap cV).length+0<=_; omega⟩⟩
   ·rw [show (E == 0)=false by simpa using c1,cond_false,aA,show (E != 0)=true by simpa using c1,cond_true,<- h.hv]
    exact ⟨E,⟨⟨0,0,none,0⟩,t.aO⟩,⟨x.aO,⟨0,[],[]⟩⟩,rfl,rfl,⟨⟨[],vJ⟩,h.hv,h.sw,by show (t.aO.rows.flatMap cV).length+0<=_; omega⟩⟩
theorem Af {t:aK} {x:bU} {q:Nat} (h:TP t x q):iW t x=some true:=by
 obtain ⟨l,hs⟩:=h.sr
 have hn:=hs.le
 have hw:=td l x.slot.parts.length false
 unfold iW
 rw [show fX t=some t.aO.k from rfl,aA,h.hv,show (eW t.aO).k=t.aO.k from rfl,beq_self_eq_true,cond_true,show dM t=some t.aO by unfold dM; rw [lJ _ h.sw]; rfl,aA,AV _ _ h.sw h.sw,decide_eq_true rfl,aA,cond_true]
 rw [show fP t.slot=some ((whL l x.slot.parts.length false).map λi:Nat=>(i:Int)) by unfold fP; rw [Aa hs.cnt hs.mh (by omega)]; rfl,aA,Ab hs.has (by omega),aA,rZ _ _ (by simp; omega) (by simp; omega),decide_eq_true rfl,aA,cond_true,DS hs,aA,BT x (by rw [hs.hl]; omega),aA]
 rw [Ad hs.has,h.hv,hs.key]
 unfold lY
 dsimp only
 rw [beq_self_eq_true,cond_true,beq_self_eq_true,cond_true,rZ _ _ (by simp) (by simp),decide_eq_true (by rfl),aA,cond_true,beq_self_eq_true]
 rfl
theorem Ag {x:cL} (hx:jU x): ∃ g y,jV x=some (g,y)/\y.kind=g.kind/\y.bW=g.bW/\y.data=g.data/\g.data.size<=200:=by
 unfold jV
 have hm:((gG (x.bW.length:Int) 66))<=66:=by unfold gG; split <;> omega
 have hm2:((gG (x.bW.length:Int) 66))<=(x.bW.length:Int):=by unfold gG; split <;> omega
 have hm3:0<=((gG (x.bW.length:Int) 66)):=by unfold gG; split <;> omega
 have hl:(cut x.bW 0 (gG (x.bW.length:Int) 66)).length<=66:=by
  unfold cut
  simp
  omega
 have hcut:gp x.data 200=some (CU x.data 200):=yY x.data 200
 obtain ⟨r,er,hr⟩:=Dm x.data
 rw [hcut] at er
 cases er
 rw [dI (by omega) (by omega) (by omega),aA,cF (by simp; omega),aA,hcut,aA,cF (by simp; omega),aA]
 exact ⟨_,_,rfl,rfl,rfl,rfl,hr⟩
theorem pL {l:List cL} {at_:Int} (a0: ∀ x∈l,jU x) (a1:inK .i64 at_):gU l at_=some true:=by
 unfold gU
 rw [vI,aA,Bool.not_true,cond_false,show iv=some ⟨⟨0,0,none,0⟩,fq⟩ from rfl,aA]
 refine mD (λs:bU×aK×Int=> ∃ n:Nat,s.2.2=n/\n<=25/\TP s.2.1 s.1 (200*n)) (λs=>25 - s.2.2.toNat)
  (λr=> ∃ x t q,r = .inl (x,t)/\TP t x q) ⟨0,rfl,by decide,Ae⟩ ?_ ?_
 ·rintro ⟨x,t,i⟩ ⟨n,h1,h2,h3⟩
  dsimp only at h1 h2 h3 ⊢
  subst h1
  by_cases c:(n:Int) < (l.length:Int)/\(n:Int) < 25
  ·left
   rw [Bx c,aA,cond_true,bN l n (by omega),aA]
   obtain ⟨g,y,e1,e2,e3,e4,e5⟩:=Ag (a0 _ (List.getElem_mem (show n < l.length by omega)))
   rw [e1,aA]
   dsimp only
   -- the number of parts
   obtain ⟨g',y',ec,k1,k2,k3,k4,k5⟩: ∃ g' y',Option.bind ((bif (decide ((y.bW.length:Int) > 4)) then (Option.bind (idx y.bW 4) λa=>(bif (decide (a > 60)) then (Option.bind (idx y.bW 4) λb=>some (decide (b<=4096))) else some false)) else some false):Option Bool) (λf=>((bif f then (Option.bind (idx y.bW 4) λj=>(Option.bind (idx g.bW 4) λk=>some ((cL.mk y.kn y.kind (y.bW.set ((4:Int).toNat) 60) y.data),(bY.mk g.kn g.kind (g.bW.set ((4:Int).toNat) 60) g.data)))) else some (y,g)):Option (cL×bY)))=some (y',g')/\y'.kind=g'.kind/\y'.bW=g'.bW/\y'.data=g'.data/\g'.data.size<=200 /\ ∀ c,g'.bW[4]?=some c->c<=60\/4096 < c:=by
    rw [e3]
    by_cases d1:g.bW.length > 4
    ·have hi:idx g.bW 4=some g.bW[4]:=bN g.bW 4 d1
     rw [decide_eq_true (by omega),cond_true,hi,aA]
     by_cases d2:g.bW[4] > 60
     ·rw [decide_eq_true d2,cond_true,aA,aA]
      by_cases d3:g.bW[4]<=4096
      ·rw [decide_eq_true d3,cond_true,aA,aA]
       refine ⟨_,_,rfl,e2,rfl,e4,e5,λc hc=> .inl ?_⟩
       dsimp only at hc
       rw [show ((4:Int).toNat)=4 from rfl,List.getElem?_set_self d1] at hc
       cases hc
       decide
      ·rw [decide_eq_false d3,cond_false]
       exact ⟨g,y,rfl,e2,e3,e4,e5,λc hc=>by rw [List.getElem?_eq_getElem d1] at hc; cases hc; omega⟩
     ·rw [decide_eq_false d2,cond_false,aA,cond_false]
      exact ⟨g,y,rfl,e2,e3,e4,e5,λc hc=>by rw [List.getElem?_eq_getElem d1] at hc; cases hc; omega⟩
    ·rw [decide_eq_false (by omega),cond_false,aA,cond_false]
     exact ⟨g,y,rfl,e2,e3,e4,e5,λc hc=>by rw [List.getElem?_eq_none (by omega)] at hc; cases hc⟩
   cases hQ:((bif (decide ((y.bW.length:Int) > 4)) then (Option.bind (idx y.bW 4) λa=>(bif (decide (a > 60)) then (Option.bind (idx y.bW 4) λb=>some (decide (b<=4096))) else some false)) else some false):Option Bool) with
   | none=>rw [hQ] at ec; cases ec
   | some v =>
    rw [hQ,aA] at ec
    rw [aA,ec,aA]
    dsimp only
    obtain ⟨e,t',x',t1,t2,t3⟩:=BU h3 (by omega) k1 k2 k3 k4 k5
    have hcl:fB t=some t:=by
     unfold fB gT
     rw [show gD t.slot.parts=some t.slot.parts from rfl,aA,aA,lJ _ h3.sw,aA]
    rw [hcl,aA,t2,aA,t1,aA]
    dsimp only
    rw [zj,cond_false,Af h3,aA,Bool.not_true,cond_false,Af t3,aA,aA]
    dsimp only
    rw [Bool.not_true,cond_false]
    by_cases d:(n:Int)=at_
    ·rw [show ((n:Int) == at_)=true by simpa using d,cond_true,show gE t'=some ⟨⟨0,0,none,0⟩,fq⟩ from rfl,aA,aA]
     dsimp only
     rw [w64 (by omega) (by omega)]
     exact ⟨_,rfl,⟨n+1,by dsimp only; omega,by omega,Ae.more (by omega)⟩,by dsimp only; omega⟩
    ·rw [show ((n:Int) == at_)=false by simpa using d,cond_false,aA]
     dsimp only
     rw [w64 (by omega) (by omega)]
     exact ⟨_,rfl,⟨n+1,by dsimp only; omega,by omega,t3.more (by omega)⟩,by dsimp only; omega⟩
  ·right
   rw [By c,aA,cond_false]
   exact ⟨_,rfl,x,t,_,rfl,h3⟩
 ·rintro r ⟨x,t,q,rfl,h⟩
  dsimp only
  rw [Af h,aA]
end Go.Tw.X

import Derived.Test.YtdhkangklnlnoaaGreatDoorXq1
import Derived.Test.YtdhkangklnlnoaaGreatDoorXp1
import Derived.Test.YtdhkangklnlnoaaGreatDoorFw2
set_option linter.unusedVariables false
set_option linter.unusedSimpArgs false
set_option maxHeartbeats 1000000
namespace Go.Tw.X
open Go Go.Tw
def rdN:Nat->aG->List Int->List Int×aG
 | 0,i,l=>(l,i)
 | k+1,i,l=>rdN k (rdS i).2 (l++[(rdS i).1])
theorem yY: ∀ (k:Nat) {i:aG} (l:List Int),VI i->VI (rdN k i l).2
 | 0,_,_,h=>h
 | k+1,_,l,h=>yY k _ (fu h)
theorem v9: ∀ (k:Nat) (i:aG) (l:List Int),(rdN k i l).1.length=l.length+k
 | 0,_,_=>rfl
 | k+1,i,l=>by rw [rdN,v9 k]; simp; omega
theorem xB: ∀ (k:Nat) (i:aG) (l:List Int),rdN (k+1) i l=((rdN k i l).1++[(rdS (rdN k i l).2).1],(rdS (rdN k i l).2).2)
 | 0,_,_=>rfl
 | k+1,i,l=>by rw [rdN,xB k]; rfl
theorem qD: ∀ (k:Nat) {i:aG} (l:List Int),i.e≠0->(rdN k i l).2=i
 | 0,_,_,_=>rfl
 | k+1,i,l,h=>by rw [rdN,jW h]; exact qD k _ h
theorem yZ: ∀ (k:Nat) {i:aG} (l:List Int) {m:Nat},SZ m i->SZ m (rdN k i l).2
 | 0,_,_,_,h=>h
 | k+1,_,l,_,h=>yZ k _ (kU h)
def qgA (s:ByteArray):=rdS ⟨kb s,0⟩
def qgB (s:ByteArray):=rdS (qgA s).2
def qgC (s:ByteArray):=rdS (qgB s).2
def qgI (s:ByteArray):aG:=if (qgC s).1 > 64 then jn else (qgC s).2
def qgN (s:ByteArray):=rdN (min (qgC s).1 64).toNat (qgI s) []
def qgT (s:ByteArray):=lR (qgN s).2
def qgR (s:ByteArray):aV:=⟨(qgA s).1,(qgB s).1,(qgN s).1,(qgT s).1⟩
def kc (s:ByteArray):aV×Int :=
 if s.size > 8192 then (zGr,3) else if og s=false then (zGr,4) else if jL (qgT s).2≠0 then (zGr,jL (qgT s).2) else if gn (qgR s)≠0 then (zGr,gn (qgR s)) else (qgR s,0)
theorem Gh {s:ByteArray} (h:s.size<=8192) (h4:4<=s.size):VI (qgA s).2/\VI (qgB s).2/\VI (qgC s).2/\VI (qgI s)/\VI (qgN s).2/\VI (qgT s).2:=by
 have v0:VI (⟨kb s,0⟩:aG):=⟨by show (kb s).size<=1000000; rw [kV h4]; omega,.inl rfl⟩
 have v1:=fu v0
 have v2:=fu v1
 have v3:=fu v2
 have v4:VI (qgI s):=by
  unfold qgI
  split
  ·exact mI
  ·exact v3
 have v5:=yY (min (qgC s).1 64).toNat (i:=qgI s) [] v4
 exact ⟨v1,v2,v3,v4,v5,rF v5⟩
theorem CU {s:ByteArray} (h:s.size<=8192) (h4:4<=s.size):(qgR s).data.size<=8192:=by
 have z0:SZ s.size (⟨kb s,0⟩:aG):=⟨⟨by show (kb s).size<=1000000; rw [kV h4]; omega,.inl rfl⟩,by show (kb s).size<=_; rw [kV h4]; omega⟩
 have z3:SZ s.size (qgC s).2:=kU (kU (kU z0))
 have z4:SZ s.size (qgI s):=by
  unfold qgI
  split
  ·exact ⟨mI,Nat.zero_le _⟩
  ·exact z3
 have z5:SZ s.size (qgN s).2:=yZ _ [] z4
 have:=(tL z5.1 z5.2).1
 show (qgT s).1.size<=_
 exact Nat.le_trans this h
theorem CV (s:ByteArray):(qgR s).aX.length<=64:=by
 show (qgN s).1.length<=64
 rw [qgN,v9]
 simp
 omega
theorem GY {s:ByteArray} (h:s.size<=8192) (h4:4<=s.size):0<=(qgC s).1:=(kl (Gh h h4).2.1).1
theorem Bc {s:ByteArray} (h:s.size<=8192) (h4:4<=s.size):lG ⟨kb s,0⟩=some (qgR s,(qgT s).2):=by
 obtain ⟨v1,v2,v3,v4,v5,v6⟩:=Gh h h4
 have v0:VI (⟨kb s,0⟩:aG):=⟨by show (kb s).size<=1000000; rw [kV h4]; omega,.inl rfl⟩
 have hc0:=GY h h4
 unfold lG
 rw [jm _ v0,aA,show (rdS ⟨kb s,0⟩)=qgA s from rfl,jm _ v1,aA,show (rdS (qgA s).2)=qgB s from rfl,jm _ v2,aA,show (rdS (qgB s).2)=qgC s from rfl]
 have hi:((bif (decide ((qgC s).1 > 64)) then (Option.bind (bP (qgC s).2 1) λa=>some a) else some (qgC s).2):Option aG)=some (qgI s):=by
  unfold qgI
  by_cases c:(qgC s).1 > 64
  ·rw [decide_eq_true c,cond_true,if_pos c,qn v3,aA,if_pos (show (qgC s).2.e=0 from oz v2 (by decide) c)]
  ·rw [decide_eq_false c,cond_false,if_neg c]
 rw [hi,aA]
 have hm:cB (qgC s).1 64=((min (qgC s).1 64).toNat:Int):=by unfold cB; split <;> omega
 rw [hm]
 have hk:(min (qgC s).1 64).toNat<=64:=by omega
 refine eJ (λj:Nat=>(aV.mk (qgA s).1 (qgB s).1 (rdN j (qgI s) []).1 (ByteArray.mk #[]),(rdN j (qgI s) []).2,(j:Int))) (min (qgC s).1 64).toNat ((qgN s).2,aV.mk (qgA s).1 (qgB s).1 (qgN s).1 (ByteArray.mk #[])) rfl ?_ ?_ ?_
 ·intro j hj
  have hl:=v9 j (qgI s) []
  have hs:rdN (j+1) (qgI s) []=((rdN j (qgI s) []).1++[(rdS (rdN j (qgI s) []).2).1],(rdS (rdN j (qgI s) []).2).2):=xB j (qgI s) []
  dsimp only
  rw [decide_eq_true (by omega),cond_true,jm _ (yY j [] v4),aA,bQ (by simp [hl]; omega),aA,w64 (by omega) (by omega),hs]
  rfl
 ·dsimp only
  rw [decide_eq_false (by omega),cond_false]
  rfl
 ·dsimp only
  rw [z6 _ v5,aA]
  rfl
theorem rH {s:ByteArray} (h:s.size<=100000):jO s=some (kc s):=by
 unfold jO kc
 by_cases c:s.size > 8192
 ·rw [decide_eq_true (by omega),cond_true,if_pos c]
  rfl
 ·rw [decide_eq_false (by omega),cond_false,if_neg c,EF (by omega),aA]
  unfold qz
  cases ho:og s with
  | false=>rfl
  | true =>
   have h4:4<=s.size:=by
    unfold og at ho
    exact (of_decide_eq_true ho).1
   rw [if_pos rfl]
   dsimp only
   rw [Bool.not_true,cond_false,show kI (kb s)=some ⟨kb s,0⟩ from rfl,aA,Bc (by omega) h4,aA,vP,aA,if_neg (by simp)]
   dsimp only
   by_cases e:jL (qgT s).2=0
   ·rw [e,show ((0:Int) == 0)=true from rfl,cond_true,vj (by have:=CV s; omega) (by have:=CU (s:=s) (by omega) h4; omega),aA,aA,if_neg (λh=>h rfl)]
    by_cases f:gn (qgR s)=0
    ·rw [f,show ((0:Int) != 0)=false from rfl,cond_false,if_neg (λh=>h rfl)]
    ·rw [show (gn (qgR s) != 0)=true by simpa using f,cond_true,if_pos f]
     rfl
   ·rw [show (jL (qgT s).2 == 0)=false by simpa using e,cond_false,aA,show (jL (qgT s).2 != 0)=true by simpa using e,cond_true,if_pos e]
    rfl
theorem CW (x y:Int): ∀ (k j:Nat) (i:aG) (l:List Int) (n:Int),VI i->n=((j+k:Nat):Int)->l.length=j->j+k<=64 ->
  ∃ l',iter (σ:=aW×bA×Int) (ρ:=aW×bA) (λa=>(Option.bind ((bif (decide (a.2.2 < n)) then some (a.1.e == 0) else some false):Option Bool) λd=>(bif d then (Option.bind (bG a.1) λb=>(Option.bind (chk (cQ a.2.1.aX.length [b.2].length 8)) λ_=>some (.inl (b.1,(bA.mk a.2.1.aT a.2.1.kind (a.2.1.aX++[b.2]) a.2.1.data),(IntKind.i64.wrap (a.2.2+1)))))) else some (.inr (a.1,a.2.1))))) (asR i,bA.mk x y l (ByteArray.mk #[]),(j:Int))=some (asR (rdN k i l).2,bA.mk x y l' (ByteArray.mk #[]))/\((rdN k i l).2.e=0->l'=(rdN k i l).1)
 | 0,j,i,l,n,hV,hn,hl,hj=>by
  refine ⟨l,bD ?_,λ_=>rfl⟩
  dsimp only
  rw [decide_eq_false (by omega),cond_false,aA,cond_false]
  rfl
 | k+1,j,i,l,n,hV,hn,hl,hj=>by
  by_cases c:i.e=0
  ·obtain ⟨l',e1,e2⟩:=CW x y k (j+1) (rdS i).2 (l++[(rdS i).1]) n (fu hV) (by omega) (by simp; omega) (by omega)
   refine ⟨l',?_,e2⟩
   rw [rdN,<- e1]
   refine bY ?_
   dsimp only
   rw [decide_eq_true (by omega),cond_true,show ((asR i).e == 0)=true by simpa [asR] using c,aA,cond_true,gj i hV,aA]
   dsimp only
   rw [bQ (by simp [hl]; omega),aA,w64 (by omega) (by omega)]
   rfl
  ·refine ⟨l,?_,λh=> ?_⟩
   ·rw [qD (k+1) l c]
    refine bD ?_
    dsimp only
    rw [decide_eq_true (by omega),cond_true,show ((asR i).e == 0)=false by simpa [asR] using c,aA,cond_false]
   ·rw [qD (k+1) l c] at h
    exact absurd h c
theorem CY {s:ByteArray} (h:s.size<=100000):kg s=some (nL (kc s).1,(kc s).2):=by
 unfold kg kc
 by_cases c:s.size > 8192
 ·rw [decide_eq_true (by omega),cond_true,if_pos c]
  rfl
 ·rw [decide_eq_false (by omega),cond_false,if_neg c,Cz (by omega),aA]
  unfold qz
  cases ho:og s with
  | false=>rfl
  | true =>
   have h4:4<=s.size:=by
    unfold og at ho
    exact (of_decide_eq_true ho).1
   have hs:s.size<=8192:=by omega
   obtain ⟨v1,v2,v3,v4,v5,v6⟩:=Gh hs h4
   have v0:VI (⟨kb s,0⟩:aG):=⟨by show (kb s).size<=1000000; rw [kV h4]; omega,.inl rfl⟩
   rw [if_pos rfl]
   dsimp only
   rw [Bool.not_true,cond_false,show (aW.mk (kb s) 0)=asR ⟨kb s,0⟩ from rfl,gj _ v0,aA,show (rdS ⟨kb s,0⟩)=qgA s from rfl]
   dsimp only
   rw [gj _ v1,aA,show (rdS (qgA s).2)=qgB s from rfl]
   dsimp only
   rw [gj _ v2,aA,show (rdS (qgB s).2)=qgC s from rfl]
   dsimp only
   have hc0:=GY hs h4
   by_cases d:(qgC s).1 > 64
   ·have he:(qgC s).2.e=0:=oz v2 (by decide) d
    rw [show ((asR (qgC s).2).e == 0)=true by simpa [asR] using he,cond_true,decide_eq_true d,aA,cond_true,if_neg (by simp)]
    have hb:qgI s=jn:=by unfold qgI; rw [if_pos d]
    have hN:(qgN s).2=jn:=by unfold qgN; rw [hb]; exact qD _ _ (by decide)
    have hT:(qgT s).2=jn:=by unfold qgT; rw [hN,tU (by decide)]
    have hE:jL (qgT s).2=1:=by rw [hT]; rfl
    rw [hE,if_pos (by decide)]
    rfl
   ·have hcc:((bif ((asR (qgC s).2).e == 0) then some (decide ((qgC s).1 > 64)) else some false):Option Bool)=some false:=by
     cases ((asR (qgC s).2).e == 0) with
     | true=>rw [cond_true,decide_eq_false d]
     | false=>rfl
    rw [hcc,aA,cond_false,if_neg (by simp)]
    have hi:qgI s=(qgC s).2:=by unfold qgI; rw [if_neg d]
    obtain ⟨l',e1,e2⟩:=CW (qgA s).1 (qgB s).1 (min (qgC s).1 64).toNat 0 (qgC s).2 [] (qgC s).1 v3 (by omega) rfl (by omega)
    have hgn:rdN (min (qgC s).1 64).toNat (qgC s).2 []=qgN s:=by unfold qgN; rw [hi]
    rw [hgn] at e1 e2
    rw [show (((0:Nat):Int))=0 from rfl] at e1
    rw [e1,aA]
    dsimp only
    rw [u6 _ v5,aA,show lR (qgN s).2=qgT s from rfl]
    dsimp only
    rw [z7 _ v6,aA]
    by_cases e:jL (qgT s).2=0
    ·have hte:(qgT s).2.e=0:=by
      unfold jL at e
      split at e
      ·cases e
      ·exact e
     have hne:=(Ck v5 hte).1
     have hl:=e2 hne
     rw [e,hl,show ((0:Int) != 0)=false from rfl,cond_false,show (bA.mk (qgA s).1 (qgB s).1 (qgN s).1 (qgT s).1)=nL (qgR s) from rfl,tY (by have:=CV s; omega) (by have:=CU hs h4; omega),aA,if_neg (λh=>h rfl)]
     by_cases f:gn (qgR s)=0
     ·rw [f,show ((0:Int) != 0)=false from rfl,cond_false,if_neg (λh=>h rfl)]
     ·rw [show (gn (qgR s) != 0)=true by simpa using f,cond_true,if_pos f]
      rfl
    ·rw [show (jL (qgT s).2 != 0)=true by simpa using e,cond_true,if_pos e]
     rfl
theorem Ag {R:List Int} (hR:BB R): ∀ (L l:List Int),(∀ n∈L,okN n=true)->rdN L.length (bI (L.flatMap cH++R)) l=(l++L,bI R)
 | [],l,_=>by simp [rdN]
 | n::L,l,h=>by
  have hn:=of_decide_eq_true (h n List.mem_cons_self)
  have hR2:BB (L.flatMap cH++R):=ka (mq λx _=>lq x) hR
  rw [List.length_cons,rdN,List.flatMap_cons,List.append_assoc,Cp hR2 hn.1 hn.2]
  dsimp only
  rw [Ag hR L _ λx hx=>h x (List.mem_cons_of_mem _ hx)]
  simp
theorem sW {g:aV} (h:gn g=0):iG g=true/\(eZ g).size<=8192:=by
 unfold gn at h
 cases hr:iG g with
 | false=>rw [hr] at h; simp at h
 | true =>
  rw [hr,if_neg (by simp)] at h
  refine ⟨rfl,?_⟩
  split at h
  ·cases h
  ·omega
theorem ss {g:aV} (h:gn g=0):kc (eZ g)=(g,0):=by
 obtain ⟨hr,hs⟩:=sW h
 have hr2:=hr
 unfold iG at hr2
 simp only [Bool.and_eq_true,decide_eq_true_eq,List.all_eq_true] at hr2
 obtain ⟨⟨a1,a2⟩,⟨b1,b2⟩,c1,d1⟩:=hr2
 have hsz:=oU (dM (mL g))
 have ho:=AZ (dM (mL g))
 rw [show nJ (dM (mL g))=eZ g from rfl] at hsz ho
 have hd:g.data.size<=8192:=by
  rw [bO] at hsz
  have:g.data.size<=(mL g).length:=by unfold mL; simp only [List.length_append,bC]; omega
  omega
 unfold qz at ho
 cases hb:og (eZ g) with
 | false=>rw [hb,if_neg (by simp)] at ho; exact absurd (congrArg Prod.snd ho) (by simp)
 | true =>
  rw [hb,if_pos rfl] at ho
  have hf:kb (eZ g)=dM (mL g):=(Prod.mk.inj ho).1
  have B0:BB (cH g.data.size++sbs g.data++[]):=ka (ka (lq _) (n8 _)) (λb hb=>by cases hb)
  have B1:BB (g.aX.flatMap cH++(cH g.data.size++sbs g.data++[])):=ka (mq λx _=>lq x) B0
  have B2:BB (cH (g.aX.length:Int)++(g.aX.flatMap cH++(cH g.data.size++sbs g.data++[]))):=ka (lq _) B1
  have B3:BB (cH g.kind++(cH (g.aX.length:Int)++(g.aX.flatMap cH++(cH g.data.size++sbs g.data++[])))):=ka (lq _) B2
  have e0:mL g=cH g.aT++(cH g.kind++(cH (g.aX.length:Int)++(g.aX.flatMap cH++(cH g.data.size++sbs g.data++[])))):=by
   unfold mL
   simp
  have hA:qgA (eZ g)=(g.aT,bI (cH g.kind++(cH (g.aX.length:Int)++(g.aX.flatMap cH++(cH g.data.size++sbs g.data++[]))))):=by
   unfold qgA
   rw [hf,e0]
   exact Cp B3 (by omega) (by omega)
  have hB:qgB (eZ g)=(g.kind,bI (cH (g.aX.length:Int)++(g.aX.flatMap cH++(cH g.data.size++sbs g.data++[])))):=by
   unfold qgB
   rw [hA]
   exact Cp B2 (by omega) (by omega)
  have hC:qgC (eZ g)=((g.aX.length:Int),bI (g.aX.flatMap cH++(cH g.data.size++sbs g.data++[]))):=by
   unfold qgC
   rw [hB]
   exact Cp B1 (by omega) (by omega)
  have hI:qgI (eZ g)=bI (g.aX.flatMap cH++(cH g.data.size++sbs g.data++[])):=by
   unfold qgI
   rw [hC,if_neg (by dsimp only; omega)]
  have hN:qgN (eZ g)=(g.aX,bI (cH g.data.size++sbs g.data++[])):=by
   unfold qgN
   rw [hC,hI]
   have:(min ((g.aX.length:Int)) 64).toNat=g.aX.length:=by omega
   dsimp only
   rw [this,Ag B0 g.aX [] d1,List.nil_append]
  have hT:qgT (eZ g)=(g.data,bI []):=by
   unfold qgT
   rw [hN]
   exact GV g.data (λb hb=>by cases hb) (by omega)
  have hR:qgR (eZ g)=g:=by
   unfold qgR
   rw [hA,hB,hN,hT]
  unfold kc
  rw [if_neg (by omega),hb,if_neg (by simp),hT,show jL (bI [])=0 from rfl,if_neg (λh=>h rfl),hR,h,if_neg (λh=>h rfl)]
theorem CZ (n:Int) (h0:0<=n) (h1:n<=1000001):fq n=some []:=by
 unfold fq
 have hn:decide (n < 0)=false:=decide_eq_false (by omega)
 have z:IntKind.i64.wrap (0 - 0)=0:=by decide
 rw [hn,cond_false,z,w64 (by omega) (by omega),Int.sub_zero]
 by_cases hp:n > 0
 ·have:decide (n > 0)=true:=decide_eq_true hp
  rw [this,cond_true,AN hp (by omega) (by omega),aA,cX (by omega) (by omega) (by omega),aA]
  rfl
 ·have:decide (n > 0)=false:=decide_eq_false hp
  rw [this,cond_false]
  rfl
theorem C9 (a:List aB) (x:aB) (c:List aB) (h:a.length+c.length<=1000000):dO [a,[x],c]=some (a++x::c):=by
 unfold dO
 rw [bY (s':=(1,(a.length:Int))),bY (s':=(2,(a.length:Int)+1)),bY (s':=(3,(a.length:Int)+1+c.length)),bD (r:=(a.length:Int)+1+c.length),aA,CZ _ (by omega) (by omega),aA,bY (s':=(1,a)),bY (s':=(2,a++[x])),bY (s':=(3,a++[x]++c)),bD (r:=a++[x]++c),aA,List.append_assoc]
 ·rfl
 ·rfl
 ·show (Option.bind (chk (cQ (a++[x]).length c.length 16)) _)=_
  rw [bQ (by simp; omega),aA]
  rfl
 ·show (Option.bind (chk (cQ a.length 1 16)) _)=_
  rw [bQ (by omega),aA]
  rfl
 ·show (Option.bind (chk (cQ 0 a.length 16)) _)=_
  rw [bQ (by omega),aA]
  rfl
 ·rfl
 ·show ((bif (decide ((IntKind.i64.wrap ((a.length:Int)+1+(c.length:Int))) < 0)) then none else some (.inl ((3:Int),(IntKind.i64.wrap ((a.length:Int)+1+(c.length:Int)))))):Option ((Int×Int) ⊕ Int))=_
  rw [w64 (by omega) (by omega),decide_eq_false (by omega),cond_false]
 ·show ((bif (decide ((IntKind.i64.wrap ((a.length:Int)+1)) < 0)) then none else some (.inl ((2:Int),(IntKind.i64.wrap ((a.length:Int)+1))))):Option ((Int×Int) ⊕ Int))=_
  rw [w64 (by omega) (by omega),decide_eq_false (by omega),cond_false]
 ·show ((bif (decide ((IntKind.i64.wrap (0+(a.length:Int))) < 0)) then none else some (.inl ((1:Int),(IntKind.i64.wrap (0+(a.length:Int)))))):Option ((Int×Int) ⊕ Int))=_
  rw [w64 (by omega) (by omega),decide_eq_false (by omega),cond_false,Int.zero_add]
def gI:List aB->aB->List aB
 | [],x=>[x]
 | y::l,x=>if y.to < x.from_ then y::gI l x else if y.from_ > x.to then x::y::l else gI l ⟨cB x.from_ y.from_,imax x.to y.to⟩
theorem oD: ∀ (l:List aB) (x:aB),(gI l x).length<=l.length+1
 | [],x=>by simp [gI]
 | y::l,x=>by
  unfold gI
  split
  ·have:=oD l x; simp; omega
  ·split
   ·simp
   ·have:=oD l ⟨cB x.from_ y.from_,imax x.to y.to⟩; simp; omega
def spB (x:aB):Prop:= -1152921504606846976<=x.from_/\x.from_<=1152921504606846976 /\ -1152921504606846976<=x.to/\x.to<=1152921504606846976
theorem Gi {x:aB} (h:spB x):eU x=some x:=by
 obtain ⟨a,b,c,d⟩:=h
 unfold eU imax cB
 cases x
 dsimp only at a b c d ⊢
 congr 2 <;> (repeat' split) <;> omega
def gu (s:List aB) (l:List aB):List aB:=l.foldl (λs x=>if x.to<=x.from_ then s else gI s x) s
theorem rI: ∀ (l s:List aB),(gu s l).length<=s.length+l.length
 | [],s=>Nat.le_refl _
 | x::l,s=>by
  have h:=rI l (if x.to<=x.from_ then s else gI s x)
  have h2:(if x.to<=x.from_ then s else gI s x).length<=s.length+1:=by split; omega; exact oD s x
  show (gu _ l).length<=_
  simp
  omega
theorem oW (s:List aB) (l:List aB) (hs:s.length+l.length<=1000000) (hl: ∀ x∈l,spB x):fP ⟨s⟩ l=some ⟨gu s l⟩:=by
 unfold fP
 refine eJ (λn:Nat=>((⟨gu s (l.take n)⟩:bZ),(n:Int))) l.length ⟨gu s l⟩ rfl (λn hn=> ?_) ?_ rfl
 ·dsimp only
  have hx:=hl _ (List.getElem_mem hn)
  have ht:gu s (l.take (n+1))=(if l[n].to<=l[n].from_ then gu s (l.take n) else gI (gu s (l.take n)) l[n]):=by
   unfold gu
   rw [List.take_succ_eq_append_getElem hn,List.foldl_append]
   rfl
  have hlen:=rI (l.take n) s
  rw [List.length_take] at hlen
  rw [decide_eq_true (by omega),cond_true,bK l n hn,aA,Gi hx,aA,show dJ l[n]=some (decide (l[n].to<=l[n].from_)) from rfl,aA]
  generalize gu s (l.take n)=S at ht hlen ⊢
  by_cases c:l[n].to<=l[n].from_
  ·rw [decide_eq_true c,cond_true,aA,w64 (by omega) (by omega),ht,if_pos c]
   rfl
  ·rw [decide_eq_false c,cond_false,ht,if_neg c]
   have hg:(Option.bind (iter (σ:=aB×Int×(List aB)) (ρ:=((List aB)×aB) ⊕ bZ) (λa=>(bif (decide (a.2.1 < (S.length:Int))) then (Option.bind ((Option.bind (idx S a.2.1) λb=>(bif (decide (b.to < a.1.from_)) then (Option.bind (chk (cQ a.2.2.length [b].length 16)) λ_=>some (.inl ((a.2.2++[b]),a.1))) else (bif (decide (b.from_ > a.1.to)) then (Option.bind (chk (eN a.2.1 (S.length:Int) S.length)) λ_=>(Option.bind (dO ([a.2.2,[a.1],(cut S a.2.1 (S.length:Int))])) λd=>(nA (fH (some (bZ.mk d)))))) else some (.inl (a.2.2,(aB.mk (cB a.1.from_ b.from_) (imax a.1.to b.to))))))):Option (((List aB)×aB) ⊕ ((aB×Int×(List aB)) ⊕ (((List aB)×aB) ⊕ bZ)))) λ | .inl e14292=>some (.inl (e14292.2,(IntKind.i64.wrap (a.2.1+1)),e14292.1)) | .inr w=>some w) else some (.inr (.inl (a.2.2,a.1))))) (l[n],0,[])) λ | .inl e14097=>(Option.bind (chk (cQ e14097.1.length [e14097.2].length 16)) λ_=>some (bZ.mk (e14097.1++[e14097.2]))) | .inr w=>some w)=some ⟨gI S l[n]⟩:=by
    refine qi (λs:aB×Int×List aB=> ∃ k:Nat,s.2.1=k/\k<=S.length/\s.2.2.length<=k/\s.2.2++gI (S.drop k) s.1=gI S l[n]) (λs=>S.length - s.2.1.toNat) (λr=>(∃ o y,r = .inl (o,y)/\o++[y]=gI S l[n]/\o.length<=S.length)\/r = .inr ⟨gI S l[n]⟩) ⟨0,rfl,Nat.zero_le _,Nat.le_refl _,rfl⟩ ?_ ?_
    ·rintro ⟨x,i,o⟩ ⟨k,h1,h2,h3,h4⟩
     dsimp only at h1 h2 h3 h4 ⊢
     subst h1
     by_cases hk:k < S.length
     ·have hd:S.drop k=S[k]::S.drop (k+1):=List.drop_eq_getElem_cons hk
      rw [hd,gI] at h4
      rw [decide_eq_true (by omega),cond_true,bK S k hk,aA]
      by_cases c1:S[k].to < x.from_
      ·left
       rw [if_pos c1] at h4
       rw [decide_eq_true c1,cond_true,bQ (by simp; omega),aA,aA]
       dsimp only
       rw [w64 (by omega) (by omega)]
       exact ⟨_,rfl,⟨k+1,by simp,hk,by simp; omega,by simpa using h4⟩,by dsimp only; omega⟩
      ·rw [if_neg c1] at h4
       rw [decide_eq_false c1,cond_false]
       by_cases c2:S[k].from_ > x.to
       ·right
        rw [if_pos c2] at h4
        rw [decide_eq_true c2,cond_true,cX (by omega) (by omega) (by omega),aA,C9 _ _ _ (by rw [qj]; simp; omega),aA,qj,List.take_of_length_le (Nat.le_refl _),hd,h4]
        exact ⟨_,rfl,.inr rfl⟩
       ·left
        rw [if_neg c2] at h4
        rw [decide_eq_false c2,cond_false,aA]
        dsimp only
        rw [w64 (by omega) (by omega)]
        exact ⟨_,rfl,⟨k+1,by simp,hk,by dsimp only; omega,h4⟩,by dsimp only; omega⟩
     ·right
      rw [decide_eq_false (by omega),cond_false]
      refine ⟨_,rfl,.inl ⟨o,x,rfl,?_,by omega⟩⟩
      rw [List.drop_eq_nil_of_le (by omega)] at h4
      exact h4
    ·rintro r (⟨o,y,rfl,h1,h2⟩ | rfl)
     ·dsimp only
      rw [bQ (by simp; omega),aA,h1]
     ·rfl
   refine Eq.trans (congrArg (λz=>Option.bind z _) hg) ?_
   rw [aA,w64 (by omega) (by omega)]
   rfl
 ·dsimp only
  rw [decide_eq_false (by omega),cond_false,List.take_of_length_le (Nat.le_refl _)]
theorem fD (a b:Int):cB a b<=a/\cB a b<=b/\(cB a b=a\/cB a b=b):=by unfold cB; split <;> omega
theorem fQ (a b:Int):a<=imax a b/\b<=imax a b/\(imax a b=a\/imax a b=b):=by unfold imax; split <;> omega
def NF:Int->List aB->Prop
 | _,[]=>True
 | lo,x::l=>lo < x.from_/\x.from_ < x.to/\NF x.to l
def inP (l:List aB) (n:Int):Prop:= ∃ x∈l,x.from_<=n/\n < x.to
theorem eK {x:aB} {l:List aB} {n:Int}:inP (x::l) n↔(x.from_<=n/\n < x.to)\/inP l n:=by simp [inP]
theorem gX {n:Int}: ¬ inP [] n:=by simp [inP]
theorem NF.mono: ∀ {l:List aB} {a b:Int},NF b l->a<=b->NF a l
 | [],_,_,_,_=>trivial
 | x::l,a,b,h,hab=>⟨by have:=h.1; omega,h.2⟩
theorem NF.gt: ∀ {l:List aB} {a n:Int},NF a l->inP l n->a < n
 | [],_,_,_,hn=>absurd hn gX
 | x::l,a,n,h,hn=>by
  have h1:=h.1
  have h2:=h.2.1
  rcases eK.1 hn with h3 | h3
  ·omega
  ·have:=h.2.2.gt h3
   omega
theorem qE: ∀ (l:List aB) {lo:Int} {x:aB},NF lo l->lo < x.from_->x.from_ < x.to->NF lo (gI l x)
 | [],lo,x,h,h1,h2=>⟨h1,h2,trivial⟩
 | y::l,lo,x,h,h1,h2=>by
  have a1:=h.1
  have a2:=h.2.1
  rw [gI]
  split
  ·exact ⟨h.1,h.2.1,qE l h.2.2 (by omega) h2⟩
  ·split
   ·exact ⟨h1,h2,by omega,h.2.1,h.2.2⟩
   ·have:=fD x.from_ y.from_
    have:=fQ x.to y.to
    exact qE l (h.2.2.mono (by omega)) (by dsimp only; omega) (by dsimp only; omega)
theorem qF: ∀ (l:List aB) {lo:Int} {x:aB} {n:Int},NF lo l->x.from_ < x.to->(inP (gI l x) n↔inP l n\/(x.from_<=n/\n < x.to))
 | [],lo,x,n,h,h2=>by simp [gI,inP]
 | y::l,lo,x,n,h,h2=>by
  have a1:=h.1
  have a2:=h.2.1
  rw [gI]
  split
  ·rw [eK,eK,qF l h.2.2 h2,or_assoc]
  ·split
   ·rw [eK,eK]
    exact Or.comm
   ·have e1:=fD x.from_ y.from_
    have e2:=fQ x.to y.to
    rw [qF l h.2.2 (by dsimp only; omega),eK]
    dsimp only
    constructor
    ·rintro (h3 | h3)
     ·exact .inl (.inr h3)
     ·by_cases c:y.from_<=n/\n < y.to
      ·exact .inl (.inl c)
      ·exact .inr (by omega)
    ·rintro ((h3 | h3) | h3)
     ·exact .inr (by omega)
     ·exact .inl h3
     ·exact .inr (by omega)
theorem wc: ∀ {l l':List aB} {a b:Int},NF a l->NF b l'->(∀ n,inP l n↔inP l' n)->l=l'
 | [],[],_,_,_,_,_=>rfl
 | [],y::l',_,_,_,h',h=>absurd ((h y.from_).2 (eK.2 (.inl ⟨Int.le_refl _,h'.2.1⟩))) gX
 | x::l,[],_,_,h1,_,h=>absurd ((h x.from_).1 (eK.2 (.inl ⟨Int.le_refl _,h1.2.1⟩))) gX
 | x::l,y::l',a,b,h1,h',h=>by
  have p1:=h1.2.1
  have p2:=h'.2.1
  -- begins
  have b1: ∀ n,inP (x::l) n->x.from_<=n:=λn hn=>by
   rcases eK.1 hn with c | c
   ·exact c.1
   ·have:=h1.2.2.gt c; omega
  have b2: ∀ n,inP (y::l') n->y.from_<=n:=λn hn=>by
   rcases eK.1 hn with c | c
   ·exact c.1
   ·have:=h'.2.2.gt c; omega
  have e1:x.from_=y.from_:=by
   have:=b2 _ ((h x.from_).1 (eK.2 (.inl ⟨Int.le_refl _,p1⟩)))
   have:=b1 _ ((h y.from_).2 (eK.2 (.inl ⟨Int.le_refl _,p2⟩)))
   omega
  -- ends
  have n1: ¬ inP (x::l) x.to:=λhn=>by
   rcases eK.1 hn with c | c
   ·omega
   ·have:=h1.2.2.gt c; omega
  have n2: ¬ inP (y::l') y.to:=λhn=>by
   rcases eK.1 hn with c | c
   ·omega
   ·have:=h'.2.2.gt c; omega
  have e2:x.to=y.to:=by
   rcases Int.lt_trichotomy x.to y.to with c | c | c
   ·exact absurd ((h x.to).2 (eK.2 (.inl (by omega)))) n1
   ·exact c
   ·exact absurd ((h y.to).1 (eK.2 (.inl (by omega)))) n2
  have e3:x=y:=by cases x; cases y; simp_all
  subst e3
  rw [wc h1.2.2 h'.2.2 λn=> ?_]
  constructor
  ·intro hn
   rcases eK.1 ((h n).1 (eK.2 (.inr hn))) with c | c
   ·have:=h1.2.2.gt hn; omega
   ·exact c
  ·intro hn
   rcases eK.1 ((h n).2 (eK.2 (.inr hn))) with c | c
   ·have:=h'.2.2.gt hn; omega
   ·exact c
def eM:List aB->Int
 | []=>0
 | x::l=>x.to - x.from_+eM l
theorem rJ: ∀ (l:List aB) {lo:Int} {x:aB},NF lo l->x.from_ < x.to->(∀ n,x.from_<=n->n < x.to -> ¬ inP l n)->eM (gI l x)=eM l+(x.to - x.from_)
 | [],lo,x,h,h2,h3=>by simp [gI,eM]
 | y::l,lo,x,h,h2,h3=>by
  have a1:=h.1
  have a2:=h.2.1
  have hl: ∀ n,x.from_<=n->n < x.to -> ¬ inP l n:=λn b1 b2 b3=>h3 n b1 b2 (eK.2 (.inr b3))
  rw [gI]
  split
  ·simp only [eM]
   rw [rJ l h.2.2 h2 hl]
   omega
  ·split
   ·simp only [eM]
    omega
   ·have e1:=fD x.from_ y.from_
    have e2:=fQ x.to y.to
    have d1:y.to<=x.from_\/x.to<=y.from_:=by
     by_cases c:x.from_<=y.from_
     ·by_cases c2:y.from_ < x.to
      ·exact absurd (eK.2 (.inl ⟨Int.le_refl _,a2⟩)) (h3 y.from_ c c2)
      ·exact .inr (by omega)
     ·by_cases c2:x.from_ < y.to
      ·exact absurd (eK.2 (.inl ⟨by omega,c2⟩)) (h3 x.from_ (Int.le_refl _) h2)
      ·exact .inl (by omega)
    rw [rJ l h.2.2 (by dsimp only; omega) (λn b1 b2 b3=> ?_)]
    ·show _=y.to - y.from_+eM l+_
     dsimp only; omega
    ·dsimp only at b1 b2
     have:=h.2.2.gt b3
     exact hl n (by omega) (by omega) b3
theorem we: ∀ (l:List aB) {x:aB},x.from_<=x.to->(∀ y∈l,y.from_<=y.to)->eM (gI l x)<=eM l+(x.to - x.from_)/\(∀ y∈gI l x,y.from_<=y.to)
 | [],x,h,_=>⟨by simp [gI,eM],λy hy=>by rw [List.mem_singleton.1 hy]; exact h⟩
 | y::l,x,h,hl=>by
  have a:=hl y List.mem_cons_self
  have hl': ∀ y∈l,y.from_<=y.to:=λz hz=>hl z (List.mem_cons_of_mem _ hz)
  rw [gI]
  split
  ·obtain ⟨h1,h2⟩:=we l h hl'
   refine ⟨by simp only [eM]; omega,λz hz=> ?_⟩
   rcases List.mem_cons.1 hz with rfl | hz
   ·exact a
   ·exact h2 z hz
  ·split
   ·refine ⟨by simp only [eM]; omega,λz hz=> ?_⟩
    rcases List.mem_cons.1 hz with rfl | hz
    ·exact h
    ·exact hl z hz
   ·have e1:=fD x.from_ y.from_
    have e2:=fQ x.to y.to
    obtain ⟨h1,h2⟩:=we l (x:=⟨cB x.from_ y.from_,imax x.to y.to⟩) (by dsimp only; omega) hl'
    refine ⟨?_,h2⟩
    show _<=y.to - y.from_+eM l+_
    dsimp only at h1
    omega
def km (s:List aB) (R:List Int):List aB:=R.foldl (λs i=>gI s ⟨i,i+1⟩) s
theorem nM: ∀ (R:List Int) (s:List aB),NF (-1) s->R.Nodup->(∀ i∈R,0<=i /\ ¬ inP s i)->NF (-1) (km s R)/\(∀ n,inP (km s R) n↔inP s n\/n∈R)/\eM (km s R)=eM s+R.length
 | [],s,h,_,_=>⟨h,λn=>by simp [km],by simp [km]⟩
 | i::R,s,h,hn,hi=>by
  have h0:=hi i List.mem_cons_self
  have hn':=List.nodup_cons.1 hn
  have h1:NF (-1) (gI s ⟨i,i+1⟩):=qE s h (by dsimp only; omega) (by dsimp only; omega)
  have h2: ∀ n,inP (gI s ⟨i,i+1⟩) n↔inP s n\/n=i:=λn=>by
   rw [qF s h (by dsimp only; omega)]
   dsimp only
   constructor
   ·rintro (a | a)
    ·exact .inl a
    ·exact .inr (by omega)
   ·rintro (a | a)
    ·exact .inl a
    ·exact .inr (by omega)
  have h3:eM (gI s ⟨i,i+1⟩)=eM s+1:=by
   rw [rJ s h (by dsimp only; omega) (λn a b c=>h0.2 (by dsimp only at a b; rw [show i=n by omega]; exact c))]
   dsimp only
   omega
  obtain ⟨q1,q2,q3⟩:=nM R _ h1 hn'.2 (λj hj=>⟨(hi j (List.mem_cons_of_mem _ hj)).1,λa=>by
   rcases (h2 j).1 a with a | a
   ·exact (hi j (List.mem_cons_of_mem _ hj)).2 a
   ·exact hn'.1 (a ▸ hj)⟩)
  refine ⟨q1,λn=> ?_,?_⟩
  ·show inP (km (gI s ⟨i,i+1⟩) R) n↔_
   rw [q2,h2,or_assoc,List.mem_cons]
  ·show eM (km (gI s ⟨i,i+1⟩) R)=_
   rw [q3,h3,List.length_cons]
   omega
theorem rK: ∀ (R:List Int) (s:List aB),(km s R).length<=s.length+R.length
 | [],s=>Nat.le_refl _
 | i::R,s=>by
  have h:=rK R (gI s ⟨i,i+1⟩)
  have h2:=oD s ⟨i,i+1⟩
  show (km (gI s ⟨i,i+1⟩) R).length<=_
  rw [List.length_cons]
  omega
theorem ua {R R':List Int} (hp:R'.Perm R) (hn:R.Nodup) (h0: ∀ i∈R,0<=i):km [] R'=km [] R:=by
 obtain ⟨a1,a2,_⟩:=nM R [] trivial hn (λi hi=>⟨h0 i hi,gX⟩)
 obtain ⟨b1,b2,_⟩:=nM R' [] trivial (hp.nodup_iff.2 hn) (λi hi=>⟨h0 i (hp.mem_iff.1 hi),gX⟩)
 refine wc b1 a1 λn=> ?_
 rw [a2,b2,hp.mem_iff]
theorem Ft (A:bZ->Option (bZ ⊕ bZ)) (hA: ∀ s,A s=some (.inr s)) (B:Int×CacheEntry->bZ->Option (bZ ⊕ bZ)) (hB: ∀ e s,B e s=Option.bind (fP s [(aB.mk e.1 (IntKind.i64.wrap (e.1+1)))]) λs2=>some (.inl s2)): ∀ (R:List (Int×CacheEntry)) (s:List aB),s.length+R.length<=900000->(∀ e∈R,0<=e.1/\e.1 < 1152921504606846976)->mC A B R ⟨s⟩=some ⟨km s (R.map Prod.fst)⟩
 | [],s,_,_=>by
  unfold mC
  rw [hA]
  rfl
 | e::R,s,h,hr=>by
  have h0:=hr e List.mem_cons_self
  have hl:=oD s ⟨e.1,e.1+1⟩
  rw [List.length_cons] at h
  unfold mC
  rw [hB,w64 (by omega) (by omega),oW s _ (by simp; omega) (λx hx=>by rw [List.mem_singleton.1 hx]; refine ⟨?_,?_,?_,?_⟩ <;> (dsimp only; omega)),aA,aA]
  have ha:gu s [⟨e.1,e.1+1⟩]=gI s ⟨e.1,e.1+1⟩:=by
   show (if _ then _ else _)=_
   rw [if_neg (by dsimp only; omega)]
  rw [ha]
  exact Ft A hA B hB R _ (by omega) (λe he=>hr e (List.mem_cons_of_mem _ he))
theorem rL {c:aP} {m:List (Int×CacheEntry)} (hm:c.l=some m) (hl:m.length<=900000) (hk:(m.map Prod.fst).Nodup) (hr: ∀ e∈m,0<=e.1/\e.1 < 1152921504606846976):eE c=some (km [] (m.map Prod.fst)):=by
 unfold eE
 have hk':=rK (m.map Prod.fst) []
 rw [List.length_map] at hk'
 have h0: ∀ i∈m.map Prod.fst,0<=i:=λi hi=>by
  obtain ⟨e,he,rfl⟩:=List.mem_map.1 hi
  exact (hr e he).1
 rw [hm,show chk (some m:Mp CacheEntry).isSome=some () from rfl,aA,Option.getD_some,vx (r:=⟨km [] (m.map Prod.fst)⟩) λR hR=> ?_,aA]
 ·show Option.bind (Option.bind (chk (cQ 0 (km [] (m.map Prod.fst)).length 16)) _) _=_
  rw [bQ (by simp at hk'; omega)]
  rfl
 ·rw [Ft _ (λ_=>rfl) _ (λ_ _=>rfl) R [] (by rw [hR.length_eq]; simpa using hl) (λe he=>hr e (hR.mem_iff.1 he)),ua (hR.map Prod.fst) hk h0]
def neS (p:aB):Bool:=decide (p.from_ < p.to)
def wh (x y:aB):List aB:=[⟨y.from_,cB y.to x.from_⟩,⟨imax y.from_ x.to,y.to⟩]
def oq (x y:aB):List aB:=(wh x y).filter neS
theorem xC {α:Type} (f:α->List α) (h: ∀ y,(f y).length<=2): ∀ l:List α,(l.flatMap f).length<=2*l.length
 | []=>by simp
 | y::l=>by
  have h1:=h y
  have h2:=xC f h l
  simp only [List.flatMap_cons,List.length_append,List.length_cons]
  omega
theorem Dc (x y:aB):(oq x y).length<=2:=List.length_filter_le neS (wh x y)
theorem y4 (l:List aB) (x:aB) (hl:l.length<=400000):gN (λa b=>(Option.bind (chk (cQ a.length [b].length 16)) λ_=>some ((a++[b]),true))) ([]:(List aB)) l x=some (l.flatMap (oq x)):=by
 unfold gN
 refine eJ (λn:Nat=>((n:Int),(l.take n).flatMap (oq x))) l.length (.inl (l.flatMap (oq x))) rfl (λn hn=> ?_) ?_ rfl
 ·dsimp only
  have hlen:=xC (oq x) (Dc x) (l.take n)
  rw [List.length_take] at hlen
  rw [decide_eq_true (by omega),cond_true,bK l n hn,aA,List.take_succ_eq_append_getElem hn,List.flatMap_append]
  generalize (l.take n).flatMap (oq x)=o at hlen ⊢
  refine eJ (λj:Nat=>((j:Int),o++((wh x l[n]).take j).filter neS)) 2 (.inl (o++oq x l[n])) (by simp) (λj hj=> ?_) ?_ ?_
  ·dsimp only
   have hf:=List.length_filter_le neS ((wh x l[n]).take j)
   rw [List.length_take] at hf
   have h2:(wh x l[n]).length=2:=rfl
   rw [show ([(aB.mk l[n].from_ (cB l[n].to x.from_)),(aB.mk (imax l[n].from_ x.to) l[n].to)]:List aB)=wh x l[n] from rfl,decide_eq_true (by omega),cond_true,bK _ j (by omega),aA,List.take_succ_eq_append_getElem (by omega),List.filter_append]
   generalize (wh x l[n])[j]=p
   rw [show dJ p=some (decide (p.to<=p.from_)) from rfl,aA]
   by_cases c:p.to<=p.from_
   ·rw [decide_eq_true c,Bool.not_true,cond_false,aA,cond_false,w64 (by omega) (by omega)]
    have:[p].filter neS=[]:=by simp [neS]; omega
    rw [this,List.append_nil]
    rfl
   ·rw [decide_eq_false c,Bool.not_false,cond_true,bQ (by simp; omega),aA,aA,aA,Bool.not_true,cond_false,w64 (by omega) (by omega)]
    have:[p].filter neS=[p]:=by simp [neS]; omega
    rw [this,List.append_assoc]
    rfl
  ·dsimp only
   rw [show ([(aB.mk l[n].from_ (cB l[n].to x.from_)),(aB.mk (imax l[n].from_ x.to) l[n].to)]:List aB)=wh x l[n] from rfl]
   rfl
  ·show some _=some _
   rw [w64 (by omega) (by omega)]
   simp
 ·dsimp only
  rw [decide_eq_false (by omega),cond_false,List.take_of_length_le (Nat.le_refl _)]
def oh (l:List aB) (x:aB):List aB:=if x.to<=x.from_ then l else l.flatMap (oq x)
def mZ (s l:List aB):List aB:=l.foldl oh s
structure WS (k:Int) (s:List aB):Prop where
 b: ∀ y∈s,0<=y.from_/\y.from_ < y.to/\y.to<=1152921504606846976
 l:eM s<=k
theorem kZ: ∀ a b:List aB,eM (a++b)=eM a+eM b
 | [],b=>by simp [eM]
 | x::a,b=>by simp only [List.cons_append,eM,kZ a b]; omega
theorem WS.len {k:Int} {s:List aB} (h:WS k s):(s.length:Int)<=eM s:=by
 have: ∀ s:List aB,(∀ y∈s,0<=y.from_/\y.from_ < y.to/\y.to<=1152921504606846976)->(s.length:Int)<=eM s:=by
  intro s
  induction s with
  | nil=>intro _; simp [eM]
  | cons y s ih =>
   intro h
   have:=ih λz hz=>h z (List.mem_cons_of_mem _ hz)
   have:=h y List.mem_cons_self
   simp only [List.length_cons,eM]
   omega
 exact this s h.b
theorem EJ {x y:aB} (hx:x.from_<=x.to) (hy:0<=y.from_/\y.from_ < y.to/\y.to<=1152921504606846976) (h0:0<=x.to):(∀ z∈oq x y,0<=z.from_/\z.from_ < z.to/\z.to<=1152921504606846976)/\eM (oq x y)<=y.to - y.from_:=by
 have e1:=fD y.to x.from_
 have e2:=fQ y.from_ x.to
 unfold oq wh
 simp only [List.filter_cons,List.filter_nil,neS,decide_eq_true_eq]
 split <;> split <;> (constructor <;> simp only [eM,List.forall_mem_cons,List.not_mem_nil,false_implies,implies_true,and_true] <;> omega)
theorem WS.cut {k:Int} {s:List aB} (h:WS k s) {x:aB} (h0:0<=x.to):WS k (oh s x):=by
 unfold oh
 split
 ·exact h
 ·have hx:x.from_<=x.to:=by omega
  have key: ∀ s:List aB,(∀ y∈s,0<=y.from_/\y.from_ < y.to/\y.to<=1152921504606846976)->(∀ z∈s.flatMap (oq x),0<=z.from_/\z.from_ < z.to/\z.to<=1152921504606846976)/\eM (s.flatMap (oq x))<=eM s:=by
   intro s
   induction s with
   | nil=>intro _; simp [eM]
   | cons y s ih =>
    intro h
    obtain ⟨a1,a2⟩:=ih λz hz=>h z (List.mem_cons_of_mem _ hz)
    obtain ⟨b1,b2⟩:=EJ hx (h y List.mem_cons_self) h0
    simp only [List.flatMap_cons,kZ,eM]
    refine ⟨λz hz=> ?_,by omega⟩
    rcases List.mem_append.1 hz with hz | hz
    ·exact b1 z hz
    ·exact a1 z hz
  obtain ⟨a1,a2⟩:=key s h.b
  exact ⟨a1,by have:=h.l; omega⟩
theorem WS.Dd {k:Int}: ∀ {l s:List aB},WS k s->(∀ x∈l,0<=x.to)->WS k (mZ s l)
 | [],_,h,_=>h
 | x::l,s,h,hl=>WS.Dd (l:=l) (h.cut (hl x List.mem_cons_self)) λz hz=>hl z (List.mem_cons_of_mem _ hz)
def fy (x:aB):aB:=⟨imax (-1152921504606846976) (cB x.from_ 1152921504606846976),imax (-1152921504606846976) (cB x.to 1152921504606846976)⟩
theorem sX {x:aB} (h:0<=x.to):0<=(fy x).to:=by
 have:=fD x.to 1152921504606846976
 have:=fQ (-1152921504606846976) (cB x.to 1152921504606846976)
 show 0<=imax _ _
 omega
theorem qG {k:Int} (hk:k<=100000) (s:List aB) (l:List aB) (hs:WS k s) (hl:l.length<=1000000) (hb: ∀ x∈l,0<=x.to):gJ ⟨s⟩ l=some ⟨mZ s (l.map fy)⟩:=by
 unfold gJ
 refine eJ (λn:Nat=>((⟨mZ s ((l.take n).map fy)⟩:bZ),(n:Int))) l.length ⟨mZ s (l.map fy)⟩ rfl (λn hn=> ?_) ?_ rfl
 ·dsimp only
  have hx:=hb _ (List.getElem_mem hn)
  have hw:WS k (mZ s ((l.take n).map fy)):=hs.Dd λx hx=>by
   obtain ⟨y,hy,rfl⟩:=List.mem_map.1 hx
   exact sX (hb y (List.mem_of_mem_take hy))
  have ht:mZ s ((l.take (n+1)).map fy)=oh (mZ s ((l.take n).map fy)) (fy l[n]):=by
   unfold mZ
   rw [List.take_succ_eq_append_getElem hn,List.map_append,List.foldl_append]
   rfl
  rw [decide_eq_true (by omega),cond_true,bK l n hn,aA,show eU l[n]=some (fy l[n]) from rfl,aA,show dJ (fy l[n])=some (decide ((fy l[n]).to<=(fy l[n]).from_)) from rfl,aA]
  generalize mZ s ((l.take n).map fy)=S at ht hw ⊢
  generalize fy l[n]=y at ht ⊢
  by_cases c:y.to<=y.from_
  ·rw [decide_eq_true c,cond_true,aA,w64 (by omega) (by omega),ht,oh,if_pos c]
   rfl
  ·have hlen:=hw.len
   have hl2:=hw.l
   rw [decide_eq_false c,cond_false,ht,oh,if_neg c,show kr S y=some (S,y) from rfl,aA]
   dsimp only
   rw [y4 S y (by omega),aA,aA,w64 (by omega) (by omega)]
   rfl
 ·dsimp only
  rw [decide_eq_false (by omega),cond_false,List.take_of_length_le (Nat.le_refl _)]
def m5 (x y:aB):aB:=⟨imax y.from_ x.from_,cB y.to x.to⟩
def inL (s:List aB) (x:aB):List aB:=(s.map (m5 x)).filter neS
theorem sY (s:List aB) (x:aB):(inL s x).length<=s.length:=by
 have:=List.length_filter_le neS (s.map (m5 x))
 rw [List.length_map] at this
 exact this
theorem ub (s:List aB) (x:aB) (hs:s.length<=1000000):iz ⟨s⟩ x=some (inL s (fy x)):=by
 unfold iz
 refine eJ (λn:Nat=>((n:Int),inL (s.take n) (fy x))) s.length (inL s (fy x)) rfl (λn hn=> ?_) ?_ rfl
 ·dsimp only
  have hlen:=sY (s.take n) (fy x)
  rw [List.length_take] at hlen
  have ht:inL (s.take (n+1)) (fy x)=inL (s.take n) (fy x)++[m5 (fy x) s[n]].filter neS:=by
   unfold inL
   rw [List.take_succ_eq_append_getElem hn,List.map_append,List.filter_append]
   rfl
  rw [decide_eq_true (by omega),cond_true,bK s n hn,aA,show eU x=some (fy x) from rfl,aA,show jt s[n] (fy x)=some (m5 (fy x) s[n]) from rfl,aA,ht]
  generalize m5 (fy x) s[n]=p
  generalize inL (s.take n) (fy x)=o at hlen ⊢
  rw [show dJ p=some (decide (p.to<=p.from_)) from rfl,aA]
  by_cases c:p.to<=p.from_
  ·have:[p].filter neS=[]:=by simp [neS]; omega
   rw [decide_eq_true c,Bool.not_true,cond_false,aA,w64 (by omega) (by omega),this,List.append_nil]
   rfl
  ·have:[p].filter neS=[p]:=by simp [neS]; omega
   rw [decide_eq_false c,Bool.not_false,cond_true,bQ (by simp; omega),aA,aA,w64 (by omega) (by omega),this]
   rfl
 ·dsimp only
  rw [decide_eq_false (by omega),cond_false,List.take_of_length_le (Nat.le_refl _)]
theorem De {k:Int} {x:aB}: ∀ {s:List aB},WS k s->(∀ z∈inL s x,(0<=z.from_/\z.from_ < z.to/\z.to<=1152921504606846976)/\z.to<=x.to /\ ∀ n,z.from_<=n->n < z.to->inP s n)/\eM (inL s x)<=eM s:=by
 intro s h
 have key: ∀ s:List aB,(∀ y∈s,0<=y.from_/\y.from_ < y.to/\y.to<=1152921504606846976)->eM (inL s x)<=eM s:=by
  intro s
  induction s with
  | nil=>intro _; simp [inL,eM]
  | cons y s ih =>
   intro h
   have ih:=ih λz hz=>h z (List.mem_cons_of_mem _ hz)
   have hy:=h y List.mem_cons_self
   have e1:=fD y.to x.to
   have e2:=fQ y.from_ x.from_
   have:inL (y::s) x=[m5 x y].filter neS++inL s x:=by unfold inL; rw [List.map_cons]; exact List.filter_append (p:=neS) [m5 x y] _
   rw [this,kZ]
   have:eM ([m5 x y].filter neS)<=y.to - y.from_:=by
    by_cases c:neS (m5 x y)=true
    ·rw [List.filter_cons_of_pos c]; show cB y.to x.to - imax y.from_ x.from_+0<=_; omega
    ·rw [List.filter_cons_of_neg c]; show (0:Int)<=_; omega
   show _<=y.to - y.from_+eM s
   omega
 refine ⟨λz hz=> ?_,key s h.b⟩
 obtain ⟨hz1,hz2⟩:=List.mem_filter.1 hz
 obtain ⟨y,hy,rfl⟩:=List.mem_map.1 hz1
 have hb:=h.b y hy
 have e1:=fD y.to x.to
 have e2:=fQ y.from_ x.from_
 have hn:imax y.from_ x.from_ < cB y.to x.to:=of_decide_eq_true hz2
 refine ⟨⟨?_,hn,?_⟩,e1.2.1,λn h1 h2=>⟨y,hy,?_,?_⟩⟩
 ·show 0<=imax _ _; omega
 ·show cB _ _<=_; omega
 ·change imax _ _<=n at h1; omega
 ·change n < cB _ _ at h2; omega
theorem wj {k:Int} {s:List aB} (h:WS k s) (hk:k<=1000000):iZ ⟨s⟩=some (eM s):=by
 unfold iZ
 have hlen:=h.len
 have hl:=h.l
 have hp: ∀ n:Nat,0<=eM (s.take n)/\eM (s.take n)<=eM s:=λn=>by
  have e:=kZ (s.take n) (s.drop n)
  rw [List.take_append_drop] at e
  have:WS k (s.take n)->True:=λ_=>trivial
  have nn: ∀ l:List aB,(∀ y∈l,y∈s)->0<=eM l:=by
   intro l
   induction l with
   | nil=>intro _; exact Int.le_refl _
   | cons y l ih =>
    intro hy
    have:=ih λz hz=>hy z (List.mem_cons_of_mem _ hz)
    have:=h.b y (hy y List.mem_cons_self)
    show 0<=y.to - y.from_+eM l
    omega
  have a1:=nn (s.take n) λy hy=>List.mem_of_mem_take hy
  have a2:=nn (s.drop n) λy hy=>List.mem_of_mem_drop hy
  omega
 refine eJ (λn:Nat=>((n:Int),eM (s.take n))) s.length (eM s) rfl (λn hn=> ?_) ?_ rfl
 ·dsimp only
  have hb:=h.b _ (List.getElem_mem hn)
  have h1:=hp n
  have h2:=hp (n+1)
  rw [List.take_succ_eq_append_getElem hn,kZ] at h2 ⊢
  have e:eM [s[n]]=s[n].to - s[n].from_:=by show _+0=_; omega
  rw [e] at h2 ⊢
  rw [decide_eq_true (by omega),cond_true,bK s n hn,aA,w64 (x:=s[n].to - s[n].from_) (by omega) (by omega),w64 (x:=(n:Int)+1) (by omega) (by omega),w64 (by omega) (by omega)]
  rfl
 ·dsimp only
  rw [decide_eq_false (by omega),cond_false,List.take_of_length_le (Nat.le_refl _)]
theorem EK (s:List aB) (i:Int) (hs:s.length<=1000000): ∃ b,gm ⟨s⟩ i=some b/\(b=true->inP s i):=by
 have key: ∃ j:Int,cA s i=some j/\(0<=j->inP s i):=by
  unfold cA
  have hst: ∀ z:Int,(∃ n:Nat,z=n/\n<=s.length)->(∃ z',(λs52:Int=>((bif (decide (s52 < (s.length:Int))) then (Option.bind (idx s s52) λa=>(Option.bind (cV a i) λd=>(bif d then (fH (some s52)) else some (.inl (IntKind.i64.wrap (s52+1)))))) else some (.inr (.inl ()))):Option (Int ⊕ (Unit ⊕ Int)))) z=some (.inl z')/\(∃ n:Nat,z'=n/\n<=s.length)/\s.length - z'.toNat < s.length - z.toNat)\/(∃ r,(λs52:Int=>((bif (decide (s52 < (s.length:Int))) then (Option.bind (idx s s52) λa=>(Option.bind (cV a i) λd=>(bif d then (fH (some s52)) else some (.inl (IntKind.i64.wrap (s52+1)))))) else some (.inr (.inl ()))):Option (Int ⊕ (Unit ⊕ Int)))) z=some (.inr r)/\(r = .inl () \/ ∃ j,r = .inr j/\inP s i)):=by
   rintro _ ⟨n,rfl,hn⟩
   dsimp only
   by_cases c:n < s.length
   ·rw [decide_eq_true (by omega),cond_true,bK s n c,aA]
    by_cases c2:i>=s[n].from_/\i < s[n].to
    ·right
     refine ⟨_,?_,.inr ⟨(n:Int),rfl,s[n],List.getElem_mem c,c2⟩⟩
     rw [show cV s[n] i=some true by unfold cV; rw [decide_eq_true c2.1,decide_eq_true c2.2]; rfl,aA,cond_true]
     rfl
    ·left
     rw [show cV s[n] i=some false by
      unfold cV
      by_cases c3:i>=s[n].from_
      ·rw [decide_eq_true c3,decide_eq_false (by omega)]; rfl
      ·rw [decide_eq_false c3]; rfl,aA,cond_false,w64 (by omega) (by omega)]
     exact ⟨_,rfl,⟨n+1,rfl,c⟩,by omega⟩
   ·right
    rw [decide_eq_false (by omega),cond_false]
    exact ⟨_,rfl,.inl rfl⟩
  obtain ⟨r,e1,e2⟩:=nE (σ:=Int) (λz=> ∃ n:Nat,z=n/\n<=s.length) (λz=>s.length - z.toNat) _ hst 0 ⟨0,rfl,Nat.zero_le _⟩
  refine Exists.imp (λj h=>⟨(congrArg (λz=>Option.bind z _) e1).trans h.1,h.2⟩) (?_: ∃ j:Int,_/\(0<=j->inP s i))
  rw [aA]
  rcases e2 with rfl | ⟨j,rfl,h⟩
  ·exact ⟨-1,rfl,λh=>by omega⟩
  ·exact ⟨j,rfl,λ_=>h⟩
 obtain ⟨j,h1,h2⟩:=key
 refine ⟨decide (j>=0),?_,λh=>h2 (of_decide_eq_true h)⟩
 unfold gm cL
 dsimp only
 rw [h1]
 rfl
def sp (x:aD):aB:=⟨x.from_,x.to⟩
def rsp (l:List aD):List aB:=l.map sp
def hsR (l:List aD) (n:Int):Bool:=l.any λx:aD=>decide (n>=x.from_) && decide (n < x.to)
theorem qH {l:List aD} {n:Int}:hsR l n=true↔inP (rsp l) n:=by
 simp only [hsR,List.any_eq_true,Bool.and_eq_true,decide_eq_true_eq,inP,rsp,List.mem_map]
 exact ⟨λ⟨x,hx,h⟩=>⟨sp x,⟨x,hx,rfl⟩,h⟩,λ⟨_,⟨x,hx,rfl⟩,h⟩=>⟨x,hx,h⟩⟩
theorem Df {α ρ:Type} (l:List α) (p:α->Bool) (y n:ρ) {f:Int->Option (Int ⊕ ρ)} (h: ∀ i (hi:i < l.length),f (i:Int)=if p l[i]=true then some (.inr y) else some (.inl ((i+1:Nat):Int))) (he:f (l.length:Int)=some (.inr n)):iter f 0=some (if l.any p=true then y else n):=by
 have key: ∀ k i,i+k=l.length->iter f (i:Int)=some (if (l.drop i).any p=true then y else n):=by
  intro k
  induction k with
  | zero =>
   intro i hi
   obtain rfl:i=l.length:=by omega
   rw [bD he,List.drop_length]
   rfl
  | succ k ih =>
   intro i hi
   have hlt:i < l.length:=by omega
   have h1:=h i hlt
   rw [List.drop_eq_getElem_cons hlt,List.any_cons]
   by_cases c:p l[i]=true
   ·rw [if_pos c] at h1
    rw [bD h1,c,Bool.true_or,if_pos rfl]
   ·rw [if_neg c] at h1
    rw [bY h1,ih (i+1) (by omega),Bool.eq_false_iff.2 c,Bool.false_or]
 exact key l.length 0 (by omega)
theorem wk (l:List aD) (n:Int) (hl:l.length<=4000000):jF l n=some (hsR l n):=by
 unfold jF
 rw [Df l (λx:aD=>decide (n>=x.from_) && decide (n < x.to)) (.inr true) (.inl ()) (λi hi=> ?_) ?_,aA]
 ·show _=some (l.any _)
  cases l.any λx:aD=>decide (n>=x.from_) && decide (n < x.to) <;> rfl
 ·rw [decide_eq_false (by omega)]
  rfl
 ·rw [decide_eq_true (by omega),cond_true,bK l i hi,aA,w64 (by omega) (by omega)]
  cases decide (n>=l[i].from_) <;> cases decide (n < l[i].to) <;> rfl
def k6 (mode:Int) (x y:Bool):Bool:=if mode=0 then x || y else if mode=1 then x && !y else if mode=2 then x && y else !x && y
theorem EL (mode:Int) (x y:Bool):kM mode x y=some (k6 mode x y):=by
 unfold kM k6
 by_cases c0:mode=0
 ·subst c0; cases x <;> cases y <;> rfl
 ·rw [beq_eq_false_iff_ne.2 c0,cond_false,if_neg c0]
  by_cases c1:mode=1
  ·subst c1; cases x <;> cases y <;> rfl
  ·rw [beq_eq_false_iff_ne.2 c1,cond_false,if_neg c1]
   by_cases c2:mode=2
   ·subst c2; cases x <;> cases y <;> rfl
   ·rw [beq_eq_false_iff_ne.2 c2,cond_false,if_neg c2]
    cases x <;> cases y <;> rfl
theorem uc (mode:Int):k6 mode false false=false:=by unfold k6; split <;> simp
def mr (e:Int):List Int->List Int
 | []=>[e]
 | x::l=>if x < e then x::mr e l else if x=e then x::l else e::x::l
def jd (e:Int):List Int->Nat
 | []=>0
 | x::l=>if x < e then jd e l+1 else 0
theorem Ah (e:Int): ∀ l,jd e l<=l.length
 | []=>Nat.le_refl _
 | x::l=>by
  have:=Ah e l
  simp only [jd,List.length_cons]
  split <;> omega
theorem Ai (e:Int): ∀ l i (h:i < l.length),i < jd e l->l[i] < e
 | x::l,0,h,hi=>by
  simp only [jd] at hi
  split at hi
  ·assumption
  ·omega
 | x::l,i+1,h,hi=>by
  simp only [jd] at hi
  split at hi
  ·exact Ai e l i (by simpa using h) (by omega)
  ·omega
theorem xD (e:Int): ∀ l (h:jd e l < l.length),¬ l[jd e l] < e
 | x::l,h=>by
  by_cases c:x < e
  ·have e1:jd e (x::l)=jd e l+1:=if_pos c
   simp only [e1,List.getElem_cons_succ]
   exact xD e l (by rw [e1] at h; simpa using h)
  ·have e1:jd e (x::l)=0:=if_neg c
   simp only [e1,List.getElem_cons_zero]
   exact c
theorem xE (e:Int): ∀ l,mr e l=if l[jd e l]?=some e then l else l.take (jd e l)++([e]++l.drop (jd e l))
 | []=>rfl
 | x::l=>by
  by_cases c:x < e
  ·have e1:jd e (x::l)=jd e l+1:=if_pos c
   rw [mr,if_pos c,xE e l,e1,List.getElem?_cons_succ]
   split <;> rfl
  ·have e1:jd e (x::l)=0:=if_neg c
   rw [mr,if_neg c,e1,List.getElem?_cons_zero]
   by_cases c2:x=e
   ·rw [if_pos c2,if_pos (by rw [c2])]
   ·rw [if_neg c2,if_neg (by simpa using c2)]
    rfl
theorem qI {e n:Int}: ∀ {l},n∈mr e l↔n=e\/n∈l
 | []=>by simp [mr]
 | x::l=>by
  rw [mr]
  split
  ·rw [List.mem_cons,qI,List.mem_cons]
   exact ⟨λh=>by rcases h with h | h | h <;> simp [h],λh=>by rcases h with h | h | h <;> simp [h]⟩
  ·split
   ·rename_i h
    subst h
    simp
   ·simp
theorem oE {e:Int}: ∀ l,(mr e l).length<=l.length+1
 | []=>Nat.le_refl _
 | x::l=>by
  have:=oE (e:=e) l
  rw [mr]
  split
  ·simp only [List.length_cons]; omega
  ·split <;> simp
theorem rM {e:Int}: ∀ {l},l.Pairwise (· < ·)->(mr e l).Pairwise (· < ·)
 | [],_=>List.pairwise_singleton _ _
 | x::l,h=>by
  have h1:=List.pairwise_cons.1 h
  rw [mr]
  split
  ·rename_i c
   refine List.pairwise_cons.2 ⟨λy hy=> ?_,rM h1.2⟩
   rcases qI.1 hy with rfl | hy
   ·exact c
   ·exact h1.1 y hy
  ·split
   ·exact h
   ·refine List.pairwise_cons.2 ⟨λy hy=> ?_,h⟩
    rcases List.mem_cons.1 hy with rfl | hy
    ·omega
    ·have:=h1.1 y hy; omega
def lu (l:List aD):List Int:=l.foldl (λE x=>mr x.to (mr x.from_ E)) []
theorem xF (l:List aD) (x:aD):lu (l++[x])=mr x.to (mr x.from_ (lu l)):=by
 unfold lu
 rw [List.foldl_append]
 rfl
theorem y5 (l:List aD):(lu l).Pairwise (· < ·)/\(lu l).length<=2*l.length /\ ∀ n,n∈lu l ↔ ∃ x∈l,n=x.from_\/n=x.to:=by
 have key: ∀ k,k<=l.length->(lu (l.take k)).Pairwise (· < ·)/\(lu (l.take k)).length<=2*k /\ ∀ n,n∈lu (l.take k) ↔ ∃ x∈l.take k,n=x.from_\/n=x.to:=by
  intro k
  induction k with
  | zero=>intro _; exact ⟨.nil,Nat.le_refl _,λn=>by simp [lu]⟩
  | succ k ih =>
   intro hk
   obtain ⟨h1,h2,h3⟩:=ih (by omega)
   rw [List.take_succ_eq_append_getElem (by omega),xF]
   refine ⟨rM (rM h1),?_,λn=> ?_⟩
   ·have a1:=oE (e:=l[k].to) (mr l[k].from_ (lu (l.take k)))
    have a2:=oE (e:=l[k].from_) (lu (l.take k))
    omega
   ·rw [qI,qI,h3]
    simp only [List.mem_append,List.mem_singleton]
    constructor
    ·rintro (h | h | ⟨x,hx,h⟩)
     ·exact ⟨_,.inr rfl,.inr h⟩
     ·exact ⟨_,.inr rfl,.inl h⟩
     ·exact ⟨x,.inl hx,h⟩
    ·rintro ⟨x,hx | rfl,h⟩
     ·exact .inr (.inr ⟨x,hx,h⟩)
     ·rcases h with h | h
      ·exact .inr (.inl h)
      ·exact .inl h
 have:=key l.length (Nat.le_refl _)
 rwa [List.take_of_length_le (Nat.le_refl _)] at this
theorem xG (E:List Int) (e:Int) (hl:E.length<=4000000):(Option.bind (iter (σ:=Int) (ρ:=Int) (λb=>(Option.bind ((bif (decide (b < (E.length:Int))) then (Option.bind (idx E b) λd=>some (decide (d < e))) else some false):Option Bool) λf=>(bif f then some (.inl (IntKind.i64.wrap (b+1))) else some (.inr b)))) 0) λa=>(Option.bind ((bif (a == (E.length:Int)) then some true else (Option.bind (idx E a) λg=>some (g != e))):Option Bool) λh=>(bif h then (Option.bind (chk (eN 0 a E.length)) λ_=>(Option.bind (chk (eN a (E.length:Int) E.length)) λ_=>(Option.bind (chk (cQ [e].length (cut E a (E.length:Int)).length 8)) λ_=>(Option.bind (chk (cQ (cut E 0 a).length ([e]++(cut E a (E.length:Int))).length 8)) λ_=>some ((cut E 0 a)++([e]++(cut E a (E.length:Int)))))))) else some E)))=some (mr e E):=by
 have hc:=Ah e E
 refine eJ (λn:Nat=>(n:Int)) (jd e E) ((jd e E:Nat):Int) rfl (λi hi=> ?_) ?_ ?_
 ·rw [decide_eq_true (by omega),cond_true,bK E i (by omega),aA,aA,decide_eq_true (Ai e E i (by omega) hi),cond_true,w64 (by omega) (by omega)]
  rfl
 ·by_cases c:jd e E < E.length
  ·rw [decide_eq_true (by omega),cond_true,bK E _ c,aA,aA,decide_eq_false (xD e E c)]
   rfl
  ·rw [decide_eq_false (by omega)]
   rfl
 ·have e1:cut E 0 ((jd e E:Nat):Int)=E.take (jd e E):=by simp [cut]
  have e2:cut E ((jd e E:Nat):Int) (E.length:Int)=E.drop (jd e E):=by simp [cut]
  have h1:(E.take (jd e E)).length<=4000000:=by rw [List.length_take]; omega
  have h2:(E.drop (jd e E)).length<=4000000:=by rw [List.length_drop]; omega
  rw [xE,e1,e2]
  have key:(Option.bind (chk (eN 0 ((jd e E:Nat):Int) E.length)) λ_=>(Option.bind (chk (eN ((jd e E:Nat):Int) (E.length:Int) E.length)) λ_=>(Option.bind (chk (cQ [e].length (E.drop (jd e E)).length 8)) λ_=>(Option.bind (chk (cQ (E.take (jd e E)).length ([e]++(E.drop (jd e E))).length 8)) λ_=>some ((E.take (jd e E))++([e]++(E.drop (jd e E))))))))=some ((E.take (jd e E))++([e]++(E.drop (jd e E)))):=by
   rw [cX (by omega) (by omega) (by omega),aA,cX (by omega) (by omega) (by omega),aA,bQ (by simp at h2 ⊢; omega),aA,bQ (by simp at h1 h2 ⊢; omega),aA]
  rw [key]
  by_cases c:jd e E < E.length
  ·rw [beq_eq_false_iff_ne.2 (by omega),cond_false,bK E _ c,aA,List.getElem?_eq_getElem c,aA]
   by_cases c2:E[jd e E]=e
   ·rw [if_pos (by rw [c2]),c2,bne_self_eq_false]
    rfl
   ·rw [if_neg (by simpa using c2),bne_iff_ne.2 c2]
    rfl
  ·have e3:jd e E=E.length:=by omega
   rw [beq_iff_eq.2 (by omega),cond_true,aA,cond_true,if_neg (by rw [List.getElem?_eq_none (by omega)]; simp)]
theorem Bd {α:Type} (l:List α) (x:α):(l++[x]).getLast?=some x:=List.getLast?_concat
def Be (out:List aD) (e e':Int):List aD:=match out.getLast? with
 | some x=>if x.to=e then out.dropLast++[⟨x.from_,e'⟩] else out++[⟨e,e'⟩]
 | none=>out++[⟨e,e'⟩]
theorem rN (o:List aD) (x:aD) (e e':Int):Be (o++[x]) e e'=if x.to=e then o++[⟨x.from_,e'⟩] else o++[x]++[⟨e,e'⟩]:=by
 simp only [Be,Bd,List.dropLast_concat]
theorem Dg (out:List aD) (e e':Int):(Be out e e').length<=out.length+1:=by
 rcases List.eq_nil_or_concat out with rfl | ⟨o,x,rfl⟩
 ·exact Nat.le_refl _
 ·rw [List.concat_eq_append,rN]
  split <;> simp
theorem Dh (E:List Int) (out:List aD) (i:Nat) (hi:i+1 < E.length) (hE:E.length<=4000000) (ho:out.length<=4000000):(Option.bind ((bif (decide ((out.length:Int) > 0)) then (Option.bind (idx out (IntKind.i64.wrap ((out.length:Int) - 1))) λb=>some (b.to == E[i])) else some false):Option Bool) λd=>(bif d then (Option.bind (idx E (IntKind.i64.wrap ((i:Int)+1))) λe=>(Option.bind (idx out (IntKind.i64.wrap ((out.length:Int) - 1))) λf=>some (out.set ((IntKind.i64.wrap ((out.length:Int) - 1)).toNat) (aD.mk f.from_ e)))) else (Option.bind (idx E (IntKind.i64.wrap ((i:Int)+1))) λa=>(Option.bind (chk (cQ out.length [(aD.mk E[i] a)].length 16)) λ_=>some (out++[(aD.mk E[i] a)])))))=some (Be out E[i] E[i+1]):=by
 rw [w64 (x:=(i:Int)+1) (by omega) (by omega),w64 (x:=(out.length:Int) - 1) (by omega) (by omega),show ((i:Int)+1)=((i+1:Nat):Int) by omega,bK E (i+1) hi]
 rcases List.eq_nil_or_concat out with rfl | ⟨o,x,rfl⟩
 ·rfl
 ·rw [List.concat_eq_append] at ho ⊢
  have hl:(o++[x]).length=o.length+1:=by simp
  have e1:(((o++[x]).length:Nat):Int) - 1=((o.length:Nat):Int):=by omega
  have e2:idx (o++[x]) ((o.length:Nat):Int)=some x:=by rw [bK _ _ (by omega)]; simp
  rw [rN,e1,e2,decide_eq_true (by omega),cond_true,aA,aA]
  by_cases c:x.to=E[i]
  ·rw [if_pos c,beq_iff_eq.2 c,cond_true,aA,aA,show ((o.length:Nat):Int).toNat=o.length by omega]
   simp
  ·rw [if_neg c,beq_eq_false_iff_ne.2 c,cond_false,aA,bQ (by simp at ho ⊢; omega),aA]
def qJ (K:Int->Bool):List Int->Nat->List aD
 | _,0=>[]
 | E,i+1=>match E[i]?,E[i+1]? with
  | some e,some e'=>if K e=true then Be (qJ K E i) e e' else qJ K E i
  | _,_=>qJ K E i
theorem xH (K:Int->Bool) (E:List Int): ∀ i,(qJ K E i).length<=i
 | 0=>Nat.le_refl _
 | i+1=>by
  have ih:=xH K E i
  rw [qJ]
  split
  ·rename_i e e' h1 h2
   have:=Dg (qJ K E i) e e'
   split <;> omega
  ·omega
theorem Bf (a b:List aD) (mode:Int) (h:a.length+b.length<=1000000):gx a b mode=some (qJ (λn=>k6 mode (hsR a n) (hsR b n)) (lu (a++b)) ((lu (a++b)).length - 1)):=by
 unfold gx
 rw [List.nil_append,bQ (by simp; omega),aA,bQ (by omega),aA]
 have hL:(a++b).length<=1000000:=by rw [List.length_append]; omega
 generalize hLL:a++b=L at hL ⊢
 have hE:=(y5 L).2.1
 refine eJ (λn:Nat=>((n:Int),lu (L.take n))) L.length (lu L) rfl (λi hi=> ?_) ?_ ?_
 ·dsimp only
  have hT:=(y5 (L.take i)).2.1
  rw [List.length_take] at hT
  rw [decide_eq_true (by omega),cond_true,bK L i hi,aA,List.take_succ_eq_append_getElem hi,xF,w64 (by omega) (by omega)]
  generalize lu (L.take i)=T at hT ⊢
  have h1:=oE (e:=L[i].from_) T
  have h2:=oE (e:=L[i].to) (mr L[i].from_ T)
  refine eJ (λn:Nat=>((n:Int),if n=0 then T else if n=1 then mr L[i].from_ T else mr L[i].to (mr L[i].from_ T))) 2 (mr L[i].to (mr L[i].from_ T)) rfl (λj hj=> ?_) rfl rfl
  have:j=0\/j=1:=by omega
  rcases this with rfl | rfl
  ·have:=xG T L[i].from_ (by omega)
   dsimp only
   rw [show idx [L[i].from_,L[i].to] ((0:Nat):Int)=some L[i].from_ from rfl,aA]
   erw [this]
   rfl
  ·have:=xG (mr L[i].from_ T) L[i].to (by omega)
   dsimp only
   rw [show idx [L[i].from_,L[i].to] ((1:Nat):Int)=some L[i].to from rfl,aA]
   erw [this]
   rfl
 ·dsimp only
  rw [decide_eq_false (by omega),cond_false,List.take_of_length_le (Nat.le_refl _)]
 ·generalize hEE:lu L=E at hE ⊢
  refine eJ (λn:Nat=>(qJ (λn=>k6 mode (hsR a n) (hsR b n)) E n,(n:Int))) (E.length - 1) _ rfl (λi hi=> ?_) ?_ rfl
  ·dsimp only
   have hlen:=xH (λn=>k6 mode (hsR a n) (hsR b n)) E i
   rw [w64 (x:=(i:Int)+1) (by omega) (by omega),decide_eq_true (by omega),cond_true,bK E i (by omega),aA,wk a _ (by omega),aA,wk b _ (by omega),aA,EL,aA]
   rw [qJ,List.getElem?_eq_getElem (show i < E.length by omega),List.getElem?_eq_getElem (show i+1 < E.length by omega)]
   dsimp only
   cases k6 mode (hsR a E[i]) (hsR b E[i]) with
   | false=>rfl
   | true =>
    have:=Dh E (qJ (λn=>k6 mode (hsR a n) (hsR b n)) E i) i (by omega) (by omega) (by omega)
    rw [w64 (x:=(i:Int)+1) (by omega) (by omega)] at this
    rw [Bool.not_true,cond_false,this,if_pos rfl]
    rfl
  ·dsimp only
   rw [w64 (by omega) (by omega),decide_eq_false (by omega)]
   rfl
theorem wm: ∀ {p q:List aB} {lo t:Int},NF lo p->(∀ z∈p,z.to<=t)->lo<=t->NF t q->NF lo (p++q)
 | [],q,lo,t,_,_,h,hq=>hq.mono h
 | x::p,q,lo,t,hp,hz,h,hq=>⟨hp.1,hp.2.1,wm hp.2.2 (λz hz'=>hz z (List.mem_cons_of_mem _ hz')) (hz x List.mem_cons_self) hq⟩
theorem Aj: ∀ {p q:List aB} {lo:Int},NF lo (p++q)->NF lo p
 | [],_,_,_=>trivial
 | x::p,q,lo,h=>⟨h.1,h.2.1,Aj h.2.2⟩
theorem Di: ∀ {p:List aB} {x:aB} {lo:Int},NF lo (p++[x])->lo < x.from_/\x.from_ < x.to /\ ∀ z∈p,z.to < x.from_
 | [],x,lo,h=>⟨h.1,h.2.1,λz hz=>by cases hz⟩
 | y::p,x,lo,h=>by
  obtain ⟨h1,h2,h3⟩:=Di h.2.2
  have a1:=h.1
  have a2:=h.2.1
  refine ⟨by omega,h2,λz hz=> ?_⟩
  rcases List.mem_cons.1 hz with rfl | hz
  ·exact h1
  ·exact h3 z hz
theorem Ak {p:List aB} {f t lo:Int} (h:NF lo p) (hz: ∀ z∈p,z.to < f) (hlo:lo < f) (ht:f < t):NF lo (p++[⟨f,t⟩]) :=
 wm (t:=f - 1) h (λz h'=>by have:=hz z h'; omega) (by omega) ⟨by dsimp only; omega,ht,trivial⟩
theorem sZ {p q:List aB} {n:Int}:inP (p++q) n↔inP p n\/inP q n:=by
 simp only [inP,List.mem_append]
 exact ⟨λ⟨x,hx,h⟩=>hx.elim (λhx=> .inl ⟨x,hx,h⟩) (λhx=> .inr ⟨x,hx,h⟩),λh=>h.elim (λ⟨x,hx,h⟩=>⟨x,.inl hx,h⟩) (λ⟨x,hx,h⟩=>⟨x,.inr hx,h⟩)⟩
theorem n9 {f t n:Int}:inP [⟨f,t⟩] n↔f<=n/\n < t:=by simp [inP]
theorem lC (a b:List aD):rsp (a++b)=rsp a++rsp b:=List.map_append
theorem lD (f t:Int):rsp [⟨f,t⟩]=[⟨f,t⟩]:=rfl
structure OE (K:Int->Bool) (lo:Int) (out:List aD) (e:Int):Prop where
 nf:NF lo (rsp out)
 le: ∀ y∈rsp out,y.to<=e
 mem: ∀ n,inP (rsp out) n↔n < e/\K n=true
theorem EN {K:Int->Bool} {lo e e':Int} {out:List aD} (h:OE K lo out e) (hlo:lo < e) (he:e < e') (hK: ∀ n,e<=n->n < e'->K n=K e):OE K lo (if K e=true then Be out e e' else out) e':=by
 by_cases c:K e=true
 ·rw [if_pos c]
  have hm: ∀ n,(n < e/\K n=true\/(e<=n/\n < e'))↔n < e'/\K n=true:=λn=>by
   constructor
   ·rintro (⟨h1,h2⟩ | ⟨h1,h2⟩)
    ·exact ⟨by omega,h2⟩
    ·exact ⟨h2,(hK n h1 h2).trans c⟩
   ·rintro ⟨h1,h2⟩
    by_cases c2:n < e
    ·exact .inl ⟨c2,h2⟩
    ·exact .inr ⟨by omega,h1⟩
  rcases List.eq_nil_or_concat out with rfl | ⟨o,⟨f,t⟩,rfl⟩
  ·refine ⟨⟨hlo,he,trivial⟩,λy hy=> ?_,λn=> ?_⟩
   ·obtain rfl:=List.mem_singleton.1 (show y∈[⟨e,e'⟩] from hy); exact Int.le_refl _
   ·rw [<- hm n,<- h.mem n]
    show inP [⟨e,e'⟩] n↔inP [] n\/_
    rw [n9]
    exact ⟨.inr,λh=>h.elim (λh=>absurd h gX) id⟩
  ·rw [List.concat_eq_append] at h ⊢
   have h1:=h.nf
   have h2:=h.le
   rw [lC,lD] at h1 h2
   obtain ⟨a1,a2,a3⟩:=Di h1
   have a4:=h2 ⟨f,t⟩ (List.mem_append_right _ (List.mem_singleton.2 rfl))
   dsimp only at a1 a2 a3 a4
   rw [rN]
   dsimp only
   by_cases c2:t=e
   ·subst c2
    rw [if_pos rfl]
    refine ⟨?_,λy hy=> ?_,λn=> ?_⟩
    ·rw [lC,lD]
     exact Ak (Aj h1) a3 a1 (by omega)
    ·rw [lC,lD] at hy
     rcases List.mem_append.1 hy with hy | hy
     ·have:=h2 y (List.mem_append_left _ hy); omega
     ·obtain rfl:=List.mem_singleton.1 hy; exact Int.le_refl _
    ·rw [<- hm n,<- h.mem n,lC,lC,lD,lD,sZ,sZ,n9,n9,or_assoc]
     refine or_congr Iff.rfl ⟨λh=> ?_,λh=> ?_⟩
     ·by_cases c3:n < t
      ·exact .inl ⟨h.1,c3⟩
      ·exact .inr ⟨by omega,h.2⟩
     ·rcases h with h | h <;> constructor <;> omega
   ·rw [if_neg c2]
    refine ⟨?_,λy hy=> ?_,λn=> ?_⟩
    ·rw [lC,lC,lD,lD]
     refine Ak h1 (λz hz=> ?_) hlo he
     rcases List.mem_append.1 hz with hz | hz
     ·have:=a3 z hz; omega
     ·obtain rfl:=List.mem_singleton.1 hz; dsimp only; omega
    ·rw [lC,lC,lD,lD] at hy
     rcases List.mem_append.1 hy with hy | hy
     ·have:=h2 y hy; omega
     ·obtain rfl:=List.mem_singleton.1 hy; exact Int.le_refl _
    ·rw [<- hm n,<- h.mem n,lC,sZ,lD,n9]
 ·rw [if_neg c]
  refine ⟨h.nf,λy hy=>by have:=h.le y hy; omega,λn=> ?_⟩
  rw [h.mem n]
  exact ⟨λh=>⟨by omega,h.2⟩,λ⟨h1,h2⟩=>⟨by
   by_cases c2:n < e
   ·exact c2
   ·exact absurd ((hK n (by omega) h1).symm.trans h2) c,h2⟩⟩
theorem xI {l:List aD} {n m:Int} (h: ∀ x∈l,(x.from_<=n↔x.from_<=m)/\(n < x.to↔m < x.to)):hsR l n=hsR l m:=by
 rw [Bool.eq_iff_iff]
 simp only [hsR,List.any_eq_true,Bool.and_eq_true,decide_eq_true_eq]
 exact ⟨λ⟨x,hx,h1,h2⟩=>⟨x,hx,(h x hx).1.1 h1,(h x hx).2.1 h2⟩,λ⟨x,hx,h1,h2⟩=>⟨x,hx,(h x hx).1.2 h1,(h x hx).2.2 h2⟩⟩
theorem nN {l:List aD} {n:Int} (h: ∀ x∈l,n < x.from_\/x.to<=n):hsR l n=false:=by
 rw [Bool.eq_false_iff]
 intro hc
 simp only [hsR,List.any_eq_true,Bool.and_eq_true,decide_eq_true_eq] at hc
 obtain ⟨x,hx,h1,h2⟩:=hc
 have:=h x hx
 omega
theorem qK {E:List Int} (h:E.Pairwise (· < ·)) {i j:Nat} (hi:i < E.length) (hj:j < E.length) (hij:i < j):E[i] < E[j]:=List.pairwise_iff_getElem.1 h i j hi hj hij
theorem qL {E:List Int} (h:E.Pairwise (· < ·)) {i:Nat} (hi:i+1 < E.length) {n:Int} (hn:n∈E):n<=E[i]\/E[i+1]<=n:=by
 obtain ⟨j,hj,rfl⟩:=List.mem_iff_getElem.1 hn
 rcases Nat.lt_trichotomy j i with c | c | c
 ·exact .inl (Int.le_of_lt (qK h hj (by omega) c))
 ·subst c; exact .inl (Int.le_refl _)
 ·by_cases c2:j=i+1
  ·subst c2; exact .inr (Int.le_refl _)
  ·exact .inr (Int.le_of_lt (qK h hi hj (by omega)))
theorem Dj (a b:List aD) (mode:Int): ∃ lo,NF lo (rsp (qJ (λn=>k6 mode (hsR a n) (hsR b n)) (lu (a++b)) ((lu (a++b)).length - 1))) /\ ∀ n,inP (rsp (qJ (λn=>k6 mode (hsR a n) (hsR b n)) (lu (a++b)) ((lu (a++b)).length - 1))) n↔k6 mode (hsR a n) (hsR b n)=true:=by
 obtain ⟨hs,_,hm⟩:=y5 (a++b)
 have mA: ∀ x∈a,x.from_∈lu (a++b)/\x.to∈lu (a++b):=λx hx=>⟨(hm _).2 ⟨x,List.mem_append_left _ hx,.inl rfl⟩,(hm _).2 ⟨x,List.mem_append_left _ hx,.inr rfl⟩⟩
 have mB: ∀ x∈b,x.from_∈lu (a++b)/\x.to∈lu (a++b):=λx hx=>⟨(hm _).2 ⟨x,List.mem_append_right _ hx,.inl rfl⟩,(hm _).2 ⟨x,List.mem_append_right _ hx,.inr rfl⟩⟩
 generalize lu (a++b)=E at hs mA mB ⊢
 cases hE:E with
 | nil =>
  refine ⟨0,trivial,λn=> ?_⟩
  have hA:hsR a n=false:=nN λx hx=>by have:=(mA x hx).1; rw [hE] at this; cases this
  have hB:hsR b n=false:=nN λx hx=>by have:=(mB x hx).1; rw [hE] at this; cases this
  rw [hA,hB,uc]
  exact ⟨λh=>absurd h gX,λh=>by cases h⟩
 | cons e0 E' =>
  rw [<- hE]
  have hpos:0 < E.length:=by rw [hE]; simp
  have h0:E[0]=e0:=by simp [hE]
  have lo0: ∀ m∈E,e0<=m:=λm hm=>by
   rw [hE] at hm hs
   rcases List.mem_cons.1 hm with rfl | hm
   ·exact Int.le_refl _
   ·exact Int.le_of_lt ((List.pairwise_cons.1 hs).1 m hm)
  have key: ∀ i (hi:i < E.length),OE (λn=>k6 mode (hsR a n) (hsR b n)) (e0 - 1) (qJ (λn=>k6 mode (hsR a n) (hsR b n)) E i) E[i]:=by
   intro i
   induction i with
   | zero =>
    intro hi
    refine ⟨trivial,λy hy=>(by cases hy),λn=> ?_⟩
    refine ⟨λh=>absurd h gX,λ⟨h1,h2⟩=> ?_⟩
    have hA:hsR a n=false:=nN λx hx=>by have:=lo0 _ (mA x hx).1; omega
    have hB:hsR b n=false:=nN λx hx=>by have:=lo0 _ (mB x hx).1; omega
    rw [hA,hB,uc] at h2
    cases h2
   | succ i ih =>
    intro hi
    have ih:=ih (by omega)
    rw [qJ,List.getElem?_eq_getElem (show i < E.length by omega),List.getElem?_eq_getElem hi]
    have hlt:=qK hs (show i < E.length by omega) hi (by omega)
    refine EN ih (by have:=lo0 _ (List.getElem_mem (show i < E.length by omega)); omega) hlt λn h1 h2=> ?_
    rw [xI (l:=a) λx hx=> ?_,xI (l:=b) λx hx=> ?_]
    ·have h3:=qL hs hi (mB x hx).1
     have h4:=qL hs hi (mB x hx).2
     constructor <;> constructor <;> omega
    ·have h3:=qL hs hi (mA x hx).1
     have h4:=qL hs hi (mA x hx).2
     constructor <;> constructor <;> omega
  have hk:=key (E.length - 1) (by omega)
  refine ⟨e0 - 1,hk.nf,λn=>(hk.mem n).trans ⟨λh=>h.2,λh=>⟨?_,h⟩⟩⟩
  by_cases c:n < E[E.length - 1]
  ·exact c
  ·have hi: ∀ m∈E,m<=E[E.length - 1]:=λm hm=>by
    obtain ⟨j,hj,rfl⟩:=List.mem_iff_getElem.1 hm
    by_cases c2:j=E.length - 1
    ·subst c2; exact Int.le_refl _
    ·exact Int.le_of_lt (qK hs hj (by omega) (by omega))
   have hA:hsR a n=false:=nN λx hx=>by have:=hi _ (mA x hx).2; omega
   have hB:hsR b n=false:=nN λx hx=>by have:=hi _ (mB x hx).2; omega
   rw [hA,hB,uc] at h
   cases h
theorem oX {a b:List aD} {mode lo:Int} {L:List aB} (h:a.length+b.length<=1000000) (hL:NF lo L) (hi: ∀ n,inP L n↔k6 mode (hsR a n) (hsR b n)=true): ∃ r,gx a b mode=some r/\rsp r=L:=by
 obtain ⟨l2,h1,h2⟩:=Dj a b mode
 exact ⟨_,Bf a b mode h,wc h1 hL λn=>(h2 n).trans (hi n).symm⟩
theorem lx (p:aB):[p].filter neS=if p.from_ < p.to then [p] else []:=by
 by_cases c:p.from_ < p.to
 ·rw [if_pos c,List.filter_cons_of_pos (show neS p=true from decide_eq_true c)]; rfl
 ·rw [if_neg c,List.filter_cons_of_neg (by simpa [neS] using c)]; rfl
theorem ud (f:aB->List aB) (hf: ∀ y,y.from_ < y.to -> ∀ lo,lo < y.from_->NF lo (f y) /\ ∀ z∈f y,z.to<=y.to): ∀ {l:List aB} {lo:Int},NF lo l->NF lo (l.flatMap f)
 | [],_,_=>trivial
 | y::l,lo,h=>by
  have h1:=h.1
  have h2:=h.2.1
  obtain ⟨a,b⟩:=hf y h2 lo h1
  rw [List.flatMap_cons]
  exact wm a b (by omega) (ud f hf h.2.2)
theorem EO {x:aB} (hx:x.from_ < x.to) (y:aB) (hy:y.from_ < y.to) (lo:Int) (hlo:lo < y.from_):NF lo (oq x y) /\ ∀ z∈oq x y,z.to<=y.to:=by
 have e1:=fD y.to x.from_
 have e2:=fQ y.from_ x.to
 have:oq x y=[(⟨y.from_,cB y.to x.from_⟩:aB)].filter neS++[(⟨imax y.from_ x.to,y.to⟩:aB)].filter neS:=List.filter_append (p:=neS) [(⟨y.from_,cB y.to x.from_⟩:aB)] [⟨imax y.from_ x.to,y.to⟩]
 rw [this,lx,lx]
 refine ⟨wm (t:=imax lo (cB y.to x.from_)) ?_ (λz hz=> ?_) (fQ _ _).1 ?_,λz hz=> ?_⟩
 ·split
  ·exact ⟨hlo,by assumption,trivial⟩
  ·trivial
 ·split at hz
  ·obtain rfl:=List.mem_singleton.1 hz; exact (fQ _ _).2.1
  ·cases hz
 ·split
  ·rename_i c
   dsimp only at c
   refine ⟨?_,c,trivial⟩
   have e3:=fQ lo (cB y.to x.from_)
   dsimp only
   omega
  ·trivial
 ·rcases List.mem_append.1 hz with hz | hz
  ·split at hz
   ·obtain rfl:=List.mem_singleton.1 hz; exact e1.1
   ·cases hz
  ·split at hz
   ·obtain rfl:=List.mem_singleton.1 hz; exact Int.le_refl _
   ·cases hz
theorem Al {x y:aB} {n:Int}:inP (oq x y) n↔(y.from_<=n/\n < y.to) /\ ¬ (x.from_<=n/\n < x.to)\/(y.from_<=n/\n < y.to/\x.from_<=n/\n < x.to/\x.to<=x.from_):=by
 have e1:=fD y.to x.from_
 have e2:=fQ y.from_ x.to
 have:oq x y=[(⟨y.from_,cB y.to x.from_⟩:aB)].filter neS++[(⟨imax y.from_ x.to,y.to⟩:aB)].filter neS:=List.filter_append (p:=neS) [(⟨y.from_,cB y.to x.from_⟩:aB)] [⟨imax y.from_ x.to,y.to⟩]
 rw [this,lx,lx,sZ]
 have key: ∀ p:aB,inP (if p.from_ < p.to then [p] else []) n↔p.from_<=n/\n < p.to:=λp=>by
  split
  ·exact n9
  ·exact ⟨λh=>absurd h gX,λh=>by omega⟩
 rw [key,key]
 dsimp only
 omega
theorem xJ {f:aB->List aB} {n:Int} {l:List aB}:inP (l.flatMap f) n ↔ ∃ y∈l,inP (f y) n:=by
 simp only [inP,List.mem_flatMap]
 exact ⟨λ⟨x,⟨y,hy,hx⟩,h⟩=>⟨y,hy,x,hx,h⟩,λ⟨y,hy,x,hx,h⟩=>⟨x,⟨y,hy,hx⟩,h⟩⟩
theorem qM {l:List aB} {lo:Int} (h:NF lo l) (x:aB):NF lo (oh l x) /\ ∀ n,inP (oh l x) n↔inP l n /\ ¬ (x.from_<=n/\n < x.to):=by
 unfold oh
 split
 ·exact ⟨h,λn=>⟨λh=>⟨h,by omega⟩,λh=>h.1⟩⟩
 ·refine ⟨ud _ (λy hy lo hlo=>EO (by omega) y hy lo hlo) h,λn=> ?_⟩
  rw [xJ]
  constructor
  ·rintro ⟨y,hy,h⟩
   rcases Al.1 h with h | h
   ·exact ⟨⟨y,hy,h.1⟩,h.2⟩
   ·omega
  ·rintro ⟨⟨y,hy,h⟩,h2⟩
   exact ⟨y,hy,Al.2 (.inl ⟨h,h2⟩)⟩
theorem Dl (s:List aB) (x:aB):inL s x=s.flatMap λy=>[m5 x y].filter neS:=by
 induction s with
 | nil=>rfl
 | cons y s ih=>rw [List.flatMap_cons,<- ih]; exact List.filter_append (p:=neS) [m5 x y] (s.map (m5 x))
theorem Dm {l:List aB} {lo:Int} (h:NF lo l) (x:aB):NF lo (inL l x) /\ ∀ n,inP (inL l x) n↔inP l n/\x.from_<=n/\n < x.to:=by
 rw [Dl]
 refine ⟨ud _ (λy hy lo hlo=> ?_) h,λn=> ?_⟩
 ·have e1:=fD y.to x.to
  have e2:=fQ y.from_ x.from_
  rw [lx]
  split
  ·rename_i c
   exact ⟨⟨by show lo < imax _ _; omega,c,trivial⟩,λz hz=>by obtain rfl:=List.mem_singleton.1 hz; exact e1.1⟩
  ·exact ⟨trivial,λz hz=>by cases hz⟩
 ·rw [xJ]
  have key: ∀ y:aB,inP ([m5 x y].filter neS) n↔(y.from_<=n/\n < y.to)/\x.from_<=n/\n < x.to:=λy=>by
   have e1:=fD y.to x.to
   have e2:=fQ y.from_ x.from_
   rw [lx]
   split
   ·rename_i c
    rw [show m5 x y=⟨imax y.from_ x.from_,cB y.to x.to⟩ from rfl,n9]
    omega
   ·rename_i c
    change ¬ imax _ _ < cB _ _ at c
    exact ⟨λh=>absurd h gX,λh=>by omega⟩
  constructor
  ·rintro ⟨y,hy,h⟩
   exact ⟨⟨y,hy,((key y).1 h).1⟩,((key y).1 h).2⟩
  ·rintro ⟨⟨y,hy,h⟩,h2⟩
   exact ⟨y,hy,(key y).2 ⟨h,h2⟩⟩
theorem xK (n:Int):jQ n=some (imax (-1152921504606846976) (cB n 1152921504606846976)):=by
 unfold jQ imax cB
 by_cases c:n < -1152921504606846976
 ·rw [decide_eq_true c,cond_true]
  congr 1
  split <;> split at * <;> omega
 ·rw [decide_eq_false c,cond_false]
  by_cases c2:n > 1152921504606846976
  ·rw [decide_eq_true c2,cond_true]
   congr 1
   split <;> split at * <;> omega
  ·rw [decide_eq_false c2,cond_false]
   congr 1
   split <;> split at * <;> omega
theorem wo (x:aD): ∃ b,jE x=some b/\b.length<=1 /\ ∀ n,hsR b n=true↔(fy (sp x)).from_<=n/\n < (fy (sp x)).to:=by
 unfold jE mT
 rw [xK,aA,xK,aA,aA]
 dsimp only
 by_cases c:imax (-1152921504606846976) (cB x.to 1152921504606846976)<=imax (-1152921504606846976) (cB x.from_ 1152921504606846976)
 ·rw [decide_eq_true c]
  refine ⟨[],rfl,by decide,λn=>⟨λh=>(by cases h),λ⟨h1,h2⟩=> ?_⟩⟩
  exact absurd (show imax _ _ < imax _ _ from Int.lt_of_le_of_lt h1 h2) (Int.not_lt.2 c)
 ·rw [decide_eq_false c]
  refine ⟨_,rfl,Nat.le_refl _,λn=> ?_⟩
  rw [qH]
  exact n9
theorem Am {l:List aD} {lo:Int} (h:NF lo (rsp l)) (hl:l.length<=900000) (x:aD): ∃ r,gR l x=some r/\rsp r=if (fy (sp x)).to<=(fy (sp x)).from_ then rsp l else gI (rsp l) (fy (sp x)):=by
 obtain ⟨b,e1,e2,e3⟩:=wo x
 unfold gR
 rw [e1,aA]
 have hk: ∀ n,k6 0 (hsR l n) (hsR b n)=true↔inP (rsp l) n\/((fy (sp x)).from_<=n/\n < (fy (sp x)).to):=λn=>by
  rw [<- qH,<- e3 n]
  simp [k6]
 by_cases c:(fy (sp x)).to<=(fy (sp x)).from_
 ·obtain ⟨r,h1,h2⟩:=oX (a:=l) (b:=b) (mode:=0) (by omega) h λn=>by rw [hk n]; exact ⟨.inl,λh=>h.elim id λh=>by omega⟩
  exact ⟨r,by rw [h1]; rfl,by rw [if_pos c]; exact h2⟩
 ·have h0:NF (cB lo ((fy (sp x)).from_ - 1)) (rsp l):=h.mono (fD _ _).1
  obtain ⟨r,h1,h2⟩:=oX (a:=l) (b:=b) (mode:=0) (by omega) (qE _ h0 (x:=fy (sp x)) (by have:=fD lo ((fy (sp x)).from_ - 1); omega) (by omega)) λn=>by rw [hk n]; exact qF _ h0 (by omega)
  exact ⟨r,by rw [h1]; rfl,by rw [if_neg c]; exact h2⟩
theorem An {l:List aD} {lo:Int} (h:NF lo (rsp l)) (hl:l.length<=900000) (x:aD): ∃ r,iL l x=some r/\rsp r=oh (rsp l) (fy (sp x)):=by
 obtain ⟨b,e1,e2,e3⟩:=wo x
 unfold iL
 rw [e1,aA]
 obtain ⟨h3,h4⟩:=qM h (fy (sp x))
 obtain ⟨r,h1,h2⟩:=oX (a:=l) (b:=b) (mode:=1) (by omega) h3 λn=>by
  rw [h4 n,<- e3 n,<- qH]
  simp [k6]
 exact ⟨r,by rw [h1]; rfl,h2⟩
theorem EP {l:List aD} {lo:Int} (h:NF lo (rsp l)) (hl:l.length<=900000) (x:aD): ∃ r,mG l x=some r/\rsp r=inL (rsp l) (fy (sp x)):=by
 obtain ⟨b,e1,e2,e3⟩:=wo x
 unfold mG
 rw [e1,aA]
 obtain ⟨h3,h4⟩:=Dm h (fy (sp x))
 obtain ⟨r,h1,h2⟩:=oX (a:=l) (b:=b) (mode:=2) (by omega) h3 λn=>by
  rw [h4 n,<- e3 n,<- qH]
  simp [k6]
 exact ⟨r,by rw [h1]; rfl,h2⟩
structure FS (k:Int) (f:bE):Prop where
 m:f.most=k
 w:WS k f.want.l
theorem WS.nil {k:Int} (h:0<=k):WS k []:=⟨λy hy=>(by cases hy),h⟩
theorem WS.cnt {k:Int} {s:List aB} (h:WS k s):(s.length:Int)<=k:=by have:=h.len; have:=h.l; omega
theorem WS.pos {k:Int} {s:List aB} (h:WS k s) {n:Int} (hn:inP s n):0<=n/\n < 1152921504606846976:=by
 obtain ⟨x,hx,h1,h2⟩:=hn
 have:=h.b x hx
 omega
theorem Fu (n lo hi:Int) (h:lo<=hi): ∃ x,fJ n lo hi=some x/\lo<=x/\x<=hi:=by
 refine ⟨_,rfl,?_,?_⟩ <;> unfold imax cB <;> split <;> split <;> omega
theorem ER {most every:Int}: ∃ f,kB most every=some f/\FS (imax 1 (cB most 65536)) f:=by
 refine ⟨_,rfl,rfl,WS.nil ?_⟩
 have:=fQ 1 (cB most 65536)
 omega
theorem Bg {k:Int} (hk:0<=k) {f:bE} (h:FS k f): ∃ f',dB f=some f'/\FS k f':=⟨_,rfl,h.m,WS.nil hk⟩
theorem ET {k:Int} (hk:k<=100000) {f:bE} (h:FS k f) {i:Int} (h0:0<=i) (h1:i<=4611686018427487904): ∃ b f',fg f i=some (b,f')/\FS k f'/\(b=true->0<=i/\i < 1152921504606846976):=by
 unfold fg
 have hc:=h.w.cnt
 obtain ⟨b,b1,b2⟩:=EK f.want.l i (by omega)
 rw [show f.want=⟨f.want.l⟩ from rfl,b1,aA]
 obtain ⟨q,q1,q2⟩: ∃ q,lH (decide (i < 1152921504606846976))=some q/\0<=q/\q<=1:=by
  by_cases c:i < 1152921504606846976
  ·rw [decide_eq_true c]; exact ⟨1,rfl,by decide,by decide⟩
  ·rw [decide_eq_false c]; exact ⟨0,rfl,by decide,by decide⟩
 rw [q1,aA,w64 (by omega) (by omega),qG hk f.want.l _ h.w (by simp) (λx hx=>by rw [List.mem_singleton.1 hx]; dsimp only; omega),aA]
 refine ⟨b,_,rfl,⟨h.m,h.w.Dd λx hx=> ?_⟩,λe=>h.w.pos (b2 e)⟩
 rw [List.mem_singleton.1 hx]
 exact sX (by dsimp only; omega)
theorem EU {k:Int} (hk:k<=100000) {f:bE} (h:FS k f) (now len:Int): ∃ L f',eG f now len=some (L,f')/\FS k f'/\L.length<=8 /\ ∀ z∈L,0<=z.from_/\z.from_ < z.to/\z.to<=1152921504606846976:=by
 unfold eG
 have hc:=h.w.cnt
 obtain ⟨i1,_⟩:=De (x:=fy ⟨0,len⟩) h.w
 have hl:=sY f.want.l (fy ⟨0,len⟩)
 rw [show f.want=⟨f.want.l⟩ from rfl,ub f.want.l _ (by omega),aA]
 generalize inL f.want.l (fy ⟨0,len⟩)=L at i1 hl ⊢
 have hd: ∃ d:Bool,((bif ((L.length:Int) == 0) then some true else some (decide (now < f.due))):Option Bool)=some d:=by
  cases ((L.length:Int) == 0) <;> exact ⟨_,rfl⟩
 obtain ⟨d,hd⟩:=hd
 rw [hd,aA]
 cases d with
 | true=>exact ⟨[],f,rfl,h,Nat.zero_le _,λz hz=>by cases hz⟩
 | false =>
  have e1:=fD (L.length:Int) 8
  rw [cond_false,cX (by omega) (by omega) (by omega),aA]
  refine ⟨_,_,rfl,⟨h.m,h.w⟩,?_,λz hz=> ?_⟩
  ·obtain ⟨n,hn⟩:=Int.eq_ofNat_of_zero_le (show 0<=cB (L.length:Int) 8 by omega)
   rw [hn,show (0:Int)=((0:Nat):Int) from rfl,qj]
   simp
   omega
  ·refine (i1 z ?_).1
   obtain ⟨n,hn⟩:=Int.eq_ofNat_of_zero_le (show 0<=cB (L.length:Int) 8 by omega)
   rw [hn,show (0:Int)=((0:Nat):Int) from rfl,qj] at hz
   exact List.mem_of_mem_take (List.mem_of_mem_drop hz)
theorem Dr {k:Int} (hk0:1<=k) (hk:k<=100000) {f:bE} (h:FS k f) (x:aB) {l:List aB} (hl:l.length<=1000000) (hb: ∀ y∈l,0<=y.to): ∃ n f',eO f x l=some (n,f')/\FS k f':=by
 unfold eO
 obtain ⟨a,a1,a2,a3⟩:=Fu x.from_ 0 1152921504606846976 (by decide)
 obtain ⟨b,b1,b2,b3⟩:=Fu x.to 0 1152921504606846976 (by decide)
 have hm:=h.m
 have e1:=fD b (a+k)
 rw [a1,aA,b1,aA,show dB f=some ⟨f.most,f.every,0,⟨[]⟩⟩ from rfl,aA,hm,w64 (by omega) (by omega)]
 dsimp only
 rw [oW [] _ (by simp) (λy hy=>by rw [List.mem_singleton.1 hy]; refine ⟨?_,?_,?_,?_⟩ <;> (dsimp only; omega)),aA]
 have hw:WS k (gu [] [⟨a,cB b (a+k)⟩]):=by
  show WS k (if _ then _ else _)
  split
  ·exact WS.nil (by omega)
  ·rename_i c
   dsimp only at c
   refine ⟨λy hy=> ?_,?_⟩
   ·rw [List.mem_singleton.1 (show y∈[_] from hy)]; dsimp only; omega
   ·show cB b (a+k) - a+0<=k; omega
 generalize gu [] [⟨a,cB b (a+k)⟩]=W at hw ⊢
 have hw2:WS k (mZ W (l.map fy)):=hw.Dd λy hy=>by
  obtain ⟨z,hz,rfl⟩:=List.mem_map.1 hy
  exact sX (hb z hz)
 rw [qG hk W l hw hl hb,aA,wj hw2 (by omega),aA]
 exact ⟨_,_,rfl,rfl,hw2⟩
theorem GZ {a b:Int} (h: ¬ a=b):(a == b)=false:=by simpa using h
end Go.Tw.X
set_option maxRecDepth 20000
namespace Go.Tw.X
open Go Go.Tw
def Hi (l:List oR) (b:Int):Option oR:=l.find? λx=>decide (x.first<=b) && decide (b<=x.last)
def fnd (b:Int):oR×Bool:=match Hi uB b with
 | some x=>(x,true)
 | none=>(⟨0,0,0,0,0⟩,false)
def d0:qh:=⟨0,0,0⟩
def o0:xh:=⟨false,false,false,false,0,[]⟩
end Go.Tw.X
set_option maxHeartbeats 2000000
namespace Go.Tw.X
open Go Go.Tw
def p0:AP:=⟨0,o0,ByteArray.mk #[],d0,[]⟩
end Go.Tw.X
set_option maxHeartbeats 1000000
namespace Go.Tw.X
open Go Go.Tw
theorem EV {n:Nat} {a b:Int} (h:(n:Int) < a/\(n:Int) < b):((bif (decide ((n:Int) < a)) then some (decide ((n:Int) < b)) else some false):Option Bool)=some true:=by
 rw [decide_eq_true h.1,decide_eq_true h.2]; rfl
theorem EW {n:Nat} {a b:Int} (h: ¬ ((n:Int) < a/\(n:Int) < b)):((bif (decide ((n:Int) < a)) then some (decide ((n:Int) < b)) else some false):Option Bool)=some false:=by
 by_cases c:(n:Int) < a
 ·rw [decide_eq_true c,decide_eq_false (by omega: ¬ (n:Int) < b)]; rfl
 ·rw [decide_eq_false c]; rfl
theorem Hj {a:Int}:(a != a)=false:=by simp
theorem EX (s:ByteArray):(s.toList == (ByteArray.mk #[]).toList)=decide (s=noS):=mm s noS
theorem EY {s:ByteArray} (h:s.size<=12000):(zT s).1.size<=12000:=by
 have v0:SZ s.size (⟨s,0⟩:aG):=⟨⟨by show s.size<=1000000; omega,.inl rfl⟩,Nat.le_refl _⟩
 have s1:SZ s.size (zF s).2:=kU (kU (vQ _ (vQ _ (kU (kU v0)))))
 have:=(tL s1.1 s1.2).1
 have h2:(zT s).1.size<=s.size:=this
 omega
theorem y6 (a:aN) (s:ByteArray) (ha:SW a) (pa:(a.rows.flatMap fF).length<=12000) (h:s.size<=100000) (ht:(zT s).1.size<=12000):SW (mK a s).1/\((mK a s).1.rows.flatMap fF).length<=(a.rows.flatMap fF).length+s.size:=by
 have z:SW jc/\(jc.rows.flatMap fF).length<=(a.rows.flatMap fF).length+s.size:=⟨qs,Nat.zero_le _⟩
 unfold mK
 split
 ·exact z
 ·split
  ·exact z
  ·rename_i hE
   split
   ·exact z
   ·obtain ⟨vB,vC,vF,vH,vK,vN,vR⟩:=zVI (s:=s) (by omega)
    obtain ⟨he,hs0⟩:=vf vR (Classical.not_not.1 hE)
    split
    ·exact z
    ·rename_i l hl
     split
     ·exact z
     ·refine ⟨(qB ha pa h ht he hl).1,?_⟩
      have p3:=tT _ _ _ _ hl
      have p4:=yX ((0:Nat):Int) (zR s).1
      have p5:=CE (by omega) he
      have p6:((a.rows.drop 0).flatMap fF).length=(a.rows.flatMap fF).length:=by simp
      simp only [List.flatMap_nil,List.length_nil] at p3
      show (l.flatMap fF).length<=_
      omega
def EZ (h:ByteArray) (i:Nat):Bool:=match (sbs h)[i / 8]? with | some b=>decide ((b / 2 ^ (i % 8)) % 2=1) | none=>false
theorem y7: ∀ (n:Nat) (l:List Nat),l.Nodup->(∀ x∈l,x < n)->l.length<=n/\(l.length=n -> ∀ i,i < n->i∈l)
 | 0,l,_,h=>by
  have:l=[]:=by
   cases l with
   | nil=>rfl
   | cons a l=>exact absurd (h a List.mem_cons_self) (Nat.not_lt_zero a)
  subst this
  exact ⟨Nat.le_refl _,λ_ i hi=>absurd hi (Nat.not_lt_zero i)⟩
 | n+1,l,hn,h=>by
  by_cases hm:n∈l
  ·have hl:=List.length_erase_of_mem hm
   have hpos:0 < l.length:=List.length_pos_of_mem hm
   obtain ⟨h1,h2⟩:=y7 n (l.erase n) (hn.erase n) (λx hx=>by
    have h3:=(hn.mem_erase_iff.1 hx)
    have:=h x h3.2
    have:=h3.1
    omega)
   refine ⟨by omega,λe i hi=> ?_⟩
   by_cases hin:i=n
   ·rw [hin]; exact hm
   ·exact List.mem_of_mem_erase (h2 (by omega) i (by omega))
  ·obtain ⟨h1,h2⟩:=y7 n l hn (λx hx=>by
    have:=h x hx
    have:x≠n:=λe=>hm (e ▸ hx)
    omega)
   exact ⟨by omega,λe=>by omega⟩
structure SL (P:List ByteArray) (l:List (Int×ByteArray)):Prop where
 nd:(l.map Prod.fst).Nodup
 at_: ∀ p∈l,∃ i:Nat,p.1=(i:Int)/\P[i]?=some p.2
theorem Du (P:List ByteArray):SL P []:=⟨List.nodup_nil,λp hp=>by cases hp⟩
theorem qN {α:Type} {k:Int}: ∀ {l:List (Int×α)},mgl k l=none -> ∀ p∈l,p.1≠k
 | [],_,p,hp=>by cases hp
 | (j,y)::l,h,p,hp=>by
  unfold mgl at h
  split at h
  ·cases h
  ·rename_i hne
   rcases List.mem_cons.1 hp with rfl | hp
   ·exact λe=>hne e.symm
   ·exact qN h p hp
theorem ly {α:Type} {k:Int} {x:α}: ∀ {l:List (Int×α)},(l.map Prod.fst).Nodup->(k,x)∈l->mgl k l=some x
 | (j,y)::l,hn,hm=>by
  rw [List.map_cons,List.nodup_cons] at hn
  unfold mgl
  rcases List.mem_cons.1 hm with h | h
  ·injection h with h1 h2
   rw [if_pos h1,h2]
  ·split
   ·rename_i e
    exact absurd (List.mem_map_of_mem (f:=Prod.fst) h) (by rw [e]; exact hn.1)
   ·exact ly hn.2 h
theorem SL.add {P:List ByteArray} {l:List (Int×ByteArray)} (h:SL P l) {i:Nat} {d:ByteArray} (hi:P[i]?=some d) (hn:mgl (i:Int) l=none):SL P (msl (i:Int) d l)/\msl (i:Int) d l=l++[((i:Int),d)]:=by
 have e:=vX (i:Int) d l (qN hn)
 refine ⟨?_,e⟩
 rw [e]
 refine ⟨?_,λp hp=> ?_⟩
 ·rw [List.map_append,List.nodup_append]
  refine ⟨h.nd,by simp,λa ha b hb=> ?_⟩
  obtain ⟨p,hp,rfl⟩:=List.mem_map.1 ha
  simp at hb
  rw [hb]
  exact qN hn p hp
 ·rcases List.mem_append.1 hp with hp | hp
  ·exact h.at_ p hp
  ·rw [List.mem_singleton.1 hp]; exact ⟨i,rfl,hi⟩
theorem SL.le {P:List ByteArray} {l:List (Int×ByteArray)} (h:SL P l):l.length<=P.length/\(l.length=P.length -> ∀ i (hi:i < P.length),mgl (i:Int) l=some P[i]):=by
 have hk: ∀ p∈l,p.1=((p.1.toNat:Nat):Int):=λp hp=>by
  obtain ⟨i,e,_⟩:=h.at_ p hp
  rw [e]; simp
 have hnd:(l.map λp=>p.1.toNat).Nodup:=by
  have h1:=h.nd
  rw [List.nodup_iff_pairwise_ne] at h1 ⊢
  rw [List.pairwise_map] at h1 ⊢
  refine List.Pairwise.imp_of_mem ?_ h1
  intro a b ha hb hne e
  exact hne (by rw [hk a ha,hk b hb,e])
 obtain ⟨p1,p2⟩:=y7 P.length (l.map λp=>p.1.toNat) hnd (λx hx=>by
  obtain ⟨p,hp,rfl⟩:=List.mem_map.1 hx
  obtain ⟨i,e,hi⟩:=h.at_ p hp
  rw [e,Int.toNat_natCast]
  exact (List.getElem?_eq_some_iff.1 hi).1)
 rw [List.length_map] at p1 p2
 refine ⟨p1,λe i hi=> ?_⟩
 obtain ⟨p,hp,hpi⟩:=List.mem_map.1 (p2 e i hi)
 obtain ⟨j,ej,hj⟩:=h.at_ p hp
 have hji:j=i:=by rw [ej,Int.toNat_natCast] at hpi; exact hpi
 subst hji
 rw [List.getElem?_eq_getElem hi] at hj
 refine ly h.nd ?_
 rw [Option.some.inj hj,<- ej]
 exact hp
theorem rO {σ:Type} {s:bU} {n:Nat} (hc:s.count=(n:Int)) (hn:n<=1000000) (Y:σ->Int×Bool->Option (σ×Bool)) (S:Nat->σ) (h: ∀ i,i < n->Y (S i) ((i:Int),gL s.parts (i:Int))=some (S (i+1),true)):gi s Y (S 0)=some (S n):=by
 unfold gi
 refine eJ (λi:Nat=>((i:Int),S i)) n (.inl (S n)) rfl ?_ ?_ rfl
 ·intro i hi
  dsimp only
  rw [hc,decide_eq_true (by omega),cond_true,h i hi,aA]
  dsimp only
  rw [Bool.not_true,cond_false,w64 (by omega) (by omega)]
  rfl
 ·dsimp only
  rw [hc,decide_eq_false (by omega),cond_false]
def fh (P:List ByteArray):List Int:=P.flatMap sbs
theorem pR (P:List ByteArray) (i:Nat) (h:i < P.length):fh (P.take (i+1))=fh (P.take i)++sbs P[i]:=by
 unfold fh
 rw [List.take_succ_eq_append_getElem h,List.flatMap_append]
 simp
theorem y8 {P:List ByteArray} {l:List (Int×ByteArray)} {id b:Int} (hid:1<=id) (h:SL P l) (hP:P.length<=4096) (hb:(fh P).length<=1000000) :
  fw ⟨id,(P.length:Int),some l,b⟩=some (if l.length < P.length then (noS,false) else (dM (fh P),true)):=by
 obtain ⟨h1,h2⟩:=h.le
 unfold fw
 dsimp only
 rw [GZ (by omega),cond_false,aA]
 show (bif decide (((l.length:Nat):Int) < (P.length:Int)) then _ else _)=_
 by_cases c:l.length < P.length
 ·rw [decide_eq_true (by omega),cond_true,if_pos c]
  rfl
 ·rw [decide_eq_false (by omega),cond_false,if_neg c]
  have hall:=h2 (by omega)
  have hpre: ∀ i,(fh (P.take i)).length<=(fh P).length:=λi=>by
   have e:fh P=fh (P.take i)++fh (P.drop i):=by
    unfold fh
    rw [<- List.flatMap_append,List.take_append_drop]
   rw [e,List.length_append]
   omega
  have e:=rO (s:=⟨id,(P.length:Int),some l,b⟩) (n:=P.length) rfl (by omega) (λa f=>(Option.bind (dS (cN.mk a.addr a.buf) (mgd (some l) f.1 (ByteArray.mk #[]))) λd=>some ((cN.mk d.addr d.buf),true))) (λi=>cN.mk (decide (0 < i)) (fh (P.take i))) (λi hi=>by
   dsimp only
   have hg:mgd (some l) (i:Int) (ByteArray.mk #[])=P[i]:=by
    unfold mgd
    rw [Option.getD_some,hall i hi,Option.getD_some]
   have h3:=hpre (i+1)
   rw [pR P i hi,List.length_append,bC] at h3
   rw [hg]
   unfold dS
   rw [bQ (by dsimp only; omega),aA,aA,pR P i hi]
   rfl)
  try dsimp only at e
  rw [show (cN.mk false ([]:List Int))=cN.mk (decide (0 < 0)) (fh (P.take 0)) from rfl,e,aA]
  try dsimp only
  rw [List.take_length]
  rfl
theorem vk {α:Type} [BEq α] [LawfulBEq α]: ∀ (A B:List α),A.Nodup->(∀ x∈A,x∈B)->A.length<=B.length
 | [],B,_,_=>Nat.zero_le _
 | a::A,B,h,hs=>by
  rw [List.nodup_cons] at h
  have ha:=hs a List.mem_cons_self
  have e:=List.length_erase_of_mem ha
  have hp:0 < B.length:=List.length_pos_of_mem ha
  have:=vk A (B.erase a) h.2 λx hx=>by
   have hne:x≠a:=λe=>h.1 (e ▸ hx)
   exact (List.mem_erase_of_ne hne).2 (hs x (List.mem_cons_of_mem _ hx))
  rw [List.length_cons]
  omega
theorem SL.full {P:List ByteArray} {l:List (Int×ByteArray)} (hall: ∀ i:Nat,i < P.length->(mgl (i:Int) l).isSome=true):P.length<=l.length:=by
 have h:=vk ((List.range P.length).map λi:Nat=>(i:Int)) (l.map Prod.fst) (by
  rw [List.nodup_iff_pairwise_ne,List.pairwise_map]
  exact (List.nodup_iff_pairwise_ne.1 List.nodup_range).imp λh e=>h (by omega)) (λx hx=>by
   obtain ⟨i,hi,rfl⟩:=List.mem_map.1 hx
   have:=hall i (List.mem_range.1 hi)
   rw [Option.isSome_iff_exists] at this
   obtain ⟨d,hd⟩:=this
   exact List.mem_map.2 ⟨((i:Int),d),kX hd,rfl⟩)
 simpa using h
theorem or8 {a b:Nat} (ha:a < 256) (hb:b < 256):Go.bits .or .u8 (a:Int) (b:Int)=((a ||| b:Nat):Int):=by
 show IntKind.u8.wrap ((BitVec.ofInt 8 (a:Int) ||| BitVec.ofInt 8 (b:Int)).toNat:Int)=_
 rw [BitVec.ofInt_natCast,BitVec.ofInt_natCast,BitVec.toNat_or,BitVec.toNat_ofNat,BitVec.toNat_ofNat,Nat.mod_eq_of_lt ha,Nat.mod_eq_of_lt hb]
 have:=Nat.or_lt_two_pow (n:=8) ha hb
 exact F1 (by omega) (by omega)
theorem qO (b j:Nat):(((b:Int) / 2 ^ j) % 2=1)↔b.testBit j=true:=by
 rw [Nat.testBit_eq_decide_div_mod_eq,decide_eq_true_eq]
 have:((b:Int) / 2 ^ j) % 2=((b / 2 ^ j % 2:Nat):Int):=by
  rw [Int.natCast_emod,Int.natCast_ediv,Int.natCast_pow]
  rfl
 rw [this]
 omega
def qP (B:List Int) (i:Nat):List Int:=B.set (i / 8) (Go.bits .or .u8 ((B[i / 8]?).getD 0) (IntKind.u8.wrap (1*2 ^ (min (i % 8) 8))))
theorem E0 (k:Nat) (h:k < 8):IntKind.u8.wrap (1*2 ^ (min k 8))=((2 ^ k:Nat):Int):=by
 have:k=0\/k=1\/k=2\/k=3\/k=4\/k=5\/k=6\/k=7:=by omega
 rcases this with rfl | rfl | rfl | rfl | rfl | rfl | rfl | rfl <;> decide
theorem E1 (k:Nat) (h:k < 8):2 ^ k < 256:=by
 have:k=0\/k=1\/k=2\/k=3\/k=4\/k=5\/k=6\/k=7:=by omega
 rcases this with rfl | rfl | rfl | rfl | rfl | rfl | rfl | rfl <;> decide
def rP (B:List Int) (i:Nat):Bool:=match B[i / 8]? with
 | some b=>decide ((b / 2 ^ (i % 8)) % 2=1)
 | none=>false
theorem E2 {B:List Int} (h:BB B) {i:Nat} (hi:i / 8 < B.length):BB (qP B i)/\(qP B i).length=B.length /\ ∀ j,rP (qP B i) j=(decide (j=i) || rP B j):=by
 have hb:=h _ (List.getElem_mem hi)
 obtain ⟨b,hbn⟩:=Int.eq_ofNat_of_zero_le hb.1
 have hb2:b < 256:=by omega
 have hk:i % 8 < 8:=Nat.mod_lt _ (by decide)
 have hp:=E1 (i % 8) hk
 have hv:Go.bits .or .u8 ((B[i / 8]?).getD 0) (IntKind.u8.wrap (1*2 ^ (min (i % 8) 8)))=((b ||| 2 ^ (i % 8):Nat):Int):=by
  rw [List.getElem?_eq_getElem hi,Option.getD_some,hbn,E0 _ hk,or8 hb2 hp]
 have hlt:=Nat.or_lt_two_pow (n:=8) hb2 hp
 have hlen:(qP B i).length=B.length:=by unfold qP; rw [List.length_set]
 refine ⟨?_,hlen,λj=> ?_⟩
 ·unfold qP
  rw [hv]
  intro x hx
  rcases List.mem_or_eq_of_mem_set hx with hx | rfl
  ·exact h x hx
  ·omega
 ·unfold rP qP
  rw [hv,List.getElem?_set]
  by_cases hq:i / 8=j / 8
  ·rw [if_pos hq,if_pos hi,<- hq,List.getElem?_eq_getElem hi,hbn]
   dsimp only
   have e1:decide ((((b ||| 2 ^ (i % 8):Nat):Int) / 2 ^ (j % 8)) % 2=1)=(b ||| 2 ^ (i % 8)).testBit (j % 8):=by
    rw [Bool.eq_iff_iff,decide_eq_true_eq]
    exact qO _ _
   have e2:decide (((b:Int) / 2 ^ (j % 8)) % 2=1)=b.testBit (j % 8):=by
    rw [Bool.eq_iff_iff,decide_eq_true_eq]
    exact qO _ _
   rw [e1,e2,Nat.testBit_or,Nat.testBit_two_pow]
   have e3:decide (i % 8=j % 8)=decide (j=i):=by
    rw [Bool.eq_iff_iff,decide_eq_true_eq,decide_eq_true_eq]
    omega
   rw [e3,Bool.or_comm]
  ·rw [if_neg hq,show decide (j=i)=false from decide_eq_false (λe=>hq (by rw [e])),Bool.false_or]
theorem ue: ∀ (L:List Nat) {B:List Int},BB B->(∀ i∈L,i / 8 < B.length)->BB (L.foldl qP B)/\(L.foldl qP B).length=B.length /\ ∀ j,rP (L.foldl qP B) j=(decide (j∈L) || rP B j)
 | [],B,h,_=>⟨h,rfl,λj=>by simp⟩
 | i::L,B,h,hl=>by
  obtain ⟨h1,h2,h3⟩:=E2 h (hl i List.mem_cons_self)
  obtain ⟨k1,k2,k3⟩:=ue L h1 λq hq=>by rw [h2]; exact hl q (List.mem_cons_of_mem _ hq)
  refine ⟨k1,k2.trans h2,λj=> ?_⟩
  rw [List.foldl_cons,k3 j,h3 j]
  by_cases h4:j=i
  ·subst h4; simp
  ·simp [h4]
def iH (l:List (Int×ByteArray)) (n:Nat):List Nat:=(List.range n).filter λi=>(mgl (i:Int) l).isSome
theorem E3 {l:List (Int×ByteArray)} {n:Nat} {id b:Int} (hn:n<=5000):eH ⟨id,(n:Int),some l,b⟩=some ((iH l n).map λi:Nat=>(i:Int)):=by
 unfold eH fT
 have hlen: ∀ i,(iH l i).length<=i:=λi=>by
  unfold iH
  have:=List.length_filter_le (λq:Nat=>(mgl (q:Int) l).isSome) (List.range i)
  rw [List.length_range] at this
  exact this
 have:=rO (s:=⟨id,(n:Int),some l,b⟩) (n:=n) rfl (by omega) (λs32 x3=>(bif (x3.2 == true) then (Option.bind (chk (cQ s32.length [x3.1].length 8)) λ_=>some ((s32++[x3.1]),true)) else some (s32,true))) (λi=>(iH l i).map λi:Nat=>(i:Int)) (λi hi=>by
  dsimp only
  have hs:iH l (i+1)=iH l i++(if (mgl (i:Int) l).isSome=true then [i] else []):=by
   unfold iH
   rw [List.range_succ,List.filter_append]
   congr 1
   rw [List.filter_cons]
   rfl
  have hh:gL (some l) (i:Int)=(mgl (i:Int) l).isSome:=rfl
  have:=hlen i
  rw [hh,hs]
  cases hm:(mgl (i:Int) l).isSome with
  | true =>
   rw [show (true == true)=true from rfl,cond_true,bQ (by simp; omega),aA,if_pos rfl,List.map_append]
   rfl
  | false =>
   rw [show (false == true)=false from rfl,cond_false,if_neg (by simp),List.append_nil])
 rw [show ((iH l 0).map λi:Nat=>(i:Int))=([]:List Int) from rfl] at this
 rw [this]
 rfl
def uD (l:List (Int×ByteArray)) (n:Nat):List Int:=(iH l n).foldl qP (List.replicate ((n+7) / 8) 0)
theorem Ao (l:List (Int×ByteArray)) (n:Nat):BB (uD l n)/\(uD l n).length=(n+7) / 8 /\ ∀ j,rP (uD l n) j=decide (j∈iH l n):=by
 have h0:BB (List.replicate ((n+7) / 8) (0:Int)):=λx hx=>by rw [List.eq_of_mem_replicate hx]; exact ⟨by decide,by decide⟩
 obtain ⟨h1,h2,h3⟩:=ue (iH l n) h0 λi hi=>by
  have:=List.mem_range.1 (List.mem_filter.1 hi).1
  rw [List.length_replicate]
  omega
 refine ⟨h1,by rw [show (uD l n).length=_ from h2,List.length_replicate],λj=> ?_⟩
 rw [show rP (uD l n) j=_ from h3 j]
 have:rP (List.replicate ((n+7) / 8) (0:Int)) j=false:=by
  unfold rP
  rw [List.getElem?_replicate]
  split
  ·rename_i b hb
   split at hb
   ·injection hb with hb
    rw [<- hb]
    simp
   ·cases hb
  ·rfl
 rw [this,Bool.or_false]
theorem Dv {t:aZ} {l:List (Int×ByteArray)} {n:Nat} {id b:Int} (h:t.slot=⟨id,(n:Int),some l,b⟩) (hn:n<=5000):dR t=some ⟨1,2,[t.aK.k,id],dM (uD l n)⟩:=by
 unfold dR
 have e1:IntKind.i64.wrap ((IntKind.i64.wrap ((IntKind.i64.wrap ((n:Int)+8)) - 1)).tdiv 8)=(((n+7) / 8:Nat):Int):=by
  rw [w64 (x:=(n:Int)+8) (by omega) (by omega),w64 (x:=(n:Int)+8 - 1) (by omega) (by omega)]
  have:((n:Int)+8 - 1).tdiv 8=(((n+7) / 8:Nat):Int):=by
   rw [show (n:Int)+8 - 1=((n+7:Nat):Int) by omega]
   rfl
  rw [this,w64 (by omega) (by omega)]
 rw [h,show gD ⟨id,(n:Int),some l,b⟩=some (n:Int) from rfl,aA,e1,show chk (tA (((n+7) / 8:Nat):Int) 1)=some () from jA (by unfold big; omega),aA,E3 hn,aA,Int.toNat_natCast]
 have hlen: ∀ i,(((iH l n).take i).foldl qP (List.replicate ((n+7) / 8) (0:Int))).length=(n+7) / 8:=λi=>by
  have h0:BB (List.replicate ((n+7) / 8) (0:Int)):=λx hx=>by rw [List.eq_of_mem_replicate hx]; exact ⟨by decide,by decide⟩
  have:=(ue ((iH l n).take i) h0 λi hi=>by
   have:=List.mem_range.1 (List.mem_filter.1 (List.mem_of_mem_take hi)).1
   rw [List.length_replicate]
   omega).2.1
  rw [this,List.length_replicate]
 refine eJ (λi:Nat=>((i:Int),((iH l n).take i).foldl qP (List.replicate ((n+7) / 8) (0:Int)))) (iH l n).length (uD l n) rfl ?_ ?_ ?_
 ·intro i hi
  dsimp only
  have hm:=List.mem_range.1 (List.mem_filter.1 (List.getElem_mem hi)).1
  have hl:=hlen i
  have hh:(iH l n).length<=n:=by
   unfold iH
   have:=List.length_filter_le (λq:Nat=>(mgl (q:Int) l).isSome) (List.range n)
   rw [List.length_range] at this
   exact this
  have e2:(((iH l n)[i]:Nat):Int).tdiv 8=(((iH l n)[i] / 8:Nat):Int):=rfl
  have e3:(((iH l n)[i]:Nat):Int).tmod 8=(((iH l n)[i] % 8:Nat):Int):=rfl
  have hmod:(iH l n)[i] % 8 < 8:=Nat.mod_lt _ (by decide)
  rw [List.length_map,decide_eq_true (by omega),cond_true,bK _ i (by rw [List.length_map]; exact hi),aA,List.getElem_map,e2,e3,w64 (x:=(((iH l n)[i] / 8:Nat):Int)) (by omega) (by omega),bK _ ((iH l n)[i] / 8) (by rw [hl]; omega),aA,show chk (shk (((iH l n)[i] % 8:Nat):Int))=some () from jA (by omega),aA,aA,w64 (by omega) (by have:=hh; omega),List.take_succ_eq_append_getElem hi,List.foldl_append]
  simp only [List.foldl_cons,List.foldl_nil]
  rw [qP,List.getElem?_eq_getElem (by rw [hl]; omega),Option.getD_some,Int.toNat_natCast,Int.toNat_natCast]
  rfl
 ·dsimp only
  rw [List.length_map,decide_eq_false (by omega),cond_false,List.take_length]
  rfl
 ·rfl
theorem qQ {α:Type} (k j:Int) (x:α): ∀ l:List (Int×α),mgl k (msl j x l)=if k=j then some x else mgl k l
 | []=>by simp [msl,mgl]
 | (i,y)::l=>by
  unfold msl
  by_cases h:j=i
  ·subst h
   rw [if_pos rfl]
   simp only [mgl]
   split <;> rfl
  ·rw [if_neg h]
   simp only [mgl]
   rw [qQ k j x l]
   by_cases h1:k=i
   ·rw [if_pos h1,if_neg (λe=>h (by rw [<- e]; exact h1)),if_pos h1]
   ·rw [if_neg h1,if_neg h1]
structure SR (s:bU) (x:cM) (l:List (Int×ByteArray)):Prop where
 key:x.key=s.key
 cnt:s.count=(x.parts.length:Int)
 has:x.has=(List.range x.parts.length).map λi:Nat=>(mgl (i:Int) l).isSome
 sl:SL x.parts l
 zz: ∀ i:Nat,mgl (i:Int) l=none->i < x.parts.length->x.parts[i]?=some noS
 st:(s.parts=some l/\1<=s.key)\/(s.parts=none/\l=[]/\s.key=0/\x.parts=[])
 le:x.parts.length<=4096
theorem wq:SR ⟨0,0,none,0⟩ ⟨0,[],[]⟩ []:=⟨rfl,rfl,rfl,Du _,λ_ _ h=>absurd h (Nat.not_lt_zero _),.inr ⟨rfl,rfl,rfl,rfl⟩,by decide⟩
theorem SR.mh {s:bU} {x:cM} {l:List (Int×ByteArray)} (h:SR s x l) (i:Int):gL s.parts i=(mgl i l).isSome:=by
 rcases h.st with ⟨e,_⟩ | ⟨e,e2,_⟩
 ·rw [e]; rfl
 ·rw [e,e2]; rfl
theorem SR.hl {s:bU} {x:cM} {l:List (Int×ByteArray)} (h:SR s x l):x.has.length=x.parts.length:=by rw [h.has]; simp
theorem E4 (count index key:Int):((bif (decide (count < 1)) then some true else (bif (decide (count > 4096)) then some true else (bif (decide (index < 0)) then some true else (bif (decide (index>=count)) then some true else some (decide (key < 1)))))):Option Bool)=some (decide (count < 1\/count > 4096\/index < 0\/index>=count\/key < 1)):=by
 by_cases a:count < 1 <;> by_cases b:count > 4096 <;> by_cases c:index < 0 <;> by_cases d:index>=count <;> simp [a,b,c,d]
theorem xL: ∀ (P:List ByteArray) (i:Nat) (d:ByteArray),(fh (P.set i d)).length<=(fh P).length+d.size
 | [],i,d=>by simp [fh]
 | p::P,0,d=>by simp [fh,bC]; omega
 | p::P,i+1,d=>by
  have:=xL P i d
  simp only [fh,List.set_cons_succ,List.flatMap_cons,List.length_append] at this ⊢
  omega
theorem Dw (n:Nat):fh (List.replicate n noS)=[]:=by
 unfold fh
 rw [List.flatMap_eq_nil_iff]
 intro x hx
 rw [List.eq_of_mem_replicate hx]
 rfl
theorem Ap {α:Type} (a b:List α) (h:a.length=b.length):cpy a b=b:=by
 unfold cpy
 simp [h]
theorem Dx {s:bU} {x:cM} {l:List (Int×ByteArray)} (h:SR s x l) (hk:1<=s.key) {i:Nat} (hi:i < x.parts.length) (d:ByteArray) :
  ∃ s' x' l',(Option.bind ((bif (!(gL s.parts (i:Int))) then (Option.bind (chk s.parts.isSome) λ_=>some (bU.mk s.key s.count (AJ s.parts (i:Int) d) (IntKind.i64.wrap (s.bytes+(d.size:Int))))) else some s):Option bU) λa=>some ((0:Int),a))=some (0,s') /\
   (Option.bind (idx x.has (i:Int)) λb=>(Option.bind ((bif (!b) then (Option.bind (idx x.has (i:Int)) λg=>(Option.bind (idx x.parts (i:Int)) λk=>some (cM.mk x.key (x.has.set ((i:Int)).toNat true) (x.parts.set ((i:Int)).toNat d)))) else some x):Option cM) λf=>some (f,(0:Int))))=some (x',0)/\SR s' x' l'/\(fh x'.parts).length<=(fh x.parts).length+d.size/\s'.key=s.key:=by
 have e1:s.parts=some l:=by
  rcases h.st with ⟨e,_⟩ | ⟨_,_,e,_⟩
  ·exact e
  ·omega
 have e2:idx x.has (i:Int)=some (mgl (i:Int) l).isSome:=by
  rw [bK _ i (by rw [h.hl]; exact hi)]
  congr 1
  simp [h.has]
 rw [h.mh,e2,aA]
 cases hm:(mgl (i:Int) l).isSome with
 | true=>exact ⟨s,x,l,rfl,rfl,h,by omega,rfl⟩
 | false =>
  have hn:mgl (i:Int) l=none:=by
   cases hg:mgl (i:Int) l with
   | none=>rfl
   | some x=>rw [hg] at hm; cases hm
  rw [Bool.not_false,cond_true,cond_true,e1,show chk (some l).isSome=some () from rfl,aA,aA,aA,bK _ i hi,aA,aA,Int.toNat_natCast]
  have hs:SL (x.parts.set i d) l:=⟨h.sl.nd,λp hp=>by
   obtain ⟨j,ej,hj⟩:=h.sl.at_ p hp
   have hne:i≠j:=λe=>qN hn p hp (by rw [ej,e])
   exact ⟨j,ej,by rw [List.getElem?_set_ne hne]; exact hj⟩⟩
  obtain ⟨h1,h2⟩:=hs.add (i:=i) (d:=d) (by simp [hi]) hn
  refine ⟨_,_,msl (i:Int) d l,rfl,rfl,⟨h.key,by simpa using h.cnt,?_,h1,λj hj hj2=> ?_,.inl ⟨rfl,hk⟩,by simpa using h.le⟩,xL _ _ _,rfl⟩
  ·dsimp only
   rw [List.length_set,h.has]
   refine List.ext_getElem (by simp) λj hj1 hj2=> ?_
   simp only [List.length_set,List.length_map,List.length_range] at hj1
   rw [List.getElem_set]
   simp only [List.getElem_map,List.getElem_range,qQ]
   by_cases c:i=j
   ·subst c; simp
   ·rw [if_neg c,if_neg (by omega)]
  ·dsimp only at hj2 ⊢
   rw [qQ] at hj
   rw [List.length_set] at hj2
   have c:i≠j:=λe=>by subst e; simp at hj
   rw [if_neg (by omega)] at hj
   rw [List.getElem?_set_ne c]
   exact h.zz j hj hj2
theorem Gj {s:bU} {x:cM} {l:List (Int×ByteArray)} (h:SR s x l) (key index count:Int) (d:ByteArray) :
  ∃ e s' x' l',iD s key index count d=some (e,s')/\lL x key index count d=some (x',e)/\SR s' x' l'/\(fh x'.parts).length<=(fh x.parts).length+d.size/\(e≠0->s'=s/\x'=x)/\(s'.key=s.key\/s'.key=key)/\e≠4:=by
 unfold iD lL
 rw [E4,aA,aA]
 by_cases c:count < 1\/count > 4096\/index < 0\/index>=count\/key < 1
 ·rw [decide_eq_true c,cond_true,cond_true]
  exact ⟨6,s,x,l,rfl,rfl,h,by omega,λ_=>⟨rfl,rfl⟩,.inl rfl,by decide⟩
 ·rw [decide_eq_false c,cond_false,cond_false,h.key]
  by_cases c1:key < s.key
  ·rw [decide_eq_true c1,cond_true,cond_true]
   exact ⟨8,s,x,l,rfl,rfl,h,by omega,λ_=>⟨rfl,rfl⟩,.inl rfl,by decide⟩
  ·rw [decide_eq_false c1,cond_false,cond_false,show chk (tA count 1)=some () from jA (by unfold big; omega),aA,show chk (tA count 16)=some () from jA (by unfold big; omega),aA]
   obtain ⟨n,rfl⟩: ∃ n:Nat,count=(n:Int):=⟨count.toNat,by omega⟩
   obtain ⟨i,rfl⟩: ∃ i:Nat,index=(i:Int):=⟨index.toNat,by omega⟩
   by_cases c2:key > s.key
   ·rw [decide_eq_true c2,cond_true,GZ (by omega),cond_false,aA,aA,Int.toNat_natCast]
    have h0:SR ⟨key,(n:Int),some [],0⟩ ⟨key,List.replicate n false,List.replicate n noS⟩ []:=by
     refine ⟨rfl,by simp,?_,Du _,λi _ hi=> ?_,.inl ⟨rfl,show 1<=key by omega⟩,by simp; omega⟩
     ·dsimp only
      rw [List.length_replicate]
      refine List.ext_getElem (by simp) λj hj1 hj2=>by simp [mgl]
     ·dsimp only at hi ⊢
      rw [List.length_replicate] at hi
      simp [hi]
    obtain ⟨s',x',l',e1,e2,e3,e4,e5⟩:=Dx h0 (show 1<=key by omega) (i:=i) (by simp; omega) d
    dsimp only
    refine ⟨0,s',x',l',e1,e2,e3,?_,λh=>absurd rfl h,.inr e5,by decide⟩
    dsimp only at e4
    rw [Dw] at e4
    simp at e4
    omega
   ·have hk:key=s.key:=by omega
    subst hk
    have hk1:1<=s.key:=by omega
    rw [decide_eq_false c2,cond_false,show (s.key == s.key)=true by simp,cond_true,h.cnt,h.hl]
    by_cases c3:n=x.parts.length
    ·subst c3
     rw [Hj,cond_false,cond_false,aA,aA,Int.toNat_natCast,Ap _ x.has (by rw [List.length_replicate,h.hl]),Ap _ x.parts (by rw [List.length_replicate])]
     obtain ⟨s',x',l',e1,e2,e3,e4,e5⟩:=Dx h hk1 (i:=i) (by omega) d
     have ex:cM.mk s.key x.has x.parts=x:=by rw [<- h.key]
     rw [ex]
     exact ⟨0,s',x',l',e1,e2,e3,e4,λh=>absurd rfl h,.inl e5,by decide⟩
    ·rw [show ((n:Int) != (x.parts.length:Int))=true by simp; omega,cond_true,cond_true]
     exact ⟨1,s,x,l,rfl,rfl,h,by omega,λ_=>⟨rfl,rfl⟩,.inl rfl,by decide⟩
def whL (l:List (Int×ByteArray)) (n:Nat) (b:Bool):List Nat:=(List.range n).filter λi=>(mgl (i:Int) l).isSome == b
theorem Aq (l:List (Int×ByteArray)) (n:Nat) (b:Bool):(whL l n b).length<=n:=by
 unfold whL
 have:=List.length_filter_le (λi:Nat=>(mgl (i:Int) l).isSome == b) (List.range n)
 rw [List.length_range] at this
 exact this
theorem xM (l:List (Int×ByteArray)) (n:Nat) (b:Bool):whL l (n+1) b=whL l n b++(if ((mgl (n:Int) l).isSome == b)=true then [n] else []):=by
 unfold whL
 rw [List.range_succ,List.filter_append]
 congr 1
 rw [List.filter_cons]
 rfl
theorem Fv {s:bU} {l:List (Int×ByteArray)} {n:Nat} (hc:s.count=(n:Int)) (hm: ∀ i,gL s.parts i=(mgl i l).isSome) (hn:n<=5000) (b:Bool):fT s b=some ((whL l n b).map λi:Nat=>(i:Int)):=by
 unfold fT
 have:=rO (s:=s) (n:=n) hc (by omega) (λs32 x3=>(bif (x3.2 == b) then (Option.bind (chk (cQ s32.length [x3.1].length 8)) λ_=>some ((s32++[x3.1]),true)) else some (s32,true))) (λi=>(whL l i b).map λi:Nat=>(i:Int)) (λi hi=>by
  dsimp only
  have:=Aq l i b
  rw [hm,xM]
  cases hg:((mgl (i:Int) l).isSome == b) with
  | true =>
   rw [cond_true,bQ (by simp; omega),aA,if_pos rfl,List.map_append]
   rfl
  | false=>rw [cond_false,if_neg (by simp),List.append_nil])
 rw [show ((whL l 0 b).map λi:Nat=>(i:Int))=([]:List Int) from rfl] at this
 rw [this]
 rfl
theorem Gk {x:cM} {l:List (Int×ByteArray)} {n:Nat} (hh:x.has=(List.range n).map λi:Nat=>(mgl (i:Int) l).isSome) (hn:n<=5000) (b:Bool):kh x b=some ((whL l n b).map λi:Nat=>(i:Int)):=by
 unfold kh
 have hl:x.has.length=n:=by rw [hh]; simp
 refine eJ (λi:Nat=>((i:Int),(whL l i b).map λi:Nat=>(i:Int))) n _ rfl ?_ ?_ rfl
 ·intro i hi
  dsimp only
  have:=Aq l i b
  rw [hl,decide_eq_true (by omega),cond_true,bK _ i (by omega),aA,show x.has[i]'(by omega)=(mgl (i:Int) l).isSome by simp [hh],xM]
  cases hg:((mgl (i:Int) l).isSome == b) with
  | true=>rw [cond_true,bQ (by simp; omega),aA,aA,if_pos rfl,List.map_append,w64 (by omega) (by omega)]; rfl
  | false=>rw [cond_false,aA,if_neg (by simp),List.append_nil,w64 (by omega) (by omega)]; rfl
 ·dsimp only
  rw [hl,decide_eq_false (by omega),cond_false]
theorem Gl {s:bU} {x:cM} {l:List (Int×ByteArray)} (h:SR s x l) (hb:(fh x.parts).length<=100000) :
  ∃ w u b,fw s=some (w,b)/\lM x=some (u,b)/\(b=true->w=u/\w=dM (fh x.parts)):=by
 have hA: ∀ R:ByteArray->Option (ByteArray×Bool),Option.bind (iter (σ:=Int×ByteArray) (ρ:=ByteArray) (λd=>(bif (decide (d.1 < (x.parts.length:Int))) then (Option.bind (idx x.parts d.1) λf=>(Option.bind (chk (kG d.2.size f.size)) λ_=>some (.inl ((IntKind.i64.wrap (d.1+1)),(d.2++f))))) else some (.inr d.2))) (0,(ByteArray.mk #[]))) R=R (dM (fh x.parts)):=λR=>by
  refine eJ (λi:Nat=>((i:Int),dM (fh (x.parts.take i)))) x.parts.length (dM (fh x.parts)) rfl ?_ ?_ rfl
  ·intro i hi
   dsimp only
   have hpre:(fh (x.parts.take (i+1))).length<=(fh x.parts).length:=by
    have e:fh x.parts=fh (x.parts.take (i+1))++fh (x.parts.drop (i+1)):=by
     unfold fh
     rw [<- List.flatMap_append,List.take_append_drop]
    rw [e,List.length_append]
    omega
   have e2:=pR x.parts i hi
   have e3:(fh (x.parts.take (i+1))).length=(fh (x.parts.take i)).length+x.parts[i].size:=by rw [e2,List.length_append,bC]
   have:=h.le
   rw [decide_eq_true (by omega),cond_true,bK _ i hi,aA,eC (by rw [bO]; omega),aA,w64 (by omega) (by omega),e2,dH,oy]
   rfl
  ·dsimp only
   rw [decide_eq_false (by omega),cond_false,List.take_length]
 unfold lM
 rw [hA]
 have hle:=h.le
 rcases h.st with ⟨e1,e2⟩ | ⟨e1,e2,e3,e4⟩
 ·have hs:s=⟨s.key,(x.parts.length:Int),some l,s.bytes⟩:=by rw [<- e1,<- h.cnt]
  have hw:=y8 (b:=s.bytes) e2 h.sl (by omega) (by omega)
  rw [<- hs] at hw
  rw [hw,decide_eq_true (show x.key > 0 by rw [h.key]; omega),cond_true,Gk h.has (by omega),aA,aA]
  by_cases c:l.length < x.parts.length
  ·refine ⟨noS,dM (fh x.parts),false,by rw [if_pos c],?_,λh=>by cases h⟩
   have:whL l x.parts.length false≠[]:=λe=>by
    have:=SL.full (P:=x.parts) (l:=l) λi hi=>by
     have:=(List.filter_eq_nil_iff.1 e) i (List.mem_range.2 hi)
     simpa [Option.isSome_iff_ne_none] using this
    omega
   cases hq:whL l x.parts.length false with
   | nil=>exact absurd hq this
   | cons a b=>rfl
  ·refine ⟨dM (fh x.parts),dM (fh x.parts),true,by rw [if_neg c],?_,λ_=>⟨rfl,rfl⟩⟩
   have:whL l x.parts.length false=[]:=by
    unfold whL
    rw [List.filter_eq_nil_iff]
    intro i hi
    have hall:=(h.sl.le).2 (by have:=h.sl.le.1; omega) i (List.mem_range.1 hi)
    rw [hall]
    simp
   rw [this]
   rfl
 ·refine ⟨noS,dM (fh x.parts),false,?_,?_,λh=>by cases h⟩
  ·unfold fw
   rw [e3]
   rfl
  ·rw [h.key,e3]
   rfl
abbrev CL:=List (Int×CacheEntry)
structure CM (now:Int) (m:CL):Prop where
 nd:(m.map Prod.fst).Nodup
 r: ∀ e∈m,0<=e.1/\e.1 < 1152921504606846976
 a: ∀ e∈m,e.2.at_<=now
 da:(m.map λe=>e.2.at_).Nodup
 g: ∀ e∈m,e.2.l.length<=1000000
theorem oY {i:Int} {x:CacheEntry}: ∀ {m:CL},(m.map Prod.fst).Nodup -> ∀ e∈msl i x m,e=(i,x)\/(e∈m/\e.1≠i)
 | [],_,e,h=> .inl (List.mem_singleton.1 h)
 | (j,y)::m,hn,e,h=>by
  have hn':=List.nodup_cons.1 hn
  unfold msl at h
  split at h
  ·rename_i hij
   subst hij
   rcases List.mem_cons.1 h with h | h
   ·exact .inl h
   ·exact .inr ⟨List.mem_cons_of_mem _ h,λc=>hn'.1 (List.mem_map.2 ⟨e,h,c⟩)⟩
  ·rename_i hij
   rcases List.mem_cons.1 h with rfl | h
   ·exact .inr ⟨List.mem_cons_self,λc=>hij c.symm⟩
   ·rcases oY hn'.2 e h with c | ⟨c,d⟩
    ·exact .inl c
    ·exact .inr ⟨List.mem_cons_of_mem _ c,d⟩
theorem xN {i:Int} {x:CacheEntry}: ∀ {m:CL},(m.map Prod.fst).Nodup->((msl i x m).map Prod.fst).Nodup /\ ∀ j,j∈(msl i x m).map Prod.fst↔j=i\/j∈m.map Prod.fst
 | [],_=>⟨by simp [msl],λj=>by simp [msl]⟩
 | (j,y)::m,hn=>by
  have hn':=List.nodup_cons.1 hn
  obtain ⟨h1,h2⟩:=xN (i:=i) (x:=x) hn'.2
  unfold msl
  split
  ·rename_i hij
   subst hij
   refine ⟨hn,λj=> ?_⟩
   simp only [List.map_cons,List.mem_cons]
   exact ⟨λc=>c.elim .inl λd=> .inr (.inr d),λc=>c.elim .inl id⟩
  ·rename_i hij
   refine ⟨List.nodup_cons.2 ⟨λc=> ?_,h1⟩,λq=> ?_⟩
   ·rcases (h2 j).1 c with d | d
    ·exact hij d.symm
    ·exact hn'.1 d
   ·simp only [List.map_cons,List.mem_cons,h2]
    exact ⟨λc=>c.elim (λd=> .inr (.inl d)) λd=>d.elim .inl λe=> .inr (.inr e),λc=>c.elim (λd=> .inr (.inl d)) λd=>d.elim .inl λe=> .inr (.inr e)⟩
theorem Ar {i:Int} {x:CacheEntry}: ∀ {m:CL},(m.map λe=>e.2.at_).Nodup->(∀ e∈m,e.2.at_ < x.at_)->((msl i x m).map λe=>e.2.at_).Nodup /\ ∀ q∈(msl i x m).map (λe=>e.2.at_),q=x.at_\/q∈m.map λe=>e.2.at_
 | [],_,_=>⟨by simp [msl],λq h=>by simp [msl] at h; exact .inl h⟩
 | (j,y)::m,hn,hx=>by
  have hn':=List.nodup_cons.1 hn
  have hy:=hx _ List.mem_cons_self
  obtain ⟨h1,h2⟩:=Ar (i:=i) (x:=x) hn'.2 λe he=>hx e (List.mem_cons_of_mem _ he)
  unfold msl
  split
  ·refine ⟨List.nodup_cons.2 ⟨λc=> ?_,hn'.2⟩,λq hq=> ?_⟩
   ·obtain ⟨e,he,c⟩:=List.mem_map.1 c
    have:=hx e (List.mem_cons_of_mem _ he)
    dsimp only at c
    omega
   ·rcases List.mem_cons.1 hq with c | c
    ·exact .inl c
    ·exact .inr (List.mem_cons_of_mem _ c)
  ·refine ⟨List.nodup_cons.2 ⟨λc=> ?_,h1⟩,λq hq=> ?_⟩
   ·rcases h2 _ c with d | d
    ·dsimp only at d hy; omega
    ·exact hn'.1 d
   ·rcases List.mem_cons.1 hq with c | c
    ·exact .inr (c ▸ List.mem_cons_self)
    ·rcases h2 _ c with d | d
     ·exact .inl d
     ·exact .inr (List.mem_cons_of_mem _ d)
theorem wu {i:Int} {x:CacheEntry}: ∀ m:CL,(msl i x m).length<=m.length+1/\((mgl i m).isSome=true->(msl i x m).length=m.length)
 | []=>⟨Nat.le_refl _,λh=>by cases h⟩
 | (j,y)::m=>by
  obtain ⟨h1,h2⟩:=wu (i:=i) (x:=x) m
  unfold msl mgl
  split
  ·exact ⟨by simp,λ_=>rfl⟩
  ·refine ⟨by simp only [List.length_cons]; omega,λh=> ?_⟩
   simp only [List.length_cons,h2 h]
theorem wv {i:Int}: ∀ m:CL,(mdl i m).Sublist m/\(i∈m.map Prod.fst->(mdl i m).length+1=m.length)
 | []=>⟨.slnil,λh=>by cases h⟩
 | (j,y)::m=>by
  obtain ⟨h1,h2⟩:=wv (i:=i) m
  unfold mdl
  split
  ·exact ⟨List.sublist_cons_self _ _,λ_=>rfl⟩
  ·rename_i hij
   refine ⟨h1.cons_cons _,λh=> ?_⟩
   rcases List.mem_cons.1 h with c | c
   ·exact absurd c hij
   ·simp only [List.length_cons,h2 c]
theorem CM.sub {now:Int} {m m':CL} (h:CM now m) (hs:m'.Sublist m):CM now m':=⟨h.nd.sublist (hs.map _),λe he=>h.r e (hs.subset he),λe he=>h.a e (hs.subset he),h.da.sublist (hs.map _),λe he=>h.g e (hs.subset he)⟩
theorem CM.set {now:Int} {m:CL} (h:CM now m) {i:Int} (hi:0<=i/\i < 1152921504606846976) {l:List aM} (hl:l.length<=1000000):CM (now+1) (msl i ⟨l,now+1⟩ m):=by
 refine ⟨(xN h.nd).1,λe he=> ?_,λe he=> ?_,(Ar h.da λe he=> ?_).1,λe he=> ?_⟩
 ·rcases oY h.nd e he with rfl | ⟨c,_⟩
  ·exact hi
  ·exact h.r e c
 ·rcases oY h.nd e he with rfl | ⟨c,_⟩
  ·exact Int.le_refl _
  ·have:=h.a e c; omega
 ·have:=h.a e he; dsimp only; omega
 ·rcases oY h.nd e he with rfl | ⟨c,_⟩
  ·exact hl
  ·exact h.g e c
theorem Gm (x y:Int):gM x y=some (if x < y then -1 else if x > y then 1 else 0):=by
 unfold gM iY
 rw [aA,aA,show (x != x)=false by simp,show (y != y)=false by simp,cond_false,cond_false]
 by_cases c:x < y
 ·rw [decide_eq_true c,cond_true,if_pos c]
 ·rw [decide_eq_false c,cond_false,if_neg c]
  by_cases d:x > y
  ·rw [decide_eq_true d,cond_true,if_pos d]
  ·rw [decide_eq_false d,cond_false,if_neg d]
def atC (c:aP) (i:Int):Int:=(mgd c.l i ⟨[],0⟩).at_
theorem E5 (c:aP) (ks:List Int) (hn:ks≠[]) (hl:ks.length<=1000000): ∃ r,dG ks c=some r/\r∈ks /\ ∀ j∈ks,atC c r<=atC c j:=by
 unfold dG
 have h0:0 < ks.length:=List.length_pos_iff.2 hn
 have hst: ∀ s:Int×Int,(∃ n:Nat,s.2=n/\1<=n/\n<=ks.length/\s.1∈ks /\ ∀ j∈ks.take n,atC c s.1<=atC c j)->(∃ s',(λs100:Int×Int=>((bif (decide (s100.2 < (ks.length:Int))) then (Option.bind ((Option.bind (idx ks s100.2) λa=>(Option.bind (eW a s100.1 c) λb=>(bif (decide (b < 0)) then (Option.bind (idx ks s100.2) λf=>some f) else some s100.1))):Option Int) λg=>some (.inl (g,(IntKind.i64.wrap (s100.2+1))))) else some (.inr s100.1)):Option ((Int×Int) ⊕ Int))) s=some (.inl s')/\(∃ n:Nat,s'.2=n/\1<=n/\n<=ks.length/\s'.1∈ks /\ ∀ j∈ks.take n,atC c s'.1<=atC c j)/\ks.length - s'.2.toNat < ks.length - s.2.toNat)\/(∃ r,(λs100:Int×Int=>((bif (decide (s100.2 < (ks.length:Int))) then (Option.bind ((Option.bind (idx ks s100.2) λa=>(Option.bind (eW a s100.1 c) λb=>(bif (decide (b < 0)) then (Option.bind (idx ks s100.2) λf=>some f) else some s100.1))):Option Int) λg=>some (.inl (g,(IntKind.i64.wrap (s100.2+1))))) else some (.inr s100.1)):Option ((Int×Int) ⊕ Int))) s=some (.inr r)/\(r∈ks /\ ∀ j∈ks,atC c r<=atC c j)):=by
  rintro ⟨m,i⟩ ⟨n,h1,h2,h3,h4,h5⟩
  dsimp only at h1 h4 h5 ⊢
  subst h1
  by_cases d:n < ks.length
  ·left
   have hc:eW ks[n] m c=some (if atC c ks[n] < atC c m then -1 else if atC c ks[n] > atC c m then 1 else 0):=by
    unfold eW
    rw [show ((mgd c.l ks[n] (CacheEntry.mk ([]:List aM) 0)).at_)=atC c ks[n] from rfl,show ((mgd c.l m (CacheEntry.mk ([]:List aM) 0)).at_)=atC c m from rfl,Gm]
    rfl
   rw [decide_eq_true (by omega),cond_true,bK ks n d,aA,hc,aA,aA,w64 (by omega) (by omega)]
   have ht:ks.take (n+1)=ks.take n++[ks[n]]:=List.take_succ_eq_append_getElem d
   by_cases e:atC c ks[n] < atC c m
   ·rw [if_pos e,show decide ((-1:Int) < 0)=true from rfl,cond_true,aA]
    refine ⟨_,rfl,⟨n+1,rfl,by omega,d,List.getElem_mem d,λj hj=> ?_⟩,by dsimp only; omega⟩
    rw [ht] at hj
    rcases List.mem_append.1 hj with hj | hj
    ·have:=h5 j hj; dsimp only; omega
    ·rw [List.mem_singleton.1 hj]; exact Int.le_refl _
   ·rw [if_neg e]
    have:decide ((if atC c ks[n] > atC c m then (1:Int) else 0) < 0)=false:=by split <;> rfl
    rw [this,cond_false,aA]
    refine ⟨_,rfl,⟨n+1,rfl,by omega,d,h4,λj hj=> ?_⟩,by dsimp only; omega⟩
    rw [ht] at hj
    rcases List.mem_append.1 hj with hj | hj
    ·exact h5 j hj
    ·rw [List.mem_singleton.1 hj]; dsimp only; omega
  ·right
   rw [decide_eq_false (by omega),cond_false]
   refine ⟨m,rfl,h4,λj hj=>h5 j ?_⟩
   rw [List.take_of_length_le (by omega)]
   exact hj
 obtain ⟨r,e1,e2⟩:=nE (σ:=Int×Int) (λs=> ∃ n:Nat,s.2=n/\1<=n/\n<=ks.length/\s.1∈ks /\ ∀ j∈ks.take n,atC c s.1<=atC c j) (λs=>ks.length - s.2.toNat) _ hst (ks[0],1) ⟨1,rfl,Nat.le_refl _,h0,List.getElem_mem h0,λj hj=>by
  obtain ⟨k,ks',rfl⟩:=List.exists_cons_of_ne_nil hn
  rw [List.mem_singleton.1 (show j∈[k] from hj)]
  exact Int.le_refl _⟩
 rw [decide_eq_false (by omega),cond_false,show (0:Int)=((0:Nat):Int) from rfl,bK ks 0 h0,aA]
 exact ⟨r,(congrArg (λz=>Option.bind z _) e1).trans rfl,e2⟩
structure CS (k N:Int) (c:aP):Prop where
 most:c.most=k
 now:0<=c.now/\c.now<=N
 l: ∃ m,c.l=some m/\CM c.now m/\(m.length:Int)<=k
theorem CS.more {k N M:Int} {c:aP} (h:CS k N c) (hm:N<=M):CS k M c:=⟨h.most,⟨h.now.1,by have:=h.now.2; omega⟩,h.l⟩
theorem E6 (most:Int): ∃ c,kA most=some c/\CS (imax 1 (cB most 65536)) 0 c:=by
 refine ⟨_,rfl,rfl,⟨Int.le_refl _,Int.le_refl _⟩,[],rfl,⟨List.nodup_nil,λe h=>(by cases h),λe h=>(by cases h),List.nodup_nil,λe h=>(by cases h)⟩,?_⟩
 have:=fQ 1 (cB most 65536)
 show (0:Int)<=_
 omega
theorem Bh {k N:Int} (hk:0<=k) {c:aP} (h:CS k N c): ∃ c',fO c=some c'/\CS k N c':=by
 obtain ⟨m,m1,m2,m3⟩:=h.l
 refine ⟨_,rfl,h.most,h.now,[],?_,⟨List.nodup_nil,λe h=>(by cases h),λe h=>(by cases h),List.nodup_nil,λe h=>(by cases h)⟩,hk⟩
 show Ed c.l=_
 rw [m1]
 rfl
theorem oa (l:List aM) (h:l.length<=1000000):cT l=some l:=by
 unfold cT
 rw [bQ (by simp; omega),aA]
 rfl
theorem Dz {c:aP} {m:CL} (hm:c.l=some m) (hn:(m.map Prod.fst).Nodup) {i:Int} {e:CacheEntry} (h:(i,e)∈m):atC c i=e.at_:=by
 unfold atC mgd
 rw [hm,Option.getD_some,ly hn h]
 rfl
theorem Bi {k N:Int} {c:aP} (h:CS k N c) (hk:k<=100000): ∃ L,eE c=some L/\WS k L:=by
 obtain ⟨m,m1,m2,m3⟩:=h.l
 have h0: ∀ i∈m.map Prod.fst,0<=i/\i < 1152921504606846976:=λi hi=>by
  obtain ⟨e,he,rfl⟩:=List.mem_map.1 hi
  exact m2.r e he
 obtain ⟨a1,a2,a3⟩:=nM (m.map Prod.fst) [] trivial m2.nd (λi hi=>⟨(h0 i hi).1,gX⟩)
 refine ⟨_,rL m1 (by omega) m2.nd m2.r,⟨λy hy=> ?_,by rw [a3,List.length_map]; show (0:Int)+_<=_; omega⟩⟩
 generalize km [] (m.map Prod.fst)=L at a1 a2 hy
 have hne: ∀ (L:List aB) (lo:Int),NF lo L -> ∀ y∈L,lo < y.from_/\y.from_ < y.to:=by
  intro L
  induction L with
  | nil=>intro lo _ y hy; cases hy
  | cons z L ih =>
   intro lo hn y hy
   rcases List.mem_cons.1 hy with rfl | hy
   ·exact ⟨hn.1,hn.2.1⟩
   ·have:=ih _ hn.2.2 y hy
    have:=hn.1
    have:=hn.2.1
    omega
 have hb:=hne L _ a1 y hy
 have hlast:=(a2 (y.to - 1)).1 ⟨y,hy,by omega,by omega⟩
 rcases hlast with hlast | hlast
 ·exact absurd hlast gX
 ·have:=h0 _ hlast
  omega
def nm (hs:List Bool) (i:Nat):Nat->Nat
 | 0=>0
 | k+1=>nm hs i k+if hs[i+k]?.getD false=true then 2 ^ k else 0
theorem oZ (hs:List Bool) (i:Nat): ∀ k,nm hs i k < 2 ^ k
 | 0=>by simp [nm]
 | k+1=>by
  have:=oZ hs i k
  unfold nm
  split <;> omega
theorem vl (hs:List Bool) (i:Nat): ∀ k j,(nm hs i k).testBit j=(decide (j < k) && hs[i+j]?.getD false)
 | 0,j=>by simp [nm]
 | k+1,j=>by
  have hl:=oZ hs i k
  have ih:=vl hs i k j
  unfold nm
  split
  ·rename_i hk
   have e:nm hs i k+2 ^ k=2 ^ k*1 ||| nm hs i k:=by
    rw [<- Nat.two_pow_add_eq_or_of_lt hl 1]
    omega
   rw [e,Nat.testBit_or,Nat.mul_one,Nat.testBit_two_pow,ih]
   by_cases c:k=j
   ·subst c; simp [hk]
   ·by_cases c2:j < k
    ·simp [c,c2,show j < k+1 by omega]
    ·simp [c,c2,show ¬ j < k+1 by omega]
  ·rename_i hk
   rw [Nat.add_zero,ih]
   by_cases c:k=j
   ·subst c; simp [hk]
   ·by_cases c2:j < k
    ·simp [c,c2,show j < k+1 by omega]
    ·simp [c,c2,show ¬ j < k+1 by omega]
theorem xO (hs:List Bool) (i:Nat): ∀ k d,hs.length<=i+k->nm hs i (k+d)=nm hs i k
 | k,0,_=>rfl
 | k,d+1,h=>by
  rw [<- Nat.add_assoc,nm,xO hs i k d h,List.getElem?_eq_none (by omega)]
  simp
theorem Hk: ∀ k:Nat,k < 8->idx ([1,2,4,8,16,32,64,128]:List Int) (k:Int)=some ((2 ^ k:Nat):Int)
 | 0,_ | 1,_ | 2,_ | 3,_ | 4,_ | 5,_ | 6,_ | 7,_=>by rfl
 | k+8,h=>by omega
def xP (hs:List Bool):List Int:=(List.range ((hs.length+7) / 8)).map λj:Nat=>((nm hs (8*j) 8:Nat):Int)
theorem E7 (x:dL) (hn:x.slot.has.length<=5000):gV x=some ⟨1,2,[x.aK.k,x.slot.key],dM (xP x.slot.has)⟩:=by
 unfold gV
 generalize hhs:x.slot.has=hs at hn ⊢
 have hB: ∀ j,BB ((List.range j).map λj:Nat=>((nm hs (8*j) 8:Nat):Int)):=λj b hb=>by
  obtain ⟨i,_,rfl⟩:=List.mem_map.1 hb
  have:=oZ hs (8*i) 8
  omega
 refine eJ (λj:Nat=>(dM ((List.range j).map λj:Nat=>((nm hs (8*j) 8:Nat):Int)),((8*j:Nat):Int))) ((hs.length+7) / 8) (dM (xP hs)) rfl ?_ ?_ rfl
 ·intro j hj
  dsimp only
  rw [decide_eq_true (by omega),cond_true]
  have hin:iter (σ:=Int×Int) (ρ:=Int) (λa=>(Option.bind ((bif (decide (a.2 < 8)) then some (decide ((IntKind.i64.wrap (((8*j:Nat):Int)+a.2)) < (hs.length:Int))) else some false):Option Bool) λd=>(bif d then (Option.bind ((Option.bind (idx hs (IntKind.i64.wrap (((8*j:Nat):Int)+a.2))) λe=>(bif e then (Option.bind (idx [1,2,4,8,16,32,64,128] a.2) λf=>some (IntKind.i64.wrap (a.1+f))) else some a.1)):Option Int) λg=>some (.inl (g,(IntKind.i64.wrap (a.2+1))))) else some (.inr a.1)))) (0,0)=some ((nm hs (8*j) 8:Nat):Int):=by
   have hm:min 8 (hs.length - 8*j)<=8:=Nat.min_le_left _ _
   refine mi (λk:Nat=>(((nm hs (8*j) k:Nat):Int),(k:Int))) (min 8 (hs.length - 8*j)) _ ?_ ?_
   ·intro k hk
    have hlt:8*j+k < hs.length:=by omega
    have hb:=oZ hs (8*j) k
    have hp:2 ^ k<=128:=Nat.pow_le_pow_right (n:=2) (by decide) (show k<=7 by omega)
    dsimp only
    rw [decide_eq_true (by omega),cond_true,w64 (by omega) (by omega),aA,decide_eq_true (by omega),cond_true,show (((8*j:Nat):Int)+(k:Int))=((8*j+k:Nat):Int) by omega,bK _ _ hlt,aA,Hk k (by omega),aA]
    have hg:hs[8*j+k]?.getD false=hs[8*j+k]:=by rw [List.getElem?_eq_getElem hlt]; rfl
    rw [nm,hg]
    cases hs[8*j+k] with
    | true=>rw [cond_true,aA,if_pos rfl,w64 (by omega) (by omega),w64 (by omega) (by omega)]; simp
    | false=>rw [cond_false,aA,if_neg (by simp),w64 (by omega) (by omega)]; simp
   ·dsimp only
    by_cases c:8<=hs.length - 8*j
    ·rw [Nat.min_eq_left c,decide_eq_false (by omega),cond_false,aA,cond_false]
    ·rw [Nat.min_eq_right (by omega),decide_eq_true (by omega),cond_true,w64 (by omega) (by omega),aA,decide_eq_false (by omega),cond_false]
     have:=xO hs (8*j) (hs.length - 8*j) (8 - (hs.length - 8*j)) (by omega)
     rw [show hs.length - 8*j+(8 - (hs.length - 8*j))=8 by omega] at this
     rw [this]
  rw [hin,aA]
  have hb:=oZ hs (8*j) 8
  have hu:IntKind.u8.wrap ((nm hs (8*j) 8:Nat):Int)=((nm hs (8*j) 8:Nat):Int):=by
   show ((nm hs (8*j) 8:Nat):Int) % 256=_
   omega
  rw [hu,eC (by rw [bO,bO]; simp; omega),aA,w64 (by omega) (by omega),<- dH,List.range_succ,List.map_append]
  simp only [List.map_cons,List.map_nil]
  congr 3
 ·dsimp only
  rw [decide_eq_false (by omega),cond_false]
  rfl
theorem Bj {A B:List Int} (ha:BB A) (hb:BB B) (hl:A.length=B.length) (h: ∀ i,rP A i=rP B i):A=B:=by
 refine List.ext_getElem hl λj h1 h2=> ?_
 have b1:=ha _ (List.getElem_mem h1)
 have b2:=hb _ (List.getElem_mem h2)
 obtain ⟨x,hx⟩: ∃ x:Nat,A[j]=(x:Int):=⟨A[j].toNat,by omega⟩
 obtain ⟨y,hy⟩: ∃ y:Nat,B[j]=(y:Int):=⟨B[j].toNat,by omega⟩
 rw [hx,hy]
 rw [hx] at b1
 rw [hy] at b2
 congr 1
 refine Nat.eq_of_testBit_eq λt=> ?_
 by_cases c:t < 8
 ·have:=h (8*j+t)
  unfold rP at this
  rw [show (8*j+t) / 8=j by omega,show (8*j+t) % 8=t by omega,List.getElem?_eq_getElem h1,List.getElem?_eq_getElem h2,hx,hy] at this
  dsimp only at this
  rw [Bool.eq_iff_iff,decide_eq_true_eq,decide_eq_true_eq,qO,qO] at this
  rw [Bool.eq_iff_iff]
  exact this
 ·have hp:256<=2 ^ t:=Nat.pow_le_pow_right (n:=2) (by decide) (show 8<=t by omega)
  rw [Nat.testBit_lt_two_pow (by omega),Nat.testBit_lt_two_pow (by omega)]
theorem DA {l:List (Int×ByteArray)} {n:Nat} {hs:List Bool} (hh:hs=(List.range n).map λi:Nat=>(mgl (i:Int) l).isSome):xP hs=uD l n:=by
 have hl:hs.length=n:=by rw [hh]; simp
 obtain ⟨a1,a2,a3⟩:=Ao l n
 refine Bj (λb hb=> ?_) a1 (by rw [a2,xP]; simp [hl]) λi=> ?_
 ·obtain ⟨j,_,rfl⟩:=List.mem_map.1 hb
  have:=oZ hs (8*j) 8
  omega
 ·rw [a3 i]
  have hI:(i∈iH l n)↔(i < n/\(mgl (i:Int) l).isSome=true):=by
   unfold iH
   rw [List.mem_filter,List.mem_range]
  unfold rP xP
  rw [hl,List.getElem?_map]
  by_cases c:i / 8 < (n+7) / 8
  ·rw [List.getElem?_range c]
   dsimp only [Option.map_some]
   rw [Bool.eq_iff_iff,decide_eq_true_eq,decide_eq_true_eq,qO,vl,hI,show 8*(i / 8)+i % 8=i by omega]
   have:i % 8 < 8:=Nat.mod_lt _ (by decide)
   rw [decide_eq_true this,Bool.true_and]
   by_cases c2:i < n
   ·rw [List.getElem?_eq_getElem (by omega)]
    simp [hh,c2]
   ·rw [List.getElem?_eq_none (by omega)]
    simp [c2]
  ·have: ¬ i < n:=by omega
   rw [List.getElem?_eq_none (by simp; omega)]
   simp [hI,this]
theorem y9 {t:aZ} {x:dL} {l:List (Int×ByteArray)} (h:SR t.slot x.slot l):dR t=some ⟨1,2,[t.aK.k,t.slot.key],dM (uD l x.slot.parts.length)⟩:=by
 have hn:=h.le
 have e:=Dv (t:=⟨⟨t.slot.key,(x.slot.parts.length:Int),some l,t.slot.bytes⟩,t.aK⟩) (l:=l) (n:=x.slot.parts.length) rfl (by omega)
 rw [<- e]
 have h1:eH t.slot=some ((whL l x.slot.parts.length true).map λi:Nat=>(i:Int)):=by
  unfold eH
  rw [Fv h.cnt h.mh (by omega)]
  rfl
 have h2:eH ⟨t.slot.key,(x.slot.parts.length:Int),some l,t.slot.bytes⟩=some ((whL l x.slot.parts.length true).map λi:Nat=>(i:Int)):=by
  unfold eH
  rw [Fv (l:=l) (n:=x.slot.parts.length) rfl (λi=>rfl) (by omega)]
  rfl
 have h3:gD t.slot=some (x.slot.parts.length:Int):=congrArg some h.cnt
 unfold dR
 rw [h1,h2,h3]
 rfl
theorem DB: ∀ (k i acc:Nat) (l:List Int) (e:Int),rdp k i acc l = .inl e->e≠4
 | 0,_,_,_,e,h=>by rw [rdp] at h; injection h with h; subst h; decide
 | k+1,_,_,[],e,h=>by rw [rdp] at h; injection h with h; subst h; decide
 | k+1,i,acc,b::r,e,h=>by
  rw [rdp] at h
  split at h
  ·split at h
   ·injection h with h; subst h; decide
   ·cases h
  ·exact DB k _ _ _ e h
theorem oF {i:aG} (h:i.e≠4):(rdS i).2.e≠4:=by
 unfold rdS
 split
 ·cases hr:rdp 9 0 0 (sbs i.s) with
  | inl e=>exact DB _ _ _ _ e hr
  | inr p=>exact (by decide:(0:Int)≠4)
 ·exact h
theorem wx:jn.e≠4:=by decide
theorem lZ {i:aG} (m:Int) (h:i.e≠4):(cD i m).2.e≠4:=by
 unfold cD
 split
 ·exact wx
 ·exact oF h
theorem Gn {i:aG} (h:i.e≠4):(lR i).2.e≠4:=by
 have h1:=oF h
 unfold lR uC
 split
 ·exact h1
 ·split
  ·exact (by decide:(2:Int)≠4)
  ·exact (by decide:(0:Int)≠4)
theorem za: ∀ (k:Nat) (i:aG) (l:List aM),i.e≠4->(bkL k i l).2.e≠4
 | 0,_,_,h=>h
 | k+1,_,_,h=>za k _ _ (lZ _ (lZ _ h))
theorem Fw {i:aG} (h:i.e≠4):(bkS i).2.e≠4:=by
 unfold bkS
 split
 ·exact za _ _ _ (lZ _ h)
 ·exact za _ _ _ (lZ _ h)
theorem DD {i:aG} (left:Int) (h:i.e≠4):(jV i left).2.e≠4:=by
 refine lZ _ (lZ _ (lZ _ ?_))
 unfold ni
 split
 ·exact wx
 ·exact lZ _ h
theorem xQ: ∀ (k:Nat) (w:Int) (i:aG) (l:List aO),i.e≠4->(rrS k w i l).2.e≠4
 | 0,_,_,_,h=>h
 | k+1,w,i,l,h=>by
  rw [rrS]
  split
  ·split
   ·split
    ·exact xQ k _ _ _ wx
    ·exact xQ k _ _ _ (DD _ h)
   ·exact xQ k _ _ _ (DD _ h)
  ·exact h
theorem Gp {i:aG} (w:Int) (h:i.e≠4):(ig i w).2.e≠4:=by
 unfold ig
 split
 ·exact xQ _ _ _ _ (lZ _ h)
 ·exact xQ _ _ _ _ (lZ _ h)
theorem DE: ∀ (k:Nat) (w h:Int) (i:aG) (last:Int) (l:List (Int×aY)),i.e≠4->(dlL k w h i last l).2.e≠4
 | 0,_,_,_,_,_,hi=>hi
 | k+1,w,h,i,last,l,hi=>by
  rw [dlL]
  split
  ·refine DE k _ _ _ _ _ (Gp _ ?_)
   unfold dlI
   split
   ·unfold sq
    split
    ·exact wx
    ·exact oF hi
   ·exact oF hi
  ·exact hi
theorem DG {i:aG} (h:i.e≠4):jL i≠4:=by
 unfold jL
 split
 ·decide
 ·exact h
theorem DH (a:aN) (s:ByteArray):(mK a s).2≠4:=by
 have h0:(⟨s,0⟩:aG).e≠4:=(by decide:(0:Int)≠4)
 have hN:(zN s).2.e≠4:=oF (Fw (oF (oF (Gn (oF (oF (lZ _ (lZ _ (oF (oF h0))))))))))
 have hR:(zR s).2.e≠4:=DE _ _ _ _ _ _ hN
 unfold mK
 split
 ·exact (by decide:(1:Int)≠4)
 ·split
  ·exact DG hR
  ·split
   ·exact (by decide:(7:Int)≠4)
   ·split
    ·exact (by decide:(1:Int)≠4)
    ·split
     ·exact (by decide:(1:Int)≠4)
     ·exact (by decide:(0:Int)≠4)
structure TP (t:aZ) (x:dL) (q:Nat):Prop where
 sr: ∃ l,SR t.slot x.slot l
 hv:x.aK=fN t.aK
 sw:SW t.aK
 bd:(t.aK.rows.flatMap fF).length+(fh x.slot.parts).length<=q
theorem DI:TP ⟨⟨0,0,none,0⟩,jc⟩ ⟨fN jc,⟨0,[],[]⟩⟩ 0:=⟨⟨[],wq⟩,rfl,qs,Nat.le_refl _⟩
theorem TP.more {t:aZ} {x:dL} {q q':Nat} (h:TP t x q) (hq:q<=q'):TP t x q':=⟨h.sr,h.hv,h.sw,Nat.le_trans h.bd hq⟩
def TK (B:Int) (t:aZ):Prop:=(0<=t.slot.key/\t.slot.key<=B)/\(0<=t.aK.k/\t.aK.k<=B)
theorem DJ (D:Nat) (hD:D<=400) {t:aZ} {x:dL} {q:Nat} {g:aV} {y:bA} (h:TP t x q) (hq:q<=10600) (e1:y.kind=g.kind) (e2:y.aX=g.aX) (e3:y.data=g.data) (hd:g.data.size<=D) :
  ∃ e t' x',gE t g=some (e,t')/\kP x y=some (x',e)/\TP t' x' (q+D)/\(∀ B,TK B t->(∀ n∈g.aX,0<=n/\n<=B)->TK B t')/\e≠4/\t.aK.k<=t'.aK.k:=by
 obtain ⟨l,hs⟩:=h.sr
 unfold gE iq kP
 rw [e1,e2,e3]
 by_cases k1: ¬ g.kind=1
 ·rw [show (g.kind != 1)=true by simpa using k1,cond_true,cond_true,aA]
  exact ⟨5,t,x,rfl,rfl,h.more (by omega),(λ_ h _=>h),by decide,Int.le_refl _⟩
 replace k1:=Classical.not_not.1 k1
 rw [show (g.kind != 1)=false by simp [k1],cond_false,cond_false]
 by_cases k2: ¬ g.aX.length=5
 ·rw [show ((g.aX.length:Int) != 5)=true by simp; omega,cond_true,cond_true,aA]
  exact ⟨1,t,x,rfl,rfl,h.more (by omega),(λ_ h _=>h),by decide,Int.le_refl _⟩
 replace k2:=Classical.not_not.1 k2
 rw [show ((g.aX.length:Int) != 5)=false by simp; omega,cond_false,cond_false]
 obtain ⟨a,b,c,d,n,hg⟩: ∃ a b c d n,g.aX=[a,b,c,d,n]:=by
  match hh:g.aX,k2 with
  | [a,b,c,d,n],_=>exact ⟨a,b,c,d,n,rfl⟩
 rw [hg]
 simp only [show idx [a,b,c,d,n] 0=some a from rfl,show idx [a,b,c,d,n] 1=some b from rfl,show idx [a,b,c,d,n] 2=some c from rfl,show idx [a,b,c,d,n] 3=some d from rfl,show idx [a,b,c,d,n] 4=some n from rfl,aA]
 rw [h.hv,show (fN t.aK).k=t.aK.k from rfl]
 by_cases k3:b<=t.aK.k
 ·rw [decide_eq_true k3,cond_true,cond_true,aA]
  exact ⟨8,t,x,rfl,rfl,h.more (by omega),(λ_ h _=>h),by decide,Int.le_refl _⟩
 rw [decide_eq_false k3,cond_false,cond_false]
 have hcc:((bif c != 0 then some (c != t.aK.k) else some false):Option Bool)=some (decide (c≠0/\c≠t.aK.k)):=by
  by_cases c1:c=0
  ·subst c1; simp
  ·rw [show (c != 0)=true by simpa using c1,cond_true]
   by_cases c2:c=t.aK.k <;> simp [c1,c2]
 rw [hcc,aA,aA]
 by_cases k4:c≠0/\c≠t.aK.k
 ·rw [decide_eq_true k4,cond_true,cond_true,aA]
  exact ⟨7,t,x,rfl,rfl,h.more (by omega),(λ_ h _=>h),by decide,Int.le_refl _⟩
 rw [decide_eq_false k4,cond_false,cond_false]
 obtain ⟨e,s',x',l',p1,p2,p3,p4,p5,p6,p7⟩:=Gj hs a d n g.data
 rw [p1,p2]
 simp only [aA]
 have hbd:(t.aK.rows.flatMap fF).length+(fh x'.parts).length<=q+D:=by have:=h.bd; omega
 by_cases k5: ¬ e=0
 ·rw [show (e != 0)=true by simpa using k5,cond_true,cond_true]
  refine ⟨e,⟨s',t.aK⟩,x,rfl,rfl,?_⟩
  -- an error changes nothing
  rw [(p5 k5).1]
  exact ⟨h.more (by omega),(λ_ h _=>h),p7,Int.le_refl _⟩
 replace k5:=Classical.not_not.1 k5
 subst k5
 rw [show ((0:Int) != 0)=false from rfl,cond_false,cond_false]
 obtain ⟨w,u,bb,w1,w2,w3⟩:=Gl p3 (by omega)
 rw [w1,w2,aA,aA]
 dsimp only
 cases bb with
 | false =>
  rw [Bool.not_false,cond_true,cond_true,<- h.hv]
  exact ⟨0,⟨s',t.aK⟩,⟨x.aK,x'⟩,rfl,rfl,⟨⟨l',p3⟩,h.hv,h.sw,hbd⟩,(λB hB hn=>⟨by
   rcases p6 with e | e
   ·show 0<=s'.key/\s'.key<=B; rw [e]; exact hB.1
   ·show 0<=s'.key/\s'.key<=B; rw [e]; exact hn a (by simp),hB.2⟩),by decide,Int.le_refl _⟩
 | true =>
  obtain ⟨w4,w5⟩:=w3 rfl
  subst w4
  rw [Bool.not_true,cond_false,cond_false,show il s'=some ⟨0,0,none,0⟩ from rfl,aA]
  obtain ⟨f,hf,sf,pf,f1⟩: ∃ f:aN,((bif c != 0 then some t.aK else some (aN.mk 0 0 0 0 0 (ByteArray.mk #[]) ([]:List aY) 0 0 ([]:List aM))):Option aN)=some f/\SW f/\(f.rows.flatMap fF).length<=(t.aK.rows.flatMap fF).length/\((bif c != 0 then some (fN t.aK) else some (bJ.mk 0 0 0 0 0 (ByteArray.mk #[]) ([]:List bN) 0 0 ([]:List aQ))):Option bJ)=some (fN f):=by
   cases c != 0 with
   | true=>exact ⟨t.aK,rfl,h.sw,Nat.le_refl _,rfl⟩
   | false=>exact ⟨jc,rfl,qs,Nat.zero_le _,rfl⟩
  have hsz:w.size=(fh x'.parts).length:=by rw [w5,bO]
  have hz:=EY (s:=w) (by omega)
  have hap:=CH f w sf (by omega) (by omega) hz
  have har:=A9 f w sf (by omega) (by omega) hz
  obtain ⟨q1,q2⟩:=y6 f w sf (by omega) (by omega) hz
  have q4:=DH f w
  rw [hf,aA,hap,aA,f1,aA,har,aA]
  generalize mK f w=z at q1 q2 q4 ⊢
  obtain ⟨z,er⟩:=z
  dsimp only at q1 q2 q4 ⊢
  have he:Option.bind ((bif (er == 0) then some (z.k != b) else some false):Option Bool) (λi=>((bif i then some 1 else some er):Option Int))=some (if er=0/\z.k≠b then 1 else er):=by
   by_cases c1:er=0
   ·subst c1
    rw [show ((0:Int) == 0)=true from rfl,cond_true,aA]
    by_cases c2:z.k=b
    ·simp [c2]
    ·rw [show (z.k != b)=true by simpa using c2,cond_true,if_pos ⟨rfl,c2⟩]
   ·rw [show (er == 0)=false by simpa using c1,cond_false,aA,cond_false,if_neg (λh=>c1 h.1)]
  generalize hE:(if er=0/\z.k≠b then 1 else er)=E at he
  cases hq:((bif (er == 0) then some (z.k != b) else some false):Option Bool) with
  | none=>rw [hq] at he; cases he
  | some v =>
   rw [hq,aA] at he
   rw [aA,aA,he,aA,aA]
   by_cases c1:E=0
   ·subst c1
    rw [show ((0:Int) == 0)=true from rfl,cond_true,aA,show ((0:Int) != 0)=false from rfl,cond_false]
    exact ⟨0,⟨⟨0,0,none,0⟩,z⟩,⟨fN z,⟨0,[],[]⟩⟩,rfl,rfl,⟨⟨[],wq⟩,rfl,q1,by show (z.rows.flatMap fF).length+0<=_; omega⟩,(λB hB hn=>⟨⟨Int.le_refl _,by have:=hB.1; show (0:Int)<=B; omega⟩,by
     have hz:z.k=b:=by
      by_cases c2:z.k=b
      ·exact c2
      ·by_cases c3:er=0
       ·rw [if_pos ⟨c3,c2⟩] at hE; cases hE
       ·rw [if_neg (λh=>c3 h.1)] at hE; exact absurd hE c3
     show 0<=z.k/\z.k<=B
     rw [hz]
     exact hn b (by simp)⟩),by decide,by
     have hz:z.k=b:=by
      by_cases c2:z.k=b
      ·exact c2
      ·by_cases c3:er=0
       ·rw [if_pos ⟨c3,c2⟩] at hE; cases hE
       ·rw [if_neg (λh=>c3 h.1)] at hE; exact absurd hE c3
     show t.aK.k<=z.k
     omega⟩
   ·rw [show (E == 0)=false by simpa using c1,cond_false,aA,show (E != 0)=true by simpa using c1,cond_true,<- h.hv]
    exact ⟨E,⟨⟨0,0,none,0⟩,t.aK⟩,⟨x.aK,⟨0,[],[]⟩⟩,rfl,rfl,⟨⟨[],wq⟩,h.hv,h.sw,by show (t.aK.rows.flatMap fF).length+0<=_; omega⟩,(λB hB hn=>⟨⟨Int.le_refl _,by have:=hB.1; show (0:Int)<=B; omega⟩,hB.2⟩),by rw [<- hE]; split; exact (by decide:(1:Int)≠4); exact q4,Int.le_refl _⟩
structure GB (g:aV):Prop where
 k:g.kind=1\/g.kind=4
 n:g.aX.length<=5
 r: ∀ x∈g.aX,0<=x/\x<=4611686018427387904
 d:g.data.size<=8000
theorem GB.check {g:aV} (h:GB g) {e:Int} (e1:1<=e) (e2:e<=4294967296):gn ⟨e,g.kind,g.aX,g.data⟩=0:=by
 have hr:iG ⟨e,g.kind,g.aX,g.data⟩=true:=by
  unfold iG
  simp only [Bool.and_eq_true,decide_eq_true_eq,List.all_eq_true]
  have hk:=h.k
  have hn:=h.n
  exact ⟨⟨e1,e2⟩,by omega,by omega,λx hx=>decide_eq_true (h.r x hx)⟩
 have hs:(eZ ⟨e,g.kind,g.aX,g.data⟩).size<=8192:=by
  unfold eZ
  rw [oU,bO]
  have h1:=lT [e,g.kind,(g.aX.length:Int)]
  have h2:=lT g.aX
  have h3:=cI (g.data.size:Int)
  have hn:=h.n
  have hd:=h.d
  unfold mL
  simp only [List.length_append,bC]
  simp only [List.length_cons,List.length_nil] at h1
  omega
 unfold gn
 rw [hr,if_neg (by simp),if_neg (by omega)]
theorem DK {s:ByteArray} (h:(kc s).2=0):iG (kc s).1=true/\s.size<=8192/\4<=s.size/\(kc s).1=qgR s:=by
 unfold kc at h ⊢
 split at h
 ·cases h
 ·rename_i h1
  rw [if_neg h1]
  split at h
  ·cases h
  ·rename_i h2
   rw [if_neg h2]
   have h4:4<=s.size:=by
    cases ho:og s with
    | false=>exact absurd ho h2
    | true=>unfold og at ho; exact (of_decide_eq_true ho).1
   split at h
   ·rename_i h3
    exact absurd h h3
   ·rename_i h3
    rw [if_neg h3]
    split at h
    ·rename_i h5
     exact absurd h h5
    ·rename_i h5
     rw [if_neg h5]
     exact ⟨(sW (Classical.not_not.1 h5)).1,by omega,h4,rfl⟩
theorem Bk {g:aV} (h:iG g=true):(1<=g.aT/\g.aT<=4294967296)/\(1<=g.kind/\g.kind<=4)/\g.aX.length<=64 /\ ∀ n∈g.aX,0<=n/\n<=4611686018427387904:=by
 unfold iG at h
 simp only [Bool.and_eq_true,decide_eq_true_eq,List.all_eq_true] at h
 exact ⟨h.1,h.2.1,h.2.2.1,λn hn=>of_decide_eq_true (h.2.2.2 n hn)⟩
theorem G0 {i:aG} (h:VI i) (hp:0 < i.s.size):(bkS i).2.s.size < i.s.size:=by
 by_cases he:(bkS i).2.e=0
 ·obtain ⟨-,hw⟩:=vb h he
  have h1:=congrArg List.length hw
  rw [List.length_append,bC,bC] at h1
  have h2:(lQ (bkS i).1).length≠0:=λc=>by
   have:=List.eq_nil_of_length_eq_zero c
   unfold lQ at this
   exact z8 _ (List.append_eq_nil_iff.1 this).1
  omega
 ·rcases (rG h).2 with h1 | h1
  ·exact absurd h1 he
  ·rw [h1]; exact hp
theorem As: ∀ (k:Nat) (i:aG) (l:List aM),(bkL k i l).1.length=l.length+k
 | 0,i,l=>rfl
 | k+1,i,l=>by
  unfold bkL
  rw [As k,List.length_append]
  show l.length+1+k=_
  omega
theorem Gq {i:aG} (h:VI i):(bkS i).1.length<=1024:=by
 have hr:=gk (m:=1024) h (by omega)
 unfold bkS
 split
 ·rw [As]
  show 0+_<=_
  omega
 ·exact Nat.zero_le _
theorem Bl {a:Int}:1<=imax 1 (cB a 65536)/\imax 1 (cB a 65536)<=65536/\imax 1 (cB (imax 1 (cB a 65536)) 65536)=imax 1 (cB a 65536):=by
 unfold imax cB
 (repeat' split) <;> omega
theorem DL:TK 4611686018427387904 ⟨⟨0,0,none,0⟩,jc⟩:=by
 refine ⟨?_,?_⟩
 ·show (0:Int)<=0/\(0:Int)<=_; omega
 ·show (0:Int)<=0/\(0:Int)<=_; omega
theorem qgD {s:ByteArray} (h:s.size<=8192) (h4:4<=s.size):(qgR s).data.size<=s.size:=by
 have z0:SZ s.size (⟨kb s,0⟩:aG):=⟨⟨by show (kb s).size<=1000000; rw [kV h4]; omega,.inl rfl⟩,by show (kb s).size<=_; rw [kV h4]; omega⟩
 have z3:SZ s.size (qgC s).2:=kU (kU (kU z0))
 have z4:SZ s.size (qgI s):=by
  unfold qgI
  split
  ·exact ⟨mI,Nat.zero_le _⟩
  ·exact z3
 have z5:SZ s.size (qgN s).2:=yZ _ [] z4
 exact (tL z5.1 z5.2).1
def uE (y:aB):Prop:=0<=y.from_/\y.from_ < y.to/\y.to<=1152921504606846976
theorem wy: ∀ (l:List aB) {x:aB},uE x->(∀ y∈l,uE y) -> ∀ y∈gI l x,uE y
 | [],x,h,_,y,hy=>by rw [List.mem_singleton.1 hy]; exact h
 | z::l,x,h,hl,y,hy=>by
  have hz:=hl z List.mem_cons_self
  have hl': ∀ y∈l,uE y:=λw hw=>hl w (List.mem_cons_of_mem _ hw)
  rw [gI] at hy
  split at hy
  ·rcases List.mem_cons.1 hy with rfl | hy
   ·exact hz
   ·exact wy l h hl' y hy
  ·split at hy
   ·rcases List.mem_cons.1 hy with rfl | hy
    ·exact h
    ·exact hl y hy
   ·have e1:=fD x.from_ z.from_
    have e2:=fQ x.to z.to
    obtain ⟨a,b,c⟩:=h
    obtain ⟨a',b',c'⟩:=hz
    exact wy l (x:=⟨cB x.from_ z.from_,imax x.to z.to⟩) ⟨by dsimp only; omega,by dsimp only; omega,by dsimp only; omega⟩ hl' y hy
theorem At: ∀ (l s:List aB),(∀ y∈l,uE y)->(∀ y∈s,uE y)->(∀ y∈gu s l,uE y)/\eM (gu s l)<=eM s+eM l
 | [],s,_,hs=>⟨hs,by show eM s<=eM s+0; omega⟩
 | x::l,s,hl,hs=>by
  have hx:=hl x List.mem_cons_self
  have e:gu s (x::l)=gu (gI s x) l:=by
   show gu (if x.to<=x.from_ then s else gI s x) l=_
   rw [if_neg (by have:=hx.2.1; omega)]
  obtain ⟨h1,h2⟩:=At l (gI s x) (λy hy=>hl y (List.mem_cons_of_mem _ hy)) (wy s hx hs)
  have h3:=(we s (x:=x) (by have:=hx.2.1; omega) (λy hy=>by have:=(hs y hy).2.1; omega)).1
  rw [e]
  refine ⟨h1,?_⟩
  show _<=eM s+(x.to - x.from_+eM l)
  omega
theorem o2: ∀ l:List aB,(∀ y∈l,uE y)->0<=eM l
 | [],_=>Int.le_refl _
 | x::l,h=>by
  have:=o2 l λy hy=>h y (List.mem_cons_of_mem _ hy)
  have:=(h x List.mem_cons_self).2.1
  show 0<=x.to - x.from_+eM l
  omega
structure CG (g:aV):Prop where
 k:g.kind=2\/(g.kind=3/\0 < g.aX.length/\g.aX.length % 2=0)
 n:g.aX.length<=16
 r: ∀ x∈g.aX,0<=x/\x<=4611686018427387904
 d:g.data.size<=600
theorem CG.check {g:aV} (h:CG g) {e:Int} (e1:1<=e) (e2:e<=4294967296):gn ⟨e,g.kind,g.aX,g.data⟩=0:=by
 have hn:=h.n
 have hd:=h.d
 have hr:iG ⟨e,g.kind,g.aX,g.data⟩=true:=by
  unfold iG
  simp only [Bool.and_eq_true,decide_eq_true_eq,List.all_eq_true]
  have hk:=h.k
  exact ⟨⟨e1,e2⟩,by omega,by omega,λx hx=>decide_eq_true (h.r x hx)⟩
 have hs:(eZ ⟨e,g.kind,g.aX,g.data⟩).size<=8192:=by
  unfold eZ
  rw [oU,bO]
  have:=tW (g:=⟨e,g.kind,g.aX,g.data⟩) (by dsimp only; omega)
  dsimp only at this ⊢
  omega
 unfold gn
 rw [hr,if_neg (by simp),if_neg (by omega)]
theorem Gr {c:aZ} {x:dL} {q:Nat} (h:TP c x q) (hk:TK 4611686018427387904 c): ∃ g,dR c=some g/\CG g:=by
 obtain ⟨l,hs⟩:=h.sr
 refine ⟨_,y9 hs,.inl rfl,by show 2<=16; omega,λn hn=> ?_,?_⟩
 ·rcases List.mem_cons.1 hn with rfl | hn
  ·exact hk.2
  ·rw [List.mem_singleton.1 hn]; exact hk.1
 ·show (dM (uD l x.slot.parts.length)).size<=600
  have:=(Ao l x.slot.parts.length).2.1
  have:=hs.le
  rw [bO]
  omega
def te (e:Int×CacheEntry):dP:=⟨e.1,e.2.l.map tg⟩
theorem uf {i:Int}: ∀ {m:CL},i ∉ m.map Prod.fst->m.filter (λe=>e.1 != i)=m:=by
 intro m h
 refine List.filter_eq_self.2 λe he=> ?_
 rw [bne_iff_ne]
 exact λh2=>h (List.mem_map.2 ⟨e,he,h2⟩)
theorem xR {i:Int} {x:CacheEntry}: ∀ {m:CL},(m.map Prod.fst).Nodup->(msl i x m).Perm (m.filter (λe=>e.1 != i)++[(i,x)])
 | [],_=>List.Perm.refl _
 | (j,y)::m,h=>by
  rw [List.map_cons,List.nodup_cons] at h
  unfold msl
  by_cases c:i=j
  ·subst c
   rw [if_pos rfl,List.filter_cons_of_neg (by simp),uf h.1]
   exact (List.perm_append_comm (l₁:=[(i,x)]) (l₂:=m))
  ·rw [if_neg c,List.filter_cons_of_pos (by simpa using λh=>c h.symm)]
   exact (xR h.2).cons _
theorem xS {r:Int}: ∀ {m:CL},(m.map Prod.fst).Nodup->mdl r m=m.filter (λe=>e.1 != r)
 | [],_=>rfl
 | (j,y)::m,h=>by
  rw [List.map_cons,List.nodup_cons] at h
  unfold mdl
  by_cases c:r=j
  ·subst c
   rw [if_pos rfl,List.filter_cons_of_neg (by simp),uf h.1]
  ·rw [if_neg c,List.filter_cons_of_pos (by simpa using λh=>c h.symm),xS h.2]
theorem ug (c:bX) (e:dP) (hl:c.l.length<=1000000):fY c e=some ⟨c.most,c.l.filter (λx=>x.i != e.i)++[e]⟩:=by
 unfold fY
 have hf:=List.length_filter_le (λx:dP=>x.i != e.i) c.l
 refine eJ (λn:Nat=>((n:Int),(c.l.take n).filter (λx=>x.i != e.i))) c.l.length (c.l.filter (λx=>x.i != e.i)) rfl (λn hn=> ?_) ?_ ?_
 ·dsimp only
  have h1:=List.length_filter_le (λx:dP=>x.i != e.i) (c.l.take n)
  rw [List.length_take] at h1
  rw [decide_eq_true (by omega),cond_true,bK _ n hn,aA,List.take_succ_eq_append_getElem hn,List.filter_append,w64 (by omega) (by omega)]
  cases hc:c.l[n].i != e.i with
  | true=>rw [cond_true,bQ (by simp; omega),aA,aA,List.filter_cons_of_pos (p:=λx:dP=>x.i != e.i) hc]; rfl
  | false=>rw [cond_false,aA,List.filter_cons_of_neg (p:=λx:dP=>x.i != e.i) (by rw [hc]; decide),List.filter_nil,List.append_nil]; rfl
 ·dsimp only
  rw [decide_eq_false (by omega),cond_false,List.take_of_length_le (Nat.le_refl _)]
 ·rw [bQ (by simp; omega),aA]
structure CX (k N:Int) (c:aP) (x:bX):Prop where
 cs:CS k N c
 xm:x.most=k
 o: ∃ m M:CL,c.l=some m/\M.Perm m/\(M.map λe=>e.2.at_).Pairwise (· < ·)/\x.l=M.map te /\ ∀ e∈m,∀ g∈e.2.l,rok g.rune
theorem CX.more {k N M:Int} {c:aP} {x:bX} (h:CX k N c x) (hm:N<=M):CX k M c x:=⟨h.cs.more hm,h.xm,h.o⟩
theorem CX.cm {k N:Int} {c:aP} {x:bX} (h:CX k N c x): ∃ m M:CL,c.l=some m/\M.Perm m/\(M.map λe=>e.2.at_).Pairwise (· < ·)/\x.l=M.map te/\(∀ e∈m,∀ g∈e.2.l,rok g.rune)/\CM c.now m/\CM c.now M/\(m.length:Int)<=k/\M.length=m.length:=by
 obtain ⟨m,M,h1,h2,h3,h4,h5⟩:=h.o
 obtain ⟨m',e1,e2,e3⟩:=h.cs.l
 rw [h1] at e1
 injection e1 with e1
 subst e1
 exact ⟨m,M,h1,h2,h3,h4,h5,e2,⟨(h2.map _).nodup_iff.2 e2.nd,λe he=>e2.r e (h2.mem_iff.1 he),λe he=>e2.a e (h2.mem_iff.1 he),(h2.map _).nodup_iff.2 e2.da,λe he=>e2.g e (h2.mem_iff.1 he)⟩,e3,h2.length_eq⟩
theorem Gs (most:Int): ∃ c,kA most=some c/\CX (imax 1 (cB most 65536)) 0 c ⟨imax 1 (cB most 65536),[]⟩:=by
 obtain ⟨c,h1,h2⟩:=E6 most
 refine ⟨c,h1,h2,rfl,?_⟩
 unfold kA at h1
 injection h1 with h1
 subst h1
 exact ⟨[],[],rfl,List.Perm.refl _,.nil,rfl,λe he=>by cases he⟩
theorem DM {k N:Int} (hk:0<=k) {c:aP} {x:bX} (h:CX k N c x): ∃ c',fO c=some c'/\CX k N c' ⟨k,[]⟩:=by
 obtain ⟨c',h1,h2⟩:=Bh hk h.cs
 refine ⟨c',h1,h2,rfl,?_⟩
 obtain ⟨m,M,m1,_⟩:=h.cm
 unfold fO at h1
 injection h1 with h1
 subst h1
 exact ⟨[],[],by show Ed c.l=_; rw [m1]; rfl,List.Perm.refl _,.nil,rfl,λe he=>by cases he⟩
theorem uh {i:Int} {m M:CL} (h:M.Perm m) (hn:(m.map Prod.fst).Nodup):mgl i M=mgl i m:=by
 have hN:=(h.map Prod.fst).nodup_iff.2 hn
 cases e:mgl i M with
 | some x=>exact (ly hn (h.mem_iff.1 (kX e))).symm
 | none =>
  cases e2:mgl i m with
  | none=>rfl
  | some x=>rw [ly hN (h.mem_iff.2 (kX e2))] at e; cases e
theorem Bm {α β ρ:Type} (l:List (Int×α)) (g:α->β) (i:Int) (y:β->ρ) (n:ρ) {f:Int->Option (Int ⊕ ρ)} (h: ∀ j (hj:j < l.length),f (j:Int)=if l[j].1=i then some (.inr (y (g l[j].2))) else some (.inl ((j+1:Nat):Int))) (he:f (l.length:Int)=some (.inr n)):iter f 0=some (match mgl i l with | some x=>y (g x) | none=>n):=by
 have key: ∀ k j,j+k=l.length->iter f (j:Int)=some (match mgl i (l.drop j) with | some x=>y (g x) | none=>n):=by
  intro k
  induction k with
  | zero =>
   intro j hj
   obtain rfl:j=l.length:=by omega
   rw [bD he,List.drop_length]
   rfl
  | succ k ih =>
   intro j hj
   have hlt:j < l.length:=by omega
   have h1:=h j hlt
   rw [List.drop_eq_getElem_cons hlt]
   rw [show mgl i (l[j]::l.drop (j+1))=if i=l[j].1 then some l[j].2 else mgl i (l.drop (j+1)) from rfl]
   by_cases c:l[j].1=i
   ·rw [if_pos c] at h1
    rw [bD h1,if_pos c.symm]
   ·rw [if_neg c] at h1
    rw [bY h1,ih (j+1) (by omega),if_neg λh=>c h.symm]
 exact key l.length 0 (by omega)
theorem ui {x:bX} {M:CL} (hx:x.l=M.map te) (hl:M.length<=1000000) (i:Int):jT x i=some (match mgl i M with | some e=>(e.l.map tg,true) | none=>([],false)):=by
 unfold jT
 rw [Bm M (λe=>(e.l.map tg,true)) i (λp=>(.inr p)) (.inl ()) (λj hj=> ?_) ?_,aA]
 ·cases mgl i M <;> rfl
 ·rw [hx,List.length_map,decide_eq_false (by omega)]
  rfl
 ·rw [hx,List.length_map,decide_eq_true (by omega),cond_true,bK _ j (by rw [List.length_map]; exact hj),aA,List.getElem_map,w64 (by omega) (by omega)]
  show (bif M[j].1 == i then _ else _)=_
  by_cases c:M[j].1=i
  ·rw [if_pos c,beq_iff_eq.2 c]
   rfl
  ·rw [if_neg c,beq_eq_false_iff_ne.2 c]
   rfl
theorem Au {M:CL} {i:Int}:(M.map te).filter (λx=>x.i != i)=(M.filter λe=>e.1 != i).map te:=by
 rw [List.filter_map]
 rfl
theorem E8 {M:CL} {now i:Int} {y:CacheEntry} (h:(M.map λe=>e.2.at_).Pairwise (· < ·)) (ha: ∀ e∈M,e.2.at_<=now) (hy:y.at_=now+1):((M.filter (λe=>e.1 != i)++[(i,y)]).map λe=>e.2.at_).Pairwise (· < ·):=by
 rw [List.map_append]
 refine List.pairwise_append.2 ⟨h.sublist (List.filter_sublist.map _),List.pairwise_singleton _ _,λa hA b hB=> ?_⟩
 obtain ⟨e,he,rfl⟩:=List.mem_map.1 hA
 obtain rfl:=List.mem_singleton.1 hB
 have:=ha e (List.mem_filter.1 he).1
 dsimp only
 omega
theorem xT {k N:Int} {c:aP} {x:bX} {m M:CL} (m1:c.l=some m) (hp:M.Perm m) (hs:(M.map λe=>e.2.at_).Pairwise (· < ·)) (hm:CM c.now m) {i:Int} {l:List aM}:(M.filter (λe=>e.1 != i)++[(i,(⟨l,c.now+1⟩:CacheEntry))]).Perm (msl i ⟨l,c.now+1⟩ m)/\((M.filter (λe=>e.1 != i)++[(i,(⟨l,c.now+1⟩:CacheEntry))]).map λe=>e.2.at_).Pairwise (· < ·) :=
 ⟨((hp.filter _).append_right _).trans (xR hm.nd).symm,E8 hs (λe he=>hm.a e (hp.mem_iff.1 he)) rfl⟩
theorem Gt {k N:Int} {c:aP} {x:bX} (h:CX k N c x) (hk:0<=k/\k<=100000) (hN:N<=1000000000) {i:Int} (hi:0<=i/\i < 1152921504606846976) {l:List aM} (hl:l.length<=1000000) (hg: ∀ g∈l,rok g.rune): ∃ g b c' x',gb c i l=some (g,b,c')/\jH x i (l.map tg)=some (x',g,b)/\CX k (N+1) c' x':=by
 obtain ⟨m,M,m1,hp,hs,hx,hgs,m2,_,m3,hlen0⟩:=h.cm
 obtain ⟨n1,n2⟩:=h.cs.now
 obtain ⟨tp,ts⟩:=xT (k:=k) (N:=N) (x:=x) m1 hp hs m2 (i:=i) (l:=l)
 have hset:=m2.set hi hl
 have hlen:=(wu (i:=i) (x:=⟨l,c.now+1⟩) m).1
 have hset2: ∀ e∈msl i ⟨l,c.now+1⟩ m,∀ g∈e.2.l,rok g.rune:=λe he=>by
  rcases oY m2.nd e he with rfl | ⟨h1,_⟩
  ·exact hg
  ·exact hgs e h1
 have ht:eD c i l=some ⟨c.most,c.now+1,some (msl i ⟨l,c.now+1⟩ m)⟩:=by
  unfold eD
  rw [w64 (by omega) (by omega),m1]
  rfl
 have hnew:fY x ⟨i,l.map tg⟩=some ⟨x.most,(M.filter (λe=>e.1 != i)++[(i,(⟨l,c.now+1⟩:CacheEntry))]).map te⟩:=by
  rw [ug _ _ (by rw [hx,List.length_map]; omega),hx]
  dsimp only
  rw [Au,List.map_append]
  rfl
 unfold gb jH
 rw [decide_eq_false (by omega),cond_false,decide_eq_false (by omega),aA,cond_false,aA,cond_false,oa l hl,aA,ht,aA,hnew,aA]
 dsimp only
 generalize hA:msl i ⟨l,c.now+1⟩ m=A at hset hset2 hlen tp
 generalize hB:M.filter (λe=>e.1 != i)++[(i,(⟨l,c.now+1⟩:CacheEntry))]=B at tp ts
 have hAB:=tp.length_eq
 rw [List.length_map,h.xm]
 by_cases d:(((yD (some A):Nat):Int)<=c.most)
 ·have d2:(B.length:Int)<=k:=by rw [hAB,<- h.cs.most]; exact d
  rw [decide_eq_true d,cond_true,decide_eq_true d2,cond_true]
  exact ⟨_,_,_,_,rfl,rfl,⟨h.cs.most,⟨by dsimp only; omega,by dsimp only; omega⟩,A,rfl,hset,by rw [<- hAB]; exact d2⟩,rfl,A,B,rfl,tp,ts,rfl,hset2⟩
 ·have d2: ¬ ((B.length:Int)<=k):=by rw [hAB,<- h.cs.most]; exact d
  rw [decide_eq_false d,cond_false,decide_eq_false d2,cond_false,show iA (some A)=some () from rfl,aA]
  have hc:dX (some A)=some ():=by
   unfold dX
   rw [show chk (some A:Mp CacheEntry).isSome=some () from rfl,aA]
   show Option.bind (chk (cQ A.length 1 8)) _=_
   rw [bQ (by omega)]
   rfl
  rw [hc,aA]
  cases hBB:B with
  | nil=>rw [hBB] at d2; simp at d2; omega
  | cons e0 B' =>
   obtain ⟨r,y⟩:=e0
   rw [hBB] at tp ts hAB d2
   have hBn:(((r,y)::B').map Prod.fst).Nodup:=(tp.map _).nodup_iff.2 hset.nd
   have hr:(r,y)∈A:=tp.mem_iff.1 List.mem_cons_self
   have hmin: ∀ e∈A,e.2.at_<=y.at_->e=(r,y):=λe he hle=>by
    rcases List.mem_cons.1 (tp.mem_iff.2 he) with h1 | h1
    ·exact h1
    ·have:=(List.pairwise_cons.1 (show (y.at_::B'.map λe=>e.2.at_).Pairwise (· < ·) from ts)).1 e.2.at_ (List.mem_map.2 ⟨e,h1,rfl⟩)
     omega
   generalize hC:(aP.mk c.most (c.now+1) (some A))=C
   have hCl:C.l=some A:=by rw [<- hC]
   rw [vx (r:=(r,true,(aP.mk C.most C.now (AK C.l r)))) λR hR=> ?_]
   ·have hcut:cut (((r,y)::B').map te) 1 (((r,y)::B').length:Int)=B'.map te:=by
     simp only [cut]
     rw [List.take_of_length_le (by simp)]
     rfl
    have hidx:idx (((r,y)::B').map te) 0=some (te (r,y)):=rfl
    rw [cX (by omega) (by simp; omega) (by simp),aA,hidx,aA,hcut]
    have hdl:mdl r A=A.filter λe=>e.1 != r:=xS hset.nd
    have hBf:((r,y)::B').filter (λe=>e.1 != r)=B':=by
     rw [List.filter_cons_of_neg (by simp)]
     exact uf (List.nodup_cons.1 hBn).1
    have hpm:B'.Perm (mdl r A):=by
     rw [hdl,<- hBf]
     exact tp.filter _
    refine ⟨_,_,_,_,rfl,rfl,⟨by rw [<- hC]; exact h.cs.most,by rw [<- hC]; exact ⟨by dsimp only; omega,by dsimp only; omega⟩,mdl r A,by show AK C.l r=_; rw [hCl]; rfl,by rw [<- hC]; exact hset.sub (wv A).1,?_⟩,rfl,mdl r A,B',by show AK C.l r=_; rw [hCl]; rfl,hpm,(List.pairwise_cons.1 ts).2,rfl,λe he=>hset2 e ((wv A).1.subset he)⟩
    rw [<- hpm.length_eq]
    have:((r,y)::B').length=B'.length+1:=rfl
    omega
   ·have hne:R≠[]:=λe=>by
     rw [e] at hR
     have:=hR.symm.eq_nil
     have h2:r∈A.map Prod.fst:=List.mem_map.2 ⟨_,hr,rfl⟩
     rw [show A.map Prod.fst=[] from this] at h2
     cases h2
    obtain ⟨q,q1,q2,q3⟩:=E5 C R hne (by rw [hR.length_eq]; show (A.map Prod.fst).length<=_; rw [List.length_map]; omega)
    have hq:q∈A.map Prod.fst:=hR.mem_iff.1 q2
    obtain ⟨⟨b,z⟩,hb,rfl⟩:=List.mem_map.1 hq
    have e2:=q3 r (hR.mem_iff.2 (List.mem_map.2 ⟨_,hr,rfl⟩))
    dsimp only at e2 q1 ⊢
    rw [Dz hCl hset.nd hr,Dz hCl hset.nd hb] at e2
    have e3:=hmin _ hb e2
    injection e3 with e3 e4
    rw [q1,aA,e3,<- hC]
theorem E9 {k N:Int} {c:aP} {x:bX} (h:CX k N c x) (hk:k<=100000) (i:Int): ∃ l b,fv c i=some (l,b)/\jT x i=some (l.map tg,b)/\(∀ g∈l,rok g.rune)/\l.length<=1000000:=by
 obtain ⟨m,M,m1,hp,hs,hx,hgs,m2,_,m3,hlen0⟩:=h.cm
 rw [ui hx (by omega),uh hp m2.nd]
 unfold fv mgd gL
 rw [m1,Option.getD_some]
 cases e:mgl i m with
 | none=>exact ⟨[],false,by rw [Option.getD_none,oa _ (by decide)]; rfl,rfl,λg hg=>(by cases hg),by decide⟩
 | some y =>
  have:=m2.g _ (kX e)
  exact ⟨y.l,true,by rw [Option.getD_some,oa _ this]; rfl,rfl,hgs _ (kX e),this⟩
theorem DN {k N:Int} {c:aP} {x:bX} (h:CX k N c x) (hk:k<=100000) (hN:N<=1000000000) (i:Int): ∃ l b c' L x',ff c i=some (l,b,c')/\kE x i=some (x',L,b)/\CX k (N+1) c' x'/\(b=false->c'=c/\x'=x)/\x'.most=x.most/\(b=gL c.l i) /\ ∀ n,gL c'.l n=gL c.l n:=by
 obtain ⟨m,M,m1,hp,hs,hx,hgs,m2,_,m3,hlen0⟩:=h.cm
 obtain ⟨n1,n2⟩:=h.cs.now
 unfold ff kE
 rw [ui hx (by omega),uh hp m2.nd,aA]
 cases hy:mgl i m with
 | none =>
  have hf:gL c.l i=false:=by unfold gL; rw [m1,Option.getD_some,hy]; rfl
  obtain ⟨l,b,e,e2,_⟩:=E9 h hk i
  rw [ui hx (by omega),uh hp m2.nd,hy] at e2
  simp only [Option.some.injEq,Prod.mk.injEq] at e2
  rw [hf,cond_false,aA,e,aA]
  dsimp only
  rw [Bool.not_false,cond_true]
  exact ⟨l,b,c,[],x,rfl,by rw [<- e2.2],h.more (by omega),λ_=>⟨rfl,rfl⟩,rfl,e2.2.symm,λn=>rfl⟩
 | some y =>
  have hmem:=kX hy
  have hf:gL c.l i=true:=by unfold gL; rw [m1,Option.getD_some,hy]; rfl
  have hgd:(mgd c.l i (CacheEntry.mk ([]:List aM) 0))=y:=by unfold mgd; rw [m1,Option.getD_some,hy]; rfl
  have ht:eD c i y.l=some ⟨c.most,c.now+1,some (msl i ⟨y.l,c.now+1⟩ m)⟩:=by
   unfold eD
   rw [w64 (by omega) (by omega),m1]
   rfl
  obtain ⟨tp,ts⟩:=xT (k:=k) (N:=N) (x:=x) m1 hp hs m2 (i:=i) (l:=y.l)
  have hl:=(wu (i:=i) (x:=⟨y.l,c.now+1⟩) m).2 (by rw [hy]; rfl)
  have hnew:fY x ⟨i,y.l.map tg⟩=some ⟨x.most,(M.filter (λe=>e.1 != i)++[(i,(⟨y.l,c.now+1⟩:CacheEntry))]).map te⟩:=by
   rw [ug _ _ (by rw [hx,List.length_map]; omega),hx]
   dsimp only
   rw [Au,List.map_append]
   rfl
  have hcs:CS k (N+1) ⟨c.most,c.now+1,some (msl i ⟨y.l,c.now+1⟩ m)⟩:=⟨h.cs.most,⟨by dsimp only; omega,by dsimp only; omega⟩,_,rfl,m2.set (m2.r _ hmem) (m2.g _ hmem),by rw [hl]; exact m3⟩
  have hcx:CX k (N+1) ⟨c.most,c.now+1,some (msl i ⟨y.l,c.now+1⟩ m)⟩ ⟨x.most,(M.filter (λe=>e.1 != i)++[(i,(⟨y.l,c.now+1⟩:CacheEntry))]).map te⟩:=⟨hcs,h.xm,_,_,rfl,tp,ts,rfl,λe he=>by
   rcases oY m2.nd e he with rfl | ⟨h1,_⟩
   ·exact λg hg=>hgs (i,y) hmem g hg
   ·exact hgs e h1⟩
  have hpk:fv ⟨c.most,c.now+1,some (msl i ⟨y.l,c.now+1⟩ m)⟩ i=some (y.l,true):=by
   have e9:mgl i (msl i (⟨y.l,c.now+1⟩:CacheEntry) m)=some ⟨y.l,c.now+1⟩:=by rw [qQ,if_pos rfl]
   unfold fv mgd gL
   dsimp only
   rw [Option.getD_some,e9,Option.getD_some,oa _ (m2.g _ hmem)]
   rfl
  dsimp only
  rw [hf,cond_true,hgd,ht,aA,aA,hpk,aA,Bool.not_true,cond_false,hnew,aA]
  refine ⟨_,_,_,_,_,rfl,rfl,hcx,λh=>(by cases h),rfl,rfl,λn=> ?_⟩
  unfold gL
  dsimp only
  rw [m1,Option.getD_some,Option.getD_some,qQ]
  by_cases c9:n=i
  ·rw [if_pos c9,c9,hy]; rfl
  ·rw [if_neg c9]
theorem s6 {i j:Int} (h0:0<=i) (h1:i<=1152921504606846976) (h2:0<=j) (h3:j<=1152921504606846976):fy ⟨i,j⟩=⟨i,j⟩:=by
 unfold fy imax cB
 dsimp only
 congr 1 <;> split <;> split at * <;> omega
theorem DO {k N:Int} {c:aP} {x:bX} (h:CX k N c x) (hk:k<=100000): ∃ L r,eE c=some L/\kf x=some r/\rsp r=L/\NF (-1) L/\WS k L /\ ∀ n,inP L n↔gL c.l n=true:=by
 obtain ⟨m,M,m1,hp,hs,hx,hgs,m2,mM,m3,hlen0⟩:=h.cm
 obtain ⟨L,l1,l2⟩:=Bi h.cs hk
 have e1:=rL m1 (by omega) m2.nd m2.r
 rw [l1] at e1
 injection e1 with e1
 have h0: ∀ i∈m.map Prod.fst,0<=i:=λi hi=>by
  obtain ⟨e,he,rfl⟩:=List.mem_map.1 hi
  exact (m2.r e he).1
 obtain ⟨a1,a2,a3⟩:=nM (m.map Prod.fst) [] trivial m2.nd (λi hi=>⟨h0 i hi,gX⟩)
 have hpk:km [] (M.map Prod.fst)=L:=by rw [e1]; exact ua (hp.map _) m2.nd h0
 refine ⟨L,?_⟩
 have key: ∀ n,n<=M.length -> ∃ r:List aD,rsp r=km [] ((M.take n).map Prod.fst)/\r.length<=n /\ ∀ j,n+j=M.length->iter (σ:=Int×(List aD)) (ρ:=(List aD)) (λa=>(bif (decide (a.1 < (x.l.length:Int))) then (Option.bind (idx x.l a.1) λb=>(Option.bind (gR a.2 (aD.mk b.i (IntKind.i64.wrap (b.i+1)))) λd=>some (.inl ((IntKind.i64.wrap (a.1+1)),d)))) else some (.inr a.2))) (0,([]:List aD))=iter (σ:=Int×(List aD)) (ρ:=(List aD)) (λa=>(bif (decide (a.1 < (x.l.length:Int))) then (Option.bind (idx x.l a.1) λb=>(Option.bind (gR a.2 (aD.mk b.i (IntKind.i64.wrap (b.i+1)))) λd=>some (.inl ((IntKind.i64.wrap (a.1+1)),d)))) else some (.inr a.2))) ((n:Int),r):=by
  intro n
  induction n with
  | zero=>intro _; exact ⟨[],rfl,Nat.le_refl _,λj _=>rfl⟩
  | succ n ih =>
   intro hn
   obtain ⟨r,r1,r2,r3⟩:=ih (by omega)
   have hr:=mM.r _ (List.getElem_mem (show n < M.length by omega))
   have hnd:((M.take n).map Prod.fst).Nodup:=mM.nd.sublist ((List.take_sublist n M).map _)
   obtain ⟨b1,b2,b3⟩:=nM ((M.take n).map Prod.fst) [] trivial hnd (λi hi=>by
    obtain ⟨e,he,rfl⟩:=List.mem_map.1 hi
    exact ⟨(mM.r e (List.mem_of_mem_take he)).1,gX⟩)
   obtain ⟨r',q1,q2⟩:=Am (l:=r) (lo:= -1) (by rw [r1]; exact b1) (by omega) ⟨M[n].1,M[n].1+1⟩
   have hfit:fy (sp ⟨M[n].1,M[n].1+1⟩)=⟨M[n].1,M[n].1+1⟩:=show fy (⟨M[n].1,M[n].1+1⟩:aB)=_ from s6 hr.1 (by omega) (by omega) (by omega)
   rw [hfit,if_neg (by dsimp only; omega),r1] at q2
   have q3:rsp r'=km [] ((M.take (n+1)).map Prod.fst):=by
    rw [q2,List.take_succ_eq_append_getElem (by omega),List.map_append]
    show _=List.foldl _ _ _
    rw [List.foldl_append]
    rfl
   refine ⟨r',q3,?_,λj hj=> ?_⟩
   ·have:=congrArg List.length q3
    have h2:=rK ((M.take (n+1)).map Prod.fst) []
    simp only [rsp,List.length_map,List.length_nil,List.length_take] at this h2
    omega
   ·rw [r3 (j+1) (by omega)]
    refine bY ?_
    dsimp only
    rw [hx,List.length_map,decide_eq_true (by omega),cond_true,bK _ n (by rw [List.length_map]; omega),aA,List.getElem_map]
    show Option.bind (gR r (aD.mk M[n].1 (IntKind.i64.wrap (M[n].1+1)))) _=_
    rw [w64 (x:=M[n].1+1) (by omega) (by omega),q1,aA,w64 (by omega) (by omega)]
    rfl
 obtain ⟨r,r1,r2,r3⟩:=key M.length (Nat.le_refl _)
 rw [List.take_of_length_le (Nat.le_refl _),hpk] at r1
 refine ⟨r,l1,?_,r1,by rw [e1]; exact a1,l2,λn=> ?_⟩
 ·unfold kf
  rw [r3 0 (by omega),bD (r:=r) (by dsimp only; rw [hx,List.length_map,decide_eq_false (by omega)]; rfl)]
  rfl
 ·rw [e1,a2]
  unfold gL
  rw [m1,Option.getD_some]
  constructor
  ·rintro (h1 | h1)
   ·exact absurd h1 gX
   ·obtain ⟨⟨i,y⟩,he,rfl⟩:=List.mem_map.1 h1
    rw [ly m2.nd he]
    rfl
  ·intro h1
   obtain ⟨y,hy⟩:=Option.isSome_iff_exists.1 h1
   exact .inr (List.mem_map.2 ⟨_,kX hy,rfl⟩)
theorem DP {k:Int} {L:List aB} (h:WS k L) (n:Nat):0<=eM (L.take n)/\eM (L.take n)<=eM L:=by
 have e:=kZ (L.take n) (L.drop n)
 rw [List.take_append_drop] at e
 have a1:=o2 (L.take n) λy hy=>h.b y (List.mem_of_mem_take hy)
 have a2:=o2 (L.drop n) λy hy=>h.b y (List.mem_of_mem_drop hy)
 omega
def c23:aH:=⟨⟨5,3,7⟩,0,0,⟨⟨0,0,none,0⟩,jc⟩,⟨5,0,some []⟩,⟨5,3,0,⟨[]⟩⟩⟩
theorem G1:iT ⟨5,3,7⟩=some c23:=rfl
theorem G2 (len:Int):eG ⟨5,3,0,⟨[]⟩⟩ 0 len=some ([],⟨5,3,0,⟨[]⟩⟩):=by
 unfold eG
 rw [ub [] _ (by simp),aA]
 rfl
theorem G3:dR ⟨⟨0,0,none,0⟩,jc⟩=some ⟨1,2,[0,0],noS⟩:=by
 rw [y9 (x:=⟨fN jc,⟨0,[],[]⟩⟩) (l:=[]) wq]
 rfl
theorem Fa (e k:Int) (he:1<=e/\e<=10) (hk:k=2\/k=4):gn ⟨e,k,[0,0],noS⟩=0:=by
 have:=CG.check (g:=⟨0,2,[0,0],noS⟩) ⟨.inl rfl,by decide,λx hx=>by simp at hx; omega,Nat.zero_le _⟩ (e:=e) (by omega) (by omega)
 rcases hk with rfl | rfl
 ·exact this
 ·exact GB.check (g:=⟨0,4,[0,0],noS⟩) ⟨.inr rfl,by decide,λx hx=>by simp at hx; omega,Nat.zero_le _⟩ (by omega) (by omega)
def DQ:aH:=⟨⟨5,3,7⟩,0,3,⟨⟨0,0,none,0⟩,jc⟩,⟨5,0,some []⟩,⟨5,3,0,⟨[]⟩⟩⟩
theorem Gu:cU c23 0=some ([eZ ⟨1,2,[0,0],noS⟩],DQ):=by
 have hp:dZ ⟨1,2,[0,0],noS⟩=some (eZ ⟨1,2,[0,0],noS⟩):=by
  rw [tZ (by decide) (by decide)]
  unfold tV
  rw [if_pos (Fa 1 2 (by decide) (.inl rfl))]
 unfold cU
 rw [show decide ((0:Int)>=c23.due)=true from rfl,cond_true,show aZ.mk c23.aS.slot c23.aS.aK=⟨⟨0,0,none,0⟩,jc⟩ from rfl,G3,aA,bQ (by simp),aA,aA,show dW ⟨⟨0,0,none,0⟩,jc⟩=some jc by unfold dW; rw [nI _ qs]; rfl,aA,show c23.bS=⟨5,3,0,⟨[]⟩⟩ from rfl,G2,aA,bD (r:=[]) rfl,aA]
 dsimp only
 rw [show decide ((([]:List Int).length:Int) > 0)=false from rfl,cond_false,aA,bY (s':=(1,[eZ ⟨1,2,[0,0],noS⟩])),bD (r:=[eZ ⟨1,2,[0,0],noS⟩]) rfl,aA]
 ·rfl
 ·show Option.bind (dZ ⟨1,2,[0,0],noS⟩) _=_
  rw [hp,aA]
  rfl
def rQ:aH:=⟨⟨5,3,7⟩,3,3,⟨⟨0,0,none,0⟩,jc⟩,⟨5,0,some []⟩,⟨5,3,0,⟨[]⟩⟩⟩
theorem Gv:iQ ⟨3,4,[0,0],noS⟩=some (0,[],0):=by
 unfold iQ
 rw [show ((aV.mk 3 4 [0,0] noS).kind != 4)=false from rfl,cond_false,show (((aV.mk 3 4 [0,0] noS).aX.length:Int) != 2)=false from rfl,cond_false,show kI (aV.mk 3 4 [0,0] noS).data=some ⟨noS,0⟩ from rfl,aA,bD (r:=([],⟨noS,0⟩)) rfl,aA,vP,aA]
 rfl
theorem Gw:dT DQ 0 (eZ ⟨3,4,[0,0],noS⟩)=some (0,rQ):=by
 have hc:=Fa 3 4 (by decide) (.inr rfl)
 unfold dT
 rw [rH (by have:=(sW hc).2; omega),ss hc,aA]
 dsimp only
 rw [show ((0:Int) != 0)=false from rfl,cond_false,show ((4:Int) != 1)=true from rfl,cond_true,show ((4:Int) != 4)=false from rfl,aA,cond_false,show decide ((3:Int) < DQ.aT)=false from rfl,cond_false,show decide ((3:Int) > DQ.aT)=true from rfl,cond_true,show eP DQ 3=some rQ from rfl,aA,aA]
 dsimp only
 rw [show ((4:Int) == 4)=true from rfl,cond_true]
 unfold fB
 rw [Gv,aA,bD (r:=(rQ.lines,rQ.bS)) rfl,aA,aA]
theorem Gx: ∃ c,dV rQ 0 9=some (5,c):=by
 unfold dV
 rw [show dK 0 0 1152921504606846976=some 0 from rfl,aA,show dK 9 0 1152921504606846976=some 9 from rfl,aA,show eE rQ.lines=some (km [] (([]:CL).map Prod.fst)) from rL (m:=[]) rfl (by decide) List.nodup_nil (λe h=>by cases h),aA,oW [] _ (by decide) (λx h=>by cases h),aA,ub _ _ (by decide),aA,bD (r:=rQ.lines) rfl,aA]
 unfold eO
 have hw:WS 5 (gu [] [⟨0,5⟩]):=⟨λy hy=>by rw [List.mem_singleton.1 (show y∈[_] from hy)]; decide,by decide⟩
 rw [show fJ (aB.mk 0 (cB 9 (IntKind.i64.wrap (0+rQ.config.cache)))).from_ 0 1152921504606846976=some 0 from rfl,aA,show fJ (aB.mk 0 (cB 9 (IntKind.i64.wrap (0+rQ.config.cache)))).to 0 1152921504606846976=some 5 from rfl,aA,show dB rQ.bS=some ⟨5,3,0,⟨[]⟩⟩ from rfl,aA]
 dsimp only
 rw [show (aB.mk 0 (cB 5 (IntKind.i64.wrap (0+rQ.bS.most))))=⟨0,5⟩ from rfl,oW [] [⟨0,5⟩] (by decide) (λx h=>by rw [List.mem_singleton.1 h]; unfold spB; decide),aA,qG (by decide) _ _ hw (by decide) (λx h=>by cases h),aA,show mZ (gu [] [⟨0,5⟩]) (List.map fy (km [] (([]:CL).map Prod.fst)))=gu [] [⟨0,5⟩] from rfl,wj hw (by decide),aA,aA]
 exact ⟨_,rfl⟩
theorem zb:kj=some true:=by
 have hc:=Fa 1 2 (by decide) (.inl rfl)
 have hc2:=Fa 3 4 (by decide) (.inr rfl)
 have hp:dZ ⟨3,4,[0,0],ByteArray.mk #[]⟩=some (eZ ⟨3,4,[0,0],noS⟩):=by
  rw [tZ (by decide) (by decide)]
  unfold tV
  exact congrArg some (if_pos hc2)
 obtain ⟨c,hw⟩:=Gx
 unfold kj
 rw [G1,aA,Gu,aA]
 dsimp only
 rw [show ((([eZ ⟨1,2,[0,0],noS⟩]:List ByteArray).length:Int) != 1)=false from rfl,cond_false,show idx [eZ ⟨1,2,[0,0],noS⟩] 0=some (eZ ⟨1,2,[0,0],noS⟩) from rfl,aA,rH (by have:=(sW hc).2; omega),ss hc,aA,hp,aA,Gw,aA]
 dsimp only
 rw [show ((0:Int) == 0)=true from rfl,cond_true,show ((2:Int) == 2)=true from rfl,cond_true,show ((1:Int) == 1)=true from rfl,cond_true,cond_true,show dN rQ=some 3 from rfl,aA,show ((3:Int) == 3)=true from rfl,cond_true,show dU rQ=some 7 from rfl,aA,show ((7:Int) == 7)=true from rfl,cond_true,hw,aA,aA]
 rfl
end Go.Tw.X

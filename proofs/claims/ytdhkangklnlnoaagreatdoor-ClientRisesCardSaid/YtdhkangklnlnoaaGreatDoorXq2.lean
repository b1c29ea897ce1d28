import Derived.Test.YtdhkangklnlnoaaGreatDoorXq1
import Derived.Test.YtdhkangklnlnoaaGreatDoorXp1
import Derived.Test.YtdhkangklnlnoaaGreatDoorFw2
set_option linter.unusedVariables false
set_option linter.unusedSimpArgs false
set_option maxHeartbeats 1000000
namespace Go.Tw.X
open Go Go.Tw
def rdN:Nat->aD->List Int->List Int×aD
 | 0,i,l=>(l,i)
 | k+1,i,l=>rdN k (rdS i).2 (l++[(rdS i).1])
theorem xS: ∀ (k:Nat) {i:aD} (l:List Int),VI i->VI (rdN k i l).2
 | 0,_,_,h=>h
 | k+1,_,l,h=>xS k _ (eZ h)
theorem uR: ∀ (k:Nat) (i:aD) (l:List Int),(rdN k i l).1.length=l.length+k
 | 0,_,_=>rfl
 | k+1,i,l=>by rw [rdN,uR k]; simp; omega
theorem wk: ∀ (k:Nat) (i:aD) (l:List Int),rdN (k+1) i l=((rdN k i l).1++[(rdS (rdN k i l).2).1],(rdS (rdN k i l).2).2)
 | 0,_,_=>rfl
 | k+1,i,l=>by rw [rdN,wk k]; rfl
theorem pR: ∀ (k:Nat) {i:aD} (l:List Int),i.e≠0->(rdN k i l).2=i
 | 0,_,_,_=>rfl
 | k+1,i,l,h=>by rw [rdN,jA h]; exact pR k _ h
theorem xT: ∀ (k:Nat) {i:aD} (l:List Int) {m:Nat},SZ m i->SZ m (rdN k i l).2
 | 0,_,_,_,h=>h
 | k+1,_,l,_,h=>xT k _ (kB h)
def qgA (s:ByteArray):=rdS ⟨jD s,0⟩
def qgB (s:ByteArray):=rdS (qgA s).2
def qgC (s:ByteArray):=rdS (qgB s).2
def qgI (s:ByteArray):aD:=if (qgC s).1 > 64 then iO else (qgC s).2
def qgN (s:ByteArray):=rdN (min (qgC s).1 64).toNat (qgI s) []
def qgT (s:ByteArray):=ly (qgN s).2
def qgR (s:ByteArray):aU:=⟨(qgA s).1,(qgB s).1,(qgN s).1,(qgT s).1⟩
def jE (s:ByteArray):aU×Int :=
 if s.size > 8192 then (zGr,3) else if nK s=false then (zGr,4) else if jk (qgT s).2≠0 then (zGr,jk (qgT s).2) else if gr (qgR s)≠0 then (zGr,gr (qgR s)) else (qgR s,0)
theorem E2 {s:ByteArray} (h:s.size<=8192) (h4:4<=s.size):VI (qgA s).2/\VI (qgB s).2/\VI (qgC s).2/\VI (qgI s)/\VI (qgN s).2/\VI (qgT s).2:=by
 have v0:VI (⟨jD s,0⟩:aD):=⟨by show (jD s).size<=1000000; rw [kC h4]; omega,.inl rfl⟩
 have v1:=eZ v0
 have v2:=eZ v1
 have v3:=eZ v2
 have v4:VI (qgI s):=by
  unfold qgI
  split
  ·exact l9
  ·exact v3
 have v5:=xS (min (qgC s).1 64).toNat (i:=qgI s) [] v4
 exact ⟨v1,v2,v3,v4,v5,qH v5⟩
theorem BF {s:ByteArray} (h:s.size<=8192) (h4:4<=s.size):(qgR s).data.size<=8192:=by
 have z0:SZ s.size (⟨jD s,0⟩:aD):=⟨⟨by show (jD s).size<=1000000; rw [kC h4]; omega,.inl rfl⟩,by show (jD s).size<=_; rw [kC h4]; omega⟩
 have z3:SZ s.size (qgC s).2:=kB (kB (kB z0))
 have z4:SZ s.size (qgI s):=by
  unfold qgI
  split
  ·exact ⟨l9,Nat.zero_le _⟩
  ·exact z3
 have z5:SZ s.size (qgN s).2:=xT _ [] z4
 have:=(sG z5.1 z5.2).1
 show (qgT s).1.size<=_
 exact Nat.le_trans this h
theorem BH (s:ByteArray):(qgR s).aZ.length<=64:=by
 show (qgN s).1.length<=64
 rw [qgN,uR]
 simp
 omega
theorem FK {s:ByteArray} (h:s.size<=8192) (h4:4<=s.size):0<=(qgC s).1:=(jP (E2 h h4).2.1).1
theorem zV {s:ByteArray} (h:s.size<=8192) (h4:4<=s.size):k9 ⟨jD s,0⟩=some (qgR s,(qgT s).2):=by
 obtain ⟨v1,v2,v3,v4,v5,v6⟩:=E2 h h4
 have v0:VI (⟨jD s,0⟩:aD):=⟨by show (jD s).size<=1000000; rw [kC h4]; omega,.inl rfl⟩
 have hc0:=FK h h4
 unfold k9
 rw [iN _ v0,aA,show (rdS ⟨jD s,0⟩)=qgA s from rfl,iN _ v1,aA,show (rdS (qgA s).2)=qgB s from rfl,iN _ v2,aA,show (rdS (qgB s).2)=qgC s from rfl]
 have hi:((bif (decide ((qgC s).1 > 64)) then (Option.bind (bM (qgC s).2 1) λa=>some a) else some (qgC s).2):Option aD)=some (qgI s):=by
  unfold qgI
  by_cases c:(qgC s).1 > 64
  ·rw [decide_eq_true c,cond_true,if_pos c,pD v3,aA,if_pos (show (qgC s).2.e=0 from nV v2 (by decide) c)]
  ·rw [decide_eq_false c,cond_false,if_neg c]
 rw [hi,aA]
 have hm:cW (qgC s).1 64=((min (qgC s).1 64).toNat:Int):=by unfold cW; split <;> omega
 rw [hm]
 have hk:(min (qgC s).1 64).toNat<=64:=by omega
 refine dX (λj:Nat=>(aU.mk (qgA s).1 (qgB s).1 (rdN j (qgI s) []).1 (ByteArray.mk #[]),(rdN j (qgI s) []).2,(j:Int))) (min (qgC s).1 64).toNat ((qgN s).2,aU.mk (qgA s).1 (qgB s).1 (qgN s).1 (ByteArray.mk #[])) rfl ?_ ?_ ?_
 ·intro j hj
  have hl:=uR j (qgI s) []
  have hs:rdN (j+1) (qgI s) []=((rdN j (qgI s) []).1++[(rdS (rdN j (qgI s) []).2).1],(rdS (rdN j (qgI s) []).2).2):=wk j (qgI s) []
  dsimp only
  rw [decide_eq_true (by omega),cond_true,iN _ (xS j [] v4),aA,bW (by simp [hl]; omega),aA,w64 (by omega) (by omega),hs]
  rfl
 ·dsimp only
  rw [decide_eq_false (by omega),cond_false]
  rfl
 ·dsimp only
  rw [yI _ v5,aA]
  rfl
theorem qK {s:ByteArray} (h:s.size<=100000):jo s=some (jE s):=by
 unfold jo jE
 by_cases c:s.size > 8192
 ·rw [decide_eq_true (by omega),cond_true,if_pos c]
  rfl
 ·rw [decide_eq_false (by omega),cond_false,if_neg c,Dc (by omega),aA]
  unfold pN
  cases ho:nK s with
  | false=>rfl
  | true =>
   have h4:4<=s.size:=by
    unfold nK at ho
    exact (of_decide_eq_true ho).1
   rw [if_pos rfl]
   dsimp only
   rw [Bool.not_true,cond_false,show kl (jD s)=some ⟨jD s,0⟩ from rfl,aA,zV (by omega) h4,aA,uH,aA,if_neg (by simp)]
   dsimp only
   by_cases e:jk (qgT s).2=0
   ·rw [e,show ((0:Int) == 0)=true from rfl,cond_true,uh (by have:=BH s; omega) (by have:=BF (s:=s) (by omega) h4; omega),aA,aA,if_neg (λh=>h rfl)]
    by_cases f:gr (qgR s)=0
    ·rw [f,show ((0:Int) != 0)=false from rfl,cond_false,if_neg (λh=>h rfl)]
    ·rw [show (gr (qgR s) != 0)=true by simpa using f,cond_true,if_pos f]
     rfl
   ·rw [show (jk (qgT s).2 == 0)=false by simpa using e,cond_false,aA,show (jk (qgT s).2 != 0)=true by simpa using e,cond_true,if_pos e]
    rfl
theorem BI (x y:Int): ∀ (k j:Nat) (i:aD) (l:List Int) (n:Int),VI i->n=((j+k:Nat):Int)->l.length=j->j+k<=64 ->
  ∃ l',iter (σ:=aR×cL×Int) (ρ:=aR×cL) (λa=>(Option.bind ((bif (decide (a.2.2 < n)) then some (a.1.e == 0) else some false):Option Bool) λd=>(bif d then (Option.bind (bB a.1) λb=>(Option.bind (chk (dF a.2.1.aZ.length [b.2].length 8)) λ_=>some (.inl (b.1,(cL.mk a.2.1.aY a.2.1.kind (a.2.1.aZ++[b.2]) a.2.1.data),(IntKind.i64.wrap (a.2.2+1)))))) else some (.inr (a.1,a.2.1))))) (asR i,cL.mk x y l (ByteArray.mk #[]),(j:Int))=some (asR (rdN k i l).2,cL.mk x y l' (ByteArray.mk #[]))/\((rdN k i l).2.e=0->l'=(rdN k i l).1)
 | 0,j,i,l,n,hV,hn,hl,hj=>by
  refine ⟨l,bA ?_,λ_=>rfl⟩
  dsimp only
  rw [decide_eq_false (by omega),cond_false,aA,cond_false]
  rfl
 | k+1,j,i,l,n,hV,hn,hl,hj=>by
  by_cases c:i.e=0
  ·obtain ⟨l',e1,e2⟩:=BI x y k (j+1) (rdS i).2 (l++[(rdS i).1]) n (eZ hV) (by omega) (by simp; omega) (by omega)
   refine ⟨l',?_,e2⟩
   rw [rdN,<- e1]
   refine bZ ?_
   dsimp only
   rw [decide_eq_true (by omega),cond_true,show ((asR i).e == 0)=true by simpa [asR] using c,aA,cond_true,fT i hV,aA]
   dsimp only
   rw [bW (by simp [hl]; omega),aA,w64 (by omega) (by omega)]
   rfl
  ·refine ⟨l,?_,λh=> ?_⟩
   ·rw [pR (k+1) l c]
    refine bA ?_
    dsimp only
    rw [decide_eq_true (by omega),cond_true,show ((asR i).e == 0)=false by simpa [asR] using c,aA,cond_false]
   ·rw [pR (k+1) l c] at h
    exact absurd h c
theorem BJ {s:ByteArray} (h:s.size<=100000):jL s=some (o2 (jE s).1,(jE s).2):=by
 unfold jL jE
 by_cases c:s.size > 8192
 ·rw [decide_eq_true (by omega),cond_true,if_pos c]
  rfl
 ·rw [decide_eq_false (by omega),cond_false,if_neg c,Bn (by omega),aA]
  unfold pN
  cases ho:nK s with
  | false=>rfl
  | true =>
   have h4:4<=s.size:=by
    unfold nK at ho
    exact (of_decide_eq_true ho).1
   have hs:s.size<=8192:=by omega
   obtain ⟨v1,v2,v3,v4,v5,v6⟩:=E2 hs h4
   have v0:VI (⟨jD s,0⟩:aD):=⟨by show (jD s).size<=1000000; rw [kC h4]; omega,.inl rfl⟩
   rw [if_pos rfl]
   dsimp only
   rw [Bool.not_true,cond_false,show (aR.mk (jD s) 0)=asR ⟨jD s,0⟩ from rfl,fT _ v0,aA,show (rdS ⟨jD s,0⟩)=qgA s from rfl]
   dsimp only
   rw [fT _ v1,aA,show (rdS (qgA s).2)=qgB s from rfl]
   dsimp only
   rw [fT _ v2,aA,show (rdS (qgB s).2)=qgC s from rfl]
   dsimp only
   have hc0:=FK hs h4
   by_cases d:(qgC s).1 > 64
   ·have he:(qgC s).2.e=0:=nV v2 (by decide) d
    rw [show ((asR (qgC s).2).e == 0)=true by simpa [asR] using he,cond_true,decide_eq_true d,aA,cond_true,if_neg (by simp)]
    have hb:qgI s=iO:=by unfold qgI; rw [if_pos d]
    have hN:(qgN s).2=iO:=by unfold qgN; rw [hb]; exact pR _ _ (by decide)
    have hT:(qgT s).2=iO:=by unfold qgT; rw [hN,sQ (by decide)]
    have hE:jk (qgT s).2=1:=by rw [hT]; rfl
    rw [hE,if_pos (by decide)]
    rfl
   ·have hcc:((bif ((asR (qgC s).2).e == 0) then some (decide ((qgC s).1 > 64)) else some false):Option Bool)=some false:=by
     cases ((asR (qgC s).2).e == 0) with
     | true=>rw [cond_true,decide_eq_false d]
     | false=>rfl
    rw [hcc,aA,cond_false,if_neg (by simp)]
    have hi:qgI s=(qgC s).2:=by unfold qgI; rw [if_neg d]
    obtain ⟨l',e1,e2⟩:=BI (qgA s).1 (qgB s).1 (min (qgC s).1 64).toNat 0 (qgC s).2 [] (qgC s).1 v3 (by omega) rfl (by omega)
    have hgn:rdN (min (qgC s).1 64).toNat (qgC s).2 []=qgN s:=by unfold qgN; rw [hi]
    rw [hgn] at e1 e2
    rw [show (((0:Nat):Int))=0 from rfl] at e1
    rw [e1,aA]
    dsimp only
    rw [tX _ v5,aA,show ly (qgN s).2=qgT s from rfl]
    dsimp only
    rw [yJ _ v6,aA]
    by_cases e:jk (qgT s).2=0
    ·have hte:(qgT s).2.e=0:=by
      unfold jk at e
      split at e
      ·cases e
      ·exact e
     have hne:=(AZ v5 hte).1
     have hl:=e2 hne
     rw [e,hl,show ((0:Int) != 0)=false from rfl,cond_false,show (cL.mk (qgA s).1 (qgB s).1 (qgN s).1 (qgT s).1)=o2 (qgR s) from rfl,xR (by have:=BH s; omega) (by have:=BF hs h4; omega),aA,if_neg (λh=>h rfl)]
     by_cases f:gr (qgR s)=0
     ·rw [f,show ((0:Int) != 0)=false from rfl,cond_false,if_neg (λh=>h rfl)]
     ·rw [show (gr (qgR s) != 0)=true by simpa using f,cond_true,if_pos f]
      rfl
    ·rw [show (jk (qgT s).2 != 0)=true by simpa using e,cond_true,if_pos e]
     rfl
theorem yS {R:List Int} (hR:BB R): ∀ (L l:List Int),(∀ n∈L,okN n=true)->rdN L.length (bI (L.flatMap cF++R)) l=(l++L,bI R)
 | [],l,_=>by simp [rdN]
 | n::L,l,h=>by
  have hn:=of_decide_eq_true (h n List.mem_cons_self)
  have hR2:BB (L.flatMap cF++R):=jC (lR λx _=>kS x) hR
  rw [List.length_cons,rdN,List.flatMap_cons,List.append_assoc,Bd hR2 hn.1 hn.2]
  dsimp only
  rw [yS hR L _ λx hx=>h x (List.mem_cons_of_mem _ hx)]
  simp
theorem rL {g:aU} (h:gr g=0):iQ g=true/\(eO g).size<=8192:=by
 unfold gr at h
 cases hr:iQ g with
 | false=>rw [hr] at h; simp at h
 | true =>
  rw [hr,if_neg (by simp)] at h
  refine ⟨rfl,?_⟩
  split at h
  ·cases h
  ·omega
theorem ri {g:aU} (h:gr g=0):jE (eO g)=(g,0):=by
 obtain ⟨hr,hs⟩:=rL h
 have hr2:=hr
 unfold iQ at hr2
 simp only [Bool.and_eq_true,decide_eq_true_eq,List.all_eq_true] at hr2
 obtain ⟨⟨a1,a2⟩,⟨b1,b2⟩,c1,d1⟩:=hr2
 have hsz:=ou (dL (mc g))
 have ho:=zP (dL (mc g))
 rw [show na (dL (mc g))=eO g from rfl] at hsz ho
 have hd:g.data.size<=8192:=by
  rw [bP] at hsz
  have:g.data.size<=(mc g).length:=by unfold mc; simp only [List.length_append,aV]; omega
  omega
 unfold pN at ho
 cases hb:nK (eO g) with
 | false=>rw [hb,if_neg (by simp)] at ho; exact absurd (congrArg Prod.snd ho) (by simp)
 | true =>
  rw [hb,if_pos rfl] at ho
  have hf:jD (eO g)=dL (mc g):=(Prod.mk.inj ho).1
  have B0:BB (cF g.data.size++sbs g.data++[]):=jC (jC (kS _) (nE _)) (λb hb=>by cases hb)
  have B1:BB (g.aZ.flatMap cF++(cF g.data.size++sbs g.data++[])):=jC (lR λx _=>kS x) B0
  have B2:BB (cF (g.aZ.length:Int)++(g.aZ.flatMap cF++(cF g.data.size++sbs g.data++[]))):=jC (kS _) B1
  have B3:BB (cF g.kind++(cF (g.aZ.length:Int)++(g.aZ.flatMap cF++(cF g.data.size++sbs g.data++[])))):=jC (kS _) B2
  have e0:mc g=cF g.aY++(cF g.kind++(cF (g.aZ.length:Int)++(g.aZ.flatMap cF++(cF g.data.size++sbs g.data++[])))):=by
   unfold mc
   simp
  have hA:qgA (eO g)=(g.aY,bI (cF g.kind++(cF (g.aZ.length:Int)++(g.aZ.flatMap cF++(cF g.data.size++sbs g.data++[]))))):=by
   unfold qgA
   rw [hf,e0]
   exact Bd B3 (by omega) (by omega)
  have hB:qgB (eO g)=(g.kind,bI (cF (g.aZ.length:Int)++(g.aZ.flatMap cF++(cF g.data.size++sbs g.data++[])))):=by
   unfold qgB
   rw [hA]
   exact Bd B2 (by omega) (by omega)
  have hC:qgC (eO g)=((g.aZ.length:Int),bI (g.aZ.flatMap cF++(cF g.data.size++sbs g.data++[]))):=by
   unfold qgC
   rw [hB]
   exact Bd B1 (by omega) (by omega)
  have hI:qgI (eO g)=bI (g.aZ.flatMap cF++(cF g.data.size++sbs g.data++[])):=by
   unfold qgI
   rw [hC,if_neg (by dsimp only; omega)]
  have hN:qgN (eO g)=(g.aZ,bI (cF g.data.size++sbs g.data++[])):=by
   unfold qgN
   rw [hC,hI]
   have:(min ((g.aZ.length:Int)) 64).toNat=g.aZ.length:=by omega
   dsimp only
   rw [this,yS B0 g.aZ [] d1,List.nil_append]
  have hT:qgT (eO g)=(g.data,bI []):=by
   unfold qgT
   rw [hN]
   exact FH g.data (λb hb=>by cases hb) (by omega)
  have hR:qgR (eO g)=g:=by
   unfold qgR
   rw [hA,hB,hN,hT]
  unfold jE
  rw [if_neg (by omega),hb,if_neg (by simp),hT,show jk (bI [])=0 from rfl,if_neg (λh=>h rfl),hR,h,if_neg (λh=>h rfl)]
theorem BK (n:Int) (h0:0<=n) (h1:n<=1000001):eW n=some []:=by
 unfold eW
 have hn:decide (n < 0)=false:=decide_eq_false (by omega)
 have z:IntKind.i64.wrap (0 - 0)=0:=by decide
 rw [hn,cond_false,z,w64 (by omega) (by omega),Int.sub_zero]
 by_cases hp:n > 0
 ·have:decide (n > 0)=true:=decide_eq_true hp
  rw [this,cond_true,zt hp (by omega) (by omega),aA,dI (by omega) (by omega) (by omega),aA]
  rfl
 ·have:decide (n > 0)=false:=decide_eq_false hp
  rw [this,cond_false]
  rfl
theorem BL (a:List aB) (x:aB) (c:List aB) (h:a.length+c.length<=1000000):dJ [a,[x],c]=some (a++x::c):=by
 unfold dJ
 rw [bZ (s':=(1,(a.length:Int))),bZ (s':=(2,(a.length:Int)+1)),bZ (s':=(3,(a.length:Int)+1+c.length)),bA (r:=(a.length:Int)+1+c.length),aA,BK _ (by omega) (by omega),aA,bZ (s':=(1,a)),bZ (s':=(2,a++[x])),bZ (s':=(3,a++[x]++c)),bA (r:=a++[x]++c),aA,List.append_assoc]
 ·rfl
 ·rfl
 ·show (Option.bind (chk (dF (a++[x]).length c.length 16)) _)=_
  rw [bW (by simp; omega),aA]
  rfl
 ·show (Option.bind (chk (dF a.length 1 16)) _)=_
  rw [bW (by omega),aA]
  rfl
 ·show (Option.bind (chk (dF 0 a.length 16)) _)=_
  rw [bW (by omega),aA]
  rfl
 ·rfl
 ·show ((bif (decide ((IntKind.i64.wrap ((a.length:Int)+1+(c.length:Int))) < 0)) then none else some (.inl ((3:Int),(IntKind.i64.wrap ((a.length:Int)+1+(c.length:Int)))))):Option ((Int×Int) ⊕ Int))=_
  rw [w64 (by omega) (by omega),decide_eq_false (by omega),cond_false]
 ·show ((bif (decide ((IntKind.i64.wrap ((a.length:Int)+1)) < 0)) then none else some (.inl ((2:Int),(IntKind.i64.wrap ((a.length:Int)+1))))):Option ((Int×Int) ⊕ Int))=_
  rw [w64 (by omega) (by omega),decide_eq_false (by omega),cond_false]
 ·show ((bif (decide ((IntKind.i64.wrap (0+(a.length:Int))) < 0)) then none else some (.inl ((1:Int),(IntKind.i64.wrap (0+(a.length:Int)))))):Option ((Int×Int) ⊕ Int))=_
  rw [w64 (by omega) (by omega),decide_eq_false (by omega),cond_false,Int.zero_add]
def jF:List aB->aB->List aB
 | [],x=>[x]
 | y::l,x=>if y.to < x.from_ then y::jF l x else if y.from_ > x.to then x::y::l else jF l ⟨cW x.from_ y.from_,imax x.to y.to⟩
theorem nZ: ∀ (l:List aB) (x:aB),(jF l x).length<=l.length+1
 | [],x=>by simp [jF]
 | y::l,x=>by
  unfold jF
  split
  ·have:=nZ l x; simp; omega
  ·split
   ·simp
   ·have:=nZ l ⟨cW x.from_ y.from_,imax x.to y.to⟩; simp; omega
def spB (x:aB):Prop:= -1152921504606846976<=x.from_/\x.from_<=1152921504606846976 /\ -1152921504606846976<=x.to/\x.to<=1152921504606846976
theorem E3 {x:aB} (h:spB x):eI x=some x:=by
 obtain ⟨a,b,c,d⟩:=h
 unfold eI imax cW
 cases x
 dsimp only at a b c d ⊢
 congr 2 <;> (repeat' split) <;> omega
def mE (s:List aB) (l:List aB):List aB:=l.foldl (λs x=>if x.to<=x.from_ then s else jF s x) s
theorem ui: ∀ (l s:List aB),(mE s l).length<=s.length+l.length
 | [],s=>Nat.le_refl _
 | x::l,s=>by
  have h:=ui l (if x.to<=x.from_ then s else jF s x)
  have h2:(if x.to<=x.from_ then s else jF s x).length<=s.length+1:=by split; omega; exact nZ s x
  show (mE _ l).length<=_
  simp
  omega
theorem uS (s:List aB) (l:List aB) (hs:s.length+l.length<=1000000) (hl: ∀ x∈l,spB x):fE ⟨s⟩ l=some ⟨mE s l⟩:=by
 unfold fE
 refine dX (λn:Nat=>((⟨mE s (l.take n)⟩:cB),(n:Int))) l.length ⟨mE s l⟩ rfl (λn hn=> ?_) ?_ rfl
 ·dsimp only
  have hx:=hl _ (List.getElem_mem hn)
  have ht:mE s (l.take (n+1))=(if l[n].to<=l[n].from_ then mE s (l.take n) else jF (mE s (l.take n)) l[n]):=by
   unfold mE
   rw [List.take_succ_eq_append_getElem hn,List.foldl_append]
   rfl
  have hlen:=ui (l.take n) s
  rw [List.length_take] at hlen
  rw [decide_eq_true (by omega),cond_true,bL l n hn,aA,E3 hx,aA,show dD l[n]=some (decide (l[n].to<=l[n].from_)) from rfl,aA]
  generalize mE s (l.take n)=S at ht hlen ⊢
  by_cases c:l[n].to<=l[n].from_
  ·rw [decide_eq_true c,cond_true,aA,w64 (by omega) (by omega),ht,if_pos c]
   rfl
  ·rw [decide_eq_false c,cond_false,ht,if_neg c]
   have hg:(Option.bind (iter (σ:=aB×Int×(List aB)) (ρ:=((List aB)×aB) ⊕ cB) (λa=>(bif (decide (a.2.1 < (S.length:Int))) then (Option.bind ((Option.bind (idx S a.2.1) λb=>(bif (decide (b.to < a.1.from_)) then (Option.bind (chk (dF a.2.2.length [b].length 16)) λ_=>some (.inl ((a.2.2++[b]),a.1))) else (bif (decide (b.from_ > a.1.to)) then (Option.bind (chk (eK a.2.1 (S.length:Int) S.length)) λ_=>(Option.bind (dJ ([a.2.2,[a.1],(cut S a.2.1 (S.length:Int))])) λd=>(mj (eV (some (cB.mk d)))))) else some (.inl (a.2.2,(aB.mk (cW a.1.from_ b.from_) (imax a.1.to b.to))))))):Option (((List aB)×aB) ⊕ ((aB×Int×(List aB)) ⊕ (((List aB)×aB) ⊕ cB)))) λ | .inl e14292=>some (.inl (e14292.2,(IntKind.i64.wrap (a.2.1+1)),e14292.1)) | .inr w=>some w) else some (.inr (.inl (a.2.2,a.1))))) (l[n],0,[])) λ | .inl e14097=>(Option.bind (chk (dF e14097.1.length [e14097.2].length 16)) λ_=>some (cB.mk (e14097.1++[e14097.2]))) | .inr w=>some w)=some ⟨jF S l[n]⟩:=by
    refine py (λs:aB×Int×List aB=> ∃ k:Nat,s.2.1=k/\k<=S.length/\s.2.2.length<=k/\s.2.2++jF (S.drop k) s.1=jF S l[n]) (λs=>S.length - s.2.1.toNat) (λr=>(∃ o y,r = .inl (o,y)/\o++[y]=jF S l[n]/\o.length<=S.length)\/r = .inr ⟨jF S l[n]⟩) ⟨0,rfl,Nat.zero_le _,Nat.le_refl _,rfl⟩ ?_ ?_
    ·rintro ⟨x,i,o⟩ ⟨k,h1,h2,h3,h4⟩
     dsimp only at h1 h2 h3 h4 ⊢
     subst h1
     by_cases hk:k < S.length
     ·have hd:S.drop k=S[k]::S.drop (k+1):=List.drop_eq_getElem_cons hk
      rw [hd,jF] at h4
      rw [decide_eq_true (by omega),cond_true,bL S k hk,aA]
      by_cases c1:S[k].to < x.from_
      ·left
       rw [if_pos c1] at h4
       rw [decide_eq_true c1,cond_true,bW (by simp; omega),aA,aA]
       dsimp only
       rw [w64 (by omega) (by omega)]
       exact ⟨_,rfl,⟨k+1,by simp,hk,by simp; omega,by simpa using h4⟩,by dsimp only; omega⟩
      ·rw [if_neg c1] at h4
       rw [decide_eq_false c1,cond_false]
       by_cases c2:S[k].from_ > x.to
       ·right
        rw [if_pos c2] at h4
        rw [decide_eq_true c2,cond_true,dI (by omega) (by omega) (by omega),aA,BL _ _ _ (by rw [uB]; simp; omega),aA,uB,List.take_of_length_le (Nat.le_refl _),hd,h4]
        exact ⟨_,rfl,.inr rfl⟩
       ·left
        rw [if_neg c2] at h4
        rw [decide_eq_false c2,cond_false,aA]
        dsimp only
        rw [w64 (by omega) (by omega)]
        exact ⟨_,rfl,⟨k+1,by simp,hk,by dsimp only; omega,h4⟩,by dsimp only; omega⟩
     ·right
      rw [decide_eq_false (by omega),cond_false]
      refine ⟨_,rfl,.inl ⟨o,x,rfl,?_,by omega⟩⟩
      rw [List.drop_eq_nil_of_le (by omega)] at h4
      exact h4
    ·rintro r (⟨o,y,rfl,h1,h2⟩ | rfl)
     ·dsimp only
      rw [bW (by simp; omega),aA,h1]
     ·rfl
   refine Eq.trans (congrArg (λz=>Option.bind z _) hg) ?_
   rw [aA,w64 (by omega) (by omega)]
   rfl
 ·dsimp only
  rw [decide_eq_false (by omega),cond_false,List.take_of_length_le (Nat.le_refl _)]
theorem lS (a b:Int):cW a b<=a/\cW a b<=b/\(cW a b=a\/cW a b=b):=by unfold cW; split <;> omega
theorem jU (a b:Int):a<=imax a b/\b<=imax a b/\(imax a b=a\/imax a b=b):=by unfold imax; split <;> omega
def NF:Int->List aB->Prop
 | _,[]=>True
 | lo,x::l=>lo < x.from_/\x.from_ < x.to/\NF x.to l
def inP (l:List aB) (n:Int):Prop:= ∃ x∈l,x.from_<=n/\n < x.to
theorem eD {x:aB} {l:List aB} {n:Int}:inP (x::l) n↔(x.from_<=n/\n < x.to)\/inP l n:=by simp [inP]
theorem iW {n:Int}: ¬ inP [] n:=by simp [inP]
theorem NF.mono: ∀ {l:List aB} {a b:Int},NF b l->a<=b->NF a l
 | [],_,_,_,_=>trivial
 | x::l,a,b,h,hab=>⟨by have:=h.1; omega,h.2⟩
theorem NF.gt: ∀ {l:List aB} {a n:Int},NF a l->inP l n->a < n
 | [],_,_,_,hn=>absurd hn iW
 | x::l,a,n,h,hn=>by
  have h1:=h.1
  have h2:=h.2.1
  rcases eD.1 hn with h3 | h3
  ·omega
  ·have:=h.2.2.gt h3
   omega
theorem rM: ∀ (l:List aB) {lo:Int} {x:aB},NF lo l->lo < x.from_->x.from_ < x.to->NF lo (jF l x)
 | [],lo,x,h,h1,h2=>⟨h1,h2,trivial⟩
 | y::l,lo,x,h,h1,h2=>by
  have a1:=h.1
  have a2:=h.2.1
  rw [jF]
  split
  ·exact ⟨h.1,h.2.1,rM l h.2.2 (by omega) h2⟩
  ·split
   ·exact ⟨h1,h2,by omega,h.2.1,h.2.2⟩
   ·have:=lS x.from_ y.from_
    have:=jU x.to y.to
    exact rM l (h.2.2.mono (by omega)) (by dsimp only; omega) (by dsimp only; omega)
theorem rN: ∀ (l:List aB) {lo:Int} {x:aB} {n:Int},NF lo l->x.from_ < x.to->(inP (jF l x) n↔inP l n\/(x.from_<=n/\n < x.to))
 | [],lo,x,n,h,h2=>by simp [jF,inP]
 | y::l,lo,x,n,h,h2=>by
  have a1:=h.1
  have a2:=h.2.1
  rw [jF]
  split
  ·rw [eD,eD,rN l h.2.2 h2,or_assoc]
  ·split
   ·rw [eD,eD]
    exact Or.comm
   ·have e1:=lS x.from_ y.from_
    have e2:=jU x.to y.to
    rw [rN l h.2.2 (by dsimp only; omega),eD]
    dsimp only
    constructor
    ·rintro (h3 | h3)
     ·exact .inl (.inr h3)
     ·by_cases c:y.from_<=n/\n < y.to
      ·exact .inl (.inl c)
      ·exact .inr (by omega)
    ·rintro ((h3 | h3) | h3)
     ·exact .inr (by omega)
     ·exact .inl h3
     ·exact .inr (by omega)
theorem uT: ∀ {l l':List aB} {a b:Int},NF a l->NF b l'->(∀ n,inP l n↔inP l' n)->l=l'
 | [],[],_,_,_,_,_=>rfl
 | [],y::l',_,_,_,h',h=>absurd ((h y.from_).2 (eD.2 (.inl ⟨Int.le_refl _,h'.2.1⟩))) iW
 | x::l,[],_,_,h1,_,h=>absurd ((h x.from_).1 (eD.2 (.inl ⟨Int.le_refl _,h1.2.1⟩))) iW
 | x::l,y::l',a,b,h1,h',h=>by
  have p1:=h1.2.1
  have p2:=h'.2.1
  -- begins
  have b1: ∀ n,inP (x::l) n->x.from_<=n:=λn hn=>by
   rcases eD.1 hn with c | c
   ·exact c.1
   ·have:=h1.2.2.gt c; omega
  have b2: ∀ n,inP (y::l') n->y.from_<=n:=λn hn=>by
   rcases eD.1 hn with c | c
   ·exact c.1
   ·have:=h'.2.2.gt c; omega
  have e1:x.from_=y.from_:=by
   have:=b2 _ ((h x.from_).1 (eD.2 (.inl ⟨Int.le_refl _,p1⟩)))
   have:=b1 _ ((h y.from_).2 (eD.2 (.inl ⟨Int.le_refl _,p2⟩)))
   omega
  -- ends
  have n1: ¬ inP (x::l) x.to:=λhn=>by
   rcases eD.1 hn with c | c
   ·omega
   ·have:=h1.2.2.gt c; omega
  have n2: ¬ inP (y::l') y.to:=λhn=>by
   rcases eD.1 hn with c | c
   ·omega
   ·have:=h'.2.2.gt c; omega
  have e2:x.to=y.to:=by
   rcases Int.lt_trichotomy x.to y.to with c | c | c
   ·exact absurd ((h x.to).2 (eD.2 (.inl (by omega)))) n1
   ·exact c
   ·exact absurd ((h y.to).1 (eD.2 (.inl (by omega)))) n2
  have e3:x=y:=by cases x; cases y; simp_all
  subst e3
  rw [uT h1.2.2 h'.2.2 λn=> ?_]
  constructor
  ·intro hn
   rcases eD.1 ((h n).1 (eD.2 (.inr hn))) with c | c
   ·have:=h1.2.2.gt hn; omega
   ·exact c
  ·intro hn
   rcases eD.1 ((h n).2 (eD.2 (.inr hn))) with c | c
   ·have:=h'.2.2.gt hn; omega
   ·exact c
def iR:List aB->Int
 | []=>0
 | x::l=>x.to - x.from_+iR l
theorem qL: ∀ (l:List aB) {lo:Int} {x:aB},NF lo l->x.from_ < x.to->(∀ n,x.from_<=n->n < x.to -> ¬ inP l n)->iR (jF l x)=iR l+(x.to - x.from_)
 | [],lo,x,h,h2,h3=>by simp [jF,iR]
 | y::l,lo,x,h,h2,h3=>by
  have a1:=h.1
  have a2:=h.2.1
  have hl: ∀ n,x.from_<=n->n < x.to -> ¬ inP l n:=λn b1 b2 b3=>h3 n b1 b2 (eD.2 (.inr b3))
  rw [jF]
  split
  ·simp only [iR]
   rw [qL l h.2.2 h2 hl]
   omega
  ·split
   ·simp only [iR]
    omega
   ·have e1:=lS x.from_ y.from_
    have e2:=jU x.to y.to
    have d1:y.to<=x.from_\/x.to<=y.from_:=by
     by_cases c:x.from_<=y.from_
     ·by_cases c2:y.from_ < x.to
      ·exact absurd (eD.2 (.inl ⟨Int.le_refl _,a2⟩)) (h3 y.from_ c c2)
      ·exact .inr (by omega)
     ·by_cases c2:x.from_ < y.to
      ·exact absurd (eD.2 (.inl ⟨by omega,c2⟩)) (h3 x.from_ (Int.le_refl _) h2)
      ·exact .inl (by omega)
    rw [qL l h.2.2 (by dsimp only; omega) (λn b1 b2 b3=> ?_)]
    ·show _=y.to - y.from_+iR l+_
     dsimp only; omega
    ·dsimp only at b1 b2
     have:=h.2.2.gt b3
     exact hl n (by omega) (by omega) b3
def jQ (s:List aB) (R:List Int):List aB:=R.foldl (λs i=>jF s ⟨i,i+1⟩) s
theorem nh: ∀ (R:List Int) (s:List aB),NF (-1) s->R.Nodup->(∀ i∈R,0<=i /\ ¬ inP s i)->NF (-1) (jQ s R)/\(∀ n,inP (jQ s R) n↔inP s n\/n∈R)/\iR (jQ s R)=iR s+R.length
 | [],s,h,_,_=>⟨h,λn=>by simp [jQ],by simp [jQ]⟩
 | i::R,s,h,hn,hi=>by
  have h0:=hi i List.mem_cons_self
  have hn':=List.nodup_cons.1 hn
  have h1:NF (-1) (jF s ⟨i,i+1⟩):=rM s h (by dsimp only; omega) (by dsimp only; omega)
  have h2: ∀ n,inP (jF s ⟨i,i+1⟩) n↔inP s n\/n=i:=λn=>by
   rw [rN s h (by dsimp only; omega)]
   dsimp only
   constructor
   ·rintro (a | a)
    ·exact .inl a
    ·exact .inr (by omega)
   ·rintro (a | a)
    ·exact .inl a
    ·exact .inr (by omega)
  have h3:iR (jF s ⟨i,i+1⟩)=iR s+1:=by
   rw [qL s h (by dsimp only; omega) (λn a b c=>h0.2 (by dsimp only at a b; rw [show i=n by omega]; exact c))]
   dsimp only
   omega
  obtain ⟨q1,q2,q3⟩:=nh R _ h1 hn'.2 (λj hj=>⟨(hi j (List.mem_cons_of_mem _ hj)).1,λa=>by
   rcases (h2 j).1 a with a | a
   ·exact (hi j (List.mem_cons_of_mem _ hj)).2 a
   ·exact hn'.1 (a ▸ hj)⟩)
  refine ⟨q1,λn=> ?_,?_⟩
  ·show inP (jQ (jF s ⟨i,i+1⟩) R) n↔_
   rw [q2,h2,or_assoc,List.mem_cons]
  ·show iR (jQ (jF s ⟨i,i+1⟩) R)=_
   rw [q3,h3,List.length_cons]
   omega
theorem qM: ∀ (R:List Int) (s:List aB),(jQ s R).length<=s.length+R.length
 | [],s=>Nat.le_refl _
 | i::R,s=>by
  have h:=qM R (jF s ⟨i,i+1⟩)
  have h2:=nZ s ⟨i,i+1⟩
  show (jQ (jF s ⟨i,i+1⟩) R).length<=_
  rw [List.length_cons]
  omega
theorem sS {R R':List Int} (hp:R'.Perm R) (hn:R.Nodup) (h0: ∀ i∈R,0<=i):jQ [] R'=jQ [] R:=by
 obtain ⟨a1,a2,_⟩:=nh R [] trivial hn (λi hi=>⟨h0 i hi,iW⟩)
 obtain ⟨b1,b2,_⟩:=nh R' [] trivial (hp.nodup_iff.2 hn) (λi hi=>⟨h0 i (hp.mem_iff.1 hi),iW⟩)
 refine uT b1 a1 λn=> ?_
 rw [a2,b2,hp.mem_iff]
theorem D4 (A:cB->Option (cB ⊕ cB)) (hA: ∀ s,A s=some (.inr s)) (B:Int×CacheEntry->cB->Option (cB ⊕ cB)) (hB: ∀ e s,B e s=Option.bind (fE s [(aB.mk e.1 (IntKind.i64.wrap (e.1+1)))]) λs2=>some (.inl s2)): ∀ (R:List (Int×CacheEntry)) (s:List aB),s.length+R.length<=900000->(∀ e∈R,0<=e.1/\e.1 < 1152921504606846976)->lX A B R ⟨s⟩=some ⟨jQ s (R.map Prod.fst)⟩
 | [],s,_,_=>by
  unfold lX
  rw [hA]
  rfl
 | e::R,s,h,hr=>by
  have h0:=hr e List.mem_cons_self
  have hl:=nZ s ⟨e.1,e.1+1⟩
  rw [List.length_cons] at h
  unfold lX
  rw [hB,w64 (by omega) (by omega),uS s _ (by simp; omega) (λx hx=>by rw [List.mem_singleton.1 hx]; refine ⟨?_,?_,?_,?_⟩ <;> (dsimp only; omega)),aA,aA]
  have ha:mE s [⟨e.1,e.1+1⟩]=jF s ⟨e.1,e.1+1⟩:=by
   show (if _ then _ else _)=_
   rw [if_neg (by dsimp only; omega)]
  rw [ha]
  exact D4 A hA B hB R _ (by omega) (λe he=>hr e (List.mem_cons_of_mem _ he))
theorem qN {c:aQ} {m:List (Int×CacheEntry)} (hm:c.l=some m) (hl:m.length<=900000) (hk:(m.map Prod.fst).Nodup) (hr: ∀ e∈m,0<=e.1/\e.1 < 1152921504606846976):dH c=some (jQ [] (m.map Prod.fst)):=by
 unfold dH
 have hk':=qM (m.map Prod.fst) []
 rw [List.length_map] at hk'
 have h0: ∀ i∈m.map Prod.fst,0<=i:=λi hi=>by
  obtain ⟨e,he,rfl⟩:=List.mem_map.1 hi
  exact (hr e he).1
 rw [hm,show chk (some m:Mp CacheEntry).isSome=some () from rfl,aA,Option.getD_some,uz (r:=⟨jQ [] (m.map Prod.fst)⟩) λR hR=> ?_,aA]
 ·show Option.bind (Option.bind (chk (dF 0 (jQ [] (m.map Prod.fst)).length 16)) _) _=_
  rw [bW (by simp at hk'; omega)]
  rfl
 ·rw [D4 _ (λ_=>rfl) _ (λ_ _=>rfl) R [] (by rw [hR.length_eq]; simpa using hl) (λe he=>hr e (hR.mem_iff.1 he)),sS (hR.map Prod.fst) hk h0]
def neS (p:aB):Bool:=decide (p.from_ < p.to)
def uU (x y:aB):List aB:=[⟨y.from_,cW y.to x.from_⟩,⟨imax y.from_ x.to,y.to⟩]
def nO (x y:aB):List aB:=(uU x y).filter neS
theorem wm {α:Type} (f:α->List α) (h: ∀ y,(f y).length<=2): ∀ l:List α,(l.flatMap f).length<=2*l.length
 | []=>by simp
 | y::l=>by
  have h1:=h y
  have h2:=wm f h l
  simp only [List.flatMap_cons,List.length_append,List.length_cons]
  omega
theorem BM (x y:aB):(nO x y).length<=2:=List.length_filter_le neS (uU x y)
theorem xU (l:List aB) (x:aB) (hl:l.length<=400000):gx (λa b=>(Option.bind (chk (dF a.length [b].length 16)) λ_=>some ((a++[b]),true))) ([]:(List aB)) l x=some (l.flatMap (nO x)):=by
 unfold gx
 refine dX (λn:Nat=>((n:Int),(l.take n).flatMap (nO x))) l.length (.inl (l.flatMap (nO x))) rfl (λn hn=> ?_) ?_ rfl
 ·dsimp only
  have hlen:=wm (nO x) (BM x) (l.take n)
  rw [List.length_take] at hlen
  rw [decide_eq_true (by omega),cond_true,bL l n hn,aA,List.take_succ_eq_append_getElem hn,List.flatMap_append]
  generalize (l.take n).flatMap (nO x)=o at hlen ⊢
  refine dX (λj:Nat=>((j:Int),o++((uU x l[n]).take j).filter neS)) 2 (.inl (o++nO x l[n])) (by simp) (λj hj=> ?_) ?_ ?_
  ·dsimp only
   have hf:=List.length_filter_le neS ((uU x l[n]).take j)
   rw [List.length_take] at hf
   have h2:(uU x l[n]).length=2:=rfl
   rw [show ([(aB.mk l[n].from_ (cW l[n].to x.from_)),(aB.mk (imax l[n].from_ x.to) l[n].to)]:List aB)=uU x l[n] from rfl,decide_eq_true (by omega),cond_true,bL _ j (by omega),aA,List.take_succ_eq_append_getElem (by omega),List.filter_append]
   generalize (uU x l[n])[j]=p
   rw [show dD p=some (decide (p.to<=p.from_)) from rfl,aA]
   by_cases c:p.to<=p.from_
   ·rw [decide_eq_true c,Bool.not_true,cond_false,aA,cond_false,w64 (by omega) (by omega)]
    have:[p].filter neS=[]:=by simp [neS]; omega
    rw [this,List.append_nil]
    rfl
   ·rw [decide_eq_false c,Bool.not_false,cond_true,bW (by simp; omega),aA,aA,aA,Bool.not_true,cond_false,w64 (by omega) (by omega)]
    have:[p].filter neS=[p]:=by simp [neS]; omega
    rw [this,List.append_assoc]
    rfl
  ·dsimp only
   rw [show ([(aB.mk l[n].from_ (cW l[n].to x.from_)),(aB.mk (imax l[n].from_ x.to) l[n].to)]:List aB)=uU x l[n] from rfl]
   rfl
  ·show some _=some _
   rw [w64 (by omega) (by omega)]
   simp
 ·dsimp only
  rw [decide_eq_false (by omega),cond_false,List.take_of_length_le (Nat.le_refl _)]
def nL (l:List aB) (x:aB):List aB:=if x.to<=x.from_ then l else l.flatMap (nO x)
def oL (s l:List aB):List aB:=l.foldl nL s
structure WS (k:Int) (s:List aB):Prop where
 b: ∀ y∈s,0<=y.from_/\y.from_ < y.to/\y.to<=1152921504606846976
 l:iR s<=k
theorem pS: ∀ a b:List aB,iR (a++b)=iR a+iR b
 | [],b=>by simp [iR]
 | x::a,b=>by simp only [List.cons_append,iR,pS a b]; omega
theorem WS.len {k:Int} {s:List aB} (h:WS k s):(s.length:Int)<=iR s:=by
 have: ∀ s:List aB,(∀ y∈s,0<=y.from_/\y.from_ < y.to/\y.to<=1152921504606846976)->(s.length:Int)<=iR s:=by
  intro s
  induction s with
  | nil=>intro _; simp [iR]
  | cons y s ih =>
   intro h
   have:=ih λz hz=>h z (List.mem_cons_of_mem _ hz)
   have:=h y List.mem_cons_self
   simp only [List.length_cons,iR]
   omega
 exact this s h.b
theorem Df {x y:aB} (hx:x.from_<=x.to) (hy:0<=y.from_/\y.from_ < y.to/\y.to<=1152921504606846976) (h0:0<=x.to):(∀ z∈nO x y,0<=z.from_/\z.from_ < z.to/\z.to<=1152921504606846976)/\iR (nO x y)<=y.to - y.from_:=by
 have e1:=lS y.to x.from_
 have e2:=jU y.from_ x.to
 unfold nO uU
 simp only [List.filter_cons,List.filter_nil,neS,decide_eq_true_eq]
 split <;> split <;> (constructor <;> simp only [iR,List.forall_mem_cons,List.not_mem_nil,false_implies,implies_true,and_true] <;> omega)
theorem WS.cut {k:Int} {s:List aB} (h:WS k s) {x:aB} (h0:0<=x.to):WS k (nL s x):=by
 unfold nL
 split
 ·exact h
 ·have hx:x.from_<=x.to:=by omega
  have key: ∀ s:List aB,(∀ y∈s,0<=y.from_/\y.from_ < y.to/\y.to<=1152921504606846976)->(∀ z∈s.flatMap (nO x),0<=z.from_/\z.from_ < z.to/\z.to<=1152921504606846976)/\iR (s.flatMap (nO x))<=iR s:=by
   intro s
   induction s with
   | nil=>intro _; simp [iR]
   | cons y s ih =>
    intro h
    obtain ⟨a1,a2⟩:=ih λz hz=>h z (List.mem_cons_of_mem _ hz)
    obtain ⟨b1,b2⟩:=Df hx (h y List.mem_cons_self) h0
    simp only [List.flatMap_cons,pS,iR]
    refine ⟨λz hz=> ?_,by omega⟩
    rcases List.mem_append.1 hz with hz | hz
    ·exact b1 z hz
    ·exact a1 z hz
  obtain ⟨a1,a2⟩:=key s h.b
  exact ⟨a1,by have:=h.l; omega⟩
theorem WS.E4 {k:Int}: ∀ {l s:List aB},WS k s->(∀ x∈l,0<=x.to)->WS k (oL s l)
 | [],_,h,_=>h
 | x::l,s,h,hl=>WS.E4 (l:=l) (h.cut (hl x List.mem_cons_self)) λz hz=>hl z (List.mem_cons_of_mem _ hz)
def fX (x:aB):aB:=⟨imax (-1152921504606846976) (cW x.from_ 1152921504606846976),imax (-1152921504606846976) (cW x.to 1152921504606846976)⟩
theorem yT {x:aB} (h:0<=x.to):0<=(fX x).to:=by
 have:=lS x.to 1152921504606846976
 have:=jU (-1152921504606846976) (cW x.to 1152921504606846976)
 show 0<=imax _ _
 omega
theorem uV {k:Int} (hk:k<=100000) (s:List aB) (l:List aB) (hs:WS k s) (hl:l.length<=1000000) (hb: ∀ x∈l,0<=x.to):gu ⟨s⟩ l=some ⟨oL s (l.map fX)⟩:=by
 unfold gu
 refine dX (λn:Nat=>((⟨oL s ((l.take n).map fX)⟩:cB),(n:Int))) l.length ⟨oL s (l.map fX)⟩ rfl (λn hn=> ?_) ?_ rfl
 ·dsimp only
  have hx:=hb _ (List.getElem_mem hn)
  have hw:WS k (oL s ((l.take n).map fX)):=hs.E4 λx hx=>by
   obtain ⟨y,hy,rfl⟩:=List.mem_map.1 hx
   exact yT (hb y (List.mem_of_mem_take hy))
  have ht:oL s ((l.take (n+1)).map fX)=nL (oL s ((l.take n).map fX)) (fX l[n]):=by
   unfold oL
   rw [List.take_succ_eq_append_getElem hn,List.map_append,List.foldl_append]
   rfl
  rw [decide_eq_true (by omega),cond_true,bL l n hn,aA,show eI l[n]=some (fX l[n]) from rfl,aA,show dD (fX l[n])=some (decide ((fX l[n]).to<=(fX l[n]).from_)) from rfl,aA]
  generalize oL s ((l.take n).map fX)=S at ht hw ⊢
  generalize fX l[n]=y at ht ⊢
  by_cases c:y.to<=y.from_
  ·rw [decide_eq_true c,cond_true,aA,w64 (by omega) (by omega),ht,nL,if_pos c]
   rfl
  ·have hlen:=hw.len
   have hl2:=hw.l
   rw [decide_eq_false c,cond_false,ht,nL,if_neg c,show jT S y=some (S,y) from rfl,aA]
   dsimp only
   rw [xU S y (by omega),aA,aA,w64 (by omega) (by omega)]
   rfl
 ·dsimp only
  rw [decide_eq_false (by omega),cond_false,List.take_of_length_le (Nat.le_refl _)]
def wo (x y:aB):aB:=⟨imax y.from_ x.from_,cW y.to x.to⟩
def inL (s:List aB) (x:aB):List aB:=(s.map (wo x)).filter neS
theorem Dg (s:List aB) (x:aB):(inL s x).length<=s.length:=by
 have:=List.length_filter_le neS (s.map (wo x))
 rw [List.length_map] at this
 exact this
theorem BN (s:List aB) (x:aB) (hs:s.length<=1000000):gY ⟨s⟩ x=some (inL s (fX x)):=by
 unfold gY
 refine dX (λn:Nat=>((n:Int),inL (s.take n) (fX x))) s.length (inL s (fX x)) rfl (λn hn=> ?_) ?_ rfl
 ·dsimp only
  have hlen:=Dg (s.take n) (fX x)
  rw [List.length_take] at hlen
  have ht:inL (s.take (n+1)) (fX x)=inL (s.take n) (fX x)++[wo (fX x) s[n]].filter neS:=by
   unfold inL
   rw [List.take_succ_eq_append_getElem hn,List.map_append,List.filter_append]
   rfl
  rw [decide_eq_true (by omega),cond_true,bL s n hn,aA,show eI x=some (fX x) from rfl,aA,show iT s[n] (fX x)=some (wo (fX x) s[n]) from rfl,aA,ht]
  generalize wo (fX x) s[n]=p
  generalize inL (s.take n) (fX x)=o at hlen ⊢
  rw [show dD p=some (decide (p.to<=p.from_)) from rfl,aA]
  by_cases c:p.to<=p.from_
  ·have:[p].filter neS=[]:=by simp [neS]; omega
   rw [decide_eq_true c,Bool.not_true,cond_false,aA,w64 (by omega) (by omega),this,List.append_nil]
   rfl
  ·have:[p].filter neS=[p]:=by simp [neS]; omega
   rw [decide_eq_false c,Bool.not_false,cond_true,bW (by simp; omega),aA,aA,w64 (by omega) (by omega),this]
   rfl
 ·dsimp only
  rw [decide_eq_false (by omega),cond_false,List.take_of_length_le (Nat.le_refl _)]
theorem Dh {k:Int} {s:List aB} (h:WS k s) (hk:k<=1000000):iG ⟨s⟩=some (iR s):=by
 unfold iG
 have hlen:=h.len
 have hl:=h.l
 have hp: ∀ n:Nat,0<=iR (s.take n)/\iR (s.take n)<=iR s:=λn=>by
  have e:=pS (s.take n) (s.drop n)
  rw [List.take_append_drop] at e
  have:WS k (s.take n)->True:=λ_=>trivial
  have nn: ∀ l:List aB,(∀ y∈l,y∈s)->0<=iR l:=by
   intro l
   induction l with
   | nil=>intro _; exact Int.le_refl _
   | cons y l ih =>
    intro hy
    have:=ih λz hz=>hy z (List.mem_cons_of_mem _ hz)
    have:=h.b y (hy y List.mem_cons_self)
    show 0<=y.to - y.from_+iR l
    omega
  have a1:=nn (s.take n) λy hy=>List.mem_of_mem_take hy
  have a2:=nn (s.drop n) λy hy=>List.mem_of_mem_drop hy
  omega
 refine dX (λn:Nat=>((n:Int),iR (s.take n))) s.length (iR s) rfl (λn hn=> ?_) ?_ rfl
 ·dsimp only
  have hb:=h.b _ (List.getElem_mem hn)
  have h1:=hp n
  have h2:=hp (n+1)
  rw [List.take_succ_eq_append_getElem hn,pS] at h2 ⊢
  have e:iR [s[n]]=s[n].to - s[n].from_:=by show _+0=_; omega
  rw [e] at h2 ⊢
  rw [decide_eq_true (by omega),cond_true,bL s n hn,aA,w64 (x:=s[n].to - s[n].from_) (by omega) (by omega),w64 (x:=(n:Int)+1) (by omega) (by omega),w64 (by omega) (by omega)]
  rfl
 ·dsimp only
  rw [decide_eq_false (by omega),cond_false,List.take_of_length_le (Nat.le_refl _)]
theorem Di (s:List aB) (i:Int) (hs:s.length<=1000000): ∃ b,fW ⟨s⟩ i=some b/\(b=true->inP s i):=by
 have key: ∃ j:Int,bT s i=some j/\(0<=j->inP s i):=by
  unfold bT
  have hst: ∀ z:Int,(∃ n:Nat,z=n/\n<=s.length)->(∃ z',(λs52:Int=>((bif (decide (s52 < (s.length:Int))) then (Option.bind (idx s s52) λa=>(Option.bind (cR a i) λd=>(bif d then (eV (some s52)) else some (.inl (IntKind.i64.wrap (s52+1)))))) else some (.inr (.inl ()))):Option (Int ⊕ (Unit ⊕ Int)))) z=some (.inl z')/\(∃ n:Nat,z'=n/\n<=s.length)/\s.length - z'.toNat < s.length - z.toNat)\/(∃ r,(λs52:Int=>((bif (decide (s52 < (s.length:Int))) then (Option.bind (idx s s52) λa=>(Option.bind (cR a i) λd=>(bif d then (eV (some s52)) else some (.inl (IntKind.i64.wrap (s52+1)))))) else some (.inr (.inl ()))):Option (Int ⊕ (Unit ⊕ Int)))) z=some (.inr r)/\(r = .inl () \/ ∃ j,r = .inr j/\inP s i)):=by
   rintro _ ⟨n,rfl,hn⟩
   dsimp only
   by_cases c:n < s.length
   ·rw [decide_eq_true (by omega),cond_true,bL s n c,aA]
    by_cases c2:i>=s[n].from_/\i < s[n].to
    ·right
     refine ⟨_,?_,.inr ⟨(n:Int),rfl,s[n],List.getElem_mem c,c2⟩⟩
     rw [show cR s[n] i=some true by unfold cR; rw [decide_eq_true c2.1,decide_eq_true c2.2]; rfl,aA,cond_true]
     rfl
    ·left
     rw [show cR s[n] i=some false by
      unfold cR
      by_cases c3:i>=s[n].from_
      ·rw [decide_eq_true c3,decide_eq_false (by omega)]; rfl
      ·rw [decide_eq_false c3]; rfl,aA,cond_false,w64 (by omega) (by omega)]
     exact ⟨_,rfl,⟨n+1,rfl,c⟩,by omega⟩
   ·right
    rw [decide_eq_false (by omega),cond_false]
    exact ⟨_,rfl,.inl rfl⟩
  obtain ⟨r,e1,e2⟩:=m6 (σ:=Int) (λz=> ∃ n:Nat,z=n/\n<=s.length) (λz=>s.length - z.toNat) _ hst 0 ⟨0,rfl,Nat.zero_le _⟩
  refine Exists.imp (λj h=>⟨(congrArg (λz=>Option.bind z _) e1).trans h.1,h.2⟩) (?_: ∃ j:Int,_/\(0<=j->inP s i))
  rw [aA]
  rcases e2 with rfl | ⟨j,rfl,h⟩
  ·exact ⟨-1,rfl,λh=>by omega⟩
  ·exact ⟨j,rfl,λ_=>h⟩
 obtain ⟨j,h1,h2⟩:=key
 refine ⟨decide (j>=0),?_,λh=>h2 (of_decide_eq_true h)⟩
 unfold fW cJ
 dsimp only
 rw [h1]
 rfl
def sp (x:aE):aB:=⟨x.from_,x.to⟩
def rsp (l:List aE):List aB:=l.map sp
def hsR (l:List aE) (n:Int):Bool:=l.any λx:aE=>decide (n>=x.from_) && decide (n < x.to)
theorem rO {l:List aE} {n:Int}:hsR l n=true↔inP (rsp l) n:=by
 simp only [hsR,List.any_eq_true,Bool.and_eq_true,decide_eq_true_eq,inP,rsp,List.mem_map]
 exact ⟨λ⟨x,hx,h⟩=>⟨sp x,⟨x,hx,rfl⟩,h⟩,λ⟨_,⟨x,hx,rfl⟩,h⟩=>⟨x,hx,h⟩⟩
theorem BO {α ρ:Type} (l:List α) (p:α->Bool) (y n:ρ) {f:Int->Option (Int ⊕ ρ)} (h: ∀ i (hi:i < l.length),f (i:Int)=if p l[i]=true then some (.inr y) else some (.inl ((i+1:Nat):Int))) (he:f (l.length:Int)=some (.inr n)):iter f 0=some (if l.any p=true then y else n):=by
 have key: ∀ k i,i+k=l.length->iter f (i:Int)=some (if (l.drop i).any p=true then y else n):=by
  intro k
  induction k with
  | zero =>
   intro i hi
   obtain rfl:i=l.length:=by omega
   rw [bA he,List.drop_length]
   rfl
  | succ k ih =>
   intro i hi
   have hlt:i < l.length:=by omega
   have h1:=h i hlt
   rw [List.drop_eq_getElem_cons hlt,List.any_cons]
   by_cases c:p l[i]=true
   ·rw [if_pos c] at h1
    rw [bA h1,c,Bool.true_or,if_pos rfl]
   ·rw [if_neg c] at h1
    rw [bZ h1,ih (i+1) (by omega),Bool.eq_false_iff.2 c,Bool.false_or]
 exact key l.length 0 (by omega)
theorem uW (l:List aE) (n:Int) (hl:l.length<=4000000):je l n=some (hsR l n):=by
 unfold je
 rw [BO l (λx:aE=>decide (n>=x.from_) && decide (n < x.to)) (.inr true) (.inl ()) (λi hi=> ?_) ?_,aA]
 ·show _=some (l.any _)
  cases l.any λx:aE=>decide (n>=x.from_) && decide (n < x.to) <;> rfl
 ·rw [decide_eq_false (by omega)]
  rfl
 ·rw [decide_eq_true (by omega),cond_true,bL l i hi,aA,w64 (by omega) (by omega)]
  cases decide (n>=l[i].from_) <;> cases decide (n < l[i].to) <;> rfl
def kI (mode:Int) (x y:Bool):Bool:=if mode=0 then x || y else if mode=1 then x && !y else if mode=2 then x && y else !x && y
theorem Dj (mode:Int) (x y:Bool):kr mode x y=some (kI mode x y):=by
 unfold kr kI
 by_cases c0:mode=0
 ·subst c0; cases x <;> cases y <;> rfl
 ·rw [beq_eq_false_iff_ne.2 c0,cond_false,if_neg c0]
  by_cases c1:mode=1
  ·subst c1; cases x <;> cases y <;> rfl
  ·rw [beq_eq_false_iff_ne.2 c1,cond_false,if_neg c1]
   by_cases c2:mode=2
   ·subst c2; cases x <;> cases y <;> rfl
   ·rw [beq_eq_false_iff_ne.2 c2,cond_false,if_neg c2]
    cases x <;> cases y <;> rfl
theorem sT (mode:Int):kI mode false false=false:=by unfold kI; split <;> simp
def lT (e:Int):List Int->List Int
 | []=>[e]
 | x::l=>if x < e then x::lT e l else if x=e then x::l else e::x::l
def iK (e:Int):List Int->Nat
 | []=>0
 | x::l=>if x < e then iK e l+1 else 0
theorem yU (e:Int): ∀ l,iK e l<=l.length
 | []=>Nat.le_refl _
 | x::l=>by
  have:=yU e l
  simp only [iK,List.length_cons]
  split <;> omega
theorem yV (e:Int): ∀ l i (h:i < l.length),i < iK e l->l[i] < e
 | x::l,0,h,hi=>by
  simp only [iK] at hi
  split at hi
  ·assumption
  ·omega
 | x::l,i+1,h,hi=>by
  simp only [iK] at hi
  split at hi
  ·exact yV e l i (by simpa using h) (by omega)
  ·omega
theorem wq (e:Int): ∀ l (h:iK e l < l.length),¬ l[iK e l] < e
 | x::l,h=>by
  by_cases c:x < e
  ·have e1:iK e (x::l)=iK e l+1:=if_pos c
   simp only [e1,List.getElem_cons_succ]
   exact wq e l (by rw [e1] at h; simpa using h)
  ·have e1:iK e (x::l)=0:=if_neg c
   simp only [e1,List.getElem_cons_zero]
   exact c
theorem wu (e:Int): ∀ l,lT e l=if l[iK e l]?=some e then l else l.take (iK e l)++([e]++l.drop (iK e l))
 | []=>rfl
 | x::l=>by
  by_cases c:x < e
  ·have e1:iK e (x::l)=iK e l+1:=if_pos c
   rw [lT,if_pos c,wu e l,e1,List.getElem?_cons_succ]
   split <;> rfl
  ·have e1:iK e (x::l)=0:=if_neg c
   rw [lT,if_neg c,e1,List.getElem?_cons_zero]
   by_cases c2:x=e
   ·rw [if_pos c2,if_pos (by rw [c2])]
   ·rw [if_neg c2,if_neg (by simpa using c2)]
    rfl
theorem pT {e n:Int}: ∀ {l},n∈lT e l↔n=e\/n∈l
 | []=>by simp [lT]
 | x::l=>by
  rw [lT]
  split
  ·rw [List.mem_cons,pT,List.mem_cons]
   exact ⟨λh=>by rcases h with h | h | h <;> simp [h],λh=>by rcases h with h | h | h <;> simp [h]⟩
  ·split
   ·rename_i h
    subst h
    simp
   ·simp
theorem n0 {e:Int}: ∀ l,(lT e l).length<=l.length+1
 | []=>Nat.le_refl _
 | x::l=>by
  have:=n0 (e:=e) l
  rw [lT]
  split
  ·simp only [List.length_cons]; omega
  ·split <;> simp
theorem qO {e:Int}: ∀ {l},l.Pairwise (· < ·)->(lT e l).Pairwise (· < ·)
 | [],_=>List.pairwise_singleton _ _
 | x::l,h=>by
  have h1:=List.pairwise_cons.1 h
  rw [lT]
  split
  ·rename_i c
   refine List.pairwise_cons.2 ⟨λy hy=> ?_,qO h1.2⟩
   rcases pT.1 hy with rfl | hy
   ·exact c
   ·exact h1.1 y hy
  ·split
   ·exact h
   ·refine List.pairwise_cons.2 ⟨λy hy=> ?_,h⟩
    rcases List.mem_cons.1 hy with rfl | hy
    ·omega
    ·have:=h1.1 y hy; omega
def kT (l:List aE):List Int:=l.foldl (λE x=>lT x.to (lT x.from_ E)) []
theorem wv (l:List aE) (x:aE):kT (l++[x])=lT x.to (lT x.from_ (kT l)):=by
 unfold kT
 rw [List.foldl_append]
 rfl
theorem xV (l:List aE):(kT l).Pairwise (· < ·)/\(kT l).length<=2*l.length /\ ∀ n,n∈kT l ↔ ∃ x∈l,n=x.from_\/n=x.to:=by
 have key: ∀ k,k<=l.length->(kT (l.take k)).Pairwise (· < ·)/\(kT (l.take k)).length<=2*k /\ ∀ n,n∈kT (l.take k) ↔ ∃ x∈l.take k,n=x.from_\/n=x.to:=by
  intro k
  induction k with
  | zero=>intro _; exact ⟨.nil,Nat.le_refl _,λn=>by simp [kT]⟩
  | succ k ih =>
   intro hk
   obtain ⟨h1,h2,h3⟩:=ih (by omega)
   rw [List.take_succ_eq_append_getElem (by omega),wv]
   refine ⟨qO (qO h1),?_,λn=> ?_⟩
   ·have a1:=n0 (e:=l[k].to) (lT l[k].from_ (kT (l.take k)))
    have a2:=n0 (e:=l[k].from_) (kT (l.take k))
    omega
   ·rw [pT,pT,h3]
    simp only [List.mem_append,List.mem_singleton]
    constructor
    ·rintro (h | h | ⟨x,hx,h⟩)
     ·exact ⟨_,.inr rfl,.inr h⟩
     ·exact ⟨_,.inr rfl,.inl h⟩
     ·exact ⟨x,.inl hx,h⟩
    ·rintro ⟨x,hx | rfl,h⟩
     ·exact .inr (.inr ⟨x,hx,h⟩)
     ·rcases h with h | h
      ·exact .inr (.inl h)
      ·exact .inl h
 have:=key l.length (Nat.le_refl _)
 rwa [List.take_of_length_le (Nat.le_refl _)] at this
theorem wx (E:List Int) (e:Int) (hl:E.length<=4000000):(Option.bind (iter (σ:=Int) (ρ:=Int) (λb=>(Option.bind ((bif (decide (b < (E.length:Int))) then (Option.bind (idx E b) λd=>some (decide (d < e))) else some false):Option Bool) λf=>(bif f then some (.inl (IntKind.i64.wrap (b+1))) else some (.inr b)))) 0) λa=>(Option.bind ((bif (a == (E.length:Int)) then some true else (Option.bind (idx E a) λg=>some (g != e))):Option Bool) λh=>(bif h then (Option.bind (chk (eK 0 a E.length)) λ_=>(Option.bind (chk (eK a (E.length:Int) E.length)) λ_=>(Option.bind (chk (dF [e].length (cut E a (E.length:Int)).length 8)) λ_=>(Option.bind (chk (dF (cut E 0 a).length ([e]++(cut E a (E.length:Int))).length 8)) λ_=>some ((cut E 0 a)++([e]++(cut E a (E.length:Int)))))))) else some E)))=some (lT e E):=by
 have hc:=yU e E
 refine dX (λn:Nat=>(n:Int)) (iK e E) ((iK e E:Nat):Int) rfl (λi hi=> ?_) ?_ ?_
 ·rw [decide_eq_true (by omega),cond_true,bL E i (by omega),aA,aA,decide_eq_true (yV e E i (by omega) hi),cond_true,w64 (by omega) (by omega)]
  rfl
 ·by_cases c:iK e E < E.length
  ·rw [decide_eq_true (by omega),cond_true,bL E _ c,aA,aA,decide_eq_false (wq e E c)]
   rfl
  ·rw [decide_eq_false (by omega)]
   rfl
 ·have e1:cut E 0 ((iK e E:Nat):Int)=E.take (iK e E):=by simp [cut]
  have e2:cut E ((iK e E:Nat):Int) (E.length:Int)=E.drop (iK e E):=by simp [cut]
  have h1:(E.take (iK e E)).length<=4000000:=by rw [List.length_take]; omega
  have h2:(E.drop (iK e E)).length<=4000000:=by rw [List.length_drop]; omega
  rw [wu,e1,e2]
  have key:(Option.bind (chk (eK 0 ((iK e E:Nat):Int) E.length)) λ_=>(Option.bind (chk (eK ((iK e E:Nat):Int) (E.length:Int) E.length)) λ_=>(Option.bind (chk (dF [e].length (E.drop (iK e E)).length 8)) λ_=>(Option.bind (chk (dF (E.take (iK e E)).length ([e]++(E.drop (iK e E))).length 8)) λ_=>some ((E.take (iK e E))++([e]++(E.drop (iK e E))))))))=some ((E.take (iK e E))++([e]++(E.drop (iK e E)))):=by
   rw [dI (by omega) (by omega) (by omega),aA,dI (by omega) (by omega) (by omega),aA,bW (by simp at h2 ⊢; omega),aA,bW (by simp at h1 h2 ⊢; omega),aA]
  rw [key]
  by_cases c:iK e E < E.length
  ·rw [beq_eq_false_iff_ne.2 (by omega),cond_false,bL E _ c,aA,List.getElem?_eq_getElem c,aA]
   by_cases c2:E[iK e E]=e
   ·rw [if_pos (by rw [c2]),c2,bne_self_eq_false]
    rfl
   ·rw [if_neg (by simpa using c2),bne_iff_ne.2 c2]
    rfl
  ·have e3:iK e E=E.length:=by omega
   rw [beq_iff_eq.2 (by omega),cond_true,aA,cond_true,if_neg (by rw [List.getElem?_eq_none (by omega)]; simp)]
theorem zW {α:Type} (l:List α) (x:α):(l++[x]).getLast?=some x:=List.getLast?_concat
def zX (out:List aE) (e e':Int):List aE:=match out.getLast? with
 | some x=>if x.to=e then out.dropLast++[⟨x.from_,e'⟩] else out++[⟨e,e'⟩]
 | none=>out++[⟨e,e'⟩]
theorem qP (o:List aE) (x:aE) (e e':Int):zX (o++[x]) e e'=if x.to=e then o++[⟨x.from_,e'⟩] else o++[x]++[⟨e,e'⟩]:=by
 simp only [zX,zW,List.dropLast_concat]
theorem BP (out:List aE) (e e':Int):(zX out e e').length<=out.length+1:=by
 rcases List.eq_nil_or_concat out with rfl | ⟨o,x,rfl⟩
 ·exact Nat.le_refl _
 ·rw [List.concat_eq_append,qP]
  split <;> simp
theorem BQ (E:List Int) (out:List aE) (i:Nat) (hi:i+1 < E.length) (hE:E.length<=4000000) (ho:out.length<=4000000):(Option.bind ((bif (decide ((out.length:Int) > 0)) then (Option.bind (idx out (IntKind.i64.wrap ((out.length:Int) - 1))) λb=>some (b.to == E[i])) else some false):Option Bool) λd=>(bif d then (Option.bind (idx E (IntKind.i64.wrap ((i:Int)+1))) λe=>(Option.bind (idx out (IntKind.i64.wrap ((out.length:Int) - 1))) λf=>some (out.set ((IntKind.i64.wrap ((out.length:Int) - 1)).toNat) (aE.mk f.from_ e)))) else (Option.bind (idx E (IntKind.i64.wrap ((i:Int)+1))) λa=>(Option.bind (chk (dF out.length [(aE.mk E[i] a)].length 16)) λ_=>some (out++[(aE.mk E[i] a)])))))=some (zX out E[i] E[i+1]):=by
 rw [w64 (x:=(i:Int)+1) (by omega) (by omega),w64 (x:=(out.length:Int) - 1) (by omega) (by omega),show ((i:Int)+1)=((i+1:Nat):Int) by omega,bL E (i+1) hi]
 rcases List.eq_nil_or_concat out with rfl | ⟨o,x,rfl⟩
 ·rfl
 ·rw [List.concat_eq_append] at ho ⊢
  have hl:(o++[x]).length=o.length+1:=by simp
  have e1:(((o++[x]).length:Nat):Int) - 1=((o.length:Nat):Int):=by omega
  have e2:idx (o++[x]) ((o.length:Nat):Int)=some x:=by rw [bL _ _ (by omega)]; simp
  rw [qP,e1,e2,decide_eq_true (by omega),cond_true,aA,aA]
  by_cases c:x.to=E[i]
  ·rw [if_pos c,beq_iff_eq.2 c,cond_true,aA,aA,show ((o.length:Nat):Int).toNat=o.length by omega]
   simp
  ·rw [if_neg c,beq_eq_false_iff_ne.2 c,cond_false,aA,bW (by simp at ho ⊢; omega),aA]
def pU (K:Int->Bool):List Int->Nat->List aE
 | _,0=>[]
 | E,i+1=>match E[i]?,E[i+1]? with
  | some e,some e'=>if K e=true then zX (pU K E i) e e' else pU K E i
  | _,_=>pU K E i
theorem wy (K:Int->Bool) (E:List Int): ∀ i,(pU K E i).length<=i
 | 0=>Nat.le_refl _
 | i+1=>by
  have ih:=wy K E i
  rw [pU]
  split
  ·rename_i e e' h1 h2
   have:=BP (pU K E i) e e'
   split <;> omega
  ·omega
theorem zY (a b:List aE) (mode:Int) (h:a.length+b.length<=1000000):gM a b mode=some (pU (λn=>kI mode (hsR a n) (hsR b n)) (kT (a++b)) ((kT (a++b)).length - 1)):=by
 unfold gM
 rw [List.nil_append,bW (by simp; omega),aA,bW (by omega),aA]
 have hL:(a++b).length<=1000000:=by rw [List.length_append]; omega
 generalize hLL:a++b=L at hL ⊢
 have hE:=(xV L).2.1
 refine dX (λn:Nat=>((n:Int),kT (L.take n))) L.length (kT L) rfl (λi hi=> ?_) ?_ ?_
 ·dsimp only
  have hT:=(xV (L.take i)).2.1
  rw [List.length_take] at hT
  rw [decide_eq_true (by omega),cond_true,bL L i hi,aA,List.take_succ_eq_append_getElem hi,wv,w64 (by omega) (by omega)]
  generalize kT (L.take i)=T at hT ⊢
  have h1:=n0 (e:=L[i].from_) T
  have h2:=n0 (e:=L[i].to) (lT L[i].from_ T)
  refine dX (λn:Nat=>((n:Int),if n=0 then T else if n=1 then lT L[i].from_ T else lT L[i].to (lT L[i].from_ T))) 2 (lT L[i].to (lT L[i].from_ T)) rfl (λj hj=> ?_) rfl rfl
  have:j=0\/j=1:=by omega
  rcases this with rfl | rfl
  ·have:=wx T L[i].from_ (by omega)
   dsimp only
   rw [show idx [L[i].from_,L[i].to] ((0:Nat):Int)=some L[i].from_ from rfl,aA]
   erw [this]
   rfl
  ·have:=wx (lT L[i].from_ T) L[i].to (by omega)
   dsimp only
   rw [show idx [L[i].from_,L[i].to] ((1:Nat):Int)=some L[i].to from rfl,aA]
   erw [this]
   rfl
 ·dsimp only
  rw [decide_eq_false (by omega),cond_false,List.take_of_length_le (Nat.le_refl _)]
 ·generalize hEE:kT L=E at hE ⊢
  refine dX (λn:Nat=>(pU (λn=>kI mode (hsR a n) (hsR b n)) E n,(n:Int))) (E.length - 1) _ rfl (λi hi=> ?_) ?_ rfl
  ·dsimp only
   have hlen:=wy (λn=>kI mode (hsR a n) (hsR b n)) E i
   rw [w64 (x:=(i:Int)+1) (by omega) (by omega),decide_eq_true (by omega),cond_true,bL E i (by omega),aA,uW a _ (by omega),aA,uW b _ (by omega),aA,Dj,aA]
   rw [pU,List.getElem?_eq_getElem (show i < E.length by omega),List.getElem?_eq_getElem (show i+1 < E.length by omega)]
   dsimp only
   cases kI mode (hsR a E[i]) (hsR b E[i]) with
   | false=>rfl
   | true =>
    have:=BQ E (pU (λn=>kI mode (hsR a n) (hsR b n)) E i) i (by omega) (by omega) (by omega)
    rw [w64 (x:=(i:Int)+1) (by omega) (by omega)] at this
    rw [Bool.not_true,cond_false,this,if_pos rfl]
    rfl
  ·dsimp only
   rw [w64 (by omega) (by omega),decide_eq_false (by omega)]
   rfl
theorem uX: ∀ {p q:List aB} {lo t:Int},NF lo p->(∀ z∈p,z.to<=t)->lo<=t->NF t q->NF lo (p++q)
 | [],q,lo,t,_,_,h,hq=>hq.mono h
 | x::p,q,lo,t,hp,hz,h,hq=>⟨hp.1,hp.2.1,uX hp.2.2 (λz hz'=>hz z (List.mem_cons_of_mem _ hz')) (hz x List.mem_cons_self) hq⟩
theorem yW: ∀ {p q:List aB} {lo:Int},NF lo (p++q)->NF lo p
 | [],_,_,_=>trivial
 | x::p,q,lo,h=>⟨h.1,h.2.1,yW h.2.2⟩
theorem BR: ∀ {p:List aB} {x:aB} {lo:Int},NF lo (p++[x])->lo < x.from_/\x.from_ < x.to /\ ∀ z∈p,z.to < x.from_
 | [],x,lo,h=>⟨h.1,h.2.1,λz hz=>by cases hz⟩
 | y::p,x,lo,h=>by
  obtain ⟨h1,h2,h3⟩:=BR h.2.2
  have a1:=h.1
  have a2:=h.2.1
  refine ⟨by omega,h2,λz hz=> ?_⟩
  rcases List.mem_cons.1 hz with rfl | hz
  ·exact h1
  ·exact h3 z hz
theorem yX {p:List aB} {f t lo:Int} (h:NF lo p) (hz: ∀ z∈p,z.to < f) (hlo:lo < f) (ht:f < t):NF lo (p++[⟨f,t⟩]) :=
 uX (t:=f - 1) h (λz h'=>by have:=hz z h'; omega) (by omega) ⟨by dsimp only; omega,ht,trivial⟩
theorem rP {p q:List aB} {n:Int}:inP (p++q) n↔inP p n\/inP q n:=by
 simp only [inP,List.mem_append]
 exact ⟨λ⟨x,hx,h⟩=>hx.elim (λhx=> .inl ⟨x,hx,h⟩) (λhx=> .inr ⟨x,hx,h⟩),λh=>h.elim (λ⟨x,hx,h⟩=>⟨x,.inl hx,h⟩) (λ⟨x,hx,h⟩=>⟨x,.inr hx,h⟩)⟩
theorem ow {f t n:Int}:inP [⟨f,t⟩] n↔f<=n/\n < t:=by simp [inP]
theorem kZ (a b:List aE):rsp (a++b)=rsp a++rsp b:=List.map_append
theorem k6 (f t:Int):rsp [⟨f,t⟩]=[⟨f,t⟩]:=rfl
structure OE (K:Int->Bool) (lo:Int) (out:List aE) (e:Int):Prop where
 nf:NF lo (rsp out)
 le: ∀ y∈rsp out,y.to<=e
 mem: ∀ n,inP (rsp out) n↔n < e/\K n=true
theorem Dl {K:Int->Bool} {lo e e':Int} {out:List aE} (h:OE K lo out e) (hlo:lo < e) (he:e < e') (hK: ∀ n,e<=n->n < e'->K n=K e):OE K lo (if K e=true then zX out e e' else out) e':=by
 by_cases c:K e=true
 ·rw [if_pos c]
  have hm: ∀ n,(n < e/\K n=true\/(e<=n/\n < e'))↔n < e'/\K n=true:=λn=>by
   constructor
   ·rintro (⟨h1,h2⟩ | ⟨h1,h2⟩)
    ·exact ⟨by omega,h2⟩
    ·exact ⟨h2,(hK n h1 h2).trans c⟩
   ·rintro ⟨h1,h2⟩
    by_cases c2:n < e
    ·exact .inl ⟨c2,h2⟩
    ·exact .inr ⟨by omega,h1⟩
  rcases List.eq_nil_or_concat out with rfl | ⟨o,⟨f,t⟩,rfl⟩
  ·refine ⟨⟨hlo,he,trivial⟩,λy hy=> ?_,λn=> ?_⟩
   ·obtain rfl:=List.mem_singleton.1 (show y∈[⟨e,e'⟩] from hy); exact Int.le_refl _
   ·rw [<- hm n,<- h.mem n]
    show inP [⟨e,e'⟩] n↔inP [] n\/_
    rw [ow]
    exact ⟨.inr,λh=>h.elim (λh=>absurd h iW) id⟩
  ·rw [List.concat_eq_append] at h ⊢
   have h1:=h.nf
   have h2:=h.le
   rw [kZ,k6] at h1 h2
   obtain ⟨a1,a2,a3⟩:=BR h1
   have a4:=h2 ⟨f,t⟩ (List.mem_append_right _ (List.mem_singleton.2 rfl))
   dsimp only at a1 a2 a3 a4
   rw [qP]
   dsimp only
   by_cases c2:t=e
   ·subst c2
    rw [if_pos rfl]
    refine ⟨?_,λy hy=> ?_,λn=> ?_⟩
    ·rw [kZ,k6]
     exact yX (yW h1) a3 a1 (by omega)
    ·rw [kZ,k6] at hy
     rcases List.mem_append.1 hy with hy | hy
     ·have:=h2 y (List.mem_append_left _ hy); omega
     ·obtain rfl:=List.mem_singleton.1 hy; exact Int.le_refl _
    ·rw [<- hm n,<- h.mem n,kZ,kZ,k6,k6,rP,rP,ow,ow,or_assoc]
     refine or_congr Iff.rfl ⟨λh=> ?_,λh=> ?_⟩
     ·by_cases c3:n < t
      ·exact .inl ⟨h.1,c3⟩
      ·exact .inr ⟨by omega,h.2⟩
     ·rcases h with h | h <;> constructor <;> omega
   ·rw [if_neg c2]
    refine ⟨?_,λy hy=> ?_,λn=> ?_⟩
    ·rw [kZ,kZ,k6,k6]
     refine yX h1 (λz hz=> ?_) hlo he
     rcases List.mem_append.1 hz with hz | hz
     ·have:=a3 z hz; omega
     ·obtain rfl:=List.mem_singleton.1 hz; dsimp only; omega
    ·rw [kZ,kZ,k6,k6] at hy
     rcases List.mem_append.1 hy with hy | hy
     ·have:=h2 y hy; omega
     ·obtain rfl:=List.mem_singleton.1 hy; exact Int.le_refl _
    ·rw [<- hm n,<- h.mem n,kZ,rP,k6,ow]
 ·rw [if_neg c]
  refine ⟨h.nf,λy hy=>by have:=h.le y hy; omega,λn=> ?_⟩
  rw [h.mem n]
  exact ⟨λh=>⟨by omega,h.2⟩,λ⟨h1,h2⟩=>⟨by
   by_cases c2:n < e
   ·exact c2
   ·exact absurd ((hK n (by omega) h1).symm.trans h2) c,h2⟩⟩
theorem wz {l:List aE} {n m:Int} (h: ∀ x∈l,(x.from_<=n↔x.from_<=m)/\(n < x.to↔m < x.to)):hsR l n=hsR l m:=by
 rw [Bool.eq_iff_iff]
 simp only [hsR,List.any_eq_true,Bool.and_eq_true,decide_eq_true_eq]
 exact ⟨λ⟨x,hx,h1,h2⟩=>⟨x,hx,(h x hx).1.1 h1,(h x hx).2.1 h2⟩,λ⟨x,hx,h1,h2⟩=>⟨x,hx,(h x hx).1.2 h1,(h x hx).2.2 h2⟩⟩
theorem ni {l:List aE} {n:Int} (h: ∀ x∈l,n < x.from_\/x.to<=n):hsR l n=false:=by
 rw [Bool.eq_false_iff]
 intro hc
 simp only [hsR,List.any_eq_true,Bool.and_eq_true,decide_eq_true_eq] at hc
 obtain ⟨x,hx,h1,h2⟩:=hc
 have:=h x hx
 omega
theorem pV {E:List Int} (h:E.Pairwise (· < ·)) {i j:Nat} (hi:i < E.length) (hj:j < E.length) (hij:i < j):E[i] < E[j]:=List.pairwise_iff_getElem.1 h i j hi hj hij
theorem pW {E:List Int} (h:E.Pairwise (· < ·)) {i:Nat} (hi:i+1 < E.length) {n:Int} (hn:n∈E):n<=E[i]\/E[i+1]<=n:=by
 obtain ⟨j,hj,rfl⟩:=List.mem_iff_getElem.1 hn
 rcases Nat.lt_trichotomy j i with c | c | c
 ·exact .inl (Int.le_of_lt (pV h hj (by omega) c))
 ·subst c; exact .inl (Int.le_refl _)
 ·by_cases c2:j=i+1
  ·subst c2; exact .inr (Int.le_refl _)
  ·exact .inr (Int.le_of_lt (pV h hi hj (by omega)))
theorem BS (a b:List aE) (mode:Int): ∃ lo,NF lo (rsp (pU (λn=>kI mode (hsR a n) (hsR b n)) (kT (a++b)) ((kT (a++b)).length - 1))) /\ ∀ n,inP (rsp (pU (λn=>kI mode (hsR a n) (hsR b n)) (kT (a++b)) ((kT (a++b)).length - 1))) n↔kI mode (hsR a n) (hsR b n)=true:=by
 obtain ⟨hs,_,hm⟩:=xV (a++b)
 have mA: ∀ x∈a,x.from_∈kT (a++b)/\x.to∈kT (a++b):=λx hx=>⟨(hm _).2 ⟨x,List.mem_append_left _ hx,.inl rfl⟩,(hm _).2 ⟨x,List.mem_append_left _ hx,.inr rfl⟩⟩
 have mB: ∀ x∈b,x.from_∈kT (a++b)/\x.to∈kT (a++b):=λx hx=>⟨(hm _).2 ⟨x,List.mem_append_right _ hx,.inl rfl⟩,(hm _).2 ⟨x,List.mem_append_right _ hx,.inr rfl⟩⟩
 generalize kT (a++b)=E at hs mA mB ⊢
 cases hE:E with
 | nil =>
  refine ⟨0,trivial,λn=> ?_⟩
  have hA:hsR a n=false:=ni λx hx=>by have:=(mA x hx).1; rw [hE] at this; cases this
  have hB:hsR b n=false:=ni λx hx=>by have:=(mB x hx).1; rw [hE] at this; cases this
  rw [hA,hB,sT]
  exact ⟨λh=>absurd h iW,λh=>by cases h⟩
 | cons e0 E' =>
  rw [<- hE]
  have hpos:0 < E.length:=by rw [hE]; simp
  have h0:E[0]=e0:=by simp [hE]
  have lo0: ∀ m∈E,e0<=m:=λm hm=>by
   rw [hE] at hm hs
   rcases List.mem_cons.1 hm with rfl | hm
   ·exact Int.le_refl _
   ·exact Int.le_of_lt ((List.pairwise_cons.1 hs).1 m hm)
  have key: ∀ i (hi:i < E.length),OE (λn=>kI mode (hsR a n) (hsR b n)) (e0 - 1) (pU (λn=>kI mode (hsR a n) (hsR b n)) E i) E[i]:=by
   intro i
   induction i with
   | zero =>
    intro hi
    refine ⟨trivial,λy hy=>(by cases hy),λn=> ?_⟩
    refine ⟨λh=>absurd h iW,λ⟨h1,h2⟩=> ?_⟩
    have hA:hsR a n=false:=ni λx hx=>by have:=lo0 _ (mA x hx).1; omega
    have hB:hsR b n=false:=ni λx hx=>by have:=lo0 _ (mB x hx).1; omega
    rw [hA,hB,sT] at h2
    cases h2
   | succ i ih =>
    intro hi
    have ih:=ih (by omega)
    rw [pU,List.getElem?_eq_getElem (show i < E.length by omega),List.getElem?_eq_getElem hi]
    have hlt:=pV hs (show i < E.length by omega) hi (by omega)
    refine Dl ih (by have:=lo0 _ (List.getElem_mem (show i < E.length by omega)); omega) hlt λn h1 h2=> ?_
    rw [wz (l:=a) λx hx=> ?_,wz (l:=b) λx hx=> ?_]
    ·have h3:=pW hs hi (mB x hx).1
     have h4:=pW hs hi (mB x hx).2
     constructor <;> constructor <;> omega
    ·have h3:=pW hs hi (mA x hx).1
     have h4:=pW hs hi (mA x hx).2
     constructor <;> constructor <;> omega
  have hk:=key (E.length - 1) (by omega)
  refine ⟨e0 - 1,hk.nf,λn=>(hk.mem n).trans ⟨λh=>h.2,λh=>⟨?_,h⟩⟩⟩
  by_cases c:n < E[E.length - 1]
  ·exact c
  ·have hi: ∀ m∈E,m<=E[E.length - 1]:=λm hm=>by
    obtain ⟨j,hj,rfl⟩:=List.mem_iff_getElem.1 hm
    by_cases c2:j=E.length - 1
    ·subst c2; exact Int.le_refl _
    ·exact Int.le_of_lt (pV hs hj (by omega) (by omega))
   have hA:hsR a n=false:=ni λx hx=>by have:=hi _ (mA x hx).2; omega
   have hB:hsR b n=false:=ni λx hx=>by have:=hi _ (mB x hx).2; omega
   rw [hA,hB,sT] at h
   cases h
theorem qQ {a b:List aE} {mode lo:Int} {L:List aB} (h:a.length+b.length<=1000000) (hL:NF lo L) (hi: ∀ n,inP L n↔kI mode (hsR a n) (hsR b n)=true): ∃ r,gM a b mode=some r/\rsp r=L:=by
 obtain ⟨l2,h1,h2⟩:=BS a b mode
 exact ⟨_,zY a b mode h,uT h1 hL λn=>(h2 n).trans (hi n).symm⟩
theorem nF (p:aB):[p].filter neS=if p.from_ < p.to then [p] else []:=by
 by_cases c:p.from_ < p.to
 ·rw [if_pos c,List.filter_cons_of_pos (show neS p=true from decide_eq_true c)]; rfl
 ·rw [if_neg c,List.filter_cons_of_neg (by simpa [neS] using c)]; rfl
theorem wA (f:aB->List aB) (hf: ∀ y,y.from_ < y.to -> ∀ lo,lo < y.from_->NF lo (f y) /\ ∀ z∈f y,z.to<=y.to): ∀ {l:List aB} {lo:Int},NF lo l->NF lo (l.flatMap f)
 | [],_,_=>trivial
 | y::l,lo,h=>by
  have h1:=h.1
  have h2:=h.2.1
  obtain ⟨a,b⟩:=hf y h2 lo h1
  rw [List.flatMap_cons]
  exact uX a b (by omega) (wA f hf h.2.2)
theorem Dm {x:aB} (hx:x.from_ < x.to) (y:aB) (hy:y.from_ < y.to) (lo:Int) (hlo:lo < y.from_):NF lo (nO x y) /\ ∀ z∈nO x y,z.to<=y.to:=by
 have e1:=lS y.to x.from_
 have e2:=jU y.from_ x.to
 have:nO x y=[(⟨y.from_,cW y.to x.from_⟩:aB)].filter neS++[(⟨imax y.from_ x.to,y.to⟩:aB)].filter neS:=List.filter_append (p:=neS) [(⟨y.from_,cW y.to x.from_⟩:aB)] [⟨imax y.from_ x.to,y.to⟩]
 rw [this,nF,nF]
 refine ⟨uX (t:=imax lo (cW y.to x.from_)) ?_ (λz hz=> ?_) (jU _ _).1 ?_,λz hz=> ?_⟩
 ·split
  ·exact ⟨hlo,by assumption,trivial⟩
  ·trivial
 ·split at hz
  ·obtain rfl:=List.mem_singleton.1 hz; exact (jU _ _).2.1
  ·cases hz
 ·split
  ·rename_i c
   dsimp only at c
   refine ⟨?_,c,trivial⟩
   have e3:=jU lo (cW y.to x.from_)
   dsimp only
   omega
  ·trivial
 ·rcases List.mem_append.1 hz with hz | hz
  ·split at hz
   ·obtain rfl:=List.mem_singleton.1 hz; exact e1.1
   ·cases hz
  ·split at hz
   ·obtain rfl:=List.mem_singleton.1 hz; exact Int.le_refl _
   ·cases hz
theorem yY {x y:aB} {n:Int}:inP (nO x y) n↔(y.from_<=n/\n < y.to) /\ ¬ (x.from_<=n/\n < x.to)\/(y.from_<=n/\n < y.to/\x.from_<=n/\n < x.to/\x.to<=x.from_):=by
 have e1:=lS y.to x.from_
 have e2:=jU y.from_ x.to
 have:nO x y=[(⟨y.from_,cW y.to x.from_⟩:aB)].filter neS++[(⟨imax y.from_ x.to,y.to⟩:aB)].filter neS:=List.filter_append (p:=neS) [(⟨y.from_,cW y.to x.from_⟩:aB)] [⟨imax y.from_ x.to,y.to⟩]
 rw [this,nF,nF,rP]
 have key: ∀ p:aB,inP (if p.from_ < p.to then [p] else []) n↔p.from_<=n/\n < p.to:=λp=>by
  split
  ·exact ow
  ·exact ⟨λh=>absurd h iW,λh=>by omega⟩
 rw [key,key]
 dsimp only
 omega
theorem BT {f:aB->List aB} {n:Int} {l:List aB}:inP (l.flatMap f) n ↔ ∃ y∈l,inP (f y) n:=by
 simp only [inP,List.mem_flatMap]
 exact ⟨λ⟨x,⟨y,hy,hx⟩,h⟩=>⟨y,hy,x,hx,h⟩,λ⟨y,hy,x,hx,h⟩=>⟨x,⟨y,hy,hx⟩,h⟩⟩
theorem sU {l:List aB} {lo:Int} (h:NF lo l) (x:aB):NF lo (nL l x) /\ ∀ n,inP (nL l x) n↔inP l n /\ ¬ (x.from_<=n/\n < x.to):=by
 unfold nL
 split
 ·exact ⟨h,λn=>⟨λh=>⟨h,by omega⟩,λh=>h.1⟩⟩
 ·refine ⟨wA _ (λy hy lo hlo=>Dm (by omega) y hy lo hlo) h,λn=> ?_⟩
  rw [BT]
  constructor
  ·rintro ⟨y,hy,h⟩
   rcases yY.1 h with h | h
   ·exact ⟨⟨y,hy,h.1⟩,h.2⟩
   ·omega
  ·rintro ⟨⟨y,hy,h⟩,h2⟩
   exact ⟨y,hy,yY.2 (.inl ⟨h,h2⟩)⟩
theorem wB (n:Int):jr n=some (imax (-1152921504606846976) (cW n 1152921504606846976)):=by
 unfold jr imax cW
 by_cases c:n < -1152921504606846976
 ·rw [decide_eq_true c,cond_true]
  congr 1
  split <;> split at * <;> omega
 ·rw [decide_eq_false c,cond_false]
  by_cases c2:n > 1152921504606846976
  ·rw [decide_eq_true c2,cond_true]
   congr 1
   split <;> split at * <;> omega
  ·rw [decide_eq_false c2,cond_false]
   congr 1
   split <;> split at * <;> omega
theorem yZ (x:aE): ∃ b,kg x=some b/\b.length<=1 /\ ∀ n,hsR b n=true↔(fX (sp x)).from_<=n/\n < (fX (sp x)).to:=by
 unfold kg mv
 rw [wB,aA,wB,aA,aA]
 dsimp only
 by_cases c:imax (-1152921504606846976) (cW x.to 1152921504606846976)<=imax (-1152921504606846976) (cW x.from_ 1152921504606846976)
 ·rw [decide_eq_true c]
  refine ⟨[],rfl,by decide,λn=>⟨λh=>(by cases h),λ⟨h1,h2⟩=> ?_⟩⟩
  exact absurd (show imax _ _ < imax _ _ from Int.lt_of_le_of_lt h1 h2) (Int.not_lt.2 c)
 ·rw [decide_eq_false c]
  refine ⟨_,rfl,Nat.le_refl _,λn=> ?_⟩
  rw [rO]
  exact ow
theorem Dr {l:List aE} {lo:Int} (h:NF lo (rsp l)) (hl:l.length<=900000) (x:aE): ∃ r,il l x=some r/\rsp r=if (fX (sp x)).to<=(fX (sp x)).from_ then rsp l else jF (rsp l) (fX (sp x)):=by
 obtain ⟨b,e1,e2,e3⟩:=yZ x
 unfold il
 rw [e1,aA]
 have hk: ∀ n,kI 0 (hsR l n) (hsR b n)=true↔inP (rsp l) n\/((fX (sp x)).from_<=n/\n < (fX (sp x)).to):=λn=>by
  rw [<- rO,<- e3 n]
  simp [kI]
 by_cases c:(fX (sp x)).to<=(fX (sp x)).from_
 ·obtain ⟨r,h1,h2⟩:=qQ (a:=l) (b:=b) (mode:=0) (by omega) h λn=>by rw [hk n]; exact ⟨.inl,λh=>h.elim id λh=>by omega⟩
  exact ⟨r,by rw [h1]; rfl,by rw [if_pos c]; exact h2⟩
 ·have h0:NF (cW lo ((fX (sp x)).from_ - 1)) (rsp l):=h.mono (lS _ _).1
  obtain ⟨r,h1,h2⟩:=qQ (a:=l) (b:=b) (mode:=0) (by omega) (rM _ h0 (x:=fX (sp x)) (by have:=lS lo ((fX (sp x)).from_ - 1); omega) (by omega)) λn=>by rw [hk n]; exact rN _ h0 (by omega)
  exact ⟨r,by rw [h1]; rfl,by rw [if_neg c]; exact h2⟩
theorem Du {l:List aE} {lo:Int} (h:NF lo (rsp l)) (hl:l.length<=900000) (x:aE): ∃ r,lg l x=some r/\rsp r=nL (rsp l) (fX (sp x)):=by
 obtain ⟨b,e1,e2,e3⟩:=yZ x
 unfold lg
 rw [e1,aA]
 obtain ⟨h3,h4⟩:=sU h (fX (sp x))
 obtain ⟨r,h1,h2⟩:=qQ (a:=l) (b:=b) (mode:=1) (by omega) h3 λn=>by
  rw [h4 n,<- e3 n,<- rO]
  simp [kI]
 exact ⟨r,by rw [h1]; rfl,h2⟩
structure FS (k:Int) (f:bH):Prop where
 m:f.most=k
 w:WS k f.want.l
theorem WS.nil {k:Int} (h:0<=k):WS k []:=⟨λy hy=>(by cases hy),h⟩
theorem WS.cnt {k:Int} {s:List aB} (h:WS k s):(s.length:Int)<=k:=by have:=h.len; have:=h.l; omega
theorem WS.pos {k:Int} {s:List aB} (h:WS k s) {n:Int} (hn:inP s n):0<=n/\n < 1152921504606846976:=by
 obtain ⟨x,hx,h1,h2⟩:=hn
 have:=h.b x hx
 omega
theorem Dv {most every:Int}: ∃ f,ke most every=some f/\FS (imax 1 (cW most 65536)) f:=by
 refine ⟨_,rfl,rfl,WS.nil ?_⟩
 have:=jU 1 (cW most 65536)
 omega
theorem zZ {k:Int} (hk:0<=k) {f:bH} (h:FS k f): ∃ f',dS f=some f'/\FS k f':=⟨_,rfl,h.m,WS.nil hk⟩
theorem xW {k:Int} (hk:k<=100000) {f:bH} (h:FS k f):gC f=some f.want.l:=by
 have:=h.w.cnt
 show Option.bind (Option.bind (Option.bind (chk (dF 0 f.want.l.length 16)) _) _) _=_
 rw [bW (by omega)]
 rfl
theorem Dw {k:Int} (hk:k<=100000) {f:bH} (h:FS k f) {i:Int} (h0:0<=i) (h1:i<=4611686018427487904): ∃ b f',eP f i=some (b,f')/\FS k f'/\(b=true->0<=i/\i < 1152921504606846976):=by
 unfold eP
 have hc:=h.w.cnt
 obtain ⟨b,b1,b2⟩:=Di f.want.l i (by omega)
 rw [show f.want=⟨f.want.l⟩ from rfl,b1,aA]
 obtain ⟨q,q1,q2⟩: ∃ q,lb (decide (i < 1152921504606846976))=some q/\0<=q/\q<=1:=by
  by_cases c:i < 1152921504606846976
  ·rw [decide_eq_true c]; exact ⟨1,rfl,by decide,by decide⟩
  ·rw [decide_eq_false c]; exact ⟨0,rfl,by decide,by decide⟩
 rw [q1,aA,w64 (by omega) (by omega),uV hk f.want.l _ h.w (by simp) (λx hx=>by rw [List.mem_singleton.1 hx]; dsimp only; omega),aA]
 refine ⟨b,_,rfl,⟨h.m,h.w.E4 λx hx=> ?_⟩,λe=>h.w.pos (b2 e)⟩
 rw [List.mem_singleton.1 hx]
 exact yT (by dsimp only; omega)
theorem FL {a b:Int} (h: ¬ a=b):(a == b)=false:=by simpa using h
end Go.Tw.X
set_option maxRecDepth 20000
namespace Go.Tw.X
open Go Go.Tw
def F7 (l:List om) (b:Int):Option om:=l.find? λx=>decide (x.first<=b) && decide (b<=x.last)
def fnd (b:Int):om×Bool:=match F7 tu b with
 | some x=>(x,true)
 | none=>(⟨0,0,0,0,0⟩,false)
def d0:pw:=⟨0,0,0⟩
def o0:vP:=⟨false,false,false,false,0,[]⟩
end Go.Tw.X
set_option maxHeartbeats 2000000
namespace Go.Tw.X
open Go Go.Tw
def p0:zv:=⟨0,o0,ByteArray.mk #[],d0,[]⟩
end Go.Tw.X
set_option maxHeartbeats 1000000
namespace Go.Tw.X
open Go Go.Tw
theorem Dx {n:Nat} {a b:Int} (h:(n:Int) < a/\(n:Int) < b):((bif (decide ((n:Int) < a)) then some (decide ((n:Int) < b)) else some false):Option Bool)=some true:=by
 rw [decide_eq_true h.1,decide_eq_true h.2]; rfl
theorem Dz {n:Nat} {a b:Int} (h: ¬ ((n:Int) < a/\(n:Int) < b)):((bif (decide ((n:Int) < a)) then some (decide ((n:Int) < b)) else some false):Option Bool)=some false:=by
 by_cases c:(n:Int) < a
 ·rw [decide_eq_true c,decide_eq_false (by omega: ¬ (n:Int) < b)]; rfl
 ·rw [decide_eq_false c]; rfl
theorem F8 {a:Int}:(a != a)=false:=by simp
theorem DA (s:ByteArray):(s.toList == (ByteArray.mk #[]).toList)=decide (s=noS):=lQ s noS
theorem DB {s:ByteArray} (h:s.size<=12000):(zT s).1.size<=12000:=by
 have v0:SZ s.size (⟨s,0⟩:aD):=⟨⟨by show s.size<=1000000; omega,.inl rfl⟩,Nat.le_refl _⟩
 have s1:SZ s.size (zF s).2:=kB (kB (uI _ (uI _ (kB (kB v0)))))
 have:=(sG s1.1 s1.2).1
 have h2:(zT s).1.size<=s.size:=this
 omega
theorem xX (a:aM) (s:ByteArray) (ha:SW a) (pa:(a.rows.flatMap fu).length<=12000) (h:s.size<=100000) (ht:(zT s).1.size<=12000):SW (mb a s).1/\((mb a s).1.rows.flatMap fu).length<=(a.rows.flatMap fu).length+s.size:=by
 have z:SW iJ/\(iJ.rows.flatMap fu).length<=(a.rows.flatMap fu).length+s.size:=⟨pH,Nat.zero_le _⟩
 unfold mb
 split
 ·exact z
 ·split
  ·exact z
  ·rename_i hE
   split
   ·exact z
   ·obtain ⟨vB,vC,vF,vH,vK,vN,vR⟩:=zVI (s:=s) (by omega)
    obtain ⟨he,hs0⟩:=ud vR (Classical.not_not.1 hE)
    split
    ·exact z
    ·rename_i l hl
     split
     ·exact z
     ·refine ⟨(pP ha pa h ht he hl).1,?_⟩
      have p3:=sP _ _ _ _ hl
      have p4:=xP ((0:Nat):Int) (zR s).1
      have p5:=Bs (by omega) he
      have p6:((a.rows.drop 0).flatMap fu).length=(a.rows.flatMap fu).length:=by simp
      simp only [List.flatMap_nil,List.length_nil] at p3
      show (l.flatMap fu).length<=_
      omega
def DD (h:ByteArray) (i:Nat):Bool:=match (sbs h)[i / 8]? with | some b=>decide ((b / 2 ^ (i % 8)) % 2=1) | none=>false
theorem xY: ∀ (n:Nat) (l:List Nat),l.Nodup->(∀ x∈l,x < n)->l.length<=n/\(l.length=n -> ∀ i,i < n->i∈l)
 | 0,l,_,h=>by
  have:l=[]:=by
   cases l with
   | nil=>rfl
   | cons a l=>exact absurd (h a List.mem_cons_self) (Nat.not_lt_zero a)
  subst this
  exact ⟨Nat.le_refl _,λ_ i hi=>absurd hi (Nat.not_lt_zero i)⟩
 | n+1,l,hn,h=>by
  by_cases hm:n∈l
  ·have hl:=List.length_erase_of_mem hm
   have hpos:0 < l.length:=List.length_pos_of_mem hm
   obtain ⟨h1,h2⟩:=xY n (l.erase n) (hn.erase n) (λx hx=>by
    have h3:=(hn.mem_erase_iff.1 hx)
    have:=h x h3.2
    have:=h3.1
    omega)
   refine ⟨by omega,λe i hi=> ?_⟩
   by_cases hin:i=n
   ·rw [hin]; exact hm
   ·exact List.mem_of_mem_erase (h2 (by omega) i (by omega))
  ·obtain ⟨h1,h2⟩:=xY n l hn (λx hx=>by
    have:=h x hx
    have:x≠n:=λe=>hm (e ▸ hx)
    omega)
   exact ⟨by omega,λe=>by omega⟩
structure SL (P:List ByteArray) (l:List (Int×ByteArray)):Prop where
 nd:(l.map Prod.fst).Nodup
 at_: ∀ p∈l,∃ i:Nat,p.1=(i:Int)/\P[i]?=some p.2
theorem BU (P:List ByteArray):SL P []:=⟨List.nodup_nil,λp hp=>by cases hp⟩
theorem pX {α:Type} {k:Int}: ∀ {l:List (Int×α)},mgl k l=none -> ∀ p∈l,p.1≠k
 | [],_,p,hp=>by cases hp
 | (j,y)::l,h,p,hp=>by
  unfold mgl at h
  split at h
  ·cases h
  ·rename_i hne
   rcases List.mem_cons.1 hp with rfl | hp
   ·exact λe=>hne e.symm
   ·exact pX h p hp
theorem kU {α:Type} {k:Int} {x:α}: ∀ {l:List (Int×α)},(l.map Prod.fst).Nodup->(k,x)∈l->mgl k l=some x
 | (j,y)::l,hn,hm=>by
  rw [List.map_cons,List.nodup_cons] at hn
  unfold mgl
  rcases List.mem_cons.1 hm with h | h
  ·injection h with h1 h2
   rw [if_pos h1,h2]
  ·split
   ·rename_i e
    exact absurd (List.mem_map_of_mem (f:=Prod.fst) h) (by rw [e]; exact hn.1)
   ·exact kU hn.2 h
theorem SL.add {P:List ByteArray} {l:List (Int×ByteArray)} (h:SL P l) {i:Nat} {d:ByteArray} (hi:P[i]?=some d) (hn:mgl (i:Int) l=none):SL P (msl (i:Int) d l)/\msl (i:Int) d l=l++[((i:Int),d)]:=by
 have e:=uN (i:Int) d l (pX hn)
 refine ⟨?_,e⟩
 rw [e]
 refine ⟨?_,λp hp=> ?_⟩
 ·rw [List.map_append,List.nodup_append]
  refine ⟨h.nd,by simp,λa ha b hb=> ?_⟩
  obtain ⟨p,hp,rfl⟩:=List.mem_map.1 ha
  simp at hb
  rw [hb]
  exact pX hn p hp
 ·rcases List.mem_append.1 hp with hp | hp
  ·exact h.at_ p hp
  ·rw [List.mem_singleton.1 hp]; exact ⟨i,rfl,hi⟩
theorem SL.le {P:List ByteArray} {l:List (Int×ByteArray)} (h:SL P l):l.length<=P.length/\(l.length=P.length -> ∀ i (hi:i < P.length),mgl (i:Int) l=some P[i]):=by
 have hk: ∀ p∈l,p.1=((p.1.toNat:Nat):Int):=λp hp=>by
  obtain ⟨i,e,_⟩:=h.at_ p hp
  rw [e]; simp
 have hnd:(l.map λp=>p.1.toNat).Nodup:=by
  have h1:=h.nd
  rw [List.nodup_iff_pairwise_ne] at h1 ⊢
  rw [List.pairwise_map] at h1 ⊢
  refine List.Pairwise.imp_of_mem ?_ h1
  intro a b ha hb hne e
  exact hne (by rw [hk a ha,hk b hb,e])
 obtain ⟨p1,p2⟩:=xY P.length (l.map λp=>p.1.toNat) hnd (λx hx=>by
  obtain ⟨p,hp,rfl⟩:=List.mem_map.1 hx
  obtain ⟨i,e,hi⟩:=h.at_ p hp
  rw [e,Int.toNat_natCast]
  exact (List.getElem?_eq_some_iff.1 hi).1)
 rw [List.length_map] at p1 p2
 refine ⟨p1,λe i hi=> ?_⟩
 obtain ⟨p,hp,hpi⟩:=List.mem_map.1 (p2 e i hi)
 obtain ⟨j,ej,hj⟩:=h.at_ p hp
 have hji:j=i:=by rw [ej,Int.toNat_natCast] at hpi; exact hpi
 subst hji
 rw [List.getElem?_eq_getElem hi] at hj
 refine kU h.nd ?_
 rw [Option.some.inj hj,<- ej]
 exact hp
theorem qR {σ:Type} {s:bY} {n:Nat} (hc:s.count=(n:Int)) (hn:n<=1000000) (Y:σ->Int×Bool->Option (σ×Bool)) (S:Nat->σ) (h: ∀ i,i < n->Y (S i) ((i:Int),kL s.parts (i:Int))=some (S (i+1),true)):fS s Y (S 0)=some (S n):=by
 unfold fS
 refine dX (λi:Nat=>((i:Int),S i)) n (.inl (S n)) rfl ?_ ?_ rfl
 ·intro i hi
  dsimp only
  rw [hc,decide_eq_true (by omega),cond_true,h i hi,aA]
  dsimp only
  rw [Bool.not_true,cond_false,w64 (by omega) (by omega)]
  rfl
 ·dsimp only
  rw [hc,decide_eq_false (by omega),cond_false]
def eR (P:List ByteArray):List Int:=P.flatMap sbs
theorem o3 (P:List ByteArray) (i:Nat) (h:i < P.length):eR (P.take (i+1))=eR (P.take i)++sbs P[i]:=by
 unfold eR
 rw [List.take_succ_eq_append_getElem h,List.flatMap_append]
 simp
theorem xZ {P:List ByteArray} {l:List (Int×ByteArray)} {id b:Int} (hid:1<=id) (h:SL P l) (hP:P.length<=4096) (hb:(eR P).length<=1000000) :
  fg ⟨id,(P.length:Int),some l,b⟩=some (if l.length < P.length then (noS,false) else (dL (eR P),true)):=by
 obtain ⟨h1,h2⟩:=h.le
 unfold fg
 dsimp only
 rw [FL (by omega),cond_false,aA]
 show (bif decide (((l.length:Nat):Int) < (P.length:Int)) then _ else _)=_
 by_cases c:l.length < P.length
 ·rw [decide_eq_true (by omega),cond_true,if_pos c]
  rfl
 ·rw [decide_eq_false (by omega),cond_false,if_neg c]
  have hall:=h2 (by omega)
  have hpre: ∀ i,(eR (P.take i)).length<=(eR P).length:=λi=>by
   have e:eR P=eR (P.take i)++eR (P.drop i):=by
    unfold eR
    rw [<- List.flatMap_append,List.take_append_drop]
   rw [e,List.length_append]
   omega
  have e:=qR (s:=⟨id,(P.length:Int),some l,b⟩) (n:=P.length) rfl (by omega) (λa f=>(Option.bind (dM (cM.mk a.addr a.buf) (mgd (some l) f.1 (ByteArray.mk #[]))) λd=>some ((cM.mk d.addr d.buf),true))) (λi=>cM.mk (decide (0 < i)) (eR (P.take i))) (λi hi=>by
   dsimp only
   have hg:mgd (some l) (i:Int) (ByteArray.mk #[])=P[i]:=by
    unfold mgd
    rw [Option.getD_some,hall i hi,Option.getD_some]
   have h3:=hpre (i+1)
   rw [o3 P i hi,List.length_append,aV] at h3
   rw [hg]
   unfold dM
   rw [bW (by dsimp only; omega),aA,aA,o3 P i hi]
   rfl)
  try dsimp only at e
  rw [show (cM.mk false ([]:List Int))=cM.mk (decide (0 < 0)) (eR (P.take 0)) from rfl,e,aA]
  try dsimp only
  rw [List.take_length]
  rfl
theorem uj {α:Type} [BEq α] [LawfulBEq α]: ∀ (A B:List α),A.Nodup->(∀ x∈A,x∈B)->A.length<=B.length
 | [],B,_,_=>Nat.zero_le _
 | a::A,B,h,hs=>by
  rw [List.nodup_cons] at h
  have ha:=hs a List.mem_cons_self
  have e:=List.length_erase_of_mem ha
  have hp:0 < B.length:=List.length_pos_of_mem ha
  have:=uj A (B.erase a) h.2 λx hx=>by
   have hne:x≠a:=λe=>h.1 (e ▸ hx)
   exact (List.mem_erase_of_ne hne).2 (hs x (List.mem_cons_of_mem _ hx))
  rw [List.length_cons]
  omega
theorem SL.full {P:List ByteArray} {l:List (Int×ByteArray)} (hall: ∀ i:Nat,i < P.length->(mgl (i:Int) l).isSome=true):P.length<=l.length:=by
 have h:=uj ((List.range P.length).map λi:Nat=>(i:Int)) (l.map Prod.fst) (by
  rw [List.nodup_iff_pairwise_ne,List.pairwise_map]
  exact (List.nodup_iff_pairwise_ne.1 List.nodup_range).imp λh e=>h (by omega)) (λx hx=>by
   obtain ⟨i,hi,rfl⟩:=List.mem_map.1 hx
   have:=hall i (List.mem_range.1 hi)
   rw [Option.isSome_iff_exists] at this
   obtain ⟨d,hd⟩:=this
   exact List.mem_map.2 ⟨((i:Int),d),kE hd,rfl⟩)
 simpa using h
theorem or8 {a b:Nat} (ha:a < 256) (hb:b < 256):Go.bits .or .u8 (a:Int) (b:Int)=((a ||| b:Nat):Int):=by
 show IntKind.u8.wrap ((BitVec.ofInt 8 (a:Int) ||| BitVec.ofInt 8 (b:Int)).toNat:Int)=_
 rw [BitVec.ofInt_natCast,BitVec.ofInt_natCast,BitVec.toNat_or,BitVec.toNat_ofNat,BitVec.toNat_ofNat,Nat.mod_eq_of_lt ha,Nat.mod_eq_of_lt hb]
 have:=Nat.or_lt_two_pow (n:=8) ha hb
 exact EH (by omega) (by omega)
theorem y4 (b j:Nat):(((b:Int) / 2 ^ j) % 2=1)↔b.testBit j=true:=by
 rw [Nat.testBit_eq_decide_div_mod_eq,decide_eq_true_eq]
 have:((b:Int) / 2 ^ j) % 2=((b / 2 ^ j % 2:Nat):Int):=by
  rw [Int.natCast_emod,Int.natCast_ediv,Int.natCast_pow]
  rfl
 rw [this]
 omega
def pY (B:List Int) (i:Nat):List Int:=B.set (i / 8) (Go.bits .or .u8 ((B[i / 8]?).getD 0) (IntKind.u8.wrap (1*2 ^ (min (i % 8) 8))))
theorem DE (k:Nat) (h:k < 8):IntKind.u8.wrap (1*2 ^ (min k 8))=((2 ^ k:Nat):Int):=by
 have:k=0\/k=1\/k=2\/k=3\/k=4\/k=5\/k=6\/k=7:=by omega
 rcases this with rfl | rfl | rfl | rfl | rfl | rfl | rfl | rfl <;> decide
theorem DG (k:Nat) (h:k < 8):2 ^ k < 256:=by
 have:k=0\/k=1\/k=2\/k=3\/k=4\/k=5\/k=6\/k=7:=by omega
 rcases this with rfl | rfl | rfl | rfl | rfl | rfl | rfl | rfl <;> decide
def BV (B:List Int) (i:Nat):Bool:=match B[i / 8]? with
 | some b=>decide ((b / 2 ^ (i % 8)) % 2=1)
 | none=>false
theorem DH {B:List Int} (h:BB B) {i:Nat} (hi:i / 8 < B.length):BB (pY B i)/\(pY B i).length=B.length /\ ∀ j,BV (pY B i) j=(decide (j=i) || BV B j):=by
 have hb:=h _ (List.getElem_mem hi)
 obtain ⟨b,hbn⟩:=Int.eq_ofNat_of_zero_le hb.1
 have hb2:b < 256:=by omega
 have hk:i % 8 < 8:=Nat.mod_lt _ (by decide)
 have hp:=DG (i % 8) hk
 have hv:Go.bits .or .u8 ((B[i / 8]?).getD 0) (IntKind.u8.wrap (1*2 ^ (min (i % 8) 8)))=((b ||| 2 ^ (i % 8):Nat):Int):=by
  rw [List.getElem?_eq_getElem hi,Option.getD_some,hbn,DE _ hk,or8 hb2 hp]
 have hlt:=Nat.or_lt_two_pow (n:=8) hb2 hp
 have hlen:(pY B i).length=B.length:=by unfold pY; rw [List.length_set]
 refine ⟨?_,hlen,λj=> ?_⟩
 ·unfold pY
  rw [hv]
  intro x hx
  rcases List.mem_or_eq_of_mem_set hx with hx | rfl
  ·exact h x hx
  ·omega
 ·unfold BV pY
  rw [hv,List.getElem?_set]
  by_cases hq:i / 8=j / 8
  ·rw [if_pos hq,if_pos hi,<- hq,List.getElem?_eq_getElem hi,hbn]
   dsimp only
   have e1:decide ((((b ||| 2 ^ (i % 8):Nat):Int) / 2 ^ (j % 8)) % 2=1)=(b ||| 2 ^ (i % 8)).testBit (j % 8):=by
    rw [Bool.eq_iff_iff,decide_eq_true_eq]
    exact y4 _ _
   have e2:decide (((b:Int) / 2 ^ (j % 8)) % 2=1)=b.testBit (j % 8):=by
    rw [Bool.eq_iff_iff,decide_eq_true_eq]
    exact y4 _ _
   rw [e1,e2,Nat.testBit_or,Nat.testBit_two_pow]
   have e3:decide (i % 8=j % 8)=decide (j=i):=by
    rw [Bool.eq_iff_iff,decide_eq_true_eq,decide_eq_true_eq]
    omega
   rw [e3,Bool.or_comm]
  ·rw [if_neg hq,show decide (j=i)=false from decide_eq_false (λe=>hq (by rw [e])),Bool.false_or]
theorem wC: ∀ (L:List Nat) {B:List Int},BB B->(∀ i∈L,i / 8 < B.length)->BB (L.foldl pY B)/\(L.foldl pY B).length=B.length /\ ∀ j,BV (L.foldl pY B) j=(decide (j∈L) || BV B j)
 | [],B,h,_=>⟨h,rfl,λj=>by simp⟩
 | i::L,B,h,hl=>by
  obtain ⟨h1,h2,h3⟩:=DH h (hl i List.mem_cons_self)
  obtain ⟨k1,k2,k3⟩:=wC L h1 λq hq=>by rw [h2]; exact hl q (List.mem_cons_of_mem _ hq)
  refine ⟨k1,k2.trans h2,λj=> ?_⟩
  rw [List.foldl_cons,k3 j,h3 j]
  by_cases h4:j=i
  ·subst h4; simp
  ·simp [h4]
def jm (l:List (Int×ByteArray)) (n:Nat):List Nat:=(List.range n).filter λi=>(mgl (i:Int) l).isSome
theorem DI {l:List (Int×ByteArray)} {n:Nat} {id b:Int} (hn:n<=5000):dU ⟨id,(n:Int),some l,b⟩=some ((jm l n).map λi:Nat=>(i:Int)):=by
 unfold dU fH
 have hlen: ∀ i,(jm l i).length<=i:=λi=>by
  unfold jm
  have:=List.length_filter_le (λq:Nat=>(mgl (q:Int) l).isSome) (List.range i)
  rw [List.length_range] at this
  exact this
 have:=qR (s:=⟨id,(n:Int),some l,b⟩) (n:=n) rfl (by omega) (λs32 x3=>(bif (x3.2 == true) then (Option.bind (chk (dF s32.length [x3.1].length 8)) λ_=>some ((s32++[x3.1]),true)) else some (s32,true))) (λi=>(jm l i).map λi:Nat=>(i:Int)) (λi hi=>by
  dsimp only
  have hs:jm l (i+1)=jm l i++(if (mgl (i:Int) l).isSome=true then [i] else []):=by
   unfold jm
   rw [List.range_succ,List.filter_append]
   congr 1
   rw [List.filter_cons]
   rfl
  have hh:kL (some l) (i:Int)=(mgl (i:Int) l).isSome:=rfl
  have:=hlen i
  rw [hh,hs]
  cases hm:(mgl (i:Int) l).isSome with
  | true =>
   rw [show (true == true)=true from rfl,cond_true,bW (by simp; omega),aA,if_pos rfl,List.map_append]
   rfl
  | false =>
   rw [show (false == true)=false from rfl,cond_false,if_neg (by simp),List.append_nil])
 rw [show ((jm l 0).map λi:Nat=>(i:Int))=([]:List Int) from rfl] at this
 rw [this]
 rfl
def E5 (l:List (Int×ByteArray)) (n:Nat):List Int:=(jm l n).foldl pY (List.replicate ((n+7) / 8) 0)
theorem BW {t:bG} {l:List (Int×ByteArray)} {n:Nat} {id b:Int} (h:t.slot=⟨id,(n:Int),some l,b⟩) (hn:n<=5000):eQ t=some ⟨1,2,[t.aO.k,id],dL (E5 l n)⟩:=by
 unfold eQ
 have e1:IntKind.i64.wrap ((IntKind.i64.wrap ((IntKind.i64.wrap ((n:Int)+8)) - 1)).tdiv 8)=(((n+7) / 8:Nat):Int):=by
  rw [w64 (x:=(n:Int)+8) (by omega) (by omega),w64 (x:=(n:Int)+8 - 1) (by omega) (by omega)]
  have:((n:Int)+8 - 1).tdiv 8=(((n+7) / 8:Nat):Int):=by
   rw [show (n:Int)+8 - 1=((n+7:Nat):Int) by omega]
   rfl
  rw [this,w64 (by omega) (by omega)]
 rw [h,show gj ⟨id,(n:Int),some l,b⟩=some (n:Int) from rfl,aA,e1,show chk (sn (((n+7) / 8:Nat):Int) 1)=some () from ja (by unfold big; omega),aA,DI hn,aA,Int.toNat_natCast]
 have hlen: ∀ i,(((jm l n).take i).foldl pY (List.replicate ((n+7) / 8) (0:Int))).length=(n+7) / 8:=λi=>by
  have h0:BB (List.replicate ((n+7) / 8) (0:Int)):=λx hx=>by rw [List.eq_of_mem_replicate hx]; exact ⟨by decide,by decide⟩
  have:=(wC ((jm l n).take i) h0 λi hi=>by
   have:=List.mem_range.1 (List.mem_filter.1 (List.mem_of_mem_take hi)).1
   rw [List.length_replicate]
   omega).2.1
  rw [this,List.length_replicate]
 refine dX (λi:Nat=>((i:Int),((jm l n).take i).foldl pY (List.replicate ((n+7) / 8) (0:Int)))) (jm l n).length (E5 l n) rfl ?_ ?_ ?_
 ·intro i hi
  dsimp only
  have hm:=List.mem_range.1 (List.mem_filter.1 (List.getElem_mem hi)).1
  have hl:=hlen i
  have hh:(jm l n).length<=n:=by
   unfold jm
   have:=List.length_filter_le (λq:Nat=>(mgl (q:Int) l).isSome) (List.range n)
   rw [List.length_range] at this
   exact this
  have e2:(((jm l n)[i]:Nat):Int).tdiv 8=(((jm l n)[i] / 8:Nat):Int):=rfl
  have e3:(((jm l n)[i]:Nat):Int).tmod 8=(((jm l n)[i] % 8:Nat):Int):=rfl
  have hmod:(jm l n)[i] % 8 < 8:=Nat.mod_lt _ (by decide)
  rw [List.length_map,decide_eq_true (by omega),cond_true,bL _ i (by rw [List.length_map]; exact hi),aA,List.getElem_map,e2,e3,w64 (x:=(((jm l n)[i] / 8:Nat):Int)) (by omega) (by omega),bL _ ((jm l n)[i] / 8) (by rw [hl]; omega),aA,show chk (shk (((jm l n)[i] % 8:Nat):Int))=some () from ja (by omega),aA,aA,w64 (by omega) (by have:=hh; omega),List.take_succ_eq_append_getElem hi,List.foldl_append]
  simp only [List.foldl_cons,List.foldl_nil]
  rw [pY,List.getElem?_eq_getElem (by rw [hl]; omega),Option.getD_some,Int.toNat_natCast,Int.toNat_natCast]
  rfl
 ·dsimp only
  rw [List.length_map,decide_eq_false (by omega),cond_false,List.take_length]
  rfl
 ·rfl
theorem uY {α:Type} (k j:Int) (x:α): ∀ l:List (Int×α),mgl k (msl j x l)=if k=j then some x else mgl k l
 | []=>by simp [msl,mgl]
 | (i,y)::l=>by
  unfold msl
  by_cases h:j=i
  ·subst h
   rw [if_pos rfl]
   simp only [mgl]
   split <;> rfl
  ·rw [if_neg h]
   simp only [mgl]
   rw [uY k j x l]
   by_cases h1:k=i
   ·rw [if_pos h1,if_neg (λe=>h (by rw [<- e]; exact h1)),if_pos h1]
   ·rw [if_neg h1,if_neg h1]
structure SR (s:bY) (x:cK) (l:List (Int×ByteArray)):Prop where
 key:x.key=s.key
 cnt:s.count=(x.parts.length:Int)
 has:x.has=(List.range x.parts.length).map λi:Nat=>(mgl (i:Int) l).isSome
 sl:SL x.parts l
 zz: ∀ i:Nat,mgl (i:Int) l=none->i < x.parts.length->x.parts[i]?=some noS
 st:(s.parts=some l/\1<=s.key)\/(s.parts=none/\l=[]/\s.key=0/\x.parts=[])
 le:x.parts.length<=4096
theorem uZ:SR ⟨0,0,none,0⟩ ⟨0,[],[]⟩ []:=⟨rfl,rfl,rfl,BU _,λ_ _ h=>absurd h (Nat.not_lt_zero _),.inr ⟨rfl,rfl,rfl,rfl⟩,by decide⟩
theorem SR.mh {s:bY} {x:cK} {l:List (Int×ByteArray)} (h:SR s x l) (i:Int):kL s.parts i=(mgl i l).isSome:=by
 rcases h.st with ⟨e,_⟩ | ⟨e,e2,_⟩
 ·rw [e]; rfl
 ·rw [e,e2]; rfl
theorem SR.hl {s:bY} {x:cK} {l:List (Int×ByteArray)} (h:SR s x l):x.has.length=x.parts.length:=by rw [h.has]; simp
theorem DJ (count index key:Int):((bif (decide (count < 1)) then some true else (bif (decide (count > 4096)) then some true else (bif (decide (index < 0)) then some true else (bif (decide (index>=count)) then some true else some (decide (key < 1)))))):Option Bool)=some (decide (count < 1\/count > 4096\/index < 0\/index>=count\/key < 1)):=by
 by_cases a:count < 1 <;> by_cases b:count > 4096 <;> by_cases c:index < 0 <;> by_cases d:index>=count <;> simp [a,b,c,d]
theorem wD: ∀ (P:List ByteArray) (i:Nat) (d:ByteArray),(eR (P.set i d)).length<=(eR P).length+d.size
 | [],i,d=>by simp [eR]
 | p::P,0,d=>by simp [eR,aV]; omega
 | p::P,i+1,d=>by
  have:=wD P i d
  simp only [eR,List.set_cons_succ,List.flatMap_cons,List.length_append] at this ⊢
  omega
theorem BX (n:Nat):eR (List.replicate n noS)=[]:=by
 unfold eR
 rw [List.flatMap_eq_nil_iff]
 intro x hx
 rw [List.eq_of_mem_replicate hx]
 rfl
theorem y5 {α:Type} (a b:List α) (h:a.length=b.length):cpy a b=b:=by
 unfold cpy
 simp [h]
theorem BY {s:bY} {x:cK} {l:List (Int×ByteArray)} (h:SR s x l) (hk:1<=s.key) {i:Nat} (hi:i < x.parts.length) (d:ByteArray) :
  ∃ s' x' l',(Option.bind ((bif (!(kL s.parts (i:Int))) then (Option.bind (chk s.parts.isSome) λ_=>some (bY.mk s.key s.count (zo s.parts (i:Int) d) (IntKind.i64.wrap (s.bytes+(d.size:Int))))) else some s):Option bY) λa=>some ((0:Int),a))=some (0,s') /\
   (Option.bind (idx x.has (i:Int)) λb=>(Option.bind ((bif (!b) then (Option.bind (idx x.has (i:Int)) λg=>(Option.bind (idx x.parts (i:Int)) λk=>some (cK.mk x.key (x.has.set ((i:Int)).toNat true) (x.parts.set ((i:Int)).toNat d)))) else some x):Option cK) λf=>some (f,(0:Int))))=some (x',0)/\SR s' x' l'/\(eR x'.parts).length<=(eR x.parts).length+d.size/\s'.key=s.key:=by
 have e1:s.parts=some l:=by
  rcases h.st with ⟨e,_⟩ | ⟨_,_,e,_⟩
  ·exact e
  ·omega
 have e2:idx x.has (i:Int)=some (mgl (i:Int) l).isSome:=by
  rw [bL _ i (by rw [h.hl]; exact hi)]
  congr 1
  simp [h.has]
 rw [h.mh,e2,aA]
 cases hm:(mgl (i:Int) l).isSome with
 | true=>exact ⟨s,x,l,rfl,rfl,h,by omega,rfl⟩
 | false =>
  have hn:mgl (i:Int) l=none:=by
   cases hg:mgl (i:Int) l with
   | none=>rfl
   | some x=>rw [hg] at hm; cases hm
  rw [Bool.not_false,cond_true,cond_true,e1,show chk (some l).isSome=some () from rfl,aA,aA,aA,bL _ i hi,aA,aA,Int.toNat_natCast]
  have hs:SL (x.parts.set i d) l:=⟨h.sl.nd,λp hp=>by
   obtain ⟨j,ej,hj⟩:=h.sl.at_ p hp
   have hne:i≠j:=λe=>pX hn p hp (by rw [ej,e])
   exact ⟨j,ej,by rw [List.getElem?_set_ne hne]; exact hj⟩⟩
  obtain ⟨h1,h2⟩:=hs.add (i:=i) (d:=d) (by simp [hi]) hn
  refine ⟨_,_,msl (i:Int) d l,rfl,rfl,⟨h.key,by simpa using h.cnt,?_,h1,λj hj hj2=> ?_,.inl ⟨rfl,hk⟩,by simpa using h.le⟩,wD _ _ _,rfl⟩
  ·dsimp only
   rw [List.length_set,h.has]
   refine List.ext_getElem (by simp) λj hj1 hj2=> ?_
   simp only [List.length_set,List.length_map,List.length_range] at hj1
   rw [List.getElem_set]
   simp only [List.getElem_map,List.getElem_range,uY]
   by_cases c:i=j
   ·subst c; simp
   ·rw [if_neg c,if_neg (by omega)]
  ·dsimp only at hj2 ⊢
   rw [uY] at hj
   rw [List.length_set] at hj2
   have c:i≠j:=λe=>by subst e; simp at hj
   rw [if_neg (by omega)] at hj
   rw [List.getElem?_set_ne c]
   exact h.zz j hj hj2
theorem E6 {s:bY} {x:cK} {l:List (Int×ByteArray)} (h:SR s x l) (key index count:Int) (d:ByteArray) :
  ∃ e s' x' l',hG s key index count d=some (e,s')/\lj x key index count d=some (x',e)/\SR s' x' l'/\(eR x'.parts).length<=(eR x.parts).length+d.size/\(e≠0->s'=s/\x'=x)/\(s'.key=s.key\/s'.key=key)/\e≠4:=by
 unfold hG lj
 rw [DJ,aA,aA]
 by_cases c:count < 1\/count > 4096\/index < 0\/index>=count\/key < 1
 ·rw [decide_eq_true c,cond_true,cond_true]
  exact ⟨6,s,x,l,rfl,rfl,h,by omega,λ_=>⟨rfl,rfl⟩,.inl rfl,by decide⟩
 ·rw [decide_eq_false c,cond_false,cond_false,h.key]
  by_cases c1:key < s.key
  ·rw [decide_eq_true c1,cond_true,cond_true]
   exact ⟨8,s,x,l,rfl,rfl,h,by omega,λ_=>⟨rfl,rfl⟩,.inl rfl,by decide⟩
  ·rw [decide_eq_false c1,cond_false,cond_false,show chk (sn count 1)=some () from ja (by unfold big; omega),aA,show chk (sn count 16)=some () from ja (by unfold big; omega),aA]
   obtain ⟨n,rfl⟩: ∃ n:Nat,count=(n:Int):=⟨count.toNat,by omega⟩
   obtain ⟨i,rfl⟩: ∃ i:Nat,index=(i:Int):=⟨index.toNat,by omega⟩
   by_cases c2:key > s.key
   ·rw [decide_eq_true c2,cond_true,FL (by omega),cond_false,aA,aA,Int.toNat_natCast]
    have h0:SR ⟨key,(n:Int),some [],0⟩ ⟨key,List.replicate n false,List.replicate n noS⟩ []:=by
     refine ⟨rfl,by simp,?_,BU _,λi _ hi=> ?_,.inl ⟨rfl,show 1<=key by omega⟩,by simp; omega⟩
     ·dsimp only
      rw [List.length_replicate]
      refine List.ext_getElem (by simp) λj hj1 hj2=>by simp [mgl]
     ·dsimp only at hi ⊢
      rw [List.length_replicate] at hi
      simp [hi]
    obtain ⟨s',x',l',e1,e2,e3,e4,e5⟩:=BY h0 (show 1<=key by omega) (i:=i) (by simp; omega) d
    dsimp only
    refine ⟨0,s',x',l',e1,e2,e3,?_,λh=>absurd rfl h,.inr e5,by decide⟩
    dsimp only at e4
    rw [BX] at e4
    simp at e4
    omega
   ·have hk:key=s.key:=by omega
    subst hk
    have hk1:1<=s.key:=by omega
    rw [decide_eq_false c2,cond_false,show (s.key == s.key)=true by simp,cond_true,h.cnt,h.hl]
    by_cases c3:n=x.parts.length
    ·subst c3
     rw [F8,cond_false,cond_false,aA,aA,Int.toNat_natCast,y5 _ x.has (by rw [List.length_replicate,h.hl]),y5 _ x.parts (by rw [List.length_replicate])]
     obtain ⟨s',x',l',e1,e2,e3,e4,e5⟩:=BY h hk1 (i:=i) (by omega) d
     have ex:cK.mk s.key x.has x.parts=x:=by rw [<- h.key]
     rw [ex]
     exact ⟨0,s',x',l',e1,e2,e3,e4,λh=>absurd rfl h,.inl e5,by decide⟩
    ·rw [show ((n:Int) != (x.parts.length:Int))=true by simp; omega,cond_true,cond_true]
     exact ⟨1,s,x,l,rfl,rfl,h,by omega,λ_=>⟨rfl,rfl⟩,.inl rfl,by decide⟩
def whL (l:List (Int×ByteArray)) (n:Nat) (b:Bool):List Nat:=(List.range n).filter λi=>(mgl (i:Int) l).isSome == b
theorem y6 (l:List (Int×ByteArray)) (n:Nat) (b:Bool):(whL l n b).length<=n:=by
 unfold whL
 have:=List.length_filter_le (λi:Nat=>(mgl (i:Int) l).isSome == b) (List.range n)
 rw [List.length_range] at this
 exact this
theorem wE (l:List (Int×ByteArray)) (n:Nat) (b:Bool):whL l (n+1) b=whL l n b++(if ((mgl (n:Int) l).isSome == b)=true then [n] else []):=by
 unfold whL
 rw [List.range_succ,List.filter_append]
 congr 1
 rw [List.filter_cons]
 rfl
theorem D5 {s:bY} {l:List (Int×ByteArray)} {n:Nat} (hc:s.count=(n:Int)) (hm: ∀ i,kL s.parts i=(mgl i l).isSome) (hn:n<=5000) (b:Bool):fH s b=some ((whL l n b).map λi:Nat=>(i:Int)):=by
 unfold fH
 have:=qR (s:=s) (n:=n) hc (by omega) (λs32 x3=>(bif (x3.2 == b) then (Option.bind (chk (dF s32.length [x3.1].length 8)) λ_=>some ((s32++[x3.1]),true)) else some (s32,true))) (λi=>(whL l i b).map λi:Nat=>(i:Int)) (λi hi=>by
  dsimp only
  have:=y6 l i b
  rw [hm,wE]
  cases hg:((mgl (i:Int) l).isSome == b) with
  | true =>
   rw [cond_true,bW (by simp; omega),aA,if_pos rfl,List.map_append]
   rfl
  | false=>rw [cond_false,if_neg (by simp),List.append_nil])
 rw [show ((whL l 0 b).map λi:Nat=>(i:Int))=([]:List Int) from rfl] at this
 rw [this]
 rfl
theorem E7 {x:cK} {l:List (Int×ByteArray)} {n:Nat} (hh:x.has=(List.range n).map λi:Nat=>(mgl (i:Int) l).isSome) (hn:n<=5000) (b:Bool):jM x b=some ((whL l n b).map λi:Nat=>(i:Int)):=by
 unfold jM
 have hl:x.has.length=n:=by rw [hh]; simp
 refine dX (λi:Nat=>((i:Int),(whL l i b).map λi:Nat=>(i:Int))) n _ rfl ?_ ?_ rfl
 ·intro i hi
  dsimp only
  have:=y6 l i b
  rw [hl,decide_eq_true (by omega),cond_true,bL _ i (by omega),aA,show x.has[i]'(by omega)=(mgl (i:Int) l).isSome by simp [hh],wE]
  cases hg:((mgl (i:Int) l).isSome == b) with
  | true=>rw [cond_true,bW (by simp; omega),aA,aA,if_pos rfl,List.map_append,w64 (by omega) (by omega)]; rfl
  | false=>rw [cond_false,aA,if_neg (by simp),List.append_nil,w64 (by omega) (by omega)]; rfl
 ·dsimp only
  rw [hl,decide_eq_false (by omega),cond_false]
theorem E8 {s:bY} {x:cK} {l:List (Int×ByteArray)} (h:SR s x l) (hb:(eR x.parts).length<=100000) :
  ∃ w u b,fg s=some (w,b)/\lk x=some (u,b)/\(b=true->w=u/\w=dL (eR x.parts)):=by
 have hA: ∀ R:ByteArray->Option (ByteArray×Bool),Option.bind (iter (σ:=Int×ByteArray) (ρ:=ByteArray) (λd=>(bif (decide (d.1 < (x.parts.length:Int))) then (Option.bind (idx x.parts d.1) λf=>(Option.bind (chk (kH d.2.size f.size)) λ_=>some (.inl ((IntKind.i64.wrap (d.1+1)),(d.2++f))))) else some (.inr d.2))) (0,(ByteArray.mk #[]))) R=R (dL (eR x.parts)):=λR=>by
  refine dX (λi:Nat=>((i:Int),dL (eR (x.parts.take i)))) x.parts.length (dL (eR x.parts)) rfl ?_ ?_ rfl
  ·intro i hi
   dsimp only
   have hpre:(eR (x.parts.take (i+1))).length<=(eR x.parts).length:=by
    have e:eR x.parts=eR (x.parts.take (i+1))++eR (x.parts.drop (i+1)):=by
     unfold eR
     rw [<- List.flatMap_append,List.take_append_drop]
    rw [e,List.length_append]
    omega
   have e2:=o3 x.parts i hi
   have e3:(eR (x.parts.take (i+1))).length=(eR (x.parts.take i)).length+x.parts[i].size:=by rw [e2,List.length_append,aV]
   have:=h.le
   rw [decide_eq_true (by omega),cond_true,bL _ i hi,aA,dW (by rw [bP]; omega),aA,w64 (by omega) (by omega),e2,dG,nU]
   rfl
  ·dsimp only
   rw [decide_eq_false (by omega),cond_false,List.take_length]
 unfold lk
 rw [hA]
 have hle:=h.le
 rcases h.st with ⟨e1,e2⟩ | ⟨e1,e2,e3,e4⟩
 ·have hs:s=⟨s.key,(x.parts.length:Int),some l,s.bytes⟩:=by rw [<- e1,<- h.cnt]
  have hw:=xZ (b:=s.bytes) e2 h.sl (by omega) (by omega)
  rw [<- hs] at hw
  rw [hw,decide_eq_true (show x.key > 0 by rw [h.key]; omega),cond_true,E7 h.has (by omega),aA,aA]
  by_cases c:l.length < x.parts.length
  ·refine ⟨noS,dL (eR x.parts),false,by rw [if_pos c],?_,λh=>by cases h⟩
   have:whL l x.parts.length false≠[]:=λe=>by
    have:=SL.full (P:=x.parts) (l:=l) λi hi=>by
     have:=(List.filter_eq_nil_iff.1 e) i (List.mem_range.2 hi)
     simpa [Option.isSome_iff_ne_none] using this
    omega
   cases hq:whL l x.parts.length false with
   | nil=>exact absurd hq this
   | cons a b=>rfl
  ·refine ⟨dL (eR x.parts),dL (eR x.parts),true,by rw [if_neg c],?_,λ_=>⟨rfl,rfl⟩⟩
   have:whL l x.parts.length false=[]:=by
    unfold whL
    rw [List.filter_eq_nil_iff]
    intro i hi
    have hall:=(h.sl.le).2 (by have:=h.sl.le.1; omega) i (List.mem_range.1 hi)
    rw [hall]
    simp
   rw [this]
   rfl
 ·refine ⟨noS,dL (eR x.parts),false,?_,?_,λh=>by cases h⟩
  ·unfold fg
   rw [e3]
   rfl
  ·rw [h.key,e3]
   rfl
abbrev CL:=List (Int×CacheEntry)
structure CM (now:Int) (m:CL):Prop where
 nd:(m.map Prod.fst).Nodup
 r: ∀ e∈m,0<=e.1/\e.1 < 1152921504606846976
 a: ∀ e∈m,e.2.at_<=now
 da:(m.map λe=>e.2.at_).Nodup
 g: ∀ e∈m,e.2.l.length<=1000000
theorem pZ {i:Int} {x:CacheEntry}: ∀ {m:CL},(m.map Prod.fst).Nodup -> ∀ e∈msl i x m,e=(i,x)\/(e∈m/\e.1≠i)
 | [],_,e,h=> .inl (List.mem_singleton.1 h)
 | (j,y)::m,hn,e,h=>by
  have hn':=List.nodup_cons.1 hn
  unfold msl at h
  split at h
  ·rename_i hij
   subst hij
   rcases List.mem_cons.1 h with h | h
   ·exact .inl h
   ·exact .inr ⟨List.mem_cons_of_mem _ h,λc=>hn'.1 (List.mem_map.2 ⟨e,h,c⟩)⟩
  ·rename_i hij
   rcases List.mem_cons.1 h with rfl | h
   ·exact .inr ⟨List.mem_cons_self,λc=>hij c.symm⟩
   ·rcases pZ hn'.2 e h with c | ⟨c,d⟩
    ·exact .inl c
    ·exact .inr ⟨List.mem_cons_of_mem _ c,d⟩
theorem wF {i:Int} {x:CacheEntry}: ∀ {m:CL},(m.map Prod.fst).Nodup->((msl i x m).map Prod.fst).Nodup /\ ∀ j,j∈(msl i x m).map Prod.fst↔j=i\/j∈m.map Prod.fst
 | [],_=>⟨by simp [msl],λj=>by simp [msl]⟩
 | (j,y)::m,hn=>by
  have hn':=List.nodup_cons.1 hn
  obtain ⟨h1,h2⟩:=wF (i:=i) (x:=x) hn'.2
  unfold msl
  split
  ·rename_i hij
   subst hij
   refine ⟨hn,λj=> ?_⟩
   simp only [List.map_cons,List.mem_cons]
   exact ⟨λc=>c.elim .inl λd=> .inr (.inr d),λc=>c.elim .inl id⟩
  ·rename_i hij
   refine ⟨List.nodup_cons.2 ⟨λc=> ?_,h1⟩,λq=> ?_⟩
   ·rcases (h2 j).1 c with d | d
    ·exact hij d.symm
    ·exact hn'.1 d
   ·simp only [List.map_cons,List.mem_cons,h2]
    exact ⟨λc=>c.elim (λd=> .inr (.inl d)) λd=>d.elim .inl λe=> .inr (.inr e),λc=>c.elim (λd=> .inr (.inl d)) λd=>d.elim .inl λe=> .inr (.inr e)⟩
theorem y7 {i:Int} {x:CacheEntry}: ∀ {m:CL},(m.map λe=>e.2.at_).Nodup->(∀ e∈m,e.2.at_ < x.at_)->((msl i x m).map λe=>e.2.at_).Nodup /\ ∀ q∈(msl i x m).map (λe=>e.2.at_),q=x.at_\/q∈m.map λe=>e.2.at_
 | [],_,_=>⟨by simp [msl],λq h=>by simp [msl] at h; exact .inl h⟩
 | (j,y)::m,hn,hx=>by
  have hn':=List.nodup_cons.1 hn
  have hy:=hx _ List.mem_cons_self
  obtain ⟨h1,h2⟩:=y7 (i:=i) (x:=x) hn'.2 λe he=>hx e (List.mem_cons_of_mem _ he)
  unfold msl
  split
  ·refine ⟨List.nodup_cons.2 ⟨λc=> ?_,hn'.2⟩,λq hq=> ?_⟩
   ·obtain ⟨e,he,c⟩:=List.mem_map.1 c
    have:=hx e (List.mem_cons_of_mem _ he)
    dsimp only at c
    omega
   ·rcases List.mem_cons.1 hq with c | c
    ·exact .inl c
    ·exact .inr (List.mem_cons_of_mem _ c)
  ·refine ⟨List.nodup_cons.2 ⟨λc=> ?_,h1⟩,λq hq=> ?_⟩
   ·rcases h2 _ c with d | d
    ·dsimp only at d hy; omega
    ·exact hn'.1 d
   ·rcases List.mem_cons.1 hq with c | c
    ·exact .inr (c ▸ List.mem_cons_self)
    ·rcases h2 _ c with d | d
     ·exact .inl d
     ·exact .inr (List.mem_cons_of_mem _ d)
theorem y8 {i:Int} {x:CacheEntry}: ∀ m:CL,(msl i x m).length<=m.length+1/\((mgl i m).isSome=true->(msl i x m).length=m.length)
 | []=>⟨Nat.le_refl _,λh=>by cases h⟩
 | (j,y)::m=>by
  obtain ⟨h1,h2⟩:=y8 (i:=i) (x:=x) m
  unfold msl mgl
  split
  ·exact ⟨by simp,λ_=>rfl⟩
  ·refine ⟨by simp only [List.length_cons]; omega,λh=> ?_⟩
   simp only [List.length_cons,h2 h]
theorem u0 {i:Int}: ∀ m:CL,(mdl i m).Sublist m/\(i∈m.map Prod.fst->(mdl i m).length+1=m.length)
 | []=>⟨.slnil,λh=>by cases h⟩
 | (j,y)::m=>by
  obtain ⟨h1,h2⟩:=u0 (i:=i) m
  unfold mdl
  split
  ·exact ⟨List.sublist_cons_self _ _,λ_=>rfl⟩
  ·rename_i hij
   refine ⟨h1.cons_cons _,λh=> ?_⟩
   rcases List.mem_cons.1 h with c | c
   ·exact absurd c hij
   ·simp only [List.length_cons,h2 c]
theorem CM.sub {now:Int} {m m':CL} (h:CM now m) (hs:m'.Sublist m):CM now m':=⟨h.nd.sublist (hs.map _),λe he=>h.r e (hs.subset he),λe he=>h.a e (hs.subset he),h.da.sublist (hs.map _),λe he=>h.g e (hs.subset he)⟩
theorem CM.set {now:Int} {m:CL} (h:CM now m) {i:Int} (hi:0<=i/\i < 1152921504606846976) {l:List aJ} (hl:l.length<=1000000):CM (now+1) (msl i ⟨l,now+1⟩ m):=by
 refine ⟨(wF h.nd).1,λe he=> ?_,λe he=> ?_,(y7 h.da λe he=> ?_).1,λe he=> ?_⟩
 ·rcases pZ h.nd e he with rfl | ⟨c,_⟩
  ·exact hi
  ·exact h.r e c
 ·rcases pZ h.nd e he with rfl | ⟨c,_⟩
  ·exact Int.le_refl _
  ·have:=h.a e c; omega
 ·have:=h.a e he; dsimp only; omega
 ·rcases pZ h.nd e he with rfl | ⟨c,_⟩
  ·exact hl
  ·exact h.g e c
theorem E9 (x y:Int):gw x y=some (if x < y then -1 else if x > y then 1 else 0):=by
 unfold gw iF
 rw [aA,aA,show (x != x)=false by simp,show (y != y)=false by simp,cond_false,cond_false]
 by_cases c:x < y
 ·rw [decide_eq_true c,cond_true,if_pos c]
 ·rw [decide_eq_false c,cond_false,if_neg c]
  by_cases d:x > y
  ·rw [decide_eq_true d,cond_true,if_pos d]
  ·rw [decide_eq_false d,cond_false,if_neg d]
def atC (c:aQ) (i:Int):Int:=(mgd c.l i ⟨[],0⟩).at_
theorem DK (c:aQ) (ks:List Int) (hn:ks≠[]) (hl:ks.length<=1000000): ∃ r,dA ks c=some r/\r∈ks /\ ∀ j∈ks,atC c r<=atC c j:=by
 unfold dA
 have h0:0 < ks.length:=List.length_pos_iff.2 hn
 have hst: ∀ s:Int×Int,(∃ n:Nat,s.2=n/\1<=n/\n<=ks.length/\s.1∈ks /\ ∀ j∈ks.take n,atC c s.1<=atC c j)->(∃ s',(λs100:Int×Int=>((bif (decide (s100.2 < (ks.length:Int))) then (Option.bind ((Option.bind (idx ks s100.2) λa=>(Option.bind (eL a s100.1 c) λb=>(bif (decide (b < 0)) then (Option.bind (idx ks s100.2) λf=>some f) else some s100.1))):Option Int) λg=>some (.inl (g,(IntKind.i64.wrap (s100.2+1))))) else some (.inr s100.1)):Option ((Int×Int) ⊕ Int))) s=some (.inl s')/\(∃ n:Nat,s'.2=n/\1<=n/\n<=ks.length/\s'.1∈ks /\ ∀ j∈ks.take n,atC c s'.1<=atC c j)/\ks.length - s'.2.toNat < ks.length - s.2.toNat)\/(∃ r,(λs100:Int×Int=>((bif (decide (s100.2 < (ks.length:Int))) then (Option.bind ((Option.bind (idx ks s100.2) λa=>(Option.bind (eL a s100.1 c) λb=>(bif (decide (b < 0)) then (Option.bind (idx ks s100.2) λf=>some f) else some s100.1))):Option Int) λg=>some (.inl (g,(IntKind.i64.wrap (s100.2+1))))) else some (.inr s100.1)):Option ((Int×Int) ⊕ Int))) s=some (.inr r)/\(r∈ks /\ ∀ j∈ks,atC c r<=atC c j)):=by
  rintro ⟨m,i⟩ ⟨n,h1,h2,h3,h4,h5⟩
  dsimp only at h1 h4 h5 ⊢
  subst h1
  by_cases d:n < ks.length
  ·left
   have hc:eL ks[n] m c=some (if atC c ks[n] < atC c m then -1 else if atC c ks[n] > atC c m then 1 else 0):=by
    unfold eL
    rw [show ((mgd c.l ks[n] (CacheEntry.mk ([]:List aJ) 0)).at_)=atC c ks[n] from rfl,show ((mgd c.l m (CacheEntry.mk ([]:List aJ) 0)).at_)=atC c m from rfl,E9]
    rfl
   rw [decide_eq_true (by omega),cond_true,bL ks n d,aA,hc,aA,aA,w64 (by omega) (by omega)]
   have ht:ks.take (n+1)=ks.take n++[ks[n]]:=List.take_succ_eq_append_getElem d
   by_cases e:atC c ks[n] < atC c m
   ·rw [if_pos e,show decide ((-1:Int) < 0)=true from rfl,cond_true,aA]
    refine ⟨_,rfl,⟨n+1,rfl,by omega,d,List.getElem_mem d,λj hj=> ?_⟩,by dsimp only; omega⟩
    rw [ht] at hj
    rcases List.mem_append.1 hj with hj | hj
    ·have:=h5 j hj; dsimp only; omega
    ·rw [List.mem_singleton.1 hj]; exact Int.le_refl _
   ·rw [if_neg e]
    have:decide ((if atC c ks[n] > atC c m then (1:Int) else 0) < 0)=false:=by split <;> rfl
    rw [this,cond_false,aA]
    refine ⟨_,rfl,⟨n+1,rfl,by omega,d,h4,λj hj=> ?_⟩,by dsimp only; omega⟩
    rw [ht] at hj
    rcases List.mem_append.1 hj with hj | hj
    ·exact h5 j hj
    ·rw [List.mem_singleton.1 hj]; dsimp only; omega
  ·right
   rw [decide_eq_false (by omega),cond_false]
   refine ⟨m,rfl,h4,λj hj=>h5 j ?_⟩
   rw [List.take_of_length_le (by omega)]
   exact hj
 obtain ⟨r,e1,e2⟩:=m6 (σ:=Int×Int) (λs=> ∃ n:Nat,s.2=n/\1<=n/\n<=ks.length/\s.1∈ks /\ ∀ j∈ks.take n,atC c s.1<=atC c j) (λs=>ks.length - s.2.toNat) _ hst (ks[0],1) ⟨1,rfl,Nat.le_refl _,h0,List.getElem_mem h0,λj hj=>by
  obtain ⟨k,ks',rfl⟩:=List.exists_cons_of_ne_nil hn
  rw [List.mem_singleton.1 (show j∈[k] from hj)]
  exact Int.le_refl _⟩
 rw [decide_eq_false (by omega),cond_false,show (0:Int)=((0:Nat):Int) from rfl,bL ks 0 h0,aA]
 exact ⟨r,(congrArg (λz=>Option.bind z _) e1).trans rfl,e2⟩
structure CS (k N:Int) (c:aQ):Prop where
 most:c.most=k
 now:0<=c.now/\c.now<=N
 l: ∃ m,c.l=some m/\CM c.now m/\(m.length:Int)<=k
theorem CS.more {k N M:Int} {c:aQ} (h:CS k N c) (hm:N<=M):CS k M c:=⟨h.most,⟨h.now.1,by have:=h.now.2; omega⟩,h.l⟩
theorem DL (most:Int): ∃ c,kd most=some c/\CS (imax 1 (cW most 65536)) 0 c:=by
 refine ⟨_,rfl,rfl,⟨Int.le_refl _,Int.le_refl _⟩,[],rfl,⟨List.nodup_nil,λe h=>(by cases h),λe h=>(by cases h),List.nodup_nil,λe h=>(by cases h)⟩,?_⟩
 have:=jU 1 (cW most 65536)
 show (0:Int)<=_
 omega
theorem z6 {k N:Int} (hk:0<=k) {c:aQ} (h:CS k N c): ∃ c',fC c=some c'/\CS k N c':=by
 obtain ⟨m,m1,m2,m3⟩:=h.l
 refine ⟨_,rfl,h.most,h.now,[],?_,⟨List.nodup_nil,λe h=>(by cases h),λe h=>(by cases h),List.nodup_nil,λe h=>(by cases h)⟩,hk⟩
 show CA c.l=_
 rw [m1]
 rfl
theorem o4 (l:List aJ) (h:l.length<=1000000):cP l=some l:=by
 unfold cP
 rw [bW (by simp; omega),aA]
 rfl
theorem BZ {c:aQ} {m:CL} (hm:c.l=some m) (hn:(m.map Prod.fst).Nodup) {i:Int} {e:CacheEntry} (h:(i,e)∈m):atC c i=e.at_:=by
 unfold atC mgd
 rw [hm,Option.getD_some,kU hn h]
 rfl
theorem z7 {k N:Int} {c:aQ} (h:CS k N c) (hk:k<=100000): ∃ L,dH c=some L/\WS k L:=by
 obtain ⟨m,m1,m2,m3⟩:=h.l
 have h0: ∀ i∈m.map Prod.fst,0<=i/\i < 1152921504606846976:=λi hi=>by
  obtain ⟨e,he,rfl⟩:=List.mem_map.1 hi
  exact m2.r e he
 obtain ⟨a1,a2,a3⟩:=nh (m.map Prod.fst) [] trivial m2.nd (λi hi=>⟨(h0 i hi).1,iW⟩)
 refine ⟨_,qN m1 (by omega) m2.nd m2.r,⟨λy hy=> ?_,by rw [a3,List.length_map]; show (0:Int)+_<=_; omega⟩⟩
 generalize jQ [] (m.map Prod.fst)=L at a1 a2 hy
 have hne: ∀ (L:List aB) (lo:Int),NF lo L -> ∀ y∈L,lo < y.from_/\y.from_ < y.to:=by
  intro L
  induction L with
  | nil=>intro lo _ y hy; cases hy
  | cons z L ih =>
   intro lo hn y hy
   rcases List.mem_cons.1 hy with rfl | hy
   ·exact ⟨hn.1,hn.2.1⟩
   ·have:=ih _ hn.2.2 y hy
    have:=hn.1
    have:=hn.2.1
    omega
 have hb:=hne L _ a1 y hy
 have hlast:=(a2 (y.to - 1)).1 ⟨y,hy,by omega,by omega⟩
 rcases hlast with hlast | hlast
 ·exact absurd hlast iW
 ·have:=h0 _ hlast
  omega
theorem Fa {t:bG} {x:dZ} {l:List (Int×ByteArray)} (h:SR t.slot x.slot l):eQ t=some ⟨1,2,[t.aO.k,t.slot.key],dL (E5 l x.slot.parts.length)⟩:=by
 have hn:=h.le
 have e:=BW (t:=⟨⟨t.slot.key,(x.slot.parts.length:Int),some l,t.slot.bytes⟩,t.aO⟩) (l:=l) (n:=x.slot.parts.length) rfl (by omega)
 rw [<- e]
 have h1:dU t.slot=some ((whL l x.slot.parts.length true).map λi:Nat=>(i:Int)):=by
  unfold dU
  rw [D5 h.cnt h.mh (by omega)]
  rfl
 have h2:dU ⟨t.slot.key,(x.slot.parts.length:Int),some l,t.slot.bytes⟩=some ((whL l x.slot.parts.length true).map λi:Nat=>(i:Int)):=by
  unfold dU
  rw [D5 (l:=l) (n:=x.slot.parts.length) rfl (λi=>rfl) (by omega)]
  rfl
 have h3:gj t.slot=some (x.slot.parts.length:Int):=congrArg some h.cnt
 unfold eQ
 rw [h1,h2,h3]
 rfl
theorem B4: ∀ (k i acc:Nat) (l:List Int) (e:Int),rdp k i acc l = .inl e->e≠4
 | 0,_,_,_,e,h=>by rw [rdp] at h; injection h with h; subst h; decide
 | k+1,_,_,[],e,h=>by rw [rdp] at h; injection h with h; subst h; decide
 | k+1,i,acc,b::r,e,h=>by
  rw [rdp] at h
  split at h
  ·split at h
   ·injection h with h; subst h; decide
   ·cases h
  ·exact B4 k _ _ _ e h
theorem n4 {i:aD} (h:i.e≠4):(rdS i).2.e≠4:=by
 unfold rdS
 split
 ·cases hr:rdp 9 0 0 (sbs i.s) with
  | inl e=>exact B4 _ _ _ _ e hr
  | inr p=>exact (by decide:(0:Int)≠4)
 ·exact h
theorem u3:iO.e≠4:=by decide
theorem lF {i:aD} (m:Int) (h:i.e≠4):(bU i m).2.e≠4:=by
 unfold bU
 split
 ·exact u3
 ·exact n4 h
theorem Fb {i:aD} (h:i.e≠4):(ly i).2.e≠4:=by
 have h1:=n4 h
 unfold ly tv
 split
 ·exact h1
 ·split
  ·exact (by decide:(2:Int)≠4)
  ·exact (by decide:(0:Int)≠4)
theorem x4: ∀ (k:Nat) (i:aD) (l:List aJ),i.e≠4->(bkL k i l).2.e≠4
 | 0,_,_,h=>h
 | k+1,_,_,h=>x4 k _ _ (lF _ (lF _ h))
theorem D6 {i:aD} (h:i.e≠4):(bkS i).2.e≠4:=by
 unfold bkS
 split
 ·exact x4 _ _ _ (lF _ h)
 ·exact x4 _ _ _ (lF _ h)
theorem B5 {i:aD} (left:Int) (h:i.e≠4):(jz i left).2.e≠4:=by
 refine lF _ (lF _ (lF _ ?_))
 unfold mP
 split
 ·exact u3
 ·exact lF _ h
theorem wG: ∀ (k:Nat) (w:Int) (i:aD) (l:List aL),i.e≠4->(rrS k w i l).2.e≠4
 | 0,_,_,_,h=>h
 | k+1,w,i,l,h=>by
  rw [rrS]
  split
  ·split
   ·split
    ·exact wG k _ _ _ u3
    ·exact wG k _ _ _ (B5 _ h)
   ·exact wG k _ _ _ (B5 _ h)
  ·exact h
theorem Fc {i:aD} (w:Int) (h:i.e≠4):(gQ i w).2.e≠4:=by
 unfold gQ
 split
 ·exact wG _ _ _ _ (lF _ h)
 ·exact wG _ _ _ _ (lF _ h)
theorem B6: ∀ (k:Nat) (w h:Int) (i:aD) (last:Int) (l:List (Int×aT)),i.e≠4->(dlL k w h i last l).2.e≠4
 | 0,_,_,_,_,_,hi=>hi
 | k+1,w,h,i,last,l,hi=>by
  rw [dlL]
  split
  ·refine B6 k _ _ _ _ _ (Fc _ ?_)
   unfold dlI
   split
   ·unfold rh
    split
    ·exact u3
    ·exact n4 hi
   ·exact n4 hi
  ·exact hi
theorem B7 {i:aD} (h:i.e≠4):jk i≠4:=by
 unfold jk
 split
 ·decide
 ·exact h
theorem B8 (a:aM) (s:ByteArray):(mb a s).2≠4:=by
 have h0:(⟨s,0⟩:aD).e≠4:=(by decide:(0:Int)≠4)
 have hN:(zN s).2.e≠4:=n4 (D6 (n4 (n4 (Fb (n4 (n4 (lF _ (lF _ (n4 (n4 h0))))))))))
 have hR:(zR s).2.e≠4:=B6 _ _ _ _ _ _ hN
 unfold mb
 split
 ·exact (by decide:(1:Int)≠4)
 ·split
  ·exact B7 hR
  ·split
   ·exact (by decide:(7:Int)≠4)
   ·split
    ·exact (by decide:(1:Int)≠4)
    ·split
     ·exact (by decide:(1:Int)≠4)
     ·exact (by decide:(0:Int)≠4)
structure TP (t:bG) (x:dZ) (q:Nat):Prop where
 sr: ∃ l,SR t.slot x.slot l
 hv:x.aO=fB t.aO
 sw:SW t.aO
 bd:(t.aO.rows.flatMap fu).length+(eR x.slot.parts).length<=q
theorem B9:TP ⟨⟨0,0,none,0⟩,iJ⟩ ⟨fB iJ,⟨0,[],[]⟩⟩ 0:=⟨⟨[],uZ⟩,rfl,pH,Nat.le_refl _⟩
theorem TP.more {t:bG} {x:dZ} {q q':Nat} (h:TP t x q) (hq:q<=q'):TP t x q':=⟨h.sr,h.hv,h.sw,Nat.le_trans h.bd hq⟩
def TK (B:Int) (t:bG):Prop:=(0<=t.slot.key/\t.slot.key<=B)/\(0<=t.aO.k/\t.aO.k<=B)
theorem Ca (D:Nat) (hD:D<=400) {t:bG} {x:dZ} {q:Nat} {g:aU} {y:cL} (h:TP t x q) (hq:q<=10600) (e1:y.kind=g.kind) (e2:y.aZ=g.aZ) (e3:y.data=g.data) (hd:g.data.size<=D) :
  ∃ e t' x',gk t g=some (e,t')/\kx x y=some (x',e)/\TP t' x' (q+D)/\(∀ B,TK B t->(∀ n∈g.aZ,0<=n/\n<=B)->TK B t')/\e≠4/\t.aO.k<=t'.aO.k:=by
 obtain ⟨l,hs⟩:=h.sr
 unfold gk gT kx
 rw [e1,e2,e3]
 by_cases k1: ¬ g.kind=1
 ·rw [show (g.kind != 1)=true by simpa using k1,cond_true,cond_true,aA]
  exact ⟨5,t,x,rfl,rfl,h.more (by omega),(λ_ h _=>h),by decide,Int.le_refl _⟩
 replace k1:=Classical.not_not.1 k1
 rw [show (g.kind != 1)=false by simp [k1],cond_false,cond_false]
 by_cases k2: ¬ g.aZ.length=5
 ·rw [show ((g.aZ.length:Int) != 5)=true by simp; omega,cond_true,cond_true,aA]
  exact ⟨1,t,x,rfl,rfl,h.more (by omega),(λ_ h _=>h),by decide,Int.le_refl _⟩
 replace k2:=Classical.not_not.1 k2
 rw [show ((g.aZ.length:Int) != 5)=false by simp; omega,cond_false,cond_false]
 obtain ⟨a,b,c,d,n,hg⟩: ∃ a b c d n,g.aZ=[a,b,c,d,n]:=by
  match hh:g.aZ,k2 with
  | [a,b,c,d,n],_=>exact ⟨a,b,c,d,n,rfl⟩
 rw [hg]
 simp only [show idx [a,b,c,d,n] 0=some a from rfl,show idx [a,b,c,d,n] 1=some b from rfl,show idx [a,b,c,d,n] 2=some c from rfl,show idx [a,b,c,d,n] 3=some d from rfl,show idx [a,b,c,d,n] 4=some n from rfl,aA]
 rw [h.hv,show (fB t.aO).k=t.aO.k from rfl]
 by_cases k3:b<=t.aO.k
 ·rw [decide_eq_true k3,cond_true,cond_true,aA]
  exact ⟨8,t,x,rfl,rfl,h.more (by omega),(λ_ h _=>h),by decide,Int.le_refl _⟩
 rw [decide_eq_false k3,cond_false,cond_false]
 have hcc:((bif c != 0 then some (c != t.aO.k) else some false):Option Bool)=some (decide (c≠0/\c≠t.aO.k)):=by
  by_cases c1:c=0
  ·subst c1; simp
  ·rw [show (c != 0)=true by simpa using c1,cond_true]
   by_cases c2:c=t.aO.k <;> simp [c1,c2]
 rw [hcc,aA,aA]
 by_cases k4:c≠0/\c≠t.aO.k
 ·rw [decide_eq_true k4,cond_true,cond_true,aA]
  exact ⟨7,t,x,rfl,rfl,h.more (by omega),(λ_ h _=>h),by decide,Int.le_refl _⟩
 rw [decide_eq_false k4,cond_false,cond_false]
 obtain ⟨e,s',x',l',p1,p2,p3,p4,p5,p6,p7⟩:=E6 hs a d n g.data
 rw [p1,p2]
 simp only [aA]
 have hbd:(t.aO.rows.flatMap fu).length+(eR x'.parts).length<=q+D:=by have:=h.bd; omega
 by_cases k5: ¬ e=0
 ·rw [show (e != 0)=true by simpa using k5,cond_true,cond_true]
  refine ⟨e,⟨s',t.aO⟩,x,rfl,rfl,?_⟩
  -- an error changes nothing
  rw [(p5 k5).1]
  exact ⟨h.more (by omega),(λ_ h _=>h),p7,Int.le_refl _⟩
 replace k5:=Classical.not_not.1 k5
 subst k5
 rw [show ((0:Int) != 0)=false from rfl,cond_false,cond_false]
 obtain ⟨w,u,bb,w1,w2,w3⟩:=E8 p3 (by omega)
 rw [w1,w2,aA,aA]
 dsimp only
 cases bb with
 | false =>
  rw [Bool.not_false,cond_true,cond_true,<- h.hv]
  exact ⟨0,⟨s',t.aO⟩,⟨x.aO,x'⟩,rfl,rfl,⟨⟨l',p3⟩,h.hv,h.sw,hbd⟩,(λB hB hn=>⟨by
   rcases p6 with e | e
   ·show 0<=s'.key/\s'.key<=B; rw [e]; exact hB.1
   ·show 0<=s'.key/\s'.key<=B; rw [e]; exact hn a (by simp),hB.2⟩),by decide,Int.le_refl _⟩
 | true =>
  obtain ⟨w4,w5⟩:=w3 rfl
  subst w4
  rw [Bool.not_true,cond_false,cond_false,show gS s'=some ⟨0,0,none,0⟩ from rfl,aA]
  obtain ⟨f,hf,sf,pf,f1⟩: ∃ f:aM,((bif c != 0 then some t.aO else some (aM.mk 0 0 0 0 0 (ByteArray.mk #[]) ([]:List aT) 0 0 ([]:List aJ))):Option aM)=some f/\SW f/\(f.rows.flatMap fu).length<=(t.aO.rows.flatMap fu).length/\((bif c != 0 then some (fB t.aO) else some (bD.mk 0 0 0 0 0 (ByteArray.mk #[]) ([]:List bC) 0 0 ([]:List aN))):Option bD)=some (fB f):=by
   cases c != 0 with
   | true=>exact ⟨t.aO,rfl,h.sw,Nat.le_refl _,rfl⟩
   | false=>exact ⟨iJ,rfl,pH,Nat.zero_le _,rfl⟩
  have hsz:w.size=(eR x'.parts).length:=by rw [w5,bP]
  have hz:=DB (s:=w) (by omega)
  have hap:=Bu f w sf (by omega) (by omega) hz
  have har:=zQ f w sf (by omega) (by omega) hz
  obtain ⟨q1,q2⟩:=xX f w sf (by omega) (by omega) hz
  have q4:=B8 f w
  rw [hf,aA,hap,aA,f1,aA,har,aA]
  generalize mb f w=z at q1 q2 q4 ⊢
  obtain ⟨z,er⟩:=z
  dsimp only at q1 q2 q4 ⊢
  have he:Option.bind ((bif (er == 0) then some (z.k != b) else some false):Option Bool) (λi=>((bif i then some 1 else some er):Option Int))=some (if er=0/\z.k≠b then 1 else er):=by
   by_cases c1:er=0
   ·subst c1
    rw [show ((0:Int) == 0)=true from rfl,cond_true,aA]
    by_cases c2:z.k=b
    ·simp [c2]
    ·rw [show (z.k != b)=true by simpa using c2,cond_true,if_pos ⟨rfl,c2⟩]
   ·rw [show (er == 0)=false by simpa using c1,cond_false,aA,cond_false,if_neg (λh=>c1 h.1)]
  generalize hE:(if er=0/\z.k≠b then 1 else er)=E at he
  cases hq:((bif (er == 0) then some (z.k != b) else some false):Option Bool) with
  | none=>rw [hq] at he; cases he
  | some v =>
   rw [hq,aA] at he
   rw [aA,aA,he,aA,aA]
   by_cases c1:E=0
   ·subst c1
    rw [show ((0:Int) == 0)=true from rfl,cond_true,aA,show ((0:Int) != 0)=false from rfl,cond_false]
    exact ⟨0,⟨⟨0,0,none,0⟩,z⟩,⟨fB z,⟨0,[],[]⟩⟩,rfl,rfl,⟨⟨[],uZ⟩,rfl,q1,by show (z.rows.flatMap fu).length+0<=_; omega⟩,(λB hB hn=>⟨⟨Int.le_refl _,by have:=hB.1; show (0:Int)<=B; omega⟩,by
     have hz:z.k=b:=by
      by_cases c2:z.k=b
      ·exact c2
      ·by_cases c3:er=0
       ·rw [if_pos ⟨c3,c2⟩] at hE; cases hE
       ·rw [if_neg (λh=>c3 h.1)] at hE; exact absurd hE c3
     show 0<=z.k/\z.k<=B
     rw [hz]
     exact hn b (by simp)⟩),by decide,by
     have hz:z.k=b:=by
      by_cases c2:z.k=b
      ·exact c2
      ·by_cases c3:er=0
       ·rw [if_pos ⟨c3,c2⟩] at hE; cases hE
       ·rw [if_neg (λh=>c3 h.1)] at hE; exact absurd hE c3
     show t.aO.k<=z.k
     omega⟩
   ·rw [show (E == 0)=false by simpa using c1,cond_false,aA,show (E != 0)=true by simpa using c1,cond_true,<- h.hv]
    exact ⟨E,⟨⟨0,0,none,0⟩,t.aO⟩,⟨x.aO,⟨0,[],[]⟩⟩,rfl,rfl,⟨⟨[],uZ⟩,h.hv,h.sw,by show (t.aO.rows.flatMap fu).length+0<=_; omega⟩,(λB hB hn=>⟨⟨Int.le_refl _,by have:=hB.1; show (0:Int)<=B; omega⟩,hB.2⟩),by rw [<- hE]; split; exact (by decide:(1:Int)≠4); exact q4,Int.le_refl _⟩
structure GB (g:aU):Prop where
 k:g.kind=1\/g.kind=4
 n:g.aZ.length<=5
 r: ∀ x∈g.aZ,0<=x/\x<=4611686018427387904
 d:g.data.size<=8000
theorem GB.check {g:aU} (h:GB g) {e:Int} (e1:1<=e) (e2:e<=4294967296):gr ⟨e,g.kind,g.aZ,g.data⟩=0:=by
 have hr:iQ ⟨e,g.kind,g.aZ,g.data⟩=true:=by
  unfold iQ
  simp only [Bool.and_eq_true,decide_eq_true_eq,List.all_eq_true]
  have hk:=h.k
  have hn:=h.n
  exact ⟨⟨e1,e2⟩,by omega,by omega,λx hx=>decide_eq_true (h.r x hx)⟩
 have hs:(eO ⟨e,g.kind,g.aZ,g.data⟩).size<=8192:=by
  unfold eO
  rw [ou,bP]
  have h1:=lA [e,g.kind,(g.aZ.length:Int)]
  have h2:=lA g.aZ
  have h3:=cG (g.data.size:Int)
  have hn:=h.n
  have hd:=h.d
  unfold mc
  simp only [List.length_append,aV]
  simp only [List.length_cons,List.length_nil] at h1
  omega
 unfold gr
 rw [hr,if_neg (by simp),if_neg (by omega)]
theorem Cb {s:ByteArray} (h:(jE s).2=0):iQ (jE s).1=true/\s.size<=8192/\4<=s.size/\(jE s).1=qgR s:=by
 unfold jE at h ⊢
 split at h
 ·cases h
 ·rename_i h1
  rw [if_neg h1]
  split at h
  ·cases h
  ·rename_i h2
   rw [if_neg h2]
   have h4:4<=s.size:=by
    cases ho:nK s with
    | false=>exact absurd ho h2
    | true=>unfold nK at ho; exact (of_decide_eq_true ho).1
   split at h
   ·rename_i h3
    exact absurd h h3
   ·rename_i h3
    rw [if_neg h3]
    split at h
    ·rename_i h5
     exact absurd h h5
    ·rename_i h5
     rw [if_neg h5]
     exact ⟨(rL (Classical.not_not.1 h5)).1,by omega,h4,rfl⟩
theorem z8 {g:aU} (h:iQ g=true):(1<=g.aY/\g.aY<=4294967296)/\(1<=g.kind/\g.kind<=4)/\g.aZ.length<=64 /\ ∀ n∈g.aZ,0<=n/\n<=4611686018427387904:=by
 unfold iQ at h
 simp only [Bool.and_eq_true,decide_eq_true_eq,List.all_eq_true] at h
 exact ⟨h.1,h.2.1,h.2.2.1,λn hn=>of_decide_eq_true (h.2.2.2 n hn)⟩
theorem FM {i:aD} (h:VI i) (hp:0 < i.s.size):(bkS i).2.s.size < i.s.size:=by
 by_cases he:(bkS i).2.e=0
 ·obtain ⟨-,hw⟩:=ua h he
  have h1:=congrArg List.length hw
  rw [List.length_append,aV,aV] at h1
  have h2:(lx (bkS i).1).length≠0:=λc=>by
   have:=List.eq_nil_of_length_eq_zero c
   unfold lx at this
   exact yK _ (List.append_eq_nil_iff.1 this).1
  omega
 ·rcases (qI h).2 with h1 | h1
  ·exact absurd h1 he
  ·rw [h1]; exact hp
theorem y9: ∀ (k:Nat) (i:aD) (l:List aJ),(bkL k i l).1.length=l.length+k
 | 0,i,l=>rfl
 | k+1,i,l=>by
  unfold bkL
  rw [y9 k,List.length_append]
  show l.length+1+k=_
  omega
theorem Fe {i:aD} (h:VI i):(bkS i).1.length<=1024:=by
 have hr:=fU (m:=1024) h (by omega)
 unfold bkS
 split
 ·rw [y9]
  show 0+_<=_
  omega
 ·exact Nat.zero_le _
theorem z9 {a:Int}:1<=imax 1 (cW a 65536)/\imax 1 (cW a 65536)<=65536/\imax 1 (cW (imax 1 (cW a 65536)) 65536)=imax 1 (cW a 65536):=by
 unfold imax cW
 (repeat' split) <;> omega
theorem Cc:TK 4611686018427387904 ⟨⟨0,0,none,0⟩,iJ⟩:=by
 refine ⟨?_,?_⟩
 ·show (0:Int)<=0/\(0:Int)<=_; omega
 ·show (0:Int)<=0/\(0:Int)<=_; omega
theorem qgD {s:ByteArray} (h:s.size<=8192) (h4:4<=s.size):(qgR s).data.size<=s.size:=by
 have z0:SZ s.size (⟨jD s,0⟩:aD):=⟨⟨by show (jD s).size<=1000000; rw [kC h4]; omega,.inl rfl⟩,by show (jD s).size<=_; rw [kC h4]; omega⟩
 have z3:SZ s.size (qgC s).2:=kB (kB (kB z0))
 have z4:SZ s.size (qgI s):=by
  unfold qgI
  split
  ·exact ⟨l9,Nat.zero_le _⟩
  ·exact z3
 have z5:SZ s.size (qgN s).2:=xT _ [] z4
 exact (sG z5.1 z5.2).1
structure CG (g:aU):Prop where
 k:g.kind=2\/(g.kind=3/\0 < g.aZ.length/\g.aZ.length % 2=0)
 n:g.aZ.length<=16
 r: ∀ x∈g.aZ,0<=x/\x<=4611686018427387904
 d:g.data.size<=600
theorem CG.check {g:aU} (h:CG g) {e:Int} (e1:1<=e) (e2:e<=4294967296):gr ⟨e,g.kind,g.aZ,g.data⟩=0:=by
 have hn:=h.n
 have hd:=h.d
 have hr:iQ ⟨e,g.kind,g.aZ,g.data⟩=true:=by
  unfold iQ
  simp only [Bool.and_eq_true,decide_eq_true_eq,List.all_eq_true]
  have hk:=h.k
  exact ⟨⟨e1,e2⟩,by omega,by omega,λx hx=>decide_eq_true (h.r x hx)⟩
 have hs:(eO ⟨e,g.kind,g.aZ,g.data⟩).size<=8192:=by
  unfold eO
  rw [ou,bP]
  have:=sR (g:=⟨e,g.kind,g.aZ,g.data⟩) (by dsimp only; omega)
  dsimp only at this ⊢
  omega
 unfold gr
 rw [hr,if_neg (by simp),if_neg (by omega)]
def te (e:Int×CacheEntry):dP:=⟨e.1,e.2.l.map tg⟩
theorem sV {i:Int}: ∀ {m:CL},i ∉ m.map Prod.fst->m.filter (λe=>e.1 != i)=m:=by
 intro m h
 refine List.filter_eq_self.2 λe he=> ?_
 rw [bne_iff_ne]
 exact λh2=>h (List.mem_map.2 ⟨e,he,h2⟩)
theorem wH {i:Int} {x:CacheEntry}: ∀ {m:CL},(m.map Prod.fst).Nodup->(msl i x m).Perm (m.filter (λe=>e.1 != i)++[(i,x)])
 | [],_=>List.Perm.refl _
 | (j,y)::m,h=>by
  rw [List.map_cons,List.nodup_cons] at h
  unfold msl
  by_cases c:i=j
  ·subst c
   rw [if_pos rfl,List.filter_cons_of_neg (by simp),sV h.1]
   exact (List.perm_append_comm (l₁:=[(i,x)]) (l₂:=m))
  ·rw [if_neg c,List.filter_cons_of_pos (by simpa using λh=>c h.symm)]
   exact (wH h.2).cons _
theorem wI {r:Int}: ∀ {m:CL},(m.map Prod.fst).Nodup->mdl r m=m.filter (λe=>e.1 != r)
 | [],_=>rfl
 | (j,y)::m,h=>by
  rw [List.map_cons,List.nodup_cons] at h
  unfold mdl
  by_cases c:r=j
  ·subst c
   rw [if_pos rfl,List.filter_cons_of_neg (by simp),sV h.1]
  ·rw [if_neg c,List.filter_cons_of_pos (by simpa using λh=>c h.symm),wI h.2]
theorem x6 (c:cD) (e:dP) (hl:c.l.length<=1000000):hZ c e=some ⟨c.most,c.l.filter (λx=>x.i != e.i)++[e]⟩:=by
 unfold hZ
 have hf:=List.length_filter_le (λx:dP=>x.i != e.i) c.l
 refine dX (λn:Nat=>((n:Int),(c.l.take n).filter (λx=>x.i != e.i))) c.l.length (c.l.filter (λx=>x.i != e.i)) rfl (λn hn=> ?_) ?_ ?_
 ·dsimp only
  have h1:=List.length_filter_le (λx:dP=>x.i != e.i) (c.l.take n)
  rw [List.length_take] at h1
  rw [decide_eq_true (by omega),cond_true,bL _ n hn,aA,List.take_succ_eq_append_getElem hn,List.filter_append,w64 (by omega) (by omega)]
  cases hc:c.l[n].i != e.i with
  | true=>rw [cond_true,bW (by simp; omega),aA,aA,List.filter_cons_of_pos (p:=λx:dP=>x.i != e.i) hc]; rfl
  | false=>rw [cond_false,aA,List.filter_cons_of_neg (p:=λx:dP=>x.i != e.i) (by rw [hc]; decide),List.filter_nil,List.append_nil]; rfl
 ·dsimp only
  rw [decide_eq_false (by omega),cond_false,List.take_of_length_le (Nat.le_refl _)]
 ·rw [bW (by simp; omega),aA]
structure CX (k N:Int) (c:aQ) (x:cD):Prop where
 cs:CS k N c
 xm:x.most=k
 o: ∃ m M:CL,c.l=some m/\M.Perm m/\(M.map λe=>e.2.at_).Pairwise (· < ·)/\x.l=M.map te /\ ∀ e∈m,∀ g∈e.2.l,rok g.rune
theorem CX.more {k N M:Int} {c:aQ} {x:cD} (h:CX k N c x) (hm:N<=M):CX k M c x:=⟨h.cs.more hm,h.xm,h.o⟩
theorem CX.cm {k N:Int} {c:aQ} {x:cD} (h:CX k N c x): ∃ m M:CL,c.l=some m/\M.Perm m/\(M.map λe=>e.2.at_).Pairwise (· < ·)/\x.l=M.map te/\(∀ e∈m,∀ g∈e.2.l,rok g.rune)/\CM c.now m/\CM c.now M/\(m.length:Int)<=k/\M.length=m.length:=by
 obtain ⟨m,M,h1,h2,h3,h4,h5⟩:=h.o
 obtain ⟨m',e1,e2,e3⟩:=h.cs.l
 rw [h1] at e1
 injection e1 with e1
 subst e1
 exact ⟨m,M,h1,h2,h3,h4,h5,e2,⟨(h2.map _).nodup_iff.2 e2.nd,λe he=>e2.r e (h2.mem_iff.1 he),λe he=>e2.a e (h2.mem_iff.1 he),(h2.map _).nodup_iff.2 e2.da,λe he=>e2.g e (h2.mem_iff.1 he)⟩,e3,h2.length_eq⟩
theorem CX.len {k N:Int} {c:aQ} {x:cD} (h:CX k N c x):(x.l.length:Int)<=k:=by
 obtain ⟨m,M,h1,h2,h3,h4,h5,h6,h7,h8,h9⟩:=h.cm
 rw [h4,List.length_map,h9]
 exact h8
theorem Ff (most:Int): ∃ c,kd most=some c/\CX (imax 1 (cW most 65536)) 0 c ⟨imax 1 (cW most 65536),[]⟩:=by
 obtain ⟨c,h1,h2⟩:=DL most
 refine ⟨c,h1,h2,rfl,?_⟩
 unfold kd at h1
 injection h1 with h1
 subst h1
 exact ⟨[],[],rfl,List.Perm.refl _,.nil,rfl,λe he=>by cases he⟩
theorem Cd {k N:Int} (hk:0<=k) {c:aQ} {x:cD} (h:CX k N c x): ∃ c',fC c=some c'/\CX k N c' ⟨k,[]⟩:=by
 obtain ⟨c',h1,h2⟩:=z6 hk h.cs
 refine ⟨c',h1,h2,rfl,?_⟩
 obtain ⟨m,M,m1,_⟩:=h.cm
 unfold fC at h1
 injection h1 with h1
 subst h1
 exact ⟨[],[],by show CA c.l=_; rw [m1]; rfl,List.Perm.refl _,.nil,rfl,λe he=>by cases he⟩
theorem wJ {i:Int} {m M:CL} (h:M.Perm m) (hn:(m.map Prod.fst).Nodup):mgl i M=mgl i m:=by
 have hN:=(h.map Prod.fst).nodup_iff.2 hn
 cases e:mgl i M with
 | some x=>exact (kU hn (h.mem_iff.1 (kE e))).symm
 | none =>
  cases e2:mgl i m with
  | none=>rfl
  | some x=>rw [kU hN (h.mem_iff.2 (kE e2))] at e; cases e
theorem Aa {α β ρ:Type} (l:List (Int×α)) (g:α->β) (i:Int) (y:β->ρ) (n:ρ) {f:Int->Option (Int ⊕ ρ)} (h: ∀ j (hj:j < l.length),f (j:Int)=if l[j].1=i then some (.inr (y (g l[j].2))) else some (.inl ((j+1:Nat):Int))) (he:f (l.length:Int)=some (.inr n)):iter f 0=some (match mgl i l with | some x=>y (g x) | none=>n):=by
 have key: ∀ k j,j+k=l.length->iter f (j:Int)=some (match mgl i (l.drop j) with | some x=>y (g x) | none=>n):=by
  intro k
  induction k with
  | zero =>
   intro j hj
   obtain rfl:j=l.length:=by omega
   rw [bA he,List.drop_length]
   rfl
  | succ k ih =>
   intro j hj
   have hlt:j < l.length:=by omega
   have h1:=h j hlt
   rw [List.drop_eq_getElem_cons hlt]
   rw [show mgl i (l[j]::l.drop (j+1))=if i=l[j].1 then some l[j].2 else mgl i (l.drop (j+1)) from rfl]
   by_cases c:l[j].1=i
   ·rw [if_pos c] at h1
    rw [bA h1,if_pos c.symm]
   ·rw [if_neg c] at h1
    rw [bZ h1,ih (j+1) (by omega),if_neg λh=>c h.symm]
 exact key l.length 0 (by omega)
theorem wK {x:cD} {M:CL} (hx:x.l=M.map te) (hl:M.length<=1000000) (i:Int):jw x i=some (match mgl i M with | some e=>(e.l.map tg,true) | none=>([],false)):=by
 unfold jw
 rw [Aa M (λe=>(e.l.map tg,true)) i (λp=>(.inr p)) (.inl ()) (λj hj=> ?_) ?_,aA]
 ·cases mgl i M <;> rfl
 ·rw [hx,List.length_map,decide_eq_false (by omega)]
  rfl
 ·rw [hx,List.length_map,decide_eq_true (by omega),cond_true,bL _ j (by rw [List.length_map]; exact hj),aA,List.getElem_map,w64 (by omega) (by omega)]
  show (bif M[j].1 == i then _ else _)=_
  by_cases c:M[j].1=i
  ·rw [if_pos c,beq_iff_eq.2 c]
   rfl
  ·rw [if_neg c,beq_eq_false_iff_ne.2 c]
   rfl
theorem DM {M:CL} {i:Int}:(M.map te).filter (λx=>x.i != i)=(M.filter λe=>e.1 != i).map te:=by
 rw [List.filter_map]
 rfl
theorem DN {M:CL} {now i:Int} {y:CacheEntry} (h:(M.map λe=>e.2.at_).Pairwise (· < ·)) (ha: ∀ e∈M,e.2.at_<=now) (hy:y.at_=now+1):((M.filter (λe=>e.1 != i)++[(i,y)]).map λe=>e.2.at_).Pairwise (· < ·):=by
 rw [List.map_append]
 refine List.pairwise_append.2 ⟨h.sublist (List.filter_sublist.map _),List.pairwise_singleton _ _,λa hA b hB=> ?_⟩
 obtain ⟨e,he,rfl⟩:=List.mem_map.1 hA
 obtain rfl:=List.mem_singleton.1 hB
 have:=ha e (List.mem_filter.1 he).1
 dsimp only
 omega
theorem Ce {k N:Int} {c:aQ} {x:cD} {m M:CL} (m1:c.l=some m) (hp:M.Perm m) (hs:(M.map λe=>e.2.at_).Pairwise (· < ·)) (hm:CM c.now m) {i:Int} {l:List aJ}:(M.filter (λe=>e.1 != i)++[(i,(⟨l,c.now+1⟩:CacheEntry))]).Perm (msl i ⟨l,c.now+1⟩ m)/\((M.filter (λe=>e.1 != i)++[(i,(⟨l,c.now+1⟩:CacheEntry))]).map λe=>e.2.at_).Pairwise (· < ·) :=
 ⟨((hp.filter _).append_right _).trans (wH hm.nd).symm,DN hs (λe he=>hm.a e (hp.mem_iff.1 he)) rfl⟩
theorem Fg {k N:Int} {c:aQ} {x:cD} (h:CX k N c x) (hk:0<=k/\k<=100000) (hN:N<=1000000000) {i:Int} (hi:0<=i/\i < 1152921504606846976) {l:List aJ} (hl:l.length<=1000000) (hg: ∀ g∈l,rok g.rune): ∃ g b c' x',fO c i l=some (g,b,c')/\jg x i (l.map tg)=some (x',g,b)/\CX k (N+1) c' x':=by
 obtain ⟨m,M,m1,hp,hs,hx,hgs,m2,_,m3,hlen0⟩:=h.cm
 obtain ⟨n1,n2⟩:=h.cs.now
 obtain ⟨tp,ts⟩:=Ce (k:=k) (N:=N) (x:=x) m1 hp hs m2 (i:=i) (l:=l)
 have hset:=m2.set hi hl
 have hlen:=(y8 (i:=i) (x:=⟨l,c.now+1⟩) m).1
 have hset2: ∀ e∈msl i ⟨l,c.now+1⟩ m,∀ g∈e.2.l,rok g.rune:=λe he=>by
  rcases pZ m2.nd e he with rfl | ⟨h1,_⟩
  ·exact hg
  ·exact hgs e h1
 have ht:fD c i l=some ⟨c.most,c.now+1,some (msl i ⟨l,c.now+1⟩ m)⟩:=by
  unfold fD
  rw [w64 (by omega) (by omega),m1]
  rfl
 have hnew:hZ x ⟨i,l.map tg⟩=some ⟨x.most,(M.filter (λe=>e.1 != i)++[(i,(⟨l,c.now+1⟩:CacheEntry))]).map te⟩:=by
  rw [x6 _ _ (by rw [hx,List.length_map]; omega),hx]
  dsimp only
  rw [DM,List.map_append]
  rfl
 unfold fO jg
 rw [decide_eq_false (by omega),cond_false,decide_eq_false (by omega),aA,cond_false,aA,cond_false,o4 l hl,aA,ht,aA,hnew,aA]
 dsimp only
 generalize hA:msl i ⟨l,c.now+1⟩ m=A at hset hset2 hlen tp
 generalize hB:M.filter (λe=>e.1 != i)++[(i,(⟨l,c.now+1⟩:CacheEntry))]=B at tp ts
 have hAB:=tp.length_eq
 rw [List.length_map,h.xm]
 by_cases d:(((xw (some A):Nat):Int)<=c.most)
 ·have d2:(B.length:Int)<=k:=by rw [hAB,<- h.cs.most]; exact d
  rw [decide_eq_true d,cond_true,decide_eq_true d2,cond_true]
  exact ⟨_,_,_,_,rfl,rfl,⟨h.cs.most,⟨by dsimp only; omega,by dsimp only; omega⟩,A,rfl,hset,by rw [<- hAB]; exact d2⟩,rfl,A,B,rfl,tp,ts,rfl,hset2⟩
 ·have d2: ¬ ((B.length:Int)<=k):=by rw [hAB,<- h.cs.most]; exact d
  rw [decide_eq_false d,cond_false,decide_eq_false d2,cond_false,show gZ (some A)=some () from rfl,aA]
  have hc:dQ (some A)=some ():=by
   unfold dQ
   rw [show chk (some A:Mp CacheEntry).isSome=some () from rfl,aA]
   show Option.bind (chk (dF A.length 1 8)) _=_
   rw [bW (by omega)]
   rfl
  rw [hc,aA]
  cases hBB:B with
  | nil=>rw [hBB] at d2; simp at d2; omega
  | cons e0 B' =>
   obtain ⟨r,y⟩:=e0
   rw [hBB] at tp ts hAB d2
   have hBn:(((r,y)::B').map Prod.fst).Nodup:=(tp.map _).nodup_iff.2 hset.nd
   have hr:(r,y)∈A:=tp.mem_iff.1 List.mem_cons_self
   have hmin: ∀ e∈A,e.2.at_<=y.at_->e=(r,y):=λe he hle=>by
    rcases List.mem_cons.1 (tp.mem_iff.2 he) with h1 | h1
    ·exact h1
    ·have:=(List.pairwise_cons.1 (show (y.at_::B'.map λe=>e.2.at_).Pairwise (· < ·) from ts)).1 e.2.at_ (List.mem_map.2 ⟨e,h1,rfl⟩)
     omega
   generalize hC:(aQ.mk c.most (c.now+1) (some A))=C
   have hCl:C.l=some A:=by rw [<- hC]
   rw [uz (r:=(r,true,(aQ.mk C.most C.now (zp C.l r)))) λR hR=> ?_]
   ·have hcut:cut (((r,y)::B').map te) 1 (((r,y)::B').length:Int)=B'.map te:=by
     simp only [cut]
     rw [List.take_of_length_le (by simp)]
     rfl
    have hidx:idx (((r,y)::B').map te) 0=some (te (r,y)):=rfl
    rw [dI (by omega) (by simp; omega) (by simp),aA,hidx,aA,hcut]
    have hdl:mdl r A=A.filter λe=>e.1 != r:=wI hset.nd
    have hBf:((r,y)::B').filter (λe=>e.1 != r)=B':=by
     rw [List.filter_cons_of_neg (by simp)]
     exact sV (List.nodup_cons.1 hBn).1
    have hpm:B'.Perm (mdl r A):=by
     rw [hdl,<- hBf]
     exact tp.filter _
    refine ⟨_,_,_,_,rfl,rfl,⟨by rw [<- hC]; exact h.cs.most,by rw [<- hC]; exact ⟨by dsimp only; omega,by dsimp only; omega⟩,mdl r A,by show zp C.l r=_; rw [hCl]; rfl,by rw [<- hC]; exact hset.sub (u0 A).1,?_⟩,rfl,mdl r A,B',by show zp C.l r=_; rw [hCl]; rfl,hpm,(List.pairwise_cons.1 ts).2,rfl,λe he=>hset2 e ((u0 A).1.subset he)⟩
    rw [<- hpm.length_eq]
    have:((r,y)::B').length=B'.length+1:=rfl
    omega
   ·have hne:R≠[]:=λe=>by
     rw [e] at hR
     have:=hR.symm.eq_nil
     have h2:r∈A.map Prod.fst:=List.mem_map.2 ⟨_,hr,rfl⟩
     rw [show A.map Prod.fst=[] from this] at h2
     cases h2
    obtain ⟨q,q1,q2,q3⟩:=DK C R hne (by rw [hR.length_eq]; show (A.map Prod.fst).length<=_; rw [List.length_map]; omega)
    have hq:q∈A.map Prod.fst:=hR.mem_iff.1 q2
    obtain ⟨⟨b,z⟩,hb,rfl⟩:=List.mem_map.1 hq
    have e2:=q3 r (hR.mem_iff.2 (List.mem_map.2 ⟨_,hr,rfl⟩))
    dsimp only at e2 q1 ⊢
    rw [BZ hCl hset.nd hr,BZ hCl hset.nd hb] at e2
    have e3:=hmin _ hb e2
    injection e3 with e3 e4
    rw [q1,aA,e3,<- hC]
theorem DO {k N:Int} {c:aQ} {x:cD} (h:CX k N c x) (hk:k<=100000) (i:Int): ∃ l b,fG c i=some (l,b)/\jw x i=some (l.map tg,b)/\(∀ g∈l,rok g.rune)/\l.length<=1000000:=by
 obtain ⟨m,M,m1,hp,hs,hx,hgs,m2,_,m3,hlen0⟩:=h.cm
 rw [wK hx (by omega),wJ hp m2.nd]
 unfold fG mgd kL
 rw [m1,Option.getD_some]
 cases e:mgl i m with
 | none=>exact ⟨[],false,by rw [Option.getD_none,o4 _ (by decide)]; rfl,rfl,λg hg=>(by cases hg),by decide⟩
 | some y =>
  have:=m2.g _ (kE e)
  exact ⟨y.l,true,by rw [Option.getD_some,o4 _ this]; rfl,rfl,hgs _ (kE e),this⟩
theorem za {i j:Int} (h0:0<=i) (h1:i<=1152921504606846976) (h2:0<=j) (h3:j<=1152921504606846976):fX ⟨i,j⟩=⟨i,j⟩:=by
 unfold fX imax cW
 dsimp only
 congr 1 <;> split <;> split at * <;> omega
theorem Cg {k N:Int} {c:aQ} {x:cD} (h:CX k N c x) (hk:k<=100000): ∃ L r,dH c=some L/\jI x=some r/\rsp r=L/\NF (-1) L/\WS k L /\ ∀ n,inP L n↔kL c.l n=true:=by
 obtain ⟨m,M,m1,hp,hs,hx,hgs,m2,mM,m3,hlen0⟩:=h.cm
 obtain ⟨L,l1,l2⟩:=z7 h.cs hk
 have e1:=qN m1 (by omega) m2.nd m2.r
 rw [l1] at e1
 injection e1 with e1
 have h0: ∀ i∈m.map Prod.fst,0<=i:=λi hi=>by
  obtain ⟨e,he,rfl⟩:=List.mem_map.1 hi
  exact (m2.r e he).1
 obtain ⟨a1,a2,a3⟩:=nh (m.map Prod.fst) [] trivial m2.nd (λi hi=>⟨h0 i hi,iW⟩)
 have hpk:jQ [] (M.map Prod.fst)=L:=by rw [e1]; exact sS (hp.map _) m2.nd h0
 refine ⟨L,?_⟩
 have key: ∀ n,n<=M.length -> ∃ r:List aE,rsp r=jQ [] ((M.take n).map Prod.fst)/\r.length<=n /\ ∀ j,n+j=M.length->iter (σ:=Int×(List aE)) (ρ:=(List aE)) (λa=>(bif (decide (a.1 < (x.l.length:Int))) then (Option.bind (idx x.l a.1) λb=>(Option.bind (il a.2 (aE.mk b.i (IntKind.i64.wrap (b.i+1)))) λd=>some (.inl ((IntKind.i64.wrap (a.1+1)),d)))) else some (.inr a.2))) (0,([]:List aE))=iter (σ:=Int×(List aE)) (ρ:=(List aE)) (λa=>(bif (decide (a.1 < (x.l.length:Int))) then (Option.bind (idx x.l a.1) λb=>(Option.bind (il a.2 (aE.mk b.i (IntKind.i64.wrap (b.i+1)))) λd=>some (.inl ((IntKind.i64.wrap (a.1+1)),d)))) else some (.inr a.2))) ((n:Int),r):=by
  intro n
  induction n with
  | zero=>intro _; exact ⟨[],rfl,Nat.le_refl _,λj _=>rfl⟩
  | succ n ih =>
   intro hn
   obtain ⟨r,r1,r2,r3⟩:=ih (by omega)
   have hr:=mM.r _ (List.getElem_mem (show n < M.length by omega))
   have hnd:((M.take n).map Prod.fst).Nodup:=mM.nd.sublist ((List.take_sublist n M).map _)
   obtain ⟨b1,b2,b3⟩:=nh ((M.take n).map Prod.fst) [] trivial hnd (λi hi=>by
    obtain ⟨e,he,rfl⟩:=List.mem_map.1 hi
    exact ⟨(mM.r e (List.mem_of_mem_take he)).1,iW⟩)
   obtain ⟨r',q1,q2⟩:=Dr (l:=r) (lo:= -1) (by rw [r1]; exact b1) (by omega) ⟨M[n].1,M[n].1+1⟩
   have hfit:fX (sp ⟨M[n].1,M[n].1+1⟩)=⟨M[n].1,M[n].1+1⟩:=show fX (⟨M[n].1,M[n].1+1⟩:aB)=_ from za hr.1 (by omega) (by omega) (by omega)
   rw [hfit,if_neg (by dsimp only; omega),r1] at q2
   have q3:rsp r'=jQ [] ((M.take (n+1)).map Prod.fst):=by
    rw [q2,List.take_succ_eq_append_getElem (by omega),List.map_append]
    show _=List.foldl _ _ _
    rw [List.foldl_append]
    rfl
   refine ⟨r',q3,?_,λj hj=> ?_⟩
   ·have:=congrArg List.length q3
    have h2:=qM ((M.take (n+1)).map Prod.fst) []
    simp only [rsp,List.length_map,List.length_nil,List.length_take] at this h2
    omega
   ·rw [r3 (j+1) (by omega)]
    refine bZ ?_
    dsimp only
    rw [hx,List.length_map,decide_eq_true (by omega),cond_true,bL _ n (by rw [List.length_map]; omega),aA,List.getElem_map]
    show Option.bind (il r (aE.mk M[n].1 (IntKind.i64.wrap (M[n].1+1)))) _=_
    rw [w64 (x:=M[n].1+1) (by omega) (by omega),q1,aA,w64 (by omega) (by omega)]
    rfl
 obtain ⟨r,r1,r2,r3⟩:=key M.length (Nat.le_refl _)
 rw [List.take_of_length_le (Nat.le_refl _),hpk] at r1
 refine ⟨r,l1,?_,r1,by rw [e1]; exact a1,l2,λn=> ?_⟩
 ·unfold jI
  rw [r3 0 (by omega),bA (r:=r) (by dsimp only; rw [hx,List.length_map,decide_eq_false (by omega)]; rfl)]
  rfl
 ·rw [e1,a2]
  unfold kL
  rw [m1,Option.getD_some]
  constructor
  ·rintro (h1 | h1)
   ·exact absurd h1 iW
   ·obtain ⟨⟨i,y⟩,he,rfl⟩:=List.mem_map.1 h1
    rw [kU m2.nd he]
    rfl
  ·intro h1
   obtain ⟨y,hy⟩:=Option.isSome_iff_exists.1 h1
   exact .inr (List.mem_map.2 ⟨_,kE hy,rfl⟩)
def c23:aI:=⟨⟨5,3,7⟩,0,0,⟨⟨0,0,none,0⟩,iJ⟩,⟨5,0,some []⟩,⟨5,3,0,⟨[]⟩⟩⟩
theorem FN:iA ⟨5,3,7⟩=some c23:=rfl
theorem FP (len:Int):gB ⟨5,3,0,⟨[]⟩⟩ 0 len=some ([],⟨5,3,0,⟨[]⟩⟩):=by
 unfold gB
 rw [BN [] _ (by simp),aA]
 rfl
theorem FQ:eQ ⟨⟨0,0,none,0⟩,iJ⟩=some ⟨1,2,[0,0],noS⟩:=by
 rw [Fa (x:=⟨fB iJ,⟨0,[],[]⟩⟩) (l:=[]) uZ]
 rfl
theorem DP (e k:Int) (he:1<=e/\e<=10) (hk:k=2\/k=4):gr ⟨e,k,[0,0],noS⟩=0:=by
 have:=CG.check (g:=⟨0,2,[0,0],noS⟩) ⟨.inl rfl,by decide,λx hx=>by simp at hx; omega,Nat.zero_le _⟩ (e:=e) (by omega) (by omega)
 rcases hk with rfl | rfl
 ·exact this
 ·exact GB.check (g:=⟨0,4,[0,0],noS⟩) ⟨.inr rfl,by decide,λx hx=>by simp at hx; omega,Nat.zero_le _⟩ (by omega) (by omega)
def Ci:aI:=⟨⟨5,3,7⟩,0,3,⟨⟨0,0,none,0⟩,iJ⟩,⟨5,0,some []⟩,⟨5,3,0,⟨[]⟩⟩⟩
theorem Fh:fL c23 0=some ([eO ⟨1,2,[0,0],noS⟩],Ci):=by
 have hp:eJ ⟨1,2,[0,0],noS⟩=some (eO ⟨1,2,[0,0],noS⟩):=by
  rw [wj (by decide) (by decide)]
  unfold yR
  rw [if_pos (DP 1 2 (by decide) (.inl rfl))]
 unfold fL
 rw [show decide ((0:Int)>=c23.due)=true from rfl,cond_true,show bG.mk c23.aP.slot c23.aP.aO=⟨⟨0,0,none,0⟩,iJ⟩ from rfl,FQ,aA,bW (by simp),aA,aA,show dE ⟨⟨0,0,none,0⟩,iJ⟩=some iJ by unfold dE; rw [oq _ pH]; rfl,aA,show c23.bS=⟨5,3,0,⟨[]⟩⟩ from rfl,FP,aA,bA (r:=[]) rfl,aA]
 dsimp only
 rw [show decide ((([]:List Int).length:Int) > 0)=false from rfl,cond_false,aA,bZ (s':=(1,[eO ⟨1,2,[0,0],noS⟩])),bA (r:=[eO ⟨1,2,[0,0],noS⟩]) rfl,aA]
 ·rfl
 ·show Option.bind (eJ ⟨1,2,[0,0],noS⟩) _=_
  rw [hp,aA]
  rfl
def qS:aI:=⟨⟨5,3,7⟩,3,3,⟨⟨0,0,none,0⟩,iJ⟩,⟨5,0,some []⟩,⟨5,3,0,⟨[]⟩⟩⟩
theorem Fi:iv ⟨3,4,[0,0],noS⟩=some (0,[],0):=by
 unfold iv
 rw [show ((aU.mk 3 4 [0,0] noS).kind != 4)=false from rfl,cond_false,show (((aU.mk 3 4 [0,0] noS).aZ.length:Int) != 2)=false from rfl,cond_false,show kl (aU.mk 3 4 [0,0] noS).data=some ⟨noS,0⟩ from rfl,aA,bA (r:=([],⟨noS,0⟩)) rfl,aA,uH,aA]
 rfl
theorem Fj:dN Ci 0 (eO ⟨3,4,[0,0],noS⟩)=some (0,qS):=by
 have hc:=DP 3 4 (by decide) (.inr rfl)
 unfold dN
 rw [qK (by have:=(rL hc).2; omega),ri hc,aA]
 dsimp only
 rw [show ((0:Int) != 0)=false from rfl,cond_false,show ((4:Int) != 1)=true from rfl,cond_true,show ((4:Int) != 4)=false from rfl,aA,cond_false,show decide ((3:Int) < Ci.aY)=false from rfl,cond_false,show decide ((3:Int) > Ci.aY)=true from rfl,cond_true,show dY Ci 3=some qS from rfl,aA,aA]
 dsimp only
 rw [show ((4:Int) == 4)=true from rfl,cond_true]
 unfold fm
 rw [Fi,aA,bA (r:=(qS.lines,qS.bS)) rfl,aA,aA]
theorem Fk: ∃ c,fM qS 0 9=some (5,c):=by
 unfold fM
 rw [show eG 0 0 1152921504606846976=some 0 from rfl,aA,show eG 9 0 1152921504606846976=some 9 from rfl,aA,show dH qS.lines=some (jQ [] (([]:CL).map Prod.fst)) from qN (m:=[]) rfl (by decide) List.nodup_nil (λe h=>by cases h),aA,uS [] _ (by decide) (λx h=>by cases h),aA,BN _ _ (by decide),aA,bA (r:=qS.lines) rfl,aA]
 unfold iw
 have hw:WS 5 (mE [] [⟨0,5⟩]):=⟨λy hy=>by rw [List.mem_singleton.1 (show y∈[_] from hy)]; decide,by decide⟩
 rw [show gA (aB.mk 0 (cW 9 (IntKind.i64.wrap (0+qS.config.cache)))).from_ 0 1152921504606846976=some 0 from rfl,aA,show gA (aB.mk 0 (cW 9 (IntKind.i64.wrap (0+qS.config.cache)))).to 0 1152921504606846976=some 5 from rfl,aA,show dS qS.bS=some ⟨5,3,0,⟨[]⟩⟩ from rfl,aA]
 dsimp only
 rw [show (aB.mk 0 (cW 5 (IntKind.i64.wrap (0+qS.bS.most))))=⟨0,5⟩ from rfl,uS [] [⟨0,5⟩] (by decide) (λx h=>by rw [List.mem_singleton.1 h]; unfold spB; decide),aA,uV (by decide) _ _ hw (by decide) (λx h=>by cases h),aA,show oL (mE [] [⟨0,5⟩]) (List.map fX (jQ [] (([]:CL).map Prod.fst)))=mE [] [⟨0,5⟩] from rfl,Dh hw (by decide),aA,aA]
 exact ⟨_,rfl⟩
theorem x7:jO=some true:=by
 have hc:=DP 1 2 (by decide) (.inl rfl)
 have hc2:=DP 3 4 (by decide) (.inr rfl)
 have hp:eJ ⟨3,4,[0,0],ByteArray.mk #[]⟩=some (eO ⟨3,4,[0,0],noS⟩):=by
  rw [wj (by decide) (by decide)]
  unfold yR
  exact congrArg some (if_pos hc2)
 obtain ⟨c,hw⟩:=Fk
 unfold jO
 rw [FN,aA,Fh,aA]
 dsimp only
 rw [show ((([eO ⟨1,2,[0,0],noS⟩]:List ByteArray).length:Int) != 1)=false from rfl,cond_false,show idx [eO ⟨1,2,[0,0],noS⟩] 0=some (eO ⟨1,2,[0,0],noS⟩) from rfl,aA,qK (by have:=(rL hc).2; omega),ri hc,aA,hp,aA,Fj,aA]
 dsimp only
 rw [show ((0:Int) == 0)=true from rfl,cond_true,show ((2:Int) == 2)=true from rfl,cond_true,show ((1:Int) == 1)=true from rfl,cond_true,cond_true,show cI qS=some 3 from rfl,aA,show ((3:Int) == 3)=true from rfl,cond_true,show fp qS=some 7 from rfl,aA,show ((7:Int) == 7)=true from rfl,cond_true,hw,aA,aA]
 rfl
theorem DQ {α ρ:Type} (l:List α) (p:α->Bool) (y:Nat->ρ) (n:ρ) {f:Int->Option (Int ⊕ ρ)} (h: ∀ i (hi:i < l.length),f (i:Int)=if p l[i]=true then some (.inr (y i)) else some (.inl ((i+1:Nat):Int))) (he:f (l.length:Int)=some (.inr n)):(l.any p=true /\ ∃ j,iter f 0=some (y j))\/(l.any p=false/\iter f 0=some n):=by
 have key: ∀ k i,i+k=l.length->((l.drop i).any p=true /\ ∃ j,iter f (i:Int)=some (y j))\/((l.drop i).any p=false/\iter f (i:Int)=some n):=by
  intro k
  induction k with
  | zero =>
   intro i hi
   obtain rfl:i=l.length:=by omega
   exact .inr ⟨by rw [List.drop_length]; rfl,bA he⟩
  | succ k ih =>
   intro i hi
   have hlt:i < l.length:=by omega
   have h1:=h i hlt
   rw [List.drop_eq_getElem_cons hlt,List.any_cons]
   by_cases c:p l[i]=true
   ·rw [if_pos c] at h1
    exact .inl ⟨by rw [c,Bool.true_or],i,bA h1⟩
   ·rw [if_neg c] at h1
    rw [bZ h1,Bool.eq_false_iff.2 c,Bool.false_or]
    exact ih (i+1) (by omega)
 exact key l.length 0 (by omega)
theorem DR (l:List aE) (i:Int):hsR l i=(rsp l).any λx=>decide (i>=x.from_) && decide (i < x.to):=by
 unfold hsR rsp
 rw [List.any_map]
 rfl
theorem DS (s:List aB) (i:Int) (hs:s.length<=1000000):fW ⟨s⟩ i=some (s.any λx=>decide (i>=x.from_) && decide (i < x.to)):=by
 have key: ∃ j:Int,bT s i=some j/\decide (j>=0)=(s.any λx=>decide (i>=x.from_) && decide (i < x.to)):=by
  unfold bT
  have h1: ∀ x:aB,cR x i=some (decide (i>=x.from_) && decide (i < x.to)):=λx=>by
   unfold cR
   cases decide (i>=x.from_) <;> cases decide (i < x.to) <;> rfl
  have hh:=DQ (ρ:=Unit ⊕ Int) (f:=λs52:Int=>((bif (decide (s52 < (s.length:Int))) then (Option.bind (idx s s52) λa=>(Option.bind (cR a i) λb=>(bif b then (eV (some s52)) else some (.inl (IntKind.i64.wrap (s52+1)))))) else some (.inr (.inl ()))):Option (Int ⊕ (Unit ⊕ Int)))) s (λx=>decide (i>=x.from_) && decide (i < x.to)) (λj=> .inr (j:Int)) (.inl ()) (λj hj=>by
   rw [decide_eq_true (by omega),cond_true,bL s j hj,aA,h1,aA,w64 (by omega) (by omega)]
   cases (decide (i>=s[j].from_) && decide (i < s[j].to)) <;> rfl) (by
   rw [decide_eq_false (by omega)]
   rfl)
  rcases hh with ⟨e1,j,e2⟩ | ⟨e1,e2⟩
  ·refine ⟨(j:Int),(congrArg (λz=>Option.bind z _) e2).trans rfl,?_⟩
   rw [e1]
   exact decide_eq_true (by omega)
  ·exact ⟨-1,(congrArg (λz=>Option.bind z _) e2).trans rfl,by rw [e1]; rfl⟩
 obtain ⟨j,h1,h2⟩:=key
 unfold fW cJ
 dsimp only
 rw [h1,aA,<- h2]
 rfl
structure FX (k:Int) (f:bH) (y:eC):Prop where
 fs:FS k f
 m:y.most=k
 e:y.every=f.every
 d:y.due=f.due
 r:rsp y.l=f.want.l
 n:NF (-1) f.want.l
theorem FX.len {k:Int} {f:bH} {y:eC} (h:FX k f y):y.l.length=f.want.l.length/\(y.l.length:Int)<=k:=by
 have h1:=congrArg List.length h.r
 have h2:=h.fs.w.cnt
 simp only [rsp,List.length_map] at h1
 exact ⟨h1,by omega⟩
theorem Fl (most every:Int): ∃ f,ke most every=some f/\my most every=some ⟨imax 1 (cW most 65536),imax 1 (cW every 1048576),0,[]⟩/\FX (imax 1 (cW most 65536)) f ⟨imax 1 (cW most 65536),imax 1 (cW every 1048576),0,[]⟩:=by
 obtain ⟨f,h1,h2⟩:=Dv (most:=most) (every:=every)
 refine ⟨f,h1,rfl,?_⟩
 have e:ke most every=some ⟨imax 1 (cW most 65536),imax 1 (cW every 1048576),0,⟨[]⟩⟩:=rfl
 rw [h1] at e
 injection e with e
 subst e
 exact ⟨h2,rfl,rfl,rfl,rfl,trivial⟩
theorem Cj {k:Int} (hk:0<=k) {f:bH} {y:eC} (h:FX k f y): ∃ f',dS f=some f'/\FX k f' ⟨k,y.every,0,[]⟩:=by
 obtain ⟨f',h1,h2⟩:=zZ hk h.fs
 refine ⟨f',h1,?_⟩
 unfold dS at h1
 injection h1 with h1
 subst h1
 exact ⟨h2,rfl,h.e,rfl,rfl,trivial⟩
theorem Fm {k:Int} (hk:k<=100000) {f:bH} {y:eC} (h:FX k f y) {i:Int} (h0:0<=i) (h1:i<=4611686018427487904): ∃ b f' y',eP f i=some (b,f')/\jh y i=some (y',b)/\FX k f' y'/\(b=true->0<=i/\i < 1152921504606846976)/\(b=false->y'=y)/\y'.every=y.every:=by
 obtain ⟨b,f',e1,e2,e3⟩:=Dw hk h.fs h0 h1
 have hc:=h.fs.w.cnt
 obtain ⟨hl,_⟩:=h.len
 have hb:b=hsR y.l i/\f'=⟨f.most,f.every,f.due,⟨nL f.want.l (fX ⟨i,i+if i < 1152921504606846976 then 1 else 0⟩)⟩⟩:=by
  unfold eP at e1
  have q1:lb (decide (i < 1152921504606846976))=some (if i < 1152921504606846976 then 1 else 0):=by
   by_cases c:i < 1152921504606846976
   ·rw [decide_eq_true c,if_pos c]; rfl
   ·rw [decide_eq_false c,if_neg c]; rfl
  rw [show f.want=⟨f.want.l⟩ from rfl,DS _ _ (by omega),aA,q1,aA,w64 (by split <;> omega) (by split <;> omega),uV hk f.want.l _ h.fs.w (by simp) (λx hx=>by rw [List.mem_singleton.1 hx]; dsimp only; split <;> omega),aA] at e1
  injection e1 with e1
  injection e1 with e4 e5
  exact ⟨by rw [DR,h.r]; exact e4.symm,e5.symm⟩
 obtain ⟨hb1,hb2⟩:=hb
 unfold jh
 rw [uW y.l i (by omega),aA,<- hb1]
 cases b with
 | false =>
  rw [Bool.not_false,cond_true]
  refine ⟨false,f',y,e1,rfl,⟨e2,h.m,?_,?_,?_,?_⟩,λh=>(by cases h),λ_=>rfl,rfl⟩
  ·rw [hb2]; exact h.e
  ·rw [hb2]; exact h.d
  all_goals
   have hsame:nL f.want.l (fX ⟨i,i+if i < 1152921504606846976 then 1 else 0⟩)=f.want.l:=by
    obtain ⟨a1,a2⟩:=sU h.n (fX ⟨i,i+if i < 1152921504606846976 then 1 else 0⟩)
    refine uT a1 h.n λn=>(a2 n).trans ⟨λh=>h.1,λhn=>⟨hn,λhq=> ?_⟩⟩
    by_cases c:i < 1152921504606846976
    ·rw [if_pos c,za h0 (by omega) (by omega) (by omega)] at hq
     dsimp only at hq
     obtain rfl:n=i:=by omega
     rw [<- h.r,<- rO,<- hb1] at hn
     cases hn
    ·rw [if_neg c,Int.add_zero] at hq
     have:(fX ⟨i,i⟩).from_=(fX ⟨i,i⟩).to:=rfl
     omega
   rw [hb2]
  ·exact h.r.trans hsame.symm
  ·rw [hsame]; exact h.n
 | true =>
  obtain ⟨g1,g2⟩:=e3 rfl
  rw [Bool.not_true,cond_false,w64 (by omega) (by omega)]
  obtain ⟨r,r1,r2⟩:=Du (l:=y.l) (lo:= -1) (by rw [h.r]; exact h.n) (by omega) ⟨i,i+1⟩
  rw [r1,aA]
  rw [if_pos g2] at hb2
  have hn:=(sU h.n (fX ⟨i,i+1⟩)).1
  refine ⟨true,f',_,e1,rfl,⟨e2,h.m,by rw [hb2]; exact h.e,by rw [hb2]; exact h.d,?_,by rw [hb2]; exact hn⟩,λ_=>⟨g1,g2⟩,λh=>(by cases h),rfl⟩
  rw [hb2]
  dsimp only
  rw [r2,h.r]
  rfl
theorem wL {σ τ ρ π:Type} {f:σ->Option (σ ⊕ ρ)} {g:τ->Option (τ ⊕ π)} (R:σ->τ->Prop) (m:σ->Nat) (mO:ρ->π->Prop)
  (h: ∀ s t,R s t->(∃ s' t',f s=some (.inl s')/\g t=some (.inl t')/\R s' t'/\m s' < m s)\/(∃ r p,f s=some (.inr r)/\g t=some (.inr p)/\mO r p)): ∀ s t,R s t -> ∃ r p,iter f s=some r/\iter g t=some p/\mO r p:=by
 have key: ∀ k s t,m s<=k->R s t -> ∃ r p,iter f s=some r/\iter g t=some p/\mO r p:=by
  intro k
  induction k with
  | zero =>
   intro s t hk hR
   rcases h s t hR with ⟨s',t',_,_,_,h4⟩ | ⟨r,p,h1,h2,h3⟩
   ·omega
   ·exact ⟨r,p,bA h1,bA h2,h3⟩
  | succ k ih =>
   intro s t hk hR
   rcases h s t hR with ⟨s',t',h1,h2,h3,h4⟩ | ⟨r,p,h1,h2,h3⟩
   ·rw [bZ h1,bZ h2]
    exact ih s' t' (by omega) h3
   ·exact ⟨r,p,bA h1,bA h2,h3⟩
 exact λs t=>key (m s) s t (Nat.le_refl _)
theorem Fo (s:ByteArray):(!(s.toList == (ByteArray.mk #[]).toList))=decide ((s.size:Int) > 0):=by
 rw [DA]
 by_cases c:s=noS
 ·rw [decide_eq_true c,c]; rfl
 ·rw [decide_eq_false c,decide_eq_true]
  ·rfl
  ·refine Int.natCast_pos.2 (Nat.pos_of_ne_zero λh=>c ?_)
   have h2:s.data.size=0:=h
   obtain ⟨d⟩:=s
   exact congrArg ByteArray.mk (Array.eq_empty_of_size_eq_zero h2)
theorem Ab (g:aU) (y:cL) (y1:y.kind=g.kind) (y2:y.aZ=g.aZ) (y3:y.data=g.data) (hd:g.data.size<=10000) (hn: ∀ n∈g.aZ,0<=n/\n<=4611686018427387904): ∃ first l e,iv g=some (first,l,e)/\jy y=some (first,l.map λx=>x.map tg,e)/\(0<=first/\first<=4611686018427387904)/\l.length<=10000/\(∀ x∈l,x.length<=1024 /\ ∀ g∈x,rok g.rune)/\e≠4:=by
 unfold iv jy
 rw [y1,y2,y3]
 by_cases k1:g.kind=4
 ·rw [show (g.kind != 4)=false by simp [k1],cond_false,cond_false]
  by_cases k2:g.aZ.length=2
  ·rw [show ((g.aZ.length:Int) != 2)=false by rw [k2]; rfl,cond_false,cond_false,show kl g.data=some ⟨g.data,0⟩ from rfl,aA]
   have i0:idx g.aZ 0=some g.aZ[0]:=bL g.aZ 0 (by omega)
   have i1:idx g.aZ 1=some g.aZ[1]:=bL g.aZ 1 (by omega)
   have r0:=hn _ (List.getElem_mem (show 0 < g.aZ.length by omega))
   have hit:=wL (σ:=aD×List (List aJ)) (τ:=aR×List (List aN)) (f:=λs136:aD×List (List aJ)=>((Option.bind ((Option.bind (jG s136.1) λj=>(bif (decide (j > 0)) then (Option.bind (idx g.aZ 1) λo=>some (decide ((s136.2.length:Int) < o))) else some false)):Option Bool) λu=>(bif u then (Option.bind (ik s136.1) λa=>(Option.bind (chk (dF s136.2.length [a.1].length 24)) λ_=>some (.inl (a.2,(s136.2++[a.1]))))) else some (.inr (s136.2,s136.1)))):Option ((aD×List (List aJ)) ⊕ ((List (List aJ))×aD))))
    (g:=λs120:aR×List (List aN)=>((Option.bind ((bif (!(s120.1.s.toList == (ByteArray.mk #[]).toList)) then (Option.bind (idx g.aZ 1) λv=>some (decide ((s120.2.length:Int) < v))) else some false):Option Bool) λw=>(bif w then (Option.bind (gE s120.1) λb=>(Option.bind (chk (dF s120.2.length [b.2].length 24)) λ_=>some (.inl (b.1,(s120.2++[b.2]))))) else some (.inr (s120.2,s120.1)))):Option ((aR×List (List aN)) ⊕ ((List (List aN))×aR))))
    (λs t=>t=(asR s.1,s.2.map λx=>x.map tg)/\VI s.1/\s.2.length+s.1.s.size<=10000/\(∀ x∈s.2,x.length<=1024 /\ ∀ g∈x,rok g.rune)/\s.1.e≠4) (λs=>s.1.s.size)
    (λr p=>p=(r.1.map λx=>x.map tg,asR r.2)/\VI r.2/\r.1.length<=10000/\(∀ x∈r.1,x.length<=1024 /\ ∀ g∈x,rok g.rune)/\r.2.e≠4) (by
    rintro ⟨i,l⟩ t ⟨rfl,h1,h2,h3,h4⟩
    dsimp only at h1 h2 h3 h4 ⊢
    rw [show jG i=some (i.s.size:Int) from rfl,aA,i1,aA,aA,List.length_map,Fo]
    simp only [show (asR i).s=i.s from rfl]
    by_cases c:(i.s.size:Int) > 0/\(l.length:Int) < g.aZ[1]
    ·left
     have hlt:=FM h1 (by omega)
     rw [decide_eq_true c.1,cond_true,decide_eq_true c.2,aA,cond_true,aA,cond_true,vY i h1,aA,bW (by simp; omega),aA,tY i h1,aA,bW (by simp; omega),aA]
     refine ⟨_,_,rfl,rfl,⟨by rw [List.map_append]; rfl,qI h1,by simp; omega,λx hx=> ?_,D6 h4⟩,hlt⟩
     rcases List.mem_append.1 hx with hx | hx
     ·exact h3 x hx
     ·rw [List.mem_singleton.1 hx]; exact ⟨Fe h1,(Ba h1).1⟩
    ·right
     have:((bif (decide ((i.s.size:Int) > 0)) then some (decide ((l.length:Int) < g.aZ[1])) else some false):Option Bool)=some false:=by
      by_cases d:(i.s.size:Int) > 0
      ·rw [decide_eq_true d,cond_true,decide_eq_false (λe=>c ⟨d,e⟩)]
      ·rw [decide_eq_false d,cond_false]
     rw [this,aA,cond_false,aA,cond_false]
     exact ⟨_,_,rfl,rfl,rfl,h1,by dsimp only; omega,h3,h4⟩) (⟨g.data,0⟩,[]) (⟨g.data,0⟩,[]) ⟨rfl,⟨by dsimp only; omega,.inl rfl⟩,by dsimp only; simp; omega,(λx hx=>by cases hx),(by decide:(0:Int)≠4)⟩
   obtain ⟨⟨l,i⟩,p,e1,e2,rfl,e3,e4,e5,e6⟩:=hit
   refine Exists.imp (λfirst=>Exists.imp λl'=>Exists.imp λe' (h:_/\_/\_)=>⟨(congrArg (λz=>Option.bind z _) e1).trans h.1,(congrArg (λz=>Option.bind z _) e2).trans h.2.1,h.2.2⟩) (?_: ∃ first l' e',_/\_/\_)
   rw [aA,aA]
   dsimp only at e3 e4 e5 e6 ⊢
   replace e6:=B7 e6
   rw [uH,aA,yJ i e3,aA]
   generalize jk i=E at e6 ⊢
   rw [i1,aA,aA,i0,aA,aA,List.length_map]
   by_cases d:E=0
   ·subst d
    rw [show ((0:Int) == 0)=true from rfl,cond_true,aA,show ((0:Int) != 0)=false from rfl,cond_false]
    cases ((l.length:Int) != g.aZ[1]) with
    | true=>exact ⟨0,[],1,rfl,rfl,by decide,Nat.zero_le _,(λx hx=>by cases hx),by decide⟩
    | false=>exact ⟨_,_,_,rfl,rfl,r0,e4,e5,by decide⟩
   ·rw [show (E == 0)=false by simpa using d,cond_false,aA,cond_false,aA,show (E != 0)=true by simpa using d,cond_true,cond_true]
    exact ⟨0,[],E,rfl,rfl,by decide,Nat.zero_le _,(λx hx=>by cases hx),e6⟩
  ·rw [show ((g.aZ.length:Int) != 2)=true by simp; omega,cond_true,cond_true]
   exact ⟨0,[],1,rfl,rfl,by decide,Nat.zero_le _,(λx hx=>by cases hx),by decide⟩
 ·rw [show (g.kind != 4)=true by simpa using k1,cond_true,cond_true]
  exact ⟨0,[],5,rfl,rfl,by decide,Nat.zero_le _,(λx hx=>by cases hx),by decide⟩
structure KX (k N:Int) (q:Nat) (c:aI) (x:aW):Prop where
 cc:c.config.cache=k
 ep:0<=c.aY/\c.aY<=4294967296
 tk:TK 4611686018427387904 c.aP
 ln:CX k N c.lines x.l
 ft:FX k c.bS x.f
 tp:TP c.aP x.t q
 m:x.most=k
 ev:x.every=c.config.every
 fe:x.f.every=x.every
 ad:x.addr=c.config.addr
 e:x.aY=c.aY
 d:x.due=c.due
theorem KX.more {k N M:Int} {q r:Nat} {c:aI} {x:aW} (h:KX k N q c x) (hm:N<=M) (hr:q<=r):KX k M r c x:=⟨h.cc,h.ep,h.tk,h.ln.more hm,h.ft,h.tp.more hr,h.m,h.ev,h.fe,h.ad,h.e,h.d⟩
theorem Fp (a b d:Int): ∃ c x,iA ⟨a,b,d⟩=some c/\ll ⟨a,b,d⟩=some x/\KX (imax 1 (cW a 65536)) 0 0 c x:=by
 have hk:=z9 (a:=a)
 have hb:imax 1 (cW (imax 1 (cW b 1048576)) 1048576)=imax 1 (cW b 1048576):=by
  unfold imax cW
  (repeat' split) <;> omega
 obtain ⟨l,l1,l2⟩:=Ff (imax 1 (cW a 65536))
 obtain ⟨f,f1,f2,f3⟩:=Fl (imax 1 (cW a 65536)) (imax 1 (cW b 1048576))
 rw [hk.2.2] at l2 f3
 rw [hb] at f3
 unfold iA ll
 rw [show eG a 1 65536=some (imax 1 (cW a 65536)) from rfl,aA,show eG b 1 1048576=some (imax 1 (cW b 1048576)) from rfl,aA,show eG d 0 4294967296=some (imax 0 (cW d 4294967296)) from rfl,aA,show lf=some ⟨⟨0,0,none,0⟩,iJ⟩ from rfl,aA,l1,aA,f1,aA]
 refine ⟨_,_,rfl,rfl,rfl,⟨Int.le_refl _,?_⟩,Cc,l2,f3,B9,rfl,rfl,rfl,rfl,rfl,rfl⟩
 show (0:Int)<=_
 omega
theorem DT {k N:Int} {q:Nat} {c:aI} {x:aW} (h:KX k N q c x) (hk:0<=k) {e:Int} (he:0<=e/\e<=4294967296): ∃ c',dY c e=some c'/\KX k N q c' (aW.mk x.most x.every x.addr e x.due (dZ.mk (bD.mk 0 0 0 0 0 (ByteArray.mk #[]) ([]:List bC) 0 0 ([]:List aN)) (cK.mk 0 ([]:List Bool) ([]:List ByteArray))) (cD.mk x.most ([]:List dP)) (eC.mk x.most x.every 0 ([]:List aE))):=by
 obtain ⟨l,l1,l2⟩:=Cd hk h.ln
 obtain ⟨f,f1,f2⟩:=Cj hk h.ft
 unfold dY
 rw [show gU c.aP=some ⟨⟨0,0,none,0⟩,iJ⟩ from rfl,aA,l1,aA,f1,aA,h.m]
 rw [h.fe] at f2
 exact ⟨_,rfl,h.cc,he,Cc,l2,f2,B9.more (Nat.zero_le _),rfl,h.ev,rfl,h.ad,rfl,h.d⟩
theorem DU {k N:Int} {q:Nat} {c:aI} {x:aW} (h:KX k N q c x) (hk:0<=k/\k<=65536) (hN:0<=N/\N<=900000000) {g:aU} {y:cL} (y1:y.kind=g.kind) (y2:y.aZ=g.aZ) (y3:y.data=g.data) (hd:g.data.size<=10000) (hn: ∀ n∈g.aZ,0<=n/\n<=4611686018427387904): ∃ e c' x',fm c g=some (e,c')/\(Option.bind (jy y) λu=>(Option.bind (iter (σ:=aW×Int) (ρ:=aW) (λo=>(bif (decide (o.2 < (u.2.1.length:Int))) then (Option.bind ((Option.bind (idx u.2.1 o.2) λB=>(Option.bind (jh o.1.f (IntKind.i64.wrap (u.1+o.2))) λA=>(bif A.2 then (Option.bind (jg o.1.l (IntKind.i64.wrap (u.1+o.2)) B) λC=>some (aW.mk o.1.most o.1.every o.1.addr o.1.aY o.1.due o.1.t C.1 A.1)) else some o.1))):Option aW) λD=>some (.inl (D,(IntKind.i64.wrap (o.2+1))))) else some (.inr o.1))) (x,0)) λG=>some (G,u.2.2)))=some (x',e)/\KX k (N+10000) q c' x'/\x'.aY=x.aY/\e≠4/\c'.aP=c.aP/\c'.aY=c.aY:=by
 obtain ⟨first,l,e,r1,r2,r3,r4,r5,r6⟩:=Ab g y y1 y2 y3 hd hn
 unfold fm
 rw [r1,r2,aA,aA]
 dsimp only
 have hit:=wL (σ:=aQ×bH×Int) (τ:=aW×Int) (f:=λs165:aQ×bH×Int=>((bif (decide (s165.2.2 < (l.length:Int))) then (Option.bind ((Option.bind (idx l s165.2.2) λH=>(Option.bind (eP s165.2.1 (IntKind.i64.wrap (first+s165.2.2))) λE=>(bif E.1 then (Option.bind (fO s165.1 (IntKind.i64.wrap (first+s165.2.2)) H) λI=>some (I.2.2,E.2)) else some (s165.1,E.2)))):Option (aQ×bH)) λF=>some (.inl (F.1,F.2,(IntKind.i64.wrap (s165.2.2+1))))) else some (.inr (s165.1,s165.2.1))):Option ((aQ×bH×Int) ⊕ (aQ×bH))))
  (g:=λo:aW×Int=>((bif (decide (o.2 < ((l.map λx=>x.map tg).length:Int))) then (Option.bind ((Option.bind (idx (l.map λx=>x.map tg) o.2) λB=>(Option.bind (jh o.1.f (IntKind.i64.wrap (first+o.2))) λA=>(bif A.2 then (Option.bind (jg o.1.l (IntKind.i64.wrap (first+o.2)) B) λC=>some (aW.mk o.1.most o.1.every o.1.addr o.1.aY o.1.due o.1.t C.1 A.1)) else some o.1))):Option aW) λD=>some (.inl (D,(IntKind.i64.wrap (o.2+1))))) else some (.inr o.1)):Option ((aW×Int) ⊕ aW)))
  (λs t=> ∃ n:Nat,s.2.2=n/\t.2=n/\n<=l.length/\CX k (N+n) s.1 t.1.l/\FX k s.2.1 t.1.f/\t.1.f.every=x.f.every/\t.1=⟨x.most,x.every,x.addr,x.aY,x.due,x.t,t.1.l,t.1.f⟩) (λs=>l.length - s.2.2.toNat)
  (λr p=>CX k (N+10000) r.1 p.l/\FX k r.2 p.f/\p.f.every=x.f.every/\p=⟨x.most,x.every,x.addr,x.aY,x.due,x.t,p.l,p.f⟩) (by
  rintro ⟨a,f,i⟩ ⟨z,j⟩ ⟨n,h1,h1',h2,h3,h4,h5,h6⟩
  dsimp only at h1 h1' h3 h4 h5 h6 ⊢
  subst h1 h1'
  rw [List.length_map]
  by_cases d:n < l.length
  ·left
   obtain ⟨b,f',y',g1,g1',g2,g3,g4,g5⟩:=Fm (by omega) h4 (i:=first+n) (by omega) (by omega)
   rw [decide_eq_true (by omega),cond_true,cond_true,bL l n d,bL _ n (by rw [List.length_map]; exact d),aA,aA,List.getElem_map,w64 (x:=first+(n:Int)) (by omega) (by omega),g1,g1',aA,aA]
   dsimp only
   cases b with
   | true =>
    have hln:=r5 _ (List.getElem_mem d)
    obtain ⟨v,w,a',x',p1,p1',p2⟩:=Fg h3 (by omega) (by omega) (g3 rfl) (l:=l[n]) (by omega) hln.2
    rw [cond_true,p1,aA,cond_true,p1',aA,aA,aA,w64 (by omega) (by omega)]
    refine ⟨_,_,rfl,rfl,⟨n+1,rfl,rfl,d,p2.more (by omega),g2,g5.trans h5,?_⟩,by dsimp only; omega⟩
    dsimp only
    rw [h6]
   | false =>
    rw [cond_false,aA,cond_false,aA,w64 (by omega) (by omega)]
    obtain rfl:=g4 rfl
    exact ⟨_,_,rfl,rfl,⟨n+1,rfl,rfl,d,h3.more (by omega),g2,h5,h6⟩,by dsimp only; omega⟩
  ·right
   rw [decide_eq_false (by omega),cond_false,cond_false]
   exact ⟨_,_,rfl,rfl,h3.more (by omega),h4,h5,h6⟩) (c.lines,c.bS,0) (x,0) ⟨0,rfl,rfl,Nat.zero_le _,h.ln.more (by omega),h.ft,rfl,rfl⟩
 obtain ⟨⟨a,f⟩,p,e1,e2,e3,e4,e5,e6⟩:=hit
 refine ⟨e,_,p,(congrArg (λz=>Option.bind z _) e1).trans rfl,(congrArg (λz=>Option.bind z _) e2).trans rfl,?_,by rw [e6],r6,rfl,rfl⟩
 exact ⟨h.cc,h.ep,h.tk,e3,e4,by rw [e6]; exact h.tp,by rw [e6]; exact h.m,by rw [e6]; exact h.ev,by rw [e5,h.fe,e6],by rw [e6]; exact h.ad,by rw [e6]; exact h.e,by rw [e6]; exact h.d⟩
theorem DV {k N:Int} {q:Nat} {c:aI} {x:aW} (h:KX k N q c x) (hk:0<=k/\k<=65536) (hN:0<=N/\N<=900000000) (hq:q<=10600) (now:Int) {s:ByteArray} (hs:s.size<=400): ∃ e c' x',dN c now s=some (e,c')/\kz x s=some (x',e)/\KX k (N+10000) (q+400) c' x'/\x.aY<=x'.aY/\(e=4->x'=x)/\(c'.aY=c.aY->c.aP.aO.k<=c'.aP.aO.k):=by
 unfold dN kz
 rw [qK (by omega),aA,BJ (by omega),aA]
 dsimp only
 by_cases p0:(jE s).2=0
 ·obtain ⟨r1,r2,r3,r4⟩:=Cb p0
  obtain ⟨q1,q2,q3,q4⟩:=z8 r1
  have hdat:(jE s).1.data.size<=400:=by rw [r4]; exact Nat.le_trans (qgD r2 r3) hs
  rw [show ((jE s).2 != 0)=false by simp [p0],cond_false,cond_false]
  generalize (jE s).1=g at q1 q2 q3 q4 hdat ⊢
  rw [show (o2 g).kind=g.kind from rfl,show (o2 g).aY=g.aY from rfl,h.e]
  by_cases c1:g.kind=1\/g.kind=4
  ·have hb:((bif (g.kind != 1) then some (g.kind != 4) else some false):Option Bool)=some false:=by
    rcases c1 with c1 | c1 <;> rw [c1] <;> rfl
   rw [hb,aA,cond_false,aA,cond_false]
   by_cases c2:g.aY < c.aY
   ·rw [decide_eq_true c2,cond_true,cond_true]
    exact ⟨8,_,_,rfl,rfl,h.more (by omega) (by omega),Int.le_of_eq h.e.symm,λ_=>rfl,λ_=>Int.le_refl _⟩
   ·rw [decide_eq_false c2,cond_false,cond_false]
    obtain ⟨d,z,d1,z1,d2,d3,d4⟩: ∃ d z,((bif (decide (g.aY > c.aY)) then (Option.bind (dY c g.aY) λa=>some (.inl a)) else some (.inl c)):Option (aI ⊕ (Int×aI)))=some (.inl d)/\((bif (decide (g.aY > c.aY)) then some (aW.mk x.most x.every x.addr g.aY x.due (dZ.mk (bD.mk 0 0 0 0 0 (ByteArray.mk #[]) ([]:List bC) 0 0 ([]:List aN)) (cK.mk 0 ([]:List Bool) ([]:List ByteArray))) (cD.mk x.most ([]:List dP)) (eC.mk x.most x.every 0 ([]:List aE))) else some x):Option aW)=some z/\KX k N q d z/\x.aY<=z.aY/\(d.aY=c.aY->d=c):=by
     by_cases c3:g.aY > c.aY
     ·obtain ⟨d,e1,e2⟩:=DT h hk.1 (e:=g.aY) (by omega)
      rw [decide_eq_true c3,cond_true,e1,aA,cond_true]
      exact ⟨d,_,rfl,rfl,e2,by dsimp only; rw [h.e]; omega,λhh=>by have:=e2.e; dsimp only at this; omega⟩
     ·rw [decide_eq_false c3,cond_false,cond_false]
      exact ⟨c,x,rfl,rfl,h,Int.le_refl _,λ_=>rfl⟩
    rw [d1,aA,z1,aA]
    dsimp only
    by_cases c4:g.kind=4
    ·obtain ⟨e,d',z',e1,e1',e2,e3,e4,e5,e6⟩:=DU d2 hk hN (g:=g) (y:=o2 g) rfl rfl rfl (by omega) q4
     rw [show (g.kind == 4)=true by simpa using c4,cond_true,show (g.kind == 1)=false by rw [c4]; rfl,cond_false,e1,aA,e1']
     exact ⟨_,_,_,rfl,rfl,e2.more (Int.le_refl _) (by omega),by rw [e3,<- h.e]; exact d3,λh=>absurd h e4,λhh=>by dsimp only at hh ⊢; rw [e5,d4 (e6.symm.trans hh)]; exact Int.le_refl _⟩
    ·have c5:g.kind=1:=by omega
     obtain ⟨e,t',x',e1,e1',e3,e4,e5⟩:=Ca 400 (by decide) (g:=g) (y:=o2 g) d2.tp hq rfl rfl rfl hdat
     rw [show (g.kind == 4)=false by simpa using c4,cond_false,show (g.kind == 1)=true by rw [c5]; rfl,cond_true,e1,aA,e1',aA]
     exact ⟨_,_,_,rfl,rfl,⟨d2.cc,d2.ep,e4 _ d2.tk q4,d2.ln.more (by omega),d2.ft,e3,d2.m,d2.ev,d2.fe,d2.ad,d2.e,d2.d⟩,(by rw [<- h.e]; exact d3),(λh=>absurd h e5.1),λhh=>by rw [<- d4 hh]; exact e5.2⟩
  ·have hb:((bif (g.kind != 1) then some (g.kind != 4) else some false):Option Bool)=some true:=by
    rw [show (g.kind != 1)=true by simp; omega,cond_true,show (g.kind != 4)=true by simp; omega]
   rw [hb,aA,cond_true,aA,cond_true]
   exact ⟨5,_,_,rfl,rfl,h.more (by omega) (by omega),Int.le_of_eq h.e.symm,λ_=>rfl,λ_=>Int.le_refl _⟩
 ·rw [show ((jE s).2 != 0)=true by simpa using p0,cond_true,cond_true]
  exact ⟨_,_,_,rfl,rfl,h.more (by omega) (by omega),Int.le_refl _,λ_=>rfl,λ_=>Int.le_refl _⟩
theorem uk {l:List aB} {x:List aE} (h:rsp x=l) (hl:l.length<=1000000):jt l x=some true:=by
 have hx:x.length=l.length:=by rw [<- h]; exact (List.length_map _).symm
 unfold jt
 rw [show ((l.length:Int) != (x.length:Int))=false by simp [hx],cond_false]
 refine dX (λn:Nat=>(n:Int)) x.length (.inl ()) rfl (λn hn=> ?_) ?_ rfl
 ·have e:l[n]'(by omega)=sp x[n]:=by subst h; exact List.getElem_map ..
  rw [decide_eq_true (by omega),cond_true,bL l n (by omega),aA,bL x n hn,aA,e,show (sp x[n]).from_=x[n].from_ from rfl,show (sp x[n]).to=x[n].to from rfl,beq_self_eq_true,beq_self_eq_true,w64 (by omega) (by omega)]
  rfl
 ·rw [decide_eq_false (by omega),cond_false]
section
variable {k N : Int} {q : Nat} {c : aI} {x : aW}
theorem u4 (h:KX k N q c x):dO c=some c.aP.aO:=by
 unfold dO dE
 rw [oq _ h.tp.sw]
 rfl
theorem zb (h:KX k N q c x) (hk:k<=65536) (i:Int): ∃ l b,fq c i=some (l,b)/\ky x i=some (l.map tg,b)/\(∀ g∈l,rok g.rune)/\l.length<=1000000/\(i < 0->b=false):=by
 unfold fq ky
 rw [show dE c.aP=some c.aP.aO by unfold dE; rw [oq _ h.tp.sw]; rfl,aA,h.tp.hv,show (fB c.aP.aO).len=c.aP.aO.len from rfl]
 by_cases d:i>=c.aP.aO.len
 ·rw [decide_eq_true d,cond_true,cond_true]
  exact ⟨[],false,rfl,rfl,λg hg=>(by cases hg),Nat.zero_le _,λ_=>rfl⟩
 ·rw [decide_eq_false d,cond_false,cond_false]
  obtain ⟨l,b,e1,e2,e3,e4⟩:=DO h.ln (by omega) i
  rw [e1,aA,e2,aA]
  refine ⟨l,b,rfl,rfl,e3,e4,λhi=> ?_⟩
  obtain ⟨m,M,m1,hp,hs,hx,hgs,m2,_,m3,hlen0⟩:=h.ln.cm
  rw [wK hx (by omega),wJ hp m2.nd] at e2
  cases hm:mgl i m with
  | none=>rw [hm] at e2; simp only [Option.some.injEq,Prod.mk.injEq] at e2; exact e2.2.symm
  | some y=>have:=(m2.r _ (kE hm)).1; dsimp only at this; omega
theorem D7 (h:KX k N q c x) (hk:k<=65536):ji c x=some true:=by
 obtain ⟨L,r,l1,l2,l3,l4,l5,l6⟩:=Cg h.ln (by omega)
 have hc:=l5.cnt
 have hf:=h.ft.fs.w.cnt
 have hln:=h.ln.len
 unfold ji
 rw [show cI c=some c.aY from rfl,aA,h.e,bne_self_eq_false,cond_false,show fp c=some c.config.addr from rfl,aA,h.ad,bne_self_eq_false,cond_false,u4 h,aA,h.tp.hv,CR _ _ h.tp.sw h.tp.sw,decide_eq_true rfl,aA,Bool.not_true,cond_false,show fF c=some L by unfold fF; rw [l1]; rfl,aA,l2,aA,uk l3 (by omega),aA,Bool.not_true,cond_false,show fA c=some c.bS.want.l by unfold fA; rw [xW (by omega) h.ft.fs]; rfl,aA,uk h.ft.r (by omega),aA,Bool.not_true,aA,cond_false]
 refine dX (λn:Nat=>(n:Int)) x.l.l.length (.inl ()) rfl (λn hn=> ?_) ?_ ?_
 ·obtain ⟨l,b,e1,e2,e3,e4,_⟩:=zb h hk x.l.l[n].i
  rw [decide_eq_true (by omega),cond_true,bL x.l.l n hn,aA,e1,aA,e2,aA]
  dsimp only
  rw [beq_self_eq_true,Bool.not_true,cond_false,sI l l e4 e3,decide_eq_true rfl,aA,Bool.not_true,aA,cond_false,w64 (by omega) (by omega)]
  rfl
 ·rw [decide_eq_false (by omega),cond_false]
 ·obtain ⟨l,b,e1,e2,e3,e4,e5⟩:=zb h hk (-1)
  obtain rfl:=e5 (by decide)
  dsimp only
  rw [e1,aA]
  rfl
end
theorem qT {acts:List l8} (a1: ∀ x∈acts,nA x):gV acts=some true:=by
 unfold gV
 rw [x7,aA,Bool.not_true,cond_false]
 obtain ⟨s,x,s1,s2,s3⟩:=Fp 6 2 0
 rw [show imax 1 (cW 6 65536)=6 from rfl] at s3
 rw [s1,aA,s2,aA]
 refine py (λs:aW×aI×Int×Int=> ∃ n:Nat,s.2.2.2=n/\n<=25/\KX 6 (n*100000) (n*400) s.2.1 s.1) (λs=>25 - s.2.2.2.toNat) (λr=> ∃ c,r = .inl c) ⟨0,rfl,by decide,s3.more (by decide) (by decide)⟩ ?_ ?_
 ·rintro ⟨x,s,now,i⟩ ⟨n,h1,h2,h3⟩
  dsimp only at h1 h3 ⊢
  subst h1
  by_cases c:(n:Int) < (acts.length:Int)/\(n:Int) < 25
  ·left
   rw [Dx c,aA,cond_true,bL acts n (by omega),aA,show cI s=some s.aY from rfl,aA,u4 h3,aA]
   have hc:kf acts[n].text 400=some (Bf acts[n].text 400):=Bg acts[n].text 400
   obtain ⟨e,s',x',e1,e2,e3,e4,e5,e6⟩:=DV h3 (by decide) (by omega) (by omega) (IntKind.i64.wrap (now+(Go.bits .and .i64 acts[n].later 7))) (zO acts[n].text 400)
   have hep:=h3.e
   have hep2:=e3.e
   rw [hc,aA,e1,aA]
   dsimp only
   rw [u4 e3,show cI s'=some s'.aY from rfl,e2]
   obtain ⟨b,hb,hb2⟩: ∃ b,((bif (acts[n].kind == 0) then (bif (e == 4) then some true else (bif (e == 8) then (Option.bind (some s'.aY) λa=>(bif (a == s.aY) then (Option.bind (some s'.aP.aO) λd=>some (d.k == s.aP.aO.k)) else some false)) else some false)) else some false):Option Bool)=some b/\True:=by
    cases (acts[n].kind == 0) <;> cases (e == 4) <;> cases (e == 8) <;> (try exact ⟨_,rfl,trivial⟩)
    rw [aA]
    cases (s'.aY == s.aY) <;> exact ⟨_,rfl,trivial⟩
   have hin:((bif b then (Option.bind ((bif (e == 4) then (Option.bind (ji s' x) λf=>some (!f)) else some false):Option Bool) λg=>(bif g then (mj (eV (some false))) else some (.inl ()))) else some (.inl ())):Option (Unit ⊕ ((aW×aI×Int×Int) ⊕ ((aW×aI) ⊕ Bool))))=some (.inl ()):=by
    cases b with
    | false=>rfl
    | true =>
     rw [cond_true]
     by_cases c4:e=4
     ·rw [show (e == 4)=true by simpa using c4,cond_true,<- e5 c4,D7 e3 (by decide)]
      rfl
     ·rw [show (e == 4)=false by simpa using c4,cond_false]
      rfl
   rw [hb,aA,hin,aA]
   dsimp only
   rw [aA,aA,decide_eq_false (by omega),cond_false,aA,D7 e3 (by decide)]
   have hr:((bif (s'.aY == s.aY) then (Option.bind (some s'.aP.aO) λh=>(bif (decide (h.k < s.aP.aO.k)) then some true else (Option.bind (some true) λj=>some (!j)))) else (Option.bind (some true) λl=>some (!l))):Option Bool)=some false:=by
    by_cases c5:s'.aY=s.aY
    ·have:=e6 c5
     rw [show (s'.aY == s.aY)=true by simpa using c5,cond_true,aA,decide_eq_false (by omega)]
     rfl
    ·rw [show (s'.aY == s.aY)=false by simpa using c5,cond_false]
     rfl
   rw [hr,aA,cond_false,w64 (x:=(n:Int)+1) (by omega) (by omega)]
   exact ⟨_,rfl,⟨n+1,rfl,by omega,e3.more (by omega) (by omega)⟩,by dsimp only; omega⟩
  ·right
   rw [Dz c,aA,cond_false]
   exact ⟨_,rfl,_,rfl⟩
 ·rintro r ⟨s,rfl⟩
  rfl
end Go.Tw.X

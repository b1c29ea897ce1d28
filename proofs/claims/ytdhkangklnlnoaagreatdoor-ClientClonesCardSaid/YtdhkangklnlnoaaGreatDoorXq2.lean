import Derived.Test.YtdhkangklnlnoaaGreatDoorXq1
import Derived.Test.YtdhkangklnlnoaaGreatDoorXp1
import Derived.Test.YtdhkangklnlnoaaGreatDoorFw2
set_option linter.unusedVariables false
set_option linter.unusedSimpArgs false
set_option maxHeartbeats 1000000
namespace Go.Tw.X
open Go Go.Tw
def oD (g:aV):bM:=⟨g.aU,g.kind,g.bB,g.data⟩
def zGr:aV:=⟨0,0,[],noS⟩
def okN (n:Int):Bool:=decide (0<=n/\n<=4611686018427387904)
def jk (g:aV):Bool:=decide (1<=g.aU/\g.aU<=4294967296) && (decide (1<=g.kind/\g.kind<=4) && (decide (g.bB.length<=64) && g.bB.all okN))
def nH (g:aV):List Int:=[g.aU,g.kind,(g.bB.length:Int)].flatMap cI++g.bB.flatMap cI++(cI g.data.size++sbs g.data)
def eX (g:aV):ByteArray:=oB (dL (nH g))
def gU (g:aV):Int:=if jk g=false then 6 else if (eX g).size > 8192 then 3 else 0
def uT (g:aV):ByteArray:=if gU g=0 then eX g else noS
theorem mQ (l:List Int):(l.flatMap cI).length<=9*l.length:=by
 induction l with
 | nil=>simp
 | cons a l ih =>
  have:=cJ a
  simp only [List.flatMap_cons,List.length_append,List.length_cons]
  omega
theorem uU {g:aV} (h:g.bB.length<=64):(nH g).length<=700+g.data.size:=by
 have h1:=mQ [g.aU,g.kind,(g.bB.length:Int)]
 have h2:=mQ g.bB
 have h3:=cJ (g.data.size:Int)
 unfold nH
 simp only [List.length_append,bD]
 simp only [List.length_cons,List.length_nil] at h1
 omega
theorem xc (n lo hi:Int):iO n lo hi=some (decide (lo<=n/\n<=hi)):=by
 unfold iO
 by_cases a:n>=lo
 ·rw [decide_eq_true a,cond_true,aA]
  by_cases b:n<=hi
  ·rw [decide_eq_true b,decide_eq_true ⟨a,b⟩]
  ·rw [decide_eq_false b,decide_eq_false λh=>b h.2]
 ·rw [decide_eq_false a,cond_false,aA,decide_eq_false λh=>a h.1]
theorem D1 {α ρ:Type} (l:List α) (hl:l.length<=1000000) (p:α->Bool) (bad:ρ) (f:Int->Option (Int ⊕ (Unit ⊕ ρ))) (hf: ∀ (i:Nat) (h:i < l.length),f i=if p l[i]=true then some (.inl ((i:Int)+1)) else some (.inr (.inr bad))) (he:f l.length=some (.inr (.inl ()))):iter f 0=some (if l.all p=true then .inl () else .inr bad):=by
 have key: ∀ k i:Nat,i+k=l.length->iter f (i:Int)=some (if (l.drop i).all p=true then .inl () else .inr bad):=by
  intro k
  induction k with
  | zero =>
   intro i h
   rw [show i=l.length by omega,List.drop_length]
   exact bC he
  | succ k ih =>
   intro i h
   have hi:i < l.length:=by omega
   rw [List.drop_eq_getElem_cons hi,List.all_cons]
   have e:=hf i hi
   cases hp:p l[i] with
   | true =>
    rw [hp,if_pos rfl] at e
    rw [bY e,show ((i:Int)+1)=((i+1:Nat):Int) by omega,ih (i+1) (by omega),Bool.true_and]
   | false =>
    rw [hp,if_neg (by simp)] at e
    rw [bC e,Bool.false_and,if_neg (by simp)]
 exact key l.length 0 (by omega)
theorem BZ {g:aV} (h:g.bB.length<=1000000):iz g=some (jk g):=by
 unfold iz jk
 rw [xc,xc,aA,aA]
 by_cases a:1<=g.aU/\g.aU<=4294967296
 ·rw [decide_eq_true a,Bool.not_true,cond_false,Bool.true_and]
  by_cases b:1<=g.kind/\g.kind<=4
  ·rw [decide_eq_true b,Bool.not_true,cond_false,aA,Bool.true_and]
   by_cases c:g.bB.length<=64
   ·rw [decide_eq_false (by omega),cond_false,decide_eq_true c,Bool.true_and]
    rw [D1 g.bB (by omega) okN false _ ?hf ?he]
    case hf =>
     intro i hi
     show (bif (decide ((i:Int) < (g.bB.length:Int))) then _ else _)=_
     rw [decide_eq_true (by omega),cond_true,bG _ i hi,aA,xc,aA,w64 (by omega) (by omega)]
     unfold okN
     cases decide (0<=g.bB[i]/\g.bB[i]<=4611686018427387904) <;> rfl
    case he =>
     show (bif (decide ((g.bB.length:Int) < (g.bB.length:Int))) then _ else _)=_
     rw [decide_eq_false (by omega),cond_false]
    rw [aA]
    cases hh:g.bB.all okN <;> rfl
   ·rw [decide_eq_true (by omega),cond_true,decide_eq_false c]
    rfl
  ·rw [decide_eq_false b,Bool.not_false,cond_true,aA,cond_true]
   rfl
 ·rw [decide_eq_false a,Bool.not_false,cond_true,aA,cond_true]
  rfl
theorem wA {g:aV} (h:g.bB.length<=64) (hd:g.data.size<=100000):gO g=some (eX g):=by
 have h1:=mQ [g.aU,g.kind,(g.bB.length:Int)]
 have h2:=mQ g.bB
 have hb:=uU h
 simp only [List.length_cons,List.length_nil] at h1
 unfold gO eX
 rw [nm [] _ (by simp),aA,List.nil_append,nm _ _ (by omega),aA,yj _ _ (by rw [List.length_append]; omega),aA,show ∀ b,fG ⟨b⟩=some (dL b) from λb=>rfl,aA]
 show Option.bind (l0 (dL (nH g))) _=_
 rw [Fw (by rw [bQ]; omega),aA]
theorem uV {g:aV} (h:g.bB.length<=64) (hd:g.data.size<=100000):jR (oD g)=some (eX g):=by
 have hb:=uU h
 have h1:=mQ g.bB
 have a1:=cJ g.aU
 have a2:=cJ g.kind
 have a3:=cJ (g.bB.length:Int)
 have a4:=cJ (g.data.size:Int)
 unfold jR eX oD
 dsimp only
 rw [jE,aA,jE,aA,eD (by rw [bQ,bQ]; omega),aA,jE,aA,<- dG,eD (by rw [bQ,bQ,List.length_append]; omega),aA,<- dG]
 have hpre: ∀ i,((g.bB.take i).flatMap cI).length<=9*64:=λi=>by
  have:=mQ (g.bB.take i)
  have h2:(g.bB.take i).length<=64:=by rw [List.length_take]; omega
  omega
 refine dX (λi:Nat=>((i:Int),dL ((cI g.aU++cI g.kind++cI (g.bB.length:Int))++(g.bB.take i).flatMap cI))) g.bB.length (dL ((cI g.aU++cI g.kind++cI (g.bB.length:Int))++g.bB.flatMap cI)) (by simp) ?_ ?_ ?_
 ·intro i hi
  have h2:=hpre i
  have h3:=cJ g.bB[i]
  dsimp only
  rw [decide_eq_true (by omega),cond_true,bG _ i hi,aA,jE,aA,eD (by rw [bQ,bQ]; simp only [List.length_append]; omega),aA,<- dG,w64 (by omega) (by omega),List.take_succ_eq_append_getElem hi,List.flatMap_append,List.flatMap_singleton,List.append_assoc _ _ (cI g.bB[i])]
  rfl
 ·dsimp only
  rw [decide_eq_false (by omega),cond_false,List.take_length]
 ·rw [uL _ (by omega),aA,eD (by rw [bQ,bQ]; simp only [List.length_append,bD]; omega),aA,<- dG]
  have e:cI g.aU++cI g.kind++cI (g.bB.length:Int)++g.bB.flatMap cI++(cI (g.data.size:Int)++sbs g.data)=nH g:=by
   unfold nH
   simp
  rw [e,yo (by rw [bQ]; omega),aA]
theorem wB {g:aV} (h:g.bB.length<=1000000) (hd:g.data.size<=100000):gP g=some (gU g):=by
 unfold gP gU
 rw [BZ h,aA]
 cases hr:jk g with
 | false=>rfl
 | true =>
  have hn:g.bB.length<=64:=by
   unfold jk at hr
   simp only [Bool.and_eq_true,decide_eq_true_eq] at hr
   exact hr.2.2.1
  rw [Bool.not_true,cond_false,wA hn hd,aA,if_neg (by simp)]
  by_cases c:(eX g).size > 8192
  ·rw [decide_eq_true (by omega),cond_true,if_pos c]
  ·rw [decide_eq_false (by omega),cond_false,if_neg c]
theorem uW {g:aV} (h:g.bB.length<=1000000) (hd:g.data.size<=100000):jS (oD g)=some (gU g):=by
 unfold jS gU jk
 have hc:((bif (decide ((oD g).aU < 1)) then some true else (bif (decide ((oD g).aU > 4294967296)) then some true else (bif (decide ((oD g).kind < 1)) then some true else (bif (decide ((oD g).kind > 4)) then some true else some (decide (((oD g).bB.length:Int) > 64)))))):Option Bool)=some (!(decide (1<=g.aU/\g.aU<=4294967296) && (decide (1<=g.kind/\g.kind<=4) && decide (g.bB.length<=64)))):=by
  show ((bif (decide (g.aU < 1)) then some true else (bif (decide (g.aU > 4294967296)) then some true else (bif (decide (g.kind < 1)) then some true else (bif (decide (g.kind > 4)) then some true else some (decide ((g.bB.length:Int) > 64)))))):Option Bool)=_
  by_cases a:g.aU < 1
  ·simp [a,show ¬ 1<=g.aU by omega]
  ·by_cases b:g.aU > 4294967296
   ·simp [a,b,show ¬ g.aU<=4294967296 by omega]
   ·by_cases c:g.kind < 1
    ·simp [a,b,c,show ¬ 1<=g.kind by omega]
    ·by_cases d:g.kind > 4
     ·simp [a,b,c,d,show ¬ g.kind<=4 by omega]
     ·by_cases e:g.bB.length<=64
      ·simp [a,b,c,d,e,show 1<=g.aU by omega,show g.aU<=4294967296 by omega,show 1<=g.kind by omega,show g.kind<=4 by omega]
       omega
      ·simp [a,b,c,d,e,show 1<=g.aU by omega,show g.aU<=4294967296 by omega,show 1<=g.kind by omega,show g.kind<=4 by omega]
       omega
 rw [hc,aA]
 rw [show (decide (1<=g.aU/\g.aU<=4294967296) && (decide (1<=g.kind/\g.kind<=4) && (decide (g.bB.length<=64) && g.bB.all okN)))=((decide (1<=g.aU/\g.aU<=4294967296) && (decide (1<=g.kind/\g.kind<=4) && decide (g.bB.length<=64))) && g.bB.all okN) by simp only [Bool.and_assoc]]
 cases hh:(decide (1<=g.aU/\g.aU<=4294967296) && (decide (1<=g.kind/\g.kind<=4) && decide (g.bB.length<=64))) with
 | false=>rfl
 | true =>
  simp only [Bool.and_eq_true,decide_eq_true_eq] at hh
  have hn:=hh.2.2
  rw [Bool.not_true,cond_false,Bool.true_and]
  rw [D1 g.bB (by omega) okN (6:Int) _ ?hf ?he]
  case he =>
   show (bif (decide ((g.bB.length:Int) < (g.bB.length:Int))) then _ else _)=_
   rw [decide_eq_false (by omega),cond_false]
  case hf =>
   intro i hi
   show (bif (decide ((i:Int) < (g.bB.length:Int))) then _ else _)=_
   rw [decide_eq_true (by omega),cond_true,show idx (oD g).bB (i:Int)=some g.bB[i] from bG _ i hi,aA,w64 (by omega) (by omega)]
   unfold okN
   by_cases a:g.bB[i] < 0
   ·rw [decide_eq_true a,cond_true,aA,cond_true,decide_eq_false (by omega)]
    rfl
   ·rw [decide_eq_false a,cond_false,aA]
    by_cases b:g.bB[i] > 4611686018427387904
    ·rw [decide_eq_true b,cond_true,decide_eq_false (by omega)]
     rfl
    ·rw [decide_eq_false b,cond_false,decide_eq_true (by omega)]
     rfl
  ·rw [aA]
   cases ha:g.bB.all okN with
   | false=>rfl
   | true =>
    rw [if_pos rfl,if_neg (by simp)]
    dsimp only
    rw [uV hn hd,aA]
    by_cases c:(eX g).size > 8192
    ·rw [decide_eq_true (by omega),cond_true,if_pos c]
    ·rw [decide_eq_false (by omega),cond_false,if_neg c]
theorem uX {g:aV} (h:g.bB.length<=1000000) (hd:g.data.size<=100000):eC g=some (uT g):=by
 unfold eC uT
 rw [wB h hd,aA]
 by_cases c:gU g=0
 ·have hn:g.bB.length<=64:=by
   unfold gU at c
   cases hr:jk g with
   | false=>rw [hr] at c; simp at c
   | true =>
    unfold jk at hr
    simp only [Bool.and_eq_true,decide_eq_true_eq] at hr
    exact hr.2.2.1
  rw [c,show ((0:Int) != 0)=false from rfl,cond_false,wA hn hd,aA,if_pos rfl]
 ·rw [show (gU g != 0)=true by simpa using c,cond_true,if_neg c]
  rfl
theorem B4 {g:aV} (h:g.bB.length<=1000000) (hd:g.data.size<=100000):gH (oD g)=some (uT g):=by
 unfold gH uT
 rw [uW h hd,aA]
 by_cases c:gU g=0
 ·have hn:g.bB.length<=64:=by
   unfold gU at c
   cases hr:jk g with
   | false=>rw [hr] at c; simp at c
   | true =>
    unfold jk at hr
    simp only [Bool.and_eq_true,decide_eq_true_eq] at hr
    exact hr.2.2.1
  rw [c,show ((0:Int) != 0)=false from rfl,cond_false,uV hn hd,aA,if_pos rfl]
 ·rw [show (gU g != 0)=true by simpa using c,cond_true,if_neg c]
  rfl
def rdN:Nat->aK->List Int->List Int×aK
 | 0,i,l=>(l,i)
 | k+1,i,l=>rdN k (rdS i).2 (l++[(rdS i).1])
theorem z9: ∀ (k:Nat) {i:aK} (l:List Int),VI i->VI (rdN k i l).2
 | 0,_,_,h=>h
 | k+1,_,l,h=>z9 k _ (fH h)
theorem xd: ∀ (k:Nat) (i:aK) (l:List Int),(rdN k i l).1.length=l.length+k
 | 0,_,_=>rfl
 | k+1,i,l=>by rw [rdN,xd k]; simp; omega
theorem yu: ∀ (k:Nat) (i:aK) (l:List Int),rdN (k+1) i l=((rdN k i l).1++[(rdS (rdN k i l).2).1],(rdS (rdN k i l).2).2)
 | 0,_,_=>rfl
 | k+1,i,l=>by rw [rdN,yu k]; rfl
theorem rA: ∀ (k:Nat) {i:aK} (l:List Int),i.e≠0->(rdN k i l).2=i
 | 0,_,_,_=>rfl
 | k+1,i,l,h=>by rw [rdN,kF h]; exact rA k _ h
theorem Aa: ∀ (k:Nat) {i:aK} (l:List Int) {m:Nat},SZ m i->SZ m (rdN k i l).2
 | 0,_,_,_,h=>h
 | k+1,_,l,_,h=>Aa k _ (lM h)
def qgA (s:ByteArray):=rdS ⟨kK s,0⟩
def qgB (s:ByteArray):=rdS (qgA s).2
def qgC (s:ByteArray):=rdS (qgB s).2
def qgI (s:ByteArray):aK:=if (qgC s).1 > 64 then jW else (qgC s).2
def qgN (s:ByteArray):=rdN (min (qgC s).1 64).toNat (qgI s) []
def qgT (s:ByteArray):=mO (qgN s).2
def qgR (s:ByteArray):aV:=⟨(qgA s).1,(qgB s).1,(qgN s).1,(qgT s).1⟩
def kL (s:ByteArray):aV×Int :=
 if s.size > 8192 then (zGr,3) else if o4 s=false then (zGr,4) else if ku (qgT s).2≠0 then (zGr,ku (qgT s).2) else if gU (qgR s)≠0 then (zGr,gU (qgR s)) else (qgR s,0)
theorem Hb {s:ByteArray} (h:s.size<=8192) (h4:4<=s.size):VI (qgA s).2/\VI (qgB s).2/\VI (qgC s).2/\VI (qgI s)/\VI (qgN s).2/\VI (qgT s).2:=by
 have v0:VI (⟨kK s,0⟩:aK):=⟨by show (kK s).size<=1000000; rw [lN h4]; omega,.inl rfl⟩
 have v1:=fH v0
 have v2:=fH v1
 have v3:=fH v2
 have v4:VI (qgI s):=by
  unfold qgI
  split
  ·exact nE
  ·exact v3
 have v5:=z9 (min (qgC s).1 64).toNat (i:=qgI s) [] v4
 exact ⟨v1,v2,v3,v4,v5,sQ v5⟩
theorem D2 {s:ByteArray} (h:s.size<=8192) (h4:4<=s.size):(qgR s).data.size<=8192:=by
 have z0:SZ s.size (⟨kK s,0⟩:aK):=⟨⟨by show (kK s).size<=1000000; rw [lN h4]; omega,.inl rfl⟩,by show (kK s).size<=_; rw [lN h4]; omega⟩
 have z3:SZ s.size (qgC s).2:=lM (lM (lM z0))
 have z4:SZ s.size (qgI s):=by
  unfold qgI
  split
  ·exact ⟨nE,Nat.zero_le _⟩
  ·exact z3
 have z5:SZ s.size (qgN s).2:=Aa _ [] z4
 have:=(uI z5.1 z5.2).1
 show (qgT s).1.size<=_
 exact Nat.le_trans this h
theorem D3 (s:ByteArray):(qgR s).bB.length<=64:=by
 show (qgN s).1.length<=64
 rw [qgN,xd]
 simp
 omega
theorem HP {s:ByteArray} (h:s.size<=8192) (h4:4<=s.size):0<=(qgC s).1:=(kT (Hb h h4).2.1).1
theorem B5 {s:ByteArray} (h:s.size<=8192) (h4:4<=s.size):my ⟨kK s,0⟩=some (qgR s,(qgT s).2):=by
 obtain ⟨v1,v2,v3,v4,v5,v6⟩:=Hb h h4
 have v0:VI (⟨kK s,0⟩:aK):=⟨by show (kK s).size<=1000000; rw [lN h4]; omega,.inl rfl⟩
 have hc0:=HP h h4
 unfold my
 rw [jV _ v0,aA,show (rdS ⟨kK s,0⟩)=qgA s from rfl,jV _ v1,aA,show (rdS (qgA s).2)=qgB s from rfl,jV _ v2,aA,show (rdS (qgB s).2)=qgC s from rfl]
 have hi:((bif (decide ((qgC s).1 > 64)) then (Option.bind (bR (qgC s).2 1) λa=>some a) else some (qgC s).2):Option aK)=some (qgI s):=by
  unfold qgI
  by_cases c:(qgC s).1 > 64
  ·rw [decide_eq_true c,cond_true,if_pos c,re v3,aA,if_pos (show (qgC s).2.e=0 from pq v2 (by decide) c)]
  ·rw [decide_eq_false c,cond_false,if_neg c]
 rw [hi,aA]
 have hm:cD (qgC s).1 64=((min (qgC s).1 64).toNat:Int):=by unfold cD; split <;> omega
 rw [hm]
 have hk:(min (qgC s).1 64).toNat<=64:=by omega
 refine dX (λj:Nat=>(aV.mk (qgA s).1 (qgB s).1 (rdN j (qgI s) []).1 (ByteArray.mk #[]),(rdN j (qgI s) []).2,(j:Int))) (min (qgC s).1 64).toNat ((qgN s).2,aV.mk (qgA s).1 (qgB s).1 (qgN s).1 (ByteArray.mk #[])) rfl ?_ ?_ ?_
 ·intro j hj
  have hl:=xd j (qgI s) []
  have hs:rdN (j+1) (qgI s) []=((rdN j (qgI s) []).1++[(rdS (rdN j (qgI s) []).2).1],(rdS (rdN j (qgI s) []).2).2):=yu j (qgI s) []
  dsimp only
  rw [decide_eq_true (by omega),cond_true,jV _ (z9 j [] v4),aA,bP (by simp [hl]; omega),aA,w64 (by omega) (by omega),hs]
  rfl
 ·dsimp only
  rw [decide_eq_false (by omega),cond_false]
  rfl
 ·dsimp only
  rw [AT _ v5,aA]
  rfl
theorem sT {s:ByteArray} (h:s.size<=100000):kx s=some (kL s):=by
 unfold kx kL
 by_cases c:s.size > 8192
 ·rw [decide_eq_true (by omega),cond_true,if_pos c]
  rfl
 ·rw [decide_eq_false (by omega),cond_false,if_neg c,Fy (by omega),aA]
  unfold ru
  cases ho:o4 s with
  | false=>rfl
  | true =>
   have h4:4<=s.size:=by
    unfold o4 at ho
    exact (of_decide_eq_true ho).1
   rw [if_pos rfl]
   dsimp only
   rw [Bool.not_true,cond_false,show ly (kK s)=some ⟨kK s,0⟩ from rfl,aA,B5 (by omega) h4,aA,wV,aA,if_neg (by simp)]
   dsimp only
   by_cases e:ku (qgT s).2=0
   ·rw [e,show ((0:Int) == 0)=true from rfl,cond_true,wB (by have:=D3 s; omega) (by have:=D2 (s:=s) (by omega) h4; omega),aA,aA,if_neg (λh=>h rfl)]
    by_cases f:gU (qgR s)=0
    ·rw [f,show ((0:Int) != 0)=false from rfl,cond_false,if_neg (λh=>h rfl)]
    ·rw [show (gU (qgR s) != 0)=true by simpa using f,cond_true,if_pos f]
     rfl
   ·rw [show (ku (qgT s).2 == 0)=false by simpa using e,cond_false,aA,show (ku (qgT s).2 != 0)=true by simpa using e,cond_true,if_pos e]
    rfl
theorem D4 (x y:Int): ∀ (k j:Nat) (i:aK) (l:List Int) (n:Int),VI i->n=((j+k:Nat):Int)->l.length=j->j+k<=64 ->
  ∃ l',iter (σ:=aX×bM×Int) (ρ:=aX×bM) (λa=>(Option.bind ((bif (decide (a.2.2 < n)) then some (a.1.e == 0) else some false):Option Bool) λd=>(bif d then (Option.bind (bJ a.1) λb=>(Option.bind (chk (cW a.2.1.bB.length [b.2].length 8)) λ_=>some (.inl (b.1,(bM.mk a.2.1.aU a.2.1.kind (a.2.1.bB++[b.2]) a.2.1.data),(IntKind.i64.wrap (a.2.2+1)))))) else some (.inr (a.1,a.2.1))))) (asR i,bM.mk x y l (ByteArray.mk #[]),(j:Int))=some (asR (rdN k i l).2,bM.mk x y l' (ByteArray.mk #[]))/\((rdN k i l).2.e=0->l'=(rdN k i l).1)
 | 0,j,i,l,n,hV,hn,hl,hj=>by
  refine ⟨l,bC ?_,λ_=>rfl⟩
  dsimp only
  rw [decide_eq_false (by omega),cond_false,aA,cond_false]
  rfl
 | k+1,j,i,l,n,hV,hn,hl,hj=>by
  by_cases c:i.e=0
  ·obtain ⟨l',e1,e2⟩:=D4 x y k (j+1) (rdS i).2 (l++[(rdS i).1]) n (fH hV) (by omega) (by simp; omega) (by omega)
   refine ⟨l',?_,e2⟩
   rw [rdN,<- e1]
   refine bY ?_
   dsimp only
   rw [decide_eq_true (by omega),cond_true,show ((asR i).e == 0)=true by simpa [asR] using c,aA,cond_true,gR i hV,aA]
   dsimp only
   rw [bP (by simp [hl]; omega),aA,w64 (by omega) (by omega)]
   rfl
  ·refine ⟨l,?_,λh=> ?_⟩
   ·rw [rA (k+1) l c]
    refine bC ?_
    dsimp only
    rw [decide_eq_true (by omega),cond_true,show ((asR i).e == 0)=false by simpa [asR] using c,aA,cond_false]
   ·rw [rA (k+1) l c] at h
    exact absurd h c
theorem D5 {s:ByteArray} (h:s.size<=100000):kO s=some (oD (kL s).1,(kL s).2):=by
 unfold kO kL
 by_cases c:s.size > 8192
 ·rw [decide_eq_true (by omega),cond_true,if_pos c]
  rfl
 ·rw [decide_eq_false (by omega),cond_false,if_neg c,DL (by omega),aA]
  unfold ru
  cases ho:o4 s with
  | false=>rfl
  | true =>
   have h4:4<=s.size:=by
    unfold o4 at ho
    exact (of_decide_eq_true ho).1
   have hs:s.size<=8192:=by omega
   obtain ⟨v1,v2,v3,v4,v5,v6⟩:=Hb hs h4
   have v0:VI (⟨kK s,0⟩:aK):=⟨by show (kK s).size<=1000000; rw [lN h4]; omega,.inl rfl⟩
   rw [if_pos rfl]
   dsimp only
   rw [Bool.not_true,cond_false,show (aX.mk (kK s) 0)=asR ⟨kK s,0⟩ from rfl,gR _ v0,aA,show (rdS ⟨kK s,0⟩)=qgA s from rfl]
   dsimp only
   rw [gR _ v1,aA,show (rdS (qgA s).2)=qgB s from rfl]
   dsimp only
   rw [gR _ v2,aA,show (rdS (qgB s).2)=qgC s from rfl]
   dsimp only
   have hc0:=HP hs h4
   by_cases d:(qgC s).1 > 64
   ·have he:(qgC s).2.e=0:=pq v2 (by decide) d
    rw [show ((asR (qgC s).2).e == 0)=true by simpa [asR] using he,cond_true,decide_eq_true d,aA,cond_true,if_neg (by simp)]
    have hb:qgI s=jW:=by unfold qgI; rw [if_pos d]
    have hN:(qgN s).2=jW:=by unfold qgN; rw [hb]; exact rA _ _ (by decide)
    have hT:(qgT s).2=jW:=by unfold qgT; rw [hN,uS (by decide)]
    have hE:ku (qgT s).2=1:=by rw [hT]; rfl
    rw [hE,if_pos (by decide)]
    rfl
   ·have hcc:((bif ((asR (qgC s).2).e == 0) then some (decide ((qgC s).1 > 64)) else some false):Option Bool)=some false:=by
     cases ((asR (qgC s).2).e == 0) with
     | true=>rw [cond_true,decide_eq_false d]
     | false=>rfl
    rw [hcc,aA,cond_false,if_neg (by simp)]
    have hi:qgI s=(qgC s).2:=by unfold qgI; rw [if_neg d]
    obtain ⟨l',e1,e2⟩:=D4 (qgA s).1 (qgB s).1 (min (qgC s).1 64).toNat 0 (qgC s).2 [] (qgC s).1 v3 (by omega) rfl (by omega)
    have hgn:rdN (min (qgC s).1 64).toNat (qgC s).2 []=qgN s:=by unfold qgN; rw [hi]
    rw [hgn] at e1 e2
    rw [show (((0:Nat):Int))=0 from rfl] at e1
    rw [e1,aA]
    dsimp only
    rw [wk _ v5,aA,show mO (qgN s).2=qgT s from rfl]
    dsimp only
    rw [AU _ v6,aA]
    by_cases e:ku (qgT s).2=0
    ·have hte:(qgT s).2.e=0:=by
      unfold ku at e
      split at e
      ·cases e
      ·exact e
     have hne:=(Dr v5 hte).1
     have hl:=e2 hne
     rw [e,hl,show ((0:Int) != 0)=false from rfl,cond_false,show (bM.mk (qgA s).1 (qgB s).1 (qgN s).1 (qgT s).1)=oD (qgR s) from rfl,uW (by have:=D3 s; omega) (by have:=D2 hs h4; omega),aA,if_neg (λh=>h rfl)]
     by_cases f:gU (qgR s)=0
     ·rw [f,show ((0:Int) != 0)=false from rfl,cond_false,if_neg (λh=>h rfl)]
     ·rw [show (gU (qgR s) != 0)=true by simpa using f,cond_true,if_pos f]
      rfl
    ·rw [show (ku (qgT s).2 != 0)=true by simpa using e,cond_true,if_pos e]
     rfl
theorem Bb {R:List Int} (hR:BB R): ∀ (L l:List Int),(∀ n∈L,okN n=true)->rdN L.length (bI (L.flatMap cI++R)) l=(l++L,bI R)
 | [],l,_=>by simp [rdN]
 | n::L,l,h=>by
  have hn:=of_decide_eq_true (h n List.mem_cons_self)
  have hR2:BB (L.flatMap cI++R):=kJ (nq λx _=>mc x) hR
  rw [List.length_cons,rdN,List.flatMap_cons,List.append_assoc,Dz hR2 hn.1 hn.2]
  dsimp only
  rw [Bb hR L _ λx hx=>h x (List.mem_cons_of_mem _ hx)]
  simp
theorem tY {g:aV} (h:gU g=0):jk g=true/\(eX g).size<=8192:=by
 unfold gU at h
 cases hr:jk g with
 | false=>rw [hr] at h; simp at h
 | true =>
  rw [hr,if_neg (by simp)] at h
  refine ⟨rfl,?_⟩
  split at h
  ·cases h
  ·omega
theorem tA {g:aV} (h:gU g=0):kL (eX g)=(g,0):=by
 obtain ⟨hr,hs⟩:=tY h
 have hr2:=hr
 unfold jk at hr2
 simp only [Bool.and_eq_true,decide_eq_true_eq,List.all_eq_true] at hr2
 obtain ⟨⟨a1,a2⟩,⟨b1,b2⟩,c1,d1⟩:=hr2
 have hsz:=pV (dL (nH g))
 have ho:=BX (dL (nH g))
 rw [show oB (dL (nH g))=eX g from rfl] at hsz ho
 have hd:g.data.size<=8192:=by
  rw [bQ] at hsz
  have:g.data.size<=(nH g).length:=by unfold nH; simp only [List.length_append,bD]; omega
  omega
 unfold ru at ho
 cases hb:o4 (eX g) with
 | false=>rw [hb,if_neg (by simp)] at ho; exact absurd (congrArg Prod.snd ho) (by simp)
 | true =>
  rw [hb,if_pos rfl] at ho
  have hf:kK (eX g)=dL (nH g):=(Prod.mk.inj ho).1
  have B0:BB (cI g.data.size++sbs g.data++[]):=kJ (kJ (mc _) (oV _)) (λb hb=>by cases hb)
  have B1:BB (g.bB.flatMap cI++(cI g.data.size++sbs g.data++[])):=kJ (nq λx _=>mc x) B0
  have B2:BB (cI (g.bB.length:Int)++(g.bB.flatMap cI++(cI g.data.size++sbs g.data++[]))):=kJ (mc _) B1
  have B3:BB (cI g.kind++(cI (g.bB.length:Int)++(g.bB.flatMap cI++(cI g.data.size++sbs g.data++[])))):=kJ (mc _) B2
  have e0:nH g=cI g.aU++(cI g.kind++(cI (g.bB.length:Int)++(g.bB.flatMap cI++(cI g.data.size++sbs g.data++[])))):=by
   unfold nH
   simp
  have hA:qgA (eX g)=(g.aU,bI (cI g.kind++(cI (g.bB.length:Int)++(g.bB.flatMap cI++(cI g.data.size++sbs g.data++[]))))):=by
   unfold qgA
   rw [hf,e0]
   exact Dz B3 (by omega) (by omega)
  have hB:qgB (eX g)=(g.kind,bI (cI (g.bB.length:Int)++(g.bB.flatMap cI++(cI g.data.size++sbs g.data++[])))):=by
   unfold qgB
   rw [hA]
   exact Dz B2 (by omega) (by omega)
  have hC:qgC (eX g)=((g.bB.length:Int),bI (g.bB.flatMap cI++(cI g.data.size++sbs g.data++[]))):=by
   unfold qgC
   rw [hB]
   exact Dz B1 (by omega) (by omega)
  have hI:qgI (eX g)=bI (g.bB.flatMap cI++(cI g.data.size++sbs g.data++[])):=by
   unfold qgI
   rw [hC,if_neg (by dsimp only; omega)]
  have hN:qgN (eX g)=(g.bB,bI (cI g.data.size++sbs g.data++[])):=by
   unfold qgN
   rw [hC,hI]
   have:(min ((g.bB.length:Int)) 64).toNat=g.bB.length:=by omega
   dsimp only
   rw [this,Bb B0 g.bB [] d1,List.nil_append]
  have hT:qgT (eX g)=(g.data,bI []):=by
   unfold qgT
   rw [hN]
   exact HM g.data (λb hb=>by cases hb) (by omega)
  have hR:qgR (eX g)=g:=by
   unfold qgR
   rw [hA,hB,hN,hT]
  unfold kL
  rw [if_neg (by omega),hb,if_neg (by simp),hT,show ku (bI [])=0 from rfl,if_neg (λh=>h rfl),hR,h,if_neg (λh=>h rfl)]
theorem D6 (n:Int) (h0:0<=n) (h1:n<=1000001):fE n=some []:=by
 unfold fE
 have hn:decide (n < 0)=false:=decide_eq_false (by omega)
 have z:IntKind.i64.wrap (0 - 0)=0:=by decide
 rw [hn,cond_false,z,w64 (by omega) (by omega),Int.sub_zero]
 by_cases hp:n > 0
 ·have:decide (n > 0)=true:=decide_eq_true hp
  rw [this,cond_true,BM hp (by omega) (by omega),aA,cV (by omega) (by omega) (by omega),aA]
  rfl
 ·have:decide (n > 0)=false:=decide_eq_false hp
  rw [this,cond_false]
  rfl
theorem D7 (a:List aB) (x:aB) (c:List aB) (h:a.length+c.length<=1000000):dO [a,[x],c]=some (a++x::c):=by
 unfold dO
 rw [bY (s':=(1,(a.length:Int))),bY (s':=(2,(a.length:Int)+1)),bY (s':=(3,(a.length:Int)+1+c.length)),bC (r:=(a.length:Int)+1+c.length),aA,D6 _ (by omega) (by omega),aA,bY (s':=(1,a)),bY (s':=(2,a++[x])),bY (s':=(3,a++[x]++c)),bC (r:=a++[x]++c),aA,List.append_assoc]
 ·rfl
 ·rfl
 ·show (Option.bind (chk (cW (a++[x]).length c.length 16)) _)=_
  rw [bP (by simp; omega),aA]
  rfl
 ·show (Option.bind (chk (cW a.length 1 16)) _)=_
  rw [bP (by omega),aA]
  rfl
 ·show (Option.bind (chk (cW 0 a.length 16)) _)=_
  rw [bP (by omega),aA]
  rfl
 ·rfl
 ·show ((bif (decide ((IntKind.i64.wrap ((a.length:Int)+1+(c.length:Int))) < 0)) then none else some (.inl ((3:Int),(IntKind.i64.wrap ((a.length:Int)+1+(c.length:Int)))))):Option ((Int×Int) ⊕ Int))=_
  rw [w64 (by omega) (by omega),decide_eq_false (by omega),cond_false]
 ·show ((bif (decide ((IntKind.i64.wrap ((a.length:Int)+1)) < 0)) then none else some (.inl ((2:Int),(IntKind.i64.wrap ((a.length:Int)+1))))):Option ((Int×Int) ⊕ Int))=_
  rw [w64 (by omega) (by omega),decide_eq_false (by omega),cond_false]
 ·show ((bif (decide ((IntKind.i64.wrap (0+(a.length:Int))) < 0)) then none else some (.inl ((1:Int),(IntKind.i64.wrap (0+(a.length:Int)))))):Option ((Int×Int) ⊕ Int))=_
  rw [w64 (by omega) (by omega),decide_eq_false (by omega),cond_false,Int.zero_add]
def iq:List aB->aB->List aB
 | [],x=>[x]
 | y::l,x=>if y.to < x.from_ then y::iq l x else if y.from_ > x.to then x::y::l else iq l ⟨cD x.from_ y.from_,imax x.to y.to⟩
theorem pA: ∀ (l:List aB) (x:aB),(iq l x).length<=l.length+1
 | [],x=>by simp [iq]
 | y::l,x=>by
  unfold iq
  split
  ·have:=pA l x; simp; omega
  ·split
   ·simp
   ·have:=pA l ⟨cD x.from_ y.from_,imax x.to y.to⟩; simp; omega
def spB (x:aB):Prop:= -1152921504606846976<=x.from_/\x.from_<=1152921504606846976 /\ -1152921504606846976<=x.to/\x.to<=1152921504606846976
theorem Hc {x:aB} (h:spB x):eS x=some x:=by
 obtain ⟨a,b,c,d⟩:=h
 unfold eS imax cD
 cases x
 dsimp only at a b c d ⊢
 congr 2 <;> (repeat' split) <;> omega
def gY (s:List aB) (l:List aB):List aB:=l.foldl (λs x=>if x.to<=x.from_ then s else iq s x) s
theorem sU: ∀ (l s:List aB),(gY s l).length<=s.length+l.length
 | [],s=>Nat.le_refl _
 | x::l,s=>by
  have h:=sU l (if x.to<=x.from_ then s else iq s x)
  have h2:(if x.to<=x.from_ then s else iq s x).length<=s.length+1:=by split; omega; exact pA s x
  show (gY _ l).length<=_
  simp
  omega
theorem pX (s:List aB) (l:List aB) (hs:s.length+l.length<=1000000) (hl: ∀ x∈l,spB x):gB ⟨s⟩ l=some ⟨gY s l⟩:=by
 unfold gB
 refine dX (λn:Nat=>((⟨gY s (l.take n)⟩:cA),(n:Int))) l.length ⟨gY s l⟩ rfl (λn hn=> ?_) ?_ rfl
 ·dsimp only
  have hx:=hl _ (List.getElem_mem hn)
  have ht:gY s (l.take (n+1))=(if l[n].to<=l[n].from_ then gY s (l.take n) else iq (gY s (l.take n)) l[n]):=by
   unfold gY
   rw [List.take_succ_eq_append_getElem hn,List.foldl_append]
   rfl
  have hlen:=sU (l.take n) s
  rw [List.length_take] at hlen
  rw [decide_eq_true (by omega),cond_true,bG l n hn,aA,Hc hx,aA,show dI l[n]=some (decide (l[n].to<=l[n].from_)) from rfl,aA]
  generalize gY s (l.take n)=S at ht hlen ⊢
  by_cases c:l[n].to<=l[n].from_
  ·rw [decide_eq_true c,cond_true,aA,w64 (by omega) (by omega),ht,if_pos c]
   rfl
  ·rw [decide_eq_false c,cond_false,ht,if_neg c]
   have hg:(Option.bind (iter (σ:=aB×Int×(List aB)) (ρ:=((List aB)×aB) ⊕ cA) (λa=>(bif (decide (a.2.1 < (S.length:Int))) then (Option.bind ((Option.bind (idx S a.2.1) λb=>(bif (decide (b.to < a.1.from_)) then (Option.bind (chk (cW a.2.2.length [b].length 16)) λ_=>some (.inl ((a.2.2++[b]),a.1))) else (bif (decide (b.from_ > a.1.to)) then (Option.bind (chk (eL a.2.1 (S.length:Int) S.length)) λ_=>(Option.bind (dO ([a.2.2,[a.1],(cut S a.2.1 (S.length:Int))])) λd=>(ot (fD (some (cA.mk d)))))) else some (.inl (a.2.2,(aB.mk (cD a.1.from_ b.from_) (imax a.1.to b.to))))))):Option (((List aB)×aB) ⊕ ((aB×Int×(List aB)) ⊕ (((List aB)×aB) ⊕ cA)))) λ | .inl e14292=>some (.inl (e14292.2,(IntKind.i64.wrap (a.2.1+1)),e14292.1)) | .inr w=>some w) else some (.inr (.inl (a.2.2,a.1))))) (l[n],0,[])) λ | .inl e14097=>(Option.bind (chk (cW e14097.1.length [e14097.2].length 16)) λ_=>some (cA.mk (e14097.1++[e14097.2]))) | .inr w=>some w)=some ⟨iq S l[n]⟩:=by
    refine pj (λs:aB×Int×List aB=> ∃ k:Nat,s.2.1=k/\k<=S.length/\s.2.2.length<=k/\s.2.2++iq (S.drop k) s.1=iq S l[n]) (λs=>S.length - s.2.1.toNat) (λr=>(∃ o y,r = .inl (o,y)/\o++[y]=iq S l[n]/\o.length<=S.length)\/r = .inr ⟨iq S l[n]⟩) ⟨0,rfl,Nat.zero_le _,Nat.le_refl _,rfl⟩ ?_ ?_
    ·rintro ⟨x,i,o⟩ ⟨k,h1,h2,h3,h4⟩
     dsimp only at h1 h2 h3 h4 ⊢
     subst h1
     by_cases hk:k < S.length
     ·have hd:S.drop k=S[k]::S.drop (k+1):=List.drop_eq_getElem_cons hk
      rw [hd,iq] at h4
      rw [decide_eq_true (by omega),cond_true,bG S k hk,aA]
      by_cases c1:S[k].to < x.from_
      ·left
       rw [if_pos c1] at h4
       rw [decide_eq_true c1,cond_true,bP (by simp; omega),aA,aA]
       dsimp only
       rw [w64 (by omega) (by omega)]
       exact ⟨_,rfl,⟨k+1,by simp,hk,by simp; omega,by simpa using h4⟩,by dsimp only; omega⟩
      ·rw [if_neg c1] at h4
       rw [decide_eq_false c1,cond_false]
       by_cases c2:S[k].from_ > x.to
       ·right
        rw [if_pos c2] at h4
        rw [decide_eq_true c2,cond_true,cV (by omega) (by omega) (by omega),aA,D7 _ _ _ (by rw [q6]; simp; omega),aA,q6,List.take_of_length_le (Nat.le_refl _),hd,h4]
        exact ⟨_,rfl,.inr rfl⟩
       ·left
        rw [if_neg c2] at h4
        rw [decide_eq_false c2,cond_false,aA]
        dsimp only
        rw [w64 (by omega) (by omega)]
        exact ⟨_,rfl,⟨k+1,by simp,hk,by dsimp only; omega,h4⟩,by dsimp only; omega⟩
     ·right
      rw [decide_eq_false (by omega),cond_false]
      refine ⟨_,rfl,.inl ⟨o,x,rfl,?_,by omega⟩⟩
      rw [List.drop_eq_nil_of_le (by omega)] at h4
      exact h4
    ·rintro r (⟨o,y,rfl,h1,h2⟩ | rfl)
     ·dsimp only
      rw [bP (by simp; omega),aA,h1]
     ·rfl
   refine Eq.trans (congrArg (λz=>Option.bind z _) hg) ?_
   rw [aA,w64 (by omega) (by omega)]
   rfl
 ·dsimp only
  rw [decide_eq_false (by omega),cond_false,List.take_of_length_le (Nat.le_refl _)]
theorem fQ (a b:Int):cD a b<=a/\cD a b<=b/\(cD a b=a\/cD a b=b):=by unfold cD; split <;> omega
theorem gC (a b:Int):a<=imax a b/\b<=imax a b/\(imax a b=a\/imax a b=b):=by unfold imax; split <;> omega
def NF:Int->List aB->Prop
 | _,[]=>True
 | lo,x::l=>lo < x.from_/\x.from_ < x.to/\NF x.to l
def inP (l:List aB) (n:Int):Prop:= ∃ x∈l,x.from_<=n/\n < x.to
theorem eI {x:aB} {l:List aB} {n:Int}:inP (x::l) n↔(x.from_<=n/\n < x.to)\/inP l n:=by simp [inP]
theorem iJ {n:Int}: ¬ inP [] n:=by simp [inP]
theorem NF.mono: ∀ {l:List aB} {a b:Int},NF b l->a<=b->NF a l
 | [],_,_,_,_=>trivial
 | x::l,a,b,h,hab=>⟨by have:=h.1; omega,h.2⟩
theorem NF.gt: ∀ {l:List aB} {a n:Int},NF a l->inP l n->a < n
 | [],_,_,_,hn=>absurd hn iJ
 | x::l,a,n,h,hn=>by
  have h1:=h.1
  have h2:=h.2.1
  rcases eI.1 hn with h3 | h3
  ·omega
  ·have:=h.2.2.gt h3
   omega
theorem rB: ∀ (l:List aB) {lo:Int} {x:aB},NF lo l->lo < x.from_->x.from_ < x.to->NF lo (iq l x)
 | [],lo,x,h,h1,h2=>⟨h1,h2,trivial⟩
 | y::l,lo,x,h,h1,h2=>by
  have a1:=h.1
  have a2:=h.2.1
  rw [iq]
  split
  ·exact ⟨h.1,h.2.1,rB l h.2.2 (by omega) h2⟩
  ·split
   ·exact ⟨h1,h2,by omega,h.2.1,h.2.2⟩
   ·have:=fQ x.from_ y.from_
    have:=gC x.to y.to
    exact rB l (h.2.2.mono (by omega)) (by dsimp only; omega) (by dsimp only; omega)
theorem rC: ∀ (l:List aB) {lo:Int} {x:aB} {n:Int},NF lo l->x.from_ < x.to->(inP (iq l x) n↔inP l n\/(x.from_<=n/\n < x.to))
 | [],lo,x,n,h,h2=>by simp [iq,inP]
 | y::l,lo,x,n,h,h2=>by
  have a1:=h.1
  have a2:=h.2.1
  rw [iq]
  split
  ·rw [eI,eI,rC l h.2.2 h2,or_assoc]
  ·split
   ·rw [eI,eI]
    exact Or.comm
   ·have e1:=fQ x.from_ y.from_
    have e2:=gC x.to y.to
    rw [rC l h.2.2 (by dsimp only; omega),eI]
    dsimp only
    constructor
    ·rintro (h3 | h3)
     ·exact .inl (.inr h3)
     ·by_cases c:y.from_<=n/\n < y.to
      ·exact .inl (.inl c)
      ·exact .inr (by omega)
    ·rintro ((h3 | h3) | h3)
     ·exact .inr (by omega)
     ·exact .inl h3
     ·exact .inr (by omega)
theorem xe: ∀ {l l':List aB} {a b:Int},NF a l->NF b l'->(∀ n,inP l n↔inP l' n)->l=l'
 | [],[],_,_,_,_,_=>rfl
 | [],y::l',_,_,_,h',h=>absurd ((h y.from_).2 (eI.2 (.inl ⟨Int.le_refl _,h'.2.1⟩))) iJ
 | x::l,[],_,_,h1,_,h=>absurd ((h x.from_).1 (eI.2 (.inl ⟨Int.le_refl _,h1.2.1⟩))) iJ
 | x::l,y::l',a,b,h1,h',h=>by
  have p1:=h1.2.1
  have p2:=h'.2.1
  -- begins
  have b1: ∀ n,inP (x::l) n->x.from_<=n:=λn hn=>by
   rcases eI.1 hn with c | c
   ·exact c.1
   ·have:=h1.2.2.gt c; omega
  have b2: ∀ n,inP (y::l') n->y.from_<=n:=λn hn=>by
   rcases eI.1 hn with c | c
   ·exact c.1
   ·have:=h'.2.2.gt c; omega
  have e1:x.from_=y.from_:=by
   have:=b2 _ ((h x.from_).1 (eI.2 (.inl ⟨Int.le_refl _,p1⟩)))
   have:=b1 _ ((h y.from_).2 (eI.2 (.inl ⟨Int.le_refl _,p2⟩)))
   omega
  -- ends
  have n1: ¬ inP (x::l) x.to:=λhn=>by
   rcases eI.1 hn with c | c
   ·omega
   ·have:=h1.2.2.gt c; omega
  have n2: ¬ inP (y::l') y.to:=λhn=>by
   rcases eI.1 hn with c | c
   ·omega
   ·have:=h'.2.2.gt c; omega
  have e2:x.to=y.to:=by
   rcases Int.lt_trichotomy x.to y.to with c | c | c
   ·exact absurd ((h x.to).2 (eI.2 (.inl (by omega)))) n1
   ·exact c
   ·exact absurd ((h y.to).1 (eI.2 (.inl (by omega)))) n2
  have e3:x=y:=by cases x; cases y; simp_all
  subst e3
  rw [xe h1.2.2 h'.2.2 λn=> ?_]
  constructor
  ·intro hn
   rcases eI.1 ((h n).1 (eI.2 (.inr hn))) with c | c
   ·have:=h1.2.2.gt hn; omega
   ·exact c
  ·intro hn
   rcases eI.1 ((h n).2 (eI.2 (.inr hn))) with c | c
   ·have:=h'.2.2.gt hn; omega
   ·exact c
def eK:List aB->Int
 | []=>0
 | x::l=>x.to - x.from_+eK l
theorem sV: ∀ (l:List aB) {lo:Int} {x:aB},NF lo l->x.from_ < x.to->(∀ n,x.from_<=n->n < x.to -> ¬ inP l n)->eK (iq l x)=eK l+(x.to - x.from_)
 | [],lo,x,h,h2,h3=>by simp [iq,eK]
 | y::l,lo,x,h,h2,h3=>by
  have a1:=h.1
  have a2:=h.2.1
  have hl: ∀ n,x.from_<=n->n < x.to -> ¬ inP l n:=λn b1 b2 b3=>h3 n b1 b2 (eI.2 (.inr b3))
  rw [iq]
  split
  ·simp only [eK]
   rw [sV l h.2.2 h2 hl]
   omega
  ·split
   ·simp only [eK]
    omega
   ·have e1:=fQ x.from_ y.from_
    have e2:=gC x.to y.to
    have d1:y.to<=x.from_\/x.to<=y.from_:=by
     by_cases c:x.from_<=y.from_
     ·by_cases c2:y.from_ < x.to
      ·exact absurd (eI.2 (.inl ⟨Int.le_refl _,a2⟩)) (h3 y.from_ c c2)
      ·exact .inr (by omega)
     ·by_cases c2:x.from_ < y.to
      ·exact absurd (eI.2 (.inl ⟨by omega,c2⟩)) (h3 x.from_ (Int.le_refl _) h2)
      ·exact .inl (by omega)
    rw [sV l h.2.2 (by dsimp only; omega) (λn b1 b2 b3=> ?_)]
    ·show _=y.to - y.from_+eK l+_
     dsimp only; omega
    ·dsimp only at b1 b2
     have:=h.2.2.gt b3
     exact hl n (by omega) (by omega) b3
theorem xf: ∀ (l:List aB) {x:aB},x.from_<=x.to->(∀ y∈l,y.from_<=y.to)->eK (iq l x)<=eK l+(x.to - x.from_)/\(∀ y∈iq l x,y.from_<=y.to)
 | [],x,h,_=>⟨by simp [iq,eK],λy hy=>by rw [List.mem_singleton.1 hy]; exact h⟩
 | y::l,x,h,hl=>by
  have a:=hl y List.mem_cons_self
  have hl': ∀ y∈l,y.from_<=y.to:=λz hz=>hl z (List.mem_cons_of_mem _ hz)
  rw [iq]
  split
  ·obtain ⟨h1,h2⟩:=xf l h hl'
   refine ⟨by simp only [eK]; omega,λz hz=> ?_⟩
   rcases List.mem_cons.1 hz with rfl | hz
   ·exact a
   ·exact h2 z hz
  ·split
   ·refine ⟨by simp only [eK]; omega,λz hz=> ?_⟩
    rcases List.mem_cons.1 hz with rfl | hz
    ·exact h
    ·exact hl z hz
   ·have e1:=fQ x.from_ y.from_
    have e2:=gC x.to y.to
    obtain ⟨h1,h2⟩:=xf l (x:=⟨cD x.from_ y.from_,imax x.to y.to⟩) (by dsimp only; omega) hl'
    refine ⟨?_,h2⟩
    show _<=y.to - y.from_+eK l+_
    dsimp only at h1
    omega
def kU (s:List aB) (R:List Int):List aB:=R.foldl (λs i=>iq s ⟨i,i+1⟩) s
theorem oE: ∀ (R:List Int) (s:List aB),NF (-1) s->R.Nodup->(∀ i∈R,0<=i /\ ¬ inP s i)->NF (-1) (kU s R)/\(∀ n,inP (kU s R) n↔inP s n\/n∈R)/\eK (kU s R)=eK s+R.length
 | [],s,h,_,_=>⟨h,λn=>by simp [kU],by simp [kU]⟩
 | i::R,s,h,hn,hi=>by
  have h0:=hi i List.mem_cons_self
  have hn':=List.nodup_cons.1 hn
  have h1:NF (-1) (iq s ⟨i,i+1⟩):=rB s h (by dsimp only; omega) (by dsimp only; omega)
  have h2: ∀ n,inP (iq s ⟨i,i+1⟩) n↔inP s n\/n=i:=λn=>by
   rw [rC s h (by dsimp only; omega)]
   dsimp only
   constructor
   ·rintro (a | a)
    ·exact .inl a
    ·exact .inr (by omega)
   ·rintro (a | a)
    ·exact .inl a
    ·exact .inr (by omega)
  have h3:eK (iq s ⟨i,i+1⟩)=eK s+1:=by
   rw [sV s h (by dsimp only; omega) (λn a b c=>h0.2 (by dsimp only at a b; rw [show i=n by omega]; exact c))]
   dsimp only
   omega
  obtain ⟨q1,q2,q3⟩:=oE R _ h1 hn'.2 (λj hj=>⟨(hi j (List.mem_cons_of_mem _ hj)).1,λa=>by
   rcases (h2 j).1 a with a | a
   ·exact (hi j (List.mem_cons_of_mem _ hj)).2 a
   ·exact hn'.1 (a ▸ hj)⟩)
  refine ⟨q1,λn=> ?_,?_⟩
  ·show inP (kU (iq s ⟨i,i+1⟩) R) n↔_
   rw [q2,h2,or_assoc,List.mem_cons]
  ·show eK (kU (iq s ⟨i,i+1⟩) R)=_
   rw [q3,h3,List.length_cons]
   omega
theorem sW: ∀ (R:List Int) (s:List aB),(kU s R).length<=s.length+R.length
 | [],s=>Nat.le_refl _
 | i::R,s=>by
  have h:=sW R (iq s ⟨i,i+1⟩)
  have h2:=pA s ⟨i,i+1⟩
  show (kU (iq s ⟨i,i+1⟩) R).length<=_
  rw [List.length_cons]
  omega
theorem uY {R R':List Int} (hp:R'.Perm R) (hn:R.Nodup) (h0: ∀ i∈R,0<=i):kU [] R'=kU [] R:=by
 obtain ⟨a1,a2,_⟩:=oE R [] trivial hn (λi hi=>⟨h0 i hi,iJ⟩)
 obtain ⟨b1,b2,_⟩:=oE R' [] trivial (hp.nodup_iff.2 hn) (λi hi=>⟨h0 i (hp.mem_iff.1 hi),iJ⟩)
 refine xe b1 a1 λn=> ?_
 rw [a2,b2,hp.mem_iff]
theorem Gj (A:cA->Option (cA ⊕ cA)) (hA: ∀ s,A s=some (.inr s)) (B:Int×CacheEntry->cA->Option (cA ⊕ cA)) (hB: ∀ e s,B e s=Option.bind (gB s [(aB.mk e.1 (IntKind.i64.wrap (e.1+1)))]) λs2=>some (.inl s2)): ∀ (R:List (Int×CacheEntry)) (s:List aB),s.length+R.length<=900000->(∀ e∈R,0<=e.1/\e.1 < 1152921504606846976)->nw A B R ⟨s⟩=some ⟨kU s (R.map Prod.fst)⟩
 | [],s,_,_=>by
  unfold nw
  rw [hA]
  rfl
 | e::R,s,h,hr=>by
  have h0:=hr e List.mem_cons_self
  have hl:=pA s ⟨e.1,e.1+1⟩
  rw [List.length_cons] at h
  unfold nw
  rw [hB,w64 (by omega) (by omega),pX s _ (by simp; omega) (λx hx=>by rw [List.mem_singleton.1 hx]; refine ⟨?_,?_,?_,?_⟩ <;> (dsimp only; omega)),aA,aA]
  have ha:gY s [⟨e.1,e.1+1⟩]=iq s ⟨e.1,e.1+1⟩:=by
   show (if _ then _ else _)=_
   rw [if_neg (by dsimp only; omega)]
  rw [ha]
  exact Gj A hA B hB R _ (by omega) (λe he=>hr e (List.mem_cons_of_mem _ he))
theorem sX {c:aR} {m:List (Int×CacheEntry)} (hm:c.l=some m) (hl:m.length<=900000) (hk:(m.map Prod.fst).Nodup) (hr: ∀ e∈m,0<=e.1/\e.1 < 1152921504606846976):dN c=some (kU [] (m.map Prod.fst)):=by
 unfold dN
 have hk':=sW (m.map Prod.fst) []
 rw [List.length_map] at hk'
 have h0: ∀ i∈m.map Prod.fst,0<=i:=λi hi=>by
  obtain ⟨e,he,rfl⟩:=List.mem_map.1 hi
  exact (hr e he).1
 rw [hm,show chk (some m:Mp CacheEntry).isSome=some () from rfl,aA,Option.getD_some,wO (r:=⟨kU [] (m.map Prod.fst)⟩) λR hR=> ?_,aA]
 ·show Option.bind (Option.bind (chk (cW 0 (kU [] (m.map Prod.fst)).length 16)) _) _=_
  rw [bP (by simp at hk'; omega)]
  rfl
 ·rw [Gj _ (λ_=>rfl) _ (λ_ _=>rfl) R [] (by rw [hR.length_eq]; simpa using hl) (λe he=>hr e (hR.mem_iff.1 he)),uY (hR.map Prod.fst) hk h0]
def neS (p:aB):Bool:=decide (p.from_ < p.to)
def xh (x y:aB):List aB:=[⟨y.from_,cD y.to x.from_⟩,⟨imax y.from_ x.to,y.to⟩]
def o9 (x y:aB):List aB:=(xh x y).filter neS
theorem yv {α:Type} (f:α->List α) (h: ∀ y,(f y).length<=2): ∀ l:List α,(l.flatMap f).length<=2*l.length
 | []=>by simp
 | y::l=>by
  have h1:=h y
  have h2:=yv f h l
  simp only [List.flatMap_cons,List.length_append,List.length_cons]
  omega
theorem D8 (x y:aB):(o9 x y).length<=2:=List.length_filter_le neS (xh x y)
theorem Ab (l:List aB) (x:aB) (hl:l.length<=400000):iy (λa b=>(Option.bind (chk (cW a.length [b].length 16)) λ_=>some ((a++[b]),true))) ([]:(List aB)) l x=some (l.flatMap (o9 x)):=by
 unfold iy
 refine dX (λn:Nat=>((n:Int),(l.take n).flatMap (o9 x))) l.length (.inl (l.flatMap (o9 x))) rfl (λn hn=> ?_) ?_ rfl
 ·dsimp only
  have hlen:=yv (o9 x) (D8 x) (l.take n)
  rw [List.length_take] at hlen
  rw [decide_eq_true (by omega),cond_true,bG l n hn,aA,List.take_succ_eq_append_getElem hn,List.flatMap_append]
  generalize (l.take n).flatMap (o9 x)=o at hlen ⊢
  refine dX (λj:Nat=>((j:Int),o++((xh x l[n]).take j).filter neS)) 2 (.inl (o++o9 x l[n])) (by simp) (λj hj=> ?_) ?_ ?_
  ·dsimp only
   have hf:=List.length_filter_le neS ((xh x l[n]).take j)
   rw [List.length_take] at hf
   have h2:(xh x l[n]).length=2:=rfl
   rw [show ([(aB.mk l[n].from_ (cD l[n].to x.from_)),(aB.mk (imax l[n].from_ x.to) l[n].to)]:List aB)=xh x l[n] from rfl,decide_eq_true (by omega),cond_true,bG _ j (by omega),aA,List.take_succ_eq_append_getElem (by omega),List.filter_append]
   generalize (xh x l[n])[j]=p
   rw [show dI p=some (decide (p.to<=p.from_)) from rfl,aA]
   by_cases c:p.to<=p.from_
   ·rw [decide_eq_true c,Bool.not_true,cond_false,aA,cond_false,w64 (by omega) (by omega)]
    have:[p].filter neS=[]:=by simp [neS]; omega
    rw [this,List.append_nil]
    rfl
   ·rw [decide_eq_false c,Bool.not_false,cond_true,bP (by simp; omega),aA,aA,aA,Bool.not_true,cond_false,w64 (by omega) (by omega)]
    have:[p].filter neS=[p]:=by simp [neS]; omega
    rw [this,List.append_assoc]
    rfl
  ·dsimp only
   rw [show ([(aB.mk l[n].from_ (cD l[n].to x.from_)),(aB.mk (imax l[n].from_ x.to) l[n].to)]:List aB)=xh x l[n] from rfl]
   rfl
  ·show some _=some _
   rw [w64 (by omega) (by omega)]
   simp
 ·dsimp only
  rw [decide_eq_false (by omega),cond_false,List.take_of_length_le (Nat.le_refl _)]
def o5 (l:List aB) (x:aB):List aB:=if x.to<=x.from_ then l else l.flatMap (o9 x)
def nT (s l:List aB):List aB:=l.foldl o5 s
structure WS (k:Int) (s:List aB):Prop where
 b: ∀ y∈s,0<=y.from_/\y.from_ < y.to/\y.to<=1152921504606846976
 l:eK s<=k
theorem lP: ∀ a b:List aB,eK (a++b)=eK a+eK b
 | [],b=>by simp [eK]
 | x::a,b=>by simp only [List.cons_append,eK,lP a b]; omega
theorem WS.len {k:Int} {s:List aB} (h:WS k s):(s.length:Int)<=eK s:=by
 have: ∀ s:List aB,(∀ y∈s,0<=y.from_/\y.from_ < y.to/\y.to<=1152921504606846976)->(s.length:Int)<=eK s:=by
  intro s
  induction s with
  | nil=>intro _; simp [eK]
  | cons y s ih =>
   intro h
   have:=ih λz hz=>h z (List.mem_cons_of_mem _ hz)
   have:=h y List.mem_cons_self
   simp only [List.length_cons,eK]
   omega
 exact this s h.b
theorem FB {x y:aB} (hx:x.from_<=x.to) (hy:0<=y.from_/\y.from_ < y.to/\y.to<=1152921504606846976) (h0:0<=x.to):(∀ z∈o9 x y,0<=z.from_/\z.from_ < z.to/\z.to<=1152921504606846976)/\eK (o9 x y)<=y.to - y.from_:=by
 have e1:=fQ y.to x.from_
 have e2:=gC y.from_ x.to
 unfold o9 xh
 simp only [List.filter_cons,List.filter_nil,neS,decide_eq_true_eq]
 split <;> split <;> (constructor <;> simp only [eK,List.forall_mem_cons,List.not_mem_nil,false_implies,implies_true,and_true] <;> omega)
theorem WS.cut {k:Int} {s:List aB} (h:WS k s) {x:aB} (h0:0<=x.to):WS k (o5 s x):=by
 unfold o5
 split
 ·exact h
 ·have hx:x.from_<=x.to:=by omega
  have key: ∀ s:List aB,(∀ y∈s,0<=y.from_/\y.from_ < y.to/\y.to<=1152921504606846976)->(∀ z∈s.flatMap (o9 x),0<=z.from_/\z.from_ < z.to/\z.to<=1152921504606846976)/\eK (s.flatMap (o9 x))<=eK s:=by
   intro s
   induction s with
   | nil=>intro _; simp [eK]
   | cons y s ih =>
    intro h
    obtain ⟨a1,a2⟩:=ih λz hz=>h z (List.mem_cons_of_mem _ hz)
    obtain ⟨b1,b2⟩:=FB hx (h y List.mem_cons_self) h0
    simp only [List.flatMap_cons,lP,eK]
    refine ⟨λz hz=> ?_,by omega⟩
    rcases List.mem_append.1 hz with hz | hz
    ·exact b1 z hz
    ·exact a1 z hz
  obtain ⟨a1,a2⟩:=key s h.b
  exact ⟨a1,by have:=h.l; omega⟩
theorem WS.D9 {k:Int}: ∀ {l s:List aB},WS k s->(∀ x∈l,0<=x.to)->WS k (nT s l)
 | [],_,h,_=>h
 | x::l,s,h,hl=>WS.D9 (l:=l) (h.cut (hl x List.mem_cons_self)) λz hz=>hl z (List.mem_cons_of_mem _ hz)
def fJ (x:aB):aB:=⟨imax (-1152921504606846976) (cD x.from_ 1152921504606846976),imax (-1152921504606846976) (cD x.to 1152921504606846976)⟩
theorem tZ {x:aB} (h:0<=x.to):0<=(fJ x).to:=by
 have:=fQ x.to 1152921504606846976
 have:=gC (-1152921504606846976) (cD x.to 1152921504606846976)
 show 0<=imax _ _
 omega
theorem rD {k:Int} (hk:k<=100000) (s:List aB) (l:List aB) (hs:WS k s) (hl:l.length<=1000000) (hb: ∀ x∈l,0<=x.to):ir ⟨s⟩ l=some ⟨nT s (l.map fJ)⟩:=by
 unfold ir
 refine dX (λn:Nat=>((⟨nT s ((l.take n).map fJ)⟩:cA),(n:Int))) l.length ⟨nT s (l.map fJ)⟩ rfl (λn hn=> ?_) ?_ rfl
 ·dsimp only
  have hx:=hb _ (List.getElem_mem hn)
  have hw:WS k (nT s ((l.take n).map fJ)):=hs.D9 λx hx=>by
   obtain ⟨y,hy,rfl⟩:=List.mem_map.1 hx
   exact tZ (hb y (List.mem_of_mem_take hy))
  have ht:nT s ((l.take (n+1)).map fJ)=o5 (nT s ((l.take n).map fJ)) (fJ l[n]):=by
   unfold nT
   rw [List.take_succ_eq_append_getElem hn,List.map_append,List.foldl_append]
   rfl
  rw [decide_eq_true (by omega),cond_true,bG l n hn,aA,show eS l[n]=some (fJ l[n]) from rfl,aA,show dI (fJ l[n])=some (decide ((fJ l[n]).to<=(fJ l[n]).from_)) from rfl,aA]
  generalize nT s ((l.take n).map fJ)=S at ht hw ⊢
  generalize fJ l[n]=y at ht ⊢
  by_cases c:y.to<=y.from_
  ·rw [decide_eq_true c,cond_true,aA,w64 (by omega) (by omega),ht,o5,if_pos c]
   rfl
  ·have hlen:=hw.len
   have hl2:=hw.l
   rw [decide_eq_false c,cond_false,ht,o5,if_neg c,show kW S y=some (S,y) from rfl,aA]
   dsimp only
   rw [Ab S y (by omega),aA,aA,w64 (by omega) (by omega)]
   rfl
 ·dsimp only
  rw [decide_eq_false (by omega),cond_false,List.take_of_length_le (Nat.le_refl _)]
def nU (x y:aB):aB:=⟨imax y.from_ x.from_,cD y.to x.to⟩
def inL (s:List aB) (x:aB):List aB:=(s.map (nU x)).filter neS
theorem ua (s:List aB) (x:aB):(inL s x).length<=s.length:=by
 have:=List.length_filter_le neS (s.map (nU x))
 rw [List.length_map] at this
 exact this
theorem uZ (s:List aB) (x:aB) (hs:s.length<=1000000):jc ⟨s⟩ x=some (inL s (fJ x)):=by
 unfold jc
 refine dX (λn:Nat=>((n:Int),inL (s.take n) (fJ x))) s.length (inL s (fJ x)) rfl (λn hn=> ?_) ?_ rfl
 ·dsimp only
  have hlen:=ua (s.take n) (fJ x)
  rw [List.length_take] at hlen
  have ht:inL (s.take (n+1)) (fJ x)=inL (s.take n) (fJ x)++[nU (fJ x) s[n]].filter neS:=by
   unfold inL
   rw [List.take_succ_eq_append_getElem hn,List.map_append,List.filter_append]
   rfl
  rw [decide_eq_true (by omega),cond_true,bG s n hn,aA,show eS x=some (fJ x) from rfl,aA,show jZ s[n] (fJ x)=some (nU (fJ x) s[n]) from rfl,aA,ht]
  generalize nU (fJ x) s[n]=p
  generalize inL (s.take n) (fJ x)=o at hlen ⊢
  rw [show dI p=some (decide (p.to<=p.from_)) from rfl,aA]
  by_cases c:p.to<=p.from_
  ·have:[p].filter neS=[]:=by simp [neS]; omega
   rw [decide_eq_true c,Bool.not_true,cond_false,aA,w64 (by omega) (by omega),this,List.append_nil]
   rfl
  ·have:[p].filter neS=[p]:=by simp [neS]; omega
   rw [decide_eq_false c,Bool.not_false,cond_true,bP (by simp; omega),aA,aA,w64 (by omega) (by omega),this]
   rfl
 ·dsimp only
  rw [decide_eq_false (by omega),cond_false,List.take_of_length_le (Nat.le_refl _)]
theorem Ea {k:Int} {x:aB}: ∀ {s:List aB},WS k s->(∀ z∈inL s x,(0<=z.from_/\z.from_ < z.to/\z.to<=1152921504606846976)/\z.to<=x.to /\ ∀ n,z.from_<=n->n < z.to->inP s n)/\eK (inL s x)<=eK s:=by
 intro s h
 have key: ∀ s:List aB,(∀ y∈s,0<=y.from_/\y.from_ < y.to/\y.to<=1152921504606846976)->eK (inL s x)<=eK s:=by
  intro s
  induction s with
  | nil=>intro _; simp [inL,eK]
  | cons y s ih =>
   intro h
   have ih:=ih λz hz=>h z (List.mem_cons_of_mem _ hz)
   have hy:=h y List.mem_cons_self
   have e1:=fQ y.to x.to
   have e2:=gC y.from_ x.from_
   have:inL (y::s) x=[nU x y].filter neS++inL s x:=by unfold inL; rw [List.map_cons]; exact List.filter_append (p:=neS) [nU x y] _
   rw [this,lP]
   have:eK ([nU x y].filter neS)<=y.to - y.from_:=by
    by_cases c:neS (nU x y)=true
    ·rw [List.filter_cons_of_pos c]; show cD y.to x.to - imax y.from_ x.from_+0<=_; omega
    ·rw [List.filter_cons_of_neg c]; show (0:Int)<=_; omega
   show _<=y.to - y.from_+eK s
   omega
 refine ⟨λz hz=> ?_,key s h.b⟩
 obtain ⟨hz1,hz2⟩:=List.mem_filter.1 hz
 obtain ⟨y,hy,rfl⟩:=List.mem_map.1 hz1
 have hb:=h.b y hy
 have e1:=fQ y.to x.to
 have e2:=gC y.from_ x.from_
 have hn:imax y.from_ x.from_ < cD y.to x.to:=of_decide_eq_true hz2
 refine ⟨⟨?_,hn,?_⟩,e1.2.1,λn h1 h2=>⟨y,hy,?_,?_⟩⟩
 ·show 0<=imax _ _; omega
 ·show cD _ _<=_; omega
 ·change imax _ _<=n at h1; omega
 ·change n < cD _ _ at h2; omega
theorem xi {k:Int} {s:List aB} (h:WS k s) (hk:k<=1000000):jJ ⟨s⟩=some (eK s):=by
 unfold jJ
 have hlen:=h.len
 have hl:=h.l
 have hp: ∀ n:Nat,0<=eK (s.take n)/\eK (s.take n)<=eK s:=λn=>by
  have e:=lP (s.take n) (s.drop n)
  rw [List.take_append_drop] at e
  have:WS k (s.take n)->True:=λ_=>trivial
  have nn: ∀ l:List aB,(∀ y∈l,y∈s)->0<=eK l:=by
   intro l
   induction l with
   | nil=>intro _; exact Int.le_refl _
   | cons y l ih =>
    intro hy
    have:=ih λz hz=>hy z (List.mem_cons_of_mem _ hz)
    have:=h.b y (hy y List.mem_cons_self)
    show 0<=y.to - y.from_+eK l
    omega
  have a1:=nn (s.take n) λy hy=>List.mem_of_mem_take hy
  have a2:=nn (s.drop n) λy hy=>List.mem_of_mem_drop hy
  omega
 refine dX (λn:Nat=>((n:Int),eK (s.take n))) s.length (eK s) rfl (λn hn=> ?_) ?_ rfl
 ·dsimp only
  have hb:=h.b _ (List.getElem_mem hn)
  have h1:=hp n
  have h2:=hp (n+1)
  rw [List.take_succ_eq_append_getElem hn,lP] at h2 ⊢
  have e:eK [s[n]]=s[n].to - s[n].from_:=by show _+0=_; omega
  rw [e] at h2 ⊢
  rw [decide_eq_true (by omega),cond_true,bG s n hn,aA,w64 (x:=s[n].to - s[n].from_) (by omega) (by omega),w64 (x:=(n:Int)+1) (by omega) (by omega),w64 (by omega) (by omega)]
  rfl
 ·dsimp only
  rw [decide_eq_false (by omega),cond_false,List.take_of_length_le (Nat.le_refl _)]
theorem FC (s:List aB) (i:Int) (hs:s.length<=1000000): ∃ b,gT ⟨s⟩ i=some b/\(b=true->inP s i):=by
 have key: ∃ j:Int,cB s i=some j/\(0<=j->inP s i):=by
  unfold cB
  have hst: ∀ z:Int,(∃ n:Nat,z=n/\n<=s.length)->(∃ z',(λs52:Int=>((bif (decide (s52 < (s.length:Int))) then (Option.bind (idx s s52) λa=>(Option.bind (cT a i) λd=>(bif d then (fD (some s52)) else some (.inl (IntKind.i64.wrap (s52+1)))))) else some (.inr (.inl ()))):Option (Int ⊕ (Unit ⊕ Int)))) z=some (.inl z')/\(∃ n:Nat,z'=n/\n<=s.length)/\s.length - z'.toNat < s.length - z.toNat)\/(∃ r,(λs52:Int=>((bif (decide (s52 < (s.length:Int))) then (Option.bind (idx s s52) λa=>(Option.bind (cT a i) λd=>(bif d then (fD (some s52)) else some (.inl (IntKind.i64.wrap (s52+1)))))) else some (.inr (.inl ()))):Option (Int ⊕ (Unit ⊕ Int)))) z=some (.inr r)/\(r = .inl () \/ ∃ j,r = .inr j/\inP s i)):=by
   rintro _ ⟨n,rfl,hn⟩
   dsimp only
   by_cases c:n < s.length
   ·rw [decide_eq_true (by omega),cond_true,bG s n c,aA]
    by_cases c2:i>=s[n].from_/\i < s[n].to
    ·right
     refine ⟨_,?_,.inr ⟨(n:Int),rfl,s[n],List.getElem_mem c,c2⟩⟩
     rw [show cT s[n] i=some true by unfold cT; rw [decide_eq_true c2.1,decide_eq_true c2.2]; rfl,aA,cond_true]
     rfl
    ·left
     rw [show cT s[n] i=some false by
      unfold cT
      by_cases c3:i>=s[n].from_
      ·rw [decide_eq_true c3,decide_eq_false (by omega)]; rfl
      ·rw [decide_eq_false c3]; rfl,aA,cond_false,w64 (by omega) (by omega)]
     exact ⟨_,rfl,⟨n+1,rfl,c⟩,by omega⟩
   ·right
    rw [decide_eq_false (by omega),cond_false]
    exact ⟨_,rfl,.inl rfl⟩
  obtain ⟨r,e1,e2⟩:=ox (σ:=Int) (λz=> ∃ n:Nat,z=n/\n<=s.length) (λz=>s.length - z.toNat) _ hst 0 ⟨0,rfl,Nat.zero_le _⟩
  refine Exists.imp (λj h=>⟨(congrArg (λz=>Option.bind z _) e1).trans h.1,h.2⟩) (?_: ∃ j:Int,_/\(0<=j->inP s i))
  rw [aA]
  rcases e2 with rfl | ⟨j,rfl,h⟩
  ·exact ⟨-1,rfl,λh=>by omega⟩
  ·exact ⟨j,rfl,λ_=>h⟩
 obtain ⟨j,h1,h2⟩:=key
 refine ⟨decide (j>=0),?_,λh=>h2 (of_decide_eq_true h)⟩
 unfold gT cM
 dsimp only
 rw [h1]
 rfl
def sp (x:aD):aB:=⟨x.from_,x.to⟩
def rsp (l:List aD):List aB:=l.map sp
def hsR (l:List aD) (n:Int):Bool:=l.any λx:aD=>decide (n>=x.from_) && decide (n < x.to)
theorem rE {l:List aD} {n:Int}:hsR l n=true↔inP (rsp l) n:=by
 simp only [hsR,List.any_eq_true,Bool.and_eq_true,decide_eq_true_eq,inP,rsp,List.mem_map]
 exact ⟨λ⟨x,hx,h⟩=>⟨sp x,⟨x,hx,rfl⟩,h⟩,λ⟨_,⟨x,hx,rfl⟩,h⟩=>⟨x,hx,h⟩⟩
theorem Ec {α ρ:Type} (l:List α) (p:α->Bool) (y n:ρ) {f:Int->Option (Int ⊕ ρ)} (h: ∀ i (hi:i < l.length),f (i:Int)=if p l[i]=true then some (.inr y) else some (.inl ((i+1:Nat):Int))) (he:f (l.length:Int)=some (.inr n)):iter f 0=some (if l.any p=true then y else n):=by
 have key: ∀ k i,i+k=l.length->iter f (i:Int)=some (if (l.drop i).any p=true then y else n):=by
  intro k
  induction k with
  | zero =>
   intro i hi
   obtain rfl:i=l.length:=by omega
   rw [bC he,List.drop_length]
   rfl
  | succ k ih =>
   intro i hi
   have hlt:i < l.length:=by omega
   have h1:=h i hlt
   rw [List.drop_eq_getElem_cons hlt,List.any_cons]
   by_cases c:p l[i]=true
   ·rw [if_pos c] at h1
    rw [bC h1,c,Bool.true_or,if_pos rfl]
   ·rw [if_neg c] at h1
    rw [bY h1,ih (i+1) (by omega),Bool.eq_false_iff.2 c,Bool.false_or]
 exact key l.length 0 (by omega)
theorem xj (l:List aD) (n:Int) (hl:l.length<=4000000):km l n=some (hsR l n):=by
 unfold km
 rw [Ec l (λx:aD=>decide (n>=x.from_) && decide (n < x.to)) (.inr true) (.inl ()) (λi hi=> ?_) ?_,aA]
 ·show _=some (l.any _)
  cases l.any λx:aD=>decide (n>=x.from_) && decide (n < x.to) <;> rfl
 ·rw [decide_eq_false (by omega)]
  rfl
 ·rw [decide_eq_true (by omega),cond_true,bG l i hi,aA,w64 (by omega) (by omega)]
  cases decide (n>=l[i].from_) <;> cases decide (n < l[i].to) <;> rfl
def lQ (mode:Int) (x y:Bool):Bool:=if mode=0 then x || y else if mode=1 then x && !y else if mode=2 then x && y else !x && y
theorem FD (mode:Int) (x y:Bool):lC mode x y=some (lQ mode x y):=by
 unfold lC lQ
 by_cases c0:mode=0
 ·subst c0; cases x <;> cases y <;> rfl
 ·rw [beq_eq_false_iff_ne.2 c0,cond_false,if_neg c0]
  by_cases c1:mode=1
  ·subst c1; cases x <;> cases y <;> rfl
  ·rw [beq_eq_false_iff_ne.2 c1,cond_false,if_neg c1]
   by_cases c2:mode=2
   ·subst c2; cases x <;> cases y <;> rfl
   ·rw [beq_eq_false_iff_ne.2 c2,cond_false,if_neg c2]
    cases x <;> cases y <;> rfl
theorem u0 (mode:Int):lQ mode false false=false:=by unfold lQ; split <;> simp
def nr (e:Int):List Int->List Int
 | []=>[e]
 | x::l=>if x < e then x::nr e l else if x=e then x::l else e::x::l
def jN (e:Int):List Int->Nat
 | []=>0
 | x::l=>if x < e then jN e l+1 else 0
theorem Bc (e:Int): ∀ l,jN e l<=l.length
 | []=>Nat.le_refl _
 | x::l=>by
  have:=Bc e l
  simp only [jN,List.length_cons]
  split <;> omega
theorem Bd (e:Int): ∀ l i (h:i < l.length),i < jN e l->l[i] < e
 | x::l,0,h,hi=>by
  simp only [jN] at hi
  split at hi
  ·assumption
  ·omega
 | x::l,i+1,h,hi=>by
  simp only [jN] at hi
  split at hi
  ·exact Bd e l i (by simpa using h) (by omega)
  ·omega
theorem yw (e:Int): ∀ l (h:jN e l < l.length),¬ l[jN e l] < e
 | x::l,h=>by
  by_cases c:x < e
  ·have e1:jN e (x::l)=jN e l+1:=if_pos c
   simp only [e1,List.getElem_cons_succ]
   exact yw e l (by rw [e1] at h; simpa using h)
  ·have e1:jN e (x::l)=0:=if_neg c
   simp only [e1,List.getElem_cons_zero]
   exact c
theorem yx (e:Int): ∀ l,nr e l=if l[jN e l]?=some e then l else l.take (jN e l)++([e]++l.drop (jN e l))
 | []=>rfl
 | x::l=>by
  by_cases c:x < e
  ·have e1:jN e (x::l)=jN e l+1:=if_pos c
   rw [nr,if_pos c,yx e l,e1,List.getElem?_cons_succ]
   split <;> rfl
  ·have e1:jN e (x::l)=0:=if_neg c
   rw [nr,if_neg c,e1,List.getElem?_cons_zero]
   by_cases c2:x=e
   ·rw [if_pos c2,if_pos (by rw [c2])]
   ·rw [if_neg c2,if_neg (by simpa using c2)]
    rfl
theorem rF {e n:Int}: ∀ {l},n∈nr e l↔n=e\/n∈l
 | []=>by simp [nr]
 | x::l=>by
  rw [nr]
  split
  ·rw [List.mem_cons,rF,List.mem_cons]
   exact ⟨λh=>by rcases h with h | h | h <;> simp [h],λh=>by rcases h with h | h | h <;> simp [h]⟩
  ·split
   ·rename_i h
    subst h
    simp
   ·simp
theorem pB {e:Int}: ∀ l,(nr e l).length<=l.length+1
 | []=>Nat.le_refl _
 | x::l=>by
  have:=pB (e:=e) l
  rw [nr]
  split
  ·simp only [List.length_cons]; omega
  ·split <;> simp
theorem sY {e:Int}: ∀ {l},l.Pairwise (· < ·)->(nr e l).Pairwise (· < ·)
 | [],_=>List.pairwise_singleton _ _
 | x::l,h=>by
  have h1:=List.pairwise_cons.1 h
  rw [nr]
  split
  ·rename_i c
   refine List.pairwise_cons.2 ⟨λy hy=> ?_,sY h1.2⟩
   rcases rF.1 hy with rfl | hy
   ·exact c
   ·exact h1.1 y hy
  ·split
   ·exact h
   ·refine List.pairwise_cons.2 ⟨λy hy=> ?_,h⟩
    rcases List.mem_cons.1 hy with rfl | hy
    ·omega
    ·have:=h1.1 y hy; omega
def me (l:List aD):List Int:=l.foldl (λE x=>nr x.to (nr x.from_ E)) []
theorem yy (l:List aD) (x:aD):me (l++[x])=nr x.to (nr x.from_ (me l)):=by
 unfold me
 rw [List.foldl_append]
 rfl
theorem Ad (l:List aD):(me l).Pairwise (· < ·)/\(me l).length<=2*l.length /\ ∀ n,n∈me l ↔ ∃ x∈l,n=x.from_\/n=x.to:=by
 have key: ∀ k,k<=l.length->(me (l.take k)).Pairwise (· < ·)/\(me (l.take k)).length<=2*k /\ ∀ n,n∈me (l.take k) ↔ ∃ x∈l.take k,n=x.from_\/n=x.to:=by
  intro k
  induction k with
  | zero=>intro _; exact ⟨.nil,Nat.le_refl _,λn=>by simp [me]⟩
  | succ k ih =>
   intro hk
   obtain ⟨h1,h2,h3⟩:=ih (by omega)
   rw [List.take_succ_eq_append_getElem (by omega),yy]
   refine ⟨sY (sY h1),?_,λn=> ?_⟩
   ·have a1:=pB (e:=l[k].to) (nr l[k].from_ (me (l.take k)))
    have a2:=pB (e:=l[k].from_) (me (l.take k))
    omega
   ·rw [rF,rF,h3]
    simp only [List.mem_append,List.mem_singleton]
    constructor
    ·rintro (h | h | ⟨x,hx,h⟩)
     ·exact ⟨_,.inr rfl,.inr h⟩
     ·exact ⟨_,.inr rfl,.inl h⟩
     ·exact ⟨x,.inl hx,h⟩
    ·rintro ⟨x,hx | rfl,h⟩
     ·exact .inr (.inr ⟨x,hx,h⟩)
     ·rcases h with h | h
      ·exact .inr (.inl h)
      ·exact .inl h
 have:=key l.length (Nat.le_refl _)
 rwa [List.take_of_length_le (Nat.le_refl _)] at this
theorem yz (E:List Int) (e:Int) (hl:E.length<=4000000):(Option.bind (iter (σ:=Int) (ρ:=Int) (λb=>(Option.bind ((bif (decide (b < (E.length:Int))) then (Option.bind (idx E b) λd=>some (decide (d < e))) else some false):Option Bool) λf=>(bif f then some (.inl (IntKind.i64.wrap (b+1))) else some (.inr b)))) 0) λa=>(Option.bind ((bif (a == (E.length:Int)) then some true else (Option.bind (idx E a) λg=>some (g != e))):Option Bool) λh=>(bif h then (Option.bind (chk (eL 0 a E.length)) λ_=>(Option.bind (chk (eL a (E.length:Int) E.length)) λ_=>(Option.bind (chk (cW [e].length (cut E a (E.length:Int)).length 8)) λ_=>(Option.bind (chk (cW (cut E 0 a).length ([e]++(cut E a (E.length:Int))).length 8)) λ_=>some ((cut E 0 a)++([e]++(cut E a (E.length:Int)))))))) else some E)))=some (nr e E):=by
 have hc:=Bc e E
 refine dX (λn:Nat=>(n:Int)) (jN e E) ((jN e E:Nat):Int) rfl (λi hi=> ?_) ?_ ?_
 ·rw [decide_eq_true (by omega),cond_true,bG E i (by omega),aA,aA,decide_eq_true (Bd e E i (by omega) hi),cond_true,w64 (by omega) (by omega)]
  rfl
 ·by_cases c:jN e E < E.length
  ·rw [decide_eq_true (by omega),cond_true,bG E _ c,aA,aA,decide_eq_false (yw e E c)]
   rfl
  ·rw [decide_eq_false (by omega)]
   rfl
 ·have e1:cut E 0 ((jN e E:Nat):Int)=E.take (jN e E):=by simp [cut]
  have e2:cut E ((jN e E:Nat):Int) (E.length:Int)=E.drop (jN e E):=by simp [cut]
  have h1:(E.take (jN e E)).length<=4000000:=by rw [List.length_take]; omega
  have h2:(E.drop (jN e E)).length<=4000000:=by rw [List.length_drop]; omega
  rw [yx,e1,e2]
  have key:(Option.bind (chk (eL 0 ((jN e E:Nat):Int) E.length)) λ_=>(Option.bind (chk (eL ((jN e E:Nat):Int) (E.length:Int) E.length)) λ_=>(Option.bind (chk (cW [e].length (E.drop (jN e E)).length 8)) λ_=>(Option.bind (chk (cW (E.take (jN e E)).length ([e]++(E.drop (jN e E))).length 8)) λ_=>some ((E.take (jN e E))++([e]++(E.drop (jN e E))))))))=some ((E.take (jN e E))++([e]++(E.drop (jN e E)))):=by
   rw [cV (by omega) (by omega) (by omega),aA,cV (by omega) (by omega) (by omega),aA,bP (by simp at h2 ⊢; omega),aA,bP (by simp at h1 h2 ⊢; omega),aA]
  rw [key]
  by_cases c:jN e E < E.length
  ·rw [beq_eq_false_iff_ne.2 (by omega),cond_false,bG E _ c,aA,List.getElem?_eq_getElem c,aA]
   by_cases c2:E[jN e E]=e
   ·rw [if_pos (by rw [c2]),c2,bne_self_eq_false]
    rfl
   ·rw [if_neg (by simpa using c2),bne_iff_ne.2 c2]
    rfl
  ·have e3:jN e E=E.length:=by omega
   rw [beq_iff_eq.2 (by omega),cond_true,aA,cond_true,if_neg (by rw [List.getElem?_eq_none (by omega)]; simp)]
theorem B6 {α:Type} (l:List α) (x:α):(l++[x]).getLast?=some x:=List.getLast?_concat
def B7 (out:List aD) (e e':Int):List aD:=match out.getLast? with
 | some x=>if x.to=e then out.dropLast++[⟨x.from_,e'⟩] else out++[⟨e,e'⟩]
 | none=>out++[⟨e,e'⟩]
theorem sZ (o:List aD) (x:aD) (e e':Int):B7 (o++[x]) e e'=if x.to=e then o++[⟨x.from_,e'⟩] else o++[x]++[⟨e,e'⟩]:=by
 simp only [B7,B6,List.dropLast_concat]
theorem Ed (out:List aD) (e e':Int):(B7 out e e').length<=out.length+1:=by
 rcases List.eq_nil_or_concat out with rfl | ⟨o,x,rfl⟩
 ·exact Nat.le_refl _
 ·rw [List.concat_eq_append,sZ]
  split <;> simp
theorem Ee (E:List Int) (out:List aD) (i:Nat) (hi:i+1 < E.length) (hE:E.length<=4000000) (ho:out.length<=4000000):(Option.bind ((bif (decide ((out.length:Int) > 0)) then (Option.bind (idx out (IntKind.i64.wrap ((out.length:Int) - 1))) λb=>some (b.to == E[i])) else some false):Option Bool) λd=>(bif d then (Option.bind (idx E (IntKind.i64.wrap ((i:Int)+1))) λe=>(Option.bind (idx out (IntKind.i64.wrap ((out.length:Int) - 1))) λf=>some (out.set ((IntKind.i64.wrap ((out.length:Int) - 1)).toNat) (aD.mk f.from_ e)))) else (Option.bind (idx E (IntKind.i64.wrap ((i:Int)+1))) λa=>(Option.bind (chk (cW out.length [(aD.mk E[i] a)].length 16)) λ_=>some (out++[(aD.mk E[i] a)])))))=some (B7 out E[i] E[i+1]):=by
 rw [w64 (x:=(i:Int)+1) (by omega) (by omega),w64 (x:=(out.length:Int) - 1) (by omega) (by omega),show ((i:Int)+1)=((i+1:Nat):Int) by omega,bG E (i+1) hi]
 rcases List.eq_nil_or_concat out with rfl | ⟨o,x,rfl⟩
 ·rfl
 ·rw [List.concat_eq_append] at ho ⊢
  have hl:(o++[x]).length=o.length+1:=by simp
  have e1:(((o++[x]).length:Nat):Int) - 1=((o.length:Nat):Int):=by omega
  have e2:idx (o++[x]) ((o.length:Nat):Int)=some x:=by rw [bG _ _ (by omega)]; simp
  rw [sZ,e1,e2,decide_eq_true (by omega),cond_true,aA,aA]
  by_cases c:x.to=E[i]
  ·rw [if_pos c,beq_iff_eq.2 c,cond_true,aA,aA,show ((o.length:Nat):Int).toNat=o.length by omega]
   simp
  ·rw [if_neg c,beq_eq_false_iff_ne.2 c,cond_false,aA,bP (by simp at ho ⊢; omega),aA]
def rG (K:Int->Bool):List Int->Nat->List aD
 | _,0=>[]
 | E,i+1=>match E[i]?,E[i+1]? with
  | some e,some e'=>if K e=true then B7 (rG K E i) e e' else rG K E i
  | _,_=>rG K E i
theorem yA (K:Int->Bool) (E:List Int): ∀ i,(rG K E i).length<=i
 | 0=>Nat.le_refl _
 | i+1=>by
  have ih:=yA K E i
  rw [rG]
  split
  ·rename_i e e' h1 h2
   have:=Ed (rG K E i) e e'
   split <;> omega
  ·omega
theorem B8 (a b:List aD) (mode:Int) (h:a.length+b.length<=1000000):hU a b mode=some (rG (λn=>lQ mode (hsR a n) (hsR b n)) (me (a++b)) ((me (a++b)).length - 1)):=by
 unfold hU
 rw [List.nil_append,bP (by simp; omega),aA,bP (by omega),aA]
 have hL:(a++b).length<=1000000:=by rw [List.length_append]; omega
 generalize hLL:a++b=L at hL ⊢
 have hE:=(Ad L).2.1
 refine dX (λn:Nat=>((n:Int),me (L.take n))) L.length (me L) rfl (λi hi=> ?_) ?_ ?_
 ·dsimp only
  have hT:=(Ad (L.take i)).2.1
  rw [List.length_take] at hT
  rw [decide_eq_true (by omega),cond_true,bG L i hi,aA,List.take_succ_eq_append_getElem hi,yy,w64 (by omega) (by omega)]
  generalize me (L.take i)=T at hT ⊢
  have h1:=pB (e:=L[i].from_) T
  have h2:=pB (e:=L[i].to) (nr L[i].from_ T)
  refine dX (λn:Nat=>((n:Int),if n=0 then T else if n=1 then nr L[i].from_ T else nr L[i].to (nr L[i].from_ T))) 2 (nr L[i].to (nr L[i].from_ T)) rfl (λj hj=> ?_) rfl rfl
  have:j=0\/j=1:=by omega
  rcases this with rfl | rfl
  ·have:=yz T L[i].from_ (by omega)
   dsimp only
   rw [show idx [L[i].from_,L[i].to] ((0:Nat):Int)=some L[i].from_ from rfl,aA]
   erw [this]
   rfl
  ·have:=yz (nr L[i].from_ T) L[i].to (by omega)
   dsimp only
   rw [show idx [L[i].from_,L[i].to] ((1:Nat):Int)=some L[i].to from rfl,aA]
   erw [this]
   rfl
 ·dsimp only
  rw [decide_eq_false (by omega),cond_false,List.take_of_length_le (Nat.le_refl _)]
 ·generalize hEE:me L=E at hE ⊢
  refine dX (λn:Nat=>(rG (λn=>lQ mode (hsR a n) (hsR b n)) E n,(n:Int))) (E.length - 1) _ rfl (λi hi=> ?_) ?_ rfl
  ·dsimp only
   have hlen:=yA (λn=>lQ mode (hsR a n) (hsR b n)) E i
   rw [w64 (x:=(i:Int)+1) (by omega) (by omega),decide_eq_true (by omega),cond_true,bG E i (by omega),aA,xj a _ (by omega),aA,xj b _ (by omega),aA,FD,aA]
   rw [rG,List.getElem?_eq_getElem (show i < E.length by omega),List.getElem?_eq_getElem (show i+1 < E.length by omega)]
   dsimp only
   cases lQ mode (hsR a E[i]) (hsR b E[i]) with
   | false=>rfl
   | true =>
    have:=Ee E (rG (λn=>lQ mode (hsR a n) (hsR b n)) E i) i (by omega) (by omega) (by omega)
    rw [w64 (x:=(i:Int)+1) (by omega) (by omega)] at this
    rw [Bool.not_true,cond_false,this,if_pos rfl]
    rfl
  ·dsimp only
   rw [w64 (by omega) (by omega),decide_eq_false (by omega)]
   rfl
theorem xk: ∀ {p q:List aB} {lo t:Int},NF lo p->(∀ z∈p,z.to<=t)->lo<=t->NF t q->NF lo (p++q)
 | [],q,lo,t,_,_,h,hq=>hq.mono h
 | x::p,q,lo,t,hp,hz,h,hq=>⟨hp.1,hp.2.1,xk hp.2.2 (λz hz'=>hz z (List.mem_cons_of_mem _ hz')) (hz x List.mem_cons_self) hq⟩
theorem Be: ∀ {p q:List aB} {lo:Int},NF lo (p++q)->NF lo p
 | [],_,_,_=>trivial
 | x::p,q,lo,h=>⟨h.1,h.2.1,Be h.2.2⟩
theorem Ef: ∀ {p:List aB} {x:aB} {lo:Int},NF lo (p++[x])->lo < x.from_/\x.from_ < x.to /\ ∀ z∈p,z.to < x.from_
 | [],x,lo,h=>⟨h.1,h.2.1,λz hz=>by cases hz⟩
 | y::p,x,lo,h=>by
  obtain ⟨h1,h2,h3⟩:=Ef h.2.2
  have a1:=h.1
  have a2:=h.2.1
  refine ⟨by omega,h2,λz hz=> ?_⟩
  rcases List.mem_cons.1 hz with rfl | hz
  ·exact h1
  ·exact h3 z hz
theorem Bf {p:List aB} {f t lo:Int} (h:NF lo p) (hz: ∀ z∈p,z.to < f) (hlo:lo < f) (ht:f < t):NF lo (p++[⟨f,t⟩]) :=
 xk (t:=f - 1) h (λz h'=>by have:=hz z h'; omega) (by omega) ⟨by dsimp only; omega,ht,trivial⟩
theorem ub {p q:List aB} {n:Int}:inP (p++q) n↔inP p n\/inP q n:=by
 simp only [inP,List.mem_append]
 exact ⟨λ⟨x,hx,h⟩=>hx.elim (λhx=> .inl ⟨x,hx,h⟩) (λhx=> .inr ⟨x,hx,h⟩),λh=>h.elim (λ⟨x,hx,h⟩=>⟨x,.inl hx,h⟩) (λ⟨x,hx,h⟩=>⟨x,.inr hx,h⟩)⟩
theorem oW {f t n:Int}:inP [⟨f,t⟩] n↔f<=n/\n < t:=by simp [inP]
theorem mq (a b:List aD):rsp (a++b)=rsp a++rsp b:=List.map_append
theorem mr (f t:Int):rsp [⟨f,t⟩]=[⟨f,t⟩]:=rfl
structure OE (K:Int->Bool) (lo:Int) (out:List aD) (e:Int):Prop where
 nf:NF lo (rsp out)
 le: ∀ y∈rsp out,y.to<=e
 mem: ∀ n,inP (rsp out) n↔n < e/\K n=true
theorem FE {K:Int->Bool} {lo e e':Int} {out:List aD} (h:OE K lo out e) (hlo:lo < e) (he:e < e') (hK: ∀ n,e<=n->n < e'->K n=K e):OE K lo (if K e=true then B7 out e e' else out) e':=by
 by_cases c:K e=true
 ·rw [if_pos c]
  have hm: ∀ n,(n < e/\K n=true\/(e<=n/\n < e'))↔n < e'/\K n=true:=λn=>by
   constructor
   ·rintro (⟨h1,h2⟩ | ⟨h1,h2⟩)
    ·exact ⟨by omega,h2⟩
    ·exact ⟨h2,(hK n h1 h2).trans c⟩
   ·rintro ⟨h1,h2⟩
    by_cases c2:n < e
    ·exact .inl ⟨c2,h2⟩
    ·exact .inr ⟨by omega,h1⟩
  rcases List.eq_nil_or_concat out with rfl | ⟨o,⟨f,t⟩,rfl⟩
  ·refine ⟨⟨hlo,he,trivial⟩,λy hy=> ?_,λn=> ?_⟩
   ·obtain rfl:=List.mem_singleton.1 (show y∈[⟨e,e'⟩] from hy); exact Int.le_refl _
   ·rw [<- hm n,<- h.mem n]
    show inP [⟨e,e'⟩] n↔inP [] n\/_
    rw [oW]
    exact ⟨.inr,λh=>h.elim (λh=>absurd h iJ) id⟩
  ·rw [List.concat_eq_append] at h ⊢
   have h1:=h.nf
   have h2:=h.le
   rw [mq,mr] at h1 h2
   obtain ⟨a1,a2,a3⟩:=Ef h1
   have a4:=h2 ⟨f,t⟩ (List.mem_append_right _ (List.mem_singleton.2 rfl))
   dsimp only at a1 a2 a3 a4
   rw [sZ]
   dsimp only
   by_cases c2:t=e
   ·subst c2
    rw [if_pos rfl]
    refine ⟨?_,λy hy=> ?_,λn=> ?_⟩
    ·rw [mq,mr]
     exact Bf (Be h1) a3 a1 (by omega)
    ·rw [mq,mr] at hy
     rcases List.mem_append.1 hy with hy | hy
     ·have:=h2 y (List.mem_append_left _ hy); omega
     ·obtain rfl:=List.mem_singleton.1 hy; exact Int.le_refl _
    ·rw [<- hm n,<- h.mem n,mq,mq,mr,mr,ub,ub,oW,oW,or_assoc]
     refine or_congr Iff.rfl ⟨λh=> ?_,λh=> ?_⟩
     ·by_cases c3:n < t
      ·exact .inl ⟨h.1,c3⟩
      ·exact .inr ⟨by omega,h.2⟩
     ·rcases h with h | h <;> constructor <;> omega
   ·rw [if_neg c2]
    refine ⟨?_,λy hy=> ?_,λn=> ?_⟩
    ·rw [mq,mq,mr,mr]
     refine Bf h1 (λz hz=> ?_) hlo he
     rcases List.mem_append.1 hz with hz | hz
     ·have:=a3 z hz; omega
     ·obtain rfl:=List.mem_singleton.1 hz; dsimp only; omega
    ·rw [mq,mq,mr,mr] at hy
     rcases List.mem_append.1 hy with hy | hy
     ·have:=h2 y hy; omega
     ·obtain rfl:=List.mem_singleton.1 hy; exact Int.le_refl _
    ·rw [<- hm n,<- h.mem n,mq,ub,mr,oW]
 ·rw [if_neg c]
  refine ⟨h.nf,λy hy=>by have:=h.le y hy; omega,λn=> ?_⟩
  rw [h.mem n]
  exact ⟨λh=>⟨by omega,h.2⟩,λ⟨h1,h2⟩=>⟨by
   by_cases c2:n < e
   ·exact c2
   ·exact absurd ((hK n (by omega) h1).symm.trans h2) c,h2⟩⟩
theorem yB {l:List aD} {n m:Int} (h: ∀ x∈l,(x.from_<=n↔x.from_<=m)/\(n < x.to↔m < x.to)):hsR l n=hsR l m:=by
 rw [Bool.eq_iff_iff]
 simp only [hsR,List.any_eq_true,Bool.and_eq_true,decide_eq_true_eq]
 exact ⟨λ⟨x,hx,h1,h2⟩=>⟨x,hx,(h x hx).1.1 h1,(h x hx).2.1 h2⟩,λ⟨x,hx,h1,h2⟩=>⟨x,hx,(h x hx).1.2 h1,(h x hx).2.2 h2⟩⟩
theorem oF {l:List aD} {n:Int} (h: ∀ x∈l,n < x.from_\/x.to<=n):hsR l n=false:=by
 rw [Bool.eq_false_iff]
 intro hc
 simp only [hsR,List.any_eq_true,Bool.and_eq_true,decide_eq_true_eq] at hc
 obtain ⟨x,hx,h1,h2⟩:=hc
 have:=h x hx
 omega
theorem rH {E:List Int} (h:E.Pairwise (· < ·)) {i j:Nat} (hi:i < E.length) (hj:j < E.length) (hij:i < j):E[i] < E[j]:=List.pairwise_iff_getElem.1 h i j hi hj hij
theorem rI {E:List Int} (h:E.Pairwise (· < ·)) {i:Nat} (hi:i+1 < E.length) {n:Int} (hn:n∈E):n<=E[i]\/E[i+1]<=n:=by
 obtain ⟨j,hj,rfl⟩:=List.mem_iff_getElem.1 hn
 rcases Nat.lt_trichotomy j i with c | c | c
 ·exact .inl (Int.le_of_lt (rH h hj (by omega) c))
 ·subst c; exact .inl (Int.le_refl _)
 ·by_cases c2:j=i+1
  ·subst c2; exact .inr (Int.le_refl _)
  ·exact .inr (Int.le_of_lt (rH h hi hj (by omega)))
theorem Ei (a b:List aD) (mode:Int): ∃ lo,NF lo (rsp (rG (λn=>lQ mode (hsR a n) (hsR b n)) (me (a++b)) ((me (a++b)).length - 1))) /\ ∀ n,inP (rsp (rG (λn=>lQ mode (hsR a n) (hsR b n)) (me (a++b)) ((me (a++b)).length - 1))) n↔lQ mode (hsR a n) (hsR b n)=true:=by
 obtain ⟨hs,_,hm⟩:=Ad (a++b)
 have mA: ∀ x∈a,x.from_∈me (a++b)/\x.to∈me (a++b):=λx hx=>⟨(hm _).2 ⟨x,List.mem_append_left _ hx,.inl rfl⟩,(hm _).2 ⟨x,List.mem_append_left _ hx,.inr rfl⟩⟩
 have mB: ∀ x∈b,x.from_∈me (a++b)/\x.to∈me (a++b):=λx hx=>⟨(hm _).2 ⟨x,List.mem_append_right _ hx,.inl rfl⟩,(hm _).2 ⟨x,List.mem_append_right _ hx,.inr rfl⟩⟩
 generalize me (a++b)=E at hs mA mB ⊢
 cases hE:E with
 | nil =>
  refine ⟨0,trivial,λn=> ?_⟩
  have hA:hsR a n=false:=oF λx hx=>by have:=(mA x hx).1; rw [hE] at this; cases this
  have hB:hsR b n=false:=oF λx hx=>by have:=(mB x hx).1; rw [hE] at this; cases this
  rw [hA,hB,u0]
  exact ⟨λh=>absurd h iJ,λh=>by cases h⟩
 | cons e0 E' =>
  rw [<- hE]
  have hpos:0 < E.length:=by rw [hE]; simp
  have h0:E[0]=e0:=by simp [hE]
  have lo0: ∀ m∈E,e0<=m:=λm hm=>by
   rw [hE] at hm hs
   rcases List.mem_cons.1 hm with rfl | hm
   ·exact Int.le_refl _
   ·exact Int.le_of_lt ((List.pairwise_cons.1 hs).1 m hm)
  have key: ∀ i (hi:i < E.length),OE (λn=>lQ mode (hsR a n) (hsR b n)) (e0 - 1) (rG (λn=>lQ mode (hsR a n) (hsR b n)) E i) E[i]:=by
   intro i
   induction i with
   | zero =>
    intro hi
    refine ⟨trivial,λy hy=>(by cases hy),λn=> ?_⟩
    refine ⟨λh=>absurd h iJ,λ⟨h1,h2⟩=> ?_⟩
    have hA:hsR a n=false:=oF λx hx=>by have:=lo0 _ (mA x hx).1; omega
    have hB:hsR b n=false:=oF λx hx=>by have:=lo0 _ (mB x hx).1; omega
    rw [hA,hB,u0] at h2
    cases h2
   | succ i ih =>
    intro hi
    have ih:=ih (by omega)
    rw [rG,List.getElem?_eq_getElem (show i < E.length by omega),List.getElem?_eq_getElem hi]
    have hlt:=rH hs (show i < E.length by omega) hi (by omega)
    refine FE ih (by have:=lo0 _ (List.getElem_mem (show i < E.length by omega)); omega) hlt λn h1 h2=> ?_
    rw [yB (l:=a) λx hx=> ?_,yB (l:=b) λx hx=> ?_]
    ·have h3:=rI hs hi (mB x hx).1
     have h4:=rI hs hi (mB x hx).2
     constructor <;> constructor <;> omega
    ·have h3:=rI hs hi (mA x hx).1
     have h4:=rI hs hi (mA x hx).2
     constructor <;> constructor <;> omega
  have hk:=key (E.length - 1) (by omega)
  refine ⟨e0 - 1,hk.nf,λn=>(hk.mem n).trans ⟨λh=>h.2,λh=>⟨?_,h⟩⟩⟩
  by_cases c:n < E[E.length - 1]
  ·exact c
  ·have hi: ∀ m∈E,m<=E[E.length - 1]:=λm hm=>by
    obtain ⟨j,hj,rfl⟩:=List.mem_iff_getElem.1 hm
    by_cases c2:j=E.length - 1
    ·subst c2; exact Int.le_refl _
    ·exact Int.le_of_lt (rH hs hj (by omega) (by omega))
   have hA:hsR a n=false:=oF λx hx=>by have:=hi _ (mA x hx).2; omega
   have hB:hsR b n=false:=oF λx hx=>by have:=hi _ (mB x hx).2; omega
   rw [hA,hB,u0] at h
   cases h
theorem pY {a b:List aD} {mode lo:Int} {L:List aB} (h:a.length+b.length<=1000000) (hL:NF lo L) (hi: ∀ n,inP L n↔lQ mode (hsR a n) (hsR b n)=true): ∃ r,hU a b mode=some r/\rsp r=L:=by
 obtain ⟨l2,h1,h2⟩:=Ei a b mode
 exact ⟨_,B8 a b mode h,xe h1 hL λn=>(h2 n).trans (hi n).symm⟩
theorem mf (p:aB):[p].filter neS=if p.from_ < p.to then [p] else []:=by
 by_cases c:p.from_ < p.to
 ·rw [if_pos c,List.filter_cons_of_pos (show neS p=true from decide_eq_true c)]; rfl
 ·rw [if_neg c,List.filter_cons_of_neg (by simpa [neS] using c)]; rfl
theorem u3 (f:aB->List aB) (hf: ∀ y,y.from_ < y.to -> ∀ lo,lo < y.from_->NF lo (f y) /\ ∀ z∈f y,z.to<=y.to): ∀ {l:List aB} {lo:Int},NF lo l->NF lo (l.flatMap f)
 | [],_,_=>trivial
 | y::l,lo,h=>by
  have h1:=h.1
  have h2:=h.2.1
  obtain ⟨a,b⟩:=hf y h2 lo h1
  rw [List.flatMap_cons]
  exact xk a b (by omega) (u3 f hf h.2.2)
theorem FF {x:aB} (hx:x.from_ < x.to) (y:aB) (hy:y.from_ < y.to) (lo:Int) (hlo:lo < y.from_):NF lo (o9 x y) /\ ∀ z∈o9 x y,z.to<=y.to:=by
 have e1:=fQ y.to x.from_
 have e2:=gC y.from_ x.to
 have:o9 x y=[(⟨y.from_,cD y.to x.from_⟩:aB)].filter neS++[(⟨imax y.from_ x.to,y.to⟩:aB)].filter neS:=List.filter_append (p:=neS) [(⟨y.from_,cD y.to x.from_⟩:aB)] [⟨imax y.from_ x.to,y.to⟩]
 rw [this,mf,mf]
 refine ⟨xk (t:=imax lo (cD y.to x.from_)) ?_ (λz hz=> ?_) (gC _ _).1 ?_,λz hz=> ?_⟩
 ·split
  ·exact ⟨hlo,by assumption,trivial⟩
  ·trivial
 ·split at hz
  ·obtain rfl:=List.mem_singleton.1 hz; exact (gC _ _).2.1
  ·cases hz
 ·split
  ·rename_i c
   dsimp only at c
   refine ⟨?_,c,trivial⟩
   have e3:=gC lo (cD y.to x.from_)
   dsimp only
   omega
  ·trivial
 ·rcases List.mem_append.1 hz with hz | hz
  ·split at hz
   ·obtain rfl:=List.mem_singleton.1 hz; exact e1.1
   ·cases hz
  ·split at hz
   ·obtain rfl:=List.mem_singleton.1 hz; exact Int.le_refl _
   ·cases hz
theorem Bg {x y:aB} {n:Int}:inP (o9 x y) n↔(y.from_<=n/\n < y.to) /\ ¬ (x.from_<=n/\n < x.to)\/(y.from_<=n/\n < y.to/\x.from_<=n/\n < x.to/\x.to<=x.from_):=by
 have e1:=fQ y.to x.from_
 have e2:=gC y.from_ x.to
 have:o9 x y=[(⟨y.from_,cD y.to x.from_⟩:aB)].filter neS++[(⟨imax y.from_ x.to,y.to⟩:aB)].filter neS:=List.filter_append (p:=neS) [(⟨y.from_,cD y.to x.from_⟩:aB)] [⟨imax y.from_ x.to,y.to⟩]
 rw [this,mf,mf,ub]
 have key: ∀ p:aB,inP (if p.from_ < p.to then [p] else []) n↔p.from_<=n/\n < p.to:=λp=>by
  split
  ·exact oW
  ·exact ⟨λh=>absurd h iJ,λh=>by omega⟩
 rw [key,key]
 dsimp only
 omega
theorem yC {f:aB->List aB} {n:Int} {l:List aB}:inP (l.flatMap f) n ↔ ∃ y∈l,inP (f y) n:=by
 simp only [inP,List.mem_flatMap]
 exact ⟨λ⟨x,⟨y,hy,hx⟩,h⟩=>⟨y,hy,x,hx,h⟩,λ⟨y,hy,x,hx,h⟩=>⟨x,⟨y,hy,hx⟩,h⟩⟩
theorem rJ {l:List aB} {lo:Int} (h:NF lo l) (x:aB):NF lo (o5 l x) /\ ∀ n,inP (o5 l x) n↔inP l n /\ ¬ (x.from_<=n/\n < x.to):=by
 unfold o5
 split
 ·exact ⟨h,λn=>⟨λh=>⟨h,by omega⟩,λh=>h.1⟩⟩
 ·refine ⟨u3 _ (λy hy lo hlo=>FF (by omega) y hy lo hlo) h,λn=> ?_⟩
  rw [yC]
  constructor
  ·rintro ⟨y,hy,h⟩
   rcases Bg.1 h with h | h
   ·exact ⟨⟨y,hy,h.1⟩,h.2⟩
   ·omega
  ·rintro ⟨⟨y,hy,h⟩,h2⟩
   exact ⟨y,hy,Bg.2 (.inl ⟨h,h2⟩)⟩
theorem Ej (s:List aB) (x:aB):inL s x=s.flatMap λy=>[nU x y].filter neS:=by
 induction s with
 | nil=>rfl
 | cons y s ih=>rw [List.flatMap_cons,<- ih]; exact List.filter_append (p:=neS) [nU x y] (s.map (nU x))
theorem Ek {l:List aB} {lo:Int} (h:NF lo l) (x:aB):NF lo (inL l x) /\ ∀ n,inP (inL l x) n↔inP l n/\x.from_<=n/\n < x.to:=by
 rw [Ej]
 refine ⟨u3 _ (λy hy lo hlo=> ?_) h,λn=> ?_⟩
 ·have e1:=fQ y.to x.to
  have e2:=gC y.from_ x.from_
  rw [mf]
  split
  ·rename_i c
   exact ⟨⟨by show lo < imax _ _; omega,c,trivial⟩,λz hz=>by obtain rfl:=List.mem_singleton.1 hz; exact e1.1⟩
  ·exact ⟨trivial,λz hz=>by cases hz⟩
 ·rw [yC]
  have key: ∀ y:aB,inP ([nU x y].filter neS) n↔(y.from_<=n/\n < y.to)/\x.from_<=n/\n < x.to:=λy=>by
   have e1:=fQ y.to x.to
   have e2:=gC y.from_ x.from_
   rw [mf]
   split
   ·rename_i c
    rw [show nU x y=⟨imax y.from_ x.from_,cD y.to x.to⟩ from rfl,oW]
    omega
   ·rename_i c
    change ¬ imax _ _ < cD _ _ at c
    exact ⟨λh=>absurd h iJ,λh=>by omega⟩
  constructor
  ·rintro ⟨y,hy,h⟩
   exact ⟨⟨y,hy,((key y).1 h).1⟩,((key y).1 h).2⟩
  ·rintro ⟨⟨y,hy,h⟩,h2⟩
   exact ⟨y,hy,(key y).2 ⟨h,h2⟩⟩
theorem yD (n:Int):kz n=some (imax (-1152921504606846976) (cD n 1152921504606846976)):=by
 unfold kz imax cD
 by_cases c:n < -1152921504606846976
 ·rw [decide_eq_true c,cond_true]
  congr 1
  split <;> split at * <;> omega
 ·rw [decide_eq_false c,cond_false]
  by_cases c2:n > 1152921504606846976
  ·rw [decide_eq_true c2,cond_true]
   congr 1
   split <;> split at * <;> omega
  ·rw [decide_eq_false c2,cond_false]
   congr 1
   split <;> split at * <;> omega
theorem xn (x:aD): ∃ b,kl x=some b/\b.length<=1 /\ ∀ n,hsR b n=true↔(fJ (sp x)).from_<=n/\n < (fJ (sp x)).to:=by
 unfold kl nN
 rw [yD,aA,yD,aA,aA]
 dsimp only
 by_cases c:imax (-1152921504606846976) (cD x.to 1152921504606846976)<=imax (-1152921504606846976) (cD x.from_ 1152921504606846976)
 ·rw [decide_eq_true c]
  refine ⟨[],rfl,by decide,λn=>⟨λh=>(by cases h),λ⟨h1,h2⟩=> ?_⟩⟩
  exact absurd (show imax _ _ < imax _ _ from Int.lt_of_le_of_lt h1 h2) (Int.not_lt.2 c)
 ·rw [decide_eq_false c]
  refine ⟨_,rfl,Nat.le_refl _,λn=> ?_⟩
  rw [rE]
  exact oW
theorem Bh {l:List aD} {lo:Int} (h:NF lo (rsp l)) (hl:l.length<=900000) (x:aD): ∃ r,iE l x=some r/\rsp r=if (fJ (sp x)).to<=(fJ (sp x)).from_ then rsp l else iq (rsp l) (fJ (sp x)):=by
 obtain ⟨b,e1,e2,e3⟩:=xn x
 unfold iE
 rw [e1,aA]
 have hk: ∀ n,lQ 0 (hsR l n) (hsR b n)=true↔inP (rsp l) n\/((fJ (sp x)).from_<=n/\n < (fJ (sp x)).to):=λn=>by
  rw [<- rE,<- e3 n]
  simp [lQ]
 by_cases c:(fJ (sp x)).to<=(fJ (sp x)).from_
 ·obtain ⟨r,h1,h2⟩:=pY (a:=l) (b:=b) (mode:=0) (by omega) h λn=>by rw [hk n]; exact ⟨.inl,λh=>h.elim id λh=>by omega⟩
  exact ⟨r,by rw [h1]; rfl,by rw [if_pos c]; exact h2⟩
 ·have h0:NF (cD lo ((fJ (sp x)).from_ - 1)) (rsp l):=h.mono (fQ _ _).1
  obtain ⟨r,h1,h2⟩:=pY (a:=l) (b:=b) (mode:=0) (by omega) (rB _ h0 (x:=fJ (sp x)) (by have:=fQ lo ((fJ (sp x)).from_ - 1); omega) (by omega)) λn=>by rw [hk n]; exact rC _ h0 (by omega)
  exact ⟨r,by rw [h1]; rfl,by rw [if_neg c]; exact h2⟩
theorem Bi {l:List aD} {lo:Int} (h:NF lo (rsp l)) (hl:l.length<=900000) (x:aD): ∃ r,jt l x=some r/\rsp r=o5 (rsp l) (fJ (sp x)):=by
 obtain ⟨b,e1,e2,e3⟩:=xn x
 unfold jt
 rw [e1,aA]
 obtain ⟨h3,h4⟩:=rJ h (fJ (sp x))
 obtain ⟨r,h1,h2⟩:=pY (a:=l) (b:=b) (mode:=1) (by omega) h3 λn=>by
  rw [h4 n,<- e3 n,<- rE]
  simp [lQ]
 exact ⟨r,by rw [h1]; rfl,h2⟩
theorem FG {l:List aD} {lo:Int} (h:NF lo (rsp l)) (hl:l.length<=900000) (x:aD): ∃ r,nB l x=some r/\rsp r=inL (rsp l) (fJ (sp x)):=by
 obtain ⟨b,e1,e2,e3⟩:=xn x
 unfold nB
 rw [e1,aA]
 obtain ⟨h3,h4⟩:=Ek h (fJ (sp x))
 obtain ⟨r,h1,h2⟩:=pY (a:=l) (b:=b) (mode:=2) (by omega) h3 λn=>by
  rw [h4 n,<- e3 n,<- rE]
  simp [lQ]
 exact ⟨r,by rw [h1]; rfl,h2⟩
structure FS (k:Int) (f:bE):Prop where
 m:f.most=k
 w:WS k f.want.l
theorem WS.nil {k:Int} (h:0<=k):WS k []:=⟨λy hy=>(by cases hy),h⟩
theorem WS.cnt {k:Int} {s:List aB} (h:WS k s):(s.length:Int)<=k:=by have:=h.len; have:=h.l; omega
theorem WS.pos {k:Int} {s:List aB} (h:WS k s) {n:Int} (hn:inP s n):0<=n/\n < 1152921504606846976:=by
 obtain ⟨x,hx,h1,h2⟩:=hn
 have:=h.b x hx
 omega
theorem Gk (n lo hi:Int) (h:lo<=hi): ∃ x,fV n lo hi=some x/\lo<=x/\x<=hi:=by
 refine ⟨_,rfl,?_,?_⟩ <;> unfold imax cD <;> split <;> split <;> omega
theorem FH {most every:Int}: ∃ f,lh most every=some f/\FS (imax 1 (cD most 65536)) f:=by
 refine ⟨_,rfl,rfl,WS.nil ?_⟩
 have:=gC 1 (cD most 65536)
 omega
theorem B9 {k:Int} (hk:0<=k) {f:bE} (h:FS k f): ∃ f',dB f=some f'/\FS k f':=⟨_,rfl,h.m,WS.nil hk⟩
theorem Ae {k:Int} (hk:k<=100000) {f:bE} (h:FS k f):iA f=some f.want.l:=by
 have:=h.w.cnt
 show Option.bind (Option.bind (Option.bind (chk (cW 0 f.want.l.length 16)) _) _) _=_
 rw [bP (by omega)]
 rfl
theorem FI {k:Int} (hk:k<=100000) {f:bE} (h:FS k f) {i:Int} (h0:0<=i) (h1:i<=4611686018427487904): ∃ b f',eZ f i=some (b,f')/\FS k f'/\(b=true->0<=i/\i < 1152921504606846976):=by
 unfold eZ
 have hc:=h.w.cnt
 obtain ⟨b,b1,b2⟩:=FC f.want.l i (by omega)
 rw [show f.want=⟨f.want.l⟩ from rfl,b1,aA]
 obtain ⟨q,q1,q2⟩: ∃ q,mC (decide (i < 1152921504606846976))=some q/\0<=q/\q<=1:=by
  by_cases c:i < 1152921504606846976
  ·rw [decide_eq_true c]; exact ⟨1,rfl,by decide,by decide⟩
  ·rw [decide_eq_false c]; exact ⟨0,rfl,by decide,by decide⟩
 rw [q1,aA,w64 (by omega) (by omega),rD hk f.want.l _ h.w (by simp) (λx hx=>by rw [List.mem_singleton.1 hx]; dsimp only; omega),aA]
 refine ⟨b,_,rfl,⟨h.m,h.w.D9 λx hx=> ?_⟩,λe=>h.w.pos (b2 e)⟩
 rw [List.mem_singleton.1 hx]
 exact tZ (by dsimp only; omega)
theorem FJ {k:Int} (hk:k<=100000) {f:bE} (h:FS k f) (now len:Int): ∃ L f',eG f now len=some (L,f')/\FS k f'/\L.length<=8 /\ ∀ z∈L,0<=z.from_/\z.from_ < z.to/\z.to<=1152921504606846976:=by
 unfold eG
 have hc:=h.w.cnt
 obtain ⟨i1,_⟩:=Ea (x:=fJ ⟨0,len⟩) h.w
 have hl:=ua f.want.l (fJ ⟨0,len⟩)
 rw [show f.want=⟨f.want.l⟩ from rfl,uZ f.want.l _ (by omega),aA]
 generalize inL f.want.l (fJ ⟨0,len⟩)=L at i1 hl ⊢
 have hd: ∃ d:Bool,((bif ((L.length:Int) == 0) then some true else some (decide (now < f.due))):Option Bool)=some d:=by
  cases ((L.length:Int) == 0) <;> exact ⟨_,rfl⟩
 obtain ⟨d,hd⟩:=hd
 rw [hd,aA]
 cases d with
 | true=>exact ⟨[],f,rfl,h,Nat.zero_le _,λz hz=>by cases hz⟩
 | false =>
  have e1:=fQ (L.length:Int) 8
  rw [cond_false,cV (by omega) (by omega) (by omega),aA]
  refine ⟨_,_,rfl,⟨h.m,h.w⟩,?_,λz hz=> ?_⟩
  ·obtain ⟨n,hn⟩:=Int.eq_ofNat_of_zero_le (show 0<=cD (L.length:Int) 8 by omega)
   rw [hn,show (0:Int)=((0:Nat):Int) from rfl,q6]
   simp
   omega
  ·refine (i1 z ?_).1
   obtain ⟨n,hn⟩:=Int.eq_ofNat_of_zero_le (show 0<=cD (L.length:Int) 8 by omega)
   rw [hn,show (0:Int)=((0:Nat):Int) from rfl,q6] at hz
   exact List.mem_of_mem_take (List.mem_of_mem_drop hz)
theorem El {k:Int} (hk0:1<=k) (hk:k<=100000) {f:bE} (h:FS k f) (x:aB) {l:List aB} (hl:l.length<=1000000) (hb: ∀ y∈l,0<=y.to): ∃ n f',eN f x l=some (n,f')/\FS k f':=by
 unfold eN
 obtain ⟨a,a1,a2,a3⟩:=Gk x.from_ 0 1152921504606846976 (by decide)
 obtain ⟨b,b1,b2,b3⟩:=Gk x.to 0 1152921504606846976 (by decide)
 have hm:=h.m
 have e1:=fQ b (a+k)
 rw [a1,aA,b1,aA,show dB f=some ⟨f.most,f.every,0,⟨[]⟩⟩ from rfl,aA,hm,w64 (by omega) (by omega)]
 dsimp only
 rw [pX [] _ (by simp) (λy hy=>by rw [List.mem_singleton.1 hy]; refine ⟨?_,?_,?_,?_⟩ <;> (dsimp only; omega)),aA]
 have hw:WS k (gY [] [⟨a,cD b (a+k)⟩]):=by
  show WS k (if _ then _ else _)
  split
  ·exact WS.nil (by omega)
  ·rename_i c
   dsimp only at c
   refine ⟨λy hy=> ?_,?_⟩
   ·rw [List.mem_singleton.1 (show y∈[_] from hy)]; dsimp only; omega
   ·show cD b (a+k) - a+0<=k; omega
 generalize gY [] [⟨a,cD b (a+k)⟩]=W at hw ⊢
 have hw2:WS k (nT W (l.map fJ)):=hw.D9 λy hy=>by
  obtain ⟨z,hz,rfl⟩:=List.mem_map.1 hy
  exact tZ (hb z hz)
 rw [rD hk W l hw hl hb,aA,xi hw2 (by omega),aA]
 exact ⟨_,_,rfl,rfl,hw2⟩
theorem HQ {a b:Int} (h: ¬ a=b):(a == b)=false:=by simpa using h
end Go.Tw.X
set_option maxRecDepth 20000
namespace Go.Tw.X
open Go Go.Tw
def Ih (l:List pS) (b:Int):Option pS:=l.find? λx=>decide (x.first<=b) && decide (b<=x.last)
def fnd (b:Int):pS×Bool:=match Ih vp b with
 | some x=>(x,true)
 | none=>(⟨0,0,0,0,0⟩,false)
def d0:q5:=⟨0,0,0⟩
def o0:yc:=⟨false,false,false,false,0,[]⟩
end Go.Tw.X
set_option maxHeartbeats 2000000
namespace Go.Tw.X
open Go Go.Tw
def p0:BO:=⟨0,o0,ByteArray.mk #[],d0,[]⟩
end Go.Tw.X
set_option maxHeartbeats 1000000
namespace Go.Tw.X
open Go Go.Tw
theorem Bj {n:Nat} {a b:Int} (h:(n:Int) < a/\(n:Int) < b):((bif (decide ((n:Int) < a)) then some (decide ((n:Int) < b)) else some false):Option Bool)=some true:=by
 rw [decide_eq_true h.1,decide_eq_true h.2]; rfl
theorem Bk {n:Nat} {a b:Int} (h: ¬ ((n:Int) < a/\(n:Int) < b)):((bif (decide ((n:Int) < a)) then some (decide ((n:Int) < b)) else some false):Option Bool)=some false:=by
 by_cases c:(n:Int) < a
 ·rw [decide_eq_true c,decide_eq_false (by omega: ¬ (n:Int) < b)]; rfl
 ·rw [decide_eq_false c]; rfl
theorem Ii {a:Int}:(a != a)=false:=by simp
theorem FK (s:ByteArray):(s.toList == (ByteArray.mk #[]).toList)=decide (s=noS):=np s noS
theorem FL {s:ByteArray} (h:s.size<=12000):(zT s).1.size<=12000:=by
 have v0:SZ s.size (⟨s,0⟩:aK):=⟨⟨by show s.size<=1000000; omega,.inl rfl⟩,Nat.le_refl _⟩
 have s1:SZ s.size (zF s).2:=lM (lM (wW _ (wW _ (lM (lM v0)))))
 have:=(uI s1.1 s1.2).1
 have h2:(zT s).1.size<=s.size:=this
 omega
theorem Af (a:aS) (s:ByteArray) (ha:SW a) (pa:(a.rows.flatMap fS).length<=12000) (h:s.size<=100000) (ht:(zT s).1.size<=12000):SW (nG a s).1/\((nG a s).1.rows.flatMap fS).length<=(a.rows.flatMap fS).length+s.size:=by
 have z:SW jM/\(jM.rows.flatMap fS).length<=(a.rows.flatMap fS).length+s.size:=⟨rk,Nat.zero_le _⟩
 unfold nG
 split
 ·exact z
 ·split
  ·exact z
  ·rename_i hE
   split
   ·exact z
   ·obtain ⟨vB,vC,vF,vH,vK,vN,vR⟩:=zVI (s:=s) (by omega)
    obtain ⟨he,hs0⟩:=wx vR (Classical.not_not.1 hE)
    split
    ·exact z
    ·rename_i l hl
     split
     ·exact z
     ·refine ⟨(ry ha pa h ht he hl).1,?_⟩
      have p3:=uR _ _ _ _ hl
      have p4:=z8 ((0:Nat):Int) (zR s).1
      have p5:=DQ (by omega) he
      have p6:((a.rows.drop 0).flatMap fS).length=(a.rows.flatMap fS).length:=by simp
      simp only [List.flatMap_nil,List.length_nil] at p3
      show (l.flatMap fS).length<=_
      omega
def FM (h:ByteArray) (i:Nat):Bool:=match (sbs h)[i / 8]? with | some b=>decide ((b / 2 ^ (i % 8)) % 2=1) | none=>false
theorem Ag: ∀ (n:Nat) (l:List Nat),l.Nodup->(∀ x∈l,x < n)->l.length<=n/\(l.length=n -> ∀ i,i < n->i∈l)
 | 0,l,_,h=>by
  have:l=[]:=by
   cases l with
   | nil=>rfl
   | cons a l=>exact absurd (h a List.mem_cons_self) (Nat.not_lt_zero a)
  subst this
  exact ⟨Nat.le_refl _,λ_ i hi=>absurd hi (Nat.not_lt_zero i)⟩
 | n+1,l,hn,h=>by
  by_cases hm:n∈l
  ·have hl:=List.length_erase_of_mem hm
   have hpos:0 < l.length:=List.length_pos_of_mem hm
   obtain ⟨h1,h2⟩:=Ag n (l.erase n) (hn.erase n) (λx hx=>by
    have h3:=(hn.mem_erase_iff.1 hx)
    have:=h x h3.2
    have:=h3.1
    omega)
   refine ⟨by omega,λe i hi=> ?_⟩
   by_cases hin:i=n
   ·rw [hin]; exact hm
   ·exact List.mem_of_mem_erase (h2 (by omega) i (by omega))
  ·obtain ⟨h1,h2⟩:=Ag n l hn (λx hx=>by
    have:=h x hx
    have:x≠n:=λe=>hm (e ▸ hx)
    omega)
   exact ⟨by omega,λe=>by omega⟩
structure SL (P:List ByteArray) (l:List (Int×ByteArray)):Prop where
 nd:(l.map Prod.fst).Nodup
 at_: ∀ p∈l,∃ i:Nat,p.1=(i:Int)/\P[i]?=some p.2
theorem Em (P:List ByteArray):SL P []:=⟨List.nodup_nil,λp hp=>by cases hp⟩
theorem rK {α:Type} {k:Int}: ∀ {l:List (Int×α)},mgl k l=none -> ∀ p∈l,p.1≠k
 | [],_,p,hp=>by cases hp
 | (j,y)::l,h,p,hp=>by
  unfold mgl at h
  split at h
  ·cases h
  ·rename_i hne
   rcases List.mem_cons.1 hp with rfl | hp
   ·exact λe=>hne e.symm
   ·exact rK h p hp
theorem mg {α:Type} {k:Int} {x:α}: ∀ {l:List (Int×α)},(l.map Prod.fst).Nodup->(k,x)∈l->mgl k l=some x
 | (j,y)::l,hn,hm=>by
  rw [List.map_cons,List.nodup_cons] at hn
  unfold mgl
  rcases List.mem_cons.1 hm with h | h
  ·injection h with h1 h2
   rw [if_pos h1,h2]
  ·split
   ·rename_i e
    exact absurd (List.mem_map_of_mem (f:=Prod.fst) h) (by rw [e]; exact hn.1)
   ·exact mg hn.2 h
theorem SL.add {P:List ByteArray} {l:List (Int×ByteArray)} (h:SL P l) {i:Nat} {d:ByteArray} (hi:P[i]?=some d) (hn:mgl (i:Int) l=none):SL P (msl (i:Int) d l)/\msl (i:Int) d l=l++[((i:Int),d)]:=by
 have e:=w7 (i:Int) d l (rK hn)
 refine ⟨?_,e⟩
 rw [e]
 refine ⟨?_,λp hp=> ?_⟩
 ·rw [List.map_append,List.nodup_append]
  refine ⟨h.nd,by simp,λa ha b hb=> ?_⟩
  obtain ⟨p,hp,rfl⟩:=List.mem_map.1 ha
  simp at hb
  rw [hb]
  exact rK hn p hp
 ·rcases List.mem_append.1 hp with hp | hp
  ·exact h.at_ p hp
  ·rw [List.mem_singleton.1 hp]; exact ⟨i,rfl,hi⟩
theorem SL.le {P:List ByteArray} {l:List (Int×ByteArray)} (h:SL P l):l.length<=P.length/\(l.length=P.length -> ∀ i (hi:i < P.length),mgl (i:Int) l=some P[i]):=by
 have hk: ∀ p∈l,p.1=((p.1.toNat:Nat):Int):=λp hp=>by
  obtain ⟨i,e,_⟩:=h.at_ p hp
  rw [e]; simp
 have hnd:(l.map λp=>p.1.toNat).Nodup:=by
  have h1:=h.nd
  rw [List.nodup_iff_pairwise_ne] at h1 ⊢
  rw [List.pairwise_map] at h1 ⊢
  refine List.Pairwise.imp_of_mem ?_ h1
  intro a b ha hb hne e
  exact hne (by rw [hk a ha,hk b hb,e])
 obtain ⟨p1,p2⟩:=Ag P.length (l.map λp=>p.1.toNat) hnd (λx hx=>by
  obtain ⟨p,hp,rfl⟩:=List.mem_map.1 hx
  obtain ⟨i,e,hi⟩:=h.at_ p hp
  rw [e,Int.toNat_natCast]
  exact (List.getElem?_eq_some_iff.1 hi).1)
 rw [List.length_map] at p1 p2
 refine ⟨p1,λe i hi=> ?_⟩
 obtain ⟨p,hp,hpi⟩:=List.mem_map.1 (p2 e i hi)
 obtain ⟨j,ej,hj⟩:=h.at_ p hp
 have hji:j=i:=by rw [ej,Int.toNat_natCast] at hpi; exact hpi
 subst hji
 rw [List.getElem?_eq_getElem hi] at hj
 refine mg h.nd ?_
 rw [Option.some.inj hj,<- ej]
 exact hp
theorem s6 {σ:Type} {s:bV} {n:Nat} (hc:s.count=(n:Int)) (hn:n<=1000000) (Y:σ->Int×Bool->Option (σ×Bool)) (S:Nat->σ) (h: ∀ i,i < n->Y (S i) ((i:Int),iv s.parts (i:Int))=some (S (i+1),true)):gQ s Y (S 0)=some (S n):=by
 unfold gQ
 refine dX (λi:Nat=>((i:Int),S i)) n (.inl (S n)) rfl ?_ ?_ rfl
 ·intro i hi
  dsimp only
  rw [hc,decide_eq_true (by omega),cond_true,h i hi,aA]
  dsimp only
  rw [Bool.not_true,cond_false,w64 (by omega) (by omega)]
  rfl
 ·dsimp only
  rw [hc,decide_eq_false (by omega),cond_false]
def fA (P:List ByteArray):List Int:=P.flatMap sbs
theorem qN (P:List ByteArray) (i:Nat) (h:i < P.length):fA (P.take (i+1))=fA (P.take i)++sbs P[i]:=by
 unfold fA
 rw [List.take_succ_eq_append_getElem h,List.flatMap_append]
 simp
theorem Ah {P:List ByteArray} {l:List (Int×ByteArray)} {id b:Int} (hid:1<=id) (h:SL P l) (hP:P.length<=4096) (hb:(fA P).length<=1000000) :
  fI ⟨id,(P.length:Int),some l,b⟩=some (if l.length < P.length then (noS,false) else (dL (fA P),true)):=by
 obtain ⟨h1,h2⟩:=h.le
 unfold fI
 dsimp only
 rw [HQ (by omega),cond_false,aA]
 show (bif decide (((l.length:Nat):Int) < (P.length:Int)) then _ else _)=_
 by_cases c:l.length < P.length
 ·rw [decide_eq_true (by omega),cond_true,if_pos c]
  rfl
 ·rw [decide_eq_false (by omega),cond_false,if_neg c]
  have hall:=h2 (by omega)
  have hpre: ∀ i,(fA (P.take i)).length<=(fA P).length:=λi=>by
   have e:fA P=fA (P.take i)++fA (P.drop i):=by
    unfold fA
    rw [<- List.flatMap_append,List.take_append_drop]
   rw [e,List.length_append]
   omega
  have e:=s6 (s:=⟨id,(P.length:Int),some l,b⟩) (n:=P.length) rfl (by omega) (λa f=>(Option.bind (dT (cO.mk a.addr a.buf) (mgd (some l) f.1 (ByteArray.mk #[]))) λd=>some ((cO.mk d.addr d.buf),true))) (λi=>cO.mk (decide (0 < i)) (fA (P.take i))) (λi hi=>by
   dsimp only
   have hg:mgd (some l) (i:Int) (ByteArray.mk #[])=P[i]:=by
    unfold mgd
    rw [Option.getD_some,hall i hi,Option.getD_some]
   have h3:=hpre (i+1)
   rw [qN P i hi,List.length_append,bD] at h3
   rw [hg]
   unfold dT
   rw [bP (by dsimp only; omega),aA,aA,qN P i hi]
   rfl)
  try dsimp only at e
  rw [show (cO.mk false ([]:List Int))=cO.mk (decide (0 < 0)) (fA (P.take 0)) from rfl,e,aA]
  try dsimp only
  rw [List.take_length]
  rfl
theorem wC {α:Type} [BEq α] [LawfulBEq α]: ∀ (A B:List α),A.Nodup->(∀ x∈A,x∈B)->A.length<=B.length
 | [],B,_,_=>Nat.zero_le _
 | a::A,B,h,hs=>by
  rw [List.nodup_cons] at h
  have ha:=hs a List.mem_cons_self
  have e:=List.length_erase_of_mem ha
  have hp:0 < B.length:=List.length_pos_of_mem ha
  have:=wC A (B.erase a) h.2 λx hx=>by
   have hne:x≠a:=λe=>h.1 (e ▸ hx)
   exact (List.mem_erase_of_ne hne).2 (hs x (List.mem_cons_of_mem _ hx))
  rw [List.length_cons]
  omega
theorem SL.full {P:List ByteArray} {l:List (Int×ByteArray)} (hall: ∀ i:Nat,i < P.length->(mgl (i:Int) l).isSome=true):P.length<=l.length:=by
 have h:=wC ((List.range P.length).map λi:Nat=>(i:Int)) (l.map Prod.fst) (by
  rw [List.nodup_iff_pairwise_ne,List.pairwise_map]
  exact (List.nodup_iff_pairwise_ne.1 List.nodup_range).imp λh e=>h (by omega)) (λx hx=>by
   obtain ⟨i,hi,rfl⟩:=List.mem_map.1 hx
   have:=hall i (List.mem_range.1 hi)
   rw [Option.isSome_iff_exists] at this
   obtain ⟨d,hd⟩:=this
   exact List.mem_map.2 ⟨((i:Int),d),kX hd,rfl⟩)
 simpa using h
theorem or8 {a b:Nat} (ha:a < 256) (hb:b < 256):Go.bits .or .u8 (a:Int) (b:Int)=((a ||| b:Nat):Int):=by
 show IntKind.u8.wrap ((BitVec.ofInt 8 (a:Int) ||| BitVec.ofInt 8 (b:Int)).toNat:Int)=_
 rw [BitVec.ofInt_natCast,BitVec.ofInt_natCast,BitVec.toNat_or,BitVec.toNat_ofNat,BitVec.toNat_ofNat,Nat.mod_eq_of_lt ha,Nat.mod_eq_of_lt hb]
 have:=Nat.or_lt_two_pow (n:=8) ha hb
 exact GU (by omega) (by omega)
theorem rL (b j:Nat):(((b:Int) / 2 ^ j) % 2=1)↔b.testBit j=true:=by
 rw [Nat.testBit_eq_decide_div_mod_eq,decide_eq_true_eq]
 have:((b:Int) / 2 ^ j) % 2=((b / 2 ^ j % 2:Nat):Int):=by
  rw [Int.natCast_emod,Int.natCast_ediv,Int.natCast_pow]
  rfl
 rw [this]
 omega
def rM (B:List Int) (i:Nat):List Int:=B.set (i / 8) (Go.bits .or .u8 ((B[i / 8]?).getD 0) (IntKind.u8.wrap (1*2 ^ (min (i % 8) 8))))
theorem FN (k:Nat) (h:k < 8):IntKind.u8.wrap (1*2 ^ (min k 8))=((2 ^ k:Nat):Int):=by
 have:k=0\/k=1\/k=2\/k=3\/k=4\/k=5\/k=6\/k=7:=by omega
 rcases this with rfl | rfl | rfl | rfl | rfl | rfl | rfl | rfl <;> decide
theorem FP (k:Nat) (h:k < 8):2 ^ k < 256:=by
 have:k=0\/k=1\/k=2\/k=3\/k=4\/k=5\/k=6\/k=7:=by omega
 rcases this with rfl | rfl | rfl | rfl | rfl | rfl | rfl | rfl <;> decide
def s7 (B:List Int) (i:Nat):Bool:=match B[i / 8]? with
 | some b=>decide ((b / 2 ^ (i % 8)) % 2=1)
 | none=>false
theorem FQ {B:List Int} (h:BB B) {i:Nat} (hi:i / 8 < B.length):BB (rM B i)/\(rM B i).length=B.length /\ ∀ j,s7 (rM B i) j=(decide (j=i) || s7 B j):=by
 have hb:=h _ (List.getElem_mem hi)
 obtain ⟨b,hbn⟩:=Int.eq_ofNat_of_zero_le hb.1
 have hb2:b < 256:=by omega
 have hk:i % 8 < 8:=Nat.mod_lt _ (by decide)
 have hp:=FP (i % 8) hk
 have hv:Go.bits .or .u8 ((B[i / 8]?).getD 0) (IntKind.u8.wrap (1*2 ^ (min (i % 8) 8)))=((b ||| 2 ^ (i % 8):Nat):Int):=by
  rw [List.getElem?_eq_getElem hi,Option.getD_some,hbn,FN _ hk,or8 hb2 hp]
 have hlt:=Nat.or_lt_two_pow (n:=8) hb2 hp
 have hlen:(rM B i).length=B.length:=by unfold rM; rw [List.length_set]
 refine ⟨?_,hlen,λj=> ?_⟩
 ·unfold rM
  rw [hv]
  intro x hx
  rcases List.mem_or_eq_of_mem_set hx with hx | rfl
  ·exact h x hx
  ·omega
 ·unfold s7 rM
  rw [hv,List.getElem?_set]
  by_cases hq:i / 8=j / 8
  ·rw [if_pos hq,if_pos hi,<- hq,List.getElem?_eq_getElem hi,hbn]
   dsimp only
   have e1:decide ((((b ||| 2 ^ (i % 8):Nat):Int) / 2 ^ (j % 8)) % 2=1)=(b ||| 2 ^ (i % 8)).testBit (j % 8):=by
    rw [Bool.eq_iff_iff,decide_eq_true_eq]
    exact rL _ _
   have e2:decide (((b:Int) / 2 ^ (j % 8)) % 2=1)=b.testBit (j % 8):=by
    rw [Bool.eq_iff_iff,decide_eq_true_eq]
    exact rL _ _
   rw [e1,e2,Nat.testBit_or,Nat.testBit_two_pow]
   have e3:decide (i % 8=j % 8)=decide (j=i):=by
    rw [Bool.eq_iff_iff,decide_eq_true_eq,decide_eq_true_eq]
    omega
   rw [e3,Bool.or_comm]
  ·rw [if_neg hq,show decide (j=i)=false from decide_eq_false (λe=>hq (by rw [e])),Bool.false_or]
theorem u4: ∀ (L:List Nat) {B:List Int},BB B->(∀ i∈L,i / 8 < B.length)->BB (L.foldl rM B)/\(L.foldl rM B).length=B.length /\ ∀ j,s7 (L.foldl rM B) j=(decide (j∈L) || s7 B j)
 | [],B,h,_=>⟨h,rfl,λj=>by simp⟩
 | i::L,B,h,hl=>by
  obtain ⟨h1,h2,h3⟩:=FQ h (hl i List.mem_cons_self)
  obtain ⟨k1,k2,k3⟩:=u4 L h1 λq hq=>by rw [h2]; exact hl q (List.mem_cons_of_mem _ hq)
  refine ⟨k1,k2.trans h2,λj=> ?_⟩
  rw [List.foldl_cons,k3 j,h3 j]
  by_cases h4:j=i
  ·subst h4; simp
  ·simp [h4]
def jm (l:List (Int×ByteArray)) (n:Nat):List Nat:=(List.range n).filter λi=>(mgl (i:Int) l).isSome
theorem FR {l:List (Int×ByteArray)} {n:Nat} {id b:Int} (hn:n<=5000):eH ⟨id,(n:Int),some l,b⟩=some ((jm l n).map λi:Nat=>(i:Int)):=by
 unfold eH gF
 have hlen: ∀ i,(jm l i).length<=i:=λi=>by
  unfold jm
  have:=List.length_filter_le (λq:Nat=>(mgl (q:Int) l).isSome) (List.range i)
  rw [List.length_range] at this
  exact this
 have:=s6 (s:=⟨id,(n:Int),some l,b⟩) (n:=n) rfl (by omega) (λs32 x3=>(bif (x3.2 == true) then (Option.bind (chk (cW s32.length [x3.1].length 8)) λ_=>some ((s32++[x3.1]),true)) else some (s32,true))) (λi=>(jm l i).map λi:Nat=>(i:Int)) (λi hi=>by
  dsimp only
  have hs:jm l (i+1)=jm l i++(if (mgl (i:Int) l).isSome=true then [i] else []):=by
   unfold jm
   rw [List.range_succ,List.filter_append]
   congr 1
   rw [List.filter_cons]
   rfl
  have hh:iv (some l) (i:Int)=(mgl (i:Int) l).isSome:=rfl
  have:=hlen i
  rw [hh,hs]
  cases hm:(mgl (i:Int) l).isSome with
  | true =>
   rw [show (true == true)=true from rfl,cond_true,bP (by simp; omega),aA,if_pos rfl,List.map_append]
   rfl
  | false =>
   rw [show (false == true)=false from rfl,cond_false,if_neg (by simp),List.append_nil])
 rw [show ((jm l 0).map λi:Nat=>(i:Int))=([]:List Int) from rfl] at this
 rw [this]
 rfl
def vr (l:List (Int×ByteArray)) (n:Nat):List Int:=(jm l n).foldl rM (List.replicate ((n+7) / 8) 0)
theorem Bl (l:List (Int×ByteArray)) (n:Nat):BB (vr l n)/\(vr l n).length=(n+7) / 8 /\ ∀ j,s7 (vr l n) j=decide (j∈jm l n):=by
 have h0:BB (List.replicate ((n+7) / 8) (0:Int)):=λx hx=>by rw [List.eq_of_mem_replicate hx]; exact ⟨by decide,by decide⟩
 obtain ⟨h1,h2,h3⟩:=u4 (jm l n) h0 λi hi=>by
  have:=List.mem_range.1 (List.mem_filter.1 hi).1
  rw [List.length_replicate]
  omega
 refine ⟨h1,by rw [show (vr l n).length=_ from h2,List.length_replicate],λj=> ?_⟩
 rw [show s7 (vr l n) j=_ from h3 j]
 have:s7 (List.replicate ((n+7) / 8) (0:Int)) j=false:=by
  unfold s7
  rw [List.getElem?_replicate]
  split
  ·rename_i b hb
   split at hb
   ·injection hb with hb
    rw [<- hb]
    simp
   ·cases hb
  ·rfl
 rw [this,Bool.or_false]
theorem En {t:bA} {l:List (Int×ByteArray)} {n:Nat} {id b:Int} (h:t.slot=⟨id,(n:Int),some l,b⟩) (hn:n<=5000):dS t=some ⟨1,2,[t.aJ.k,id],dL (vr l n)⟩:=by
 unfold dS
 have e1:IntKind.i64.wrap ((IntKind.i64.wrap ((IntKind.i64.wrap ((n:Int)+8)) - 1)).tdiv 8)=(((n+7) / 8:Nat):Int):=by
  rw [w64 (x:=(n:Int)+8) (by omega) (by omega),w64 (x:=(n:Int)+8 - 1) (by omega) (by omega)]
  have:((n:Int)+8 - 1).tdiv 8=(((n+7) / 8:Nat):Int):=by
   rw [show (n:Int)+8 - 1=((n+7:Nat):Int) by omega]
   rfl
  rw [this,w64 (by omega) (by omega)]
 rw [h,show ie ⟨id,(n:Int),some l,b⟩=some (n:Int) from rfl,aA,e1,show chk (ux (((n+7) / 8:Nat):Int) 1)=some () from kg (by unfold big; omega),aA,FR hn,aA,Int.toNat_natCast]
 have hlen: ∀ i,(((jm l n).take i).foldl rM (List.replicate ((n+7) / 8) (0:Int))).length=(n+7) / 8:=λi=>by
  have h0:BB (List.replicate ((n+7) / 8) (0:Int)):=λx hx=>by rw [List.eq_of_mem_replicate hx]; exact ⟨by decide,by decide⟩
  have:=(u4 ((jm l n).take i) h0 λi hi=>by
   have:=List.mem_range.1 (List.mem_filter.1 (List.mem_of_mem_take hi)).1
   rw [List.length_replicate]
   omega).2.1
  rw [this,List.length_replicate]
 refine dX (λi:Nat=>((i:Int),((jm l n).take i).foldl rM (List.replicate ((n+7) / 8) (0:Int)))) (jm l n).length (vr l n) rfl ?_ ?_ ?_
 ·intro i hi
  dsimp only
  have hm:=List.mem_range.1 (List.mem_filter.1 (List.getElem_mem hi)).1
  have hl:=hlen i
  have hh:(jm l n).length<=n:=by
   unfold jm
   have:=List.length_filter_le (λq:Nat=>(mgl (q:Int) l).isSome) (List.range n)
   rw [List.length_range] at this
   exact this
  have e2:(((jm l n)[i]:Nat):Int).tdiv 8=(((jm l n)[i] / 8:Nat):Int):=rfl
  have e3:(((jm l n)[i]:Nat):Int).tmod 8=(((jm l n)[i] % 8:Nat):Int):=rfl
  have hmod:(jm l n)[i] % 8 < 8:=Nat.mod_lt _ (by decide)
  rw [List.length_map,decide_eq_true (by omega),cond_true,bG _ i (by rw [List.length_map]; exact hi),aA,List.getElem_map,e2,e3,w64 (x:=(((jm l n)[i] / 8:Nat):Int)) (by omega) (by omega),bG _ ((jm l n)[i] / 8) (by rw [hl]; omega),aA,show chk (shk (((jm l n)[i] % 8:Nat):Int))=some () from kg (by omega),aA,aA,w64 (by omega) (by have:=hh; omega),List.take_succ_eq_append_getElem hi,List.foldl_append]
  simp only [List.foldl_cons,List.foldl_nil]
  rw [rM,List.getElem?_eq_getElem (by rw [hl]; omega),Option.getD_some,Int.toNat_natCast,Int.toNat_natCast]
  rfl
 ·dsimp only
  rw [List.length_map,decide_eq_false (by omega),cond_false,List.take_length]
  rfl
 ·rfl
theorem rN {α:Type} (k j:Int) (x:α): ∀ l:List (Int×α),mgl k (msl j x l)=if k=j then some x else mgl k l
 | []=>by simp [msl,mgl]
 | (i,y)::l=>by
  unfold msl
  by_cases h:j=i
  ·subst h
   rw [if_pos rfl]
   simp only [mgl]
   split <;> rfl
  ·rw [if_neg h]
   simp only [mgl]
   rw [rN k j x l]
   by_cases h1:k=i
   ·rw [if_pos h1,if_neg (λe=>h (by rw [<- e]; exact h1)),if_pos h1]
   ·rw [if_neg h1,if_neg h1]
structure SR (s:bV) (x:cN) (l:List (Int×ByteArray)):Prop where
 key:x.key=s.key
 cnt:s.count=(x.parts.length:Int)
 has:x.has=(List.range x.parts.length).map λi:Nat=>(mgl (i:Int) l).isSome
 sl:SL x.parts l
 zz: ∀ i:Nat,mgl (i:Int) l=none->i < x.parts.length->x.parts[i]?=some noS
 st:(s.parts=some l/\1<=s.key)\/(s.parts=none/\l=[]/\s.key=0/\x.parts=[])
 le:x.parts.length<=4096
theorem xo:SR ⟨0,0,none,0⟩ ⟨0,[],[]⟩ []:=⟨rfl,rfl,rfl,Em _,λ_ _ h=>absurd h (Nat.not_lt_zero _),.inr ⟨rfl,rfl,rfl,rfl⟩,by decide⟩
theorem SR.mh {s:bV} {x:cN} {l:List (Int×ByteArray)} (h:SR s x l) (i:Int):iv s.parts i=(mgl i l).isSome:=by
 rcases h.st with ⟨e,_⟩ | ⟨e,e2,_⟩
 ·rw [e]; rfl
 ·rw [e,e2]; rfl
theorem SR.hl {s:bV} {x:cN} {l:List (Int×ByteArray)} (h:SR s x l):x.has.length=x.parts.length:=by rw [h.has]; simp
theorem FT (count index key:Int):((bif (decide (count < 1)) then some true else (bif (decide (count > 4096)) then some true else (bif (decide (index < 0)) then some true else (bif (decide (index>=count)) then some true else some (decide (key < 1)))))):Option Bool)=some (decide (count < 1\/count > 4096\/index < 0\/index>=count\/key < 1)):=by
 by_cases a:count < 1 <;> by_cases b:count > 4096 <;> by_cases c:index < 0 <;> by_cases d:index>=count <;> simp [a,b,c,d]
theorem yE: ∀ (P:List ByteArray) (i:Nat) (d:ByteArray),(fA (P.set i d)).length<=(fA P).length+d.size
 | [],i,d=>by simp [fA]
 | p::P,0,d=>by simp [fA,bD]; omega
 | p::P,i+1,d=>by
  have:=yE P i d
  simp only [fA,List.set_cons_succ,List.flatMap_cons,List.length_append] at this ⊢
  omega
theorem Ep (n:Nat):fA (List.replicate n noS)=[]:=by
 unfold fA
 rw [List.flatMap_eq_nil_iff]
 intro x hx
 rw [List.eq_of_mem_replicate hx]
 rfl
theorem Bm {α:Type} (a b:List α) (h:a.length=b.length):cpy a b=b:=by
 unfold cpy
 simp [h]
theorem Es {s:bV} {x:cN} {l:List (Int×ByteArray)} (h:SR s x l) (hk:1<=s.key) {i:Nat} (hi:i < x.parts.length) (d:ByteArray) :
  ∃ s' x' l',(Option.bind ((bif (!(iv s.parts (i:Int))) then (Option.bind (chk s.parts.isSome) λ_=>some (bV.mk s.key s.count (BI s.parts (i:Int) d) (IntKind.i64.wrap (s.bytes+(d.size:Int))))) else some s):Option bV) λa=>some ((0:Int),a))=some (0,s') /\
   (Option.bind (idx x.has (i:Int)) λb=>(Option.bind ((bif (!b) then (Option.bind (idx x.has (i:Int)) λg=>(Option.bind (idx x.parts (i:Int)) λk=>some (cN.mk x.key (x.has.set ((i:Int)).toNat true) (x.parts.set ((i:Int)).toNat d)))) else some x):Option cN) λf=>some (f,(0:Int))))=some (x',0)/\SR s' x' l'/\(fA x'.parts).length<=(fA x.parts).length+d.size/\s'.key=s.key:=by
 have e1:s.parts=some l:=by
  rcases h.st with ⟨e,_⟩ | ⟨_,_,e,_⟩
  ·exact e
  ·omega
 have e2:idx x.has (i:Int)=some (mgl (i:Int) l).isSome:=by
  rw [bG _ i (by rw [h.hl]; exact hi)]
  congr 1
  simp [h.has]
 rw [h.mh,e2,aA]
 cases hm:(mgl (i:Int) l).isSome with
 | true=>exact ⟨s,x,l,rfl,rfl,h,by omega,rfl⟩
 | false =>
  have hn:mgl (i:Int) l=none:=by
   cases hg:mgl (i:Int) l with
   | none=>rfl
   | some x=>rw [hg] at hm; cases hm
  rw [Bool.not_false,cond_true,cond_true,e1,show chk (some l).isSome=some () from rfl,aA,aA,aA,bG _ i hi,aA,aA,Int.toNat_natCast]
  have hs:SL (x.parts.set i d) l:=⟨h.sl.nd,λp hp=>by
   obtain ⟨j,ej,hj⟩:=h.sl.at_ p hp
   have hne:i≠j:=λe=>rK hn p hp (by rw [ej,e])
   exact ⟨j,ej,by rw [List.getElem?_set_ne hne]; exact hj⟩⟩
  obtain ⟨h1,h2⟩:=hs.add (i:=i) (d:=d) (by simp [hi]) hn
  refine ⟨_,_,msl (i:Int) d l,rfl,rfl,⟨h.key,by simpa using h.cnt,?_,h1,λj hj hj2=> ?_,.inl ⟨rfl,hk⟩,by simpa using h.le⟩,yE _ _ _,rfl⟩
  ·dsimp only
   rw [List.length_set,h.has]
   refine List.ext_getElem (by simp) λj hj1 hj2=> ?_
   simp only [List.length_set,List.length_map,List.length_range] at hj1
   rw [List.getElem_set]
   simp only [List.getElem_map,List.getElem_range,rN]
   by_cases c:i=j
   ·subst c; simp
   ·rw [if_neg c,if_neg (by omega)]
  ·dsimp only at hj2 ⊢
   rw [rN] at hj
   rw [List.length_set] at hj2
   have c:i≠j:=λe=>by subst e; simp at hj
   rw [if_neg (by omega)] at hj
   rw [List.getElem?_set_ne c]
   exact h.zz j hj hj2
theorem Hd {s:bV} {x:cN} {l:List (Int×ByteArray)} (h:SR s x l) (key index count:Int) (d:ByteArray) :
  ∃ e s' x' l',jf s key index count d=some (e,s')/\mG x key index count d=some (x',e)/\SR s' x' l'/\(fA x'.parts).length<=(fA x.parts).length+d.size/\(e≠0->s'=s/\x'=x)/\(s'.key=s.key\/s'.key=key)/\e≠4:=by
 unfold jf mG
 rw [FT,aA,aA]
 by_cases c:count < 1\/count > 4096\/index < 0\/index>=count\/key < 1
 ·rw [decide_eq_true c,cond_true,cond_true]
  exact ⟨6,s,x,l,rfl,rfl,h,by omega,λ_=>⟨rfl,rfl⟩,.inl rfl,by decide⟩
 ·rw [decide_eq_false c,cond_false,cond_false,h.key]
  by_cases c1:key < s.key
  ·rw [decide_eq_true c1,cond_true,cond_true]
   exact ⟨8,s,x,l,rfl,rfl,h,by omega,λ_=>⟨rfl,rfl⟩,.inl rfl,by decide⟩
  ·rw [decide_eq_false c1,cond_false,cond_false,show chk (ux count 1)=some () from kg (by unfold big; omega),aA,show chk (ux count 16)=some () from kg (by unfold big; omega),aA]
   obtain ⟨n,rfl⟩: ∃ n:Nat,count=(n:Int):=⟨count.toNat,by omega⟩
   obtain ⟨i,rfl⟩: ∃ i:Nat,index=(i:Int):=⟨index.toNat,by omega⟩
   by_cases c2:key > s.key
   ·rw [decide_eq_true c2,cond_true,HQ (by omega),cond_false,aA,aA,Int.toNat_natCast]
    have h0:SR ⟨key,(n:Int),some [],0⟩ ⟨key,List.replicate n false,List.replicate n noS⟩ []:=by
     refine ⟨rfl,by simp,?_,Em _,λi _ hi=> ?_,.inl ⟨rfl,show 1<=key by omega⟩,by simp; omega⟩
     ·dsimp only
      rw [List.length_replicate]
      refine List.ext_getElem (by simp) λj hj1 hj2=>by simp [mgl]
     ·dsimp only at hi ⊢
      rw [List.length_replicate] at hi
      simp [hi]
    obtain ⟨s',x',l',e1,e2,e3,e4,e5⟩:=Es h0 (show 1<=key by omega) (i:=i) (by simp; omega) d
    dsimp only
    refine ⟨0,s',x',l',e1,e2,e3,?_,λh=>absurd rfl h,.inr e5,by decide⟩
    dsimp only at e4
    rw [Ep] at e4
    simp at e4
    omega
   ·have hk:key=s.key:=by omega
    subst hk
    have hk1:1<=s.key:=by omega
    rw [decide_eq_false c2,cond_false,show (s.key == s.key)=true by simp,cond_true,h.cnt,h.hl]
    by_cases c3:n=x.parts.length
    ·subst c3
     rw [Ii,cond_false,cond_false,aA,aA,Int.toNat_natCast,Bm _ x.has (by rw [List.length_replicate,h.hl]),Bm _ x.parts (by rw [List.length_replicate])]
     obtain ⟨s',x',l',e1,e2,e3,e4,e5⟩:=Es h hk1 (i:=i) (by omega) d
     have ex:cN.mk s.key x.has x.parts=x:=by rw [<- h.key]
     rw [ex]
     exact ⟨0,s',x',l',e1,e2,e3,e4,λh=>absurd rfl h,.inl e5,by decide⟩
    ·rw [show ((n:Int) != (x.parts.length:Int))=true by simp; omega,cond_true,cond_true]
     exact ⟨1,s,x,l,rfl,rfl,h,by omega,λ_=>⟨rfl,rfl⟩,.inl rfl,by decide⟩
def whL (l:List (Int×ByteArray)) (n:Nat) (b:Bool):List Nat:=(List.range n).filter λi=>(mgl (i:Int) l).isSome == b
theorem Bn (l:List (Int×ByteArray)) (n:Nat) (b:Bool):(whL l n b).length<=n:=by
 unfold whL
 have:=List.length_filter_le (λi:Nat=>(mgl (i:Int) l).isSome == b) (List.range n)
 rw [List.length_range] at this
 exact this
theorem yF (l:List (Int×ByteArray)) (n:Nat) (b:Bool):whL l (n+1) b=whL l n b++(if ((mgl (n:Int) l).isSome == b)=true then [n] else []):=by
 unfold whL
 rw [List.range_succ,List.filter_append]
 congr 1
 rw [List.filter_cons]
 rfl
theorem Gl {s:bV} {l:List (Int×ByteArray)} {n:Nat} (hc:s.count=(n:Int)) (hm: ∀ i,iv s.parts i=(mgl i l).isSome) (hn:n<=5000) (b:Bool):gF s b=some ((whL l n b).map λi:Nat=>(i:Int)):=by
 unfold gF
 have:=s6 (s:=s) (n:=n) hc (by omega) (λs32 x3=>(bif (x3.2 == b) then (Option.bind (chk (cW s32.length [x3.1].length 8)) λ_=>some ((s32++[x3.1]),true)) else some (s32,true))) (λi=>(whL l i b).map λi:Nat=>(i:Int)) (λi hi=>by
  dsimp only
  have:=Bn l i b
  rw [hm,yF]
  cases hg:((mgl (i:Int) l).isSome == b) with
  | true =>
   rw [cond_true,bP (by simp; omega),aA,if_pos rfl,List.map_append]
   rfl
  | false=>rw [cond_false,if_neg (by simp),List.append_nil])
 rw [show ((whL l 0 b).map λi:Nat=>(i:Int))=([]:List Int) from rfl] at this
 rw [this]
 rfl
theorem He {x:cN} {l:List (Int×ByteArray)} {n:Nat} (hh:x.has=(List.range n).map λi:Nat=>(mgl (i:Int) l).isSome) (hn:n<=5000) (b:Bool):kP x b=some ((whL l n b).map λi:Nat=>(i:Int)):=by
 unfold kP
 have hl:x.has.length=n:=by rw [hh]; simp
 refine dX (λi:Nat=>((i:Int),(whL l i b).map λi:Nat=>(i:Int))) n _ rfl ?_ ?_ rfl
 ·intro i hi
  dsimp only
  have:=Bn l i b
  rw [hl,decide_eq_true (by omega),cond_true,bG _ i (by omega),aA,show x.has[i]'(by omega)=(mgl (i:Int) l).isSome by simp [hh],yF]
  cases hg:((mgl (i:Int) l).isSome == b) with
  | true=>rw [cond_true,bP (by simp; omega),aA,aA,if_pos rfl,List.map_append,w64 (by omega) (by omega)]; rfl
  | false=>rw [cond_false,aA,if_neg (by simp),List.append_nil,w64 (by omega) (by omega)]; rfl
 ·dsimp only
  rw [hl,decide_eq_false (by omega),cond_false]
theorem Hf {s:bV} {x:cN} {l:List (Int×ByteArray)} (h:SR s x l) (hb:(fA x.parts).length<=100000) :
  ∃ w u b,fI s=some (w,b)/\mH x=some (u,b)/\(b=true->w=u/\w=dL (fA x.parts)):=by
 have hA: ∀ R:ByteArray->Option (ByteArray×Bool),Option.bind (iter (σ:=Int×ByteArray) (ρ:=ByteArray) (λd=>(bif (decide (d.1 < (x.parts.length:Int))) then (Option.bind (idx x.parts d.1) λf=>(Option.bind (chk (lu d.2.size f.size)) λ_=>some (.inl ((IntKind.i64.wrap (d.1+1)),(d.2++f))))) else some (.inr d.2))) (0,(ByteArray.mk #[]))) R=R (dL (fA x.parts)):=λR=>by
  refine dX (λi:Nat=>((i:Int),dL (fA (x.parts.take i)))) x.parts.length (dL (fA x.parts)) rfl ?_ ?_ rfl
  ·intro i hi
   dsimp only
   have hpre:(fA (x.parts.take (i+1))).length<=(fA x.parts).length:=by
    have e:fA x.parts=fA (x.parts.take (i+1))++fA (x.parts.drop (i+1)):=by
     unfold fA
     rw [<- List.flatMap_append,List.take_append_drop]
    rw [e,List.length_append]
    omega
   have e2:=qN x.parts i hi
   have e3:(fA (x.parts.take (i+1))).length=(fA (x.parts.take i)).length+x.parts[i].size:=by rw [e2,List.length_append,bD]
   have:=h.le
   rw [decide_eq_true (by omega),cond_true,bG _ i hi,aA,eD (by rw [bQ]; omega),aA,w64 (by omega) (by omega),e2,dG,po]
   rfl
  ·dsimp only
   rw [decide_eq_false (by omega),cond_false,List.take_length]
 unfold mH
 rw [hA]
 have hle:=h.le
 rcases h.st with ⟨e1,e2⟩ | ⟨e1,e2,e3,e4⟩
 ·have hs:s=⟨s.key,(x.parts.length:Int),some l,s.bytes⟩:=by rw [<- e1,<- h.cnt]
  have hw:=Ah (b:=s.bytes) e2 h.sl (by omega) (by omega)
  rw [<- hs] at hw
  rw [hw,decide_eq_true (show x.key > 0 by rw [h.key]; omega),cond_true,He h.has (by omega),aA,aA]
  by_cases c:l.length < x.parts.length
  ·refine ⟨noS,dL (fA x.parts),false,by rw [if_pos c],?_,λh=>by cases h⟩
   have:whL l x.parts.length false≠[]:=λe=>by
    have:=SL.full (P:=x.parts) (l:=l) λi hi=>by
     have:=(List.filter_eq_nil_iff.1 e) i (List.mem_range.2 hi)
     simpa [Option.isSome_iff_ne_none] using this
    omega
   cases hq:whL l x.parts.length false with
   | nil=>exact absurd hq this
   | cons a b=>rfl
  ·refine ⟨dL (fA x.parts),dL (fA x.parts),true,by rw [if_neg c],?_,λ_=>⟨rfl,rfl⟩⟩
   have:whL l x.parts.length false=[]:=by
    unfold whL
    rw [List.filter_eq_nil_iff]
    intro i hi
    have hall:=(h.sl.le).2 (by have:=h.sl.le.1; omega) i (List.mem_range.1 hi)
    rw [hall]
    simp
   rw [this]
   rfl
 ·refine ⟨noS,dL (fA x.parts),false,?_,?_,λh=>by cases h⟩
  ·unfold fI
   rw [e3]
   rfl
  ·rw [h.key,e3]
   rfl
abbrev CL:=List (Int×CacheEntry)
structure CM (now:Int) (m:CL):Prop where
 nd:(m.map Prod.fst).Nodup
 r: ∀ e∈m,0<=e.1/\e.1 < 1152921504606846976
 a: ∀ e∈m,e.2.at_<=now
 da:(m.map λe=>e.2.at_).Nodup
 g: ∀ e∈m,e.2.l.length<=1000000
theorem pZ {i:Int} {x:CacheEntry}: ∀ {m:CL},(m.map Prod.fst).Nodup -> ∀ e∈msl i x m,e=(i,x)\/(e∈m/\e.1≠i)
 | [],_,e,h=> .inl (List.mem_singleton.1 h)
 | (j,y)::m,hn,e,h=>by
  have hn':=List.nodup_cons.1 hn
  unfold msl at h
  split at h
  ·rename_i hij
   subst hij
   rcases List.mem_cons.1 h with h | h
   ·exact .inl h
   ·exact .inr ⟨List.mem_cons_of_mem _ h,λc=>hn'.1 (List.mem_map.2 ⟨e,h,c⟩)⟩
  ·rename_i hij
   rcases List.mem_cons.1 h with rfl | h
   ·exact .inr ⟨List.mem_cons_self,λc=>hij c.symm⟩
   ·rcases pZ hn'.2 e h with c | ⟨c,d⟩
    ·exact .inl c
    ·exact .inr ⟨List.mem_cons_of_mem _ c,d⟩
theorem yG {i:Int} {x:CacheEntry}: ∀ {m:CL},(m.map Prod.fst).Nodup->((msl i x m).map Prod.fst).Nodup /\ ∀ j,j∈(msl i x m).map Prod.fst↔j=i\/j∈m.map Prod.fst
 | [],_=>⟨by simp [msl],λj=>by simp [msl]⟩
 | (j,y)::m,hn=>by
  have hn':=List.nodup_cons.1 hn
  obtain ⟨h1,h2⟩:=yG (i:=i) (x:=x) hn'.2
  unfold msl
  split
  ·rename_i hij
   subst hij
   refine ⟨hn,λj=> ?_⟩
   simp only [List.map_cons,List.mem_cons]
   exact ⟨λc=>c.elim .inl λd=> .inr (.inr d),λc=>c.elim .inl id⟩
  ·rename_i hij
   refine ⟨List.nodup_cons.2 ⟨λc=> ?_,h1⟩,λq=> ?_⟩
   ·rcases (h2 j).1 c with d | d
    ·exact hij d.symm
    ·exact hn'.1 d
   ·simp only [List.map_cons,List.mem_cons,h2]
    exact ⟨λc=>c.elim (λd=> .inr (.inl d)) λd=>d.elim .inl λe=> .inr (.inr e),λc=>c.elim (λd=> .inr (.inl d)) λd=>d.elim .inl λe=> .inr (.inr e)⟩
theorem Bo {i:Int} {x:CacheEntry}: ∀ {m:CL},(m.map λe=>e.2.at_).Nodup->(∀ e∈m,e.2.at_ < x.at_)->((msl i x m).map λe=>e.2.at_).Nodup /\ ∀ q∈(msl i x m).map (λe=>e.2.at_),q=x.at_\/q∈m.map λe=>e.2.at_
 | [],_,_=>⟨by simp [msl],λq h=>by simp [msl] at h; exact .inl h⟩
 | (j,y)::m,hn,hx=>by
  have hn':=List.nodup_cons.1 hn
  have hy:=hx _ List.mem_cons_self
  obtain ⟨h1,h2⟩:=Bo (i:=i) (x:=x) hn'.2 λe he=>hx e (List.mem_cons_of_mem _ he)
  unfold msl
  split
  ·refine ⟨List.nodup_cons.2 ⟨λc=> ?_,hn'.2⟩,λq hq=> ?_⟩
   ·obtain ⟨e,he,c⟩:=List.mem_map.1 c
    have:=hx e (List.mem_cons_of_mem _ he)
    dsimp only at c
    omega
   ·rcases List.mem_cons.1 hq with c | c
    ·exact .inl c
    ·exact .inr (List.mem_cons_of_mem _ c)
  ·refine ⟨List.nodup_cons.2 ⟨λc=> ?_,h1⟩,λq hq=> ?_⟩
   ·rcases h2 _ c with d | d
    ·dsimp only at d hy; omega
    ·exact hn'.1 d
   ·rcases List.mem_cons.1 hq with c | c
    ·exact .inr (c ▸ List.mem_cons_self)
    ·rcases h2 _ c with d | d
     ·exact .inl d
     ·exact .inr (List.mem_cons_of_mem _ d)
theorem xq {i:Int} {x:CacheEntry}: ∀ m:CL,(msl i x m).length<=m.length+1/\((mgl i m).isSome=true->(msl i x m).length=m.length)
 | []=>⟨Nat.le_refl _,λh=>by cases h⟩
 | (j,y)::m=>by
  obtain ⟨h1,h2⟩:=xq (i:=i) (x:=x) m
  unfold msl mgl
  split
  ·exact ⟨by simp,λ_=>rfl⟩
  ·refine ⟨by simp only [List.length_cons]; omega,λh=> ?_⟩
   simp only [List.length_cons,h2 h]
theorem xu {i:Int}: ∀ m:CL,(mdl i m).Sublist m/\(i∈m.map Prod.fst->(mdl i m).length+1=m.length)
 | []=>⟨.slnil,λh=>by cases h⟩
 | (j,y)::m=>by
  obtain ⟨h1,h2⟩:=xu (i:=i) m
  unfold mdl
  split
  ·exact ⟨List.sublist_cons_self _ _,λ_=>rfl⟩
  ·rename_i hij
   refine ⟨h1.cons_cons _,λh=> ?_⟩
   rcases List.mem_cons.1 h with c | c
   ·exact absurd c hij
   ·simp only [List.length_cons,h2 c]
theorem CM.sub {now:Int} {m m':CL} (h:CM now m) (hs:m'.Sublist m):CM now m':=⟨h.nd.sublist (hs.map _),λe he=>h.r e (hs.subset he),λe he=>h.a e (hs.subset he),h.da.sublist (hs.map _),λe he=>h.g e (hs.subset he)⟩
theorem CM.set {now:Int} {m:CL} (h:CM now m) {i:Int} (hi:0<=i/\i < 1152921504606846976) {l:List aN} (hl:l.length<=1000000):CM (now+1) (msl i ⟨l,now+1⟩ m):=by
 refine ⟨(yG h.nd).1,λe he=> ?_,λe he=> ?_,(Bo h.da λe he=> ?_).1,λe he=> ?_⟩
 ·rcases pZ h.nd e he with rfl | ⟨c,_⟩
  ·exact hi
  ·exact h.r e c
 ·rcases pZ h.nd e he with rfl | ⟨c,_⟩
  ·exact Int.le_refl _
  ·have:=h.a e c; omega
 ·have:=h.a e he; dsimp only; omega
 ·rcases pZ h.nd e he with rfl | ⟨c,_⟩
  ·exact hl
  ·exact h.g e c
theorem Hg (x y:Int):iw x y=some (if x < y then -1 else if x > y then 1 else 0):=by
 unfold iw jI
 rw [aA,aA,show (x != x)=false by simp,show (y != y)=false by simp,cond_false,cond_false]
 by_cases c:x < y
 ·rw [decide_eq_true c,cond_true,if_pos c]
 ·rw [decide_eq_false c,cond_false,if_neg c]
  by_cases d:x > y
  ·rw [decide_eq_true d,cond_true,if_pos d]
  ·rw [decide_eq_false d,cond_false,if_neg d]
def atC (c:aR) (i:Int):Int:=(mgd c.l i ⟨[],0⟩).at_
theorem FU (c:aR) (ks:List Int) (hn:ks≠[]) (hl:ks.length<=1000000): ∃ r,dF ks c=some r/\r∈ks /\ ∀ j∈ks,atC c r<=atC c j:=by
 unfold dF
 have h0:0 < ks.length:=List.length_pos_iff.2 hn
 have hst: ∀ s:Int×Int,(∃ n:Nat,s.2=n/\1<=n/\n<=ks.length/\s.1∈ks /\ ∀ j∈ks.take n,atC c s.1<=atC c j)->(∃ s',(λs100:Int×Int=>((bif (decide (s100.2 < (ks.length:Int))) then (Option.bind ((Option.bind (idx ks s100.2) λa=>(Option.bind (eU a s100.1 c) λb=>(bif (decide (b < 0)) then (Option.bind (idx ks s100.2) λf=>some f) else some s100.1))):Option Int) λg=>some (.inl (g,(IntKind.i64.wrap (s100.2+1))))) else some (.inr s100.1)):Option ((Int×Int) ⊕ Int))) s=some (.inl s')/\(∃ n:Nat,s'.2=n/\1<=n/\n<=ks.length/\s'.1∈ks /\ ∀ j∈ks.take n,atC c s'.1<=atC c j)/\ks.length - s'.2.toNat < ks.length - s.2.toNat)\/(∃ r,(λs100:Int×Int=>((bif (decide (s100.2 < (ks.length:Int))) then (Option.bind ((Option.bind (idx ks s100.2) λa=>(Option.bind (eU a s100.1 c) λb=>(bif (decide (b < 0)) then (Option.bind (idx ks s100.2) λf=>some f) else some s100.1))):Option Int) λg=>some (.inl (g,(IntKind.i64.wrap (s100.2+1))))) else some (.inr s100.1)):Option ((Int×Int) ⊕ Int))) s=some (.inr r)/\(r∈ks /\ ∀ j∈ks,atC c r<=atC c j)):=by
  rintro ⟨m,i⟩ ⟨n,h1,h2,h3,h4,h5⟩
  dsimp only at h1 h4 h5 ⊢
  subst h1
  by_cases d:n < ks.length
  ·left
   have hc:eU ks[n] m c=some (if atC c ks[n] < atC c m then -1 else if atC c ks[n] > atC c m then 1 else 0):=by
    unfold eU
    rw [show ((mgd c.l ks[n] (CacheEntry.mk ([]:List aN) 0)).at_)=atC c ks[n] from rfl,show ((mgd c.l m (CacheEntry.mk ([]:List aN) 0)).at_)=atC c m from rfl,Hg]
    rfl
   rw [decide_eq_true (by omega),cond_true,bG ks n d,aA,hc,aA,aA,w64 (by omega) (by omega)]
   have ht:ks.take (n+1)=ks.take n++[ks[n]]:=List.take_succ_eq_append_getElem d
   by_cases e:atC c ks[n] < atC c m
   ·rw [if_pos e,show decide ((-1:Int) < 0)=true from rfl,cond_true,aA]
    refine ⟨_,rfl,⟨n+1,rfl,by omega,d,List.getElem_mem d,λj hj=> ?_⟩,by dsimp only; omega⟩
    rw [ht] at hj
    rcases List.mem_append.1 hj with hj | hj
    ·have:=h5 j hj; dsimp only; omega
    ·rw [List.mem_singleton.1 hj]; exact Int.le_refl _
   ·rw [if_neg e]
    have:decide ((if atC c ks[n] > atC c m then (1:Int) else 0) < 0)=false:=by split <;> rfl
    rw [this,cond_false,aA]
    refine ⟨_,rfl,⟨n+1,rfl,by omega,d,h4,λj hj=> ?_⟩,by dsimp only; omega⟩
    rw [ht] at hj
    rcases List.mem_append.1 hj with hj | hj
    ·exact h5 j hj
    ·rw [List.mem_singleton.1 hj]; dsimp only; omega
  ·right
   rw [decide_eq_false (by omega),cond_false]
   refine ⟨m,rfl,h4,λj hj=>h5 j ?_⟩
   rw [List.take_of_length_le (by omega)]
   exact hj
 obtain ⟨r,e1,e2⟩:=ox (σ:=Int×Int) (λs=> ∃ n:Nat,s.2=n/\1<=n/\n<=ks.length/\s.1∈ks /\ ∀ j∈ks.take n,atC c s.1<=atC c j) (λs=>ks.length - s.2.toNat) _ hst (ks[0],1) ⟨1,rfl,Nat.le_refl _,h0,List.getElem_mem h0,λj hj=>by
  obtain ⟨k,ks',rfl⟩:=List.exists_cons_of_ne_nil hn
  rw [List.mem_singleton.1 (show j∈[k] from hj)]
  exact Int.le_refl _⟩
 rw [decide_eq_false (by omega),cond_false,show (0:Int)=((0:Nat):Int) from rfl,bG ks 0 h0,aA]
 exact ⟨r,(congrArg (λz=>Option.bind z _) e1).trans rfl,e2⟩
structure CS (k N:Int) (c:aR):Prop where
 most:c.most=k
 now:0<=c.now/\c.now<=N
 l: ∃ m,c.l=some m/\CM c.now m/\(m.length:Int)<=k
theorem CS.more {k N M:Int} {c:aR} (h:CS k N c) (hm:N<=M):CS k M c:=⟨h.most,⟨h.now.1,by have:=h.now.2; omega⟩,h.l⟩
theorem FV (most:Int): ∃ c,lg most=some c/\CS (imax 1 (cD most 65536)) 0 c:=by
 refine ⟨_,rfl,rfl,⟨Int.le_refl _,Int.le_refl _⟩,[],rfl,⟨List.nodup_nil,λe h=>(by cases h),λe h=>(by cases h),List.nodup_nil,λe h=>(by cases h)⟩,?_⟩
 have:=gC 1 (cD most 65536)
 show (0:Int)<=_
 omega
theorem Ca {k N:Int} (hk:0<=k) {c:aR} (h:CS k N c): ∃ c',gA c=some c'/\CS k N c':=by
 obtain ⟨m,m1,m2,m3⟩:=h.l
 refine ⟨_,rfl,h.most,h.now,[],?_,⟨List.nodup_nil,λe h=>(by cases h),λe h=>(by cases h),List.nodup_nil,λe h=>(by cases h)⟩,hk⟩
 show E9 c.l=_
 rw [m1]
 rfl
theorem oX (l:List aN) (h:l.length<=1000000):cS l=some l:=by
 unfold cS
 rw [bP (by simp; omega),aA]
 rfl
theorem Eu {c:aR} {m:CL} (hm:c.l=some m) (hn:(m.map Prod.fst).Nodup) {i:Int} {e:CacheEntry} (h:(i,e)∈m):atC c i=e.at_:=by
 unfold atC mgd
 rw [hm,Option.getD_some,mg hn h]
 rfl
theorem Cb {k N:Int} {c:aR} (h:CS k N c) (hk:k<=100000): ∃ L,dN c=some L/\WS k L:=by
 obtain ⟨m,m1,m2,m3⟩:=h.l
 have h0: ∀ i∈m.map Prod.fst,0<=i/\i < 1152921504606846976:=λi hi=>by
  obtain ⟨e,he,rfl⟩:=List.mem_map.1 hi
  exact m2.r e he
 obtain ⟨a1,a2,a3⟩:=oE (m.map Prod.fst) [] trivial m2.nd (λi hi=>⟨(h0 i hi).1,iJ⟩)
 refine ⟨_,sX m1 (by omega) m2.nd m2.r,⟨λy hy=> ?_,by rw [a3,List.length_map]; show (0:Int)+_<=_; omega⟩⟩
 generalize kU [] (m.map Prod.fst)=L at a1 a2 hy
 have hne: ∀ (L:List aB) (lo:Int),NF lo L -> ∀ y∈L,lo < y.from_/\y.from_ < y.to:=by
  intro L
  induction L with
  | nil=>intro lo _ y hy; cases hy
  | cons z L ih =>
   intro lo hn y hy
   rcases List.mem_cons.1 hy with rfl | hy
   ·exact ⟨hn.1,hn.2.1⟩
   ·have:=ih _ hn.2.2 y hy
    have:=hn.1
    have:=hn.2.1
    omega
 have hb:=hne L _ a1 y hy
 have hlast:=(a2 (y.to - 1)).1 ⟨y,hy,by omega,by omega⟩
 rcases hlast with hlast | hlast
 ·exact absurd hlast iJ
 ·have:=h0 _ hlast
  omega
def n9 (hs:List Bool) (i:Nat):Nat->Nat
 | 0=>0
 | k+1=>n9 hs i k+if hs[i+k]?.getD false=true then 2 ^ k else 0
theorem p9 (hs:List Bool) (i:Nat): ∀ k,n9 hs i k < 2 ^ k
 | 0=>by simp [n9]
 | k+1=>by
  have:=p9 hs i k
  unfold n9
  split <;> omega
theorem wD (hs:List Bool) (i:Nat): ∀ k j,(n9 hs i k).testBit j=(decide (j < k) && hs[i+j]?.getD false)
 | 0,j=>by simp [n9]
 | k+1,j=>by
  have hl:=p9 hs i k
  have ih:=wD hs i k j
  unfold n9
  split
  ·rename_i hk
   have e:n9 hs i k+2 ^ k=2 ^ k*1 ||| n9 hs i k:=by
    rw [<- Nat.two_pow_add_eq_or_of_lt hl 1]
    omega
   rw [e,Nat.testBit_or,Nat.mul_one,Nat.testBit_two_pow,ih]
   by_cases c:k=j
   ·subst c; simp [hk]
   ·by_cases c2:j < k
    ·simp [c,c2,show j < k+1 by omega]
    ·simp [c,c2,show ¬ j < k+1 by omega]
  ·rename_i hk
   rw [Nat.add_zero,ih]
   by_cases c:k=j
   ·subst c; simp [hk]
   ·by_cases c2:j < k
    ·simp [c,c2,show j < k+1 by omega]
    ·simp [c,c2,show ¬ j < k+1 by omega]
theorem yH (hs:List Bool) (i:Nat): ∀ k d,hs.length<=i+k->n9 hs i (k+d)=n9 hs i k
 | k,0,_=>rfl
 | k,d+1,h=>by
  rw [<- Nat.add_assoc,n9,yH hs i k d h,List.getElem?_eq_none (by omega)]
  simp
theorem Ij: ∀ k:Nat,k < 8->idx ([1,2,4,8,16,32,64,128]:List Int) (k:Int)=some ((2 ^ k:Nat):Int)
 | 0,_ | 1,_ | 2,_ | 3,_ | 4,_ | 5,_ | 6,_ | 7,_=>by rfl
 | k+8,h=>by omega
def yI (hs:List Bool):List Int:=(List.range ((hs.length+7) / 8)).map λj:Nat=>((n9 hs (8*j) 8:Nat):Int)
theorem FW (x:dK) (hn:x.slot.has.length<=5000):ju x=some ⟨1,2,[x.aJ.k,x.slot.key],dL (yI x.slot.has)⟩:=by
 unfold ju
 generalize hhs:x.slot.has=hs at hn ⊢
 have hB: ∀ j,BB ((List.range j).map λj:Nat=>((n9 hs (8*j) 8:Nat):Int)):=λj b hb=>by
  obtain ⟨i,_,rfl⟩:=List.mem_map.1 hb
  have:=p9 hs (8*i) 8
  omega
 refine dX (λj:Nat=>(dL ((List.range j).map λj:Nat=>((n9 hs (8*j) 8:Nat):Int)),((8*j:Nat):Int))) ((hs.length+7) / 8) (dL (yI hs)) rfl ?_ ?_ rfl
 ·intro j hj
  dsimp only
  rw [decide_eq_true (by omega),cond_true]
  have hin:iter (σ:=Int×Int) (ρ:=Int) (λa=>(Option.bind ((bif (decide (a.2 < 8)) then some (decide ((IntKind.i64.wrap (((8*j:Nat):Int)+a.2)) < (hs.length:Int))) else some false):Option Bool) λd=>(bif d then (Option.bind ((Option.bind (idx hs (IntKind.i64.wrap (((8*j:Nat):Int)+a.2))) λe=>(bif e then (Option.bind (idx [1,2,4,8,16,32,64,128] a.2) λf=>some (IntKind.i64.wrap (a.1+f))) else some a.1)):Option Int) λg=>some (.inl (g,(IntKind.i64.wrap (a.2+1))))) else some (.inr a.1)))) (0,0)=some ((n9 hs (8*j) 8:Nat):Int):=by
   have hm:min 8 (hs.length - 8*j)<=8:=Nat.min_le_left _ _
   refine nk (λk:Nat=>(((n9 hs (8*j) k:Nat):Int),(k:Int))) (min 8 (hs.length - 8*j)) _ ?_ ?_
   ·intro k hk
    have hlt:8*j+k < hs.length:=by omega
    have hb:=p9 hs (8*j) k
    have hp:2 ^ k<=128:=Nat.pow_le_pow_right (n:=2) (by decide) (show k<=7 by omega)
    dsimp only
    rw [decide_eq_true (by omega),cond_true,w64 (by omega) (by omega),aA,decide_eq_true (by omega),cond_true,show (((8*j:Nat):Int)+(k:Int))=((8*j+k:Nat):Int) by omega,bG _ _ hlt,aA,Ij k (by omega),aA]
    have hg:hs[8*j+k]?.getD false=hs[8*j+k]:=by rw [List.getElem?_eq_getElem hlt]; rfl
    rw [n9,hg]
    cases hs[8*j+k] with
    | true=>rw [cond_true,aA,if_pos rfl,w64 (by omega) (by omega),w64 (by omega) (by omega)]; simp
    | false=>rw [cond_false,aA,if_neg (by simp),w64 (by omega) (by omega)]; simp
   ·dsimp only
    by_cases c:8<=hs.length - 8*j
    ·rw [Nat.min_eq_left c,decide_eq_false (by omega),cond_false,aA,cond_false]
    ·rw [Nat.min_eq_right (by omega),decide_eq_true (by omega),cond_true,w64 (by omega) (by omega),aA,decide_eq_false (by omega),cond_false]
     have:=yH hs (8*j) (hs.length - 8*j) (8 - (hs.length - 8*j)) (by omega)
     rw [show hs.length - 8*j+(8 - (hs.length - 8*j))=8 by omega] at this
     rw [this]
  rw [hin,aA]
  have hb:=p9 hs (8*j) 8
  have hu:IntKind.u8.wrap ((n9 hs (8*j) 8:Nat):Int)=((n9 hs (8*j) 8:Nat):Int):=by
   show ((n9 hs (8*j) 8:Nat):Int) % 256=_
   omega
  rw [hu,eD (by rw [bQ,bQ]; simp; omega),aA,w64 (by omega) (by omega),<- dG,List.range_succ,List.map_append]
  simp only [List.map_cons,List.map_nil]
  congr 3
 ·dsimp only
  rw [decide_eq_false (by omega),cond_false]
  rfl
theorem Cc {A B:List Int} (ha:BB A) (hb:BB B) (hl:A.length=B.length) (h: ∀ i,s7 A i=s7 B i):A=B:=by
 refine List.ext_getElem hl λj h1 h2=> ?_
 have b1:=ha _ (List.getElem_mem h1)
 have b2:=hb _ (List.getElem_mem h2)
 obtain ⟨x,hx⟩: ∃ x:Nat,A[j]=(x:Int):=⟨A[j].toNat,by omega⟩
 obtain ⟨y,hy⟩: ∃ y:Nat,B[j]=(y:Int):=⟨B[j].toNat,by omega⟩
 rw [hx,hy]
 rw [hx] at b1
 rw [hy] at b2
 congr 1
 refine Nat.eq_of_testBit_eq λt=> ?_
 by_cases c:t < 8
 ·have:=h (8*j+t)
  unfold s7 at this
  rw [show (8*j+t) / 8=j by omega,show (8*j+t) % 8=t by omega,List.getElem?_eq_getElem h1,List.getElem?_eq_getElem h2,hx,hy] at this
  dsimp only at this
  rw [Bool.eq_iff_iff,decide_eq_true_eq,decide_eq_true_eq,rL,rL] at this
  rw [Bool.eq_iff_iff]
  exact this
 ·have hp:256<=2 ^ t:=Nat.pow_le_pow_right (n:=2) (by decide) (show 8<=t by omega)
  rw [Nat.testBit_lt_two_pow (by omega),Nat.testBit_lt_two_pow (by omega)]
theorem Ew {l:List (Int×ByteArray)} {n:Nat} {hs:List Bool} (hh:hs=(List.range n).map λi:Nat=>(mgl (i:Int) l).isSome):yI hs=vr l n:=by
 have hl:hs.length=n:=by rw [hh]; simp
 obtain ⟨a1,a2,a3⟩:=Bl l n
 refine Cc (λb hb=> ?_) a1 (by rw [a2,yI]; simp [hl]) λi=> ?_
 ·obtain ⟨j,_,rfl⟩:=List.mem_map.1 hb
  have:=p9 hs (8*j) 8
  omega
 ·rw [a3 i]
  have hI:(i∈jm l n)↔(i < n/\(mgl (i:Int) l).isSome=true):=by
   unfold jm
   rw [List.mem_filter,List.mem_range]
  unfold s7 yI
  rw [hl,List.getElem?_map]
  by_cases c:i / 8 < (n+7) / 8
  ·rw [List.getElem?_range c]
   dsimp only [Option.map_some]
   rw [Bool.eq_iff_iff,decide_eq_true_eq,decide_eq_true_eq,rL,wD,hI,show 8*(i / 8)+i % 8=i by omega]
   have:i % 8 < 8:=Nat.mod_lt _ (by decide)
   rw [decide_eq_true this,Bool.true_and]
   by_cases c2:i < n
   ·rw [List.getElem?_eq_getElem (by omega)]
    simp [hh,c2]
   ·rw [List.getElem?_eq_none (by omega)]
    simp [c2]
  ·have: ¬ i < n:=by omega
   rw [List.getElem?_eq_none (by simp; omega)]
   simp [hI,this]
theorem Ai {t:bA} {x:dK} {l:List (Int×ByteArray)} (h:SR t.slot x.slot l):dS t=some ⟨1,2,[t.aJ.k,t.slot.key],dL (vr l x.slot.parts.length)⟩:=by
 have hn:=h.le
 have e:=En (t:=⟨⟨t.slot.key,(x.slot.parts.length:Int),some l,t.slot.bytes⟩,t.aJ⟩) (l:=l) (n:=x.slot.parts.length) rfl (by omega)
 rw [<- e]
 have h1:eH t.slot=some ((whL l x.slot.parts.length true).map λi:Nat=>(i:Int)):=by
  unfold eH
  rw [Gl h.cnt h.mh (by omega)]
  rfl
 have h2:eH ⟨t.slot.key,(x.slot.parts.length:Int),some l,t.slot.bytes⟩=some ((whL l x.slot.parts.length true).map λi:Nat=>(i:Int)):=by
  unfold eH
  rw [Gl (l:=l) (n:=x.slot.parts.length) rfl (λi=>rfl) (by omega)]
  rfl
 have h3:ie t.slot=some (x.slot.parts.length:Int):=congrArg some h.cnt
 unfold dS
 rw [h1,h2,h3]
 rfl
theorem Ey: ∀ (k i acc:Nat) (l:List Int) (e:Int),rdp k i acc l = .inl e->e≠4
 | 0,_,_,_,e,h=>by rw [rdp] at h; injection h with h; subst h; decide
 | k+1,_,_,[],e,h=>by rw [rdp] at h; injection h with h; subst h; decide
 | k+1,i,acc,b::r,e,h=>by
  rw [rdp] at h
  split at h
  ·split at h
   ·injection h with h; subst h; decide
   ·cases h
  ·exact Ey k _ _ _ e h
theorem pC {i:aK} (h:i.e≠4):(rdS i).2.e≠4:=by
 unfold rdS
 split
 ·cases hr:rdp 9 0 0 (sbs i.s) with
  | inl e=>exact Ey _ _ _ _ e hr
  | inr p=>exact (by decide:(0:Int)≠4)
 ·exact h
theorem xv:jW.e≠4:=by decide
theorem mX {i:aK} (m:Int) (h:i.e≠4):(cC i m).2.e≠4:=by
 unfold cC
 split
 ·exact xv
 ·exact pC h
theorem Hh {i:aK} (h:i.e≠4):(mO i).2.e≠4:=by
 have h1:=pC h
 unfold mO vq
 split
 ·exact h1
 ·split
  ·exact (by decide:(2:Int)≠4)
  ·exact (by decide:(0:Int)≠4)
theorem Aj: ∀ (k:Nat) (i:aK) (l:List aN),i.e≠4->(bkL k i l).2.e≠4
 | 0,_,_,h=>h
 | k+1,_,_,h=>Aj k _ _ (mX _ (mX _ h))
theorem Gm {i:aK} (h:i.e≠4):(bkS i).2.e≠4:=by
 unfold bkS
 split
 ·exact Aj _ _ _ (mX _ h)
 ·exact Aj _ _ _ (mX _ h)
theorem Ez {i:aK} (left:Int) (h:i.e≠4):(kE i left).2.e≠4:=by
 refine mX _ (mX _ (mX _ ?_))
 unfold n6
 split
 ·exact xv
 ·exact mX _ h
theorem yJ: ∀ (k:Nat) (w:Int) (i:aK) (l:List aP),i.e≠4->(rrS k w i l).2.e≠4
 | 0,_,_,_,h=>h
 | k+1,w,i,l,h=>by
  rw [rrS]
  split
  ·split
   ·split
    ·exact yJ k _ _ _ xv
    ·exact yJ k _ _ _ (Ez _ h)
   ·exact yJ k _ _ _ (Ez _ h)
  ·exact h
theorem Hi {i:aK} (w:Int) (h:i.e≠4):(iS i w).2.e≠4:=by
 unfold iS
 split
 ·exact yJ _ _ _ _ (mX _ h)
 ·exact yJ _ _ _ _ (mX _ h)
theorem EA: ∀ (k:Nat) (w h:Int) (i:aK) (last:Int) (l:List (Int×aY)),i.e≠4->(dlL k w h i last l).2.e≠4
 | 0,_,_,_,_,_,hi=>hi
 | k+1,w,h,i,last,l,hi=>by
  rw [dlL]
  split
  ·refine EA k _ _ _ _ _ (Hi _ ?_)
   unfold dlI
   split
   ·unfold tz
    split
    ·exact xv
    ·exact pC hi
   ·exact pC hi
  ·exact hi
theorem EB {i:aK} (h:i.e≠4):ku i≠4:=by
 unfold ku
 split
 ·decide
 ·exact h
theorem EC (a:aS) (s:ByteArray):(nG a s).2≠4:=by
 have h0:(⟨s,0⟩:aK).e≠4:=(by decide:(0:Int)≠4)
 have hN:(zN s).2.e≠4:=pC (Gm (pC (pC (Hh (pC (pC (mX _ (mX _ (pC (pC h0))))))))))
 have hR:(zR s).2.e≠4:=EA _ _ _ _ _ _ hN
 unfold nG
 split
 ·exact (by decide:(1:Int)≠4)
 ·split
  ·exact EB hR
  ·split
   ·exact (by decide:(7:Int)≠4)
   ·split
    ·exact (by decide:(1:Int)≠4)
    ·split
     ·exact (by decide:(1:Int)≠4)
     ·exact (by decide:(0:Int)≠4)
structure TP (t:bA) (x:dK) (q:Nat):Prop where
 sr: ∃ l,SR t.slot x.slot l
 hv:x.aJ=fP t.aJ
 sw:SW t.aJ
 bd:(t.aJ.rows.flatMap fS).length+(fA x.slot.parts).length<=q
theorem ED:TP ⟨⟨0,0,none,0⟩,jM⟩ ⟨fP jM,⟨0,[],[]⟩⟩ 0:=⟨⟨[],xo⟩,rfl,rk,Nat.le_refl _⟩
theorem TP.more {t:bA} {x:dK} {q q':Nat} (h:TP t x q) (hq:q<=q'):TP t x q':=⟨h.sr,h.hv,h.sw,Nat.le_trans h.bd hq⟩
def TK (B:Int) (t:bA):Prop:=(0<=t.slot.key/\t.slot.key<=B)/\(0<=t.aJ.k/\t.aJ.k<=B)
theorem EE (D:Nat) (hD:D<=400) {t:bA} {x:dK} {q:Nat} {g:aV} {y:bM} (h:TP t x q) (hq:q<=10600) (e1:y.kind=g.kind) (e2:y.bB=g.bB) (e3:y.data=g.data) (hd:g.data.size<=D) :
  ∃ e t' x',ig t g=some (e,t')/\lF x y=some (x',e)/\TP t' x' (q+D)/\(∀ B,TK B t->(∀ n∈g.bB,0<=n/\n<=B)->TK B t')/\e≠4/\t.aJ.k<=t'.aJ.k:=by
 obtain ⟨l,hs⟩:=h.sr
 unfold ig iW lF
 rw [e1,e2,e3]
 by_cases k1: ¬ g.kind=1
 ·rw [show (g.kind != 1)=true by simpa using k1,cond_true,cond_true,aA]
  exact ⟨5,t,x,rfl,rfl,h.more (by omega),(λ_ h _=>h),by decide,Int.le_refl _⟩
 replace k1:=Classical.not_not.1 k1
 rw [show (g.kind != 1)=false by simp [k1],cond_false,cond_false]
 by_cases k2: ¬ g.bB.length=5
 ·rw [show ((g.bB.length:Int) != 5)=true by simp; omega,cond_true,cond_true,aA]
  exact ⟨1,t,x,rfl,rfl,h.more (by omega),(λ_ h _=>h),by decide,Int.le_refl _⟩
 replace k2:=Classical.not_not.1 k2
 rw [show ((g.bB.length:Int) != 5)=false by simp; omega,cond_false,cond_false]
 obtain ⟨a,b,c,d,n,hg⟩: ∃ a b c d n,g.bB=[a,b,c,d,n]:=by
  match hh:g.bB,k2 with
  | [a,b,c,d,n],_=>exact ⟨a,b,c,d,n,rfl⟩
 rw [hg]
 simp only [show idx [a,b,c,d,n] 0=some a from rfl,show idx [a,b,c,d,n] 1=some b from rfl,show idx [a,b,c,d,n] 2=some c from rfl,show idx [a,b,c,d,n] 3=some d from rfl,show idx [a,b,c,d,n] 4=some n from rfl,aA]
 rw [h.hv,show (fP t.aJ).k=t.aJ.k from rfl]
 by_cases k3:b<=t.aJ.k
 ·rw [decide_eq_true k3,cond_true,cond_true,aA]
  exact ⟨8,t,x,rfl,rfl,h.more (by omega),(λ_ h _=>h),by decide,Int.le_refl _⟩
 rw [decide_eq_false k3,cond_false,cond_false]
 have hcc:((bif c != 0 then some (c != t.aJ.k) else some false):Option Bool)=some (decide (c≠0/\c≠t.aJ.k)):=by
  by_cases c1:c=0
  ·subst c1; simp
  ·rw [show (c != 0)=true by simpa using c1,cond_true]
   by_cases c2:c=t.aJ.k <;> simp [c1,c2]
 rw [hcc,aA,aA]
 by_cases k4:c≠0/\c≠t.aJ.k
 ·rw [decide_eq_true k4,cond_true,cond_true,aA]
  exact ⟨7,t,x,rfl,rfl,h.more (by omega),(λ_ h _=>h),by decide,Int.le_refl _⟩
 rw [decide_eq_false k4,cond_false,cond_false]
 obtain ⟨e,s',x',l',p1,p2,p3,p4,p5,p6,p7⟩:=Hd hs a d n g.data
 rw [p1,p2]
 simp only [aA]
 have hbd:(t.aJ.rows.flatMap fS).length+(fA x'.parts).length<=q+D:=by have:=h.bd; omega
 by_cases k5: ¬ e=0
 ·rw [show (e != 0)=true by simpa using k5,cond_true,cond_true]
  refine ⟨e,⟨s',t.aJ⟩,x,rfl,rfl,?_⟩
  -- an error changes nothing
  rw [(p5 k5).1]
  exact ⟨h.more (by omega),(λ_ h _=>h),p7,Int.le_refl _⟩
 replace k5:=Classical.not_not.1 k5
 subst k5
 rw [show ((0:Int) != 0)=false from rfl,cond_false,cond_false]
 obtain ⟨w,u,bb,w1,w2,w3⟩:=Hf p3 (by omega)
 rw [w1,w2,aA,aA]
 dsimp only
 cases bb with
 | false =>
  rw [Bool.not_false,cond_true,cond_true,<- h.hv]
  exact ⟨0,⟨s',t.aJ⟩,⟨x.aJ,x'⟩,rfl,rfl,⟨⟨l',p3⟩,h.hv,h.sw,hbd⟩,(λB hB hn=>⟨by
   rcases p6 with e | e
   ·show 0<=s'.key/\s'.key<=B; rw [e]; exact hB.1
   ·show 0<=s'.key/\s'.key<=B; rw [e]; exact hn a (by simp),hB.2⟩),by decide,Int.le_refl _⟩
 | true =>
  obtain ⟨w4,w5⟩:=w3 rfl
  subst w4
  rw [Bool.not_true,cond_false,cond_false,show iV s'=some ⟨0,0,none,0⟩ from rfl,aA]
  obtain ⟨f,hf,sf,pf,f1⟩: ∃ f:aS,((bif c != 0 then some t.aJ else some (aS.mk 0 0 0 0 0 (ByteArray.mk #[]) ([]:List aY) 0 0 ([]:List aN))):Option aS)=some f/\SW f/\(f.rows.flatMap fS).length<=(t.aJ.rows.flatMap fS).length/\((bif c != 0 then some (fP t.aJ) else some (bL.mk 0 0 0 0 0 (ByteArray.mk #[]) ([]:List bK) 0 0 ([]:List aO))):Option bL)=some (fP f):=by
   cases c != 0 with
   | true=>exact ⟨t.aJ,rfl,h.sw,Nat.le_refl _,rfl⟩
   | false=>exact ⟨jM,rfl,rk,Nat.zero_le _,rfl⟩
  have hsz:w.size=(fA x'.parts).length:=by rw [w5,bQ]
  have hz:=FL (s:=w) (by omega)
  have hap:=DS f w sf (by omega) (by omega) hz
  have har:=BY f w sf (by omega) (by omega) hz
  obtain ⟨q1,q2⟩:=Af f w sf (by omega) (by omega) hz
  have q4:=EC f w
  rw [hf,aA,hap,aA,f1,aA,har,aA]
  generalize nG f w=z at q1 q2 q4 ⊢
  obtain ⟨z,er⟩:=z
  dsimp only at q1 q2 q4 ⊢
  have he:Option.bind ((bif (er == 0) then some (z.k != b) else some false):Option Bool) (λi=>((bif i then some 1 else some er):Option Int))=some (if er=0/\z.k≠b then 1 else er):=by
   by_cases c1:er=0
   ·subst c1
    rw [show ((0:Int) == 0)=true from rfl,cond_true,aA]
    by_cases c2:z.k=b
    ·simp [c2]
    ·rw [show (z.k != b)=true by simpa using c2,cond_true,if_pos ⟨rfl,c2⟩]
   ·rw [show (er == 0)=false by simpa using c1,cond_false,aA,cond_false,if_neg (λh=>c1 h.1)]
  generalize hE:(if er=0/\z.k≠b then 1 else er)=E at he
  cases hq:((bif (er == 0) then some (z.k != b) else some false):Option Bool) with
  | none=>rw [hq] at he; cases he
  | some v =>
   rw [hq,aA] at he
   rw [aA,aA,he,aA,aA]
   by_cases c1:E=0
   ·subst c1
    rw [show ((0:Int) == 0)=true from rfl,cond_true,aA,show ((0:Int) != 0)=false from rfl,cond_false]
    exact ⟨0,⟨⟨0,0,none,0⟩,z⟩,⟨fP z,⟨0,[],[]⟩⟩,rfl,rfl,⟨⟨[],xo⟩,rfl,q1,by show (z.rows.flatMap fS).length+0<=_; omega⟩,(λB hB hn=>⟨⟨Int.le_refl _,by have:=hB.1; show (0:Int)<=B; omega⟩,by
     have hz:z.k=b:=by
      by_cases c2:z.k=b
      ·exact c2
      ·by_cases c3:er=0
       ·rw [if_pos ⟨c3,c2⟩] at hE; cases hE
       ·rw [if_neg (λh=>c3 h.1)] at hE; exact absurd hE c3
     show 0<=z.k/\z.k<=B
     rw [hz]
     exact hn b (by simp)⟩),by decide,by
     have hz:z.k=b:=by
      by_cases c2:z.k=b
      ·exact c2
      ·by_cases c3:er=0
       ·rw [if_pos ⟨c3,c2⟩] at hE; cases hE
       ·rw [if_neg (λh=>c3 h.1)] at hE; exact absurd hE c3
     show t.aJ.k<=z.k
     omega⟩
   ·rw [show (E == 0)=false by simpa using c1,cond_false,aA,show (E != 0)=true by simpa using c1,cond_true,<- h.hv]
    exact ⟨E,⟨⟨0,0,none,0⟩,t.aJ⟩,⟨x.aJ,⟨0,[],[]⟩⟩,rfl,rfl,⟨⟨[],xo⟩,h.hv,h.sw,by show (t.aJ.rows.flatMap fS).length+0<=_; omega⟩,(λB hB hn=>⟨⟨Int.le_refl _,by have:=hB.1; show (0:Int)<=B; omega⟩,hB.2⟩),by rw [<- hE]; split; exact (by decide:(1:Int)≠4); exact q4,Int.le_refl _⟩
structure GB (g:aV):Prop where
 k:g.kind=1\/g.kind=4
 n:g.bB.length<=5
 r: ∀ x∈g.bB,0<=x/\x<=4611686018427387904
 d:g.data.size<=8000
theorem GB.check {g:aV} (h:GB g) {e:Int} (e1:1<=e) (e2:e<=4294967296):gU ⟨e,g.kind,g.bB,g.data⟩=0:=by
 have hr:jk ⟨e,g.kind,g.bB,g.data⟩=true:=by
  unfold jk
  simp only [Bool.and_eq_true,decide_eq_true_eq,List.all_eq_true]
  have hk:=h.k
  have hn:=h.n
  exact ⟨⟨e1,e2⟩,by omega,by omega,λx hx=>decide_eq_true (h.r x hx)⟩
 have hs:(eX ⟨e,g.kind,g.bB,g.data⟩).size<=8192:=by
  unfold eX
  rw [pV,bQ]
  have h1:=mQ [e,g.kind,(g.bB.length:Int)]
  have h2:=mQ g.bB
  have h3:=cJ (g.data.size:Int)
  have hn:=h.n
  have hd:=h.d
  unfold nH
  simp only [List.length_append,bD]
  simp only [List.length_cons,List.length_nil] at h1
  omega
 unfold gU
 rw [hr,if_neg (by simp),if_neg (by omega)]
theorem EF {s:ByteArray} (h:(kL s).2=0):jk (kL s).1=true/\s.size<=8192/\4<=s.size/\(kL s).1=qgR s:=by
 unfold kL at h ⊢
 split at h
 ·cases h
 ·rename_i h1
  rw [if_neg h1]
  split at h
  ·cases h
  ·rename_i h2
   rw [if_neg h2]
   have h4:4<=s.size:=by
    cases ho:o4 s with
    | false=>exact absurd ho h2
    | true=>unfold o4 at ho; exact (of_decide_eq_true ho).1
   split at h
   ·rename_i h3
    exact absurd h h3
   ·rename_i h3
    rw [if_neg h3]
    split at h
    ·rename_i h5
     exact absurd h h5
    ·rename_i h5
     rw [if_neg h5]
     exact ⟨(tY (Classical.not_not.1 h5)).1,by omega,h4,rfl⟩
theorem Cd {g:aV} (h:jk g=true):(1<=g.aU/\g.aU<=4294967296)/\(1<=g.kind/\g.kind<=4)/\g.bB.length<=64 /\ ∀ n∈g.bB,0<=n/\n<=4611686018427387904:=by
 unfold jk at h
 simp only [Bool.and_eq_true,decide_eq_true_eq,List.all_eq_true] at h
 exact ⟨h.1,h.2.1,h.2.2.1,λn hn=>of_decide_eq_true (h.2.2.2 n hn)⟩
theorem HR {i:aK} (h:VI i) (hp:0 < i.s.size):(bkS i).2.s.size < i.s.size:=by
 by_cases he:(bkS i).2.e=0
 ·obtain ⟨-,hw⟩:=wq h he
  have h1:=congrArg List.length hw
  rw [List.length_append,bD,bD] at h1
  have h2:(mN (bkS i).1).length≠0:=λc=>by
   have:=List.eq_nil_of_length_eq_zero c
   unfold mN at this
   exact AV _ (List.append_eq_nil_iff.1 this).1
  omega
 ·rcases (sR h).2 with h1 | h1
  ·exact absurd h1 he
  ·rw [h1]; exact hp
theorem Bp: ∀ (k:Nat) (i:aK) (l:List aN),(bkL k i l).1.length=l.length+k
 | 0,i,l=>rfl
 | k+1,i,l=>by
  unfold bkL
  rw [Bp k,List.length_append]
  show l.length+1+k=_
  omega
theorem Hj {i:aK} (h:VI i):(bkS i).1.length<=1024:=by
 have hr:=gS (m:=1024) h (by omega)
 unfold bkS
 split
 ·rw [Bp]
  show 0+_<=_
  omega
 ·exact Nat.zero_le _
theorem Ce {a:Int}:1<=imax 1 (cD a 65536)/\imax 1 (cD a 65536)<=65536/\imax 1 (cD (imax 1 (cD a 65536)) 65536)=imax 1 (cD a 65536):=by
 unfold imax cD
 (repeat' split) <;> omega
theorem EG:TK 4611686018427387904 ⟨⟨0,0,none,0⟩,jM⟩:=by
 refine ⟨?_,?_⟩
 ·show (0:Int)<=0/\(0:Int)<=_; omega
 ·show (0:Int)<=0/\(0:Int)<=_; omega
theorem qgD {s:ByteArray} (h:s.size<=8192) (h4:4<=s.size):(qgR s).data.size<=s.size:=by
 have z0:SZ s.size (⟨kK s,0⟩:aK):=⟨⟨by show (kK s).size<=1000000; rw [lN h4]; omega,.inl rfl⟩,by show (kK s).size<=_; rw [lN h4]; omega⟩
 have z3:SZ s.size (qgC s).2:=lM (lM (lM z0))
 have z4:SZ s.size (qgI s):=by
  unfold qgI
  split
  ·exact ⟨nE,Nat.zero_le _⟩
  ·exact z3
 have z5:SZ s.size (qgN s).2:=Aa _ [] z4
 exact (uI z5.1 z5.2).1
def vt (y:aB):Prop:=0<=y.from_/\y.from_ < y.to/\y.to<=1152921504606846976
theorem xw: ∀ (l:List aB) {x:aB},vt x->(∀ y∈l,vt y) -> ∀ y∈iq l x,vt y
 | [],x,h,_,y,hy=>by rw [List.mem_singleton.1 hy]; exact h
 | z::l,x,h,hl,y,hy=>by
  have hz:=hl z List.mem_cons_self
  have hl': ∀ y∈l,vt y:=λw hw=>hl w (List.mem_cons_of_mem _ hw)
  rw [iq] at hy
  split at hy
  ·rcases List.mem_cons.1 hy with rfl | hy
   ·exact hz
   ·exact xw l h hl' y hy
  ·split at hy
   ·rcases List.mem_cons.1 hy with rfl | hy
    ·exact h
    ·exact hl y hy
   ·have e1:=fQ x.from_ z.from_
    have e2:=gC x.to z.to
    obtain ⟨a,b,c⟩:=h
    obtain ⟨a',b',c'⟩:=hz
    exact xw l (x:=⟨cD x.from_ z.from_,imax x.to z.to⟩) ⟨by dsimp only; omega,by dsimp only; omega,by dsimp only; omega⟩ hl' y hy
theorem Bq: ∀ (l s:List aB),(∀ y∈l,vt y)->(∀ y∈s,vt y)->(∀ y∈gY s l,vt y)/\eK (gY s l)<=eK s+eK l
 | [],s,_,hs=>⟨hs,by show eK s<=eK s+0; omega⟩
 | x::l,s,hl,hs=>by
  have hx:=hl x List.mem_cons_self
  have e:gY s (x::l)=gY (iq s x) l:=by
   show gY (if x.to<=x.from_ then s else iq s x) l=_
   rw [if_neg (by have:=hx.2.1; omega)]
  obtain ⟨h1,h2⟩:=Bq l (iq s x) (λy hy=>hl y (List.mem_cons_of_mem _ hy)) (xw s hx hs)
  have h3:=(xf s (x:=x) (by have:=hx.2.1; omega) (λy hy=>by have:=(hs y hy).2.1; omega)).1
  rw [e]
  refine ⟨h1,?_⟩
  show _<=eK s+(x.to - x.from_+eK l)
  omega
theorem qd: ∀ l:List aB,(∀ y∈l,vt y)->0<=eK l
 | [],_=>Int.le_refl _
 | x::l,h=>by
  have:=qd l λy hy=>h y (List.mem_cons_of_mem _ hy)
  have:=(h x List.mem_cons_self).2.1
  show 0<=x.to - x.from_+eK l
  omega
structure CG (g:aV):Prop where
 k:g.kind=2\/(g.kind=3/\0 < g.bB.length/\g.bB.length % 2=0)
 n:g.bB.length<=16
 r: ∀ x∈g.bB,0<=x/\x<=4611686018427387904
 d:g.data.size<=600
theorem CG.check {g:aV} (h:CG g) {e:Int} (e1:1<=e) (e2:e<=4294967296):gU ⟨e,g.kind,g.bB,g.data⟩=0:=by
 have hn:=h.n
 have hd:=h.d
 have hr:jk ⟨e,g.kind,g.bB,g.data⟩=true:=by
  unfold jk
  simp only [Bool.and_eq_true,decide_eq_true_eq,List.all_eq_true]
  have hk:=h.k
  exact ⟨⟨e1,e2⟩,by omega,by omega,λx hx=>decide_eq_true (h.r x hx)⟩
 have hs:(eX ⟨e,g.kind,g.bB,g.data⟩).size<=8192:=by
  unfold eX
  rw [pV,bQ]
  have:=uU (g:=⟨e,g.kind,g.bB,g.data⟩) (by dsimp only; omega)
  dsimp only at this ⊢
  omega
 unfold gU
 rw [hr,if_neg (by simp),if_neg (by omega)]
theorem Hk {c:bA} {x:dK} {q:Nat} (h:TP c x q) (hk:TK 4611686018427387904 c): ∃ g,dS c=some g/\CG g:=by
 obtain ⟨l,hs⟩:=h.sr
 refine ⟨_,Ai hs,.inl rfl,by show 2<=16; omega,λn hn=> ?_,?_⟩
 ·rcases List.mem_cons.1 hn with rfl | hn
  ·exact hk.2
  ·rw [List.mem_singleton.1 hn]; exact hk.1
 ·show (dL (vr l x.slot.parts.length)).size<=600
  have:=(Bl l x.slot.parts.length).2.1
  have:=hs.le
  rw [bQ]
  omega
def te (e:Int×CacheEntry):dP:=⟨e.1,e.2.l.map tg⟩
theorem u5 {i:Int}: ∀ {m:CL},i ∉ m.map Prod.fst->m.filter (λe=>e.1 != i)=m:=by
 intro m h
 refine List.filter_eq_self.2 λe he=> ?_
 rw [bne_iff_ne]
 exact λh2=>h (List.mem_map.2 ⟨e,he,h2⟩)
theorem yK {i:Int} {x:CacheEntry}: ∀ {m:CL},(m.map Prod.fst).Nodup->(msl i x m).Perm (m.filter (λe=>e.1 != i)++[(i,x)])
 | [],_=>List.Perm.refl _
 | (j,y)::m,h=>by
  rw [List.map_cons,List.nodup_cons] at h
  unfold msl
  by_cases c:i=j
  ·subst c
   rw [if_pos rfl,List.filter_cons_of_neg (by simp),u5 h.1]
   exact (List.perm_append_comm (l₁:=[(i,x)]) (l₂:=m))
  ·rw [if_neg c,List.filter_cons_of_pos (by simpa using λh=>c h.symm)]
   exact (yK h.2).cons _
theorem yL {r:Int}: ∀ {m:CL},(m.map Prod.fst).Nodup->mdl r m=m.filter (λe=>e.1 != r)
 | [],_=>rfl
 | (j,y)::m,h=>by
  rw [List.map_cons,List.nodup_cons] at h
  unfold mdl
  by_cases c:r=j
  ·subst c
   rw [if_pos rfl,List.filter_cons_of_neg (by simp),u5 h.1]
  ·rw [if_neg c,List.filter_cons_of_pos (by simpa using λh=>c h.symm),yL h.2]
theorem u6 (c:bX) (e:dP) (hl:c.l.length<=1000000):gM c e=some ⟨c.most,c.l.filter (λx=>x.i != e.i)++[e]⟩:=by
 unfold gM
 have hf:=List.length_filter_le (λx:dP=>x.i != e.i) c.l
 refine dX (λn:Nat=>((n:Int),(c.l.take n).filter (λx=>x.i != e.i))) c.l.length (c.l.filter (λx=>x.i != e.i)) rfl (λn hn=> ?_) ?_ ?_
 ·dsimp only
  have h1:=List.length_filter_le (λx:dP=>x.i != e.i) (c.l.take n)
  rw [List.length_take] at h1
  rw [decide_eq_true (by omega),cond_true,bG _ n hn,aA,List.take_succ_eq_append_getElem hn,List.filter_append,w64 (by omega) (by omega)]
  cases hc:c.l[n].i != e.i with
  | true=>rw [cond_true,bP (by simp; omega),aA,aA,List.filter_cons_of_pos (p:=λx:dP=>x.i != e.i) hc]; rfl
  | false=>rw [cond_false,aA,List.filter_cons_of_neg (p:=λx:dP=>x.i != e.i) (by rw [hc]; decide),List.filter_nil,List.append_nil]; rfl
 ·dsimp only
  rw [decide_eq_false (by omega),cond_false,List.take_of_length_le (Nat.le_refl _)]
 ·rw [bP (by simp; omega),aA]
structure CX (k N:Int) (c:aR) (x:bX):Prop where
 cs:CS k N c
 xm:x.most=k
 o: ∃ m M:CL,c.l=some m/\M.Perm m/\(M.map λe=>e.2.at_).Pairwise (· < ·)/\x.l=M.map te /\ ∀ e∈m,∀ g∈e.2.l,rok g.rune
theorem CX.more {k N M:Int} {c:aR} {x:bX} (h:CX k N c x) (hm:N<=M):CX k M c x:=⟨h.cs.more hm,h.xm,h.o⟩
theorem CX.cm {k N:Int} {c:aR} {x:bX} (h:CX k N c x): ∃ m M:CL,c.l=some m/\M.Perm m/\(M.map λe=>e.2.at_).Pairwise (· < ·)/\x.l=M.map te/\(∀ e∈m,∀ g∈e.2.l,rok g.rune)/\CM c.now m/\CM c.now M/\(m.length:Int)<=k/\M.length=m.length:=by
 obtain ⟨m,M,h1,h2,h3,h4,h5⟩:=h.o
 obtain ⟨m',e1,e2,e3⟩:=h.cs.l
 rw [h1] at e1
 injection e1 with e1
 subst e1
 exact ⟨m,M,h1,h2,h3,h4,h5,e2,⟨(h2.map _).nodup_iff.2 e2.nd,λe he=>e2.r e (h2.mem_iff.1 he),λe he=>e2.a e (h2.mem_iff.1 he),(h2.map _).nodup_iff.2 e2.da,λe he=>e2.g e (h2.mem_iff.1 he)⟩,e3,h2.length_eq⟩
theorem CX.len {k N:Int} {c:aR} {x:bX} (h:CX k N c x):(x.l.length:Int)<=k:=by
 obtain ⟨m,M,h1,h2,h3,h4,h5,h6,h7,h8,h9⟩:=h.cm
 rw [h4,List.length_map,h9]
 exact h8
theorem Hl (most:Int): ∃ c,lg most=some c/\CX (imax 1 (cD most 65536)) 0 c ⟨imax 1 (cD most 65536),[]⟩:=by
 obtain ⟨c,h1,h2⟩:=FV most
 refine ⟨c,h1,h2,rfl,?_⟩
 unfold lg at h1
 injection h1 with h1
 subst h1
 exact ⟨[],[],rfl,List.Perm.refl _,.nil,rfl,λe he=>by cases he⟩
theorem EH {k N:Int} (hk:0<=k) {c:aR} {x:bX} (h:CX k N c x): ∃ c',gA c=some c'/\CX k N c' ⟨k,[]⟩:=by
 obtain ⟨c',h1,h2⟩:=Ca hk h.cs
 refine ⟨c',h1,h2,rfl,?_⟩
 obtain ⟨m,M,m1,_⟩:=h.cm
 unfold gA at h1
 injection h1 with h1
 subst h1
 exact ⟨[],[],by show E9 c.l=_; rw [m1]; rfl,List.Perm.refl _,.nil,rfl,λe he=>by cases he⟩
theorem rO {i:Int} {m M:CL} (h:M.Perm m) (hn:(m.map Prod.fst).Nodup):mgl i M=mgl i m:=by
 have hN:=(h.map Prod.fst).nodup_iff.2 hn
 cases e:mgl i M with
 | some x=>exact (mg hn (h.mem_iff.1 (kX e))).symm
 | none =>
  cases e2:mgl i m with
  | none=>rfl
  | some x=>rw [mg hN (h.mem_iff.2 (kX e2))] at e; cases e
theorem Cg {α β ρ:Type} (l:List (Int×α)) (g:α->β) (i:Int) (y:β->ρ) (n:ρ) {f:Int->Option (Int ⊕ ρ)} (h: ∀ j (hj:j < l.length),f (j:Int)=if l[j].1=i then some (.inr (y (g l[j].2))) else some (.inl ((j+1:Nat):Int))) (he:f (l.length:Int)=some (.inr n)):iter f 0=some (match mgl i l with | some x=>y (g x) | none=>n):=by
 have key: ∀ k j,j+k=l.length->iter f (j:Int)=some (match mgl i (l.drop j) with | some x=>y (g x) | none=>n):=by
  intro k
  induction k with
  | zero =>
   intro j hj
   obtain rfl:j=l.length:=by omega
   rw [bC he,List.drop_length]
   rfl
  | succ k ih =>
   intro j hj
   have hlt:j < l.length:=by omega
   have h1:=h j hlt
   rw [List.drop_eq_getElem_cons hlt]
   rw [show mgl i (l[j]::l.drop (j+1))=if i=l[j].1 then some l[j].2 else mgl i (l.drop (j+1)) from rfl]
   by_cases c:l[j].1=i
   ·rw [if_pos c] at h1
    rw [bC h1,if_pos c.symm]
   ·rw [if_neg c] at h1
    rw [bY h1,ih (j+1) (by omega),if_neg λh=>c h.symm]
 exact key l.length 0 (by omega)
theorem rP {x:bX} {M:CL} (hx:x.l=M.map te) (hl:M.length<=1000000) (i:Int):jD x i=some (match mgl i M with | some e=>(e.l.map tg,true) | none=>([],false)):=by
 unfold jD
 rw [Cg M (λe=>(e.l.map tg,true)) i (λp=>(.inr p)) (.inl ()) (λj hj=> ?_) ?_,aA]
 ·cases mgl i M <;> rfl
 ·rw [hx,List.length_map,decide_eq_false (by omega)]
  rfl
 ·rw [hx,List.length_map,decide_eq_true (by omega),cond_true,bG _ j (by rw [List.length_map]; exact hj),aA,List.getElem_map,w64 (by omega) (by omega)]
  show (bif M[j].1 == i then _ else _)=_
  by_cases c:M[j].1=i
  ·rw [if_pos c,beq_iff_eq.2 c]
   rfl
  ·rw [if_neg c,beq_eq_false_iff_ne.2 c]
   rfl
theorem Br {M:CL} {i:Int}:(M.map te).filter (λx=>x.i != i)=(M.filter λe=>e.1 != i).map te:=by
 rw [List.filter_map]
 rfl
theorem FY {M:CL} {now i:Int} {y:CacheEntry} (h:(M.map λe=>e.2.at_).Pairwise (· < ·)) (ha: ∀ e∈M,e.2.at_<=now) (hy:y.at_=now+1):((M.filter (λe=>e.1 != i)++[(i,y)]).map λe=>e.2.at_).Pairwise (· < ·):=by
 rw [List.map_append]
 refine List.pairwise_append.2 ⟨h.sublist (List.filter_sublist.map _),List.pairwise_singleton _ _,λa hA b hB=> ?_⟩
 obtain ⟨e,he,rfl⟩:=List.mem_map.1 hA
 obtain rfl:=List.mem_singleton.1 hB
 have:=ha e (List.mem_filter.1 he).1
 dsimp only
 omega
theorem yM {k N:Int} {c:aR} {x:bX} {m M:CL} (m1:c.l=some m) (hp:M.Perm m) (hs:(M.map λe=>e.2.at_).Pairwise (· < ·)) (hm:CM c.now m) {i:Int} {l:List aN}:(M.filter (λe=>e.1 != i)++[(i,(⟨l,c.now+1⟩:CacheEntry))]).Perm (msl i ⟨l,c.now+1⟩ m)/\((M.filter (λe=>e.1 != i)++[(i,(⟨l,c.now+1⟩:CacheEntry))]).map λe=>e.2.at_).Pairwise (· < ·) :=
 ⟨((hp.filter _).append_right _).trans (yK hm.nd).symm,FY hs (λe he=>hm.a e (hp.mem_iff.1 he)) rfl⟩
theorem Hm {k N:Int} {c:aR} {x:bX} (h:CX k N c x) (hk:0<=k/\k<=100000) (hN:N<=1000000000) {i:Int} (hi:0<=i/\i < 1152921504606846976) {l:List aN} (hl:l.length<=1000000) (hg: ∀ g∈l,rok g.rune): ∃ g b c' x',gN c i l=some (g,b,c')/\kp x i (l.map tg)=some (x',g,b)/\CX k (N+1) c' x':=by
 obtain ⟨m,M,m1,hp,hs,hx,hgs,m2,_,m3,hlen0⟩:=h.cm
 obtain ⟨n1,n2⟩:=h.cs.now
 obtain ⟨tp,ts⟩:=yM (k:=k) (N:=N) (x:=x) m1 hp hs m2 (i:=i) (l:=l)
 have hset:=m2.set hi hl
 have hlen:=(xq (i:=i) (x:=⟨l,c.now+1⟩) m).1
 have hset2: ∀ e∈msl i ⟨l,c.now+1⟩ m,∀ g∈e.2.l,rok g.rune:=λe he=>by
  rcases pZ m2.nd e he with rfl | ⟨h1,_⟩
  ·exact hg
  ·exact hgs e h1
 have ht:eE c i l=some ⟨c.most,c.now+1,some (msl i ⟨l,c.now+1⟩ m)⟩:=by
  unfold eE
  rw [w64 (by omega) (by omega),m1]
  rfl
 have hnew:gM x ⟨i,l.map tg⟩=some ⟨x.most,(M.filter (λe=>e.1 != i)++[(i,(⟨l,c.now+1⟩:CacheEntry))]).map te⟩:=by
  rw [u6 _ _ (by rw [hx,List.length_map]; omega),hx]
  dsimp only
  rw [Br,List.map_append]
  rfl
 unfold gN kp
 rw [decide_eq_false (by omega),cond_false,decide_eq_false (by omega),aA,cond_false,aA,cond_false,oX l hl,aA,ht,aA,hnew,aA]
 dsimp only
 generalize hA:msl i ⟨l,c.now+1⟩ m=A at hset hset2 hlen tp
 generalize hB:M.filter (λe=>e.1 != i)++[(i,(⟨l,c.now+1⟩:CacheEntry))]=B at tp ts
 have hAB:=tp.length_eq
 rw [List.length_map,h.xm]
 by_cases d:(((zu (some A):Nat):Int)<=c.most)
 ·have d2:(B.length:Int)<=k:=by rw [hAB,<- h.cs.most]; exact d
  rw [decide_eq_true d,cond_true,decide_eq_true d2,cond_true]
  exact ⟨_,_,_,_,rfl,rfl,⟨h.cs.most,⟨by dsimp only; omega,by dsimp only; omega⟩,A,rfl,hset,by rw [<- hAB]; exact d2⟩,rfl,A,B,rfl,tp,ts,rfl,hset2⟩
 ·have d2: ¬ ((B.length:Int)<=k):=by rw [hAB,<- h.cs.most]; exact d
  rw [decide_eq_false d,cond_false,decide_eq_false d2,cond_false,show jd (some A)=some () from rfl,aA]
  have hc:dY (some A)=some ():=by
   unfold dY
   rw [show chk (some A:Mp CacheEntry).isSome=some () from rfl,aA]
   show Option.bind (chk (cW A.length 1 8)) _=_
   rw [bP (by omega)]
   rfl
  rw [hc,aA]
  cases hBB:B with
  | nil=>rw [hBB] at d2; simp at d2; omega
  | cons e0 B' =>
   obtain ⟨r,y⟩:=e0
   rw [hBB] at tp ts hAB d2
   have hBn:(((r,y)::B').map Prod.fst).Nodup:=(tp.map _).nodup_iff.2 hset.nd
   have hr:(r,y)∈A:=tp.mem_iff.1 List.mem_cons_self
   have hmin: ∀ e∈A,e.2.at_<=y.at_->e=(r,y):=λe he hle=>by
    rcases List.mem_cons.1 (tp.mem_iff.2 he) with h1 | h1
    ·exact h1
    ·have:=(List.pairwise_cons.1 (show (y.at_::B'.map λe=>e.2.at_).Pairwise (· < ·) from ts)).1 e.2.at_ (List.mem_map.2 ⟨e,h1,rfl⟩)
     omega
   generalize hC:(aR.mk c.most (c.now+1) (some A))=C
   have hCl:C.l=some A:=by rw [<- hC]
   rw [wO (r:=(r,true,(aR.mk C.most C.now (BJ C.l r)))) λR hR=> ?_]
   ·have hcut:cut (((r,y)::B').map te) 1 (((r,y)::B').length:Int)=B'.map te:=by
     simp only [cut]
     rw [List.take_of_length_le (by simp)]
     rfl
    have hidx:idx (((r,y)::B').map te) 0=some (te (r,y)):=rfl
    rw [cV (by omega) (by simp; omega) (by simp),aA,hidx,aA,hcut]
    have hdl:mdl r A=A.filter λe=>e.1 != r:=yL hset.nd
    have hBf:((r,y)::B').filter (λe=>e.1 != r)=B':=by
     rw [List.filter_cons_of_neg (by simp)]
     exact u5 (List.nodup_cons.1 hBn).1
    have hpm:B'.Perm (mdl r A):=by
     rw [hdl,<- hBf]
     exact tp.filter _
    refine ⟨_,_,_,_,rfl,rfl,⟨by rw [<- hC]; exact h.cs.most,by rw [<- hC]; exact ⟨by dsimp only; omega,by dsimp only; omega⟩,mdl r A,by show BJ C.l r=_; rw [hCl]; rfl,by rw [<- hC]; exact hset.sub (xu A).1,?_⟩,rfl,mdl r A,B',by show BJ C.l r=_; rw [hCl]; rfl,hpm,(List.pairwise_cons.1 ts).2,rfl,λe he=>hset2 e ((xu A).1.subset he)⟩
    rw [<- hpm.length_eq]
    have:((r,y)::B').length=B'.length+1:=rfl
    omega
   ·have hne:R≠[]:=λe=>by
     rw [e] at hR
     have:=hR.symm.eq_nil
     have h2:r∈A.map Prod.fst:=List.mem_map.2 ⟨_,hr,rfl⟩
     rw [show A.map Prod.fst=[] from this] at h2
     cases h2
    obtain ⟨q,q1,q2,q3⟩:=FU C R hne (by rw [hR.length_eq]; show (A.map Prod.fst).length<=_; rw [List.length_map]; omega)
    have hq:q∈A.map Prod.fst:=hR.mem_iff.1 q2
    obtain ⟨⟨b,z⟩,hb,rfl⟩:=List.mem_map.1 hq
    have e2:=q3 r (hR.mem_iff.2 (List.mem_map.2 ⟨_,hr,rfl⟩))
    dsimp only at e2 q1 ⊢
    rw [Eu hCl hset.nd hr,Eu hCl hset.nd hb] at e2
    have e3:=hmin _ hb e2
    injection e3 with e3 e4
    rw [q1,aA,e3,<- hC]
theorem Bs {k N:Int} {c:aR} {x:bX} (h:CX k N c x) (hk:k<=100000) (i:Int): ∃ l b,eM c i=some (l,b)/\jD x i=some (l.map tg,b)/\(∀ g∈l,rok g.rune)/\l.length<=1000000:=by
 obtain ⟨m,M,m1,hp,hs,hx,hgs,m2,_,m3,hlen0⟩:=h.cm
 rw [rP hx (by omega),rO hp m2.nd]
 unfold eM mgd iv
 rw [m1,Option.getD_some]
 cases e:mgl i m with
 | none=>exact ⟨[],false,by rw [Option.getD_none,oX _ (by decide)]; rfl,rfl,λg hg=>(by cases hg),by decide⟩
 | some y =>
  have:=m2.g _ (kX e)
  exact ⟨y.l,true,by rw [Option.getD_some,oX _ this]; rfl,rfl,hgs _ (kX e),this⟩
theorem EJ {k N:Int} {c:aR} {x:bX} (h:CX k N c x) (hk:k<=100000) (hN:N<=1000000000) (i:Int): ∃ l b c' L x',eY c i=some (l,b,c')/\ll x i=some (x',L,b)/\CX k (N+1) c' x'/\(b=false->c'=c/\x'=x)/\x'.most=x.most/\(b=iv c.l i) /\ ∀ n,iv c'.l n=iv c.l n:=by
 obtain ⟨m,M,m1,hp,hs,hx,hgs,m2,_,m3,hlen0⟩:=h.cm
 obtain ⟨n1,n2⟩:=h.cs.now
 unfold eY ll
 rw [rP hx (by omega),rO hp m2.nd,aA]
 cases hy:mgl i m with
 | none =>
  have hf:iv c.l i=false:=by unfold iv; rw [m1,Option.getD_some,hy]; rfl
  obtain ⟨l,b,e,e2,_⟩:=Bs h hk i
  rw [rP hx (by omega),rO hp m2.nd,hy] at e2
  simp only [Option.some.injEq,Prod.mk.injEq] at e2
  rw [hf,cond_false,aA,e,aA]
  dsimp only
  rw [Bool.not_false,cond_true]
  exact ⟨l,b,c,[],x,rfl,by rw [<- e2.2],h.more (by omega),λ_=>⟨rfl,rfl⟩,rfl,e2.2.symm,λn=>rfl⟩
 | some y =>
  have hmem:=kX hy
  have hf:iv c.l i=true:=by unfold iv; rw [m1,Option.getD_some,hy]; rfl
  have hgd:(mgd c.l i (CacheEntry.mk ([]:List aN) 0))=y:=by unfold mgd; rw [m1,Option.getD_some,hy]; rfl
  have ht:eE c i y.l=some ⟨c.most,c.now+1,some (msl i ⟨y.l,c.now+1⟩ m)⟩:=by
   unfold eE
   rw [w64 (by omega) (by omega),m1]
   rfl
  obtain ⟨tp,ts⟩:=yM (k:=k) (N:=N) (x:=x) m1 hp hs m2 (i:=i) (l:=y.l)
  have hl:=(xq (i:=i) (x:=⟨y.l,c.now+1⟩) m).2 (by rw [hy]; rfl)
  have hnew:gM x ⟨i,y.l.map tg⟩=some ⟨x.most,(M.filter (λe=>e.1 != i)++[(i,(⟨y.l,c.now+1⟩:CacheEntry))]).map te⟩:=by
   rw [u6 _ _ (by rw [hx,List.length_map]; omega),hx]
   dsimp only
   rw [Br,List.map_append]
   rfl
  have hcs:CS k (N+1) ⟨c.most,c.now+1,some (msl i ⟨y.l,c.now+1⟩ m)⟩:=⟨h.cs.most,⟨by dsimp only; omega,by dsimp only; omega⟩,_,rfl,m2.set (m2.r _ hmem) (m2.g _ hmem),by rw [hl]; exact m3⟩
  have hcx:CX k (N+1) ⟨c.most,c.now+1,some (msl i ⟨y.l,c.now+1⟩ m)⟩ ⟨x.most,(M.filter (λe=>e.1 != i)++[(i,(⟨y.l,c.now+1⟩:CacheEntry))]).map te⟩:=⟨hcs,h.xm,_,_,rfl,tp,ts,rfl,λe he=>by
   rcases pZ m2.nd e he with rfl | ⟨h1,_⟩
   ·exact λg hg=>hgs (i,y) hmem g hg
   ·exact hgs e h1⟩
  have hpk:eM ⟨c.most,c.now+1,some (msl i ⟨y.l,c.now+1⟩ m)⟩ i=some (y.l,true):=by
   have e9:mgl i (msl i (⟨y.l,c.now+1⟩:CacheEntry) m)=some ⟨y.l,c.now+1⟩:=by rw [rN,if_pos rfl]
   unfold eM mgd iv
   dsimp only
   rw [Option.getD_some,e9,Option.getD_some,oX _ (m2.g _ hmem)]
   rfl
  dsimp only
  rw [hf,cond_true,hgd,ht,aA,aA,hpk,aA,Bool.not_true,cond_false,hnew,aA]
  refine ⟨_,_,_,_,_,rfl,rfl,hcx,λh=>(by cases h),rfl,rfl,λn=> ?_⟩
  unfold iv
  dsimp only
  rw [m1,Option.getD_some,Option.getD_some,rN]
  by_cases c9:n=i
  ·rw [if_pos c9,c9,hy]; rfl
  ·rw [if_neg c9]
theorem uc {i j:Int} (h0:0<=i) (h1:i<=1152921504606846976) (h2:0<=j) (h3:j<=1152921504606846976):fJ ⟨i,j⟩=⟨i,j⟩:=by
 unfold fJ imax cD
 dsimp only
 congr 1 <;> split <;> split at * <;> omega
theorem yN {k N:Int} {c:aR} {x:bX} (h:CX k N c x) (hk:k<=100000): ∃ L r,dN c=some L/\jQ x=some r/\rsp r=L/\NF (-1) L/\WS k L /\ ∀ n,inP L n↔iv c.l n=true:=by
 obtain ⟨m,M,m1,hp,hs,hx,hgs,m2,mM,m3,hlen0⟩:=h.cm
 obtain ⟨L,l1,l2⟩:=Cb h.cs hk
 have e1:=sX m1 (by omega) m2.nd m2.r
 rw [l1] at e1
 injection e1 with e1
 have h0: ∀ i∈m.map Prod.fst,0<=i:=λi hi=>by
  obtain ⟨e,he,rfl⟩:=List.mem_map.1 hi
  exact (m2.r e he).1
 obtain ⟨a1,a2,a3⟩:=oE (m.map Prod.fst) [] trivial m2.nd (λi hi=>⟨h0 i hi,iJ⟩)
 have hpk:kU [] (M.map Prod.fst)=L:=by rw [e1]; exact uY (hp.map _) m2.nd h0
 refine ⟨L,?_⟩
 have key: ∀ n,n<=M.length -> ∃ r:List aD,rsp r=kU [] ((M.take n).map Prod.fst)/\r.length<=n /\ ∀ j,n+j=M.length->iter (σ:=Int×(List aD)) (ρ:=(List aD)) (λa=>(bif (decide (a.1 < (x.l.length:Int))) then (Option.bind (idx x.l a.1) λb=>(Option.bind (iE a.2 (aD.mk b.i (IntKind.i64.wrap (b.i+1)))) λd=>some (.inl ((IntKind.i64.wrap (a.1+1)),d)))) else some (.inr a.2))) (0,([]:List aD))=iter (σ:=Int×(List aD)) (ρ:=(List aD)) (λa=>(bif (decide (a.1 < (x.l.length:Int))) then (Option.bind (idx x.l a.1) λb=>(Option.bind (iE a.2 (aD.mk b.i (IntKind.i64.wrap (b.i+1)))) λd=>some (.inl ((IntKind.i64.wrap (a.1+1)),d)))) else some (.inr a.2))) ((n:Int),r):=by
  intro n
  induction n with
  | zero=>intro _; exact ⟨[],rfl,Nat.le_refl _,λj _=>rfl⟩
  | succ n ih =>
   intro hn
   obtain ⟨r,r1,r2,r3⟩:=ih (by omega)
   have hr:=mM.r _ (List.getElem_mem (show n < M.length by omega))
   have hnd:((M.take n).map Prod.fst).Nodup:=mM.nd.sublist ((List.take_sublist n M).map _)
   obtain ⟨b1,b2,b3⟩:=oE ((M.take n).map Prod.fst) [] trivial hnd (λi hi=>by
    obtain ⟨e,he,rfl⟩:=List.mem_map.1 hi
    exact ⟨(mM.r e (List.mem_of_mem_take he)).1,iJ⟩)
   obtain ⟨r',q1,q2⟩:=Bh (l:=r) (lo:= -1) (by rw [r1]; exact b1) (by omega) ⟨M[n].1,M[n].1+1⟩
   have hfit:fJ (sp ⟨M[n].1,M[n].1+1⟩)=⟨M[n].1,M[n].1+1⟩:=show fJ (⟨M[n].1,M[n].1+1⟩:aB)=_ from uc hr.1 (by omega) (by omega) (by omega)
   rw [hfit,if_neg (by dsimp only; omega),r1] at q2
   have q3:rsp r'=kU [] ((M.take (n+1)).map Prod.fst):=by
    rw [q2,List.take_succ_eq_append_getElem (by omega),List.map_append]
    show _=List.foldl _ _ _
    rw [List.foldl_append]
    rfl
   refine ⟨r',q3,?_,λj hj=> ?_⟩
   ·have:=congrArg List.length q3
    have h2:=sW ((M.take (n+1)).map Prod.fst) []
    simp only [rsp,List.length_map,List.length_nil,List.length_take] at this h2
    omega
   ·rw [r3 (j+1) (by omega)]
    refine bY ?_
    dsimp only
    rw [hx,List.length_map,decide_eq_true (by omega),cond_true,bG _ n (by rw [List.length_map]; omega),aA,List.getElem_map]
    show Option.bind (iE r (aD.mk M[n].1 (IntKind.i64.wrap (M[n].1+1)))) _=_
    rw [w64 (x:=M[n].1+1) (by omega) (by omega),q1,aA,w64 (by omega) (by omega)]
    rfl
 obtain ⟨r,r1,r2,r3⟩:=key M.length (Nat.le_refl _)
 rw [List.take_of_length_le (Nat.le_refl _),hpk] at r1
 refine ⟨r,l1,?_,r1,by rw [e1]; exact a1,l2,λn=> ?_⟩
 ·unfold jQ
  rw [r3 0 (by omega),bC (r:=r) (by dsimp only; rw [hx,List.length_map,decide_eq_false (by omega)]; rfl)]
  rfl
 ·rw [e1,a2]
  unfold iv
  rw [m1,Option.getD_some]
  constructor
  ·rintro (h1 | h1)
   ·exact absurd h1 iJ
   ·obtain ⟨⟨i,y⟩,he,rfl⟩:=List.mem_map.1 h1
    rw [mg m2.nd he]
    rfl
  ·intro h1
   obtain ⟨y,hy⟩:=Option.isSome_iff_exists.1 h1
   exact .inr (List.mem_map.2 ⟨_,kX hy,rfl⟩)
theorem EK {k:Int} {L:List aB} (h:WS k L) (n:Nat):0<=eK (L.take n)/\eK (L.take n)<=eK L:=by
 have e:=lP (L.take n) (L.drop n)
 rw [List.take_append_drop] at e
 have a1:=qd (L.take n) λy hy=>h.b y (List.mem_of_mem_take hy)
 have a2:=qd (L.drop n) λy hy=>h.b y (List.mem_of_mem_drop hy)
 omega
def c23:aF:=⟨⟨5,3,7⟩,0,0,⟨⟨0,0,none,0⟩,jM⟩,⟨5,0,some []⟩,⟨5,3,0,⟨[]⟩⟩⟩
theorem HS:jC ⟨5,3,7⟩=some c23:=rfl
theorem HT (len:Int):eG ⟨5,3,0,⟨[]⟩⟩ 0 len=some ([],⟨5,3,0,⟨[]⟩⟩):=by
 unfold eG
 rw [uZ [] _ (by simp),aA]
 rfl
theorem HU:dS ⟨⟨0,0,none,0⟩,jM⟩=some ⟨1,2,[0,0],noS⟩:=by
 rw [Ai (x:=⟨fP jM,⟨0,[],[]⟩⟩) (l:=[]) xo]
 rfl
theorem FZ (e k:Int) (he:1<=e/\e<=10) (hk:k=2\/k=4):gU ⟨e,k,[0,0],noS⟩=0:=by
 have:=CG.check (g:=⟨0,2,[0,0],noS⟩) ⟨.inl rfl,by decide,λx hx=>by simp at hx; omega,Nat.zero_le _⟩ (e:=e) (by omega) (by omega)
 rcases hk with rfl | rfl
 ·exact this
 ·exact GB.check (g:=⟨0,4,[0,0],noS⟩) ⟨.inr rfl,by decide,λx hx=>by simp at hx; omega,Nat.zero_le _⟩ (by omega) (by omega)
def EL:aF:=⟨⟨5,3,7⟩,0,3,⟨⟨0,0,none,0⟩,jM⟩,⟨5,0,some []⟩,⟨5,3,0,⟨[]⟩⟩⟩
theorem Hn:dU c23 0=some ([eX ⟨1,2,[0,0],noS⟩],EL):=by
 have hp:eC ⟨1,2,[0,0],noS⟩=some (eX ⟨1,2,[0,0],noS⟩):=by
  rw [uX (by decide) (by decide)]
  unfold uT
  rw [if_pos (FZ 1 2 (by decide) (.inl rfl))]
 unfold dU
 rw [show decide ((0:Int)>=c23.due)=true from rfl,cond_true,show bA.mk c23.aM.slot c23.aM.aJ=⟨⟨0,0,none,0⟩,jM⟩ from rfl,HU,aA,bP (by simp),aA,aA,show cQ ⟨⟨0,0,none,0⟩,jM⟩=some jM by unfold cQ; rw [nu _ rk]; rfl,aA,show c23.bF=⟨5,3,0,⟨[]⟩⟩ from rfl,HT,aA,bC (r:=[]) rfl,aA]
 dsimp only
 rw [show decide ((([]:List Int).length:Int) > 0)=false from rfl,cond_false,aA,bY (s':=(1,[eX ⟨1,2,[0,0],noS⟩])),bC (r:=[eX ⟨1,2,[0,0],noS⟩]) rfl,aA]
 ·rfl
 ·show Option.bind (eC ⟨1,2,[0,0],noS⟩) _=_
  rw [hp,aA]
  rfl
def s8:aF:=⟨⟨5,3,7⟩,3,3,⟨⟨0,0,none,0⟩,jM⟩,⟨5,0,some []⟩,⟨5,3,0,⟨[]⟩⟩⟩
theorem Ho:jz ⟨3,4,[0,0],noS⟩=some (0,[],0):=by
 unfold jz
 rw [show ((aV.mk 3 4 [0,0] noS).kind != 4)=false from rfl,cond_false,show (((aV.mk 3 4 [0,0] noS).bB.length:Int) != 2)=false from rfl,cond_false,show ly (aV.mk 3 4 [0,0] noS).data=some ⟨noS,0⟩ from rfl,aA,bC (r:=([],⟨noS,0⟩)) rfl,aA,wV,aA]
 rfl
theorem Hp:dV EL 0 (eX ⟨3,4,[0,0],noS⟩)=some (0,s8):=by
 have hc:=FZ 3 4 (by decide) (.inr rfl)
 unfold dV
 rw [sT (by have:=(tY hc).2; omega),tA hc,aA]
 dsimp only
 rw [show ((0:Int) != 0)=false from rfl,cond_false,show ((4:Int) != 1)=true from rfl,cond_true,show ((4:Int) != 4)=false from rfl,aA,cond_false,show decide ((3:Int) < EL.aU)=false from rfl,cond_false,show decide ((3:Int) > EL.aU)=true from rfl,cond_true,show eO EL 3=some s8 from rfl,aA,aA]
 dsimp only
 rw [show ((4:Int) == 4)=true from rfl,cond_true]
 unfold fM
 rw [Ho,aA,bC (r:=(s8.lines,s8.bF)) rfl,aA,aA]
theorem Hq: ∃ c,dW s8 0 9=some (5,c):=by
 unfold dW
 rw [show dJ 0 0 1152921504606846976=some 0 from rfl,aA,show dJ 9 0 1152921504606846976=some 9 from rfl,aA,show dN s8.lines=some (kU [] (([]:CL).map Prod.fst)) from sX (m:=[]) rfl (by decide) List.nodup_nil (λe h=>by cases h),aA,pX [] _ (by decide) (λx h=>by cases h),aA,uZ _ _ (by decide),aA,bC (r:=s8.lines) rfl,aA]
 unfold eN
 have hw:WS 5 (gY [] [⟨0,5⟩]):=⟨λy hy=>by rw [List.mem_singleton.1 (show y∈[_] from hy)]; decide,by decide⟩
 rw [show fV (aB.mk 0 (cD 9 (IntKind.i64.wrap (0+s8.config.cache)))).from_ 0 1152921504606846976=some 0 from rfl,aA,show fV (aB.mk 0 (cD 9 (IntKind.i64.wrap (0+s8.config.cache)))).to 0 1152921504606846976=some 5 from rfl,aA,show dB s8.bF=some ⟨5,3,0,⟨[]⟩⟩ from rfl,aA]
 dsimp only
 rw [show (aB.mk 0 (cD 5 (IntKind.i64.wrap (0+s8.bF.most))))=⟨0,5⟩ from rfl,pX [] [⟨0,5⟩] (by decide) (λx h=>by rw [List.mem_singleton.1 h]; unfold spB; decide),aA,rD (by decide) _ _ hw (by decide) (λx h=>by cases h),aA,show nT (gY [] [⟨0,5⟩]) (List.map fJ (kU [] (([]:CL).map Prod.fst)))=gY [] [⟨0,5⟩] from rfl,xi hw (by decide),aA,aA]
 exact ⟨_,rfl⟩
theorem Ak:kR=some true:=by
 have hc:=FZ 1 2 (by decide) (.inl rfl)
 have hc2:=FZ 3 4 (by decide) (.inr rfl)
 have hp:eC ⟨3,4,[0,0],ByteArray.mk #[]⟩=some (eX ⟨3,4,[0,0],noS⟩):=by
  rw [uX (by decide) (by decide)]
  unfold uT
  exact congrArg some (if_pos hc2)
 obtain ⟨c,hw⟩:=Hq
 unfold kR
 rw [HS,aA,Hn,aA]
 dsimp only
 rw [show ((([eX ⟨1,2,[0,0],noS⟩]:List ByteArray).length:Int) != 1)=false from rfl,cond_false,show idx [eX ⟨1,2,[0,0],noS⟩] 0=some (eX ⟨1,2,[0,0],noS⟩) from rfl,aA,sT (by have:=(tY hc).2; omega),tA hc,aA,hp,aA,Hp,aA]
 dsimp only
 rw [show ((0:Int) == 0)=true from rfl,cond_true,show ((2:Int) == 2)=true from rfl,cond_true,show ((1:Int) == 1)=true from rfl,cond_true,cond_true,show fB s8=some 3 from rfl,aA,show ((3:Int) == 3)=true from rfl,cond_true,show fN s8=some 7 from rfl,aA,show ((7:Int) == 7)=true from rfl,cond_true,hw,aA,aA]
 rfl
theorem F0 {α ρ:Type} (l:List α) (p:α->Bool) (y:Nat->ρ) (n:ρ) {f:Int->Option (Int ⊕ ρ)} (h: ∀ i (hi:i < l.length),f (i:Int)=if p l[i]=true then some (.inr (y i)) else some (.inl ((i+1:Nat):Int))) (he:f (l.length:Int)=some (.inr n)):(l.any p=true /\ ∃ j,iter f 0=some (y j))\/(l.any p=false/\iter f 0=some n):=by
 have key: ∀ k i,i+k=l.length->((l.drop i).any p=true /\ ∃ j,iter f (i:Int)=some (y j))\/((l.drop i).any p=false/\iter f (i:Int)=some n):=by
  intro k
  induction k with
  | zero =>
   intro i hi
   obtain rfl:i=l.length:=by omega
   exact .inr ⟨by rw [List.drop_length]; rfl,bC he⟩
  | succ k ih =>
   intro i hi
   have hlt:i < l.length:=by omega
   have h1:=h i hlt
   rw [List.drop_eq_getElem_cons hlt,List.any_cons]
   by_cases c:p l[i]=true
   ·rw [if_pos c] at h1
    exact .inl ⟨by rw [c,Bool.true_or],i,bC h1⟩
   ·rw [if_neg c] at h1
    rw [bY h1,Bool.eq_false_iff.2 c,Bool.false_or]
    exact ih (i+1) (by omega)
 exact key l.length 0 (by omega)
theorem F1 (l:List aD) (i:Int):hsR l i=(rsp l).any λx=>decide (i>=x.from_) && decide (i < x.to):=by
 unfold hsR rsp
 rw [List.any_map]
 rfl
theorem F2 (s:List aB) (i:Int) (hs:s.length<=1000000):gT ⟨s⟩ i=some (s.any λx=>decide (i>=x.from_) && decide (i < x.to)):=by
 have key: ∃ j:Int,cB s i=some j/\decide (j>=0)=(s.any λx=>decide (i>=x.from_) && decide (i < x.to)):=by
  unfold cB
  have h1: ∀ x:aB,cT x i=some (decide (i>=x.from_) && decide (i < x.to)):=λx=>by
   unfold cT
   cases decide (i>=x.from_) <;> cases decide (i < x.to) <;> rfl
  have hh:=F0 (ρ:=Unit ⊕ Int) (f:=λs52:Int=>((bif (decide (s52 < (s.length:Int))) then (Option.bind (idx s s52) λa=>(Option.bind (cT a i) λb=>(bif b then (fD (some s52)) else some (.inl (IntKind.i64.wrap (s52+1)))))) else some (.inr (.inl ()))):Option (Int ⊕ (Unit ⊕ Int)))) s (λx=>decide (i>=x.from_) && decide (i < x.to)) (λj=> .inr (j:Int)) (.inl ()) (λj hj=>by
   rw [decide_eq_true (by omega),cond_true,bG s j hj,aA,h1,aA,w64 (by omega) (by omega)]
   cases (decide (i>=s[j].from_) && decide (i < s[j].to)) <;> rfl) (by
   rw [decide_eq_false (by omega)]
   rfl)
  rcases hh with ⟨e1,j,e2⟩ | ⟨e1,e2⟩
  ·refine ⟨(j:Int),(congrArg (λz=>Option.bind z _) e2).trans rfl,?_⟩
   rw [e1]
   exact decide_eq_true (by omega)
  ·exact ⟨-1,(congrArg (λz=>Option.bind z _) e2).trans rfl,by rw [e1]; rfl⟩
 obtain ⟨j,h1,h2⟩:=key
 unfold gT cM
 dsimp only
 rw [h1,aA,<- h2]
 rfl
structure FX (k:Int) (f:bE) (y:bS):Prop where
 fs:FS k f
 m:y.most=k
 e:y.every=f.every
 d:y.due=f.due
 r:rsp y.l=f.want.l
 n:NF (-1) f.want.l
theorem FX.len {k:Int} {f:bE} {y:bS} (h:FX k f y):y.l.length=f.want.l.length/\(y.l.length:Int)<=k:=by
 have h1:=congrArg List.length h.r
 have h2:=h.fs.w.cnt
 simp only [rsp,List.length_map] at h1
 exact ⟨h1,by omega⟩
theorem Hr (most every:Int): ∃ f,lh most every=some f/\nP most every=some ⟨imax 1 (cD most 65536),imax 1 (cD every 1048576),0,[]⟩/\FX (imax 1 (cD most 65536)) f ⟨imax 1 (cD most 65536),imax 1 (cD every 1048576),0,[]⟩:=by
 obtain ⟨f,h1,h2⟩:=FH (most:=most) (every:=every)
 refine ⟨f,h1,rfl,?_⟩
 have e:lh most every=some ⟨imax 1 (cD most 65536),imax 1 (cD every 1048576),0,⟨[]⟩⟩:=rfl
 rw [h1] at e
 injection e with e
 subst e
 exact ⟨h2,rfl,rfl,rfl,rfl,trivial⟩
theorem EN {k:Int} (hk:0<=k) {f:bE} {y:bS} (h:FX k f y): ∃ f',dB f=some f'/\FX k f' ⟨k,y.every,0,[]⟩:=by
 obtain ⟨f',h1,h2⟩:=B9 hk h.fs
 refine ⟨f',h1,?_⟩
 unfold dB at h1
 injection h1 with h1
 subst h1
 exact ⟨h2,rfl,h.e,rfl,rfl,trivial⟩
theorem Hs {k:Int} (hk:k<=100000) {f:bE} {y:bS} (h:FX k f y) {i:Int} (h0:0<=i) (h1:i<=4611686018427487904): ∃ b f' y',eZ f i=some (b,f')/\kq y i=some (y',b)/\FX k f' y'/\(b=true->0<=i/\i < 1152921504606846976)/\(b=false->y'=y)/\y'.every=y.every:=by
 obtain ⟨b,f',e1,e2,e3⟩:=FI hk h.fs h0 h1
 have hc:=h.fs.w.cnt
 obtain ⟨hl,_⟩:=h.len
 have hb:b=hsR y.l i/\f'=⟨f.most,f.every,f.due,⟨o5 f.want.l (fJ ⟨i,i+if i < 1152921504606846976 then 1 else 0⟩)⟩⟩:=by
  unfold eZ at e1
  have q1:mC (decide (i < 1152921504606846976))=some (if i < 1152921504606846976 then 1 else 0):=by
   by_cases c:i < 1152921504606846976
   ·rw [decide_eq_true c,if_pos c]; rfl
   ·rw [decide_eq_false c,if_neg c]; rfl
  rw [show f.want=⟨f.want.l⟩ from rfl,F2 _ _ (by omega),aA,q1,aA,w64 (by split <;> omega) (by split <;> omega),rD hk f.want.l _ h.fs.w (by simp) (λx hx=>by rw [List.mem_singleton.1 hx]; dsimp only; split <;> omega),aA] at e1
  injection e1 with e1
  injection e1 with e4 e5
  exact ⟨by rw [F1,h.r]; exact e4.symm,e5.symm⟩
 obtain ⟨hb1,hb2⟩:=hb
 unfold kq
 rw [xj y.l i (by omega),aA,<- hb1]
 cases b with
 | false =>
  rw [Bool.not_false,cond_true]
  refine ⟨false,f',y,e1,rfl,⟨e2,h.m,?_,?_,?_,?_⟩,λh=>(by cases h),λ_=>rfl,rfl⟩
  ·rw [hb2]; exact h.e
  ·rw [hb2]; exact h.d
  all_goals
   have hsame:o5 f.want.l (fJ ⟨i,i+if i < 1152921504606846976 then 1 else 0⟩)=f.want.l:=by
    obtain ⟨a1,a2⟩:=rJ h.n (fJ ⟨i,i+if i < 1152921504606846976 then 1 else 0⟩)
    refine xe a1 h.n λn=>(a2 n).trans ⟨λh=>h.1,λhn=>⟨hn,λhq=> ?_⟩⟩
    by_cases c:i < 1152921504606846976
    ·rw [if_pos c,uc h0 (by omega) (by omega) (by omega)] at hq
     dsimp only at hq
     obtain rfl:n=i:=by omega
     rw [<- h.r,<- rE,<- hb1] at hn
     cases hn
    ·rw [if_neg c,Int.add_zero] at hq
     have:(fJ ⟨i,i⟩).from_=(fJ ⟨i,i⟩).to:=rfl
     omega
   rw [hb2]
  ·exact h.r.trans hsame.symm
  ·rw [hsame]; exact h.n
 | true =>
  obtain ⟨g1,g2⟩:=e3 rfl
  rw [Bool.not_true,cond_false,w64 (by omega) (by omega)]
  obtain ⟨r,r1,r2⟩:=Bi (l:=y.l) (lo:= -1) (by rw [h.r]; exact h.n) (by omega) ⟨i,i+1⟩
  rw [r1,aA]
  rw [if_pos g2] at hb2
  have hn:=(rJ h.n (fJ ⟨i,i+1⟩)).1
  refine ⟨true,f',_,e1,rfl,⟨e2,h.m,by rw [hb2]; exact h.e,by rw [hb2]; exact h.d,?_,by rw [hb2]; exact hn⟩,λ_=>⟨g1,g2⟩,λh=>(by cases h),rfl⟩
  rw [hb2]
  dsimp only
  rw [r2,h.r]
  rfl
theorem Ht {k:Int} (hk:k<=100000) {f:bE} {y:bS} (h:FX k f y) (now len:Int): ∃ L f' y' R,eG f now len=some (L,f')/\mI y now len=some (y',R)/\FX k f' y'/\rsp R=L/\L.length<=8/\(∀ z∈L,0<=z.from_/\z.from_ < z.to/\z.to<=1152921504606846976)/\y'.every=y.every:=by
 obtain ⟨L,f',e1,e2,e3,e4⟩:=FJ hk h.fs now len
 have hc:=h.fs.w.cnt
 obtain ⟨hl,_⟩:=h.len
 obtain ⟨r,r1,r2⟩:=FG (l:=y.l) (lo:= -1) (by rw [h.r]; exact h.n) (by omega) ⟨0,len⟩
 have hL:=ua f.want.l (fJ ⟨0,len⟩)
 rw [h.r] at r2
 have e5:=e1
 unfold eG at e5
 unfold mI
 rw [show f.want=⟨f.want.l⟩ from rfl,uZ f.want.l _ (by omega),aA] at e5
 rw [r1,aA]
 change rsp r=inL f.want.l (fJ ⟨0,len⟩) at r2
 rw [<- r2] at e5 hL
 have hlr:(rsp r).length=r.length:=List.length_map _
 rw [hlr] at e5 hL
 rw [h.d,h.e]
 have hd: ∃ d:Bool,((bif ((r.length:Int) == 0) then some true else some (decide (now < f.due))):Option Bool)=some d:=by
  cases ((r.length:Int) == 0) <;> exact ⟨_,rfl⟩
 obtain ⟨d,hd⟩:=hd
 rw [hd,aA] at e5
 rw [hd,aA]
 cases d with
 | true =>
  rw [cond_true] at e5 ⊢
  injection e5 with e5
  injection e5 with e6 e7
  subst e6 e7
  exact ⟨[],f,y,[],e1,rfl,h,rfl,e3,e4,h.e⟩
 | false =>
  rw [cond_false] at e5 ⊢
  have i1:=fQ (r.length:Int) 8
  rw [cV (by omega) (by omega) (by omega),aA] at e5
  injection e5 with e5
  injection e5 with e6 e7
  have hR: ∃ R,((bif (decide ((r.length:Int) > 8)) then (Option.bind (chk (eL 0 8 r.length)) λ_=>some (cut r 0 8)) else some r):Option (List aD))=some R/\rsp R=L:=by
   by_cases c:(r.length:Int) > 8
   ·rw [decide_eq_true c,cond_true,cV (by omega) (by omega) (by omega),aA]
    refine ⟨_,rfl,?_⟩
    rw [<- e6,show cD (r.length:Int) 8=8 by omega]
    show (cut r 0 8).map sp=cut (r.map sp) 0 8
    unfold cut
    rw [List.map_drop,List.map_take]
   ·rw [decide_eq_false c,cond_false]
    refine ⟨_,rfl,?_⟩
    rw [<- e6,show cD (r.length:Int) 8=(r.length:Int) by omega]
    unfold cut
    rw [List.take_of_length_le (by omega)]
    rfl
  obtain ⟨R,hR1,hR2⟩:=hR
  rw [hR1,aA]
  subst e7
  exact ⟨L,_,_,R,e1,rfl,⟨e2,h.m,rfl,rfl,h.r,h.n⟩,hR2,e3,e4,rfl⟩
theorem u7: ∀ (l:List aB) {s:List aB} {lo:Int},NF lo s->NF lo (nT s l)
 | [],_,_,h=>h
 | x::l,s,lo,h=>u7 l (rJ h x).1
theorem Ci {k:Int} (l:List aD) (h:WS k (rsp l)) (hk:k<=1000000):jT l=some (eK (rsp l)):=by
 unfold jT
 have hlen:=h.len
 have hl:=h.l
 have hp:=EK h
 have hll:(rsp l).length=l.length:=List.length_map _
 refine dX (λn:Nat=>(eK ((rsp l).take n),(n:Int))) l.length (eK (rsp l)) rfl (λn hn=> ?_) ?_ rfl
 ·dsimp only
  have hb:=h.b _ (List.getElem_mem (show n < (rsp l).length by omega))
  have h1:=hp n
  have h2:=hp (n+1)
  have e:(rsp l)[n]'(by omega)=sp l[n]:=List.getElem_map ..
  rw [e] at hb
  rw [List.take_succ_eq_append_getElem (by omega),lP,e] at h2 ⊢
  have e2:eK [sp l[n]]=l[n].to - l[n].from_:=by show (sp l[n]).to - (sp l[n]).from_+0=_; simp [sp]
  rw [e2] at h2 ⊢
  change 0<=l[n].from_/\l[n].from_ < l[n].to/\l[n].to<=_ at hb
  rw [decide_eq_true (by omega),cond_true,bG l n hn,aA,w64 (x:=l[n].to - l[n].from_) (by omega) (by omega),w64 (x:=(n:Int)+1) (by omega) (by omega),w64 (by omega) (by omega)]
  rfl
 ·dsimp only
  rw [decide_eq_false (by omega),cond_false,List.take_of_length_le (by omega)]
theorem F3 {k:Int} (hk0:1<=k) (hk:k<=100000) {f:bE} {y:bS} (h:FX k f y) {x:aB} {x':aD} (hx:sp x'=x) {l:List aB} {l':List aD} (hll:rsp l'=l) (hl:l.length<=800000) (hb: ∀ z∈l,0<=z.to): ∃ n f' y',eN f x l=some (n,f')/\lG y x' l'=some y'/\jT y'.l=some n/\FX k f' y'/\y'.every=y.every:=by
 obtain ⟨n,f',e1,e2⟩:=El hk0 hk h.fs x (l:=l) (by omega) hb
 have e5:=e1
 unfold eN at e5
 unfold lG
 have hm:=h.fs.m
 have hlen:l'.length=l.length:=by rw [<- hll]; exact (List.length_map _).symm
 subst hx
 rw [show fV (sp x').from_ 0 1152921504606846976=some (imax 0 (cD x'.from_ 1152921504606846976)) from rfl,aA,show fV (sp x').to 0 1152921504606846976=some (imax 0 (cD x'.to 1152921504606846976)) from rfl,aA,show dB f=some ⟨f.most,f.every,0,⟨[]⟩⟩ from rfl,aA] at e5
 dsimp only at e5
 rw [h.m]
 rw [hm] at e5
 have a1:=fQ x'.from_ 1152921504606846976
 have a2:=gC 0 (cD x'.from_ 1152921504606846976)
 have a3:=fQ x'.to 1152921504606846976
 have a4:=gC 0 (cD x'.to 1152921504606846976)
 generalize imax 0 (cD x'.from_ 1152921504606846976)=a at a1 a2 e5 ⊢
 generalize imax 0 (cD x'.to 1152921504606846976)=b at a3 a4 e5 ⊢
 have a5:=fQ b (a+k)
 rw [w64 (x:=a+k) (by omega) (by omega)] at e5 ⊢
 rw [pX [] _ (by simp) (λy hy=>by rw [List.mem_singleton.1 hy]; refine ⟨?_,?_,?_,?_⟩ <;> (dsimp only; omega)),aA] at e5
 obtain ⟨r,r1,r2⟩:=Bh (l:=[]) (lo:= -1) trivial (by simp) ⟨a,cD b (a+k)⟩
 have hfit:fJ (sp ⟨a,cD b (a+k)⟩)=⟨a,cD b (a+k)⟩:=show fJ (⟨a,cD b (a+k)⟩:aB)=_ from uc (by omega) (by omega) (by omega) (by omega)
 have r3:rsp r=gY [] [⟨a,cD b (a+k)⟩]:=by
  rw [r2,hfit]
  rfl
 rw [r1,aA]
 have hw:WS k (gY [] [⟨a,cD b (a+k)⟩])/\NF (-1) (gY [] [⟨a,cD b (a+k)⟩]):=by
  show WS k (if _ then _ else _)/\NF (-1) (if _ then _ else _)
  split
  ·exact ⟨WS.nil (by omega),trivial⟩
  ·rename_i c
   dsimp only at c
   refine ⟨⟨λy hy=> ?_,?_⟩,?_⟩
   ·rw [List.mem_singleton.1 (show y∈[_] from hy)]; dsimp only; omega
   ·show cD b (a+k) - a+0<=k; omega
   ·exact ⟨by dsimp only; omega,by dsimp only; omega,trivial⟩
 rw [<- r3] at hw e5
 obtain ⟨hw1,hw2⟩:=hw
 have hw3: ∀ n,WS k (nT (rsp r) ((l.take n).map fJ)):=λn=>hw1.D9 λy hy=>by
  obtain ⟨z,hz,rfl⟩:=List.mem_map.1 hy
  exact tZ (hb z (List.mem_of_mem_take hz))
 have hfin:=hw3 l.length
 rw [List.take_of_length_le (Nat.le_refl _)] at hfin
 rw [rD hk (rsp r) l hw1 (by omega) hb,aA,xi hfin (by omega),aA] at e5
 injection e5 with e5
 injection e5 with e6 e7
 have key: ∀ n,n<=l'.length -> ∃ q:List aD,rsp q=nT (rsp r) ((l.take n).map fJ) /\ ∀ j,n+j=l'.length->iter (σ:=bS×Int) (ρ:=bS) (λd=>(bif (decide (d.2 < (l'.length:Int))) then (Option.bind (idx l' d.2) λg=>(Option.bind (jt d.1.l g) λi=>some (.inl ((bS.mk d.1.most d.1.every d.1.due i),(IntKind.i64.wrap (d.2+1)))))) else some (.inr d.1))) ((bS.mk k y.every 0 r),0)=iter (σ:=bS×Int) (ρ:=bS) (λd=>(bif (decide (d.2 < (l'.length:Int))) then (Option.bind (idx l' d.2) λg=>(Option.bind (jt d.1.l g) λi=>some (.inl ((bS.mk d.1.most d.1.every d.1.due i),(IntKind.i64.wrap (d.2+1)))))) else some (.inr d.1))) ((bS.mk k y.every 0 q),(n:Int)):=by
  intro n
  induction n with
  | zero=>intro _; exact ⟨r,rfl,λj _=>rfl⟩
  | succ n ih =>
   intro hn
   obtain ⟨q,q1,q2⟩:=ih (by omega)
   have hq:NF (-1) (rsp q):=by rw [q1]; exact u7 _ hw2
   have hq2:=(hw3 n).cnt
   rw [<- q1] at hq2
   have hq3:(rsp q).length=q.length:=List.length_map _
   obtain ⟨q',p1,p2⟩:=Bi hq (by omega) l'[n]
   have e:l[n]'(by omega)=sp l'[n]:=by subst hll; exact List.getElem_map ..
   refine ⟨q',?_,λj hj=> ?_⟩
   ·rw [p2,q1,List.take_succ_eq_append_getElem (by omega),List.map_append,e]
    show _=List.foldl _ _ _
    rw [List.foldl_append]
    rfl
   ·rw [q2 (j+1) (by omega)]
    refine bY ?_
    dsimp only
    rw [decide_eq_true (by omega),cond_true,bG l' n (by omega),aA,p1,aA,w64 (by omega) (by omega)]
    rfl
 obtain ⟨q,q1,q2⟩:=key l'.length (Nat.le_refl _)
 rw [hlen,List.take_of_length_le (Nat.le_refl _)] at q1
 rw [q2 0 (by omega),bC (r:=(bS.mk k y.every 0 q)) (by dsimp only; rw [decide_eq_false (by omega)]; rfl),aA]
 subst e7
 refine ⟨n,_,_,e1,rfl,?_,⟨e2,rfl,h.e,rfl,q1,u7 _ hw2⟩,rfl⟩
 dsimp only
 rw [Ci q (by rw [q1]; exact hfin) (by omega),q1,e6]
end Go.Tw.X

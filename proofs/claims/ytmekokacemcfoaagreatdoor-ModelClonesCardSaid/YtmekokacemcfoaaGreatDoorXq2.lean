import Derived.Test.YtmekokacemcfoaaGreatDoorXq1
import Derived.Test.YtmekokacemcfoaaGreatDoorXp1
set_option linter.unusedVariables false
set_option linter.unusedSimpArgs false
namespace Go.Tw.X
open Go Go.Tw
def atS (l:List Int) (i:Nat) (d:Int):Int:=match l[i]? with
 | some n=>if n≤0 then d else min n 9999
 | none=>d
theorem wv (a:bB) (i:Nat) (d:Int):dX a (i:Int) d=some (atS a.bA i d):=by
 unfold dX atS
 by_cases hi:i < a.bA.length
 ·rw [decide_eq_false (by omega: ¬ (i:Int)≥(a.bA.length:Int)),cond_false]
  simp only [cK _ _ hi,aA,List.getElem?_eq_getElem hi]
  by_cases h:a.bA[i]≤0
  ·rw [decide_eq_true h,cond_true,if_pos h]
  ·rw [decide_eq_false h,cond_false,if_neg h,dZ]
 ·rw [decide_eq_true (by omega:(i:Int)≥(a.bA.length:Int)),cond_true,aA,cond_true,List.getElem?_eq_none (by omega)]
theorem oL (l:List Int) (i:Nat) (d:Int):dY l (i:Int) d=some (atS l i d):=by
 unfold dY atS
 by_cases hi:i < l.length
 ·rw [decide_eq_true (by omega:(i:Int) < (l.length:Int)),cond_true]
  simp only [cK _ _ hi,aA,List.getElem?_eq_getElem hi]
  by_cases h:l[i]≤0
  ·rw [decide_eq_false (by omega),cond_false,if_pos h]
  ·rw [decide_eq_true (by omega),cond_true,if_neg h,dZ]
 ·rw [decide_eq_false (by omega: ¬ (i:Int) < (l.length:Int)),cond_false,aA,cond_false,List.getElem?_eq_none (by omega)]
theorem tj (l:List Int) (i:Nat) {d:Int} (h0:0≤d) (h1:d≤9999):0≤atS l i d∧atS l i d≤9999∧(1≤d→1≤atS l i d):=by
 unfold atS
 split
 ·split <;> omega
 ·omega
section
variable {W : Nat} {s : aB}
def dnS (W:Nat) (s:aB) (t b n:Int):aB:=⟨⟨W,pW W s.g.l t b n (kM s.spot.aM)⟩,s.spot,s.saved,s.waiting,s.top,s.aI,s.aY,s.title⟩
def upT (W:Nat) (s:aB) (t b n:Int):aB:=⟨⟨W,upL W s.g.l t b n (kM s.spot.aM)⟩,s.spot,s.saved,s.waiting,s.top,s.aI,s.aY,s.title⟩
theorem yp (h:SJ W s) (t b n:Int):SJ W (dnS W s t b n) :=
 ⟨rfl,Fj h.gi _ _ _ _,h.x0,h.x1,h.y0,by simp only [dnS,wo _ _ _ _ _ _ h.gi.l1]; exact h.y1,h.t0,h.tb,by simp only [dnS,wo _ _ _ _ _ _ h.gi.l1]; exact h.b1⟩
theorem zy (h:SJ W s) (t b n:Int):SJ W (upT W s t b n) :=
 ⟨rfl,Gi h.gi _ _ _ _,h.x0,h.x1,h.y0,by simp only [upT,uo _ _ _ _ _ _ h.gi.l1]; exact h.y1,h.t0,h.tb,by simp only [upT,uo _ _ _ _ _ _ h.gi.l1]; exact h.b1⟩
theorem u7 (h:SJ W s) (t b n:Int):dT s.g t b n (kM s.spot.aM)=some (qV s.g.l t b n,(dnS W s t b n).g):=by
 rw [h.ge]; exact (xZ h.gi _ _ _ _).1
theorem u9 (h:SJ W s) (t b n:Int):dC (aQ s).g false t b n (kM s.spot.aM)=some ((aQ (dnS W s t b n)).g,(qV s.g.l t b n).map told):=by
 rw [sr h]; exact (xZ h.gi _ _ _ _).2
theorem Hi (h:SJ W s) (t b n:Int):eZ s.g t b n (kM s.spot.aM)=some (upO s.g.l t b n,(upT W s t b n).g):=by
 rw [h.ge]; exact (w7 h.gi _ _ _ _).1
theorem FM (h:SJ W s) (t b n:Int):dC (aQ s).g true t b n (kM s.spot.aM)=some ((aQ (upT W s t b n)).g,(upO s.g.l t b n).map told):=by
 rw [sr h]; exact (w7 h.gi _ _ _ _).2
def baS (W:Nat) (s:aB):aB:=if s.spot.y=s.top then dnS W (nwS s) s.top s.aI 1 else mvS (nwS s) s.spot.x (s.spot.y - 1)
theorem Ic (h:SJ W s):SI W (baS W s):=by
 unfold baS
 split
 ·exact ⟨yp (k9 h) _ _ _,fun e=>by cases e⟩
 ·exact m6 (k9 h) _ _
theorem yr (h:SJ W s):0≤s.spot.y∧s.spot.y < 1000∧0≤s.spot.x∧s.spot.x < 1000:=by
 have h1:=h.gi.w2
 have h2:=h.gi.l2
 have h3:=h.y1
 have h4:=h.x1
 have h5:=h.y0
 have h6:=h.x0
 omega
theorem back_eq (h:SJ W s):gY s=some (baS W s):=by
 have hy:=yr h
 unfold gY baS
 rw [← nwS]
 by_cases c:s.spot.y=s.top
 ·rw [ld c,cond_true,if_pos c,me,aA]
  have e:=u7 (k9 h) s.top s.aI 1
  rw [show (nwS s).g=s.g from rfl] at e
  rw [e,aA]
  rfl
 ·rw [dO c,cond_false,if_neg c,w64 (by omega) (by omega),jZ (k9 h),aA]
theorem zz (h:SJ W s):((aQ s).g.l.length:Int)=s.g.l.length:=by simp [aQ,oE]
def clS (s:aB) (n:Int):aB:=mvS s s.spot.x (max (if s.spot.y≥s.top∧n < 0 then s.top else 0) (min (s.spot.y+n) (if s.spot.y≤s.aI∧n > 0 then s.aI else (s.g.l.length:Int) - 1)))
theorem uq {α:Type} (p:Prop) [Decidable p] (x y:α):((bif decide p then some x else some y):Option α)=some (if p then x else y):=by
 by_cases h:p <;> simp [h]
theorem DJ (h:SJ W s) {n:Int} (h0: -9999≤n) (h1:n≤9999):eV s n=some (clS s n):=by
 have hy:=yr h
 unfold eV clS
 rw [u6 h,aA]
 rw [show ((bif (decide (s.spot.y≥s.top)) then some (decide (n < 0)) else some false):Option Bool)=_ from vK _ _,aA,uq,aA]
 rw [show ((bif (decide (s.spot.y≤s.aI)) then some (decide (n > 0)) else some false):Option Bool)=_ from vK _ _,aA]
 dsimp only
 rw [uq,aA,w64 (by omega) (by omega),m5,aA,jZ h,aA]
def erR (s:aB) (y a b:Int):aE:=⟨ij 0 (jY a b (kM s.spot.aM) 0 (jE s.g.l y).cells),false⟩
def erS (W:Nat) (s:aB) (y a b:Int):aB:=seS W s y (erR s y a b)
theorem zA (h:SJ W s) {y:Int} (h0:0≤y) (h1:y < s.g.l.length) (a b:Int):gok W (erR s y a b):=by
 have hg:=(h.get h0 h1).2
 exact ⟨by simp only [erR,jX,lq]; exact hg.1,oC _ _ (s8 _ _ _ _ hg.2)⟩
theorem Gq (h:SJ W s) {y:Int} (h0:0≤y) (h1:y < s.g.l.length) (a b:Int):SJ W (erS W s y a b):=Aw h _ (zA h h0 h1 a b).2
theorem qA (h:SJ W s) {y:Int} (h0:0≤y) (h1:y < s.g.l.length) (a b:Int):dR s y a b=some (erS W s y a b):=by
 have hg:=(h.get h0 h1).2.le h.gi.w2
 have hr:=(zA h h0 h1 a b).le h.gi.w2
 unfold dR
 rw [h.Dr,aA,me,aA,erase_eq _ _ _ _ (by omega),aA,← erR,h.Du _ (by omega),aA]
 rfl
theorem rF (h:SJ W s) {y:Int} (h0:0≤y) (h1:y < s.g.l.length) (a b:Int):iG (aQ s) y a b=some (aQ (erS W s y a b)):=by
 have hg:=(h.get h0 h1).2.le h.gi.w2
 have hr:=(zA h h0 h1 a b).le h.gi.w2
 unfold iG
 have e:km (told (jE s.g.l y)) a b (kM s.spot.aM)=some (told (erR s y a b)):=by
  rw [told,Bt (jE s.g.l y).cells (jE s.g.l y).wrapped a b _ (by omega)]; rfl
 rw [(h.get h0 h1).1,aA,sq,aA,e,aA,h.HZ _ (by omega),aA]
 rfl
def paA (s:aB) (n:Int):Int:=if n=0 then s.spot.x else 0
def paB (W:Nat) (s:aB) (n:Int):Int:=if n=1 then s.spot.x+1 else W
def paS (W:Nat) (s:aB) (n:Int):aB:=if n > 2 then s else nwS (erS W s s.spot.y (paA s n) (paB W s n))
theorem Ay (h:SJ W s) {n:Int} (hn:0≤n):fJ s n=some (paS W s n):=by
 have hy:=yr h
 unfold fJ paS paA paB
 rw [po,aA,h.gw]
 dsimp only
 rw [w64 (x:=s.spot.x+1) (by omega) (by omega)]
 have e: ∀ t:aB,((bif t.waiting then some (aB.mk t.g t.spot t.saved false t.top t.aI t.aY t.title) else some (aB.mk t.g t.spot t.saved false t.top t.aI t.aY t.title)):Option aB)=some (nwS t):=fun t=>by cases t.waiting <;> rfl
 by_cases h0:n=0
 ·subst h0
  rw [ld rfl,cond_true,qA h h.y0 h.y1,aA,aA]
  exact e _
 ·rw [dO h0,cond_false]
  by_cases h1:n=1
  ·subst h1
   rw [ld rfl,cond_true,qA h h.y0 h.y1,aA,aA]
   exact e _
  ·rw [dO h1,cond_false]
   by_cases h2:n=2
   ·subst h2
    rw [ld rfl,cond_true,qA h h.y0 h.y1,aA,aA]
    exact e _
   ·rw [dO h2,cond_false,aA,if_pos (by omega:n > 2),decide_eq_true (by omega:n > 2)]
    dsimp only
    cases hw:s.waiting with
    | true=>rw [cond_true,← hw]
    | false=>rw [cond_false,← hw]
theorem Ie (h:SI W s) {n:Int}:SI W (paS W s n):=by
 unfold paS
 split
 ·exact h
 ·exact ⟨k9 (Gq h.toSJ h.y0 h.y1 _ _),fun e=>by cases e⟩
def wpc (s:aB) (n:Int) (k:Nat):Bool:=decide ((k:Int) < s.spot.y∧n≠0∧n≤2∨(k:Int) > s.spot.y∧n≠1∧n≤2)
def wpS (W:Nat) (s:aB) (n:Int):Nat→aB
 | 0=>s
 | k+1=>if wpc s n k then erS W (wpS W s n k) k 0 W else wpS W s n k
theorem ss (n:Int): ∀ k,(wpS W s n k).spot=s.spot∧(wpS W s n k).g.l.length=s.g.l.length∧(wpS W s n k).waiting=s.waiting
 | 0=>⟨rfl,rfl,rfl⟩
 | k+1=>by
  obtain ⟨h1,h2,h3⟩:=ss n k
  unfold wpS
  split
  ·exact ⟨h1,by simp only [erS,seS,kK]; exact h2,h3⟩
  ·exact ⟨h1,h2,h3⟩
theorem wx (h:SJ W s) (n:Int): ∀ k,k≤s.g.l.length→SJ W (wpS W s n k)
 | 0,_=>h
 | k+1,hk=>by
  have ih:=wx h n k (by omega)
  unfold wpS
  split
  ·exact Gq ih (by omega) (by rw [(ss n k).2.1]; omega) _ _
  ·exact ih
end
end Go.Tw.X
set_option linter.unusedVariables false
set_option linter.unusedSimpArgs false
namespace Go.Tw.X
open Go Go.Tw
section
variable {W : Nat} {s : aB}
theorem xj (n:Int) (k:Nat):wpS W s n (k+1)=if wpc s n k then erS W (wpS W s n k) k 0 W else wpS W s n k:=rfl
theorem FN (h:SJ W s) {n:Int} (hn:0≤n):gZ s n=some (paS W (wpS W s n s.g.l.length) n):=by
 have hl:=h.gi.l2
 unfold gZ
 rw [po,aA,h.gw]
 dsimp only
 refine eP (fun k=>(wpS W s n k,(wpS W s n k).g,(k:Int))) s.g.l.length ((wpS W s n s.g.l.length).g,wpS W s n s.g.l.length) rfl ?_ ?_ ?_
 ·intro k hk
  have hs:=ss (W:=W) (s:=s) n k
  have hJ:=wx h n k (by omega)
  dsimp only
  rw [decide_eq_true (by omega:(k:Int) < (s.g.l.length:Int)),cond_true,hs.1,xj,w64 (by omega) (by omega)]
  have ec:((bif (decide ((k:Int) < s.spot.y)) then (bif (n == 1) then some true else (bif (decide ((k:Int) > s.spot.y)) then (bif (n == 0) then some true else (bif ((k:Int) != s.spot.y) then some (n == 2) else some false)) else (bif ((k:Int) != s.spot.y) then some (n == 2) else some false))) else (bif (decide ((k:Int) > s.spot.y)) then (bif (n == 0) then some true else (bif ((k:Int) != s.spot.y) then some (n == 2) else some false)) else (bif ((k:Int) != s.spot.y) then some (n == 2) else some false))):Option Bool)=some (wpc s n k):=by
   unfold wpc
   have hb: ∀ b:Bool,(b=true)=b:=fun b=>rfl
   by_cases a1:(k:Int) < s.spot.y
   ·have a2: ¬ (k:Int) > s.spot.y:=by omega
    have a3:((k:Int) != s.spot.y)=true:=by simp; omega
    rw [decide_eq_true a1,decide_eq_false a2,a3]
    simp only [cond_true,cond_false]
    by_cases c:n=1
    ·rw [ld c,cond_true,decide_eq_true (by omega)]
    ·rw [dO c,cond_false]
     by_cases c2:n=2
     ·rw [ld c2,decide_eq_true (by omega)]
     ·rw [dO c2,decide_eq_false (by omega)]
   ·rw [decide_eq_false a1,cond_false]
    by_cases a2:(k:Int) > s.spot.y
    ·have a3:((k:Int) != s.spot.y)=true:=by simp; omega
     rw [decide_eq_true a2,a3]
     simp only [cond_true,cond_false]
     by_cases c:n=0
     ·rw [ld c,cond_true,decide_eq_true (by omega)]
     ·rw [dO c,cond_false]
      by_cases c2:n=2
      ·rw [ld c2,decide_eq_true (by omega)]
      ·rw [dO c2,decide_eq_false (by omega)]
    ·have a3:((k:Int) != s.spot.y)=false:=by simp; omega
     rw [decide_eq_false a2,a3]
     simp only [cond_false]
     rw [decide_eq_false (by omega)]
  rw [ec,aA]
  cases hc:wpc s n k with
  | true =>
   rw [cond_true,if_pos rfl,show (aB.mk (wpS W s n k).g s.spot (wpS W s n k).saved (wpS W s n k).waiting (wpS W s n k).top (wpS W s n k).aI (wpS W s n k).aY (wpS W s n k).title)=wpS W s n k by rw [← hs.1]]
   rw [qA hJ (by omega) (by rw [hs.2.1]; omega),aA,aA]
   rfl
  | false =>
   rw [cond_false,if_neg (by simp),aA]
   dsimp only
   rw [show (aB.mk (wpS W s n k).g s.spot (wpS W s n k).saved (wpS W s n k).waiting (wpS W s n k).top (wpS W s n k).aI (wpS W s n k).aY (wpS W s n k).title)=wpS W s n k by rw [← hs.1]]
   rfl
 ·dsimp only
  rw [decide_eq_false (by omega: ¬ ((s.g.l.length:Nat):Int) < (s.g.l.length:Int)),cond_false]
 ·dsimp only
  rw [show (aB.mk (wpS W s n s.g.l.length).g (wpS W s n s.g.l.length).spot (wpS W s n s.g.l.length).saved (wpS W s n s.g.l.length).waiting (wpS W s n s.g.l.length).top (wpS W s n s.g.l.length).aI (wpS W s n s.g.l.length).aY (wpS W s n s.g.l.length).title)=wpS W s n s.g.l.length from rfl,Ay (wx h n _ (Nat.le_refl _)) hn,aA]
theorem Az {n:Int} (hn:n > 2): ∀ k,wpS W s n k=s
 | 0=>rfl
 | k+1=>by
  rw [xj,Az hn k]
  unfold wpc
  rw [decide_eq_false (by omega),if_neg (by simp)]
def zB (W:Nat) (s:aB) (n:Int) (all:Bool):aB:=paS W (if all then wpS W s n s.g.l.length else s) n
theorem yq (h:SJ W s) {n:Int} (hn:0≤n) (all:Bool):ko (aQ s) n all=some (aQ (zB W s n all)):=by
 have hl:=h.gi.l2
 have hy:=yr h
 unfold ko zB
 by_cases h2:n > 2
 ·rw [decide_eq_true h2,cond_true,Az h2,ite_self]
  unfold paS
  rw [if_pos h2]
 ·rw [decide_eq_false h2,cond_false,zz h]
  refine eP (fun k=>(aQ (if all then wpS W s n k else s),(k:Int))) s.g.l.length (aQ (if all then wpS W s n s.g.l.length else s)) (by cases all <;> rfl) ?_ ?_ ?_
  ·intro k hk
   dsimp only
   rw [decide_eq_true (by omega:(k:Int) < (s.g.l.length:Int)),cond_true,w64 (by omega) (by omega)]
   cases all with
   | false =>
    rw [cond_false,aA,cond_false,aA]
    rfl
   | true =>
    have hs:=ss (W:=W) (s:=s) n k
    have hJ:=wx h n k (by omega)
    simp only [if_true,cond_true]
    rw [show (aQ (wpS W s n k)).y=s.spot.y by show (wpS W s n k).spot.y=_; rw [hs.1],xj]
    have ec:((bif (decide ((k:Int) < s.spot.y)) then (bif (n != 0) then some true else (bif (decide ((k:Int) > s.spot.y)) then some (n != 1) else some false)) else (bif (decide ((k:Int) > s.spot.y)) then some (n != 1) else some false)):Option Bool)=some (wpc s n k):=by
     unfold wpc
     by_cases a1:(k:Int) < s.spot.y
     ·have a2: ¬ (k:Int) > s.spot.y:=by omega
      rw [decide_eq_true a1,decide_eq_false a2]
      simp only [cond_true,cond_false]
      by_cases c:n=0
      ·rw [show (n != 0)=false by simp [c],cond_false,decide_eq_false (by omega)]
      ·rw [show (n != 0)=true by simp [c],cond_true,decide_eq_true (by omega)]
     ·rw [decide_eq_false a1,cond_false]
      by_cases a2:(k:Int) > s.spot.y
      ·rw [decide_eq_true a2,cond_true]
       by_cases c:n=1
       ·rw [show (n != 1)=false by simp [c],decide_eq_false (by omega)]
       ·rw [show (n != 1)=true by simp [c],decide_eq_true (by omega)]
      ·rw [decide_eq_false a2,cond_false,decide_eq_false (by omega)]
    rw [ec,aA]
    cases hc:wpc s n k with
    | true =>
     rw [cond_true,if_pos rfl,show (aQ (wpS W s n k)).g.w=(W:Int) from hJ.gw,rF hJ (by omega) (by rw [hs.2.1]; omega),aA,aA]
     rfl
    | false =>
     rw [cond_false,if_neg (by simp),aA]
     rfl
  ·dsimp only
   rw [decide_eq_false (by omega: ¬ ((s.g.l.length:Nat):Int) < (s.g.l.length:Int)),cond_false]
  ·have key: ∀ t:aB,SJ W t→(Option.bind ((bif (n == 0) then some (aQ t).x else some 0):Option Int) fun b=>(Option.bind ((bif (n == 1) then some (IntKind.i64.wrap ((aQ t).x+1)) else some (aQ t).g.w):Option Int) fun d=>(Option.bind (iG (aQ t) (aQ t).y b d) fun a=>some (aK.mk a.g a.x a.y a.s a.sX a.sY a.sS false a.top a.aI a.aY a.title))))=some (aQ (paS W t n)):=by
    intro t ht
    have hy:=yr ht
    rw [show (aQ t).x=t.spot.x from rfl,show (aQ t).g.w=(W:Int) from ht.gw,show (aQ t).y=t.spot.y from rfl,w64 (x:=t.spot.x+1) (by omega) (by omega)]
    have e1:((bif (n == 0) then some t.spot.x else some 0):Option Int)=some (paA t n):=by
     unfold paA
     by_cases c:n=0
     ·rw [ld c,cond_true,if_pos c]
     ·rw [dO c,cond_false,if_neg c]
    have e2:((bif (n == 1) then some (t.spot.x+1) else some (W:Int)):Option Int)=some (paB W t n):=by
     unfold paB
     by_cases c:n=1
     ·rw [ld c,cond_true,if_pos c]
     ·rw [dO c,cond_false,if_neg c]
    rw [e1,aA,e2,aA,rF ht ht.y0 ht.y1,aA]
    unfold paS
    rw [if_neg h2]
    rfl
   refine key _ ?_
   cases all with
   | true=>exact wx h n _ (Nat.le_refl _)
   | false=>exact h
theorem DK (h:SI W s) (n:Int) (all:Bool):SI W (zB W s n all):=by
 unfold zB
 apply Ie
 cases all with
 | false=>exact h
 | true =>
  have hs:=ss (W:=W) (s:=s) n s.g.l.length
  exact ⟨wx h.toSJ n _ (Nat.le_refl _),fun e=>by rw [if_pos rfl] at e ⊢; rw [hs.1]; rw [hs.2.2] at e; exact h.wt e⟩
def shS (W:Nat) (s:aB) (b n:Int):aB:=if s.spot.y < s.top∨s.spot.y > s.aI then s else if b=76 then mvS (dnS W s s.spot.y s.aI n) 0 s.spot.y else mvS (upT W s s.spot.y s.aI n) 0 s.spot.y
theorem DL (h:SJ W s) (b n:Int):gE s b n=some (shS W s b n):=by
 unfold gE shS
 rw [show ((bif (decide (s.spot.y < s.top)) then some true else some (decide (s.spot.y > s.aI))):Option Bool)=_ from or2 _ _,aA]
 by_cases c:s.spot.y < s.top∨s.spot.y > s.aI
 ·rw [decide_eq_true c,cond_true,if_pos c]
 ·rw [decide_eq_false c,cond_false,if_neg c]
  by_cases cb:b=76
  ·rw [ld cb,cond_true,if_pos cb,me,aA,u7 h,aA,aA]
   rw [show (aB.mk (qV s.g.l s.spot.y s.aI n,(dnS W s s.spot.y s.aI n).g).snd s.spot s.saved s.waiting s.top s.aI s.aY s.title)=dnS W s s.spot.y s.aI n from rfl,jZ (yp h _ _ _),aA]
  ·rw [dO cb,cond_false,if_neg cb,me,aA,Hi h,aA,aA]
   rw [show (aB.mk (upO s.g.l s.spot.y s.aI n,(upT W s s.spot.y s.aI n).g).snd s.spot s.saved s.waiting s.top s.aI s.aY s.title)=upT W s s.spot.y s.aI n from rfl,jZ (zy h _ _ _),aA]
theorem Ig (h:SI W s) (b n:Int):SI W (shS W s b n):=by
 unfold shS
 split
 ·exact h
 ·split
  ·exact m6 (yp h.toSJ _ _ _) _ _
  ·exact m6 (zy h.toSJ _ _ _) _ _
def rgT (s:aB) (l:List Int):Int:=max 1 (min (atS l 0 1) (s.g.l.length:Int)) - 1
def rgU (s:aB) (l:List Int):Int:=max 1 (min (atS l 1 (s.g.l.length:Int)) (s.g.l.length:Int)) - 1
def rnS (s:aB) (t b:Int):aB:=⟨s.g,s.spot,s.saved,s.waiting,t,b,s.aY,s.title⟩
def reS (s:aB) (l:List Int):aB:=if rgT s l < rgU s l then mvS (rnS s (rgT s l) (rgU s l)) 0 0 else s
theorem Ih (h:SJ W s) (l:List Int):0≤rgT s l∧rgT s l < s.g.l.length∧0≤rgU s l∧rgU s l < s.g.l.length:=by
 have h1:=h.gi.l1
 unfold rgT rgU
 omega
theorem DM (h:SJ W s) (l:List Int) (c:rgT s l < rgU s l):SJ W (rnS s (rgT s l) (rgU s l)):=by
 have hr:=Ih h l
 exact ⟨h.gw,h.gi,h.x0,h.x1,h.y0,h.y1,hr.1,by simp only [rnS]; omega,by simp only [rnS]; omega⟩
theorem zC (h:SJ W s) (a:bB):fX s a=some (reS s a.bA):=by
 have hl:=h.gi.l2
 have hl1:=h.gi.l1
 unfold fX reS
 rw [po,aA,show dX a 0 1=_ from wv a 0 1,aA,m5,aA]
 dsimp only
 rw [show dX a 1 (s.g.l.length:Int)=_ from wv a 1 _,aA,m5,aA,w64 (by omega) (by omega),w64 (by omega) (by omega)]
 rw [← rgT,← rgU]
 by_cases c:rgT s a.bA < rgU s a.bA
 ·rw [decide_eq_true c,cond_true,if_pos c,← rnS,jZ (DM h _ c),aA]
 ·rw [decide_eq_false c,cond_false,if_neg c]
theorem Ii (h:SI W s) (l:List Int):SI W (reS s l):=by
 unfold reS
 split
 ·exact m6 (DM h.toSJ l (by assumption)) _ _
 ·exact h
def ceR (s:aB) (b n:Int):aE:=⟨ij 0 (if b=64 then ins (jE s.g.l s.spot.y).cells s.spot.x n (kM s.spot.aM) else if b=80 then del (jE s.g.l s.spot.y).cells s.spot.x n (kM s.spot.aM) else jY s.spot.x (s.spot.x+n) (kM s.spot.aM) 0 (jE s.g.l s.spot.y).cells),false⟩
def ceS (W:Nat) (s:aB) (b n:Int):aB:=nwS (seS W s s.spot.y (ceR s b n))
end
end Go.Tw.X
set_option linter.unusedVariables false
set_option linter.unusedSimpArgs false
namespace Go.Tw.X
open Go Go.Tw
theorem FP (l:List aJ) (a n q:Int):(ins l a n q).length=l.length:=by
 unfold ins
 split
 ·rfl
 ·rcases uV l a n with h | ⟨h1,h2,h3⟩
  ·contradiction
  ·unfold mM
   simp only [List.length_take,List.length_append,List.length_replicate,List.length_drop]
   omega
theorem FQ (l:List aJ) (a n q:Int):(del l a n q).length=l.length:=by
 unfold del
 split
 ·rfl
 ·rcases uV l a n with h | ⟨h1,h2,h3⟩
  ·contradiction
  ·unfold nz
   simp only [List.length_take,List.length_append,List.length_replicate,List.length_drop]
   omega
theorem Hj {l:List aJ} (h:okR l) (a n q:Int):okR (ins l a n q):=by
 unfold ins
 split
 ·exact h
 ·exact rY (rX (rX (rY h _) (uj _ _)) (xY h _)) _
theorem Hk {l:List aJ} (h:okR l) (a n q:Int):okR (del l a n q):=by
 unfold del
 split
 ·exact h
 ·exact rX (rX (rY h _) (xY h _)) (uj _ _)
section
variable {W : Nat} {s : aB}
theorem DN (h:SJ W s) (b n:Int):gok W (ceR s b n):=by
 have hg:=h.row
 refine ⟨?_,oC _ _ ?_⟩
 ·simp only [ceR,jX]
  split
  ·rw [FP]; exact hg.1
  ·split
   ·rw [FQ]; exact hg.1
   ·rw [lq]; exact hg.1
 ·split
  ·exact Hj hg.2 _ _ _
  ·split
   ·exact Hk hg.2 _ _ _
   ·exact s8 _ _ _ _ hg.2
theorem xk (h:SJ W s) (b n:Int):(ceR s b n).cells.length≤1000000:=by have:=(DN h b n).le h.gi.w2; omega
theorem BJ (h:SJ W s) (b:Int) {n:Int} (h0:0≤n) (h1:n≤9999):fK (jE s.g.l s.spot.y) b s n=some (ceR s b n):=by
 have hl:=n9 h
 have hy:=yr h
 unfold fK ceR
 by_cases c:b=64
 ·rw [ld c,cond_true,me,aA,insert_eq _ _ _ _ hl h.xr.1 h.xr.2,aA,if_pos c]; rfl
 ·rw [dO c,cond_false,if_neg c]
  by_cases c2:b=80
  ·rw [ld c2,cond_true,me,aA,Br _ _ _ _ hl h.xr.1 h.xr.2,aA,if_pos c2]; rfl
  ·rw [dO c2,cond_false,me,aA,w64 (by omega) (by omega),erase_eq _ _ _ _ (by omega),aA,if_neg c2]
theorem BK (h:SJ W s) (b:Int) {n:Int} (h0:0≤n) (h1:n≤9999):gD s b n=some (ceS W s b n):=by
 unfold gD dV
 rw [h.Dr,aA,BJ h b h0 h1,aA,h.Du _ (xk h b n),aA,aA]
 rfl
theorem Ij (h:SJ W s) (b n:Int):SI W (ceS W s b n):=⟨k9 (Aw h _ (DN h b n).2),fun e=>by cases e⟩
theorem FR (h:SJ W s) (n:Int):jN (told (jE s.g.l s.spot.y)) s.spot.x n (kM s.spot.aM)=some (told (ceR s 64 n)):=by
 have hl:=n9 h
 rw [told,zk (jE s.g.l s.spot.y).cells (jE s.g.l s.spot.y).wrapped s.spot.x n _ hl h.xr.1 h.xr.2]
 rfl
theorem FT (h:SJ W s) (n:Int):jO (told (jE s.g.l s.spot.y)) s.spot.x n (kM s.spot.aM)=some (told (ceR s 80 n)):=by
 have hl:=n9 h
 rw [told,zl (jE s.g.l s.spot.y).cells (jE s.g.l s.spot.y).wrapped s.spot.x n _ hl h.xr.1 h.xr.2]
 rfl
def orS (W:Nat) (s:aB) (b:Int) (l:List Int):aB :=
 if b=65 then clS s (0 - atS l 0 1) else if b=70 then xS (clS s (0 - atS l 0 1)) 0 else
 if b=66 then clS s (atS l 0 1) else if b=69 then xS (clS s (atS l 0 1)) 0 else
 if b=67 then mvS s (s.spot.x+atS l 0 1) s.spot.y else if b=68 then mvS s (s.spot.x - atS l 0 1) s.spot.y else
 if b=71 then mvS s (atS l 0 1 - 1) s.spot.y else if b=100 then mvS s s.spot.x (atS l 0 1 - 1) else
 if b=72∨b=102 then mvS s (atS l 1 1 - 1) (atS l 0 1 - 1) else
 if b=74 then zB W s (atS l 0 0) true else if b=75 then zB W s (atS l 0 0) false else
 if b=64∨b=80∨b=88 then ceS W s b (atS l 0 1) else
 if b=76∨b=77 then shS W s b (atS l 0 1) else
 if b=83 then upS W (nwS s) (atS l 0 1) else
 if b=84 then dnS W (nwS s) s.top s.aI (atS l 0 1) else
 if b=109 then ⟨s.g,⟨s.spot.x,s.spot.y,BH s.spot.aM l⟩,s.saved,s.waiting,s.top,s.aI,s.aY,s.title⟩ else
 if b=114 then reS s l else s
def orF (s:aB) (b:Int) (l:List Int):List aE:=if b=83 then upF (nwS s) (atS l 0 1) else []
theorem k8 {p:Prop} [Decidable p] {a b:aB} (ha:SI W a) (hb:SI W b):SI W (if p then a else b):=by split <;> assumption
theorem Ik (h:SI W s) (b:Int) (l:List Int):SI W (orS W s b l):=by
 have h0:=w0 h.toSJ
 have hx: ∀ n,SI W (xS (clS s n) 0):=fun n=>⟨ym (m6 h.toSJ _ _).toSJ (Int.le_refl 0) h0,fun e=>by cases e⟩
 unfold orS
 have e4: ∀ q,SI W ⟨s.g,⟨s.spot.x,s.spot.y,q⟩,s.saved,s.waiting,s.top,s.aI,s.aY,s.title⟩:=fun q=>⟨⟨h.gw,h.gi,h.x0,h.x1,h.y0,h.y1,h.t0,h.tb,h.b1⟩,h.wt⟩
 have e5: ∀ n,SI W (upS W (nwS s) n):=fun n=>⟨Gm (k9 h.toSJ) _,fun e=>by cases e⟩
 have e6: ∀ t b n,SI W (dnS W (nwS s) t b n):=fun t b n=>⟨yp (k9 h.toSJ) _ _ _,fun e=>by cases e⟩
 refine k8 (m6 h.toSJ _ _) (k8 (hx _) (k8 (m6 h.toSJ _ _) (k8 (hx _) (k8 (m6 h.toSJ _ _) (k8 (m6 h.toSJ _ _) (k8 (m6 h.toSJ _ _) (k8 (m6 h.toSJ _ _) (k8 (m6 h.toSJ _ _) (k8 (DK h _ _) (k8 (DK h _ _) (k8 (Ij h.toSJ _ _) (k8 (Ig h _ _) (k8 (e5 _) (k8 (e6 _ _ _) (k8 (e4 _) (k8 (Ii h _) h))))))))))))))))
theorem xl (n a b c:Int):((bif (n == a) then some (n == a) else (bif (n == b) then some (n == b) else some (n == c))):Option Bool)=some (decide (n=a∨n=b∨n=c)):=by
 by_cases h:n=a
 ·simp [h]
 ·rw [dO h,cond_false]
  by_cases h2:n=b
  ·simp [h2]
  ·rw [dO h2,cond_false]
   by_cases h3:n=c
   ·simp [h3]
   ·rw [dO h3,decide_eq_false (by omega)]
theorem AA (n a b:Int):((bif (n == a) then some (n == a) else some (n == b)):Option Bool)=some (decide (n=a∨n=b)):=by
 by_cases h:n=a
 ·simp [h]
 ·rw [dO h,cond_false]
  by_cases h2:n=b
  ·simp [h2]
  ·rw [dO h2,decide_eq_false (by omega)]
end
end Go.Tw.X
set_option linter.unusedVariables false
set_option linter.unusedSimpArgs false
namespace Go.Tw.X
open Go Go.Tw
section
variable {W : Nat} {s : aB}
theorem Hl (s:aB):aB.mk s.g s.spot s.saved false s.top s.aI s.aY s.title=nwS s:=rfl
theorem ka (t:aB) (b:Int):(Option.bind ((bif (b == 69) then some true else some (b == 70)):Option Bool) fun c=>(Option.bind ((bif c then some (aB.mk t.g (dL.mk 0 t.spot.y t.spot.aM) t.saved t.waiting t.top t.aI t.aY t.title) else some (aB.mk t.g t.spot t.saved t.waiting t.top t.aI t.aY t.title)):Option aB) fun a=>some (([]:List aE),(aB.mk t.g a.spot a.saved a.waiting a.top a.aI a.aY a.title))))=some ([],if b=69∨b=70 then xS t 0 else t):=by
 rw [rD,aA]
 by_cases h:b=69∨b=70
 ·rw [decide_eq_true h,if_pos h]; rfl
 ·rw [decide_eq_false h,if_neg h]; rfl
theorem FU (h:SJ W s) (a:bB) (hl:a.bA.length≤1000000):gF s a=some (orF s a.byte a.bA,orS W s a.byte a.bA):=by
 have hy:=yr h
 have hN:=tj a.bA 0 (d:=1) (by omega) (by omega)
 have hM:=tj a.bA 1 (d:=1) (by omega) (by omega)
 have hZ:=tj a.bA 0 (d:=0) (by omega) (by omega)
 unfold gF
 rw [show dX a 0 1=_ from wv a 0 1,aA]
 simp only [show dX a 1 1=_ from wv a 1 1,show dX a 0 0=_ from wv a 0 0,xl,zC h,Hl,FH _ _ hl]
 simp only [AA,aA]
 have hcl:=fun n h0 h1=>DJ (n:=n) h h0 h1
 have w1:IntKind.i64.wrap (0 - atS a.bA 0 1)=0 - atS a.bA 0 1:=w64 (by omega) (by omega)
 have w2:IntKind.i64.wrap (s.spot.x+atS a.bA 0 1)=s.spot.x+atS a.bA 0 1:=w64 (by omega) (by omega)
 have w3:IntKind.i64.wrap (s.spot.x - atS a.bA 0 1)=s.spot.x - atS a.bA 0 1:=w64 (by omega) (by omega)
 have w4:IntKind.i64.wrap (atS a.bA 0 1 - 1)=atS a.bA 0 1 - 1:=w64 (by omega) (by omega)
 have w5:IntKind.i64.wrap (atS a.bA 1 1 - 1)=atS a.bA 1 1 - 1:=w64 (by omega) (by omega)
 have c1:=hcl (0 - atS a.bA 0 1) (by omega) (by omega)
 have c2:=hcl (atS a.bA 0 1) (by omega) (by omega)
 have dn:dT s.g s.top s.aI (atS a.bA 0 1) (kM s.spot.aM)=some (qV s.g.l s.top s.aI (atS a.bA 0 1),(dnS W (nwS s) s.top s.aI (atS a.bA 0 1)).g):=u7 (k9 h) _ _ _
 have nn:bY (nwS s)=some (kM s.spot.aM):=me _
 generalize hb:a.byte=b
 have key: ∀ (t:aB),(if b=69∨b=70 then xS t 0 else t)=orS W s b a.bA→orF s b a.bA=[]→(some ([],if b=69∨b=70 then xS t 0 else t):Option (List aE×aB))=some (orF s b a.bA,orS W s b a.bA):=fun t e1 e2=>by rw [e1,e2]
 by_cases h1:b=65∨b=70
 ·rw [decide_eq_true h1]
  simp only [cond_true,w1,c1,aA]
  rw [ka]
  refine key _ ?_ ?_
  ·rcases h1 with rfl | rfl <;> rfl
  ·rcases h1 with rfl | rfl <;> rfl
 ·rw [decide_eq_false h1,cond_false]
  by_cases h2:b=66∨b=69
  ·rw [decide_eq_true h2]
   simp only [cond_true,c2,aA]
   rw [ka]
   refine key _ ?_ ?_
   ·rcases h2 with rfl | rfl <;> rfl
   ·rcases h2 with rfl | rfl <;> rfl
  ·rw [decide_eq_false h2,cond_false]
   have hne: ¬ (b=69∨b=70):=by omega
   have key2: ∀ (t:aB),t=orS W s b a.bA→orF s b a.bA=[]→(some ([],if b=69∨b=70 then xS t 0 else t):Option (List aE×aB))=some (orF s b a.bA,orS W s b a.bA):=fun t e1 e2=>by rw [if_neg hne,e1,e2]
   by_cases h3:b=67
   ·subst h3; simp only [beq_self_eq_true,cond_true,w2,jZ h,aA]; rw [ka]; exact key2 _ rfl rfl
   rw [dO h3,cond_false]
   by_cases h4:b=68
   ·subst h4; simp only [beq_self_eq_true,cond_true,w3,jZ h,aA]; rw [ka]; exact key2 _ rfl rfl
   rw [dO h4,cond_false]
   by_cases h5:b=71
   ·subst h5; simp only [beq_self_eq_true,cond_true,w4,jZ h,aA]; rw [ka]; exact key2 _ rfl rfl
   rw [dO h5,cond_false]
   by_cases h6:b=100
   ·subst h6; simp only [beq_self_eq_true,cond_true,w4,jZ h,aA]; rw [ka]; exact key2 _ rfl rfl
   rw [dO h6,cond_false]
   by_cases h7:b=72∨b=102
   ·rw [decide_eq_true h7]; simp only [cond_true,w4,w5,jZ h,aA]; rw [ka]
    refine key2 _ ?_ ?_
    ·rcases h7 with rfl | rfl <;> rfl
    ·rcases h7 with rfl | rfl <;> rfl
   rw [decide_eq_false h7,cond_false]
   by_cases h8:b=74
   ·subst h8; simp only [beq_self_eq_true,cond_true,FN h hZ.1,aA]; rw [ka]; exact key2 _ rfl rfl
   rw [dO h8,cond_false]
   by_cases h9:b=75
   ·subst h9; simp only [beq_self_eq_true,cond_true,Ay h hZ.1,aA]; rw [ka]; exact key2 _ rfl rfl
   rw [dO h9,cond_false]
   by_cases h10:b=64∨b=80∨b=88
   ·rw [decide_eq_true h10]; simp only [cond_true,BK h _ hN.1 hN.2.1,aA]; rw [ka]
    refine key2 _ ?_ ?_
    ·rcases h10 with rfl | rfl | rfl <;> rfl
    ·rcases h10 with rfl | rfl | rfl <;> rfl
   rw [decide_eq_false h10,cond_false]
   by_cases h11:b=76∨b=77
   ·rw [decide_eq_true h11]; simp only [cond_true,DL h,aA]; rw [ka]
    refine key2 _ ?_ ?_
    ·rcases h11 with rfl | rfl <;> rfl
    ·rcases h11 with rfl | rfl <;> rfl
   rw [decide_eq_false h11,cond_false]
   by_cases h12:b=83
   ·subst h12; simp only [beq_self_eq_true,cond_true,Dw (k9 h),aA]; rfl
   rw [dO h12,cond_false]
   by_cases h13:b=84
   ·subst h13; simp only [beq_self_eq_true,cond_true,nn,dn,aA]
    have e:=ka (dnS W (nwS s) s.top s.aI (atS a.bA 0 1)) 84
    exact e.trans (key2 _ rfl rfl)
   rw [dO h13,cond_false]
   by_cases h14:b=109
   ·subst h14; simp only [beq_self_eq_true,cond_true]
    have e:=ka ⟨s.g,⟨s.spot.x,s.spot.y,BH s.spot.aM a.bA⟩,s.saved,s.waiting,s.top,s.aI,s.aY,s.title⟩ 109
    exact e.trans (key2 _ rfl rfl)
   rw [dO h14,cond_false]
   by_cases h15:b=114
   ·subst h15; simp only [beq_self_eq_true,cond_true,aA]; rw [ka]; exact key2 _ rfl rfl
   rw [dO h15,cond_false,aA]
   dsimp only
   rw [ka]
   refine key2 _ ?_ ?_
   ·unfold orS
    rw [if_neg (by omega),if_neg (by omega),if_neg (by omega),if_neg (by omega),if_neg h3,if_neg h4,if_neg h5,if_neg h6,if_neg h7,if_neg h8,if_neg h9,if_neg h10,if_neg h11,if_neg h12,if_neg h13,if_neg h14,if_neg h15]
   ·unfold orF
    rw [if_neg h12]
end
end Go.Tw.X
set_option linter.unusedVariables false
set_option linter.unusedSimpArgs false
namespace Go.Tw.X
open Go Go.Tw
section
variable {W : Nat} {s : aB}
theorem FV (s:aB):aK.mk (aQ s).g (aQ s).x (aQ s).y (aQ s).s (aQ s).sX (aQ s).sY (aQ s).sS false (aQ s).top (aQ s).aI (aQ s).aY (aQ s).title=aQ (nwS s):=rfl
theorem AB {s:aB} {x y x' y':Int} (hx:max 0 (min x (s.g.w - 1))=max 0 (min x' (s.g.w - 1))) (hy:max 0 (min y ((s.g.l.length:Int) - 1))=max 0 (min y' ((s.g.l.length:Int) - 1))):mvS s x y=mvS s x' y':=by
 unfold mvS
 rw [hx,hy]
theorem BL (h:SJ W s) (b:Int) (l:List Int) (hl:l.length≤1000000):kg (aQ s) b l=some (aQ (orS W s b l),(orF s b l).map told):=by
 have hy:=yr h
 have hlen:=h.gi.l2
 have hlen1:=h.gi.l1
 have hN:=tj l 0 (d:=1) (by omega) (by omega)
 have hM:=tj l 1 (d:=1) (by omega) (by omega)
 have hZ:=tj l 0 (d:=0) (by omega) (by omega)
 unfold kg
 rw [show dY l 0 1=_ from oL l 0 1,aA,sq,aA]
 simp only [show dY l 0 1=_ from oL l 0 1,show dY l 1 1=_ from oL l 1 1,show dY l 0 0=_ from oL l 0 0,AA,FV,zz h]
 simp only [show dY l 1 (s.g.l.length:Int)=_ from oL l 1 _,show (aQ s).x=s.spot.x from rfl,show (aQ s).y=s.spot.y from rfl,show (aQ s).top=s.top from rfl,show (aQ s).aI=s.aI from rfl,show (aQ s).s=tst s.spot.aM from rfl,Dm _ _ hl,aA]
 have w1:IntKind.i64.wrap (s.spot.y - atS l 0 1)=s.spot.y - atS l 0 1:=w64 (by omega) (by omega)
 have w1':IntKind.i64.wrap (s.spot.y+atS l 0 1)=s.spot.y+atS l 0 1:=w64 (by omega) (by omega)
 have w2:IntKind.i64.wrap (s.spot.x+atS l 0 1)=s.spot.x+atS l 0 1:=w64 (by omega) (by omega)
 have w3:IntKind.i64.wrap (s.spot.x - atS l 0 1)=s.spot.x - atS l 0 1:=w64 (by omega) (by omega)
 have w4:IntKind.i64.wrap (atS l 0 1 - 1)=atS l 0 1 - 1:=w64 (by omega) (by omega)
 have w5:IntKind.i64.wrap (atS l 1 1 - 1)=atS l 1 1 - 1:=w64 (by omega) (by omega)
 have w6:IntKind.i64.wrap ((s.g.l.length:Int) - 1)=(s.g.l.length:Int) - 1:=w64 (by omega) (by omega)
 have dn:dC (aQ s).g false s.top s.aI (atS l 0 1) (kM s.spot.aM)=some ((aQ (dnS W (nwS s) s.top s.aI (atS l 0 1))).g,(qV s.g.l s.top s.aI (atS l 0 1)).map told):=u9 (k9 h) _ _ _
 by_cases h1:b=65∨b=70
 ·rw [decide_eq_true h1]
  simp only [cond_true,uq,w1,aA,fM,iB h]
  have e:mvS s s.spot.x (max (if s.spot.y≥s.top then s.top else 0) (s.spot.y - atS l 0 1))=clS s (0 - atS l 0 1):=by
   unfold clS
   apply AB rfl
   split <;> split <;> split <;> omega
  rw [e]
  rcases h1 with rfl | rfl <;> rfl
 rw [decide_eq_false h1,cond_false]
 by_cases h2:b=66∨b=69
 ·rw [decide_eq_true h2]
  simp only [cond_true,uq,w1',w6,aA,dZ,iB h]
  have e:mvS s s.spot.x (min (if s.spot.y≤s.aI then s.aI else (s.g.l.length:Int) - 1) (s.spot.y+atS l 0 1))=clS s (atS l 0 1):=by
   unfold clS
   have hb:=h.b1
   have ht:=h.t0
   have htb:=h.tb
   apply AB rfl
   split <;> split <;> split <;> omega
  rw [e]
  rcases h2 with rfl | rfl <;> rfl
 rw [decide_eq_false h2,cond_false]
 by_cases h3:b=67
 ·subst h3; simp only [beq_self_eq_true,cond_true,w2,iB h,aA]; rfl
 rw [dO h3,cond_false]
 by_cases h4:b=68
 ·subst h4; simp only [beq_self_eq_true,cond_true,w3,iB h,aA]; rfl
 rw [dO h4,cond_false]
 by_cases h5:b=71
 ·subst h5; simp only [beq_self_eq_true,cond_true,w4,iB h,aA]; rfl
 rw [dO h5,cond_false]
 by_cases h6:b=100
 ·subst h6; simp only [beq_self_eq_true,cond_true,w4,iB h,aA]; rfl
 rw [dO h6,cond_false]
 by_cases h7:b=72∨b=102
 ·rw [decide_eq_true h7]; simp only [cond_true,w4,w5,iB h,aA]
  rcases h7 with rfl | rfl <;> rfl
 rw [decide_eq_false h7,cond_false]
 by_cases h8:b=74
 ·subst h8; simp only [beq_self_eq_true,cond_true,yq h hZ.1,aA]; rfl
 rw [dO h8,cond_false]
 by_cases h9:b=75
 ·subst h9; simp only [beq_self_eq_true,cond_true,yq h hZ.1,aA]; rfl
 rw [dO h9,cond_false]
 by_cases h10:b=88
 ·subst h10; simp only [beq_self_eq_true,cond_true,w2,rF h h.y0 h.y1,aA]; rfl
 rw [dO h10,cond_false]
 have gr:idx (aQ s).g.l s.spot.y=some (told (jE s.g.l s.spot.y)):=h.FL
 by_cases h11:b=64
 ·subst h11; simp only [beq_self_eq_true,cond_true,gr,aA,FR h,p6 h (xk h 64 _)]; rfl
 rw [dO h11,cond_false]
 by_cases h12:b=80
 ·subst h12; simp only [beq_self_eq_true,cond_true,gr,aA,FT h,p6 h (xk h 80 _)]; rfl
 rw [dO h12,cond_false]
 have e12: ¬ (b=64∨b=80∨b=88):=by omega
 by_cases h13:b=76∨b=77
 ·rw [decide_eq_true h13]
  simp only [cond_true]
  rw [show ((bif (decide (s.spot.y≥s.top)) then some (decide (s.spot.y≤s.aI)) else some false):Option Bool)=_ from vK _ _,aA]
  by_cases c:s.spot.y≥s.top∧s.spot.y≤s.aI
  ·have c': ¬ (s.spot.y < s.top∨s.spot.y > s.aI):=by omega
   rw [decide_eq_true c,cond_true]
   rcases h13 with rfl | rfl
   ·rw [show ((76:Int) == 77)=false from rfl,u9 h,aA]
    have e:=iB (yp h s.spot.y s.aI (atS l 0 1)) 0 s.spot.y
    rw [show aQ (dnS W s s.spot.y s.aI (atS l 0 1))=aK.mk (aQ (dnS W s s.spot.y s.aI (atS l 0 1))).g s.spot.x s.spot.y (tst s.spot.aM) (aQ s).sX (aQ s).sY (aQ s).sS (aQ s).waiting s.top s.aI (aQ s).aY (aQ s).title from rfl] at e
    dsimp only
    rw [e,aA]
    unfold orS orF shS
    rw [if_neg c']
    rfl
   ·rw [show ((77:Int) == 77)=true from rfl,FM h,aA]
    have e:=iB (zy h s.spot.y s.aI (atS l 0 1)) 0 s.spot.y
    rw [show aQ (upT W s s.spot.y s.aI (atS l 0 1))=aK.mk (aQ (upT W s s.spot.y s.aI (atS l 0 1))).g s.spot.x s.spot.y (tst s.spot.aM) (aQ s).sX (aQ s).sY (aQ s).sS (aQ s).waiting s.top s.aI (aQ s).aY (aQ s).title from rfl] at e
    dsimp only
    rw [e,aA]
    unfold orS orF shS
    rw [if_neg c']
    rfl
  ·have c':s.spot.y < s.top∨s.spot.y > s.aI:=by omega
   rw [decide_eq_false c,cond_false,aA]
   unfold orS orF shS
   rw [if_pos c']
   rcases h13 with rfl | rfl <;> rfl
 rw [decide_eq_false h13,cond_false]
 by_cases h14:b=83
 ·subst h14
  have e:=wq (k9 h) (atS l 0 1)
  have e2:aK.mk (aQ s).g s.spot.x s.spot.y (tst s.spot.aM) (aQ s).sX (aQ s).sY (aQ s).sS false s.top s.aI (aQ s).aY (aQ s).title=aQ (nwS s):=rfl
  simp only [beq_self_eq_true,cond_true,e2,e,aA]
  rfl
 rw [dO h14,cond_false]
 by_cases h15:b=84
 ·subst h15; simp only [beq_self_eq_true,cond_true,dn,aA]; rfl
 rw [dO h15,cond_false]
 by_cases h16:b=109
 ·subst h16; simp only [beq_self_eq_true,cond_true,aA]; rfl
 rw [dO h16,cond_false]
 by_cases h17:b=114
 ·subst h17
  simp only [beq_self_eq_true,cond_true]
  rw [dZ,fM,dZ,fM,w64 (by omega) (by omega),w64 (by omega) (by omega),← rgT,← rgU]
  unfold orS orF
  simp only [Int.reduceEq,if_false,if_true,or_self,Bool.false_eq_true]
  unfold reS
  by_cases c:rgT s l < rgU s l
  ·rw [decide_eq_true c,cond_true,if_pos c]
   have e:=iB (DM h l c) 0 0
   rw [show aQ (rnS s (rgT s l) (rgU s l))=aK.mk (aQ s).g s.spot.x s.spot.y (tst s.spot.aM) (aQ s).sX (aQ s).sY (aQ s).sS (aQ s).waiting (rgT s l) (rgU s l) (aQ s).aY (aQ s).title from rfl] at e
   rw [e,aA,aA]
   rfl
  ·rw [decide_eq_false c,cond_false,if_neg c,aA]
   rfl
 rw [dO h17,cond_false,aA]
 unfold orS orF
 rw [if_neg (by omega),if_neg (by omega),if_neg (by omega),if_neg (by omega),if_neg h3,if_neg h4,if_neg h5,if_neg h6,if_neg h7,if_neg h8,if_neg h9,if_neg e12,if_neg h13,if_neg h14,if_neg h15,if_neg h16,if_neg h17,if_neg h14]
 rfl
end
end Go.Tw.X
set_option linter.unusedVariables false
set_option linter.unusedSimpArgs false
namespace Go.Tw.X
open Go Go.Tw
def nlS:bG:=⟨0,0,false,false,false⟩
def tk (w h:Int):aB:=⟨uc w h,⟨0,0,nlS⟩,⟨0,0,nlS⟩,false,0,(szN h:Int) - 1,true,ByteArray.mk #[]⟩
theorem yu (w h:Int):(tk w h).g.l.length=szN h:=by simp [tk,uc]
theorem AD (w h:Int):kZ w h=some (tk w h):=by
 unfold kZ
 have h1:=kt h
 rw [GZ,aA,po,aA]
 dsimp only
 rw [show ((uc w h).l.length:Int)=(szN h:Int) by simp [uc],w64 (by omega) (by omega)]
 rfl
theorem yv (w h:Int):lO w h=some (aQ (tk w h)):=by
 unfold lO
 have h1:=kt h
 rw [Fc,aA]
 rw [show ((oE (uc w h)).l.length:Int)=(szN h:Int) by simp [uc,oE],w64 (by omega) (by omega)]
 rfl
theorem AE (w h:Int):SI (szN w) (tk w h):=by
 have h1:=mO h
 have h2:=mO w
 refine ⟨⟨rfl,GY w h,Int.le_refl 0,?_,Int.le_refl 0,?_,Int.le_refl 0,?_,?_⟩,fun e=>by cases e⟩
 ·show (0:Int) < _; omega
 ·rw [yu]; show (0:Int) < _; omega
 ·show (0:Int)≤(szN h:Int) - 1; omega
 ·rw [yu]; show (szN h:Int) - 1 < _; omega
section
variable {W : Nat} {s : aB}
def ctS (W:Nat) (s:aB) (b:Int):aB:=if b=8 then mvS s (s.spot.x - 1) s.spot.y else if b=9 then mvS s (s.spot.x.tdiv 8*8+8) s.spot.y else if b=10∨b=11∨b=12 then liS W s else if b=13 then mvS s 0 s.spot.y else s
def ctF (s:aB) (b:Int):List aE:=if b=10∨b=11∨b=12 then liF s else []
theorem DO {x:Int} (h0:0≤x) (h1:x < 1000):0≤x.tdiv 8∧x.tdiv 8≤1000:=by
 rw [Int.tdiv_eq_ediv_of_nonneg h0]
 omega
theorem BM (h:SJ W s) (b:Int):fI s b=some (ctF s b,ctS W s b):=by
 have hy:=yr h
 have ht:=DO hy.2.2.1 hy.2.2.2
 unfold fI ctF ctS
 simp only [xl]
 rw [w64 (x:=s.spot.x - 1) (by omega) (by omega),w64 (x:=s.spot.x.tdiv 8) (by omega) (by omega),w64 (x:=s.spot.x.tdiv 8+1) (by omega) (by omega),w64 (x:=(s.spot.x.tdiv 8+1)*8) (by omega) (by omega),show (s.spot.x.tdiv 8+1)*8=s.spot.x.tdiv 8*8+8 by omega]
 by_cases h1:b=8
 ·subst h1; simp only [beq_self_eq_true,cond_true,jZ h,aA]; rfl
 rw [dO h1,cond_false,if_neg h1]
 by_cases h2:b=9
 ·subst h2; simp only [beq_self_eq_true,cond_true,jZ h,aA]; rfl
 rw [dO h2,cond_false,if_neg h2,aA]
 by_cases h3:b=10∨b=11∨b=12
 ·rw [decide_eq_true h3,cond_true,(gG h).p,if_pos h3,if_pos h3]; rfl
 rw [decide_eq_false h3,cond_false,if_neg h3,if_neg h3]
 by_cases h4:b=13
 ·subst h4; simp only [beq_self_eq_true,cond_true,jZ h,aA]; rfl
 rw [dO h4,cond_false,if_neg h4]
 rfl
theorem Il (h:SI W s) (b:Int):SI W (ctS W s b):=k8 (m6 h.toSJ _ _) (k8 (m6 h.toSJ _ _) (k8 (gG h.toSJ).i (k8 (m6 h.toSJ _ _) h)))
def e8S (s:aB):aB:=⟨s.g,⟨s.spot.x,s.spot.y,s.saved.aM⟩,s.saved,s.waiting,s.top,s.aI,s.aY,s.title⟩
theorem DP (h:SJ W s):SJ W (e8S s):=⟨h.gw,h.gi,h.x0,h.x1,h.y0,h.y1,h.t0,h.tb,h.b1⟩
def e7S (s:aB):aB:=⟨s.g,s.spot,s.spot,s.waiting,s.top,s.aI,s.aY,s.title⟩
def esS (W:Nat) (s:aB) (b:Int):aB:=if b=69 then liS W (xS s 0) else if b=68 then liS W s else if b=77 then baS W s else if b=55 then e7S s else if b=56 then mvS (e8S s) s.saved.x s.saved.y else if b=99 then tk W s.g.l.length else s
def esF (s:aB) (b:Int):List aE:=if b=69 then liF (xS s 0) else if b=68 then liF s else []
theorem Io (h:SI W s) (b:Int):SI W (esS W s b):=by
 have e:=AE (W:Int) (s.g.l.length:Int)
 rw [GX W h.gi.w1 h.gi.w2] at e
 exact k8 (gG (ym h.toSJ (Int.le_refl 0) (w0 h.toSJ))).i (k8 (gG h.toSJ).i (k8 (Ic h.toSJ) (k8 ⟨⟨h.gw,h.gi,h.x0,h.x1,h.y0,h.y1,h.t0,h.tb,h.b1⟩,h.wt⟩ (k8 (m6 (DP h.toSJ) _ _) (k8 e h)))))
theorem DQ (h:SJ W s) (b:Int):fW s b=some (esF s b,esS W s b):=by
 unfold fW esF esS
 by_cases h1:b=69
 ·subst h1
  have e:=(gG (ym h (Int.le_refl 0) (w0 h))).p
  rw [show xS s 0=aB.mk s.g (dL.mk 0 s.spot.y s.spot.aM) s.saved s.waiting s.top s.aI s.aY s.title from rfl] at e
  simp only [beq_self_eq_true,cond_true,aA,e,if_true]
  rfl
 rw [dO h1,cond_false,if_neg h1,if_neg h1]
 by_cases h2:b=68
 ·subst h2
  have e:=(gG h).p
  simp only [beq_self_eq_true,cond_true,aA,if_true]
  rw [show aB.mk s.g s.spot s.saved s.waiting s.top s.aI s.aY s.title=s from rfl,e]
  rfl
 rw [dO h2,cond_false,if_neg h2,if_neg h2]
 by_cases h3:b=77
 ·subst h3; simp only [beq_self_eq_true,cond_true,back_eq h,aA,if_true]; rfl
 rw [dO h3,cond_false,if_neg h3]
 by_cases h4:b=55
 ·subst h4; simp only [beq_self_eq_true,cond_true,aA,if_true]; rfl
 rw [dO h4,cond_false,if_neg h4]
 by_cases h5:b=56
 ·subst h5
  have e:=jZ (DP h) s.saved.x s.saved.y
  rw [show e8S s=aB.mk s.g (dL.mk s.spot.x s.spot.y s.saved.aM) s.saved s.waiting s.top s.aI s.aY s.title from rfl] at e
  simp only [beq_self_eq_true,cond_true,e,aA,if_true]
  rfl
 rw [dO h5,cond_false,if_neg h5]
 by_cases h6:b=99
 ·subst h6
  simp only [beq_self_eq_true,cond_true,po,aA,if_true,AD,h.gw]
  rfl
 rw [dO h6,cond_false,if_neg h6]
 rfl
def pvS (s:aB) (b:Int) (l:List Int):aB:=if atS l 0 0=7∧(b=104∨b=108) then ⟨s.g,s.spot,s.saved,s.waiting,s.top,s.aI,b == 104,s.title⟩ else s
def tiS (s:aB) (t:ByteArray):aB:=⟨s.g,s.spot,s.saved,s.waiting,s.top,s.aI,s.aY,t⟩
def acS (W:Nat) (s:aB) (a:bB):aB:=if a.kind=1 then prS W s a.rune else if a.kind=2 then ctS W s a.byte else if a.kind=3 then esS W s a.byte else if a.kind=4 then (if a.cF=true then pvS s a.byte a.bA else orS W s a.byte a.bA) else if a.kind=5 then tiS s a.text else s
def acF (W:Nat) (s:aB) (a:bB):List aE:=if a.kind=1 then prF W s a.rune else if a.kind=2 then ctF s a.byte else if a.kind=3 then esF s a.byte else if a.kind=4 then (if a.cF=true then [] else orF s a.byte a.bA) else []
theorem Jf (h:SJ W s) (a:bB) (hl:a.bA.length≤1000000):fF s a=some (acF W s a,acS W s a):=by
 unfold fF acF acS
 by_cases h1:a.kind=1
 ·rw [ld h1,cond_true,if_pos h1,if_pos h1,FK h]; rfl
 rw [dO h1,cond_false,if_neg h1,if_neg h1]
 by_cases h2:a.kind=2
 ·rw [ld h2,cond_true,if_pos h2,if_pos h2,BM h]; rfl
 rw [dO h2,cond_false,if_neg h2,if_neg h2]
 by_cases h3:a.kind=3
 ·rw [ld h3,cond_true,if_pos h3,if_pos h3,DQ h]; rfl
 rw [dO h3,cond_false,if_neg h3,if_neg h3]
 by_cases h5:a.kind=5
 ·have h4: ¬ a.kind=4:=by omega
  rw [ld h5,cond_true,if_neg h4,if_neg h4,if_pos h5]; rfl
 rw [dO h5,cond_false,if_neg h5]
 by_cases h4:a.kind=4
 ·rw [ld h4,cond_true,if_pos h4,if_pos h4]
  cases hp:a.cF with
  | false =>
   rw [Bool.not_false,cond_true,FU h a hl,if_neg (by simp),if_neg (by simp)]
   rfl
  | true =>
   rw [Bool.not_true,cond_false,if_pos rfl,if_pos rfl,show dX a 0 0=_ from wv a 0 0,aA,rD]
   unfold pvS
   by_cases c:atS a.bA 0 0=7
   ·rw [ld c,cond_true,aA]
    by_cases c2:a.byte=104∨a.byte=108
    ·rw [decide_eq_true c2,cond_true,if_pos ⟨c,c2⟩]; rfl
    ·rw [decide_eq_false c2,cond_false,if_neg (fun e=>c2 e.2)]; rfl
   ·rw [dO c,cond_false,aA,cond_false,if_neg (fun e=>c e.1)]; rfl
 rw [dO h4,cond_false,if_neg h4,if_neg h4]
 rfl
theorem Gr (h:SI W s) (a:bB) (hr:rok a.rune):SI W (acS W s a):=by
 have e1:SI W (pvS s a.byte a.bA):=by
  unfold pvS
  exact k8 ⟨⟨h.gw,h.gi,h.x0,h.x1,h.y0,h.y1,h.t0,h.tb,h.b1⟩,h.wt⟩ h
 exact k8 (Ib h hr) (k8 (Il h _) (k8 (Io h _) (k8 (k8 e1 (Ik h _ _)) (k8 ⟨⟨h.gw,h.gi,h.x0,h.x1,h.y0,h.y1,h.t0,h.tb,h.b1⟩,h.wt⟩ h))))
def xm (W:Nat) (off:List aE):Prop:=off.length≤2000 ∧ ∀ r∈off,gok W r
theorem so.o2 {off:List aE} (h:so W off):xm W off:=⟨by have:=h.1; omega,h.2⟩
theorem xn {p:Prop} [Decidable p] {a b:List aE} (ha:xm W a) (hb:xm W b):xm W (if p then a else b):=by split <;> assumption
theorem xo (h:SJ W s) (a:bB):xm W (acF W s a):=by
 have n0:xm W []:=(nJ W).o2
 have l0: ∀ t,SJ W t→xm W (liF t):=fun t ht=>(gG ht).o.o2
 exact xn (Hh h) (xn (xn (l0 _ h) n0) (xn (xn (l0 _ (ym h (Int.le_refl 0) (w0 h))) (xn (l0 _ h) n0)) (xn (xn n0 (xn (Dv (k9 h) _).o2 n0)) n0)))
end
end Go.Tw.X
set_option linter.unusedVariables false
set_option linter.unusedSimpArgs false
namespace Go.Tw.X
open Go Go.Tw
def rG (a:aO):bB:=⟨a.kind,a.rune,a.byte,a.cF,a.bA,a.text⟩
section
variable {W : Nat} {s : aB}
theorem Jg (h:SJ W s) (a:aO) (hr:rok a.rune) (hl:a.bA.length≤1000000):kH (aQ s) a=some (aQ (acS W s (rG a)),(acF W s (rG a)).map told):=by
 have hy:=yr h
 have hlen:=h.gi.l2
 have ht:=DO hy.2.2.1 hy.2.2.2
 unfold kH acF acS rG
 dsimp only
 by_cases h1:a.kind=1
 ·rw [ld h1,cond_true,if_pos h1,if_pos h1,Hg h hr]; rfl
 rw [dO h1,cond_false,if_neg h1,if_neg h1]
 by_cases h2:a.kind=2
 ·rw [ld h2,cond_true,if_pos h2,if_pos h2]
  unfold ctF ctS
  simp only [xl]
  rw [show (aQ s).x=s.spot.x from rfl,show (aQ s).y=s.spot.y from rfl,w64 (x:=s.spot.x - 1) (by omega) (by omega),w64 (x:=s.spot.x.tdiv 8) (by omega) (by omega),w64 (x:=s.spot.x.tdiv 8*8) (by omega) (by omega),w64 (x:=s.spot.x.tdiv 8*8+8) (by omega) (by omega)]
  generalize a.byte=b
  by_cases c1:b=8
  ·subst c1; simp only [beq_self_eq_true,cond_true,iB h,aA]; rfl
  rw [dO c1,cond_false,if_neg c1]
  by_cases c2:b=9
  ·subst c2; simp only [beq_self_eq_true,cond_true,iB h,aA]; rfl
  rw [dO c2,cond_false,if_neg c2,aA]
  by_cases c3:b=10∨b=11∨b=12
  ·rw [decide_eq_true c3,cond_true,(gG h).q,if_pos c3,if_pos c3]; rfl
  rw [decide_eq_false c3,cond_false,if_neg c3,if_neg c3]
  by_cases c4:b=13
  ·subst c4; simp only [beq_self_eq_true,cond_true,iB h,aA]; rfl
  rw [dO c4,cond_false,if_neg c4]
  rfl
 rw [dO h2,cond_false,if_neg h2,if_neg h2]
 by_cases h3:a.kind=3
 ·rw [ld h3,cond_true,if_pos h3,if_pos h3]
  unfold esF esS
  generalize a.byte=b
  by_cases c2:b=68
  ·subst c2; simp only [beq_self_eq_true,cond_true,(gG h).q,aA,if_true]; rfl
  rw [dO c2,cond_false,if_neg c2,if_neg c2]
  by_cases c1:b=69
  ·subst c1
   have e:=(gG (ym h (Int.le_refl 0) (w0 h))).q
   rw [show aQ (xS s 0)=aK.mk (aQ s).g 0 (aQ s).y (aQ s).s (aQ s).sX (aQ s).sY (aQ s).sS (aQ s).waiting (aQ s).top (aQ s).aI (aQ s).aY (aQ s).title from rfl] at e
   simp only [beq_self_eq_true,cond_true,e,aA,if_true]
   rfl
  rw [dO c1,cond_false,if_neg c1,if_neg c1]
  by_cases c3:b=77
  ·subst c3
   simp only [beq_self_eq_true,cond_true,if_true]
   unfold baS
   rw [show (aQ s).y=s.spot.y from rfl,show (aQ s).top=s.top from rfl]
   by_cases c:s.spot.y=s.top
   ·have e:dC (aQ s).g false s.top s.aI 1 (kM s.spot.aM)=some ((aQ (dnS W (nwS s) s.top s.aI 1)).g,(qV s.g.l s.top s.aI 1).map told):=u9 (k9 h) _ _ _
    rw [ld c,cond_true,if_pos c,show (aQ s).s=tst s.spot.aM from rfl,yh,aA,show (aQ s).aI=s.aI from rfl,e,aA]
    rfl
   ·have e:=iB (k9 h) s.spot.x (s.spot.y - 1)
    rw [show aQ (nwS s)=aK.mk (aQ s).g (aQ s).x s.spot.y (aQ s).s (aQ s).sX (aQ s).sY (aQ s).sS false s.top (aQ s).aI (aQ s).aY (aQ s).title from rfl] at e
    rw [dO c,cond_false,if_neg c,w64 (by omega) (by omega),show (aQ s).x=s.spot.x from rfl]
    rw [show (aQ s).x=s.spot.x from rfl] at e
    rw [e,aA]
    rfl
  rw [dO c3,cond_false,if_neg c3]
  by_cases c4:b=55
  ·subst c4; simp only [beq_self_eq_true,cond_true,aA,if_true]; rfl
  rw [dO c4,cond_false,if_neg c4]
  by_cases c5:b=56
  ·subst c5
   have e:=iB (DP h) s.saved.x s.saved.y
   rw [show aQ (e8S s)=aK.mk (aQ s).g (aQ s).x (aQ s).y (aQ s).sS (aQ s).sX (aQ s).sY (aQ s).sS (aQ s).waiting (aQ s).top (aQ s).aI (aQ s).aY (aQ s).title from rfl] at e
   simp only [beq_self_eq_true,cond_true,if_true]
   rw [show (aQ s).sX=s.saved.x from rfl,show (aQ s).sY=s.saved.y from rfl]
   rw [show (aQ s).sX=s.saved.x from rfl,show (aQ s).sY=s.saved.y from rfl] at e
   rw [e,aA]
   rfl
  rw [dO c5,cond_false,if_neg c5]
  by_cases c6:b=99
  ·subst c6
   simp only [beq_self_eq_true,cond_true,aA,if_true]
   rw [zz h,show (aQ s).g.w=(W:Int) from h.gw,yv,aA]
   rfl
  rw [dO c6,cond_false,if_neg c6]
  rfl
 rw [dO h3,cond_false,if_neg h3,if_neg h3]
 by_cases h4:a.kind=4
 ·rw [ld h4,cond_true,if_pos h4,if_pos h4]
  cases hp:a.cF with
  | false =>
   rw [Bool.not_false,cond_true,BL h a.byte a.bA hl,if_neg (by simp),if_neg (by simp)]
   rfl
  | true =>
   rw [Bool.not_true,cond_false,if_pos rfl,if_pos rfl,show dY a.bA 0 0=_ from oL a.bA 0 0,aA,rD]
   unfold pvS
   by_cases c:atS a.bA 0 0=7
   ·rw [ld c,cond_true,aA]
    by_cases c2:a.byte=104∨a.byte=108
    ·rw [decide_eq_true c2,cond_true,if_pos ⟨c,c2⟩]; rfl
    ·rw [decide_eq_false c2,cond_false,if_neg (fun e=>c2 e.2)]; rfl
   ·rw [dO c,cond_false,aA,cond_false,if_neg (fun e=>c e.1)]; rfl
 rw [dO h4,cond_false,if_neg h4,if_neg h4]
 by_cases h5:a.kind=5
 ·rw [ld h5,cond_true,if_pos h5]; rfl
 rw [dO h5,cond_false,if_neg h5]
 rfl
def roN (s:aB) (h:Int):Int:=max 0 (s.spot.y - ((szN h:Int) - 1))
def rzS (s:aB) (w h:Int):aB:=let t:aB:=mvS ⟨⟨(szN w:Int),rzL (szN w) s.g.l (loS s.g.l (roN s h)) (szN h)⟩,s.spot,s.saved,s.waiting,s.top,s.aI,s.aY,s.title⟩ s.spot.x (s.spot.y - roN s h); ⟨t.g,t.spot,t.saved,t.waiting,0,(szN h:Int) - 1,t.aY,t.title⟩
def rzF (s:aB) (h:Int):List aE:=s.g.l.take (loS s.g.l (roN s h))
theorem BN (h:SJ W s) (w k:Int):fY s w k=some (rzF s k,rzS s w k):=by
 have hy:=yr h
 have h1:=mO k
 have h2:=kt k
 have h3:=mO w
 have h4:=kt w
 have hl:=h.gi.len
 unfold fY
 rw [m5,aA,show max 1 (min k 1000)=(szN k:Int) by rw [← wW,fM,dZ],w64 (x:=(szN k:Int) - 1) (by omega) (by omega),w64 (x:=s.spot.y - ((szN k:Int) - 1)) (by omega) (by omega),fM,← roN]
 have e:=zv s.g.w s.g.l w k (roN s k) h.gi.l1 (by have:=h.gi.l2; omega) hl
 rw [show (aX.mk s.g.w s.g.l)=s.g from rfl] at e
 rw [e,aA,w64 (x:=s.spot.y - roN s k) (by unfold roN; omega) (by unfold roN; omega)]
 dsimp only
 have hl2:=kL (szN w) s.g.l (loS s.g.l (roN s k)) (szN k)
 have em: ∀ (g:aX) (q:aB),q.g=g→g.w≤1000→1≤g.w→g.l.length≤1000 → ∀ x y,bL q x y=some (mvS q x y):=by
  intro g q e1 e2 e3 e4 x y
  unfold bL dJ
  rw [e1,po,aA,aA]
  dsimp only
  rw [w64 (by omega) (by omega),w64 (by omega) (by omega),m5,aA,m5,aA]
  unfold mvS
  rw [e1]
 rw [em _ _ rfl (by dsimp only; omega) (by dsimp only; omega) (by dsimp only; omega),aA]
 unfold dJ
 rw [po,aA,aA]
 simp only [mvS,hl2]
 rw [w64 (by omega) (by omega)]
 simp only [rzF,rzS,mvS,hl2]
theorem BO (h:SJ W s) (w k:Int):kI (aQ s) w k=some (aQ (rzS s w k),(rzF s k).map told):=by
 have hy:=yr h
 have h1:=mO k
 have h2:=kt k
 have h3:=mO w
 have h4:=kt w
 have hl:=h.gi.len
 unfold kI
 have er:imax 0 (IntKind.i64.wrap (IntKind.i64.wrap ((aQ s).y+1) - (imax 1 (dQ k 1000))))=roN s k:=by
  rw [show (aQ s).y=s.spot.y from rfl,wW,w64 (x:=s.spot.y+1) (by omega) (by omega),w64 (by omega) (by omega),fM]
  unfold roN
  omega
 rw [er]
 have e:=x4 s.g.w s.g.l w k (roN s k) h.gi.l1 (by have:=h.gi.l2; omega) hl
 rw [show (aQ s).g=⟨s.g.w,s.g.l.map told⟩ from rfl,e,aA]
 dsimp only
 have hl2:=kL (szN w) s.g.l (loS s.g.l (roN s k)) (szN k)
 rw [show (aQ s).y=s.spot.y from rfl,w64 (x:=s.spot.y - roN s k) (by unfold roN; omega) (by unfold roN; omega)]
 unfold cI
 rw [aA]
 dsimp only
 rw [List.length_map,hl2,w64 (by omega) (by omega),w64 (by omega) (by omega),fM,fM,dZ,dZ]
 simp only [rzF,rzS,mvS,hl2,aQ,oE]
theorem Hm (h:SJ W s) (w k:Int):SI (szN w) (rzS s w k):=by
 have h1:=mO k
 have h2:=kt k
 have h3:=mO w
 have h4:=kt w
 have hl2:=kL (szN w) s.g.l (loS s.g.l (roN s k)) (szN k)
 have hg:GI (szN w) (rzL (szN w) s.g.l (loS s.g.l (roN s k)) (szN k)):=HT (W:=W) (fun r hr=>(h.gi.rs r hr).2) _ _ _ h3 h4 h1 h2
 refine ⟨⟨rfl,hg,?_,?_,?_,?_,?_,?_,?_⟩,fun e=>by cases e⟩
 all_goals simp only [rzS,mvS,hl2]
 all_goals omega
theorem zD (h:SJ W s) (k:Int):xm W (rzF s k):=by
 refine ⟨?_,fun r hr=>h.gi.rs r (List.mem_of_mem_take hr)⟩
 have:=h.gi.l2
 simp only [rzF,List.length_take]
 omega
end
end Go.Tw.X
set_option linter.unusedVariables false
set_option linter.unusedSimpArgs false
namespace Go.Tw.X
open Go Go.Tw
theorem va (s:ByteArray) {lo hi:Int} (h0:0≤lo) (h1:lo≤hi) (h2:hi≤s.size):(mB s lo hi).size=(hi - lo).toNat:=by
 unfold mB
 rw [ByteArray.size_extract]
 omega
def okA (a:aO):Prop:=rok a.rune∧0≤a.byte∧a.byte < 256∧a.bA.length≤18
end Go.Tw.X
set_option linter.unusedVariables false
set_option linter.unusedSimpArgs false
set_option maxHeartbeats 1000000
namespace Go.Tw.X
open Go Go.Tw
def vb (l:List Int):Prop:= ∀ x∈l,rok x
theorem qB {l:List Int} {x:Int} (h:vb l) (hx:rok x):vb (l++[x]):=fun y hy=>by
 rcases List.mem_append.1 hy with hy | hy
 ·exact h y hy
 ·rw [List.mem_singleton.1 hy]; exact hx
theorem Jh {b:Int} (h:0≤b):0≤b.tmod 64∧b.tmod 64 < 64:=⟨Int.tmod_nonneg _ h,Int.tmod_lt_of_pos _ (by decide)⟩
end Go.Tw.X
set_option linter.unusedVariables false
set_option linter.unusedSimpArgs false
namespace Go.Tw.X
open Go Go.Tw
theorem FW (s:ByteArray) {n:Int} (h:0≤n):okO (mT s n) (fun r=>(r.size:Int)≤n):=by
 unfold mT
 refine jw (fun hc=> ?_) fun hc=>aW (by omega)
 refine bP (td (by omega) h (by omega)) fun _ _=>aW ?_
 rw [va _ (by omega) h (by omega)]
 omega
theorem Hn {W:Nat} {off:List aE} (h:xm W off) (hW:W≤1000):gN off (off.map told)=some true :=
 yb off (by have:=h.1; omega) fun r hr=>⟨by have:=(h.2 r hr).1; omega,(h.2 r hr).2⟩
theorem BP {x:Int} (h:rok x):IntKind.i32.wrap x=x:=by
 have h1:=h.1
 have h2:=h.2
 rw [IntKind.wrap_i32]
 omega
theorem DR {a:aO} (h:okA a):pR a=some (rG a):=by
 obtain ⟨h1,h2,h3,h4⟩:=h
 unfold pR
 rw [bH (by simp; omega),aA,BP h1,pX h2 h3]
 rfl
section
variable {W : Nat} {s : aB}
theorem AF (h:SI W s) {a:aO} (ha:okA a):kH (aQ s) a=some (aQ (acS W s (rG a)),(acF W s (rG a)).map told)∧pR a=some (rG a)∧fF s (rG a)=some (acF W s (rG a),acS W s (rG a))∧gN (acF W s (rG a)) ((acF W s (rG a)).map told)=some true∧SI W (acS W s (rG a)) :=
 ⟨Jg h.toSJ a ha.1 (by have:=ha.2.2.2; omega),DR ha,Jf h.toSJ _ (by have:=ha.2.2.2; show a.bA.length≤_; omega),Hn (xo h.toSJ _) h.gi.w2,Gr h _ ha.1⟩
theorem yw (h:SJ W s):fH s=some (s.g,s):=by
 unfold fH
 have e:=uY s.g.w s.g.l (by have:=h.gi.l2; omega) h.gi.len
 rw [show (aX.mk s.g.w s.g.l)=s.g from rfl] at e
 rw [e]
 rfl
theorem tQ (h:SJ W s):eW s=some (s,s):=by
 unfold eW
 have e:=uY s.g.w s.g.l (by have:=h.gi.l2; omega) h.gi.len
 rw [show (aX.mk s.g.w s.g.l)=s.g from rfl] at e
 rw [e]
 rfl
theorem DS (h:SJ W s):nO s (aQ s)=some (true,s):=by
 unfold nO
 rw [show eO s=some (s.spot.x,s.spot.y) from rfl,aA,show iC s=some (s.top,s.aI) from rfl,aA,yw h,aA]
 dsimp only
 have e:mF s.g (aQ s).g=some (true,s.g):=by
  rw [sr h]
  have:=G6 h.gi
  rw [← h.ge] at this
  exact this
 rw [e,aA]
 simp only [cond_true,aQ,beq_self_eq_true,ig,eU,iX,aA,tst,Bool.and_self]
end
end Go.Tw.X
set_option linter.unusedVariables false
set_option linter.unusedSimpArgs false
set_option maxRecDepth 20000
set_option maxHeartbeats 1000000
namespace Go.Tw.X
open Go Go.Tw
theorem DT {P:Int→Prop} (h: ∀ n:Nat,n < 256→P n) {b:Int} (h0:0≤b) (h1:b < 256):P b:=by
 have:=h b.toNat (by omega)
 rwa [Int.toNat_of_nonneg h0] at this
def dP (b:Int):Int×Int×Int:=if 194≤b∧b≤223 then (1,128,191) else if b=224 then (2,160,191) else if b=237 then (2,128,159) else if 225≤b∧b≤239 then (2,128,191) else if b=240 then (3,144,191) else if b=244 then (3,128,143) else if 241≤b∧b≤243 then (3,128,191) else (0,0,0)
theorem DU {b:Int} (h0:0≤b) (h1:b < 256):l4 b=some (dP b):=DT (P:=fun b=>l4 b=some (dP b)) (by decide) h0 h1
theorem p7 (b:Int):((dP b).1=0∨(dP b).1=1∨(dP b).1=2∨(dP b).1=3)∧((dP b).1≠0→194≤b∧b≤244):=by
 unfold dP
 repeat' split
 all_goals simp
 all_goals omega
def BQ (l:List jI) (b:Int):Option jI:=l.find? fun x=>decide (x.first≤b) && decide (b≤x.last)
def fnd (b:Int):jI×Bool:=match BQ bR b with
 | some x=>(x,true)
 | none=>(⟨0,0,0,0,0⟩,false)
theorem yx {b:Int} (h0:0≤b) (h1:b < 256):(fnd b).2=decide ((dP b).1≠0)∧(fnd b).1.hH=(dP b).1∧(fnd b).1.low=(dP b).2.1∧(fnd b).1.high=(dP b).2.2 :=
 DT (P:=fun b=>(fnd b).2=decide ((dP b).1≠0)∧(fnd b).1.hH=(dP b).1∧(fnd b).1.low=(dP b).2.1∧(fnd b).1.high=(dP b).2.2) (by decide) h0 h1
theorem yy (b:Int):kX b=some (fnd b):=by
 unfold kX
 have key: ∀ k i:Nat,i+k=8→iter (σ:=Int) (ρ:=Unit ⊕ (jI×Bool)) (fun a=>(bif (decide (a < 8)) then (Option.bind (idx bR a) fun c=>(Option.bind ((bif (decide (b≥c.first)) then some (decide (b≤c.last)) else some false):Option Bool) fun d=>(bif d then (nj (some (c,true))) else some (.inl (IntKind.i64.wrap (a+1)))))) else some (.inr (.inl ())))) (i:Int)=some (match BQ (bR.drop i) b with
   | some x=> .inr (x,true)
   | none=> .inl ()):=by
  intro k
  induction k with
  | zero =>
   intro i hi
   obtain rfl:i=8:=by omega
   rw [dS (r:= .inl ()) rfl]
   rfl
  | succ k ih =>
   intro i hi
   have hlt:i < bR.length:=by show i < 8; omega
   have hd:bR.drop i=bR[i]::bR.drop (i+1):=List.drop_eq_getElem_cons hlt
   rw [iter_eq,hd]
   simp only [cK _ i hlt,Option.bind_some,decide_eq_true (show (i:Int) < 8 by omega),cond_true]
   generalize bR[i]=x
   have hw:IntKind.i64.wrap ((i:Int)+1)=((i+1:Nat):Int):=by rw [w64 (by omega) (by omega)]; omega
   by_cases h1:x.first≤b
   ·by_cases h2:b≤x.last
    ·simp [h1,h2,BQ,nj]
    ·have:=ih (i+1) (by omega)
     simp [h1,h2,BQ,hw] at this ⊢
     exact this
   ·have:=ih (i+1) (by omega)
    simp [h1,BQ,hw] at this ⊢
    exact this
 have:=key 8 0 rfl
 simp only [Int.natCast_zero] at this
 rw [this]
 unfold fnd
 rw [List.drop_zero]
 cases BQ bR b <;> rfl
theorem Ip {b:Int} (h0:0≤b) (h1:b < 256):Go.bits .and .i32 (IntKind.i32.wrap b) 63=b % 64:=by
 rw [BP ⟨by omega,by omega⟩]
 exact m63 b h0 (by omega)
theorem Ji {b:Int} (h0:0≤b) (h1:b < 256):Go.bits .and .i32 (IntKind.i32.wrap b) ((63:Int).fdiv (2 ^ (min (1:Int).toNat 32)))=b % 32∧Go.bits .and .i32 (IntKind.i32.wrap b) ((63:Int).fdiv (2 ^ (min (2:Int).toNat 32)))=b % 16∧Go.bits .and .i32 (IntKind.i32.wrap b) ((63:Int).fdiv (2 ^ (min (3:Int).toNat 32)))=b % 8:=by
 rw [BP ⟨by omega,by omega⟩]
 have g5:=bits_mask .i32 31 (by decide) wraps_i32 5 (by decide) b h0 (by omega)
 have g4:=bits_mask .i32 31 (by decide) wraps_i32 4 (by decide) b h0 (by omega)
 have g3:=bits_mask .i32 31 (by decide) wraps_i32 3 (by decide) b h0 (by omega)
 exact ⟨g5,g4,g3⟩
theorem Jj {r b:Int} (h0:0≤r) (h1:r < 1000000) (hb0:0≤b) (hb1:b < 64):Go.bits .or .i32 (IntKind.i32.wrap (r*2 ^ (min 6 32))) b=r*64+b:=by
 have e:(r*2 ^ (min 6 32):Int)=r*64:=rfl
 rw [e,BP ⟨by omega,by omega⟩]
 exact bits_join .i32 31 (by decide) wraps_i32 6 (r*64) b (by omega) (by show r*64 % 64=0; omega) (by omega) hb0 (by omega) (by omega)
def d0:bM:=⟨0,0,0⟩
def rH (b:Int):Int:=if (dP b).1=1 then b % 32 else if (dP b).1=2 then b % 16 else b % 8
def oo (b:Int):bM×List Int:=if b < 128 then (d0,[b]) else if (dP b).1=0 then (d0,[65533]) else (⟨b,rH b,(dP b).1⟩,[])
theorem yz {b:Int} (h0:0≤b) (h1:b < 256):kl b=some (oo b):=by
 unfold kl oo
 by_cases hb:b < 128
 ·rw [decide_eq_true hb,cond_true,if_pos hb,BP ⟨by omega,by omega⟩]; rfl
 ·rw [decide_eq_false hb,cond_false,if_neg hb,yy,Option.bind_some]
  obtain ⟨f1,f2,f3,f4⟩:=yx h0 h1
  rw [f1,f2]
  have hn:=p7 b
  by_cases hz:(dP b).1=0
  ·rw [if_pos hz,hz]; rfl
  ·rw [if_neg hz,decide_eq_true hz]
   obtain ⟨a1,a2,a3⟩:=Ji h0 h1
   have hk: ∀ n:Int,n=1∨n=2∨n=3→(Option.bind (chk (shk n)) fun _=>some ((bM.mk b (Go.bits .and .i32 (IntKind.i32.wrap b) ((63:Int).fdiv (2 ^ (min n.toNat 32)))) n),([]:List Int)))=some (⟨b,if n=1 then b % 32 else if n=2 then b % 16 else b % 8,n⟩,[]):=by
    rintro n (rfl | rfl | rfl)
    ·rw [a1]; rfl
    ·rw [a2]; rfl
    ·rw [a3]; rfl
   exact hk _ (by omega)
def vN (d:bM) (b:Int):Bool:=if d.hH < (dP d.lead).1 then decide (128≤b∧b≤191) else decide ((dP d.lead).2.1≤b∧b≤(dP d.lead).2.2)
theorem FX {d:bM} (h0:0≤d.lead) (h1:d.lead < 256) (b:Int):gR d b=some (vN d b):=by
 unfold gR vN
 rw [yy,Option.bind_some]
 obtain ⟨f1,f2,f3,f4⟩:=yx h0 h1
 rw [f2,f3,f4]
 by_cases h:d.hH < (dP d.lead).1
 ·rw [if_pos h,decide_eq_true h,cond_true]
  by_cases ha:128≤b <;> simp [ha]
 ·rw [if_neg h,decide_eq_false h,cond_false]
  by_cases ha:(dP d.lead).2.1≤b <;> simp [ha]
def kO (d:bM) (b:Int):bM×List Int:=if d.hH≤0 then oo b else if vN d b then (if d.hH=1 then (d0,[d.rune*64+b % 64]) else (⟨d.lead,d.rune*64+b % 64,d.hH - 1⟩,[])) else ((oo b).1,65533::(oo b).2)
def DI (d:bM):Prop:=d=d0∨(0≤d.lead∧d.lead < 256∧1≤d.hH∧d.hH≤(dP d.lead).1∧0≤d.rune∧(d.hH=3→d.rune < 8)∧(d.hH=2→d.rune < 512)∧(d.hH=1→d.rune < 32768))
theorem DI0:DI d0:= .inl rfl
theorem FY {b:Int} (h0:0≤b) (h1:b < 256):DI (oo b).1∧(oo b).2.length≤1∧vb (oo b).2:=by
 unfold oo
 have hn:=p7 b
 split
 ·refine ⟨DI0,by simp,fun x hx=> ?_⟩
  rw [List.mem_singleton.1 hx]
  exact ⟨by omega,by omega⟩
 ·split
  ·refine ⟨DI0,by simp,fun x hx=> ?_⟩
   rw [List.mem_singleton.1 hx]
   exact ⟨by decide,by decide⟩
  ·rename_i hz
   refine ⟨.inr ⟨h0,h1,by dsimp only; omega,Int.le_refl _,?_,?_,?_,?_⟩,by simp,fun x hx=>by cases hx⟩
   all_goals (dsimp only; unfold rH; intros; split <;> (try split) <;> omega)
theorem su {d:bM} (h:DI d) {b:Int} (h0:0≤b) (h1:b < 256):gS d b=some (kO d b)∧DI (kO d b).1∧(kO d b).2.length≤2∧vb (kO d b).2:=by
 obtain ⟨k1,k2,k3⟩:=FY h0 h1
 unfold gS kO
 by_cases hd:d.hH≤0
 ·rw [decide_eq_true hd,cond_true,yz h0 h1,if_pos hd]
  exact ⟨rfl,k1,by omega,k3⟩
 ·rcases h with rfl | ⟨l0,l1,n1,n2,r0,r3,r2,r1⟩
  ·exact absurd (by decide) hd
  rw [decide_eq_false hd,cond_false,if_neg hd,FX l0 l1,Option.bind_some]
  have hn:=p7 d.lead
  have hrb:d.rune < 32768:=by
   have:d.hH=1∨d.hH=2∨d.hH=3:=by omega
   rcases this with h | h | h
   ·exact r1 h
   ·have:=r2 h; omega
   ·have:=r3 h; omega
  cases hf:vN d b with
  | false =>
   simp only [Bool.not_false,cond_true,yz h0 h1,Option.bind_some,Bool.false_eq_true,if_false]
   refine ⟨by rw [bH (by simp; omega)]; rfl,k1,by simp; omega,fun x hx=> ?_⟩
   rcases List.mem_cons.1 hx with rfl | hx
   ·exact ⟨by decide,by decide⟩
   ·exact k3 x hx
  | true =>
   have hor:Go.bits .or .i32 (IntKind.i32.wrap (d.rune*2 ^ (min 6 32))) (Go.bits .and .i32 (IntKind.i32.wrap b) 63)=d.rune*64+b % 64:=by
    rw [Ip h0 h1]
    exact Jj r0 (by omega) (by omega) (by omega)
   simp only [Bool.not_true,cond_false,if_true,hor]
   rw [w64 (x:=d.hH - 1) (by omega) (by omega)]
   by_cases h1':d.hH=1
   ·rw [if_pos h1',h1']
    refine ⟨rfl,DI0,by simp,fun x hx=> ?_⟩
    rw [List.mem_singleton.1 hx]
    have:=r1 h1'
    exact ⟨by omega,by omega⟩
   ·have he:(d.hH - 1 == 0)=false:=by
     have: ¬ d.hH - 1=0:=by omega
     simpa using this
    rw [if_neg h1',he,cond_false]
    refine ⟨rfl,.inr ⟨l0,l1,by dsimp only; omega,by dsimp only; omega,by dsimp only; omega,?_,?_,?_⟩,by simp,fun x hx=>by cases hx⟩
    ·dsimp only; intro e; omega
    ·dsimp only; intro e; have:=r3 (by omega); omega
    ·dsimp only; intro e; have:=r2 (by omega); omega
end Go.Tw.X
set_option linter.unusedVariables false
set_option linter.unusedSimpArgs false
set_option maxHeartbeats 1000000
namespace Go.Tw.X
open Go Go.Tw
def dfold:bM→List Int→List Int→bM×List Int
 | d,out,[]=>(d,out)
 | d,out,b::r=>dfold (kO d b).1 (out++(kO d b).2) r
theorem nS {s:ByteArray} {i:Int} (h0:0≤i) (h1:i < s.size):okO (kW s i) (fun b=>(0≤b∧b < 256)∧(sbs s).drop i.toNat=b::(sbs s).drop (i.toNat+1)):=by
 have hl:i.toNat < (sbs s).length:=by rw [cG]; omega
 have e:=sb s i.toNat hl
 rw [Int.toNat_of_nonneg h0] at e
 exact ⟨_,e,iU s _ (List.getElem_mem hl),List.drop_eq_getElem_cons hl⟩
theorem mf {s:ByteArray} {i:Int} (h:i=s.size):(sbs s).drop i.toNat=[]:=List.drop_eq_nil_of_le (by rw [cG]; omega)
theorem yA {a b:Int} (h:0≤a):a.tmod b=a % b:=Int.tmod_eq_emod_of_nonneg h
def DV (T:bM×List Int) (r:List Int×Int):Prop:=r.1=T.2∧0≤r.2∧(0 < r.2↔0 < T.1.hH)
theorem DW {s:ByteArray} (hs:s.size≤1000000):okO (lh s) (fun r=>DV (dfold d0 [] (sbs s)) r∧r.1.length≤s.size∧vb r.1):=by
 unfold lh
 generalize hT:dfold d0 [] (sbs s)=T
 refine bP (P:=fun | .inl l=>(T=(d0,l))∧l.length≤s.size∧vb l | .inr r=>DV T r∧r.1.length≤s.size∧vb r.1) ?_ ?_
 rotate_left
 ·rintro (l | r) h
  ·obtain ⟨rfl,h2⟩:=h
   exact aW ⟨⟨rfl,Int.le_refl 0,by simp [d0]⟩,h2⟩
  ·exact aW h
 refine jy (fun z:List Int×Int=>0≤z.2∧z.2≤s.size∧(z.1.length:Int)≤z.2∧vb z.1∧dfold d0 z.1 ((sbs s).drop z.2.toNat)=T) (fun z=>s.size - z.2.toNat) ⟨Int.le_refl 0,by dsimp only; omega,by simp,fun x hx=>(by cases hx),hT⟩ ?_
 rintro ⟨o,p⟩ ⟨h0,h1,h2,h3,h4⟩
 dsimp only at h0 h1 h2 h3 h4 ⊢
 refine jw (fun hp=> ?_) fun hp=> ?_
 rotate_left
 ·rw [mf (by omega)] at h4
  exact aW ⟨h4.symm,by omega,h3⟩
 refine bP (nS h0 hp) fun b hb=> ?_
 obtain ⟨hb,hbd⟩:=hb
 rw [hbd] at h4
 have ep:(p+1).toNat=p.toNat+1:=by omega
 rw [w64 (x:=b) (by omega) (by omega),w64 (x:=p+1) (by omega) (by omega)]
 have hn0:kO d0 b=oo b:=if_pos (by decide)
 refine jw (fun hb1=> ?_) fun hb1=> ?_
 ·have e:oo b=(d0,[b]):=if_pos hb1
  simp only [dfold,hn0,e] at h4
  refine bP (qX (by simp; omega)) fun _ _=>aW ⟨⟨by dsimp only; omega,by dsimp only; omega,by simp; omega,qB h3 ⟨by omega,by omega⟩,by dsimp only; rw [ep]; exact h4⟩,by dsimp only; omega⟩
 ·refine bP (P:=fun k=>k=dP b) ⟨_,DU hb.1 hb.2,rfl⟩ fun k hk=> ?_
  subst hk
  have hn5:=p7 b
  refine ok_eq (fun hk0=> ?_) fun hk0=> ?_
  ·have e:oo b=(d0,[65533]):=by unfold oo; rw [if_neg hb1,if_pos hk0]
   simp only [dfold,hn0,e] at h4
   refine bP (qX (by simp; omega)) fun _ _=>aW ⟨⟨by dsimp only; omega,by dsimp only; omega,by simp; omega,qB h3 ⟨by decide,by decide⟩,by dsimp only; rw [ep]; exact h4⟩,by dsimp only; omega⟩
  ·have e:oo b=(⟨b,rH b,(dP b).1⟩,[]):=by unfold oo; rw [if_neg hb1,if_neg hk0]
   simp only [dfold,hn0,e,List.append_nil] at h4
   refine bP (P:=fun x=>x≠0∧b.tmod x=rH b∧0≤rH b∧rH b < 32) ?_ fun x hx=> ?_
   ·unfold rH
    rcases hn5.1 with hk | hk | hk | hk
    ·exact absurd hk hk0
    ·rw [hk]; exact ⟨32,rfl,by decide,yA hb.1,by simp; omega,by simp; omega⟩
    ·rw [hk]; exact ⟨16,rfl,by decide,yA hb.1,by simp; omega,by simp; omega⟩
    ·rw [hk]; exact ⟨8,rfl,by decide,yA hb.1,by simp; omega,by simp; omega⟩
   obtain ⟨hx0,hx1,hx2,hx3⟩:=hx
   refine bP (G9 hx0) fun _ _=> ?_
   rw [hx1]
   refine bP (P:=fun v=>0≤v.1∧v.1 < 8388608∧1≤v.2∧v.2≤4∧p+v.2≤s.size∧(((dP b).1 < v.2∧dfold d0 (o++[v.1]) ((sbs s).drop (p+v.2).toNat)=T)∨(v.2≤(dP b).1∧p+v.2=s.size∧T=(⟨b,v.1,(dP b).1 - (v.2 - 1)⟩,o))∨(v.2≤(dP b).1∧p+v.2≠s.size∧dfold d0 (o++[65533]) ((sbs s).drop (p+v.2).toNat)=T))) ?_ fun v hv=> ?_
   ·refine jy (fun z:Int×Int×Int×Int=>0≤z.1∧p+z.2.1≤s.size∧z.2.1≤(dP b).1+1∧(z.2.1=1∧z.1 < 32∨z.2.1=2∧z.1 < 2048∨z.2.1=3∧z.1 < 131072∨z.2.1=4∧z.1 < 8388608)∧z.2.2=(if z.2.1=1 then (dP b).2 else (128,191))∧(if (dP b).1 < z.2.1 then dfold d0 (o++[z.1]) ((sbs s).drop (p+z.2.1).toNat)=T else dfold ⟨b,z.1,(dP b).1 - (z.2.1 - 1)⟩ o ((sbs s).drop (p+z.2.1).toNat)=T)) (fun z=>4 - z.2.1.toNat) ⟨hx2,by dsimp only; omega,by dsimp only; omega,.inl ⟨rfl,hx3⟩,by simp,?_⟩ ?_
    ·dsimp only
     rw [if_neg (by omega),ep,Int.sub_self,Int.sub_zero]
     exact h4
    rintro ⟨v,j,lo,hi⟩ ⟨g0,g1,g2,g3,g4,g5⟩
    dsimp only at g0 g1 g2 g3 g4 g5 ⊢
    rw [w64 (x:=p+j) (by omega) (by omega)]
    refine bP (P:=fun e=>e=true↔(j≤(dP b).1∧p+j < s.size)) ?_ fun e he=> ?_
    ·refine jw (fun h=>aW (by simp [h])) fun h=>aW (by simp [h])
    ·refine nm (fun h=> ?_) fun h=> ?_
     rotate_left
     ·refine aW ⟨g0,by omega,by omega,by omega,g1,?_⟩
      dsimp only
      by_cases hj:(dP b).1 < j
      ·rw [if_pos hj] at g5
       exact .inl ⟨hj,g5⟩
      ·rw [if_neg hj] at g5
       have hpe:p+j=s.size:=by
        have: ¬ (j≤(dP b).1∧p+j < s.size):=fun hh=>by rw [he.2 hh] at h; cases h
        omega
       rw [mf hpe] at g5
       exact .inr (.inl ⟨by omega,hpe,g5.symm⟩)
     obtain ⟨e1,e2⟩:=he.1 h
     refine bP (nS (by omega) e2) fun c hc=> ?_
     obtain ⟨hc,hcd⟩:=hc
     rw [w64 (x:=c) (by omega) (by omega)]
     rw [if_neg (by omega),hcd] at g5
     have hneed: ¬ (bM.mk b v ((dP b).1 - (j - 1))).hH≤0:=by dsimp only; omega
     have hfit:vN ⟨b,v,(dP b).1 - (j - 1)⟩ c=decide (lo≤c∧c≤hi):=by
      unfold vN
      dsimp only
      by_cases hj:j=1
      ·subst hj
       rw [if_pos rfl] at g4
       rw [if_neg (by omega),← g4]
      ·rw [if_neg hj] at g4
       injection g4 with g4 g4'
       rw [if_pos (by omega),g4,g4']
     refine bP (P:=fun e=>e=true ↔ ¬ (lo≤c∧c≤hi)) ?_ fun e he=> ?_
     ·refine jw (fun h=>aW (by simp; omega)) fun h=>aW (by simp; omega)
     refine nm (fun h=> ?_) fun h=> ?_
     ·refine aW ⟨g0,by omega,by omega,by omega,g1,.inr (.inr ⟨e1,by dsimp only; omega,?_⟩)⟩
      dsimp only
      have hnf:vN ⟨b,v,(dP b).1 - (j - 1)⟩ c=false:=by rw [hfit]; exact decide_eq_false (he.1 h)
      have en:kO ⟨b,v,(dP b).1 - (j - 1)⟩ c=((oo c).1,65533::(oo c).2):=by
       unfold kO
       rw [if_neg hneed,hnf]
       rfl
      have en0:kO d0 c=oo c:=if_pos (by decide)
      simp only [dfold,en] at g5
      rw [hcd]
      simp only [dfold,en0]
      rw [← g5]
      simp
     ·have hc2:=Jh hc.1
      have w1:IntKind.i64.wrap (v*64)=v*64:=w64 (by omega) (by omega)
      have w2:IntKind.i64.wrap (v*64+c.tmod 64)=v*64+c.tmod 64:=w64 (by omega) (by omega)
      have w3:IntKind.i64.wrap (j+1)=j+1:=w64 (by omega) (by omega)
      rw [w1,w2,w3]
      have hf:vN ⟨b,v,(dP b).1 - (j - 1)⟩ c=true:=by
       rw [hfit]
       refine decide_eq_true (Classical.byContradiction fun hh=> ?_)
       rw [he.2 hh] at h
       cases h
      have epj:(p+(j+1)).toNat=(p+j).toNat+1:=by omega
      refine aW ⟨⟨by dsimp only; omega,by dsimp only; omega,by dsimp only; omega,by dsimp only; omega,?_,?_⟩,by dsimp only; omega⟩
      ·dsimp only
       rw [if_neg (by omega)]
      ·dsimp only
       rw [epj]
       by_cases hj:(dP b).1 < j+1
       ·have en:kO ⟨b,v,(dP b).1 - (j - 1)⟩ c=(d0,[v*64+c % 64]):=by
         unfold kO
         rw [if_neg hneed,hf,if_pos rfl,if_pos (by dsimp only; omega)]
        simp only [dfold,en] at g5
        rw [if_pos hj,yA hc.1]
        exact g5
       ·have en:kO ⟨b,v,(dP b).1 - (j - 1)⟩ c=(⟨b,v*64+c % 64,(dP b).1 - (j - 1) - 1⟩,[]):=by
         unfold kO
         rw [if_neg hneed,hf,if_pos rfl,if_neg (by dsimp only; omega)]
        simp only [dfold,en,List.append_nil] at g5
        rw [if_neg hj,yA hc.1,show (dP b).1 - (j+1 - 1)=(dP b).1 - (j - 1) - 1 by omega]
        exact g5
   ·obtain ⟨g0,g1,g2,g3,g4,g5⟩:=hv
    rw [w64 (x:=p+v.2) (by omega) (by omega)]
    refine bP (P:=fun | .inl l=>(l.length:Int)≤p+1∧vb l∧dfold d0 l ((sbs s).drop (p+v.2).toNat)=T | .inr (.inl _)=>False | .inr (.inr (.inl _))=>False | .inr (.inr (.inr r))=>DV T r∧r.1.length≤s.size∧vb r.1) ?_ ?_
    ·refine jw (fun h=> ?_) fun h=> ?_
     ·refine bP (qX (by simp; omega)) fun _ _=>aW ⟨by simp; omega,qB h3 ⟨by omega,by omega⟩,?_⟩
      rcases g5 with g5 | g5 | g5
      ·exact g5.2
      ·exact absurd g5.1 (by omega)
      ·exact absurd g5.1 (by omega)
     ·refine ok_eq (fun hq=> ?_) fun hq=> ?_
      ·rcases g5 with g5 | g5 | g5
       ·exact absurd g5.1 h
       ·refine xe (xf (aW ⟨⟨?_,by dsimp only; omega,?_⟩,by dsimp only; omega,h3⟩))
        ·rw [g5.2.2]
        ·rw [g5.2.2]; dsimp only; constructor <;> intro _ <;> omega
       ·exact absurd hq g5.2.1
      ·refine bP (qX (by simp; omega)) fun _ _=>aW ⟨by simp; omega,qB h3 ⟨by decide,by decide⟩,?_⟩
       rcases g5 with g5 | g5 | g5
       ·exact absurd g5.1 h
       ·exact absurd g5.2.1 hq
       ·exact g5.2.2
    ·rintro (l | (l | (l | l))) hl
     ·exact aW ⟨⟨by dsimp only; omega,by dsimp only; omega,by dsimp only; omega,hl.2.1,hl.2.2⟩,by dsimp only; omega⟩
     ·exact hl.elim
     ·exact hl.elim
     ·exact aW hl
end Go.Tw.X
set_option linter.unusedVariables false
set_option linter.unusedSimpArgs false
set_option maxHeartbeats 1000000
namespace Go.Tw.X
open Go Go.Tw
def oa (p:aD) (a:bB):aD:=⟨p.state,p.order,p.text,p.cC,p.out++[a]⟩
def prA (r:Int):bB:=⟨1,r,0,false,[],ByteArray.mk #[]⟩
def mI (p:aD) (l:List Int):aD:=⟨p.state,p.order,p.text,p.cC,p.out++l.map prA⟩
def stP (p:aD) (s:Int):aD:=⟨s,p.order,p.text,p.cC,p.out⟩
def ctA (b:Int):bB:=⟨2,0,b,false,[],ByteArray.mk #[]⟩
def cV (p:aD) (b:Int):Bool×aD:=if b=24∨b=26 then (true,stP p 0) else if b=27 then (true,stP p 1) else if b < 32 then (true,oa p (ctA b)) else (b == 127,p)
def rI (d:bM):List Int:=if d.hH≤0 then [] else [65533]
def ku (p:aD) (b:Int):aD:=if b < 32∨b=127 then (cV ⟨p.state,p.order,p.text,d0,p.out++(rI p.cC).map prA⟩ b).2 else mI ⟨p.state,p.order,p.text,(kO p.cC b).1,p.out⟩ (kO p.cC b).2
def o0:dF:=⟨false,false,false,false,0,[]⟩
def Iq (b:Int):bB:=⟨3,0,b,false,[],ByteArray.mk #[]⟩
def gP (p:aD) (b:Int):aD :=
 if (cV p b).1 then (cV p b).2 else
 if b=91 then ⟨3,o0,p.text,p.cC,p.out⟩ else if b=93 then ⟨4,p.order,ByteArray.mk #[],p.cC,p.out⟩ else if b < 48 then stP p 2 else if b < 127 then stP (oa p (Iq b)) 0 else stP p 0
def nT (p:aD) (b:Int):aD:=if (cV p b).1 then (cV p b).2 else if 48≤b then stP p 0 else p
def oc (o:dF):dF:=⟨o.cF,o.jv,o.any,o.some,0,if o.bA.length < 16 then o.bA++[o.n] else o.bA⟩
def cmA (o:dF) (b:Int):bB:=⟨4,0,b,o.cF,o.bA,ByteArray.mk #[]⟩
def kv (p:aD) (b:Int):aD:=if p.order.jv then stP p 0 else
 let o:=if p.order.some then oc p.order else p.order
 ⟨0,o,p.text,p.cC,p.out++[cmA o b]⟩
def FZ (o:dF):dF:=⟨o.cF,o.jv,true,o.some,o.n,o.bA⟩
def dA (o:dF) (b:Int):dF :=
 if 48≤b∧b≤57 then ⟨o.cF,o.jv,true,true,dQ (10*o.n+(b - 48)) 9999,o.bA⟩ else
 if b=59∨b=58 then ⟨o.cF,o.jv,true,true,0,(oc o).bA⟩ else
 if b=63∧o.any=false then ⟨true,o.jv,true,o.some,o.n,o.bA⟩ else
 ⟨o.cF,true,true,o.some,o.n,o.bA⟩
def iV (p:aD) (b:Int):aD:=if (cV p b).1 then (cV p b).2 else
 if 64≤b∧b < 127 then kv ⟨p.state,FZ p.order,p.text,p.cC,p.out⟩ b else ⟨p.state,dA p.order b,p.text,p.cC,p.out⟩
theorem sw {p:aD} (h:p.out.length≤1000000) (a:bB):eS p a=some (oa p a):=by
 unfold eS
 rw [bH (by simp; omega)]
 rfl
theorem yB {p:aD} (h:p.out.length≤1000000) (a:bB):gW p a=some (oa p a):=by
 unfold gW
 rw [bH (by simp; omega)]
 rfl
theorem okE {α:Type _} {x:Option α} {r:α} (h:okO x (fun y=>y=r)):x=some r:=by
 obtain ⟨y,e,rfl⟩:=h
 exact e
theorem yC {p:aD} {l:List Int} (h:p.out.length+l.length≤1000000):gK p l=some (mI p l):=by
 unfold gK
 refine okE (bP (P:=fun y=>y=mI p l) ?_ fun r hr=>aW hr)
 refine jy (fun z:aD×Int=>0≤z.2∧z.2≤l.length∧z.1=mI p (l.take z.2.toNat)) (fun z=>l.length - z.2.toNat) ⟨Int.le_refl 0,by dsimp only; omega,by simp [mI]⟩ ?_
 rintro ⟨q,i⟩ ⟨h0,h1,h2⟩
 dsimp only at h0 h1 h2 ⊢
 subst h2
 refine jw (fun hi=> ?_) fun hi=>aW (by rw [List.take_of_length_le (by omega)])
 obtain ⟨k,rfl⟩: ∃ k:Nat,i=k:=⟨i.toNat,by omega⟩
 have hk:k < l.length:=by omega
 refine bP (P:=fun x=>x=l[k]) ⟨_,cK l k hk,rfl⟩ fun x hx=> ?_
 subst hx
 refine bP (P:=fun x=>x=mI p (l.take (k+1))) ?_ fun x hx=> ?_
 ·rw [sw (by simp [mI]; omega)]
  refine aW ?_
  simp only [mI,oa,Int.toNat_natCast,List.take_add_one,List.getElem?_eq_getElem hk,Option.toList_some,List.map_append,List.map_cons,List.map_nil,List.append_assoc,prA]
 ·subst hx
  rw [w64 (by omega) (by omega)]
  refine aW ⟨⟨by dsimp only; omega,by dsimp only; omega,?_⟩,by dsimp only; omega⟩
  dsimp only
  rw [show ((k:Int)+1).toNat=k+1 by omega]
theorem qC {p:aD} (h:p.out.length≤1000000) (b:Int):eF p b=some (cV p b):=by
 unfold eF cV
 by_cases h1:b=24
 ·subst h1; rfl
 ·by_cases h2:b=26
  ·subst h2; rfl
  ·by_cases h3:b=27
   ·subst h3; rfl
   ·have e1:(b == 24)=false:=by simpa using h1
    have e2:(b == 26)=false:=by simpa using h2
    have e3:(b == 27)=false:=by simpa using h3
    rw [if_neg (by omega),if_neg h3,e1,e2,e3]
    by_cases h4:b < 32
    ·rw [if_pos h4,decide_eq_true h4]
     simp only [cond_false,cond_true,Option.bind_some,sw h]
     rfl
    ·rw [if_neg h4,decide_eq_false h4]
     rfl
theorem BR {p:aD} (h:p.out.length≤999990) (hd:DI p.cC) {b:Int} (h0:0≤b) (h1:b < 256):gB p b=some (ku p b):=by
 unfold gB ku
 have hl:(rI p.cC).length≤1:=by unfold rI; split <;> simp
 have he:iq p.cC=some (rI p.cC):=by
  unfold iq rI
  by_cases hn:p.cC.hH≤0
  ·rw [decide_eq_true hn,if_pos hn]; rfl
  ·rw [decide_eq_false hn,if_neg hn]; rfl
 by_cases hb:b < 32∨b=127
 ·have e:((bif (decide (b < 32)) then some true else some (b == 127)):Option Bool)=some true:=by
   rcases hb with hb | hb
   ·rw [decide_eq_true hb]; rfl
   ·subst hb; rfl
  rw [if_pos hb,e,Option.bind_some,cond_true,he,Option.bind_some,yC (by omega),Option.bind_some,qC (by simp [mI]; omega)]
  rfl
 ·have e:((bif (decide (b < 32)) then some true else some (b == 127)):Option Bool)=some false:=by
   rw [decide_eq_false (by omega),cond_false]
   have: ¬ b=127:=by omega
   simpa using this
  obtain ⟨n1,n2,n3,n4⟩:=su hd h0 h1
  rw [if_neg hb,e,Option.bind_some,cond_false,n1,Option.bind_some,yC (by dsimp only; omega)]
  rfl
theorem wy {p:aD} (h:p.out.length≤999990) (b:Int):eT p b=some (gP p b):=by
 unfold eT gP
 rw [qC (by omega),Option.bind_some]
 cases hc:(cV p b).1 with
 | true=>rfl
 | false =>
  have hp:(cV p b).2=p:=by
   unfold cV at hc ⊢
   split
   ·rename_i hh; rw [if_pos hh] at hc; cases hc
   ·rename_i h1; rw [if_neg h1] at hc
    split
    ·rename_i hh; rw [if_pos hh] at hc; cases hc
    ·rename_i h2; rw [if_neg h2] at hc
     split
     ·rename_i hh; rw [if_pos hh] at hc; cases hc
     ·rfl
  rw [hp]
  simp only [cond_false,Bool.false_eq_true,if_false]
  by_cases h1:b=91
  ·subst h1; rfl
  ·have e1:(b == 91)=false:=by simpa using h1
   rw [if_neg h1,e1]
   by_cases h2:b=93
   ·subst h2; rfl
   ·have e2:(b == 93)=false:=by simpa using h2
    rw [if_neg h2,e2]
    by_cases h3:b < 48
    ·rw [if_pos h3,decide_eq_true h3]; rfl
    ·rw [if_neg h3,decide_eq_false h3]
     by_cases h4:b < 127
     ·rw [if_pos h4,decide_eq_true h4]
      simp only [cond_false,cond_true,sw (show p.out.length≤1000000 by omega),Option.bind_some]
      rfl
     ·rw [if_neg h4,decide_eq_false h4]; rfl
theorem tR {p:aD} {b:Int} (hc:(cV p b).1=false):(cV p b).2=p:=by
 unfold cV at hc ⊢
 split
 ·rename_i hh; rw [if_pos hh] at hc; cases hc
 ·rename_i h1; rw [if_neg h1] at hc
  split
  ·rename_i hh; rw [if_pos hh] at hc; cases hc
  ·rename_i h2; rw [if_neg h2] at hc
   split
   ·rename_i hh; rw [if_pos hh] at hc; cases hc
   ·rfl
theorem DX {p:aD} (h:p.out.length≤999990) (b:Int):iu p b=some (nT p b):=by
 unfold iu nT
 rw [qC (by omega),Option.bind_some]
 cases hc:(cV p b).1 with
 | true=>rfl
 | false =>
  rw [tR hc]
  by_cases hb:48≤b
  ·simp [hb,stP]
  ·simp [hb]
theorem AG {p:aD} (h:p.order.bA.length≤16):iN p=some ⟨p.state,oc p.order,p.text,p.cC,p.out⟩:=by
 unfold iN oc
 by_cases hl:p.order.bA.length < 16
 ·rw [decide_eq_true (by omega),cond_true,bH (by simp; omega),if_pos hl]; rfl
 ·rw [decide_eq_false (by omega),cond_false,if_neg hl]; rfl
theorem BS {p:aD} (h:p.out.length≤999990) (hn:p.order.bA.length≤16) (b:Int):iw p b=some (kv p b):=by
 unfold iw kv
 cases hw:p.order.jv with
 | true=>rfl
 | false =>
  simp only [cond_false,Bool.false_eq_true,if_false]
  cases hs:p.order.some with
  | true =>
   simp only [cond_true,if_true]
   rw [AG (by exact hn),Option.bind_some,Option.bind_some,yB (by dsimp only; omega)]
   rfl
  | false =>
   simp only [cond_false,Bool.false_eq_true,if_false]
   rw [Option.bind_some,yB (by dsimp only; omega)]
   rfl
theorem zE {p:aD} (h:p.out.length≤999990) (h3:p.state=3) (hn:p.order.bA.length≤16) (hN:0≤p.order.n∧p.order.n≤9999) {b:Int} (h0:0≤b) (h1:b < 256):fV p b=some (iV p b):=by
 unfold fV iV
 rw [qC (by omega),Option.bind_some]
 cases hc:(cV p b).1 with
 | true=>rfl
 | false =>
  rw [tR hc]
  simp only [cond_false,Bool.false_eq_true,if_false]
  have hchk:chk (p.state == (3:Int))=some ():=by rw [h3]; rfl
  by_cases a1:48≤b∧b≤57
  ·have e:((bif (decide (b≥48)) then some (decide (b≤57)) else some false):Option Bool)=some true:=by rw [decide_eq_true a1.1,decide_eq_true a1.2]; rfl
   have w1:IntKind.u8.wrap (b - 48)=b - 48:=by simp [IntKind.wrap,IntKind.bits,IntKind.signed]; omega
   rw [e,Option.bind_some,cond_true,w1,w64 (x:=b - 48) (by omega) (by omega),w64 (x:=10*p.order.n) (by omega) (by omega),w64 (by omega) (by omega),if_neg (by omega)]
   unfold dA
   rw [if_pos a1]
  ·have e:((bif (decide (b≥48)) then some (decide (b≤57)) else some false):Option Bool)=some false:=by
    by_cases hh:48≤b
    ·rw [decide_eq_true hh,decide_eq_false (by omega)]; rfl
    ·rw [decide_eq_false hh]; rfl
   rw [e,Option.bind_some,cond_false]
   by_cases a2:b=59∨b=58
   ·have e2:((bif (b == 59) then some true else some (b == 58)):Option Bool)=some true:=by rcases a2 with rfl | rfl <;> rfl
    rw [e2,Option.bind_some,cond_true,hchk,Option.bind_some,AG (by exact hn),Option.bind_some,if_neg (by omega)]
    unfold dA
    rw [if_neg a1,if_pos a2]
    rfl
   ·have e2:((bif (b == 59) then some true else some (b == 58)):Option Bool)=some false:=by
     have x1:(b == 59)=false:=by simpa using (show ¬ b=59 by omega)
     have x2:(b == 58)=false:=by simpa using (show ¬ b=58 by omega)
     rw [x1,x2]; rfl
    rw [e2,Option.bind_some,cond_false]
    by_cases a3:b=63∧p.order.any=false
    ·have e3:((bif (b == 63) then some (!p.order.any) else some false):Option Bool)=some true:=by rw [a3.1,a3.2]; rfl
     rw [e3,Option.bind_some,cond_true,if_neg (by omega)]
     unfold dA
     rw [if_neg a1,if_neg a2,if_pos a3]
    ·have e3:((bif (b == 63) then some (!p.order.any) else some false):Option Bool)=some false:=by
      by_cases hh:b=63
      ·cases ha:p.order.any with
       | true=>rw [hh]; rfl
       | false=>exact absurd ⟨hh,ha⟩ a3
      ·have:(b == 63)=false:=by simpa using hh
       rw [this]; rfl
     rw [e3,Option.bind_some,cond_false]
     by_cases a4:64≤b∧b < 127
     ·have e4:((bif (decide (b≥64)) then some (decide (b < 127)) else some false):Option Bool)=some true:=by rw [decide_eq_true a4.1,decide_eq_true a4.2]; rfl
      rw [e4,Option.bind_some,cond_true,hchk,Option.bind_some,if_pos a4,BS (by exact h) (by exact hn)]
      rfl
     ·have e4:((bif (decide (b≥64)) then some (decide (b < 127)) else some false):Option Bool)=some false:=by
       by_cases hh:64≤b
       ·rw [decide_eq_true hh,decide_eq_false (by omega)]; rfl
       ·rw [decide_eq_false hh]; rfl
      rw [e4,Option.bind_some,cond_false,if_neg a4]
      unfold dA
      rw [if_neg a1,if_neg a2,if_neg a3]
end Go.Tw.X
set_option linter.unusedVariables false
set_option linter.unusedSimpArgs false
set_option maxHeartbeats 1000000
namespace Go.Tw.X
open Go Go.Tw
def tiA (t:ByteArray):bB:=⟨5,0,0,false,[],mB t 2 t.size⟩
def ttl (t:ByteArray):List bB:=match sbs t with
 | x::y::_=>if (x=48∨x=50)∧y=59 then [tiA t] else []
 | _=>[]
theorem AH (t:ByteArray):(ttl t).length≤1:=by
 unfold ttl
 split
 ·split <;> simp
 ·simp
def kP (p:aD):aD:=⟨0,p.order,p.text,p.cC,p.out++ttl p.text⟩
def isH (c:Int) (t:ByteArray):Bool:=decide ((sbs t).take 2=[c,59])
theorem DY {c:Int} {t:ByteArray} (h:t.size < 2):isH c t=false:=by
 refine decide_eq_false fun e=> ?_
 have:=congrArg List.length e
 simp [cG] at this
 omega
theorem wz (t h:ByteArray) (c:Int) (hh:sbs h=[c,59]):ir t h=some (if isH c t then (mB t 2 t.size,true) else (t,false)):=by
 have hs:h.size=2:=by rw [← cG,hh]; rfl
 have hp:fG t h=some (isH c t):=by
  unfold fG
  rw [hs]
  by_cases h2:2≤t.size
  ·rw [decide_eq_true (show (t.size:Int)≥((2:Nat):Int) by omega),cond_true,bV (by decide) (by decide) (by omega),Option.bind_some,Option.bind_some,xa]
   congr 1
   unfold isH
   refine decide_eq_decide.2 ⟨fun e=> ?_,fun e=> ?_⟩
   ·have:=congrArg sbs e
    rw [show ((0:Int))=((0:Nat):Int) from rfl,p4,hh] at this
    simpa using this
   ·apply xc
    rw [show ((0:Int))=((0:Nat):Int) from rfl,p4,hh]
    simpa using e
  ·rw [decide_eq_false (show ¬ (t.size:Int)≥((2:Nat):Int) by omega),cond_false,Option.bind_some,DY (by omega)]
 unfold ir hK
 rw [hp,Option.bind_some,hs]
 cases hi:isH c t with
 | false=>rfl
 | true =>
  have h2:2≤t.size:=by
   by_cases h2:2≤t.size
   ·exact h2
   ·rw [DY (by omega)] at hi; cases hi
  simp only [Bool.not_true,cond_false,if_true]
  rw [bV (by omega) (by omega) (by omega)]
  rfl
theorem DZ (t:ByteArray):ttl t=(if isH 48 t then [tiA t] else [])++(if isH 50 t then [tiA t] else []):=by
 unfold ttl isH
 match h:sbs t with
 | []=>simp
 | [x]=>simp
 | x::y::r =>
  simp only [List.take_succ_cons,List.take_zero,List.cons.injEq,and_true,decide_eq_true_eq]
  by_cases hy:y=59
  ·by_cases h1:x=48
   ·subst h1; simp [hy]
   ·by_cases h2:x=50
    ·subst h2; simp [hy]
    ·simp [h1,h2]
  ·simp [hy]
theorem AI {p:aD} (h:p.out.length≤999990):hU p=some (kP p):=by
 unfold hU
 have c1:=wz p.text (ByteArray.mk #[48,59]) 48 rfl
 have c2:=wz p.text (ByteArray.mk #[50,59]) 50 rfl
 refine okE (bP (P:=fun y=>y=kP p) ?_ fun r hr=>aW hr)
 refine jy (fun z:aD×Int=>z.2=0∧z.1=stP p 0∨z.2=1∧z.1=⟨0,p.order,p.text,p.cC,p.out++(if isH 48 p.text then [tiA p.text] else [])⟩∨z.2=2∧z.1=kP p) (fun z=>2 - z.2.toNat) (.inl ⟨rfl,rfl⟩) ?_
 rintro ⟨q,i⟩ (⟨h1,h2⟩ | ⟨h1,h2⟩ | ⟨h1,h2⟩)
 ·dsimp only at h1 h2
  subst h1 h2
  refine jw (fun _=> ?_) fun hh=>absurd (show (0:Int) < 2 from by decide) hh
  refine bP (P:=fun y=>y=(⟨0,p.order,p.text,p.cC,p.out++(if isH 48 p.text then [tiA p.text] else [])⟩:aD)) ?_ fun y hy=> ?_
  ·refine bP (P:=fun x=>x=ByteArray.mk #[48,59]) ⟨_,rfl,rfl⟩ fun x hx=> ?_
   subst hx
   rw [show (stP p 0).text=p.text from rfl,c1]
   cases hi:isH 48 p.text with
   | true =>
    simp only [if_true,Option.bind_some,cond_true]
    rw [sw (by show p.out.length≤_; omega)]
    exact aW rfl
   | false =>
    simp only [Bool.false_eq_true,if_false,Option.bind_some,cond_false]
    exact aW (by simp [stP])
  ·subst hy
   exact aW ⟨.inr (.inl ⟨show IntKind.i64.wrap (0+1)=1 from by decide,rfl⟩),show 2 - (IntKind.i64.wrap (0+1)).toNat < 2 - (0:Int).toNat from by decide⟩
 ·dsimp only at h1 h2
  subst h1 h2
  refine jw (fun _=> ?_) fun hh=>absurd (show (1:Int) < 2 from by decide) hh
  refine bP (P:=fun y=>y=kP p) ?_ fun y hy=> ?_
  ·refine bP (P:=fun x=>x=ByteArray.mk #[50,59]) ⟨_,rfl,rfl⟩ fun x hx=> ?_
   subst hx
   dsimp only
   rw [c2]
   have hl:((if isH 48 p.text then [tiA p.text] else []):List bB).length≤1:=by split <;> simp
   cases hi:isH 50 p.text with
   | true =>
    simp only [if_true,Option.bind_some,cond_true]
    rw [sw (by simp only [List.length_append]; omega)]
    refine aW ?_
    simp only [oa,kP,DZ,hi,if_true,List.append_assoc]
    rfl
   | false =>
    simp only [Bool.false_eq_true,if_false,Option.bind_some,cond_false]
    refine aW ?_
    simp only [kP,DZ,hi,Bool.false_eq_true,if_false,List.append_nil]
  ·subst hy
   exact aW ⟨.inr (.inr ⟨show IntKind.i64.wrap (1+1)=2 from by decide,rfl⟩),show 2 - (IntKind.i64.wrap (1+1)).toNat < 2 - (1:Int).toNat from by decide⟩
 ·dsimp only at h1 h2
  subst h1 h2
  exact jw (fun hh=>absurd hh (show ¬ (2:Int) < 2 from by decide)) fun _=>aW rfl
def iZ (p:aD) (b:Int):aD:=if b=7 then kP p else if b=24∨b=26 then stP p 0 else if b=27 then stP p 5 else if p.text.size < 200 then ⟨p.state,p.order,p.text++iP [b],p.cC,p.out⟩ else p
theorem D1 {p:aD} (h:p.out.length≤999990) (b:Int):gX p b=some (iZ p b):=by
 unfold gX iZ
 by_cases h1:b=7
 ·subst h1
  rw [if_pos rfl,AI h]
  rfl
 ·have e1:(b == 7)=false:=by simpa using h1
  rw [if_neg h1,e1,cond_false]
  by_cases h2:b=24∨b=26
  ·have e2:((bif (b == 24) then some true else some (b == 26)):Option Bool)=some true:=by rcases h2 with rfl | rfl <;> rfl
   rw [if_pos h2,e2]; rfl
  ·have e2:((bif (b == 24) then some true else some (b == 26)):Option Bool)=some false:=by
    have x1:(b == 24)=false:=by simpa using (show ¬ b=24 by omega)
    have x2:(b == 26)=false:=by simpa using (show ¬ b=26 by omega)
    rw [x1,x2]; rfl
   rw [if_neg h2,e2,Option.bind_some,cond_false]
   by_cases h3:b=27
   ·subst h3; rfl
   ·have e3:(b == 27)=false:=by simpa using h3
    rw [if_neg h3,e3,cond_false]
    by_cases h4:p.text.size < 200
    ·rw [if_pos h4,decide_eq_true (by omega),cond_true,nI (by rw [kp]; simp; omega)]; rfl
    ·rw [if_neg h4,decide_eq_false (by omega)]; rfl
def iW (p:aD) (b:Int):aD :=
 if p.state=0 then ku p b else if p.state=1 then gP p b else if p.state=2 then nT p b else if p.state=3 then iV p b else if p.state=4 then iZ p b else if b=92 then kP p else gP (stP p 1) b
structure PI (p:aD):Prop where
 di:DI p.cC
 gr:p.state≠0→p.cC=d0
 nu:p.order.bA.length≤16
 n0:0≤p.order.n
 n1:p.order.n≤9999
 tx:p.text.size≤200
theorem F0 {p:aD} (hp:PI p) (h:p.out.length≤999990) {b:Int} (h0:0≤b) (h1:b < 256):jM p b=some (iW p b):=by
 unfold jM iW
 by_cases s0:p.state=0
 ·rw [if_pos s0,s0,BR h hp.di h0 h1]; rfl
 ·have e0:(p.state == 0)=false:=by simpa using s0
  rw [if_neg s0,e0,cond_false]
  by_cases s1:p.state=1
  ·rw [if_pos s1,s1,wy h]; rfl
  ·have e1:(p.state == 1)=false:=by simpa using s1
   rw [if_neg s1,e1,cond_false]
   by_cases s2:p.state=2
   ·rw [if_pos s2,s2,DX h]; rfl
   ·have e2:(p.state == 2)=false:=by simpa using s2
    rw [if_neg s2,e2,cond_false]
    by_cases s3:p.state=3
    ·have e3:(p.state == 3)=true:=by simpa using s3
     rw [if_pos s3,e3,cond_true,zE h s3 hp.nu ⟨hp.n0,hp.n1⟩ h0 h1]; rfl
    ·have e3:(p.state == 3)=false:=by simpa using s3
     rw [if_neg s3,e3,cond_false]
     by_cases s4:p.state=4
     ·rw [if_pos s4,s4,D1 h]; rfl
     ·have e4:(p.state == 4)=false:=by simpa using s4
      rw [if_neg s4,e4,cond_false]
      by_cases hb:b=92
      ·subst hb
       rw [if_pos rfl,AI h]; rfl
      ·have e5:(b == 92)=false:=by simpa using hb
       rw [if_neg hb,e5,cond_false,show aD.mk 1 p.order p.text p.cC p.out=stP p 1 from rfl,wy (by exact h)]; rfl
end Go.Tw.X
set_option linter.unusedVariables false
set_option linter.unusedSimpArgs false
set_option maxHeartbeats 1000000
namespace Go.Tw.X
open Go Go.Tw
def clr (p:aD):aD:=⟨p.state,p.order,p.text,p.cC,[]⟩
def mJ (l:List bB) (q:aD):aD:=⟨q.state,q.order,q.text,q.cC,l++q.out⟩
theorem nU (p:aD) (b:Int):cV p b=((cV (clr p) b).1,mJ p.out (cV (clr p) b).2):=by
 unfold cV
 repeat' split
 all_goals simp [mJ,clr,stP,oa]
theorem zF (p:aD) (b:Int):kv p b=mJ p.out (kv (clr p) b):=by
 unfold kv
 rw [show (clr p).order=p.order from rfl]
 split
 all_goals simp [mJ,clr,stP]
theorem zG (p:aD) (b:Int):ku p b=mJ p.out (ku (clr p) b):=by
 unfold ku
 split
 ·rw [nU]
  rw [nU (aD.mk (clr p).state (clr p).order (clr p).text d0 ((clr p).out++(rI (clr p).cC).map prA))]
  simp [mJ,clr]
 ·simp [mJ,clr,mI]
theorem vd (p:aD) (b:Int):gP p b=mJ p.out (gP (clr p) b):=by
 unfold gP
 rw [nU p b]
 dsimp only
 split
 ·rfl
 ·repeat' split
  all_goals simp [mJ,clr,stP,oa]
theorem D3 (p:aD) (b:Int):nT p b=mJ p.out (nT (clr p) b):=by
 unfold nT
 rw [nU p b]
 dsimp only
 split
 ·rfl
 ·split
  all_goals simp [mJ,clr,stP]
theorem yD (p:aD) (b:Int):iV p b=mJ p.out (iV (clr p) b):=by
 unfold iV
 rw [nU p b]
 dsimp only
 split
 ·rfl
 ·split
  ·exact zF _ b
  ·simp [mJ,clr]
theorem yE (p:aD):kP p=mJ p.out (kP (clr p)):=by simp [kP,mJ,clr]
theorem BT (p:aD) (b:Int):iZ p b=mJ p.out (iZ (clr p) b):=by
 unfold iZ
 rw [show (clr p).text=p.text from rfl]
 split
 ·exact yE p
 ·repeat' split
  all_goals simp [mJ,clr,stP]
theorem one_add (p:aD) (b:Int):iW p b=mJ p.out (iW (clr p) b):=by
 unfold iW
 rw [show (clr p).state=p.state from rfl]
 split
 ·exact zG p b
 ·split
  ·exact vd p b
  ·split
   ·exact D3 p b
   ·split
    ·exact yD p b
    ·split
     ·exact BT p b
     ·split
      ·exact yE p
      ·exact vd (stP p 1) b
def prun (p:aD) (bs:List Int):aD:=bs.foldl iW p
theorem D4 (a b:List bB) (q:aD):mJ a (mJ b q)=mJ (a++b) q:=by simp [mJ]
theorem D5 (a:List bB) (q:aD):clr (mJ a q)=clr q:=rfl
theorem D6 (q:aD):mJ q.out (clr q)=q:=by simp [mJ,clr]
theorem ve: ∀ (bs:List Int) (p:aD),prun p bs=mJ p.out (prun (clr p) bs)
 | [],p=>(D6 p).symm
 | b::bs,p=>by
  show prun (iW p b) bs=mJ p.out (prun (iW (clr p) b) bs)
  rw [ve bs (iW p b),ve bs (iW (clr p) b),one_add p b,D4,D5]
  rfl
theorem vf (p:aD) (a b:List Int):prun p (a++b)=prun (prun p a) b:=List.foldl_append ..
theorem oM {p:aD} (h:PI p) (hr:p.cC=d0) (b:Int):PI (cV p b).2∧(cV p b).2.out.length≤p.out.length+1:=by
 unfold cV
 split
 ·exact ⟨⟨h.di,fun _=>hr,h.nu,h.n0,h.n1,h.tx⟩,Nat.le_succ _⟩
 ·split
  ·exact ⟨⟨h.di,fun _=>hr,h.nu,h.n0,h.n1,h.tx⟩,Nat.le_succ _⟩
  ·split
   ·exact ⟨⟨h.di,fun _=>hr,h.nu,h.n0,h.n1,h.tx⟩,by simp [oa]⟩
   ·exact ⟨h,Nat.le_succ _⟩
theorem BU {p:aD} (h:PI p) (hs:p.state=0) {b:Int} (h0:0≤b) (h1:b < 256):PI (ku p b)∧(ku p b).out.length≤p.out.length+2:=by
 unfold ku
 have hl:(rI p.cC).length≤1:=by unfold rI; split <;> simp
 split
 ·have:=oM (p:=⟨p.state,p.order,p.text,d0,p.out++(rI p.cC).map prA⟩) ⟨DI0,fun _=>rfl,h.nu,h.n0,h.n1,h.tx⟩ rfl b
  refine ⟨this.1,Nat.le_trans this.2 ?_⟩
  simp
  omega
 ·obtain ⟨n1,n2,n3,n4⟩:=su h.di h0 h1
  exact ⟨⟨n2,fun hh=>absurd hs hh,h.nu,h.n0,h.n1,h.tx⟩,by simp [mI]; omega⟩
theorem tp {p:aD} (h:PI p) (hr:p.cC=d0) (b:Int):PI (gP p b)∧(gP p b).out.length≤p.out.length+1:=by
 unfold gP
 split
 ·exact oM h hr b
 ·split
  ·exact ⟨⟨h.di,fun _=>hr,by simp [o0],by simp [o0],by simp [o0],h.tx⟩,Nat.le_succ _⟩
  ·split
   ·exact ⟨⟨h.di,fun _=>hr,h.nu,h.n0,h.n1,by simp [ByteArray.size]⟩,Nat.le_succ _⟩
   ·split
    ·exact ⟨⟨h.di,fun _=>hr,h.nu,h.n0,h.n1,h.tx⟩,Nat.le_succ _⟩
    ·split
     ·exact ⟨⟨h.di,fun _=>hr,h.nu,h.n0,h.n1,h.tx⟩,by simp [oa,stP]⟩
     ·exact ⟨⟨h.di,fun _=>hr,h.nu,h.n0,h.n1,h.tx⟩,Nat.le_succ _⟩
theorem AJ {p:aD} (h:PI p) (hr:p.cC=d0) (b:Int):PI (nT p b)∧(nT p b).out.length≤p.out.length+1:=by
 unfold nT
 split
 ·exact oM h hr b
 ·split
  ·exact ⟨⟨h.di,fun _=>hr,h.nu,h.n0,h.n1,h.tx⟩,Nat.le_succ _⟩
  ·exact ⟨h,Nat.le_succ _⟩
theorem qD {o:dF} (h:o.bA.length≤16):(oc o).bA.length≤16:=by
 unfold oc
 dsimp only
 split
 ·simp; omega
 ·exact h
theorem BV {p:aD} (h:PI p) (hr:p.cC=d0) (b:Int):PI (kv p b)∧(kv p b).out.length≤p.out.length+1:=by
 unfold kv
 cases p.order.jv with
 | true=>exact ⟨⟨h.di,fun _=>hr,h.nu,h.n0,h.n1,h.tx⟩,Nat.le_succ _⟩
 | false =>
  cases p.order.some with
  | true=>exact ⟨⟨h.di,fun _=>hr,qD h.nu,Int.le_refl 0,show (0:Int)≤9999 from by decide,h.tx⟩,by simp⟩
  | false=>exact ⟨⟨h.di,fun _=>hr,h.nu,h.n0,h.n1,h.tx⟩,by simp⟩
theorem vg {p:aD} (h:PI p) (hr:p.cC=d0) {b:Int} (h0:0≤b):PI (iV p b)∧(iV p b).out.length≤p.out.length+1:=by
 unfold iV
 split
 ·exact oM h hr b
 ·split
  ·exact BV (p:=⟨p.state,FZ p.order,p.text,p.cC,p.out⟩) ⟨h.di,fun _=>hr,h.nu,h.n0,h.n1,h.tx⟩ hr b
  ·refine ⟨⟨h.di,fun _=>hr,?_,?_,?_,h.tx⟩,Nat.le_succ _⟩
   all_goals (dsimp only; unfold dA; split)
   ·exact h.nu
   ·split
    ·exact qD h.nu
    ·split <;> exact h.nu
   ·rename_i hh
    have:=h.n0
    unfold dQ
    dsimp only
    split <;> omega
   ·split
    ·exact Int.le_refl 0
    ·split <;> exact h.n0
   ·rename_i hh
    unfold dQ
    dsimp only
    split <;> omega
   ·split
    ·show (0:Int)≤9999; decide
    ·split <;> exact h.n1
theorem ur {p:aD} (h:PI p) (hr:p.cC=d0):PI (kP p)∧(kP p).out.length≤p.out.length+1:=⟨⟨h.di,fun _=>hr,h.nu,h.n0,h.n1,h.tx⟩,by have:=AH p.text; simp [kP]; omega⟩
theorem yF {p:aD} (h:PI p) (hr:p.cC=d0) (b:Int):PI (iZ p b)∧(iZ p b).out.length≤p.out.length+1:=by
 unfold iZ
 split
 ·exact ur h hr
 ·split
  ·exact ⟨⟨h.di,fun _=>hr,h.nu,h.n0,h.n1,h.tx⟩,Nat.le_succ _⟩
  ·split
   ·exact ⟨⟨h.di,fun _=>hr,h.nu,h.n0,h.n1,h.tx⟩,Nat.le_succ _⟩
   ·split
    ·rename_i ht
     refine ⟨⟨h.di,fun _=>hr,h.nu,h.n0,h.n1,?_⟩,Nat.le_succ _⟩
     dsimp only
     have e:(p.text++iP [b]).size=p.text.size+1:=by rw [← cG,lH,List.length_append,cG,cG,kp]; rfl
     omega
    ·exact ⟨h,Nat.le_succ _⟩
theorem zH {p:aD} (h:PI p) {b:Int} (h0:0≤b) (h1:b < 256):PI (iW p b)∧(iW p b).out.length≤p.out.length+2:=by
 unfold iW
 split
 ·rename_i hs; exact BU h hs h0 h1
 ·rename_i hs
  have hr:=h.gr hs
  have up: ∀ q:aD,PI q∧q.out.length≤p.out.length+1→PI q∧q.out.length≤p.out.length+2:=fun q hq=>⟨hq.1,by omega⟩
  split
  ·exact up _ (tp h hr b)
  ·split
   ·exact up _ (AJ h hr b)
   ·split
    ·exact up _ (vg h hr h0)
    ·split
     ·exact up _ (yF h hr b)
     ·split
      ·exact up _ (ur h hr)
      ·exact up _ (tp (p:=stP p 1) ⟨h.di,fun _=>hr,h.nu,h.n0,h.n1,h.tx⟩ hr b)
theorem nB: ∀ (bs:List Int) {p:aD},PI p→(∀ b∈bs,0≤b∧b < 256)→PI (prun p bs)∧(prun p bs).out.length≤p.out.length+2*bs.length
 | [],p,h,_=>⟨h,by simp [prun]⟩
 | b::bs,p,h,hb=>by
  obtain ⟨b0,b1⟩:=hb b List.mem_cons_self
  obtain ⟨k1,k2⟩:=zH h b0 b1
  obtain ⟨k3,k4⟩:=nB bs k1 fun x hx=>hb x (List.mem_cons_of_mem _ hx)
  exact ⟨k3,by show (prun (iW p b) bs).out.length≤_; simp; omega⟩
theorem F1 {p:aD} (h:PI p) {s:ByteArray} (hs:s.size≤400000):jj p s=some ((prun (clr p) (sbs s)).out,clr (prun (clr p) (sbs s))):=by
 unfold jj
 have hc:PI (clr p):=⟨h.di,h.gr,h.nu,h.n0,h.n1,h.tx⟩
 refine okE (bP (P:=fun y=>y=prun (clr p) (sbs s)) ?_ fun r hr=>by subst hr; exact aW rfl)
 refine jy (fun z:aD×Int=>0≤z.2∧z.2≤s.size∧z.1=prun (clr p) ((sbs s).take z.2.toNat)) (fun z=>s.size - z.2.toNat) ⟨Int.le_refl 0,by dsimp only; omega,rfl⟩ ?_
 rintro ⟨q,i⟩ ⟨h0,h1,h2⟩
 dsimp only at h0 h1 h2 ⊢
 subst h2
 have hby: ∀ b∈(sbs s).take i.toNat,0≤b∧b < 256:=fun b hb=>iU s b (List.mem_of_mem_take hb)
 obtain ⟨k1,k2⟩:=nB _ hc hby
 refine jw (fun hi=> ?_) fun hi=>aW (by rw [List.take_of_length_le (by rw [cG]; omega)])
 refine bP (nS h0 hi) fun b hb=> ?_
 obtain ⟨⟨b0,b1⟩,hbd⟩:=hb
 have hlen:((sbs s).take i.toNat).length=i.toNat:=by rw [List.length_take,cG]; omega
 have hco:(clr p).out.length=0:=rfl
 rw [F0 k1 (by omega) b0 b1,w64 (by omega) (by omega)]
 refine aW ⟨⟨by dsimp only; omega,by dsimp only; omega,?_⟩,by dsimp only; omega⟩
 dsimp only
 have ht:(sbs s).take (i+1).toNat=(sbs s).take i.toNat++[b]:=by
  rw [show (i+1).toNat=i.toNat+1 by omega,List.take_add_one]
  congr 1
  have:=congrArg (fun l=>l[0]?) hbd
  simp only [List.getElem?_drop,Nat.add_zero,List.getElem?_cons_zero] at this
  rw [this]
  rfl
 rw [ht,vf]
 rfl
end Go.Tw.X
set_option linter.unusedVariables false
set_option linter.unusedSimpArgs false
set_option maxHeartbeats 1000000
namespace Go.Tw.X
open Go Go.Tw
def tA (a:bB):aO:=⟨a.kind,a.rune,a.byte,a.cF,a.bA,a.text⟩
def t200 (s:ByteArray):ByteArray:=if 200 < s.size then mB s 0 200 else s
theorem sx (s:ByteArray):sbs (t200 s)=(sbs s).take 200:=by
 unfold t200
 split
 ·rw [show (0:Int)=((0:Nat):Int) from rfl,show (200:Int)=((200:Nat):Int) from rfl,p4,List.drop_zero]
 ·rw [List.take_of_length_le (by rw [cG]; omega)]
theorem xp {s:ByteArray} {l:List Int} (h:sbs s=l) (i:Nat) {b:Int} (hb:l[i]?=some b):kW s (i:Int)=some b:=by
 subst h
 obtain ⟨h1,h2⟩:=List.getElem?_eq_some_iff.1 hb
 rw [sb s i h1,h2]
theorem BW (s:ByteArray):jR s=some ((ttl (t200 s)).map tA):=by
 unfold jR
 have e1:((bif (decide ((s.size:Int) > 200)) then (Option.bind (chk (cW 0 200 s.size)) fun _=>some (mB s 0 200)) else some s):Option ByteArray)=some (t200 s):=by
  unfold t200
  by_cases h:200 < s.size
  ·rw [decide_eq_true (by omega),cond_true,bV (by decide) (by decide) (by omega),if_pos h]; rfl
  ·rw [decide_eq_false (by omega),cond_false,if_neg h]
 rw [e1,Option.bind_some]
 generalize t200 s=t
 have hz:t.size=(sbs t).length:=(cG t).symm
 unfold ttl
 match h:sbs t with
 | [] =>
  rw [h] at hz
  simp only [List.length_nil] at hz
  rw [decide_eq_false (by omega),cond_false,Option.bind_some]
  rfl
 | [x] =>
  rw [h] at hz
  simp only [List.length_cons,List.length_nil] at hz
  rw [decide_eq_false (by omega),cond_false,Option.bind_some]
  rfl
 | x::y::r =>
  rw [h] at hz
  have i0:kW t 0=some x:=xp h 0 rfl
  have i1:kW t 1=some y:=xp h 1 rfl
  simp only [List.length_cons] at hz
  rw [decide_eq_true (by omega),cond_true,i0,i1]
  simp only [Option.bind_some]
  have hcut:chk (cW 2 (t.size:Int) t.size)=some ():=bV (by decide) (by omega) (by omega)
  by_cases hy:y=59
  ·subst hy
   by_cases h1:x=48
   ·subst h1
    simp [hcut,tiA,tA]
   ·have e1:(x == 48)=false:=by simpa using h1
    by_cases h2:x=50
    ·subst h2
     simp [hcut,tiA,tA]
    ·have e2:(x == 50)=false:=by simpa using h2
     simp [e1,e2,h1,h2]
  ·have e3:(y == 59)=false:=by simpa using hy
   rw [e3,if_neg (fun hh=>hy hh.2)]
   cases (x == 48) <;> cases (x == 50) <;> rfl
def BX (o:dF):dF:=if o.some then oc o else o
def BY (bs:List Int):dF:=bs.foldl dA o0
def p8 (o:dF) (b:Int):List bB:=if o.jv then [] else [cmA (BX o) b]
theorem tq (p:aD) (b:Int):(kv p b).out=p.out++p8 p.order b:=by
 unfold kv p8 BX
 cases p.order.jv <;> simp [stP]
theorem tS: ∀ (bs:List Int) (o:dF),o.jv=true→(bs.foldl dA o).jv=true
 | [],o,h=>h
 | b::bs,o,h=>tS bs (dA o b) (by
   unfold dA
   split
   ·exact h
   ·split
    ·exact h
    ·split
     ·exact h
     ·rfl)
theorem zI {o:dF} (h:o.jv=true) (b:Int):p8 o b=[]:=by unfold p8; rw [h]; rfl
def rA (pr:Bool) (bA:List Int) (b:Int):aO:=⟨4,0,b,pr,bA,ByteArray.mk #[]⟩
theorem BZ (a b:Int):dQ a b=dQ b a:=by unfold dQ; split <;> split <;> omega
theorem D7 {s:ByteArray} (hs:s.size≤1000000) (last:Int):lj s last=some ((p8 (BY (sbs s)) last).map tA):=by
 unfold lj
 -- what the loop does
 have key: ∀ (t:ByteArray) (pr:Bool) (o:dF),t.size≤1000000→0 < t.size→o.cF=pr→o.jv=false→o.bA=[]→o.n=0→o.some=false→(o.any=false→(sbs t)[0]?≠some 63) →
   okO (Option.bind (iter (σ:=aO×Int×Int) (ρ:=aO ⊕ (List aO)) (fun b=>(bif (decide (b.2.2≤(t.size:Int))) then (Option.bind ((Option.bind ((bif (decide (b.2.2 < (t.size:Int))) then (Option.bind (kW t b.2.2) fun b1247=>(bif (decide (b1247≥48)) then (Option.bind (kW t b.2.2) fun b1251=>some (decide (b1251≤57))) else some false)) else some false):Option Bool) fun d=>(bif d then (Option.bind (kW t b.2.2) fun b1259=>some (.inl ((dQ 9999 (IntKind.i64.wrap ((IntKind.i64.wrap ((IntKind.i64.wrap (10*b.2.1))+(IntKind.i64.wrap b1259))) - 48))),b.1))) else (Option.bind ((bif (decide (b.2.2 < (t.size:Int))) then (Option.bind (kW t b.2.2) fun b1283=>(bif (b1283 != 59) then (Option.bind (kW t b.2.2) fun b1287=>some (b1287 != 58)) else some false)) else some false):Option Bool) fun f=>(bif f then (jH (nj (some ([]:List aO)))) else (Option.bind ((bif (decide ((b.1.bA.length:Int) < 16)) then (Option.bind (chk (dB b.1.bA.length [b.2.1].length 8)) fun _=>some (aO.mk b.1.kind b.1.rune b.1.byte b.1.cF (b.1.bA++[b.2.1]) b.1.text)) else some b.1):Option aO) fun g=>some (.inl (0,g))))))):Option ((Int×aO) ⊕ ((aO×Int×Int) ⊕ (aO ⊕ (List aO))))) fun | .inl e1222=>some (.inl (e1222.2,e1222.1,(IntKind.i64.wrap (b.2.2+1)))) | .inr w=>some w) else some (.inr (.inl b.1)))) (rA pr [] last,0,0)) fun | .inl e1007=>some [e1007] | .inr w=>some w)
    (fun r=>r=(p8 ((sbs t).foldl dA o) last).map tA):=by
  intro t pr o hsz hpos hpr hw hnu hn hso hany
  refine bP (P:=fun | .inl a=>[a]=(p8 ((sbs t).foldl dA o) last).map tA | .inr r=>r=(p8 ((sbs t).foldl dA o) last).map tA) ?_ ?_
  rotate_left
  ·rintro (a | r) h
   ·exact aW h
   ·exact aW h
  refine jy (fun z:aO×Int×Int=>0≤z.2.2∧z.2.2≤t.size+1∧(z.2.2≤t.size → ∃ q:dF,((sbs t).take z.2.2.toNat).foldl dA o=q∧q.jv=false∧q.cF=pr∧q.n=z.2.1∧z.1=rA pr q.bA last∧q.bA.length≤16∧0≤q.n∧q.n≤9999∧(q.any=false→z.2.2=0)∧(0 < z.2.2→q.some=true))∧(z.2.2=t.size+1→[z.1]=(p8 ((sbs t).foldl dA o) last).map tA)) (fun z=>t.size+1 - z.2.2.toNat) ⟨Int.le_refl 0,by dsimp only; omega,fun _=>⟨o,rfl,hw,hpr,hn,by rw [hnu],by rw [hnu]; simp,by omega,by omega,fun _=>rfl,fun hh=>absurd hh (by show ¬ (0:Int) < 0; decide)⟩,fun hh=>by dsimp only at hh; omega⟩ ?_
  rintro ⟨a,n,i⟩ ⟨h0,h1,h2,h3⟩
  dsimp only at h0 h1 h2 h3 ⊢
  refine jw (fun hi=> ?_) fun hi=>aW (h3 (by omega))
  obtain ⟨q,hq,q1,q2,q3,q4,q5,q6,q7,q8,q9⟩:=h2 hi
  subst q4
  subst q3
  by_cases hlt:i < t.size
  ·-- a byte
   obtain ⟨c,hc,⟨c0,c1⟩,hcd⟩:=nS h0 hlt
   have ht:(sbs t).take (i+1).toNat=(sbs t).take i.toNat++[c]:=by
    rw [show (i+1).toNat=i.toNat+1 by omega,List.take_add_one]
    congr 1
    have:=congrArg (fun l=>l[0]?) hcd
    simp only [List.getElem?_drop,Nat.add_zero,List.getElem?_cons_zero] at this
    rw [this]
    rfl
   have hstep:((sbs t).take (i+1).toNat).foldl dA o=dA q c:=by rw [ht,List.foldl_append,hq]; rfl
   have hall:(sbs t).foldl dA o=((sbs t).drop (i.toNat+1)).foldl dA (dA q c):=by
    conv=>lhs; rw [← List.take_append_drop (i+1).toNat (sbs t)]
    rw [List.foldl_append,hstep,show (i+1).toNat=i.toNat+1 by omega]
   have h63:c=63→q.any=true:=by
    intro e
    cases hh:q.any with
    | true=>rfl
    | false =>
     exfalso
     have hi0:=q8 hh
     subst hi0
     have hq0:o=q:=hq
     have:=congrArg (fun l=>l[0]?) hcd
     simp only [List.getElem?_drop,Nat.add_zero,List.getElem?_cons_zero] at this
     exact hany (by rw [hq0]; exact hh) (by rw [e] at this; exact this)
   rw [decide_eq_true hlt]
   simp only [cond_true,hc,Option.bind_some]
   by_cases hd:48≤c∧c≤57
   ·have hcq:dA q c=⟨q.cF,q.jv,true,true,dQ (10*q.n+(c - 48)) 9999,q.bA⟩:=by unfold dA; rw [if_pos hd]
    rw [decide_eq_true hd.1,decide_eq_true hd.2]
    simp only [cond_true,Option.bind_some]
    rw [w64 (x:=10*q.n) (by omega) (by omega),w64 (x:=c) (by omega) (by omega),w64 (x:=10*q.n+c) (by omega) (by omega),w64 (x:=10*q.n+c - 48) (by omega) (by omega),w64 (x:=i+1) (by omega) (by omega)]
    have him:dQ 9999 (10*q.n+c - 48)=dQ (10*q.n+(c - 48)) 9999:=by rw [BZ,show 10*q.n+c - 48=10*q.n+(c - 48) by omega]
    refine aW ⟨⟨by dsimp only; omega,by dsimp only; omega,fun _=>⟨dA q c,hstep,by rw [hcq]; exact q1,by rw [hcq]; exact q2,by rw [hcq]; exact him.symm,by rw [hcq],by rw [hcq]; exact q5,?_,?_,by rw [hcq]; simp,by rw [hcq]; simp⟩,fun hh=>by dsimp only at hh; omega⟩,by dsimp only; omega⟩
    ·rw [hcq]; dsimp only; unfold dQ; split <;> omega
    ·rw [hcq]; dsimp only; unfold dQ; split <;> omega
   ·have hfd:((bif (decide (c≥48)) then some (decide (c≤57)) else some false):Option Bool)=some false:=by
     by_cases hh:48≤c
     ·rw [decide_eq_true hh,decide_eq_false (by omega)]; rfl
     ·rw [decide_eq_false hh]; rfl
    rw [hfd]
    simp only [Option.bind_some,cond_false]
    by_cases hsep:c=59∨c=58
    ·have hfs:((bif (c != 59) then some (c != 58) else some false):Option Bool)=some false:=by rcases hsep with rfl | rfl <;> rfl
     have hcq:dA q c=⟨q.cF,q.jv,true,true,0,(oc q).bA⟩:=by unfold dA; rw [if_neg hd,if_pos hsep]
     rw [hfs]
     simp only [Option.bind_some,cond_false]
     have hpush:((bif (decide (((rA pr q.bA last).bA.length:Int) < 16)) then (Option.bind (chk (dB (rA pr q.bA last).bA.length [q.n].length 8)) fun _=>some (aO.mk (rA pr q.bA last).kind (rA pr q.bA last).rune (rA pr q.bA last).byte (rA pr q.bA last).cF ((rA pr q.bA last).bA++[q.n]) (rA pr q.bA last).text)) else some (rA pr q.bA last)):Option aO)=some (rA pr (oc q).bA last):=by
      unfold oc
      by_cases hl:q.bA.length < 16
      ·rw [decide_eq_true (show ((rA pr q.bA last).bA.length:Int) < 16 by show (q.bA.length:Int) < 16; omega),cond_true,bH (by show (q.bA.length+1)*8≤_; omega)]
       simp only [if_pos hl]
       rfl
      ·rw [decide_eq_false (show ¬ ((rA pr q.bA last).bA.length:Int) < 16 by show ¬ (q.bA.length:Int) < 16; omega),cond_false]
       simp only [if_neg hl]
     rw [hpush]
     simp only [Option.bind_some]
     rw [w64 (x:=i+1) (by omega) (by omega)]
     refine aW ⟨⟨by dsimp only; omega,by dsimp only; omega,fun _=>⟨dA q c,hstep,by rw [hcq]; exact q1,by rw [hcq]; exact q2,by rw [hcq],by rw [hcq],by rw [hcq]; exact qD q5,by rw [hcq]; exact Int.le_refl 0,by rw [hcq]; show (0:Int)≤9999; decide,by rw [hcq]; simp,by rw [hcq]; simp⟩,fun hh=>by dsimp only at hh; omega⟩,by dsimp only; omega⟩
    ·have hfs:((bif (c != 59) then some (c != 58) else some false):Option Bool)=some true:=by
      have x1:(c != 59)=true:=by simpa using (show ¬ c=59 by omega)
      have x2:(c != 58)=true:=by simpa using (show ¬ c=58 by omega)
      rw [x1,x2]; rfl
     have hcq:(dA q c).jv=true:=by
      unfold dA
      rw [if_neg hd,if_neg hsep]
      by_cases hh:c=63
      ·rw [if_neg (fun hx=>by rw [h63 hh] at hx; cases hx.2)]
      ·rw [if_neg (fun hx=>hh hx.1)]
     rw [hfs]
     simp only [Option.bind_some,cond_true]
     refine aW ?_
     show []=_
     rw [hall,zI (tS _ _ hcq)]
     rfl
  ·-- the end
   have hie:i=t.size:=by omega
   have hfull:(sbs t).foldl dA o=q:=by
    rw [← hq,List.take_of_length_le (by rw [cG]; omega)]
   have hsome:q.some=true:=q9 (by omega)
   rw [decide_eq_false hlt]
   simp only [cond_false,Option.bind_some]
   have hpush:((bif (decide (((rA pr q.bA last).bA.length:Int) < 16)) then (Option.bind (chk (dB (rA pr q.bA last).bA.length [q.n].length 8)) fun _=>some (aO.mk (rA pr q.bA last).kind (rA pr q.bA last).rune (rA pr q.bA last).byte (rA pr q.bA last).cF ((rA pr q.bA last).bA++[q.n]) (rA pr q.bA last).text)) else some (rA pr q.bA last)):Option aO)=some (rA pr (oc q).bA last):=by
    unfold oc
    by_cases hl:q.bA.length < 16
    ·rw [decide_eq_true (show ((rA pr q.bA last).bA.length:Int) < 16 by show (q.bA.length:Int) < 16; omega),cond_true,bH (by show (q.bA.length+1)*8≤_; omega)]
     simp only [if_pos hl]
     rfl
    ·rw [decide_eq_false (show ¬ ((rA pr q.bA last).bA.length:Int) < 16 by show ¬ (q.bA.length:Int) < 16; omega),cond_false]
     simp only [if_neg hl]
   rw [hpush]
   simp only [Option.bind_some]
   rw [w64 (x:=i+1) (by omega) (by omega)]
   refine aW ⟨⟨by dsimp only; omega,by dsimp only; omega,fun hh=>by dsimp only at hh; omega,fun _=> ?_⟩,by dsimp only; omega⟩
   dsimp only
   rw [hfull]
   unfold p8 BX
   rw [q1,hsome]
   simp only [Bool.false_eq_true,if_false,if_true,List.map_cons,List.map_nil]
   have:(oc q).cF=pr:=q2
   simp only [cmA,tA,rA,this]
 have hsz:s.size=(sbs s).length:=(cG s).symm
 have str0: ∀ x:ByteArray,(x.toList == (ByteArray.mk #[]).toList)=decide (x=noS):=fun x=>xa x noS
 match h:sbs s with
 | [] =>
  have hs0:s=noS:=(um s).2 h
  subst hs0
  simp only [str0,decide_true,Bool.not_true,cond_false,Option.bind_some,cond_true]
  rfl
 | c::r =>
  have hne: ¬ s=noS:=fun e=>by rw [(um s).1 e] at h; cases h
  have i0:kW s 0=some c:=xp h 0 rfl
  rw [h] at hsz
  simp only [List.length_cons] at hsz
  by_cases hc:c=63
  ·subst hc
   have hst:sbs (mB s 1 (s.size:Int))=r:=by
    rw [show (1:Int)=((1:Nat):Int) from rfl,p4,h,List.take_of_length_le (by simp; omega)]
    rfl
   simp only [str0,decide_eq_false hne,Bool.not_false,cond_true,i0,Option.bind_some,beq_self_eq_true]
   rw [bV (by decide) (by omega) (by omega)]
   simp only [Option.bind_some]
   by_cases hr:r=[]
   ·subst hr
    have ht:mB s 1 (s.size:Int)=noS:=(um _).2 hst
    rw [ht,decide_eq_true (show noS=noS from rfl),cond_true]
    rfl
   ·have ht: ¬ mB s 1 (s.size:Int)=noS:=fun e=>hr (by rw [← hst]; exact (um _).1 e)
    rw [decide_eq_false ht,cond_false]
    have hl:(mB s 1 (s.size:Int)).size=r.length:=by rw [← cG,hst]
    have hr0:0 < r.length:=List.length_pos_iff.2 hr
    have:=okE (key (mB s 1 (s.size:Int)) true (dA o0 63) (by omega) (by omega) rfl rfl rfl rfl rfl (fun hh=>by cases hh))
    rw [hst] at this
    exact this
  ·have e0:(c == 63)=false:=by simpa using hc
   simp only [str0,decide_eq_false hne,Bool.not_false,cond_true,i0,Option.bind_some,e0,cond_false]
   have:=okE (key s false o0 hs (by omega) rfl rfl rfl rfl rfl (fun _=>by rw [h]; simpa using hc))
   rw [h] at this
   exact this
end Go.Tw.X
set_option linter.unusedVariables false
set_option linter.unusedSimpArgs false
set_option maxHeartbeats 2000000
namespace Go.Tw.X
open Go Go.Tw
theorem B0 {l:List Int} (hl:l.length≤1000000):kG l=some (l.map fun r=>tA (prA r)):=by
 unfold kG
 refine okE (bP (P:=fun r=>r=l.map fun r=>tA (prA r)) ?_ fun r hr=>aW hr)
 refine jy (fun z:List aO×Int=>0≤z.2∧z.2≤l.length∧z.1=(l.take z.2.toNat).map fun r=>tA (prA r)) (fun z=>l.length - z.2.toNat) ⟨Int.le_refl 0,by dsimp only; omega,rfl⟩ ?_
 rintro ⟨o,i⟩ ⟨h0,h1,h2⟩
 dsimp only at h0 h1 h2 ⊢
 subst h2
 refine jw (fun hi=> ?_) fun hi=>aW (by rw [List.take_of_length_le (by omega)])
 obtain ⟨k,rfl⟩: ∃ k:Nat,i=k:=⟨i.toNat,by omega⟩
 have hk:k < l.length:=by omega
 refine bP (P:=fun x=>x=l[k]) ⟨_,cK l k hk,rfl⟩ fun x hx=> ?_
 subst hx
 refine bP (qX (by simp; omega)) fun _ _=> ?_
 rw [w64 (by omega) (by omega)]
 refine aW ⟨⟨by dsimp only; omega,by dsimp only; omega,?_⟩,by dsimp only; omega⟩
 dsimp only
 rw [show ((k:Int)+1).toNat=k+1 by omega]
 simp only [Int.toNat_natCast,List.take_add_one,List.getElem?_eq_getElem hk,Option.toList_some,List.map_append,List.map_cons,List.map_nil,prA,tA]
def np (b:Int):Prop:=32≤b∧b≠127
theorem AK: ∀ (bs:List Int) (p:aD) (base:List bB) (l:List Int),p.state=0→(∀ b∈bs,np b)→p.out=base++l.map prA→prun p bs=⟨0,p.order,p.text,(dfold p.cC l bs).1,base++(dfold p.cC l bs).2.map prA⟩
 | [],p,base,l,hs,_,ho=>by
  cases p
  simp only at hs ho
  subst hs ho
  rfl
 | b::bs,p,base,l,hs,hb,ho=>by
  have h1:=hb b List.mem_cons_self
  have e:iW p b=mI ⟨p.state,p.order,p.text,(kO p.cC b).1,p.out⟩ (kO p.cC b).2:=by
   unfold iW ku
   rw [if_pos hs,if_neg (by unfold np at h1; omega)]
  have:=AK bs (iW p b) base (l++(kO p.cC b).2) (by rw [e]; exact hs) (fun x hx=>hb x (List.mem_cons_of_mem _ hx)) (by rw [e]; simp [mI,ho])
  show prun (iW p b) bs=_
  rw [this,e]
  rfl
theorem yG: ∀ (bs:List Int) (d:bM) (l:List Int),DI d→(∀ b∈bs,0≤b∧b < 256)→DI (dfold d l bs).1
 | [],d,l,h,_=>h
 | b::bs,d,l,h,hb=>yG bs _ _ (su h (hb b List.mem_cons_self).1 (hb b List.mem_cons_self).2).2.1 fun x hx=>hb x (List.mem_cons_of_mem _ hx)
def p0:aD:=⟨0,o0,ByteArray.mk #[],d0,[]⟩
theorem yH:PI p0:=⟨DI0,fun h=>absurd rfl h,by simp [p0,o0],by simp [p0,o0],by simp [p0,o0],by simp [p0,ByteArray.size]⟩
structure RR (T:aD) (s:ByteArray) (o:List aO) (st e:Int) (bd:ByteArray) (p:aD):Prop where
 pi:PI p
 eo:o=p.out.map tA
 es:p.state=st
 s0:0≤st
 s4:st≤4
 gr:st=0→p.cC=d0
 co:st=3→p.order=BY (sbs bd)
 ti:st=4→p.text=t200 bd
 run:prun p ((sbs s).drop e.toNat)=T
theorem vh (o:dF) (b:Int):p8 (FZ o) b=p8 o b:=by
 unfold p8 BX FZ oc
 cases o.some <;> rfl
theorem B1 (s:ByteArray) (b:Int) (h0:0≤b) (h1:b < 256):BY (sbs (s++iP [b]))=dA (BY (sbs s)) b:=by
 rw [lH,ya _ (fun x hx=>by rw [List.mem_singleton.1 hx]; exact ⟨h0,h1⟩)]
 exact List.foldl_append ..
theorem B2 {s:ByteArray} {b:Int} (h0:0≤b) (h1:b < 256):t200 (s++iP [b])=if (t200 s).size < 200 then t200 s++iP [b] else t200 s:=by
 have hb:sbs (iP [b])=[b]:=ya _ (fun x hx=>by rw [List.mem_singleton.1 hx]; exact ⟨h0,h1⟩)
 have hz:(t200 s).size=min 200 (sbs s).length:=by rw [← cG,sx,List.length_take]
 apply xc
 rw [sx,lH,hb]
 split
 ·rename_i h
  rw [lH,hb,sx,List.take_of_length_le (by simp; omega),List.take_of_length_le (by omega)]
 ·rename_i h
  rw [sx,List.take_append_of_le_length (by omega)]
theorem Jk (q:aD) {c:Int} (h: ¬ c=92):iW (stP q 5) c=gP (stP q 1) c:=by
 unfold iW
 rw [show (stP q 5).state=5 from rfl,if_neg (by decide),if_neg (by decide),if_neg (by decide),if_neg (by decide),if_neg (by decide),if_neg h]
 rfl
theorem Ir (q:aD) {c:Int} (h:c=92):iW (stP q 5) c=kP (stP q 5):=by
 unfold iW
 rw [show (stP q 5).state=5 from rfl,if_neg (by decide),if_neg (by decide),if_neg (by decide),if_neg (by decide),if_neg (by decide),if_pos h]
theorem Jl (q:aD) (c:Int):iW (stP q 1) c=gP (stP q 1) c:=by
 unfold iW
 rw [show (stP q 1).state=1 from rfl,if_neg (by decide),if_pos rfl]
def FPm (T:aD) (s:ByteArray) (p:Int):(List aO×Int×Int×ByteArray) ⊕ (List aO ⊕ List aO)→Prop
 | .inl z=>(0≤z.2.2.1∧z.2.2.1≤s.size∧(z.1.length:Int)≤2*z.2.2.1∧(z.2.2.2.size:Int)≤z.2.2.1 ∧ ∃ q,RR T s z.1 z.2.1 z.2.2.1 z.2.2.2 q)∧s.size - z.2.2.1.toNat < s.size - p.toNat
 | .inr (.inl l)=>l=T.out.map tA
 | .inr (.inr l)=>l=T.out.map tA
theorem B3 {s:ByteArray} (hs:s.size≤100000):l6 s=some ((prun p0 (sbs s)).out.map tA):=by
 refine okE ?_
 generalize hT:prun p0 (sbs s)=T
 have hby:=iU s
 unfold l6
 refine bP (P:=fun | .inl l=>l=T.out.map tA | .inr l=>l=T.out.map tA) ?_ ?_
 rotate_left
 ·rintro (l | r) h
  ·exact aW h
  ·exact aW h
 refine jy (fun z:List aO×Int×Int×ByteArray=>0≤z.2.2.1∧z.2.2.1≤s.size∧(z.1.length:Int)≤2*z.2.2.1∧(z.2.2.2.size:Int)≤z.2.2.1 ∧ ∃ q,RR T s z.1 z.2.1 z.2.2.1 z.2.2.2 q) (fun z=>s.size - z.2.2.1.toNat) ⟨Int.le_refl 0,by dsimp only; omega,by simp,by simp [ByteArray.size],p0,yH,rfl,rfl,by decide,by decide,fun _=>rfl,fun h=>(by cases h),fun h=>(by cases h),hT⟩ ?_
 rintro ⟨o,st,p,bd⟩ ⟨h0,h1,h2,h4,q,hq⟩
 dsimp only at h0 h1 h2 h4 hq ⊢
 refine jw (fun hp=> ?_) fun hp=> ?_
 rotate_left
 ·have:=hq.run
  rw [mf (by omega)] at this
  exact aW (by show o=_; rw [hq.eo,← this]; rfl)
 -- up to the next byte that is none of the ground
 refine bP (P:=fun | .inl z=>p≤z.2∧z.2 < s.size∧(z.1.length:Int)≤2*z.2+1∧(∃ q',PI q'∧z.1=q'.out.map tA∧q'.state=st∧(st=3→q'.order=BY (sbs bd))∧(st=4→q'.text=t200 bd)∧((st=0∧q'.cC=d0 ∧ ∀ b,(sbs s).drop z.2.toNat=b::(sbs s).drop (z.2.toNat+1) → ¬ np b∧prun (cV q' b).2 ((sbs s).drop (z.2.toNat+1))=T)∨(st≠0∧prun q' ((sbs s).drop z.2.toNat)=T))) | .inr (.inl _)=>False | .inr (.inr (.inl _))=>False | .inr (.inr (.inr l))=>l=T.out.map tA) ?_ ?_
 ·refine ok_eq (fun hst=> ?_) fun hst=>aW ⟨by dsimp only; omega,hp,by dsimp only; omega,q,hq.pi,hq.eo,hq.es,hq.co,hq.ti,.inr ⟨hst,hq.run⟩⟩
  subst hst
  refine bP (P:=fun e=>p≤e∧e≤s.size∧(∀ b∈((sbs s).drop p.toNat).take (e.toNat - p.toNat),np b)∧(e < s.size → ∀ b,(sbs s).drop e.toNat=b::(sbs s).drop (e.toNat+1) → ¬ np b)) ?_ fun e he=> ?_
  ·refine jy (fun e:Int=>p≤e∧e≤s.size∧(∀ b∈((sbs s).drop p.toNat).take (e.toNat - p.toNat),np b)) (fun e=>s.size - e.toNat) ⟨by omega,by omega,by simp⟩ ?_
   rintro e ⟨g0,g1,g2⟩
   refine bP (P:=fun c=>(c=true→e < s.size ∧ ∃ b,(sbs s).drop e.toNat=b::(sbs s).drop (e.toNat+1)∧np b)∧(c=false→e < s.size → ∀ b,(sbs s).drop e.toNat=b::(sbs s).drop (e.toNat+1) → ¬ np b)) ?_ fun c hc=> ?_
   ·refine jw (fun h=> ?_) fun h=>aW ⟨fun e=>(by cases e),fun _ hh=>absurd hh h⟩
    obtain ⟨b,hb,hb2,hbd⟩:=nS (show 0≤e by omega) h
    rw [hb]
    simp only [Option.bind_some]
    by_cases hb32:b≥32
    ·rw [decide_eq_true hb32,cond_true]
     refine aW ⟨fun hh=>⟨h,b,hbd,hb32,by simpa using hh⟩,fun hh _ b' hb'=> ?_⟩
     rw [hbd] at hb'
     injection hb' with e1 _
     subst e1
     unfold np
     have:b=127:=by simpa using hh
     omega
    ·rw [decide_eq_false hb32,cond_false]
     refine aW ⟨fun hh=>(by cases hh),fun hh _ b' hb'=> ?_⟩
     rw [hbd] at hb'
     injection hb' with e1 _
     subst e1
     unfold np
     omega
   ·refine nm (fun h=> ?_) fun h=>aW ⟨g0,g1,g2,hc.2 h⟩
    obtain ⟨k1,b,k2,k3⟩:=hc.1 h
    rw [w64 (x:=e+1) (by omega) (by omega)]
    refine aW ⟨⟨by omega,by omega,?_⟩,by omega⟩
    rw [show (e+1).toNat - p.toNat=(e.toNat - p.toNat)+1 by omega,List.take_add_one]
    intro x hx
    rcases List.mem_append.1 hx with hx | hx
    ·exact g2 x hx
    ·have e1:((sbs s).drop p.toNat)[e.toNat - p.toNat]?=some b:=by
      have:=congrArg (fun l=>l[0]?) k2
      simp only [List.getElem?_drop,Nat.add_zero,List.getElem?_cons_zero] at this
      rw [List.getElem?_drop,show p.toNat+(e.toNat - p.toNat)=e.toNat by omega]
      exact this
     rw [e1] at hx
     simp at hx
     rw [hx]
     exact k3
  ·obtain ⟨g0,g1,g2,g3⟩:=he
   refine bP (td h0 g0 (by omega)) fun _ _=> ?_
   have hz:=va s h0 g0 g1
   have hseg:sbs (mB s p e)=((sbs s).drop p.toNat).take (e.toNat - p.toNat):=by
    have:=p4 s p.toNat e.toNat
    rw [Int.toNat_of_nonneg h0,Int.toNat_of_nonneg (show 0≤e by omega)] at this
    rw [this,List.drop_take]
   refine bP (DW (by omega)) fun r hr=> ?_
   obtain ⟨⟨r1,r2,r3⟩,r4,r5⟩:=hr
   rw [hseg] at r1 r3
   rw [B0 (by omega),Option.bind_some]
   have hlr:(r.1.map fun r=>tA (prA r)).length=r.1.length:=List.length_map ..
   refine bP (qX (by rw [hlr]; omega)) fun _ _=> ?_
   -- the parser behind the piece
   have hrun:=AK _ q q.out [] hq.es g2 (by simp)
   rw [hq.gr rfl] at hrun
   have hdi:=yG (((sbs s).drop p.toNat).take (e.toNat - p.toNat)) d0 [] DI0 (fun b hb=>hby b (List.mem_of_mem_drop (List.mem_of_mem_take hb)))
   have hsplit:(sbs s).drop p.toNat=((sbs s).drop p.toNat).take (e.toNat - p.toNat)++(sbs s).drop e.toNat:=by
    conv=>lhs; rw [← List.take_append_drop (e.toNat - p.toNat) ((sbs s).drop p.toNat)]
    rw [List.drop_drop,show p.toNat+(e.toNat - p.toNat)=e.toNat by omega]
   have hT2:=hq.run
   rw [hsplit,vf,hrun,← r1] at hT2
   have hmap:(r.1.map fun r=>tA (prA r))=(r.1.map prA).map tA:=by rw [List.map_map]; rfl
   refine ok_eq (fun hee=> ?_) fun hne=> ?_
   ·refine xe (xf (aW ?_))
    rw [mf hee] at hT2
    show o++_=_
    rw [← hT2,hq.eo,hmap,← List.map_append]
    rfl
   ·have hend:rI (dfold d0 [] (((sbs s).drop p.toNat).take (e.toNat - p.toNat))).1=if 0 < r.2 then [65533] else []:=by
     unfold rI
     by_cases hr2:0 < r.2
     ·rw [if_pos hr2,if_neg (by have:=r3.1 hr2; omega)]
     ·rw [if_neg hr2,if_pos (by have:=mt r3.2 hr2; omega)]
    refine bP (P:=fun l=>l=(q.out++r.1.map prA++(rI (dfold d0 [] (((sbs s).drop p.toNat).take (e.toNat - p.toNat))).1).map prA).map tA∧(l.length:Int)≤2*e+1) ?_ fun l hl=> ?_
    ·rw [hend]
     refine jw (fun h=> ?_) fun h=> ?_
     ·rw [if_pos h]
      refine bP (qX (by rw [List.length_append,hlr]; simp; omega)) fun _ _=>aW ⟨?_,by rw [List.length_append,List.length_append,hlr]; simp; omega⟩
      rw [hq.eo,hmap]
      simp [tA,prA]
     ·rw [if_neg h]
      refine aW ⟨?_,by rw [List.length_append,hlr]; omega⟩
      rw [hq.eo,hmap]
      simp
    ·refine aW ⟨g0,by dsimp only; omega,hl.2,⟨0,q.order,q.text,d0,q.out++r.1.map prA++(rI (dfold d0 [] (((sbs s).drop p.toNat).take (e.toNat - p.toNat))).1).map prA⟩,⟨DI0,fun _=>rfl,hq.pi.nu,hq.pi.n0,hq.pi.n1,hq.pi.tx⟩,hl.1,rfl,fun h=>(by cases h),fun h=>(by cases h),.inl ⟨rfl,rfl,fun b hb=> ?_⟩⟩
     dsimp only at hb ⊢
     have hnp:=g3 (by omega) b hb
     refine ⟨hnp,?_⟩
     rw [hb] at hT2
     rw [← hT2]
     show _=prun (iW _ b) _
     unfold iW ku
     rw [if_pos rfl,if_pos (by unfold np at hnp; omega)]
 ·rintro (⟨o1,e⟩ | (l | (l | l))) hl
  rotate_left
  ·exact hl.elim
  ·exact hl.elim
  ·exact aW hl
  obtain ⟨g0,g1,g3,q',k1,k2,k3,k4,k5,k6⟩:=hl
  dsimp only at g0 g1 g3 k2 k6 ⊢
  have hs0:=hq.s0
  have hs4:=hq.s4
  refine Fv (P:=FPm T s p) ?_ (by rintro (z | (l | l)) h <;> exact h)
  refine bP (nS (by omega) g1) fun b hb=> ?_
  obtain ⟨hb,hbd⟩:=hb
  have w1:IntKind.i64.wrap (e+1)=e+1:=w64 (by omega) (by omega)
  have w2:IntKind.i64.wrap (e+1+1)=e+1+1:=w64 (by omega) (by omega)
  have wb:IntKind.i64.wrap b=b:=w64 (by omega) (by omega)
  have wu:IntKind.u8.wrap b=b:=by simp [IntKind.wrap,IntKind.bits,IntKind.signed]; omega
  simp only [w1,w2,wb,wu]
  have ee:(e+1).toNat=e.toNat+1:=by omega
  have hr:q'.cC=d0:=by
   rcases k6 with ⟨a1,a2,a3⟩ | ⟨a1,a2⟩
   ·exact a2
   ·exact k1.gr (by rw [k3]; exact a1)
  have fin: ∀ (o':List aO) (st' p':Int) (bd':ByteArray) (q2:aD),(o'.length:Int)≤2*p'→p+1≤p'→p'≤s.size→(bd'.size:Int)≤p'→RR T s o' st' p' bd' q2→FPm T s p (.inl (o',st',p',bd')):=fun o' st' p' bd' q2 a2 a3 a4 a5 a6=>⟨⟨by dsimp only; omega,a4,a2,a5,q2,a6⟩,by dsimp only; omega⟩
  have ap1: ∀ {l:List aO},l.length≤1→okO (chk (dB o1.length l.length 72)) (fun _=>True):=fun {l} hl=>qX (by omega)
  have bsz:(iP [b]).size=1:=by rw [kp]; rfl
  have la: ∀ {l:List aO},l.length≤1→((o1++l).length:Int)≤2*(e+1):=fun {l} hl=>by rw [List.length_append]; omega
  have htl: ∀ t:ByteArray,((ttl t).map tA).length≤1:=fun t=>by rw [List.length_map]; exact AH t
  refine ok_eq (fun h4s=> ?_) fun h4s=> ?_
  ·-- within a title
   subst h4s
   have k6':prun (iZ q' b) ((sbs s).drop (e.toNat+1))=T:=by
    rcases k6 with ⟨a1,a2,a3⟩ | ⟨a1,a2⟩
    ·cases a1
    ·rw [hbd] at a2
     have:iW q' b=iZ q' b:=by
      unfold iW
      rw [k3]
      rfl
     rw [← this]
     exact a2
   have ht:=k5 rfl
   have hst:=BW bd
   refine bP (P:=fun | .inl z=>FPm T s p (.inl z) | .inr (.inl _)=>False | .inr (.inr (.inl _))=>False | .inr (.inr (.inr l))=>l=T.out.map tA) ?_ ?_
   ·refine ok_eq (fun hb7=> ?_) fun hb7=> ?_
    ·rw [hst,Option.bind_some]
     refine bP (ap1 (htl _)) fun _ _=>aW (fin _ _ _ _ (kP q') (la (htl _)) (by omega) (by omega) (by omega) ⟨(ur k1 hr).1,?_,rfl,by decide,by decide,fun _=>hr,fun h=>(by cases h),fun h=>(by cases h),?_⟩)
     ·rw [k2,← ht]; simp [kP]
     ·rw [ee]
      have:iZ q' b=kP q':=if_pos hb7
      rw [← this]
      exact k6'
    ·refine bP (P:=fun c=>c=true↔(b=24∨b=26)) (ok_eq (fun h=>aW (by simp [h])) fun h=>aW (by simp [h])) fun c hc=> ?_
     refine nm (fun h=> ?_) fun h=> ?_
     ·have:iZ q' b=stP q' 0:=by unfold iZ; rw [if_neg hb7,if_pos (hc.1 h)]
      rw [this] at k6'
      exact aW (fin _ _ _ _ (stP q' 0) (by omega) (by omega) (by omega) (by omega) ⟨⟨k1.di,fun _=>hr,k1.nu,k1.n0,k1.n1,k1.tx⟩,k2,rfl,by decide,by decide,fun _=>hr,fun h=>(by cases h),fun h=>(by cases h),by rw [ee]; exact k6'⟩)
     ·have hn2: ¬ (b=24∨b=26):=fun hh=>by rw [hc.2 hh] at h; cases h
      refine HY (fun h27=> ?_) fun h27=> ?_
      ·have hti:=(yF k1 hr b).1
       have htt:iZ q' b=if q'.text.size < 200 then ⟨q'.state,q'.order,q'.text++iP [b],q'.cC,q'.out⟩ else q':=by unfold iZ; rw [if_neg hb7,if_neg hn2,if_neg h27]
       refine bP (At (by rw [bsz]; omega)) fun _ _=>aW (fin _ _ _ _ (iZ q' b) (by omega) (by omega) (by omega) (by rw [ByteArray.size_append,bsz]; omega) ⟨hti,?_,?_,by decide,by decide,fun h=>(by cases h),fun h=>(by cases h),fun _=> ?_,by rw [ee]; exact k6'⟩)
       ·rw [k2,htt]; split <;> rfl
       ·rw [htt]; split <;> exact k3
       ·rw [htt,B2 hb.1 hb.2,← ht]; split <;> rfl
      ·have htt:iZ q' b=stP q' 5:=by unfold iZ; rw [if_neg hb7,if_neg hn2,if_pos h27]
       rw [htt] at k6'
       refine ok_eq (fun hend=> ?_) fun hend=> ?_
       ·rw [show e.toNat+1=(e+1).toNat by omega,mf hend] at k6'
        exact xe (xf (aW (by show o1=_; rw [k2,← k6']; rfl)))
       ·refine bP (nS (by omega) (by omega)) fun c hc=> ?_
        obtain ⟨hc,hcd⟩:=hc
        rw [show (e+1).toNat=e.toNat+1 by omega] at hcd
        rw [hcd] at k6'
        refine ok_eq (fun hc92=> ?_) fun hc92=> ?_
        ·rw [hst,Option.bind_some]
         have hov:iW (stP q' 5) c=kP (stP q' 5):=Ir q' hc92
         refine bP (ap1 (htl _)) fun _ _=>aW (fin _ _ _ _ (kP (stP q' 5)) (by have:=la (htl (t200 bd)); omega) (by omega) (by omega) (by omega) ⟨(ur (p:=stP q' 5) ⟨k1.di,fun _=>hr,k1.nu,k1.n0,k1.n1,k1.tx⟩ hr).1,?_,rfl,by decide,by decide,fun _=>hr,fun h=>(by cases h),fun h=>(by cases h),?_⟩)
         ·rw [k2,← ht]; simp [kP,stP]
         ·rw [show (e+1+1).toNat=e.toNat+1+1 by omega,← hov]
          exact k6'
        ·have hes:iW (stP q' 5) c=iW (stP q' 1) c:=(Jk q' hc92).trans (Jl q' c).symm
         refine aW (fin _ _ _ _ (stP q' 1) (by omega) (by omega) (by omega) (by omega) ⟨⟨k1.di,fun _=>hr,k1.nu,k1.n0,k1.n1,k1.tx⟩,k2,rfl,by decide,by decide,fun _=>hr,fun h=>(by cases h),fun h=>(by cases h),?_⟩)
         rw [show (e+1).toNat=e.toNat+1 by omega,hcd]
         show prun (iW (stP q' 1) c) _=T
         rw [← hes]
         exact k6'
   ·rintro (⟨o',st',p',bd'⟩ | (l | (l | l))) hl
    ·exact aW hl
    ·exact hl.elim
    ·exact hl.elim
    ·exact aW hl
  ·-- elsewhere
   have hcom:(cV q' b).1=true→prun (cV q' b).2 ((sbs s).drop (e.toNat+1))=T:=by
    intro hc
    rcases k6 with ⟨a1,a2,a3⟩ | ⟨a1,a2⟩
    ·exact (a3 b hbd).2
    ·rw [hbd] at a2
     have:iW q' b=(cV q' b).2:=by
      unfold iW
      rw [k3,if_neg a1]
      have h123:st=1∨st=2∨st=3:=by omega
      rcases h123 with rfl | rfl | rfl
      ·rw [if_pos rfl]; unfold gP; rw [if_pos hc]
      ·rw [if_neg (by decide),if_pos rfl]; unfold nT; rw [if_pos hc]
      ·rw [if_neg (by decide),if_neg (by decide),if_pos rfl]; unfold iV; rw [if_pos hc]
     rw [← this]
     exact a2
   have hcP:=(oM k1 hr b).1
   refine bP (P:=fun c=>c=true↔(b=24∨b=26)) (ok_eq (fun h=>aW (by simp [h])) fun h=>aW (by simp [h])) fun c hc=> ?_
   refine nm (fun h=> ?_) fun h=> ?_
   ·have hq2:cV q' b=(true,stP q' 0):=if_pos (hc.1 h)
    rw [hq2] at hcom hcP
    exact aW (fin _ _ _ _ (stP q' 0) (by omega) (by omega) (by omega) (by omega) ⟨hcP,k2,rfl,by decide,by decide,fun _=>hr,fun h=>(by cases h),fun h=>(by cases h),by rw [ee]; exact hcom rfl⟩)
   have hn2: ¬ (b=24∨b=26):=fun hh=>by rw [hc.2 hh] at h; cases h
   refine ok_eq (fun h27=> ?_) fun h27=> ?_
   ·have hq2:cV q' b=(true,stP q' 1):=by unfold cV; rw [if_neg hn2,if_pos h27]
    rw [hq2] at hcom hcP
    exact aW (fin _ _ _ _ (stP q' 1) (by omega) (by omega) (by omega) (by omega) ⟨hcP,k2,rfl,by decide,by decide,fun _=>hr,fun h=>(by cases h),fun h=>(by cases h),by rw [ee]; exact hcom rfl⟩)
   refine jw (fun h32=> ?_) fun h32=> ?_
   ·have hq2:cV q' b=(true,oa q' (ctA b)):=by unfold cV; rw [if_neg hn2,if_neg h27,if_pos h32]
    rw [hq2] at hcom hcP
    refine bP (ap1 (by simp)) fun _ _=>aW (fin _ _ _ _ (oa q' (ctA b)) (la (by simp)) (by omega) (by omega) (by omega) ⟨hcP,?_,k3,hs0,hs4,fun _=>hr,k4,k5,by rw [ee]; exact hcom rfl⟩)
    rw [k2]; simp [oa,tA,ctA]
   have hq2:cV q' b=(b == 127,q'):=by unfold cV; rw [if_neg hn2,if_neg h27,if_neg h32]
   refine ok_eq (fun h127=> ?_) fun h127=> ?_
   ·rw [hq2] at hcom hcP
    exact aW (fin _ _ _ _ q' (by omega) (by omega) (by omega) (by omega) ⟨hcP,k2,k3,hs0,hs4,fun _=>hr,k4,k5,by rw [ee]; exact hcom (by simpa using h127)⟩)
   have hc1:(cV q' b).1=false:=by rw [hq2]; simpa using h127
   -- not on the ground
   have hst0:st≠0∧prun (iW q' b) ((sbs s).drop (e.toNat+1))=T:=by
    rcases k6 with ⟨a1,a2,a3⟩ | ⟨a1,a2⟩
    ·exact absurd (show np b from ⟨by omega,h127⟩) (a3 b hbd).1
    ·rw [hbd] at a2
     exact ⟨a1,a2⟩
   obtain ⟨hst0,hrn⟩:=hst0
   have hz0:((ByteArray.mk #[]).size:Int)=0:=rfl
   refine ok_eq (fun hs1=> ?_) fun hs1=> ?_
   ·subst hs1
    have ho:iW q' b=gP q' b:=by unfold iW; rw [k3,if_neg (by decide),if_pos rfl]
    have hPI:=(tp k1 hr b).1
    rw [ho] at hrn
    unfold gP at hrn hPI
    rw [if_neg (by rw [hc1]; decide)] at hrn hPI
    refine ok_eq (fun h91=> ?_) fun h91=> ?_
    ·rw [if_pos h91] at hrn hPI
     exact aW (fin _ _ _ _ _ (by omega) (by omega) (by omega) (by omega) ⟨hPI,k2,rfl,by decide,by decide,fun h=>(by cases h),fun _=>rfl,fun h=>(by cases h),by rw [ee]; exact hrn⟩)
    rw [if_neg h91] at hrn hPI
    refine ok_eq (fun h93=> ?_) fun h93=> ?_
    ·rw [if_pos h93] at hrn hPI
     exact aW (fin _ _ _ _ _ (by omega) (by omega) (by omega) (by omega) ⟨hPI,k2,rfl,by decide,by decide,fun h=>(by cases h),fun h=>(by cases h),fun _=>rfl,by rw [ee]; exact hrn⟩)
    rw [if_neg h93] at hrn hPI
    refine jw (fun h48=> ?_) fun h48=> ?_
    ·rw [if_pos h48] at hrn hPI
     exact aW (fin _ _ _ _ _ (by omega) (by omega) (by omega) (by omega) ⟨hPI,k2,rfl,by decide,by decide,fun h=>(by cases h),fun h=>(by cases h),fun h=>(by cases h),by rw [ee]; exact hrn⟩)
    rw [if_neg h48] at hrn hPI
    refine jw (fun hd=> ?_) fun hd=> ?_
    ·rw [if_pos hd] at hrn hPI
     refine bP (ap1 (by simp)) fun _ _=>aW (fin _ _ _ _ _ (la (by simp)) (by omega) (by omega) (by omega) ⟨hPI,?_,rfl,by decide,by decide,fun _=>hr,fun h=>(by cases h),fun h=>(by cases h),by rw [ee]; exact hrn⟩)
     rw [k2]; simp [stP,oa,tA,Iq]
    ·rw [if_neg hd] at hrn hPI
     exact aW (fin _ _ _ _ _ (by omega) (by omega) (by omega) (by omega) ⟨hPI,k2,rfl,by decide,by decide,fun _=>hr,fun h=>(by cases h),fun h=>(by cases h),by rw [ee]; exact hrn⟩)
   ·refine ok_eq (fun hs2=> ?_) fun hs2=> ?_
    ·subst hs2
     have ho:iW q' b=nT q' b:=by unfold iW; rw [k3,if_neg (by decide),if_neg (by decide),if_pos rfl]
     have hPI:=(AJ k1 hr b).1
     rw [ho] at hrn
     unfold nT at hrn hPI
     rw [if_neg (by rw [hc1]; decide)] at hrn hPI
     refine jw (fun h48=> ?_) fun h48=> ?_
     ·rw [if_pos h48] at hrn hPI
      exact aW (fin _ _ _ _ _ (by omega) (by omega) (by omega) (by omega) ⟨hPI,k2,rfl,by decide,by decide,fun _=>hr,fun h=>(by cases h),fun h=>(by cases h),by rw [ee]; exact hrn⟩)
     ·rw [if_neg h48] at hrn hPI
      exact aW (fin _ _ _ _ _ (by omega) (by omega) (by omega) (by omega) ⟨hPI,k2,k3,by decide,by decide,fun _=>hr,fun h=>(by cases h),fun h=>(by cases h),by rw [ee]; exact hrn⟩)
    ·refine ok_eq (fun hs3=> ?_) fun hs3=>absurd (show st=1∨st=2∨st=3 by omega) (by omega)
     subst hs3
     have ho:iW q' b=iV q' b:=by unfold iW; rw [k3,if_neg (by decide),if_neg (by decide),if_neg (by decide),if_pos rfl]
     have hPI:=(vg k1 hr (b:=b) hb.1).1
     rw [ho] at hrn
     unfold iV at hrn hPI
     rw [if_neg (by rw [hc1]; decide)] at hrn hPI
     have hord:=k4 rfl
     refine bP (P:=fun c=>c=true ↔ ¬ (64≤b∧b < 127)) (jw (fun h=>aW (by simp; omega)) fun h=>aW (by simp; omega)) fun c hc=> ?_
     refine nm (fun h=> ?_) fun h=> ?_
     ·rw [if_neg (hc.1 h)] at hrn hPI
      refine bP (At (by rw [bsz]; omega)) fun _ _=>aW (fin _ _ _ _ _ (by omega) (by omega) (by omega) (by rw [ByteArray.size_append,bsz]; omega) ⟨hPI,k2,k3,by decide,by decide,fun h=>(by cases h),fun _=> ?_,fun h=>(by cases h),by rw [ee]; exact hrn⟩)
      show dA q'.order b=_
      rw [B1 _ _ hb.1 hb.2,← hord]
     ·have h64:64≤b∧b < 127:=Classical.byContradiction fun hh=>by rw [hc.2 hh] at h; cases h
      rw [if_pos h64] at hrn hPI
      rw [D7 (by omega),Option.bind_some]
      have hl1:((p8 (BY (sbs bd)) b).map tA).length≤1:=by rw [List.length_map]; unfold p8; split <;> simp
      refine bP (ap1 hl1) fun _ _=>aW (fin _ _ _ _ _ (la hl1) (by omega) (by omega) (by omega) ⟨hPI,?_,?_,by decide,by decide,fun _=> ?_,fun h=>(by cases h),fun h=>(by cases h),by rw [ee]; exact hrn⟩)
      ·rw [tq,vh,k2,hord]; simp
      ·unfold kv; split <;> rfl
      ·unfold kv; split <;> exact hr
end Go.Tw.X
set_option linter.unusedVariables false
set_option linter.unusedSimpArgs false
set_option maxHeartbeats 1000000
namespace Go.Tw.X
open Go Go.Tw
def aOk (a:bB):Prop:=rok a.rune∧0≤a.byte∧a.byte < 256∧a.bA.length≤16
def pF (l:List bB):Prop:= ∀ a∈l,aOk a
theorem oN {a b:List bB} (ha:pF a) (hb:pF b):pF (a++b):=fun x h=>(List.mem_append.1 h).elim (ha x) (hb x)
theorem sA {a:bB} (h:aOk a):pF [a]:=fun x hx=>by rw [List.mem_singleton.1 hx]; exact h
theorem AL {l:List Int} (h:vb l):pF (l.map prA):=fun x hx=>by
 obtain ⟨r,hr,rfl⟩:=List.mem_map.1 hx
 exact ⟨h r hr,by show (0:Int)≤0; decide,by show (0:Int) < 256; decide,by show 0≤16; decide⟩
theorem D8 (t:ByteArray):pF (ttl t):=by
 have hz:rok 0:=⟨by decide,by decide⟩
 unfold ttl
 split
 ·split
  ·exact sA ⟨hz,by show (0:Int)≤0; decide,by show (0:Int) < 256; decide,by show 0≤16; decide⟩
  ·exact fun x hx=>by cases hx
 ·exact fun x hx=>by cases hx
theorem qE {p:aD} (h:pF p.out) {b:Int} (h0:0≤b) (h1:b < 256):pF (cV p b).2.out:=by
 have hz:rok 0:=⟨by decide,by decide⟩
 unfold cV
 split
 ·exact h
 ·split
  ·exact h
  ·split
   ·exact oN h (sA ⟨hz,h0,h1,by show 0≤16; decide⟩)
   ·exact h
theorem Ho {p:aD} (hp:PI p) (h:pF p.out) {b:Int} (h0:0≤b) (h1:b < 256):pF (iW p b).out:=by
 have hz:rok 0:=⟨by decide,by decide⟩
 have hesc: ∀ q:aD,pF q.out→pF (gP q b).out:=fun q hq=>by
  unfold gP
  split
  ·exact qE hq h0 h1
  ·repeat' split
   all_goals first | exact hq | exact oN hq (sA ⟨hz,h0,h1,by show 0≤16; decide⟩)
 have hov: ∀ q:aD,pF q.out→pF (kP q).out:=fun q hq=>oN hq (D8 _)
 unfold iW
 split
 ·unfold ku
  split
  ·refine qE (oN h (AL fun x hx=> ?_)) h0 h1
   unfold rI at hx
   split at hx
   ·cases hx
   ·rw [List.mem_singleton.1 hx]; exact ⟨by decide,by decide⟩
  ·exact oN h (AL (su hp.di h0 h1).2.2.2)
 ·split
  ·exact hesc p h
  ·split
   ·unfold nT
    split
    ·exact qE h h0 h1
    ·split <;> exact h
   ·split
    ·unfold iV
     split
     ·exact qE h h0 h1
     ·split
      ·rw [tq,vh]
       refine oN h ?_
       unfold p8
       split
       ·exact fun x hx=>by cases hx
       ·refine sA ⟨hz,h0,h1,?_⟩
        show (BX p.order).bA.length≤16
        unfold BX
        split
        ·exact qD hp.nu
        ·exact hp.nu
      ·exact h
    ·split
     ·unfold iZ
      repeat' split
      all_goals first | exact h | exact hov p h
     ·split
      ·exact hov p h
      ·exact hesc (stP p 1) h
theorem uu: ∀ (bs:List Int) {p:aD},PI p→pF p.out→(∀ b∈bs,0≤b∧b < 256)→pF (prun p bs).out
 | [],p,_,h,_=>h
 | b::bs,p,hp,h,hb=>by
  obtain ⟨b0,b1⟩:=hb b List.mem_cons_self
  exact uu bs (zH hp b0 b1).1 (Ho hp h b0 b1) fun x hx=>hb x (List.mem_cons_of_mem _ hx)
theorem D9 {a:bB} (h:aOk a):rG (tA a)=a∧okA (tA a):=by
 obtain ⟨h1,h2,h3,h4⟩:=h
 refine ⟨?_,h1,h2,h3,by show a.bA.length≤18; omega⟩
 have w8:IntKind.u8.wrap a.byte=a.byte:=by simp [IntKind.wrap,IntKind.bits,IntKind.signed]; omega
 unfold rG tA
 simp only [BP h1,w8]
end Go.Tw.X
set_option linter.unusedVariables false
set_option linter.unusedSimpArgs false
set_option maxHeartbeats 1000000
namespace Go.Tw.X
open Go Go.Tw
theorem tr: ∀ (n:Nat) (l:List aJ),∀ x∈mZ n l,x∈l
 | 0,l,x,h=>h
 | n+1,l,x,h=>by
  unfold mZ at h
  split at h
  ·exact List.dropLast_subset l (tr n _ x h)
  ·exact h
theorem Ea {r:aE} {g:aH} (h:g∈kh r): ∃ c∈r.cells,g.rune=c.rune:=by
 unfold kh pg at h
 obtain ⟨c,hc,rfl⟩:=List.mem_map.1 h
 have hc2:=(List.mem_filter.1 hc).1
 split at hc2
 ·exact ⟨c,hc2,rfl⟩
 ·exact ⟨c,tr _ _ c hc2,rfl⟩
def fD (W:Nat) (y:aB×(List (List aH)×List aH)) (a:bB):aB×(List (List aH)×List aH):=(acS W y.1 a,(acF W y.1 a).foldl lI y.2)
theorem oO {W:Nat} {r:aE} (h:gok W r) (hW:W≤1000):wk r:=⟨by rw [h.1]; exact hW,fun g hg=>by
 obtain ⟨c,hc,e⟩:=Ea hg
 rw [e]
 exact h.2 c hc⟩
theorem AM {k:Nat} {z:List (List aH)×List aH} (h:ZI k z) {rows:List aE} (hr: ∀ r∈rows,wk r) (hk:k+2*rows.length≤100000000) {m:bC} (hb:m.b=fQ z):kJ m (rows.map told)=some ⟨m.s,fQ (rows.foldl lI z),m.all,m.jT,m.k⟩:=by
 unfold kJ
 refine okE (bP (P:=fun y=>y=(⟨m.s,fQ (rows.foldl lI z),m.all,m.jT,m.k⟩:bC)) ?_ fun y hy=>aW hy)
 refine jy (fun y:bC×Int=>0≤y.2∧y.2≤rows.length∧y.1=⟨m.s,fQ ((rows.take y.2.toNat).foldl lI z),m.all,m.jT,m.k⟩) (fun y=>rows.length - y.2.toNat) ⟨Int.le_refl 0,by dsimp only; omega,by rw [show (rows.take (0:Int).toNat).foldl lI z=z from rfl,← hb]⟩ ?_
 rintro ⟨b,i⟩ ⟨h0,h1,h2⟩
 dsimp only at h0 h1 h2 ⊢
 subst h2
 rw [List.length_map]
 refine jw (fun hi=> ?_) fun hi=>aW (by rw [List.take_of_length_le (by omega)])
 obtain ⟨j,rfl⟩: ∃ j:Nat,i=j:=⟨i.toNat,by omega⟩
 have hj:j < rows.length:=by omega
 have hZ:=oK (rows.take j) h fun x hx=>hr x (List.mem_of_mem_take hx)
 rw [List.length_take] at hZ
 have hZn:=hZ.n
 have hZb:=hZ.b
 rw [cK _ j (by rw [List.length_map]; exact hj),Option.bind_some,List.getElem_map]
 dsimp only
 rw [show ((j:Int)).toNat=j from rfl,Fz (by omega) (by omega) (hr rows[j] (List.getElem_mem hj)).1,Option.bind_some,w64 (by omega) (by omega)]
 refine aW ⟨⟨by dsimp only; omega,by dsimp only; omega,?_⟩,by dsimp only; omega⟩
 dsimp only
 rw [show ((j:Int)+1).toNat=j+1 by omega,List.take_add_one,List.getElem?_eq_getElem hj,Option.toList_some,List.foldl_append]
 rfl
end Go.Tw.X
set_option linter.unusedVariables false
set_option linter.unusedSimpArgs false
set_option maxHeartbeats 1000000
namespace Go.Tw.X
open Go Go.Tw
theorem Ec {W k:Nat} {y:aB×(List (List aH)×List aH)} (hs:SI W y.1) (hz:ZI k y.2) {a:bB} (ha:aOk a):SI W (fD W y a).1∧ZI (k+4000) (fD W y a).2:=by
 have ho:=xo hs.toSJ a
 have hW:=hs.gi.w2
 have h2:=oK (acF W y.1 a) hz fun r hr=>oO (ho.2 r hr) hW
 refine ⟨Gr hs a ha.1,?_⟩
 have h3:=ho.1
 exact ⟨by have:=h2.n; show ((acF W y.1 a).foldl lI y.2).1.length≤_; omega,h2.b,h2.g,h2.ls⟩
theorem qF {W:Nat}: ∀ (l:List bB) {k:Nat} {y:aB×(List (List aH)×List aH)},SI W y.1→ZI k y.2→pF l→SI W (l.foldl (fD W) y).1∧ZI (k+4000*l.length) (l.foldl (fD W) y).2
 | [],k,y,hs,hz,_=>⟨hs,hz⟩
 | a::l,k,y,hs,hz,h=>by
  obtain ⟨h1,h2⟩:=Ec hs hz (h a List.mem_cons_self)
  have:=qF l (k:=k+4000) h1 h2 fun x hx=>h x (List.mem_cons_of_mem _ hx)
  rw [show k+4000*(a::l).length=k+4000+4000*l.length by simp; omega]
  exact this
theorem Hp {W:Nat} {s:aB} (h:SI W s) {a:bB} (ha:aOk a):fF s a=some (acF W s a,acS W s a):=by
 obtain ⟨e,ho⟩:=D9 ha
 have:=(AF h ho).2.2.1
 rw [e] at this
 exact this
theorem Hq {W:Nat} {s:aB} (h:SI W s) {a:bB} (ha:aOk a):kH (aQ s) (tA a)=some (aQ (acS W s a),(acF W s a).map told):=by
 obtain ⟨e,ho⟩:=D9 ha
 have:=(AF h ho).1
 rw [e] at this
 exact this
theorem AN {W k:Nat} {m:aT} {z:List (List aH)×List aH} (hs:SI W m.aN) (hz:ZI k z) (hp:PI m.parser) {t:ByteArray} (ht:t.size≤1000) (hk:k≤50000000) :
  iz (fun a c=>(Option.bind (ik a c) fun d=>some (d.2,true))) (dM z) m t=some (dM ((prun (clr m.parser) (sbs t)).out.foldl (fD W) (m.aN,z)).2,⟨m.book,clr (prun (clr m.parser) (sbs t)),((prun (clr m.parser) (sbs t)).out.foldl (fD W) (m.aN,z)).1,m.k⟩):=by
 unfold iz
 rw [F1 hp (by omega),Option.bind_some]
 have hc:PI (clr m.parser):=⟨hp.di,hp.gr,hp.nu,hp.n0,hp.n1,hp.tx⟩
 have hpr:=nB (sbs t) hc (iU t)
 have has:=uu (sbs t) hc (fun x hx=>by cases hx) (iU t)
 have hlen:=hpr.2
 rw [cG] at hlen
 have hc0:(clr m.parser).out.length=0:=rfl
 generalize prun (clr m.parser) (sbs t)=q at hpr has hlen
 dsimp only
 refine okE (bP (P:=fun | .inl y=>y=(((q.out.foldl (fD W) (m.aN,z)).1,dM (q.out.foldl (fD W) (m.aN,z)).2):aB×bU) | .inr _=>False) ?_ ?_)
 ·refine jy (fun y:aB×Int×bU=>0≤y.2.1∧y.2.1≤q.out.length∧y.1=((q.out.take y.2.1.toNat).foldl (fD W) (m.aN,z)).1∧y.2.2=dM ((q.out.take y.2.1.toNat).foldl (fD W) (m.aN,z)).2) (fun y=>q.out.length - y.2.1.toNat) ⟨Int.le_refl 0,by dsimp only; omega,rfl,rfl⟩ ?_
  rintro ⟨s,i,b⟩ ⟨h0,h1,h2,h3⟩
  dsimp only at h0 h1 h2 h3 ⊢
  subst h2 h3
  refine jw (fun hi=> ?_) fun hi=> ?_
  ·obtain ⟨j,rfl⟩: ∃ j:Nat,i=j:=⟨i.toNat,by omega⟩
   have hj:j < q.out.length:=by omega
   rw [show ((j:Int)).toNat=j from rfl]
   have hst:=qF (W:=W) (q.out.take j) (k:=k) (y:=(m.aN,z)) hs hz fun x hx=>has x (List.mem_of_mem_take hx)
   rw [List.length_take] at hst
   have ha:=has q.out[j] (List.getElem_mem hj)
   have hnext:(q.out.take (j+1)).foldl (fD W) (m.aN,z)=fD W ((q.out.take j).foldl (fD W) (m.aN,z)) q.out[j]:=by
    rw [List.take_add_one,List.getElem?_eq_getElem hj,Option.toList_some,List.foldl_append]
    rfl
   generalize (q.out.take j).foldl (fD W) (m.aN,z)=y at hst hnext
   have ho:=xo hst.1.toSJ q.out[j]
   have hW:=hst.1.gi.w2
   have hol:=ho.1
   rw [cK _ j hj,Option.bind_some,Hp hst.1 ha,Option.bind_some]
   obtain ⟨r,hr1,hr2⟩:=add_eq hst.2 (rows:=acF W y.1 q.out[j]) (fun r hr=>oO (ho.2 r hr) hW) (by omega)
   rw [hr1]
   simp only [Option.bind_some,Bool.not_true,cond_false]
   rw [w64 (by omega) (by omega)]
   refine aW ⟨⟨by dsimp only; omega,by dsimp only; omega,?_,?_⟩,by dsimp only; omega⟩
   ·dsimp only
    rw [show ((j:Int)+1).toNat=j+1 by omega,hnext]
    rfl
   ·dsimp only
    rw [show ((j:Int)+1).toNat=j+1 by omega,hnext,hr2]
    rfl
  ·refine aW ?_
   rw [List.take_of_length_le (by omega)]
 ·rintro (y | y) h
  ·subst h
   exact aW rfl
  ·exact h.elim
end Go.Tw.X
set_option linter.unusedVariables false
set_option linter.unusedSimpArgs false
set_option maxHeartbeats 1000000
namespace Go.Tw.X
open Go Go.Tw
theorem news (a t:ByteArray):(prun p0 (sbs (a++t))).out=(prun p0 (sbs a)).out++(prun (clr (prun p0 (sbs a))) (sbs t)).out∧clr (prun p0 (sbs (a++t)))=clr (prun (clr (prun p0 (sbs a))) (sbs t)):=by
 rw [lH,vf,ve (sbs t) (prun p0 (sbs a))]
 exact ⟨rfl,rfl⟩
theorem B4 {W k:Nat} {s:aB} {x:bC} {z:List (List aH)×List aH} (hs:SI W s) (hz:ZI k z) (hx:x.s=aQ s) (hb:x.b=fQ z) {jT:List bB} (ha:pF jT) (hl:jT.length≤10000) (hk:k≤50000000) :
  iter (σ:=bC×Int) (ρ:=bC) (fun a=>(bif (decide (a.2 < ((jT.map tA).length:Int))) then (Option.bind (idx (jT.map tA) a.2) fun d=>(Option.bind (kH a.1.s d) fun c=>(Option.bind (kJ (bC.mk c.1 a.1.b a.1.all a.1.jT a.1.k) c.2) fun e=>some (.inl (e,(IntKind.i64.wrap (a.2+1))))))) else some (.inr a.1))) (x,0)=some ⟨aQ (jT.foldl (fD W) (s,z)).1,fQ (jT.foldl (fD W) (s,z)).2,x.all,x.jT,x.k⟩:=by
 refine okE ?_
 refine jy (fun y:bC×Int=>0≤y.2∧y.2≤jT.length∧y.1=⟨aQ ((jT.take y.2.toNat).foldl (fD W) (s,z)).1,fQ ((jT.take y.2.toNat).foldl (fD W) (s,z)).2,x.all,x.jT,x.k⟩) (fun y=>jT.length - y.2.toNat) ⟨Int.le_refl 0,by dsimp only; omega,by
  show x=⟨aQ s,fQ z,x.all,x.jT,x.k⟩
  rw [← hx,← hb]⟩ ?_
 rintro ⟨y,i⟩ ⟨h0,h1,h2⟩
 dsimp only at h0 h1 h2 ⊢
 subst h2
 rw [List.length_map]
 refine jw (fun hi=> ?_) fun hi=>aW (by rw [List.take_of_length_le (by omega)])
 obtain ⟨j,rfl⟩: ∃ j:Nat,i=j:=⟨i.toNat,by omega⟩
 have hj:j < jT.length:=by omega
 rw [show ((j:Int)).toNat=j from rfl]
 have hst:=qF (W:=W) (jT.take j) (k:=k) (y:=(s,z)) hs hz fun x hx=>ha x (List.mem_of_mem_take hx)
 rw [List.length_take] at hst
 have haj:=ha jT[j] (List.getElem_mem hj)
 have hnext:(jT.take (j+1)).foldl (fD W) (s,z)=fD W ((jT.take j).foldl (fD W) (s,z)) jT[j]:=by
  rw [List.take_add_one,List.getElem?_eq_getElem hj,Option.toList_some,List.foldl_append]
  rfl
 generalize (jT.take j).foldl (fD W) (s,z)=y at hst hnext
 have ho:=xo hst.1.toSJ jT[j]
 have hW:=hst.1.gi.w2
 have hol:=ho.1
 rw [cK _ j (by rw [List.length_map]; exact hj),Option.bind_some,List.getElem_map]
 dsimp only
 rw [Hq hst.1 haj,Option.bind_some]
 dsimp only
 rw [AM hst.2 (fun r hr=>oO (ho.2 r hr) hW) (by omega) rfl,Option.bind_some,w64 (by omega) (by omega)]
 refine aW ⟨⟨by dsimp only; omega,by dsimp only; omega,?_⟩,by dsimp only; omega⟩
 dsimp only
 rw [show ((j:Int)+1).toNat=j+1 by omega,hnext]
 rfl
end Go.Tw.X
set_option linter.unusedVariables false
set_option linter.unusedSimpArgs false
set_option maxHeartbeats 1000000
namespace Go.Tw.X
open Go Go.Tw
def ru (x:Int):Prop:=0≤x∧x≤1114111
def rus (l:List Int):Prop:= ∀ x∈l,ru x
structure D2 (d:bM):Prop where
 r0:0≤d.rune
 r3:d.hH=3→d.rune≤4∧(d.rune=4→d.lead=244)
 r2:d.hH=2→d.rune≤271
 r1:d.hH=1→d.rune≤17407
theorem D20:D2 d0:=⟨by decide,by decide,by decide,by decide⟩
theorem zJ {x:Int} (h:ru x):rus [x]:=fun y hy=>by rw [List.mem_singleton.1 hy]; exact h
theorem zK:ru 65533:=⟨by decide,by decide⟩
theorem Hr {b:Int} (h0:0≤b) (h1:b < 256):0≤rH b∧((dP b).1=3→rH b≤4∧(rH b=4→b=244))∧((dP b).1=2→rH b≤15)∧((dP b).1=1→rH b≤31):=by
 unfold rH dP
 repeat' split
 all_goals simp_all
 all_goals omega
theorem Is {b:Int} (h0:0≤b) (h1:b < 256):D2 (oo b).1∧rus (oo b).2:=by
 unfold oo
 obtain ⟨l0,l3,l2,l1⟩:=Hr h0 h1
 split
 ·exact ⟨D20,zJ ⟨h0,by omega⟩⟩
 ·split
  ·exact ⟨D20,zJ zK⟩
  ·refine ⟨⟨l0,l3,fun e=> ?_,fun e=> ?_⟩,fun x hx=>by cases hx⟩
   ·have:=l2 e; show rH b≤271; omega
   ·have:=l1 e; show rH b≤17407; omega
theorem F2 {d:bM} {b:Int} (h0:0≤b) (hn:(dP d.lead).1=d.hH) (h3:d.hH=3) (h4:d.lead=244) (hf:vN d b=true):b % 64≤15:=by
 unfold vN at hf
 rw [if_neg (by omega),h4] at hf
 have e:dP 244=(3,128,143):=by decide
 rw [e] at hf
 have:=of_decide_eq_true hf
 dsimp only at this
 omega
theorem Ed {d:bM} (hd:DI d) (h:D2 d) {b:Int} (h0:0≤b) (h1:b < 256):D2 (kO d b).1∧rus (kO d b).2:=by
 unfold kO
 obtain ⟨k1,k2⟩:=Is h0 h1
 split
 ·exact ⟨k1,k2⟩
 ·rename_i hn
  rcases hd with rfl | ⟨l0,l1,n1,n2,r0,r3,r2,r1⟩
  ·exact absurd (by decide) hn
  have hk:=(p7 d.lead).1
  split
  ·rename_i hf
   split
   ·rename_i hn1
    have:=h.r1 hn1
    exact ⟨D20,zJ ⟨by omega,by omega⟩⟩
   ·rename_i hn1
    refine ⟨⟨by show 0≤d.rune*64+b % 64; omega,fun e=> ?_,fun e=> ?_,fun e=> ?_⟩,fun x hx=>by cases hx⟩
    ·change d.hH - 1=3 at e; omega
    ·change d.hH - 1=2 at e
     show d.rune*64+b % 64≤271
     have h3:d.hH=3:=by omega
     obtain ⟨a1,a2⟩:=h.r3 h3
     by_cases c:d.rune=4
     ·have:=F2 h0 (by omega) h3 (a2 c) hf; omega
     ·omega
    ·change d.hH - 1=1 at e
     show d.rune*64+b % 64≤17407
     have:=h.r2 (by omega)
     omega
  ·refine ⟨k1,fun x hx=> ?_⟩
   rcases List.mem_cons.1 hx with rfl | hx
   ·exact zK
   ·exact k2 x hx
def aGd (a:bB):Prop:=ru a.rune∧a.text.size≤200
def qL (l:List bB):Prop:= ∀ a∈l,aGd a
theorem oP {a b:List bB} (ha:qL a) (hb:qL b):qL (a++b):=fun x h=>(List.mem_append.1 h).elim (ha x) (hb x)
theorem sB {a:bB} (h:aGd a):qL [a]:=fun x hx=>by rw [List.mem_singleton.1 hx]; exact h
theorem F3:(ByteArray.mk #[]).size≤200:=by decide
theorem ru0:ru 0:=⟨by decide,by decide⟩
theorem AO {l:List Int} (h:rus l):qL (l.map prA):=fun x hx=>by
 obtain ⟨r,hr,rfl⟩:=List.mem_map.1 hx
 exact ⟨h r hr,F3⟩
theorem Ee {t:ByteArray} (h:t.size≤200):qL (ttl t):=by
 have hg:2≤t.size→aGd (tiA t):=fun h2=>⟨ru0,by show (mB t 2 t.size).size≤200; rw [va _ (by omega) (by omega) (by omega)]; omega⟩
 unfold ttl
 split
 ·rename_i x y l e
  have:2≤t.size:=by have:=congrArg List.length e; rw [cG] at this; simp at this; omega
  split
  ·exact sB (hg this)
  ·exact fun x hx=>by cases hx
 ·exact fun x hx=>by cases hx
theorem qG {p:aD} (h:qL p.out) (b:Int):qL (cV p b).2.out:=by
 unfold cV
 split
 ·exact h
 ·split
  ·exact h
  ·split
   ·exact oP h (sB ⟨ru0,F3⟩)
   ·exact h
theorem Hs {p:aD} (hp:PI p) (hd:D2 p.cC) (h:qL p.out) {b:Int} (h0:0≤b) (h1:b < 256):qL (iW p b).out:=by
 have hesc: ∀ q:aD,qL q.out→qL (gP q b).out:=fun q hq=>by
  unfold gP
  split
  ·exact qG hq b
  ·repeat' split
   all_goals first | exact hq | exact oP hq (sB ⟨ru0,F3⟩)
 have hov:qL (kP p).out:=oP h (Ee hp.tx)
 unfold iW
 split
 ·unfold ku
  split
  ·refine qG (oP h (AO fun x hx=> ?_)) b
   unfold rI at hx
   split at hx
   ·cases hx
   ·rw [List.mem_singleton.1 hx]; exact zK
  ·exact oP h (AO (Ed hp.di hd h0 h1).2)
 ·split
  ·exact hesc p h
  ·split
   ·unfold nT
    split
    ·exact qG h b
    ·split <;> exact h
   ·split
    ·unfold iV
     split
     ·exact qG h b
     ·split
      ·rw [tq,vh]
       refine oP h ?_
       unfold p8
       split
       ·exact fun x hx=>by cases hx
       ·exact sB ⟨ru0,F3⟩
      ·exact h
    ·split
     ·unfold iZ
      repeat' split
      all_goals first | exact h | exact hov
     ·split
      ·exact hov
      ·exact hesc (stP p 1) h
theorem nC (p:aD) (b:Int):(cV p b).2.cC=p.cC:=by
 unfold cV
 repeat' split
 all_goals rfl
theorem sC (p:aD) (b:Int):(gP p b).cC=p.cC:=by
 unfold gP
 split
 ·exact nC p b
 ·repeat' split
  all_goals rfl
theorem Ht {p:aD} (hp:PI p) (hd:D2 p.cC) {b:Int} (h0:0≤b) (h1:b < 256):D2 (iW p b).cC:=by
 unfold iW
 split
 ·unfold ku
  split
  ·rw [nC]; exact D20
  ·exact (Ed hp.di hd h0 h1).1
 ·split
  ·rw [sC]; exact hd
  ·split
   ·unfold nT
    split
    ·rw [nC]; exact hd
    ·split <;> exact hd
   ·split
    ·unfold iV
     split
     ·rw [nC]; exact hd
     ·split
      ·unfold kv
       split <;> exact hd
      ·exact hd
    ·split
     ·unfold iZ
      repeat' split
      all_goals exact hd
     ·split
      ·exact hd
      ·rw [sC]; exact hd
theorem AP: ∀ (bs:List Int) {p:aD},PI p→D2 p.cC→qL p.out→(∀ b∈bs,0≤b∧b < 256)→qL (prun p bs).out∧D2 (prun p bs).cC
 | [],p,_,hd,h,_=>⟨h,hd⟩
 | b::bs,p,hp,hd,h,hb=>by
  obtain ⟨b0,b1⟩:=hb b List.mem_cons_self
  exact AP bs (zH hp b0 b1).1 (Ht hp hd b0 b1) (Hs hp hd h b0 b1) fun x hx=>hb x (List.mem_cons_of_mem _ hx)
end Go.Tw.X
set_option linter.unusedVariables false
set_option linter.unusedSimpArgs false
set_option maxHeartbeats 1000000
namespace Go.Tw.X
open Go Go.Tw
def sy (x:Int):Prop:=0≤x∧x≤647
def cOk (c:aJ):Prop:=ru c.rune∧sy c.aM∧0≤c.part∧c.part≤3
theorem pq (s:bG):sy (kM s):=by
 unfold kM sy
 split
 ·unfold bN
  repeat' split
  all_goals omega
 ·omega
theorem Iu:ru 32:=⟨by decide,by decide⟩
theorem uv {s:Int} (h:sy s):cOk (blk s):=⟨Iu,h,by show (0:Int)≤0; decide,by show (0:Int)≤3; decide⟩
theorem sy0:sy 0:=⟨by decide,by decide⟩
def cR (l:List aJ):Prop:= ∀ c∈l,cOk c
theorem Hu:cR []:=fun c h=>by cases h
theorem qH: ∀ (l:List aJ) (p:Int),cR l→cR (ij p l)
 | [],_,_=>fun c hc=>by cases hc
 | c::r,p,h=>by
  intro d hd
  simp only [ij,List.mem_cons] at hd
  rcases hd with rfl | hd
  ·unfold sZ
   cases vJ p c r with
   | true=>exact uv (h c (by simp)).2.1
   | false=>exact h c (by simp)
  ·exact qH r _ (fun e he=>h e (by simp [he])) d hd
theorem vi {l:List aJ} (h:cR l) (i:Nat) {c:aJ} (hc:cOk c):cR (l.set i c):=by
 intro d hd
 rcases List.mem_or_eq_of_mem_set hd with hd | rfl
 ·exact h d hd
 ·exact hc
theorem Hv {l:List aJ} (h:cR l) (at_:Int) {s x:Int} (hx:ru x) (hs:sy s):cR (s6 l at_ x s):=by
 have m: ∀ p:Int,0≤p→p≤3→cOk ⟨x,s,p⟩:=fun p a b=>⟨hx,hs,a,b⟩
 unfold s6
 split
 ·exact h
 ·split
  ·exact vi h _ (m 0 (by decide) (by decide))
  ·unfold zj
   have h1:=vi (vi h at_.toNat (m 1 (by decide) (by decide))) (at_.toNat+1) (m 2 (by decide) (by decide))
   split
   ·rename_i c hc
    have hcm:cOk c:=by
     split at hc
     ·exact h1 c (List.mem_of_getElem? hc)
     ·cases hc
    split
    ·exact vi h1 _ (uv hcm.2.1)
    ·exact h1
   ·exact h1
theorem xq (n:Nat) {s:Int} (h:sy s):cR (List.replicate n (blk s)):=fun c hc=>by rw [List.eq_of_mem_replicate hc]; exact uv h
theorem vj {a b:List aJ} (ha:cR a) (hb:cR b):cR (a++b):=fun c hc=>(List.mem_append.1 hc).elim (ha c) (hb c)
theorem uw {a:List aJ} (ha:cR a) (n:Nat):cR (a.take n):=fun c hc=>ha c (List.mem_of_mem_take hc)
theorem AQ {a:List aJ} (ha:cR a) (n:Nat):cR (a.drop n):=fun c hc=>ha c (List.mem_of_mem_drop hc)
theorem vk (a b:Int) {s:Int} (hs:sy s): ∀ {l:List aJ} (i:Int),cR l→cR (jY a b s i l)
 | [],_,_=>fun c hc=>by cases hc
 | c::r,i,h=>by
  intro d hd
  simp only [jY,List.mem_cons] at hd
  rcases hd with rfl | hd
  ·split
   ·exact uv hs
   ·exact h c (by simp)
  ·exact vk a b hs (i+1) (fun e he=>h e (by simp [he])) d hd
theorem F4 {l:List aJ} (h:cR l) {q:Int} (hq:sy q):cR (n7 l q):=vi h _ ⟨Iu,hq,by show (0:Int)≤3; decide,by show (3:Int)≤3; decide⟩
theorem Hw {l:List aJ} (h:cR l) (a n:Int) {q:Int} (hq:sy q):cR (ins l a n q):=by
 unfold ins
 split
 ·exact h
 ·exact uw (vj (vj (uw h _) (xq _ hq)) (AQ h _)) _
theorem Hx {l:List aJ} (h:cR l) (a n:Int) {q:Int} (hq:sy q):cR (del l a n q):=by
 unfold del
 split
 ·exact h
 ·exact vj (vj (uw h _) (AQ h _)) (xq _ hq)
def gR2 (l:List aE):Prop:= ∀ r∈l,cR r.cells
theorem od {a b:List aE} (ha:gR2 a) (hb:gR2 b):gR2 (a++b):=fun c hc=>(List.mem_append.1 hc).elim (ha c) (hb c)
theorem mg {a:List aE} (ha:gR2 a) (n:Nat):gR2 (a.take n):=fun c hc=>ha c (List.mem_of_mem_take hc)
theorem nV {a:List aE} (ha:gR2 a) (n:Nat):gR2 (a.drop n):=fun c hc=>ha c (List.mem_of_mem_drop hc)
theorem ux (k W:Nat) {s:Int} (h:sy s):gR2 (List.replicate k (gO W s)):=fun c hc=>by rw [List.eq_of_mem_replicate hc]; exact xq W h
theorem lD:gR2 []:=fun c h=>by cases h
theorem rJ {l:List aE} (h:gR2 l) (y:Int):cR (jE l y).cells:=by
 unfold jE
 split
 ·rename_i hy
  rw [List.getElem?_eq_getElem (by omega)]
  exact h _ (List.getElem_mem _)
 ·exact Hu
theorem Ef (W:Nat) {r:aE} (h:cR r.cells):cR (rsz W r).cells:=by
 unfold rsz
 split
 ·exact h
 ·exact qH _ _ (vj (uw h _) (xq _ sy0))
theorem AR (W:Nat) {l:List aE} (h:gR2 l) (y:Int) {r:aE} (hr:cR r.cells):gR2 (qK W l y r):=by
 unfold qK
 split
 ·intro q hq
  rcases List.mem_or_eq_of_mem_set hq with hq | hq
  ·exact h q hq
  ·rw [hq]; exact Ef W hr
 ·exact h
theorem Ei (W:Nat) {l:List aE} (h:gR2 l) (t b n:Int) {s:Int} (hs:sy s):gR2 (upL W l t b n s):=by
 unfold upL
 split
 ·exact h
 ·exact od (od (mg h _) (od (nV (nV (mg h _) _) _) (ux _ _ hs))) (nV h _)
theorem F5 {l:List aE} (h:gR2 l) (t b n:Int):gR2 (upO l t b n):=by
 unfold upO
 split
 ·exact lD
 ·exact mg (nV (mg h _) _) _
theorem Ej (W:Nat) {l:List aE} (h:gR2 l) (t b n:Int) {s:Int} (hs:sy s):gR2 (pW W l t b n s):=by
 unfold pW
 split
 ·exact h
 ·exact od (od (mg h _) (od (ux _ _ hs) (mg (nV (mg h _) _) _))) (nV h _)
theorem Hy (W:Nat) {l:List aE} (h:gR2 l) (c H:Nat):gR2 (rzL W l c H):=by
 intro r hr
 unfold rzL at hr
 obtain ⟨q,hq,rfl⟩:=List.mem_map.1 hr
 exact Ef W (od (mg (nV h _) _) (ux _ W sy0) q hq)
structure SC (s:aB):Prop where
 g:gR2 s.g.l
 t:s.title.size≤200
variable {W : Nat} {s : aB}
theorem dG {p:Prop} [Decidable p] {a b:aB} (ha:SC a) (hb:SC b):SC (if p then a else b):=by split <;> assumption
theorem kb {p:Prop} [Decidable p] {a b:List aE} (ha:gR2 a) (hb:gR2 b):gR2 (if p then a else b):=by split <;> assumption
theorem nW (h:SC s) (x y:Int):SC (mvS s x y):=⟨h.g,h.t⟩
theorem qZ (h:SC s):SC (nwS s):=⟨h.g,h.t⟩
theorem zL (h:SC s) (x:Int):SC (xS s x):=⟨h.g,h.t⟩
theorem AS (h:SC s) (y:Int) {r:aE} (hr:cR r.cells):SC (seS W s y r):=⟨AR W h.g y hr,h.t⟩
theorem Gs (h:SC s) (n:Int):SC (upS W s n):=⟨Ei W h.g _ _ _ (pq _),h.t⟩
theorem Hz (h:SC s) (t b n:Int):SC (upT W s t b n):=⟨Ei W h.g _ _ _ (pq _),h.t⟩
theorem Ek (h:SC s) (t b n:Int):SC (dnS W s t b n):=⟨Ej W h.g _ _ _ (pq _),h.t⟩
theorem AT (h:SC s) (n:Int):gR2 (upF s n):=kb lD (F5 h.g _ _ _)
theorem yI (h:SC s):SC (liS W s):=dG (Gs (qZ h) 1) (nW (qZ h) _ _)
theorem vl (h:SC s):gR2 (liF s):=kb (AT (qZ h) 1) lD
theorem Iv (h:SC s):cR (r2S s).cells:=qH _ _ (F4 (rJ h.g _) (pq _))
theorem Iw (h:SC s) {r:Int} (hr:ru r):cR (r3S s r).cells:=qH _ _ (Hv (rJ h.g _) _ hr (pq _))
theorem Jm (h:SC s):SC (aS W s)∧gR2 (aF W s):=by
 have k:SC (xS (seS W s s.spot.y (r1S s)) 0):=zL (AS h _ (r:=r1S s) (rJ h.g _)) 0
 exact ⟨dG (yI k) h,kb (vl k) lD⟩
theorem Jn (h:SC s) (n:Int):SC (bS W s n)∧gR2 (bF W s n):=by
 have k:SC (xS (seS W s s.spot.y (r2S s)) 0):=zL (AS h _ (Iv h)) 0
 exact ⟨dG (dG (yI k) (zL h _)) h,kb (kb (vl k) lD) lD⟩
theorem Ix (h:SC s) {r:Int} (hr:ru r):SC (prS W s r)∧gR2 (prF W s r):=by
 obtain ⟨a1,a2⟩:=Jm (W:=W) h
 obtain ⟨b1,b2⟩:=Jn (W:=W) a1 (ofS r)
 exact ⟨dG h ⟨AR W b1.g _ (Iw b1 hr),b1.t⟩,kb lD (od a2 b2)⟩
theorem Iy (h:SC s) (b:Int):SC (ctS W s b)∧gR2 (ctF s b) :=
 ⟨dG (nW h _ _) (dG (nW h _ _) (dG (yI h) (dG (nW h _ _) h))),kb (vl h) lD⟩
theorem Iz (h:SC s):SC (baS W s):=dG (Ek (qZ h) _ _ _) (nW (qZ h) _ _)
theorem AU (w h:Int):SC (tk w h):=⟨ux _ _ sy0,by show (ByteArray.mk #[]).size≤200; decide⟩
theorem IA (h:SC s) (b:Int):SC (esS W s b)∧gR2 (esF s b) :=
 ⟨dG (yI (zL h 0)) (dG (yI h) (dG (Iz h) (dG ⟨h.g,h.t⟩ (dG (nW (s:=e8S s) ⟨h.g,h.t⟩ _ _) (dG (AU _ _) h))))),kb (vl (zL h 0)) (kb (vl h) lD)⟩
theorem Gt (h:SC s) (y a b:Int):SC (erS W s y a b):=AS h y (qH _ _ (vk _ _ (pq _) _ (rJ h.g _)))
theorem IB (h:SC s) (n:Int):SC (paS W s n):=dG h (qZ (Gt h _ _ _))
theorem El (h:SC s) (n:Int): ∀ k,SC (wpS W s n k)
 | 0=>h
 | k+1=>by
  unfold wpS
  split
  ·exact Gt (El h n k) _ _ _
  ·exact El h n k
theorem AV (h:SC s) (n:Int):SC (clS s n):=nW h _ _
theorem Em (h:SC s) (n:Int) (all:Bool):SC (zB W s n all):=IB (dG (El h _ _) h) n
theorem En {p:Prop} [Decidable p] {a b:List aJ} (ha:cR a) (hb:cR b):cR (if p then a else b):=by split <;> assumption
theorem IC (h:SC s) (b n:Int):SC (ceS W s b n) :=
 qZ (AS h _ (qH _ _ (En (Hw (rJ h.g _) _ _ (pq _)) (En (Hx (rJ h.g _) _ _ (pq _)) (vk _ _ (pq _) _ (rJ h.g _))))))
theorem ID (h:SC s) (b n:Int):SC (shS W s b n):=dG h (dG (nW (Ek h _ _ _) _ _) (nW (Hz h _ _ _) _ _))
theorem IE (h:SC s) (l:List Int):SC (reS s l):=dG (nW (s:=rnS s (rgT s l) (rgU s l)) ⟨h.g,h.t⟩ _ _) h
theorem IF (h:SC s) (b:Int) (l:List Int):SC (orS W s b l)∧gR2 (orF s b l):=by
 refine ⟨?_,kb (AT (qZ h) _) lD⟩
 unfold orS
 refine dG (AV h _) (dG (zL (AV h _) 0) (dG (AV h _) (dG (zL (AV h _) 0) (dG (nW h _ _) (dG (nW h _ _) (dG (nW h _ _) (dG (nW h _ _) (dG (nW h _ _) (dG (Em h _ _) (dG (Em h _ _) (dG (IC h _ _) (dG (ID h _ _) (dG (Gs (qZ h) _) (dG (Ek (qZ h) _ _ _) (dG ⟨h.g,h.t⟩ (dG (IE h l) h))))))))))))))))
theorem IG (h:SC s) {a:bB} (ha:aGd a):SC (acS W s a)∧gR2 (acF W s a):=by
 obtain ⟨p1,p2⟩:=Ix (W:=W) h ha.1
 obtain ⟨c1,c2⟩:=Iy (W:=W) h a.byte
 obtain ⟨e1,e2⟩:=IA (W:=W) h a.byte
 obtain ⟨o1,o2⟩:=IF (W:=W) h a.byte a.bA
 exact ⟨dG p1 (dG c1 (dG e1 (dG (dG (dG ⟨h.g,h.t⟩ h) o1) (dG ⟨h.g,ha.2⟩ h)))),kb p2 (kb c2 (kb e2 (kb (kb lD o2) lD)))⟩
theorem IH (h:SC s) (w k:Int):SC (rzS s w k)∧gR2 (rzF s k):=⟨⟨Hy _ h.g _ _,h.t⟩,mg h.g _⟩
end Go.Tw.X
set_option linter.unusedVariables false
set_option linter.unusedSimpArgs false
set_option maxHeartbeats 1000000
namespace Go.Tw.X
open Go Go.Tw
def mh (k:Int) (n:Nat) (w h:Int):Int:=if k=0 then (if 1048576 < n then 3 else 0) else if k=1 then (if w < 1∨w > 1000∨h < 1∨h > 1000 then 6 else 0) else 5
theorem AW (w h:Int):((bif (decide (w < 1)) then some true else (bif (decide (w > 1000)) then some true else (bif (decide (h < 1)) then some true else some (decide (h > 1000))))):Option Bool)=some (decide (w < 1∨w > 1000∨h < 1∨h > 1000)):=by
 by_cases a:w < 1
 ·simp [a]
 ·by_cases b:w > 1000
  ·simp [a,b]
  ·by_cases c:h < 1
   ·simp [a,b,c]
   ·simp [a,b,c]
theorem qI (e:dU):iy e=some (mh e.kind e.text.size e.w e.h):=by
 unfold iy mh
 by_cases k0:e.kind=0
 ·have e0:(e.kind == 0)=true:=by simpa using k0
  rw [if_pos k0,e0,cond_true]
  by_cases hs:1048576 < e.text.size
  ·rw [if_pos hs,decide_eq_true (by omega)]; rfl
  ·rw [if_neg hs,decide_eq_false (by omega)]; rfl
 ·have e0:(e.kind == 0)=false:=by simpa using k0
  rw [if_neg k0,e0,cond_false]
  by_cases k1:e.kind=1
  ·have e1:(e.kind == 1)=true:=by simpa using k1
   rw [if_pos k1,e1,cond_true,AW,Option.bind_some]
   by_cases hs:e.w < 1∨e.w > 1000∨e.h < 1∨e.h > 1000
   ·rw [if_pos hs,decide_eq_true hs]; rfl
   ·rw [if_neg hs,decide_eq_false hs]; rfl
  ·have e1:(e.kind == 1)=false:=by simpa using k1
   rw [if_neg k1,e1]; rfl
theorem tt (e:cL):ll e=some (mh e.kind e.text.size e.w e.h):=by
 unfold ll mh
 by_cases k0:e.kind=0
 ·have e0:(e.kind == 0)=true:=by simpa using k0
  rw [if_pos k0,e0,cond_true]
  by_cases hs:1048576 < e.text.size
  ·rw [if_pos hs,decide_eq_true (by omega)]; rfl
  ·rw [if_neg hs,decide_eq_false (by omega)]; rfl
 ·have e0:(e.kind == 0)=false:=by simpa using k0
  rw [if_neg k0,e0,cond_false]
  by_cases k1:e.kind=1
  ·have e1:(e.kind != 1)=false:=by simpa using k1
   rw [if_pos k1,e1,cond_false,AW,Option.bind_some]
   by_cases hs:e.w < 1∨e.w > 1000∨e.h < 1∨e.h > 1000
   ·rw [if_pos hs,decide_eq_true hs]; rfl
   ·rw [if_neg hs,decide_eq_false hs]; rfl
  ·have e1:(e.kind != 1)=true:=by simpa using k1
   rw [if_neg k1,e1]; rfl
end Go.Tw.X
set_option linter.unusedVariables false
set_option linter.unusedSimpArgs false
set_option maxHeartbeats 1000000
namespace Go.Tw.X
open Go Go.Tw
structure MX (W k N:Nat) (z:List (List aH)×List aH) (m:aT) (x:bC):Prop where
 si:SI W m.aN
 zi:ZI k z
 bk:m.book=dM z
 xs:x.s=aQ m.aN
 xb:x.b=fQ z
 pa:m.parser=clr (prun p0 (sbs x.all))
 ac:x.jT=((prun p0 (sbs x.all)).out.length:Int)
 ke:m.k=x.k
 k0:0≤m.k
 kN:m.k≤N
 al:x.all.size≤1000*N
theorem B5 {W k N:Nat} {z:List (List aH)×List aH} {m:aT} {x:bC} (h:MX W k N z m x) (hk:k≤50000000) (hN:N≤90) {t:ByteArray} (ht:t.size≤1000) (w h':Int) :
  cE m ⟨0,t,w,h'⟩=some (0,⟨dM ((prun m.parser (sbs t)).out.foldl (fD W) (m.aN,z)).2,clr (prun m.parser (sbs t)),((prun m.parser (sbs t)).out.foldl (fD W) (m.aN,z)).1,m.k+1⟩):=by
 have hp:PI m.parser:=by
  rw [h.pa]
  have:=(nB (sbs x.all) yH (iU x.all)).1
  exact ⟨this.di,this.gr,this.nu,this.n0,this.n1,this.tx⟩
 have hcl:clr m.parser=m.parser:=by rw [h.pa]; rfl
 have e1:=AN (m:=m) h.si h.zi hp ht hk
 rw [hcl] at e1
 have hk0:=h.k0
 have hkN:=h.kN
 unfold cE
 rw [qI]
 have hck:mh 0 t.size w h'=0:=by unfold mh; rw [if_pos rfl,if_neg (by omega)]
 dsimp only
 rw [hck,Option.bind_some,show ((0:Int) != 0)=false from rfl,show ((0:Int) == 1)=false from rfl,cond_false,cond_false,show jr m t=some t from rfl,Option.bind_some,h.bk,e1]
 simp only [Option.bind_some]
 rw [w64 (by omega) (by omega)]
end Go.Tw.X
set_option linter.unusedVariables false
set_option linter.unusedSimpArgs false
set_option maxHeartbeats 1000000
namespace Go.Tw.X
open Go Go.Tw
theorem B6 {W k N:Nat} {z:List (List aH)×List aH} {m:aT} {x:bC} (h:MX W k N z m x) (hk:k≤50000000) (hN:N≤90) {t:ByteArray} (ht:t.size≤1000) (w h':Int) :
  il x ⟨0,t,w,h'⟩=some (⟨aQ ((prun m.parser (sbs t)).out.foldl (fD W) (m.aN,z)).1,fQ ((prun m.parser (sbs t)).out.foldl (fD W) (m.aN,z)).2,x.all++t,((prun p0 (sbs (x.all++t))).out.length:Int),m.k+1⟩,0):=by
 have hp:PI m.parser:=by
  rw [h.pa]
  have:=(nB (sbs x.all) yH (iU x.all)).1
  exact ⟨this.di,this.gr,this.nu,this.n0,this.n1,this.tx⟩
 have hcl:clr m.parser=m.parser:=by rw [h.pa]; rfl
 have hk0:=h.k0
 have hkN:=h.kN
 have hal:=h.al
 have hz:(x.all++t).size=x.all.size+t.size:=by rw [← cG,lH,List.length_append,cG,cG]
 have hnews:=(news x.all t).1
 rw [← h.pa] at hnews
 have hlen:=(nB (sbs t) hp (iU t)).2
 have hm0:m.parser.out.length=0:=by rw [h.pa]; rfl
 rw [cG] at hlen
 have has:=uu (sbs t) hp (by rw [h.pa]; exact fun x hx=>by cases hx) (iU t)
 unfold il
 rw [tt]
 have hck:mh 0 t.size w h'=0:=by unfold mh; rw [if_pos rfl,if_neg (by omega)]
 dsimp only
 rw [hck,Option.bind_some,show ((0:Int) != 0)=false from rfl,show ((0:Int) == 1)=false from rfl,cond_false,cond_false,nI (by omega),Option.bind_some,B3 (by omega),Option.bind_some,h.ac,hnews]
 have hcut:cut (((prun p0 (sbs x.all)).out++(prun m.parser (sbs t)).out).map tA) ((prun p0 (sbs x.all)).out.length:Int) ((((prun p0 (sbs x.all)).out++(prun m.parser (sbs t)).out).map tA).length:Int)=(prun m.parser (sbs t)).out.map tA:=by
  rw [n8,List.take_length,List.map_append]
  exact List.drop_left' (List.length_map ..)
 rw [bV (by omega) (by rw [List.length_map,List.length_append]; omega) (by omega),Option.bind_some,hcut]
 have hit:=B4 (W:=W) (k:=k) (s:=m.aN) (x:=⟨x.s,x.b,x.all++t,x.jT,x.k⟩) (z:=z) h.si h.zi h.xs h.xb (jT:=(prun m.parser (sbs t)).out) has (by omega) hk
 dsimp only at hit
 rw [← h.ac,hit]
 simp only [Option.bind_some,List.length_map]
 rw [← h.ke,w64 (by omega) (by omega)]
end Go.Tw.X
set_option linter.unusedVariables false
set_option linter.unusedSimpArgs false
set_option maxHeartbeats 1000000
namespace Go.Tw.X
open Go Go.Tw
theorem yJ {W k N:Nat} {z:List (List aH)×List aH} {m:aT} {x:bC} (h:MX W k N z m x) {t:ByteArray} (ht:t.size≤1000) :
  MX W (k+8000*t.size) (N+1) ((prun m.parser (sbs t)).out.foldl (fD W) (m.aN,z)).2 ⟨dM ((prun m.parser (sbs t)).out.foldl (fD W) (m.aN,z)).2,clr (prun m.parser (sbs t)),((prun m.parser (sbs t)).out.foldl (fD W) (m.aN,z)).1,m.k+1⟩ ⟨aQ ((prun m.parser (sbs t)).out.foldl (fD W) (m.aN,z)).1,fQ ((prun m.parser (sbs t)).out.foldl (fD W) (m.aN,z)).2,x.all++t,((prun p0 (sbs (x.all++t))).out.length:Int),m.k+1⟩:=by
 have hp:PI m.parser:=by
  rw [h.pa]
  have:=(nB (sbs x.all) yH (iU x.all)).1
  exact ⟨this.di,this.gr,this.nu,this.n0,this.n1,this.tx⟩
 have hlen:=(nB (sbs t) hp (iU t)).2
 have hm0:m.parser.out.length=0:=by rw [h.pa]; rfl
 rw [cG] at hlen
 have has:=uu (sbs t) hp (by rw [h.pa]; exact fun x hx=>by cases hx) (iU t)
 have hst:=qF (W:=W) (prun m.parser (sbs t)).out (k:=k) (y:=(m.aN,z)) h.si h.zi has
 have hk0:=h.k0
 have hkN:=h.kN
 have hal:=h.al
 have hz:(x.all++t).size=x.all.size+t.size:=by rw [← cG,lH,List.length_append,cG,cG]
 have hzn:=hst.2.n
 refine ⟨hst.1,⟨by omega,hst.2.b,hst.2.g,hst.2.ls⟩,rfl,rfl,rfl,?_,rfl,rfl,by dsimp only; omega,by dsimp only; omega,by dsimp only; omega⟩
 dsimp only
 rw [(news x.all t).2,← h.pa]
end Go.Tw.X
set_option linter.unusedVariables false
set_option linter.unusedSimpArgs false
set_option maxHeartbeats 1000000
namespace Go.Tw.X
open Go Go.Tw
theorem AX (m:aT) (e:dU) (h:mh e.kind e.text.size e.w e.h≠0):cE m e=some (mh e.kind e.text.size e.w e.h,m):=by
 unfold cE
 have e1:(mh e.kind e.text.size e.w e.h != 0)=true:=by simpa using h
 rw [qI,Option.bind_some,e1,cond_true]
theorem F6 (x:bC) (e:cL) (h:mh e.kind e.text.size e.w e.h≠0):il x e=some (x,mh e.kind e.text.size e.w e.h):=by
 unfold il
 have e1:(mh e.kind e.text.size e.w e.h != 0)=true:=by simpa using h
 rw [tt,Option.bind_some,e1,cond_true]
end Go.Tw.X
set_option linter.unusedVariables false
set_option linter.unusedSimpArgs false
set_option maxHeartbeats 1000000
namespace Go.Tw.X
open Go Go.Tw
def vO (w h:Int):aT:=⟨dM ([],[]),p0,tk w h,0⟩
def HA (w h:Int):bC:=⟨aQ (tk w h),fQ ([],[]),ByteArray.mk #[],0,0⟩
theorem AY (w h:Int):lM w h=some (vO w h):=by
 unfold lM
 rw [show pc=some (bU.mk [] [0] []) from rfl,Option.bind_some,AD,Option.bind_some]
 rfl
theorem F7 (w h:Int):mY w h=some (HA w h):=by
 unfold mY
 rw [yv,Option.bind_some]
 rfl
theorem Ep (w h:Int):MX (szN w) 0 0 ([],[]) (vO w h) (HA w h) :=
 ⟨AE w h,⟨Nat.le_refl 0,by show 0 < 1024; decide,fun x hx=>(by cases hx),fun x hx=>(by cases hx)⟩,rfl,rfl,rfl,rfl,rfl,rfl,Int.le_refl 0,Int.le_refl 0,Nat.le_refl 0⟩
theorem yK {W k N:Nat} {z:List (List aH)×List aH} {m:aT} {x:bC} (h:MX W k N z m x) (hk:k≤50000000) (hN:N≤90) {t:ByteArray} {w h':Int} (hc:mh 1 t.size w h'=0) :
  cE m ⟨1,t,w,h'⟩=some (0,⟨dM ((rzF m.aN h').foldl lI z),m.parser,rzS m.aN w h',m.k+1⟩):=by
 have hk0:=h.k0
 have hkN:=h.kN
 have ho:=zD h.si.toSJ h'
 have hW:=h.si.gi.w2
 have hol:=ho.1
 obtain ⟨r,hr1,hr2⟩:=add_eq h.zi (rows:=rzF m.aN h') (fun r hr=>oO (ho.2 r hr) hW) (by omega)
 unfold cE
 rw [qI]
 dsimp only
 rw [hc,Option.bind_some,show ((0:Int) != 0)=false from rfl,show ((1:Int) == 1)=true from rfl,cond_false,cond_true,BN h.si.toSJ,Option.bind_some,h.bk,hr1]
 simp only [Option.bind_some]
 rw [hr2,w64 (by omega) (by omega)]
end Go.Tw.X
set_option linter.unusedVariables false
set_option linter.unusedSimpArgs false
set_option maxHeartbeats 1000000
namespace Go.Tw.X
open Go Go.Tw
theorem Es {W k N:Nat} {z:List (List aH)×List aH} {m:aT} {x:bC} (h:MX W k N z m x) (hk:k≤50000000) (hN:N≤90) {t:ByteArray} {w h':Int} (hc:mh 1 t.size w h'=0) :
  il x ⟨1,t,w,h'⟩=some (⟨aQ (rzS m.aN w h'),fQ ((rzF m.aN h').foldl lI z),x.all,x.jT,m.k+1⟩,0):=by
 have hk0:=h.k0
 have hkN:=h.kN
 have ho:=zD h.si.toSJ h'
 have hW:=h.si.gi.w2
 have hol:=ho.1
 unfold il
 rw [tt]
 dsimp only
 rw [hc,Option.bind_some,show ((0:Int) != 0)=false from rfl,show ((1:Int) == 1)=true from rfl,cond_false,cond_true,h.xs,BO h.si.toSJ,Option.bind_some]
 dsimp only
 rw [AM (m:=⟨aQ (rzS m.aN w h'),x.b,x.all,x.jT,x.k⟩) h.zi (fun r hr=>oO (ho.2 r hr) hW) (by omega) h.xb]
 simp only [Option.bind_some]
 rw [← h.ke,w64 (by omega) (by omega)]
theorem AZ {W k N:Nat} {z:List (List aH)×List aH} {m:aT} {x:bC} (h:MX W k N z m x) (w h':Int) :
  MX (szN w) (k+4000) (N+1) ((rzF m.aN h').foldl lI z) ⟨dM ((rzF m.aN h').foldl lI z),m.parser,rzS m.aN w h',m.k+1⟩ ⟨aQ (rzS m.aN w h'),fQ ((rzF m.aN h').foldl lI z),x.all,x.jT,m.k+1⟩:=by
 have hk0:=h.k0
 have hkN:=h.kN
 have hal:=h.al
 have ho:=zD h.si.toSJ h'
 have hW:=h.si.gi.w2
 have hol:=ho.1
 have h2:=oK (rzF m.aN h') h.zi fun r hr=>oO (ho.2 r hr) hW
 have h2n:=h2.n
 exact ⟨Hm h.si.toSJ w h',⟨by omega,h2.b,h2.g,h2.ls⟩,rfl,rfl,rfl,h.pa,h.ac,rfl,by dsimp only; omega,by dsimp only; omega,by dsimp only; omega⟩
end Go.Tw.X
set_option linter.unusedVariables false
set_option linter.unusedSimpArgs false
set_option maxHeartbeats 1000000
namespace Go.Tw.X
open Go Go.Tw
def gOk (g:aH):Prop:=ru g.rune∧sy g.aM
def gls (l:List aH):Prop:= ∀ g∈l,gOk g
theorem F8 {a b:List aH} (ha:gls a) (hb:gls b):gls (a++b):=fun c hc=>(List.mem_append.1 hc).elim (ha c) (hb c)
theorem Eu {a:List aH} (ha:gls a) (n:Nat):gls (a.take n):=fun c hc=>ha c (List.mem_of_mem_take hc)
theorem Ew {a:List aH} (ha:gls a) (n:Nat):gls (a.drop n):=fun c hc=>ha c (List.mem_of_mem_drop hc)
theorem A9:gls []:=fun c h=>by cases h
structure ZG (z:List (List aH)×List aH):Prop where
 b:gls z.2
 l: ∀ x∈z.1,gls x
theorem Ey {r:aE} (h:cR r.cells):gls (kh r):=by
 intro g hg
 unfold kh pg at hg
 obtain ⟨c,hc,rfl⟩:=List.mem_map.1 hg
 have hc2:=(List.mem_filter.1 hc).1
 have:c∈r.cells:=by
  split at hc2
  ·exact hc2
  ·exact tr _ _ c hc2
 exact ⟨(h c this).1,(h c this).2.1⟩
theorem yL: ∀ (n:Nat) (g:List aH),g.length≤n→gls g→gls (lu g).2 ∧ ∀ x∈(lu g).1,gls x
 | 0,g,h,hg=>by
  rw [pj (by omega)]
  exact ⟨hg,fun x hx=>by cases hx⟩
 | n+1,g,h,hg=>by
  by_cases c:1024≤g.length
  ·rw [sn c]
   obtain ⟨a,b⟩:=yL n (g.drop 1024) (by rw [List.length_drop]; omega) (Ew hg _)
   refine ⟨a,fun x hx=> ?_⟩
   rcases List.mem_cons.1 hx with rfl | hx
   ·exact Eu hg _
   ·exact b x hx
  ·rw [pj c]
   exact ⟨hg,fun x hx=>by cases hx⟩
theorem HB {z:List (List aH)×List aH} (h:ZG z) {r:aE} (hr:cR r.cells):ZG (lI z r):=by
 obtain ⟨a,b⟩:=yL _ (z.2++kh r) (Nat.le_refl _) (F8 h.b (Ey hr))
 unfold lI
 dsimp only
 split
 ·exact ⟨a,fun x hx=>(List.mem_append.1 hx).elim (h.l x) (b x)⟩
 ·refine ⟨A9,fun x hx=> ?_⟩
  rcases List.mem_append.1 hx with hx | hx
  ·exact (List.mem_append.1 hx).elim (h.l x) (b x)
  ·rw [List.mem_singleton.1 hx]; exact a
theorem xu: ∀ (rows:List aE) {z:List (List aH)×List aH},ZG z→gR2 rows→ZG (rows.foldl lI z)
 | [],_,h,_=>h
 | r::rows,z,h,hr=>xu rows (HB h (hr r List.mem_cons_self)) fun q hq=>hr q (List.mem_cons_of_mem _ hq)
theorem yM {W:Nat}: ∀ (l:List bB) {y:aB×(List (List aH)×List aH)},SC y.1→ZG y.2→qL l→SC (l.foldl (fD W) y).1∧ZG (l.foldl (fD W) y).2
 | [],_,h1,h2,_=>⟨h1,h2⟩
 | a::l,y,h1,h2,h3=>by
  obtain ⟨k1,k2⟩:=IG (W:=W) h1 (h3 a List.mem_cons_self)
  exact yM l (y:=fD W y a) k1 (xu _ h2 k2) fun q hq=>h3 q (List.mem_cons_of_mem _ hq)
structure MG (m:aT) (z:List (List aH)×List aH):Prop where
 sc:SC m.aN
 zg:ZG z
 d2:D2 m.parser.cC
theorem HC (w h:Int):MG (vO w h) ([],[]):=⟨AU w h,⟨A9,fun x hx=>by cases hx⟩,D20⟩
theorem Ez {W k N:Nat} {z:List (List aH)×List aH} {m:aT} {x:bC} (h:MX W k N z m x):PI m.parser∧m.parser.out=[]:=by
 rw [h.pa]
 have:=(nB (sbs x.all) yH (iU x.all)).1
 exact ⟨⟨this.di,this.gr,this.nu,this.n0,this.n1,this.tx⟩,rfl⟩
theorem EA {W k N:Nat} {z:List (List aH)×List aH} {m:aT} {x:bC} (h:MX W k N z m x) (g:MG m z) (t:ByteArray) (k':Int) (b':bU) :
  MG ⟨b',clr (prun m.parser (sbs t)),((prun m.parser (sbs t)).out.foldl (fD W) (m.aN,z)).1,k'⟩ ((prun m.parser (sbs t)).out.foldl (fD W) (m.aN,z)).2:=by
 obtain ⟨hp,ho⟩:=Ez h
 obtain ⟨p1,p2⟩:=AP (sbs t) hp g.d2 (by rw [ho]; exact fun x hx=>by cases hx) (iU t)
 obtain ⟨s1,s2⟩:=yM (W:=W) _ (y:=(m.aN,z)) g.sc g.zg p1
 exact ⟨s1,s2,p2⟩
theorem F9 {m:aT} {z:List (List aH)×List aH} (g:MG m z) (w h:Int) (k':Int) (b':bU):MG ⟨b',m.parser,rzS m.aN w h,k'⟩ ((rzF m.aN h).foldl lI z):=by
 obtain ⟨s1,s2⟩:=IH g.sc w h
 exact ⟨s1,xu _ g.zg s2,g.d2⟩
theorem zM {W k N:Nat} {z:List (List aH)×List aH} {m:aT} {x:bC} (h:MX W k N z m x) (hk:k≤50000000) (hN:N≤1000000) {t:ByteArray} (ht:t.size≤1000) (w h':Int) :
  cE m ⟨0,t,w,h'⟩=some (0,⟨dM ((prun m.parser (sbs t)).out.foldl (fD W) (m.aN,z)).2,clr (prun m.parser (sbs t)),((prun m.parser (sbs t)).out.foldl (fD W) (m.aN,z)).1,m.k+1⟩):=by
 have hp:PI m.parser:=(Ez h).1
 have hcl:clr m.parser=m.parser:=by rw [h.pa]; rfl
 have e1:=AN (m:=m) h.si h.zi hp ht hk
 rw [hcl] at e1
 have hk0:=h.k0
 have hkN:=h.kN
 unfold cE
 rw [qI]
 have hck:mh 0 t.size w h'=0:=by unfold mh; rw [if_pos rfl,if_neg (by omega)]
 dsimp only
 rw [hck,Option.bind_some,show ((0:Int) != 0)=false from rfl,show ((0:Int) == 1)=false from rfl,cond_false,cond_false,show jr m t=some t from rfl,Option.bind_some,h.bk,e1]
 simp only [Option.bind_some]
 rw [w64 (by omega) (by omega)]
def sOf (m:aT) (z:List (List aH)×List aH):jq:=⟨m.k+1,m.aN.g.w,(m.aN.g.l.length:Int),m.aN.spot.x,m.aN.spot.y,m.aN.title,m.aN.g.l,(z.1.length:Int),lb z.1,z.2⟩
theorem Ba {l:List aH} (h:gls l): ∀ g∈l,rok g.rune:=fun g hg=>by
 obtain ⟨⟨a,b⟩,_⟩:=h g hg
 exact ⟨by omega,by omega⟩
section
variable {W k N : Nat} {z : List (List aH) × List aH} {m : aT} {x : bC}
theorem Ga (l:List (List aH)) (g:List aH) (h:l.length≤1000000000):jg (dM (l,g)) (l.length:Int)=some (lb l):=by
 unfold jg dM
 dsimp only
 rw [dZ,fM,show max 0 (min (l.length:Int) (l.length:Int))=((l.length:Nat):Int) by omega,Au _ _ (Nat.le_refl _),List.take_length]
 rfl
theorem yN (h:MX W k N z m x) (hk:k≤100000000) (hN:N≤1000000):gM m=some (sOf m z,m):=by
 have hk0:=h.k0
 have hkN:=h.kN
 have hzn:=h.zi.n
 have hzb:=h.zi.b
 unfold gM qs
 rw [w64 (by omega) (by omega)]
 rw [show (aB.mk m.aN.g m.aN.spot m.aN.saved m.aN.waiting m.aN.top m.aN.aI m.aN.aY m.aN.title)=m.aN from rfl,yw h.si.toSJ,aA]
 dsimp only
 have hr:=rV m.aN.g.w m.aN.g.l (by have:=h.si.gi.l2; omega) h.si.gi.len
 rw [show (aX.mk m.aN.g.w m.aN.g.l)=m.aN.g from rfl] at hr
 rw [show eU (aB.mk m.aN.g m.aN.spot m.aN.saved m.aN.waiting m.aN.top m.aN.aI m.aN.aY m.aN.title)=some m.aN.title from rfl,aA,hr,aA]
 rw [h.bk,show ∀ b,fZ b=some (b.l.length:Int) from fun b=>rfl,aA,aA]
 dsimp only
 have hc:=Ga z.1 z.2 (by omega)
 rw [show (dM z).l=z.1 from rfl,show dM (z.1,z.2)=dM z from rfl] at *
 rw [hc,aA]
 have hb:jh (dM z)=some z.2:=by
  unfold jh
  rw [oJ _ (by show z.2.length≤_; omega)]
  rfl
 rw [hb,aA,show ∀ g,cX g=some (g.w,(g.l.length:Int)) from fun g=>rfl,aA,show ∀ s,eO s=some (s.spot.x,s.spot.y) from fun s=>rfl,aA,aA,← h.bk]
 rfl
theorem EB (h:MX W k N z m x) (hk:k≤100000000) (hN:N≤1000000):ma x=some (Ap (sOf m z)):=by
 have hk0:=h.k0
 have hkN:=h.kN
 have hke:=h.ke
 have hzn:=h.zi.n
 unfold ma pd
 rw [w64 (by omega) (by omega),h.xb,h.xs]
 have hc:=BE (l:=z.1) h.zi.ls (by omega) z.2
 rw [show (fQ (z.1,z.2))=fQ z from rfl] at hc
 rw [show ((fQ z).l.length:Int)=(z.1.length:Int) by simp [fQ],hc,aA,aA,← hke]
 simp [sOf,Ap,aQ,oE,fQ]
theorem EC (h:MX W k N z m x) (g:MG m z):SW (sOf m z):=by
 have h1:=h.si.gi.w2
 have h2:=h.si.gi.l2
 have h3:=h.si.gw
 have h4:=h.zi.b
 have h5:=g.sc.t
 refine ⟨?_,?_,Ba g.zg.b,fun r hr=> ?_,h2,by show z.2.length≤2000; omega,by show m.aN.title.size≤1000; omega⟩
 ·show -9223372036854775808≤m.aN.g.w∧m.aN.g.w≤9223372036854775807
  omega
 ·show -9223372036854775808≤(m.aN.g.l.length:Int)∧(m.aN.g.l.length:Int)≤9223372036854775807
  omega
 ·have hg:=h.si.gi.rs r hr
  exact ⟨hg.2,by have:=hg.1; omega⟩
end
end Go.Tw.X
set_option linter.unusedVariables false
set_option linter.unusedSimpArgs false
set_option maxHeartbeats 1000000
namespace Go.Tw.X
open Go Go.Tw
section
variable {W k N : Nat} {z : List (List aH) × List aH} {m : aT} {x : bC}
theorem wA {z:List (List aH)×List aH} (hl: ∀ x∈z.1,tf x) (i:Nat) (hi:i < z.1.length):iJ (dM z) i=some (z.1[i],true):=by
 unfold iJ
 rw [show (dM z).l=z.1 from rfl,decide_eq_false (by omega),cond_false,aA,decide_eq_false (by omega),cond_false,cK z.1 i hi,aA,oJ _ (by have:=(hl _ (List.getElem_mem hi)).1; omega)]
 rfl
theorem vm (h:MX W k N z m x):fL m=some (m.aN,m):=by
 unfold fL
 rw [tQ h.si.toSJ]
 rfl
theorem HD (h:MX W k N z m x) (g:MG m z) (hk:k≤100000000) (hN:N≤1000000):lG m x=some (true,m):=by
 have hb:x.b.l=z.1.map (fun g=>g.map tg):=by rw [h.xb]; rfl
 have hzn:=h.zi.n
 have ht:mG (sOf m z) (Ap (sOf m z))=some true:=by
  rw [Fq _ _ (EC h g) (EC h g)]
  simp
 unfold lG
 rw [vm h,aA]
 dsimp only
 rw [show kf m=some m.k from rfl,aA,show (m.k != x.k)=false by rw [h.ke]; simp,cond_false,show fZ m.book=some (m.book.l.length:Int) from rfl,aA,
  show ((m.book.l.length:Int) != (x.b.l.length:Int))=false by rw [hb,h.bk]; simp [dM],cond_false,h.xs,DS h.si.toSJ,aA]
 dsimp only
 rw [Bool.not_true,cond_false,yN h hk hN,aA,EB h hk hN,aA]
 dsimp only
 rw [ht,aA]
 rw [aA]
 dsimp only
 rw [Bool.not_true,cond_false]
 refine eP (fun i=>(i:Int)) z.1.length (.inl ()) rfl ?_ ?_ rfl
 ·intro i hi
  try dsimp only
  rw [hb,List.length_map,decide_eq_true (by omega),cond_true,cK _ i (by rw [List.length_map]; exact hi),aA,h.bk,wA h.zi.ls i hi,aA]
  dsimp only
  rw [List.getElem_map,Bool.not_true,cond_false,u3 _ _ (by have:=(h.zi.ls _ (List.getElem_mem hi)).1; omega) (Ba (g.zg.l _ (List.getElem_mem hi))),aA,decide_eq_true rfl,aA,Bool.not_true,cond_false,w64 (by omega) (by omega)]
  rfl
 ·try dsimp only
  rw [hb,List.length_map,decide_eq_false (by omega),cond_false]
theorem MX.mono (h:MX W k N z m x) {k' N':Nat} (h1:k≤k') (h2:N≤N'):MX W k' N' z m x :=
 ⟨h.si,⟨by have:=h.zi.n; omega,h.zi.b,h.zi.g,h.zi.ls⟩,h.bk,h.xs,h.xb,h.pa,h.ac,h.ke,h.k0,by have:=h.kN; omega,by have:=h.al; omega⟩
end
theorem ED (z:List (List aH)×List aH) (r:aE):z.1 <+: (lI z r).1:=by
 unfold lI
 dsimp only
 split
 ·exact List.prefix_append _ _
 ·rw [List.append_assoc]; exact List.prefix_append _ _
theorem tu: ∀ (rows:List aE) (z:List (List aH)×List aH),z.1 <+: (rows.foldl lI z).1
 | [],z=>List.prefix_refl _
 | r::rows,z=>(ED z r).trans (tu rows (lI z r))
theorem wB (W:Nat): ∀ (l:List bB) (y:aB×(List (List aH)×List aH)),y.2.1 <+: (l.foldl (fD W) y).2.1
 | [],y=>List.prefix_refl _
 | a::l,y=>(tu _ y.2).trans (wB W l (fD W y a))
theorem EE {w:Int} (h0:1≤w) (h1:w≤1000):(szN w:Int)=w:=by unfold szN; omega
theorem II {W k N:Nat} {z:List (List aH)×List aH} {m:aT} {x:bC} (h:MX W k N z m x) (g:MG m z) (hk:k≤50000000) (hN:N≤90) (e:cL) (ht:e.text.size≤1000) :
  ∃ W' z' m' x',cE m ⟨e.kind,e.text,e.w,e.h⟩=some (mh e.kind e.text.size e.w e.h,m')∧il x e=some (x',mh e.kind e.text.size e.w e.h) ∧
   MX W' (k+8000*e.text.size+4000) (N+1) z' m' x'∧MG m' z'∧m'.k=(if mh e.kind e.text.size e.w e.h=0 then m.k+1 else m.k)∧z.1 <+: z'.1 ∧
   (mh e.kind e.text.size e.w e.h=0→e.kind=1→m'.aN.g.w=e.w∧(m'.aN.g.l.length:Int)=e.h):=by
 by_cases hc:mh e.kind e.text.size e.w e.h=0
 ·rw [if_pos hc,hc]
  by_cases hk0:e.kind=0
  ·obtain ⟨ek,et,ew,eh⟩:=e
   dsimp only at hk0 ht hc ⊢
   subst hk0
   exact ⟨W,_,_,_,B5 h hk hN ht ew eh,B6 h hk hN ht ew eh,(yJ h ht).mono (by omega) (Nat.le_refl _),EA h g et _ _,rfl,wB W _ (m.aN,z),fun _ e=>absurd e (by decide)⟩
  ·by_cases hk1:e.kind=1
   ·obtain ⟨ek,et,ew,eh⟩:=e
    dsimp only at hk1 ht hc ⊢
    subst hk1
    have hb:1≤ew∧ew≤1000∧1≤eh∧eh≤1000:=by
     unfold mh at hc
     rw [if_neg (by decide),if_pos rfl] at hc
     split at hc
     ·exact absurd hc (by decide)
     ·omega
    refine ⟨szN ew,_,_,_,yK h hk hN hc,Es h hk hN hc,(AZ h ew eh).mono (by omega) (Nat.le_refl _),F9 g ew eh _ _,rfl,tu _ z,fun _ _=>⟨EE hb.1 hb.2.1,?_⟩⟩
    show ((rzL (szN ew) m.aN.g.l _ (szN eh)).length:Int)=eh
    rw [kL]
    exact EE hb.2.2.1 hb.2.2.2
   ·exfalso
    unfold mh at hc
    rw [if_neg hk0,if_neg hk1] at hc
    exact absurd hc (by decide)
 ·rw [if_neg hc]
  exact ⟨W,z,m,x,AX m ⟨e.kind,e.text,e.w,e.h⟩ hc,F6 x e hc,h.mono (by omega) (by omega),g,rfl,List.prefix_refl _,fun e=>absurd e hc⟩
noncomputable def runM:aT→List dU→Option aT
 | m,[]=>some m
 | m,e::l=>Option.bind (cE m e) fun r=>runM r.2 l
theorem Gb {w h:Int} {l:List dU} (hl:l.length≤1000000) {M:aT} (hM:runM (vO w h) l=some M):mS w h l=some M:=by
 unfold mS
 rw [AY,aA]
 refine nQ (fun s:aT×Int=>0≤s.2∧s.2≤l.length∧runM s.1 (l.drop s.2.toNat)=some M) (fun s=>l.length - s.2.toNat) (fun r=>r=M) ⟨Int.le_refl 0,by dsimp only; omega,hM⟩ ?_ ?_
 ·rintro ⟨q,i⟩ ⟨h0,h1,h2⟩
  dsimp only at h0 h1 h2 ⊢
  obtain ⟨n,rfl⟩:=Int.eq_ofNat_of_zero_le h0
  rw [Int.toNat_natCast] at h2
  by_cases c:n < l.length
  ·left
   rw [decide_eq_true (by omega),cond_true,cK l n c,aA,w64 (by omega) (by omega)]
   rw [List.drop_eq_getElem_cons c] at h2
   change Option.bind (cE q l[n]) (fun r=>runM r.2 (l.drop (n+1)))=some M at h2
   cases hd:cE q l[n] with
   | none=>rw [hd] at h2; cases h2
   | some r =>
    rw [hd] at h2
    refine ⟨_,rfl,⟨by dsimp only; omega,by dsimp only; omega,?_⟩,by dsimp only; omega⟩
    dsimp only
    rw [show ((n:Int)+1).toNat=n+1 by omega]
    exact h2
  ·right
   rw [decide_eq_false (by omega),cond_false]
   refine ⟨_,rfl,?_⟩
   rw [List.drop_eq_nil_of_le (by omega)] at h2
   exact (Option.some.inj h2)
 ·rintro r rfl
  rfl
end Go.Tw.X
set_option linter.unusedVariables false
set_option linter.unusedSimpArgs false
set_option maxHeartbeats 1000000
set_option maxRecDepth 10000
namespace Go.Tw.X
open Go Go.Tw
def tT:ByteArray:=ByteArray.mk #[97,13,10,98]
def EF:aB:=acS 3 (tk 3 1) (prA 97)
def EG:aB:=acS 3 EF (ctA 13)
def EH:aB:=acS 3 EG (ctA 10)
def vn:aB:=acS 3 EH (prA 98)
theorem EJ:(prun p0 (sbs tT)).out=[prA 97,ctA 13,ctA 10,prA 98]:=by decide
theorem EK:lI ([],[]) ⟨[⟨97,0,0⟩,blk 0,blk 0],false⟩=([[⟨97,0⟩]],[]):=by
 unfold lI
 have e:([]:List aH)++kh ⟨[⟨97,0,0⟩,blk 0,blk 0],false⟩=[⟨97,0⟩]:=by decide
 dsimp only
 rw [e,pj (by decide)]
 rfl
theorem HE:(prun p0 (sbs tT)).out.foldl (fD 3) (tk 3 1,([],[]))=(vn,([[⟨97,0⟩]],[])):=by
 rw [EJ]
 have f1:acF 3 (tk 3 1) (prA 97)=[]:=by decide
 have f2:acF 3 EF (ctA 13)=[]:=by decide
 have f3:acF 3 EG (ctA 10)=[⟨[⟨97,0,0⟩,blk 0,blk 0],false⟩]:=by decide
 have f4:acF 3 EH (prA 98)=[]:=by decide
 simp only [List.foldl,fD]
 rw [f1,← EF,f2,← EG,f3,← EH,f4,← vn]
 simp only [List.foldl]
 rw [EK]
theorem zN:ln=some true:=by
 have h0:=Ep 3 1
 have hW:szN 3=3:=by decide
 rw [hW] at h0
 have e0:=zM h0 (by decide) (by decide) (t:=tT) (by decide) 0 0
 have h1:=yJ h0 (t:=tT) (by decide)
 rw [show (vO 3 1).parser=p0 from rfl,show (vO 3 1).aN=tk 3 1 from rfl,HE] at e0 h1
 have hc1:mh 1 (ByteArray.mk #[]).size 0 0=6:=by decide
 have hc2:mh 1 (ByteArray.mk #[]).size 4 2=0:=by decide
 have e1:=AX ⟨dM ([[⟨97,0⟩]],[]),clr (prun p0 (sbs tT)),vn,(vO 3 1).k+1⟩ ⟨1,ByteArray.mk #[],0,0⟩ (by dsimp only; rw [hc1]; decide)
 have e2:=yK h1 (by decide) (by decide) hc2
 have h2:=AZ h1 4 2
 have g1:rzF vn 2=[]:=by decide
 dsimp only at e1 e2 h1 h2
 rw [g1] at e2 h2
 simp only [List.foldl] at e2 h2
 have hr:runM (vO 3 1) [⟨0,tT,0,0⟩,⟨1,ByteArray.mk #[],0,0⟩,⟨1,ByteArray.mk #[],4,2⟩]=some ⟨dM ([[⟨97,0⟩]],[]),clr (prun p0 (sbs tT)),rzS vn 4 2,(vO 3 1).k+1+1⟩:=by
  simp only [runM]
  rw [e0,Option.bind_some,e1,Option.bind_some]
  dsimp only
  rw [e2]
  rfl
 have hx:=Gb (by decide) hr
 have hs:=yN h2 (by decide) (by decide)
 have hl:=wA h2.zi.ls 0 (by decide)
 unfold ln
 rw [show (ByteArray.mk #[97,13,10,98])=tT from rfl,hx,aA,vm h2,aA]
 dsimp only at hs hl ⊢
 rw [show ((0:Nat):Int)=0 from rfl] at hl
 rw [hl,aA,hs,aA]
 dsimp only [sOf]
 rw [show (rzS vn 4 2).g.w=4 by decide,show (rzS vn 4 2).g.l.length=2 by decide]
 rfl
end Go.Tw.X
set_option linter.unusedVariables false
set_option linter.unusedSimpArgs false
set_option maxHeartbeats 1000000
namespace Go.Tw.X
open Go Go.Tw
theorem yO {P:Bool→Prop} (b c:Bool) (h: ∀ d,P d):okO ((bif b then some c else some false):Option Bool) P:=by
 cases b
 ·exact ⟨_,rfl,h _⟩
 ·exact ⟨_,rfl,h _⟩
theorem Gu (e:cL):okO (lP e) (fun r=>r.text.size≤60):=by
 unfold lP
 refine bP (FW e.text (n:=60) (by decide)) fun r hr=> ?_
 refine bP (P:=fun _=>True) (yO _ _ fun _=>trivial) fun b _=> ?_
 refine bP (P:=fun r=>r.text.size≤60) (nm (fun _=>aW (by dsimp only; omega)) fun _=>aW (by dsimp only; omega)) fun q hq=> ?_
 refine bP (P:=fun _=>True) (yO _ _ fun _=>trivial) fun b _=> ?_
 refine bP (P:=fun r=>r.text.size≤60) (nm (fun _=>aW hq) fun _=>aW hq) fun q hq=>aW hq
theorem Bb {n:Nat} {a b:Int} (h:(n:Int) < a∧(n:Int) < b):((bif (decide ((n:Int) < a)) then some (decide ((n:Int) < b)) else some false):Option Bool)=some true:=by
 rw [decide_eq_true h.1,decide_eq_true h.2]; rfl
theorem Bc {n:Nat} {a b:Int} (h: ¬ ((n:Int) < a∧(n:Int) < b)):((bif (decide ((n:Int) < a)) then some (decide ((n:Int) < b)) else some false):Option Bool)=some false:=by
 by_cases c:(n:Int) < a
 ·rw [decide_eq_true c,decide_eq_false (by omega: ¬ (n:Int) < b)]; rfl
 ·rw [decide_eq_false c]; rfl
def MZ (n:Nat) (m:aT) (x:bC):Prop:= ∃ W z,MX W (484000*n) n z m x∧MG m z
theorem HF (w h:Int):MZ 0 (vO w h) (HA w h):=⟨_,_,Ep w h,HC w h⟩
theorem Gv {n:Nat} {m:aT} {x:bC} (h:MZ n m x) (hn:n≤90):lG m x=some (true,m):=by
 obtain ⟨W,z,h1,h2⟩:=h
 exact HD h1 h2 (by omega) (by omega)
theorem Gw {n:Nat} {m:aT} {x:bC} (h:MZ n m x) (hn:n≤90) (e:cL) (he:e.text.size≤60) :
  ∃ m' x',cE m ⟨e.kind,e.text,e.w,e.h⟩=some (mh e.kind e.text.size e.w e.h,m')∧il x e=some (x',mh e.kind e.text.size e.w e.h)∧MZ (n+1) m' x':=by
 obtain ⟨W,z,h1,h2⟩:=h
 obtain ⟨W',z',m',x',e1,e2,h3,h4,_⟩:=II h1 h2 (by omega) hn e (by omega)
 exact ⟨m',x',e1,e2,W',z',h3.mono (by omega) (Nat.le_refl _),h4⟩
theorem B7 {p:aD} (h:PI p):iR p=some p:=by
 unfold iR eJ
 rw [bH (by simp; have:=h.nu; omega),aA,aA,List.nil_append]
theorem zO (z:List (List aH)×List aH) (h1:z.1.length≤100000000) (h2:z.2.length≤1024):ji (dM z)=some (dM z):=by
 unfold ji fO eJ
 have e:(dM z).bE.length=z.1.length+1:=xh z.1
 rw [bH (by simp [dM]; omega),aA,aA,bH (by simp only [e,List.length_nil]; omega),aA,aA,oJ _ (by show z.2.length≤_; omega),aA,List.nil_append,List.nil_append]
theorem B8 {W k N:Nat} {z:List (List aH)×List aH} {m:aT} {x:bC} (h:MX W k N z m x) (hk:k≤100000000):iA m=some (m,m):=by
 unfold iA
 rw [h.bk,zO z (by have:=h.zi.n; omega) (by have:=h.zi.b; omega),aA,B7 (Ez h).1,aA,tQ h.si.toSJ,aA,← h.bk]
theorem tv {l more:List cL} (a0: ∀ x∈l,l9 x) (a1: ∀ x∈more,l9 x):jF l more=some true:=by
 unfold jF
 rw [zN,aA,Bool.not_true,cond_false,AY,aA,F7,aA]
 refine nQ (fun s:bC×aT×Int=> ∃ n:Nat,s.2.2=n∧n≤10∧MZ n s.2.1 s.1) (fun s=>10 - s.2.2.toNat)
  (fun r=> ∃ n,n≤10∧MZ n r.2 r.1) ⟨0,rfl,by decide,HF 6 3⟩ ?_ ?_
 ·rintro ⟨x,m,i⟩ ⟨n,h1,h2,h4⟩
  dsimp only at h1 h2 h4 ⊢
  subst h1
  by_cases c:(n:Int) < (l.length:Int)∧(n:Int) < 10
  ·left
   rw [Bb c,aA,cond_true,cK l n (by omega),aA]
   obtain ⟨r,er,hr⟩:=Gu l[n]
   obtain ⟨m',x',e1,e2,h6⟩:=Gw h4 (by omega) r hr
   rw [er,aA,e1,aA,e2,aA,w64 (by omega) (by omega)]
   exact ⟨_,rfl,⟨n+1,by dsimp only; omega,by omega,h6⟩,by dsimp only; omega⟩
  ·right
   rw [Bc c,aA,cond_false]
   exact ⟨_,rfl,n,h2,h4⟩
 ·rintro ⟨x,m⟩ ⟨n,hn,h4⟩
  dsimp only at h4 ⊢
  have h4':=h4
  obtain ⟨W,z,k1,k2⟩:=h4'
  rw [B8 k1 (by omega),aA,aA]
  dsimp only
  refine nQ (fun s:aT×bC×Int=> ∃ n:Nat,s.2.2=n∧n≤8∧MZ (n+10) s.1 s.2.1) (fun s=>8 - s.2.2.toNat)
   (fun r=>MZ 18 r.1 r.2) ⟨0,rfl,by decide,W,z,k1.mono (by omega) (by omega),k2⟩ ?_ ?_
  ·rintro ⟨c,y,i⟩ ⟨n,h1,h2,h5⟩
   dsimp only at h1 h2 h5 ⊢
   subst h1
   by_cases c:(n:Int) < (more.length:Int)∧(n:Int) < 8
   ·left
    rw [Bb c,aA,cond_true,cK more n (by omega),aA]
    obtain ⟨r,er,hr⟩:=Gu more[n]
    obtain ⟨m',x',e1,e2,h6⟩:=Gw h5 (by omega) r hr
    rw [er,aA,e1,aA,e2,aA,w64 (by omega) (by omega)]
    exact ⟨_,rfl,⟨n+1,by dsimp only; omega,by omega,by rw [show n+1+10=n+10+1 by omega]; exact h6⟩,by dsimp only; omega⟩
   ·right
    rw [Bc c,aA,cond_false]
    obtain ⟨W,z,k1,k2⟩:=h5
    exact ⟨_,rfl,W,z,k1.mono (by omega) (by omega),k2⟩
  ·rintro ⟨c,y⟩ h5
   dsimp only at h5 ⊢
   rw [Gv h4 (by omega),aA]
   dsimp only
   rw [cond_true,Gv h5 (by omega),aA,aA]
end Go.Tw.X

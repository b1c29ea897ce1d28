import Derived.Test.YtmekokacemcfoaaGreatDoorXq1
import Derived.Test.YtmekokacemcfoaaGreatDoorXp1
set_option linter.unusedVariables false
set_option linter.unusedSimpArgs false
namespace Go.Tw.X
open Go Go.Tw
def atS (l:List Int) (i:Nat) (d:Int):Int:=match l[i]? with
 | some n=>if n≤0 then d else min n 9999
 | none=>d
theorem vo (a:bA) (i:Nat) (d:Int):dW a (i:Int) d=some (atS a.bB i d):=by
 unfold dW atS
 by_cases hi:i < a.bB.length
 ·rw [decide_eq_false (by omega: ¬ (i:Int)≥(a.bB.length:Int)),cond_false]
  simp only [cO _ _ hi,aA,List.getElem?_eq_getElem hi]
  by_cases h:a.bB[i]≤0
  ·rw [decide_eq_true h,cond_true,if_pos h]
  ·rw [decide_eq_false h,cond_false,if_neg h,dY]
 ·rw [decide_eq_true (by omega:(i:Int)≥(a.bB.length:Int)),cond_true,aA,cond_true,List.getElem?_eq_none (by omega)]
theorem nL (l:List Int) (i:Nat) (d:Int):dX l (i:Int) d=some (atS l i d):=by
 unfold dX atS
 by_cases hi:i < l.length
 ·rw [decide_eq_true (by omega:(i:Int) < (l.length:Int)),cond_true]
  simp only [cO _ _ hi,aA,List.getElem?_eq_getElem hi]
  by_cases h:l[i]≤0
  ·rw [decide_eq_false (by omega),cond_false,if_pos h]
  ·rw [decide_eq_true (by omega),cond_true,if_neg h,dY]
 ·rw [decide_eq_false (by omega: ¬ (i:Int) < (l.length:Int)),cond_false,aA,cond_false,List.getElem?_eq_none (by omega)]
theorem rV (l:List Int) (i:Nat) {d:Int} (h0:0≤d) (h1:d≤9999):0≤atS l i d∧atS l i d≤9999∧(1≤d→1≤atS l i d):=by
 unfold atS
 split
 ·split <;> omega
 ·omega
section
variable {W : Nat} {s : aB}
def dnS (W:Nat) (s:aB) (t b n:Int):aB:=⟨⟨W,oZ W s.g.l t b n (jR s.spot.aL)⟩,s.spot,s.saved,s.waiting,s.top,s.aG,s.aY,s.title⟩
def upT (W:Nat) (s:aB) (t b n:Int):aB:=⟨⟨W,upL W s.g.l t b n (jR s.spot.aL)⟩,s.spot,s.saved,s.waiting,s.top,s.aG,s.aY,s.title⟩
theorem xp (h:SJ W s) (t b n:Int):SJ W (dnS W s t b n) :=
 ⟨rfl,Ei h.gi _ _ _ _,h.x0,h.x1,h.y0,by simp only [dnS,vm _ _ _ _ _ _ h.gi.l1]; exact h.y1,h.t0,h.tb,by simp only [dnS,vm _ _ _ _ _ _ h.gi.l1]; exact h.b1⟩
theorem yB (h:SJ W s) (t b n:Int):SJ W (upT W s t b n) :=
 ⟨rfl,Fp h.gi _ _ _ _,h.x0,h.x1,h.y0,by simp only [upT,tf _ _ _ _ _ _ h.gi.l1]; exact h.y1,h.t0,h.tb,by simp only [upT,tf _ _ _ _ _ _ h.gi.l1]; exact h.b1⟩
theorem ue (h:SJ W s) (t b n:Int):dT s.g t b n (jR s.spot.aL)=some (p8 s.g.l t b n,(dnS W s t b n).g):=by
 rw [h.ge]; exact (wX h.gi _ _ _ _).1
theorem uf (h:SJ W s) (t b n:Int):dD (aP s).g false t b n (jR s.spot.aL)=some ((aP (dnS W s t b n)).g,(p8 s.g.l t b n).map told):=by
 rw [qX h]; exact (wX h.gi _ _ _ _).2
theorem Gn (h:SJ W s) (t b n:Int):eQ s.g t b n (jR s.spot.aL)=some (upO s.g.l t b n,(upT W s t b n).g):=by
 rw [h.ge]; exact (vV h.gi _ _ _ _).1
theorem EP (h:SJ W s) (t b n:Int):dD (aP s).g true t b n (jR s.spot.aL)=some ((aP (upT W s t b n)).g,(upO s.g.l t b n).map told):=by
 rw [qX h]; exact (vV h.gi _ _ _ _).2
def baS (W:Nat) (s:aB):aB:=if s.spot.y=s.top then dnS W (nwS s) s.top s.aG 1 else mvS (nwS s) s.spot.x (s.spot.y - 1)
theorem Hd (h:SJ W s):SI W (baS W s):=by
 unfold baS
 split
 ·exact ⟨xp (kf h) _ _ _,fun e=>by cases e⟩
 ·exact ma (kf h) _ _
theorem yr (h:SJ W s):0≤s.spot.y∧s.spot.y < 1000∧0≤s.spot.x∧s.spot.x < 1000:=by
 have h1:=h.gi.w2
 have h2:=h.gi.l2
 have h3:=h.y1
 have h4:=h.x1
 have h5:=h.y0
 have h6:=h.x0
 omega
theorem back_eq (h:SJ W s):fZ s=some (baS W s):=by
 have hy:=yr h
 unfold fZ baS
 rw [← nwS]
 by_cases c:s.spot.y=s.top
 ·rw [kh c,cond_true,if_pos c,lj,aA]
  have e:=ue (kf h) s.top s.aG 1
  rw [show (nwS s).g=s.g from rfl] at e
  rw [e,aA]
  rfl
 ·rw [dP c,cond_false,if_neg c,w64 (by omega) (by omega),jf (kf h),aA]
theorem yC (h:SJ W s):((aP s).g.l.length:Int)=s.g.l.length:=by simp [aP,nF]
def clS (s:aB) (n:Int):aB:=mvS s s.spot.x (max (if s.spot.y≥s.top∧n < 0 then s.top else 0) (min (s.spot.y+n) (if s.spot.y≤s.aG∧n > 0 then s.aG else (s.g.l.length:Int) - 1)))
theorem th {α:Type} (p:Prop) [Decidable p] (x y:α):((bif decide p then some x else some y):Option α)=some (if p then x else y):=by
 by_cases h:p <;> simp [h]
theorem Cx (h:SJ W s) {n:Int} (h0: -9999≤n) (h1:n≤9999):eN s n=some (clS s n):=by
 have hy:=yr h
 unfold eN clS
 rw [ud h,aA]
 rw [show ((bif (decide (s.spot.y≥s.top)) then some (decide (n < 0)) else some false):Option Bool)=_ from uR _ _,aA,th,aA]
 rw [show ((bif (decide (s.spot.y≤s.aG)) then some (decide (n > 0)) else some false):Option Bool)=_ from uR _ _,aA]
 dsimp only
 rw [th,aA,w64 (by omega) (by omega),l9,aA,jf h,aA]
def erR (s:aB) (y a b:Int):aE:=⟨gv 0 (je a b (jR s.spot.aL) 0 (iK s.g.l y).cells),false⟩
def erS (W:Nat) (s:aB) (y a b:Int):aB:=seS W s y (erR s y a b)
theorem yD (h:SJ W s) {y:Int} (h0:0≤y) (h1:y < s.g.l.length) (a b:Int):gok W (erR s y a b):=by
 have hg:=(h.get h0 h1).2
 exact ⟨by simp only [erR,jd,kr]; exact hg.1,nC _ _ (rQ _ _ _ _ hg.2)⟩
theorem Fy (h:SJ W s) {y:Int} (h0:0≤y) (h1:y < s.g.l.length) (a b:Int):SJ W (erS W s y a b):=zG h _ (yD h h0 h1 a b).2
theorem pN (h:SJ W s) {y:Int} (h0:0≤y) (h1:y < s.g.l.length) (a b:Int):dR s y a b=some (erS W s y a b):=by
 have hg:=(h.get h0 h1).2.le h.gi.w2
 have hr:=(yD h h0 h1 a b).le h.gi.w2
 unfold dR
 rw [h.Cl,aA,lj,aA,erase_eq _ _ _ _ (by omega),aA,← erR,h.Cm _ (by omega),aA]
 rfl
theorem qu (h:SJ W s) {y:Int} (h0:0≤y) (h1:y < s.g.l.length) (a b:Int):gJ (aP s) y a b=some (aP (erS W s y a b)):=by
 have hg:=(h.get h0 h1).2.le h.gi.w2
 have hr:=(yD h h0 h1 a b).le h.gi.w2
 unfold gJ
 have e:jt (told (iK s.g.l y)) a b (jR s.spot.aL)=some (told (erR s y a b)):=by
  rw [told,Aw (iK s.g.l y).cells (iK s.g.l y).wrapped a b _ (by omega)]; rfl
 rw [(h.get h0 h1).1,aA,qW,aA,e,aA,h.G9 _ (by omega),aA]
 rfl
def paA (s:aB) (n:Int):Int:=if n=0 then s.spot.x else 0
def paB (W:Nat) (s:aB) (n:Int):Int:=if n=1 then s.spot.x+1 else W
def paS (W:Nat) (s:aB) (n:Int):aB:=if n > 2 then s else nwS (erS W s s.spot.y (paA s n) (paB W s n))
theorem zI (h:SJ W s) {n:Int} (hn:0≤n):fb s n=some (paS W s n):=by
 have hy:=yr h
 unfold fb paS paA paB
 rw [ou,aA,h.gw]
 dsimp only
 rw [w64 (x:=s.spot.x+1) (by omega) (by omega)]
 have e: ∀ t:aB,((bif t.waiting then some (aB.mk t.g t.spot t.saved false t.top t.aG t.aY t.title) else some (aB.mk t.g t.spot t.saved false t.top t.aG t.aY t.title)):Option aB)=some (nwS t):=fun t=>by cases t.waiting <;> rfl
 by_cases h0:n=0
 ·subst h0
  rw [kh rfl,cond_true,pN h h.y0 h.y1,aA,aA]
  exact e _
 ·rw [dP h0,cond_false]
  by_cases h1:n=1
  ·subst h1
   rw [kh rfl,cond_true,pN h h.y0 h.y1,aA,aA]
   exact e _
  ·rw [dP h1,cond_false]
   by_cases h2:n=2
   ·subst h2
    rw [kh rfl,cond_true,pN h h.y0 h.y1,aA,aA]
    exact e _
   ·rw [dP h2,cond_false,aA,if_pos (by omega:n > 2),decide_eq_true (by omega:n > 2)]
    dsimp only
    cases hw:s.waiting with
    | true=>rw [cond_true,← hw]
    | false=>rw [cond_false,← hw]
theorem He (h:SI W s) {n:Int}:SI W (paS W s n):=by
 unfold paS
 split
 ·exact h
 ·exact ⟨kf (Fy h.toSJ h.y0 h.y1 _ _),fun e=>by cases e⟩
def wpc (s:aB) (n:Int) (k:Nat):Bool:=decide ((k:Int) < s.spot.y∧n≠0∧n≤2∨(k:Int) > s.spot.y∧n≠1∧n≤2)
def wpS (W:Nat) (s:aB) (n:Int):Nat→aB
 | 0=>s
 | k+1=>if wpc s n k then erS W (wpS W s n k) k 0 W else wpS W s n k
theorem qY (n:Int): ∀ k,(wpS W s n k).spot=s.spot∧(wpS W s n k).g.l.length=s.g.l.length∧(wpS W s n k).waiting=s.waiting
 | 0=>⟨rfl,rfl,rfl⟩
 | k+1=>by
  obtain ⟨h1,h2,h3⟩:=qY n k
  unfold wpS
  split
  ·exact ⟨h1,by simp only [erS,seS,jP]; exact h2,h3⟩
  ·exact ⟨h1,h2,h3⟩
theorem vp (h:SJ W s) (n:Int): ∀ k,k≤s.g.l.length→SJ W (wpS W s n k)
 | 0,_=>h
 | k+1,hk=>by
  have ih:=vp h n k (by omega)
  unfold wpS
  split
  ·exact Fy ih (by omega) (by rw [(qY n k).2.1]; omega) _ _
  ·exact ih
end
end Go.Tw.X
set_option linter.unusedVariables false
set_option linter.unusedSimpArgs false
namespace Go.Tw.X
open Go Go.Tw
section
variable {W : Nat} {s : aB}
theorem v8 (n:Int) (k:Nat):wpS W s n (k+1)=if wpc s n k then erS W (wpS W s n k) k 0 W else wpS W s n k:=rfl
theorem ER (h:SJ W s) {n:Int} (hn:0≤n):ga s n=some (paS W (wpS W s n s.g.l.length) n):=by
 have hl:=h.gi.l2
 unfold ga
 rw [ou,aA,h.gw]
 dsimp only
 refine eH (fun k=>(wpS W s n k,(wpS W s n k).g,(k:Int))) s.g.l.length ((wpS W s n s.g.l.length).g,wpS W s n s.g.l.length) rfl ?_ ?_ ?_
 ·intro k hk
  have hs:=qY (W:=W) (s:=s) n k
  have hJ:=vp h n k (by omega)
  dsimp only
  rw [decide_eq_true (by omega:(k:Int) < (s.g.l.length:Int)),cond_true,hs.1,v8,w64 (by omega) (by omega)]
  have ec:((bif (decide ((k:Int) < s.spot.y)) then (bif (n == 1) then some true else (bif (decide ((k:Int) > s.spot.y)) then (bif (n == 0) then some true else (bif ((k:Int) != s.spot.y) then some (n == 2) else some false)) else (bif ((k:Int) != s.spot.y) then some (n == 2) else some false))) else (bif (decide ((k:Int) > s.spot.y)) then (bif (n == 0) then some true else (bif ((k:Int) != s.spot.y) then some (n == 2) else some false)) else (bif ((k:Int) != s.spot.y) then some (n == 2) else some false))):Option Bool)=some (wpc s n k):=by
   unfold wpc
   have hb: ∀ b:Bool,(b=true)=b:=fun b=>rfl
   by_cases a1:(k:Int) < s.spot.y
   ·have a2: ¬ (k:Int) > s.spot.y:=by omega
    have a3:((k:Int) != s.spot.y)=true:=by simp; omega
    rw [decide_eq_true a1,decide_eq_false a2,a3]
    simp only [cond_true,cond_false]
    by_cases c:n=1
    ·rw [kh c,cond_true,decide_eq_true (by omega)]
    ·rw [dP c,cond_false]
     by_cases c2:n=2
     ·rw [kh c2,decide_eq_true (by omega)]
     ·rw [dP c2,decide_eq_false (by omega)]
   ·rw [decide_eq_false a1,cond_false]
    by_cases a2:(k:Int) > s.spot.y
    ·have a3:((k:Int) != s.spot.y)=true:=by simp; omega
     rw [decide_eq_true a2,a3]
     simp only [cond_true,cond_false]
     by_cases c:n=0
     ·rw [kh c,cond_true,decide_eq_true (by omega)]
     ·rw [dP c,cond_false]
      by_cases c2:n=2
      ·rw [kh c2,decide_eq_true (by omega)]
      ·rw [dP c2,decide_eq_false (by omega)]
    ·have a3:((k:Int) != s.spot.y)=false:=by simp; omega
     rw [decide_eq_false a2,a3]
     simp only [cond_false]
     rw [decide_eq_false (by omega)]
  rw [ec,aA]
  cases hc:wpc s n k with
  | true =>
   rw [cond_true,if_pos rfl,show (aB.mk (wpS W s n k).g s.spot (wpS W s n k).saved (wpS W s n k).waiting (wpS W s n k).top (wpS W s n k).aG (wpS W s n k).aY (wpS W s n k).title)=wpS W s n k by rw [← hs.1]]
   rw [pN hJ (by omega) (by rw [hs.2.1]; omega),aA,aA]
   rfl
  | false =>
   rw [cond_false,if_neg (by simp),aA]
   dsimp only
   rw [show (aB.mk (wpS W s n k).g s.spot (wpS W s n k).saved (wpS W s n k).waiting (wpS W s n k).top (wpS W s n k).aG (wpS W s n k).aY (wpS W s n k).title)=wpS W s n k by rw [← hs.1]]
   rfl
 ·dsimp only
  rw [decide_eq_false (by omega: ¬ ((s.g.l.length:Nat):Int) < (s.g.l.length:Int)),cond_false]
 ·dsimp only
  rw [show (aB.mk (wpS W s n s.g.l.length).g (wpS W s n s.g.l.length).spot (wpS W s n s.g.l.length).saved (wpS W s n s.g.l.length).waiting (wpS W s n s.g.l.length).top (wpS W s n s.g.l.length).aG (wpS W s n s.g.l.length).aY (wpS W s n s.g.l.length).title)=wpS W s n s.g.l.length from rfl,zI (vp h n _ (Nat.le_refl _)) hn,aA]
theorem zJ {n:Int} (hn:n > 2): ∀ k,wpS W s n k=s
 | 0=>rfl
 | k+1=>by
  rw [v8,zJ hn k]
  unfold wpc
  rw [decide_eq_false (by omega),if_neg (by simp)]
def yE (W:Nat) (s:aB) (n:Int) (all:Bool):aB:=paS W (if all then wpS W s n s.g.l.length else s) n
theorem xq (h:SJ W s) {n:Int} (hn:0≤n) (all:Bool):ju (aP s) n all=some (aP (yE W s n all)):=by
 have hl:=h.gi.l2
 have hy:=yr h
 unfold ju yE
 by_cases h2:n > 2
 ·rw [decide_eq_true h2,cond_true,zJ h2,ite_self]
  unfold paS
  rw [if_pos h2]
 ·rw [decide_eq_false h2,cond_false,yC h]
  refine eH (fun k=>(aP (if all then wpS W s n k else s),(k:Int))) s.g.l.length (aP (if all then wpS W s n s.g.l.length else s)) (by cases all <;> rfl) ?_ ?_ ?_
  ·intro k hk
   dsimp only
   rw [decide_eq_true (by omega:(k:Int) < (s.g.l.length:Int)),cond_true,w64 (by omega) (by omega)]
   cases all with
   | false =>
    rw [cond_false,aA,cond_false,aA]
    rfl
   | true =>
    have hs:=qY (W:=W) (s:=s) n k
    have hJ:=vp h n k (by omega)
    simp only [if_true,cond_true]
    rw [show (aP (wpS W s n k)).y=s.spot.y by show (wpS W s n k).spot.y=_; rw [hs.1],v8]
    have ec:((bif (decide ((k:Int) < s.spot.y)) then (bif (n != 0) then some true else (bif (decide ((k:Int) > s.spot.y)) then some (n != 1) else some false)) else (bif (decide ((k:Int) > s.spot.y)) then some (n != 1) else some false)):Option Bool)=some (wpc s n k):=by
     unfold wpc
     by_cases a1:(k:Int) < s.spot.y
     ·have a2: ¬ (k:Int) > s.spot.y:=by omega
      rw [decide_eq_true a1,decide_eq_false a2]
      simp only [cond_true,cond_false]
      by_cases c:n=0
      ·rw [show (n != 0)=false by simp [c],cond_false,decide_eq_false (by omega)]
      ·rw [show (n != 0)=true by simp [c],cond_true,decide_eq_true (by omega)]
     ·rw [decide_eq_false a1,cond_false]
      by_cases a2:(k:Int) > s.spot.y
      ·rw [decide_eq_true a2,cond_true]
       by_cases c:n=1
       ·rw [show (n != 1)=false by simp [c],decide_eq_false (by omega)]
       ·rw [show (n != 1)=true by simp [c],decide_eq_true (by omega)]
      ·rw [decide_eq_false a2,cond_false,decide_eq_false (by omega)]
    rw [ec,aA]
    cases hc:wpc s n k with
    | true =>
     rw [cond_true,if_pos rfl,show (aP (wpS W s n k)).g.w=(W:Int) from hJ.gw,qu hJ (by omega) (by rw [hs.2.1]; omega),aA,aA]
     rfl
    | false =>
     rw [cond_false,if_neg (by simp),aA]
     rfl
  ·dsimp only
   rw [decide_eq_false (by omega: ¬ ((s.g.l.length:Nat):Int) < (s.g.l.length:Int)),cond_false]
  ·have key: ∀ t:aB,SJ W t→(Option.bind ((bif (n == 0) then some (aP t).x else some 0):Option Int) fun b=>(Option.bind ((bif (n == 1) then some (IntKind.i64.wrap ((aP t).x+1)) else some (aP t).g.w):Option Int) fun d=>(Option.bind (gJ (aP t) (aP t).y b d) fun a=>some (aJ.mk a.g a.x a.y a.s a.sX a.sY a.sS false a.top a.aG a.aY a.title))))=some (aP (paS W t n)):=by
    intro t ht
    have hy:=yr ht
    rw [show (aP t).x=t.spot.x from rfl,show (aP t).g.w=(W:Int) from ht.gw,show (aP t).y=t.spot.y from rfl,w64 (x:=t.spot.x+1) (by omega) (by omega)]
    have e1:((bif (n == 0) then some t.spot.x else some 0):Option Int)=some (paA t n):=by
     unfold paA
     by_cases c:n=0
     ·rw [kh c,cond_true,if_pos c]
     ·rw [dP c,cond_false,if_neg c]
    have e2:((bif (n == 1) then some (t.spot.x+1) else some (W:Int)):Option Int)=some (paB W t n):=by
     unfold paB
     by_cases c:n=1
     ·rw [kh c,cond_true,if_pos c]
     ·rw [dP c,cond_false,if_neg c]
    rw [e1,aA,e2,aA,qu ht ht.y0 ht.y1,aA]
    unfold paS
    rw [if_neg h2]
    rfl
   refine key _ ?_
   cases all with
   | true=>exact vp h n _ (Nat.le_refl _)
   | false=>exact h
theorem Cy (h:SI W s) (n:Int) (all:Bool):SI W (yE W s n all):=by
 unfold yE
 apply He
 cases all with
 | false=>exact h
 | true =>
  have hs:=qY (W:=W) (s:=s) n s.g.l.length
  exact ⟨vp h.toSJ n _ (Nat.le_refl _),fun e=>by rw [if_pos rfl] at e ⊢; rw [hs.1]; rw [hs.2.2] at e; exact h.wt e⟩
def shS (W:Nat) (s:aB) (b n:Int):aB:=if s.spot.y < s.top∨s.spot.y > s.aG then s else if b=76 then mvS (dnS W s s.spot.y s.aG n) 0 s.spot.y else mvS (upT W s s.spot.y s.aG n) 0 s.spot.y
theorem Cz (h:SJ W s) (b n:Int):fF s b n=some (shS W s b n):=by
 unfold fF shS
 rw [show ((bif (decide (s.spot.y < s.top)) then some true else some (decide (s.spot.y > s.aG))):Option Bool)=_ from or2 _ _,aA]
 by_cases c:s.spot.y < s.top∨s.spot.y > s.aG
 ·rw [decide_eq_true c,cond_true,if_pos c]
 ·rw [decide_eq_false c,cond_false,if_neg c]
  by_cases cb:b=76
  ·rw [kh cb,cond_true,if_pos cb,lj,aA,ue h,aA,aA]
   rw [show (aB.mk (p8 s.g.l s.spot.y s.aG n,(dnS W s s.spot.y s.aG n).g).snd s.spot s.saved s.waiting s.top s.aG s.aY s.title)=dnS W s s.spot.y s.aG n from rfl,jf (xp h _ _ _),aA]
  ·rw [dP cb,cond_false,if_neg cb,lj,aA,Gn h,aA,aA]
   rw [show (aB.mk (upO s.g.l s.spot.y s.aG n,(upT W s s.spot.y s.aG n).g).snd s.spot s.saved s.waiting s.top s.aG s.aY s.title)=upT W s s.spot.y s.aG n from rfl,jf (yB h _ _ _),aA]
theorem Hf (h:SI W s) (b n:Int):SI W (shS W s b n):=by
 unfold shS
 split
 ·exact h
 ·split
  ·exact ma (xp h.toSJ _ _ _) _ _
  ·exact ma (yB h.toSJ _ _ _) _ _
def rgT (s:aB) (l:List Int):Int:=max 1 (min (atS l 0 1) (s.g.l.length:Int)) - 1
def rgU (s:aB) (l:List Int):Int:=max 1 (min (atS l 1 (s.g.l.length:Int)) (s.g.l.length:Int)) - 1
def rnS (s:aB) (t b:Int):aB:=⟨s.g,s.spot,s.saved,s.waiting,t,b,s.aY,s.title⟩
def reS (s:aB) (l:List Int):aB:=if rgT s l < rgU s l then mvS (rnS s (rgT s l) (rgU s l)) 0 0 else s
theorem Hg (h:SJ W s) (l:List Int):0≤rgT s l∧rgT s l < s.g.l.length∧0≤rgU s l∧rgU s l < s.g.l.length:=by
 have h1:=h.gi.l1
 unfold rgT rgU
 omega
theorem CA (h:SJ W s) (l:List Int) (c:rgT s l < rgU s l):SJ W (rnS s (rgT s l) (rgU s l)):=by
 have hr:=Hg h l
 exact ⟨h.gw,h.gi,h.x0,h.x1,h.y0,h.y1,hr.1,by simp only [rnS]; omega,by simp only [rnS]; omega⟩
theorem yF (h:SJ W s) (a:bA):ft s a=some (reS s a.bB):=by
 have hl:=h.gi.l2
 have hl1:=h.gi.l1
 unfold ft reS
 rw [ou,aA,show dW a 0 1=_ from vo a 0 1,aA,l9,aA]
 dsimp only
 rw [show dW a 1 (s.g.l.length:Int)=_ from vo a 1 _,aA,l9,aA,w64 (by omega) (by omega),w64 (by omega) (by omega)]
 rw [← rgT,← rgU]
 by_cases c:rgT s a.bB < rgU s a.bB
 ·rw [decide_eq_true c,cond_true,if_pos c,← rnS,jf (CA h _ c),aA]
 ·rw [decide_eq_false c,cond_false,if_neg c]
theorem Hh (h:SI W s) (l:List Int):SI W (reS s l):=by
 unfold reS
 split
 ·exact ma (CA h.toSJ l (by assumption)) _ _
 ·exact h
def ceR (s:aB) (b n:Int):aE:=⟨gv 0 (if b=64 then ins (iK s.g.l s.spot.y).cells s.spot.x n (jR s.spot.aL) else if b=80 then del (iK s.g.l s.spot.y).cells s.spot.x n (jR s.spot.aL) else je s.spot.x (s.spot.x+n) (jR s.spot.aL) 0 (iK s.g.l s.spot.y).cells),false⟩
def ceS (W:Nat) (s:aB) (b n:Int):aB:=nwS (seS W s s.spot.y (ceR s b n))
end
end Go.Tw.X
set_option linter.unusedVariables false
set_option linter.unusedSimpArgs false
namespace Go.Tw.X
open Go Go.Tw
theorem ET (l:List aI) (a n q:Int):(ins l a n q).length=l.length:=by
 unfold ins
 split
 ·rfl
 ·rcases tT l a n with h | ⟨h1,h2,h3⟩
  ·contradiction
  ·unfold lQ
   simp only [List.length_take,List.length_append,List.length_replicate,List.length_drop]
   omega
theorem EU (l:List aI) (a n q:Int):(del l a n q).length=l.length:=by
 unfold del
 split
 ·rfl
 ·rcases tT l a n with h | ⟨h1,h2,h3⟩
  ·contradiction
  ·unfold mC
   simp only [List.length_take,List.length_append,List.length_replicate,List.length_drop]
   omega
theorem Gp {l:List aI} (h:okR l) (a n q:Int):okR (ins l a n q):=by
 unfold ins
 split
 ·exact h
 ·exact qN (qM (qM (qN h _) (s8 _ _)) (wW h _)) _
theorem Gq {l:List aI} (h:okR l) (a n q:Int):okR (del l a n q):=by
 unfold del
 split
 ·exact h
 ·exact qM (qM (qN h _) (wW h _)) (s8 _ _)
section
variable {W : Nat} {s : aB}
theorem CB (h:SJ W s) (b n:Int):gok W (ceR s b n):=by
 have hg:=h.row
 refine ⟨?_,nC _ _ ?_⟩
 ·simp only [ceR,jd]
  split
  ·rw [ET]; exact hg.1
  ·split
   ·rw [EU]; exact hg.1
   ·rw [kr]; exact hg.1
 ·split
  ·exact Gp hg.2 _ _ _
  ·split
   ·exact Gq hg.2 _ _ _
   ·exact rQ _ _ _ _ hg.2
theorem v9 (h:SJ W s) (b n:Int):(ceR s b n).cells.length≤1000000:=by have:=(CB h b n).le h.gi.w2; omega
theorem AK (h:SJ W s) (b:Int) {n:Int} (h0:0≤n) (h1:n≤9999):fc (iK s.g.l s.spot.y) b s n=some (ceR s b n):=by
 have hl:=nd h
 have hy:=yr h
 unfold fc ceR
 by_cases c:b=64
 ·rw [kh c,cond_true,lj,aA,insert_eq _ _ _ _ hl h.xr.1 h.xr.2,aA,if_pos c]; rfl
 ·rw [dP c,cond_false,if_neg c]
  by_cases c2:b=80
  ·rw [kh c2,cond_true,lj,aA,Au _ _ _ _ hl h.xr.1 h.xr.2,aA,if_pos c2]; rfl
  ·rw [dP c2,cond_false,lj,aA,w64 (by omega) (by omega),erase_eq _ _ _ _ (by omega),aA,if_neg c2]
theorem AL (h:SJ W s) (b:Int) {n:Int} (h0:0≤n) (h1:n≤9999):fE s b n=some (ceS W s b n):=by
 unfold fE dU
 rw [h.Cl,aA,AK h b h0 h1,aA,h.Cm _ (v9 h b n),aA,aA]
 rfl
theorem Hi (h:SJ W s) (b n:Int):SI W (ceS W s b n):=⟨kf (zG h _ (CB h b n).2),fun e=>by cases e⟩
theorem EV (h:SJ W s) (n:Int):iS (told (iK s.g.l s.spot.y)) s.spot.x n (jR s.spot.aL)=some (told (ceR s 64 n)):=by
 have hl:=nd h
 rw [told,ym (iK s.g.l s.spot.y).cells (iK s.g.l s.spot.y).wrapped s.spot.x n _ hl h.xr.1 h.xr.2]
 rfl
theorem EW (h:SJ W s) (n:Int):iT (told (iK s.g.l s.spot.y)) s.spot.x n (jR s.spot.aL)=some (told (ceR s 80 n)):=by
 have hl:=nd h
 rw [told,yn (iK s.g.l s.spot.y).cells (iK s.g.l s.spot.y).wrapped s.spot.x n _ hl h.xr.1 h.xr.2]
 rfl
def orS (W:Nat) (s:aB) (b:Int) (l:List Int):aB :=
 if b=65 then clS s (0 - atS l 0 1) else if b=70 then xS (clS s (0 - atS l 0 1)) 0 else
 if b=66 then clS s (atS l 0 1) else if b=69 then xS (clS s (atS l 0 1)) 0 else
 if b=67 then mvS s (s.spot.x+atS l 0 1) s.spot.y else if b=68 then mvS s (s.spot.x - atS l 0 1) s.spot.y else
 if b=71 then mvS s (atS l 0 1 - 1) s.spot.y else if b=100 then mvS s s.spot.x (atS l 0 1 - 1) else
 if b=72∨b=102 then mvS s (atS l 1 1 - 1) (atS l 0 1 - 1) else
 if b=74 then yE W s (atS l 0 0) true else if b=75 then yE W s (atS l 0 0) false else
 if b=64∨b=80∨b=88 then ceS W s b (atS l 0 1) else
 if b=76∨b=77 then shS W s b (atS l 0 1) else
 if b=83 then upS W (nwS s) (atS l 0 1) else
 if b=84 then dnS W (nwS s) s.top s.aG (atS l 0 1) else
 if b=109 then ⟨s.g,⟨s.spot.x,s.spot.y,AI s.spot.aL l⟩,s.saved,s.waiting,s.top,s.aG,s.aY,s.title⟩ else
 if b=114 then reS s l else s
def orF (s:aB) (b:Int) (l:List Int):List aE:=if b=83 then upF (nwS s) (atS l 0 1) else []
theorem kd {p:Prop} [Decidable p] {a b:aB} (ha:SI W a) (hb:SI W b):SI W (if p then a else b):=by split <;> assumption
theorem Hj (h:SI W s) (b:Int) (l:List Int):SI W (orS W s b l):=by
 have h0:=w0 h.toSJ
 have hx: ∀ n,SI W (xS (clS s n) 0):=fun n=>⟨xm (ma h.toSJ _ _).toSJ (Int.le_refl 0) h0,fun e=>by cases e⟩
 unfold orS
 have e4: ∀ q,SI W ⟨s.g,⟨s.spot.x,s.spot.y,q⟩,s.saved,s.waiting,s.top,s.aG,s.aY,s.title⟩:=fun q=>⟨⟨h.gw,h.gi,h.x0,h.x1,h.y0,h.y1,h.t0,h.tb,h.b1⟩,h.wt⟩
 have e5: ∀ n,SI W (upS W (nwS s) n):=fun n=>⟨Fu (kf h.toSJ) _,fun e=>by cases e⟩
 have e6: ∀ t b n,SI W (dnS W (nwS s) t b n):=fun t b n=>⟨xp (kf h.toSJ) _ _ _,fun e=>by cases e⟩
 refine kd (ma h.toSJ _ _) (kd (hx _) (kd (ma h.toSJ _ _) (kd (hx _) (kd (ma h.toSJ _ _) (kd (ma h.toSJ _ _) (kd (ma h.toSJ _ _) (kd (ma h.toSJ _ _) (kd (ma h.toSJ _ _) (kd (Cy h _ _) (kd (Cy h _ _) (kd (Hi h.toSJ _ _) (kd (Hf h _ _) (kd (e5 _) (kd (e6 _ _ _) (kd (e4 _) (kd (Hh h _) h))))))))))))))))
theorem wc (n a b c:Int):((bif (n == a) then some (n == a) else (bif (n == b) then some (n == b) else some (n == c))):Option Bool)=some (decide (n=a∨n=b∨n=c)):=by
 by_cases h:n=a
 ·simp [h]
 ·rw [dP h,cond_false]
  by_cases h2:n=b
  ·simp [h2]
  ·rw [dP h2,cond_false]
   by_cases h3:n=c
   ·simp [h3]
   ·rw [dP h3,decide_eq_false (by omega)]
theorem zK (n a b:Int):((bif (n == a) then some (n == a) else some (n == b)):Option Bool)=some (decide (n=a∨n=b)):=by
 by_cases h:n=a
 ·simp [h]
 ·rw [dP h,cond_false]
  by_cases h2:n=b
  ·simp [h2]
  ·rw [dP h2,decide_eq_false (by omega)]
end
end Go.Tw.X
set_option linter.unusedVariables false
set_option linter.unusedSimpArgs false
namespace Go.Tw.X
open Go Go.Tw
section
variable {W : Nat} {s : aB}
theorem Gr (s:aB):aB.mk s.g s.spot s.saved false s.top s.aG s.aY s.title=nwS s:=rfl
theorem jg (t:aB) (b:Int):(Option.bind ((bif (b == 69) then some true else some (b == 70)):Option Bool) fun c=>(Option.bind ((bif c then some (aB.mk t.g (dN.mk 0 t.spot.y t.spot.aL) t.saved t.waiting t.top t.aG t.aY t.title) else some (aB.mk t.g t.spot t.saved t.waiting t.top t.aG t.aY t.title)):Option aB) fun a=>some (([]:List aE),(aB.mk t.g a.spot a.saved a.waiting a.top a.aG a.aY a.title))))=some ([],if b=69∨b=70 then xS t 0 else t):=by
 rw [qs,aA]
 by_cases h:b=69∨b=70
 ·rw [decide_eq_true h,if_pos h]; rfl
 ·rw [decide_eq_false h,if_neg h]; rfl
theorem EX (h:SJ W s) (a:bA) (hl:a.bB.length≤1000000):fG s a=some (orF s a.byte a.bB,orS W s a.byte a.bB):=by
 have hy:=yr h
 have hN:=rV a.bB 0 (d:=1) (by omega) (by omega)
 have hM:=rV a.bB 1 (d:=1) (by omega) (by omega)
 have hZ:=rV a.bB 0 (d:=0) (by omega) (by omega)
 unfold fG
 rw [show dW a 0 1=_ from vo a 0 1,aA]
 simp only [show dW a 1 1=_ from vo a 1 1,show dW a 0 0=_ from vo a 0 0,wc,yF h,Gr,EJ _ _ hl]
 simp only [zK,aA]
 have hcl:=fun n h0 h1=>Cx (n:=n) h h0 h1
 have w1:IntKind.i64.wrap (0 - atS a.bB 0 1)=0 - atS a.bB 0 1:=w64 (by omega) (by omega)
 have w2:IntKind.i64.wrap (s.spot.x+atS a.bB 0 1)=s.spot.x+atS a.bB 0 1:=w64 (by omega) (by omega)
 have w3:IntKind.i64.wrap (s.spot.x - atS a.bB 0 1)=s.spot.x - atS a.bB 0 1:=w64 (by omega) (by omega)
 have w4:IntKind.i64.wrap (atS a.bB 0 1 - 1)=atS a.bB 0 1 - 1:=w64 (by omega) (by omega)
 have w5:IntKind.i64.wrap (atS a.bB 1 1 - 1)=atS a.bB 1 1 - 1:=w64 (by omega) (by omega)
 have c1:=hcl (0 - atS a.bB 0 1) (by omega) (by omega)
 have c2:=hcl (atS a.bB 0 1) (by omega) (by omega)
 have dn:dT s.g s.top s.aG (atS a.bB 0 1) (jR s.spot.aL)=some (p8 s.g.l s.top s.aG (atS a.bB 0 1),(dnS W (nwS s) s.top s.aG (atS a.bB 0 1)).g):=ue (kf h) _ _ _
 have nn:bY (nwS s)=some (jR s.spot.aL):=lj _
 generalize hb:a.byte=b
 have key: ∀ (t:aB),(if b=69∨b=70 then xS t 0 else t)=orS W s b a.bB→orF s b a.bB=[]→(some ([],if b=69∨b=70 then xS t 0 else t):Option (List aE×aB))=some (orF s b a.bB,orS W s b a.bB):=fun t e1 e2=>by rw [e1,e2]
 by_cases h1:b=65∨b=70
 ·rw [decide_eq_true h1]
  simp only [cond_true,w1,c1,aA]
  rw [jg]
  refine key _ ?_ ?_
  ·rcases h1 with rfl | rfl <;> rfl
  ·rcases h1 with rfl | rfl <;> rfl
 ·rw [decide_eq_false h1,cond_false]
  by_cases h2:b=66∨b=69
  ·rw [decide_eq_true h2]
   simp only [cond_true,c2,aA]
   rw [jg]
   refine key _ ?_ ?_
   ·rcases h2 with rfl | rfl <;> rfl
   ·rcases h2 with rfl | rfl <;> rfl
  ·rw [decide_eq_false h2,cond_false]
   have hne: ¬ (b=69∨b=70):=by omega
   have key2: ∀ (t:aB),t=orS W s b a.bB→orF s b a.bB=[]→(some ([],if b=69∨b=70 then xS t 0 else t):Option (List aE×aB))=some (orF s b a.bB,orS W s b a.bB):=fun t e1 e2=>by rw [if_neg hne,e1,e2]
   by_cases h3:b=67
   ·subst h3; simp only [beq_self_eq_true,cond_true,w2,jf h,aA]; rw [jg]; exact key2 _ rfl rfl
   rw [dP h3,cond_false]
   by_cases h4:b=68
   ·subst h4; simp only [beq_self_eq_true,cond_true,w3,jf h,aA]; rw [jg]; exact key2 _ rfl rfl
   rw [dP h4,cond_false]
   by_cases h5:b=71
   ·subst h5; simp only [beq_self_eq_true,cond_true,w4,jf h,aA]; rw [jg]; exact key2 _ rfl rfl
   rw [dP h5,cond_false]
   by_cases h6:b=100
   ·subst h6; simp only [beq_self_eq_true,cond_true,w4,jf h,aA]; rw [jg]; exact key2 _ rfl rfl
   rw [dP h6,cond_false]
   by_cases h7:b=72∨b=102
   ·rw [decide_eq_true h7]; simp only [cond_true,w4,w5,jf h,aA]; rw [jg]
    refine key2 _ ?_ ?_
    ·rcases h7 with rfl | rfl <;> rfl
    ·rcases h7 with rfl | rfl <;> rfl
   rw [decide_eq_false h7,cond_false]
   by_cases h8:b=74
   ·subst h8; simp only [beq_self_eq_true,cond_true,ER h hZ.1,aA]; rw [jg]; exact key2 _ rfl rfl
   rw [dP h8,cond_false]
   by_cases h9:b=75
   ·subst h9; simp only [beq_self_eq_true,cond_true,zI h hZ.1,aA]; rw [jg]; exact key2 _ rfl rfl
   rw [dP h9,cond_false]
   by_cases h10:b=64∨b=80∨b=88
   ·rw [decide_eq_true h10]; simp only [cond_true,AL h _ hN.1 hN.2.1,aA]; rw [jg]
    refine key2 _ ?_ ?_
    ·rcases h10 with rfl | rfl | rfl <;> rfl
    ·rcases h10 with rfl | rfl | rfl <;> rfl
   rw [decide_eq_false h10,cond_false]
   by_cases h11:b=76∨b=77
   ·rw [decide_eq_true h11]; simp only [cond_true,Cz h,aA]; rw [jg]
    refine key2 _ ?_ ?_
    ·rcases h11 with rfl | rfl <;> rfl
    ·rcases h11 with rfl | rfl <;> rfl
   rw [decide_eq_false h11,cond_false]
   by_cases h12:b=83
   ·subst h12; simp only [beq_self_eq_true,cond_true,Co (kf h),aA]; rfl
   rw [dP h12,cond_false]
   by_cases h13:b=84
   ·subst h13; simp only [beq_self_eq_true,cond_true,nn,dn,aA]
    have e:=jg (dnS W (nwS s) s.top s.aG (atS a.bB 0 1)) 84
    exact e.trans (key2 _ rfl rfl)
   rw [dP h13,cond_false]
   by_cases h14:b=109
   ·subst h14; simp only [beq_self_eq_true,cond_true]
    have e:=jg ⟨s.g,⟨s.spot.x,s.spot.y,AI s.spot.aL a.bB⟩,s.saved,s.waiting,s.top,s.aG,s.aY,s.title⟩ 109
    exact e.trans (key2 _ rfl rfl)
   rw [dP h14,cond_false]
   by_cases h15:b=114
   ·subst h15; simp only [beq_self_eq_true,cond_true,aA]; rw [jg]; exact key2 _ rfl rfl
   rw [dP h15,cond_false,aA]
   dsimp only
   rw [jg]
   refine key2 _ ?_ ?_
   ·unfold orS
    rw [if_neg (by omega),if_neg (by omega),if_neg (by omega),if_neg (by omega),if_neg h3,if_neg h4,if_neg h5,if_neg h6,if_neg h7,if_neg h8,if_neg h9,if_neg h10,if_neg h11,if_neg h12,if_neg h13,if_neg h14,if_neg h15]
   ·unfold orF
    rw [if_neg h12]
end
end Go.Tw.X
set_option linter.unusedVariables false
set_option linter.unusedSimpArgs false
namespace Go.Tw.X
open Go Go.Tw
section
variable {W : Nat} {s : aB}
theorem EY (s:aB):aJ.mk (aP s).g (aP s).x (aP s).y (aP s).s (aP s).sX (aP s).sY (aP s).sS false (aP s).top (aP s).aG (aP s).aY (aP s).title=aP (nwS s):=rfl
theorem zL {s:aB} {x y x' y':Int} (hx:max 0 (min x (s.g.w - 1))=max 0 (min x' (s.g.w - 1))) (hy:max 0 (min y ((s.g.l.length:Int) - 1))=max 0 (min y' ((s.g.l.length:Int) - 1))):mvS s x y=mvS s x' y':=by
 unfold mvS
 rw [hx,hy]
theorem AM (h:SJ W s) (b:Int) (l:List Int) (hl:l.length≤1000000):jm (aP s) b l=some (aP (orS W s b l),(orF s b l).map told):=by
 have hy:=yr h
 have hlen:=h.gi.l2
 have hlen1:=h.gi.l1
 have hN:=rV l 0 (d:=1) (by omega) (by omega)
 have hM:=rV l 1 (d:=1) (by omega) (by omega)
 have hZ:=rV l 0 (d:=0) (by omega) (by omega)
 unfold jm
 rw [show dX l 0 1=_ from nL l 0 1,aA,qW,aA]
 simp only [show dX l 0 1=_ from nL l 0 1,show dX l 1 1=_ from nL l 1 1,show dX l 0 0=_ from nL l 0 0,zK,EY,yC h]
 simp only [show dX l 1 (s.g.l.length:Int)=_ from nL l 1 _,show (aP s).x=s.spot.x from rfl,show (aP s).y=s.spot.y from rfl,show (aP s).top=s.top from rfl,show (aP s).aG=s.aG from rfl,show (aP s).s=tst s.spot.aL from rfl,Ck _ _ hl,aA]
 have w1:IntKind.i64.wrap (s.spot.y - atS l 0 1)=s.spot.y - atS l 0 1:=w64 (by omega) (by omega)
 have w1':IntKind.i64.wrap (s.spot.y+atS l 0 1)=s.spot.y+atS l 0 1:=w64 (by omega) (by omega)
 have w2:IntKind.i64.wrap (s.spot.x+atS l 0 1)=s.spot.x+atS l 0 1:=w64 (by omega) (by omega)
 have w3:IntKind.i64.wrap (s.spot.x - atS l 0 1)=s.spot.x - atS l 0 1:=w64 (by omega) (by omega)
 have w4:IntKind.i64.wrap (atS l 0 1 - 1)=atS l 0 1 - 1:=w64 (by omega) (by omega)
 have w5:IntKind.i64.wrap (atS l 1 1 - 1)=atS l 1 1 - 1:=w64 (by omega) (by omega)
 have w6:IntKind.i64.wrap ((s.g.l.length:Int) - 1)=(s.g.l.length:Int) - 1:=w64 (by omega) (by omega)
 have dn:dD (aP s).g false s.top s.aG (atS l 0 1) (jR s.spot.aL)=some ((aP (dnS W (nwS s) s.top s.aG (atS l 0 1))).g,(p8 s.g.l s.top s.aG (atS l 0 1)).map told):=uf (kf h) _ _ _
 by_cases h1:b=65∨b=70
 ·rw [decide_eq_true h1]
  simp only [cond_true,th,w1,aA,fg,gE h]
  have e:mvS s s.spot.x (max (if s.spot.y≥s.top then s.top else 0) (s.spot.y - atS l 0 1))=clS s (0 - atS l 0 1):=by
   unfold clS
   apply zL rfl
   split <;> split <;> split <;> omega
  rw [e]
  rcases h1 with rfl | rfl <;> rfl
 rw [decide_eq_false h1,cond_false]
 by_cases h2:b=66∨b=69
 ·rw [decide_eq_true h2]
  simp only [cond_true,th,w1',w6,aA,dY,gE h]
  have e:mvS s s.spot.x (min (if s.spot.y≤s.aG then s.aG else (s.g.l.length:Int) - 1) (s.spot.y+atS l 0 1))=clS s (atS l 0 1):=by
   unfold clS
   have hb:=h.b1
   have ht:=h.t0
   have htb:=h.tb
   apply zL rfl
   split <;> split <;> split <;> omega
  rw [e]
  rcases h2 with rfl | rfl <;> rfl
 rw [decide_eq_false h2,cond_false]
 by_cases h3:b=67
 ·subst h3; simp only [beq_self_eq_true,cond_true,w2,gE h,aA]; rfl
 rw [dP h3,cond_false]
 by_cases h4:b=68
 ·subst h4; simp only [beq_self_eq_true,cond_true,w3,gE h,aA]; rfl
 rw [dP h4,cond_false]
 by_cases h5:b=71
 ·subst h5; simp only [beq_self_eq_true,cond_true,w4,gE h,aA]; rfl
 rw [dP h5,cond_false]
 by_cases h6:b=100
 ·subst h6; simp only [beq_self_eq_true,cond_true,w4,gE h,aA]; rfl
 rw [dP h6,cond_false]
 by_cases h7:b=72∨b=102
 ·rw [decide_eq_true h7]; simp only [cond_true,w4,w5,gE h,aA]
  rcases h7 with rfl | rfl <;> rfl
 rw [decide_eq_false h7,cond_false]
 by_cases h8:b=74
 ·subst h8; simp only [beq_self_eq_true,cond_true,xq h hZ.1,aA]; rfl
 rw [dP h8,cond_false]
 by_cases h9:b=75
 ·subst h9; simp only [beq_self_eq_true,cond_true,xq h hZ.1,aA]; rfl
 rw [dP h9,cond_false]
 by_cases h10:b=88
 ·subst h10; simp only [beq_self_eq_true,cond_true,w2,qu h h.y0 h.y1,aA]; rfl
 rw [dP h10,cond_false]
 have gr:idx (aP s).g.l s.spot.y=some (told (iK s.g.l s.spot.y)):=h.EO
 by_cases h11:b=64
 ·subst h11; simp only [beq_self_eq_true,cond_true,gr,aA,EV h,pb h (v9 h 64 _)]; rfl
 rw [dP h11,cond_false]
 by_cases h12:b=80
 ·subst h12; simp only [beq_self_eq_true,cond_true,gr,aA,EW h,pb h (v9 h 80 _)]; rfl
 rw [dP h12,cond_false]
 have e12: ¬ (b=64∨b=80∨b=88):=by omega
 by_cases h13:b=76∨b=77
 ·rw [decide_eq_true h13]
  simp only [cond_true]
  rw [show ((bif (decide (s.spot.y≥s.top)) then some (decide (s.spot.y≤s.aG)) else some false):Option Bool)=_ from uR _ _,aA]
  by_cases c:s.spot.y≥s.top∧s.spot.y≤s.aG
  ·have c': ¬ (s.spot.y < s.top∨s.spot.y > s.aG):=by omega
   rw [decide_eq_true c,cond_true]
   rcases h13 with rfl | rfl
   ·rw [show ((76:Int) == 77)=false from rfl,uf h,aA]
    have e:=gE (xp h s.spot.y s.aG (atS l 0 1)) 0 s.spot.y
    rw [show aP (dnS W s s.spot.y s.aG (atS l 0 1))=aJ.mk (aP (dnS W s s.spot.y s.aG (atS l 0 1))).g s.spot.x s.spot.y (tst s.spot.aL) (aP s).sX (aP s).sY (aP s).sS (aP s).waiting s.top s.aG (aP s).aY (aP s).title from rfl] at e
    dsimp only
    rw [e,aA]
    unfold orS orF shS
    rw [if_neg c']
    rfl
   ·rw [show ((77:Int) == 77)=true from rfl,EP h,aA]
    have e:=gE (yB h s.spot.y s.aG (atS l 0 1)) 0 s.spot.y
    rw [show aP (upT W s s.spot.y s.aG (atS l 0 1))=aJ.mk (aP (upT W s s.spot.y s.aG (atS l 0 1))).g s.spot.x s.spot.y (tst s.spot.aL) (aP s).sX (aP s).sY (aP s).sS (aP s).waiting s.top s.aG (aP s).aY (aP s).title from rfl] at e
    dsimp only
    rw [e,aA]
    unfold orS orF shS
    rw [if_neg c']
    rfl
  ·have c':s.spot.y < s.top∨s.spot.y > s.aG:=by omega
   rw [decide_eq_false c,cond_false,aA]
   unfold orS orF shS
   rw [if_pos c']
   rcases h13 with rfl | rfl <;> rfl
 rw [decide_eq_false h13,cond_false]
 by_cases h14:b=83
 ·subst h14
  have e:=vn (kf h) (atS l 0 1)
  have e2:aJ.mk (aP s).g s.spot.x s.spot.y (tst s.spot.aL) (aP s).sX (aP s).sY (aP s).sS false s.top s.aG (aP s).aY (aP s).title=aP (nwS s):=rfl
  simp only [beq_self_eq_true,cond_true,e2,e,aA]
  rfl
 rw [dP h14,cond_false]
 by_cases h15:b=84
 ·subst h15; simp only [beq_self_eq_true,cond_true,dn,aA]; rfl
 rw [dP h15,cond_false]
 by_cases h16:b=109
 ·subst h16; simp only [beq_self_eq_true,cond_true,aA]; rfl
 rw [dP h16,cond_false]
 by_cases h17:b=114
 ·subst h17
  simp only [beq_self_eq_true,cond_true]
  rw [dY,fg,dY,fg,w64 (by omega) (by omega),w64 (by omega) (by omega),← rgT,← rgU]
  unfold orS orF
  simp only [Int.reduceEq,if_false,if_true,or_self,Bool.false_eq_true]
  unfold reS
  by_cases c:rgT s l < rgU s l
  ·rw [decide_eq_true c,cond_true,if_pos c]
   have e:=gE (CA h l c) 0 0
   rw [show aP (rnS s (rgT s l) (rgU s l))=aJ.mk (aP s).g s.spot.x s.spot.y (tst s.spot.aL) (aP s).sX (aP s).sY (aP s).sS (aP s).waiting (rgT s l) (rgU s l) (aP s).aY (aP s).title from rfl] at e
   rw [e,aA,aA]
   rfl
  ·rw [decide_eq_false c,cond_false,if_neg c,aA]
   rfl
 rw [dP h17,cond_false,aA]
 unfold orS orF
 rw [if_neg (by omega),if_neg (by omega),if_neg (by omega),if_neg (by omega),if_neg h3,if_neg h4,if_neg h5,if_neg h6,if_neg h7,if_neg h8,if_neg h9,if_neg e12,if_neg h13,if_neg h14,if_neg h15,if_neg h16,if_neg h17,if_neg h14]
 rfl
end
end Go.Tw.X
set_option linter.unusedVariables false
set_option linter.unusedSimpArgs false
namespace Go.Tw.X
open Go Go.Tw
def nlS:bE:=⟨0,0,false,false,false⟩
def rW (w h:Int):aB:=⟨sR w h,⟨0,0,nlS⟩,⟨0,0,nlS⟩,false,0,(szN h:Int) - 1,true,ByteArray.mk #[]⟩
theorem xu (w h:Int):(rW w h).g.l.length=szN h:=by simp [rW,sR]
theorem zM (w h:Int):kb w h=some (rW w h):=by
 unfold kb
 have h1:=jz h
 rw [F4,aA,ou,aA]
 dsimp only
 rw [show ((sR w h).l.length:Int)=(szN h:Int) by simp [sR],w64 (by omega) (by omega)]
 rfl
theorem xv (w h:Int):kP w h=some (aP (rW w h)):=by
 unfold kP
 have h1:=jz h
 rw [D9,aA]
 rw [show ((nF (sR w h)).l.length:Int)=(szN h:Int) by simp [sR,nF],w64 (by omega) (by omega)]
 rfl
theorem zN (w h:Int):SI (szN w) (rW w h):=by
 have h1:=lS h
 have h2:=lS w
 refine ⟨⟨rfl,F3 w h,Int.le_refl 0,?_,Int.le_refl 0,?_,Int.le_refl 0,?_,?_⟩,fun e=>by cases e⟩
 ·show (0:Int) < _; omega
 ·rw [xu]; show (0:Int) < _; omega
 ·show (0:Int)≤(szN h:Int) - 1; omega
 ·rw [xu]; show (szN h:Int) - 1 < _; omega
section
variable {W : Nat} {s : aB}
def ctS (W:Nat) (s:aB) (b:Int):aB:=if b=8 then mvS s (s.spot.x - 1) s.spot.y else if b=9 then mvS s (s.spot.x.tdiv 8*8+8) s.spot.y else if b=10∨b=11∨b=12 then liS W s else if b=13 then mvS s 0 s.spot.y else s
def ctF (s:aB) (b:Int):List aE:=if b=10∨b=11∨b=12 then liF s else []
theorem CC {x:Int} (h0:0≤x) (h1:x < 1000):0≤x.tdiv 8∧x.tdiv 8≤1000:=by
 rw [Int.tdiv_eq_ediv_of_nonneg h0]
 omega
theorem AN (h:SJ W s) (b:Int):eZ s b=some (ctF s b,ctS W s b):=by
 have hy:=yr h
 have ht:=CC hy.2.2.1 hy.2.2.2
 unfold eZ ctF ctS
 simp only [wc]
 rw [w64 (x:=s.spot.x - 1) (by omega) (by omega),w64 (x:=s.spot.x.tdiv 8) (by omega) (by omega),w64 (x:=s.spot.x.tdiv 8+1) (by omega) (by omega),w64 (x:=(s.spot.x.tdiv 8+1)*8) (by omega) (by omega),show (s.spot.x.tdiv 8+1)*8=s.spot.x.tdiv 8*8+8 by omega]
 by_cases h1:b=8
 ·subst h1; simp only [beq_self_eq_true,cond_true,jf h,aA]; rfl
 rw [dP h1,cond_false,if_neg h1]
 by_cases h2:b=9
 ·subst h2; simp only [beq_self_eq_true,cond_true,jf h,aA]; rfl
 rw [dP h2,cond_false,if_neg h2,aA]
 by_cases h3:b=10∨b=11∨b=12
 ·rw [decide_eq_true h3,cond_true,(fI h).p,if_pos h3,if_pos h3]; rfl
 rw [decide_eq_false h3,cond_false,if_neg h3,if_neg h3]
 by_cases h4:b=13
 ·subst h4; simp only [beq_self_eq_true,cond_true,jf h,aA]; rfl
 rw [dP h4,cond_false,if_neg h4]
 rfl
theorem Hk (h:SI W s) (b:Int):SI W (ctS W s b):=kd (ma h.toSJ _ _) (kd (ma h.toSJ _ _) (kd (fI h.toSJ).i (kd (ma h.toSJ _ _) h)))
def e8S (s:aB):aB:=⟨s.g,⟨s.spot.x,s.spot.y,s.saved.aL⟩,s.saved,s.waiting,s.top,s.aG,s.aY,s.title⟩
theorem CD (h:SJ W s):SJ W (e8S s):=⟨h.gw,h.gi,h.x0,h.x1,h.y0,h.y1,h.t0,h.tb,h.b1⟩
def e7S (s:aB):aB:=⟨s.g,s.spot,s.spot,s.waiting,s.top,s.aG,s.aY,s.title⟩
def esS (W:Nat) (s:aB) (b:Int):aB:=if b=69 then liS W (xS s 0) else if b=68 then liS W s else if b=77 then baS W s else if b=55 then e7S s else if b=56 then mvS (e8S s) s.saved.x s.saved.y else if b=99 then rW W s.g.l.length else s
def esF (s:aB) (b:Int):List aE:=if b=69 then liF (xS s 0) else if b=68 then liF s else []
theorem Hl (h:SI W s) (b:Int):SI W (esS W s b):=by
 have e:=zN (W:Int) (s.g.l.length:Int)
 rw [F2 W h.gi.w1 h.gi.w2] at e
 exact kd (fI (xm h.toSJ (Int.le_refl 0) (w0 h.toSJ))).i (kd (fI h.toSJ).i (kd (Hd h.toSJ) (kd ⟨⟨h.gw,h.gi,h.x0,h.x1,h.y0,h.y1,h.t0,h.tb,h.b1⟩,h.wt⟩ (kd (ma (CD h.toSJ) _ _) (kd e h)))))
theorem CE (h:SJ W s) (b:Int):fr s b=some (esF s b,esS W s b):=by
 unfold fr esF esS
 by_cases h1:b=69
 ·subst h1
  have e:=(fI (xm h (Int.le_refl 0) (w0 h))).p
  rw [show xS s 0=aB.mk s.g (dN.mk 0 s.spot.y s.spot.aL) s.saved s.waiting s.top s.aG s.aY s.title from rfl] at e
  simp only [beq_self_eq_true,cond_true,aA,e,if_true]
  rfl
 rw [dP h1,cond_false,if_neg h1,if_neg h1]
 by_cases h2:b=68
 ·subst h2
  have e:=(fI h).p
  simp only [beq_self_eq_true,cond_true,aA,if_true]
  rw [show aB.mk s.g s.spot s.saved s.waiting s.top s.aG s.aY s.title=s from rfl,e]
  rfl
 rw [dP h2,cond_false,if_neg h2,if_neg h2]
 by_cases h3:b=77
 ·subst h3; simp only [beq_self_eq_true,cond_true,back_eq h,aA,if_true]; rfl
 rw [dP h3,cond_false,if_neg h3]
 by_cases h4:b=55
 ·subst h4; simp only [beq_self_eq_true,cond_true,aA,if_true]; rfl
 rw [dP h4,cond_false,if_neg h4]
 by_cases h5:b=56
 ·subst h5
  have e:=jf (CD h) s.saved.x s.saved.y
  rw [show e8S s=aB.mk s.g (dN.mk s.spot.x s.spot.y s.saved.aL) s.saved s.waiting s.top s.aG s.aY s.title from rfl] at e
  simp only [beq_self_eq_true,cond_true,e,aA,if_true]
  rfl
 rw [dP h5,cond_false,if_neg h5]
 by_cases h6:b=99
 ·subst h6
  simp only [beq_self_eq_true,cond_true,ou,aA,if_true,zM,h.gw]
  rfl
 rw [dP h6,cond_false,if_neg h6]
 rfl
def pvS (s:aB) (b:Int) (l:List Int):aB:=if atS l 0 0=7∧(b=104∨b=108) then ⟨s.g,s.spot,s.saved,s.waiting,s.top,s.aG,b == 104,s.title⟩ else s
def tiS (s:aB) (t:ByteArray):aB:=⟨s.g,s.spot,s.saved,s.waiting,s.top,s.aG,s.aY,t⟩
def acS (W:Nat) (s:aB) (a:bA):aB:=if a.kind=1 then prS W s a.rune else if a.kind=2 then ctS W s a.byte else if a.kind=3 then esS W s a.byte else if a.kind=4 then (if a.cG=true then pvS s a.byte a.bB else orS W s a.byte a.bB) else if a.kind=5 then tiS s a.text else s
def acF (W:Nat) (s:aB) (a:bA):List aE:=if a.kind=1 then prF W s a.rune else if a.kind=2 then ctF s a.byte else if a.kind=3 then esF s a.byte else if a.kind=4 then (if a.cG=true then [] else orF s a.byte a.bB) else []
theorem Il (h:SJ W s) (a:bA) (hl:a.bB.length≤1000000):eW s a=some (acF W s a,acS W s a):=by
 unfold eW acF acS
 by_cases h1:a.kind=1
 ·rw [kh h1,cond_true,if_pos h1,if_pos h1,EN h]; rfl
 rw [dP h1,cond_false,if_neg h1,if_neg h1]
 by_cases h2:a.kind=2
 ·rw [kh h2,cond_true,if_pos h2,if_pos h2,AN h]; rfl
 rw [dP h2,cond_false,if_neg h2,if_neg h2]
 by_cases h3:a.kind=3
 ·rw [kh h3,cond_true,if_pos h3,if_pos h3,CE h]; rfl
 rw [dP h3,cond_false,if_neg h3,if_neg h3]
 by_cases h5:a.kind=5
 ·have h4: ¬ a.kind=4:=by omega
  rw [kh h5,cond_true,if_neg h4,if_neg h4,if_pos h5]; rfl
 rw [dP h5,cond_false,if_neg h5]
 by_cases h4:a.kind=4
 ·rw [kh h4,cond_true,if_pos h4,if_pos h4]
  cases hp:a.cG with
  | false =>
   rw [Bool.not_false,cond_true,EX h a hl,if_neg (by simp),if_neg (by simp)]
   rfl
  | true =>
   rw [Bool.not_true,cond_false,if_pos rfl,if_pos rfl,show dW a 0 0=_ from vo a 0 0,aA,qs]
   unfold pvS
   by_cases c:atS a.bB 0 0=7
   ·rw [kh c,cond_true,aA]
    by_cases c2:a.byte=104∨a.byte=108
    ·rw [decide_eq_true c2,cond_true,if_pos ⟨c,c2⟩]; rfl
    ·rw [decide_eq_false c2,cond_false,if_neg (fun e=>c2 e.2)]; rfl
   ·rw [dP c,cond_false,aA,cond_false,if_neg (fun e=>c e.1)]; rfl
 rw [dP h4,cond_false,if_neg h4,if_neg h4]
 rfl
theorem Fz (h:SI W s) (a:bA) (hr:rok a.rune):SI W (acS W s a):=by
 have e1:SI W (pvS s a.byte a.bB):=by
  unfold pvS
  exact kd ⟨⟨h.gw,h.gi,h.x0,h.x1,h.y0,h.y1,h.t0,h.tb,h.b1⟩,h.wt⟩ h
 exact kd (Hc h hr) (kd (Hk h _) (kd (Hl h _) (kd (kd e1 (Hj h _ _)) (kd ⟨⟨h.gw,h.gi,h.x0,h.x1,h.y0,h.y1,h.t0,h.tb,h.b1⟩,h.wt⟩ h))))
def we (W:Nat) (off:List aE):Prop:=off.length≤2000 ∧ ∀ r∈off,gok W r
theorem qV.o2 {off:List aE} (h:qV W off):we W off:=⟨by have:=h.1; omega,h.2⟩
theorem wh {p:Prop} [Decidable p] {a b:List aE} (ha:we W a) (hb:we W b):we W (if p then a else b):=by split <;> assumption
theorem wi (h:SJ W s) (a:bA):we W (acF W s a):=by
 have n0:we W []:=(mM W).o2
 have l0: ∀ t,SJ W t→we W (liF t):=fun t ht=>(fI ht).o.o2
 exact wh (Gm h) (wh (wh (l0 _ h) n0) (wh (wh (l0 _ (xm h (Int.le_refl 0) (w0 h))) (wh (l0 _ h) n0)) (wh (wh n0 (wh (Cn (kf h) _).o2 n0)) n0)))
end
end Go.Tw.X
set_option linter.unusedVariables false
set_option linter.unusedSimpArgs false
namespace Go.Tw.X
open Go Go.Tw
def qv (a:aN):bA:=⟨a.kind,a.rune,a.byte,a.cG,a.bB,a.text⟩
section
variable {W : Nat} {s : aB}
theorem Io (h:SJ W s) (a:aN) (hr:rok a.rune) (hl:a.bB.length≤1000000):jM (aP s) a=some (aP (acS W s (qv a)),(acF W s (qv a)).map told):=by
 have hy:=yr h
 have hlen:=h.gi.l2
 have ht:=CC hy.2.2.1 hy.2.2.2
 unfold jM acF acS qv
 dsimp only
 by_cases h1:a.kind=1
 ·rw [kh h1,cond_true,if_pos h1,if_pos h1,Gl h hr]; rfl
 rw [dP h1,cond_false,if_neg h1,if_neg h1]
 by_cases h2:a.kind=2
 ·rw [kh h2,cond_true,if_pos h2,if_pos h2]
  unfold ctF ctS
  simp only [wc]
  rw [show (aP s).x=s.spot.x from rfl,show (aP s).y=s.spot.y from rfl,w64 (x:=s.spot.x - 1) (by omega) (by omega),w64 (x:=s.spot.x.tdiv 8) (by omega) (by omega),w64 (x:=s.spot.x.tdiv 8*8) (by omega) (by omega),w64 (x:=s.spot.x.tdiv 8*8+8) (by omega) (by omega)]
  generalize a.byte=b
  by_cases c1:b=8
  ·subst c1; simp only [beq_self_eq_true,cond_true,gE h,aA]; rfl
  rw [dP c1,cond_false,if_neg c1]
  by_cases c2:b=9
  ·subst c2; simp only [beq_self_eq_true,cond_true,gE h,aA]; rfl
  rw [dP c2,cond_false,if_neg c2,aA]
  by_cases c3:b=10∨b=11∨b=12
  ·rw [decide_eq_true c3,cond_true,(fI h).q,if_pos c3,if_pos c3]; rfl
  rw [decide_eq_false c3,cond_false,if_neg c3,if_neg c3]
  by_cases c4:b=13
  ·subst c4; simp only [beq_self_eq_true,cond_true,gE h,aA]; rfl
  rw [dP c4,cond_false,if_neg c4]
  rfl
 rw [dP h2,cond_false,if_neg h2,if_neg h2]
 by_cases h3:a.kind=3
 ·rw [kh h3,cond_true,if_pos h3,if_pos h3]
  unfold esF esS
  generalize a.byte=b
  by_cases c2:b=68
  ·subst c2; simp only [beq_self_eq_true,cond_true,(fI h).q,aA,if_true]; rfl
  rw [dP c2,cond_false,if_neg c2,if_neg c2]
  by_cases c1:b=69
  ·subst c1
   have e:=(fI (xm h (Int.le_refl 0) (w0 h))).q
   rw [show aP (xS s 0)=aJ.mk (aP s).g 0 (aP s).y (aP s).s (aP s).sX (aP s).sY (aP s).sS (aP s).waiting (aP s).top (aP s).aG (aP s).aY (aP s).title from rfl] at e
   simp only [beq_self_eq_true,cond_true,e,aA,if_true]
   rfl
  rw [dP c1,cond_false,if_neg c1,if_neg c1]
  by_cases c3:b=77
  ·subst c3
   simp only [beq_self_eq_true,cond_true,if_true]
   unfold baS
   rw [show (aP s).y=s.spot.y from rfl,show (aP s).top=s.top from rfl]
   by_cases c:s.spot.y=s.top
   ·have e:dD (aP s).g false s.top s.aG 1 (jR s.spot.aL)=some ((aP (dnS W (nwS s) s.top s.aG 1)).g,(p8 s.g.l s.top s.aG 1).map told):=uf (kf h) _ _ _
    rw [kh c,cond_true,if_pos c,show (aP s).s=tst s.spot.aL from rfl,xi,aA,show (aP s).aG=s.aG from rfl,e,aA]
    rfl
   ·have e:=gE (kf h) s.spot.x (s.spot.y - 1)
    rw [show aP (nwS s)=aJ.mk (aP s).g (aP s).x s.spot.y (aP s).s (aP s).sX (aP s).sY (aP s).sS false s.top (aP s).aG (aP s).aY (aP s).title from rfl] at e
    rw [dP c,cond_false,if_neg c,w64 (by omega) (by omega),show (aP s).x=s.spot.x from rfl]
    rw [show (aP s).x=s.spot.x from rfl] at e
    rw [e,aA]
    rfl
  rw [dP c3,cond_false,if_neg c3]
  by_cases c4:b=55
  ·subst c4; simp only [beq_self_eq_true,cond_true,aA,if_true]; rfl
  rw [dP c4,cond_false,if_neg c4]
  by_cases c5:b=56
  ·subst c5
   have e:=gE (CD h) s.saved.x s.saved.y
   rw [show aP (e8S s)=aJ.mk (aP s).g (aP s).x (aP s).y (aP s).sS (aP s).sX (aP s).sY (aP s).sS (aP s).waiting (aP s).top (aP s).aG (aP s).aY (aP s).title from rfl] at e
   simp only [beq_self_eq_true,cond_true,if_true]
   rw [show (aP s).sX=s.saved.x from rfl,show (aP s).sY=s.saved.y from rfl]
   rw [show (aP s).sX=s.saved.x from rfl,show (aP s).sY=s.saved.y from rfl] at e
   rw [e,aA]
   rfl
  rw [dP c5,cond_false,if_neg c5]
  by_cases c6:b=99
  ·subst c6
   simp only [beq_self_eq_true,cond_true,aA,if_true]
   rw [yC h,show (aP s).g.w=(W:Int) from h.gw,xv,aA]
   rfl
  rw [dP c6,cond_false,if_neg c6]
  rfl
 rw [dP h3,cond_false,if_neg h3,if_neg h3]
 by_cases h4:a.kind=4
 ·rw [kh h4,cond_true,if_pos h4,if_pos h4]
  cases hp:a.cG with
  | false =>
   rw [Bool.not_false,cond_true,AM h a.byte a.bB hl,if_neg (by simp),if_neg (by simp)]
   rfl
  | true =>
   rw [Bool.not_true,cond_false,if_pos rfl,if_pos rfl,show dX a.bB 0 0=_ from nL a.bB 0 0,aA,qs]
   unfold pvS
   by_cases c:atS a.bB 0 0=7
   ·rw [kh c,cond_true,aA]
    by_cases c2:a.byte=104∨a.byte=108
    ·rw [decide_eq_true c2,cond_true,if_pos ⟨c,c2⟩]; rfl
    ·rw [decide_eq_false c2,cond_false,if_neg (fun e=>c2 e.2)]; rfl
   ·rw [dP c,cond_false,aA,cond_false,if_neg (fun e=>c e.1)]; rfl
 rw [dP h4,cond_false,if_neg h4,if_neg h4]
 by_cases h5:a.kind=5
 ·rw [kh h5,cond_true,if_pos h5]; rfl
 rw [dP h5,cond_false,if_neg h5]
 rfl
def roN (s:aB) (h:Int):Int:=max 0 (s.spot.y - ((szN h:Int) - 1))
def rzS (s:aB) (w h:Int):aB:=let t:aB:=mvS ⟨⟨(szN w:Int),rzL (szN w) s.g.l (loS s.g.l (roN s h)) (szN h)⟩,s.spot,s.saved,s.waiting,s.top,s.aG,s.aY,s.title⟩ s.spot.x (s.spot.y - roN s h); ⟨t.g,t.spot,t.saved,t.waiting,0,(szN h:Int) - 1,t.aY,t.title⟩
def rzF (s:aB) (h:Int):List aE:=s.g.l.take (loS s.g.l (roN s h))
theorem AO (h:SJ W s) (w k:Int):fu s w k=some (rzF s k,rzS s w k):=by
 have hy:=yr h
 have h1:=lS k
 have h2:=jz k
 have h3:=lS w
 have h4:=jz w
 have hl:=h.gi.len
 unfold fu
 rw [l9,aA,show max 1 (min k 1000)=(szN k:Int) by rw [← vR,fg,dY],w64 (x:=(szN k:Int) - 1) (by omega) (by omega),w64 (x:=s.spot.y - ((szN k:Int) - 1)) (by omega) (by omega),fg,← roN]
 have e:=yy s.g.w s.g.l w k (roN s k) h.gi.l1 (by have:=h.gi.l2; omega) hl
 rw [show (aX.mk s.g.w s.g.l)=s.g from rfl] at e
 rw [e,aA,w64 (x:=s.spot.y - roN s k) (by unfold roN; omega) (by unfold roN; omega)]
 dsimp only
 have hl2:=jQ (szN w) s.g.l (loS s.g.l (roN s k)) (szN k)
 have em: ∀ (g:aX) (q:aB),q.g=g→g.w≤1000→1≤g.w→g.l.length≤1000 → ∀ x y,bJ q x y=some (mvS q x y):=by
  intro g q e1 e2 e3 e4 x y
  unfold bJ dL
  rw [e1,ou,aA,aA]
  dsimp only
  rw [w64 (by omega) (by omega),w64 (by omega) (by omega),l9,aA,l9,aA]
  unfold mvS
  rw [e1]
 rw [em _ _ rfl (by dsimp only; omega) (by dsimp only; omega) (by dsimp only; omega),aA]
 unfold dL
 rw [ou,aA,aA]
 simp only [mvS,hl2]
 rw [w64 (by omega) (by omega)]
 simp only [rzF,rzS,mvS,hl2]
theorem AP (h:SJ W s) (w k:Int):jN (aP s) w k=some (aP (rzS s w k),(rzF s k).map told):=by
 have hy:=yr h
 have h1:=lS k
 have h2:=jz k
 have h3:=lS w
 have h4:=jz w
 have hl:=h.gi.len
 unfold jN
 have er:imax 0 (IntKind.i64.wrap (IntKind.i64.wrap ((aP s).y+1) - (imax 1 (dF k 1000))))=roN s k:=by
  rw [show (aP s).y=s.spot.y from rfl,vR,w64 (x:=s.spot.y+1) (by omega) (by omega),w64 (by omega) (by omega),fg]
  unfold roN
  omega
 rw [er]
 have e:=wY s.g.w s.g.l w k (roN s k) h.gi.l1 (by have:=h.gi.l2; omega) hl
 rw [show (aP s).g=⟨s.g.w,s.g.l.map told⟩ from rfl,e,aA]
 dsimp only
 have hl2:=jQ (szN w) s.g.l (loS s.g.l (roN s k)) (szN k)
 rw [show (aP s).y=s.spot.y from rfl,w64 (x:=s.spot.y - roN s k) (by unfold roN; omega) (by unfold roN; omega)]
 unfold cI
 rw [aA]
 dsimp only
 rw [List.length_map,hl2,w64 (by omega) (by omega),w64 (by omega) (by omega),fg,fg,dY,dY]
 simp only [rzF,rzS,mvS,hl2,aP,nF]
theorem Gs (h:SJ W s) (w k:Int):SI (szN w) (rzS s w k):=by
 have h1:=lS k
 have h2:=jz k
 have h3:=lS w
 have h4:=jz w
 have hl2:=jQ (szN w) s.g.l (loS s.g.l (roN s k)) (szN k)
 have hg:GI (szN w) (rzL (szN w) s.g.l (loS s.g.l (roN s k)) (szN k)):=G2 (W:=W) (fun r hr=>(h.gi.rs r hr).2) _ _ _ h3 h4 h1 h2
 refine ⟨⟨rfl,hg,?_,?_,?_,?_,?_,?_,?_⟩,fun e=>by cases e⟩
 all_goals simp only [rzS,mvS,hl2]
 all_goals omega
theorem yG (h:SJ W s) (k:Int):we W (rzF s k):=by
 refine ⟨?_,fun r hr=>h.gi.rs r (List.mem_of_mem_take hr)⟩
 have:=h.gi.l2
 simp only [rzF,List.length_take]
 omega
end
end Go.Tw.X
set_option linter.unusedVariables false
set_option linter.unusedSimpArgs false
namespace Go.Tw.X
open Go Go.Tw
theorem ug (s:ByteArray) {lo hi:Int} (h0:0≤lo) (h1:lo≤hi) (h2:hi≤s.size):(lF s lo hi).size=(hi - lo).toNat:=by
 unfold lF
 rw [ByteArray.size_extract]
 omega
def okA (a:aN):Prop:=rok a.rune∧0≤a.byte∧a.byte < 256∧a.bB.length≤18
end Go.Tw.X
set_option linter.unusedVariables false
set_option linter.unusedSimpArgs false
set_option maxHeartbeats 1000000
namespace Go.Tw.X
open Go Go.Tw
def uh (l:List Int):Prop:= ∀ x∈l,rok x
theorem pO {l:List Int} {x:Int} (h:uh l) (hx:rok x):uh (l++[x]):=fun y hy=>by
 rcases List.mem_append.1 hy with hy | hy
 ·exact h y hy
 ·rw [List.mem_singleton.1 hy]; exact hx
theorem Ip {b:Int} (h:0≤b):0≤b.tmod 64∧b.tmod 64 < 64:=⟨Int.tmod_nonneg _ h,Int.tmod_lt_of_pos _ (by decide)⟩
end Go.Tw.X
set_option linter.unusedVariables false
set_option linter.unusedSimpArgs false
namespace Go.Tw.X
open Go Go.Tw
theorem EZ (s:ByteArray) {n:Int} (h:0≤n):okO (lW s n) (fun r=>(r.size:Int)≤n):=by
 unfold lW
 refine iC (fun hc=> ?_) fun hc=>aW (by omega)
 refine bO (rS (by omega) h (by omega)) fun _ _=>aW ?_
 rw [ug _ (by omega) h (by omega)]
 omega
theorem Gt {W:Nat} {off:List aE} (h:we W off) (hW:W≤1000):fO off (off.map told)=some true :=
 xc off (by have:=h.1; omega) fun r hr=>⟨by have:=(h.2 r hr).1; omega,(h.2 r hr).2⟩
theorem AQ {x:Int} (h:rok x):IntKind.i32.wrap x=x:=by
 have h1:=h.1
 have h2:=h.2
 rw [IntKind.wrap_i32]
 omega
theorem CF {a:aN} (h:okA a):oU a=some (qv a):=by
 obtain ⟨h1,h2,h3,h4⟩:=h
 unfold oU
 rw [bK (by simp; omega),aA,AQ h1,o3 h2 h3]
 rfl
section
variable {W : Nat} {s : aB}
theorem zO (h:SI W s) {a:aN} (ha:okA a):jM (aP s) a=some (aP (acS W s (qv a)),(acF W s (qv a)).map told)∧oU a=some (qv a)∧eW s (qv a)=some (acF W s (qv a),acS W s (qv a))∧fO (acF W s (qv a)) ((acF W s (qv a)).map told)=some true∧SI W (acS W s (qv a)) :=
 ⟨Io h.toSJ a ha.1 (by have:=ha.2.2.2; omega),CF ha,Il h.toSJ _ (by have:=ha.2.2.2; show a.bB.length≤_; omega),Gt (wi h.toSJ _) h.gi.w2,Fz h _ ha.1⟩
theorem xw (h:SJ W s):eY s=some (s.g,s):=by
 unfold eY
 have e:=tW s.g.w s.g.l (by have:=h.gi.l2; omega) h.gi.len
 rw [show (aX.mk s.g.w s.g.l)=s.g from rfl] at e
 rw [e]
 rfl
theorem xx (h:SJ W s):fH s=some (s,s):=by
 unfold fH
 have e:=tW s.g.w s.g.l (by have:=h.gi.l2; omega) h.gi.len
 rw [show (aX.mk s.g.w s.g.l)=s.g from rfl] at e
 rw [e]
 rfl
theorem CG (h:SJ W s):mR s (aP s)=some (true,s):=by
 unfold mR
 rw [show eG s=some (s.spot.x,s.spot.y) from rfl,aA,show gF s=some (s.top,s.aG) from rfl,aA,xw h,aA]
 dsimp only
 have e:lJ s.g (aP s).g=some (true,s.g):=by
  rw [qX h]
  have:=Gb h.gi
  rw [← h.ge] at this
  exact this
 rw [e,aA]
 simp only [cond_true,aP,beq_self_eq_true,gu,eM,hG,aA,tst,Bool.and_self]
end
end Go.Tw.X
set_option linter.unusedVariables false
set_option linter.unusedSimpArgs false
set_option maxRecDepth 20000
set_option maxHeartbeats 1000000
namespace Go.Tw.X
open Go Go.Tw
theorem CH {P:Int→Prop} (h: ∀ n:Nat,n < 256→P n) {b:Int} (h0:0≤b) (h1:b < 256):P b:=by
 have:=h b.toNat (by omega)
 rwa [Int.toNat_of_nonneg h0] at this
def dQ (b:Int):Int×Int×Int:=if 194≤b∧b≤223 then (1,128,191) else if b=224 then (2,160,191) else if b=237 then (2,128,159) else if 225≤b∧b≤239 then (2,128,191) else if b=240 then (3,144,191) else if b=244 then (3,128,143) else if 241≤b∧b≤243 then (3,128,191) else (0,0,0)
theorem CI {b:Int} (h0:0≤b) (h1:b < 256):k7 b=some (dQ b):=CH (P:=fun b=>k7 b=some (dQ b)) (by decide) h0 h1
theorem pc (b:Int):((dQ b).1=0∨(dQ b).1=1∨(dQ b).1=2∨(dQ b).1=3)∧((dQ b).1≠0→194≤b∧b≤244):=by
 unfold dQ
 repeat' split
 all_goals simp
 all_goals omega
def AR (l:List iN) (b:Int):Option iN:=l.find? fun x=>decide (x.first≤b) && decide (b≤x.last)
def fnd (b:Int):iN×Bool:=match AR bT b with
 | some x=>(x,true)
 | none=>(⟨0,0,0,0,0⟩,false)
theorem xy {b:Int} (h0:0≤b) (h1:b < 256):(fnd b).2=decide ((dQ b).1≠0)∧(fnd b).1.gg=(dQ b).1∧(fnd b).1.low=(dQ b).2.1∧(fnd b).1.high=(dQ b).2.2 :=
 CH (P:=fun b=>(fnd b).2=decide ((dQ b).1≠0)∧(fnd b).1.gg=(dQ b).1∧(fnd b).1.low=(dQ b).2.1∧(fnd b).1.high=(dQ b).2.2) (by decide) h0 h1
theorem xz (b:Int):jZ b=some (fnd b):=by
 unfold jZ
 have key: ∀ k i:Nat,i+k=8→iter (σ:=Int) (ρ:=Unit ⊕ (iN×Bool)) (fun a=>(bif (decide (a < 8)) then (Option.bind (idx bT a) fun c=>(Option.bind ((bif (decide (b≥c.first)) then some (decide (b≤c.last)) else some false):Option Bool) fun d=>(bif d then (lT (some (c,true))) else some (.inl (IntKind.i64.wrap (a+1)))))) else some (.inr (.inl ())))) (i:Int)=some (match AR (bT.drop i) b with
   | some x=> .inr (x,true)
   | none=> .inl ()):=by
  intro k
  induction k with
  | zero =>
   intro i hi
   obtain rfl:i=8:=by omega
   rw [dS (r:= .inl ()) rfl]
   rfl
  | succ k ih =>
   intro i hi
   have hlt:i < bT.length:=by show i < 8; omega
   have hd:bT.drop i=bT[i]::bT.drop (i+1):=List.drop_eq_getElem_cons hlt
   rw [iter_eq,hd]
   simp only [cO _ i hlt,Option.bind_some,decide_eq_true (show (i:Int) < 8 by omega),cond_true]
   generalize bT[i]=x
   have hw:IntKind.i64.wrap ((i:Int)+1)=((i+1:Nat):Int):=by rw [w64 (by omega) (by omega)]; omega
   by_cases h1:x.first≤b
   ·by_cases h2:b≤x.last
    ·simp [h1,h2,AR,lT]
    ·have:=ih (i+1) (by omega)
     simp [h1,h2,AR,hw] at this ⊢
     exact this
   ·have:=ih (i+1) (by omega)
    simp [h1,AR,hw] at this ⊢
    exact this
 have:=key 8 0 rfl
 simp only [Int.natCast_zero] at this
 rw [this]
 unfold fnd
 rw [List.drop_zero]
 cases AR bT b <;> rfl
theorem Hm {b:Int} (h0:0≤b) (h1:b < 256):Go.bits .and .i32 (IntKind.i32.wrap b) 63=b % 64:=by
 rw [AQ ⟨by omega,by omega⟩]
 exact m63 b h0 (by omega)
theorem Iq {b:Int} (h0:0≤b) (h1:b < 256):Go.bits .and .i32 (IntKind.i32.wrap b) ((63:Int).fdiv (2 ^ (min (1:Int).toNat 32)))=b % 32∧Go.bits .and .i32 (IntKind.i32.wrap b) ((63:Int).fdiv (2 ^ (min (2:Int).toNat 32)))=b % 16∧Go.bits .and .i32 (IntKind.i32.wrap b) ((63:Int).fdiv (2 ^ (min (3:Int).toNat 32)))=b % 8:=by
 rw [AQ ⟨by omega,by omega⟩]
 have g5:=bits_mask .i32 31 (by decide) wraps_i32 5 (by decide) b h0 (by omega)
 have g4:=bits_mask .i32 31 (by decide) wraps_i32 4 (by decide) b h0 (by omega)
 have g3:=bits_mask .i32 31 (by decide) wraps_i32 3 (by decide) b h0 (by omega)
 exact ⟨g5,g4,g3⟩
theorem Ir {r b:Int} (h0:0≤r) (h1:r < 1000000) (hb0:0≤b) (hb1:b < 64):Go.bits .or .i32 (IntKind.i32.wrap (r*2 ^ (min 6 32))) b=r*64+b:=by
 have e:(r*2 ^ (min 6 32):Int)=r*64:=rfl
 rw [e,AQ ⟨by omega,by omega⟩]
 exact bits_join .i32 31 (by decide) wraps_i32 6 (r*64) b (by omega) (by show r*64 % 64=0; omega) (by omega) hb0 (by omega) (by omega)
def d0:bM:=⟨0,0,0⟩
def qw (b:Int):Int:=if (dQ b).1=1 then b % 32 else if (dQ b).1=2 then b % 16 else b % 8
def np (b:Int):bM×List Int:=if b < 128 then (d0,[b]) else if (dQ b).1=0 then (d0,[65533]) else (⟨b,qw b,(dQ b).1⟩,[])
theorem xA {b:Int} (h0:0≤b) (h1:b < 256):jr b=some (np b):=by
 unfold jr np
 by_cases hb:b < 128
 ·rw [decide_eq_true hb,cond_true,if_pos hb,AQ ⟨by omega,by omega⟩]; rfl
 ·rw [decide_eq_false hb,cond_false,if_neg hb,xz,Option.bind_some]
  obtain ⟨f1,f2,f3,f4⟩:=xy h0 h1
  rw [f1,f2]
  have hn:=pc b
  by_cases hz:(dQ b).1=0
  ·rw [if_pos hz,hz]; rfl
  ·rw [if_neg hz,decide_eq_true hz]
   obtain ⟨a1,a2,a3⟩:=Iq h0 h1
   have hk: ∀ n:Int,n=1∨n=2∨n=3→(Option.bind (chk (shk n)) fun _=>some ((bM.mk b (Go.bits .and .i32 (IntKind.i32.wrap b) ((63:Int).fdiv (2 ^ (min n.toNat 32)))) n),([]:List Int)))=some (⟨b,if n=1 then b % 32 else if n=2 then b % 16 else b % 8,n⟩,[]):=by
    rintro n (rfl | rfl | rfl)
    ·rw [a1]; rfl
    ·rw [a2]; rfl
    ·rw [a3]; rfl
   exact hk _ (by omega)
def uU (d:bM) (b:Int):Bool:=if d.gg < (dQ d.lead).1 then decide (128≤b∧b≤191) else decide ((dQ d.lead).2.1≤b∧b≤(dQ d.lead).2.2)
theorem E0 {d:bM} (h0:0≤d.lead) (h1:d.lead < 256) (b:Int):fS d b=some (uU d b):=by
 unfold fS uU
 rw [xz,Option.bind_some]
 obtain ⟨f1,f2,f3,f4⟩:=xy h0 h1
 rw [f2,f3,f4]
 by_cases h:d.gg < (dQ d.lead).1
 ·rw [if_pos h,decide_eq_true h,cond_true]
  by_cases ha:128≤b <;> simp [ha]
 ·rw [if_neg h,decide_eq_false h,cond_false]
  by_cases ha:(dQ d.lead).2.1≤b <;> simp [ha]
def jS (d:bM) (b:Int):bM×List Int:=if d.gg≤0 then np b else if uU d b then (if d.gg=1 then (d0,[d.rune*64+b % 64]) else (⟨d.lead,d.rune*64+b % 64,d.gg - 1⟩,[])) else ((np b).1,65533::(np b).2)
def DI (d:bM):Prop:=d=d0∨(0≤d.lead∧d.lead < 256∧1≤d.gg∧d.gg≤(dQ d.lead).1∧0≤d.rune∧(d.gg=3→d.rune < 8)∧(d.gg=2→d.rune < 512)∧(d.gg=1→d.rune < 32768))
theorem DI0:DI d0:= .inl rfl
theorem E1 {b:Int} (h0:0≤b) (h1:b < 256):DI (np b).1∧(np b).2.length≤1∧uh (np b).2:=by
 unfold np
 have hn:=pc b
 split
 ·refine ⟨DI0,by simp,fun x hx=> ?_⟩
  rw [List.mem_singleton.1 hx]
  exact ⟨by omega,by omega⟩
 ·split
  ·refine ⟨DI0,by simp,fun x hx=> ?_⟩
   rw [List.mem_singleton.1 hx]
   exact ⟨by decide,by decide⟩
  ·rename_i hz
   refine ⟨.inr ⟨h0,h1,by dsimp only; omega,Int.le_refl _,?_,?_,?_,?_⟩,by simp,fun x hx=>by cases hx⟩
   all_goals (dsimp only; unfold qw; intros; split <;> (try split) <;> omega)
theorem qZ {d:bM} (h:DI d) {b:Int} (h0:0≤b) (h1:b < 256):fT d b=some (jS d b)∧DI (jS d b).1∧(jS d b).2.length≤2∧uh (jS d b).2:=by
 obtain ⟨k1,k2,k3⟩:=E1 h0 h1
 unfold fT jS
 by_cases hd:d.gg≤0
 ·rw [decide_eq_true hd,cond_true,xA h0 h1,if_pos hd]
  exact ⟨rfl,k1,by omega,k3⟩
 ·rcases h with rfl | ⟨l0,l1,n1,n2,r0,r3,r2,r1⟩
  ·exact absurd (by decide) hd
  rw [decide_eq_false hd,cond_false,if_neg hd,E0 l0 l1,Option.bind_some]
  have hn:=pc d.lead
  have hrb:d.rune < 32768:=by
   have:d.gg=1∨d.gg=2∨d.gg=3:=by omega
   rcases this with h | h | h
   ·exact r1 h
   ·have:=r2 h; omega
   ·have:=r3 h; omega
  cases hf:uU d b with
  | false =>
   simp only [Bool.not_false,cond_true,xA h0 h1,Option.bind_some,Bool.false_eq_true,if_false]
   refine ⟨by rw [bK (by simp; omega)]; rfl,k1,by simp; omega,fun x hx=> ?_⟩
   rcases List.mem_cons.1 hx with rfl | hx
   ·exact ⟨by decide,by decide⟩
   ·exact k3 x hx
  | true =>
   have hor:Go.bits .or .i32 (IntKind.i32.wrap (d.rune*2 ^ (min 6 32))) (Go.bits .and .i32 (IntKind.i32.wrap b) 63)=d.rune*64+b % 64:=by
    rw [Hm h0 h1]
    exact Ir r0 (by omega) (by omega) (by omega)
   simp only [Bool.not_true,cond_false,if_true,hor]
   rw [w64 (x:=d.gg - 1) (by omega) (by omega)]
   by_cases h1':d.gg=1
   ·rw [if_pos h1',h1']
    refine ⟨rfl,DI0,by simp,fun x hx=> ?_⟩
    rw [List.mem_singleton.1 hx]
    have:=r1 h1'
    exact ⟨by omega,by omega⟩
   ·have he:(d.gg - 1 == 0)=false:=by
     have: ¬ d.gg - 1=0:=by omega
     simpa using this
    rw [if_neg h1',he,cond_false]
    refine ⟨rfl,.inr ⟨l0,l1,by dsimp only; omega,by dsimp only; omega,by dsimp only; omega,?_,?_,?_⟩,by simp,fun x hx=>by cases hx⟩
    ·dsimp only; intro e; omega
    ·dsimp only; intro e; have:=r3 (by omega); omega
    ·dsimp only; intro e; have:=r2 (by omega); omega
end Go.Tw.X
set_option linter.unusedVariables false
set_option linter.unusedSimpArgs false
set_option maxHeartbeats 1000000
namespace Go.Tw.X
open Go Go.Tw
def dfold:bM→List Int→List Int→bM×List Int
 | d,out,[]=>(d,out)
 | d,out,b::r=>dfold (jS d b).1 (out++(jS d b).2) r
theorem mU {s:ByteArray} {i:Int} (h0:0≤i) (h1:i < s.size):okO (jY s i) (fun b=>(0≤b∧b < 256)∧(sbs s).drop i.toNat=b::(sbs s).drop (i.toNat+1)):=by
 have hl:i.toNat < (sbs s).length:=by rw [cF]; omega
 have e:=qP s i.toNat hl
 rw [Int.toNat_of_nonneg h0] at e
 exact ⟨_,e,gX s _ (List.getElem_mem hl),List.drop_eq_getElem_cons hl⟩
theorem lk {s:ByteArray} {i:Int} (h:i=s.size):(sbs s).drop i.toNat=[]:=List.drop_eq_nil_of_le (by rw [cF]; omega)
theorem xB {a b:Int} (h:0≤a):a.tmod b=a % b:=Int.tmod_eq_emod_of_nonneg h
def CJ (T:bM×List Int) (r:List Int×Int):Prop:=r.1=T.2∧0≤r.2∧(0 < r.2↔0 < T.1.gg)
theorem CK {s:ByteArray} (hs:s.size≤1000000):okO (kl s) (fun r=>CJ (dfold d0 [] (sbs s)) r∧r.1.length≤s.size∧uh r.1):=by
 unfold kl
 generalize hT:dfold d0 [] (sbs s)=T
 refine bO (P:=fun | .inl l=>(T=(d0,l))∧l.length≤s.size∧uh l | .inr r=>CJ T r∧r.1.length≤s.size∧uh r.1) ?_ ?_
 rotate_left
 ·rintro (l | r) h
  ·obtain ⟨rfl,h2⟩:=h
   exact aW ⟨⟨rfl,Int.le_refl 0,by simp [d0]⟩,h2⟩
  ·exact aW h
 refine iD (fun z:List Int×Int=>0≤z.2∧z.2≤s.size∧(z.1.length:Int)≤z.2∧uh z.1∧dfold d0 z.1 ((sbs s).drop z.2.toNat)=T) (fun z=>s.size - z.2.toNat) ⟨Int.le_refl 0,by dsimp only; omega,by simp,fun x hx=>(by cases hx),hT⟩ ?_
 rintro ⟨o,p⟩ ⟨h0,h1,h2,h3,h4⟩
 dsimp only at h0 h1 h2 h3 h4 ⊢
 refine iC (fun hp=> ?_) fun hp=> ?_
 rotate_left
 ·rw [lk (by omega)] at h4
  exact aW ⟨h4.symm,by omega,h3⟩
 refine bO (mU h0 hp) fun b hb=> ?_
 obtain ⟨hb,hbd⟩:=hb
 rw [hbd] at h4
 have ep:(p+1).toNat=p.toNat+1:=by omega
 rw [w64 (x:=b) (by omega) (by omega),w64 (x:=p+1) (by omega) (by omega)]
 have hn0:jS d0 b=np b:=if_pos (by decide)
 refine iC (fun hb1=> ?_) fun hb1=> ?_
 ·have e:np b=(d0,[b]):=if_pos hb1
  simp only [dfold,hn0,e] at h4
  refine bO (qa (by simp; omega)) fun _ _=>aW ⟨⟨by dsimp only; omega,by dsimp only; omega,by simp; omega,pO h3 ⟨by omega,by omega⟩,by dsimp only; rw [ep]; exact h4⟩,by dsimp only; omega⟩
 ·refine bO (P:=fun k=>k=dQ b) ⟨_,CI hb.1 hb.2,rfl⟩ fun k hk=> ?_
  subst hk
  have hn5:=pc b
  refine ok_eq (fun hk0=> ?_) fun hk0=> ?_
  ·have e:np b=(d0,[65533]):=by unfold np; rw [if_neg hb1,if_pos hk0]
   simp only [dfold,hn0,e] at h4
   refine bO (qa (by simp; omega)) fun _ _=>aW ⟨⟨by dsimp only; omega,by dsimp only; omega,by simp; omega,pO h3 ⟨by decide,by decide⟩,by dsimp only; rw [ep]; exact h4⟩,by dsimp only; omega⟩
  ·have e:np b=(⟨b,qw b,(dQ b).1⟩,[]):=by unfold np; rw [if_neg hb1,if_neg hk0]
   simp only [dfold,hn0,e,List.append_nil] at h4
   refine bO (P:=fun x=>x≠0∧b.tmod x=qw b∧0≤qw b∧qw b < 32) ?_ fun x hx=> ?_
   ·unfold qw
    rcases hn5.1 with hk | hk | hk | hk
    ·exact absurd hk hk0
    ·rw [hk]; exact ⟨32,rfl,by decide,xB hb.1,by simp; omega,by simp; omega⟩
    ·rw [hk]; exact ⟨16,rfl,by decide,xB hb.1,by simp; omega,by simp; omega⟩
    ·rw [hk]; exact ⟨8,rfl,by decide,xB hb.1,by simp; omega,by simp; omega⟩
   obtain ⟨hx0,hx1,hx2,hx3⟩:=hx
   refine bO (Ge hx0) fun _ _=> ?_
   rw [hx1]
   refine bO (P:=fun v=>0≤v.1∧v.1 < 8388608∧1≤v.2∧v.2≤4∧p+v.2≤s.size∧(((dQ b).1 < v.2∧dfold d0 (o++[v.1]) ((sbs s).drop (p+v.2).toNat)=T)∨(v.2≤(dQ b).1∧p+v.2=s.size∧T=(⟨b,v.1,(dQ b).1 - (v.2 - 1)⟩,o))∨(v.2≤(dQ b).1∧p+v.2≠s.size∧dfold d0 (o++[65533]) ((sbs s).drop (p+v.2).toNat)=T))) ?_ fun v hv=> ?_
   ·refine iD (fun z:Int×Int×Int×Int=>0≤z.1∧p+z.2.1≤s.size∧z.2.1≤(dQ b).1+1∧(z.2.1=1∧z.1 < 32∨z.2.1=2∧z.1 < 2048∨z.2.1=3∧z.1 < 131072∨z.2.1=4∧z.1 < 8388608)∧z.2.2=(if z.2.1=1 then (dQ b).2 else (128,191))∧(if (dQ b).1 < z.2.1 then dfold d0 (o++[z.1]) ((sbs s).drop (p+z.2.1).toNat)=T else dfold ⟨b,z.1,(dQ b).1 - (z.2.1 - 1)⟩ o ((sbs s).drop (p+z.2.1).toNat)=T)) (fun z=>4 - z.2.1.toNat) ⟨hx2,by dsimp only; omega,by dsimp only; omega,.inl ⟨rfl,hx3⟩,by simp,?_⟩ ?_
    ·dsimp only
     rw [if_neg (by omega),ep,Int.sub_self,Int.sub_zero]
     exact h4
    rintro ⟨v,j,lo,hi⟩ ⟨g0,g1,g2,g3,g4,g5⟩
    dsimp only at g0 g1 g2 g3 g4 g5 ⊢
    rw [w64 (x:=p+j) (by omega) (by omega)]
    refine bO (P:=fun e=>e=true↔(j≤(dQ b).1∧p+j < s.size)) ?_ fun e he=> ?_
    ·refine iC (fun h=>aW (by simp [h])) fun h=>aW (by simp [h])
    ·refine ml (fun h=> ?_) fun h=> ?_
     rotate_left
     ·refine aW ⟨g0,by omega,by omega,by omega,g1,?_⟩
      dsimp only
      by_cases hj:(dQ b).1 < j
      ·rw [if_pos hj] at g5
       exact .inl ⟨hj,g5⟩
      ·rw [if_neg hj] at g5
       have hpe:p+j=s.size:=by
        have: ¬ (j≤(dQ b).1∧p+j < s.size):=fun hh=>by rw [he.2 hh] at h; cases h
        omega
       rw [lk hpe] at g5
       exact .inr (.inl ⟨by omega,hpe,g5.symm⟩)
     obtain ⟨e1,e2⟩:=he.1 h
     refine bO (mU (by omega) e2) fun c hc=> ?_
     obtain ⟨hc,hcd⟩:=hc
     rw [w64 (x:=c) (by omega) (by omega)]
     rw [if_neg (by omega),hcd] at g5
     have hneed: ¬ (bM.mk b v ((dQ b).1 - (j - 1))).gg≤0:=by dsimp only; omega
     have hfit:uU ⟨b,v,(dQ b).1 - (j - 1)⟩ c=decide (lo≤c∧c≤hi):=by
      unfold uU
      dsimp only
      by_cases hj:j=1
      ·subst hj
       rw [if_pos rfl] at g4
       rw [if_neg (by omega),← g4]
      ·rw [if_neg hj] at g4
       injection g4 with g4 g4'
       rw [if_pos (by omega),g4,g4']
     refine bO (P:=fun e=>e=true ↔ ¬ (lo≤c∧c≤hi)) ?_ fun e he=> ?_
     ·refine iC (fun h=>aW (by simp; omega)) fun h=>aW (by simp; omega)
     refine ml (fun h=> ?_) fun h=> ?_
     ·refine aW ⟨g0,by omega,by omega,by omega,g1,.inr (.inr ⟨e1,by dsimp only; omega,?_⟩)⟩
      dsimp only
      have hnf:uU ⟨b,v,(dQ b).1 - (j - 1)⟩ c=false:=by rw [hfit]; exact decide_eq_false (he.1 h)
      have en:jS ⟨b,v,(dQ b).1 - (j - 1)⟩ c=((np c).1,65533::(np c).2):=by
       unfold jS
       rw [if_neg hneed,hnf]
       rfl
      have en0:jS d0 c=np c:=if_pos (by decide)
      simp only [dfold,en] at g5
      rw [hcd]
      simp only [dfold,en0]
      rw [← g5]
      simp
     ·have hc2:=Ip hc.1
      have w1:IntKind.i64.wrap (v*64)=v*64:=w64 (by omega) (by omega)
      have w2:IntKind.i64.wrap (v*64+c.tmod 64)=v*64+c.tmod 64:=w64 (by omega) (by omega)
      have w3:IntKind.i64.wrap (j+1)=j+1:=w64 (by omega) (by omega)
      rw [w1,w2,w3]
      have hf:uU ⟨b,v,(dQ b).1 - (j - 1)⟩ c=true:=by
       rw [hfit]
       refine decide_eq_true (Classical.byContradiction fun hh=> ?_)
       rw [he.2 hh] at h
       cases h
      have epj:(p+(j+1)).toNat=(p+j).toNat+1:=by omega
      refine aW ⟨⟨by dsimp only; omega,by dsimp only; omega,by dsimp only; omega,by dsimp only; omega,?_,?_⟩,by dsimp only; omega⟩
      ·dsimp only
       rw [if_neg (by omega)]
      ·dsimp only
       rw [epj]
       by_cases hj:(dQ b).1 < j+1
       ·have en:jS ⟨b,v,(dQ b).1 - (j - 1)⟩ c=(d0,[v*64+c % 64]):=by
         unfold jS
         rw [if_neg hneed,hf,if_pos rfl,if_pos (by dsimp only; omega)]
        simp only [dfold,en] at g5
        rw [if_pos hj,xB hc.1]
        exact g5
       ·have en:jS ⟨b,v,(dQ b).1 - (j - 1)⟩ c=(⟨b,v*64+c % 64,(dQ b).1 - (j - 1) - 1⟩,[]):=by
         unfold jS
         rw [if_neg hneed,hf,if_pos rfl,if_neg (by dsimp only; omega)]
        simp only [dfold,en,List.append_nil] at g5
        rw [if_neg hj,xB hc.1,show (dQ b).1 - (j+1 - 1)=(dQ b).1 - (j - 1) - 1 by omega]
        exact g5
   ·obtain ⟨g0,g1,g2,g3,g4,g5⟩:=hv
    rw [w64 (x:=p+v.2) (by omega) (by omega)]
    refine bO (P:=fun | .inl l=>(l.length:Int)≤p+1∧uh l∧dfold d0 l ((sbs s).drop (p+v.2).toNat)=T | .inr (.inl _)=>False | .inr (.inr (.inl _))=>False | .inr (.inr (.inr r))=>CJ T r∧r.1.length≤s.size∧uh r.1) ?_ ?_
    ·refine iC (fun h=> ?_) fun h=> ?_
     ·refine bO (qa (by simp; omega)) fun _ _=>aW ⟨by simp; omega,pO h3 ⟨by omega,by omega⟩,?_⟩
      rcases g5 with g5 | g5 | g5
      ·exact g5.2
      ·exact absurd g5.1 (by omega)
      ·exact absurd g5.1 (by omega)
     ·refine ok_eq (fun hq=> ?_) fun hq=> ?_
      ·rcases g5 with g5 | g5 | g5
       ·exact absurd g5.1 h
       ·refine v3 (v5 (aW ⟨⟨?_,by dsimp only; omega,?_⟩,by dsimp only; omega,h3⟩))
        ·rw [g5.2.2]
        ·rw [g5.2.2]; dsimp only; constructor <;> intro _ <;> omega
       ·exact absurd hq g5.2.1
      ·refine bO (qa (by simp; omega)) fun _ _=>aW ⟨by simp; omega,pO h3 ⟨by decide,by decide⟩,?_⟩
       rcases g5 with g5 | g5 | g5
       ·exact absurd g5.1 h
       ·exact absurd g5.2.1 hq
       ·exact g5.2.2
    ·rintro (l | (l | (l | l))) hl
     ·exact aW ⟨⟨by dsimp only; omega,by dsimp only; omega,by dsimp only; omega,hl.2.1,hl.2.2⟩,by dsimp only; omega⟩
     ·exact hl.elim
     ·exact hl.elim
     ·exact aW hl
end Go.Tw.X
set_option linter.unusedVariables false
set_option linter.unusedSimpArgs false
set_option maxHeartbeats 1000000
namespace Go.Tw.X
open Go Go.Tw
def nf (p:aD) (a:bA):aD:=⟨p.state,p.order,p.text,p.cC,p.out++[a]⟩
def prA (r:Int):bA:=⟨1,r,0,false,[],ByteArray.mk #[]⟩
def lM (p:aD) (l:List Int):aD:=⟨p.state,p.order,p.text,p.cC,p.out++l.map prA⟩
def stP (p:aD) (s:Int):aD:=⟨s,p.order,p.text,p.cC,p.out⟩
def ctA (b:Int):bA:=⟨2,0,b,false,[],ByteArray.mk #[]⟩
def cW (p:aD) (b:Int):Bool×aD:=if b=24∨b=26 then (true,stP p 0) else if b=27 then (true,stP p 1) else if b < 32 then (true,nf p (ctA b)) else (b == 127,p)
def qy (d:bM):List Int:=if d.gg≤0 then [] else [65533]
def jA (p:aD) (b:Int):aD:=if b < 32∨b=127 then (cW ⟨p.state,p.order,p.text,d0,p.out++(qy p.cC).map prA⟩ b).2 else lM ⟨p.state,p.order,p.text,(jS p.cC b).1,p.out⟩ (jS p.cC b).2
def o0:dK:=⟨false,false,false,false,0,[]⟩
def Hn (b:Int):bA:=⟨3,0,b,false,[],ByteArray.mk #[]⟩
def fQ (p:aD) (b:Int):aD :=
 if (cW p b).1 then (cW p b).2 else
 if b=91 then ⟨3,o0,p.text,p.cC,p.out⟩ else if b=93 then ⟨4,p.order,ByteArray.mk #[],p.cC,p.out⟩ else if b < 48 then stP p 2 else if b < 127 then stP (nf p (Hn b)) 0 else stP p 0
def mV (p:aD) (b:Int):aD:=if (cW p b).1 then (cW p b).2 else if 48≤b then stP p 0 else p
def ng (o:dK):dK:=⟨o.cG,o.iJ,o.any,o.some,0,if o.bB.length < 16 then o.bB++[o.n] else o.bB⟩
def cmA (o:dK) (b:Int):bA:=⟨4,0,b,o.cG,o.bB,ByteArray.mk #[]⟩
def jB (p:aD) (b:Int):aD:=if p.order.iJ then stP p 0 else
 let o:=if p.order.some then ng p.order else p.order
 ⟨0,o,p.text,p.cC,p.out++[cmA o b]⟩
def E2 (o:dK):dK:=⟨o.cG,o.iJ,true,o.some,o.n,o.bB⟩
def dB (o:dK) (b:Int):dK :=
 if 48≤b∧b≤57 then ⟨o.cG,o.iJ,true,true,dF (10*o.n+(b - 48)) 9999,o.bB⟩ else
 if b=59∨b=58 then ⟨o.cG,o.iJ,true,true,0,(ng o).bB⟩ else
 if b=63∧o.any=false then ⟨true,o.iJ,true,o.some,o.n,o.bB⟩ else
 ⟨o.cG,true,true,o.some,o.n,o.bB⟩
def gY (p:aD) (b:Int):aD:=if (cW p b).1 then (cW p b).2 else
 if 64≤b∧b < 127 then jB ⟨p.state,E2 p.order,p.text,p.cC,p.out⟩ b else ⟨p.state,dB p.order b,p.text,p.cC,p.out⟩
theorem re {p:aD} (h:p.out.length≤1000000) (a:bA):eK p a=some (nf p a):=by
 unfold eK
 rw [bK (by simp; omega)]
 rfl
theorem xC {p:aD} (h:p.out.length≤1000000) (a:bA):fX p a=some (nf p a):=by
 unfold fX
 rw [bK (by simp; omega)]
 rfl
theorem okE {α:Type _} {x:Option α} {r:α} (h:okO x (fun y=>y=r)):x=some r:=by
 obtain ⟨y,e,rfl⟩:=h
 exact e
theorem xD {p:aD} {l:List Int} (h:p.out.length+l.length≤1000000):fL p l=some (lM p l):=by
 unfold fL
 refine okE (bO (P:=fun y=>y=lM p l) ?_ fun r hr=>aW hr)
 refine iD (fun z:aD×Int=>0≤z.2∧z.2≤l.length∧z.1=lM p (l.take z.2.toNat)) (fun z=>l.length - z.2.toNat) ⟨Int.le_refl 0,by dsimp only; omega,by simp [lM]⟩ ?_
 rintro ⟨q,i⟩ ⟨h0,h1,h2⟩
 dsimp only at h0 h1 h2 ⊢
 subst h2
 refine iC (fun hi=> ?_) fun hi=>aW (by rw [List.take_of_length_le (by omega)])
 obtain ⟨k,rfl⟩: ∃ k:Nat,i=k:=⟨i.toNat,by omega⟩
 have hk:k < l.length:=by omega
 refine bO (P:=fun x=>x=l[k]) ⟨_,cO l k hk,rfl⟩ fun x hx=> ?_
 subst hx
 refine bO (P:=fun x=>x=lM p (l.take (k+1))) ?_ fun x hx=> ?_
 ·rw [re (by simp [lM]; omega)]
  refine aW ?_
  simp only [lM,nf,Int.toNat_natCast,List.take_add_one,List.getElem?_eq_getElem hk,Option.toList_some,List.map_append,List.map_cons,List.map_nil,List.append_assoc,prA]
 ·subst hx
  rw [w64 (by omega) (by omega)]
  refine aW ⟨⟨by dsimp only; omega,by dsimp only; omega,?_⟩,by dsimp only; omega⟩
  dsimp only
  rw [show ((k:Int)+1).toNat=k+1 by omega]
theorem pP {p:aD} (h:p.out.length≤1000000) (b:Int):ej p b=some (cW p b):=by
 unfold ej cW
 by_cases h1:b=24
 ·subst h1; rfl
 ·by_cases h2:b=26
  ·subst h2; rfl
  ·by_cases h3:b=27
   ·subst h3; rfl
   ·have e1:(b == 24)=false:=by simpa using h1
    have e2:(b == 26)=false:=by simpa using h2
    have e3:(b == 27)=false:=by simpa using h3
    rw [if_neg (by omega),if_neg h3,e1,e2,e3]
    by_cases h4:b < 32
    ·rw [if_pos h4,decide_eq_true h4]
     simp only [cond_false,cond_true,Option.bind_some,re h]
     rfl
    ·rw [if_neg h4,decide_eq_false h4]
     rfl
theorem AS {p:aD} (h:p.out.length≤999990) (hd:DI p.cC) {b:Int} (h0:0≤b) (h1:b < 256):fC p b=some (jA p b):=by
 unfold fC jA
 have hl:(qy p.cC).length≤1:=by unfold qy; split <;> simp
 have he:gy p.cC=some (qy p.cC):=by
  unfold gy qy
  by_cases hn:p.cC.gg≤0
  ·rw [decide_eq_true hn,if_pos hn]; rfl
  ·rw [decide_eq_false hn,if_neg hn]; rfl
 by_cases hb:b < 32∨b=127
 ·have e:((bif (decide (b < 32)) then some true else some (b == 127)):Option Bool)=some true:=by
   rcases hb with hb | hb
   ·rw [decide_eq_true hb]; rfl
   ·subst hb; rfl
  rw [if_pos hb,e,Option.bind_some,cond_true,he,Option.bind_some,xD (by omega),Option.bind_some,pP (by simp [lM]; omega)]
  rfl
 ·have e:((bif (decide (b < 32)) then some true else some (b == 127)):Option Bool)=some false:=by
   rw [decide_eq_false (by omega),cond_false]
   have: ¬ b=127:=by omega
   simpa using this
  obtain ⟨n1,n2,n3,n4⟩:=qZ hd h0 h1
  rw [if_neg hb,e,Option.bind_some,cond_false,n1,Option.bind_some,xD (by dsimp only; omega)]
  rfl
theorem vq {p:aD} (h:p.out.length≤999990) (b:Int):eL p b=some (fQ p b):=by
 unfold eL fQ
 rw [pP (by omega),Option.bind_some]
 cases hc:(cW p b).1 with
 | true=>rfl
 | false =>
  have hp:(cW p b).2=p:=by
   unfold cW at hc ⊢
   split
   ·rename_i hh; rw [if_pos hh] at hc; cases hc
   ·rename_i h1; rw [if_neg h1] at hc
    split
    ·rename_i hh; rw [if_pos hh] at hc; cases hc
    ·rename_i h2; rw [if_neg h2] at hc
     split
     ·rename_i hh; rw [if_pos hh] at hc; cases hc
     ·rfl
  rw [hp]
  simp only [cond_false,Bool.false_eq_true,if_false]
  by_cases h1:b=91
  ·subst h1; rfl
  ·have e1:(b == 91)=false:=by simpa using h1
   rw [if_neg h1,e1]
   by_cases h2:b=93
   ·subst h2; rfl
   ·have e2:(b == 93)=false:=by simpa using h2
    rw [if_neg h2,e2]
    by_cases h3:b < 48
    ·rw [if_pos h3,decide_eq_true h3]; rfl
    ·rw [if_neg h3,decide_eq_false h3]
     by_cases h4:b < 127
     ·rw [if_pos h4,decide_eq_true h4]
      simp only [cond_false,cond_true,re (show p.out.length≤1000000 by omega),Option.bind_some]
      rfl
     ·rw [if_neg h4,decide_eq_false h4]; rfl
theorem sG {p:aD} {b:Int} (hc:(cW p b).1=false):(cW p b).2=p:=by
 unfold cW at hc ⊢
 split
 ·rename_i hh; rw [if_pos hh] at hc; cases hc
 ·rename_i h1; rw [if_neg h1] at hc
  split
  ·rename_i hh; rw [if_pos hh] at hc; cases hc
  ·rename_i h2; rw [if_neg h2] at hc
   split
   ·rename_i hh; rw [if_pos hh] at hc; cases hc
   ·rfl
theorem CL {p:aD} (h:p.out.length≤999990) (b:Int):gB p b=some (mV p b):=by
 unfold gB mV
 rw [pP (by omega),Option.bind_some]
 cases hc:(cW p b).1 with
 | true=>rfl
 | false =>
  rw [sG hc]
  by_cases hb:48≤b
  ·simp [hb,stP]
  ·simp [hb]
theorem zP {p:aD} (h:p.order.bB.length≤16):gQ p=some ⟨p.state,ng p.order,p.text,p.cC,p.out⟩:=by
 unfold gQ ng
 by_cases hl:p.order.bB.length < 16
 ·rw [decide_eq_true (by omega),cond_true,bK (by simp; omega),if_pos hl]; rfl
 ·rw [decide_eq_false (by omega),cond_false,if_neg hl]; rfl
theorem AT {p:aD} (h:p.out.length≤999990) (hn:p.order.bB.length≤16) (b:Int):gC p b=some (jB p b):=by
 unfold gC jB
 cases hw:p.order.iJ with
 | true=>rfl
 | false =>
  simp only [cond_false,Bool.false_eq_true,if_false]
  cases hs:p.order.some with
  | true =>
   simp only [cond_true,if_true]
   rw [zP (by exact hn),Option.bind_some,Option.bind_some,xC (by dsimp only; omega)]
   rfl
  | false =>
   simp only [cond_false,Bool.false_eq_true,if_false]
   rw [Option.bind_some,xC (by dsimp only; omega)]
   rfl
theorem yH {p:aD} (h:p.out.length≤999990) (h3:p.state=3) (hn:p.order.bB.length≤16) (hN:0≤p.order.n∧p.order.n≤9999) {b:Int} (h0:0≤b) (h1:b < 256):fq p b=some (gY p b):=by
 unfold fq gY
 rw [pP (by omega),Option.bind_some]
 cases hc:(cW p b).1 with
 | true=>rfl
 | false =>
  rw [sG hc]
  simp only [cond_false,Bool.false_eq_true,if_false]
  have hchk:chk (p.state == (3:Int))=some ():=by rw [h3]; rfl
  by_cases a1:48≤b∧b≤57
  ·have e:((bif (decide (b≥48)) then some (decide (b≤57)) else some false):Option Bool)=some true:=by rw [decide_eq_true a1.1,decide_eq_true a1.2]; rfl
   have w1:IntKind.u8.wrap (b - 48)=b - 48:=by simp [IntKind.wrap,IntKind.bits,IntKind.signed]; omega
   rw [e,Option.bind_some,cond_true,w1,w64 (x:=b - 48) (by omega) (by omega),w64 (x:=10*p.order.n) (by omega) (by omega),w64 (by omega) (by omega),if_neg (by omega)]
   unfold dB
   rw [if_pos a1]
  ·have e:((bif (decide (b≥48)) then some (decide (b≤57)) else some false):Option Bool)=some false:=by
    by_cases hh:48≤b
    ·rw [decide_eq_true hh,decide_eq_false (by omega)]; rfl
    ·rw [decide_eq_false hh]; rfl
   rw [e,Option.bind_some,cond_false]
   by_cases a2:b=59∨b=58
   ·have e2:((bif (b == 59) then some true else some (b == 58)):Option Bool)=some true:=by rcases a2 with rfl | rfl <;> rfl
    rw [e2,Option.bind_some,cond_true,hchk,Option.bind_some,zP (by exact hn),Option.bind_some,if_neg (by omega)]
    unfold dB
    rw [if_neg a1,if_pos a2]
    rfl
   ·have e2:((bif (b == 59) then some true else some (b == 58)):Option Bool)=some false:=by
     have x1:(b == 59)=false:=by simpa using (show ¬ b=59 by omega)
     have x2:(b == 58)=false:=by simpa using (show ¬ b=58 by omega)
     rw [x1,x2]; rfl
    rw [e2,Option.bind_some,cond_false]
    by_cases a3:b=63∧p.order.any=false
    ·have e3:((bif (b == 63) then some (!p.order.any) else some false):Option Bool)=some true:=by rw [a3.1,a3.2]; rfl
     rw [e3,Option.bind_some,cond_true,if_neg (by omega)]
     unfold dB
     rw [if_neg a1,if_neg a2,if_pos a3]
    ·have e3:((bif (b == 63) then some (!p.order.any) else some false):Option Bool)=some false:=by
      by_cases hh:b=63
      ·cases ha:p.order.any with
       | true=>rw [hh]; rfl
       | false=>exact absurd ⟨hh,ha⟩ a3
      ·have:(b == 63)=false:=by simpa using hh
       rw [this]; rfl
     rw [e3,Option.bind_some,cond_false]
     by_cases a4:64≤b∧b < 127
     ·have e4:((bif (decide (b≥64)) then some (decide (b < 127)) else some false):Option Bool)=some true:=by rw [decide_eq_true a4.1,decide_eq_true a4.2]; rfl
      rw [e4,Option.bind_some,cond_true,hchk,Option.bind_some,if_pos a4,AT (by exact h) (by exact hn)]
      rfl
     ·have e4:((bif (decide (b≥64)) then some (decide (b < 127)) else some false):Option Bool)=some false:=by
       by_cases hh:64≤b
       ·rw [decide_eq_true hh,decide_eq_false (by omega)]; rfl
       ·rw [decide_eq_false hh]; rfl
      rw [e4,Option.bind_some,cond_false,if_neg a4]
      unfold dB
      rw [if_neg a1,if_neg a2,if_neg a3]
end Go.Tw.X
set_option linter.unusedVariables false
set_option linter.unusedSimpArgs false
set_option maxHeartbeats 1000000
namespace Go.Tw.X
open Go Go.Tw
def tiA (t:ByteArray):bA:=⟨5,0,0,false,[],lF t 2 t.size⟩
def ttl (t:ByteArray):List bA:=match sbs t with
 | x::y::_=>if (x=48∨x=50)∧y=59 then [tiA t] else []
 | _=>[]
theorem zQ (t:ByteArray):(ttl t).length≤1:=by
 unfold ttl
 split
 ·split <;> simp
 ·simp
def jT (p:aD):aD:=⟨0,p.order,p.text,p.cC,p.out++ttl p.text⟩
def isH (c:Int) (t:ByteArray):Bool:=decide ((sbs t).take 2=[c,59])
theorem CM {c:Int} {t:ByteArray} (h:t.size < 2):isH c t=false:=by
 refine decide_eq_false fun e=> ?_
 have:=congrArg List.length e
 simp [cF] at this
 omega
theorem vr (t h:ByteArray) (c:Int) (hh:sbs h=[c,59]):gA t h=some (if isH c t then (lF t 2 t.size,true) else (t,false)):=by
 have hs:h.size=2:=by rw [← cF,hh]; rfl
 have hp:eX t h=some (isH c t):=by
  unfold eX
  rw [hs]
  by_cases h2:2≤t.size
  ·rw [decide_eq_true (show (t.size:Int)≥((2:Nat):Int) by omega),cond_true,bV (by decide) (by decide) (by omega),Option.bind_some,Option.bind_some,vX]
   congr 1
   unfold isH
   refine decide_eq_decide.2 ⟨fun e=> ?_,fun e=> ?_⟩
   ·have:=congrArg sbs e
    rw [show ((0:Int))=((0:Nat):Int) from rfl,o8,hh] at this
    simpa using this
   ·apply vY
    rw [show ((0:Int))=((0:Nat):Int) from rfl,o8,hh]
    simpa using e
  ·rw [decide_eq_false (show ¬ (t.size:Int)≥((2:Nat):Int) by omega),cond_false,Option.bind_some,CM (by omega)]
 unfold gA gj
 rw [hp,Option.bind_some,hs]
 cases hi:isH c t with
 | false=>rfl
 | true =>
  have h2:2≤t.size:=by
   by_cases h2:2≤t.size
   ·exact h2
   ·rw [CM (by omega)] at hi; cases hi
  simp only [Bool.not_true,cond_false,if_true]
  rw [bV (by omega) (by omega) (by omega)]
  rfl
theorem CN (t:ByteArray):ttl t=(if isH 48 t then [tiA t] else [])++(if isH 50 t then [tiA t] else []):=by
 unfold ttl isH
 match h:sbs t with
 | []=>simp
 | [x]=>simp
 | x::y::r =>
  simp only [List.take_succ_cons,List.take_zero,List.cons.injEq,and_true,decide_eq_true_eq]
  by_cases hy:y=59
  ·by_cases h1:x=48
   ·subst h1; simp [hy]
   ·by_cases h2:x=50
    ·subst h2; simp [hy]
    ·simp [h1,h2]
  ·simp [hy]
theorem zR {p:aD} (h:p.out.length≤999990):gm p=some (jT p):=by
 unfold gm
 have c1:=vr p.text (ByteArray.mk #[48,59]) 48 rfl
 have c2:=vr p.text (ByteArray.mk #[50,59]) 50 rfl
 refine okE (bO (P:=fun y=>y=jT p) ?_ fun r hr=>aW hr)
 refine iD (fun z:aD×Int=>z.2=0∧z.1=stP p 0∨z.2=1∧z.1=⟨0,p.order,p.text,p.cC,p.out++(if isH 48 p.text then [tiA p.text] else [])⟩∨z.2=2∧z.1=jT p) (fun z=>2 - z.2.toNat) (.inl ⟨rfl,rfl⟩) ?_
 rintro ⟨q,i⟩ (⟨h1,h2⟩ | ⟨h1,h2⟩ | ⟨h1,h2⟩)
 ·dsimp only at h1 h2
  subst h1 h2
  refine iC (fun _=> ?_) fun hh=>absurd (show (0:Int) < 2 from by decide) hh
  refine bO (P:=fun y=>y=(⟨0,p.order,p.text,p.cC,p.out++(if isH 48 p.text then [tiA p.text] else [])⟩:aD)) ?_ fun y hy=> ?_
  ·refine bO (P:=fun x=>x=ByteArray.mk #[48,59]) ⟨_,rfl,rfl⟩ fun x hx=> ?_
   subst hx
   rw [show (stP p 0).text=p.text from rfl,c1]
   cases hi:isH 48 p.text with
   | true =>
    simp only [if_true,Option.bind_some,cond_true]
    rw [re (by show p.out.length≤_; omega)]
    exact aW rfl
   | false =>
    simp only [Bool.false_eq_true,if_false,Option.bind_some,cond_false]
    exact aW (by simp [stP])
  ·subst hy
   exact aW ⟨.inr (.inl ⟨show IntKind.i64.wrap (0+1)=1 from by decide,rfl⟩),show 2 - (IntKind.i64.wrap (0+1)).toNat < 2 - (0:Int).toNat from by decide⟩
 ·dsimp only at h1 h2
  subst h1 h2
  refine iC (fun _=> ?_) fun hh=>absurd (show (1:Int) < 2 from by decide) hh
  refine bO (P:=fun y=>y=jT p) ?_ fun y hy=> ?_
  ·refine bO (P:=fun x=>x=ByteArray.mk #[50,59]) ⟨_,rfl,rfl⟩ fun x hx=> ?_
   subst hx
   dsimp only
   rw [c2]
   have hl:((if isH 48 p.text then [tiA p.text] else []):List bA).length≤1:=by split <;> simp
   cases hi:isH 50 p.text with
   | true =>
    simp only [if_true,Option.bind_some,cond_true]
    rw [re (by simp only [List.length_append]; omega)]
    refine aW ?_
    simp only [nf,jT,CN,hi,if_true,List.append_assoc]
    rfl
   | false =>
    simp only [Bool.false_eq_true,if_false,Option.bind_some,cond_false]
    refine aW ?_
    simp only [jT,CN,hi,Bool.false_eq_true,if_false,List.append_nil]
  ·subst hy
   exact aW ⟨.inr (.inr ⟨show IntKind.i64.wrap (1+1)=2 from by decide,rfl⟩),show 2 - (IntKind.i64.wrap (1+1)).toNat < 2 - (1:Int).toNat from by decide⟩
 ·dsimp only at h1 h2
  subst h1 h2
  exact iC (fun hh=>absurd hh (show ¬ (2:Int) < 2 from by decide)) fun _=>aW rfl
def hK (p:aD) (b:Int):aD:=if b=7 then jT p else if b=24∨b=26 then stP p 0 else if b=27 then stP p 5 else if p.text.size < 200 then ⟨p.state,p.order,p.text++gS [b],p.cC,p.out⟩ else p
theorem CO {p:aD} (h:p.out.length≤999990) (b:Int):fY p b=some (hK p b):=by
 unfold fY hK
 by_cases h1:b=7
 ·subst h1
  rw [if_pos rfl,zR h]
  rfl
 ·have e1:(b == 7)=false:=by simpa using h1
  rw [if_neg h1,e1,cond_false]
  by_cases h2:b=24∨b=26
  ·have e2:((bif (b == 24) then some true else some (b == 26)):Option Bool)=some true:=by rcases h2 with rfl | rfl <;> rfl
   rw [if_pos h2,e2]; rfl
  ·have e2:((bif (b == 24) then some true else some (b == 26)):Option Bool)=some false:=by
    have x1:(b == 24)=false:=by simpa using (show ¬ b=24 by omega)
    have x2:(b == 26)=false:=by simpa using (show ¬ b=26 by omega)
    rw [x1,x2]; rfl
   rw [if_neg h2,e2,Option.bind_some,cond_false]
   by_cases h3:b=27
   ·subst h3; rfl
   ·have e3:(b == 27)=false:=by simpa using h3
    rw [if_neg h3,e3,cond_false]
    by_cases h4:p.text.size < 200
    ·rw [if_pos h4,decide_eq_true (by omega),cond_true,mL (by rw [jv]; simp; omega)]; rfl
    ·rw [if_neg h4,decide_eq_false (by omega)]; rfl
def gZ (p:aD) (b:Int):aD :=
 if p.state=0 then jA p b else if p.state=1 then fQ p b else if p.state=2 then mV p b else if p.state=3 then gY p b else if p.state=4 then hK p b else if b=92 then jT p else fQ (stP p 1) b
structure PI (p:aD):Prop where
 di:DI p.cC
 gr:p.state≠0→p.cC=d0
 nu:p.order.bB.length≤16
 n0:0≤p.order.n
 n1:p.order.n≤9999
 tx:p.text.size≤200
theorem E3 {p:aD} (hp:PI p) (h:p.out.length≤999990) {b:Int} (h0:0≤b) (h1:b < 256):iR p b=some (gZ p b):=by
 unfold iR gZ
 by_cases s0:p.state=0
 ·rw [if_pos s0,s0,AS h hp.di h0 h1]; rfl
 ·have e0:(p.state == 0)=false:=by simpa using s0
  rw [if_neg s0,e0,cond_false]
  by_cases s1:p.state=1
  ·rw [if_pos s1,s1,vq h]; rfl
  ·have e1:(p.state == 1)=false:=by simpa using s1
   rw [if_neg s1,e1,cond_false]
   by_cases s2:p.state=2
   ·rw [if_pos s2,s2,CL h]; rfl
   ·have e2:(p.state == 2)=false:=by simpa using s2
    rw [if_neg s2,e2,cond_false]
    by_cases s3:p.state=3
    ·have e3:(p.state == 3)=true:=by simpa using s3
     rw [if_pos s3,e3,cond_true,yH h s3 hp.nu ⟨hp.n0,hp.n1⟩ h0 h1]; rfl
    ·have e3:(p.state == 3)=false:=by simpa using s3
     rw [if_neg s3,e3,cond_false]
     by_cases s4:p.state=4
     ·rw [if_pos s4,s4,CO h]; rfl
     ·have e4:(p.state == 4)=false:=by simpa using s4
      rw [if_neg s4,e4,cond_false]
      by_cases hb:b=92
      ·subst hb
       rw [if_pos rfl,zR h]; rfl
      ·have e5:(b == 92)=false:=by simpa using hb
       rw [if_neg hb,e5,cond_false,show aD.mk 1 p.order p.text p.cC p.out=stP p 1 from rfl,vq (by exact h)]; rfl
end Go.Tw.X
set_option linter.unusedVariables false
set_option linter.unusedSimpArgs false
set_option maxHeartbeats 1000000
namespace Go.Tw.X
open Go Go.Tw
def clr (p:aD):aD:=⟨p.state,p.order,p.text,p.cC,[]⟩
def lN (l:List bA) (q:aD):aD:=⟨q.state,q.order,q.text,q.cC,l++q.out⟩
theorem mW (p:aD) (b:Int):cW p b=((cW (clr p) b).1,lN p.out (cW (clr p) b).2):=by
 unfold cW
 repeat' split
 all_goals simp [lN,clr,stP,nf]
theorem yI (p:aD) (b:Int):jB p b=lN p.out (jB (clr p) b):=by
 unfold jB
 rw [show (clr p).order=p.order from rfl]
 split
 all_goals simp [lN,clr,stP]
theorem yJ (p:aD) (b:Int):jA p b=lN p.out (jA (clr p) b):=by
 unfold jA
 split
 ·rw [mW]
  rw [mW (aD.mk (clr p).state (clr p).order (clr p).text d0 ((clr p).out++(qy (clr p).cC).map prA))]
  simp [lN,clr]
 ·simp [lN,clr,lM]
theorem ui (p:aD) (b:Int):fQ p b=lN p.out (fQ (clr p) b):=by
 unfold fQ
 rw [mW p b]
 dsimp only
 split
 ·rfl
 ·repeat' split
  all_goals simp [lN,clr,stP,nf]
theorem CP (p:aD) (b:Int):mV p b=lN p.out (mV (clr p) b):=by
 unfold mV
 rw [mW p b]
 dsimp only
 split
 ·rfl
 ·split
  all_goals simp [lN,clr,stP]
theorem xE (p:aD) (b:Int):gY p b=lN p.out (gY (clr p) b):=by
 unfold gY
 rw [mW p b]
 dsimp only
 split
 ·rfl
 ·split
  ·exact yI _ b
  ·simp [lN,clr]
theorem xF (p:aD):jT p=lN p.out (jT (clr p)):=by simp [jT,lN,clr]
theorem AU (p:aD) (b:Int):hK p b=lN p.out (hK (clr p) b):=by
 unfold hK
 rw [show (clr p).text=p.text from rfl]
 split
 ·exact xF p
 ·repeat' split
  all_goals simp [lN,clr,stP]
theorem one_add (p:aD) (b:Int):gZ p b=lN p.out (gZ (clr p) b):=by
 unfold gZ
 rw [show (clr p).state=p.state from rfl]
 split
 ·exact yJ p b
 ·split
  ·exact ui p b
  ·split
   ·exact CP p b
   ·split
    ·exact xE p b
    ·split
     ·exact AU p b
     ·split
      ·exact xF p
      ·exact ui (stP p 1) b
def prun (p:aD) (bs:List Int):aD:=bs.foldl gZ p
theorem CQ (a b:List bA) (q:aD):lN a (lN b q)=lN (a++b) q:=by simp [lN]
theorem CR (a:List bA) (q:aD):clr (lN a q)=clr q:=rfl
theorem CS (q:aD):lN q.out (clr q)=q:=by simp [lN,clr]
theorem uj: ∀ (bs:List Int) (p:aD),prun p bs=lN p.out (prun (clr p) bs)
 | [],p=>(CS p).symm
 | b::bs,p=>by
  show prun (gZ p b) bs=lN p.out (prun (gZ (clr p) b) bs)
  rw [uj bs (gZ p b),uj bs (gZ (clr p) b),one_add p b,CQ,CR]
  rfl
theorem uk (p:aD) (a b:List Int):prun p (a++b)=prun (prun p a) b:=List.foldl_append ..
theorem nM {p:aD} (h:PI p) (hr:p.cC=d0) (b:Int):PI (cW p b).2∧(cW p b).2.out.length≤p.out.length+1:=by
 unfold cW
 split
 ·exact ⟨⟨h.di,fun _=>hr,h.nu,h.n0,h.n1,h.tx⟩,Nat.le_succ _⟩
 ·split
  ·exact ⟨⟨h.di,fun _=>hr,h.nu,h.n0,h.n1,h.tx⟩,Nat.le_succ _⟩
  ·split
   ·exact ⟨⟨h.di,fun _=>hr,h.nu,h.n0,h.n1,h.tx⟩,by simp [nf]⟩
   ·exact ⟨h,Nat.le_succ _⟩
theorem AV {p:aD} (h:PI p) (hs:p.state=0) {b:Int} (h0:0≤b) (h1:b < 256):PI (jA p b)∧(jA p b).out.length≤p.out.length+2:=by
 unfold jA
 have hl:(qy p.cC).length≤1:=by unfold qy; split <;> simp
 split
 ·have:=nM (p:=⟨p.state,p.order,p.text,d0,p.out++(qy p.cC).map prA⟩) ⟨DI0,fun _=>rfl,h.nu,h.n0,h.n1,h.tx⟩ rfl b
  refine ⟨this.1,Nat.le_trans this.2 ?_⟩
  simp
  omega
 ·obtain ⟨n1,n2,n3,n4⟩:=qZ h.di h0 h1
  exact ⟨⟨n2,fun hh=>absurd hs hh,h.nu,h.n0,h.n1,h.tx⟩,by simp [lM]; omega⟩
theorem rX {p:aD} (h:PI p) (hr:p.cC=d0) (b:Int):PI (fQ p b)∧(fQ p b).out.length≤p.out.length+1:=by
 unfold fQ
 split
 ·exact nM h hr b
 ·split
  ·exact ⟨⟨h.di,fun _=>hr,by simp [o0],by simp [o0],by simp [o0],h.tx⟩,Nat.le_succ _⟩
  ·split
   ·exact ⟨⟨h.di,fun _=>hr,h.nu,h.n0,h.n1,by simp [ByteArray.size]⟩,Nat.le_succ _⟩
   ·split
    ·exact ⟨⟨h.di,fun _=>hr,h.nu,h.n0,h.n1,h.tx⟩,Nat.le_succ _⟩
    ·split
     ·exact ⟨⟨h.di,fun _=>hr,h.nu,h.n0,h.n1,h.tx⟩,by simp [nf,stP]⟩
     ·exact ⟨⟨h.di,fun _=>hr,h.nu,h.n0,h.n1,h.tx⟩,Nat.le_succ _⟩
theorem zS {p:aD} (h:PI p) (hr:p.cC=d0) (b:Int):PI (mV p b)∧(mV p b).out.length≤p.out.length+1:=by
 unfold mV
 split
 ·exact nM h hr b
 ·split
  ·exact ⟨⟨h.di,fun _=>hr,h.nu,h.n0,h.n1,h.tx⟩,Nat.le_succ _⟩
  ·exact ⟨h,Nat.le_succ _⟩
theorem pQ {o:dK} (h:o.bB.length≤16):(ng o).bB.length≤16:=by
 unfold ng
 dsimp only
 split
 ·simp; omega
 ·exact h
theorem AW {p:aD} (h:PI p) (hr:p.cC=d0) (b:Int):PI (jB p b)∧(jB p b).out.length≤p.out.length+1:=by
 unfold jB
 cases p.order.iJ with
 | true=>exact ⟨⟨h.di,fun _=>hr,h.nu,h.n0,h.n1,h.tx⟩,Nat.le_succ _⟩
 | false =>
  cases p.order.some with
  | true=>exact ⟨⟨h.di,fun _=>hr,pQ h.nu,Int.le_refl 0,show (0:Int)≤9999 from by decide,h.tx⟩,by simp⟩
  | false=>exact ⟨⟨h.di,fun _=>hr,h.nu,h.n0,h.n1,h.tx⟩,by simp⟩
theorem um {p:aD} (h:PI p) (hr:p.cC=d0) {b:Int} (h0:0≤b):PI (gY p b)∧(gY p b).out.length≤p.out.length+1:=by
 unfold gY
 split
 ·exact nM h hr b
 ·split
  ·exact AW (p:=⟨p.state,E2 p.order,p.text,p.cC,p.out⟩) ⟨h.di,fun _=>hr,h.nu,h.n0,h.n1,h.tx⟩ hr b
  ·refine ⟨⟨h.di,fun _=>hr,?_,?_,?_,h.tx⟩,Nat.le_succ _⟩
   all_goals (dsimp only; unfold dB; split)
   ·exact h.nu
   ·split
    ·exact pQ h.nu
    ·split <;> exact h.nu
   ·rename_i hh
    have:=h.n0
    unfold dF
    dsimp only
    split <;> omega
   ·split
    ·exact Int.le_refl 0
    ·split <;> exact h.n0
   ·rename_i hh
    unfold dF
    dsimp only
    split <;> omega
   ·split
    ·show (0:Int)≤9999; decide
    ·split <;> exact h.n1
theorem tj {p:aD} (h:PI p) (hr:p.cC=d0):PI (jT p)∧(jT p).out.length≤p.out.length+1:=⟨⟨h.di,fun _=>hr,h.nu,h.n0,h.n1,h.tx⟩,by have:=zQ p.text; simp [jT]; omega⟩
theorem xG {p:aD} (h:PI p) (hr:p.cC=d0) (b:Int):PI (hK p b)∧(hK p b).out.length≤p.out.length+1:=by
 unfold hK
 split
 ·exact tj h hr
 ·split
  ·exact ⟨⟨h.di,fun _=>hr,h.nu,h.n0,h.n1,h.tx⟩,Nat.le_succ _⟩
  ·split
   ·exact ⟨⟨h.di,fun _=>hr,h.nu,h.n0,h.n1,h.tx⟩,Nat.le_succ _⟩
   ·split
    ·rename_i ht
     refine ⟨⟨h.di,fun _=>hr,h.nu,h.n0,h.n1,?_⟩,Nat.le_succ _⟩
     dsimp only
     have e:(p.text++gS [b]).size=p.text.size+1:=by rw [← cF,kG,List.length_append,cF,cF,jv]; rfl
     omega
    ·exact ⟨h,Nat.le_succ _⟩
theorem yK {p:aD} (h:PI p) {b:Int} (h0:0≤b) (h1:b < 256):PI (gZ p b)∧(gZ p b).out.length≤p.out.length+2:=by
 unfold gZ
 split
 ·rename_i hs; exact AV h hs h0 h1
 ·rename_i hs
  have hr:=h.gr hs
  have up: ∀ q:aD,PI q∧q.out.length≤p.out.length+1→PI q∧q.out.length≤p.out.length+2:=fun q hq=>⟨hq.1,by omega⟩
  split
  ·exact up _ (rX h hr b)
  ·split
   ·exact up _ (zS h hr b)
   ·split
    ·exact up _ (um h hr h0)
    ·split
     ·exact up _ (xG h hr b)
     ·split
      ·exact up _ (tj h hr)
      ·exact up _ (rX (p:=stP p 1) ⟨h.di,fun _=>hr,h.nu,h.n0,h.n1,h.tx⟩ hr b)
theorem mE: ∀ (bs:List Int) {p:aD},PI p→(∀ b∈bs,0≤b∧b < 256)→PI (prun p bs)∧(prun p bs).out.length≤p.out.length+2*bs.length
 | [],p,h,_=>⟨h,by simp [prun]⟩
 | b::bs,p,h,hb=>by
  obtain ⟨b0,b1⟩:=hb b List.mem_cons_self
  obtain ⟨k1,k2⟩:=yK h b0 b1
  obtain ⟨k3,k4⟩:=mE bs k1 fun x hx=>hb x (List.mem_cons_of_mem _ hx)
  exact ⟨k3,by show (prun (gZ p b) bs).out.length≤_; simp; omega⟩
theorem E4 {p:aD} (h:PI p) {s:ByteArray} (hs:s.size≤400000):il p s=some ((prun (clr p) (sbs s)).out,clr (prun (clr p) (sbs s))):=by
 unfold il
 have hc:PI (clr p):=⟨h.di,h.gr,h.nu,h.n0,h.n1,h.tx⟩
 refine okE (bO (P:=fun y=>y=prun (clr p) (sbs s)) ?_ fun r hr=>by subst hr; exact aW rfl)
 refine iD (fun z:aD×Int=>0≤z.2∧z.2≤s.size∧z.1=prun (clr p) ((sbs s).take z.2.toNat)) (fun z=>s.size - z.2.toNat) ⟨Int.le_refl 0,by dsimp only; omega,rfl⟩ ?_
 rintro ⟨q,i⟩ ⟨h0,h1,h2⟩
 dsimp only at h0 h1 h2 ⊢
 subst h2
 have hby: ∀ b∈(sbs s).take i.toNat,0≤b∧b < 256:=fun b hb=>gX s b (List.mem_of_mem_take hb)
 obtain ⟨k1,k2⟩:=mE _ hc hby
 refine iC (fun hi=> ?_) fun hi=>aW (by rw [List.take_of_length_le (by rw [cF]; omega)])
 refine bO (mU h0 hi) fun b hb=> ?_
 obtain ⟨⟨b0,b1⟩,hbd⟩:=hb
 have hlen:((sbs s).take i.toNat).length=i.toNat:=by rw [List.length_take,cF]; omega
 have hco:(clr p).out.length=0:=rfl
 rw [E3 k1 (by omega) b0 b1,w64 (by omega) (by omega)]
 refine aW ⟨⟨by dsimp only; omega,by dsimp only; omega,?_⟩,by dsimp only; omega⟩
 dsimp only
 have ht:(sbs s).take (i+1).toNat=(sbs s).take i.toNat++[b]:=by
  rw [show (i+1).toNat=i.toNat+1 by omega,List.take_add_one]
  congr 1
  have:=congrArg (fun l=>l[0]?) hbd
  simp only [List.getElem?_drop,Nat.add_zero,List.getElem?_cons_zero] at this
  rw [this]
  rfl
 rw [ht,uk]
 rfl
end Go.Tw.X
set_option linter.unusedVariables false
set_option linter.unusedSimpArgs false
set_option maxHeartbeats 1000000
namespace Go.Tw.X
open Go Go.Tw
def tA (a:bA):aN:=⟨a.kind,a.rune,a.byte,a.cG,a.bB,a.text⟩
def t200 (s:ByteArray):ByteArray:=if 200 < s.size then lF s 0 200 else s
theorem rh (s:ByteArray):sbs (t200 s)=(sbs s).take 200:=by
 unfold t200
 split
 ·rw [show (0:Int)=((0:Nat):Int) from rfl,show (200:Int)=((200:Nat):Int) from rfl,o8,List.drop_zero]
 ·rw [List.take_of_length_le (by rw [cF]; omega)]
theorem wj {s:ByteArray} {l:List Int} (h:sbs s=l) (i:Nat) {b:Int} (hb:l[i]?=some b):jY s (i:Int)=some b:=by
 subst h
 obtain ⟨h1,h2⟩:=List.getElem?_eq_some_iff.1 hb
 rw [qP s i h1,h2]
theorem AX (s:ByteArray):iW s=some ((ttl (t200 s)).map tA):=by
 unfold iW
 have e1:((bif (decide ((s.size:Int) > 200)) then (Option.bind (chk (cX 0 200 s.size)) fun _=>some (lF s 0 200)) else some s):Option ByteArray)=some (t200 s):=by
  unfold t200
  by_cases h:200 < s.size
  ·rw [decide_eq_true (by omega),cond_true,bV (by decide) (by decide) (by omega),if_pos h]; rfl
  ·rw [decide_eq_false (by omega),cond_false,if_neg h]
 rw [e1,Option.bind_some]
 generalize t200 s=t
 have hz:t.size=(sbs t).length:=(cF t).symm
 unfold ttl
 match h:sbs t with
 | [] =>
  rw [h] at hz
  simp only [List.length_nil] at hz
  rw [decide_eq_false (by omega),cond_false,Option.bind_some]
  rfl
 | [x] =>
  rw [h] at hz
  simp only [List.length_cons,List.length_nil] at hz
  rw [decide_eq_false (by omega),cond_false,Option.bind_some]
  rfl
 | x::y::r =>
  rw [h] at hz
  have i0:jY t 0=some x:=wj h 0 rfl
  have i1:jY t 1=some y:=wj h 1 rfl
  simp only [List.length_cons] at hz
  rw [decide_eq_true (by omega),cond_true,i0,i1]
  simp only [Option.bind_some]
  have hcut:chk (cX 2 (t.size:Int) t.size)=some ():=bV (by decide) (by omega) (by omega)
  by_cases hy:y=59
  ·subst hy
   by_cases h1:x=48
   ·subst h1
    simp [hcut,tiA,tA]
   ·have e1:(x == 48)=false:=by simpa using h1
    by_cases h2:x=50
    ·subst h2
     simp [hcut,tiA,tA]
    ·have e2:(x == 50)=false:=by simpa using h2
     simp [e1,e2,h1,h2]
  ·have e3:(y == 59)=false:=by simpa using hy
   rw [e3,if_neg (fun hh=>hy hh.2)]
   cases (x == 48) <;> cases (x == 50) <;> rfl
def AY (o:dK):dK:=if o.some then ng o else o
def AZ (bs:List Int):dK:=bs.foldl dB o0
def pd (o:dK) (b:Int):List bA:=if o.iJ then [] else [cmA (AY o) b]
theorem rY (p:aD) (b:Int):(jB p b).out=p.out++pd p.order b:=by
 unfold jB pd AY
 cases p.order.iJ <;> simp [stP]
theorem sH: ∀ (bs:List Int) (o:dK),o.iJ=true→(bs.foldl dB o).iJ=true
 | [],o,h=>h
 | b::bs,o,h=>sH bs (dB o b) (by
   unfold dB
   split
   ·exact h
   ·split
    ·exact h
    ·split
     ·exact h
     ·rfl)
theorem yL {o:dK} (h:o.iJ=true) (b:Int):pd o b=[]:=by unfold pd; rw [h]; rfl
def rA (pr:Bool) (bB:List Int) (b:Int):aN:=⟨4,0,b,pr,bB,ByteArray.mk #[]⟩
theorem A9 (a b:Int):dF a b=dF b a:=by unfold dF; split <;> split <;> omega
theorem CU {s:ByteArray} (hs:s.size≤1000000) (last:Int):km s last=some ((pd (AZ (sbs s)) last).map tA):=by
 unfold km
 -- what the loop does
 have key: ∀ (t:ByteArray) (pr:Bool) (o:dK),t.size≤1000000→0 < t.size→o.cG=pr→o.iJ=false→o.bB=[]→o.n=0→o.some=false→(o.any=false→(sbs t)[0]?≠some 63) →
   okO (Option.bind (iter (σ:=aN×Int×Int) (ρ:=aN ⊕ (List aN)) (fun b=>(bif (decide (b.2.2≤(t.size:Int))) then (Option.bind ((Option.bind ((bif (decide (b.2.2 < (t.size:Int))) then (Option.bind (jY t b.2.2) fun b1247=>(bif (decide (b1247≥48)) then (Option.bind (jY t b.2.2) fun b1251=>some (decide (b1251≤57))) else some false)) else some false):Option Bool) fun d=>(bif d then (Option.bind (jY t b.2.2) fun b1259=>some (.inl ((dF 9999 (IntKind.i64.wrap ((IntKind.i64.wrap ((IntKind.i64.wrap (10*b.2.1))+(IntKind.i64.wrap b1259))) - 48))),b.1))) else (Option.bind ((bif (decide (b.2.2 < (t.size:Int))) then (Option.bind (jY t b.2.2) fun b1283=>(bif (b1283 != 59) then (Option.bind (jY t b.2.2) fun b1287=>some (b1287 != 58)) else some false)) else some false):Option Bool) fun f=>(bif f then (iM (lT (some ([]:List aN)))) else (Option.bind ((bif (decide ((b.1.bB.length:Int) < 16)) then (Option.bind (chk (dC b.1.bB.length [b.2.1].length 8)) fun _=>some (aN.mk b.1.kind b.1.rune b.1.byte b.1.cG (b.1.bB++[b.2.1]) b.1.text)) else some b.1):Option aN) fun g=>some (.inl (0,g))))))):Option ((Int×aN) ⊕ ((aN×Int×Int) ⊕ (aN ⊕ (List aN))))) fun | .inl e1222=>some (.inl (e1222.2,e1222.1,(IntKind.i64.wrap (b.2.2+1)))) | .inr w=>some w) else some (.inr (.inl b.1)))) (rA pr [] last,0,0)) fun | .inl e1007=>some [e1007] | .inr w=>some w)
    (fun r=>r=(pd ((sbs t).foldl dB o) last).map tA):=by
  intro t pr o hsz hpos hpr hw hnu hn hso hany
  refine bO (P:=fun | .inl a=>[a]=(pd ((sbs t).foldl dB o) last).map tA | .inr r=>r=(pd ((sbs t).foldl dB o) last).map tA) ?_ ?_
  rotate_left
  ·rintro (a | r) h
   ·exact aW h
   ·exact aW h
  refine iD (fun z:aN×Int×Int=>0≤z.2.2∧z.2.2≤t.size+1∧(z.2.2≤t.size → ∃ q:dK,((sbs t).take z.2.2.toNat).foldl dB o=q∧q.iJ=false∧q.cG=pr∧q.n=z.2.1∧z.1=rA pr q.bB last∧q.bB.length≤16∧0≤q.n∧q.n≤9999∧(q.any=false→z.2.2=0)∧(0 < z.2.2→q.some=true))∧(z.2.2=t.size+1→[z.1]=(pd ((sbs t).foldl dB o) last).map tA)) (fun z=>t.size+1 - z.2.2.toNat) ⟨Int.le_refl 0,by dsimp only; omega,fun _=>⟨o,rfl,hw,hpr,hn,by rw [hnu],by rw [hnu]; simp,by omega,by omega,fun _=>rfl,fun hh=>absurd hh (by show ¬ (0:Int) < 0; decide)⟩,fun hh=>by dsimp only at hh; omega⟩ ?_
  rintro ⟨a,n,i⟩ ⟨h0,h1,h2,h3⟩
  dsimp only at h0 h1 h2 h3 ⊢
  refine iC (fun hi=> ?_) fun hi=>aW (h3 (by omega))
  obtain ⟨q,hq,q1,q2,q3,q4,q5,q6,q7,q8,q9⟩:=h2 hi
  subst q4
  subst q3
  by_cases hlt:i < t.size
  ·-- a byte
   obtain ⟨c,hc,⟨c0,c1⟩,hcd⟩:=mU h0 hlt
   have ht:(sbs t).take (i+1).toNat=(sbs t).take i.toNat++[c]:=by
    rw [show (i+1).toNat=i.toNat+1 by omega,List.take_add_one]
    congr 1
    have:=congrArg (fun l=>l[0]?) hcd
    simp only [List.getElem?_drop,Nat.add_zero,List.getElem?_cons_zero] at this
    rw [this]
    rfl
   have hstep:((sbs t).take (i+1).toNat).foldl dB o=dB q c:=by rw [ht,List.foldl_append,hq]; rfl
   have hall:(sbs t).foldl dB o=((sbs t).drop (i.toNat+1)).foldl dB (dB q c):=by
    conv=>lhs; rw [← List.take_append_drop (i+1).toNat (sbs t)]
    rw [List.foldl_append,hstep,show (i+1).toNat=i.toNat+1 by omega]
   have h63:c=63→q.any=true:=by
    intro e
    cases hh:q.any with
    | true=>rfl
    | false =>
     exfalso
     have hi0:=q8 hh
     subst hi0
     have hq0:o=q:=hq
     have:=congrArg (fun l=>l[0]?) hcd
     simp only [List.getElem?_drop,Nat.add_zero,List.getElem?_cons_zero] at this
     exact hany (by rw [hq0]; exact hh) (by rw [e] at this; exact this)
   rw [decide_eq_true hlt]
   simp only [cond_true,hc,Option.bind_some]
   by_cases hd:48≤c∧c≤57
   ·have hcq:dB q c=⟨q.cG,q.iJ,true,true,dF (10*q.n+(c - 48)) 9999,q.bB⟩:=by unfold dB; rw [if_pos hd]
    rw [decide_eq_true hd.1,decide_eq_true hd.2]
    simp only [cond_true,Option.bind_some]
    rw [w64 (x:=10*q.n) (by omega) (by omega),w64 (x:=c) (by omega) (by omega),w64 (x:=10*q.n+c) (by omega) (by omega),w64 (x:=10*q.n+c - 48) (by omega) (by omega),w64 (x:=i+1) (by omega) (by omega)]
    have him:dF 9999 (10*q.n+c - 48)=dF (10*q.n+(c - 48)) 9999:=by rw [A9,show 10*q.n+c - 48=10*q.n+(c - 48) by omega]
    refine aW ⟨⟨by dsimp only; omega,by dsimp only; omega,fun _=>⟨dB q c,hstep,by rw [hcq]; exact q1,by rw [hcq]; exact q2,by rw [hcq]; exact him.symm,by rw [hcq],by rw [hcq]; exact q5,?_,?_,by rw [hcq]; simp,by rw [hcq]; simp⟩,fun hh=>by dsimp only at hh; omega⟩,by dsimp only; omega⟩
    ·rw [hcq]; dsimp only; unfold dF; split <;> omega
    ·rw [hcq]; dsimp only; unfold dF; split <;> omega
   ·have hfd:((bif (decide (c≥48)) then some (decide (c≤57)) else some false):Option Bool)=some false:=by
     by_cases hh:48≤c
     ·rw [decide_eq_true hh,decide_eq_false (by omega)]; rfl
     ·rw [decide_eq_false hh]; rfl
    rw [hfd]
    simp only [Option.bind_some,cond_false]
    by_cases hsep:c=59∨c=58
    ·have hfs:((bif (c != 59) then some (c != 58) else some false):Option Bool)=some false:=by rcases hsep with rfl | rfl <;> rfl
     have hcq:dB q c=⟨q.cG,q.iJ,true,true,0,(ng q).bB⟩:=by unfold dB; rw [if_neg hd,if_pos hsep]
     rw [hfs]
     simp only [Option.bind_some,cond_false]
     have hpush:((bif (decide (((rA pr q.bB last).bB.length:Int) < 16)) then (Option.bind (chk (dC (rA pr q.bB last).bB.length [q.n].length 8)) fun _=>some (aN.mk (rA pr q.bB last).kind (rA pr q.bB last).rune (rA pr q.bB last).byte (rA pr q.bB last).cG ((rA pr q.bB last).bB++[q.n]) (rA pr q.bB last).text)) else some (rA pr q.bB last)):Option aN)=some (rA pr (ng q).bB last):=by
      unfold ng
      by_cases hl:q.bB.length < 16
      ·rw [decide_eq_true (show ((rA pr q.bB last).bB.length:Int) < 16 by show (q.bB.length:Int) < 16; omega),cond_true,bK (by show (q.bB.length+1)*8≤_; omega)]
       simp only [if_pos hl]
       rfl
      ·rw [decide_eq_false (show ¬ ((rA pr q.bB last).bB.length:Int) < 16 by show ¬ (q.bB.length:Int) < 16; omega),cond_false]
       simp only [if_neg hl]
     rw [hpush]
     simp only [Option.bind_some]
     rw [w64 (x:=i+1) (by omega) (by omega)]
     refine aW ⟨⟨by dsimp only; omega,by dsimp only; omega,fun _=>⟨dB q c,hstep,by rw [hcq]; exact q1,by rw [hcq]; exact q2,by rw [hcq],by rw [hcq],by rw [hcq]; exact pQ q5,by rw [hcq]; exact Int.le_refl 0,by rw [hcq]; show (0:Int)≤9999; decide,by rw [hcq]; simp,by rw [hcq]; simp⟩,fun hh=>by dsimp only at hh; omega⟩,by dsimp only; omega⟩
    ·have hfs:((bif (c != 59) then some (c != 58) else some false):Option Bool)=some true:=by
      have x1:(c != 59)=true:=by simpa using (show ¬ c=59 by omega)
      have x2:(c != 58)=true:=by simpa using (show ¬ c=58 by omega)
      rw [x1,x2]; rfl
     have hcq:(dB q c).iJ=true:=by
      unfold dB
      rw [if_neg hd,if_neg hsep]
      by_cases hh:c=63
      ·rw [if_neg (fun hx=>by rw [h63 hh] at hx; cases hx.2)]
      ·rw [if_neg (fun hx=>hh hx.1)]
     rw [hfs]
     simp only [Option.bind_some,cond_true]
     refine aW ?_
     show []=_
     rw [hall,yL (sH _ _ hcq)]
     rfl
  ·-- the end
   have hie:i=t.size:=by omega
   have hfull:(sbs t).foldl dB o=q:=by
    rw [← hq,List.take_of_length_le (by rw [cF]; omega)]
   have hsome:q.some=true:=q9 (by omega)
   rw [decide_eq_false hlt]
   simp only [cond_false,Option.bind_some]
   have hpush:((bif (decide (((rA pr q.bB last).bB.length:Int) < 16)) then (Option.bind (chk (dC (rA pr q.bB last).bB.length [q.n].length 8)) fun _=>some (aN.mk (rA pr q.bB last).kind (rA pr q.bB last).rune (rA pr q.bB last).byte (rA pr q.bB last).cG ((rA pr q.bB last).bB++[q.n]) (rA pr q.bB last).text)) else some (rA pr q.bB last)):Option aN)=some (rA pr (ng q).bB last):=by
    unfold ng
    by_cases hl:q.bB.length < 16
    ·rw [decide_eq_true (show ((rA pr q.bB last).bB.length:Int) < 16 by show (q.bB.length:Int) < 16; omega),cond_true,bK (by show (q.bB.length+1)*8≤_; omega)]
     simp only [if_pos hl]
     rfl
    ·rw [decide_eq_false (show ¬ ((rA pr q.bB last).bB.length:Int) < 16 by show ¬ (q.bB.length:Int) < 16; omega),cond_false]
     simp only [if_neg hl]
   rw [hpush]
   simp only [Option.bind_some]
   rw [w64 (x:=i+1) (by omega) (by omega)]
   refine aW ⟨⟨by dsimp only; omega,by dsimp only; omega,fun hh=>by dsimp only at hh; omega,fun _=> ?_⟩,by dsimp only; omega⟩
   dsimp only
   rw [hfull]
   unfold pd AY
   rw [q1,hsome]
   simp only [Bool.false_eq_true,if_false,if_true,List.map_cons,List.map_nil]
   have:(ng q).cG=pr:=q2
   simp only [cmA,tA,rA,this]
 have hsz:s.size=(sbs s).length:=(cF s).symm
 have str0: ∀ x:ByteArray,(x.toList == (ByteArray.mk #[]).toList)=decide (x=noS):=fun x=>vX x noS
 match h:sbs s with
 | [] =>
  have hs0:s=noS:=(td s).2 h
  subst hs0
  simp only [str0,decide_true,Bool.not_true,cond_false,Option.bind_some,cond_true]
  rfl
 | c::r =>
  have hne: ¬ s=noS:=fun e=>by rw [(td s).1 e] at h; cases h
  have i0:jY s 0=some c:=wj h 0 rfl
  rw [h] at hsz
  simp only [List.length_cons] at hsz
  by_cases hc:c=63
  ·subst hc
   have hst:sbs (lF s 1 (s.size:Int))=r:=by
    rw [show (1:Int)=((1:Nat):Int) from rfl,o8,h,List.take_of_length_le (by simp; omega)]
    rfl
   simp only [str0,decide_eq_false hne,Bool.not_false,cond_true,i0,Option.bind_some,beq_self_eq_true]
   rw [bV (by decide) (by omega) (by omega)]
   simp only [Option.bind_some]
   by_cases hr:r=[]
   ·subst hr
    have ht:lF s 1 (s.size:Int)=noS:=(td _).2 hst
    rw [ht,decide_eq_true (show noS=noS from rfl),cond_true]
    rfl
   ·have ht: ¬ lF s 1 (s.size:Int)=noS:=fun e=>hr (by rw [← hst]; exact (td _).1 e)
    rw [decide_eq_false ht,cond_false]
    have hl:(lF s 1 (s.size:Int)).size=r.length:=by rw [← cF,hst]
    have hr0:0 < r.length:=List.length_pos_iff.2 hr
    have:=okE (key (lF s 1 (s.size:Int)) true (dB o0 63) (by omega) (by omega) rfl rfl rfl rfl rfl (fun hh=>by cases hh))
    rw [hst] at this
    exact this
  ·have e0:(c == 63)=false:=by simpa using hc
   simp only [str0,decide_eq_false hne,Bool.not_false,cond_true,i0,Option.bind_some,e0,cond_false]
   have:=okE (key s false o0 hs (by omega) rfl rfl rfl rfl rfl (fun _=>by rw [h]; simpa using hc))
   rw [h] at this
   exact this
end Go.Tw.X
set_option linter.unusedVariables false
set_option linter.unusedSimpArgs false
set_option maxHeartbeats 2000000
namespace Go.Tw.X
open Go Go.Tw
theorem Ba {l:List Int} (hl:l.length≤1000000):jL l=some (l.map fun r=>tA (prA r)):=by
 unfold jL
 refine okE (bO (P:=fun r=>r=l.map fun r=>tA (prA r)) ?_ fun r hr=>aW hr)
 refine iD (fun z:List aN×Int=>0≤z.2∧z.2≤l.length∧z.1=(l.take z.2.toNat).map fun r=>tA (prA r)) (fun z=>l.length - z.2.toNat) ⟨Int.le_refl 0,by dsimp only; omega,rfl⟩ ?_
 rintro ⟨o,i⟩ ⟨h0,h1,h2⟩
 dsimp only at h0 h1 h2 ⊢
 subst h2
 refine iC (fun hi=> ?_) fun hi=>aW (by rw [List.take_of_length_le (by omega)])
 obtain ⟨k,rfl⟩: ∃ k:Nat,i=k:=⟨i.toNat,by omega⟩
 have hk:k < l.length:=by omega
 refine bO (P:=fun x=>x=l[k]) ⟨_,cO l k hk,rfl⟩ fun x hx=> ?_
 subst hx
 refine bO (qa (by simp; omega)) fun _ _=> ?_
 rw [w64 (by omega) (by omega)]
 refine aW ⟨⟨by dsimp only; omega,by dsimp only; omega,?_⟩,by dsimp only; omega⟩
 dsimp only
 rw [show ((k:Int)+1).toNat=k+1 by omega]
 simp only [Int.toNat_natCast,List.take_add_one,List.getElem?_eq_getElem hk,Option.toList_some,List.map_append,List.map_cons,List.map_nil,prA,tA]
def mm (b:Int):Prop:=32≤b∧b≠127
theorem zT: ∀ (bs:List Int) (p:aD) (base:List bA) (l:List Int),p.state=0→(∀ b∈bs,mm b)→p.out=base++l.map prA→prun p bs=⟨0,p.order,p.text,(dfold p.cC l bs).1,base++(dfold p.cC l bs).2.map prA⟩
 | [],p,base,l,hs,_,ho=>by
  cases p
  simp only at hs ho
  subst hs ho
  rfl
 | b::bs,p,base,l,hs,hb,ho=>by
  have h1:=hb b List.mem_cons_self
  have e:gZ p b=lM ⟨p.state,p.order,p.text,(jS p.cC b).1,p.out⟩ (jS p.cC b).2:=by
   unfold gZ jA
   rw [if_pos hs,if_neg (by unfold mm at h1; omega)]
  have:=zT bs (gZ p b) base (l++(jS p.cC b).2) (by rw [e]; exact hs) (fun x hx=>hb x (List.mem_cons_of_mem _ hx)) (by rw [e]; simp [lM,ho])
  show prun (gZ p b) bs=_
  rw [this,e]
  rfl
theorem xH: ∀ (bs:List Int) (d:bM) (l:List Int),DI d→(∀ b∈bs,0≤b∧b < 256)→DI (dfold d l bs).1
 | [],d,l,h,_=>h
 | b::bs,d,l,h,hb=>xH bs _ _ (qZ h (hb b List.mem_cons_self).1 (hb b List.mem_cons_self).2).2.1 fun x hx=>hb x (List.mem_cons_of_mem _ hx)
def p0:aD:=⟨0,o0,ByteArray.mk #[],d0,[]⟩
theorem xI:PI p0:=⟨DI0,fun h=>absurd rfl h,by simp [p0,o0],by simp [p0,o0],by simp [p0,o0],by simp [p0,ByteArray.size]⟩
structure RR (T:aD) (s:ByteArray) (o:List aN) (st e:Int) (bd:ByteArray) (p:aD):Prop where
 pi:PI p
 eo:o=p.out.map tA
 es:p.state=st
 s0:0≤st
 s4:st≤4
 gr:st=0→p.cC=d0
 co:st=3→p.order=AZ (sbs bd)
 ti:st=4→p.text=t200 bd
 run:prun p ((sbs s).drop e.toNat)=T
theorem uo (o:dK) (b:Int):pd (E2 o) b=pd o b:=by
 unfold pd AY E2 ng
 cases o.some <;> rfl
theorem Bb (s:ByteArray) (b:Int) (h0:0≤b) (h1:b < 256):AZ (sbs (s++gS [b]))=dB (AZ (sbs s)) b:=by
 rw [kG,xa _ (fun x hx=>by rw [List.mem_singleton.1 hx]; exact ⟨h0,h1⟩)]
 exact List.foldl_append ..
theorem Bc {s:ByteArray} {b:Int} (h0:0≤b) (h1:b < 256):t200 (s++gS [b])=if (t200 s).size < 200 then t200 s++gS [b] else t200 s:=by
 have hb:sbs (gS [b])=[b]:=xa _ (fun x hx=>by rw [List.mem_singleton.1 hx]; exact ⟨h0,h1⟩)
 have hz:(t200 s).size=min 200 (sbs s).length:=by rw [← cF,rh,List.length_take]
 apply vY
 rw [rh,kG,hb]
 split
 ·rename_i h
  rw [kG,hb,rh,List.take_of_length_le (by simp; omega),List.take_of_length_le (by omega)]
 ·rename_i h
  rw [rh,List.take_append_of_le_length (by omega)]
theorem Is (q:aD) {c:Int} (h: ¬ c=92):gZ (stP q 5) c=fQ (stP q 1) c:=by
 unfold gZ
 rw [show (stP q 5).state=5 from rfl,if_neg (by decide),if_neg (by decide),if_neg (by decide),if_neg (by decide),if_neg (by decide),if_neg h]
 rfl
theorem Ho (q:aD) {c:Int} (h:c=92):gZ (stP q 5) c=jT (stP q 5):=by
 unfold gZ
 rw [show (stP q 5).state=5 from rfl,if_neg (by decide),if_neg (by decide),if_neg (by decide),if_neg (by decide),if_neg (by decide),if_pos h]
theorem Iu (q:aD) (c:Int):gZ (stP q 1) c=fQ (stP q 1) c:=by
 unfold gZ
 rw [show (stP q 1).state=1 from rfl,if_neg (by decide),if_pos rfl]
def FPm (T:aD) (s:ByteArray) (p:Int):(List aN×Int×Int×ByteArray) ⊕ (List aN ⊕ List aN)→Prop
 | .inl z=>(0≤z.2.2.1∧z.2.2.1≤s.size∧(z.1.length:Int)≤2*z.2.2.1∧(z.2.2.2.size:Int)≤z.2.2.1 ∧ ∃ q,RR T s z.1 z.2.1 z.2.2.1 z.2.2.2 q)∧s.size - z.2.2.1.toNat < s.size - p.toNat
 | .inr (.inl l)=>l=T.out.map tA
 | .inr (.inr l)=>l=T.out.map tA
theorem Bd {s:ByteArray} (hs:s.size≤100000):k9 s=some ((prun p0 (sbs s)).out.map tA):=by
 refine okE ?_
 generalize hT:prun p0 (sbs s)=T
 have hby:=gX s
 unfold k9
 refine bO (P:=fun | .inl l=>l=T.out.map tA | .inr l=>l=T.out.map tA) ?_ ?_
 rotate_left
 ·rintro (l | r) h
  ·exact aW h
  ·exact aW h
 refine iD (fun z:List aN×Int×Int×ByteArray=>0≤z.2.2.1∧z.2.2.1≤s.size∧(z.1.length:Int)≤2*z.2.2.1∧(z.2.2.2.size:Int)≤z.2.2.1 ∧ ∃ q,RR T s z.1 z.2.1 z.2.2.1 z.2.2.2 q) (fun z=>s.size - z.2.2.1.toNat) ⟨Int.le_refl 0,by dsimp only; omega,by simp,by simp [ByteArray.size],p0,xI,rfl,rfl,by decide,by decide,fun _=>rfl,fun h=>(by cases h),fun h=>(by cases h),hT⟩ ?_
 rintro ⟨o,st,p,bd⟩ ⟨h0,h1,h2,h4,q,hq⟩
 dsimp only at h0 h1 h2 h4 hq ⊢
 refine iC (fun hp=> ?_) fun hp=> ?_
 rotate_left
 ·have:=hq.run
  rw [lk (by omega)] at this
  exact aW (by show o=_; rw [hq.eo,← this]; rfl)
 -- up to the next byte that is none of the ground
 refine bO (P:=fun | .inl z=>p≤z.2∧z.2 < s.size∧(z.1.length:Int)≤2*z.2+1∧(∃ q',PI q'∧z.1=q'.out.map tA∧q'.state=st∧(st=3→q'.order=AZ (sbs bd))∧(st=4→q'.text=t200 bd)∧((st=0∧q'.cC=d0 ∧ ∀ b,(sbs s).drop z.2.toNat=b::(sbs s).drop (z.2.toNat+1) → ¬ mm b∧prun (cW q' b).2 ((sbs s).drop (z.2.toNat+1))=T)∨(st≠0∧prun q' ((sbs s).drop z.2.toNat)=T))) | .inr (.inl _)=>False | .inr (.inr (.inl _))=>False | .inr (.inr (.inr l))=>l=T.out.map tA) ?_ ?_
 ·refine ok_eq (fun hst=> ?_) fun hst=>aW ⟨by dsimp only; omega,hp,by dsimp only; omega,q,hq.pi,hq.eo,hq.es,hq.co,hq.ti,.inr ⟨hst,hq.run⟩⟩
  subst hst
  refine bO (P:=fun e=>p≤e∧e≤s.size∧(∀ b∈((sbs s).drop p.toNat).take (e.toNat - p.toNat),mm b)∧(e < s.size → ∀ b,(sbs s).drop e.toNat=b::(sbs s).drop (e.toNat+1) → ¬ mm b)) ?_ fun e he=> ?_
  ·refine iD (fun e:Int=>p≤e∧e≤s.size∧(∀ b∈((sbs s).drop p.toNat).take (e.toNat - p.toNat),mm b)) (fun e=>s.size - e.toNat) ⟨by omega,by omega,by simp⟩ ?_
   rintro e ⟨g0,g1,g2⟩
   refine bO (P:=fun c=>(c=true→e < s.size ∧ ∃ b,(sbs s).drop e.toNat=b::(sbs s).drop (e.toNat+1)∧mm b)∧(c=false→e < s.size → ∀ b,(sbs s).drop e.toNat=b::(sbs s).drop (e.toNat+1) → ¬ mm b)) ?_ fun c hc=> ?_
   ·refine iC (fun h=> ?_) fun h=>aW ⟨fun e=>(by cases e),fun _ hh=>absurd hh h⟩
    obtain ⟨b,hb,hb2,hbd⟩:=mU (show 0≤e by omega) h
    rw [hb]
    simp only [Option.bind_some]
    by_cases hb32:b≥32
    ·rw [decide_eq_true hb32,cond_true]
     refine aW ⟨fun hh=>⟨h,b,hbd,hb32,by simpa using hh⟩,fun hh _ b' hb'=> ?_⟩
     rw [hbd] at hb'
     injection hb' with e1 _
     subst e1
     unfold mm
     have:b=127:=by simpa using hh
     omega
    ·rw [decide_eq_false hb32,cond_false]
     refine aW ⟨fun hh=>(by cases hh),fun hh _ b' hb'=> ?_⟩
     rw [hbd] at hb'
     injection hb' with e1 _
     subst e1
     unfold mm
     omega
   ·refine ml (fun h=> ?_) fun h=>aW ⟨g0,g1,g2,hc.2 h⟩
    obtain ⟨k1,b,k2,k3⟩:=hc.1 h
    rw [w64 (x:=e+1) (by omega) (by omega)]
    refine aW ⟨⟨by omega,by omega,?_⟩,by omega⟩
    rw [show (e+1).toNat - p.toNat=(e.toNat - p.toNat)+1 by omega,List.take_add_one]
    intro x hx
    rcases List.mem_append.1 hx with hx | hx
    ·exact g2 x hx
    ·have e1:((sbs s).drop p.toNat)[e.toNat - p.toNat]?=some b:=by
      have:=congrArg (fun l=>l[0]?) k2
      simp only [List.getElem?_drop,Nat.add_zero,List.getElem?_cons_zero] at this
      rw [List.getElem?_drop,show p.toNat+(e.toNat - p.toNat)=e.toNat by omega]
      exact this
     rw [e1] at hx
     simp at hx
     rw [hx]
     exact k3
  ·obtain ⟨g0,g1,g2,g3⟩:=he
   refine bO (rS h0 g0 (by omega)) fun _ _=> ?_
   have hz:=ug s h0 g0 g1
   have hseg:sbs (lF s p e)=((sbs s).drop p.toNat).take (e.toNat - p.toNat):=by
    have:=o8 s p.toNat e.toNat
    rw [Int.toNat_of_nonneg h0,Int.toNat_of_nonneg (show 0≤e by omega)] at this
    rw [this,List.drop_take]
   refine bO (CK (by omega)) fun r hr=> ?_
   obtain ⟨⟨r1,r2,r3⟩,r4,r5⟩:=hr
   rw [hseg] at r1 r3
   rw [Ba (by omega),Option.bind_some]
   have hlr:(r.1.map fun r=>tA (prA r)).length=r.1.length:=List.length_map ..
   refine bO (qa (by rw [hlr]; omega)) fun _ _=> ?_
   -- the parser behind the piece
   have hrun:=zT _ q q.out [] hq.es g2 (by simp)
   rw [hq.gr rfl] at hrun
   have hdi:=xH (((sbs s).drop p.toNat).take (e.toNat - p.toNat)) d0 [] DI0 (fun b hb=>hby b (List.mem_of_mem_drop (List.mem_of_mem_take hb)))
   have hsplit:(sbs s).drop p.toNat=((sbs s).drop p.toNat).take (e.toNat - p.toNat)++(sbs s).drop e.toNat:=by
    conv=>lhs; rw [← List.take_append_drop (e.toNat - p.toNat) ((sbs s).drop p.toNat)]
    rw [List.drop_drop,show p.toNat+(e.toNat - p.toNat)=e.toNat by omega]
   have hT2:=hq.run
   rw [hsplit,uk,hrun,← r1] at hT2
   have hmap:(r.1.map fun r=>tA (prA r))=(r.1.map prA).map tA:=by rw [List.map_map]; rfl
   refine ok_eq (fun hee=> ?_) fun hne=> ?_
   ·refine v3 (v5 (aW ?_))
    rw [lk hee] at hT2
    show o++_=_
    rw [← hT2,hq.eo,hmap,← List.map_append]
    rfl
   ·have hend:qy (dfold d0 [] (((sbs s).drop p.toNat).take (e.toNat - p.toNat))).1=if 0 < r.2 then [65533] else []:=by
     unfold qy
     by_cases hr2:0 < r.2
     ·rw [if_pos hr2,if_neg (by have:=r3.1 hr2; omega)]
     ·rw [if_neg hr2,if_pos (by have:=mt r3.2 hr2; omega)]
    refine bO (P:=fun l=>l=(q.out++r.1.map prA++(qy (dfold d0 [] (((sbs s).drop p.toNat).take (e.toNat - p.toNat))).1).map prA).map tA∧(l.length:Int)≤2*e+1) ?_ fun l hl=> ?_
    ·rw [hend]
     refine iC (fun h=> ?_) fun h=> ?_
     ·rw [if_pos h]
      refine bO (qa (by rw [List.length_append,hlr]; simp; omega)) fun _ _=>aW ⟨?_,by rw [List.length_append,List.length_append,hlr]; simp; omega⟩
      rw [hq.eo,hmap]
      simp [tA,prA]
     ·rw [if_neg h]
      refine aW ⟨?_,by rw [List.length_append,hlr]; omega⟩
      rw [hq.eo,hmap]
      simp
    ·refine aW ⟨g0,by dsimp only; omega,hl.2,⟨0,q.order,q.text,d0,q.out++r.1.map prA++(qy (dfold d0 [] (((sbs s).drop p.toNat).take (e.toNat - p.toNat))).1).map prA⟩,⟨DI0,fun _=>rfl,hq.pi.nu,hq.pi.n0,hq.pi.n1,hq.pi.tx⟩,hl.1,rfl,fun h=>(by cases h),fun h=>(by cases h),.inl ⟨rfl,rfl,fun b hb=> ?_⟩⟩
     dsimp only at hb ⊢
     have hnp:=g3 (by omega) b hb
     refine ⟨hnp,?_⟩
     rw [hb] at hT2
     rw [← hT2]
     show _=prun (gZ _ b) _
     unfold gZ jA
     rw [if_pos rfl,if_pos (by unfold mm at hnp; omega)]
 ·rintro (⟨o1,e⟩ | (l | (l | l))) hl
  rotate_left
  ·exact hl.elim
  ·exact hl.elim
  ·exact aW hl
  obtain ⟨g0,g1,g3,q',k1,k2,k3,k4,k5,k6⟩:=hl
  dsimp only at g0 g1 g3 k2 k6 ⊢
  have hs0:=hq.s0
  have hs4:=hq.s4
  refine Ey (P:=FPm T s p) ?_ (by rintro (z | (l | l)) h <;> exact h)
  refine bO (mU (by omega) g1) fun b hb=> ?_
  obtain ⟨hb,hbd⟩:=hb
  have w1:IntKind.i64.wrap (e+1)=e+1:=w64 (by omega) (by omega)
  have w2:IntKind.i64.wrap (e+1+1)=e+1+1:=w64 (by omega) (by omega)
  have wb:IntKind.i64.wrap b=b:=w64 (by omega) (by omega)
  have wu:IntKind.u8.wrap b=b:=by simp [IntKind.wrap,IntKind.bits,IntKind.signed]; omega
  simp only [w1,w2,wb,wu]
  have ee:(e+1).toNat=e.toNat+1:=by omega
  have hr:q'.cC=d0:=by
   rcases k6 with ⟨a1,a2,a3⟩ | ⟨a1,a2⟩
   ·exact a2
   ·exact k1.gr (by rw [k3]; exact a1)
  have fin: ∀ (o':List aN) (st' p':Int) (bd':ByteArray) (q2:aD),(o'.length:Int)≤2*p'→p+1≤p'→p'≤s.size→(bd'.size:Int)≤p'→RR T s o' st' p' bd' q2→FPm T s p (.inl (o',st',p',bd')):=fun o' st' p' bd' q2 a2 a3 a4 a5 a6=>⟨⟨by dsimp only; omega,a4,a2,a5,q2,a6⟩,by dsimp only; omega⟩
  have ap1: ∀ {l:List aN},l.length≤1→okO (chk (dC o1.length l.length 72)) (fun _=>True):=fun {l} hl=>qa (by omega)
  have bsz:(gS [b]).size=1:=by rw [jv]; rfl
  have la: ∀ {l:List aN},l.length≤1→((o1++l).length:Int)≤2*(e+1):=fun {l} hl=>by rw [List.length_append]; omega
  have htl: ∀ t:ByteArray,((ttl t).map tA).length≤1:=fun t=>by rw [List.length_map]; exact zQ t
  refine ok_eq (fun h4s=> ?_) fun h4s=> ?_
  ·-- within a title
   subst h4s
   have k6':prun (hK q' b) ((sbs s).drop (e.toNat+1))=T:=by
    rcases k6 with ⟨a1,a2,a3⟩ | ⟨a1,a2⟩
    ·cases a1
    ·rw [hbd] at a2
     have:gZ q' b=hK q' b:=by
      unfold gZ
      rw [k3]
      rfl
     rw [← this]
     exact a2
   have ht:=k5 rfl
   have hst:=AX bd
   refine bO (P:=fun | .inl z=>FPm T s p (.inl z) | .inr (.inl _)=>False | .inr (.inr (.inl _))=>False | .inr (.inr (.inr l))=>l=T.out.map tA) ?_ ?_
   ·refine ok_eq (fun hb7=> ?_) fun hb7=> ?_
    ·rw [hst,Option.bind_some]
     refine bO (ap1 (htl _)) fun _ _=>aW (fin _ _ _ _ (jT q') (la (htl _)) (by omega) (by omega) (by omega) ⟨(tj k1 hr).1,?_,rfl,by decide,by decide,fun _=>hr,fun h=>(by cases h),fun h=>(by cases h),?_⟩)
     ·rw [k2,← ht]; simp [jT]
     ·rw [ee]
      have:hK q' b=jT q':=if_pos hb7
      rw [← this]
      exact k6'
    ·refine bO (P:=fun c=>c=true↔(b=24∨b=26)) (ok_eq (fun h=>aW (by simp [h])) fun h=>aW (by simp [h])) fun c hc=> ?_
     refine ml (fun h=> ?_) fun h=> ?_
     ·have:hK q' b=stP q' 0:=by unfold hK; rw [if_neg hb7,if_pos (hc.1 h)]
      rw [this] at k6'
      exact aW (fin _ _ _ _ (stP q' 0) (by omega) (by omega) (by omega) (by omega) ⟨⟨k1.di,fun _=>hr,k1.nu,k1.n0,k1.n1,k1.tx⟩,k2,rfl,by decide,by decide,fun _=>hr,fun h=>(by cases h),fun h=>(by cases h),by rw [ee]; exact k6'⟩)
     ·have hn2: ¬ (b=24∨b=26):=fun hh=>by rw [hc.2 hh] at h; cases h
      refine G7 (fun h27=> ?_) fun h27=> ?_
      ·have hti:=(xG k1 hr b).1
       have htt:hK q' b=if q'.text.size < 200 then ⟨q'.state,q'.order,q'.text++gS [b],q'.cC,q'.out⟩ else q':=by unfold hK; rw [if_neg hb7,if_neg hn2,if_neg h27]
       refine bO (zC (by rw [bsz]; omega)) fun _ _=>aW (fin _ _ _ _ (hK q' b) (by omega) (by omega) (by omega) (by rw [ByteArray.size_append,bsz]; omega) ⟨hti,?_,?_,by decide,by decide,fun h=>(by cases h),fun h=>(by cases h),fun _=> ?_,by rw [ee]; exact k6'⟩)
       ·rw [k2,htt]; split <;> rfl
       ·rw [htt]; split <;> exact k3
       ·rw [htt,Bc hb.1 hb.2,← ht]; split <;> rfl
      ·have htt:hK q' b=stP q' 5:=by unfold hK; rw [if_neg hb7,if_neg hn2,if_pos h27]
       rw [htt] at k6'
       refine ok_eq (fun hend=> ?_) fun hend=> ?_
       ·rw [show e.toNat+1=(e+1).toNat by omega,lk hend] at k6'
        exact v3 (v5 (aW (by show o1=_; rw [k2,← k6']; rfl)))
       ·refine bO (mU (by omega) (by omega)) fun c hc=> ?_
        obtain ⟨hc,hcd⟩:=hc
        rw [show (e+1).toNat=e.toNat+1 by omega] at hcd
        rw [hcd] at k6'
        refine ok_eq (fun hc92=> ?_) fun hc92=> ?_
        ·rw [hst,Option.bind_some]
         have hov:gZ (stP q' 5) c=jT (stP q' 5):=Ho q' hc92
         refine bO (ap1 (htl _)) fun _ _=>aW (fin _ _ _ _ (jT (stP q' 5)) (by have:=la (htl (t200 bd)); omega) (by omega) (by omega) (by omega) ⟨(tj (p:=stP q' 5) ⟨k1.di,fun _=>hr,k1.nu,k1.n0,k1.n1,k1.tx⟩ hr).1,?_,rfl,by decide,by decide,fun _=>hr,fun h=>(by cases h),fun h=>(by cases h),?_⟩)
         ·rw [k2,← ht]; simp [jT,stP]
         ·rw [show (e+1+1).toNat=e.toNat+1+1 by omega,← hov]
          exact k6'
        ·have hes:gZ (stP q' 5) c=gZ (stP q' 1) c:=(Is q' hc92).trans (Iu q' c).symm
         refine aW (fin _ _ _ _ (stP q' 1) (by omega) (by omega) (by omega) (by omega) ⟨⟨k1.di,fun _=>hr,k1.nu,k1.n0,k1.n1,k1.tx⟩,k2,rfl,by decide,by decide,fun _=>hr,fun h=>(by cases h),fun h=>(by cases h),?_⟩)
         rw [show (e+1).toNat=e.toNat+1 by omega,hcd]
         show prun (gZ (stP q' 1) c) _=T
         rw [← hes]
         exact k6'
   ·rintro (⟨o',st',p',bd'⟩ | (l | (l | l))) hl
    ·exact aW hl
    ·exact hl.elim
    ·exact hl.elim
    ·exact aW hl
  ·-- elsewhere
   have hcom:(cW q' b).1=true→prun (cW q' b).2 ((sbs s).drop (e.toNat+1))=T:=by
    intro hc
    rcases k6 with ⟨a1,a2,a3⟩ | ⟨a1,a2⟩
    ·exact (a3 b hbd).2
    ·rw [hbd] at a2
     have:gZ q' b=(cW q' b).2:=by
      unfold gZ
      rw [k3,if_neg a1]
      have h123:st=1∨st=2∨st=3:=by omega
      rcases h123 with rfl | rfl | rfl
      ·rw [if_pos rfl]; unfold fQ; rw [if_pos hc]
      ·rw [if_neg (by decide),if_pos rfl]; unfold mV; rw [if_pos hc]
      ·rw [if_neg (by decide),if_neg (by decide),if_pos rfl]; unfold gY; rw [if_pos hc]
     rw [← this]
     exact a2
   have hcP:=(nM k1 hr b).1
   refine bO (P:=fun c=>c=true↔(b=24∨b=26)) (ok_eq (fun h=>aW (by simp [h])) fun h=>aW (by simp [h])) fun c hc=> ?_
   refine ml (fun h=> ?_) fun h=> ?_
   ·have hq2:cW q' b=(true,stP q' 0):=if_pos (hc.1 h)
    rw [hq2] at hcom hcP
    exact aW (fin _ _ _ _ (stP q' 0) (by omega) (by omega) (by omega) (by omega) ⟨hcP,k2,rfl,by decide,by decide,fun _=>hr,fun h=>(by cases h),fun h=>(by cases h),by rw [ee]; exact hcom rfl⟩)
   have hn2: ¬ (b=24∨b=26):=fun hh=>by rw [hc.2 hh] at h; cases h
   refine ok_eq (fun h27=> ?_) fun h27=> ?_
   ·have hq2:cW q' b=(true,stP q' 1):=by unfold cW; rw [if_neg hn2,if_pos h27]
    rw [hq2] at hcom hcP
    exact aW (fin _ _ _ _ (stP q' 1) (by omega) (by omega) (by omega) (by omega) ⟨hcP,k2,rfl,by decide,by decide,fun _=>hr,fun h=>(by cases h),fun h=>(by cases h),by rw [ee]; exact hcom rfl⟩)
   refine iC (fun h32=> ?_) fun h32=> ?_
   ·have hq2:cW q' b=(true,nf q' (ctA b)):=by unfold cW; rw [if_neg hn2,if_neg h27,if_pos h32]
    rw [hq2] at hcom hcP
    refine bO (ap1 (by simp)) fun _ _=>aW (fin _ _ _ _ (nf q' (ctA b)) (la (by simp)) (by omega) (by omega) (by omega) ⟨hcP,?_,k3,hs0,hs4,fun _=>hr,k4,k5,by rw [ee]; exact hcom rfl⟩)
    rw [k2]; simp [nf,tA,ctA]
   have hq2:cW q' b=(b == 127,q'):=by unfold cW; rw [if_neg hn2,if_neg h27,if_neg h32]
   refine ok_eq (fun h127=> ?_) fun h127=> ?_
   ·rw [hq2] at hcom hcP
    exact aW (fin _ _ _ _ q' (by omega) (by omega) (by omega) (by omega) ⟨hcP,k2,k3,hs0,hs4,fun _=>hr,k4,k5,by rw [ee]; exact hcom (by simpa using h127)⟩)
   have hc1:(cW q' b).1=false:=by rw [hq2]; simpa using h127
   -- not on the ground
   have hst0:st≠0∧prun (gZ q' b) ((sbs s).drop (e.toNat+1))=T:=by
    rcases k6 with ⟨a1,a2,a3⟩ | ⟨a1,a2⟩
    ·exact absurd (show mm b from ⟨by omega,h127⟩) (a3 b hbd).1
    ·rw [hbd] at a2
     exact ⟨a1,a2⟩
   obtain ⟨hst0,hrn⟩:=hst0
   have hz0:((ByteArray.mk #[]).size:Int)=0:=rfl
   refine ok_eq (fun hs1=> ?_) fun hs1=> ?_
   ·subst hs1
    have ho:gZ q' b=fQ q' b:=by unfold gZ; rw [k3,if_neg (by decide),if_pos rfl]
    have hPI:=(rX k1 hr b).1
    rw [ho] at hrn
    unfold fQ at hrn hPI
    rw [if_neg (by rw [hc1]; decide)] at hrn hPI
    refine ok_eq (fun h91=> ?_) fun h91=> ?_
    ·rw [if_pos h91] at hrn hPI
     exact aW (fin _ _ _ _ _ (by omega) (by omega) (by omega) (by omega) ⟨hPI,k2,rfl,by decide,by decide,fun h=>(by cases h),fun _=>rfl,fun h=>(by cases h),by rw [ee]; exact hrn⟩)
    rw [if_neg h91] at hrn hPI
    refine ok_eq (fun h93=> ?_) fun h93=> ?_
    ·rw [if_pos h93] at hrn hPI
     exact aW (fin _ _ _ _ _ (by omega) (by omega) (by omega) (by omega) ⟨hPI,k2,rfl,by decide,by decide,fun h=>(by cases h),fun h=>(by cases h),fun _=>rfl,by rw [ee]; exact hrn⟩)
    rw [if_neg h93] at hrn hPI
    refine iC (fun h48=> ?_) fun h48=> ?_
    ·rw [if_pos h48] at hrn hPI
     exact aW (fin _ _ _ _ _ (by omega) (by omega) (by omega) (by omega) ⟨hPI,k2,rfl,by decide,by decide,fun h=>(by cases h),fun h=>(by cases h),fun h=>(by cases h),by rw [ee]; exact hrn⟩)
    rw [if_neg h48] at hrn hPI
    refine iC (fun hd=> ?_) fun hd=> ?_
    ·rw [if_pos hd] at hrn hPI
     refine bO (ap1 (by simp)) fun _ _=>aW (fin _ _ _ _ _ (la (by simp)) (by omega) (by omega) (by omega) ⟨hPI,?_,rfl,by decide,by decide,fun _=>hr,fun h=>(by cases h),fun h=>(by cases h),by rw [ee]; exact hrn⟩)
     rw [k2]; simp [stP,nf,tA,Hn]
    ·rw [if_neg hd] at hrn hPI
     exact aW (fin _ _ _ _ _ (by omega) (by omega) (by omega) (by omega) ⟨hPI,k2,rfl,by decide,by decide,fun _=>hr,fun h=>(by cases h),fun h=>(by cases h),by rw [ee]; exact hrn⟩)
   ·refine ok_eq (fun hs2=> ?_) fun hs2=> ?_
    ·subst hs2
     have ho:gZ q' b=mV q' b:=by unfold gZ; rw [k3,if_neg (by decide),if_neg (by decide),if_pos rfl]
     have hPI:=(zS k1 hr b).1
     rw [ho] at hrn
     unfold mV at hrn hPI
     rw [if_neg (by rw [hc1]; decide)] at hrn hPI
     refine iC (fun h48=> ?_) fun h48=> ?_
     ·rw [if_pos h48] at hrn hPI
      exact aW (fin _ _ _ _ _ (by omega) (by omega) (by omega) (by omega) ⟨hPI,k2,rfl,by decide,by decide,fun _=>hr,fun h=>(by cases h),fun h=>(by cases h),by rw [ee]; exact hrn⟩)
     ·rw [if_neg h48] at hrn hPI
      exact aW (fin _ _ _ _ _ (by omega) (by omega) (by omega) (by omega) ⟨hPI,k2,k3,by decide,by decide,fun _=>hr,fun h=>(by cases h),fun h=>(by cases h),by rw [ee]; exact hrn⟩)
    ·refine ok_eq (fun hs3=> ?_) fun hs3=>absurd (show st=1∨st=2∨st=3 by omega) (by omega)
     subst hs3
     have ho:gZ q' b=gY q' b:=by unfold gZ; rw [k3,if_neg (by decide),if_neg (by decide),if_neg (by decide),if_pos rfl]
     have hPI:=(um k1 hr (b:=b) hb.1).1
     rw [ho] at hrn
     unfold gY at hrn hPI
     rw [if_neg (by rw [hc1]; decide)] at hrn hPI
     have hord:=k4 rfl
     refine bO (P:=fun c=>c=true ↔ ¬ (64≤b∧b < 127)) (iC (fun h=>aW (by simp; omega)) fun h=>aW (by simp; omega)) fun c hc=> ?_
     refine ml (fun h=> ?_) fun h=> ?_
     ·rw [if_neg (hc.1 h)] at hrn hPI
      refine bO (zC (by rw [bsz]; omega)) fun _ _=>aW (fin _ _ _ _ _ (by omega) (by omega) (by omega) (by rw [ByteArray.size_append,bsz]; omega) ⟨hPI,k2,k3,by decide,by decide,fun h=>(by cases h),fun _=> ?_,fun h=>(by cases h),by rw [ee]; exact hrn⟩)
      show dB q'.order b=_
      rw [Bb _ _ hb.1 hb.2,← hord]
     ·have h64:64≤b∧b < 127:=Classical.byContradiction fun hh=>by rw [hc.2 hh] at h; cases h
      rw [if_pos h64] at hrn hPI
      rw [CU (by omega),Option.bind_some]
      have hl1:((pd (AZ (sbs bd)) b).map tA).length≤1:=by rw [List.length_map]; unfold pd; split <;> simp
      refine bO (ap1 hl1) fun _ _=>aW (fin _ _ _ _ _ (la hl1) (by omega) (by omega) (by omega) ⟨hPI,?_,?_,by decide,by decide,fun _=> ?_,fun h=>(by cases h),fun h=>(by cases h),by rw [ee]; exact hrn⟩)
      ·rw [rY,uo,k2,hord]; simp
      ·unfold jB; split <;> rfl
      ·unfold jB; split <;> exact hr
end Go.Tw.X
set_option linter.unusedVariables false
set_option linter.unusedSimpArgs false
set_option maxHeartbeats 1000000
namespace Go.Tw.X
open Go Go.Tw
def aOk (a:bA):Prop:=rok a.rune∧0≤a.byte∧a.byte < 256∧a.bB.length≤16
def oG (l:List bA):Prop:= ∀ a∈l,aOk a
theorem nN {a b:List bA} (ha:oG a) (hb:oG b):oG (a++b):=fun x h=>(List.mem_append.1 h).elim (ha x) (hb x)
theorem ri {a:bA} (h:aOk a):oG [a]:=fun x hx=>by rw [List.mem_singleton.1 hx]; exact h
theorem zU {l:List Int} (h:uh l):oG (l.map prA):=fun x hx=>by
 obtain ⟨r,hr,rfl⟩:=List.mem_map.1 hx
 exact ⟨h r hr,by show (0:Int)≤0; decide,by show (0:Int) < 256; decide,by show 0≤16; decide⟩
theorem CV (t:ByteArray):oG (ttl t):=by
 have hz:rok 0:=⟨by decide,by decide⟩
 unfold ttl
 split
 ·split
  ·exact ri ⟨hz,by show (0:Int)≤0; decide,by show (0:Int) < 256; decide,by show 0≤16; decide⟩
  ·exact fun x hx=>by cases hx
 ·exact fun x hx=>by cases hx
theorem pR {p:aD} (h:oG p.out) {b:Int} (h0:0≤b) (h1:b < 256):oG (cW p b).2.out:=by
 have hz:rok 0:=⟨by decide,by decide⟩
 unfold cW
 split
 ·exact h
 ·split
  ·exact h
  ·split
   ·exact nN h (ri ⟨hz,h0,h1,by show 0≤16; decide⟩)
   ·exact h
theorem Gu {p:aD} (hp:PI p) (h:oG p.out) {b:Int} (h0:0≤b) (h1:b < 256):oG (gZ p b).out:=by
 have hz:rok 0:=⟨by decide,by decide⟩
 have hesc: ∀ q:aD,oG q.out→oG (fQ q b).out:=fun q hq=>by
  unfold fQ
  split
  ·exact pR hq h0 h1
  ·repeat' split
   all_goals first | exact hq | exact nN hq (ri ⟨hz,h0,h1,by show 0≤16; decide⟩)
 have hov: ∀ q:aD,oG q.out→oG (jT q).out:=fun q hq=>nN hq (CV _)
 unfold gZ
 split
 ·unfold jA
  split
  ·refine pR (nN h (zU fun x hx=> ?_)) h0 h1
   unfold qy at hx
   split at hx
   ·cases hx
   ·rw [List.mem_singleton.1 hx]; exact ⟨by decide,by decide⟩
  ·exact nN h (zU (qZ hp.di h0 h1).2.2.2)
 ·split
  ·exact hesc p h
  ·split
   ·unfold mV
    split
    ·exact pR h h0 h1
    ·split <;> exact h
   ·split
    ·unfold gY
     split
     ·exact pR h h0 h1
     ·split
      ·rw [rY,uo]
       refine nN h ?_
       unfold pd
       split
       ·exact fun x hx=>by cases hx
       ·refine ri ⟨hz,h0,h1,?_⟩
        show (AY p.order).bB.length≤16
        unfold AY
        split
        ·exact pQ hp.nu
        ·exact hp.nu
      ·exact h
    ·split
     ·unfold hK
      repeat' split
      all_goals first | exact h | exact hov p h
     ·split
      ·exact hov p h
      ·exact hesc (stP p 1) h
theorem tk: ∀ (bs:List Int) {p:aD},PI p→oG p.out→(∀ b∈bs,0≤b∧b < 256)→oG (prun p bs).out
 | [],p,_,h,_=>h
 | b::bs,p,hp,h,hb=>by
  obtain ⟨b0,b1⟩:=hb b List.mem_cons_self
  exact tk bs (yK hp b0 b1).1 (Gu hp h b0 b1) fun x hx=>hb x (List.mem_cons_of_mem _ hx)
theorem CW {a:bA} (h:aOk a):qv (tA a)=a∧okA (tA a):=by
 obtain ⟨h1,h2,h3,h4⟩:=h
 refine ⟨?_,h1,h2,h3,by show a.bB.length≤18; omega⟩
 have w8:IntKind.u8.wrap a.byte=a.byte:=by simp [IntKind.wrap,IntKind.bits,IntKind.signed]; omega
 unfold qv tA
 simp only [AQ h1,w8]
end Go.Tw.X
set_option linter.unusedVariables false
set_option linter.unusedSimpArgs false
set_option maxHeartbeats 1000000
namespace Go.Tw.X
open Go Go.Tw
theorem rZ: ∀ (n:Nat) (l:List aI),∀ x∈l7 n l,x∈l
 | 0,l,x,h=>h
 | n+1,l,x,h=>by
  unfold l7 at h
  split at h
  ·exact List.dropLast_subset l (rZ n _ x h)
  ·exact h
theorem CX {r:aE} {g:aH} (h:g∈jn r): ∃ c∈r.cells,g.rune=c.rune:=by
 unfold jn oo at h
 obtain ⟨c,hc,rfl⟩:=List.mem_map.1 h
 have hc2:=(List.mem_filter.1 hc).1
 split at hc2
 ·exact ⟨c,hc2,rfl⟩
 ·exact ⟨c,rZ _ _ c hc2,rfl⟩
def eU (W:Nat) (y:aB×(List (List aH)×List aH)) (a:bA):aB×(List (List aH)×List aH):=(acS W y.1 a,(acF W y.1 a).foldl kH y.2)
theorem nO {W:Nat} {r:aE} (h:gok W r) (hW:W≤1000):vk r:=⟨by rw [h.1]; exact hW,fun g hg=>by
 obtain ⟨c,hc,e⟩:=CX hg
 rw [e]
 exact h.2 c hc⟩
theorem zV {k:Nat} {z:List (List aH)×List aH} (h:ZI k z) {rows:List aE} (hr: ∀ r∈rows,vk r) (hk:k+2*rows.length≤100000000) {m:bD} (hb:m.b=fk z):jO m (rows.map told)=some ⟨m.s,fk (rows.foldl kH z),m.all,m.iY,m.k⟩:=by
 unfold jO
 refine okE (bO (P:=fun y=>y=(⟨m.s,fk (rows.foldl kH z),m.all,m.iY,m.k⟩:bD)) ?_ fun y hy=>aW hy)
 refine iD (fun y:bD×Int=>0≤y.2∧y.2≤rows.length∧y.1=⟨m.s,fk ((rows.take y.2.toNat).foldl kH z),m.all,m.iY,m.k⟩) (fun y=>rows.length - y.2.toNat) ⟨Int.le_refl 0,by dsimp only; omega,by rw [show (rows.take (0:Int).toNat).foldl kH z=z from rfl,← hb]⟩ ?_
 rintro ⟨b,i⟩ ⟨h0,h1,h2⟩
 dsimp only at h0 h1 h2 ⊢
 subst h2
 rw [List.length_map]
 refine iC (fun hi=> ?_) fun hi=>aW (by rw [List.take_of_length_le (by omega)])
 obtain ⟨j,rfl⟩: ∃ j:Nat,i=j:=⟨i.toNat,by omega⟩
 have hj:j < rows.length:=by omega
 have hZ:=nK (rows.take j) h fun x hx=>hr x (List.mem_of_mem_take hx)
 rw [List.length_take] at hZ
 have hZn:=hZ.n
 have hZb:=hZ.b
 rw [cO _ j (by rw [List.length_map]; exact hj),Option.bind_some,List.getElem_map]
 dsimp only
 rw [show ((j:Int)).toNat=j from rfl,EB (by omega) (by omega) (hr rows[j] (List.getElem_mem hj)).1,Option.bind_some,w64 (by omega) (by omega)]
 refine aW ⟨⟨by dsimp only; omega,by dsimp only; omega,?_⟩,by dsimp only; omega⟩
 dsimp only
 rw [show ((j:Int)+1).toNat=j+1 by omega,List.take_add_one,List.getElem?_eq_getElem hj,Option.toList_some,List.foldl_append]
 rfl
end Go.Tw.X
set_option linter.unusedVariables false
set_option linter.unusedSimpArgs false
set_option maxHeartbeats 1000000
namespace Go.Tw.X
open Go Go.Tw
theorem CY {W k:Nat} {y:aB×(List (List aH)×List aH)} (hs:SI W y.1) (hz:ZI k y.2) {a:bA} (ha:aOk a):SI W (eU W y a).1∧ZI (k+4000) (eU W y a).2:=by
 have ho:=wi hs.toSJ a
 have hW:=hs.gi.w2
 have h2:=nK (acF W y.1 a) hz fun r hr=>nO (ho.2 r hr) hW
 refine ⟨Fz hs a ha.1,?_⟩
 have h3:=ho.1
 exact ⟨by have:=h2.n; show ((acF W y.1 a).foldl kH y.2).1.length≤_; omega,h2.b,h2.g,h2.ls⟩
theorem pS {W:Nat}: ∀ (l:List bA) {k:Nat} {y:aB×(List (List aH)×List aH)},SI W y.1→ZI k y.2→oG l→SI W (l.foldl (eU W) y).1∧ZI (k+4000*l.length) (l.foldl (eU W) y).2
 | [],k,y,hs,hz,_=>⟨hs,hz⟩
 | a::l,k,y,hs,hz,h=>by
  obtain ⟨h1,h2⟩:=CY hs hz (h a List.mem_cons_self)
  have:=pS l (k:=k+4000) h1 h2 fun x hx=>h x (List.mem_cons_of_mem _ hx)
  rw [show k+4000*(a::l).length=k+4000+4000*l.length by simp; omega]
  exact this
theorem Gv {W:Nat} {s:aB} (h:SI W s) {a:bA} (ha:aOk a):eW s a=some (acF W s a,acS W s a):=by
 obtain ⟨e,ho⟩:=CW ha
 have:=(zO h ho).2.2.1
 rw [e] at this
 exact this
theorem Gw {W:Nat} {s:aB} (h:SI W s) {a:bA} (ha:aOk a):jM (aP s) (tA a)=some (aP (acS W s a),(acF W s a).map told):=by
 obtain ⟨e,ho⟩:=CW ha
 have:=(zO h ho).1
 rw [e] at this
 exact this
theorem zW {W k:Nat} {m:aV} {z:List (List aH)×List aH} (hs:SI W m.aR) (hz:ZI k z) (hp:PI m.parser) {t:ByteArray} (ht:t.size≤1000) (hk:k≤50000000) :
  gD (fun a c=>(Option.bind (gx a c) fun d=>some (d.2,true))) (ed z) m t=some (ed ((prun (clr m.parser) (sbs t)).out.foldl (eU W) (m.aR,z)).2,⟨m.book,clr (prun (clr m.parser) (sbs t)),((prun (clr m.parser) (sbs t)).out.foldl (eU W) (m.aR,z)).1,m.k⟩):=by
 unfold gD
 rw [E4 hp (by omega),Option.bind_some]
 have hc:PI (clr m.parser):=⟨hp.di,hp.gr,hp.nu,hp.n0,hp.n1,hp.tx⟩
 have hpr:=mE (sbs t) hc (gX t)
 have has:=tk (sbs t) hc (fun x hx=>by cases hx) (gX t)
 have hlen:=hpr.2
 rw [cF] at hlen
 have hc0:(clr m.parser).out.length=0:=rfl
 generalize prun (clr m.parser) (sbs t)=q at hpr has hlen
 dsimp only
 refine okE (bO (P:=fun | .inl y=>y=(((q.out.foldl (eU W) (m.aR,z)).1,ed (q.out.foldl (eU W) (m.aR,z)).2):aB×bZ) | .inr _=>False) ?_ ?_)
 ·refine iD (fun y:aB×Int×bZ=>0≤y.2.1∧y.2.1≤q.out.length∧y.1=((q.out.take y.2.1.toNat).foldl (eU W) (m.aR,z)).1∧y.2.2=ed ((q.out.take y.2.1.toNat).foldl (eU W) (m.aR,z)).2) (fun y=>q.out.length - y.2.1.toNat) ⟨Int.le_refl 0,by dsimp only; omega,rfl,rfl⟩ ?_
  rintro ⟨s,i,b⟩ ⟨h0,h1,h2,h3⟩
  dsimp only at h0 h1 h2 h3 ⊢
  subst h2 h3
  refine iC (fun hi=> ?_) fun hi=> ?_
  ·obtain ⟨j,rfl⟩: ∃ j:Nat,i=j:=⟨i.toNat,by omega⟩
   have hj:j < q.out.length:=by omega
   rw [show ((j:Int)).toNat=j from rfl]
   have hst:=pS (W:=W) (q.out.take j) (k:=k) (y:=(m.aR,z)) hs hz fun x hx=>has x (List.mem_of_mem_take hx)
   rw [List.length_take] at hst
   have ha:=has q.out[j] (List.getElem_mem hj)
   have hnext:(q.out.take (j+1)).foldl (eU W) (m.aR,z)=eU W ((q.out.take j).foldl (eU W) (m.aR,z)) q.out[j]:=by
    rw [List.take_add_one,List.getElem?_eq_getElem hj,Option.toList_some,List.foldl_append]
    rfl
   generalize (q.out.take j).foldl (eU W) (m.aR,z)=y at hst hnext
   have ho:=wi hst.1.toSJ q.out[j]
   have hW:=hst.1.gi.w2
   have hol:=ho.1
   rw [cO _ j hj,Option.bind_some,Gv hst.1 ha,Option.bind_some]
   obtain ⟨r,hr1,hr2⟩:=add_eq hst.2 (rows:=acF W y.1 q.out[j]) (fun r hr=>nO (ho.2 r hr) hW) (by omega)
   rw [hr1]
   simp only [Option.bind_some,Bool.not_true,cond_false]
   rw [w64 (by omega) (by omega)]
   refine aW ⟨⟨by dsimp only; omega,by dsimp only; omega,?_,?_⟩,by dsimp only; omega⟩
   ·dsimp only
    rw [show ((j:Int)+1).toNat=j+1 by omega,hnext]
    rfl
   ·dsimp only
    rw [show ((j:Int)+1).toNat=j+1 by omega,hnext,hr2]
    rfl
  ·refine aW ?_
   rw [List.take_of_length_le (by omega)]
 ·rintro (y | y) h
  ·subst h
   exact aW rfl
  ·exact h.elim
end Go.Tw.X
set_option linter.unusedVariables false
set_option linter.unusedSimpArgs false
set_option maxHeartbeats 1000000
namespace Go.Tw.X
open Go Go.Tw
theorem news (a t:ByteArray):(prun p0 (sbs (a++t))).out=(prun p0 (sbs a)).out++(prun (clr (prun p0 (sbs a))) (sbs t)).out∧clr (prun p0 (sbs (a++t)))=clr (prun (clr (prun p0 (sbs a))) (sbs t)):=by
 rw [kG,uk,uj (sbs t) (prun p0 (sbs a))]
 exact ⟨rfl,rfl⟩
theorem Be {W k:Nat} {s:aB} {x:bD} {z:List (List aH)×List aH} (hs:SI W s) (hz:ZI k z) (hx:x.s=aP s) (hb:x.b=fk z) {iY:List bA} (ha:oG iY) (hl:iY.length≤10000) (hk:k≤50000000) :
  iter (σ:=bD×Int) (ρ:=bD) (fun a=>(bif (decide (a.2 < ((iY.map tA).length:Int))) then (Option.bind (idx (iY.map tA) a.2) fun d=>(Option.bind (jM a.1.s d) fun c=>(Option.bind (jO (bD.mk c.1 a.1.b a.1.all a.1.iY a.1.k) c.2) fun e=>some (.inl (e,(IntKind.i64.wrap (a.2+1))))))) else some (.inr a.1))) (x,0)=some ⟨aP (iY.foldl (eU W) (s,z)).1,fk (iY.foldl (eU W) (s,z)).2,x.all,x.iY,x.k⟩:=by
 refine okE ?_
 refine iD (fun y:bD×Int=>0≤y.2∧y.2≤iY.length∧y.1=⟨aP ((iY.take y.2.toNat).foldl (eU W) (s,z)).1,fk ((iY.take y.2.toNat).foldl (eU W) (s,z)).2,x.all,x.iY,x.k⟩) (fun y=>iY.length - y.2.toNat) ⟨Int.le_refl 0,by dsimp only; omega,by
  show x=⟨aP s,fk z,x.all,x.iY,x.k⟩
  rw [← hx,← hb]⟩ ?_
 rintro ⟨y,i⟩ ⟨h0,h1,h2⟩
 dsimp only at h0 h1 h2 ⊢
 subst h2
 rw [List.length_map]
 refine iC (fun hi=> ?_) fun hi=>aW (by rw [List.take_of_length_le (by omega)])
 obtain ⟨j,rfl⟩: ∃ j:Nat,i=j:=⟨i.toNat,by omega⟩
 have hj:j < iY.length:=by omega
 rw [show ((j:Int)).toNat=j from rfl]
 have hst:=pS (W:=W) (iY.take j) (k:=k) (y:=(s,z)) hs hz fun x hx=>ha x (List.mem_of_mem_take hx)
 rw [List.length_take] at hst
 have haj:=ha iY[j] (List.getElem_mem hj)
 have hnext:(iY.take (j+1)).foldl (eU W) (s,z)=eU W ((iY.take j).foldl (eU W) (s,z)) iY[j]:=by
  rw [List.take_add_one,List.getElem?_eq_getElem hj,Option.toList_some,List.foldl_append]
  rfl
 generalize (iY.take j).foldl (eU W) (s,z)=y at hst hnext
 have ho:=wi hst.1.toSJ iY[j]
 have hW:=hst.1.gi.w2
 have hol:=ho.1
 rw [cO _ j (by rw [List.length_map]; exact hj),Option.bind_some,List.getElem_map]
 dsimp only
 rw [Gw hst.1 haj,Option.bind_some]
 dsimp only
 rw [zV hst.2 (fun r hr=>nO (ho.2 r hr) hW) (by omega) rfl,Option.bind_some,w64 (by omega) (by omega)]
 refine aW ⟨⟨by dsimp only; omega,by dsimp only; omega,?_⟩,by dsimp only; omega⟩
 dsimp only
 rw [show ((j:Int)+1).toNat=j+1 by omega,hnext]
 rfl
end Go.Tw.X
set_option linter.unusedVariables false
set_option linter.unusedSimpArgs false
set_option maxHeartbeats 1000000
namespace Go.Tw.X
open Go Go.Tw
def ru (x:Int):Prop:=0≤x∧x≤1114111
def rus (l:List Int):Prop:= ∀ x∈l,ru x
structure D2 (d:bM):Prop where
 r0:0≤d.rune
 r3:d.gg=3→d.rune≤4∧(d.rune=4→d.lead=244)
 r2:d.gg=2→d.rune≤271
 r1:d.gg=1→d.rune≤17407
theorem D20:D2 d0:=⟨by decide,by decide,by decide,by decide⟩
theorem yM {x:Int} (h:ru x):rus [x]:=fun y hy=>by rw [List.mem_singleton.1 hy]; exact h
theorem yN:ru 65533:=⟨by decide,by decide⟩
theorem Gx {b:Int} (h0:0≤b) (h1:b < 256):0≤qw b∧((dQ b).1=3→qw b≤4∧(qw b=4→b=244))∧((dQ b).1=2→qw b≤15)∧((dQ b).1=1→qw b≤31):=by
 unfold qw dQ
 repeat' split
 all_goals simp_all
 all_goals omega
theorem Hp {b:Int} (h0:0≤b) (h1:b < 256):D2 (np b).1∧rus (np b).2:=by
 unfold np
 obtain ⟨l0,l3,l2,l1⟩:=Gx h0 h1
 split
 ·exact ⟨D20,yM ⟨h0,by omega⟩⟩
 ·split
  ·exact ⟨D20,yM yN⟩
  ·refine ⟨⟨l0,l3,fun e=> ?_,fun e=> ?_⟩,fun x hx=>by cases hx⟩
   ·have:=l2 e; show qw b≤271; omega
   ·have:=l1 e; show qw b≤17407; omega
theorem E5 {d:bM} {b:Int} (h0:0≤b) (hn:(dQ d.lead).1=d.gg) (h3:d.gg=3) (h4:d.lead=244) (hf:uU d b=true):b % 64≤15:=by
 unfold uU at hf
 rw [if_neg (by omega),h4] at hf
 have e:dQ 244=(3,128,143):=by decide
 rw [e] at hf
 have:=of_decide_eq_true hf
 dsimp only at this
 omega
theorem CZ {d:bM} (hd:DI d) (h:D2 d) {b:Int} (h0:0≤b) (h1:b < 256):D2 (jS d b).1∧rus (jS d b).2:=by
 unfold jS
 obtain ⟨k1,k2⟩:=Hp h0 h1
 split
 ·exact ⟨k1,k2⟩
 ·rename_i hn
  rcases hd with rfl | ⟨l0,l1,n1,n2,r0,r3,r2,r1⟩
  ·exact absurd (by decide) hn
  have hk:=(pc d.lead).1
  split
  ·rename_i hf
   split
   ·rename_i hn1
    have:=h.r1 hn1
    exact ⟨D20,yM ⟨by omega,by omega⟩⟩
   ·rename_i hn1
    refine ⟨⟨by show 0≤d.rune*64+b % 64; omega,fun e=> ?_,fun e=> ?_,fun e=> ?_⟩,fun x hx=>by cases hx⟩
    ·change d.gg - 1=3 at e; omega
    ·change d.gg - 1=2 at e
     show d.rune*64+b % 64≤271
     have h3:d.gg=3:=by omega
     obtain ⟨a1,a2⟩:=h.r3 h3
     by_cases c:d.rune=4
     ·have:=E5 h0 (by omega) h3 (a2 c) hf; omega
     ·omega
    ·change d.gg - 1=1 at e
     show d.rune*64+b % 64≤17407
     have:=h.r2 (by omega)
     omega
  ·refine ⟨k1,fun x hx=> ?_⟩
   rcases List.mem_cons.1 hx with rfl | hx
   ·exact yN
   ·exact k2 x hx
def aGd (a:bA):Prop:=ru a.rune∧a.text.size≤200
def pX (l:List bA):Prop:= ∀ a∈l,aGd a
theorem nP {a b:List bA} (ha:pX a) (hb:pX b):pX (a++b):=fun x h=>(List.mem_append.1 h).elim (ha x) (hb x)
theorem rj {a:bA} (h:aGd a):pX [a]:=fun x hx=>by rw [List.mem_singleton.1 hx]; exact h
theorem E6:(ByteArray.mk #[]).size≤200:=by decide
theorem ru0:ru 0:=⟨by decide,by decide⟩
theorem zX {l:List Int} (h:rus l):pX (l.map prA):=fun x hx=>by
 obtain ⟨r,hr,rfl⟩:=List.mem_map.1 hx
 exact ⟨h r hr,E6⟩
theorem C9 {t:ByteArray} (h:t.size≤200):pX (ttl t):=by
 have hg:2≤t.size→aGd (tiA t):=fun h2=>⟨ru0,by show (lF t 2 t.size).size≤200; rw [ug _ (by omega) (by omega) (by omega)]; omega⟩
 unfold ttl
 split
 ·rename_i x y l e
  have:2≤t.size:=by have:=congrArg List.length e; rw [cF] at this; simp at this; omega
  split
  ·exact rj (hg this)
  ·exact fun x hx=>by cases hx
 ·exact fun x hx=>by cases hx
theorem pT {p:aD} (h:pX p.out) (b:Int):pX (cW p b).2.out:=by
 unfold cW
 split
 ·exact h
 ·split
  ·exact h
  ·split
   ·exact nP h (rj ⟨ru0,E6⟩)
   ·exact h
theorem Gy {p:aD} (hp:PI p) (hd:D2 p.cC) (h:pX p.out) {b:Int} (h0:0≤b) (h1:b < 256):pX (gZ p b).out:=by
 have hesc: ∀ q:aD,pX q.out→pX (fQ q b).out:=fun q hq=>by
  unfold fQ
  split
  ·exact pT hq b
  ·repeat' split
   all_goals first | exact hq | exact nP hq (rj ⟨ru0,E6⟩)
 have hov:pX (jT p).out:=nP h (C9 hp.tx)
 unfold gZ
 split
 ·unfold jA
  split
  ·refine pT (nP h (zX fun x hx=> ?_)) b
   unfold qy at hx
   split at hx
   ·cases hx
   ·rw [List.mem_singleton.1 hx]; exact yN
  ·exact nP h (zX (CZ hp.di hd h0 h1).2)
 ·split
  ·exact hesc p h
  ·split
   ·unfold mV
    split
    ·exact pT h b
    ·split <;> exact h
   ·split
    ·unfold gY
     split
     ·exact pT h b
     ·split
      ·rw [rY,uo]
       refine nP h ?_
       unfold pd
       split
       ·exact fun x hx=>by cases hx
       ·exact rj ⟨ru0,E6⟩
      ·exact h
    ·split
     ·unfold hK
      repeat' split
      all_goals first | exact h | exact hov
     ·split
      ·exact hov
      ·exact hesc (stP p 1) h
theorem mF (p:aD) (b:Int):(cW p b).2.cC=p.cC:=by
 unfold cW
 repeat' split
 all_goals rfl
theorem rk (p:aD) (b:Int):(fQ p b).cC=p.cC:=by
 unfold fQ
 split
 ·exact mF p b
 ·repeat' split
  all_goals rfl
theorem Gz {p:aD} (hp:PI p) (hd:D2 p.cC) {b:Int} (h0:0≤b) (h1:b < 256):D2 (gZ p b).cC:=by
 unfold gZ
 split
 ·unfold jA
  split
  ·rw [mF]; exact D20
  ·exact (CZ hp.di hd h0 h1).1
 ·split
  ·rw [rk]; exact hd
  ·split
   ·unfold mV
    split
    ·rw [mF]; exact hd
    ·split <;> exact hd
   ·split
    ·unfold gY
     split
     ·rw [mF]; exact hd
     ·split
      ·unfold jB
       split <;> exact hd
      ·exact hd
    ·split
     ·unfold hK
      repeat' split
      all_goals exact hd
     ·split
      ·exact hd
      ·rw [rk]; exact hd
theorem zY: ∀ (bs:List Int) {p:aD},PI p→D2 p.cC→pX p.out→(∀ b∈bs,0≤b∧b < 256)→pX (prun p bs).out∧D2 (prun p bs).cC
 | [],p,_,hd,h,_=>⟨h,hd⟩
 | b::bs,p,hp,hd,h,hb=>by
  obtain ⟨b0,b1⟩:=hb b List.mem_cons_self
  exact zY bs (yK hp b0 b1).1 (Gz hp hd b0 b1) (Gy hp hd h b0 b1) fun x hx=>hb x (List.mem_cons_of_mem _ hx)
end Go.Tw.X
set_option linter.unusedVariables false
set_option linter.unusedSimpArgs false
set_option maxHeartbeats 1000000
namespace Go.Tw.X
open Go Go.Tw
def sy (x:Int):Prop:=0≤x∧x≤647
def cOk (c:aI):Prop:=ru c.rune∧sy c.aL∧0≤c.part∧c.part≤3
theorem ov (s:bE):sy (jR s):=by
 unfold jR sy
 split
 ·unfold bN
  repeat' split
  all_goals omega
 ·omega
theorem Hq:ru 32:=⟨by decide,by decide⟩
theorem tp {s:Int} (h:sy s):cOk (blk s):=⟨Hq,h,by show (0:Int)≤0; decide,by show (0:Int)≤3; decide⟩
theorem sy0:sy 0:=⟨by decide,by decide⟩
def cR (l:List aI):Prop:= ∀ c∈l,cOk c
theorem GA:cR []:=fun c h=>by cases h
theorem pU: ∀ (l:List aI) (p:Int),cR l→cR (gv p l)
 | [],_,_=>fun c hc=>by cases hc
 | c::r,p,h=>by
  intro d hd
  simp only [gv,List.mem_cons] at hd
  rcases hd with rfl | hd
  ·unfold rM
   cases uQ p c r with
   | true=>exact tp (h c (by simp)).2.1
   | false=>exact h c (by simp)
  ·exact pU r _ (fun e he=>h e (by simp [he])) d hd
theorem uq {l:List aI} (h:cR l) (i:Nat) {c:aI} (hc:cOk c):cR (l.set i c):=by
 intro d hd
 rcases List.mem_or_eq_of_mem_set hd with hd | rfl
 ·exact h d hd
 ·exact hc
theorem GB {l:List aI} (h:cR l) (at_:Int) {s x:Int} (hx:ru x) (hs:sy s):cR (rO l at_ x s):=by
 have m: ∀ p:Int,0≤p→p≤3→cOk ⟨x,s,p⟩:=fun p a b=>⟨hx,hs,a,b⟩
 unfold rO
 split
 ·exact h
 ·split
  ·exact uq h _ (m 0 (by decide) (by decide))
  ·unfold yk
   have h1:=uq (uq h at_.toNat (m 1 (by decide) (by decide))) (at_.toNat+1) (m 2 (by decide) (by decide))
   split
   ·rename_i c hc
    have hcm:cOk c:=by
     split at hc
     ·exact h1 c (List.mem_of_getElem? hc)
     ·cases hc
    split
    ·exact uq h1 _ (tp hcm.2.1)
    ·exact h1
   ·exact h1
theorem wk (n:Nat) {s:Int} (h:sy s):cR (List.replicate n (blk s)):=fun c hc=>by rw [List.eq_of_mem_replicate hc]; exact tp h
theorem ur {a b:List aI} (ha:cR a) (hb:cR b):cR (a++b):=fun c hc=>(List.mem_append.1 hc).elim (ha c) (hb c)
theorem tq {a:List aI} (ha:cR a) (n:Nat):cR (a.take n):=fun c hc=>ha c (List.mem_of_mem_take hc)
theorem zZ {a:List aI} (ha:cR a) (n:Nat):cR (a.drop n):=fun c hc=>ha c (List.mem_of_mem_drop hc)
theorem uu (a b:Int) {s:Int} (hs:sy s): ∀ {l:List aI} (i:Int),cR l→cR (je a b s i l)
 | [],_,_=>fun c hc=>by cases hc
 | c::r,i,h=>by
  intro d hd
  simp only [je,List.mem_cons] at hd
  rcases hd with rfl | hd
  ·split
   ·exact tp hs
   ·exact h c (by simp)
  ·exact uu a b hs (i+1) (fun e he=>h e (by simp [he])) d hd
theorem E7 {l:List aI} (h:cR l) {q:Int} (hq:sy q):cR (m9 l q):=uq h _ ⟨Hq,hq,by show (0:Int)≤3; decide,by show (3:Int)≤3; decide⟩
theorem GC {l:List aI} (h:cR l) (a n:Int) {q:Int} (hq:sy q):cR (ins l a n q):=by
 unfold ins
 split
 ·exact h
 ·exact tq (ur (ur (tq h _) (wk _ hq)) (zZ h _)) _
theorem GD {l:List aI} (h:cR l) (a n:Int) {q:Int} (hq:sy q):cR (del l a n q):=by
 unfold del
 split
 ·exact h
 ·exact ur (ur (tq h _) (zZ h _)) (wk _ hq)
def gR2 (l:List aE):Prop:= ∀ r∈l,cR r.cells
theorem nh {a b:List aE} (ha:gR2 a) (hb:gR2 b):gR2 (a++b):=fun c hc=>(List.mem_append.1 hc).elim (ha c) (hb c)
theorem ll {a:List aE} (ha:gR2 a) (n:Nat):gR2 (a.take n):=fun c hc=>ha c (List.mem_of_mem_take hc)
theorem mX {a:List aE} (ha:gR2 a) (n:Nat):gR2 (a.drop n):=fun c hc=>ha c (List.mem_of_mem_drop hc)
theorem tr (k W:Nat) {s:Int} (h:sy s):gR2 (List.replicate k (fP W s)):=fun c hc=>by rw [List.eq_of_mem_replicate hc]; exact wk W h
theorem kC:gR2 []:=fun c h=>by cases h
theorem qz {l:List aE} (h:gR2 l) (y:Int):cR (iK l y).cells:=by
 unfold iK
 split
 ·rename_i hy
  rw [List.getElem?_eq_getElem (by omega)]
  exact h _ (List.getElem_mem _)
 ·exact GA
theorem Dc (W:Nat) {r:aE} (h:cR r.cells):cR (rsz W r).cells:=by
 unfold rsz
 split
 ·exact h
 ·exact pU _ _ (ur (tq h _) (wk _ sy0))
theorem z2 (W:Nat) {l:List aE} (h:gR2 l) (y:Int) {r:aE} (hr:cR r.cells):gR2 (pW W l y r):=by
 unfold pW
 split
 ·intro q hq
  rcases List.mem_or_eq_of_mem_set hq with hq | hq
  ·exact h q hq
  ·rw [hq]; exact Dc W hr
 ·exact h
theorem Dd (W:Nat) {l:List aE} (h:gR2 l) (t b n:Int) {s:Int} (hs:sy s):gR2 (upL W l t b n s):=by
 unfold upL
 split
 ·exact h
 ·exact nh (nh (ll h _) (nh (mX (mX (ll h _) _) _) (tr _ _ hs))) (mX h _)
theorem E8 {l:List aE} (h:gR2 l) (t b n:Int):gR2 (upO l t b n):=by
 unfold upO
 split
 ·exact kC
 ·exact ll (mX (ll h _) _) _
theorem De (W:Nat) {l:List aE} (h:gR2 l) (t b n:Int) {s:Int} (hs:sy s):gR2 (oZ W l t b n s):=by
 unfold oZ
 split
 ·exact h
 ·exact nh (nh (ll h _) (nh (tr _ _ hs) (ll (mX (ll h _) _) _))) (mX h _)
theorem GF (W:Nat) {l:List aE} (h:gR2 l) (c H:Nat):gR2 (rzL W l c H):=by
 intro r hr
 unfold rzL at hr
 obtain ⟨q,hq,rfl⟩:=List.mem_map.1 hr
 exact Dc W (nh (ll (mX h _) _) (tr _ W sy0) q hq)
structure SC (s:aB):Prop where
 g:gR2 s.g.l
 t:s.title.size≤200
variable {W : Nat} {s : aB}
theorem dH {p:Prop} [Decidable p] {a b:aB} (ha:SC a) (hb:SC b):SC (if p then a else b):=by split <;> assumption
theorem jh {p:Prop} [Decidable p] {a b:List aE} (ha:gR2 a) (hb:gR2 b):gR2 (if p then a else b):=by split <;> assumption
theorem mY (h:SC s) (x y:Int):SC (mvS s x y):=⟨h.g,h.t⟩
theorem qc (h:SC s):SC (nwS s):=⟨h.g,h.t⟩
theorem yO (h:SC s) (x:Int):SC (xS s x):=⟨h.g,h.t⟩
theorem z3 (h:SC s) (y:Int) {r:aE} (hr:cR r.cells):SC (seS W s y r):=⟨z2 W h.g y hr,h.t⟩
theorem FA (h:SC s) (n:Int):SC (upS W s n):=⟨Dd W h.g _ _ _ (ov _),h.t⟩
theorem GG (h:SC s) (t b n:Int):SC (upT W s t b n):=⟨Dd W h.g _ _ _ (ov _),h.t⟩
theorem Df (h:SC s) (t b n:Int):SC (dnS W s t b n):=⟨De W h.g _ _ _ (ov _),h.t⟩
theorem z4 (h:SC s) (n:Int):gR2 (upF s n):=jh kC (E8 h.g _ _ _)
theorem xJ (h:SC s):SC (liS W s):=dH (FA (qc h) 1) (mY (qc h) _ _)
theorem uv (h:SC s):gR2 (liF s):=jh (z4 (qc h) 1) kC
theorem Hr (h:SC s):cR (r2S s).cells:=pU _ _ (E7 (qz h.g _) (ov _))
theorem Hs (h:SC s) {r:Int} (hr:ru r):cR (r3S s r).cells:=pU _ _ (GB (qz h.g _) _ hr (ov _))
theorem Iv (h:SC s):SC (aS W s)∧gR2 (aF W s):=by
 have k:SC (xS (seS W s s.spot.y (r1S s)) 0):=yO (z3 h _ (r:=r1S s) (qz h.g _)) 0
 exact ⟨dH (xJ k) h,jh (uv k) kC⟩
theorem Iw (h:SC s) (n:Int):SC (bS W s n)∧gR2 (bF W s n):=by
 have k:SC (xS (seS W s s.spot.y (r2S s)) 0):=yO (z3 h _ (Hr h)) 0
 exact ⟨dH (dH (xJ k) (yO h _)) h,jh (jh (uv k) kC) kC⟩
theorem Ht (h:SC s) {r:Int} (hr:ru r):SC (prS W s r)∧gR2 (prF W s r):=by
 obtain ⟨a1,a2⟩:=Iv (W:=W) h
 obtain ⟨b1,b2⟩:=Iw (W:=W) a1 (ofS r)
 exact ⟨dH h ⟨z2 W b1.g _ (Hs b1 hr),b1.t⟩,jh kC (nh a2 b2)⟩
theorem Hu (h:SC s) (b:Int):SC (ctS W s b)∧gR2 (ctF s b) :=
 ⟨dH (mY h _ _) (dH (mY h _ _) (dH (xJ h) (dH (mY h _ _) h))),jh (uv h) kC⟩
theorem Hv (h:SC s):SC (baS W s):=dH (Df (qc h) _ _ _) (mY (qc h) _ _)
theorem z5 (w h:Int):SC (rW w h):=⟨tr _ _ sy0,by show (ByteArray.mk #[]).size≤200; decide⟩
theorem Hw (h:SC s) (b:Int):SC (esS W s b)∧gR2 (esF s b) :=
 ⟨dH (xJ (yO h 0)) (dH (xJ h) (dH (Hv h) (dH ⟨h.g,h.t⟩ (dH (mY (s:=e8S s) ⟨h.g,h.t⟩ _ _) (dH (z5 _ _) h))))),jh (uv (yO h 0)) (jh (uv h) kC)⟩
theorem FB (h:SC s) (y a b:Int):SC (erS W s y a b):=z3 h y (pU _ _ (uu _ _ (ov _) _ (qz h.g _)))
theorem Hx (h:SC s) (n:Int):SC (paS W s n):=dH h (qc (FB h _ _ _))
theorem Dg (h:SC s) (n:Int): ∀ k,SC (wpS W s n k)
 | 0=>h
 | k+1=>by
  unfold wpS
  split
  ·exact FB (Dg h n k) _ _ _
  ·exact Dg h n k
theorem z6 (h:SC s) (n:Int):SC (clS s n):=mY h _ _
theorem Dh (h:SC s) (n:Int) (all:Bool):SC (yE W s n all):=Hx (dH (Dg h _ _) h) n
theorem Di {p:Prop} [Decidable p] {a b:List aI} (ha:cR a) (hb:cR b):cR (if p then a else b):=by split <;> assumption
theorem Hy (h:SC s) (b n:Int):SC (ceS W s b n) :=
 qc (z3 h _ (pU _ _ (Di (GC (qz h.g _) _ _ (ov _)) (Di (GD (qz h.g _) _ _ (ov _)) (uu _ _ (ov _) _ (qz h.g _))))))
theorem Hz (h:SC s) (b n:Int):SC (shS W s b n):=dH h (dH (mY (Df h _ _ _) _ _) (mY (GG h _ _ _) _ _))
theorem HA (h:SC s) (l:List Int):SC (reS s l):=dH (mY (s:=rnS s (rgT s l) (rgU s l)) ⟨h.g,h.t⟩ _ _) h
theorem HB (h:SC s) (b:Int) (l:List Int):SC (orS W s b l)∧gR2 (orF s b l):=by
 refine ⟨?_,jh (z4 (qc h) _) kC⟩
 unfold orS
 refine dH (z6 h _) (dH (yO (z6 h _) 0) (dH (z6 h _) (dH (yO (z6 h _) 0) (dH (mY h _ _) (dH (mY h _ _) (dH (mY h _ _) (dH (mY h _ _) (dH (mY h _ _) (dH (Dh h _ _) (dH (Dh h _ _) (dH (Hy h _ _) (dH (Hz h _ _) (dH (FA (qc h) _) (dH (Df (qc h) _ _ _) (dH ⟨h.g,h.t⟩ (dH (HA h l) h))))))))))))))))
theorem HC (h:SC s) {a:bA} (ha:aGd a):SC (acS W s a)∧gR2 (acF W s a):=by
 obtain ⟨p1,p2⟩:=Ht (W:=W) h ha.1
 obtain ⟨c1,c2⟩:=Hu (W:=W) h a.byte
 obtain ⟨e1,e2⟩:=Hw (W:=W) h a.byte
 obtain ⟨o1,o2⟩:=HB (W:=W) h a.byte a.bB
 exact ⟨dH p1 (dH c1 (dH e1 (dH (dH (dH ⟨h.g,h.t⟩ h) o1) (dH ⟨h.g,ha.2⟩ h)))),jh p2 (jh c2 (jh e2 (jh (jh kC o2) kC)))⟩
theorem HD (h:SC s) (w k:Int):SC (rzS s w k)∧gR2 (rzF s k):=⟨⟨GF _ h.g _ _,h.t⟩,ll h.g _⟩
end Go.Tw.X
set_option linter.unusedVariables false
set_option linter.unusedSimpArgs false
set_option maxHeartbeats 1000000
namespace Go.Tw.X
open Go Go.Tw
def ln (k:Int) (n:Nat) (w h:Int):Int:=if k=0 then (if 1048576 < n then 3 else 0) else if k=1 then (if w < 1∨w > 1000∨h < 1∨h > 1000 then 6 else 0) else 5
theorem z7 (w h:Int):((bif (decide (w < 1)) then some true else (bif (decide (w > 1000)) then some true else (bif (decide (h < 1)) then some true else some (decide (h > 1000))))):Option Bool)=some (decide (w < 1∨w > 1000∨h < 1∨h > 1000)):=by
 by_cases a:w < 1
 ·simp [a]
 ·by_cases b:w > 1000
  ·simp [a,b]
  ·by_cases c:h < 1
   ·simp [a,b,c]
   ·simp [a,b,c]
theorem nQ (e:cK):fw e=some (ln e.kind e.text.size e.w e.h):=by
 unfold fw ln
 by_cases k0:e.kind=0
 ·have e0:(e.kind == 0)=true:=by simpa using k0
  rw [if_pos k0,e0,cond_true]
  by_cases hs:1048576 < e.text.size
  ·rw [if_pos hs,decide_eq_true (by omega)]; rfl
  ·rw [if_neg hs,decide_eq_false (by omega)]; rfl
 ·have e0:(e.kind == 0)=false:=by simpa using k0
  rw [if_neg k0,e0,cond_false]
  by_cases k1:e.kind=1
  ·have e1:(e.kind == 1)=true:=by simpa using k1
   rw [if_pos k1,e1,cond_true,z7,Option.bind_some]
   by_cases hs:e.w < 1∨e.w > 1000∨e.h < 1∨e.h > 1000
   ·rw [if_pos hs,decide_eq_true hs]; rfl
   ·rw [if_neg hs,decide_eq_false hs]; rfl
  ·have e1:(e.kind == 1)=false:=by simpa using k1
   rw [if_neg k1,e1]; rfl
theorem sb (e:cV):kp e=some (ln e.kind e.text.size e.w e.h):=by
 unfold kp ln
 by_cases k0:e.kind=0
 ·have e0:(e.kind == 0)=true:=by simpa using k0
  rw [if_pos k0,e0,cond_true]
  by_cases hs:1048576 < e.text.size
  ·rw [if_pos hs,decide_eq_true (by omega)]; rfl
  ·rw [if_neg hs,decide_eq_false (by omega)]; rfl
 ·have e0:(e.kind == 0)=false:=by simpa using k0
  rw [if_neg k0,e0,cond_false]
  by_cases k1:e.kind=1
  ·have e1:(e.kind != 1)=false:=by simpa using k1
   rw [if_pos k1,e1,cond_false,z7,Option.bind_some]
   by_cases hs:e.w < 1∨e.w > 1000∨e.h < 1∨e.h > 1000
   ·rw [if_pos hs,decide_eq_true hs]; rfl
   ·rw [if_neg hs,decide_eq_false hs]; rfl
  ·have e1:(e.kind != 1)=true:=by simpa using k1
   rw [if_neg k1,e1]; rfl
end Go.Tw.X
set_option linter.unusedVariables false
set_option linter.unusedSimpArgs false
set_option maxHeartbeats 1000000
namespace Go.Tw.X
open Go Go.Tw
structure MX (W k N:Nat) (z:List (List aH)×List aH) (m:aV) (x:bD):Prop where
 si:SI W m.aR
 zi:ZI k z
 bk:m.book=ed z
 xs:x.s=aP m.aR
 xb:x.b=fk z
 pa:m.parser=clr (prun p0 (sbs x.all))
 ac:x.iY=((prun p0 (sbs x.all)).out.length:Int)
 ke:m.k=x.k
 k0:0≤m.k
 kN:m.k≤N
 al:x.all.size≤1000*N
theorem Bf {W k N:Nat} {z:List (List aH)×List aH} {m:aV} {x:bD} (h:MX W k N z m x) (hk:k≤50000000) (hN:N≤90) {t:ByteArray} (ht:t.size≤1000) (w h':Int) :
  bR m ⟨0,t,w,h'⟩=some (0,⟨ed ((prun m.parser (sbs t)).out.foldl (eU W) (m.aR,z)).2,clr (prun m.parser (sbs t)),((prun m.parser (sbs t)).out.foldl (eU W) (m.aR,z)).1,m.k+1⟩):=by
 have hp:PI m.parser:=by
  rw [h.pa]
  have:=(mE (sbs x.all) xI (gX x.all)).1
  exact ⟨this.di,this.gr,this.nu,this.n0,this.n1,this.tx⟩
 have hcl:clr m.parser=m.parser:=by rw [h.pa]; rfl
 have e1:=zW (m:=m) h.si h.zi hp ht hk
 rw [hcl] at e1
 have hk0:=h.k0
 have hkN:=h.kN
 unfold bR
 rw [nQ]
 have hck:ln 0 t.size w h'=0:=by unfold ln; rw [if_pos rfl,if_neg (by omega)]
 dsimp only
 rw [hck,Option.bind_some,show ((0:Int) != 0)=false from rfl,show ((0:Int) == 1)=false from rfl,cond_false,cond_false,show iz m t=some t from rfl,Option.bind_some,h.bk,e1]
 simp only [Option.bind_some]
 rw [w64 (by omega) (by omega)]
end Go.Tw.X
set_option linter.unusedVariables false
set_option linter.unusedSimpArgs false
set_option maxHeartbeats 1000000
namespace Go.Tw.X
open Go Go.Tw
theorem Bg {W k N:Nat} {z:List (List aH)×List aH} {m:aV} {x:bD} (h:MX W k N z m x) (hk:k≤50000000) (hN:N≤90) {t:ByteArray} (ht:t.size≤1000) (w h':Int) :
  gV x ⟨0,t,w,h'⟩=some (⟨aP ((prun m.parser (sbs t)).out.foldl (eU W) (m.aR,z)).1,fk ((prun m.parser (sbs t)).out.foldl (eU W) (m.aR,z)).2,x.all++t,((prun p0 (sbs (x.all++t))).out.length:Int),m.k+1⟩,0):=by
 have hp:PI m.parser:=by
  rw [h.pa]
  have:=(mE (sbs x.all) xI (gX x.all)).1
  exact ⟨this.di,this.gr,this.nu,this.n0,this.n1,this.tx⟩
 have hcl:clr m.parser=m.parser:=by rw [h.pa]; rfl
 have hk0:=h.k0
 have hkN:=h.kN
 have hal:=h.al
 have hz:(x.all++t).size=x.all.size+t.size:=by rw [← cF,kG,List.length_append,cF,cF]
 have hnews:=(news x.all t).1
 rw [← h.pa] at hnews
 have hlen:=(mE (sbs t) hp (gX t)).2
 have hm0:m.parser.out.length=0:=by rw [h.pa]; rfl
 rw [cF] at hlen
 have has:=tk (sbs t) hp (by rw [h.pa]; exact fun x hx=>by cases hx) (gX t)
 unfold gV
 rw [sb]
 have hck:ln 0 t.size w h'=0:=by unfold ln; rw [if_pos rfl,if_neg (by omega)]
 dsimp only
 rw [hck,Option.bind_some,show ((0:Int) != 0)=false from rfl,show ((0:Int) == 1)=false from rfl,cond_false,cond_false,mL (by omega),Option.bind_some,Bd (by omega),Option.bind_some,h.ac,hnews]
 have hcut:cut (((prun p0 (sbs x.all)).out++(prun m.parser (sbs t)).out).map tA) ((prun p0 (sbs x.all)).out.length:Int) ((((prun p0 (sbs x.all)).out++(prun m.parser (sbs t)).out).map tA).length:Int)=(prun m.parser (sbs t)).out.map tA:=by
  rw [na,List.take_length,List.map_append]
  exact List.drop_left' (List.length_map ..)
 rw [bV (by omega) (by rw [List.length_map,List.length_append]; omega) (by omega),Option.bind_some,hcut]
 have hit:=Be (W:=W) (k:=k) (s:=m.aR) (x:=⟨x.s,x.b,x.all++t,x.iY,x.k⟩) (z:=z) h.si h.zi h.xs h.xb (iY:=(prun m.parser (sbs t)).out) has (by omega) hk
 dsimp only at hit
 rw [← h.ac,hit]
 simp only [Option.bind_some,List.length_map]
 rw [← h.ke,w64 (by omega) (by omega)]
end Go.Tw.X
set_option linter.unusedVariables false
set_option linter.unusedSimpArgs false
set_option maxHeartbeats 1000000
namespace Go.Tw.X
open Go Go.Tw
theorem xK {W k N:Nat} {z:List (List aH)×List aH} {m:aV} {x:bD} (h:MX W k N z m x) {t:ByteArray} (ht:t.size≤1000) :
  MX W (k+8000*t.size) (N+1) ((prun m.parser (sbs t)).out.foldl (eU W) (m.aR,z)).2 ⟨ed ((prun m.parser (sbs t)).out.foldl (eU W) (m.aR,z)).2,clr (prun m.parser (sbs t)),((prun m.parser (sbs t)).out.foldl (eU W) (m.aR,z)).1,m.k+1⟩ ⟨aP ((prun m.parser (sbs t)).out.foldl (eU W) (m.aR,z)).1,fk ((prun m.parser (sbs t)).out.foldl (eU W) (m.aR,z)).2,x.all++t,((prun p0 (sbs (x.all++t))).out.length:Int),m.k+1⟩:=by
 have hp:PI m.parser:=by
  rw [h.pa]
  have:=(mE (sbs x.all) xI (gX x.all)).1
  exact ⟨this.di,this.gr,this.nu,this.n0,this.n1,this.tx⟩
 have hlen:=(mE (sbs t) hp (gX t)).2
 have hm0:m.parser.out.length=0:=by rw [h.pa]; rfl
 rw [cF] at hlen
 have has:=tk (sbs t) hp (by rw [h.pa]; exact fun x hx=>by cases hx) (gX t)
 have hst:=pS (W:=W) (prun m.parser (sbs t)).out (k:=k) (y:=(m.aR,z)) h.si h.zi has
 have hk0:=h.k0
 have hkN:=h.kN
 have hal:=h.al
 have hz:(x.all++t).size=x.all.size+t.size:=by rw [← cF,kG,List.length_append,cF,cF]
 have hzn:=hst.2.n
 refine ⟨hst.1,⟨by omega,hst.2.b,hst.2.g,hst.2.ls⟩,rfl,rfl,rfl,?_,rfl,rfl,by dsimp only; omega,by dsimp only; omega,by dsimp only; omega⟩
 dsimp only
 rw [(news x.all t).2,← h.pa]
end Go.Tw.X
set_option linter.unusedVariables false
set_option linter.unusedSimpArgs false
set_option maxHeartbeats 1000000
namespace Go.Tw.X
open Go Go.Tw
theorem z8 (m:aV) (e:cK) (h:ln e.kind e.text.size e.w e.h≠0):bR m e=some (ln e.kind e.text.size e.w e.h,m):=by
 unfold bR
 have e1:(ln e.kind e.text.size e.w e.h != 0)=true:=by simpa using h
 rw [nQ,Option.bind_some,e1,cond_true]
theorem E9 (x:bD) (e:cV) (h:ln e.kind e.text.size e.w e.h≠0):gV x e=some (x,ln e.kind e.text.size e.w e.h):=by
 unfold gV
 have e1:(ln e.kind e.text.size e.w e.h != 0)=true:=by simpa using h
 rw [sb,Option.bind_some,e1,cond_true]
end Go.Tw.X
set_option linter.unusedVariables false
set_option linter.unusedSimpArgs false
set_option maxHeartbeats 1000000
namespace Go.Tw.X
open Go Go.Tw
def sT (w h:Int):aV:=⟨ed ([],[]),p0,rW w h,0⟩
def GH (w h:Int):bD:=⟨aP (rW w h),fk ([],[]),ByteArray.mk #[],0,0⟩
theorem z9 (w h:Int):kL w h=some (sT w h):=by
 unfold kL
 rw [show og=some (bZ.mk [] [0] []) from rfl,Option.bind_some,zM,Option.bind_some]
 rfl
theorem Fa (w h:Int):l5 w h=some (GH w h):=by
 unfold l5
 rw [xv,Option.bind_some]
 rfl
theorem Dj (w h:Int):MX (szN w) 0 0 ([],[]) (sT w h) (GH w h) :=
 ⟨zN w h,⟨Nat.le_refl 0,by show 0 < 1024; decide,fun x hx=>(by cases hx),fun x hx=>(by cases hx)⟩,rfl,rfl,rfl,rfl,rfl,rfl,Int.le_refl 0,Int.le_refl 0,Nat.le_refl 0⟩
theorem xL {W k N:Nat} {z:List (List aH)×List aH} {m:aV} {x:bD} (h:MX W k N z m x) (hk:k≤50000000) (hN:N≤90) {t:ByteArray} {w h':Int} (hc:ln 1 t.size w h'=0) :
  bR m ⟨1,t,w,h'⟩=some (0,⟨ed ((rzF m.aR h').foldl kH z),m.parser,rzS m.aR w h',m.k+1⟩):=by
 have hk0:=h.k0
 have hkN:=h.kN
 have ho:=yG h.si.toSJ h'
 have hW:=h.si.gi.w2
 have hol:=ho.1
 obtain ⟨r,hr1,hr2⟩:=add_eq h.zi (rows:=rzF m.aR h') (fun r hr=>nO (ho.2 r hr) hW) (by omega)
 unfold bR
 rw [nQ]
 dsimp only
 rw [hc,Option.bind_some,show ((0:Int) != 0)=false from rfl,show ((1:Int) == 1)=true from rfl,cond_false,cond_true,AO h.si.toSJ,Option.bind_some,h.bk,hr1]
 simp only [Option.bind_some]
 rw [hr2,w64 (by omega) (by omega)]
end Go.Tw.X
set_option linter.unusedVariables false
set_option linter.unusedSimpArgs false
set_option maxHeartbeats 1000000
namespace Go.Tw.X
open Go Go.Tw
theorem Dl {W k N:Nat} {z:List (List aH)×List aH} {m:aV} {x:bD} (h:MX W k N z m x) (hk:k≤50000000) (hN:N≤90) {t:ByteArray} {w h':Int} (hc:ln 1 t.size w h'=0) :
  gV x ⟨1,t,w,h'⟩=some (⟨aP (rzS m.aR w h'),fk ((rzF m.aR h').foldl kH z),x.all,x.iY,m.k+1⟩,0):=by
 have hk0:=h.k0
 have hkN:=h.kN
 have ho:=yG h.si.toSJ h'
 have hW:=h.si.gi.w2
 have hol:=ho.1
 unfold gV
 rw [sb]
 dsimp only
 rw [hc,Option.bind_some,show ((0:Int) != 0)=false from rfl,show ((1:Int) == 1)=true from rfl,cond_false,cond_true,h.xs,AP h.si.toSJ,Option.bind_some]
 dsimp only
 rw [zV (m:=⟨aP (rzS m.aR w h'),x.b,x.all,x.iY,x.k⟩) h.zi (fun r hr=>nO (ho.2 r hr) hW) (by omega) h.xb]
 simp only [Option.bind_some]
 rw [← h.ke,w64 (by omega) (by omega)]
theorem Aa {W k N:Nat} {z:List (List aH)×List aH} {m:aV} {x:bD} (h:MX W k N z m x) (w h':Int) :
  MX (szN w) (k+4000) (N+1) ((rzF m.aR h').foldl kH z) ⟨ed ((rzF m.aR h').foldl kH z),m.parser,rzS m.aR w h',m.k+1⟩ ⟨aP (rzS m.aR w h'),fk ((rzF m.aR h').foldl kH z),x.all,x.iY,m.k+1⟩:=by
 have hk0:=h.k0
 have hkN:=h.kN
 have hal:=h.al
 have ho:=yG h.si.toSJ h'
 have hW:=h.si.gi.w2
 have hol:=ho.1
 have h2:=nK (rzF m.aR h') h.zi fun r hr=>nO (ho.2 r hr) hW
 have h2n:=h2.n
 exact ⟨Gs h.si.toSJ w h',⟨by omega,h2.b,h2.g,h2.ls⟩,rfl,rfl,rfl,h.pa,h.ac,rfl,by dsimp only; omega,by dsimp only; omega,by dsimp only; omega⟩
end Go.Tw.X
set_option linter.unusedVariables false
set_option linter.unusedSimpArgs false
set_option maxHeartbeats 1000000
namespace Go.Tw.X
open Go Go.Tw
def gOk (g:aH):Prop:=ru g.rune∧sy g.aL
def gls (l:List aH):Prop:= ∀ g∈l,gOk g
theorem Fb {a b:List aH} (ha:gls a) (hb:gls b):gls (a++b):=fun c hc=>(List.mem_append.1 hc).elim (ha c) (hb c)
theorem Dm {a:List aH} (ha:gls a) (n:Nat):gls (a.take n):=fun c hc=>ha c (List.mem_of_mem_take hc)
theorem Dr {a:List aH} (ha:gls a) (n:Nat):gls (a.drop n):=fun c hc=>ha c (List.mem_of_mem_drop hc)
theorem Ab:gls []:=fun c h=>by cases h
structure ZG (z:List (List aH)×List aH):Prop where
 b:gls z.2
 l: ∀ x∈z.1,gls x
theorem Du {r:aE} (h:cR r.cells):gls (jn r):=by
 intro g hg
 unfold jn oo at hg
 obtain ⟨c,hc,rfl⟩:=List.mem_map.1 hg
 have hc2:=(List.mem_filter.1 hc).1
 have:c∈r.cells:=by
  split at hc2
  ·exact hc2
  ·exact rZ _ _ c hc2
 exact ⟨(h c this).1,(h c this).2.1⟩
theorem xM: ∀ (n:Nat) (g:List aH),g.length≤n→gls g→gls (ku g).2 ∧ ∀ x∈(ku g).1,gls x
 | 0,g,h,hg=>by
  rw [ot (by omega)]
  exact ⟨hg,fun x hx=>by cases hx⟩
 | n+1,g,h,hg=>by
  by_cases c:1024≤g.length
  ·rw [qU c]
   obtain ⟨a,b⟩:=xM n (g.drop 1024) (by rw [List.length_drop]; omega) (Dr hg _)
   refine ⟨a,fun x hx=> ?_⟩
   rcases List.mem_cons.1 hx with rfl | hx
   ·exact Dm hg _
   ·exact b x hx
  ·rw [ot c]
   exact ⟨hg,fun x hx=>by cases hx⟩
theorem GJ {z:List (List aH)×List aH} (h:ZG z) {r:aE} (hr:cR r.cells):ZG (kH z r):=by
 obtain ⟨a,b⟩:=xM _ (z.2++jn r) (Nat.le_refl _) (Fb h.b (Du hr))
 unfold kH
 dsimp only
 split
 ·exact ⟨a,fun x hx=>(List.mem_append.1 hx).elim (h.l x) (b x)⟩
 ·refine ⟨Ab,fun x hx=> ?_⟩
  rcases List.mem_append.1 hx with hx | hx
  ·exact (List.mem_append.1 hx).elim (h.l x) (b x)
  ·rw [List.mem_singleton.1 hx]; exact a
theorem wm: ∀ (rows:List aE) {z:List (List aH)×List aH},ZG z→gR2 rows→ZG (rows.foldl kH z)
 | [],_,h,_=>h
 | r::rows,z,h,hr=>wm rows (GJ h (hr r List.mem_cons_self)) fun q hq=>hr q (List.mem_cons_of_mem _ hq)
theorem xN {W:Nat}: ∀ (l:List bA) {y:aB×(List (List aH)×List aH)},SC y.1→ZG y.2→pX l→SC (l.foldl (eU W) y).1∧ZG (l.foldl (eU W) y).2
 | [],_,h1,h2,_=>⟨h1,h2⟩
 | a::l,y,h1,h2,h3=>by
  obtain ⟨k1,k2⟩:=HC (W:=W) h1 (h3 a List.mem_cons_self)
  exact xN l (y:=eU W y a) k1 (wm _ h2 k2) fun q hq=>h3 q (List.mem_cons_of_mem _ hq)
structure MG (m:aV) (z:List (List aH)×List aH):Prop where
 sc:SC m.aR
 zg:ZG z
 d2:D2 m.parser.cC
theorem GK (w h:Int):MG (sT w h) ([],[]):=⟨z5 w h,⟨Ab,fun x hx=>by cases hx⟩,D20⟩
theorem FC {W k N:Nat} {z:List (List aH)×List aH} {m:aV} {x:bD} (h:MX W k N z m x):PI m.parser∧m.parser.out=[]:=by
 rw [h.pa]
 have:=(mE (sbs x.all) xI (gX x.all)).1
 exact ⟨⟨this.di,this.gr,this.nu,this.n0,this.n1,this.tx⟩,rfl⟩
theorem Dv {W k N:Nat} {z:List (List aH)×List aH} {m:aV} {x:bD} (h:MX W k N z m x) (g:MG m z) (t:ByteArray) (k':Int) (b':bZ) :
  MG ⟨b',clr (prun m.parser (sbs t)),((prun m.parser (sbs t)).out.foldl (eU W) (m.aR,z)).1,k'⟩ ((prun m.parser (sbs t)).out.foldl (eU W) (m.aR,z)).2:=by
 obtain ⟨hp,ho⟩:=FC h
 obtain ⟨p1,p2⟩:=zY (sbs t) hp g.d2 (by rw [ho]; exact fun x hx=>by cases hx) (gX t)
 obtain ⟨s1,s2⟩:=xN (W:=W) _ (y:=(m.aR,z)) g.sc g.zg p1
 exact ⟨s1,s2,p2⟩
theorem Fc {m:aV} {z:List (List aH)×List aH} (g:MG m z) (w h:Int) (k':Int) (b':bZ):MG ⟨b',m.parser,rzS m.aR w h,k'⟩ ((rzF m.aR h).foldl kH z):=by
 obtain ⟨s1,s2⟩:=HD g.sc w h
 exact ⟨s1,wm _ g.zg s2,g.d2⟩
theorem yP {W k N:Nat} {z:List (List aH)×List aH} {m:aV} {x:bD} (h:MX W k N z m x) (hk:k≤50000000) (hN:N≤1000000) {t:ByteArray} (ht:t.size≤1000) (w h':Int) :
  bR m ⟨0,t,w,h'⟩=some (0,⟨ed ((prun m.parser (sbs t)).out.foldl (eU W) (m.aR,z)).2,clr (prun m.parser (sbs t)),((prun m.parser (sbs t)).out.foldl (eU W) (m.aR,z)).1,m.k+1⟩):=by
 have hp:PI m.parser:=(FC h).1
 have hcl:clr m.parser=m.parser:=by rw [h.pa]; rfl
 have e1:=zW (m:=m) h.si h.zi hp ht hk
 rw [hcl] at e1
 have hk0:=h.k0
 have hkN:=h.kN
 unfold bR
 rw [nQ]
 have hck:ln 0 t.size w h'=0:=by unfold ln; rw [if_pos rfl,if_neg (by omega)]
 dsimp only
 rw [hck,Option.bind_some,show ((0:Int) != 0)=false from rfl,show ((0:Int) == 1)=false from rfl,cond_false,cond_false,show iz m t=some t from rfl,Option.bind_some,h.bk,e1]
 simp only [Option.bind_some]
 rw [w64 (by omega) (by omega)]
def sOf (m:aV) (z:List (List aH)×List aH):iy:=⟨m.k+1,m.aR.g.w,(m.aR.g.l.length:Int),m.aR.spot.x,m.aR.spot.y,m.aR.title,m.aR.g.l,(z.1.length:Int),kg z.1,z.2⟩
theorem Ad {l:List aH} (h:gls l): ∀ g∈l,rok g.rune:=fun g hg=>by
 obtain ⟨⟨a,b⟩,_⟩:=h g hg
 exact ⟨by omega,by omega⟩
section
variable {W k N : Nat} {z : List (List aH) × List aH} {m : aV} {x : bD}
theorem Fe (l:List (List aH)) (g:List aH) (h:l.length≤1000000000):ij (ed (l,g)) (l.length:Int)=some (kg l):=by
 unfold ij ed
 dsimp only
 rw [dY,fg,show max 0 (min (l.length:Int) (l.length:Int))=((l.length:Nat):Int) by omega,zE _ _ (Nat.le_refl _),List.take_length]
 rfl
theorem xO (h:MX W k N z m x) (hk:k≤100000000) (hN:N≤1000000):fN m=some (sOf m z,m):=by
 have hk0:=h.k0
 have hkN:=h.kN
 have hzn:=h.zi.n
 have hzb:=h.zi.b
 unfold fN pF
 rw [w64 (by omega) (by omega)]
 rw [show (aB.mk m.aR.g m.aR.spot m.aR.saved m.aR.waiting m.aR.top m.aR.aG m.aR.aY m.aR.title)=m.aR from rfl,xw h.si.toSJ,aA]
 dsimp only
 have hr:=qK m.aR.g.w m.aR.g.l (by have:=h.si.gi.l2; omega) h.si.gi.len
 rw [show (aX.mk m.aR.g.w m.aR.g.l)=m.aR.g from rfl] at hr
 rw [show eM (aB.mk m.aR.g m.aR.spot m.aR.saved m.aR.waiting m.aR.top m.aR.aG m.aR.aY m.aR.title)=some m.aR.title from rfl,aA,hr,aA]
 rw [h.bk,show ∀ b,fz b=some (b.l.length:Int) from fun b=>rfl,aA,aA]
 dsimp only
 have hc:=Fe z.1 z.2 (by omega)
 rw [show (ed z).l=z.1 from rfl,show ed (z.1,z.2)=ed z from rfl] at *
 rw [hc,aA]
 have hb:ik (ed z)=some z.2:=by
  unfold ik
  rw [pM _ (by show z.2.length≤_; omega)]
  rfl
 rw [hb,aA,show ∀ g,cY g=some (g.w,(g.l.length:Int)) from fun g=>rfl,aA,show ∀ s,eG s=some (s.spot.x,s.spot.y) from fun s=>rfl,aA,aA,← h.bk]
 rfl
theorem Dw (h:MX W k N z m x) (hk:k≤100000000) (hN:N≤1000000):lf x=some (zy (sOf m z)):=by
 have hk0:=h.k0
 have hkN:=h.kN
 have hke:=h.ke
 have hzn:=h.zi.n
 unfold lf oh
 rw [w64 (by omega) (by omega),h.xb,h.xs]
 have hc:=AG (l:=z.1) h.zi.ls (by omega) z.2
 rw [show (fk (z.1,z.2))=fk z from rfl] at hc
 rw [show ((fk z).l.length:Int)=(z.1.length:Int) by simp [fk],hc,aA,aA,← hke]
 simp [sOf,zy,aP,nF,fk]
theorem Dx (h:MX W k N z m x) (g:MG m z):SW (sOf m z):=by
 have h1:=h.si.gi.w2
 have h2:=h.si.gi.l2
 have h3:=h.si.gw
 have h4:=h.zi.b
 have h5:=g.sc.t
 refine ⟨?_,?_,Ad g.zg.b,fun r hr=> ?_,h2,by show z.2.length≤2000; omega,by show m.aR.title.size≤1000; omega⟩
 ·show -9223372036854775808≤m.aR.g.w∧m.aR.g.w≤9223372036854775807
  omega
 ·show -9223372036854775808≤(m.aR.g.l.length:Int)∧(m.aR.g.l.length:Int)≤9223372036854775807
  omega
 ·have hg:=h.si.gi.rs r hr
  exact ⟨hg.2,by have:=hg.1; omega⟩
end
end Go.Tw.X
set_option linter.unusedVariables false
set_option linter.unusedSimpArgs false
set_option maxHeartbeats 1000000
namespace Go.Tw.X
open Go Go.Tw
section
variable {W k N : Nat} {z : List (List aH) × List aH} {m : aV} {x : bD}
theorem vt {z:List (List aH)×List aH} (hl: ∀ x∈z.1,rT x) (i:Nat) (hi:i < z.1.length):gM (ed z) i=some (z.1[i],true):=by
 unfold gM
 rw [show (ed z).l=z.1 from rfl,decide_eq_false (by omega),cond_false,aA,decide_eq_false (by omega),cond_false,cO z.1 i hi,aA,pM _ (by have:=(hl _ (List.getElem_mem hi)).1; omega)]
 rfl
theorem uw (h:MX W k N z m x):ff m=some (m.aR,m):=by
 unfold ff
 rw [xx h.si.toSJ]
 rfl
theorem GL (h:MX W k N z m x) (g:MG m z) (hk:k≤100000000) (hN:N≤1000000):kF m x=some (true,m):=by
 have hb:x.b.l=z.1.map (fun g=>g.map tg):=by rw [h.xb]; rfl
 have hzn:=h.zi.n
 have ht:lK (sOf m z) (zy (sOf m z))=some true:=by
  rw [Ep _ _ (Dx h g) (Dx h g)]
  simp
 unfold kF
 rw [uw h,aA]
 dsimp only
 rw [show jk m=some m.k from rfl,aA,show (m.k != x.k)=false by rw [h.ke]; simp,cond_false,show fz m.book=some (m.book.l.length:Int) from rfl,aA,
  show ((m.book.l.length:Int) != (x.b.l.length:Int))=false by rw [hb,h.bk]; simp [ed],cond_false,h.xs,CG h.si.toSJ,aA]
 dsimp only
 rw [Bool.not_true,cond_false,xO h hk hN,aA,Dw h hk hN,aA]
 dsimp only
 rw [ht,aA]
 rw [aA]
 dsimp only
 rw [Bool.not_true,cond_false]
 refine eH (fun i=>(i:Int)) z.1.length (.inl ()) rfl ?_ ?_ rfl
 ·intro i hi
  try dsimp only
  rw [hb,List.length_map,decide_eq_true (by omega),cond_true,cO _ i (by rw [List.length_map]; exact hi),aA,h.bk,vt h.zi.ls i hi,aA]
  dsimp only
  rw [List.getElem_map,Bool.not_true,cond_false,ua _ _ (by have:=(h.zi.ls _ (List.getElem_mem hi)).1; omega) (Ad (g.zg.l _ (List.getElem_mem hi))),aA,decide_eq_true rfl,aA,Bool.not_true,cond_false,w64 (by omega) (by omega)]
  rfl
 ·try dsimp only
  rw [hb,List.length_map,decide_eq_false (by omega),cond_false]
theorem MX.mono (h:MX W k N z m x) {k' N':Nat} (h1:k≤k') (h2:N≤N'):MX W k' N' z m x :=
 ⟨h.si,⟨by have:=h.zi.n; omega,h.zi.b,h.zi.g,h.zi.ls⟩,h.bk,h.xs,h.xb,h.pa,h.ac,h.ke,h.k0,by have:=h.kN; omega,by have:=h.al; omega⟩
end
theorem Dz (z:List (List aH)×List aH) (r:aE):z.1 <+: (kH z r).1:=by
 unfold kH
 dsimp only
 split
 ·exact List.prefix_append _ _
 ·rw [List.append_assoc]; exact List.prefix_append _ _
theorem sd: ∀ (rows:List aE) (z:List (List aH)×List aH),z.1 <+: (rows.foldl kH z).1
 | [],z=>List.prefix_refl _
 | r::rows,z=>(Dz z r).trans (sd rows (kH z r))
theorem vu (W:Nat): ∀ (l:List bA) (y:aB×(List (List aH)×List aH)),y.2.1 <+: (l.foldl (eU W) y).2.1
 | [],y=>List.prefix_refl _
 | a::l,y=>(sd _ y.2).trans (vu W l (eU W y a))
theorem DA {w:Int} (h0:1≤w) (h1:w≤1000):(szN w:Int)=w:=by unfold szN; omega
theorem HE {W k N:Nat} {z:List (List aH)×List aH} {m:aV} {x:bD} (h:MX W k N z m x) (g:MG m z) (hk:k≤50000000) (hN:N≤90) (e:cV) (ht:e.text.size≤1000) :
  ∃ W' z' m' x',bR m ⟨e.kind,e.text,e.w,e.h⟩=some (ln e.kind e.text.size e.w e.h,m')∧gV x e=some (x',ln e.kind e.text.size e.w e.h) ∧
   MX W' (k+8000*e.text.size+4000) (N+1) z' m' x'∧MG m' z'∧m'.k=(if ln e.kind e.text.size e.w e.h=0 then m.k+1 else m.k)∧z.1 <+: z'.1 ∧
   (ln e.kind e.text.size e.w e.h=0→e.kind=1→m'.aR.g.w=e.w∧(m'.aR.g.l.length:Int)=e.h):=by
 by_cases hc:ln e.kind e.text.size e.w e.h=0
 ·rw [if_pos hc,hc]
  by_cases hk0:e.kind=0
  ·obtain ⟨ek,et,ew,eh⟩:=e
   dsimp only at hk0 ht hc ⊢
   subst hk0
   exact ⟨W,_,_,_,Bf h hk hN ht ew eh,Bg h hk hN ht ew eh,(xK h ht).mono (by omega) (Nat.le_refl _),Dv h g et _ _,rfl,vu W _ (m.aR,z),fun _ e=>absurd e (by decide)⟩
  ·by_cases hk1:e.kind=1
   ·obtain ⟨ek,et,ew,eh⟩:=e
    dsimp only at hk1 ht hc ⊢
    subst hk1
    have hb:1≤ew∧ew≤1000∧1≤eh∧eh≤1000:=by
     unfold ln at hc
     rw [if_neg (by decide),if_pos rfl] at hc
     split at hc
     ·exact absurd hc (by decide)
     ·omega
    refine ⟨szN ew,_,_,_,xL h hk hN hc,Dl h hk hN hc,(Aa h ew eh).mono (by omega) (Nat.le_refl _),Fc g ew eh _ _,rfl,sd _ z,fun _ _=>⟨DA hb.1 hb.2.1,?_⟩⟩
    show ((rzL (szN ew) m.aR.g.l _ (szN eh)).length:Int)=eh
    rw [jQ]
    exact DA hb.2.2.1 hb.2.2.2
   ·exfalso
    unfold ln at hc
    rw [if_neg hk0,if_neg hk1] at hc
    exact absurd hc (by decide)
 ·rw [if_neg hc]
  exact ⟨W,z,m,x,z8 m ⟨e.kind,e.text,e.w,e.h⟩ hc,E9 x e hc,h.mono (by omega) (by omega),g,rfl,List.prefix_refl _,fun e=>absurd e hc⟩
noncomputable def runM:aV→List cK→Option aV
 | m,[]=>some m
 | m,e::l=>Option.bind (bR m e) fun r=>runM r.2 l
theorem vw (e:cK): ∀ (l:List cK) (m:aV),runM m (l++[e])=Option.bind (runM m l) fun q=>Option.bind (bR q e) fun r=>some r.2
 | [],m=>by
  show Option.bind (bR m e) (fun r=>runM r.2 [])=_
  rfl
 | a::l,m=>by
  show Option.bind (bR m a) (fun r=>runM r.2 (l++[e]))=Option.bind (Option.bind (bR m a) fun r=>runM r.2 l) _
  cases bR m a with
  | none=>rfl
  | some r=>exact vw e l r.2
theorem Ae {w h:Int} {l:List cK} (hl:l.length≤1000000) {M:aV} (hM:runM (sT w h) l=some M):kM w h l=some M:=by
 unfold kM
 rw [z9,aA]
 refine nD (fun s:aV×Int=>0≤s.2∧s.2≤l.length∧runM s.1 (l.drop s.2.toNat)=some M) (fun s=>l.length - s.2.toNat) (fun r=>r=M) ⟨Int.le_refl 0,by dsimp only; omega,hM⟩ ?_ ?_
 ·rintro ⟨q,i⟩ ⟨h0,h1,h2⟩
  dsimp only at h0 h1 h2 ⊢
  obtain ⟨n,rfl⟩:=Int.eq_ofNat_of_zero_le h0
  rw [Int.toNat_natCast] at h2
  by_cases c:n < l.length
  ·left
   rw [decide_eq_true (by omega),cond_true,cO l n c,aA,w64 (by omega) (by omega)]
   rw [List.drop_eq_getElem_cons c] at h2
   change Option.bind (bR q l[n]) (fun r=>runM r.2 (l.drop (n+1)))=some M at h2
   cases hd:bR q l[n] with
   | none=>rw [hd] at h2; cases h2
   | some r =>
    rw [hd] at h2
    refine ⟨_,rfl,⟨by dsimp only; omega,by dsimp only; omega,?_⟩,by dsimp only; omega⟩
    dsimp only
    rw [show ((n:Int)+1).toNat=n+1 by omega]
    exact h2
  ·right
   rw [decide_eq_false (by omega),cond_false]
   refine ⟨_,rfl,?_⟩
   rw [List.drop_eq_nil_of_le (by omega)] at h2
   exact (Option.some.inj h2)
 ·rintro r rfl
  rfl
end Go.Tw.X
set_option linter.unusedVariables false
set_option linter.unusedSimpArgs false
set_option maxHeartbeats 1000000
set_option maxRecDepth 10000
namespace Go.Tw.X
open Go Go.Tw
def sI:ByteArray:=ByteArray.mk #[97,13,10,98]
def DB:aB:=acS 3 (rW 3 1) (prA 97)
def DD:aB:=acS 3 DB (ctA 13)
def DE:aB:=acS 3 DD (ctA 10)
def ux:aB:=acS 3 DE (prA 98)
theorem DG:(prun p0 (sbs sI)).out=[prA 97,ctA 13,ctA 10,prA 98]:=by decide
theorem DH:kH ([],[]) ⟨[⟨97,0,0⟩,blk 0,blk 0],false⟩=([[⟨97,0⟩]],[]):=by
 unfold kH
 have e:([]:List aH)++jn ⟨[⟨97,0,0⟩,blk 0,blk 0],false⟩=[⟨97,0⟩]:=by decide
 dsimp only
 rw [e,ot (by decide)]
 rfl
theorem GM:(prun p0 (sbs sI)).out.foldl (eU 3) (rW 3 1,([],[]))=(ux,([[⟨97,0⟩]],[])):=by
 rw [DG]
 have f1:acF 3 (rW 3 1) (prA 97)=[]:=by decide
 have f2:acF 3 DB (ctA 13)=[]:=by decide
 have f3:acF 3 DD (ctA 10)=[⟨[⟨97,0,0⟩,blk 0,blk 0],false⟩]:=by decide
 have f4:acF 3 DE (prA 98)=[]:=by decide
 simp only [List.foldl,eU]
 rw [f1,← DB,f2,← DD,f3,← DE,f4,← ux]
 simp only [List.foldl]
 rw [DH]
theorem yQ:kq=some true:=by
 have h0:=Dj 3 1
 have hW:szN 3=3:=by decide
 rw [hW] at h0
 have e0:=yP h0 (by decide) (by decide) (t:=sI) (by decide) 0 0
 have h1:=xK h0 (t:=sI) (by decide)
 rw [show (sT 3 1).parser=p0 from rfl,show (sT 3 1).aR=rW 3 1 from rfl,GM] at e0 h1
 have hc1:ln 1 (ByteArray.mk #[]).size 0 0=6:=by decide
 have hc2:ln 1 (ByteArray.mk #[]).size 4 2=0:=by decide
 have e1:=z8 ⟨ed ([[⟨97,0⟩]],[]),clr (prun p0 (sbs sI)),ux,(sT 3 1).k+1⟩ ⟨1,ByteArray.mk #[],0,0⟩ (by dsimp only; rw [hc1]; decide)
 have e2:=xL h1 (by decide) (by decide) hc2
 have h2:=Aa h1 4 2
 have g1:rzF ux 2=[]:=by decide
 dsimp only at e1 e2 h1 h2
 rw [g1] at e2 h2
 simp only [List.foldl] at e2 h2
 have hr:runM (sT 3 1) [⟨0,sI,0,0⟩,⟨1,ByteArray.mk #[],0,0⟩,⟨1,ByteArray.mk #[],4,2⟩]=some ⟨ed ([[⟨97,0⟩]],[]),clr (prun p0 (sbs sI)),rzS ux 4 2,(sT 3 1).k+1+1⟩:=by
  simp only [runM]
  rw [e0,Option.bind_some,e1,Option.bind_some]
  dsimp only
  rw [e2]
  rfl
 have hx:=Ae (by decide) hr
 have hs:=xO h2 (by decide) (by decide)
 have hl:=vt h2.zi.ls 0 (by decide)
 unfold kq
 rw [show (ByteArray.mk #[97,13,10,98])=sI from rfl,hx,aA,uw h2,aA]
 dsimp only at hs hl ⊢
 rw [show ((0:Nat):Int)=0 from rfl] at hl
 rw [hl,aA,hs,aA]
 dsimp only [sOf]
 rw [show (rzS ux 4 2).g.w=4 by decide,show (rzS ux 4 2).g.l.length=2 by decide]
 rfl
end Go.Tw.X
set_option linter.unusedVariables false
set_option linter.unusedSimpArgs false
set_option maxHeartbeats 1000000
namespace Go.Tw.X
open Go Go.Tw
theorem xP {P:Bool→Prop} (b c:Bool) (h: ∀ d,P d):okO ((bif b then some c else some false):Option Bool) P:=by
 cases b
 ·exact ⟨_,rfl,h _⟩
 ·exact ⟨_,rfl,h _⟩
theorem HF (e:cV):okO (l6 e) (fun r=>r.text.size≤60):=by
 unfold l6
 refine bO (EZ e.text (n:=60) (by decide)) fun r hr=> ?_
 refine bO (P:=fun _=>True) (xP _ _ fun _=>trivial) fun b _=> ?_
 refine bO (P:=fun r=>r.text.size≤60) (ml (fun _=>aW (by dsimp only; omega)) fun _=>aW (by dsimp only; omega)) fun q hq=> ?_
 refine bO (P:=fun _=>True) (xP _ _ fun _=>trivial) fun b _=> ?_
 refine bO (P:=fun r=>r.text.size≤60) (ml (fun _=>aW hq) fun _=>aW hq) fun q hq=>aW hq
theorem Ff {n:Nat} {a b:Int} (h:(n:Int) < a∧(n:Int) < b):((bif (decide ((n:Int) < a)) then some (decide ((n:Int) < b)) else some false):Option Bool)=some true:=by
 rw [decide_eq_true h.1,decide_eq_true h.2]; rfl
theorem Fg {n:Nat} {a b:Int} (h: ¬ ((n:Int) < a∧(n:Int) < b)):((bif (decide ((n:Int) < a)) then some (decide ((n:Int) < b)) else some false):Option Bool)=some false:=by
 by_cases c:(n:Int) < a
 ·rw [decide_eq_true c,decide_eq_false (by omega: ¬ (n:Int) < b)]; rfl
 ·rw [decide_eq_false c]; rfl
def MZ (n:Nat) (m:aV) (x:bD):Prop:= ∃ W z,MX W (484000*n) n z m x∧MG m z
theorem GN (w h:Int):MZ 0 (sT w h) (GH w h):=⟨_,_,Dj w h,GK w h⟩
theorem FD {n:Nat} {m:aV} {x:bD} (h:MZ n m x) (hn:n≤90):kF m x=some (true,m):=by
 obtain ⟨W,z,h1,h2⟩:=h
 exact GL h1 h2 (by omega) (by omega)
theorem HG {n:Nat} {m:aV} {x:bD} (h:MZ n m x) (hn:n≤90) (e:cV) (he:e.text.size≤60) :
  ∃ m' x',bR m ⟨e.kind,e.text,e.w,e.h⟩=some (ln e.kind e.text.size e.w e.h,m')∧gV x e=some (x',ln e.kind e.text.size e.w e.h)∧MZ (n+1) m' x':=by
 obtain ⟨W,z,h1,h2⟩:=h
 obtain ⟨W',z',m',x',e1,e2,h3,h4,_⟩:=HE h1 h2 (by omega) hn e (by omega)
 exact ⟨m',x',e1,e2,W',z',h3.mono (by omega) (Nat.le_refl _),h4⟩
theorem HH {a:Int}:(a != a)=false:=by simp
theorem sU {w h_:Int} {l:List cV} (a0:inK .i64 w) (a1:inK .i64 h_) (a2: ∀ x∈l,mA x):jc w h_ l=some true:=by
 unfold jc
 rw [yQ,aA,Bool.not_true,cond_false,z9,aA,Fa,aA]
 generalize imax (-1) (dF w 10)=w'
 generalize imax (-1) (dF h_ 6)=h'
 refine nD (fun s:bD×aV×Int×List cK=> ∃ n:Nat,s.2.2.1=n∧n≤15∧s.2.2.2.length=n∧MZ n s.2.1 s.1∧runM (sT w' h') s.2.2.2=some s.2.1) (fun s=>15 - s.2.2.1.toNat)
  (fun r=> ∃ all x m n,r = .inl (all,x,m)∧n≤15∧all.length=n∧MZ n m x∧runM (sT w' h') all=some m) ⟨0,rfl,by decide,rfl,GN w' h',rfl⟩ ?_ ?_
 ·rintro ⟨x,m,i,all⟩ ⟨n,h1,h2,h3,h4,h5⟩
  dsimp only at h1 h2 h3 h4 h5 ⊢
  subst h1
  by_cases c:(n:Int) < (l.length:Int)∧(n:Int) < 15
  ·left
   rw [Ff c,aA,cond_true,cO l n (by omega),aA]
   obtain ⟨r,er,hr⟩:=HF l[n]
   obtain ⟨m',x',e1,e2,h6⟩:=HG h4 (by omega) r hr
   rw [er,aA,e2,aA,bK (by simp; omega),aA,e1,aA]
   dsimp only
   rw [HH,cond_false,nQ,aA]
   dsimp only
   rw [HH,cond_false,FD h6 (by omega),aA,aA]
   dsimp only
   rw [Bool.not_true,cond_false,w64 (by omega) (by omega)]
   refine ⟨_,rfl,⟨n+1,by dsimp only; omega,by omega,by simp; omega,h6,?_⟩,by dsimp only; omega⟩
   dsimp only
   rw [vw,h5,Option.bind_some,e1]
   rfl
  ·right
   rw [Fg c,aA,cond_false]
   exact ⟨_,rfl,all,x,m,n,rfl,h2,h3,h4,h5⟩
 ·rintro r ⟨all,x,m,n,rfl,h2,h3,h4,h5⟩
  dsimp only
  rw [Ae (by omega) h5,aA,FD h4 (by omega),aA]
end Go.Tw.X

import Derived.Test.YtmekokacemcfoaaGreatDoorXq1
import Derived.Test.YtmekokacemcfoaaGreatDoorXp1
import Derived.Test.YtmekokacemcfoaaGreatDoorFw2
set_option linter.unusedVariables false
set_option linter.unusedSimpArgs false
namespace Go.Tw.X
open Go Go.Tw
section
variable {W : Nat} {s : aA}
theorem D4 (s:aA):aA.mk s.g s.spot s.saved false s.top s.aH s.aW s.title=nwS s:=rfl
theorem ik (t:aA) (b:Int):(Option.bind ((bif (b == 69) then some true else some (b == 70)):Option Bool) fun c=>(Option.bind ((bif c then some (aA.mk t.g (cZ.mk 0 t.spot.y t.spot.aK) t.saved t.waiting t.top t.aH t.aW t.title) else some (aA.mk t.g t.spot t.saved t.waiting t.top t.aH t.aW t.title)):Option aA) fun a=>some (([]:List aE),(aA.mk t.g a.spot a.saved a.waiting a.top a.aH a.aW a.title))))=some ([],if b=69∨b=70 then xS t 0 else t):=by
 rw [o4,aB]
 by_cases h:b=69∨b=70
 ·rw [decide_eq_true h,if_pos h]; rfl
 ·rw [decide_eq_false h,if_neg h]; rfl
theorem Cl (h:SJ W s) (a:aX) (hl:a.aY.length≤1000000):eQ s a=some (orF s a.byte a.aY,orS W s a.byte a.aY):=by
 have hy:=yr h
 have hN:=qn a.aY 0 (d:=1) (by omega) (by omega)
 have hM:=qn a.aY 1 (d:=1) (by omega) (by omega)
 have hZ:=qn a.aY 0 (d:=0) (by omega) (by omega)
 unfold eQ
 rw [show du a 0 1=_ from tB a 0 1,aB]
 simp only [show du a 1 1=_ from tB a 1 1,show du a 0 0=_ from tB a 0 0,uj,wo h,D4,B8 _ _ hl]
 simp only [xz,aB]
 have hcl:=fun n h0 h1=>Ak (n:=n) h h0 h1
 have w1:IntKind.i64.wrap (0 - atS a.aY 0 1)=0 - atS a.aY 0 1:=w64 (by omega) (by omega)
 have w2:IntKind.i64.wrap (s.spot.x+atS a.aY 0 1)=s.spot.x+atS a.aY 0 1:=w64 (by omega) (by omega)
 have w3:IntKind.i64.wrap (s.spot.x - atS a.aY 0 1)=s.spot.x - atS a.aY 0 1:=w64 (by omega) (by omega)
 have w4:IntKind.i64.wrap (atS a.aY 0 1 - 1)=atS a.aY 0 1 - 1:=w64 (by omega) (by omega)
 have w5:IntKind.i64.wrap (atS a.aY 1 1 - 1)=atS a.aY 1 1 - 1:=w64 (by omega) (by omega)
 have c1:=hcl (0 - atS a.aY 0 1) (by omega) (by omega)
 have c2:=hcl (atS a.aY 0 1) (by omega) (by omega)
 have dn:dk s.g s.top s.aH (atS a.aY 0 1) (iR s.spot.aK)=some (oN s.g.l s.top s.aH (atS a.aY 0 1),(dnS W (nwS s) s.top s.aH (atS a.aY 0 1)).g):=sw (jg h) _ _ _
 have nn:bP (nwS s)=some (iR s.spot.aK):=jW _
 generalize hb:a.byte=b
 have key: ∀ (t:aA),(if b=69∨b=70 then xS t 0 else t)=orS W s b a.aY→orF s b a.aY=[]→(some ([],if b=69∨b=70 then xS t 0 else t):Option (List aE×aA))=some (orF s b a.aY,orS W s b a.aY):=fun t e1 e2=>by rw [e1,e2]
 by_cases h1:b=65∨b=70
 ·rw [decide_eq_true h1]
  simp only [cond_true,w1,c1,aB]
  rw [ik]
  refine key _ ?_ ?_
  ·rcases h1 with rfl | rfl <;> rfl
  ·rcases h1 with rfl | rfl <;> rfl
 ·rw [decide_eq_false h1,cond_false]
  by_cases h2:b=66∨b=69
  ·rw [decide_eq_true h2]
   simp only [cond_true,c2,aB]
   rw [ik]
   refine key _ ?_ ?_
   ·rcases h2 with rfl | rfl <;> rfl
   ·rcases h2 with rfl | rfl <;> rfl
  ·rw [decide_eq_false h2,cond_false]
   have hne: ¬ (b=69∨b=70):=by omega
   have key2: ∀ (t:aA),t=orS W s b a.aY→orF s b a.aY=[]→(some ([],if b=69∨b=70 then xS t 0 else t):Option (List aE×aA))=some (orF s b a.aY,orS W s b a.aY):=fun t e1 e2=>by rw [if_neg hne,e1,e2]
   by_cases h3:b=67
   ·subst h3; simp only [beq_self_eq_true,cond_true,w2,ij h,aB]; rw [ik]; exact key2 _ rfl rfl
   rw [cX h3,cond_false]
   by_cases h4:b=68
   ·subst h4; simp only [beq_self_eq_true,cond_true,w3,ij h,aB]; rw [ik]; exact key2 _ rfl rfl
   rw [cX h4,cond_false]
   by_cases h5:b=71
   ·subst h5; simp only [beq_self_eq_true,cond_true,w4,ij h,aB]; rw [ik]; exact key2 _ rfl rfl
   rw [cX h5,cond_false]
   by_cases h6:b=100
   ·subst h6; simp only [beq_self_eq_true,cond_true,w4,ij h,aB]; rw [ik]; exact key2 _ rfl rfl
   rw [cX h6,cond_false]
   by_cases h7:b=72∨b=102
   ·rw [decide_eq_true h7]; simp only [cond_true,w4,w5,ij h,aB]; rw [ik]
    refine key2 _ ?_ ?_
    ·rcases h7 with rfl | rfl <;> rfl
    ·rcases h7 with rfl | rfl <;> rfl
   rw [decide_eq_false h7,cond_false]
   by_cases h8:b=74
   ·subst h8; simp only [beq_self_eq_true,cond_true,Ce h hZ.1,aB]; rw [ik]; exact key2 _ rfl rfl
   rw [cX h8,cond_false]
   by_cases h9:b=75
   ·subst h9; simp only [beq_self_eq_true,cond_true,xx h hZ.1,aB]; rw [ik]; exact key2 _ rfl rfl
   rw [cX h9,cond_false]
   by_cases h10:b=64∨b=80∨b=88
   ·rw [decide_eq_true h10]; simp only [cond_true,yE h _ hN.1 hN.2.1,aB]; rw [ik]
    refine key2 _ ?_ ?_
    ·rcases h10 with rfl | rfl | rfl <;> rfl
    ·rcases h10 with rfl | rfl | rfl <;> rfl
   rw [decide_eq_false h10,cond_false]
   by_cases h11:b=76∨b=77
   ·rw [decide_eq_true h11]; simp only [cond_true,Am h,aB]; rw [ik]
    refine key2 _ ?_ ?_
    ·rcases h11 with rfl | rfl <;> rfl
    ·rcases h11 with rfl | rfl <;> rfl
   rw [decide_eq_false h11,cond_false]
   by_cases h12:b=83
   ·subst h12; simp only [beq_self_eq_true,cond_true,Aa (jg h),aB]; rfl
   rw [cX h12,cond_false]
   by_cases h13:b=84
   ·subst h13; simp only [beq_self_eq_true,cond_true,nn,dn,aB]
    have e:=ik (dnS W (nwS s) s.top s.aH (atS a.aY 0 1)) 84
    exact e.trans (key2 _ rfl rfl)
   rw [cX h13,cond_false]
   by_cases h14:b=109
   ·subst h14; simp only [beq_self_eq_true,cond_true]
    have e:=ik ⟨s.g,⟨s.spot.x,s.spot.y,yB s.spot.aK a.aY⟩,s.saved,s.waiting,s.top,s.aH,s.aW,s.title⟩ 109
    exact e.trans (key2 _ rfl rfl)
   rw [cX h14,cond_false]
   by_cases h15:b=114
   ·subst h15; simp only [beq_self_eq_true,cond_true,aB]; rw [ik]; exact key2 _ rfl rfl
   rw [cX h15,cond_false,aB]
   dsimp only
   rw [ik]
   refine key2 _ ?_ ?_
   ·unfold orS
    rw [if_neg (by omega),if_neg (by omega),if_neg (by omega),if_neg (by omega),if_neg h3,if_neg h4,if_neg h5,if_neg h6,if_neg h7,if_neg h8,if_neg h9,if_neg h10,if_neg h11,if_neg h12,if_neg h13,if_neg h14,if_neg h15]
   ·unfold orF
    rw [if_neg h12]
end
end Go.Tw.X
set_option linter.unusedVariables false
set_option linter.unusedSimpArgs false
namespace Go.Tw.X
open Go Go.Tw
section
variable {W : Nat} {s : aA}
theorem Cm (s:aA):aM.mk (aL s).g (aL s).x (aL s).y (aL s).s (aL s).sX (aL s).sY (aL s).sS false (aL s).top (aL s).aH (aL s).aW (aL s).title=aL (nwS s):=rfl
theorem xA {s:aA} {x y x' y':Int} (hx:max 0 (min x (s.g.w - 1))=max 0 (min x' (s.g.w - 1))) (hy:max 0 (min y ((s.g.l.length:Int) - 1))=max 0 (min y' ((s.g.l.length:Int) - 1))):mvS s x y=mvS s x' y':=by
 unfold mvS
 rw [hx,hy]
theorem yF (h:SJ W s) (b:Int) (l:List Int) (hl:l.length≤1000000):kS (aL s) b l=some (aL (orS W s b l),(orF s b l).map told):=by
 have hy:=yr h
 have hlen:=h.gi.l2
 have hlen1:=h.gi.l1
 have hN:=qn l 0 (d:=1) (by omega) (by omega)
 have hM:=qn l 1 (d:=1) (by omega) (by omega)
 have hZ:=qn l 0 (d:=0) (by omega) (by omega)
 unfold kS
 rw [show dJ l 0 1=_ from mw l 0 1,aB,pI,aB]
 simp only [show dJ l 0 1=_ from mw l 0 1,show dJ l 1 1=_ from mw l 1 1,show dJ l 0 0=_ from mw l 0 0,xz,Cm,wj h]
 simp only [show dJ l 1 (s.g.l.length:Int)=_ from mw l 1 _,show (aL s).x=s.spot.x from rfl,show (aL s).y=s.spot.y from rfl,show (aL s).top=s.top from rfl,show (aL s).aH=s.aH from rfl,show (aL s).s=tst s.spot.aK from rfl,z6 _ _ hl,aB]
 have w1:IntKind.i64.wrap (s.spot.y - atS l 0 1)=s.spot.y - atS l 0 1:=w64 (by omega) (by omega)
 have w1':IntKind.i64.wrap (s.spot.y+atS l 0 1)=s.spot.y+atS l 0 1:=w64 (by omega) (by omega)
 have w2:IntKind.i64.wrap (s.spot.x+atS l 0 1)=s.spot.x+atS l 0 1:=w64 (by omega) (by omega)
 have w3:IntKind.i64.wrap (s.spot.x - atS l 0 1)=s.spot.x - atS l 0 1:=w64 (by omega) (by omega)
 have w4:IntKind.i64.wrap (atS l 0 1 - 1)=atS l 0 1 - 1:=w64 (by omega) (by omega)
 have w5:IntKind.i64.wrap (atS l 1 1 - 1)=atS l 1 1 - 1:=w64 (by omega) (by omega)
 have w6:IntKind.i64.wrap ((s.g.l.length:Int) - 1)=(s.g.l.length:Int) - 1:=w64 (by omega) (by omega)
 have dn:dh (aL s).g false s.top s.aH (atS l 0 1) (iR s.spot.aK)=some ((aL (dnS W (nwS s) s.top s.aH (atS l 0 1))).g,(oN s.g.l s.top s.aH (atS l 0 1)).map told):=sx (jg h) _ _ _
 by_cases h1:b=65∨b=70
 ·rw [decide_eq_true h1]
  simp only [cond_true,rn,w1,aB,ey,fO h]
  have e:mvS s s.spot.x (max (if s.spot.y≥s.top then s.top else 0) (s.spot.y - atS l 0 1))=clS s (0 - atS l 0 1):=by
   unfold clS
   apply xA rfl
   split <;> split <;> split <;> omega
  rw [e]
  rcases h1 with rfl | rfl <;> rfl
 rw [decide_eq_false h1,cond_false]
 by_cases h2:b=66∨b=69
 ·rw [decide_eq_true h2]
  simp only [cond_true,rn,w1',w6,aB,dv,fO h]
  have e:mvS s s.spot.x (min (if s.spot.y≤s.aH then s.aH else (s.g.l.length:Int) - 1) (s.spot.y+atS l 0 1))=clS s (atS l 0 1):=by
   unfold clS
   have hb:=h.b1
   have ht:=h.t0
   have htb:=h.tb
   apply xA rfl
   split <;> split <;> split <;> omega
  rw [e]
  rcases h2 with rfl | rfl <;> rfl
 rw [decide_eq_false h2,cond_false]
 by_cases h3:b=67
 ·subst h3; simp only [beq_self_eq_true,cond_true,w2,fO h,aB]; rfl
 rw [cX h3,cond_false]
 by_cases h4:b=68
 ·subst h4; simp only [beq_self_eq_true,cond_true,w3,fO h,aB]; rfl
 rw [cX h4,cond_false]
 by_cases h5:b=71
 ·subst h5; simp only [beq_self_eq_true,cond_true,w4,fO h,aB]; rfl
 rw [cX h5,cond_false]
 by_cases h6:b=100
 ·subst h6; simp only [beq_self_eq_true,cond_true,w4,fO h,aB]; rfl
 rw [cX h6,cond_false]
 by_cases h7:b=72∨b=102
 ·rw [decide_eq_true h7]; simp only [cond_true,w4,w5,fO h,aB]
  rcases h7 with rfl | rfl <;> rfl
 rw [decide_eq_false h7,cond_false]
 by_cases h8:b=74
 ·subst h8; simp only [beq_self_eq_true,cond_true,vb h hZ.1,aB]; rfl
 rw [cX h8,cond_false]
 by_cases h9:b=75
 ·subst h9; simp only [beq_self_eq_true,cond_true,vb h hZ.1,aB]; rfl
 rw [cX h9,cond_false]
 by_cases h10:b=88
 ·subst h10; simp only [beq_self_eq_true,cond_true,w2,o7 h h.y0 h.y1,aB]; rfl
 rw [cX h10,cond_false]
 have gr:idx (aL s).g.l s.spot.y=some (told (iu s.g.l s.spot.y)):=h.Cc
 by_cases h11:b=64
 ·subst h11; simp only [beq_self_eq_true,cond_true,gr,aB,Cj h,nM h (ui h 64 _)]; rfl
 rw [cX h11,cond_false]
 by_cases h12:b=80
 ·subst h12; simp only [beq_self_eq_true,cond_true,gr,aB,Ck h,nM h (ui h 80 _)]; rfl
 rw [cX h12,cond_false]
 have e12: ¬ (b=64∨b=80∨b=88):=by omega
 by_cases h13:b=76∨b=77
 ·rw [decide_eq_true h13]
  simp only [cond_true]
  rw [show ((bif (decide (s.spot.y≥s.top)) then some (decide (s.spot.y≤s.aH)) else some false):Option Bool)=_ from tX _ _,aB]
  by_cases c:s.spot.y≥s.top∧s.spot.y≤s.aH
  ·have c': ¬ (s.spot.y < s.top∨s.spot.y > s.aH):=by omega
   rw [decide_eq_true c,cond_true]
   rcases h13 with rfl | rfl
   ·rw [show ((76:Int) == 77)=false from rfl,sx h,aB]
    have e:=fO (va h s.spot.y s.aH (atS l 0 1)) 0 s.spot.y
    rw [show aL (dnS W s s.spot.y s.aH (atS l 0 1))=aM.mk (aL (dnS W s s.spot.y s.aH (atS l 0 1))).g s.spot.x s.spot.y (tst s.spot.aK) (aL s).sX (aL s).sY (aL s).sS (aL s).waiting s.top s.aH (aL s).aW (aL s).title from rfl] at e
    dsimp only
    rw [e,aB]
    unfold orS orF shS
    rw [if_neg c']
    rfl
   ·rw [show ((77:Int) == 77)=true from rfl,Cd h,aB]
    have e:=fO (wh h s.spot.y s.aH (atS l 0 1)) 0 s.spot.y
    rw [show aL (upT W s s.spot.y s.aH (atS l 0 1))=aM.mk (aL (upT W s s.spot.y s.aH (atS l 0 1))).g s.spot.x s.spot.y (tst s.spot.aK) (aL s).sX (aL s).sY (aL s).sS (aL s).waiting s.top s.aH (aL s).aW (aL s).title from rfl] at e
    dsimp only
    rw [e,aB]
    unfold orS orF shS
    rw [if_neg c']
    rfl
  ·have c':s.spot.y < s.top∨s.spot.y > s.aH:=by omega
   rw [decide_eq_false c,cond_false,aB]
   unfold orS orF shS
   rw [if_pos c']
   rcases h13 with rfl | rfl <;> rfl
 rw [decide_eq_false h13,cond_false]
 by_cases h14:b=83
 ·subst h14
  have e:=tz (jg h) (atS l 0 1)
  have e2:aM.mk (aL s).g s.spot.x s.spot.y (tst s.spot.aK) (aL s).sX (aL s).sY (aL s).sS false s.top s.aH (aL s).aW (aL s).title=aL (nwS s):=rfl
  simp only [beq_self_eq_true,cond_true,e2,e,aB]
  rfl
 rw [cX h14,cond_false]
 by_cases h15:b=84
 ·subst h15; simp only [beq_self_eq_true,cond_true,dn,aB]; rfl
 rw [cX h15,cond_false]
 by_cases h16:b=109
 ·subst h16; simp only [beq_self_eq_true,cond_true,aB]; rfl
 rw [cX h16,cond_false]
 by_cases h17:b=114
 ·subst h17
  simp only [beq_self_eq_true,cond_true]
  rw [dv,ey,dv,ey,w64 (by omega) (by omega),w64 (by omega) (by omega),← rgT,← rgU]
  unfold orS orF
  simp only [Int.reduceEq,if_false,if_true,or_self,Bool.false_eq_true]
  unfold reS
  by_cases c:rgT s l < rgU s l
  ·rw [decide_eq_true c,cond_true,if_pos c]
   have e:=fO (An h l c) 0 0
   rw [show aL (rnS s (rgT s l) (rgU s l))=aM.mk (aL s).g s.spot.x s.spot.y (tst s.spot.aK) (aL s).sX (aL s).sY (aL s).sS (aL s).waiting (rgT s l) (rgU s l) (aL s).aW (aL s).title from rfl] at e
   rw [e,aB,aB]
   rfl
  ·rw [decide_eq_false c,cond_false,if_neg c,aB]
   rfl
 rw [cX h17,cond_false,aB]
 unfold orS orF
 rw [if_neg (by omega),if_neg (by omega),if_neg (by omega),if_neg (by omega),if_neg h3,if_neg h4,if_neg h5,if_neg h6,if_neg h7,if_neg h8,if_neg h9,if_neg e12,if_neg h13,if_neg h14,if_neg h15,if_neg h16,if_neg h17,if_neg h14]
 rfl
end
end Go.Tw.X
set_option linter.unusedVariables false
set_option linter.unusedSimpArgs false
namespace Go.Tw.X
open Go Go.Tw
def nlS:aZ:=⟨0,0,false,false,false⟩
def qo (w h:Int):aA:=⟨qU w h,⟨0,0,nlS⟩,⟨0,0,nlS⟩,false,0,(szN h:Int) - 1,true,ByteArray.mk #[]⟩
theorem vd (w h:Int):(qo w h).g.l.length=szN h:=by simp [qo,qU]
theorem xB (w h:Int):jb w h=some (qo w h):=by
 unfold jb
 have h1:=iF h
 rw [DH,aB,m2,aB]
 dsimp only
 rw [show ((qU w h).l.length:Int)=(szN h:Int) by simp [qU],w64 (by omega) (by omega)]
 rfl
theorem Ap (w h:Int):nC w h=some (aL (qo w h)):=by
 unfold nC
 have h1:=iF h
 rw [BI,aB]
 rw [show ((na (qU w h)).l.length:Int)=(szN h:Int) by simp [qU,na],w64 (by omega) (by omega)]
 rfl
theorem xC (w h:Int):SI (szN w) (qo w h):=by
 have h1:=kC h
 have h2:=kC w
 refine ⟨⟨rfl,DG w h,Int.le_refl 0,?_,Int.le_refl 0,?_,Int.le_refl 0,?_,?_⟩,fun e=>by cases e⟩
 ·show (0:Int) < _; omega
 ·rw [vd]; show (0:Int) < _; omega
 ·show (0:Int)≤(szN h:Int) - 1; omega
 ·rw [vd]; show (szN h:Int) - 1 < _; omega
section
variable {W : Nat} {s : aA}
def ctS (W:Nat) (s:aA) (b:Int):aA:=if b=8 then mvS s (s.spot.x - 1) s.spot.y else if b=9 then mvS s (s.spot.x.tdiv 8*8+8) s.spot.y else if b=10∨b=11∨b=12 then liS W s else if b=13 then mvS s 0 s.spot.y else s
def ctF (s:aA) (b:Int):List aE:=if b=10∨b=11∨b=12 then liF s else []
theorem Aq {x:Int} (h0:0≤x) (h1:x < 1000):0≤x.tdiv 8∧x.tdiv 8≤1000:=by
 rw [Int.tdiv_eq_ediv_of_nonneg h0]
 omega
theorem yG (h:SJ W s) (b:Int):ed s b=some (ctF s b,ctS W s b):=by
 have hy:=yr h
 have ht:=Aq hy.2.2.1 hy.2.2.2
 unfold ed ctF ctS
 simp only [uj]
 rw [w64 (x:=s.spot.x - 1) (by omega) (by omega),w64 (x:=s.spot.x.tdiv 8) (by omega) (by omega),w64 (x:=s.spot.x.tdiv 8+1) (by omega) (by omega),w64 (x:=(s.spot.x.tdiv 8+1)*8) (by omega) (by omega),show (s.spot.x.tdiv 8+1)*8=s.spot.x.tdiv 8*8+8 by omega]
 by_cases h1:b=8
 ·subst h1; simp only [beq_self_eq_true,cond_true,ij h,aB]; rfl
 rw [cX h1,cond_false,if_neg h1]
 by_cases h2:b=9
 ·subst h2; simp only [beq_self_eq_true,cond_true,ij h,aB]; rfl
 rw [cX h2,cond_false,if_neg h2,aB]
 by_cases h3:b=10∨b=11∨b=12
 ·rw [decide_eq_true h3,cond_true,(eS h).p,if_pos h3,if_pos h3]; rfl
 rw [decide_eq_false h3,cond_false,if_neg h3,if_neg h3]
 by_cases h4:b=13
 ·subst h4; simp only [beq_self_eq_true,cond_true,ij h,aB]; rfl
 rw [cX h4,cond_false,if_neg h4]
 rfl
theorem E6 (h:SI W s) (b:Int):SI W (ctS W s b):=jf (kP h.toSJ _ _) (jf (kP h.toSJ _ _) (jf (eS h.toSJ).i (jf (kP h.toSJ _ _) h)))
def e8S (s:aA):aA:=⟨s.g,⟨s.spot.x,s.spot.y,s.saved.aK⟩,s.saved,s.waiting,s.top,s.aH,s.aW,s.title⟩
theorem Ar (h:SJ W s):SJ W (e8S s):=⟨h.gw,h.gi,h.x0,h.x1,h.y0,h.y1,h.t0,h.tb,h.b1⟩
def e7S (s:aA):aA:=⟨s.g,s.spot,s.spot,s.waiting,s.top,s.aH,s.aW,s.title⟩
def esS (W:Nat) (s:aA) (b:Int):aA:=if b=69 then liS W (xS s 0) else if b=68 then liS W s else if b=77 then baS W s else if b=55 then e7S s else if b=56 then mvS (e8S s) s.saved.x s.saved.y else if b=99 then qo W s.g.l.length else s
def esF (s:aA) (b:Int):List aE:=if b=69 then liF (xS s 0) else if b=68 then liF s else []
theorem E7 (h:SI W s) (b:Int):SI W (esS W s b):=by
 have e:=xC (W:Int) (s.g.l.length:Int)
 rw [DE W h.gi.w1 h.gi.w2] at e
 exact jf (eS (u6 h.toSJ (Int.le_refl 0) (w0 h.toSJ))).i (jf (eS h.toSJ).i (jf (EZ h.toSJ) (jf ⟨⟨h.gw,h.gi,h.x0,h.x1,h.y0,h.y1,h.t0,h.tb,h.b1⟩,h.wt⟩ (jf (kP (Ar h.toSJ) _ _) (jf e h)))))
theorem As (h:SJ W s) (b:Int):eI s b=some (esF s b,esS W s b):=by
 unfold eI esF esS
 by_cases h1:b=69
 ·subst h1
  have e:=(eS (u6 h (Int.le_refl 0) (w0 h))).p
  rw [show xS s 0=aA.mk s.g (cZ.mk 0 s.spot.y s.spot.aK) s.saved s.waiting s.top s.aH s.aW s.title from rfl] at e
  simp only [beq_self_eq_true,cond_true,aB,e,if_true]
  rfl
 rw [cX h1,cond_false,if_neg h1,if_neg h1]
 by_cases h2:b=68
 ·subst h2
  have e:=(eS h).p
  simp only [beq_self_eq_true,cond_true,aB,if_true]
  rw [show aA.mk s.g s.spot s.saved s.waiting s.top s.aH s.aW s.title=s from rfl,e]
  rfl
 rw [cX h2,cond_false,if_neg h2,if_neg h2]
 by_cases h3:b=77
 ·subst h3; simp only [beq_self_eq_true,cond_true,back_eq h,aB,if_true]; rfl
 rw [cX h3,cond_false,if_neg h3]
 by_cases h4:b=55
 ·subst h4; simp only [beq_self_eq_true,cond_true,aB,if_true]; rfl
 rw [cX h4,cond_false,if_neg h4]
 by_cases h5:b=56
 ·subst h5
  have e:=ij (Ar h) s.saved.x s.saved.y
  rw [show e8S s=aA.mk s.g (cZ.mk s.spot.x s.spot.y s.saved.aK) s.saved s.waiting s.top s.aH s.aW s.title from rfl] at e
  simp only [beq_self_eq_true,cond_true,e,aB,if_true]
  rfl
 rw [cX h5,cond_false,if_neg h5]
 by_cases h6:b=99
 ·subst h6
  simp only [beq_self_eq_true,cond_true,m2,aB,if_true,xB,h.gw]
  rfl
 rw [cX h6,cond_false,if_neg h6]
 rfl
def pvS (s:aA) (b:Int) (l:List Int):aA:=if atS l 0 0=7∧(b=104∨b=108) then ⟨s.g,s.spot,s.saved,s.waiting,s.top,s.aH,b == 104,s.title⟩ else s
def tiS (s:aA) (t:ByteArray):aA:=⟨s.g,s.spot,s.saved,s.waiting,s.top,s.aH,s.aW,t⟩
def acS (W:Nat) (s:aA) (a:aX):aA:=if a.kind=1 then prS W s a.rune else if a.kind=2 then ctS W s a.byte else if a.kind=3 then esS W s a.byte else if a.kind=4 then (if a.cv=true then pvS s a.byte a.aY else orS W s a.byte a.aY) else if a.kind=5 then tiS s a.text else s
def acF (W:Nat) (s:aA) (a:aX):List aE:=if a.kind=1 then prF W s a.rune else if a.kind=2 then ctF s a.byte else if a.kind=3 then esF s a.byte else if a.kind=4 then (if a.cv=true then [] else orF s a.byte a.aY) else []
theorem FV (h:SJ W s) (a:aX) (hl:a.aY.length≤1000000):dY s a=some (acF W s a,acS W s a):=by
 unfold dY acF acS
 by_cases h1:a.kind=1
 ·rw [iS h1,cond_true,if_pos h1,if_pos h1,Cb h]; rfl
 rw [cX h1,cond_false,if_neg h1,if_neg h1]
 by_cases h2:a.kind=2
 ·rw [iS h2,cond_true,if_pos h2,if_pos h2,yG h]; rfl
 rw [cX h2,cond_false,if_neg h2,if_neg h2]
 by_cases h3:a.kind=3
 ·rw [iS h3,cond_true,if_pos h3,if_pos h3,As h]; rfl
 rw [cX h3,cond_false,if_neg h3,if_neg h3]
 by_cases h5:a.kind=5
 ·have h4: ¬ a.kind=4:=by omega
  rw [iS h5,cond_true,if_neg h4,if_neg h4,if_pos h5]; rfl
 rw [cX h5,cond_false,if_neg h5]
 by_cases h4:a.kind=4
 ·rw [iS h4,cond_true,if_pos h4,if_pos h4]
  cases hp:a.cv with
  | false =>
   rw [Bool.not_false,cond_true,Cl h a hl,if_neg (by simp),if_neg (by simp)]
   rfl
  | true =>
   rw [Bool.not_true,cond_false,if_pos rfl,if_pos rfl,show du a 0 0=_ from tB a 0 0,aB,o4]
   unfold pvS
   by_cases c:atS a.aY 0 0=7
   ·rw [iS c,cond_true,aB]
    by_cases c2:a.byte=104∨a.byte=108
    ·rw [decide_eq_true c2,cond_true,if_pos ⟨c,c2⟩]; rfl
    ·rw [decide_eq_false c2,cond_false,if_neg (fun e=>c2 e.2)]; rfl
   ·rw [cX c,cond_false,aB,cond_false,if_neg (fun e=>c e.1)]; rfl
 rw [cX h4,cond_false,if_neg h4,if_neg h4]
 rfl
theorem CV (h:SI W s) (a:aX) (hr:rok a.rune):SI W (acS W s a):=by
 have e1:SI W (pvS s a.byte a.aY):=by
  unfold pvS
  exact jf ⟨⟨h.gw,h.gi,h.x0,h.x1,h.y0,h.y1,h.t0,h.tb,h.b1⟩,h.wt⟩ h
 exact jf (EY h hr) (jf (E6 h _) (jf (E7 h _) (jf (jf e1 (E5 h _ _)) (jf ⟨⟨h.gw,h.gi,h.x0,h.x1,h.y0,h.y1,h.t0,h.tb,h.b1⟩,h.wt⟩ h))))
def uk (W:Nat) (off:List aE):Prop:=off.length≤2000 ∧ ∀ r∈off,gok W r
theorem pH.o2 {off:List aE} (h:pH W off):uk W off:=⟨by have:=h.1; omega,h.2⟩
theorem um {p:Prop} [Decidable p] {a b:List aE} (ha:uk W a) (hb:uk W b):uk W (if p then a else b):=by split <;> assumption
theorem uo (h:SJ W s) (a:aX):uk W (acF W s a):=by
 have n0:uk W []:=(ln W).o2
 have l0: ∀ t,SJ W t→uk W (liF t):=fun t ht=>(eS ht).o.o2
 exact um (DY h) (um (um (l0 _ h) n0) (um (um (l0 _ (u6 h (Int.le_refl 0) (w0 h))) (um (l0 _ h) n0)) (um (um n0 (um (z9 (jg h) _).o2 n0)) n0)))
end
end Go.Tw.X
set_option linter.unusedVariables false
set_option linter.unusedSimpArgs false
namespace Go.Tw.X
open Go Go.Tw
def o8 (a:aO):aX:=⟨a.kind,a.rune,a.byte,a.cv,a.aY,a.text⟩
section
variable {W : Nat} {s : aA}
theorem FW (h:SJ W s) (a:aO) (hr:rok a.rune) (hl:a.aY.length≤1000000):kq (aL s) a=some (aL (acS W s (o8 a)),(acF W s (o8 a)).map told):=by
 have hy:=yr h
 have hlen:=h.gi.l2
 have ht:=Aq hy.2.2.1 hy.2.2.2
 unfold kq acF acS o8
 dsimp only
 by_cases h1:a.kind=1
 ·rw [iS h1,cond_true,if_pos h1,if_pos h1,DX h hr]; rfl
 rw [cX h1,cond_false,if_neg h1,if_neg h1]
 by_cases h2:a.kind=2
 ·rw [iS h2,cond_true,if_pos h2,if_pos h2]
  unfold ctF ctS
  simp only [uj]
  rw [show (aL s).x=s.spot.x from rfl,show (aL s).y=s.spot.y from rfl,w64 (x:=s.spot.x - 1) (by omega) (by omega),w64 (x:=s.spot.x.tdiv 8) (by omega) (by omega),w64 (x:=s.spot.x.tdiv 8*8) (by omega) (by omega),w64 (x:=s.spot.x.tdiv 8*8+8) (by omega) (by omega)]
  generalize a.byte=b
  by_cases c1:b=8
  ·subst c1; simp only [beq_self_eq_true,cond_true,fO h,aB]; rfl
  rw [cX c1,cond_false,if_neg c1]
  by_cases c2:b=9
  ·subst c2; simp only [beq_self_eq_true,cond_true,fO h,aB]; rfl
  rw [cX c2,cond_false,if_neg c2,aB]
  by_cases c3:b=10∨b=11∨b=12
  ·rw [decide_eq_true c3,cond_true,(eS h).q,if_pos c3,if_pos c3]; rfl
  rw [decide_eq_false c3,cond_false,if_neg c3,if_neg c3]
  by_cases c4:b=13
  ·subst c4; simp only [beq_self_eq_true,cond_true,fO h,aB]; rfl
  rw [cX c4,cond_false,if_neg c4]
  rfl
 rw [cX h2,cond_false,if_neg h2,if_neg h2]
 by_cases h3:a.kind=3
 ·rw [iS h3,cond_true,if_pos h3,if_pos h3]
  unfold esF esS
  generalize a.byte=b
  by_cases c2:b=68
  ·subst c2; simp only [beq_self_eq_true,cond_true,(eS h).q,aB,if_true]; rfl
  rw [cX c2,cond_false,if_neg c2,if_neg c2]
  by_cases c1:b=69
  ·subst c1
   have e:=(eS (u6 h (Int.le_refl 0) (w0 h))).q
   rw [show aL (xS s 0)=aM.mk (aL s).g 0 (aL s).y (aL s).s (aL s).sX (aL s).sY (aL s).sS (aL s).waiting (aL s).top (aL s).aH (aL s).aW (aL s).title from rfl] at e
   simp only [beq_self_eq_true,cond_true,e,aB,if_true]
   rfl
  rw [cX c1,cond_false,if_neg c1,if_neg c1]
  by_cases c3:b=77
  ·subst c3
   simp only [beq_self_eq_true,cond_true,if_true]
   unfold baS
   rw [show (aL s).y=s.spot.y from rfl,show (aL s).top=s.top from rfl]
   by_cases c:s.spot.y=s.top
   ·have e:dh (aL s).g false s.top s.aH 1 (iR s.spot.aK)=some ((aL (dnS W (nwS s) s.top s.aH 1)).g,(oN s.g.l s.top s.aH 1).map told):=sx (jg h) _ _ _
    rw [iS c,cond_true,if_pos c,show (aL s).s=tst s.spot.aK from rfl,u2,aB,show (aL s).aH=s.aH from rfl,e,aB]
    rfl
   ·have e:=fO (jg h) s.spot.x (s.spot.y - 1)
    rw [show aL (nwS s)=aM.mk (aL s).g (aL s).x s.spot.y (aL s).s (aL s).sX (aL s).sY (aL s).sS false s.top (aL s).aH (aL s).aW (aL s).title from rfl] at e
    rw [cX c,cond_false,if_neg c,w64 (by omega) (by omega),show (aL s).x=s.spot.x from rfl]
    rw [show (aL s).x=s.spot.x from rfl] at e
    rw [e,aB]
    rfl
  rw [cX c3,cond_false,if_neg c3]
  by_cases c4:b=55
  ·subst c4; simp only [beq_self_eq_true,cond_true,aB,if_true]; rfl
  rw [cX c4,cond_false,if_neg c4]
  by_cases c5:b=56
  ·subst c5
   have e:=fO (Ar h) s.saved.x s.saved.y
   rw [show aL (e8S s)=aM.mk (aL s).g (aL s).x (aL s).y (aL s).sS (aL s).sX (aL s).sY (aL s).sS (aL s).waiting (aL s).top (aL s).aH (aL s).aW (aL s).title from rfl] at e
   simp only [beq_self_eq_true,cond_true,if_true]
   rw [show (aL s).sX=s.saved.x from rfl,show (aL s).sY=s.saved.y from rfl]
   rw [show (aL s).sX=s.saved.x from rfl,show (aL s).sY=s.saved.y from rfl] at e
   rw [e,aB]
   rfl
  rw [cX c5,cond_false,if_neg c5]
  by_cases c6:b=99
  ·subst c6
   simp only [beq_self_eq_true,cond_true,aB,if_true]
   rw [wj h,show (aL s).g.w=(W:Int) from h.gw,Ap,aB]
   rfl
  rw [cX c6,cond_false,if_neg c6]
  rfl
 rw [cX h3,cond_false,if_neg h3,if_neg h3]
 by_cases h4:a.kind=4
 ·rw [iS h4,cond_true,if_pos h4,if_pos h4]
  cases hp:a.cv with
  | false =>
   rw [Bool.not_false,cond_true,yF h a.byte a.aY hl,if_neg (by simp),if_neg (by simp)]
   rfl
  | true =>
   rw [Bool.not_true,cond_false,if_pos rfl,if_pos rfl,show dJ a.aY 0 0=_ from mw a.aY 0 0,aB,o4]
   unfold pvS
   by_cases c:atS a.aY 0 0=7
   ·rw [iS c,cond_true,aB]
    by_cases c2:a.byte=104∨a.byte=108
    ·rw [decide_eq_true c2,cond_true,if_pos ⟨c,c2⟩]; rfl
    ·rw [decide_eq_false c2,cond_false,if_neg (fun e=>c2 e.2)]; rfl
   ·rw [cX c,cond_false,aB,cond_false,if_neg (fun e=>c e.1)]; rfl
 rw [cX h4,cond_false,if_neg h4,if_neg h4]
 by_cases h5:a.kind=5
 ·rw [iS h5,cond_true,if_pos h5]; rfl
 rw [cX h5,cond_false,if_neg h5]
 rfl
def roN (s:aA) (h:Int):Int:=max 0 (s.spot.y - ((szN h:Int) - 1))
def rzS (s:aA) (w h:Int):aA:=let t:aA:=mvS ⟨⟨(szN w:Int),rzL (szN w) s.g.l (loS s.g.l (roN s h)) (szN h)⟩,s.spot,s.saved,s.waiting,s.top,s.aH,s.aW,s.title⟩ s.spot.x (s.spot.y - roN s h); ⟨t.g,t.spot,t.saved,t.waiting,0,(szN h:Int) - 1,t.aW,t.title⟩
def rzF (s:aA) (h:Int):List aE:=s.g.l.take (loS s.g.l (roN s h))
theorem yH (h:SJ W s) (w k:Int):eK s w k=some (rzF s k,rzS s w k):=by
 have hy:=yr h
 have h1:=kC k
 have h2:=iF k
 have h3:=kC w
 have h4:=iF w
 have hl:=h.gi.len
 unfold eK
 rw [kO,aB,show max 1 (min k 1000)=(szN k:Int) by rw [← tY,ey,dv],w64 (x:=(szN k:Int) - 1) (by omega) (by omega),w64 (x:=s.spot.y - ((szN k:Int) - 1)) (by omega) (by omega),ey,← roN]
 have e:=v7 s.g.w s.g.l w k (roN s k) h.gi.l1 (by have:=h.gi.l2; omega) hl
 rw [show (aU.mk s.g.w s.g.l)=s.g from rfl] at e
 rw [e,aB,w64 (x:=s.spot.y - roN s k) (by unfold roN; omega) (by unfold roN; omega)]
 dsimp only
 have hl2:=iQ (szN w) s.g.l (loS s.g.l (roN s k)) (szN k)
 have em: ∀ (g:aU) (q:aA),q.g=g→g.w≤1000→1≤g.w→g.l.length≤1000 → ∀ x y,bB q x y=some (mvS q x y):=by
  intro g q e1 e2 e3 e4 x y
  unfold bB cW
  rw [e1,m2,aB,aB]
  dsimp only
  rw [w64 (by omega) (by omega),w64 (by omega) (by omega),kO,aB,kO,aB]
  unfold mvS
  rw [e1]
 rw [em _ _ rfl (by dsimp only; omega) (by dsimp only; omega) (by dsimp only; omega),aB]
 unfold cW
 rw [m2,aB,aB]
 simp only [mvS,hl2]
 rw [w64 (by omega) (by omega)]
 simp only [rzF,rzS,mvS,hl2]
theorem yI (h:SJ W s) (w k:Int):lB (aL s) w k=some (aL (rzS s w k),(rzF s k).map told):=by
 have hy:=yr h
 have h1:=kC k
 have h2:=iF k
 have h3:=kC w
 have h4:=iF w
 have hl:=h.gi.len
 unfold lB
 have er:imax 0 (IntKind.i64.wrap (IntKind.i64.wrap ((aL s).y+1) - (imax 1 (dt k 1000))))=roN s k:=by
  rw [show (aL s).y=s.spot.y from rfl,tY,w64 (x:=s.spot.y+1) (by omega) (by omega),w64 (by omega) (by omega),ey]
  unfold roN
  omega
 rw [er]
 have e:=uR s.g.w s.g.l w k (roN s k) h.gi.l1 (by have:=h.gi.l2; omega) hl
 rw [show (aL s).g=⟨s.g.w,s.g.l.map told⟩ from rfl,e,aB]
 dsimp only
 have hl2:=iQ (szN w) s.g.l (loS s.g.l (roN s k)) (szN k)
 rw [show (aL s).y=s.spot.y from rfl,w64 (x:=s.spot.y - roN s k) (by unfold roN; omega) (by unfold roN; omega)]
 unfold cB
 rw [aB]
 dsimp only
 rw [List.length_map,hl2,w64 (by omega) (by omega),w64 (by omega) (by omega),ey,ey,dv,dv]
 simp only [rzF,rzS,mvS,hl2,aL,na]
theorem D5 (h:SJ W s) (w k:Int):SI (szN w) (rzS s w k):=by
 have h1:=kC k
 have h2:=iF k
 have h3:=kC w
 have h4:=iF w
 have hl2:=iQ (szN w) s.g.l (loS s.g.l (roN s k)) (szN k)
 have hg:GI (szN w) (rzL (szN w) s.g.l (loS s.g.l (roN s k)) (szN k)):=EO (W:=W) (fun r hr=>(h.gi.rs r hr).2) _ _ _ h3 h4 h1 h2
 refine ⟨⟨rfl,hg,?_,?_,?_,?_,?_,?_,?_⟩,fun e=>by cases e⟩
 all_goals simp only [rzS,mvS,hl2]
 all_goals omega
theorem wq (h:SJ W s) (k:Int):uk W (rzF s k):=by
 refine ⟨?_,fun r hr=>h.gi.rs r (List.mem_of_mem_take hr)⟩
 have:=h.gi.l2
 simp only [rzF,List.length_take]
 omega
end
end Go.Tw.X
set_option linter.unusedVariables false
set_option linter.unusedSimpArgs false
namespace Go.Tw.X
open Go Go.Tw
theorem sA (s:ByteArray) {lo hi:Int} (h0:0≤lo) (h1:lo≤hi) (h2:hi≤s.size):(kD s lo hi).size=(hi - lo).toNat:=by
 unfold kD
 rw [ByteArray.size_extract]
 omega
def okA (a:aO):Prop:=rok a.rune∧0≤a.byte∧a.byte < 256∧a.aY.length≤18
end Go.Tw.X
set_option linter.unusedVariables false
set_option linter.unusedSimpArgs false
set_option maxHeartbeats 1000000
namespace Go.Tw.X
open Go Go.Tw
def sB (l:List Int):Prop:= ∀ x∈l,rok x
theorem oh {l:List Int} {x:Int} (h:sB l) (hx:rok x):sB (l++[x]):=fun y hy=>by
 rcases List.mem_append.1 hy with hy | hy
 ·exact h y hy
 ·rw [List.mem_singleton.1 hy]; exact hx
theorem FX {b:Int} (h:0≤b):0≤b.tmod 64∧b.tmod 64 < 64:=⟨Int.tmod_nonneg _ h,Int.tmod_lt_of_pos _ (by decide)⟩
end Go.Tw.X
set_option linter.unusedVariables false
set_option linter.unusedSimpArgs false
namespace Go.Tw.X
open Go Go.Tw
theorem Cn (s:ByteArray) {n:Int} (h:0≤n):okO (kI s n) (fun r=>(r.size:Int)≤n):=by
 unfold kI
 refine hG (fun hc=> ?_) fun hc=>aR (by omega)
 refine bH (ql (by omega) h (by omega)) fun _ _=>aR ?_
 rw [sA _ (by omega) h (by omega)]
 omega
theorem D6 {W:Nat} {off:List aE} (h:uk W off) (hW:W≤1000):k7 off (off.map told)=some true :=
 zR off (by have:=h.1; omega) fun r hr=>⟨by have:=(h.2 r hr).1; omega,(h.2 r hr).2⟩
theorem yJ {x:Int} (h:rok x):IntKind.i32.wrap x=x:=by
 have h1:=h.1
 have h2:=h.2
 rw [IntKind.wrap_i32]
 omega
theorem At {a:aO} (h:okA a):nD a=some (o8 a):=by
 obtain ⟨h1,h2,h3,h4⟩:=h
 unfold nD
 rw [bI (by simp; omega),aB,yJ h1,FM h2 h3]
 rfl
section
variable {W : Nat} {s : aA}
theorem xD (h:SI W s) {a:aO} (ha:okA a):kq (aL s) a=some (aL (acS W s (o8 a)),(acF W s (o8 a)).map told)∧nD a=some (o8 a)∧dY s (o8 a)=some (acF W s (o8 a),acS W s (o8 a))∧k7 (acF W s (o8 a)) ((acF W s (o8 a)).map told)=some true∧SI W (acS W s (o8 a)) :=
 ⟨FW h.toSJ a ha.1 (by have:=ha.2.2.2; omega),At ha,FV h.toSJ _ (by have:=ha.2.2.2; show a.aY.length≤_; omega),D6 (uo h.toSJ _) h.gi.w2,CV h _ ha.1⟩
theorem Au (h:SJ W s):fp s=some (s.g,s):=by
 unfold fp
 have e:=sb s.g.w s.g.l (by have:=h.gi.l2; omega) h.gi.len
 rw [show (aU.mk s.g.w s.g.l)=s.g from rfl] at e
 rw [e]
 rfl
theorem ve (h:SJ W s):eR s=some (s,s):=by
 unfold eR
 have e:=sb s.g.w s.g.l (by have:=h.gi.l2; omega) h.gi.len
 rw [show (aU.mk s.g.w s.g.l)=s.g from rfl] at e
 rw [e]
 rfl
end
end Go.Tw.X
set_option linter.unusedVariables false
set_option linter.unusedSimpArgs false
set_option maxRecDepth 20000
set_option maxHeartbeats 1000000
namespace Go.Tw.X
open Go Go.Tw
theorem Av {P:Int→Prop} (h: ∀ n:Nat,n < 256→P n) {b:Int} (h0:0≤b) (h1:b < 256):P b:=by
 have:=h b.toNat (by omega)
 rwa [Int.toNat_of_nonneg h0] at this
def db (b:Int):Int×Int×Int:=if 194≤b∧b≤223 then (1,128,191) else if b=224 then (2,160,191) else if b=237 then (2,128,159) else if 225≤b∧b≤239 then (2,128,191) else if b=240 then (3,144,191) else if b=244 then (3,128,143) else if 241≤b∧b≤243 then (3,128,191) else (0,0,0)
theorem Aw {b:Int} (h0:0≤b) (h1:b < 256):mT b=some (db b):=Av (P:=fun b=>mT b=some (db b)) (by decide) h0 h1
theorem nN (b:Int):((db b).1=0∨(db b).1=1∨(db b).1=2∨(db b).1=3)∧((db b).1≠0→194≤b∧b≤244):=by
 unfold db
 repeat' split
 all_goals simp
 all_goals omega
def yK (l:List gU) (b:Int):Option gU:=l.find? fun x=>decide (x.first≤b) && decide (b≤x.last)
def fnd (b:Int):gU×Bool:=match yK bJ b with
 | some x=>(x,true)
 | none=>(⟨0,0,0,0,0⟩,false)
theorem vf {b:Int} (h0:0≤b) (h1:b < 256):(fnd b).2=decide ((db b).1≠0)∧(fnd b).1.fu=(db b).1∧(fnd b).1.low=(db b).2.1∧(fnd b).1.high=(db b).2.2 :=
 Av (P:=fun b=>(fnd b).2=decide ((db b).1≠0)∧(fnd b).1.fu=(db b).1∧(fnd b).1.low=(db b).2.1∧(fnd b).1.high=(db b).2.2) (by decide) h0 h1
theorem vg (b:Int):iZ b=some (fnd b):=by
 unfold iZ
 have key: ∀ k i:Nat,i+k=8→iter (σ:=Int) (ρ:=Unit ⊕ (gU×Bool)) (fun a=>(bif (decide (a < 8)) then (Option.bind (idx bJ a) fun c=>(Option.bind ((bif (decide (b≥c.first)) then some (decide (b≤c.last)) else some false):Option Bool) fun d=>(bif d then (ka (some (c,true))) else some (.inl (IntKind.i64.wrap (a+1)))))) else some (.inr (.inl ())))) (i:Int)=some (match yK (bJ.drop i) b with
   | some x=> .inr (x,true)
   | none=> .inl ()):=by
  intro k
  induction k with
  | zero =>
   intro i hi
   obtain rfl:i=8:=by omega
   rw [dx (r:= .inl ()) rfl]
   rfl
  | succ k ih =>
   intro i hi
   have hlt:i < bJ.length:=by show i < 8; omega
   have hd:bJ.drop i=bJ[i]::bJ.drop (i+1):=List.drop_eq_getElem_cons hlt
   rw [iter_eq,hd]
   simp only [dr _ i hlt,Option.bind_some,decide_eq_true (show (i:Int) < 8 by omega),cond_true]
   generalize bJ[i]=x
   have hw:IntKind.i64.wrap ((i:Int)+1)=((i+1:Nat):Int):=by rw [w64 (by omega) (by omega)]; omega
   by_cases h1:x.first≤b
   ·by_cases h2:b≤x.last
    ·simp [h1,h2,yK,ka]
    ·have:=ih (i+1) (by omega)
     simp [h1,h2,yK,hw] at this ⊢
     exact this
   ·have:=ih (i+1) (by omega)
    simp [h1,yK,hw] at this ⊢
    exact this
 have:=key 8 0 rfl
 simp only [Int.natCast_zero] at this
 rw [this]
 unfold fnd
 rw [List.drop_zero]
 cases yK bJ b <;> rfl
theorem E8 {b:Int} (h0:0≤b) (h1:b < 256):Go.bits .and .i32 (IntKind.i32.wrap b) 63=b % 64:=by
 rw [yJ ⟨by omega,by omega⟩]
 exact m63 b h0 (by omega)
theorem FY {b:Int} (h0:0≤b) (h1:b < 256):Go.bits .and .i32 (IntKind.i32.wrap b) ((63:Int).fdiv (2 ^ (min (1:Int).toNat 32)))=b % 32∧Go.bits .and .i32 (IntKind.i32.wrap b) ((63:Int).fdiv (2 ^ (min (2:Int).toNat 32)))=b % 16∧Go.bits .and .i32 (IntKind.i32.wrap b) ((63:Int).fdiv (2 ^ (min (3:Int).toNat 32)))=b % 8:=by
 rw [yJ ⟨by omega,by omega⟩]
 have g5:=bits_mask .i32 31 (by decide) wraps_i32 5 (by decide) b h0 (by omega)
 have g4:=bits_mask .i32 31 (by decide) wraps_i32 4 (by decide) b h0 (by omega)
 have g3:=bits_mask .i32 31 (by decide) wraps_i32 3 (by decide) b h0 (by omega)
 exact ⟨g5,g4,g3⟩
theorem FZ {r b:Int} (h0:0≤r) (h1:r < 1000000) (hb0:0≤b) (hb1:b < 64):Go.bits .or .i32 (IntKind.i32.wrap (r*2 ^ (min 6 32))) b=r*64+b:=by
 have e:(r*2 ^ (min 6 32):Int)=r*64:=rfl
 rw [e,yJ ⟨by omega,by omega⟩]
 exact bits_join .i32 31 (by decide) wraps_i32 6 (r*64) b (by omega) (by show r*64 % 64=0; omega) (by omega) hb0 (by omega) (by omega)
def d0:bD:=⟨0,0,0⟩
def o9 (b:Int):Int:=if (db b).1=1 then b % 32 else if (db b).1=2 then b % 16 else b % 8
def l7 (b:Int):bD×List Int:=if b < 128 then (d0,[b]) else if (db b).1=0 then (d0,[65533]) else (⟨b,o9 b,(db b).1⟩,[])
theorem vh {b:Int} (h0:0≤b) (h1:b < 256):iB b=some (l7 b):=by
 unfold iB l7
 by_cases hb:b < 128
 ·rw [decide_eq_true hb,cond_true,if_pos hb,yJ ⟨by omega,by omega⟩]; rfl
 ·rw [decide_eq_false hb,cond_false,if_neg hb,vg,Option.bind_some]
  obtain ⟨f1,f2,f3,f4⟩:=vf h0 h1
  rw [f1,f2]
  have hn:=nN b
  by_cases hz:(db b).1=0
  ·rw [if_pos hz,hz]; rfl
  ·rw [if_neg hz,decide_eq_true hz]
   obtain ⟨a1,a2,a3⟩:=FY h0 h1
   have hk: ∀ n:Int,n=1∨n=2∨n=3→(Option.bind (chk (shk n)) fun _=>some ((bD.mk b (Go.bits .and .i32 (IntKind.i32.wrap b) ((63:Int).fdiv (2 ^ (min n.toNat 32)))) n),([]:List Int)))=some (⟨b,if n=1 then b % 32 else if n=2 then b % 16 else b % 8,n⟩,[]):=by
    rintro n (rfl | rfl | rfl)
    ·rw [a1]; rfl
    ·rw [a2]; rfl
    ·rw [a3]; rfl
   exact hk _ (by omega)
def sW (d:bD) (b:Int):Bool:=if d.fu < (db d.lead).1 then decide (128≤b∧b≤191) else decide ((db d.lead).2.1≤b∧b≤(db d.lead).2.2)
theorem Co {d:bD} (h0:0≤d.lead) (h1:d.lead < 256) (b:Int):ff d b=some (sW d b):=by
 unfold ff sW
 rw [vg,Option.bind_some]
 obtain ⟨f1,f2,f3,f4⟩:=vf h0 h1
 rw [f2,f3,f4]
 by_cases h:d.fu < (db d.lead).1
 ·rw [if_pos h,decide_eq_true h,cond_true]
  by_cases ha:128≤b <;> simp [ha]
 ·rw [if_neg h,decide_eq_false h,cond_false]
  by_cases ha:(db d.lead).2.1≤b <;> simp [ha]
def iT (d:bD) (b:Int):bD×List Int:=if d.fu≤0 then l7 b else if sW d b then (if d.fu=1 then (d0,[d.rune*64+b % 64]) else (⟨d.lead,d.rune*64+b % 64,d.fu - 1⟩,[])) else ((l7 b).1,65533::(l7 b).2)
def DI (d:bD):Prop:=d=d0∨(0≤d.lead∧d.lead < 256∧1≤d.fu∧d.fu≤(db d.lead).1∧0≤d.rune∧(d.fu=3→d.rune < 8)∧(d.fu=2→d.rune < 512)∧(d.fu=1→d.rune < 32768))
theorem DI0:DI d0:= .inl rfl
theorem Cp {b:Int} (h0:0≤b) (h1:b < 256):DI (l7 b).1∧(l7 b).2.length≤1∧sB (l7 b).2:=by
 unfold l7
 have hn:=nN b
 split
 ·refine ⟨DI0,by simp,fun x hx=> ?_⟩
  rw [List.mem_singleton.1 hx]
  exact ⟨by omega,by omega⟩
 ·split
  ·refine ⟨DI0,by simp,fun x hx=> ?_⟩
   rw [List.mem_singleton.1 hx]
   exact ⟨by decide,by decide⟩
  ·rename_i hz
   refine ⟨.inr ⟨h0,h1,by dsimp only; omega,Int.le_refl _,?_,?_,?_,?_⟩,by simp,fun x hx=>by cases hx⟩
   all_goals (dsimp only; unfold o9; intros; split <;> (try split) <;> omega)
theorem pK {d:bD} (h:DI d) {b:Int} (h0:0≤b) (h1:b < 256):fg d b=some (iT d b)∧DI (iT d b).1∧(iT d b).2.length≤2∧sB (iT d b).2:=by
 obtain ⟨k1,k2,k3⟩:=Cp h0 h1
 unfold fg iT
 by_cases hd:d.fu≤0
 ·rw [decide_eq_true hd,cond_true,vh h0 h1,if_pos hd]
  exact ⟨rfl,k1,by omega,k3⟩
 ·rcases h with rfl | ⟨l0,l1,n1,n2,r0,r3,r2,r1⟩
  ·exact absurd (by decide) hd
  rw [decide_eq_false hd,cond_false,if_neg hd,Co l0 l1,Option.bind_some]
  have hn:=nN d.lead
  have hrb:d.rune < 32768:=by
   have:d.fu=1∨d.fu=2∨d.fu=3:=by omega
   rcases this with h | h | h
   ·exact r1 h
   ·have:=r2 h; omega
   ·have:=r3 h; omega
  cases hf:sW d b with
  | false =>
   simp only [Bool.not_false,cond_true,vh h0 h1,Option.bind_some,Bool.false_eq_true,if_false]
   refine ⟨by rw [bI (by simp; omega)]; rfl,k1,by simp; omega,fun x hx=> ?_⟩
   rcases List.mem_cons.1 hx with rfl | hx
   ·exact ⟨by decide,by decide⟩
   ·exact k3 x hx
  | true =>
   have hor:Go.bits .or .i32 (IntKind.i32.wrap (d.rune*2 ^ (min 6 32))) (Go.bits .and .i32 (IntKind.i32.wrap b) 63)=d.rune*64+b % 64:=by
    rw [E8 h0 h1]
    exact FZ r0 (by omega) (by omega) (by omega)
   simp only [Bool.not_true,cond_false,if_true,hor]
   rw [w64 (x:=d.fu - 1) (by omega) (by omega)]
   by_cases h1':d.fu=1
   ·rw [if_pos h1',h1']
    refine ⟨rfl,DI0,by simp,fun x hx=> ?_⟩
    rw [List.mem_singleton.1 hx]
    have:=r1 h1'
    exact ⟨by omega,by omega⟩
   ·have he:(d.fu - 1 == 0)=false:=by
     have: ¬ d.fu - 1=0:=by omega
     simpa using this
    rw [if_neg h1',he,cond_false]
    refine ⟨rfl,.inr ⟨l0,l1,by dsimp only; omega,by dsimp only; omega,by dsimp only; omega,?_,?_,?_⟩,by simp,fun x hx=>by cases hx⟩
    ·dsimp only; intro e; omega
    ·dsimp only; intro e; have:=r3 (by omega); omega
    ·dsimp only; intro e; have:=r2 (by omega); omega
end Go.Tw.X
set_option linter.unusedVariables false
set_option linter.unusedSimpArgs false
set_option maxHeartbeats 1000000
namespace Go.Tw.X
open Go Go.Tw
def dfold:bD→List Int→List Int→bD×List Int
 | d,out,[]=>(d,out)
 | d,out,b::r=>dfold (iT d b).1 (out++(iT d b).2) r
theorem lE {s:ByteArray} {i:Int} (h0:0≤i) (h1:i < s.size):okO (jh s i) (fun b=>(0≤b∧b < 256)∧(sbs s).drop i.toNat=b::(sbs s).drop (i.toNat+1)):=by
 have hl:i.toNat < (sbs s).length:=by rw [cw]; omega
 have e:=sj s i.toNat hl
 rw [Int.toNat_of_nonneg h0] at e
 exact ⟨_,e,fZ s _ (List.getElem_mem hl),List.drop_eq_getElem_cons hl⟩
theorem jX {s:ByteArray} {i:Int} (h:i=s.size):(sbs s).drop i.toNat=[]:=List.drop_eq_nil_of_le (by rw [cw]; omega)
theorem vi {a b:Int} (h:0≤a):a.tmod b=a % b:=Int.tmod_eq_emod_of_nonneg h
def Ax (T:bD×List Int) (r:List Int×Int):Prop:=r.1=T.2∧0≤r.2∧(0 < r.2↔0 < T.1.fu)
theorem Ay {s:ByteArray} (hs:s.size≤1000000):okO (l5 s) (fun r=>Ax (dfold d0 [] (sbs s)) r∧r.1.length≤s.size∧sB r.1):=by
 unfold l5
 generalize hT:dfold d0 [] (sbs s)=T
 refine bH (P:=fun | .inl l=>(T=(d0,l))∧l.length≤s.size∧sB l | .inr r=>Ax T r∧r.1.length≤s.size∧sB r.1) ?_ ?_
 rotate_left
 ·rintro (l | r) h
  ·obtain ⟨rfl,h2⟩:=h
   exact aR ⟨⟨rfl,Int.le_refl 0,by simp [d0]⟩,h2⟩
  ·exact aR h
 refine ig (fun z:List Int×Int=>0≤z.2∧z.2≤s.size∧(z.1.length:Int)≤z.2∧sB z.1∧dfold d0 z.1 ((sbs s).drop z.2.toNat)=T) (fun z=>s.size - z.2.toNat) ⟨Int.le_refl 0,by dsimp only; omega,by simp,fun x hx=>(by cases hx),hT⟩ ?_
 rintro ⟨o,p⟩ ⟨h0,h1,h2,h3,h4⟩
 dsimp only at h0 h1 h2 h3 h4 ⊢
 refine hG (fun hp=> ?_) fun hp=> ?_
 rotate_left
 ·rw [jX (by omega)] at h4
  exact aR ⟨h4.symm,by omega,h3⟩
 refine bH (lE h0 hp) fun b hb=> ?_
 obtain ⟨hb,hbd⟩:=hb
 rw [hbd] at h4
 have ep:(p+1).toNat=p.toNat+1:=by omega
 rw [w64 (x:=b) (by omega) (by omega),w64 (x:=p+1) (by omega) (by omega)]
 have hn0:iT d0 b=l7 b:=if_pos (by decide)
 refine hG (fun hb1=> ?_) fun hb1=> ?_
 ·have e:l7 b=(d0,[b]):=if_pos hb1
  simp only [dfold,hn0,e] at h4
  refine bH (oP (by simp; omega)) fun _ _=>aR ⟨⟨by dsimp only; omega,by dsimp only; omega,by simp; omega,oh h3 ⟨by omega,by omega⟩,by dsimp only; rw [ep]; exact h4⟩,by dsimp only; omega⟩
 ·refine bH (P:=fun k=>k=db b) ⟨_,Aw hb.1 hb.2,rfl⟩ fun k hk=> ?_
  subst hk
  have hn5:=nN b
  refine ok_eq (fun hk0=> ?_) fun hk0=> ?_
  ·have e:l7 b=(d0,[65533]):=by unfold l7; rw [if_neg hb1,if_pos hk0]
   simp only [dfold,hn0,e] at h4
   refine bH (oP (by simp; omega)) fun _ _=>aR ⟨⟨by dsimp only; omega,by dsimp only; omega,by simp; omega,oh h3 ⟨by decide,by decide⟩,by dsimp only; rw [ep]; exact h4⟩,by dsimp only; omega⟩
  ·have e:l7 b=(⟨b,o9 b,(db b).1⟩,[]):=by unfold l7; rw [if_neg hb1,if_neg hk0]
   simp only [dfold,hn0,e,List.append_nil] at h4
   refine bH (P:=fun x=>x≠0∧b.tmod x=o9 b∧0≤o9 b∧o9 b < 32) ?_ fun x hx=> ?_
   ·unfold o9
    rcases hn5.1 with hk | hk | hk | hk
    ·exact absurd hk hk0
    ·rw [hk]; exact ⟨32,rfl,by decide,vi hb.1,by simp; omega,by simp; omega⟩
    ·rw [hk]; exact ⟨16,rfl,by decide,vi hb.1,by simp; omega,by simp; omega⟩
    ·rw [hk]; exact ⟨8,rfl,by decide,vi hb.1,by simp; omega,by simp; omega⟩
   obtain ⟨hx0,hx1,hx2,hx3⟩:=hx
   refine bH (DR hx0) fun _ _=> ?_
   rw [hx1]
   refine bH (P:=fun v=>0≤v.1∧v.1 < 8388608∧1≤v.2∧v.2≤4∧p+v.2≤s.size∧(((db b).1 < v.2∧dfold d0 (o++[v.1]) ((sbs s).drop (p+v.2).toNat)=T)∨(v.2≤(db b).1∧p+v.2=s.size∧T=(⟨b,v.1,(db b).1 - (v.2 - 1)⟩,o))∨(v.2≤(db b).1∧p+v.2≠s.size∧dfold d0 (o++[65533]) ((sbs s).drop (p+v.2).toNat)=T))) ?_ fun v hv=> ?_
   ·refine ig (fun z:Int×Int×Int×Int=>0≤z.1∧p+z.2.1≤s.size∧z.2.1≤(db b).1+1∧(z.2.1=1∧z.1 < 32∨z.2.1=2∧z.1 < 2048∨z.2.1=3∧z.1 < 131072∨z.2.1=4∧z.1 < 8388608)∧z.2.2=(if z.2.1=1 then (db b).2 else (128,191))∧(if (db b).1 < z.2.1 then dfold d0 (o++[z.1]) ((sbs s).drop (p+z.2.1).toNat)=T else dfold ⟨b,z.1,(db b).1 - (z.2.1 - 1)⟩ o ((sbs s).drop (p+z.2.1).toNat)=T)) (fun z=>4 - z.2.1.toNat) ⟨hx2,by dsimp only; omega,by dsimp only; omega,.inl ⟨rfl,hx3⟩,by simp,?_⟩ ?_
    ·dsimp only
     rw [if_neg (by omega),ep,Int.sub_self,Int.sub_zero]
     exact h4
    rintro ⟨v,j,lo,hi⟩ ⟨g0,g1,g2,g3,g4,g5⟩
    dsimp only at g0 g1 g2 g3 g4 g5 ⊢
    rw [w64 (x:=p+j) (by omega) (by omega)]
    refine bH (P:=fun e=>e=true↔(j≤(db b).1∧p+j < s.size)) ?_ fun e he=> ?_
    ·refine hG (fun h=>aR (by simp [h])) fun h=>aR (by simp [h])
    ·refine lD (fun h=> ?_) fun h=> ?_
     rotate_left
     ·refine aR ⟨g0,by omega,by omega,by omega,g1,?_⟩
      dsimp only
      by_cases hj:(db b).1 < j
      ·rw [if_pos hj] at g5
       exact .inl ⟨hj,g5⟩
      ·rw [if_neg hj] at g5
       have hpe:p+j=s.size:=by
        have: ¬ (j≤(db b).1∧p+j < s.size):=fun hh=>by rw [he.2 hh] at h; cases h
        omega
       rw [jX hpe] at g5
       exact .inr (.inl ⟨by omega,hpe,g5.symm⟩)
     obtain ⟨e1,e2⟩:=he.1 h
     refine bH (lE (by omega) e2) fun c hc=> ?_
     obtain ⟨hc,hcd⟩:=hc
     rw [w64 (x:=c) (by omega) (by omega)]
     rw [if_neg (by omega),hcd] at g5
     have hneed: ¬ (bD.mk b v ((db b).1 - (j - 1))).fu≤0:=by dsimp only; omega
     have hfit:sW ⟨b,v,(db b).1 - (j - 1)⟩ c=decide (lo≤c∧c≤hi):=by
      unfold sW
      dsimp only
      by_cases hj:j=1
      ·subst hj
       rw [if_pos rfl] at g4
       rw [if_neg (by omega),← g4]
      ·rw [if_neg hj] at g4
       injection g4 with g4 g4'
       rw [if_pos (by omega),g4,g4']
     refine bH (P:=fun e=>e=true ↔ ¬ (lo≤c∧c≤hi)) ?_ fun e he=> ?_
     ·refine hG (fun h=>aR (by simp; omega)) fun h=>aR (by simp; omega)
     refine lD (fun h=> ?_) fun h=> ?_
     ·refine aR ⟨g0,by omega,by omega,by omega,g1,.inr (.inr ⟨e1,by dsimp only; omega,?_⟩)⟩
      dsimp only
      have hnf:sW ⟨b,v,(db b).1 - (j - 1)⟩ c=false:=by rw [hfit]; exact decide_eq_false (he.1 h)
      have en:iT ⟨b,v,(db b).1 - (j - 1)⟩ c=((l7 c).1,65533::(l7 c).2):=by
       unfold iT
       rw [if_neg hneed,hnf]
       rfl
      have en0:iT d0 c=l7 c:=if_pos (by decide)
      simp only [dfold,en] at g5
      rw [hcd]
      simp only [dfold,en0]
      rw [← g5]
      simp
     ·have hc2:=FX hc.1
      have w1:IntKind.i64.wrap (v*64)=v*64:=w64 (by omega) (by omega)
      have w2:IntKind.i64.wrap (v*64+c.tmod 64)=v*64+c.tmod 64:=w64 (by omega) (by omega)
      have w3:IntKind.i64.wrap (j+1)=j+1:=w64 (by omega) (by omega)
      rw [w1,w2,w3]
      have hf:sW ⟨b,v,(db b).1 - (j - 1)⟩ c=true:=by
       rw [hfit]
       refine decide_eq_true (Classical.byContradiction fun hh=> ?_)
       rw [he.2 hh] at h
       cases h
      have epj:(p+(j+1)).toNat=(p+j).toNat+1:=by omega
      refine aR ⟨⟨by dsimp only; omega,by dsimp only; omega,by dsimp only; omega,by dsimp only; omega,?_,?_⟩,by dsimp only; omega⟩
      ·dsimp only
       rw [if_neg (by omega)]
      ·dsimp only
       rw [epj]
       by_cases hj:(db b).1 < j+1
       ·have en:iT ⟨b,v,(db b).1 - (j - 1)⟩ c=(d0,[v*64+c % 64]):=by
         unfold iT
         rw [if_neg hneed,hf,if_pos rfl,if_pos (by dsimp only; omega)]
        simp only [dfold,en] at g5
        rw [if_pos hj,vi hc.1]
        exact g5
       ·have en:iT ⟨b,v,(db b).1 - (j - 1)⟩ c=(⟨b,v*64+c % 64,(db b).1 - (j - 1) - 1⟩,[]):=by
         unfold iT
         rw [if_neg hneed,hf,if_pos rfl,if_neg (by dsimp only; omega)]
        simp only [dfold,en,List.append_nil] at g5
        rw [if_neg hj,vi hc.1,show (db b).1 - (j+1 - 1)=(db b).1 - (j - 1) - 1 by omega]
        exact g5
   ·obtain ⟨g0,g1,g2,g3,g4,g5⟩:=hv
    rw [w64 (x:=p+v.2) (by omega) (by omega)]
    refine bH (P:=fun | .inl l=>(l.length:Int)≤p+1∧sB l∧dfold d0 l ((sbs s).drop (p+v.2).toNat)=T | .inr (.inl _)=>False | .inr (.inr (.inl _))=>False | .inr (.inr (.inr r))=>Ax T r∧r.1.length≤s.size∧sB r.1) ?_ ?_
    ·refine hG (fun h=> ?_) fun h=> ?_
     ·refine bH (oP (by simp; omega)) fun _ _=>aR ⟨by simp; omega,oh h3 ⟨by omega,by omega⟩,?_⟩
      rcases g5 with g5 | g5 | g5
      ·exact g5.2
      ·exact absurd g5.1 (by omega)
      ·exact absurd g5.1 (by omega)
     ·refine ok_eq (fun hq=> ?_) fun hq=> ?_
      ·rcases g5 with g5 | g5 | g5
       ·exact absurd g5.1 h
       ·refine ue (uf (aR ⟨⟨?_,by dsimp only; omega,?_⟩,by dsimp only; omega,h3⟩))
        ·rw [g5.2.2]
        ·rw [g5.2.2]; dsimp only; constructor <;> intro _ <;> omega
       ·exact absurd hq g5.2.1
      ·refine bH (oP (by simp; omega)) fun _ _=>aR ⟨by simp; omega,oh h3 ⟨by decide,by decide⟩,?_⟩
       rcases g5 with g5 | g5 | g5
       ·exact absurd g5.1 h
       ·exact absurd g5.2.1 hq
       ·exact g5.2.2
    ·rintro (l | (l | (l | l))) hl
     ·exact aR ⟨⟨by dsimp only; omega,by dsimp only; omega,by dsimp only; omega,hl.2.1,hl.2.2⟩,by dsimp only; omega⟩
     ·exact hl.elim
     ·exact hl.elim
     ·exact aR hl
end Go.Tw.X
set_option linter.unusedVariables false
set_option linter.unusedSimpArgs false
set_option maxHeartbeats 1000000
namespace Go.Tw.X
open Go Go.Tw
def lU (p:aC) (a:aX):aC:=⟨p.state,p.order,p.text,p.bV,p.out++[a]⟩
def prA (r:Int):aX:=⟨1,r,0,false,[],ByteArray.mk #[]⟩
def ku (p:aC) (l:List Int):aC:=⟨p.state,p.order,p.text,p.bV,p.out++l.map prA⟩
def stP (p:aC) (s:Int):aC:=⟨s,p.order,p.text,p.bV,p.out⟩
def ctA (b:Int):aX:=⟨2,0,b,false,[],ByteArray.mk #[]⟩
def cE (p:aC) (b:Int):Bool×aC:=if b=24∨b=26 then (true,stP p 0) else if b=27 then (true,stP p 1) else if b < 32 then (true,lU p (ctA b)) else (b == 127,p)
def pb (d:bD):List Int:=if d.fu≤0 then [] else [65533]
def iH (p:aC) (b:Int):aC:=if b < 32∨b=127 then (cE ⟨p.state,p.order,p.text,d0,p.out++(pb p.bV).map prA⟩ b).2 else ku ⟨p.state,p.order,p.text,(iT p.bV b).1,p.out⟩ (iT p.bV b).2
def o0:cV:=⟨false,false,false,false,0,[]⟩
def E9 (b:Int):aX:=⟨3,0,b,false,[],ByteArray.mk #[]⟩
def fb (p:aC) (b:Int):aC :=
 if (cE p b).1 then (cE p b).2 else
 if b=91 then ⟨3,o0,p.text,p.bV,p.out⟩ else if b=93 then ⟨4,p.order,ByteArray.mk #[],p.bV,p.out⟩ else if b < 48 then stP p 2 else if b < 127 then stP (lU p (E9 b)) 0 else stP p 0
def lF (p:aC) (b:Int):aC:=if (cE p b).1 then (cE p b).2 else if 48≤b then stP p 0 else p
def lV (o:cV):cV:=⟨o.cv,o.gQ,o.any,o.some,0,if o.aY.length < 16 then o.aY++[o.n] else o.aY⟩
def cmA (o:cV) (b:Int):aX:=⟨4,0,b,o.cv,o.aY,ByteArray.mk #[]⟩
def iI (p:aC) (b:Int):aC:=if p.order.gQ then stP p 0 else
 let o:=if p.order.some then lV p.order else p.order
 ⟨0,o,p.text,p.bV,p.out++[cmA o b]⟩
def Cq (o:cV):cV:=⟨o.cv,o.gQ,true,o.some,o.n,o.aY⟩
def cK (o:cV) (b:Int):cV :=
 if 48≤b∧b≤57 then ⟨o.cv,o.gQ,true,true,dt (10*o.n+(b - 48)) 9999,o.aY⟩ else
 if b=59∨b=58 then ⟨o.cv,o.gQ,true,true,0,(lV o).aY⟩ else
 if b=63∧o.any=false then ⟨true,o.gQ,true,o.some,o.n,o.aY⟩ else
 ⟨o.cv,true,true,o.some,o.n,o.aY⟩
def gb (p:aC) (b:Int):aC:=if (cE p b).1 then (cE p b).2 else
 if 64≤b∧b < 127 then iI ⟨p.state,Cq p.order,p.text,p.bV,p.out⟩ b else ⟨p.state,cK p.order b,p.text,p.bV,p.out⟩
theorem pL {p:aC} (h:p.out.length≤1000000) (a:aX):dQ p a=some (lU p a):=by
 unfold dQ
 rw [bI (by simp; omega)]
 rfl
theorem vj {p:aC} (h:p.out.length≤1000000) (a:aX):fl p a=some (lU p a):=by
 unfold fl
 rw [bI (by simp; omega)]
 rfl
theorem okE {α:Type _} {x:Option α} {r:α} (h:okO x (fun y=>y=r)):x=some r:=by
 obtain ⟨y,e,rfl⟩:=h
 exact e
theorem vk {p:aC} {l:List Int} (h:p.out.length+l.length≤1000000):eT p l=some (ku p l):=by
 unfold eT
 refine okE (bH (P:=fun y=>y=ku p l) ?_ fun r hr=>aR hr)
 refine ig (fun z:aC×Int=>0≤z.2∧z.2≤l.length∧z.1=ku p (l.take z.2.toNat)) (fun z=>l.length - z.2.toNat) ⟨Int.le_refl 0,by dsimp only; omega,by simp [ku]⟩ ?_
 rintro ⟨q,i⟩ ⟨h0,h1,h2⟩
 dsimp only at h0 h1 h2 ⊢
 subst h2
 refine hG (fun hi=> ?_) fun hi=>aR (by rw [List.take_of_length_le (by omega)])
 obtain ⟨k,rfl⟩: ∃ k:Nat,i=k:=⟨i.toNat,by omega⟩
 have hk:k < l.length:=by omega
 refine bH (P:=fun x=>x=l[k]) ⟨_,dr l k hk,rfl⟩ fun x hx=> ?_
 subst hx
 refine bH (P:=fun x=>x=ku p (l.take (k+1))) ?_ fun x hx=> ?_
 ·rw [pL (by simp [ku]; omega)]
  refine aR ?_
  simp only [ku,lU,Int.toNat_natCast,List.take_add_one,List.getElem?_eq_getElem hk,Option.toList_some,List.map_append,List.map_cons,List.map_nil,List.append_assoc,prA]
 ·subst hx
  rw [w64 (by omega) (by omega)]
  refine aR ⟨⟨by dsimp only; omega,by dsimp only; omega,?_⟩,by dsimp only; omega⟩
  dsimp only
  rw [show ((k:Int)+1).toNat=k+1 by omega]
theorem om {p:aC} (h:p.out.length≤1000000) (b:Int):dB p b=some (cE p b):=by
 unfold dB cE
 by_cases h1:b=24
 ·subst h1; rfl
 ·by_cases h2:b=26
  ·subst h2; rfl
  ·by_cases h3:b=27
   ·subst h3; rfl
   ·have e1:(b == 24)=false:=by simpa using h1
    have e2:(b == 26)=false:=by simpa using h2
    have e3:(b == 27)=false:=by simpa using h3
    rw [if_neg (by omega),if_neg h3,e1,e2,e3]
    by_cases h4:b < 32
    ·rw [if_pos h4,decide_eq_true h4]
     simp only [cond_false,cond_true,Option.bind_some,pL h]
     rfl
    ·rw [if_neg h4,decide_eq_false h4]
     rfl
theorem yL {p:aC} (h:p.out.length≤999990) (hd:DI p.bV) {b:Int} (h0:0≤b) (h1:b < 256):eM p b=some (iH p b):=by
 unfold eM iH
 have hl:(pb p.bV).length≤1:=by unfold pb; split <;> simp
 have he:fG p.bV=some (pb p.bV):=by
  unfold fG pb
  by_cases hn:p.bV.fu≤0
  ·rw [decide_eq_true hn,if_pos hn]; rfl
  ·rw [decide_eq_false hn,if_neg hn]; rfl
 by_cases hb:b < 32∨b=127
 ·have e:((bif (decide (b < 32)) then some true else some (b == 127)):Option Bool)=some true:=by
   rcases hb with hb | hb
   ·rw [decide_eq_true hb]; rfl
   ·subst hb; rfl
  rw [if_pos hb,e,Option.bind_some,cond_true,he,Option.bind_some,vk (by omega),Option.bind_some,om (by simp [ku]; omega)]
  rfl
 ·have e:((bif (decide (b < 32)) then some true else some (b == 127)):Option Bool)=some false:=by
   rw [decide_eq_false (by omega),cond_false]
   have: ¬ b=127:=by omega
   simpa using this
  obtain ⟨n1,n2,n3,n4⟩:=pK hd h0 h1
  rw [if_neg hb,e,Option.bind_some,cond_false,n1,Option.bind_some,vk (by dsimp only; omega)]
  rfl
theorem tD {p:aC} (h:p.out.length≤999990) (b:Int):dR p b=some (fb p b):=by
 unfold dR fb
 rw [om (by omega),Option.bind_some]
 cases hc:(cE p b).1 with
 | true=>rfl
 | false =>
  have hp:(cE p b).2=p:=by
   unfold cE at hc ⊢
   split
   ·rename_i hh; rw [if_pos hh] at hc; cases hc
   ·rename_i h1; rw [if_neg h1] at hc
    split
    ·rename_i hh; rw [if_pos hh] at hc; cases hc
    ·rename_i h2; rw [if_neg h2] at hc
     split
     ·rename_i hh; rw [if_pos hh] at hc; cases hc
     ·rfl
  rw [hp]
  simp only [cond_false,Bool.false_eq_true,if_false]
  by_cases h1:b=91
  ·subst h1; rfl
  ·have e1:(b == 91)=false:=by simpa using h1
   rw [if_neg h1,e1]
   by_cases h2:b=93
   ·subst h2; rfl
   ·have e2:(b == 93)=false:=by simpa using h2
    rw [if_neg h2,e2]
    by_cases h3:b < 48
    ·rw [if_pos h3,decide_eq_true h3]; rfl
    ·rw [if_neg h3,decide_eq_false h3]
     by_cases h4:b < 127
     ·rw [if_pos h4,decide_eq_true h4]
      simp only [cond_false,cond_true,pL (show p.out.length≤1000000 by omega),Option.bind_some]
      rfl
     ·rw [if_neg h4,decide_eq_false h4]; rfl
theorem qN {p:aC} {b:Int} (hc:(cE p b).1=false):(cE p b).2=p:=by
 unfold cE at hc ⊢
 split
 ·rename_i hh; rw [if_pos hh] at hc; cases hc
 ·rename_i h1; rw [if_neg h1] at hc
  split
  ·rename_i hh; rw [if_pos hh] at hc; cases hc
  ·rename_i h2; rw [if_neg h2] at hc
   split
   ·rename_i hh; rw [if_pos hh] at hc; cases hc
   ·rfl
theorem Az {p:aC} (h:p.out.length≤999990) (b:Int):fI p b=some (lF p b):=by
 unfold fI lF
 rw [om (by omega),Option.bind_some]
 cases hc:(cE p b).1 with
 | true=>rfl
 | false =>
  rw [qN hc]
  by_cases hb:48≤b
  ·simp [hb,stP]
  ·simp [hb]
theorem xE {p:aC} (h:p.order.aY.length≤16):fX p=some ⟨p.state,lV p.order,p.text,p.bV,p.out⟩:=by
 unfold fX lV
 by_cases hl:p.order.aY.length < 16
 ·rw [decide_eq_true (by omega),cond_true,bI (by simp; omega),if_pos hl]; rfl
 ·rw [decide_eq_false (by omega),cond_false,if_neg hl]; rfl
theorem yM {p:aC} (h:p.out.length≤999990) (hn:p.order.aY.length≤16) (b:Int):fJ p b=some (iI p b):=by
 unfold fJ iI
 cases hw:p.order.gQ with
 | true=>rfl
 | false =>
  simp only [cond_false,Bool.false_eq_true,if_false]
  cases hs:p.order.some with
  | true =>
   simp only [cond_true,if_true]
   rw [xE (by exact hn),Option.bind_some,Option.bind_some,vj (by dsimp only; omega)]
   rfl
  | false =>
   simp only [cond_false,Bool.false_eq_true,if_false]
   rw [Option.bind_some,vj (by dsimp only; omega)]
   rfl
theorem wv {p:aC} (h:p.out.length≤999990) (h3:p.state=3) (hn:p.order.aY.length≤16) (hN:0≤p.order.n∧p.order.n≤9999) {b:Int} (h0:0≤b) (h1:b < 256):eH p b=some (gb p b):=by
 unfold eH gb
 rw [om (by omega),Option.bind_some]
 cases hc:(cE p b).1 with
 | true=>rfl
 | false =>
  rw [qN hc]
  simp only [cond_false,Bool.false_eq_true,if_false]
  have hchk:chk (p.state == (3:Int))=some ():=by rw [h3]; rfl
  by_cases a1:48≤b∧b≤57
  ·have e:((bif (decide (b≥48)) then some (decide (b≤57)) else some false):Option Bool)=some true:=by rw [decide_eq_true a1.1,decide_eq_true a1.2]; rfl
   have w1:IntKind.u8.wrap (b - 48)=b - 48:=by simp [IntKind.wrap,IntKind.bits,IntKind.signed]; omega
   rw [e,Option.bind_some,cond_true,w1,w64 (x:=b - 48) (by omega) (by omega),w64 (x:=10*p.order.n) (by omega) (by omega),w64 (by omega) (by omega),if_neg (by omega)]
   unfold cK
   rw [if_pos a1]
  ·have e:((bif (decide (b≥48)) then some (decide (b≤57)) else some false):Option Bool)=some false:=by
    by_cases hh:48≤b
    ·rw [decide_eq_true hh,decide_eq_false (by omega)]; rfl
    ·rw [decide_eq_false hh]; rfl
   rw [e,Option.bind_some,cond_false]
   by_cases a2:b=59∨b=58
   ·have e2:((bif (b == 59) then some true else some (b == 58)):Option Bool)=some true:=by rcases a2 with rfl | rfl <;> rfl
    rw [e2,Option.bind_some,cond_true,hchk,Option.bind_some,xE (by exact hn),Option.bind_some,if_neg (by omega)]
    unfold cK
    rw [if_neg a1,if_pos a2]
    rfl
   ·have e2:((bif (b == 59) then some true else some (b == 58)):Option Bool)=some false:=by
     have x1:(b == 59)=false:=by simpa using (show ¬ b=59 by omega)
     have x2:(b == 58)=false:=by simpa using (show ¬ b=58 by omega)
     rw [x1,x2]; rfl
    rw [e2,Option.bind_some,cond_false]
    by_cases a3:b=63∧p.order.any=false
    ·have e3:((bif (b == 63) then some (!p.order.any) else some false):Option Bool)=some true:=by rw [a3.1,a3.2]; rfl
     rw [e3,Option.bind_some,cond_true,if_neg (by omega)]
     unfold cK
     rw [if_neg a1,if_neg a2,if_pos a3]
    ·have e3:((bif (b == 63) then some (!p.order.any) else some false):Option Bool)=some false:=by
      by_cases hh:b=63
      ·cases ha:p.order.any with
       | true=>rw [hh]; rfl
       | false=>exact absurd ⟨hh,ha⟩ a3
      ·have:(b == 63)=false:=by simpa using hh
       rw [this]; rfl
     rw [e3,Option.bind_some,cond_false]
     by_cases a4:64≤b∧b < 127
     ·have e4:((bif (decide (b≥64)) then some (decide (b < 127)) else some false):Option Bool)=some true:=by rw [decide_eq_true a4.1,decide_eq_true a4.2]; rfl
      rw [e4,Option.bind_some,cond_true,hchk,Option.bind_some,if_pos a4,yM (by exact h) (by exact hn)]
      rfl
     ·have e4:((bif (decide (b≥64)) then some (decide (b < 127)) else some false):Option Bool)=some false:=by
       by_cases hh:64≤b
       ·rw [decide_eq_true hh,decide_eq_false (by omega)]; rfl
       ·rw [decide_eq_false hh]; rfl
      rw [e4,Option.bind_some,cond_false,if_neg a4]
      unfold cK
      rw [if_neg a1,if_neg a2,if_neg a3]
end Go.Tw.X
set_option linter.unusedVariables false
set_option linter.unusedSimpArgs false
set_option maxHeartbeats 1000000
namespace Go.Tw.X
open Go Go.Tw
def tiA (t:ByteArray):aX:=⟨5,0,0,false,[],kD t 2 t.size⟩
def ttl (t:ByteArray):List aX:=match sbs t with
 | x::y::_=>if (x=48∨x=50)∧y=59 then [tiA t] else []
 | _=>[]
theorem xF (t:ByteArray):(ttl t).length≤1:=by
 unfold ttl
 split
 ·split <;> simp
 ·simp
def iU (p:aC):aC:=⟨0,p.order,p.text,p.bV,p.out++ttl p.text⟩
def isH (c:Int) (t:ByteArray):Bool:=decide ((sbs t).take 2=[c,59])
theorem AA {c:Int} {t:ByteArray} (h:t.size < 2):isH c t=false:=by
 refine decide_eq_false fun e=> ?_
 have:=congrArg List.length e
 simp [cw] at this
 omega
theorem tE (t h:ByteArray) (c:Int) (hh:sbs h=[c,59]):fH t h=some (if isH c t then (kD t 2 t.size,true) else (t,false)):=by
 have hs:h.size=2:=by rw [← cw,hh]; rfl
 have hp:dZ t h=some (isH c t):=by
  unfold dZ
  rw [hs]
  by_cases h2:2≤t.size
  ·rw [decide_eq_true (show (t.size:Int)≥((2:Nat):Int) by omega),cond_true,bK (by decide) (by decide) (by omega),Option.bind_some,Option.bind_some,xj]
   congr 1
   unfold isH
   refine decide_eq_decide.2 ⟨fun e=> ?_,fun e=> ?_⟩
   ·have:=congrArg sbs e
    rw [show ((0:Int))=((0:Nat):Int) from rfl,nL,hh] at this
    simpa using this
   ·apply uc
    rw [show ((0:Int))=((0:Nat):Int) from rfl,nL,hh]
    simpa using e
  ·rw [decide_eq_false (show ¬ (t.size:Int)≥((2:Nat):Int) by omega),cond_false,Option.bind_some,AA (by omega)]
 unfold fH fw
 rw [hp,Option.bind_some,hs]
 cases hi:isH c t with
 | false=>rfl
 | true =>
  have h2:2≤t.size:=by
   by_cases h2:2≤t.size
   ·exact h2
   ·rw [AA (by omega)] at hi; cases hi
  simp only [Bool.not_true,cond_false,if_true]
  rw [bK (by omega) (by omega) (by omega)]
  rfl
theorem AB (t:ByteArray):ttl t=(if isH 48 t then [tiA t] else [])++(if isH 50 t then [tiA t] else []):=by
 unfold ttl isH
 match h:sbs t with
 | []=>simp
 | [x]=>simp
 | x::y::r =>
  simp only [List.take_succ_cons,List.take_zero,List.cons.injEq,and_true,decide_eq_true_eq]
  by_cases hy:y=59
  ·by_cases h1:x=48
   ·subst h1; simp [hy]
   ·by_cases h2:x=50
    ·subst h2; simp [hy]
    ·simp [h1,h2]
  ·simp [hy]
theorem xG {p:aC} (h:p.out.length≤999990):fz p=some (iU p):=by
 unfold fz
 have c1:=tE p.text (ByteArray.mk #[48,59]) 48 rfl
 have c2:=tE p.text (ByteArray.mk #[50,59]) 50 rfl
 refine okE (bH (P:=fun y=>y=iU p) ?_ fun r hr=>aR hr)
 refine ig (fun z:aC×Int=>z.2=0∧z.1=stP p 0∨z.2=1∧z.1=⟨0,p.order,p.text,p.bV,p.out++(if isH 48 p.text then [tiA p.text] else [])⟩∨z.2=2∧z.1=iU p) (fun z=>2 - z.2.toNat) (.inl ⟨rfl,rfl⟩) ?_
 rintro ⟨q,i⟩ (⟨h1,h2⟩ | ⟨h1,h2⟩ | ⟨h1,h2⟩)
 ·dsimp only at h1 h2
  subst h1 h2
  refine hG (fun _=> ?_) fun hh=>absurd (show (0:Int) < 2 from by decide) hh
  refine bH (P:=fun y=>y=(⟨0,p.order,p.text,p.bV,p.out++(if isH 48 p.text then [tiA p.text] else [])⟩:aC)) ?_ fun y hy=> ?_
  ·refine bH (P:=fun x=>x=ByteArray.mk #[48,59]) ⟨_,rfl,rfl⟩ fun x hx=> ?_
   subst hx
   rw [show (stP p 0).text=p.text from rfl,c1]
   cases hi:isH 48 p.text with
   | true =>
    simp only [if_true,Option.bind_some,cond_true]
    rw [pL (by show p.out.length≤_; omega)]
    exact aR rfl
   | false =>
    simp only [Bool.false_eq_true,if_false,Option.bind_some,cond_false]
    exact aR (by simp [stP])
  ·subst hy
   exact aR ⟨.inr (.inl ⟨show IntKind.i64.wrap (0+1)=1 from by decide,rfl⟩),show 2 - (IntKind.i64.wrap (0+1)).toNat < 2 - (0:Int).toNat from by decide⟩
 ·dsimp only at h1 h2
  subst h1 h2
  refine hG (fun _=> ?_) fun hh=>absurd (show (1:Int) < 2 from by decide) hh
  refine bH (P:=fun y=>y=iU p) ?_ fun y hy=> ?_
  ·refine bH (P:=fun x=>x=ByteArray.mk #[50,59]) ⟨_,rfl,rfl⟩ fun x hx=> ?_
   subst hx
   dsimp only
   rw [c2]
   have hl:((if isH 48 p.text then [tiA p.text] else []):List aX).length≤1:=by split <;> simp
   cases hi:isH 50 p.text with
   | true =>
    simp only [if_true,Option.bind_some,cond_true]
    rw [pL (by simp only [List.length_append]; omega)]
    refine aR ?_
    simp only [lU,iU,AB,hi,if_true,List.append_assoc]
    rfl
   | false =>
    simp only [Bool.false_eq_true,if_false,Option.bind_some,cond_false]
    refine aR ?_
    simp only [iU,AB,hi,Bool.false_eq_true,if_false,List.append_nil]
  ·subst hy
   exact aR ⟨.inr (.inr ⟨show IntKind.i64.wrap (1+1)=2 from by decide,rfl⟩),show 2 - (IntKind.i64.wrap (1+1)).toNat < 2 - (1:Int).toNat from by decide⟩
 ·dsimp only at h1 h2
  subst h1 h2
  exact hG (fun hh=>absurd hh (show ¬ (2:Int) < 2 from by decide)) fun _=>aR rfl
def gk (p:aC) (b:Int):aC:=if b=7 then iU p else if b=24∨b=26 then stP p 0 else if b=27 then stP p 5 else if p.text.size < 200 then ⟨p.state,p.order,p.text++km [b],p.bV,p.out⟩ else p
theorem AD {p:aC} (h:p.out.length≤999990) (b:Int):fm p b=some (gk p b):=by
 unfold fm gk
 by_cases h1:b=7
 ·subst h1
  rw [if_pos rfl,xG h]
  rfl
 ·have e1:(b == 7)=false:=by simpa using h1
  rw [if_neg h1,e1,cond_false]
  by_cases h2:b=24∨b=26
  ·have e2:((bif (b == 24) then some true else some (b == 26)):Option Bool)=some true:=by rcases h2 with rfl | rfl <;> rfl
   rw [if_pos h2,e2]; rfl
  ·have e2:((bif (b == 24) then some true else some (b == 26)):Option Bool)=some false:=by
    have x1:(b == 24)=false:=by simpa using (show ¬ b=24 by omega)
    have x2:(b == 26)=false:=by simpa using (show ¬ b=26 by omega)
    rw [x1,x2]; rfl
   rw [if_neg h2,e2,Option.bind_some,cond_false]
   by_cases h3:b=27
   ·subst h3; rfl
   ·have e3:(b == 27)=false:=by simpa using h3
    rw [if_neg h3,e3,cond_false]
    by_cases h4:p.text.size < 200
    ·rw [if_pos h4,decide_eq_true (by omega),cond_true,qi (by rw [oc]; simp; omega)]; rfl
    ·rw [if_neg h4,decide_eq_false (by omega)]; rfl
def gf (p:aC) (b:Int):aC :=
 if p.state=0 then iH p b else if p.state=1 then fb p b else if p.state=2 then lF p b else if p.state=3 then gb p b else if p.state=4 then gk p b else if b=92 then iU p else fb (stP p 1) b
structure PI (p:aC):Prop where
 di:DI p.bV
 gr:p.state≠0→p.bV=d0
 nu:p.order.aY.length≤16
 n0:0≤p.order.n
 n1:p.order.n≤9999
 tx:p.text.size≤200
theorem Cr {p:aC} (hp:PI p) (h:p.out.length≤999990) {b:Int} (h0:0≤b) (h1:b < 256):gZ p b=some (gf p b):=by
 unfold gZ gf
 by_cases s0:p.state=0
 ·rw [if_pos s0,s0,yL h hp.di h0 h1]; rfl
 ·have e0:(p.state == 0)=false:=by simpa using s0
  rw [if_neg s0,e0,cond_false]
  by_cases s1:p.state=1
  ·rw [if_pos s1,s1,tD h]; rfl
  ·have e1:(p.state == 1)=false:=by simpa using s1
   rw [if_neg s1,e1,cond_false]
   by_cases s2:p.state=2
   ·rw [if_pos s2,s2,Az h]; rfl
   ·have e2:(p.state == 2)=false:=by simpa using s2
    rw [if_neg s2,e2,cond_false]
    by_cases s3:p.state=3
    ·have e3:(p.state == 3)=true:=by simpa using s3
     rw [if_pos s3,e3,cond_true,wv h s3 hp.nu ⟨hp.n0,hp.n1⟩ h0 h1]; rfl
    ·have e3:(p.state == 3)=false:=by simpa using s3
     rw [if_neg s3,e3,cond_false]
     by_cases s4:p.state=4
     ·rw [if_pos s4,s4,AD h]; rfl
     ·have e4:(p.state == 4)=false:=by simpa using s4
      rw [if_neg s4,e4,cond_false]
      by_cases hb:b=92
      ·subst hb
       rw [if_pos rfl,xG h]; rfl
      ·have e5:(b == 92)=false:=by simpa using hb
       rw [if_neg hb,e5,cond_false,show aC.mk 1 p.order p.text p.bV p.out=stP p 1 from rfl,tD (by exact h)]; rfl
end Go.Tw.X
set_option linter.unusedVariables false
set_option linter.unusedSimpArgs false
set_option maxHeartbeats 1000000
namespace Go.Tw.X
open Go Go.Tw
def clr (p:aC):aC:=⟨p.state,p.order,p.text,p.bV,[]⟩
def kv (l:List aX) (q:aC):aC:=⟨q.state,q.order,q.text,q.bV,l++q.out⟩
theorem lG (p:aC) (b:Int):cE p b=((cE (clr p) b).1,kv p.out (cE (clr p) b).2):=by
 unfold cE
 repeat' split
 all_goals simp [kv,clr,stP,lU]
theorem wx (p:aC) (b:Int):iI p b=kv p.out (iI (clr p) b):=by
 unfold iI
 rw [show (clr p).order=p.order from rfl]
 split
 all_goals simp [kv,clr,stP]
theorem wy (p:aC) (b:Int):iH p b=kv p.out (iH (clr p) b):=by
 unfold iH
 split
 ·rw [lG]
  rw [lG (aC.mk (clr p).state (clr p).order (clr p).text d0 ((clr p).out++(pb (clr p).bV).map prA))]
  simp [kv,clr]
 ·simp [kv,clr,ku]
theorem sC (p:aC) (b:Int):fb p b=kv p.out (fb (clr p) b):=by
 unfold fb
 rw [lG p b]
 dsimp only
 split
 ·rfl
 ·repeat' split
  all_goals simp [kv,clr,stP,lU]
theorem AE (p:aC) (b:Int):lF p b=kv p.out (lF (clr p) b):=by
 unfold lF
 rw [lG p b]
 dsimp only
 split
 ·rfl
 ·split
  all_goals simp [kv,clr,stP]
theorem vl (p:aC) (b:Int):gb p b=kv p.out (gb (clr p) b):=by
 unfold gb
 rw [lG p b]
 dsimp only
 split
 ·rfl
 ·split
  ·exact wx _ b
  ·simp [kv,clr]
theorem vm (p:aC):iU p=kv p.out (iU (clr p)):=by simp [iU,kv,clr]
theorem yN (p:aC) (b:Int):gk p b=kv p.out (gk (clr p) b):=by
 unfold gk
 rw [show (clr p).text=p.text from rfl]
 split
 ·exact vm p
 ·repeat' split
  all_goals simp [kv,clr,stP]
theorem one_add (p:aC) (b:Int):gf p b=kv p.out (gf (clr p) b):=by
 unfold gf
 rw [show (clr p).state=p.state from rfl]
 split
 ·exact wy p b
 ·split
  ·exact sC p b
  ·split
   ·exact AE p b
   ·split
    ·exact vl p b
    ·split
     ·exact yN p b
     ·split
      ·exact vm p
      ·exact sC (stP p 1) b
def prun (p:aC) (bs:List Int):aC:=bs.foldl gf p
theorem AF (a b:List aX) (q:aC):kv a (kv b q)=kv (a++b) q:=by simp [kv]
theorem AG (a:List aX) (q:aC):clr (kv a q)=clr q:=rfl
theorem AH (q:aC):kv q.out (clr q)=q:=by simp [kv,clr]
theorem sD: ∀ (bs:List Int) (p:aC),prun p bs=kv p.out (prun (clr p) bs)
 | [],p=>(AH p).symm
 | b::bs,p=>by
  show prun (gf p b) bs=kv p.out (prun (gf (clr p) b) bs)
  rw [sD bs (gf p b),sD bs (gf (clr p) b),one_add p b,AF,AG]
  rfl
theorem sE (p:aC) (a b:List Int):prun p (a++b)=prun (prun p a) b:=List.foldl_append ..
theorem my {p:aC} (h:PI p) (hr:p.bV=d0) (b:Int):PI (cE p b).2∧(cE p b).2.out.length≤p.out.length+1:=by
 unfold cE
 split
 ·exact ⟨⟨h.di,fun _=>hr,h.nu,h.n0,h.n1,h.tx⟩,Nat.le_succ _⟩
 ·split
  ·exact ⟨⟨h.di,fun _=>hr,h.nu,h.n0,h.n1,h.tx⟩,Nat.le_succ _⟩
  ·split
   ·exact ⟨⟨h.di,fun _=>hr,h.nu,h.n0,h.n1,h.tx⟩,by simp [lU]⟩
   ·exact ⟨h,Nat.le_succ _⟩
theorem yO {p:aC} (h:PI p) (hs:p.state=0) {b:Int} (h0:0≤b) (h1:b < 256):PI (iH p b)∧(iH p b).out.length≤p.out.length+2:=by
 unfold iH
 have hl:(pb p.bV).length≤1:=by unfold pb; split <;> simp
 split
 ·have:=my (p:=⟨p.state,p.order,p.text,d0,p.out++(pb p.bV).map prA⟩) ⟨DI0,fun _=>rfl,h.nu,h.n0,h.n1,h.tx⟩ rfl b
  refine ⟨this.1,Nat.le_trans this.2 ?_⟩
  simp
  omega
 ·obtain ⟨n1,n2,n3,n4⟩:=pK h.di h0 h1
  exact ⟨⟨n2,fun hh=>absurd hs hh,h.nu,h.n0,h.n1,h.tx⟩,by simp [ku]; omega⟩
theorem qp {p:aC} (h:PI p) (hr:p.bV=d0) (b:Int):PI (fb p b)∧(fb p b).out.length≤p.out.length+1:=by
 unfold fb
 split
 ·exact my h hr b
 ·split
  ·exact ⟨⟨h.di,fun _=>hr,by simp [o0],by simp [o0],by simp [o0],h.tx⟩,Nat.le_succ _⟩
  ·split
   ·exact ⟨⟨h.di,fun _=>hr,h.nu,h.n0,h.n1,by simp [ByteArray.size]⟩,Nat.le_succ _⟩
   ·split
    ·exact ⟨⟨h.di,fun _=>hr,h.nu,h.n0,h.n1,h.tx⟩,Nat.le_succ _⟩
    ·split
     ·exact ⟨⟨h.di,fun _=>hr,h.nu,h.n0,h.n1,h.tx⟩,by simp [lU,stP]⟩
     ·exact ⟨⟨h.di,fun _=>hr,h.nu,h.n0,h.n1,h.tx⟩,Nat.le_succ _⟩
theorem xH {p:aC} (h:PI p) (hr:p.bV=d0) (b:Int):PI (lF p b)∧(lF p b).out.length≤p.out.length+1:=by
 unfold lF
 split
 ·exact my h hr b
 ·split
  ·exact ⟨⟨h.di,fun _=>hr,h.nu,h.n0,h.n1,h.tx⟩,Nat.le_succ _⟩
  ·exact ⟨h,Nat.le_succ _⟩
theorem oo {o:cV} (h:o.aY.length≤16):(lV o).aY.length≤16:=by
 unfold lV
 dsimp only
 split
 ·simp; omega
 ·exact h
theorem yP {p:aC} (h:PI p) (hr:p.bV=d0) (b:Int):PI (iI p b)∧(iI p b).out.length≤p.out.length+1:=by
 unfold iI
 cases p.order.gQ with
 | true=>exact ⟨⟨h.di,fun _=>hr,h.nu,h.n0,h.n1,h.tx⟩,Nat.le_succ _⟩
 | false =>
  cases p.order.some with
  | true=>exact ⟨⟨h.di,fun _=>hr,oo h.nu,Int.le_refl 0,show (0:Int)≤9999 from by decide,h.tx⟩,by simp⟩
  | false=>exact ⟨⟨h.di,fun _=>hr,h.nu,h.n0,h.n1,h.tx⟩,by simp⟩
theorem sF {p:aC} (h:PI p) (hr:p.bV=d0) {b:Int} (h0:0≤b):PI (gb p b)∧(gb p b).out.length≤p.out.length+1:=by
 unfold gb
 split
 ·exact my h hr b
 ·split
  ·exact yP (p:=⟨p.state,Cq p.order,p.text,p.bV,p.out⟩) ⟨h.di,fun _=>hr,h.nu,h.n0,h.n1,h.tx⟩ hr b
  ·refine ⟨⟨h.di,fun _=>hr,?_,?_,?_,h.tx⟩,Nat.le_succ _⟩
   all_goals (dsimp only; unfold cK; split)
   ·exact h.nu
   ·split
    ·exact oo h.nu
    ·split <;> exact h.nu
   ·rename_i hh
    have:=h.n0
    unfold dt
    dsimp only
    split <;> omega
   ·split
    ·exact Int.le_refl 0
    ·split <;> exact h.n0
   ·rename_i hh
    unfold dt
    dsimp only
    split <;> omega
   ·split
    ·show (0:Int)≤9999; decide
    ·split <;> exact h.n1
theorem rp {p:aC} (h:PI p) (hr:p.bV=d0):PI (iU p)∧(iU p).out.length≤p.out.length+1:=⟨⟨h.di,fun _=>hr,h.nu,h.n0,h.n1,h.tx⟩,by have:=xF p.text; simp [iU]; omega⟩
theorem vn {p:aC} (h:PI p) (hr:p.bV=d0) (b:Int):PI (gk p b)∧(gk p b).out.length≤p.out.length+1:=by
 unfold gk
 split
 ·exact rp h hr
 ·split
  ·exact ⟨⟨h.di,fun _=>hr,h.nu,h.n0,h.n1,h.tx⟩,Nat.le_succ _⟩
  ·split
   ·exact ⟨⟨h.di,fun _=>hr,h.nu,h.n0,h.n1,h.tx⟩,Nat.le_succ _⟩
   ·split
    ·rename_i ht
     refine ⟨⟨h.di,fun _=>hr,h.nu,h.n0,h.n1,?_⟩,Nat.le_succ _⟩
     dsimp only
     have e:(p.text++km [b]).size=p.text.size+1:=by rw [← cw,jA,List.length_append,cw,cw,oc]; rfl
     omega
    ·exact ⟨h,Nat.le_succ _⟩
theorem wz {p:aC} (h:PI p) {b:Int} (h0:0≤b) (h1:b < 256):PI (gf p b)∧(gf p b).out.length≤p.out.length+2:=by
 unfold gf
 split
 ·rename_i hs; exact yO h hs h0 h1
 ·rename_i hs
  have hr:=h.gr hs
  have up: ∀ q:aC,PI q∧q.out.length≤p.out.length+1→PI q∧q.out.length≤p.out.length+2:=fun q hq=>⟨hq.1,by omega⟩
  split
  ·exact up _ (qp h hr b)
  ·split
   ·exact up _ (xH h hr b)
   ·split
    ·exact up _ (sF h hr h0)
    ·split
     ·exact up _ (vn h hr b)
     ·split
      ·exact up _ (rp h hr)
      ·exact up _ (qp (p:=stP p 1) ⟨h.di,fun _=>hr,h.nu,h.n0,h.n1,h.tx⟩ hr b)
theorem lf: ∀ (bs:List Int) {p:aC},PI p→(∀ b∈bs,0≤b∧b < 256)→PI (prun p bs)∧(prun p bs).out.length≤p.out.length+2*bs.length
 | [],p,h,_=>⟨h,by simp [prun]⟩
 | b::bs,p,h,hb=>by
  obtain ⟨b0,b1⟩:=hb b List.mem_cons_self
  obtain ⟨k1,k2⟩:=wz h b0 b1
  obtain ⟨k3,k4⟩:=lf bs k1 fun x hx=>hb x (List.mem_cons_of_mem _ hx)
  exact ⟨k3,by show (prun (gf p b) bs).out.length≤_; simp; omega⟩
theorem Cs {p:aC} (h:PI p) {s:ByteArray} (hs:s.size≤400000):gB p s=some ((prun (clr p) (sbs s)).out,clr (prun (clr p) (sbs s))):=by
 unfold gB
 have hc:PI (clr p):=⟨h.di,h.gr,h.nu,h.n0,h.n1,h.tx⟩
 refine okE (bH (P:=fun y=>y=prun (clr p) (sbs s)) ?_ fun r hr=>by subst hr; exact aR rfl)
 refine ig (fun z:aC×Int=>0≤z.2∧z.2≤s.size∧z.1=prun (clr p) ((sbs s).take z.2.toNat)) (fun z=>s.size - z.2.toNat) ⟨Int.le_refl 0,by dsimp only; omega,rfl⟩ ?_
 rintro ⟨q,i⟩ ⟨h0,h1,h2⟩
 dsimp only at h0 h1 h2 ⊢
 subst h2
 have hby: ∀ b∈(sbs s).take i.toNat,0≤b∧b < 256:=fun b hb=>fZ s b (List.mem_of_mem_take hb)
 obtain ⟨k1,k2⟩:=lf _ hc hby
 refine hG (fun hi=> ?_) fun hi=>aR (by rw [List.take_of_length_le (by rw [cw]; omega)])
 refine bH (lE h0 hi) fun b hb=> ?_
 obtain ⟨⟨b0,b1⟩,hbd⟩:=hb
 have hlen:((sbs s).take i.toNat).length=i.toNat:=by rw [List.length_take,cw]; omega
 have hco:(clr p).out.length=0:=rfl
 rw [Cr k1 (by omega) b0 b1,w64 (by omega) (by omega)]
 refine aR ⟨⟨by dsimp only; omega,by dsimp only; omega,?_⟩,by dsimp only; omega⟩
 dsimp only
 have ht:(sbs s).take (i+1).toNat=(sbs s).take i.toNat++[b]:=by
  rw [show (i+1).toNat=i.toNat+1 by omega,List.take_add_one]
  congr 1
  have:=congrArg (fun l=>l[0]?) hbd
  simp only [List.getElem?_drop,Nat.add_zero,List.getElem?_cons_zero] at this
  rw [this]
  rfl
 rw [ht,sE]
 rfl
end Go.Tw.X
set_option linter.unusedVariables false
set_option linter.unusedSimpArgs false
set_option maxHeartbeats 1000000
namespace Go.Tw.X
open Go Go.Tw
def tA (a:aX):aO:=⟨a.kind,a.rune,a.byte,a.cv,a.aY,a.text⟩
def t200 (s:ByteArray):ByteArray:=if 200 < s.size then kD s 0 200 else s
theorem pM (s:ByteArray):sbs (t200 s)=(sbs s).take 200:=by
 unfold t200
 split
 ·rw [show (0:Int)=((0:Nat):Int) from rfl,show (200:Int)=((200:Nat):Int) from rfl,nL,List.drop_zero]
 ·rw [List.take_of_length_le (by rw [cw]; omega)]
theorem uq {s:ByteArray} {l:List Int} (h:sbs s=l) (i:Nat) {b:Int} (hb:l[i]?=some b):jh s (i:Int)=some b:=by
 subst h
 obtain ⟨h1,h2⟩:=List.getElem?_eq_some_iff.1 hb
 rw [sj s i h1,h2]
theorem yQ (s:ByteArray):jS s=some ((ttl (t200 s)).map tA):=by
 unfold jS
 have e1:((bif (decide ((s.size:Int) > 200)) then (Option.bind (chk (cF 0 200 s.size)) fun _=>some (kD s 0 200)) else some s):Option ByteArray)=some (t200 s):=by
  unfold t200
  by_cases h:200 < s.size
  ·rw [decide_eq_true (by omega),cond_true,bK (by decide) (by decide) (by omega),if_pos h]; rfl
  ·rw [decide_eq_false (by omega),cond_false,if_neg h]
 rw [e1,Option.bind_some]
 generalize t200 s=t
 have hz:t.size=(sbs t).length:=(cw t).symm
 unfold ttl
 match h:sbs t with
 | [] =>
  rw [h] at hz
  simp only [List.length_nil] at hz
  rw [decide_eq_false (by omega),cond_false,Option.bind_some]
  rfl
 | [x] =>
  rw [h] at hz
  simp only [List.length_cons,List.length_nil] at hz
  rw [decide_eq_false (by omega),cond_false,Option.bind_some]
  rfl
 | x::y::r =>
  rw [h] at hz
  have i0:jh t 0=some x:=uq h 0 rfl
  have i1:jh t 1=some y:=uq h 1 rfl
  simp only [List.length_cons] at hz
  rw [decide_eq_true (by omega),cond_true,i0,i1]
  simp only [Option.bind_some]
  have hcut:chk (cF 2 (t.size:Int) t.size)=some ():=bK (by decide) (by omega) (by omega)
  by_cases hy:y=59
  ·subst hy
   by_cases h1:x=48
   ·subst h1
    simp [hcut,tiA,tA]
   ·have e1:(x == 48)=false:=by simpa using h1
    by_cases h2:x=50
    ·subst h2
     simp [hcut,tiA,tA]
    ·have e2:(x == 50)=false:=by simpa using h2
     simp [e1,e2,h1,h2]
  ·have e3:(y == 59)=false:=by simpa using hy
   rw [e3,if_neg (fun hh=>hy hh.2)]
   cases (x == 48) <;> cases (x == 50) <;> rfl
def yR (o:cV):cV:=if o.some then lV o else o
def yS (bs:List Int):cV:=bs.foldl cK o0
def nO (o:cV) (b:Int):List aX:=if o.gQ then [] else [cmA (yR o) b]
theorem qq (p:aC) (b:Int):(iI p b).out=p.out++nO p.order b:=by
 unfold iI nO yR
 cases p.order.gQ <;> simp [stP]
theorem qO: ∀ (bs:List Int) (o:cV),o.gQ=true→(bs.foldl cK o).gQ=true
 | [],o,h=>h
 | b::bs,o,h=>qO bs (cK o b) (by
   unfold cK
   split
   ·exact h
   ·split
    ·exact h
    ·split
     ·exact h
     ·rfl)
theorem wA {o:cV} (h:o.gQ=true) (b:Int):nO o b=[]:=by unfold nO; rw [h]; rfl
def rA (pr:Bool) (aY:List Int) (b:Int):aO:=⟨4,0,b,pr,aY,ByteArray.mk #[]⟩
theorem yT (a b:Int):dt a b=dt b a:=by unfold dt; split <;> split <;> omega
theorem AI {s:ByteArray} (hs:s.size≤1000000) (last:Int):l6 s last=some ((nO (yS (sbs s)) last).map tA):=by
 unfold l6
 -- what the loop does
 have key: ∀ (t:ByteArray) (pr:Bool) (o:cV),t.size≤1000000→0 < t.size→o.cv=pr→o.gQ=false→o.aY=[]→o.n=0→o.some=false→(o.any=false→(sbs t)[0]?≠some 63) →
   okO (Option.bind (iter (σ:=aO×Int×Int) (ρ:=aO ⊕ (List aO)) (fun b=>(bif (decide (b.2.2≤(t.size:Int))) then (Option.bind ((Option.bind ((bif (decide (b.2.2 < (t.size:Int))) then (Option.bind (jh t b.2.2) fun b1247=>(bif (decide (b1247≥48)) then (Option.bind (jh t b.2.2) fun b1251=>some (decide (b1251≤57))) else some false)) else some false):Option Bool) fun d=>(bif d then (Option.bind (jh t b.2.2) fun b1259=>some (.inl ((dt 9999 (IntKind.i64.wrap ((IntKind.i64.wrap ((IntKind.i64.wrap (10*b.2.1))+(IntKind.i64.wrap b1259))) - 48))),b.1))) else (Option.bind ((bif (decide (b.2.2 < (t.size:Int))) then (Option.bind (jh t b.2.2) fun b1283=>(bif (b1283 != 59) then (Option.bind (jh t b.2.2) fun b1287=>some (b1287 != 58)) else some false)) else some false):Option Bool) fun f=>(bif f then (gT (ka (some ([]:List aO)))) else (Option.bind ((bif (decide ((b.1.aY.length:Int) < 16)) then (Option.bind (chk (dg b.1.aY.length [b.2.1].length 8)) fun _=>some (aO.mk b.1.kind b.1.rune b.1.byte b.1.cv (b.1.aY++[b.2.1]) b.1.text)) else some b.1):Option aO) fun g=>some (.inl (0,g))))))):Option ((Int×aO) ⊕ ((aO×Int×Int) ⊕ (aO ⊕ (List aO))))) fun | .inl e1222=>some (.inl (e1222.2,e1222.1,(IntKind.i64.wrap (b.2.2+1)))) | .inr w=>some w) else some (.inr (.inl b.1)))) (rA pr [] last,0,0)) fun | .inl e1007=>some [e1007] | .inr w=>some w)
    (fun r=>r=(nO ((sbs t).foldl cK o) last).map tA):=by
  intro t pr o hsz hpos hpr hw hnu hn hso hany
  refine bH (P:=fun | .inl a=>[a]=(nO ((sbs t).foldl cK o) last).map tA | .inr r=>r=(nO ((sbs t).foldl cK o) last).map tA) ?_ ?_
  rotate_left
  ·rintro (a | r) h
   ·exact aR h
   ·exact aR h
  refine ig (fun z:aO×Int×Int=>0≤z.2.2∧z.2.2≤t.size+1∧(z.2.2≤t.size → ∃ q:cV,((sbs t).take z.2.2.toNat).foldl cK o=q∧q.gQ=false∧q.cv=pr∧q.n=z.2.1∧z.1=rA pr q.aY last∧q.aY.length≤16∧0≤q.n∧q.n≤9999∧(q.any=false→z.2.2=0)∧(0 < z.2.2→q.some=true))∧(z.2.2=t.size+1→[z.1]=(nO ((sbs t).foldl cK o) last).map tA)) (fun z=>t.size+1 - z.2.2.toNat) ⟨Int.le_refl 0,by dsimp only; omega,fun _=>⟨o,rfl,hw,hpr,hn,by rw [hnu],by rw [hnu]; simp,by omega,by omega,fun _=>rfl,fun hh=>absurd hh (by show ¬ (0:Int) < 0; decide)⟩,fun hh=>by dsimp only at hh; omega⟩ ?_
  rintro ⟨a,n,i⟩ ⟨h0,h1,h2,h3⟩
  dsimp only at h0 h1 h2 h3 ⊢
  refine hG (fun hi=> ?_) fun hi=>aR (h3 (by omega))
  obtain ⟨q,hq,q1,q2,q3,q4,q5,q6,q7,q8,q9⟩:=h2 hi
  subst q4
  subst q3
  by_cases hlt:i < t.size
  ·-- a byte
   obtain ⟨c,hc,⟨c0,c1⟩,hcd⟩:=lE h0 hlt
   have ht:(sbs t).take (i+1).toNat=(sbs t).take i.toNat++[c]:=by
    rw [show (i+1).toNat=i.toNat+1 by omega,List.take_add_one]
    congr 1
    have:=congrArg (fun l=>l[0]?) hcd
    simp only [List.getElem?_drop,Nat.add_zero,List.getElem?_cons_zero] at this
    rw [this]
    rfl
   have hstep:((sbs t).take (i+1).toNat).foldl cK o=cK q c:=by rw [ht,List.foldl_append,hq]; rfl
   have hall:(sbs t).foldl cK o=((sbs t).drop (i.toNat+1)).foldl cK (cK q c):=by
    conv=>lhs; rw [← List.take_append_drop (i+1).toNat (sbs t)]
    rw [List.foldl_append,hstep,show (i+1).toNat=i.toNat+1 by omega]
   have h63:c=63→q.any=true:=by
    intro e
    cases hh:q.any with
    | true=>rfl
    | false =>
     exfalso
     have hi0:=q8 hh
     subst hi0
     have hq0:o=q:=hq
     have:=congrArg (fun l=>l[0]?) hcd
     simp only [List.getElem?_drop,Nat.add_zero,List.getElem?_cons_zero] at this
     exact hany (by rw [hq0]; exact hh) (by rw [e] at this; exact this)
   rw [decide_eq_true hlt]
   simp only [cond_true,hc,Option.bind_some]
   by_cases hd:48≤c∧c≤57
   ·have hcq:cK q c=⟨q.cv,q.gQ,true,true,dt (10*q.n+(c - 48)) 9999,q.aY⟩:=by unfold cK; rw [if_pos hd]
    rw [decide_eq_true hd.1,decide_eq_true hd.2]
    simp only [cond_true,Option.bind_some]
    rw [w64 (x:=10*q.n) (by omega) (by omega),w64 (x:=c) (by omega) (by omega),w64 (x:=10*q.n+c) (by omega) (by omega),w64 (x:=10*q.n+c - 48) (by omega) (by omega),w64 (x:=i+1) (by omega) (by omega)]
    have him:dt 9999 (10*q.n+c - 48)=dt (10*q.n+(c - 48)) 9999:=by rw [yT,show 10*q.n+c - 48=10*q.n+(c - 48) by omega]
    refine aR ⟨⟨by dsimp only; omega,by dsimp only; omega,fun _=>⟨cK q c,hstep,by rw [hcq]; exact q1,by rw [hcq]; exact q2,by rw [hcq]; exact him.symm,by rw [hcq],by rw [hcq]; exact q5,?_,?_,by rw [hcq]; simp,by rw [hcq]; simp⟩,fun hh=>by dsimp only at hh; omega⟩,by dsimp only; omega⟩
    ·rw [hcq]; dsimp only; unfold dt; split <;> omega
    ·rw [hcq]; dsimp only; unfold dt; split <;> omega
   ·have hfd:((bif (decide (c≥48)) then some (decide (c≤57)) else some false):Option Bool)=some false:=by
     by_cases hh:48≤c
     ·rw [decide_eq_true hh,decide_eq_false (by omega)]; rfl
     ·rw [decide_eq_false hh]; rfl
    rw [hfd]
    simp only [Option.bind_some,cond_false]
    by_cases hsep:c=59∨c=58
    ·have hfs:((bif (c != 59) then some (c != 58) else some false):Option Bool)=some false:=by rcases hsep with rfl | rfl <;> rfl
     have hcq:cK q c=⟨q.cv,q.gQ,true,true,0,(lV q).aY⟩:=by unfold cK; rw [if_neg hd,if_pos hsep]
     rw [hfs]
     simp only [Option.bind_some,cond_false]
     have hpush:((bif (decide (((rA pr q.aY last).aY.length:Int) < 16)) then (Option.bind (chk (dg (rA pr q.aY last).aY.length [q.n].length 8)) fun _=>some (aO.mk (rA pr q.aY last).kind (rA pr q.aY last).rune (rA pr q.aY last).byte (rA pr q.aY last).cv ((rA pr q.aY last).aY++[q.n]) (rA pr q.aY last).text)) else some (rA pr q.aY last)):Option aO)=some (rA pr (lV q).aY last):=by
      unfold lV
      by_cases hl:q.aY.length < 16
      ·rw [decide_eq_true (show ((rA pr q.aY last).aY.length:Int) < 16 by show (q.aY.length:Int) < 16; omega),cond_true,bI (by show (q.aY.length+1)*8≤_; omega)]
       simp only [if_pos hl]
       rfl
      ·rw [decide_eq_false (show ¬ ((rA pr q.aY last).aY.length:Int) < 16 by show ¬ (q.aY.length:Int) < 16; omega),cond_false]
       simp only [if_neg hl]
     rw [hpush]
     simp only [Option.bind_some]
     rw [w64 (x:=i+1) (by omega) (by omega)]
     refine aR ⟨⟨by dsimp only; omega,by dsimp only; omega,fun _=>⟨cK q c,hstep,by rw [hcq]; exact q1,by rw [hcq]; exact q2,by rw [hcq],by rw [hcq],by rw [hcq]; exact oo q5,by rw [hcq]; exact Int.le_refl 0,by rw [hcq]; show (0:Int)≤9999; decide,by rw [hcq]; simp,by rw [hcq]; simp⟩,fun hh=>by dsimp only at hh; omega⟩,by dsimp only; omega⟩
    ·have hfs:((bif (c != 59) then some (c != 58) else some false):Option Bool)=some true:=by
      have x1:(c != 59)=true:=by simpa using (show ¬ c=59 by omega)
      have x2:(c != 58)=true:=by simpa using (show ¬ c=58 by omega)
      rw [x1,x2]; rfl
     have hcq:(cK q c).gQ=true:=by
      unfold cK
      rw [if_neg hd,if_neg hsep]
      by_cases hh:c=63
      ·rw [if_neg (fun hx=>by rw [h63 hh] at hx; cases hx.2)]
      ·rw [if_neg (fun hx=>hh hx.1)]
     rw [hfs]
     simp only [Option.bind_some,cond_true]
     refine aR ?_
     show []=_
     rw [hall,wA (qO _ _ hcq)]
     rfl
  ·-- the end
   have hie:i=t.size:=by omega
   have hfull:(sbs t).foldl cK o=q:=by
    rw [← hq,List.take_of_length_le (by rw [cw]; omega)]
   have hsome:q.some=true:=q9 (by omega)
   rw [decide_eq_false hlt]
   simp only [cond_false,Option.bind_some]
   have hpush:((bif (decide (((rA pr q.aY last).aY.length:Int) < 16)) then (Option.bind (chk (dg (rA pr q.aY last).aY.length [q.n].length 8)) fun _=>some (aO.mk (rA pr q.aY last).kind (rA pr q.aY last).rune (rA pr q.aY last).byte (rA pr q.aY last).cv ((rA pr q.aY last).aY++[q.n]) (rA pr q.aY last).text)) else some (rA pr q.aY last)):Option aO)=some (rA pr (lV q).aY last):=by
    unfold lV
    by_cases hl:q.aY.length < 16
    ·rw [decide_eq_true (show ((rA pr q.aY last).aY.length:Int) < 16 by show (q.aY.length:Int) < 16; omega),cond_true,bI (by show (q.aY.length+1)*8≤_; omega)]
     simp only [if_pos hl]
     rfl
    ·rw [decide_eq_false (show ¬ ((rA pr q.aY last).aY.length:Int) < 16 by show ¬ (q.aY.length:Int) < 16; omega),cond_false]
     simp only [if_neg hl]
   rw [hpush]
   simp only [Option.bind_some]
   rw [w64 (x:=i+1) (by omega) (by omega)]
   refine aR ⟨⟨by dsimp only; omega,by dsimp only; omega,fun hh=>by dsimp only at hh; omega,fun _=> ?_⟩,by dsimp only; omega⟩
   dsimp only
   rw [hfull]
   unfold nO yR
   rw [q1,hsome]
   simp only [Bool.false_eq_true,if_false,if_true,List.map_cons,List.map_nil]
   have:(lV q).cv=pr:=q2
   simp only [cmA,tA,rA,this]
 have hsz:s.size=(sbs s).length:=(cw s).symm
 have str0: ∀ x:ByteArray,(x.toList == (ByteArray.mk #[]).toList)=decide (x=noS):=fun x=>xj x noS
 match h:sbs s with
 | [] =>
  have hs0:s=noS:=(rj s).2 h
  subst hs0
  simp only [str0,decide_true,Bool.not_true,cond_false,Option.bind_some,cond_true]
  rfl
 | c::r =>
  have hne: ¬ s=noS:=fun e=>by rw [(rj s).1 e] at h; cases h
  have i0:jh s 0=some c:=uq h 0 rfl
  rw [h] at hsz
  simp only [List.length_cons] at hsz
  by_cases hc:c=63
  ·subst hc
   have hst:sbs (kD s 1 (s.size:Int))=r:=by
    rw [show (1:Int)=((1:Nat):Int) from rfl,nL,h,List.take_of_length_le (by simp; omega)]
    rfl
   simp only [str0,decide_eq_false hne,Bool.not_false,cond_true,i0,Option.bind_some,beq_self_eq_true]
   rw [bK (by decide) (by omega) (by omega)]
   simp only [Option.bind_some]
   by_cases hr:r=[]
   ·subst hr
    have ht:kD s 1 (s.size:Int)=noS:=(rj _).2 hst
    rw [ht,decide_eq_true (show noS=noS from rfl),cond_true]
    rfl
   ·have ht: ¬ kD s 1 (s.size:Int)=noS:=fun e=>hr (by rw [← hst]; exact (rj _).1 e)
    rw [decide_eq_false ht,cond_false]
    have hl:(kD s 1 (s.size:Int)).size=r.length:=by rw [← cw,hst]
    have hr0:0 < r.length:=List.length_pos_iff.2 hr
    have:=okE (key (kD s 1 (s.size:Int)) true (cK o0 63) (by omega) (by omega) rfl rfl rfl rfl rfl (fun hh=>by cases hh))
    rw [hst] at this
    exact this
  ·have e0:(c == 63)=false:=by simpa using hc
   simp only [str0,decide_eq_false hne,Bool.not_false,cond_true,i0,Option.bind_some,e0,cond_false]
   have:=okE (key s false o0 hs (by omega) rfl rfl rfl rfl rfl (fun _=>by rw [h]; simpa using hc))
   rw [h] at this
   exact this
end Go.Tw.X
set_option linter.unusedVariables false
set_option linter.unusedSimpArgs false
set_option maxHeartbeats 2000000
namespace Go.Tw.X
open Go Go.Tw
theorem yU {l:List Int} (hl:l.length≤1000000):lA l=some (l.map fun r=>tA (prA r)):=by
 unfold lA
 refine okE (bH (P:=fun r=>r=l.map fun r=>tA (prA r)) ?_ fun r hr=>aR hr)
 refine ig (fun z:List aO×Int=>0≤z.2∧z.2≤l.length∧z.1=(l.take z.2.toNat).map fun r=>tA (prA r)) (fun z=>l.length - z.2.toNat) ⟨Int.le_refl 0,by dsimp only; omega,rfl⟩ ?_
 rintro ⟨o,i⟩ ⟨h0,h1,h2⟩
 dsimp only at h0 h1 h2 ⊢
 subst h2
 refine hG (fun hi=> ?_) fun hi=>aR (by rw [List.take_of_length_le (by omega)])
 obtain ⟨k,rfl⟩: ∃ k:Nat,i=k:=⟨i.toNat,by omega⟩
 have hk:k < l.length:=by omega
 refine bH (P:=fun x=>x=l[k]) ⟨_,dr l k hk,rfl⟩ fun x hx=> ?_
 subst hx
 refine bH (oP (by simp; omega)) fun _ _=> ?_
 rw [w64 (by omega) (by omega)]
 refine aR ⟨⟨by dsimp only; omega,by dsimp only; omega,?_⟩,by dsimp only; omega⟩
 dsimp only
 rw [show ((k:Int)+1).toNat=k+1 by omega]
 simp only [Int.toNat_natCast,List.take_add_one,List.getElem?_eq_getElem hk,Option.toList_some,List.map_append,List.map_cons,List.map_nil,prA,tA]
def kU (b:Int):Prop:=32≤b∧b≠127
theorem xI: ∀ (bs:List Int) (p:aC) (base:List aX) (l:List Int),p.state=0→(∀ b∈bs,kU b)→p.out=base++l.map prA→prun p bs=⟨0,p.order,p.text,(dfold p.bV l bs).1,base++(dfold p.bV l bs).2.map prA⟩
 | [],p,base,l,hs,_,ho=>by
  cases p
  simp only at hs ho
  subst hs ho
  rfl
 | b::bs,p,base,l,hs,hb,ho=>by
  have h1:=hb b List.mem_cons_self
  have e:gf p b=ku ⟨p.state,p.order,p.text,(iT p.bV b).1,p.out⟩ (iT p.bV b).2:=by
   unfold gf iH
   rw [if_pos hs,if_neg (by unfold kU at h1; omega)]
  have:=xI bs (gf p b) base (l++(iT p.bV b).2) (by rw [e]; exact hs) (fun x hx=>hb x (List.mem_cons_of_mem _ hx)) (by rw [e]; simp [ku,ho])
  show prun (gf p b) bs=_
  rw [this,e]
  rfl
theorem vo: ∀ (bs:List Int) (d:bD) (l:List Int),DI d→(∀ b∈bs,0≤b∧b < 256)→DI (dfold d l bs).1
 | [],d,l,h,_=>h
 | b::bs,d,l,h,hb=>vo bs _ _ (pK h (hb b List.mem_cons_self).1 (hb b List.mem_cons_self).2).2.1 fun x hx=>hb x (List.mem_cons_of_mem _ hx)
def p0:aC:=⟨0,o0,ByteArray.mk #[],d0,[]⟩
theorem vp:PI p0:=⟨DI0,fun h=>absurd rfl h,by simp [p0,o0],by simp [p0,o0],by simp [p0,o0],by simp [p0,ByteArray.size]⟩
structure RR (T:aC) (s:ByteArray) (o:List aO) (st e:Int) (bd:ByteArray) (p:aC):Prop where
 pi:PI p
 eo:o=p.out.map tA
 es:p.state=st
 s0:0≤st
 s4:st≤4
 gr:st=0→p.bV=d0
 co:st=3→p.order=yS (sbs bd)
 ti:st=4→p.text=t200 bd
 run:prun p ((sbs s).drop e.toNat)=T
theorem sG (o:cV) (b:Int):nO (Cq o) b=nO o b:=by
 unfold nO yR Cq lV
 cases o.some <;> rfl
theorem yV (s:ByteArray) (b:Int) (h0:0≤b) (h1:b < 256):yS (sbs (s++km [b]))=cK (yS (sbs s)) b:=by
 rw [jA,uU _ (fun x hx=>by rw [List.mem_singleton.1 hx]; exact ⟨h0,h1⟩)]
 exact List.foldl_append ..
theorem yW {s:ByteArray} {b:Int} (h0:0≤b) (h1:b < 256):t200 (s++km [b])=if (t200 s).size < 200 then t200 s++km [b] else t200 s:=by
 have hb:sbs (km [b])=[b]:=uU _ (fun x hx=>by rw [List.mem_singleton.1 hx]; exact ⟨h0,h1⟩)
 have hz:(t200 s).size=min 200 (sbs s).length:=by rw [← cw,pM,List.length_take]
 apply uc
 rw [pM,jA,hb]
 split
 ·rename_i h
  rw [jA,hb,pM,List.take_of_length_le (by simp; omega),List.take_of_length_le (by omega)]
 ·rename_i h
  rw [pM,List.take_append_of_le_length (by omega)]
theorem F0 (q:aC) {c:Int} (h: ¬ c=92):gf (stP q 5) c=fb (stP q 1) c:=by
 unfold gf
 rw [show (stP q 5).state=5 from rfl,if_neg (by decide),if_neg (by decide),if_neg (by decide),if_neg (by decide),if_neg (by decide),if_neg h]
 rfl
theorem Fa (q:aC) {c:Int} (h:c=92):gf (stP q 5) c=iU (stP q 5):=by
 unfold gf
 rw [show (stP q 5).state=5 from rfl,if_neg (by decide),if_neg (by decide),if_neg (by decide),if_neg (by decide),if_neg (by decide),if_pos h]
theorem F1 (q:aC) (c:Int):gf (stP q 1) c=fb (stP q 1) c:=by
 unfold gf
 rw [show (stP q 1).state=1 from rfl,if_neg (by decide),if_pos rfl]
def FPm (T:aC) (s:ByteArray) (p:Int):(List aO×Int×Int×ByteArray) ⊕ (List aO ⊕ List aO)→Prop
 | .inl z=>(0≤z.2.2.1∧z.2.2.1≤s.size∧(z.1.length:Int)≤2*z.2.2.1∧(z.2.2.2.size:Int)≤z.2.2.1 ∧ ∃ q,RR T s z.1 z.2.1 z.2.2.1 z.2.2.2 q)∧s.size - z.2.2.1.toNat < s.size - p.toNat
 | .inr (.inl l)=>l=T.out.map tA
 | .inr (.inr l)=>l=T.out.map tA
theorem yX {s:ByteArray} (hs:s.size≤100000):mU s=some ((prun p0 (sbs s)).out.map tA):=by
 refine okE ?_
 generalize hT:prun p0 (sbs s)=T
 have hby:=fZ s
 unfold mU
 refine bH (P:=fun | .inl l=>l=T.out.map tA | .inr l=>l=T.out.map tA) ?_ ?_
 rotate_left
 ·rintro (l | r) h
  ·exact aR h
  ·exact aR h
 refine ig (fun z:List aO×Int×Int×ByteArray=>0≤z.2.2.1∧z.2.2.1≤s.size∧(z.1.length:Int)≤2*z.2.2.1∧(z.2.2.2.size:Int)≤z.2.2.1 ∧ ∃ q,RR T s z.1 z.2.1 z.2.2.1 z.2.2.2 q) (fun z=>s.size - z.2.2.1.toNat) ⟨Int.le_refl 0,by dsimp only; omega,by simp,by simp [ByteArray.size],p0,vp,rfl,rfl,by decide,by decide,fun _=>rfl,fun h=>(by cases h),fun h=>(by cases h),hT⟩ ?_
 rintro ⟨o,st,p,bd⟩ ⟨h0,h1,h2,h4,q,hq⟩
 dsimp only at h0 h1 h2 h4 hq ⊢
 refine hG (fun hp=> ?_) fun hp=> ?_
 rotate_left
 ·have:=hq.run
  rw [jX (by omega)] at this
  exact aR (by show o=_; rw [hq.eo,← this]; rfl)
 -- up to the next byte that is none of the ground
 refine bH (P:=fun | .inl z=>p≤z.2∧z.2 < s.size∧(z.1.length:Int)≤2*z.2+1∧(∃ q',PI q'∧z.1=q'.out.map tA∧q'.state=st∧(st=3→q'.order=yS (sbs bd))∧(st=4→q'.text=t200 bd)∧((st=0∧q'.bV=d0 ∧ ∀ b,(sbs s).drop z.2.toNat=b::(sbs s).drop (z.2.toNat+1) → ¬ kU b∧prun (cE q' b).2 ((sbs s).drop (z.2.toNat+1))=T)∨(st≠0∧prun q' ((sbs s).drop z.2.toNat)=T))) | .inr (.inl _)=>False | .inr (.inr (.inl _))=>False | .inr (.inr (.inr l))=>l=T.out.map tA) ?_ ?_
 ·refine ok_eq (fun hst=> ?_) fun hst=>aR ⟨by dsimp only; omega,hp,by dsimp only; omega,q,hq.pi,hq.eo,hq.es,hq.co,hq.ti,.inr ⟨hst,hq.run⟩⟩
  subst hst
  refine bH (P:=fun e=>p≤e∧e≤s.size∧(∀ b∈((sbs s).drop p.toNat).take (e.toNat - p.toNat),kU b)∧(e < s.size → ∀ b,(sbs s).drop e.toNat=b::(sbs s).drop (e.toNat+1) → ¬ kU b)) ?_ fun e he=> ?_
  ·refine ig (fun e:Int=>p≤e∧e≤s.size∧(∀ b∈((sbs s).drop p.toNat).take (e.toNat - p.toNat),kU b)) (fun e=>s.size - e.toNat) ⟨by omega,by omega,by simp⟩ ?_
   rintro e ⟨g0,g1,g2⟩
   refine bH (P:=fun c=>(c=true→e < s.size ∧ ∃ b,(sbs s).drop e.toNat=b::(sbs s).drop (e.toNat+1)∧kU b)∧(c=false→e < s.size → ∀ b,(sbs s).drop e.toNat=b::(sbs s).drop (e.toNat+1) → ¬ kU b)) ?_ fun c hc=> ?_
   ·refine hG (fun h=> ?_) fun h=>aR ⟨fun e=>(by cases e),fun _ hh=>absurd hh h⟩
    obtain ⟨b,hb,hb2,hbd⟩:=lE (show 0≤e by omega) h
    rw [hb]
    simp only [Option.bind_some]
    by_cases hb32:b≥32
    ·rw [decide_eq_true hb32,cond_true]
     refine aR ⟨fun hh=>⟨h,b,hbd,hb32,by simpa using hh⟩,fun hh _ b' hb'=> ?_⟩
     rw [hbd] at hb'
     injection hb' with e1 _
     subst e1
     unfold kU
     have:b=127:=by simpa using hh
     omega
    ·rw [decide_eq_false hb32,cond_false]
     refine aR ⟨fun hh=>(by cases hh),fun hh _ b' hb'=> ?_⟩
     rw [hbd] at hb'
     injection hb' with e1 _
     subst e1
     unfold kU
     omega
   ·refine lD (fun h=> ?_) fun h=>aR ⟨g0,g1,g2,hc.2 h⟩
    obtain ⟨k1,b,k2,k3⟩:=hc.1 h
    rw [w64 (x:=e+1) (by omega) (by omega)]
    refine aR ⟨⟨by omega,by omega,?_⟩,by omega⟩
    rw [show (e+1).toNat - p.toNat=(e.toNat - p.toNat)+1 by omega,List.take_add_one]
    intro x hx
    rcases List.mem_append.1 hx with hx | hx
    ·exact g2 x hx
    ·have e1:((sbs s).drop p.toNat)[e.toNat - p.toNat]?=some b:=by
      have:=congrArg (fun l=>l[0]?) k2
      simp only [List.getElem?_drop,Nat.add_zero,List.getElem?_cons_zero] at this
      rw [List.getElem?_drop,show p.toNat+(e.toNat - p.toNat)=e.toNat by omega]
      exact this
     rw [e1] at hx
     simp at hx
     rw [hx]
     exact k3
  ·obtain ⟨g0,g1,g2,g3⟩:=he
   refine bH (ql h0 g0 (by omega)) fun _ _=> ?_
   have hz:=sA s h0 g0 g1
   have hseg:sbs (kD s p e)=((sbs s).drop p.toNat).take (e.toNat - p.toNat):=by
    have:=nL s p.toNat e.toNat
    rw [Int.toNat_of_nonneg h0,Int.toNat_of_nonneg (show 0≤e by omega)] at this
    rw [this,List.drop_take]
   refine bH (Ay (by omega)) fun r hr=> ?_
   obtain ⟨⟨r1,r2,r3⟩,r4,r5⟩:=hr
   rw [hseg] at r1 r3
   rw [yU (by omega),Option.bind_some]
   have hlr:(r.1.map fun r=>tA (prA r)).length=r.1.length:=List.length_map ..
   refine bH (oP (by rw [hlr]; omega)) fun _ _=> ?_
   -- the parser behind the piece
   have hrun:=xI _ q q.out [] hq.es g2 (by simp)
   rw [hq.gr rfl] at hrun
   have hdi:=vo (((sbs s).drop p.toNat).take (e.toNat - p.toNat)) d0 [] DI0 (fun b hb=>hby b (List.mem_of_mem_drop (List.mem_of_mem_take hb)))
   have hsplit:(sbs s).drop p.toNat=((sbs s).drop p.toNat).take (e.toNat - p.toNat)++(sbs s).drop e.toNat:=by
    conv=>lhs; rw [← List.take_append_drop (e.toNat - p.toNat) ((sbs s).drop p.toNat)]
    rw [List.drop_drop,show p.toNat+(e.toNat - p.toNat)=e.toNat by omega]
   have hT2:=hq.run
   rw [hsplit,sE,hrun,← r1] at hT2
   have hmap:(r.1.map fun r=>tA (prA r))=(r.1.map prA).map tA:=by rw [List.map_map]; rfl
   refine ok_eq (fun hee=> ?_) fun hne=> ?_
   ·refine ue (uf (aR ?_))
    rw [jX hee] at hT2
    show o++_=_
    rw [← hT2,hq.eo,hmap,← List.map_append]
    rfl
   ·have hend:pb (dfold d0 [] (((sbs s).drop p.toNat).take (e.toNat - p.toNat))).1=if 0 < r.2 then [65533] else []:=by
     unfold pb
     by_cases hr2:0 < r.2
     ·rw [if_pos hr2,if_neg (by have:=r3.1 hr2; omega)]
     ·rw [if_neg hr2,if_pos (by have:=mt r3.2 hr2; omega)]
    refine bH (P:=fun l=>l=(q.out++r.1.map prA++(pb (dfold d0 [] (((sbs s).drop p.toNat).take (e.toNat - p.toNat))).1).map prA).map tA∧(l.length:Int)≤2*e+1) ?_ fun l hl=> ?_
    ·rw [hend]
     refine hG (fun h=> ?_) fun h=> ?_
     ·rw [if_pos h]
      refine bH (oP (by rw [List.length_append,hlr]; simp; omega)) fun _ _=>aR ⟨?_,by rw [List.length_append,List.length_append,hlr]; simp; omega⟩
      rw [hq.eo,hmap]
      simp [tA,prA]
     ·rw [if_neg h]
      refine aR ⟨?_,by rw [List.length_append,hlr]; omega⟩
      rw [hq.eo,hmap]
      simp
    ·refine aR ⟨g0,by dsimp only; omega,hl.2,⟨0,q.order,q.text,d0,q.out++r.1.map prA++(pb (dfold d0 [] (((sbs s).drop p.toNat).take (e.toNat - p.toNat))).1).map prA⟩,⟨DI0,fun _=>rfl,hq.pi.nu,hq.pi.n0,hq.pi.n1,hq.pi.tx⟩,hl.1,rfl,fun h=>(by cases h),fun h=>(by cases h),.inl ⟨rfl,rfl,fun b hb=> ?_⟩⟩
     dsimp only at hb ⊢
     have hnp:=g3 (by omega) b hb
     refine ⟨hnp,?_⟩
     rw [hb] at hT2
     rw [← hT2]
     show _=prun (gf _ b) _
     unfold gf iH
     rw [if_pos rfl,if_pos (by unfold kU at hnp; omega)]
 ·rintro (⟨o1,e⟩ | (l | (l | l))) hl
  rotate_left
  ·exact hl.elim
  ·exact hl.elim
  ·exact aR hl
  obtain ⟨g0,g1,g3,q',k1,k2,k3,k4,k5,k6⟩:=hl
  dsimp only at g0 g1 g3 k2 k6 ⊢
  have hs0:=hq.s0
  have hs4:=hq.s4
  refine BY (P:=FPm T s p) ?_ (by rintro (z | (l | l)) h <;> exact h)
  refine bH (lE (by omega) g1) fun b hb=> ?_
  obtain ⟨hb,hbd⟩:=hb
  have w1:IntKind.i64.wrap (e+1)=e+1:=w64 (by omega) (by omega)
  have w2:IntKind.i64.wrap (e+1+1)=e+1+1:=w64 (by omega) (by omega)
  have wb:IntKind.i64.wrap b=b:=w64 (by omega) (by omega)
  have wu:IntKind.u8.wrap b=b:=by simp [IntKind.wrap,IntKind.bits,IntKind.signed]; omega
  simp only [w1,w2,wb,wu]
  have ee:(e+1).toNat=e.toNat+1:=by omega
  have hr:q'.bV=d0:=by
   rcases k6 with ⟨a1,a2,a3⟩ | ⟨a1,a2⟩
   ·exact a2
   ·exact k1.gr (by rw [k3]; exact a1)
  have fin: ∀ (o':List aO) (st' p':Int) (bd':ByteArray) (q2:aC),(o'.length:Int)≤2*p'→p+1≤p'→p'≤s.size→(bd'.size:Int)≤p'→RR T s o' st' p' bd' q2→FPm T s p (.inl (o',st',p',bd')):=fun o' st' p' bd' q2 a2 a3 a4 a5 a6=>⟨⟨by dsimp only; omega,a4,a2,a5,q2,a6⟩,by dsimp only; omega⟩
  have ap1: ∀ {l:List aO},l.length≤1→okO (chk (dg o1.length l.length 72)) (fun _=>True):=fun {l} hl=>oP (by omega)
  have bsz:(km [b]).size=1:=by rw [oc]; rfl
  have la: ∀ {l:List aO},l.length≤1→((o1++l).length:Int)≤2*(e+1):=fun {l} hl=>by rw [List.length_append]; omega
  have htl: ∀ t:ByteArray,((ttl t).map tA).length≤1:=fun t=>by rw [List.length_map]; exact xF t
  refine ok_eq (fun h4s=> ?_) fun h4s=> ?_
  ·-- within a title
   subst h4s
   have k6':prun (gk q' b) ((sbs s).drop (e.toNat+1))=T:=by
    rcases k6 with ⟨a1,a2,a3⟩ | ⟨a1,a2⟩
    ·cases a1
    ·rw [hbd] at a2
     have:gf q' b=gk q' b:=by
      unfold gf
      rw [k3]
      rfl
     rw [← this]
     exact a2
   have ht:=k5 rfl
   have hst:=yQ bd
   refine bH (P:=fun | .inl z=>FPm T s p (.inl z) | .inr (.inl _)=>False | .inr (.inr (.inl _))=>False | .inr (.inr (.inr l))=>l=T.out.map tA) ?_ ?_
   ·refine ok_eq (fun hb7=> ?_) fun hb7=> ?_
    ·rw [hst,Option.bind_some]
     refine bH (ap1 (htl _)) fun _ _=>aR (fin _ _ _ _ (iU q') (la (htl _)) (by omega) (by omega) (by omega) ⟨(rp k1 hr).1,?_,rfl,by decide,by decide,fun _=>hr,fun h=>(by cases h),fun h=>(by cases h),?_⟩)
     ·rw [k2,← ht]; simp [iU]
     ·rw [ee]
      have:gk q' b=iU q':=if_pos hb7
      rw [← this]
      exact k6'
    ·refine bH (P:=fun c=>c=true↔(b=24∨b=26)) (ok_eq (fun h=>aR (by simp [h])) fun h=>aR (by simp [h])) fun c hc=> ?_
     refine lD (fun h=> ?_) fun h=> ?_
     ·have:gk q' b=stP q' 0:=by unfold gk; rw [if_neg hb7,if_pos (hc.1 h)]
      rw [this] at k6'
      exact aR (fin _ _ _ _ (stP q' 0) (by omega) (by omega) (by omega) (by omega) ⟨⟨k1.di,fun _=>hr,k1.nu,k1.n0,k1.n1,k1.tx⟩,k2,rfl,by decide,by decide,fun _=>hr,fun h=>(by cases h),fun h=>(by cases h),by rw [ee]; exact k6'⟩)
     ·have hn2: ¬ (b=24∨b=26):=fun hh=>by rw [hc.2 hh] at h; cases h
      refine ET (fun h27=> ?_) fun h27=> ?_
      ·have hti:=(vn k1 hr b).1
       have htt:gk q' b=if q'.text.size < 200 then ⟨q'.state,q'.order,q'.text++km [b],q'.bV,q'.out⟩ else q':=by unfold gk; rw [if_neg hb7,if_neg hn2,if_neg h27]
       refine bH (xo (by rw [bsz]; omega)) fun _ _=>aR (fin _ _ _ _ (gk q' b) (by omega) (by omega) (by omega) (by rw [ByteArray.size_append,bsz]; omega) ⟨hti,?_,?_,by decide,by decide,fun h=>(by cases h),fun h=>(by cases h),fun _=> ?_,by rw [ee]; exact k6'⟩)
       ·rw [k2,htt]; split <;> rfl
       ·rw [htt]; split <;> exact k3
       ·rw [htt,yW hb.1 hb.2,← ht]; split <;> rfl
      ·have htt:gk q' b=stP q' 5:=by unfold gk; rw [if_neg hb7,if_neg hn2,if_pos h27]
       rw [htt] at k6'
       refine ok_eq (fun hend=> ?_) fun hend=> ?_
       ·rw [show e.toNat+1=(e+1).toNat by omega,jX hend] at k6'
        exact ue (uf (aR (by show o1=_; rw [k2,← k6']; rfl)))
       ·refine bH (lE (by omega) (by omega)) fun c hc=> ?_
        obtain ⟨hc,hcd⟩:=hc
        rw [show (e+1).toNat=e.toNat+1 by omega] at hcd
        rw [hcd] at k6'
        refine ok_eq (fun hc92=> ?_) fun hc92=> ?_
        ·rw [hst,Option.bind_some]
         have hov:gf (stP q' 5) c=iU (stP q' 5):=Fa q' hc92
         refine bH (ap1 (htl _)) fun _ _=>aR (fin _ _ _ _ (iU (stP q' 5)) (by have:=la (htl (t200 bd)); omega) (by omega) (by omega) (by omega) ⟨(rp (p:=stP q' 5) ⟨k1.di,fun _=>hr,k1.nu,k1.n0,k1.n1,k1.tx⟩ hr).1,?_,rfl,by decide,by decide,fun _=>hr,fun h=>(by cases h),fun h=>(by cases h),?_⟩)
         ·rw [k2,← ht]; simp [iU,stP]
         ·rw [show (e+1+1).toNat=e.toNat+1+1 by omega,← hov]
          exact k6'
        ·have hes:gf (stP q' 5) c=gf (stP q' 1) c:=(F0 q' hc92).trans (F1 q' c).symm
         refine aR (fin _ _ _ _ (stP q' 1) (by omega) (by omega) (by omega) (by omega) ⟨⟨k1.di,fun _=>hr,k1.nu,k1.n0,k1.n1,k1.tx⟩,k2,rfl,by decide,by decide,fun _=>hr,fun h=>(by cases h),fun h=>(by cases h),?_⟩)
         rw [show (e+1).toNat=e.toNat+1 by omega,hcd]
         show prun (gf (stP q' 1) c) _=T
         rw [← hes]
         exact k6'
   ·rintro (⟨o',st',p',bd'⟩ | (l | (l | l))) hl
    ·exact aR hl
    ·exact hl.elim
    ·exact hl.elim
    ·exact aR hl
  ·-- elsewhere
   have hcom:(cE q' b).1=true→prun (cE q' b).2 ((sbs s).drop (e.toNat+1))=T:=by
    intro hc
    rcases k6 with ⟨a1,a2,a3⟩ | ⟨a1,a2⟩
    ·exact (a3 b hbd).2
    ·rw [hbd] at a2
     have:gf q' b=(cE q' b).2:=by
      unfold gf
      rw [k3,if_neg a1]
      have h123:st=1∨st=2∨st=3:=by omega
      rcases h123 with rfl | rfl | rfl
      ·rw [if_pos rfl]; unfold fb; rw [if_pos hc]
      ·rw [if_neg (by decide),if_pos rfl]; unfold lF; rw [if_pos hc]
      ·rw [if_neg (by decide),if_neg (by decide),if_pos rfl]; unfold gb; rw [if_pos hc]
     rw [← this]
     exact a2
   have hcP:=(my k1 hr b).1
   refine bH (P:=fun c=>c=true↔(b=24∨b=26)) (ok_eq (fun h=>aR (by simp [h])) fun h=>aR (by simp [h])) fun c hc=> ?_
   refine lD (fun h=> ?_) fun h=> ?_
   ·have hq2:cE q' b=(true,stP q' 0):=if_pos (hc.1 h)
    rw [hq2] at hcom hcP
    exact aR (fin _ _ _ _ (stP q' 0) (by omega) (by omega) (by omega) (by omega) ⟨hcP,k2,rfl,by decide,by decide,fun _=>hr,fun h=>(by cases h),fun h=>(by cases h),by rw [ee]; exact hcom rfl⟩)
   have hn2: ¬ (b=24∨b=26):=fun hh=>by rw [hc.2 hh] at h; cases h
   refine ok_eq (fun h27=> ?_) fun h27=> ?_
   ·have hq2:cE q' b=(true,stP q' 1):=by unfold cE; rw [if_neg hn2,if_pos h27]
    rw [hq2] at hcom hcP
    exact aR (fin _ _ _ _ (stP q' 1) (by omega) (by omega) (by omega) (by omega) ⟨hcP,k2,rfl,by decide,by decide,fun _=>hr,fun h=>(by cases h),fun h=>(by cases h),by rw [ee]; exact hcom rfl⟩)
   refine hG (fun h32=> ?_) fun h32=> ?_
   ·have hq2:cE q' b=(true,lU q' (ctA b)):=by unfold cE; rw [if_neg hn2,if_neg h27,if_pos h32]
    rw [hq2] at hcom hcP
    refine bH (ap1 (by simp)) fun _ _=>aR (fin _ _ _ _ (lU q' (ctA b)) (la (by simp)) (by omega) (by omega) (by omega) ⟨hcP,?_,k3,hs0,hs4,fun _=>hr,k4,k5,by rw [ee]; exact hcom rfl⟩)
    rw [k2]; simp [lU,tA,ctA]
   have hq2:cE q' b=(b == 127,q'):=by unfold cE; rw [if_neg hn2,if_neg h27,if_neg h32]
   refine ok_eq (fun h127=> ?_) fun h127=> ?_
   ·rw [hq2] at hcom hcP
    exact aR (fin _ _ _ _ q' (by omega) (by omega) (by omega) (by omega) ⟨hcP,k2,k3,hs0,hs4,fun _=>hr,k4,k5,by rw [ee]; exact hcom (by simpa using h127)⟩)
   have hc1:(cE q' b).1=false:=by rw [hq2]; simpa using h127
   -- not on the ground
   have hst0:st≠0∧prun (gf q' b) ((sbs s).drop (e.toNat+1))=T:=by
    rcases k6 with ⟨a1,a2,a3⟩ | ⟨a1,a2⟩
    ·exact absurd (show kU b from ⟨by omega,h127⟩) (a3 b hbd).1
    ·rw [hbd] at a2
     exact ⟨a1,a2⟩
   obtain ⟨hst0,hrn⟩:=hst0
   have hz0:((ByteArray.mk #[]).size:Int)=0:=rfl
   refine ok_eq (fun hs1=> ?_) fun hs1=> ?_
   ·subst hs1
    have ho:gf q' b=fb q' b:=by unfold gf; rw [k3,if_neg (by decide),if_pos rfl]
    have hPI:=(qp k1 hr b).1
    rw [ho] at hrn
    unfold fb at hrn hPI
    rw [if_neg (by rw [hc1]; decide)] at hrn hPI
    refine ok_eq (fun h91=> ?_) fun h91=> ?_
    ·rw [if_pos h91] at hrn hPI
     exact aR (fin _ _ _ _ _ (by omega) (by omega) (by omega) (by omega) ⟨hPI,k2,rfl,by decide,by decide,fun h=>(by cases h),fun _=>rfl,fun h=>(by cases h),by rw [ee]; exact hrn⟩)
    rw [if_neg h91] at hrn hPI
    refine ok_eq (fun h93=> ?_) fun h93=> ?_
    ·rw [if_pos h93] at hrn hPI
     exact aR (fin _ _ _ _ _ (by omega) (by omega) (by omega) (by omega) ⟨hPI,k2,rfl,by decide,by decide,fun h=>(by cases h),fun h=>(by cases h),fun _=>rfl,by rw [ee]; exact hrn⟩)
    rw [if_neg h93] at hrn hPI
    refine hG (fun h48=> ?_) fun h48=> ?_
    ·rw [if_pos h48] at hrn hPI
     exact aR (fin _ _ _ _ _ (by omega) (by omega) (by omega) (by omega) ⟨hPI,k2,rfl,by decide,by decide,fun h=>(by cases h),fun h=>(by cases h),fun h=>(by cases h),by rw [ee]; exact hrn⟩)
    rw [if_neg h48] at hrn hPI
    refine hG (fun hd=> ?_) fun hd=> ?_
    ·rw [if_pos hd] at hrn hPI
     refine bH (ap1 (by simp)) fun _ _=>aR (fin _ _ _ _ _ (la (by simp)) (by omega) (by omega) (by omega) ⟨hPI,?_,rfl,by decide,by decide,fun _=>hr,fun h=>(by cases h),fun h=>(by cases h),by rw [ee]; exact hrn⟩)
     rw [k2]; simp [stP,lU,tA,E9]
    ·rw [if_neg hd] at hrn hPI
     exact aR (fin _ _ _ _ _ (by omega) (by omega) (by omega) (by omega) ⟨hPI,k2,rfl,by decide,by decide,fun _=>hr,fun h=>(by cases h),fun h=>(by cases h),by rw [ee]; exact hrn⟩)
   ·refine ok_eq (fun hs2=> ?_) fun hs2=> ?_
    ·subst hs2
     have ho:gf q' b=lF q' b:=by unfold gf; rw [k3,if_neg (by decide),if_neg (by decide),if_pos rfl]
     have hPI:=(xH k1 hr b).1
     rw [ho] at hrn
     unfold lF at hrn hPI
     rw [if_neg (by rw [hc1]; decide)] at hrn hPI
     refine hG (fun h48=> ?_) fun h48=> ?_
     ·rw [if_pos h48] at hrn hPI
      exact aR (fin _ _ _ _ _ (by omega) (by omega) (by omega) (by omega) ⟨hPI,k2,rfl,by decide,by decide,fun _=>hr,fun h=>(by cases h),fun h=>(by cases h),by rw [ee]; exact hrn⟩)
     ·rw [if_neg h48] at hrn hPI
      exact aR (fin _ _ _ _ _ (by omega) (by omega) (by omega) (by omega) ⟨hPI,k2,k3,by decide,by decide,fun _=>hr,fun h=>(by cases h),fun h=>(by cases h),by rw [ee]; exact hrn⟩)
    ·refine ok_eq (fun hs3=> ?_) fun hs3=>absurd (show st=1∨st=2∨st=3 by omega) (by omega)
     subst hs3
     have ho:gf q' b=gb q' b:=by unfold gf; rw [k3,if_neg (by decide),if_neg (by decide),if_neg (by decide),if_pos rfl]
     have hPI:=(sF k1 hr (b:=b) hb.1).1
     rw [ho] at hrn
     unfold gb at hrn hPI
     rw [if_neg (by rw [hc1]; decide)] at hrn hPI
     have hord:=k4 rfl
     refine bH (P:=fun c=>c=true ↔ ¬ (64≤b∧b < 127)) (hG (fun h=>aR (by simp; omega)) fun h=>aR (by simp; omega)) fun c hc=> ?_
     refine lD (fun h=> ?_) fun h=> ?_
     ·rw [if_neg (hc.1 h)] at hrn hPI
      refine bH (xo (by rw [bsz]; omega)) fun _ _=>aR (fin _ _ _ _ _ (by omega) (by omega) (by omega) (by rw [ByteArray.size_append,bsz]; omega) ⟨hPI,k2,k3,by decide,by decide,fun h=>(by cases h),fun _=> ?_,fun h=>(by cases h),by rw [ee]; exact hrn⟩)
      show cK q'.order b=_
      rw [yV _ _ hb.1 hb.2,← hord]
     ·have h64:64≤b∧b < 127:=Classical.byContradiction fun hh=>by rw [hc.2 hh] at h; cases h
      rw [if_pos h64] at hrn hPI
      rw [AI (by omega),Option.bind_some]
      have hl1:((nO (yS (sbs bd)) b).map tA).length≤1:=by rw [List.length_map]; unfold nO; split <;> simp
      refine bH (ap1 hl1) fun _ _=>aR (fin _ _ _ _ _ (la hl1) (by omega) (by omega) (by omega) ⟨hPI,?_,?_,by decide,by decide,fun _=> ?_,fun h=>(by cases h),fun h=>(by cases h),by rw [ee]; exact hrn⟩)
      ·rw [qq,sG,k2,hord]; simp
      ·unfold iI; split <;> rfl
      ·unfold iI; split <;> exact hr
end Go.Tw.X
set_option linter.unusedVariables false
set_option linter.unusedSimpArgs false
set_option maxHeartbeats 1000000
namespace Go.Tw.X
open Go Go.Tw
def aOk (a:aX):Prop:=rok a.rune∧0≤a.byte∧a.byte < 256∧a.aY.length≤16
def ni (l:List aX):Prop:= ∀ a∈l,aOk a
theorem mz {a b:List aX} (ha:ni a) (hb:ni b):ni (a++b):=fun x h=>(List.mem_append.1 h).elim (ha x) (hb x)
theorem pN {a:aX} (h:aOk a):ni [a]:=fun x hx=>by rw [List.mem_singleton.1 hx]; exact h
theorem xJ {l:List Int} (h:sB l):ni (l.map prA):=fun x hx=>by
 obtain ⟨r,hr,rfl⟩:=List.mem_map.1 hx
 exact ⟨h r hr,by show (0:Int)≤0; decide,by show (0:Int) < 256; decide,by show 0≤16; decide⟩
theorem AJ (t:ByteArray):ni (ttl t):=by
 have hz:rok 0:=⟨by decide,by decide⟩
 unfold ttl
 split
 ·split
  ·exact pN ⟨hz,by show (0:Int)≤0; decide,by show (0:Int) < 256; decide,by show 0≤16; decide⟩
  ·exact fun x hx=>by cases hx
 ·exact fun x hx=>by cases hx
theorem oq {p:aC} (h:ni p.out) {b:Int} (h0:0≤b) (h1:b < 256):ni (cE p b).2.out:=by
 have hz:rok 0:=⟨by decide,by decide⟩
 unfold cE
 split
 ·exact h
 ·split
  ·exact h
  ·split
   ·exact mz h (pN ⟨hz,h0,h1,by show 0≤16; decide⟩)
   ·exact h
theorem D7 {p:aC} (hp:PI p) (h:ni p.out) {b:Int} (h0:0≤b) (h1:b < 256):ni (gf p b).out:=by
 have hz:rok 0:=⟨by decide,by decide⟩
 have hesc: ∀ q:aC,ni q.out→ni (fb q b).out:=fun q hq=>by
  unfold fb
  split
  ·exact oq hq h0 h1
  ·repeat' split
   all_goals first | exact hq | exact mz hq (pN ⟨hz,h0,h1,by show 0≤16; decide⟩)
 have hov: ∀ q:aC,ni q.out→ni (iU q).out:=fun q hq=>mz hq (AJ _)
 unfold gf
 split
 ·unfold iH
  split
  ·refine oq (mz h (xJ fun x hx=> ?_)) h0 h1
   unfold pb at hx
   split at hx
   ·cases hx
   ·rw [List.mem_singleton.1 hx]; exact ⟨by decide,by decide⟩
  ·exact mz h (xJ (pK hp.di h0 h1).2.2.2)
 ·split
  ·exact hesc p h
  ·split
   ·unfold lF
    split
    ·exact oq h h0 h1
    ·split <;> exact h
   ·split
    ·unfold gb
     split
     ·exact oq h h0 h1
     ·split
      ·rw [qq,sG]
       refine mz h ?_
       unfold nO
       split
       ·exact fun x hx=>by cases hx
       ·refine pN ⟨hz,h0,h1,?_⟩
        show (yR p.order).aY.length≤16
        unfold yR
        split
        ·exact oo hp.nu
        ·exact hp.nu
      ·exact h
    ·split
     ·unfold gk
      repeat' split
      all_goals first | exact h | exact hov p h
     ·split
      ·exact hov p h
      ·exact hesc (stP p 1) h
theorem rq: ∀ (bs:List Int) {p:aC},PI p→ni p.out→(∀ b∈bs,0≤b∧b < 256)→ni (prun p bs).out
 | [],p,_,h,_=>h
 | b::bs,p,hp,h,hb=>by
  obtain ⟨b0,b1⟩:=hb b List.mem_cons_self
  exact rq bs (wz hp b0 b1).1 (D7 hp h b0 b1) fun x hx=>hb x (List.mem_cons_of_mem _ hx)
theorem AK {a:aX} (h:aOk a):o8 (tA a)=a∧okA (tA a):=by
 obtain ⟨h1,h2,h3,h4⟩:=h
 refine ⟨?_,h1,h2,h3,by show a.aY.length≤18; omega⟩
 have w8:IntKind.u8.wrap a.byte=a.byte:=by simp [IntKind.wrap,IntKind.bits,IntKind.signed]; omega
 unfold o8 tA
 simp only [yJ h1,w8]
end Go.Tw.X
set_option linter.unusedVariables false
set_option linter.unusedSimpArgs false
set_option maxHeartbeats 1000000
namespace Go.Tw.X
open Go Go.Tw
theorem qs: ∀ (n:Nat) (l:List aG),∀ x∈kM n l,x∈l
 | 0,l,x,h=>h
 | n+1,l,x,h=>by
  unfold kM at h
  split at h
  ·exact List.dropLast_subset l (qs n _ x h)
  ·exact h
theorem AL {r:aE} {g:aI} (h:g∈je r): ∃ c∈r.cells,g.rune=c.rune:=by
 unfold je mX at h
 obtain ⟨c,hc,rfl⟩:=List.mem_map.1 h
 have hc2:=(List.mem_filter.1 hc).1
 split at hc2
 ·exact ⟨c,hc2,rfl⟩
 ·exact ⟨c,qs _ _ c hc2,rfl⟩
def dW (W:Nat) (y:aA×(List (List aI)×List aI)) (a:aX):aA×(List (List aI)×List aI):=(acS W y.1 a,(acF W y.1 a).foldl jB y.2)
theorem mA {W:Nat} {r:aE} (h:gok W r) (hW:W≤1000):tu r:=⟨by rw [h.1]; exact hW,fun g hg=>by
 obtain ⟨c,hc,e⟩:=AL hg
 rw [e]
 exact h.2 c hc⟩
theorem xK {k:Nat} {z:List (List aI)×List aI} (h:ZI k z) {rows:List aE} (hr: ∀ r∈rows,tu r) (hk:k+2*rows.length≤100000000) {m:bL} (hb:m.b=ga z):kK m (rows.map told)=some ⟨m.s,ga (rows.foldl jB z),m.all,m.hK,m.k⟩:=by
 unfold kK
 refine okE (bH (P:=fun y=>y=(⟨m.s,ga (rows.foldl jB z),m.all,m.hK,m.k⟩:bL)) ?_ fun y hy=>aR hy)
 refine ig (fun y:bL×Int=>0≤y.2∧y.2≤rows.length∧y.1=⟨m.s,ga ((rows.take y.2.toNat).foldl jB z),m.all,m.hK,m.k⟩) (fun y=>rows.length - y.2.toNat) ⟨Int.le_refl 0,by dsimp only; omega,by rw [show (rows.take (0:Int).toNat).foldl jB z=z from rfl,← hb]⟩ ?_
 rintro ⟨b,i⟩ ⟨h0,h1,h2⟩
 dsimp only at h0 h1 h2 ⊢
 subst h2
 rw [List.length_map]
 refine hG (fun hi=> ?_) fun hi=>aR (by rw [List.take_of_length_le (by omega)])
 obtain ⟨j,rfl⟩: ∃ j:Nat,i=j:=⟨i.toNat,by omega⟩
 have hj:j < rows.length:=by omega
 have hZ:=mv (rows.take j) h fun x hx=>hr x (List.mem_of_mem_take hx)
 rw [List.length_take] at hZ
 have hZn:=hZ.n
 have hZb:=hZ.b
 rw [dr _ j (by rw [List.length_map]; exact hj),Option.bind_some,List.getElem_map]
 dsimp only
 rw [show ((j:Int)).toNat=j from rfl,B0 (by omega) (by omega) (hr rows[j] (List.getElem_mem hj)).1,Option.bind_some,w64 (by omega) (by omega)]
 refine aR ⟨⟨by dsimp only; omega,by dsimp only; omega,?_⟩,by dsimp only; omega⟩
 dsimp only
 rw [show ((j:Int)+1).toNat=j+1 by omega,List.take_add_one,List.getElem?_eq_getElem hj,Option.toList_some,List.foldl_append]
 rfl
end Go.Tw.X
set_option linter.unusedVariables false
set_option linter.unusedSimpArgs false
set_option maxHeartbeats 1000000
namespace Go.Tw.X
open Go Go.Tw
theorem AM {W k:Nat} {y:aA×(List (List aI)×List aI)} (hs:SI W y.1) (hz:ZI k y.2) {a:aX} (ha:aOk a):SI W (dW W y a).1∧ZI (k+4000) (dW W y a).2:=by
 have ho:=uo hs.toSJ a
 have hW:=hs.gi.w2
 have h2:=mv (acF W y.1 a) hz fun r hr=>mA (ho.2 r hr) hW
 refine ⟨CV hs a ha.1,?_⟩
 have h3:=ho.1
 exact ⟨by have:=h2.n; show ((acF W y.1 a).foldl jB y.2).1.length≤_; omega,h2.b,h2.g,h2.ls⟩
theorem ot {W:Nat}: ∀ (l:List aX) {k:Nat} {y:aA×(List (List aI)×List aI)},SI W y.1→ZI k y.2→ni l→SI W (l.foldl (dW W) y).1∧ZI (k+4000*l.length) (l.foldl (dW W) y).2
 | [],k,y,hs,hz,_=>⟨hs,hz⟩
 | a::l,k,y,hs,hz,h=>by
  obtain ⟨h1,h2⟩:=AM hs hz (h a List.mem_cons_self)
  have:=ot l (k:=k+4000) h1 h2 fun x hx=>h x (List.mem_cons_of_mem _ hx)
  rw [show k+4000*(a::l).length=k+4000+4000*l.length by simp; omega]
  exact this
theorem D8 {W:Nat} {s:aA} (h:SI W s) {a:aX} (ha:aOk a):dY s a=some (acF W s a,acS W s a):=by
 obtain ⟨e,ho⟩:=AK ha
 have:=(xD h ho).2.2.1
 rw [e] at this
 exact this
theorem D9 {W:Nat} {s:aA} (h:SI W s) {a:aX} (ha:aOk a):kq (aL s) (tA a)=some (aL (acS W s a),(acF W s a).map told):=by
 obtain ⟨e,ho⟩:=AK ha
 have:=(xD h ho).1
 rw [e] at this
 exact this
theorem xL {W k:Nat} {m:aV} {z:List (List aI)×List aI} (hs:SI W m.aN) (hz:ZI k z) (hp:PI m.parser) {t:ByteArray} (ht:t.size≤1000) (hk:k≤50000000) :
  fN (fun a c=>(Option.bind (fF a c) fun d=>some (d.2,true))) (dz z) m t=some (dz ((prun (clr m.parser) (sbs t)).out.foldl (dW W) (m.aN,z)).2,⟨m.book,clr (prun (clr m.parser) (sbs t)),((prun (clr m.parser) (sbs t)).out.foldl (dW W) (m.aN,z)).1,m.k⟩):=by
 unfold fN
 rw [Cs hp (by omega),Option.bind_some]
 have hc:PI (clr m.parser):=⟨hp.di,hp.gr,hp.nu,hp.n0,hp.n1,hp.tx⟩
 have hpr:=lf (sbs t) hc (fZ t)
 have has:=rq (sbs t) hc (fun x hx=>by cases hx) (fZ t)
 have hlen:=hpr.2
 rw [cw] at hlen
 have hc0:(clr m.parser).out.length=0:=rfl
 generalize prun (clr m.parser) (sbs t)=q at hpr has hlen
 dsimp only
 refine okE (bH (P:=fun | .inl y=>y=(((q.out.foldl (dW W) (m.aN,z)).1,dz (q.out.foldl (dW W) (m.aN,z)).2):aA×bQ) | .inr _=>False) ?_ ?_)
 ·refine ig (fun y:aA×Int×bQ=>0≤y.2.1∧y.2.1≤q.out.length∧y.1=((q.out.take y.2.1.toNat).foldl (dW W) (m.aN,z)).1∧y.2.2=dz ((q.out.take y.2.1.toNat).foldl (dW W) (m.aN,z)).2) (fun y=>q.out.length - y.2.1.toNat) ⟨Int.le_refl 0,by dsimp only; omega,rfl,rfl⟩ ?_
  rintro ⟨s,i,b⟩ ⟨h0,h1,h2,h3⟩
  dsimp only at h0 h1 h2 h3 ⊢
  subst h2 h3
  refine hG (fun hi=> ?_) fun hi=> ?_
  ·obtain ⟨j,rfl⟩: ∃ j:Nat,i=j:=⟨i.toNat,by omega⟩
   have hj:j < q.out.length:=by omega
   rw [show ((j:Int)).toNat=j from rfl]
   have hst:=ot (W:=W) (q.out.take j) (k:=k) (y:=(m.aN,z)) hs hz fun x hx=>has x (List.mem_of_mem_take hx)
   rw [List.length_take] at hst
   have ha:=has q.out[j] (List.getElem_mem hj)
   have hnext:(q.out.take (j+1)).foldl (dW W) (m.aN,z)=dW W ((q.out.take j).foldl (dW W) (m.aN,z)) q.out[j]:=by
    rw [List.take_add_one,List.getElem?_eq_getElem hj,Option.toList_some,List.foldl_append]
    rfl
   generalize (q.out.take j).foldl (dW W) (m.aN,z)=y at hst hnext
   have ho:=uo hst.1.toSJ q.out[j]
   have hW:=hst.1.gi.w2
   have hol:=ho.1
   rw [dr _ j hj,Option.bind_some,D8 hst.1 ha,Option.bind_some]
   obtain ⟨r,hr1,hr2⟩:=add_eq hst.2 (rows:=acF W y.1 q.out[j]) (fun r hr=>mA (ho.2 r hr) hW) (by omega)
   rw [hr1]
   simp only [Option.bind_some,Bool.not_true,cond_false]
   rw [w64 (by omega) (by omega)]
   refine aR ⟨⟨by dsimp only; omega,by dsimp only; omega,?_,?_⟩,by dsimp only; omega⟩
   ·dsimp only
    rw [show ((j:Int)+1).toNat=j+1 by omega,hnext]
    rfl
   ·dsimp only
    rw [show ((j:Int)+1).toNat=j+1 by omega,hnext,hr2]
    rfl
  ·refine aR ?_
   rw [List.take_of_length_le (by omega)]
 ·rintro (y | y) h
  ·subst h
   exact aR rfl
  ·exact h.elim
end Go.Tw.X
set_option linter.unusedVariables false
set_option linter.unusedSimpArgs false
set_option maxHeartbeats 1000000
namespace Go.Tw.X
open Go Go.Tw
theorem news (a t:ByteArray):(prun p0 (sbs (a++t))).out=(prun p0 (sbs a)).out++(prun (clr (prun p0 (sbs a))) (sbs t)).out∧clr (prun p0 (sbs (a++t)))=clr (prun (clr (prun p0 (sbs a))) (sbs t)):=by
 rw [jA,sE,sD (sbs t) (prun p0 (sbs a))]
 exact ⟨rfl,rfl⟩
theorem yY {W k:Nat} {s:aA} {x:bL} {z:List (List aI)×List aI} (hs:SI W s) (hz:ZI k z) (hx:x.s=aL s) (hb:x.b=ga z) {hK:List aX} (ha:ni hK) (hl:hK.length≤10000) (hk:k≤50000000) :
  iter (σ:=bL×Int) (ρ:=bL) (fun a=>(bif (decide (a.2 < ((hK.map tA).length:Int))) then (Option.bind (idx (hK.map tA) a.2) fun d=>(Option.bind (kq a.1.s d) fun c=>(Option.bind (kK (bL.mk c.1 a.1.b a.1.all a.1.hK a.1.k) c.2) fun e=>some (.inl (e,(IntKind.i64.wrap (a.2+1))))))) else some (.inr a.1))) (x,0)=some ⟨aL (hK.foldl (dW W) (s,z)).1,ga (hK.foldl (dW W) (s,z)).2,x.all,x.hK,x.k⟩:=by
 refine okE ?_
 refine ig (fun y:bL×Int=>0≤y.2∧y.2≤hK.length∧y.1=⟨aL ((hK.take y.2.toNat).foldl (dW W) (s,z)).1,ga ((hK.take y.2.toNat).foldl (dW W) (s,z)).2,x.all,x.hK,x.k⟩) (fun y=>hK.length - y.2.toNat) ⟨Int.le_refl 0,by dsimp only; omega,by
  show x=⟨aL s,ga z,x.all,x.hK,x.k⟩
  rw [← hx,← hb]⟩ ?_
 rintro ⟨y,i⟩ ⟨h0,h1,h2⟩
 dsimp only at h0 h1 h2 ⊢
 subst h2
 rw [List.length_map]
 refine hG (fun hi=> ?_) fun hi=>aR (by rw [List.take_of_length_le (by omega)])
 obtain ⟨j,rfl⟩: ∃ j:Nat,i=j:=⟨i.toNat,by omega⟩
 have hj:j < hK.length:=by omega
 rw [show ((j:Int)).toNat=j from rfl]
 have hst:=ot (W:=W) (hK.take j) (k:=k) (y:=(s,z)) hs hz fun x hx=>ha x (List.mem_of_mem_take hx)
 rw [List.length_take] at hst
 have haj:=ha hK[j] (List.getElem_mem hj)
 have hnext:(hK.take (j+1)).foldl (dW W) (s,z)=dW W ((hK.take j).foldl (dW W) (s,z)) hK[j]:=by
  rw [List.take_add_one,List.getElem?_eq_getElem hj,Option.toList_some,List.foldl_append]
  rfl
 generalize (hK.take j).foldl (dW W) (s,z)=y at hst hnext
 have ho:=uo hst.1.toSJ hK[j]
 have hW:=hst.1.gi.w2
 have hol:=ho.1
 rw [dr _ j (by rw [List.length_map]; exact hj),Option.bind_some,List.getElem_map]
 dsimp only
 rw [D9 hst.1 haj,Option.bind_some]
 dsimp only
 rw [xK hst.2 (fun r hr=>mA (ho.2 r hr) hW) (by omega) rfl,Option.bind_some,w64 (by omega) (by omega)]
 refine aR ⟨⟨by dsimp only; omega,by dsimp only; omega,?_⟩,by dsimp only; omega⟩
 dsimp only
 rw [show ((j:Int)+1).toNat=j+1 by omega,hnext]
 rfl
end Go.Tw.X
set_option linter.unusedVariables false
set_option linter.unusedSimpArgs false
set_option maxHeartbeats 1000000
namespace Go.Tw.X
open Go Go.Tw
def ru (x:Int):Prop:=0≤x∧x≤1114111
def rus (l:List Int):Prop:= ∀ x∈l,ru x
structure D2 (d:bD):Prop where
 r0:0≤d.rune
 r3:d.fu=3→d.rune≤4∧(d.rune=4→d.lead=244)
 r2:d.fu=2→d.rune≤271
 r1:d.fu=1→d.rune≤17407
theorem D20:D2 d0:=⟨by decide,by decide,by decide,by decide⟩
theorem wB {x:Int} (h:ru x):rus [x]:=fun y hy=>by rw [List.mem_singleton.1 hy]; exact h
theorem wC:ru 65533:=⟨by decide,by decide⟩
theorem Ea {b:Int} (h0:0≤b) (h1:b < 256):0≤o9 b∧((db b).1=3→o9 b≤4∧(o9 b=4→b=244))∧((db b).1=2→o9 b≤15)∧((db b).1=1→o9 b≤31):=by
 unfold o9 db
 repeat' split
 all_goals simp_all
 all_goals omega
theorem Fb {b:Int} (h0:0≤b) (h1:b < 256):D2 (l7 b).1∧rus (l7 b).2:=by
 unfold l7
 obtain ⟨l0,l3,l2,l1⟩:=Ea h0 h1
 split
 ·exact ⟨D20,wB ⟨h0,by omega⟩⟩
 ·split
  ·exact ⟨D20,wB wC⟩
  ·refine ⟨⟨l0,l3,fun e=> ?_,fun e=> ?_⟩,fun x hx=>by cases hx⟩
   ·have:=l2 e; show o9 b≤271; omega
   ·have:=l1 e; show o9 b≤17407; omega
theorem Ct {d:bD} {b:Int} (h0:0≤b) (hn:(db d.lead).1=d.fu) (h3:d.fu=3) (h4:d.lead=244) (hf:sW d b=true):b % 64≤15:=by
 unfold sW at hf
 rw [if_neg (by omega),h4] at hf
 have e:db 244=(3,128,143):=by decide
 rw [e] at hf
 have:=of_decide_eq_true hf
 dsimp only at this
 omega
theorem AN {d:bD} (hd:DI d) (h:D2 d) {b:Int} (h0:0≤b) (h1:b < 256):D2 (iT d b).1∧rus (iT d b).2:=by
 unfold iT
 obtain ⟨k1,k2⟩:=Fb h0 h1
 split
 ·exact ⟨k1,k2⟩
 ·rename_i hn
  rcases hd with rfl | ⟨l0,l1,n1,n2,r0,r3,r2,r1⟩
  ·exact absurd (by decide) hn
  have hk:=(nN d.lead).1
  split
  ·rename_i hf
   split
   ·rename_i hn1
    have:=h.r1 hn1
    exact ⟨D20,wB ⟨by omega,by omega⟩⟩
   ·rename_i hn1
    refine ⟨⟨by show 0≤d.rune*64+b % 64; omega,fun e=> ?_,fun e=> ?_,fun e=> ?_⟩,fun x hx=>by cases hx⟩
    ·change d.fu - 1=3 at e; omega
    ·change d.fu - 1=2 at e
     show d.rune*64+b % 64≤271
     have h3:d.fu=3:=by omega
     obtain ⟨a1,a2⟩:=h.r3 h3
     by_cases c:d.rune=4
     ·have:=Ct h0 (by omega) h3 (a2 c) hf; omega
     ·omega
    ·change d.fu - 1=1 at e
     show d.rune*64+b % 64≤17407
     have:=h.r2 (by omega)
     omega
  ·refine ⟨k1,fun x hx=> ?_⟩
   rcases List.mem_cons.1 hx with rfl | hx
   ·exact wC
   ·exact k2 x hx
def aGd (a:aX):Prop:=ru a.rune∧a.text.size≤200
def oB (l:List aX):Prop:= ∀ a∈l,aGd a
theorem mB {a b:List aX} (ha:oB a) (hb:oB b):oB (a++b):=fun x h=>(List.mem_append.1 h).elim (ha x) (hb x)
theorem pO {a:aX} (h:aGd a):oB [a]:=fun x hx=>by rw [List.mem_singleton.1 hx]; exact h
theorem Cu:(ByteArray.mk #[]).size≤200:=by decide
theorem ru0:ru 0:=⟨by decide,by decide⟩
theorem xM {l:List Int} (h:rus l):oB (l.map prA):=fun x hx=>by
 obtain ⟨r,hr,rfl⟩:=List.mem_map.1 hx
 exact ⟨h r hr,Cu⟩
theorem AO {t:ByteArray} (h:t.size≤200):oB (ttl t):=by
 have hg:2≤t.size→aGd (tiA t):=fun h2=>⟨ru0,by show (kD t 2 t.size).size≤200; rw [sA _ (by omega) (by omega) (by omega)]; omega⟩
 unfold ttl
 split
 ·rename_i x y l e
  have:2≤t.size:=by have:=congrArg List.length e; rw [cw] at this; simp at this; omega
  split
  ·exact pO (hg this)
  ·exact fun x hx=>by cases hx
 ·exact fun x hx=>by cases hx
theorem ou {p:aC} (h:oB p.out) (b:Int):oB (cE p b).2.out:=by
 unfold cE
 split
 ·exact h
 ·split
  ·exact h
  ·split
   ·exact mB h (pO ⟨ru0,Cu⟩)
   ·exact h
theorem Ec {p:aC} (hp:PI p) (hd:D2 p.bV) (h:oB p.out) {b:Int} (h0:0≤b) (h1:b < 256):oB (gf p b).out:=by
 have hesc: ∀ q:aC,oB q.out→oB (fb q b).out:=fun q hq=>by
  unfold fb
  split
  ·exact ou hq b
  ·repeat' split
   all_goals first | exact hq | exact mB hq (pO ⟨ru0,Cu⟩)
 have hov:oB (iU p).out:=mB h (AO hp.tx)
 unfold gf
 split
 ·unfold iH
  split
  ·refine ou (mB h (xM fun x hx=> ?_)) b
   unfold pb at hx
   split at hx
   ·cases hx
   ·rw [List.mem_singleton.1 hx]; exact wC
  ·exact mB h (xM (AN hp.di hd h0 h1).2)
 ·split
  ·exact hesc p h
  ·split
   ·unfold lF
    split
    ·exact ou h b
    ·split <;> exact h
   ·split
    ·unfold gb
     split
     ·exact ou h b
     ·split
      ·rw [qq,sG]
       refine mB h ?_
       unfold nO
       split
       ·exact fun x hx=>by cases hx
       ·exact pO ⟨ru0,Cu⟩
      ·exact h
    ·split
     ·unfold gk
      repeat' split
      all_goals first | exact h | exact hov
     ·split
      ·exact hov
      ·exact hesc (stP p 1) h
theorem lg (p:aC) (b:Int):(cE p b).2.bV=p.bV:=by
 unfold cE
 repeat' split
 all_goals rfl
theorem pP (p:aC) (b:Int):(fb p b).bV=p.bV:=by
 unfold fb
 split
 ·exact lg p b
 ·repeat' split
  all_goals rfl
theorem Ed {p:aC} (hp:PI p) (hd:D2 p.bV) {b:Int} (h0:0≤b) (h1:b < 256):D2 (gf p b).bV:=by
 unfold gf
 split
 ·unfold iH
  split
  ·rw [lg]; exact D20
  ·exact (AN hp.di hd h0 h1).1
 ·split
  ·rw [pP]; exact hd
  ·split
   ·unfold lF
    split
    ·rw [lg]; exact hd
    ·split <;> exact hd
   ·split
    ·unfold gb
     split
     ·rw [lg]; exact hd
     ·split
      ·unfold iI
       split <;> exact hd
      ·exact hd
    ·split
     ·unfold gk
      repeat' split
      all_goals exact hd
     ·split
      ·exact hd
      ·rw [pP]; exact hd
theorem xN: ∀ (bs:List Int) {p:aC},PI p→D2 p.bV→oB p.out→(∀ b∈bs,0≤b∧b < 256)→oB (prun p bs).out∧D2 (prun p bs).bV
 | [],p,_,hd,h,_=>⟨h,hd⟩
 | b::bs,p,hp,hd,h,hb=>by
  obtain ⟨b0,b1⟩:=hb b List.mem_cons_self
  exact xN bs (wz hp b0 b1).1 (Ed hp hd b0 b1) (Ec hp hd h b0 b1) fun x hx=>hb x (List.mem_cons_of_mem _ hx)
end Go.Tw.X
set_option linter.unusedVariables false
set_option linter.unusedSimpArgs false
set_option maxHeartbeats 1000000
namespace Go.Tw.X
open Go Go.Tw
def sy (x:Int):Prop:=0≤x∧x≤647
def cOk (c:aG):Prop:=ru c.rune∧sy c.aK∧0≤c.part∧c.part≤3
theorem Ee {c:aG} (h:cOk c):okC c=true:=by
 obtain ⟨⟨a,b⟩,⟨d,e⟩,f,g⟩:=h
 simp [okC,okG,a,b,d,e,f,g]
theorem m3 (s:aZ):sy (iR s):=by
 unfold iR sy
 split
 ·unfold bN
  repeat' split
  all_goals omega
 ·omega
theorem Fc:ru 32:=⟨by decide,by decide⟩
theorem rr {s:Int} (h:sy s):cOk (blk s):=⟨Fc,h,by show (0:Int)≤0; decide,by show (0:Int)≤3; decide⟩
theorem sy0:sy 0:=⟨by decide,by decide⟩
def cR (l:List aG):Prop:= ∀ c∈l,cOk c
theorem Ef:cR []:=fun c h=>by cases h
theorem ov: ∀ (l:List aG) (p:Int),cR l→cR (fD p l)
 | [],_,_=>fun c hc=>by cases hc
 | c::r,p,h=>by
  intro d hd
  simp only [fD,List.mem_cons] at hd
  rcases hd with rfl | hd
  ·unfold qd
   cases sU p c r with
   | true=>exact rr (h c (by simp)).2.1
   | false=>exact h c (by simp)
  ·exact ov r _ (fun e he=>h e (by simp [he])) d hd
theorem sH {l:List aG} (h:cR l) (i:Nat) {c:aG} (hc:cOk c):cR (l.set i c):=by
 intro d hd
 rcases List.mem_or_eq_of_mem_set hd with hd | rfl
 ·exact h d hd
 ·exact hc
theorem Ei {l:List aG} (h:cR l) (at_:Int) {s x:Int} (hx:ru x) (hs:sy s):cR (qf l at_ x s):=by
 have m: ∀ p:Int,0≤p→p≤3→cOk ⟨x,s,p⟩:=fun p a b=>⟨hx,hs,a,b⟩
 unfold qf
 split
 ·exact h
 ·split
  ·exact sH h _ (m 0 (by decide) (by decide))
  ·unfold vS
   have h1:=sH (sH h at_.toNat (m 1 (by decide) (by decide))) (at_.toNat+1) (m 2 (by decide) (by decide))
   split
   ·rename_i c hc
    have hcm:cOk c:=by
     split at hc
     ·exact h1 c (List.mem_of_getElem? hc)
     ·cases hc
    split
    ·exact sH h1 _ (rr hcm.2.1)
    ·exact h1
   ·exact h1
theorem ur (n:Nat) {s:Int} (h:sy s):cR (List.replicate n (blk s)):=fun c hc=>by rw [List.eq_of_mem_replicate hc]; exact rr h
theorem sI {a b:List aG} (ha:cR a) (hb:cR b):cR (a++b):=fun c hc=>(List.mem_append.1 hc).elim (ha c) (hb c)
theorem rv {a:List aG} (ha:cR a) (n:Nat):cR (a.take n):=fun c hc=>ha c (List.mem_of_mem_take hc)
theorem xO {a:List aG} (ha:cR a) (n:Nat):cR (a.drop n):=fun c hc=>ha c (List.mem_of_mem_drop hc)
theorem sJ (a b:Int) {s:Int} (hs:sy s): ∀ {l:List aG} (i:Int),cR l→cR (ie a b s i l)
 | [],_,_=>fun c hc=>by cases hc
 | c::r,i,h=>by
  intro d hd
  simp only [ie,List.mem_cons] at hd
  rcases hd with rfl | hd
  ·split
   ·exact rr hs
   ·exact h c (by simp)
  ·exact sJ a b hs (i+1) (fun e he=>h e (by simp [he])) d hd
theorem Cv {l:List aG} (h:cR l) {q:Int} (hq:sy q):cR (lR l q):=sH h _ ⟨Fc,hq,by show (0:Int)≤3; decide,by show (3:Int)≤3; decide⟩
theorem Ej {l:List aG} (h:cR l) (a n:Int) {q:Int} (hq:sy q):cR (ins l a n q):=by
 unfold ins
 split
 ·exact h
 ·exact rv (sI (sI (rv h _) (ur _ hq)) (xO h _)) _
theorem Ek {l:List aG} (h:cR l) (a n:Int) {q:Int} (hq:sy q):cR (del l a n q):=by
 unfold del
 split
 ·exact h
 ·exact sI (sI (rv h _) (xO h _)) (ur _ hq)
def gR2 (l:List aE):Prop:= ∀ r∈l,cR r.cells
theorem lW {a b:List aE} (ha:gR2 a) (hb:gR2 b):gR2 (a++b):=fun c hc=>(List.mem_append.1 hc).elim (ha c) (hb c)
theorem jY {a:List aE} (ha:gR2 a) (n:Nat):gR2 (a.take n):=fun c hc=>ha c (List.mem_of_mem_take hc)
theorem lH {a:List aE} (ha:gR2 a) (n:Nat):gR2 (a.drop n):=fun c hc=>ha c (List.mem_of_mem_drop hc)
theorem ry (k W:Nat) {s:Int} (h:sy s):gR2 (List.replicate k (eZ W s)):=fun c hc=>by rw [List.eq_of_mem_replicate hc]; exact ur W h
theorem jw:gR2 []:=fun c h=>by cases h
theorem pc {l:List aE} (h:gR2 l) (y:Int):cR (iu l y).cells:=by
 unfold iu
 split
 ·rename_i hy
  rw [List.getElem?_eq_getElem (by omega)]
  exact h _ (List.getElem_mem _)
 ·exact Ef
theorem AP (W:Nat) {r:aE} (h:cR r.cells):cR (rsz W r).cells:=by
 unfold rsz
 split
 ·exact h
 ·exact ov _ _ (sI (rv h _) (ur _ sy0))
theorem xP (W:Nat) {l:List aE} (h:gR2 l) (y:Int) {r:aE} (hr:cR r.cells):gR2 (oA W l y r):=by
 unfold oA
 split
 ·intro q hq
  rcases List.mem_or_eq_of_mem_set hq with hq | hq
  ·exact h q hq
  ·rw [hq]; exact AP W hr
 ·exact h
theorem AQ (W:Nat) {l:List aE} (h:gR2 l) (t b n:Int) {s:Int} (hs:sy s):gR2 (upL W l t b n s):=by
 unfold upL
 split
 ·exact h
 ·exact lW (lW (jY h _) (lW (lH (lH (jY h _) _) _) (ry _ _ hs))) (lH h _)
theorem Cw {l:List aE} (h:gR2 l) (t b n:Int):gR2 (upO l t b n):=by
 unfold upO
 split
 ·exact jw
 ·exact jY (lH (jY h _) _) _
theorem AR (W:Nat) {l:List aE} (h:gR2 l) (t b n:Int) {s:Int} (hs:sy s):gR2 (nJ W l t b n s):=by
 unfold nJ
 split
 ·exact h
 ·exact lW (lW (jY h _) (lW (ry _ _ hs) (jY (lH (jY h _) _) _))) (lH h _)
theorem El (W:Nat) {l:List aE} (h:gR2 l) (c H:Nat):gR2 (rzL W l c H):=by
 intro r hr
 unfold rzL at hr
 obtain ⟨q,hq,rfl⟩:=List.mem_map.1 hr
 exact AP W (lW (jY (lH h _) _) (ry _ W sy0) q hq)
structure SC (s:aA):Prop where
 g:gR2 s.g.l
 t:s.title.size≤200
variable {W : Nat} {s : aA}
theorem cP {p:Prop} [Decidable p] {a b:aA} (ha:SC a) (hb:SC b):SC (if p then a else b):=by split <;> assumption
theorem il {p:Prop} [Decidable p] {a b:List aE} (ha:gR2 a) (hb:gR2 b):gR2 (if p then a else b):=by split <;> assumption
theorem lI (h:SC s) (x y:Int):SC (mvS s x y):=⟨h.g,h.t⟩
theorem oQ (h:SC s):SC (nwS s):=⟨h.g,h.t⟩
theorem wD (h:SC s) (x:Int):SC (xS s x):=⟨h.g,h.t⟩
theorem xQ (h:SC s) (y:Int) {r:aE} (hr:cR r.cells):SC (seS W s y r):=⟨xP W h.g y hr,h.t⟩
theorem CW (h:SC s) (n:Int):SC (upS W s n):=⟨AQ W h.g _ _ _ (m3 _),h.t⟩
theorem Em (h:SC s) (t b n:Int):SC (upT W s t b n):=⟨AQ W h.g _ _ _ (m3 _),h.t⟩
theorem AS (h:SC s) (t b n:Int):SC (dnS W s t b n):=⟨AR W h.g _ _ _ (m3 _),h.t⟩
theorem xR (h:SC s) (n:Int):gR2 (upF s n):=il jw (Cw h.g _ _ _)
theorem vq (h:SC s):SC (liS W s):=cP (CW (oQ h) 1) (lI (oQ h) _ _)
theorem sK (h:SC s):gR2 (liF s):=il (xR (oQ h) 1) jw
theorem Fe (h:SC s):cR (r2S s).cells:=ov _ _ (Cv (pc h.g _) (m3 _))
theorem Ff (h:SC s) {r:Int} (hr:ru r):cR (r3S s r).cells:=ov _ _ (Ei (pc h.g _) _ hr (m3 _))
theorem F2 (h:SC s):SC (aS W s)∧gR2 (aF W s):=by
 have k:SC (xS (seS W s s.spot.y (r1S s)) 0):=wD (xQ h _ (r:=r1S s) (pc h.g _)) 0
 exact ⟨cP (vq k) h,il (sK k) jw⟩
theorem F3 (h:SC s) (n:Int):SC (bS W s n)∧gR2 (bF W s n):=by
 have k:SC (xS (seS W s s.spot.y (r2S s)) 0):=wD (xQ h _ (Fe h)) 0
 exact ⟨cP (cP (vq k) (wD h _)) h,il (il (sK k) jw) jw⟩
theorem Fg (h:SC s) {r:Int} (hr:ru r):SC (prS W s r)∧gR2 (prF W s r):=by
 obtain ⟨a1,a2⟩:=F2 (W:=W) h
 obtain ⟨b1,b2⟩:=F3 (W:=W) a1 (ofS r)
 exact ⟨cP h ⟨xP W b1.g _ (Ff b1 hr),b1.t⟩,il jw (lW a2 b2)⟩
theorem Fh (h:SC s) (b:Int):SC (ctS W s b)∧gR2 (ctF s b) :=
 ⟨cP (lI h _ _) (cP (lI h _ _) (cP (vq h) (cP (lI h _ _) h))),il (sK h) jw⟩
theorem Fi (h:SC s):SC (baS W s):=cP (AS (oQ h) _ _ _) (lI (oQ h) _ _)
theorem xT (w h:Int):SC (qo w h):=⟨ry _ _ sy0,by show (ByteArray.mk #[]).size≤200; decide⟩
theorem Fj (h:SC s) (b:Int):SC (esS W s b)∧gR2 (esF s b) :=
 ⟨cP (vq (wD h 0)) (cP (vq h) (cP (Fi h) (cP ⟨h.g,h.t⟩ (cP (lI (s:=e8S s) ⟨h.g,h.t⟩ _ _) (cP (xT _ _) h))))),il (sK (wD h 0)) (il (sK h) jw)⟩
theorem CX (h:SC s) (y a b:Int):SC (erS W s y a b):=xQ h y (ov _ _ (sJ _ _ (m3 _) _ (pc h.g _)))
theorem Fk (h:SC s) (n:Int):SC (paS W s n):=cP h (oQ (CX h _ _ _))
theorem AT (h:SC s) (n:Int): ∀ k,SC (wpS W s n k)
 | 0=>h
 | k+1=>by
  unfold wpS
  split
  ·exact CX (AT h n k) _ _ _
  ·exact AT h n k
theorem xU (h:SC s) (n:Int):SC (clS s n):=lI h _ _
theorem AU (h:SC s) (n:Int) (all:Bool):SC (wm W s n all):=Fk (cP (AT h _ _) h) n
theorem AV {p:Prop} [Decidable p] {a b:List aG} (ha:cR a) (hb:cR b):cR (if p then a else b):=by split <;> assumption
theorem Fl (h:SC s) (b n:Int):SC (ceS W s b n) :=
 oQ (xQ h _ (ov _ _ (AV (Ej (pc h.g _) _ _ (m3 _)) (AV (Ek (pc h.g _) _ _ (m3 _)) (sJ _ _ (m3 _) _ (pc h.g _))))))
theorem Fm (h:SC s) (b n:Int):SC (shS W s b n):=cP h (cP (lI (AS h _ _ _) _ _) (lI (Em h _ _ _) _ _))
theorem Fo (h:SC s) (l:List Int):SC (reS s l):=cP (lI (s:=rnS s (rgT s l) (rgU s l)) ⟨h.g,h.t⟩ _ _) h
theorem Fp (h:SC s) (b:Int) (l:List Int):SC (orS W s b l)∧gR2 (orF s b l):=by
 refine ⟨?_,il (xR (oQ h) _) jw⟩
 unfold orS
 refine cP (xU h _) (cP (wD (xU h _) 0) (cP (xU h _) (cP (wD (xU h _) 0) (cP (lI h _ _) (cP (lI h _ _) (cP (lI h _ _) (cP (lI h _ _) (cP (lI h _ _) (cP (AU h _ _) (cP (AU h _ _) (cP (Fl h _ _) (cP (Fm h _ _) (cP (CW (oQ h) _) (cP (AS (oQ h) _ _ _) (cP ⟨h.g,h.t⟩ (cP (Fo h l) h))))))))))))))))
theorem Fq (h:SC s) {a:aX} (ha:aGd a):SC (acS W s a)∧gR2 (acF W s a):=by
 obtain ⟨p1,p2⟩:=Fg (W:=W) h ha.1
 obtain ⟨c1,c2⟩:=Fh (W:=W) h a.byte
 obtain ⟨e1,e2⟩:=Fj (W:=W) h a.byte
 obtain ⟨o1,o2⟩:=Fp (W:=W) h a.byte a.aY
 exact ⟨cP p1 (cP c1 (cP e1 (cP (cP (cP ⟨h.g,h.t⟩ h) o1) (cP ⟨h.g,ha.2⟩ h)))),il p2 (il c2 (il e2 (il (il jw o2) jw)))⟩
theorem Fs (h:SC s) (w k:Int):SC (rzS s w k)∧gR2 (rzF s k):=⟨⟨El _ h.g _ _,h.t⟩,jY h.g _⟩
end Go.Tw.X
set_option linter.unusedVariables false
set_option linter.unusedSimpArgs false
set_option maxHeartbeats 1000000
namespace Go.Tw.X
open Go Go.Tw
def kb (k:Int) (n:Nat) (w h:Int):Int:=if k=0 then (if 1048576 < n then 3 else 0) else if k=1 then (if w < 1∨w > 1000∨h < 1∨h > 1000 then 6 else 0) else 5
theorem xV (w h:Int):((bif (decide (w < 1)) then some true else (bif (decide (w > 1000)) then some true else (bif (decide (h < 1)) then some true else some (decide (h > 1000))))):Option Bool)=some (decide (w < 1∨w > 1000∨h < 1∨h > 1000)):=by
 by_cases a:w < 1
 ·simp [a]
 ·by_cases b:w > 1000
  ·simp [a,b]
  ·by_cases c:h < 1
   ·simp [a,b,c]
   ·simp [a,b,c]
theorem ow (e:dw):fM e=some (kb e.kind e.text.size e.w e.h):=by
 unfold fM kb
 by_cases k0:e.kind=0
 ·have e0:(e.kind == 0)=true:=by simpa using k0
  rw [if_pos k0,e0,cond_true]
  by_cases hs:1048576 < e.text.size
  ·rw [if_pos hs,decide_eq_true (by omega)]; rfl
  ·rw [if_neg hs,decide_eq_false (by omega)]; rfl
 ·have e0:(e.kind == 0)=false:=by simpa using k0
  rw [if_neg k0,e0,cond_false]
  by_cases k1:e.kind=1
  ·have e1:(e.kind == 1)=true:=by simpa using k1
   rw [if_pos k1,e1,cond_true,xV,Option.bind_some]
   by_cases hs:e.w < 1∨e.w > 1000∨e.h < 1∨e.h > 1000
   ·rw [if_pos hs,decide_eq_true hs]; rfl
   ·rw [if_neg hs,decide_eq_false hs]; rfl
  ·have e1:(e.kind == 1)=false:=by simpa using k1
   rw [if_neg k1,e1]; rfl
theorem ox (e:cI):iD e=some (kb e.kind e.text.size e.w e.h):=by
 unfold iD kb
 by_cases k0:e.kind=0
 ·have e0:(e.kind == 0)=true:=by simpa using k0
  rw [if_pos k0,e0,cond_true]
  by_cases hs:1048576 < e.text.size
  ·rw [if_pos hs,decide_eq_true (by omega)]; rfl
  ·rw [if_neg hs,decide_eq_false (by omega)]; rfl
 ·have e0:(e.kind == 0)=false:=by simpa using k0
  rw [if_neg k0,e0,cond_false]
  by_cases k1:e.kind=1
  ·have e1:(e.kind != 1)=false:=by simpa using k1
   rw [if_pos k1,e1,cond_false,xV,Option.bind_some]
   by_cases hs:e.w < 1∨e.w > 1000∨e.h < 1∨e.h > 1000
   ·rw [if_pos hs,decide_eq_true hs]; rfl
   ·rw [if_neg hs,decide_eq_false hs]; rfl
  ·have e1:(e.kind != 1)=true:=by simpa using k1
   rw [if_neg k1,e1]; rfl
end Go.Tw.X
set_option linter.unusedVariables false
set_option linter.unusedSimpArgs false
set_option maxHeartbeats 1000000
namespace Go.Tw.X
open Go Go.Tw
structure MX (W k N:Nat) (z:List (List aI)×List aI) (m:aV) (x:bL):Prop where
 si:SI W m.aN
 zi:ZI k z
 bk:m.book=dz z
 xs:x.s=aL m.aN
 xb:x.b=ga z
 pa:m.parser=clr (prun p0 (sbs x.all))
 ac:x.hK=((prun p0 (sbs x.all)).out.length:Int)
 ke:m.k=x.k
 k0:0≤m.k
 kN:m.k≤N
 al:x.all.size≤1000*N
theorem yZ {W k N:Nat} {z:List (List aI)×List aI} {m:aV} {x:bL} (h:MX W k N z m x) (hk:k≤50000000) (hN:N≤90) {t:ByteArray} (ht:t.size≤1000) (w h':Int) :
  cu m ⟨0,t,w,h'⟩=some (0,⟨dz ((prun m.parser (sbs t)).out.foldl (dW W) (m.aN,z)).2,clr (prun m.parser (sbs t)),((prun m.parser (sbs t)).out.foldl (dW W) (m.aN,z)).1,m.k+1⟩):=by
 have hp:PI m.parser:=by
  rw [h.pa]
  have:=(lf (sbs x.all) vp (fZ x.all)).1
  exact ⟨this.di,this.gr,this.nu,this.n0,this.n1,this.tx⟩
 have hcl:clr m.parser=m.parser:=by rw [h.pa]; rfl
 have e1:=xL (m:=m) h.si h.zi hp ht hk
 rw [hcl] at e1
 have hk0:=h.k0
 have hkN:=h.kN
 unfold cu
 rw [ow]
 have hck:kb 0 t.size w h'=0:=by unfold kb; rw [if_pos rfl,if_neg (by omega)]
 dsimp only
 rw [hck,Option.bind_some,show ((0:Int) != 0)=false from rfl,show ((0:Int) == 1)=false from rfl,cond_false,cond_false,show gJ m t=some t from rfl,Option.bind_some,h.bk,e1]
 simp only [Option.bind_some]
 rw [w64 (by omega) (by omega)]
end Go.Tw.X
set_option linter.unusedVariables false
set_option linter.unusedSimpArgs false
set_option maxHeartbeats 1000000
namespace Go.Tw.X
open Go Go.Tw
theorem y2 {W k N:Nat} {z:List (List aI)×List aI} {m:aV} {x:bL} (h:MX W k N z m x) (hk:k≤50000000) (hN:N≤90) {t:ByteArray} (ht:t.size≤1000) (w h':Int) :
  jz x ⟨0,t,w,h'⟩=some (⟨aL ((prun m.parser (sbs t)).out.foldl (dW W) (m.aN,z)).1,ga ((prun m.parser (sbs t)).out.foldl (dW W) (m.aN,z)).2,x.all++t,((prun p0 (sbs (x.all++t))).out.length:Int),m.k+1⟩,0):=by
 have hp:PI m.parser:=by
  rw [h.pa]
  have:=(lf (sbs x.all) vp (fZ x.all)).1
  exact ⟨this.di,this.gr,this.nu,this.n0,this.n1,this.tx⟩
 have hcl:clr m.parser=m.parser:=by rw [h.pa]; rfl
 have hk0:=h.k0
 have hkN:=h.kN
 have hal:=h.al
 have hz:(x.all++t).size=x.all.size+t.size:=by rw [← cw,jA,List.length_append,cw,cw]
 have hnews:=(news x.all t).1
 rw [← h.pa] at hnews
 have hlen:=(lf (sbs t) hp (fZ t)).2
 have hm0:m.parser.out.length=0:=by rw [h.pa]; rfl
 rw [cw] at hlen
 have has:=rq (sbs t) hp (by rw [h.pa]; exact fun x hx=>by cases hx) (fZ t)
 unfold jz
 rw [ox]
 have hck:kb 0 t.size w h'=0:=by unfold kb; rw [if_pos rfl,if_neg (by omega)]
 dsimp only
 rw [hck,Option.bind_some,show ((0:Int) != 0)=false from rfl,show ((0:Int) == 1)=false from rfl,cond_false,cond_false,qi (by omega),Option.bind_some,yX (by omega),Option.bind_some,h.ac,hnews]
 have hcut:cut (((prun p0 (sbs x.all)).out++(prun m.parser (sbs t)).out).map tA) ((prun p0 (sbs x.all)).out.length:Int) ((((prun p0 (sbs x.all)).out++(prun m.parser (sbs t)).out).map tA).length:Int)=(prun m.parser (sbs t)).out.map tA:=by
  rw [lS,List.take_length,List.map_append]
  exact List.drop_left' (List.length_map ..)
 rw [bK (by omega) (by rw [List.length_map,List.length_append]; omega) (by omega),Option.bind_some,hcut]
 have hit:=yY (W:=W) (k:=k) (s:=m.aN) (x:=⟨x.s,x.b,x.all++t,x.hK,x.k⟩) (z:=z) h.si h.zi h.xs h.xb (hK:=(prun m.parser (sbs t)).out) has (by omega) hk
 dsimp only at hit
 rw [← h.ac,hit]
 simp only [Option.bind_some,List.length_map]
 rw [← h.ke,w64 (by omega) (by omega)]
end Go.Tw.X
set_option linter.unusedVariables false
set_option linter.unusedSimpArgs false
set_option maxHeartbeats 1000000
namespace Go.Tw.X
open Go Go.Tw
theorem vr {W k N:Nat} {z:List (List aI)×List aI} {m:aV} {x:bL} (h:MX W k N z m x) {t:ByteArray} (ht:t.size≤1000) :
  MX W (k+8000*t.size) (N+1) ((prun m.parser (sbs t)).out.foldl (dW W) (m.aN,z)).2 ⟨dz ((prun m.parser (sbs t)).out.foldl (dW W) (m.aN,z)).2,clr (prun m.parser (sbs t)),((prun m.parser (sbs t)).out.foldl (dW W) (m.aN,z)).1,m.k+1⟩ ⟨aL ((prun m.parser (sbs t)).out.foldl (dW W) (m.aN,z)).1,ga ((prun m.parser (sbs t)).out.foldl (dW W) (m.aN,z)).2,x.all++t,((prun p0 (sbs (x.all++t))).out.length:Int),m.k+1⟩:=by
 have hp:PI m.parser:=by
  rw [h.pa]
  have:=(lf (sbs x.all) vp (fZ x.all)).1
  exact ⟨this.di,this.gr,this.nu,this.n0,this.n1,this.tx⟩
 have hlen:=(lf (sbs t) hp (fZ t)).2
 have hm0:m.parser.out.length=0:=by rw [h.pa]; rfl
 rw [cw] at hlen
 have has:=rq (sbs t) hp (by rw [h.pa]; exact fun x hx=>by cases hx) (fZ t)
 have hst:=ot (W:=W) (prun m.parser (sbs t)).out (k:=k) (y:=(m.aN,z)) h.si h.zi has
 have hk0:=h.k0
 have hkN:=h.kN
 have hal:=h.al
 have hz:(x.all++t).size=x.all.size+t.size:=by rw [← cw,jA,List.length_append,cw,cw]
 have hzn:=hst.2.n
 refine ⟨hst.1,⟨by omega,hst.2.b,hst.2.g,hst.2.ls⟩,rfl,rfl,rfl,?_,rfl,rfl,by dsimp only; omega,by dsimp only; omega,by dsimp only; omega⟩
 dsimp only
 rw [(news x.all t).2,← h.pa]
end Go.Tw.X
set_option linter.unusedVariables false
set_option linter.unusedSimpArgs false
set_option maxHeartbeats 1000000
namespace Go.Tw.X
open Go Go.Tw
theorem xW (m:aV) (e:dw) (h:kb e.kind e.text.size e.w e.h≠0):cu m e=some (kb e.kind e.text.size e.w e.h,m):=by
 unfold cu
 have e1:(kb e.kind e.text.size e.w e.h != 0)=true:=by simpa using h
 rw [ow,Option.bind_some,e1,cond_true]
theorem Cx (x:bL) (e:cI) (h:kb e.kind e.text.size e.w e.h≠0):jz x e=some (x,kb e.kind e.text.size e.w e.h):=by
 unfold jz
 have e1:(kb e.kind e.text.size e.w e.h != 0)=true:=by simpa using h
 rw [ox,Option.bind_some,e1,cond_true]
end Go.Tw.X
set_option linter.unusedVariables false
set_option linter.unusedSimpArgs false
set_option maxHeartbeats 1000000
namespace Go.Tw.X
open Go Go.Tw
def uu (w h:Int):aV:=⟨dz ([],[]),p0,qo w h,0⟩
def F4 (w h:Int):bL:=⟨aL (qo w h),ga ([],[]),ByteArray.mk #[],0,0⟩
theorem xX (w h:Int):jE w h=some (uu w h):=by
 unfold jE
 rw [show mR=some (bQ.mk [] [0] []) from rfl,Option.bind_some,xB,Option.bind_some]
 rfl
theorem AW (w h:Int):MX (szN w) 0 0 ([],[]) (uu w h) (F4 w h) :=
 ⟨xC w h,⟨Nat.le_refl 0,by show 0 < 1024; decide,fun x hx=>(by cases hx),fun x hx=>(by cases hx)⟩,rfl,rfl,rfl,rfl,rfl,rfl,Int.le_refl 0,Int.le_refl 0,Nat.le_refl 0⟩
theorem vt {W k N:Nat} {z:List (List aI)×List aI} {m:aV} {x:bL} (h:MX W k N z m x) (hk:k≤50000000) (hN:N≤90) {t:ByteArray} {w h':Int} (hc:kb 1 t.size w h'=0) :
  cu m ⟨1,t,w,h'⟩=some (0,⟨dz ((rzF m.aN h').foldl jB z),m.parser,rzS m.aN w h',m.k+1⟩):=by
 have hk0:=h.k0
 have hkN:=h.kN
 have ho:=wq h.si.toSJ h'
 have hW:=h.si.gi.w2
 have hol:=ho.1
 obtain ⟨r,hr1,hr2⟩:=add_eq h.zi (rows:=rzF m.aN h') (fun r hr=>mA (ho.2 r hr) hW) (by omega)
 unfold cu
 rw [ow]
 dsimp only
 rw [hc,Option.bind_some,show ((0:Int) != 0)=false from rfl,show ((1:Int) == 1)=true from rfl,cond_false,cond_true,yH h.si.toSJ,Option.bind_some,h.bk,hr1]
 simp only [Option.bind_some]
 rw [hr2,w64 (by omega) (by omega)]
end Go.Tw.X
set_option linter.unusedVariables false
set_option linter.unusedSimpArgs false
set_option maxHeartbeats 1000000
namespace Go.Tw.X
open Go Go.Tw
theorem AX {W k N:Nat} {z:List (List aI)×List aI} {m:aV} {x:bL} (h:MX W k N z m x) (hk:k≤50000000) (hN:N≤90) {t:ByteArray} {w h':Int} (hc:kb 1 t.size w h'=0) :
  jz x ⟨1,t,w,h'⟩=some (⟨aL (rzS m.aN w h'),ga ((rzF m.aN h').foldl jB z),x.all,x.hK,m.k+1⟩,0):=by
 have hk0:=h.k0
 have hkN:=h.kN
 have ho:=wq h.si.toSJ h'
 have hW:=h.si.gi.w2
 have hol:=ho.1
 unfold jz
 rw [ox]
 dsimp only
 rw [hc,Option.bind_some,show ((0:Int) != 0)=false from rfl,show ((1:Int) == 1)=true from rfl,cond_false,cond_true,h.xs,yI h.si.toSJ,Option.bind_some]
 dsimp only
 rw [xK (m:=⟨aL (rzS m.aN w h'),x.b,x.all,x.hK,x.k⟩) h.zi (fun r hr=>mA (ho.2 r hr) hW) (by omega) h.xb]
 simp only [Option.bind_some]
 rw [← h.ke,w64 (by omega) (by omega)]
theorem xY {W k N:Nat} {z:List (List aI)×List aI} {m:aV} {x:bL} (h:MX W k N z m x) (w h':Int) :
  MX (szN w) (k+4000) (N+1) ((rzF m.aN h').foldl jB z) ⟨dz ((rzF m.aN h').foldl jB z),m.parser,rzS m.aN w h',m.k+1⟩ ⟨aL (rzS m.aN w h'),ga ((rzF m.aN h').foldl jB z),x.all,x.hK,m.k+1⟩:=by
 have hk0:=h.k0
 have hkN:=h.kN
 have hal:=h.al
 have ho:=wq h.si.toSJ h'
 have hW:=h.si.gi.w2
 have hol:=ho.1
 have h2:=mv (rzF m.aN h') h.zi fun r hr=>mA (ho.2 r hr) hW
 have h2n:=h2.n
 exact ⟨D5 h.si.toSJ w h',⟨by omega,h2.b,h2.g,h2.ls⟩,rfl,rfl,rfl,h.pa,h.ac,rfl,by dsimp only; omega,by dsimp only; omega,by dsimp only; omega⟩
end Go.Tw.X
set_option linter.unusedVariables false
set_option linter.unusedSimpArgs false
set_option maxHeartbeats 1000000
namespace Go.Tw.X
open Go Go.Tw
def gOk (g:aI):Prop:=ru g.rune∧sy g.aK
def gls (l:List aI):Prop:= ∀ g∈l,gOk g
theorem Cy {a b:List aI} (ha:gls a) (hb:gls b):gls (a++b):=fun c hc=>(List.mem_append.1 hc).elim (ha c) (hb c)
theorem AY {a:List aI} (ha:gls a) (n:Nat):gls (a.take n):=fun c hc=>ha c (List.mem_of_mem_take hc)
theorem AZ {a:List aI} (ha:gls a) (n:Nat):gls (a.drop n):=fun c hc=>ha c (List.mem_of_mem_drop hc)
theorem xZ:gls []:=fun c h=>by cases h
structure ZG (z:List (List aI)×List aI):Prop where
 b:gls z.2
 l: ∀ x∈z.1,gls x
theorem A9 {r:aE} (h:cR r.cells):gls (je r):=by
 intro g hg
 unfold je mX at hg
 obtain ⟨c,hc,rfl⟩:=List.mem_map.1 hg
 have hc2:=(List.mem_filter.1 hc).1
 have:c∈r.cells:=by
  split at hc2
  ·exact hc2
  ·exact qs _ _ c hc2
 exact ⟨(h c this).1,(h c this).2.1⟩
theorem vu: ∀ (n:Nat) (g:List aI),g.length≤n→gls g→gls (jn g).2 ∧ ∀ x∈(jn g).1,gls x
 | 0,g,h,hg=>by
  rw [mZ (by omega)]
  exact ⟨hg,fun x hx=>by cases hx⟩
 | n+1,g,h,hg=>by
  by_cases c:1024≤g.length
  ·rw [pG c]
   obtain ⟨a,b⟩:=vu n (g.drop 1024) (by rw [List.length_drop]; omega) (AZ hg _)
   refine ⟨a,fun x hx=> ?_⟩
   rcases List.mem_cons.1 hx with rfl | hx
   ·exact AY hg _
   ·exact b x hx
  ·rw [mZ c]
   exact ⟨hg,fun x hx=>by cases hx⟩
theorem En {z:List (List aI)×List aI} (h:ZG z) {r:aE} (hr:cR r.cells):ZG (jB z r):=by
 obtain ⟨a,b⟩:=vu _ (z.2++je r) (Nat.le_refl _) (Cy h.b (A9 hr))
 unfold jB
 dsimp only
 split
 ·exact ⟨a,fun x hx=>(List.mem_append.1 hx).elim (h.l x) (b x)⟩
 ·refine ⟨xZ,fun x hx=> ?_⟩
  rcases List.mem_append.1 hx with hx | hx
  ·exact (List.mem_append.1 hx).elim (h.l x) (b x)
  ·rw [List.mem_singleton.1 hx]; exact a
theorem uv: ∀ (rows:List aE) {z:List (List aI)×List aI},ZG z→gR2 rows→ZG (rows.foldl jB z)
 | [],_,h,_=>h
 | r::rows,z,h,hr=>uv rows (En h (hr r List.mem_cons_self)) fun q hq=>hr q (List.mem_cons_of_mem _ hq)
theorem vw {W:Nat}: ∀ (l:List aX) {y:aA×(List (List aI)×List aI)},SC y.1→ZG y.2→oB l→SC (l.foldl (dW W) y).1∧ZG (l.foldl (dW W) y).2
 | [],_,h1,h2,_=>⟨h1,h2⟩
 | a::l,y,h1,h2,h3=>by
  obtain ⟨k1,k2⟩:=Fq (W:=W) h1 (h3 a List.mem_cons_self)
  exact vw l (y:=dW W y a) k1 (uv _ h2 k2) fun q hq=>h3 q (List.mem_cons_of_mem _ hq)
structure MG (m:aV) (z:List (List aI)×List aI):Prop where
 sc:SC m.aN
 zg:ZG z
 d2:D2 m.parser.bV
theorem Ep (w h:Int):MG (uu w h) ([],[]):=⟨xT w h,⟨xZ,fun x hx=>by cases hx⟩,D20⟩
theorem CY {W k N:Nat} {z:List (List aI)×List aI} {m:aV} {x:bL} (h:MX W k N z m x):PI m.parser∧m.parser.out=[]:=by
 rw [h.pa]
 have:=(lf (sbs x.all) vp (fZ x.all)).1
 exact ⟨⟨this.di,this.gr,this.nu,this.n0,this.n1,this.tx⟩,rfl⟩
theorem Ba {W k N:Nat} {z:List (List aI)×List aI} {m:aV} {x:bL} (h:MX W k N z m x) (g:MG m z) (t:ByteArray) (k':Int) (b':bQ) :
  MG ⟨b',clr (prun m.parser (sbs t)),((prun m.parser (sbs t)).out.foldl (dW W) (m.aN,z)).1,k'⟩ ((prun m.parser (sbs t)).out.foldl (dW W) (m.aN,z)).2:=by
 obtain ⟨hp,ho⟩:=CY h
 obtain ⟨p1,p2⟩:=xN (sbs t) hp g.d2 (by rw [ho]; exact fun x hx=>by cases hx) (fZ t)
 obtain ⟨s1,s2⟩:=vw (W:=W) _ (y:=(m.aN,z)) g.sc g.zg p1
 exact ⟨s1,s2,p2⟩
theorem Cz {m:aV} {z:List (List aI)×List aI} (g:MG m z) (w h:Int) (k':Int) (b':bQ):MG ⟨b',m.parser,rzS m.aN w h,k'⟩ ((rzF m.aN h).foldl jB z):=by
 obtain ⟨s1,s2⟩:=Fs g.sc w h
 exact ⟨s1,uv _ g.zg s2,g.d2⟩
theorem wE {W k N:Nat} {z:List (List aI)×List aI} {m:aV} {x:bL} (h:MX W k N z m x) (hk:k≤50000000) (hN:N≤1000000) {t:ByteArray} (ht:t.size≤1000) (w h':Int) :
  cu m ⟨0,t,w,h'⟩=some (0,⟨dz ((prun m.parser (sbs t)).out.foldl (dW W) (m.aN,z)).2,clr (prun m.parser (sbs t)),((prun m.parser (sbs t)).out.foldl (dW W) (m.aN,z)).1,m.k+1⟩):=by
 have hp:PI m.parser:=(CY h).1
 have hcl:clr m.parser=m.parser:=by rw [h.pa]; rfl
 have e1:=xL (m:=m) h.si h.zi hp ht hk
 rw [hcl] at e1
 have hk0:=h.k0
 have hkN:=h.kN
 unfold cu
 rw [ow]
 have hck:kb 0 t.size w h'=0:=by unfold kb; rw [if_pos rfl,if_neg (by omega)]
 dsimp only
 rw [hck,Option.bind_some,show ((0:Int) != 0)=false from rfl,show ((0:Int) == 1)=false from rfl,cond_false,cond_false,show gJ m t=some t from rfl,Option.bind_some,h.bk,e1]
 simp only [Option.bind_some]
 rw [w64 (by omega) (by omega)]
def sOf (m:aV) (z:List (List aI)×List aI):ej:=⟨m.k+1,m.aN.g.w,(m.aN.g.l.length:Int),m.aN.spot.x,m.aN.spot.y,m.aN.title,m.aN.g.l,(z.1.length:Int),mY z.1,z.2⟩
theorem CA {l:List aI} (h:gls l): ∀ g∈l,rok g.rune:=fun g hg=>by
 obtain ⟨⟨a,b⟩,_⟩:=h g hg
 exact ⟨by omega,by omega⟩
section
variable {W k N : Nat} {z : List (List aI) × List aI} {m : aV} {x : bL}
theorem CB (l:List (List aI)) (g:List aI) (h:l.length≤1000000000):gy (dz (l,g)) (l.length:Int)=some (mY l):=by
 unfold gy dz
 dsimp only
 rw [dv,ey,show max 0 (min (l.length:Int) (l.length:Int))=((l.length:Nat):Int) by omega,xq _ _ (Nat.le_refl _),List.take_length]
 rfl
theorem vx (h:MX W k N z m x) (hk:k≤100000000) (hN:N≤1000000):eV m=some (sOf m z,m):=by
 have hk0:=h.k0
 have hkN:=h.kN
 have hzn:=h.zi.n
 have hzb:=h.zi.b
 unfold eV n5
 rw [w64 (by omega) (by omega)]
 rw [show (aA.mk m.aN.g m.aN.spot m.aN.saved m.aN.waiting m.aN.top m.aN.aH m.aN.aW m.aN.title)=m.aN from rfl,Au h.si.toSJ,aB]
 dsimp only
 have hr:=qZ m.aN.g.w m.aN.g.l (by have:=h.si.gi.l2; omega) h.si.gi.len
 rw [show (aU.mk m.aN.g.w m.aN.g.l)=m.aN.g from rfl] at hr
 rw [show gg (aA.mk m.aN.g m.aN.spot m.aN.saved m.aN.waiting m.aN.top m.aN.aH m.aN.aW m.aN.title)=some m.aN.title from rfl,aB,hr,aB]
 rw [h.bk,show ∀ b,dL b=some (b.l.length:Int) from fun b=>rfl,aB,aB]
 dsimp only
 have hc:=CB z.1 z.2 (by omega)
 rw [show (dz z).l=z.1 from rfl,show dz (z.1,z.2)=dz z from rfl] at *
 rw [hc,aB]
 have hb:gA (dz z)=some z.2:=by
  unfold gA
  rw [oe _ (by show z.2.length≤_; omega)]
  rfl
 rw [hb,aB,show ∀ g,cQ g=some (g.w,(g.l.length:Int)) from fun g=>rfl,aB,show ∀ s,fP s=some (s.spot.x,s.spot.y) from fun s=>rfl,aB,aB,← h.bk]
 rfl
theorem Es (h:MX W k N z m x) (g:MG m z):SW (sOf m z):=by
 have h1:=h.si.gi.w2
 have h2:=h.si.gi.l2
 have h3:=h.si.gw
 have h4:=h.zi.b
 have h5:=g.sc.t
 refine ⟨?_,?_,CA g.zg.b,fun r hr=> ?_,h2,by show z.2.length≤2000; omega,by show m.aN.title.size≤1000; omega⟩
 ·show -9223372036854775808≤m.aN.g.w∧m.aN.g.w≤9223372036854775807
  omega
 ·show -9223372036854775808≤(m.aN.g.l.length:Int)∧(m.aN.g.l.length:Int)≤9223372036854775807
  omega
 ·have hg:=h.si.gi.rs r hr
  exact ⟨hg.2,by have:=hg.1; omega⟩
theorem CC (h:MX W k N z m x) (g:MG m z) (hk:k≤100000000) (hN:N≤1000000):BS (sOf m z)=true:=by
 have h1:=h.si.gi.w1
 have h1':=h.si.gi.w2
 have h2:=h.si.gi.l1
 have h2':=h.si.gi.l2
 have h3:=h.si.gw
 have h4:=h.zi.b
 have h5:=g.sc.t
 have h6:=tt z.1
 have h7:=h.zi.n
 have hk0:=h.k0
 have hkN:=h.kN
 have a1:=h.si.x0
 have a2:=h.si.x1
 have a3:=h.si.y0
 have a4:=h.si.y1
 have hch:chM=281474976710597:=rfl
 unfold BS
 rw [Bool.or_eq_true]
 right
 have e1:qj (sOf m z)=true:=by
  unfold qj wi sOf
  simp only [Bool.and_eq_true,decide_eq_true_eq,beq_iff_eq]
  repeat' apply And.intro
  all_goals first | trivial | omega
 have e2:((sOf m z).begun.all fun g=>okG g.rune g.aK)=true:=by
  rw [List.all_eq_true]
  intro q hq
  obtain ⟨⟨b1,b2⟩,b3,b4⟩:=g.zg.b q hq
  simp [okG,b1,b2,b3,b4]
 have e3:(sOf m z).rows.all (oO (sOf m z).w)=true:=by
  rw [List.all_eq_true]
  intro r hr
  have hg:=h.si.gi.rs r hr
  unfold oO
  rw [Bool.and_eq_true]
  refine ⟨?_,?_⟩
  ·show ((r.cells.length:Int) == m.aN.g.w)=true
   rw [beq_iff_eq]
   have:=hg.1
   omega
  ·rw [List.all_eq_true]
   exact fun c hc=>Ee (g.sc.g r hr c hc)
 rw [e1,e2,e3]
 rfl
end
end Go.Tw.X
set_option linter.unusedVariables false
set_option linter.unusedSimpArgs false
set_option maxHeartbeats 1000000
namespace Go.Tw.X
open Go Go.Tw
section
variable {W k N : Nat} {z : List (List aI) × List aI} {m : aV} {x : bL}
theorem y3 {z:List (List aI)×List aI} (hl: ∀ x∈z.1,sr x) (i:Nat) (hi:i < z.1.length):gX (dz z) i=some (z.1[i],true):=by
 unfold gX
 rw [show (dz z).l=z.1 from rfl,decide_eq_false (by omega),cond_false,aB,decide_eq_false (by omega),cond_false,dr z.1 i hi,aB,oe _ (by have:=(hl _ (List.getElem_mem hi)).1; omega)]
 rfl
theorem wF (h:MX W k N z m x):ft m=some (m.aN,m):=by
 unfold ft
 rw [ve h.si.toSJ]
 rfl
theorem MX.mono (h:MX W k N z m x) {k' N':Nat} (h1:k≤k') (h2:N≤N'):MX W k' N' z m x :=
 ⟨h.si,⟨by have:=h.zi.n; omega,h.zi.b,h.zi.g,h.zi.ls⟩,h.bk,h.xs,h.xb,h.pa,h.ac,h.ke,h.k0,by have:=h.kN; omega,by have:=h.al; omega⟩
end
theorem Bb (z:List (List aI)×List aI) (r:aE):z.1 <+: (jB z r).1:=by
 unfold jB
 dsimp only
 split
 ·exact List.prefix_append _ _
 ·rw [List.append_assoc]; exact List.prefix_append _ _
theorem qt: ∀ (rows:List aE) (z:List (List aI)×List aI),z.1 <+: (rows.foldl jB z).1
 | [],z=>List.prefix_refl _
 | r::rows,z=>(Bb z r).trans (qt rows (jB z r))
theorem tF (W:Nat): ∀ (l:List aX) (y:aA×(List (List aI)×List aI)),y.2.1 <+: (l.foldl (dW W) y).2.1
 | [],y=>List.prefix_refl _
 | a::l,y=>(qt _ y.2).trans (tF W l (dW W y a))
theorem Bc {w:Int} (h0:1≤w) (h1:w≤1000):(szN w:Int)=w:=by unfold szN; omega
theorem Ft {W k N:Nat} {z:List (List aI)×List aI} {m:aV} {x:bL} (h:MX W k N z m x) (g:MG m z) (hk:k≤50000000) (hN:N≤90) (e:cI) (ht:e.text.size≤1000) :
  ∃ W' z' m' x',cu m ⟨e.kind,e.text,e.w,e.h⟩=some (kb e.kind e.text.size e.w e.h,m')∧jz x e=some (x',kb e.kind e.text.size e.w e.h) ∧
   MX W' (k+8000*e.text.size+4000) (N+1) z' m' x'∧MG m' z'∧m'.k=(if kb e.kind e.text.size e.w e.h=0 then m.k+1 else m.k)∧z.1 <+: z'.1 ∧
   (kb e.kind e.text.size e.w e.h=0→e.kind=1→m'.aN.g.w=e.w∧(m'.aN.g.l.length:Int)=e.h):=by
 by_cases hc:kb e.kind e.text.size e.w e.h=0
 ·rw [if_pos hc,hc]
  by_cases hk0:e.kind=0
  ·obtain ⟨ek,et,ew,eh⟩:=e
   dsimp only at hk0 ht hc ⊢
   subst hk0
   exact ⟨W,_,_,_,yZ h hk hN ht ew eh,y2 h hk hN ht ew eh,(vr h ht).mono (by omega) (Nat.le_refl _),Ba h g et _ _,rfl,tF W _ (m.aN,z),fun _ e=>absurd e (by decide)⟩
  ·by_cases hk1:e.kind=1
   ·obtain ⟨ek,et,ew,eh⟩:=e
    dsimp only at hk1 ht hc ⊢
    subst hk1
    have hb:1≤ew∧ew≤1000∧1≤eh∧eh≤1000:=by
     unfold kb at hc
     rw [if_neg (by decide),if_pos rfl] at hc
     split at hc
     ·exact absurd hc (by decide)
     ·omega
    refine ⟨szN ew,_,_,_,vt h hk hN hc,AX h hk hN hc,(xY h ew eh).mono (by omega) (Nat.le_refl _),Cz g ew eh _ _,rfl,qt _ z,fun _ _=>⟨Bc hb.1 hb.2.1,?_⟩⟩
    show ((rzL (szN ew) m.aN.g.l _ (szN eh)).length:Int)=eh
    rw [iQ]
    exact Bc hb.2.2.1 hb.2.2.2
   ·exfalso
    unfold kb at hc
    rw [if_neg hk0,if_neg hk1] at hc
    exact absurd hc (by decide)
 ·rw [if_neg hc]
  exact ⟨W,z,m,x,xW m ⟨e.kind,e.text,e.w,e.h⟩ hc,Cx x e hc,h.mono (by omega) (by omega),g,rfl,List.prefix_refl _,fun e=>absurd e hc⟩
noncomputable def runM:aV→List dw→Option aV
 | m,[]=>some m
 | m,e::l=>Option.bind (cu m e) fun r=>runM r.2 l
theorem CD {w h:Int} {l:List dw} (hl:l.length≤1000000) {M:aV} (hM:runM (uu w h) l=some M):kH w h l=some M:=by
 unfold kH
 rw [xX,aB]
 refine ml (fun s:aV×Int=>0≤s.2∧s.2≤l.length∧runM s.1 (l.drop s.2.toNat)=some M) (fun s=>l.length - s.2.toNat) (fun r=>r=M) ⟨Int.le_refl 0,by dsimp only; omega,hM⟩ ?_ ?_
 ·rintro ⟨q,i⟩ ⟨h0,h1,h2⟩
  dsimp only at h0 h1 h2 ⊢
  obtain ⟨n,rfl⟩:=Int.eq_ofNat_of_zero_le h0
  rw [Int.toNat_natCast] at h2
  by_cases c:n < l.length
  ·left
   rw [decide_eq_true (by omega),cond_true,dr l n c,aB,w64 (by omega) (by omega)]
   rw [List.drop_eq_getElem_cons c] at h2
   change Option.bind (cu q l[n]) (fun r=>runM r.2 (l.drop (n+1)))=some M at h2
   cases hd:cu q l[n] with
   | none=>rw [hd] at h2; cases h2
   | some r =>
    rw [hd] at h2
    refine ⟨_,rfl,⟨by dsimp only; omega,by dsimp only; omega,?_⟩,by dsimp only; omega⟩
    dsimp only
    rw [show ((n:Int)+1).toNat=n+1 by omega]
    exact h2
  ·right
   rw [decide_eq_false (by omega),cond_false]
   refine ⟨_,rfl,?_⟩
   rw [List.drop_eq_nil_of_le (by omega)] at h2
   exact (Option.some.inj h2)
 ·rintro r rfl
  rfl
end Go.Tw.X
set_option linter.unusedVariables false
set_option linter.unusedSimpArgs false
set_option maxHeartbeats 1000000
set_option maxRecDepth 10000
namespace Go.Tw.X
open Go Go.Tw
def qP:ByteArray:=ByteArray.mk #[97,13,10,98]
def Bd:aA:=acS 3 (qo 3 1) (prA 97)
def Be:aA:=acS 3 Bd (ctA 13)
def Bf:aA:=acS 3 Be (ctA 10)
def sL:aA:=acS 3 Bf (prA 98)
theorem Bg:(prun p0 (sbs qP)).out=[prA 97,ctA 13,ctA 10,prA 98]:=by decide
theorem Bh:jB ([],[]) ⟨[⟨97,0,0⟩,blk 0,blk 0],false⟩=([[⟨97,0⟩]],[]):=by
 unfold jB
 have e:([]:List aI)++je ⟨[⟨97,0,0⟩,blk 0,blk 0],false⟩=[⟨97,0⟩]:=by decide
 dsimp only
 rw [e,mZ (by decide)]
 rfl
theorem Eu:(prun p0 (sbs qP)).out.foldl (dW 3) (qo 3 1,([],[]))=(sL,([[⟨97,0⟩]],[])):=by
 rw [Bg]
 have f1:acF 3 (qo 3 1) (prA 97)=[]:=by decide
 have f2:acF 3 Bd (ctA 13)=[]:=by decide
 have f3:acF 3 Be (ctA 10)=[⟨[⟨97,0,0⟩,blk 0,blk 0],false⟩]:=by decide
 have f4:acF 3 Bf (prA 98)=[]:=by decide
 simp only [List.foldl,dW]
 rw [f1,← Bd,f2,← Be,f3,← Bf,f4,← sL]
 simp only [List.foldl]
 rw [Bh]
theorem wG:jj=some true:=by
 have h0:=AW 3 1
 have hW:szN 3=3:=by decide
 rw [hW] at h0
 have e0:=wE h0 (by decide) (by decide) (t:=qP) (by decide) 0 0
 have h1:=vr h0 (t:=qP) (by decide)
 rw [show (uu 3 1).parser=p0 from rfl,show (uu 3 1).aN=qo 3 1 from rfl,Eu] at e0 h1
 have hc1:kb 1 (ByteArray.mk #[]).size 0 0=6:=by decide
 have hc2:kb 1 (ByteArray.mk #[]).size 4 2=0:=by decide
 have e1:=xW ⟨dz ([[⟨97,0⟩]],[]),clr (prun p0 (sbs qP)),sL,(uu 3 1).k+1⟩ ⟨1,ByteArray.mk #[],0,0⟩ (by dsimp only; rw [hc1]; decide)
 have e2:=vt h1 (by decide) (by decide) hc2
 have h2:=xY h1 4 2
 have g1:rzF sL 2=[]:=by decide
 dsimp only at e1 e2 h1 h2
 rw [g1] at e2 h2
 simp only [List.foldl] at e2 h2
 have hr:runM (uu 3 1) [⟨0,qP,0,0⟩,⟨1,ByteArray.mk #[],0,0⟩,⟨1,ByteArray.mk #[],4,2⟩]=some ⟨dz ([[⟨97,0⟩]],[]),clr (prun p0 (sbs qP)),rzS sL 4 2,(uu 3 1).k+1+1⟩:=by
  simp only [runM]
  rw [e0,Option.bind_some,e1,Option.bind_some]
  dsimp only
  rw [e2]
  rfl
 have hx:=CD (by decide) hr
 have hs:=vx h2 (by decide) (by decide)
 have hl:=y3 h2.zi.ls 0 (by decide)
 unfold jj
 rw [show (ByteArray.mk #[97,13,10,98])=qP from rfl,hx,aB,wF h2,aB]
 dsimp only at hs hl ⊢
 rw [show ((0:Nat):Int)=0 from rfl] at hl
 rw [hl,aB,hs,aB]
 dsimp only [sOf]
 rw [show (rzS sL 4 2).g.w=4 by decide,show (rzS sL 4 2).g.l.length=2 by decide]
 rfl
end Go.Tw.X
set_option linter.unusedVariables false
set_option linter.unusedSimpArgs false
set_option maxHeartbeats 1000000
namespace Go.Tw.X
open Go Go.Tw
theorem vy {P:Bool→Prop} (b c:Bool) (h: ∀ d,P d):okO ((bif b then some c else some false):Option Bool) P:=by
 cases b
 ·exact ⟨_,rfl,h _⟩
 ·exact ⟨_,rfl,h _⟩
theorem Fu (e:cI):okO (kL e) (fun r=>r.text.size≤60):=by
 unfold kL
 refine bH (Cn e.text (n:=60) (by decide)) fun r hr=> ?_
 refine bH (P:=fun _=>True) (vy _ _ fun _=>trivial) fun b _=> ?_
 refine bH (P:=fun r=>r.text.size≤60) (lD (fun _=>aR (by dsimp only; omega)) fun _=>aR (by dsimp only; omega)) fun q hq=> ?_
 refine bH (P:=fun _=>True) (vy _ _ fun _=>trivial) fun b _=> ?_
 refine bH (P:=fun r=>r.text.size≤60) (lD (fun _=>aR hq) fun _=>aR hq) fun q hq=>aR hq
theorem CE {n:Nat} {a b:Int} (h:(n:Int) < a∧(n:Int) < b):((bif (decide ((n:Int) < a)) then some (decide ((n:Int) < b)) else some false):Option Bool)=some true:=by
 rw [decide_eq_true h.1,decide_eq_true h.2]; rfl
theorem CF {n:Nat} {a b:Int} (h: ¬ ((n:Int) < a∧(n:Int) < b)):((bif (decide ((n:Int) < a)) then some (decide ((n:Int) < b)) else some false):Option Bool)=some false:=by
 by_cases c:(n:Int) < a
 ·rw [decide_eq_true c,decide_eq_false (by omega: ¬ (n:Int) < b)]; rfl
 ·rw [decide_eq_false c]; rfl
theorem Bi {a:Int}:(a != a)=false:=by simp
theorem qu {l:List cI} (a0: ∀ x∈l,k8 x):gR l=some true:=by
 unfold gR
 rw [wG,aB,Bool.not_true,cond_false,xX,aB]
 refine ml (fun s:aV×Int×Int×Int=> ∃ n:Nat,s.2.2.2=n∧n≤15∧s.1.k=s.2.1 ∧ ∃ W z x,MX W (484000*n) n z s.1 x∧MG s.1 z∧s.2.2.1=z.1.length) (fun s=>15 - s.2.2.2.toNat)
  (fun r=> ∃ m,r = .inl m) ⟨0,rfl,by decide,rfl,_,_,_,AW 6 3,Ep 6 3,rfl⟩ ?_ ?_
 ·rintro ⟨m,k,li,i⟩ ⟨n,h1,h2,h3,W,z,x,h4,h5,h6⟩
  dsimp only at h1 h2 h3 h4 h5 h6 ⊢
  subst h1
  subst h6
  by_cases c:(n:Int) < (l.length:Int)∧(n:Int) < 15
  ·left
   rw [CE c,aB,cond_true,dr l n (by omega),aB]
   obtain ⟨r,er,hr⟩:=Fu l[n]
   obtain ⟨W',z',m',x',e1,e2,h7,h8,h9,h10,h11⟩:=Ft h4 h5 (by omega) (by omega) r (by omega)
   have hk0:=h4.k0
   have hkN:=h4.kN
   have h7':=h7.mono (k':=484000*(n+1)) (N':=n+1) (by omega) (Nat.le_refl _)
   rw [er,aB,e1,aB,ox,aB]
   dsimp only
   generalize hf:kb r.kind r.text.size r.w r.h=f at *
   rw [beq_self_eq_true,Bool.not_true,cond_false]
   have hkk:((bif (f == 0) then some (IntKind.i64.wrap (k+1)) else some k):Option Int)=some m'.k:=by
    rw [h9]
    by_cases hz:f=0
    ·rw [hz,if_pos rfl,h3,w64 (by omega) (by omega)]; rfl
    ·rw [if_neg hz,cX hz,cond_false,h3]
   have hlast:((bif (f == 0) then (bif (r.kind == 1) then (bif ((sOf m' z').w != r.w) then some true else some ((sOf m' z').h != r.h)) else some false) else some false):Option Bool)=some false:=by
    by_cases hz:f=0
    ·rw [iS hz,cond_true]
     by_cases h1:r.kind=1
     ·obtain ⟨q1,q2⟩:=h11 hz h1
      rw [iS h1,cond_true,show (sOf m' z').w=r.w from q1,show (sOf m' z').h=r.h from q2,Bi,cond_false,Bi]
     ·rw [cX h1,cond_false]
    ·rw [cX hz,cond_false]
   have hz1:z.1.length≤z'.1.length:=h10.length_le
   have hzn:=h7'.zi.n
   have hk0':=h7'.k0
   have hkN':=h7'.kN
   have hb:(m'.book.l.length:Int)=(z'.1.length:Int):=by rw [h7'.bk]; rfl
   rw [hkk,aB,vx h7' (by omega) (by omega),aB]
   dsimp only
   rw [show ir m'=some m'.k from rfl,aB,Bi,cond_false,show (sOf m' z').k=m'.k+1 from rfl,w64 (by omega) (by omega),Bi,cond_false,
    show dL m'.book=some (m'.book.l.length:Int) from rfl,aB,hb,decide_eq_false (by omega),cond_false,aB,show (sOf m' z').len=(z'.1.length:Int) from rfl,Bi,cond_false,
    zU _ (Es h7' h8),CC h7' h8 (by omega) (by omega),if_pos rfl,aB,show ((0:Int) != 0)=false from rfl,cond_false,hlast,aB,cond_false,aB,w64 (by omega) (by omega)]
   exact ⟨_,rfl,⟨n+1,by dsimp only; omega,by omega,rfl,W',z',x',h7',h8,rfl⟩,by dsimp only; omega⟩
  ·right
   rw [CF c,aB,cond_false]
   exact ⟨_,rfl,m,rfl⟩
 ·rintro r ⟨m,rfl⟩
  rfl
end Go.Tw.X

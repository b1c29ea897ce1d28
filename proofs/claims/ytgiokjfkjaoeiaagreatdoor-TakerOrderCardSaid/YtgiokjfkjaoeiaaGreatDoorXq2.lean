import Derived.Test.YtgiokjfkjaoeiaaGreatDoorXq1
import Derived.Test.YtgiokjfkjaoeiaaGreatDoorXp1
import Derived.Test.YtgiokjfkjaoeiaaGreatDoorFw2
set_option linter.unusedVariables false
set_option linter.unusedSimpArgs false
namespace Go.Tw.X
open Go Go.Tw
theorem KW (x:Int) (m:Nat) (hm:m < 9223372036854775808):0≤Go.bits .and .i64 x (m:Int)∧Go.bits .and .i64 x (m:Int)≤(m:Int):=by
 have h2:(BitVec.ofInt 64 (m:Int)).toNat=m:=by
  rw [BitVec.ofInt_natCast,BitVec.toNat_ofNat]; exact Nat.mod_eq_of_lt (by omega)
 have h3:(BitVec.ofInt 64 x).toNat &&& m≤m:=Nat.and_le_right
 have e:Go.bits .and .i64 x (m:Int)=(((BitVec.ofInt 64 x).toNat &&& m:Nat):Int):=by
  show IntKind.i64.wrap ((BitVec.ofInt 64 x &&& BitVec.ofInt 64 (m:Int)).toNat:Int)=_
  rw [BitVec.toNat_and,h2,w64 (by omega) (by omega)]
 rw [e]
 omega
end Go.Tw.X
set_option linter.unusedVariables false
set_option linter.unusedSimpArgs false
namespace Go.Tw.X
open Go Go.Tw
def tst (s:bC):bK:=⟨s.iD,s.back,s.bold,s.under,s.dU⟩
def bN (b:Bool) (n:Int):Int:=if b then n else 0
def lX (s:bC):Int:=if 0≤s.iD∧s.iD < 9∧0≤s.back∧s.back < 9 then s.iD+9*s.back+bN s.bold 81+bN s.under 162+bN s.dU 324 else 0
theorem Ng (b:Bool) (n:Int):mS b n=some (bN b n):=by cases b <;> rfl
theorem Gv (s:bC):kb s=some (decide (0≤s.iD∧s.iD < 9∧0≤s.back∧s.back < 9)):=by
 unfold kb
 by_cases a:0≤s.iD <;> by_cases b:s.iD < 9 <;> by_cases c:0≤s.back <;> by_cases d:s.back < 9 <;> simp [a,b,c,d,ge_iff_le]
theorem KX (s:bC):rR (tst s)=some (decide (0≤s.iD∧s.iD < 9∧0≤s.back∧s.back < 9)):=by
 unfold rR
 have e1:(s.iD≤8)=(s.iD < 9):=propext (by omega)
 have e2:(s.back≤8)=(s.back < 9):=propext (by omega)
 simp only [tst,e1,e2]
 by_cases a:0≤s.iD <;> by_cases b:s.iD < 9 <;> by_cases c:0≤s.back <;> by_cases d:s.back < 9 <;> simp [a,b,c,d,ge_iff_le]
theorem Ik (b:Bool) (n:Int) (h:0≤n):0≤bN b n∧bN b n≤n:=by cases b <;> simp [bN,h]
theorem Il (s:bC):kc s=some (lX s):=by
 unfold kc lX
 rw [Gv,aA]
 by_cases h:0≤s.iD∧s.iD < 9∧0≤s.back∧s.back < 9
 ·have h1:=Ik s.bold 81 (by omega)
  have h2:=Ik s.under 162 (by omega)
  have h3:=Ik s.dU 324 (by omega)
  rw [decide_eq_true h,if_pos h]
  simp only [Bool.not_true,cond_false,Ng,aA]
  rw [w64 (x:=9*s.back) (by omega) (by omega),w64 (x:=s.iD+9*s.back) (by omega) (by omega),w64 (x:=s.iD+9*s.back+bN s.bold 81) (by omega) (by omega),w64 (x:=s.iD+9*s.back+bN s.bold 81+bN s.under 162) (by omega) (by omega),w64 (by omega) (by omega)]
 ·rw [decide_eq_false h,if_neg h]
  rfl
theorem B2 (s:bC):k7 (tst s)=some (lX s):=by
 unfold k7 lX
 rw [KX,aA]
 by_cases h:0≤s.iD∧s.iD < 9∧0≤s.back∧s.back < 9
 ·rw [decide_eq_true h,if_pos h]
  simp only [Bool.not_true,cond_false,tst]
  rw [w64 (x:=9*s.back) (by omega) (by omega),w64 (x:=s.iD+9*s.back) (by omega) (by omega)]
  cases s.bold <;> cases s.under <;> cases s.dU <;> simp only [cond_true,cond_false,aA,bN] <;> simp <;> (try simp only [IntKind.wrap_i64]) <;> (try omega)
 ·rw [decide_eq_false h,if_neg h]
  rfl
def we (s:bC) (n:Int):bC:=if n=0 then ⟨0,0,false,false,false⟩ else if n=1∨n=22 then ⟨s.iD,s.back,n == 1,s.under,s.dU⟩ else if n=4∨n=24 then ⟨s.iD,s.back,s.bold,n == 4,s.dU⟩ else if n=7∨n=27 then ⟨s.iD,s.back,s.bold,s.under,n == 7⟩ else if 30≤n∧n < 38 then ⟨n - 29,s.back,s.bold,s.under,s.dU⟩ else if n=39 then ⟨0,s.back,s.bold,s.under,s.dU⟩ else if 40≤n∧n < 48 then ⟨s.iD,n - 39,s.bold,s.under,s.dU⟩ else if n=49 then ⟨s.iD,0,s.bold,s.under,s.dU⟩ else s
theorem eF {a b:Int} (h: ¬ a=b):(a == b)=false:=by simpa using h
theorem mg {a b:Int} (h:a=b):(a == b)=true:=by simpa using h
theorem uq (n a b:Int):((bif (n == a) then some true else some (n == b)):Option Bool)=some (decide (n=a∨n=b)):=by
 by_cases h:n=a
 ·simp [h]
 ·rw [eF h,cond_false]
  by_cases h2:n=b
  ·simp [h2]
  ·rw [eF h2,decide_eq_false (by omega)]
theorem KY (n a b:Int):((bif (decide (n≥a)) then some (decide (n < b)) else some false):Option Bool)=some (decide (a≤n∧n < b)):=AD (a≤n) (n < b)
theorem KZ (n a b:Int):((bif (decide (n≥a)) then some (decide (n≤b)) else some false):Option Bool)=some (decide (a≤n∧n≤b)):=AD (a≤n) (n≤b)
theorem Nh (s:bC) (n:Int):kd s n=some (we s n):=by
 unfold kd we
 simp only [uq,KY,aA]
 by_cases h0:n=0
 ·simp [h0,kK]
 ·have b0:(n == 0)=false:=by simpa using h0
  rw [b0,cond_false,if_neg h0]
  by_cases h1:n=1∨n=22
  ·rw [decide_eq_true h1,if_pos h1]; rfl
  ·rw [decide_eq_false h1,cond_false,if_neg h1]
   by_cases h2:n=4∨n=24
   ·rw [decide_eq_true h2,if_pos h2]; rfl
   ·rw [decide_eq_false h2,cond_false,if_neg h2]
    by_cases h3:n=7∨n=27
    ·rw [decide_eq_true h3,if_pos h3]; rfl
    ·rw [decide_eq_false h3,cond_false,if_neg h3]
     by_cases h4:30≤n∧n < 38
     ·rw [decide_eq_true h4,cond_true,if_pos h4,w64 (x:=n - 30) (by omega) (by omega),w64 (by omega) (by omega),show n - 30+1=n - 29 by omega]; rfl
     ·rw [decide_eq_false h4,cond_false,if_neg h4]
      by_cases h5:n=39
      ·simp [h5]
      ·have b5:(n == 39)=false:=by simpa using h5
       rw [b5,cond_false,if_neg h5]
       by_cases h6:40≤n∧n < 48
       ·rw [decide_eq_true h6,cond_true,if_pos h6,w64 (x:=n - 40) (by omega) (by omega),w64 (by omega) (by omega),show n - 40+1=n - 39 by omega]; rfl
       ·rw [decide_eq_false h6,cond_false,if_neg h6]
        by_cases h7:n=49
        ·simp [h7]
        ·rw [eF h7,if_neg h7]; rfl
theorem K0 (s:bC) (n k:Int):((Option.bind ((bif (n == 0) then some (bK.mk 0 0 false false false) else some (tst s)):Option bK) fun a=>(Option.bind ((bif (n == 1) then some true else some (n == 22)):Option Bool) fun h=>(Option.bind ((bif h then some (bK.mk a.iD a.back (decide (n < 10)) a.under a.dU) else some a):Option bK) fun b=>(Option.bind ((bif (n == 4) then some true else some (n == 24)):Option Bool) fun i=>(Option.bind ((bif i then some (bK.mk b.iD b.back b.bold (decide (n < 10)) b.dU) else some b):Option bK) fun c=>(Option.bind ((bif (n == 7) then some true else some (n == 27)):Option Bool) fun j=>(Option.bind ((bif j then some (bK.mk c.iD c.back c.bold c.under (decide (n < 10))) else some c):Option bK) fun d=>(Option.bind ((bif (decide (n≥30)) then some (decide (n≤37)) else some false):Option Bool) fun l=>(Option.bind ((bif l then some (bK.mk (IntKind.i64.wrap (n - 29)) d.back d.bold d.under d.dU) else some d):Option bK) fun e=>(Option.bind ((bif (n == 39) then some (bK.mk 0 e.back e.bold e.under e.dU) else some e):Option bK) fun f=>(Option.bind ((bif (decide (n≥40)) then some (decide (n≤47)) else some false):Option Bool) fun m=>(Option.bind ((bif m then some (bK.mk f.iD (IntKind.i64.wrap (n - 39)) f.bold f.under f.dU) else some f):Option bK) fun g=>(bif (n == 49) then some (k,(bK.mk g.iD 0 g.bold g.under g.dU)) else some (k,g)))))))))))))):Option (Int×bK))=some (k,tst (we s n)):=by
 simp only [uq,KZ,aA]
 unfold we
 by_cases h0:n=0
 ·subst h0; simp [tst,aA]
 ·have b0:(n == 0)=false:=by simpa using h0
  rw [b0,cond_false,if_neg h0,aA]
  by_cases h1:n=1∨n=22
  ·rcases h1 with rfl | rfl <;> simp [tst,aA]
  ·rw [decide_eq_false h1,cond_false,if_neg h1,aA]
   by_cases h2:n=4∨n=24
   ·rcases h2 with rfl | rfl <;> simp [tst,aA]
   ·rw [decide_eq_false h2,cond_false,if_neg h2,aA]
    by_cases h3:n=7∨n=27
    ·rcases h3 with rfl | rfl <;> simp [tst,aA]
    ·rw [decide_eq_false h3,cond_false,if_neg h3,aA]
     by_cases h4:30≤n∧n < 38
     ·have e4:decide (30≤n∧n≤37)=true:=decide_eq_true (by omega)
      have e5:(n == 39)=false:=by simp; omega
      have e6:decide (40≤n∧n≤47)=false:=decide_eq_false (by omega)
      have e7:(n == 49)=false:=by simp; omega
      rw [e4,e5,e6,e7,if_pos h4,w64 (x:=n - 29) (by omega) (by omega)]
      rfl
     ·have e4:decide (30≤n∧n≤37)=false:=decide_eq_false (by omega)
      rw [e4,if_neg h4,cond_false,aA]
      by_cases h5:n=39
      ·subst h5; simp [tst,aA]
      ·have b5:(n == 39)=false:=by simpa using h5
       rw [b5,cond_false,if_neg h5,aA]
       by_cases h6:40≤n∧n < 48
       ·have e6:decide (40≤n∧n≤47)=true:=decide_eq_true (by omega)
        have e7:(n == 49)=false:=by simp; omega
        rw [e6,e7,if_pos h6,w64 (x:=n - 39) (by omega) (by omega)]
        rfl
       ·have e6:decide (40≤n∧n≤47)=false:=decide_eq_false (by omega)
        rw [e6,if_neg h6,cond_false,aA]
        by_cases h7:n=49
        ·simp [h7,tst]
        ·rw [eF h7,if_neg h7]; rfl
def ou:List Int→Nat
 | 5::l=>min 2 (l.length+1)
 | 2::l=>min 4 (l.length+1)
 | _=>0
theorem Io (l:List Int):ou l≤l.length:=by
 unfold ou
 split <;> simp <;> omega
theorem K1 (l:List Int):m6 l=some (ou l:Int):=by
 unfold m6
 cases l with
 | nil=>rfl
 | cons a l =>
  have h0:decide (((a::l).length:Int) > 0)=true:=by simp
  have h1:idx (a::l) 0=some a:=Hx _
  simp only [h0,cond_true,h1,aA]
  by_cases h5:a=5
  ·subst h5
   simp only [beq_self_eq_true,cond_true,aA,ou,dQ,List.length_cons]
   first | done | (congr 1; omega)
  ·have e5:(a == 5)=false:=by simpa using h5
   simp only [e5,cond_false,aA]
   by_cases h2:a=2
   ·subst h2
    simp only [beq_self_eq_true,cond_true,aA,ou,dQ,List.length_cons]
    first | done | (congr 1; omega)
   ·have e2:(a == 2)=false:=by simpa using h2
    simp only [e2,cond_false]
    unfold ou
    split
    ·rename_i heq; injection heq with h; exact absurd h h5
    ·rename_i heq; injection heq with h; exact absurd h h2
    ·rfl
def ur (s:bC) (l:List Int):bC :=
 match l with
 | []=>s
 | n::l=>if n=38∨n=48 then ur s (l.drop (ou l)) else ur (we s n) l
termination_by l.length
decreasing_by all_goals simp_wf <;> omega
theorem B3 (s:bC):ur s []=s:=by unfold ur; rfl
theorem zX (s:bC) (n:Int) (l:List Int):ur s (n::l)=if n=38∨n=48 then ur s (l.drop (ou l)) else ur (we s n) l:=by rw [ur]
def Gw (s:bC) (l:List Int):bC:=if l.length=0 then ⟨0,0,false,false,false⟩ else ur s l
theorem K4 (l:List Int):((l.length:Int) == 0)=decide (l.length=0):=by
 by_cases h:l.length=0
 ·simp [h]
 ·rw [decide_eq_false h,eF (by omega)]
theorem K5 (s:bC) (l:List Int) (hl:l.length≤1000000):kf s l=some (Gw s l):=by
 unfold kf Gw
 rw [K4]
 by_cases h0:l.length=0
 ·rw [decide_eq_true h0,if_pos h0]; rfl
 ·rw [decide_eq_false h0,if_neg h0,cond_false]
  refine oR (fun x=>0≤x.2∧x.2≤l.length∧ur x.1 (l.drop x.2.toNat)=ur s l) (fun x=>l.length - x.2.toNat) (fun r=>r=ur s l) ⟨Int.le_refl 0,by dsimp only; omega,by simp⟩ ?_ ?_
  ·rintro ⟨q,i⟩ ⟨h1,h2,h3⟩
   dsimp only at h1 h2 h3 ⊢
   obtain ⟨i,rfl⟩:=Int.eq_ofNat_of_zero_le h1
   rw [Int.toNat_natCast] at h3
   by_cases hi:i < l.length
   ·left
    rw [decide_eq_true (by omega:(i:Int) < l.length),cond_true,dG _ _ hi,aA,uq,aA]
    rw [List.drop_eq_getElem_cons hi,zX] at h3
    by_cases hn:l[i]=38∨l[i]=48
    ·rw [if_pos hn] at h3
     have hsk:=Io (l.drop (i+1))
     rw [List.length_drop] at hsk
     rw [decide_eq_true hn,cond_true,w64 (x:=(i:Int)+1) (by omega) (by omega),show (i:Int)+1=((i+1:Nat):Int) by omega,bM (by omega) (by omega) (by omega),aA,qL,List.take_length,K1,aA,aA]
     dsimp only
     refine ⟨_,rfl,⟨?_,?_,?_⟩,?_⟩
     ·dsimp only; rw [w64 (x:=(i:Int)+(ou (l.drop (i+1)):Int)) (by omega) (by omega),w64 (by omega) (by omega)]; omega
     ·dsimp only; rw [w64 (x:=(i:Int)+(ou (l.drop (i+1)):Int)) (by omega) (by omega),w64 (by omega) (by omega)]; omega
     ·dsimp only; rw [w64 (x:=(i:Int)+(ou (l.drop (i+1)):Int)) (by omega) (by omega),w64 (by omega) (by omega),← h3,List.drop_drop]
      congr 2
      omega
     ·dsimp only; rw [w64 (x:=(i:Int)+(ou (l.drop (i+1)):Int)) (by omega) (by omega),w64 (by omega) (by omega)]; omega
    ·rw [if_neg hn] at h3
     rw [decide_eq_false hn,cond_false,aA,Nh,aA,aA]
     dsimp only
     rw [w64 (x:=(i:Int)+1) (by omega) (by omega)]
     refine ⟨_,rfl,⟨by dsimp only; omega,by dsimp only; omega,?_⟩,by dsimp only; omega⟩
     dsimp only
     rw [show ((i:Int)+1).toNat=i+1 by omega,h3]
   ·right
    rw [decide_eq_false (by omega: ¬ (i:Int) < l.length),cond_false]
    rw [List.drop_eq_nil_of_le (by omega),B3] at h3
    exact ⟨q,rfl,h3⟩
  ·rintro r rfl
   rfl
theorem B4 (l:List Int):(∃ r,l=5::r∧ou l=min 2 (r.length+1))∨(∃ r,l=2::r∧ou l=min 4 (r.length+1))∨(ou l=0∧(∀ a r,l=a::r→a≠5∧a≠2)):=by
 cases l with
 | nil=>exact .inr (.inr ⟨rfl,fun a r h=>by cases h⟩)
 | cons a l =>
  by_cases h5:a=5
  ·subst h5; exact .inl ⟨l,rfl,rfl⟩
  ·by_cases h2:a=2
   ·subst h2; exact .inr (.inl ⟨l,rfl,rfl⟩)
   ·refine .inr (.inr ⟨?_,fun b r h=>by injection h with h1 _; subst h1; exact ⟨h5,h2⟩⟩)
    unfold ou
    split
    ·rename_i heq; injection heq with h; exact absurd h h5
    ·rename_i heq; injection heq with h; exact absurd h h2
    ·rfl
theorem B5 (l:List Int) (k n:Nat) (h:l.length≤n):l.drop (min k n)=l.drop k:=by
 by_cases hk:k≤n
 ·rw [Nat.min_eq_left hk]
 ·rw [List.drop_eq_nil_of_le (by omega),List.drop_eq_nil_of_le (by omega)]
end Go.Tw.X
set_option linter.unusedVariables false
set_option linter.unusedSimpArgs false
namespace Go.Tw.X
open Go Go.Tw
theorem Ip (s:bC) (l:List Int) (hl:l.length≤1000000):rS (tst s) l=some (tst (Gw s l)):=by
 unfold rS Gw
 rw [K4]
 by_cases h0:l.length=0
 ·rw [decide_eq_true h0,if_pos h0]; rfl
 ·rw [decide_eq_false h0,if_neg h0,cond_false]
  refine oR (fun x=> ∃ q,x.1=tst q∧0≤x.2.1∧x.2.1≤l.length∧0≤x.2.2∧x.2.2≤4∧ur q (l.drop (x.2.1.toNat+x.2.2.toNat))=ur s l) (fun x=>l.length - x.2.1.toNat) (fun r=>r=tst (ur s l)) ⟨s,rfl,Int.le_refl 0,by dsimp only; omega,Int.le_refl 0,by dsimp only; omega,by simp⟩ ?_ ?_
  ·rintro ⟨q',i,k⟩ ⟨q,e,h1,h2,h4,h5,h3⟩
   dsimp only at e h1 h2 h3 h4 h5 ⊢
   subst e
   obtain ⟨i,rfl⟩:=Int.eq_ofNat_of_zero_le h1
   obtain ⟨k,rfl⟩:=Int.eq_ofNat_of_zero_le h4
   rw [Int.toNat_natCast,Int.toNat_natCast] at h3
   by_cases hi:i < l.length
   ·left
    rw [decide_eq_true (by omega:(i:Int) < l.length),cond_true,dG _ _ hi,aA,w64 (x:=(i:Int)+1) (by omega) (by omega)]
    by_cases hk:0 < k
    ·rw [decide_eq_true (by omega:(k:Int) > 0),cond_true,aA,w64 (x:=(k:Int) - 1) (by omega) (by omega)]
     dsimp only
     refine ⟨_,rfl,⟨q,rfl,by dsimp only; omega,by dsimp only; omega,by dsimp only; omega,by dsimp only; omega,?_⟩,by dsimp only; omega⟩
     dsimp only
     rw [← h3]
     congr 2
     omega
    ·obtain rfl:k=0:=by omega
     rw [Nat.add_zero,List.drop_eq_getElem_cons hi,zX] at h3
     rw [decide_eq_false (by omega: ¬ ((0:Nat):Int) > 0),cond_false,uq,aA]
     by_cases hn:l[i]=38∨l[i]=48
     ·rw [if_pos hn] at h3
      rw [decide_eq_true hn,cond_true,show (i:Int)+1=((i+1:Nat):Int) by omega]
      have hd:(l.drop (i+1)).length≤l.length:=by simp
      by_cases hi1:i+1 < l.length
      ·rw [decide_eq_true (by omega:((i+1:Nat):Int) < l.length)]
       simp only [cond_true,dG _ _ hi1,aA]
       have hc:=B4 (l.drop (i+1))
       rw [List.drop_eq_getElem_cons hi1] at hc
       by_cases a5:l[i+1]=5
       ·rw [a5]
        simp only [beq_self_eq_true,cond_true,aA]
        refine ⟨_,rfl,⟨q,rfl,by dsimp only; omega,by dsimp only; omega,by dsimp only; decide,by dsimp only; decide,?_⟩,by dsimp only; omega⟩
        dsimp only
        rcases hc with ⟨r,e1,e2⟩ | ⟨r,e1,_⟩ | ⟨_,e1⟩
        ·injection e1 with _ er
         rw [← h3,List.drop_eq_getElem_cons hi1,e2,← er]
         rw [B5 _ _ _ (by simp; omega),← List.drop_eq_getElem_cons hi1,List.drop_drop]
         congr 2
        ·injection e1 with er _
         omega
        ·exact absurd a5 (e1 _ _ rfl).1
       ·rw [eF a5]
        simp only [cond_false,aA]
        by_cases a2:l[i+1]=2
        ·rw [a2]
         simp only [beq_self_eq_true,cond_true,aA]
         refine ⟨_,rfl,⟨q,rfl,by dsimp only; omega,by dsimp only; omega,by dsimp only; decide,by dsimp only; decide,?_⟩,by dsimp only; omega⟩
         dsimp only
         rcases hc with ⟨r,e1,e2⟩ | ⟨r,e1,e2⟩ | ⟨_,e1⟩
         ·injection e1 with er _
          omega
         ·injection e1 with _ er
          rw [← h3,List.drop_eq_getElem_cons hi1,e2,← er]
          rw [B5 _ _ _ (by simp; omega),← List.drop_eq_getElem_cons hi1,List.drop_drop]
          congr 2
         ·exact absurd a2 (e1 _ _ rfl).2
        ·rw [eF a2]
         simp only [cond_false,aA]
         refine ⟨_,rfl,⟨q,rfl,by dsimp only; omega,by dsimp only; omega,by dsimp only; omega,by dsimp only; omega,?_⟩,by dsimp only; omega⟩
         dsimp only
         rcases hc with ⟨r,e1,e2⟩ | ⟨r,e1,e2⟩ | ⟨e2,_⟩
         ·injection e1 with er _
          exact absurd er a5
         ·injection e1 with er _
          exact absurd er a2
         ·rw [← h3,List.drop_eq_getElem_cons hi1,e2,← List.drop_eq_getElem_cons hi1,List.drop_drop]
          congr 2
      ·rw [decide_eq_false (by omega: ¬ ((i+1:Nat):Int) < l.length)]
       simp only [cond_false,aA]
       rw [List.drop_eq_nil_of_le (i:=i+1) (by omega),List.drop_nil] at h3
       refine ⟨_,rfl,⟨q,rfl,by dsimp only; omega,by dsimp only; omega,by dsimp only; omega,by dsimp only; omega,?_⟩,by dsimp only; omega⟩
       dsimp only
       rw [List.drop_eq_nil_of_le (by omega)]
       exact h3
     ·rw [if_neg hn] at h3
      rw [decide_eq_false hn,cond_false]
      rw [K0,aA]
      dsimp only
      refine ⟨_,rfl,⟨_,rfl,by dsimp only; omega,by dsimp only; omega,by dsimp only; omega,by dsimp only; omega,?_⟩,by dsimp only; omega⟩
      dsimp only
      rw [show ((i:Int)+1).toNat+((0:Nat):Int).toNat=i+1 by omega,h3]
   ·right
    rw [decide_eq_false (by omega: ¬ (i:Int) < l.length),cond_false]
    rw [List.drop_eq_nil_of_le (by omega),B3] at h3
    exact ⟨_,rfl,by rw [h3]⟩
  ·rintro r rfl
   rfl
end Go.Tw.X
set_option linter.unusedVariables false
set_option linter.unusedSimpArgs false
namespace Go.Tw.X
open Go Go.Tw
def aM (s:aB):aN:=⟨rW s.g,s.spot.x,s.spot.y,tst s.spot.aL,s.saved.x,s.saved.y,tst s.saved.aL,s.waiting,s.top,s.aK,s.aX,s.title⟩
structure SJ (W:Nat) (s:aB):Prop where
 gw:s.g.w=W
 gi:GI W s.g.l
 x0:0≤s.spot.x
 x1:s.spot.x < W
 y0:0≤s.spot.y
 y1:s.spot.y < s.g.l.length
 t0:0≤s.top
 tb:s.top≤s.aK
 b1:s.aK < s.g.l.length
structure SI (W:Nat) (s:aB):Prop extends SJ W s where
 wt:s.waiting=true→s.spot.x=W - 1
theorem SJ.ge {W:Nat} {s:aB} (h:SJ W s):s.g=⟨W,s.g.l⟩:=by
 have:=h.gw
 cases hg:s.g
 rw [hg] at this
 simp at this
 rw [this]
def u0 (W:Nat) (off:List aE):Prop:=off.length≤1000 ∧ ∀ r∈off,gok W r
theorem oL (W:Nat):u0 W []:=⟨by simp,fun r hr=>by cases hr⟩
structure Sim (W:Nat) (p:Option (List aE×aB)) (q:Option (aN×List aV)) (off:List aE) (s':aB):Prop where
 p:p=some (off,s')
 q:q=some (aM s',off.map told)
 i:SI W s'
 o:u0 W off
theorem nv (s:aB):bW s=some (lX s.spot.aL):=by unfold bW; rw [Il]; rfl
theorem u3 (s:aB):k7 (aM s).s=some (lX s.spot.aL):=B2 _
theorem qQ (g:aW):dY g=some (g.w,(g.l.length:Int)):=rfl
def mvS (s:aB) (x y:Int):aB:=⟨s.g,⟨max 0 (min x (s.g.w - 1)),max 0 (min y ((s.g.l.length:Int) - 1)),s.spot.aL⟩,s.saved,false,s.top,s.aK,s.aX,s.title⟩
theorem n8 (n lo hi:Int):gN n lo hi=some (max lo (min n hi)):=by
 unfold gN
 rw [gy,dQ]
section
variable {W : Nat} {s : aB}
theorem yy (h:SJ W s):eD s=some (s.g.w - 1,(s.g.l.length:Int) - 1):=by
 have h1:=h.gi.w2
 have h2:=h.gi.l2
 have h3:=h.gw
 unfold eD
 rw [qQ,aA]
 dsimp only
 rw [w64 (by omega) (by omega),w64 (by omega) (by omega)]
theorem lj (h:SJ W s) (x y:Int):bG s x y=some (mvS s x y):=by
 unfold bG
 rw [yy h,aA,n8,aA,n8,aA]
 rfl
theorem jq (h:SJ W s) (x y:Int):dK (aM s) x y=some (aM (mvS s x y)):=by
 have h1:=h.gi.w2
 have h2:=h.gi.l2
 have h3:=h.gw
 have e:((aM s).g.l.length:Int)=s.g.l.length:=by simp [aM,rW]
 unfold dK
 rw [e,show (aM s).g.w=s.g.w from rfl,w64 (by omega) (by omega),w64 (by omega) (by omega),gy,gy,dQ,dQ]
 rfl
theorem n9 (h:SJ W s) (x y:Int):SI W (mvS s x y):=by
 have h1:=h.gi.w1
 have h2:=h.gi.l1
 have h3:=h.gw
 exact ⟨⟨h3,h.gi,by simp only [mvS]; omega,by simp only [mvS]; omega,by simp only [mvS]; omega,by simp only [mvS]; omega,h.t0,h.tb,h.b1⟩,fun e=>by cases e⟩
theorem SJ.get (h:SJ W s) {y:Int} (h0:0≤y) (h1:y < s.g.l.length):idx (aM s).g.l y=some (told (lx s.g.l y))∧gok W (lx s.g.l y):=by
 obtain ⟨n,rfl⟩:=Int.eq_ofNat_of_zero_le h0
 have hn:n < s.g.l.length:=by omega
 rw [show (aM s).g.l=s.g.l.map told from rfl,fU,List.getElem?_map,List.getElem?_eq_getElem hn]
 exact ⟨by rw [EU hn]; rfl,by rw [EU hn]; exact h.gi.rs _ (List.getElem_mem hn)⟩
theorem SJ.Iq (h:SJ W s) (y:Int):fN s.g y=some (lx s.g.l y):=by
 rw [h.ge]
 exact MW _ _ _ h.gi.len
def seS (W:Nat) (s:aB) (y:Int) (r:aE):aB:=⟨⟨W,tq W s.g.l y r⟩,s.spot,s.saved,s.waiting,s.top,s.aK,s.aX,s.title⟩
theorem Fb (h:SJ W s) (y:Int) {r:aE} (hr:okR r.cells):SJ W (seS W s y r) :=
 ⟨rfl,HV h.gi y r hr,h.x0,h.x1,h.y0,by simp only [seS,ko]; exact h.y1,h.t0,h.tb,by simp only [seS,ko]; exact h.b1⟩
theorem SJ.Ir (h:SJ W s) (y:Int) {r:aE} (hr:r.cells.length≤1000000):fA s.g y r=some (inG s.g.l y,⟨W,tq W s.g.l y r⟩):=by
 rw [h.ge]
 exact HI W h.gi.w2 _ _ _ hr
theorem SJ.OE (h:SJ W s) (y:Int) {r:aE} (hr:r.cells.length≤1000000):n6 (aM s).g y (told r)=some (⟨W,(tq W s.g.l y r).map told⟩,inG s.g.l y):=by
 rw [show (aM s).g=⟨W,s.g.l.map told⟩ by show rW s.g=_; rw [rW,h.gw]]
 exact Ks W h.gi.w2 _ _ _ hr (by have:=h.gi.l2; omega)
theorem sg (h:SJ W s) {r:aE} (hr:r.cells.length≤1000000):km (aM s) (told r)=some (aM (seS W s s.spot.y r)):=by
 unfold km
 rw [show (aM s).y=s.spot.y from rfl,h.OE _ hr,aA]
 rfl
def upS (W:Nat) (s:aB) (n:Int):aB:=⟨⟨W,upL W s.g.l s.top s.aK n (lX s.spot.aL)⟩,s.spot,s.saved,s.waiting,s.top,s.aK,s.aX,s.title⟩
def upF (s:aB) (n:Int):List aE:=if s.top > 0 then [] else upO s.g.l s.top s.aK n
theorem sZ (W:Nat) (l:List aE) (t b n q:Int) (h1:1≤l.length):(upL W l t b n q).length=l.length:=by
 unfold upL
 split
 ·rfl
 ·rename_i h
  obtain ⟨e,e1,e2⟩:=p7 l t b h h1
  have e3:l.length=(l.take (loS l t)).length+(rgB l t b).length+(l.drop (loS l b+1)).length:=by rw [← List.length_append,← List.length_append,← e]
  rw [List.length_append,List.length_append,yj]
  omega
theorem wh (W:Nat) (l:List aE) (t b n q:Int) (h1:1≤l.length):(rZ W l t b n q).length=l.length:=by
 unfold rZ
 split
 ·rfl
 ·rename_i h
  obtain ⟨e,e1,e2⟩:=p7 l t b h h1
  have e3:l.length=(l.take (loS l t)).length+(rgB l t b).length+(l.drop (loS l b+1)).length:=by rw [← List.length_append,← List.length_append,← e]
  rw [List.length_append,List.length_append,uQ]
  omega
theorem Mf (h:SJ W s) (n:Int):SJ W (upS W s n) :=
 ⟨rfl,Ma h.gi _ _ _ _,h.x0,h.x1,h.y0,by simp only [upS,sZ _ _ _ _ _ _ h.gi.l1]; exact h.y1,h.t0,h.tb,by simp only [upS,sZ _ _ _ _ _ _ h.gi.l1]; exact h.b1⟩
theorem Is (h:SJ W s) (n:Int):u0 W (upF s n):=by
 unfold upF
 split
 ·exact oL W
 ·exact ⟨Nat.le_trans (Kz _ _ _ _) h.gi.l2,fun r hr=>h.gi.rs r (Ky hr)⟩
theorem Iu (h:SJ W s) (n:Int):iz s n=some (upF s n,upS W s n):=by
 unfold iz upF
 rw [nv,aA]
 have e:gq s.g s.top s.aK n (lX s.spot.aL)=some (upO s.g.l s.top s.aK n,⟨W,upL W s.g.l s.top s.aK n (lX s.spot.aL)⟩):=by
  rw [h.ge]; exact (AH h.gi _ _ _ _).1
 rw [e,aA]
 by_cases ht:s.top > 0
 ·rw [decide_eq_true ht,if_pos ht]; rfl
 ·rw [decide_eq_false ht,if_neg ht]; rfl
theorem yz (h:SJ W s):(aM s).g=⟨W,s.g.l.map told⟩:=by show rW s.g=_; rw [rW,h.gw]
theorem zY (h:SJ W s) (n:Int):nj (aM s) n=some (aM (upS W s n),(upF s n).map told):=by
 unfold nj upF
 rw [u3,aA,yz h,show (aM s).top=s.top from rfl,show (aM s).aK=s.aK from rfl,(AH h.gi _ _ _ _).2,aA]
 by_cases ht:s.top > 0
 ·rw [decide_eq_true ht,if_pos ht]; rfl
 ·rw [decide_eq_false ht,if_neg ht]; rfl
def nwS (s:aB):aB:=⟨s.g,s.spot,s.saved,false,s.top,s.aK,s.aX,s.title⟩
theorem me (h:SJ W s):SJ W (nwS s):=⟨h.gw,h.gi,h.x0,h.x1,h.y0,h.y1,h.t0,h.tb,h.b1⟩
def liS (W:Nat) (s:aB):aB:=if s.spot.y=s.aK then upS W (nwS s) 1 else mvS (nwS s) s.spot.x (s.spot.y+1)
def liF (s:aB):List aE:=if s.spot.y=s.aK then upF (nwS s) 1 else []
theorem ir (h:SJ W s):Sim W (dA s) (iG (aM s)) (liF s) (liS W s):=by
 have h1:=h.y1
 have h2:=h.gi.l2
 have h3:=h.y0
 by_cases hy:s.spot.y=s.aK
 ·refine ⟨?_,?_,?_,?_⟩
  ·unfold dA liF liS
   rw [mg hy,cond_true,if_pos hy,if_pos hy,← nwS,Iu (me h)]; rfl
  ·unfold iG liF liS
   rw [show ((aM s).y == (aM s).aK)=true from mg hy,cond_true,if_pos hy,if_pos hy]
   have e:=zY (me h) 1
   rw [show (aN.mk (aM s).g (aM s).x (aM s).y (aM s).s (aM s).sX (aM s).sY (aM s).sS false (aM s).top (aM s).aK (aM s).aX (aM s).title)=aM (nwS s) from rfl,e]; rfl
  ·unfold liS; rw [if_pos hy]; exact ⟨Mf (me h) 1,fun e=>by cases e⟩
  ·unfold liF; rw [if_pos hy]; exact Is (me h) 1
 ·refine ⟨?_,?_,?_,?_⟩
  ·unfold dA liF liS
   rw [eF hy,cond_false,if_neg hy,if_neg hy,w64 (by omega) (by omega),← nwS,lj (me h)]; rfl
  ·unfold iG liF liS
   rw [show ((aM s).y == (aM s).aK)=false from eF hy,cond_false,if_neg hy,if_neg hy,show (aM s).y=s.spot.y from rfl,w64 (by omega) (by omega)]
   rw [show (aN.mk (aM s).g (aM s).x s.spot.y (aM s).s (aM s).sX (aM s).sY (aM s).sS false (aM s).top (aM s).aK (aM s).aX (aM s).title)=aM (nwS s) from rfl,show (aM s).x=s.spot.x from rfl,jq (me h)]; rfl
  ·unfold liS; rw [if_neg hy]; exact n9 (me h) _ _
  ·unfold liF; rw [if_neg hy]; exact oL W
end
end Go.Tw.X
set_option linter.unusedVariables false
set_option linter.unusedSimpArgs false
namespace Go.Tw.X
open Go Go.Tw
section
variable {W : Nat} {s : aB}
theorem gok.le {W:Nat} {r:aE} (h:gok W r) (hW:W≤1000):r.cells.length≤1000:=by rw [h.1]; exact hW
theorem Iv {l:List aG} (h:okR l) (q:Int):okR (pr l q):=uO h _ (show rok 32 from ⟨by decide,by decide⟩)
theorem Gx (l:List aG) (q:Int):(pr l q).length=l.length:=by simp [pr]
def r1S (s:aB):aE:=⟨(lx s.g.l s.spot.y).cells,true⟩
def r2S (s:aB):aE:=⟨ja 0 (pr (lx s.g.l s.spot.y).cells (lX s.spot.aL)),true⟩
def r3S (s:aB) (r:Int):aE:=⟨ja 0 (vS (lx s.g.l s.spot.y).cells s.spot.x r (lX s.spot.aL)),false⟩
theorem SJ.row (h:SJ W s):gok W (lx s.g.l s.spot.y):=(h.get h.y0 h.y1).2
theorem Mg (h:SJ W s):gok W (r1S s):=⟨h.row.1,h.row.2⟩
theorem Mh (h:SJ W s):gok W (r2S s):=⟨by simp only [r2S,lf,Gx]; exact h.row.1,pY _ _ (Iv h.row.2 _)⟩
theorem OF (h:SJ W s) {r:Int} (hr:rok r):gok W (r3S s r):=⟨by simp only [r3S,lf,wT]; exact h.row.1,pY _ _ (Ko h.row.2 _ _ hr)⟩
theorem Iw (h:SJ W s):(r1S s).cells.length≤1000000:=by have:=(Mg h).le h.gi.w2; omega
theorem Ix (h:SJ W s):(r2S s).cells.length≤1000000:=by have:=(Mh h).le h.gi.w2; omega
theorem py (h:SJ W s):(lx s.g.l s.spot.y).cells.length≤1000:=h.row.le h.gi.w2
theorem Iy (h:SJ W s) (r:Int):(r3S s r).cells.length≤1000000:=by have:=py h; simp only [r3S,lf,wT]; omega
theorem Iz (h:SJ W s):cO s=some (seS W s s.spot.y (r1S s)):=by
 unfold cO
 rw [h.Iq,aA,show iW (lx s.g.l s.spot.y)=some (r1S s) from rfl,aA,h.Ir _ (Iw h),aA]
 rfl
theorem IA (h:SJ W s):cP s=some (seS W s s.spot.y (r2S s)):=by
 unfold cP iX
 have hl:=py h
 rw [h.Iq,aA,nv,aA,fill_eq _ _ (by omega),aA,aA]
 rw [← r2S,h.Ir _ (Ix h),aA]
 rfl
theorem SJ.xr (h:SJ W s): -9223372036854775808≤s.spot.x∧s.spot.x≤9223372036854775807:=by
 have h1:=h.x0
 have h2:=h.x1
 have h3:=h.gi.w2
 omega
theorem IB (h:SJ W s) (r:Int):dJ s r=some (seS W s s.spot.y (r3S s r)):=by
 unfold dJ iY
 have hl:=py h
 rw [h.Iq,aA,nv,aA,put_eq _ _ _ _ (by omega) h.xr.1 h.xr.2,aA,aA]
 rw [← r3S,h.Ir _ (Iy h r),aA]
 rfl
theorem Ni (h:SJ W s):nh (told (lx s.g.l s.spot.y)) (lX s.spot.aL)=some (told (r2S s)):=by
 have hl:=py h
 have:=HD (lx s.g.l s.spot.y).cells (lx s.g.l s.spot.y).wrapped (lX s.spot.aL) (by omega)
 rw [told,this]
 rfl
theorem Nj (h:SJ W s) {r:Int} (hr:rok r):pq (told (lx s.g.l s.spot.y)) s.spot.x r (lX s.spot.aL)=some (told (r3S s r)):=by
 have hl:=py h
 have:=Kn (lx s.g.l s.spot.y).cells (lx s.g.l s.spot.y).wrapped s.spot.x r (lX s.spot.aL) (by omega) h.xr.1 h.xr.2 hr.1 hr.2
 rw [told,this]
 rfl
def xS (s:aB) (x:Int):aB:=⟨s.g,⟨x,s.spot.y,s.spot.aL⟩,s.saved,s.waiting,s.top,s.aK,s.aX,s.title⟩
theorem B6 (h:SJ W s) {x:Int} (h0:0≤x) (h1:x < W):SJ W (xS s x):=⟨h.gw,h.gi,h0,h1,h.y0,h.y1,h.t0,h.tb,h.b1⟩
theorem w0 (h:SJ W s):(0:Int) < W:=by have:=h.gi.w1; omega
theorem B7 (s:aB):(liS W s).spot.aL=s.spot.aL:=by unfold liS; split <;> rfl
theorem PK (h:SJ W s) (hx:s.spot.x=0):(liS W s).spot.x=0:=by
 have h1:=h.gi.w1
 have h2:=h.gw
 unfold liS
 split
 ·exact hx
 ·simp only [mvS,nwS,hx]
  omega
def aS (W:Nat) (s:aB):aB:=if s.waiting=true∧s.aX=true then liS W (xS (seS W s s.spot.y (r1S s)) 0) else s
def aF (W:Nat) (s:aB):List aE:=if s.waiting=true∧s.aX=true then liF (xS (seS W s s.spot.y (r1S s)) 0) else []
theorem Fc (h:SJ W s):SJ W (xS (seS W s s.spot.y (r1S s)) 0):=B6 (Fb h _ (Mg h).2) (Int.le_refl 0) (w0 h)
theorem K6 (h:SJ W s):SJ W (aS W s):=by
 unfold aS
 split
 ·exact (ir (Fc h)).i.toSJ
 ·exact h
theorem IC (h:SJ W s):u0 W (aF W s):=by
 unfold aF
 split
 ·exact (ir (Fc h)).o
 ·exact oL W
theorem K7 (s:aB):(aS W s).spot.aL=s.spot.aL:=by
 unfold aS
 split
 ·rw [B7]; rfl
 ·rfl
def bS (W:Nat) (s:aB) (n:Int):aB:=if s.spot.x+n > W then (if s.aX=true then liS W (xS (seS W s s.spot.y (r2S s)) 0) else xS s (s.spot.x - 1)) else s
def bF (W:Nat) (s:aB) (n:Int):List aE:=if s.spot.x+n > W then (if s.aX=true then liF (xS (seS W s s.spot.y (r2S s)) 0) else []) else []
theorem B8 (h:SJ W s):SJ W (xS (seS W s s.spot.y (r2S s)) 0):=B6 (Fb h _ (Mh h).2) (Int.le_refl 0) (w0 h)
theorem Nk (h:SJ W s) {n:Int} (hn:n=1∨n=2) (hw:n≤W):SJ W (bS W s n)∧(bS W s n).spot.x+n≤W∧(bS W s n).spot.aL=s.spot.aL:=by
 have h1:=h.x1
 unfold bS
 split
 ·rename_i hx
  split
  ·refine ⟨(ir (B8 h)).i.toSJ,?_,by rw [B7]; rfl⟩
   rw [PK (B8 h) rfl]
   omega
  ·refine ⟨B6 h (by omega) (by omega),?_,rfl⟩
   simp only [xS]
   omega
 ·exact ⟨h,by omega,rfl⟩
theorem OG (h:SJ W s) (n:Int):u0 W (bF W s n):=by
 unfold bF
 split
 ·split
  ·exact (ir (B8 h)).o
  ·exact oL W
 ·exact oL W
def cS (W:Nat) (s:aB) (r n:Int):aB:=⟨⟨W,tq W s.g.l s.spot.y (r3S s r)⟩,⟨min (s.spot.x+n) (W - 1),s.spot.y,s.spot.aL⟩,s.saved,s.spot.x+n == W,s.top,s.aK,s.aX,s.title⟩
def prS (W:Nat) (s:aB) (r:Int):aB:=if ofS r=0∨ofS r > W then s else cS W (bS W (aS W s) (ofS r)) r (ofS r)
def prF (W:Nat) (s:aB) (r:Int):List aE:=if ofS r=0∨ofS r > W then [] else aF W s++bF W (aS W s) (ofS r)
theorem AU {a b:Nat} (ha:a≤1000000) (hb:b≤1000000):chk (eO a b 32)=some ():=bL (by omega)
theorem u0.l {off:List aE} (h:u0 W off):off.length≤1000000:=by have:=h.1; omega
theorem PL (h:SJ W s) {n r:Int} (hn:n=1∨n=2) (hx:s.spot.x+n≤W) (hr:rok r):SI W (cS W s r n):=by
 have h1:=h.x0
 have h2:=h.gi.w1
 refine ⟨⟨rfl,HV h.gi _ _ (OF h hr).2,?_,?_,h.y0,?_,h.t0,h.tb,?_⟩,?_⟩
 ·simp only [cS]; omega
 ·simp only [cS]; omega
 ·simp only [cS,ko]; exact h.y1
 ·simp only [cS,ko]; exact h.b1
 ·intro e
  simp only [cS,beq_iff_eq] at e ⊢
  omega
theorem K8 (h:SJ W s) (r:Int):ij s r=some (prF W s r,prS W s r):=by
 have hw2:=h.gi.w2
 unfold ij prF prS
 rw [of_eq,aA,qQ,aA,h.gw]
 dsimp only
 have e0:((bif (ofS r == 0) then some true else some (decide (ofS r > (W:Int)))):Option Bool)=some (decide (ofS r=0∨ofS r > W)):=by
  by_cases h1:ofS r=0
  ·rw [mg h1,cond_true,decide_eq_true (.inl h1)]
  ·rw [eF h1,cond_false]
   congr 1
   exact decide_eq_decide.2 ⟨.inr,fun h=>h.resolve_left h1⟩
 rw [e0,aA]
 by_cases hc:ofS r=0∨ofS r > W
 ·rw [decide_eq_true hc,cond_true,if_pos hc,if_pos hc]
 ·rw [decide_eq_false hc,cond_false,if_neg hc,if_neg hc]
  have hn:ofS r=1∨ofS r=2:=by rcases pX r with h | h | h <;> omega
  generalize hnn:ofS r=n at hc hn ⊢
  have ea:((bif s.waiting then some s.aX else some false):Option Bool)=some (decide (s.waiting=true∧s.aX=true)):=by cases s.waiting <;> cases s.aX <;> rfl
  rw [ea,aA]
  have eA:((bif decide (s.waiting=true∧s.aX=true) then (Option.bind (cO s) fun a=>(Option.bind (dA (aB.mk a.g (eI.mk 0 a.spot.y a.spot.aL) a.saved a.waiting a.top a.aK a.aX a.title)) fun c=>(Option.bind (chk (eO ([]:List aE).length c.1.length 32)) fun _=>some ((([]:List aE)++c.1),c.2.g,c.2)))) else some ([],s.g,s)):Option ((List aE)×aW×aB))=some (aF W s,(aS W s).g,aS W s):=by
   unfold aF aS
   by_cases hb:s.waiting=true∧s.aX=true
   ·rw [decide_eq_true hb,cond_true,if_pos hb,if_pos hb,Iz h,aA]
    have e1:=ir (Fc h)
    rw [show (aB.mk (seS W s s.spot.y (r1S s)).g (eI.mk 0 (seS W s s.spot.y (r1S s)).spot.y (seS W s s.spot.y (r1S s)).spot.aL) (seS W s s.spot.y (r1S s)).saved (seS W s s.spot.y (r1S s)).waiting (seS W s s.spot.y (r1S s)).top (seS W s s.spot.y (r1S s)).aK (seS W s s.spot.y (r1S s)).aX (seS W s s.spot.y (r1S s)).title)=xS (seS W s s.spot.y (r1S s)) 0 from rfl,e1.p,aA]
    dsimp only
    rw [AU (by simp) e1.o.l,aA,List.nil_append]
   ·rw [decide_eq_false hb,cond_false,if_neg hb,if_neg hb]
  rw [eA,aA]
  dsimp only
  have hA:=K6 h
  have hAx:=hA.x1
  have hA0:=hA.x0
  have hFo:=(IC h).l
  generalize hs1:aS W s=s1 at *
  generalize aF W s=o1 at *
  rw [w64 (x:=s1.spot.x+n) (by omega) (by omega)]
  have hB:=Nk hA hn (by omega:n≤W)
  have eB: ∀ g:aW,g=s1.g→((bif (decide (s1.spot.x+n > (W:Int))) then (bif s1.aX then (Option.bind (cP (aB.mk g s1.spot s1.saved s1.waiting s1.top s1.aK s1.aX s1.title)) fun b=>(Option.bind (dA (aB.mk b.g (eI.mk 0 b.spot.y b.spot.aL) b.saved b.waiting b.top b.aK b.aX b.title)) fun d=>(Option.bind (chk (eO o1.length d.1.length 32)) fun _=>some ((o1++d.1),d.2.g,d.2)))) else some (o1,g,(aB.mk g (eI.mk (IntKind.i64.wrap (s1.spot.x - 1)) s1.spot.y s1.spot.aL) s1.saved s1.waiting s1.top s1.aK s1.aX s1.title))) else some (o1,g,(aB.mk g s1.spot s1.saved s1.waiting s1.top s1.aK s1.aX s1.title))):Option ((List aE)×aW×aB))=some (o1++bF W s1 n,(bS W s1 n).g,bS W s1 n):=by
   rintro g rfl
   unfold bF bS
   by_cases hx:s1.spot.x+n > W
   ·rw [decide_eq_true hx,cond_true,if_pos hx,if_pos hx]
    cases hwr:s1.aX with
    | true =>
     rw [cond_true,if_pos rfl,if_pos rfl]
     have e2:(aB.mk s1.g s1.spot s1.saved s1.waiting s1.top s1.aK true s1.title)=s1:=by rw [← hwr]
     rw [e2,IA hA,aA]
     have e1:=ir (B8 hA)
     rw [show (aB.mk (seS W s1 s1.spot.y (r2S s1)).g (eI.mk 0 (seS W s1 s1.spot.y (r2S s1)).spot.y (seS W s1 s1.spot.y (r2S s1)).spot.aL) (seS W s1 s1.spot.y (r2S s1)).saved (seS W s1 s1.spot.y (r2S s1)).waiting (seS W s1 s1.spot.y (r2S s1)).top (seS W s1 s1.spot.y (r2S s1)).aK (seS W s1 s1.spot.y (r2S s1)).aX (seS W s1 s1.spot.y (r2S s1)).title)=xS (seS W s1 s1.spot.y (r2S s1)) 0 from rfl,e1.p,aA]
     dsimp only
     rw [AU hFo e1.o.l,aA]
    | false =>
     rw [cond_false,if_neg (by simp),if_neg (by simp),w64 (by omega) (by omega),List.append_nil]
     simp only [xS,hwr]
   ·rw [decide_eq_false hx,cond_false,if_neg hx,if_neg hx,List.append_nil]
  rw [eB _ rfl,aA]
  dsimp only
  obtain ⟨hB1,hB2,hB3⟩:=hB
  have hBx:=hB1.x0
  generalize bS W s1 n=s2 at *
  generalize o1++bF W s1 n=o2
  rw [show (aB.mk s2.g s2.spot s2.saved s2.waiting s2.top s2.aK s2.aX s2.title)=s2 from rfl,IB hB1,aA]
  unfold cS
  simp only [seS]
  rw [w64 (by omega) (by omega),w64 (by omega) (by omega),dQ]
end
end Go.Tw.X
set_option linter.unusedVariables false
set_option linter.unusedSimpArgs false
namespace Go.Tw.X
open Go Go.Tw
section
variable {W : Nat} {s : aB}
theorem SJ.K9 (h:SJ W s):idx (aM s).g.l (aM s).y=some (told (lx s.g.l s.spot.y)):=(h.get h.y0 h.y1).1
theorem Nl (h:SJ W s) {r:Int} (hr:rok r):qH (aM s) r=some (aM (prS W s r),(prF W s r).map told):=by
 have hw2:=h.gi.w2
 unfold qH prF prS
 rw [HE r hr.1 hr.2,aA,show (aM s).g.w=(W:Int) from h.gw]
 have e0:((bif (ofS r == 0) then some true else some (decide (ofS r > (W:Int)))):Option Bool)=some (decide (ofS r=0∨ofS r > W)):=by
  by_cases h1:ofS r=0
  ·rw [mg h1,cond_true,decide_eq_true (.inl h1)]
  ·rw [eF h1,cond_false]
   congr 1
   exact decide_eq_decide.2 ⟨.inr,fun h=>h.resolve_left h1⟩
 rw [e0,aA]
 by_cases hc:ofS r=0∨ofS r > W
 ·rw [decide_eq_true hc,cond_true,if_pos hc,if_pos hc]; rfl
 ·rw [decide_eq_false hc,cond_false,if_neg hc,if_neg hc,u3,aA]
  have hn:ofS r=1∨ofS r=2:=by rcases pX r with h | h | h <;> omega
  generalize hnn:ofS r=n at hc hn ⊢
  have ea:((bif (aM s).waiting then some (aM s).aX else some false):Option Bool)=some (decide (s.waiting=true∧s.aX=true)):=by
   show ((bif s.waiting then some s.aX else some false):Option Bool)=_
   cases s.waiting <;> cases s.aX <;> rfl
  rw [ea,aA]
  have eA:((bif decide (s.waiting=true∧s.aX=true) then (Option.bind (idx (aM s).g.l (aM s).y) fun e=>(Option.bind (km (aM s) (aV.mk e.l true)) fun a=>(Option.bind (iG (aN.mk a.g 0 a.y a.s a.sX a.sY a.sS a.waiting a.top a.aK a.aX a.title)) fun c=>(Option.bind (chk (eO ([]:List aV).length c.2.length 32)) fun _=>some ((([]:List aV)++c.2),c.1))))) else some (([]:List aV),aM s)):Option ((List aV)×aN))=some ((aF W s).map told,aM (aS W s)):=by
   unfold aF aS
   by_cases hb:s.waiting=true∧s.aX=true
   ·rw [decide_eq_true hb,cond_true,if_pos hb,if_pos hb,h.K9,aA]
    rw [show (aV.mk (told (lx s.g.l s.spot.y)).l true)=told (r1S s) from rfl,sg h (Iw h),aA]
    have e1:=ir (Fc h)
    have e2:=e1.q
    rw [show aM (xS (seS W s s.spot.y (r1S s)) 0)=(aN.mk (aM (seS W s s.spot.y (r1S s))).g 0 (aM (seS W s s.spot.y (r1S s))).y (aM (seS W s s.spot.y (r1S s))).s (aM (seS W s s.spot.y (r1S s))).sX (aM (seS W s s.spot.y (r1S s))).sY (aM (seS W s s.spot.y (r1S s))).sS (aM (seS W s s.spot.y (r1S s))).waiting (aM (seS W s s.spot.y (r1S s))).top (aM (seS W s s.spot.y (r1S s))).aK (aM (seS W s s.spot.y (r1S s))).aX (aM (seS W s s.spot.y (r1S s))).title) from rfl] at e2
    rw [e2,aA]
    dsimp only
    rw [AU (by simp) (by rw [List.length_map]; exact e1.o.l),aA,List.nil_append]
   ·rw [decide_eq_false hb,cond_false,if_neg hb,if_neg hb]; rfl
  rw [eA,aA]
  dsimp only
  have hA:=K6 h
  have hst:(aS W s).spot.aL=s.spot.aL:=K7 s
  have hAx:=hA.x1
  have hA0:=hA.x0
  have hFo:=(IC h).l
  generalize hs1:aS W s=s1 at *
  generalize aF W s=o1 at *
  have hB:=Nk hA hn (by omega:n≤W)
  have eb:((bif (n == 2) then some ((aM s1).x == (IntKind.i64.wrap ((aM s1).g.w - 1))) else some false):Option Bool)=some (decide (s1.spot.x+n > W)):=by
   rw [show (aM s1).g.w=(W:Int) from hA.gw,show (aM s1).x=s1.spot.x from rfl,w64 (by omega) (by omega)]
   by_cases h2:n=2
   ·rw [mg h2,cond_true]
    by_cases hx:s1.spot.x=(W:Int) - 1
    ·rw [mg hx,decide_eq_true (by omega)]
    ·rw [eF hx,decide_eq_false (by omega)]
   ·rw [eF h2,cond_false,decide_eq_false (by omega)]
  rw [eb,aA]
  have eB:((bif decide (s1.spot.x+n > (W:Int)) then (bif (aM s1).aX then (Option.bind (idx (aM s1).g.l (aM s1).y) fun f=>(Option.bind (nh f (lX s.spot.aL)) fun i=>(Option.bind (km (aM s1) i) fun b=>(Option.bind (iG (aN.mk b.g 0 b.y b.s b.sX b.sY b.sS b.waiting b.top b.aK b.aX b.title)) fun d=>(Option.bind (chk (eO (o1.map told).length d.2.length 32)) fun _=>some ((o1.map told++d.2),d.1)))))) else some (o1.map told,(aN.mk (aM s1).g (IntKind.i64.wrap ((aM s1).x - 1)) (aM s1).y (aM s1).s (aM s1).sX (aM s1).sY (aM s1).sS (aM s1).waiting (aM s1).top (aM s1).aK (aM s1).aX (aM s1).title))) else some (o1.map told,aM s1)):Option ((List aV)×aN))=some ((o1++bF W s1 n).map told,aM (bS W s1 n)):=by
   unfold bF bS
   by_cases hx:s1.spot.x+n > W
   ·rw [decide_eq_true hx,cond_true,if_pos hx,if_pos hx,show (aM s1).aX=s1.aX from rfl]
    cases hwr:s1.aX with
    | true =>
     rw [cond_true,if_pos rfl,if_pos rfl,hA.K9,aA,← hst,Ni hA,aA,sg hA (Ix hA),aA]
     have e1:=ir (B8 hA)
     have e2:=e1.q
     rw [show aM (xS (seS W s1 s1.spot.y (r2S s1)) 0)=(aN.mk (aM (seS W s1 s1.spot.y (r2S s1))).g 0 (aM (seS W s1 s1.spot.y (r2S s1))).y (aM (seS W s1 s1.spot.y (r2S s1))).s (aM (seS W s1 s1.spot.y (r2S s1))).sX (aM (seS W s1 s1.spot.y (r2S s1))).sY (aM (seS W s1 s1.spot.y (r2S s1))).sS (aM (seS W s1 s1.spot.y (r2S s1))).waiting (aM (seS W s1 s1.spot.y (r2S s1))).top (aM (seS W s1 s1.spot.y (r2S s1))).aK (aM (seS W s1 s1.spot.y (r2S s1))).aX (aM (seS W s1 s1.spot.y (r2S s1))).title) from rfl] at e2
     rw [e2,aA]
     dsimp only
     rw [AU (by rw [List.length_map]; exact hFo) (by rw [List.length_map]; exact e1.o.l),aA,List.map_append]
    | false =>
     rw [cond_false,if_neg (by simp),if_neg (by simp),show (aM s1).x=s1.spot.x from rfl,w64 (by omega) (by omega),List.append_nil]
     simp only [xS,hwr,aM]
   ·rw [decide_eq_false hx,cond_false,if_neg hx,if_neg hx,List.append_nil]
  rw [eB,aA]
  dsimp only
  obtain ⟨hB1,hB2,hB3⟩:=hB
  have hBx:=hB1.x0
  have hst2:(bS W s1 n).spot.aL=s.spot.aL:=by rw [hB3,hst]
  generalize bS W s1 n=s2 at *
  generalize o1++bF W s1 n=o2
  rw [hB1.K9,aA,show (aM s2).x=s2.spot.x from rfl,← hst2,Nj hB1 hr,aA,sg hB1 (Iy hB1 r),aA]
  rw [show (aM (seS W s2 s2.spot.y (r3S s2 r))).x=s2.spot.x from rfl,show (aM (seS W s2 s2.spot.y (r3S s2 r))).g.w=(W:Int) from rfl,w64 (by omega) (by omega),w64 (by omega) (by omega)]
  unfold cS
  by_cases hx:s2.spot.x+n=W
  ·rw [mg hx,cond_true,aA,show min (s2.spot.x+n) ((W:Int) - 1)=s2.spot.x+n - 1 by omega]; rfl
  ·rw [eF hx,cond_false,aA,show min (s2.spot.x+n) ((W:Int) - 1)=s2.spot.x+n by omega]; rfl
theorem OH (h:SI W s) {r:Int} (hr:rok r):SI W (prS W s r):=by
 unfold prS
 split
 ·exact h
 ·rename_i hc
  have hn:ofS r=1∨ofS r=2:=by rcases pX r with h | h | h <;> omega
  have hB:=Nk (K6 h.toSJ) hn (by omega)
  exact PL hB.1 hn hB.2.1 hr
theorem Nm (h:SJ W s) {r:Int}:(prF W s r).length≤2000 ∧ ∀ q∈prF W s r,gok W q:=by
 unfold prF
 split
 ·exact ⟨by simp,fun r hr=>by cases hr⟩
 ·have h1:=IC h
  have h2:=OG (K6 h) (ofS r)
  refine ⟨by rw [List.length_append]; have:=h1.1; have:=h2.1; omega,fun q hq=> ?_⟩
  rcases List.mem_append.1 hq with hq | hq
  ·exact h1.2 q hq
  ·exact h2.2 q hq
end
end Go.Tw.X
set_option linter.unusedVariables false
set_option linter.unusedSimpArgs false
namespace Go.Tw.X
open Go Go.Tw
def atS (l:List Int) (i:Nat) (d:Int):Int:=match l[i]? with
 | some n=>if n≤0 then d else min n 9999
 | none=>d
theorem zZ (a:aZ) (i:Nat) (d:Int):eX a (i:Int) d=some (atS a.bH i d):=by
 unfold eX atS
 by_cases hi:i < a.bH.length
 ·rw [decide_eq_false (by omega: ¬ (i:Int)≥(a.bH.length:Int)),cond_false]
  simp only [dG _ _ hi,aA,List.getElem?_eq_getElem hi]
  by_cases h:a.bH[i]≤0
  ·rw [decide_eq_true h,cond_true,if_pos h]
  ·rw [decide_eq_false h,cond_false,if_neg h,dQ]
 ·rw [decide_eq_true (by omega:(i:Int)≥(a.bH.length:Int)),cond_true,aA,cond_true,List.getElem?_eq_none (by omega)]
theorem qf (l:List Int) (i:Nat) (d:Int):fL l (i:Int) d=some (atS l i d):=by
 unfold fL atS
 by_cases hi:i < l.length
 ·rw [decide_eq_true (by omega:(i:Int) < (l.length:Int)),cond_true]
  simp only [dG _ _ hi,aA,List.getElem?_eq_getElem hi]
  by_cases h:l[i]≤0
  ·rw [decide_eq_false (by omega),cond_false,if_pos h]
  ·rw [decide_eq_true (by omega),cond_true,if_neg h,dQ]
 ·rw [decide_eq_false (by omega: ¬ (i:Int) < (l.length:Int)),cond_false,aA,cond_false,List.getElem?_eq_none (by omega)]
theorem wj (l:List Int) (i:Nat) {d:Int} (h0:0≤d) (h1:d≤9999):0≤atS l i d∧atS l i d≤9999∧(1≤d→1≤atS l i d):=by
 unfold atS
 split
 ·split <;> omega
 ·omega
section
variable {W : Nat} {s : aB}
def dnS (W:Nat) (s:aB) (t b n:Int):aB:=⟨⟨W,rZ W s.g.l t b n (lX s.spot.aL)⟩,s.spot,s.saved,s.waiting,s.top,s.aK,s.aX,s.title⟩
def upT (W:Nat) (s:aB) (t b n:Int):aB:=⟨⟨W,upL W s.g.l t b n (lX s.spot.aL)⟩,s.spot,s.saved,s.waiting,s.top,s.aK,s.aX,s.title⟩
theorem B9 (h:SJ W s) (t b n:Int):SJ W (dnS W s t b n) :=
 ⟨rfl,Kx h.gi _ _ _ _,h.x0,h.x1,h.y0,by simp only [dnS,wh _ _ _ _ _ _ h.gi.l1]; exact h.y1,h.t0,h.tb,by simp only [dnS,wh _ _ _ _ _ _ h.gi.l1]; exact h.b1⟩
theorem DQ (h:SJ W s) (t b n:Int):SJ W (upT W s t b n) :=
 ⟨rfl,Ma h.gi _ _ _ _,h.x0,h.x1,h.y0,by simp only [upT,sZ _ _ _ _ _ _ h.gi.l1]; exact h.y1,h.t0,h.tb,by simp only [upT,sZ _ _ _ _ _ _ h.gi.l1]; exact h.b1⟩
theorem yA (h:SJ W s) (t b n:Int):eQ s.g t b n (lX s.spot.aL)=some (tL s.g.l t b n,(dnS W s t b n).g):=by
 rw [h.ge]; exact (BL h.gi _ _ _ _).1
theorem yB (h:SJ W s) (t b n:Int):eL (aM s).g false t b n (lX s.spot.aL)=some ((aM (dnS W s t b n)).g,(tL s.g.l t b n).map told):=by
 rw [yz h]; exact (BL h.gi _ _ _ _).2
theorem Nn (h:SJ W s) (t b n:Int):gq s.g t b n (lX s.spot.aL)=some (upO s.g.l t b n,(upT W s t b n).g):=by
 rw [h.ge]; exact (AH h.gi _ _ _ _).1
theorem Ld (h:SJ W s) (t b n:Int):eL (aM s).g true t b n (lX s.spot.aL)=some ((aM (upT W s t b n)).g,(upO s.g.l t b n).map told):=by
 rw [yz h]; exact (AH h.gi _ _ _ _).2
def baS (W:Nat) (s:aB):aB:=if s.spot.y=s.top then dnS W (nwS s) s.top s.aK 1 else mvS (nwS s) s.spot.x (s.spot.y - 1)
theorem OI (h:SJ W s):SI W (baS W s):=by
 unfold baS
 split
 ·exact ⟨B9 (me h) _ _ _,fun e=>by cases e⟩
 ·exact n9 (me h) _ _
theorem yr (h:SJ W s):0≤s.spot.y∧s.spot.y < 1000∧0≤s.spot.x∧s.spot.x < 1000:=by
 have h1:=h.gi.w2
 have h2:=h.gi.l2
 have h3:=h.y1
 have h4:=h.x1
 have h5:=h.y0
 have h6:=h.x0
 omega
theorem back_eq (h:SJ W s):iR s=some (baS W s):=by
 have hy:=yr h
 unfold iR baS
 rw [← nwS]
 by_cases c:s.spot.y=s.top
 ·rw [mg c,cond_true,if_pos c,nv,aA]
  have e:=yA (me h) s.top s.aK 1
  rw [show (nwS s).g=s.g from rfl] at e
  rw [e,aA]
  rfl
 ·rw [eF c,cond_false,if_neg c,w64 (by omega) (by omega),lj (me h),aA]
theorem DR (h:SJ W s):((aM s).g.l.length:Int)=s.g.l.length:=by simp [aM,rW]
def clS (s:aB) (n:Int):aB:=mvS s s.spot.x (max (if s.spot.y≥s.top∧n < 0 then s.top else 0) (min (s.spot.y+n) (if s.spot.y≤s.aK∧n > 0 then s.aK else (s.g.l.length:Int) - 1)))
theorem xD {α:Type} (p:Prop) [Decidable p] (x y:α):((bif decide p then some x else some y):Option α)=some (if p then x else y):=by
 by_cases h:p <;> simp [h]
theorem ID (h:SJ W s) {n:Int} (h0: -9999≤n) (h1:n≤9999):fY s n=some (clS s n):=by
 have hy:=yr h
 unfold fY clS
 rw [yy h,aA]
 rw [show ((bif (decide (s.spot.y≥s.top)) then some (decide (n < 0)) else some false):Option Bool)=_ from AD _ _,aA,xD,aA]
 rw [show ((bif (decide (s.spot.y≤s.aK)) then some (decide (n > 0)) else some false):Option Bool)=_ from AD _ _,aA]
 dsimp only
 rw [xD,aA,w64 (by omega) (by omega),n8,aA,lj h,aA]
def erR (s:aB) (y a b:Int):aE:=⟨ja 0 (lg a b (lX s.spot.aL) 0 (lx s.g.l y).cells),false⟩
def erS (W:Nat) (s:aB) (y a b:Int):aB:=seS W s y (erR s y a b)
theorem DS (h:SJ W s) {y:Int} (h0:0≤y) (h1:y < s.g.l.length) (a b:Int):gok W (erR s y a b):=by
 have hg:=(h.get h0 h1).2
 exact ⟨by simp only [erR,lf,mv]; exact hg.1,pY _ _ (vV _ _ _ _ hg.2)⟩
theorem Mi (h:SJ W s) {y:Int} (h0:0≤y) (h1:y < s.g.l.length) (a b:Int):SJ W (erS W s y a b):=Fb h _ (DS h h0 h1 a b).2
theorem s6 (h:SJ W s) {y:Int} (h0:0≤y) (h1:y < s.g.l.length) (a b:Int):eJ s y a b=some (erS W s y a b):=by
 have hg:=(h.get h0 h1).2.le h.gi.w2
 have hr:=(DS h h0 h1 a b).le h.gi.w2
 unfold eJ
 rw [h.Iq,aA,nv,aA,erase_eq _ _ _ _ (by omega),aA,← erR,h.Ir _ (by omega),aA]
 rfl
theorem uu (h:SJ W s) {y:Int} (h0:0≤y) (h1:y < s.g.l.length) (a b:Int):lG (aM s) y a b=some (aM (erS W s y a b)):=by
 have hg:=(h.get h0 h1).2.le h.gi.w2
 have hr:=(DS h h0 h1 a b).le h.gi.w2
 unfold lG
 have e:nT (told (lx s.g.l y)) a b (lX s.spot.aL)=some (told (erR s y a b)):=by
  rw [told,Gg (lx s.g.l y).cells (lx s.g.l y).wrapped a b _ (by omega)]; rfl
 rw [(h.get h0 h1).1,aA,u3,aA,e,aA,h.OE _ (by omega),aA]
 rfl
def paA (s:aB) (n:Int):Int:=if n=0 then s.spot.x else 0
def paB (W:Nat) (s:aB) (n:Int):Int:=if n=1 then s.spot.x+1 else W
def paS (W:Nat) (s:aB) (n:Int):aB:=if n > 2 then s else nwS (erS W s s.spot.y (paA s n) (paB W s n))
theorem Fe (h:SJ W s) {n:Int} (hn:0≤n):gG s n=some (paS W s n):=by
 have hy:=yr h
 unfold gG paS paA paB
 rw [qQ,aA,h.gw]
 dsimp only
 rw [w64 (x:=s.spot.x+1) (by omega) (by omega)]
 have e: ∀ t:aB,((bif t.waiting then some (aB.mk t.g t.spot t.saved false t.top t.aK t.aX t.title) else some (aB.mk t.g t.spot t.saved false t.top t.aK t.aX t.title)):Option aB)=some (nwS t):=fun t=>by cases t.waiting <;> rfl
 by_cases h0:n=0
 ·subst h0
  rw [mg rfl,cond_true,s6 h h.y0 h.y1,aA,aA]
  exact e _
 ·rw [eF h0,cond_false]
  by_cases h1:n=1
  ·subst h1
   rw [mg rfl,cond_true,s6 h h.y0 h.y1,aA,aA]
   exact e _
  ·rw [eF h1,cond_false]
   by_cases h2:n=2
   ·subst h2
    rw [mg rfl,cond_true,s6 h h.y0 h.y1,aA,aA]
    exact e _
   ·rw [eF h2,cond_false,aA,if_pos (by omega:n > 2),decide_eq_true (by omega:n > 2)]
    dsimp only
    cases hw:s.waiting with
    | true=>rw [cond_true,← hw]
    | false=>rw [cond_false,← hw]
theorem OJ (h:SI W s) {n:Int}:SI W (paS W s n):=by
 unfold paS
 split
 ·exact h
 ·exact ⟨me (Mi h.toSJ h.y0 h.y1 _ _),fun e=>by cases e⟩
def wpc (s:aB) (n:Int) (k:Nat):Bool:=decide ((k:Int) < s.spot.y∧n≠0∧n≤2∨(k:Int) > s.spot.y∧n≠1∧n≤2)
def wpS (W:Nat) (s:aB) (n:Int):Nat→aB
 | 0=>s
 | k+1=>if wpc s n k then erS W (wpS W s n k) k 0 W else wpS W s n k
theorem u4 (n:Int): ∀ k,(wpS W s n k).spot=s.spot∧(wpS W s n k).g.l.length=s.g.l.length∧(wpS W s n k).waiting=s.waiting
 | 0=>⟨rfl,rfl,rfl⟩
 | k+1=>by
  obtain ⟨h1,h2,h3⟩:=u4 n k
  unfold wpS
  split
  ·exact ⟨h1,by simp only [erS,seS,ko]; exact h2,h3⟩
  ·exact ⟨h1,h2,h3⟩
theorem z3 (h:SJ W s) (n:Int): ∀ k,k≤s.g.l.length→SJ W (wpS W s n k)
 | 0,_=>h
 | k+1,hk=>by
  have ih:=z3 h n k (by omega)
  unfold wpS
  split
  ·exact Mi ih (by omega) (by rw [(u4 n k).2.1]; omega) _ _
  ·exact ih
end
end Go.Tw.X
set_option linter.unusedVariables false
set_option linter.unusedSimpArgs false
namespace Go.Tw.X
open Go Go.Tw
section
variable {W : Nat} {s : aB}
theorem AV (n:Int) (k:Nat):wpS W s n (k+1)=if wpc s n k then erS W (wpS W s n k) k 0 W else wpS W s n k:=rfl
theorem Le (h:SJ W s) {n:Int} (hn:0≤n):iS s n=some (paS W (wpS W s n s.g.l.length) n):=by
 have hl:=h.gi.l2
 unfold iS
 rw [qQ,aA,h.gw]
 dsimp only
 refine gA (fun k=>(wpS W s n k,(wpS W s n k).g,(k:Int))) s.g.l.length ((wpS W s n s.g.l.length).g,wpS W s n s.g.l.length) rfl ?_ ?_ ?_
 ·intro k hk
  have hs:=u4 (W:=W) (s:=s) n k
  have hJ:=z3 h n k (by omega)
  dsimp only
  rw [decide_eq_true (by omega:(k:Int) < (s.g.l.length:Int)),cond_true,hs.1,AV,w64 (by omega) (by omega)]
  have ec:((bif (decide ((k:Int) < s.spot.y)) then (bif (n == 1) then some true else (bif (decide ((k:Int) > s.spot.y)) then (bif (n == 0) then some true else (bif ((k:Int) != s.spot.y) then some (n == 2) else some false)) else (bif ((k:Int) != s.spot.y) then some (n == 2) else some false))) else (bif (decide ((k:Int) > s.spot.y)) then (bif (n == 0) then some true else (bif ((k:Int) != s.spot.y) then some (n == 2) else some false)) else (bif ((k:Int) != s.spot.y) then some (n == 2) else some false))):Option Bool)=some (wpc s n k):=by
   unfold wpc
   have hb: ∀ b:Bool,(b=true)=b:=fun b=>rfl
   by_cases a1:(k:Int) < s.spot.y
   ·have a2: ¬ (k:Int) > s.spot.y:=by omega
    have a3:((k:Int) != s.spot.y)=true:=by simp; omega
    rw [decide_eq_true a1,decide_eq_false a2,a3]
    simp only [cond_true,cond_false]
    by_cases c:n=1
    ·rw [mg c,cond_true,decide_eq_true (by omega)]
    ·rw [eF c,cond_false]
     by_cases c2:n=2
     ·rw [mg c2,decide_eq_true (by omega)]
     ·rw [eF c2,decide_eq_false (by omega)]
   ·rw [decide_eq_false a1,cond_false]
    by_cases a2:(k:Int) > s.spot.y
    ·have a3:((k:Int) != s.spot.y)=true:=by simp; omega
     rw [decide_eq_true a2,a3]
     simp only [cond_true,cond_false]
     by_cases c:n=0
     ·rw [mg c,cond_true,decide_eq_true (by omega)]
     ·rw [eF c,cond_false]
      by_cases c2:n=2
      ·rw [mg c2,decide_eq_true (by omega)]
      ·rw [eF c2,decide_eq_false (by omega)]
    ·have a3:((k:Int) != s.spot.y)=false:=by simp; omega
     rw [decide_eq_false a2,a3]
     simp only [cond_false]
     rw [decide_eq_false (by omega)]
  rw [ec,aA]
  cases hc:wpc s n k with
  | true =>
   rw [cond_true,if_pos rfl,show (aB.mk (wpS W s n k).g s.spot (wpS W s n k).saved (wpS W s n k).waiting (wpS W s n k).top (wpS W s n k).aK (wpS W s n k).aX (wpS W s n k).title)=wpS W s n k by rw [← hs.1]]
   rw [s6 hJ (by omega) (by rw [hs.2.1]; omega),aA,aA]
   rfl
  | false =>
   rw [cond_false,if_neg (by simp),aA]
   dsimp only
   rw [show (aB.mk (wpS W s n k).g s.spot (wpS W s n k).saved (wpS W s n k).waiting (wpS W s n k).top (wpS W s n k).aK (wpS W s n k).aX (wpS W s n k).title)=wpS W s n k by rw [← hs.1]]
   rfl
 ·dsimp only
  rw [decide_eq_false (by omega: ¬ ((s.g.l.length:Nat):Int) < (s.g.l.length:Int)),cond_false]
 ·dsimp only
  rw [show (aB.mk (wpS W s n s.g.l.length).g (wpS W s n s.g.l.length).spot (wpS W s n s.g.l.length).saved (wpS W s n s.g.l.length).waiting (wpS W s n s.g.l.length).top (wpS W s n s.g.l.length).aK (wpS W s n s.g.l.length).aX (wpS W s n s.g.l.length).title)=wpS W s n s.g.l.length from rfl,Fe (z3 h n _ (Nat.le_refl _)) hn,aA]
theorem Ff {n:Int} (hn:n > 2): ∀ k,wpS W s n k=s
 | 0=>rfl
 | k+1=>by
  rw [AV,Ff hn k]
  unfold wpc
  rw [decide_eq_false (by omega),if_neg (by simp)]
def Ca (W:Nat) (s:aB) (n:Int) (all:Bool):aB:=paS W (if all then wpS W s n s.g.l.length else s) n
theorem Cb (h:SJ W s) {n:Int} (hn:0≤n) (all:Bool):nU (aM s) n all=some (aM (Ca W s n all)):=by
 have hl:=h.gi.l2
 have hy:=yr h
 unfold nU Ca
 by_cases h2:n > 2
 ·rw [decide_eq_true h2,cond_true,Ff h2,ite_self]
  unfold paS
  rw [if_pos h2]
 ·rw [decide_eq_false h2,cond_false,DR h]
  refine gA (fun k=>(aM (if all then wpS W s n k else s),(k:Int))) s.g.l.length (aM (if all then wpS W s n s.g.l.length else s)) (by cases all <;> rfl) ?_ ?_ ?_
  ·intro k hk
   dsimp only
   rw [decide_eq_true (by omega:(k:Int) < (s.g.l.length:Int)),cond_true,w64 (by omega) (by omega)]
   cases all with
   | false =>
    rw [cond_false,aA,cond_false,aA]
    rfl
   | true =>
    have hs:=u4 (W:=W) (s:=s) n k
    have hJ:=z3 h n k (by omega)
    simp only [if_true,cond_true]
    rw [show (aM (wpS W s n k)).y=s.spot.y by show (wpS W s n k).spot.y=_; rw [hs.1],AV]
    have ec:((bif (decide ((k:Int) < s.spot.y)) then (bif (n != 0) then some true else (bif (decide ((k:Int) > s.spot.y)) then some (n != 1) else some false)) else (bif (decide ((k:Int) > s.spot.y)) then some (n != 1) else some false)):Option Bool)=some (wpc s n k):=by
     unfold wpc
     by_cases a1:(k:Int) < s.spot.y
     ·have a2: ¬ (k:Int) > s.spot.y:=by omega
      rw [decide_eq_true a1,decide_eq_false a2]
      simp only [cond_true,cond_false]
      by_cases c:n=0
      ·rw [show (n != 0)=false by simp [c],cond_false,decide_eq_false (by omega)]
      ·rw [show (n != 0)=true by simp [c],cond_true,decide_eq_true (by omega)]
     ·rw [decide_eq_false a1,cond_false]
      by_cases a2:(k:Int) > s.spot.y
      ·rw [decide_eq_true a2,cond_true]
       by_cases c:n=1
       ·rw [show (n != 1)=false by simp [c],decide_eq_false (by omega)]
       ·rw [show (n != 1)=true by simp [c],decide_eq_true (by omega)]
      ·rw [decide_eq_false a2,cond_false,decide_eq_false (by omega)]
    rw [ec,aA]
    cases hc:wpc s n k with
    | true =>
     rw [cond_true,if_pos rfl,show (aM (wpS W s n k)).g.w=(W:Int) from hJ.gw,uu hJ (by omega) (by rw [hs.2.1]; omega),aA,aA]
     rfl
    | false =>
     rw [cond_false,if_neg (by simp),aA]
     rfl
  ·dsimp only
   rw [decide_eq_false (by omega: ¬ ((s.g.l.length:Nat):Int) < (s.g.l.length:Int)),cond_false]
  ·have key: ∀ t:aB,SJ W t→(Option.bind ((bif (n == 0) then some (aM t).x else some 0):Option Int) fun b=>(Option.bind ((bif (n == 1) then some (IntKind.i64.wrap ((aM t).x+1)) else some (aM t).g.w):Option Int) fun d=>(Option.bind (lG (aM t) (aM t).y b d) fun a=>some (aN.mk a.g a.x a.y a.s a.sX a.sY a.sS false a.top a.aK a.aX a.title))))=some (aM (paS W t n)):=by
    intro t ht
    have hy:=yr ht
    rw [show (aM t).x=t.spot.x from rfl,show (aM t).g.w=(W:Int) from ht.gw,show (aM t).y=t.spot.y from rfl,w64 (x:=t.spot.x+1) (by omega) (by omega)]
    have e1:((bif (n == 0) then some t.spot.x else some 0):Option Int)=some (paA t n):=by
     unfold paA
     by_cases c:n=0
     ·rw [mg c,cond_true,if_pos c]
     ·rw [eF c,cond_false,if_neg c]
    have e2:((bif (n == 1) then some (t.spot.x+1) else some (W:Int)):Option Int)=some (paB W t n):=by
     unfold paB
     by_cases c:n=1
     ·rw [mg c,cond_true,if_pos c]
     ·rw [eF c,cond_false,if_neg c]
    rw [e1,aA,e2,aA,uu ht ht.y0 ht.y1,aA]
    unfold paS
    rw [if_neg h2]
    rfl
   refine key _ ?_
   cases all with
   | true=>exact z3 h n _ (Nat.le_refl _)
   | false=>exact h
theorem IE (h:SI W s) (n:Int) (all:Bool):SI W (Ca W s n all):=by
 unfold Ca
 apply OJ
 cases all with
 | false=>exact h
 | true =>
  have hs:=u4 (W:=W) (s:=s) n s.g.l.length
  exact ⟨z3 h.toSJ n _ (Nat.le_refl _),fun e=>by rw [if_pos rfl] at e ⊢; rw [hs.1]; rw [hs.2.2] at e; exact h.wt e⟩
def shS (W:Nat) (s:aB) (b n:Int):aB:=if s.spot.y < s.top∨s.spot.y > s.aK then s else if b=76 then mvS (dnS W s s.spot.y s.aK n) 0 s.spot.y else mvS (upT W s s.spot.y s.aK n) 0 s.spot.y
theorem IF (h:SJ W s) (b n:Int):il s b n=some (shS W s b n):=by
 unfold il shS
 rw [show ((bif (decide (s.spot.y < s.top)) then some true else some (decide (s.spot.y > s.aK))):Option Bool)=_ from or2 _ _,aA]
 by_cases c:s.spot.y < s.top∨s.spot.y > s.aK
 ·rw [decide_eq_true c,cond_true,if_pos c]
 ·rw [decide_eq_false c,cond_false,if_neg c]
  by_cases cb:b=76
  ·rw [mg cb,cond_true,if_pos cb,nv,aA,yA h,aA,aA]
   rw [show (aB.mk (tL s.g.l s.spot.y s.aK n,(dnS W s s.spot.y s.aK n).g).snd s.spot s.saved s.waiting s.top s.aK s.aX s.title)=dnS W s s.spot.y s.aK n from rfl,lj (B9 h _ _ _),aA]
  ·rw [eF cb,cond_false,if_neg cb,nv,aA,Nn h,aA,aA]
   rw [show (aB.mk (upO s.g.l s.spot.y s.aK n,(upT W s s.spot.y s.aK n).g).snd s.spot s.saved s.waiting s.top s.aK s.aX s.title)=upT W s s.spot.y s.aK n from rfl,lj (DQ h _ _ _),aA]
theorem OK (h:SI W s) (b n:Int):SI W (shS W s b n):=by
 unfold shS
 split
 ·exact h
 ·split
  ·exact n9 (B9 h.toSJ _ _ _) _ _
  ·exact n9 (DQ h.toSJ _ _ _) _ _
def rgT (s:aB) (l:List Int):Int:=max 1 (min (atS l 0 1) (s.g.l.length:Int)) - 1
def rgU (s:aB) (l:List Int):Int:=max 1 (min (atS l 1 (s.g.l.length:Int)) (s.g.l.length:Int)) - 1
def rnS (s:aB) (t b:Int):aB:=⟨s.g,s.spot,s.saved,s.waiting,t,b,s.aX,s.title⟩
def reS (s:aB) (l:List Int):aB:=if rgT s l < rgU s l then mvS (rnS s (rgT s l) (rgU s l)) 0 0 else s
theorem OL (h:SJ W s) (l:List Int):0≤rgT s l∧rgT s l < s.g.l.length∧0≤rgU s l∧rgU s l < s.g.l.length:=by
 have h1:=h.gi.l1
 unfold rgT rgU
 omega
theorem IG (h:SJ W s) (l:List Int) (c:rgT s l < rgU s l):SJ W (rnS s (rgT s l) (rgU s l)):=by
 have hr:=OL h l
 exact ⟨h.gw,h.gi,h.x0,h.x1,h.y0,h.y1,hr.1,by simp only [rnS]; omega,by simp only [rnS]; omega⟩
theorem DT (h:SJ W s) (a:aZ):gT s a=some (reS s a.bH):=by
 have hl:=h.gi.l2
 have hl1:=h.gi.l1
 unfold gT reS
 rw [qQ,aA,show eX a 0 1=_ from zZ a 0 1,aA,n8,aA]
 dsimp only
 rw [show eX a 1 (s.g.l.length:Int)=_ from zZ a 1 _,aA,n8,aA,w64 (by omega) (by omega),w64 (by omega) (by omega)]
 rw [← rgT,← rgU]
 by_cases c:rgT s a.bH < rgU s a.bH
 ·rw [decide_eq_true c,cond_true,if_pos c,← rnS,lj (IG h _ c),aA]
 ·rw [decide_eq_false c,cond_false,if_neg c]
theorem OM (h:SI W s) (l:List Int):SI W (reS s l):=by
 unfold reS
 split
 ·exact n9 (IG h.toSJ l (by assumption)) _ _
 ·exact h
def ceR (s:aB) (b n:Int):aE:=⟨ja 0 (if b=64 then ins (lx s.g.l s.spot.y).cells s.spot.x n (lX s.spot.aL) else if b=80 then del (lx s.g.l s.spot.y).cells s.spot.x n (lX s.spot.aL) else lg s.spot.x (s.spot.x+n) (lX s.spot.aL) 0 (lx s.g.l s.spot.y).cells),false⟩
def ceS (W:Nat) (s:aB) (b n:Int):aB:=nwS (seS W s s.spot.y (ceR s b n))
end
end Go.Tw.X
set_option linter.unusedVariables false
set_option linter.unusedSimpArgs false
namespace Go.Tw.X
open Go Go.Tw
theorem Lf (l:List aG) (a n q:Int):(ins l a n q).length=l.length:=by
 unfold ins
 split
 ·rfl
 ·rcases yf l a n with h | ⟨h1,h2,h3⟩
  ·contradiction
  ·unfold nV
   simp only [List.length_take,List.length_append,List.length_replicate,List.length_drop]
   omega
theorem Lg (l:List aG) (a n q:Int):(del l a n q).length=l.length:=by
 unfold del
 split
 ·rfl
 ·rcases yf l a n with h | ⟨h1,h2,h3⟩
  ·contradiction
  ·unfold oF
   simp only [List.length_take,List.length_append,List.length_replicate,List.length_drop]
   omega
theorem No {l:List aG} (h:okR l) (a n q:Int):okR (ins l a n q):=by
 unfold ins
 split
 ·exact h
 ·exact uP (qK (qK (uP h _) (xy _ _)) (ye h _)) _
theorem Np {l:List aG} (h:okR l) (a n q:Int):okR (del l a n q):=by
 unfold del
 split
 ·exact h
 ·exact qK (qK (uP h _) (ye h _)) (xy _ _)
section
variable {W : Nat} {s : aB}
theorem IH (h:SJ W s) (b n:Int):gok W (ceR s b n):=by
 have hg:=h.row
 refine ⟨?_,pY _ _ ?_⟩
 ·simp only [ceR,lf]
  split
  ·rw [Lf]; exact hg.1
  ·split
   ·rw [Lg]; exact hg.1
   ·rw [mv]; exact hg.1
 ·split
  ·exact No hg.2 _ _ _
  ·split
   ·exact Np hg.2 _ _ _
   ·exact vV _ _ _ _ hg.2
theorem AW (h:SJ W s) (b n:Int):(ceR s b n).cells.length≤1000000:=by have:=(IH h b n).le h.gi.w2; omega
theorem Gy (h:SJ W s) (b:Int) {n:Int} (h0:0≤n) (h1:n≤9999):gH (lx s.g.l s.spot.y) b s n=some (ceR s b n):=by
 have hl:=py h
 have hy:=yr h
 unfold gH ceR
 by_cases c:b=64
 ·rw [mg c,cond_true,nv,aA,insert_eq _ _ _ _ hl h.xr.1 h.xr.2,aA,if_pos c]; rfl
 ·rw [eF c,cond_false,if_neg c]
  by_cases c2:b=80
  ·rw [mg c2,cond_true,nv,aA,Gd _ _ _ _ hl h.xr.1 h.xr.2,aA,if_pos c2]; rfl
  ·rw [eF c2,cond_false,nv,aA,w64 (by omega) (by omega),erase_eq _ _ _ _ (by omega),aA,if_neg c2]
theorem Gz (h:SJ W s) (b:Int) {n:Int} (h0:0≤n) (h1:n≤9999):ik s b n=some (ceS W s b n):=by
 unfold ik eT
 rw [h.Iq,aA,Gy h b h0 h1,aA,h.Ir _ (AW h b n),aA,aA]
 rfl
theorem ON (h:SJ W s) (b n:Int):SI W (ceS W s b n):=⟨me (Fb h _ (IH h b n).2),fun e=>by cases e⟩
theorem Lh (h:SJ W s) (n:Int):nf (told (lx s.g.l s.spot.y)) s.spot.x n (lX s.spot.aL)=some (told (ceR s 64 n)):=by
 have hl:=py h
 rw [told,Di (lx s.g.l s.spot.y).cells (lx s.g.l s.spot.y).wrapped s.spot.x n _ hl h.xr.1 h.xr.2]
 rfl
theorem Lj (h:SJ W s) (n:Int):ng (told (lx s.g.l s.spot.y)) s.spot.x n (lX s.spot.aL)=some (told (ceR s 80 n)):=by
 have hl:=py h
 rw [told,Dj (lx s.g.l s.spot.y).cells (lx s.g.l s.spot.y).wrapped s.spot.x n _ hl h.xr.1 h.xr.2]
 rfl
def orS (W:Nat) (s:aB) (b:Int) (l:List Int):aB :=
 if b=65 then clS s (0 - atS l 0 1) else if b=70 then xS (clS s (0 - atS l 0 1)) 0 else
 if b=66 then clS s (atS l 0 1) else if b=69 then xS (clS s (atS l 0 1)) 0 else
 if b=67 then mvS s (s.spot.x+atS l 0 1) s.spot.y else if b=68 then mvS s (s.spot.x - atS l 0 1) s.spot.y else
 if b=71 then mvS s (atS l 0 1 - 1) s.spot.y else if b=100 then mvS s s.spot.x (atS l 0 1 - 1) else
 if b=72∨b=102 then mvS s (atS l 1 1 - 1) (atS l 0 1 - 1) else
 if b=74 then Ca W s (atS l 0 0) true else if b=75 then Ca W s (atS l 0 0) false else
 if b=64∨b=80∨b=88 then ceS W s b (atS l 0 1) else
 if b=76∨b=77 then shS W s b (atS l 0 1) else
 if b=83 then upS W (nwS s) (atS l 0 1) else
 if b=84 then dnS W (nwS s) s.top s.aK (atS l 0 1) else
 if b=109 then ⟨s.g,⟨s.spot.x,s.spot.y,Gw s.spot.aL l⟩,s.saved,s.waiting,s.top,s.aK,s.aX,s.title⟩ else
 if b=114 then reS s l else s
def orF (s:aB) (b:Int) (l:List Int):List aE:=if b=83 then upF (nwS s) (atS l 0 1) else []
theorem mb {p:Prop} [Decidable p] {a b:aB} (ha:SI W a) (hb:SI W b):SI W (if p then a else b):=by split <;> assumption
theorem OO (h:SI W s) (b:Int) (l:List Int):SI W (orS W s b l):=by
 have h0:=w0 h.toSJ
 have hx: ∀ n,SI W (xS (clS s n) 0):=fun n=>⟨B6 (n9 h.toSJ _ _).toSJ (Int.le_refl 0) h0,fun e=>by cases e⟩
 unfold orS
 have e4: ∀ q,SI W ⟨s.g,⟨s.spot.x,s.spot.y,q⟩,s.saved,s.waiting,s.top,s.aK,s.aX,s.title⟩:=fun q=>⟨⟨h.gw,h.gi,h.x0,h.x1,h.y0,h.y1,h.t0,h.tb,h.b1⟩,h.wt⟩
 have e5: ∀ n,SI W (upS W (nwS s) n):=fun n=>⟨Mf (me h.toSJ) _,fun e=>by cases e⟩
 have e6: ∀ t b n,SI W (dnS W (nwS s) t b n):=fun t b n=>⟨B9 (me h.toSJ) _ _ _,fun e=>by cases e⟩
 refine mb (n9 h.toSJ _ _) (mb (hx _) (mb (n9 h.toSJ _ _) (mb (hx _) (mb (n9 h.toSJ _ _) (mb (n9 h.toSJ _ _) (mb (n9 h.toSJ _ _) (mb (n9 h.toSJ _ _) (mb (n9 h.toSJ _ _) (mb (IE h _ _) (mb (IE h _ _) (mb (ON h.toSJ _ _) (mb (OK h _ _) (mb (e5 _) (mb (e6 _ _ _) (mb (e4 _) (mb (OM h _) h))))))))))))))))
theorem AX (n a b c:Int):((bif (n == a) then some (n == a) else (bif (n == b) then some (n == b) else some (n == c))):Option Bool)=some (decide (n=a∨n=b∨n=c)):=by
 by_cases h:n=a
 ·simp [h]
 ·rw [eF h,cond_false]
  by_cases h2:n=b
  ·simp [h2]
  ·rw [eF h2,cond_false]
   by_cases h3:n=c
   ·simp [h3]
   ·rw [eF h3,decide_eq_false (by omega)]
theorem Fg (n a b:Int):((bif (n == a) then some (n == a) else some (n == b)):Option Bool)=some (decide (n=a∨n=b)):=by
 by_cases h:n=a
 ·simp [h]
 ·rw [eF h,cond_false]
  by_cases h2:n=b
  ·simp [h2]
  ·rw [eF h2,decide_eq_false (by omega)]
end
end Go.Tw.X
set_option linter.unusedVariables false
set_option linter.unusedSimpArgs false
namespace Go.Tw.X
open Go Go.Tw
section
variable {W : Nat} {s : aB}
theorem Nq (s:aB):aB.mk s.g s.spot s.saved false s.top s.aK s.aX s.title=nwS s:=rfl
theorem lk (t:aB) (b:Int):(Option.bind ((bif (b == 69) then some true else some (b == 70)):Option Bool) fun c=>(Option.bind ((bif c then some (aB.mk t.g (eI.mk 0 t.spot.y t.spot.aL) t.saved t.waiting t.top t.aK t.aX t.title) else some (aB.mk t.g t.spot t.saved t.waiting t.top t.aK t.aX t.title)):Option aB) fun a=>some (([]:List aE),(aB.mk t.g a.spot a.saved a.waiting a.top a.aK a.aX a.title))))=some ([],if b=69∨b=70 then xS t 0 else t):=by
 rw [uq,aA]
 by_cases h:b=69∨b=70
 ·rw [decide_eq_true h,if_pos h]; rfl
 ·rw [decide_eq_false h,if_neg h]; rfl
theorem Lm (h:SJ W s) (a:aZ) (hl:a.bH.length≤1000000):iq s a=some (orF s a.byte a.bH,orS W s a.byte a.bH):=by
 have hy:=yr h
 have hN:=wj a.bH 0 (d:=1) (by omega) (by omega)
 have hM:=wj a.bH 1 (d:=1) (by omega) (by omega)
 have hZ:=wj a.bH 0 (d:=0) (by omega) (by omega)
 unfold iq
 rw [show eX a 0 1=_ from zZ a 0 1,aA]
 simp only [show eX a 1 1=_ from zZ a 1 1,show eX a 0 0=_ from zZ a 0 0,AX,DT h,Nq,K5 _ _ hl]
 simp only [Fg,aA]
 have hcl:=fun n h0 h1=>ID (n:=n) h h0 h1
 have w1:IntKind.i64.wrap (0 - atS a.bH 0 1)=0 - atS a.bH 0 1:=w64 (by omega) (by omega)
 have w2:IntKind.i64.wrap (s.spot.x+atS a.bH 0 1)=s.spot.x+atS a.bH 0 1:=w64 (by omega) (by omega)
 have w3:IntKind.i64.wrap (s.spot.x - atS a.bH 0 1)=s.spot.x - atS a.bH 0 1:=w64 (by omega) (by omega)
 have w4:IntKind.i64.wrap (atS a.bH 0 1 - 1)=atS a.bH 0 1 - 1:=w64 (by omega) (by omega)
 have w5:IntKind.i64.wrap (atS a.bH 1 1 - 1)=atS a.bH 1 1 - 1:=w64 (by omega) (by omega)
 have c1:=hcl (0 - atS a.bH 0 1) (by omega) (by omega)
 have c2:=hcl (atS a.bH 0 1) (by omega) (by omega)
 have dn:eQ s.g s.top s.aK (atS a.bH 0 1) (lX s.spot.aL)=some (tL s.g.l s.top s.aK (atS a.bH 0 1),(dnS W (nwS s) s.top s.aK (atS a.bH 0 1)).g):=yA (me h) _ _ _
 have nn:bW (nwS s)=some (lX s.spot.aL):=nv _
 generalize hb:a.byte=b
 have key: ∀ (t:aB),(if b=69∨b=70 then xS t 0 else t)=orS W s b a.bH→orF s b a.bH=[]→(some ([],if b=69∨b=70 then xS t 0 else t):Option (List aE×aB))=some (orF s b a.bH,orS W s b a.bH):=fun t e1 e2=>by rw [e1,e2]
 by_cases h1:b=65∨b=70
 ·rw [decide_eq_true h1]
  simp only [cond_true,w1,c1,aA]
  rw [lk]
  refine key _ ?_ ?_
  ·rcases h1 with rfl | rfl <;> rfl
  ·rcases h1 with rfl | rfl <;> rfl
 ·rw [decide_eq_false h1,cond_false]
  by_cases h2:b=66∨b=69
  ·rw [decide_eq_true h2]
   simp only [cond_true,c2,aA]
   rw [lk]
   refine key _ ?_ ?_
   ·rcases h2 with rfl | rfl <;> rfl
   ·rcases h2 with rfl | rfl <;> rfl
  ·rw [decide_eq_false h2,cond_false]
   have hne: ¬ (b=69∨b=70):=by omega
   have key2: ∀ (t:aB),t=orS W s b a.bH→orF s b a.bH=[]→(some ([],if b=69∨b=70 then xS t 0 else t):Option (List aE×aB))=some (orF s b a.bH,orS W s b a.bH):=fun t e1 e2=>by rw [if_neg hne,e1,e2]
   by_cases h3:b=67
   ·subst h3; simp only [beq_self_eq_true,cond_true,w2,lj h,aA]; rw [lk]; exact key2 _ rfl rfl
   rw [eF h3,cond_false]
   by_cases h4:b=68
   ·subst h4; simp only [beq_self_eq_true,cond_true,w3,lj h,aA]; rw [lk]; exact key2 _ rfl rfl
   rw [eF h4,cond_false]
   by_cases h5:b=71
   ·subst h5; simp only [beq_self_eq_true,cond_true,w4,lj h,aA]; rw [lk]; exact key2 _ rfl rfl
   rw [eF h5,cond_false]
   by_cases h6:b=100
   ·subst h6; simp only [beq_self_eq_true,cond_true,w4,lj h,aA]; rw [lk]; exact key2 _ rfl rfl
   rw [eF h6,cond_false]
   by_cases h7:b=72∨b=102
   ·rw [decide_eq_true h7]; simp only [cond_true,w4,w5,lj h,aA]; rw [lk]
    refine key2 _ ?_ ?_
    ·rcases h7 with rfl | rfl <;> rfl
    ·rcases h7 with rfl | rfl <;> rfl
   rw [decide_eq_false h7,cond_false]
   by_cases h8:b=74
   ·subst h8; simp only [beq_self_eq_true,cond_true,Le h hZ.1,aA]; rw [lk]; exact key2 _ rfl rfl
   rw [eF h8,cond_false]
   by_cases h9:b=75
   ·subst h9; simp only [beq_self_eq_true,cond_true,Fe h hZ.1,aA]; rw [lk]; exact key2 _ rfl rfl
   rw [eF h9,cond_false]
   by_cases h10:b=64∨b=80∨b=88
   ·rw [decide_eq_true h10]; simp only [cond_true,Gz h _ hN.1 hN.2.1,aA]; rw [lk]
    refine key2 _ ?_ ?_
    ·rcases h10 with rfl | rfl | rfl <;> rfl
    ·rcases h10 with rfl | rfl | rfl <;> rfl
   rw [decide_eq_false h10,cond_false]
   by_cases h11:b=76∨b=77
   ·rw [decide_eq_true h11]; simp only [cond_true,IF h,aA]; rw [lk]
    refine key2 _ ?_ ?_
    ·rcases h11 with rfl | rfl <;> rfl
    ·rcases h11 with rfl | rfl <;> rfl
   rw [decide_eq_false h11,cond_false]
   by_cases h12:b=83
   ·subst h12; simp only [beq_self_eq_true,cond_true,Iu (me h),aA]; rfl
   rw [eF h12,cond_false]
   by_cases h13:b=84
   ·subst h13; simp only [beq_self_eq_true,cond_true,nn,dn,aA]
    have e:=lk (dnS W (nwS s) s.top s.aK (atS a.bH 0 1)) 84
    exact e.trans (key2 _ rfl rfl)
   rw [eF h13,cond_false]
   by_cases h14:b=109
   ·subst h14; simp only [beq_self_eq_true,cond_true]
    have e:=lk ⟨s.g,⟨s.spot.x,s.spot.y,Gw s.spot.aL a.bH⟩,s.saved,s.waiting,s.top,s.aK,s.aX,s.title⟩ 109
    exact e.trans (key2 _ rfl rfl)
   rw [eF h14,cond_false]
   by_cases h15:b=114
   ·subst h15; simp only [beq_self_eq_true,cond_true,aA]; rw [lk]; exact key2 _ rfl rfl
   rw [eF h15,cond_false,aA]
   dsimp only
   rw [lk]
   refine key2 _ ?_ ?_
   ·unfold orS
    rw [if_neg (by omega),if_neg (by omega),if_neg (by omega),if_neg (by omega),if_neg h3,if_neg h4,if_neg h5,if_neg h6,if_neg h7,if_neg h8,if_neg h9,if_neg h10,if_neg h11,if_neg h12,if_neg h13,if_neg h14,if_neg h15]
   ·unfold orF
    rw [if_neg h12]
end
end Go.Tw.X
set_option linter.unusedVariables false
set_option linter.unusedSimpArgs false
namespace Go.Tw.X
open Go Go.Tw
section
variable {W : Nat} {s : aB}
theorem Lo (s:aB):aN.mk (aM s).g (aM s).x (aM s).y (aM s).s (aM s).sX (aM s).sY (aM s).sS false (aM s).top (aM s).aK (aM s).aX (aM s).title=aM (nwS s):=rfl
theorem Fh {s:aB} {x y x' y':Int} (hx:max 0 (min x (s.g.w - 1))=max 0 (min x' (s.g.w - 1))) (hy:max 0 (min y ((s.g.l.length:Int) - 1))=max 0 (min y' ((s.g.l.length:Int) - 1))):mvS s x y=mvS s x' y':=by
 unfold mvS
 rw [hx,hy]
theorem GA (h:SJ W s) (b:Int) (l:List Int) (hl:l.length≤1000000):oo (aM s) b l=some (aM (orS W s b l),(orF s b l).map told):=by
 have hy:=yr h
 have hlen:=h.gi.l2
 have hlen1:=h.gi.l1
 have hN:=wj l 0 (d:=1) (by omega) (by omega)
 have hM:=wj l 1 (d:=1) (by omega) (by omega)
 have hZ:=wj l 0 (d:=0) (by omega) (by omega)
 unfold oo
 rw [show fL l 0 1=_ from qf l 0 1,aA,u3,aA]
 simp only [show fL l 0 1=_ from qf l 0 1,show fL l 1 1=_ from qf l 1 1,show fL l 0 0=_ from qf l 0 0,Fg,Lo,DR h]
 simp only [show fL l 1 (s.g.l.length:Int)=_ from qf l 1 _,show (aM s).x=s.spot.x from rfl,show (aM s).y=s.spot.y from rfl,show (aM s).top=s.top from rfl,show (aM s).aK=s.aK from rfl,show (aM s).s=tst s.spot.aL from rfl,Ip _ _ hl,aA]
 have w1:IntKind.i64.wrap (s.spot.y - atS l 0 1)=s.spot.y - atS l 0 1:=w64 (by omega) (by omega)
 have w1':IntKind.i64.wrap (s.spot.y+atS l 0 1)=s.spot.y+atS l 0 1:=w64 (by omega) (by omega)
 have w2:IntKind.i64.wrap (s.spot.x+atS l 0 1)=s.spot.x+atS l 0 1:=w64 (by omega) (by omega)
 have w3:IntKind.i64.wrap (s.spot.x - atS l 0 1)=s.spot.x - atS l 0 1:=w64 (by omega) (by omega)
 have w4:IntKind.i64.wrap (atS l 0 1 - 1)=atS l 0 1 - 1:=w64 (by omega) (by omega)
 have w5:IntKind.i64.wrap (atS l 1 1 - 1)=atS l 1 1 - 1:=w64 (by omega) (by omega)
 have w6:IntKind.i64.wrap ((s.g.l.length:Int) - 1)=(s.g.l.length:Int) - 1:=w64 (by omega) (by omega)
 have dn:eL (aM s).g false s.top s.aK (atS l 0 1) (lX s.spot.aL)=some ((aM (dnS W (nwS s) s.top s.aK (atS l 0 1))).g,(tL s.g.l s.top s.aK (atS l 0 1)).map told):=yB (me h) _ _ _
 by_cases h1:b=65∨b=70
 ·rw [decide_eq_true h1]
  simp only [cond_true,xD,w1,aA,gy,jq h]
  have e:mvS s s.spot.x (max (if s.spot.y≥s.top then s.top else 0) (s.spot.y - atS l 0 1))=clS s (0 - atS l 0 1):=by
   unfold clS
   apply Fh rfl
   split <;> split <;> split <;> omega
  rw [e]
  rcases h1 with rfl | rfl <;> rfl
 rw [decide_eq_false h1,cond_false]
 by_cases h2:b=66∨b=69
 ·rw [decide_eq_true h2]
  simp only [cond_true,xD,w1',w6,aA,dQ,jq h]
  have e:mvS s s.spot.x (min (if s.spot.y≤s.aK then s.aK else (s.g.l.length:Int) - 1) (s.spot.y+atS l 0 1))=clS s (atS l 0 1):=by
   unfold clS
   have hb:=h.b1
   have ht:=h.t0
   have htb:=h.tb
   apply Fh rfl
   split <;> split <;> split <;> omega
  rw [e]
  rcases h2 with rfl | rfl <;> rfl
 rw [decide_eq_false h2,cond_false]
 by_cases h3:b=67
 ·subst h3; simp only [beq_self_eq_true,cond_true,w2,jq h,aA]; rfl
 rw [eF h3,cond_false]
 by_cases h4:b=68
 ·subst h4; simp only [beq_self_eq_true,cond_true,w3,jq h,aA]; rfl
 rw [eF h4,cond_false]
 by_cases h5:b=71
 ·subst h5; simp only [beq_self_eq_true,cond_true,w4,jq h,aA]; rfl
 rw [eF h5,cond_false]
 by_cases h6:b=100
 ·subst h6; simp only [beq_self_eq_true,cond_true,w4,jq h,aA]; rfl
 rw [eF h6,cond_false]
 by_cases h7:b=72∨b=102
 ·rw [decide_eq_true h7]; simp only [cond_true,w4,w5,jq h,aA]
  rcases h7 with rfl | rfl <;> rfl
 rw [decide_eq_false h7,cond_false]
 by_cases h8:b=74
 ·subst h8; simp only [beq_self_eq_true,cond_true,Cb h hZ.1,aA]; rfl
 rw [eF h8,cond_false]
 by_cases h9:b=75
 ·subst h9; simp only [beq_self_eq_true,cond_true,Cb h hZ.1,aA]; rfl
 rw [eF h9,cond_false]
 by_cases h10:b=88
 ·subst h10; simp only [beq_self_eq_true,cond_true,w2,uu h h.y0 h.y1,aA]; rfl
 rw [eF h10,cond_false]
 have gr:idx (aM s).g.l s.spot.y=some (told (lx s.g.l s.spot.y)):=h.K9
 by_cases h11:b=64
 ·subst h11; simp only [beq_self_eq_true,cond_true,gr,aA,Lh h,sg h (AW h 64 _)]; rfl
 rw [eF h11,cond_false]
 by_cases h12:b=80
 ·subst h12; simp only [beq_self_eq_true,cond_true,gr,aA,Lj h,sg h (AW h 80 _)]; rfl
 rw [eF h12,cond_false]
 have e12: ¬ (b=64∨b=80∨b=88):=by omega
 by_cases h13:b=76∨b=77
 ·rw [decide_eq_true h13]
  simp only [cond_true]
  rw [show ((bif (decide (s.spot.y≥s.top)) then some (decide (s.spot.y≤s.aK)) else some false):Option Bool)=_ from AD _ _,aA]
  by_cases c:s.spot.y≥s.top∧s.spot.y≤s.aK
  ·have c': ¬ (s.spot.y < s.top∨s.spot.y > s.aK):=by omega
   rw [decide_eq_true c,cond_true]
   rcases h13 with rfl | rfl
   ·rw [show ((76:Int) == 77)=false from rfl,yB h,aA]
    have e:=jq (B9 h s.spot.y s.aK (atS l 0 1)) 0 s.spot.y
    rw [show aM (dnS W s s.spot.y s.aK (atS l 0 1))=aN.mk (aM (dnS W s s.spot.y s.aK (atS l 0 1))).g s.spot.x s.spot.y (tst s.spot.aL) (aM s).sX (aM s).sY (aM s).sS (aM s).waiting s.top s.aK (aM s).aX (aM s).title from rfl] at e
    dsimp only
    rw [e,aA]
    unfold orS orF shS
    rw [if_neg c']
    rfl
   ·rw [show ((77:Int) == 77)=true from rfl,Ld h,aA]
    have e:=jq (DQ h s.spot.y s.aK (atS l 0 1)) 0 s.spot.y
    rw [show aM (upT W s s.spot.y s.aK (atS l 0 1))=aN.mk (aM (upT W s s.spot.y s.aK (atS l 0 1))).g s.spot.x s.spot.y (tst s.spot.aL) (aM s).sX (aM s).sY (aM s).sS (aM s).waiting s.top s.aK (aM s).aX (aM s).title from rfl] at e
    dsimp only
    rw [e,aA]
    unfold orS orF shS
    rw [if_neg c']
    rfl
  ·have c':s.spot.y < s.top∨s.spot.y > s.aK:=by omega
   rw [decide_eq_false c,cond_false,aA]
   unfold orS orF shS
   rw [if_pos c']
   rcases h13 with rfl | rfl <;> rfl
 rw [decide_eq_false h13,cond_false]
 by_cases h14:b=83
 ·subst h14
  have e:=zY (me h) (atS l 0 1)
  have e2:aN.mk (aM s).g s.spot.x s.spot.y (tst s.spot.aL) (aM s).sX (aM s).sY (aM s).sS false s.top s.aK (aM s).aX (aM s).title=aM (nwS s):=rfl
  simp only [beq_self_eq_true,cond_true,e2,e,aA]
  rfl
 rw [eF h14,cond_false]
 by_cases h15:b=84
 ·subst h15; simp only [beq_self_eq_true,cond_true,dn,aA]; rfl
 rw [eF h15,cond_false]
 by_cases h16:b=109
 ·subst h16; simp only [beq_self_eq_true,cond_true,aA]; rfl
 rw [eF h16,cond_false]
 by_cases h17:b=114
 ·subst h17
  simp only [beq_self_eq_true,cond_true]
  rw [dQ,gy,dQ,gy,w64 (by omega) (by omega),w64 (by omega) (by omega),← rgT,← rgU]
  unfold orS orF
  simp only [Int.reduceEq,if_false,if_true,or_self,Bool.false_eq_true]
  unfold reS
  by_cases c:rgT s l < rgU s l
  ·rw [decide_eq_true c,cond_true,if_pos c]
   have e:=jq (IG h l c) 0 0
   rw [show aM (rnS s (rgT s l) (rgU s l))=aN.mk (aM s).g s.spot.x s.spot.y (tst s.spot.aL) (aM s).sX (aM s).sY (aM s).sS (aM s).waiting (rgT s l) (rgU s l) (aM s).aX (aM s).title from rfl] at e
   rw [e,aA,aA]
   rfl
  ·rw [decide_eq_false c,cond_false,if_neg c,aA]
   rfl
 rw [eF h17,cond_false,aA]
 unfold orS orF
 rw [if_neg (by omega),if_neg (by omega),if_neg (by omega),if_neg (by omega),if_neg h3,if_neg h4,if_neg h5,if_neg h6,if_neg h7,if_neg h8,if_neg h9,if_neg e12,if_neg h13,if_neg h14,if_neg h15,if_neg h16,if_neg h17,if_neg h14]
 rfl
end
end Go.Tw.X
set_option linter.unusedVariables false
set_option linter.unusedSimpArgs false
namespace Go.Tw.X
open Go Go.Tw
def nlS:bC:=⟨0,0,false,false,false⟩
def za (w h:Int):aB:=⟨xi w h,⟨0,0,nlS⟩,⟨0,0,nlS⟩,false,0,(szN h:Int) - 1,true,ByteArray.mk #[]⟩
theorem Cc (w h:Int):(za w h).g.l.length=szN h:=by simp [za,xi]
theorem Fi (w h:Int):l8 w h=some (za w h):=by
 unfold l8
 have h1:=nm h
 rw [MV,aA,qQ,aA]
 dsimp only
 rw [show ((xi w h).l.length:Int)=(szN h:Int) by simp [xi],w64 (by omega) (by omega)]
 rfl
theorem II (w h:Int):rT w h=some (aM (za w h)):=by
 unfold rT
 have h1:=nm h
 rw [Kq,aA]
 rw [show ((rW (xi w h)).l.length:Int)=(szN h:Int) by simp [xi,rW],w64 (by omega) (by omega)]
 rfl
theorem Fj (w h:Int):SI (szN w) (za w h):=by
 have h1:=pw h
 have h2:=pw w
 refine ⟨⟨rfl,MU w h,Int.le_refl 0,?_,Int.le_refl 0,?_,Int.le_refl 0,?_,?_⟩,fun e=>by cases e⟩
 ·show (0:Int) < _; omega
 ·rw [Cc]; show (0:Int) < _; omega
 ·show (0:Int)≤(szN h:Int) - 1; omega
 ·rw [Cc]; show (szN h:Int) - 1 < _; omega
section
variable {W : Nat} {s : aB}
def ctS (W:Nat) (s:aB) (b:Int):aB:=if b=8 then mvS s (s.spot.x - 1) s.spot.y else if b=9 then mvS s (s.spot.x.tdiv 8*8+8) s.spot.y else if b=10∨b=11∨b=12 then liS W s else if b=13 then mvS s 0 s.spot.y else s
def ctF (s:aB) (b:Int):List aE:=if b=10∨b=11∨b=12 then liF s else []
theorem IJ {x:Int} (h0:0≤x) (h1:x < 1000):0≤x.tdiv 8∧x.tdiv 8≤1000:=by
 rw [Int.tdiv_eq_ediv_of_nonneg h0]
 omega
theorem GB (h:SJ W s) (b:Int):gF s b=some (ctF s b,ctS W s b):=by
 have hy:=yr h
 have ht:=IJ hy.2.2.1 hy.2.2.2
 unfold gF ctF ctS
 simp only [AX]
 rw [w64 (x:=s.spot.x - 1) (by omega) (by omega),w64 (x:=s.spot.x.tdiv 8) (by omega) (by omega),w64 (x:=s.spot.x.tdiv 8+1) (by omega) (by omega),w64 (x:=(s.spot.x.tdiv 8+1)*8) (by omega) (by omega),show (s.spot.x.tdiv 8+1)*8=s.spot.x.tdiv 8*8+8 by omega]
 by_cases h1:b=8
 ·subst h1; simp only [beq_self_eq_true,cond_true,lj h,aA]; rfl
 rw [eF h1,cond_false,if_neg h1]
 by_cases h2:b=9
 ·subst h2; simp only [beq_self_eq_true,cond_true,lj h,aA]; rfl
 rw [eF h2,cond_false,if_neg h2,aA]
 by_cases h3:b=10∨b=11∨b=12
 ·rw [decide_eq_true h3,cond_true,(ir h).p,if_pos h3,if_pos h3]; rfl
 rw [decide_eq_false h3,cond_false,if_neg h3,if_neg h3]
 by_cases h4:b=13
 ·subst h4; simp only [beq_self_eq_true,cond_true,lj h,aA]; rfl
 rw [eF h4,cond_false,if_neg h4]
 rfl
theorem OP (h:SI W s) (b:Int):SI W (ctS W s b):=mb (n9 h.toSJ _ _) (mb (n9 h.toSJ _ _) (mb (ir h.toSJ).i (mb (n9 h.toSJ _ _) h)))
def e8S (s:aB):aB:=⟨s.g,⟨s.spot.x,s.spot.y,s.saved.aL⟩,s.saved,s.waiting,s.top,s.aK,s.aX,s.title⟩
theorem IK (h:SJ W s):SJ W (e8S s):=⟨h.gw,h.gi,h.x0,h.x1,h.y0,h.y1,h.t0,h.tb,h.b1⟩
def e7S (s:aB):aB:=⟨s.g,s.spot,s.spot,s.waiting,s.top,s.aK,s.aX,s.title⟩
def esS (W:Nat) (s:aB) (b:Int):aB:=if b=69 then liS W (xS s 0) else if b=68 then liS W s else if b=77 then baS W s else if b=55 then e7S s else if b=56 then mvS (e8S s) s.saved.x s.saved.y else if b=99 then za W s.g.l.length else s
def esF (s:aB) (b:Int):List aE:=if b=69 then liF (xS s 0) else if b=68 then liF s else []
theorem OQ (h:SI W s) (b:Int):SI W (esS W s b):=by
 have e:=Fj (W:Int) (s.g.l.length:Int)
 rw [HG W h.gi.w1 h.gi.w2] at e
 exact mb (ir (B6 h.toSJ (Int.le_refl 0) (w0 h.toSJ))).i (mb (ir h.toSJ).i (mb (OI h.toSJ) (mb ⟨⟨h.gw,h.gi,h.x0,h.x1,h.y0,h.y1,h.t0,h.tb,h.b1⟩,h.wt⟩ (mb (n9 (IK h.toSJ) _ _) (mb e h)))))
theorem IM (h:SJ W s) (b:Int):gS s b=some (esF s b,esS W s b):=by
 unfold gS esF esS
 by_cases h1:b=69
 ·subst h1
  have e:=(ir (B6 h (Int.le_refl 0) (w0 h))).p
  rw [show xS s 0=aB.mk s.g (eI.mk 0 s.spot.y s.spot.aL) s.saved s.waiting s.top s.aK s.aX s.title from rfl] at e
  simp only [beq_self_eq_true,cond_true,aA,e,if_true]
  rfl
 rw [eF h1,cond_false,if_neg h1,if_neg h1]
 by_cases h2:b=68
 ·subst h2
  have e:=(ir h).p
  simp only [beq_self_eq_true,cond_true,aA,if_true]
  rw [show aB.mk s.g s.spot s.saved s.waiting s.top s.aK s.aX s.title=s from rfl,e]
  rfl
 rw [eF h2,cond_false,if_neg h2,if_neg h2]
 by_cases h3:b=77
 ·subst h3; simp only [beq_self_eq_true,cond_true,back_eq h,aA,if_true]; rfl
 rw [eF h3,cond_false,if_neg h3]
 by_cases h4:b=55
 ·subst h4; simp only [beq_self_eq_true,cond_true,aA,if_true]; rfl
 rw [eF h4,cond_false,if_neg h4]
 by_cases h5:b=56
 ·subst h5
  have e:=lj (IK h) s.saved.x s.saved.y
  rw [show e8S s=aB.mk s.g (eI.mk s.spot.x s.spot.y s.saved.aL) s.saved s.waiting s.top s.aK s.aX s.title from rfl] at e
  simp only [beq_self_eq_true,cond_true,e,aA,if_true]
  rfl
 rw [eF h5,cond_false,if_neg h5]
 by_cases h6:b=99
 ·subst h6
  simp only [beq_self_eq_true,cond_true,qQ,aA,if_true,Fi,h.gw]
  rfl
 rw [eF h6,cond_false,if_neg h6]
 rfl
def pvS (s:aB) (b:Int) (l:List Int):aB:=if atS l 0 0=7∧(b=104∨b=108) then ⟨s.g,s.spot,s.saved,s.waiting,s.top,s.aK,b == 104,s.title⟩ else s
def tiS (s:aB) (t:ByteArray):aB:=⟨s.g,s.spot,s.saved,s.waiting,s.top,s.aK,s.aX,t⟩
def acS (W:Nat) (s:aB) (a:aZ):aB:=if a.kind=1 then prS W s a.rune else if a.kind=2 then ctS W s a.byte else if a.kind=3 then esS W s a.byte else if a.kind=4 then (if a.eE=true then pvS s a.byte a.bH else orS W s a.byte a.bH) else if a.kind=5 then tiS s a.text else s
def acF (W:Nat) (s:aB) (a:aZ):List aE:=if a.kind=1 then prF W s a.rune else if a.kind=2 then ctF s a.byte else if a.kind=3 then esF s a.byte else if a.kind=4 then (if a.eE=true then [] else orF s a.byte a.bH) else []
theorem PN (h:SJ W s) (a:aZ) (hl:a.bH.length≤1000000):gB s a=some (acF W s a,acS W s a):=by
 unfold gB acF acS
 by_cases h1:a.kind=1
 ·rw [mg h1,cond_true,if_pos h1,if_pos h1,K8 h]; rfl
 rw [eF h1,cond_false,if_neg h1,if_neg h1]
 by_cases h2:a.kind=2
 ·rw [mg h2,cond_true,if_pos h2,if_pos h2,GB h]; rfl
 rw [eF h2,cond_false,if_neg h2,if_neg h2]
 by_cases h3:a.kind=3
 ·rw [mg h3,cond_true,if_pos h3,if_pos h3,IM h]; rfl
 rw [eF h3,cond_false,if_neg h3,if_neg h3]
 by_cases h5:a.kind=5
 ·have h4: ¬ a.kind=4:=by omega
  rw [mg h5,cond_true,if_neg h4,if_neg h4,if_pos h5]; rfl
 rw [eF h5,cond_false,if_neg h5]
 by_cases h4:a.kind=4
 ·rw [mg h4,cond_true,if_pos h4,if_pos h4]
  cases hp:a.eE with
  | false =>
   rw [Bool.not_false,cond_true,Lm h a hl,if_neg (by simp),if_neg (by simp)]
   rfl
  | true =>
   rw [Bool.not_true,cond_false,if_pos rfl,if_pos rfl,show eX a 0 0=_ from zZ a 0 0,aA,uq]
   unfold pvS
   by_cases c:atS a.bH 0 0=7
   ·rw [mg c,cond_true,aA]
    by_cases c2:a.byte=104∨a.byte=108
    ·rw [decide_eq_true c2,cond_true,if_pos ⟨c,c2⟩]; rfl
    ·rw [decide_eq_false c2,cond_false,if_neg (fun e=>c2 e.2)]; rfl
   ·rw [eF c,cond_false,aA,cond_false,if_neg (fun e=>c e.1)]; rfl
 rw [eF h4,cond_false,if_neg h4,if_neg h4]
 rfl
theorem Mj (h:SI W s) (a:aZ) (hr:rok a.rune):SI W (acS W s a):=by
 have e1:SI W (pvS s a.byte a.bH):=by
  unfold pvS
  exact mb ⟨⟨h.gw,h.gi,h.x0,h.x1,h.y0,h.y1,h.t0,h.tb,h.b1⟩,h.wt⟩ h
 exact mb (OH h hr) (mb (OP h _) (mb (OQ h _) (mb (mb e1 (OO h _ _)) (mb ⟨⟨h.gw,h.gi,h.x0,h.x1,h.y0,h.y1,h.t0,h.tb,h.b1⟩,h.wt⟩ h))))
def AY (W:Nat) (off:List aE):Prop:=off.length≤2000 ∧ ∀ r∈off,gok W r
theorem u0.o2 {off:List aE} (h:u0 W off):AY W off:=⟨by have:=h.1; omega,h.2⟩
theorem AZ {p:Prop} [Decidable p] {a b:List aE} (ha:AY W a) (hb:AY W b):AY W (if p then a else b):=by split <;> assumption
theorem DU (h:SJ W s) (a:aZ):AY W (acF W s a):=by
 have n0:AY W []:=(oL W).o2
 have l0: ∀ t,SJ W t→AY W (liF t):=fun t ht=>(ir ht).o.o2
 exact AZ (Nm h) (AZ (AZ (l0 _ h) n0) (AZ (AZ (l0 _ (B6 h (Int.le_refl 0) (w0 h))) (AZ (l0 _ h) n0)) (AZ (AZ n0 (AZ (Is (me h) _).o2 n0)) n0)))
end
end Go.Tw.X
set_option linter.unusedVariables false
set_option linter.unusedSimpArgs false
namespace Go.Tw.X
open Go Go.Tw
def uv (a:k6):aZ:=⟨a.kind,a.rune,a.byte,a.eE,a.bH,a.text⟩
section
variable {W : Nat} {s : aB}
theorem PO (h:SJ W s) (a:k6) (hr:rok a.rune) (hl:a.bH.length≤1000000):uc (aM s) a=some (aM (acS W s (uv a)),(acF W s (uv a)).map told):=by
 have hy:=yr h
 have hlen:=h.gi.l2
 have ht:=IJ hy.2.2.1 hy.2.2.2
 unfold uc acF acS uv
 dsimp only
 by_cases h1:a.kind=1
 ·rw [mg h1,cond_true,if_pos h1,if_pos h1,Nl h hr]; rfl
 rw [eF h1,cond_false,if_neg h1,if_neg h1]
 by_cases h2:a.kind=2
 ·rw [mg h2,cond_true,if_pos h2,if_pos h2]
  unfold ctF ctS
  simp only [AX]
  rw [show (aM s).x=s.spot.x from rfl,show (aM s).y=s.spot.y from rfl,w64 (x:=s.spot.x - 1) (by omega) (by omega),w64 (x:=s.spot.x.tdiv 8) (by omega) (by omega),w64 (x:=s.spot.x.tdiv 8*8) (by omega) (by omega),w64 (x:=s.spot.x.tdiv 8*8+8) (by omega) (by omega)]
  generalize a.byte=b
  by_cases c1:b=8
  ·subst c1; simp only [beq_self_eq_true,cond_true,jq h,aA]; rfl
  rw [eF c1,cond_false,if_neg c1]
  by_cases c2:b=9
  ·subst c2; simp only [beq_self_eq_true,cond_true,jq h,aA]; rfl
  rw [eF c2,cond_false,if_neg c2,aA]
  by_cases c3:b=10∨b=11∨b=12
  ·rw [decide_eq_true c3,cond_true,(ir h).q,if_pos c3,if_pos c3]; rfl
  rw [decide_eq_false c3,cond_false,if_neg c3,if_neg c3]
  by_cases c4:b=13
  ·subst c4; simp only [beq_self_eq_true,cond_true,jq h,aA]; rfl
  rw [eF c4,cond_false,if_neg c4]
  rfl
 rw [eF h2,cond_false,if_neg h2,if_neg h2]
 by_cases h3:a.kind=3
 ·rw [mg h3,cond_true,if_pos h3,if_pos h3]
  unfold esF esS
  generalize a.byte=b
  by_cases c2:b=68
  ·subst c2; simp only [beq_self_eq_true,cond_true,(ir h).q,aA,if_true]; rfl
  rw [eF c2,cond_false,if_neg c2,if_neg c2]
  by_cases c1:b=69
  ·subst c1
   have e:=(ir (B6 h (Int.le_refl 0) (w0 h))).q
   rw [show aM (xS s 0)=aN.mk (aM s).g 0 (aM s).y (aM s).s (aM s).sX (aM s).sY (aM s).sS (aM s).waiting (aM s).top (aM s).aK (aM s).aX (aM s).title from rfl] at e
   simp only [beq_self_eq_true,cond_true,e,aA,if_true]
   rfl
  rw [eF c1,cond_false,if_neg c1,if_neg c1]
  by_cases c3:b=77
  ·subst c3
   simp only [beq_self_eq_true,cond_true,if_true]
   unfold baS
   rw [show (aM s).y=s.spot.y from rfl,show (aM s).top=s.top from rfl]
   by_cases c:s.spot.y=s.top
   ·have e:eL (aM s).g false s.top s.aK 1 (lX s.spot.aL)=some ((aM (dnS W (nwS s) s.top s.aK 1)).g,(tL s.g.l s.top s.aK 1).map told):=yB (me h) _ _ _
    rw [mg c,cond_true,if_pos c,show (aM s).s=tst s.spot.aL from rfl,B2,aA,show (aM s).aK=s.aK from rfl,e,aA]
    rfl
   ·have e:=jq (me h) s.spot.x (s.spot.y - 1)
    rw [show aM (nwS s)=aN.mk (aM s).g (aM s).x s.spot.y (aM s).s (aM s).sX (aM s).sY (aM s).sS false s.top (aM s).aK (aM s).aX (aM s).title from rfl] at e
    rw [eF c,cond_false,if_neg c,w64 (by omega) (by omega),show (aM s).x=s.spot.x from rfl]
    rw [show (aM s).x=s.spot.x from rfl] at e
    rw [e,aA]
    rfl
  rw [eF c3,cond_false,if_neg c3]
  by_cases c4:b=55
  ·subst c4; simp only [beq_self_eq_true,cond_true,aA,if_true]; rfl
  rw [eF c4,cond_false,if_neg c4]
  by_cases c5:b=56
  ·subst c5
   have e:=jq (IK h) s.saved.x s.saved.y
   rw [show aM (e8S s)=aN.mk (aM s).g (aM s).x (aM s).y (aM s).sS (aM s).sX (aM s).sY (aM s).sS (aM s).waiting (aM s).top (aM s).aK (aM s).aX (aM s).title from rfl] at e
   simp only [beq_self_eq_true,cond_true,if_true]
   rw [show (aM s).sX=s.saved.x from rfl,show (aM s).sY=s.saved.y from rfl]
   rw [show (aM s).sX=s.saved.x from rfl,show (aM s).sY=s.saved.y from rfl] at e
   rw [e,aA]
   rfl
  rw [eF c5,cond_false,if_neg c5]
  by_cases c6:b=99
  ·subst c6
   simp only [beq_self_eq_true,cond_true,aA,if_true]
   rw [DR h,show (aM s).g.w=(W:Int) from h.gw,II,aA]
   rfl
  rw [eF c6,cond_false,if_neg c6]
  rfl
 rw [eF h3,cond_false,if_neg h3,if_neg h3]
 by_cases h4:a.kind=4
 ·rw [mg h4,cond_true,if_pos h4,if_pos h4]
  cases hp:a.eE with
  | false =>
   rw [Bool.not_false,cond_true,GA h a.byte a.bH hl,if_neg (by simp),if_neg (by simp)]
   rfl
  | true =>
   rw [Bool.not_true,cond_false,if_pos rfl,if_pos rfl,show fL a.bH 0 0=_ from qf a.bH 0 0,aA,uq]
   unfold pvS
   by_cases c:atS a.bH 0 0=7
   ·rw [mg c,cond_true,aA]
    by_cases c2:a.byte=104∨a.byte=108
    ·rw [decide_eq_true c2,cond_true,if_pos ⟨c,c2⟩]; rfl
    ·rw [decide_eq_false c2,cond_false,if_neg (fun e=>c2 e.2)]; rfl
   ·rw [eF c,cond_false,aA,cond_false,if_neg (fun e=>c e.1)]; rfl
 rw [eF h4,cond_false,if_neg h4,if_neg h4]
 by_cases h5:a.kind=5
 ·rw [mg h5,cond_true,if_pos h5]; rfl
 rw [eF h5,cond_false,if_neg h5]
 rfl
def roN (s:aB) (h:Int):Int:=max 0 (s.spot.y - ((szN h:Int) - 1))
def rzS (s:aB) (w h:Int):aB:=let t:aB:=mvS ⟨⟨(szN w:Int),rzL (szN w) s.g.l (loS s.g.l (roN s h)) (szN h)⟩,s.spot,s.saved,s.waiting,s.top,s.aK,s.aX,s.title⟩ s.spot.x (s.spot.y - roN s h); ⟨t.g,t.spot,t.saved,t.waiting,0,(szN h:Int) - 1,t.aX,t.title⟩
def rzF (s:aB) (h:Int):List aE:=s.g.l.take (loS s.g.l (roN s h))
theorem GC (h:SJ W s) (w k:Int):gU s w k=some (rzF s k,rzS s w k):=by
 have hy:=yr h
 have h1:=pw k
 have h2:=nm k
 have h3:=pw w
 have h4:=nm w
 have hl:=h.gi.len
 unfold gU
 rw [n8,aA,show max 1 (min k 1000)=(szN k:Int) by rw [← Dm,gy,dQ],w64 (x:=(szN k:Int) - 1) (by omega) (by omega),w64 (x:=s.spot.y - ((szN k:Int) - 1)) (by omega) (by omega),gy,← roN]
 have e:=DB s.g.w s.g.l w k (roN s k) h.gi.l1 (by have:=h.gi.l2; omega) hl
 rw [show (aW.mk s.g.w s.g.l)=s.g from rfl] at e
 rw [e,aA,w64 (x:=s.spot.y - roN s k) (by unfold roN; omega) (by unfold roN; omega)]
 dsimp only
 have hl2:=oU (szN w) s.g.l (loS s.g.l (roN s k)) (szN k)
 have em: ∀ (g:aW) (q:aB),q.g=g→g.w≤1000→1≤g.w→g.l.length≤1000 → ∀ x y,bG q x y=some (mvS q x y):=by
  intro g q e1 e2 e3 e4 x y
  unfold bG eD
  rw [e1,qQ,aA,aA]
  dsimp only
  rw [w64 (by omega) (by omega),w64 (by omega) (by omega),n8,aA,n8,aA]
  unfold mvS
  rw [e1]
 rw [em _ _ rfl (by dsimp only; omega) (by dsimp only; omega) (by dsimp only; omega),aA]
 unfold eD
 rw [qQ,aA,aA]
 simp only [mvS,hl2]
 rw [w64 (by omega) (by omega)]
 simp only [rzF,rzS,mvS,hl2]
theorem Nr (h:SJ W s) (w k:Int):SI (szN w) (rzS s w k):=by
 have h1:=pw k
 have h2:=nm k
 have h3:=pw w
 have h4:=nm w
 have hl2:=oU (szN w) s.g.l (loS s.g.l (roN s k)) (szN k)
 have hg:GI (szN w) (rzL (szN w) s.g.l (loS s.g.l (roN s k)) (szN k)):=Oy (W:=W) (fun r hr=>(h.gi.rs r hr).2) _ _ _ h3 h4 h1 h2
 refine ⟨⟨rfl,hg,?_,?_,?_,?_,?_,?_,?_⟩,fun e=>by cases e⟩
 all_goals simp only [rzS,mvS,hl2]
 all_goals omega
theorem IN (h:SJ W s) (k:Int):AY W (rzF s k):=by
 refine ⟨?_,fun r hr=>h.gi.rs r (List.mem_of_mem_take hr)⟩
 have:=h.gi.l2
 simp only [rzF,List.length_take]
 omega
end
end Go.Tw.X
set_option linter.unusedVariables false
set_option linter.unusedSimpArgs false
namespace Go.Tw.X
open Go Go.Tw
theorem Cd (s:ByteArray) {lo hi:Int} (h0:0≤lo) (h1:lo≤hi) (h2:hi≤s.size):(ie s lo hi).size=(hi - lo).toNat:=by
 unfold ie
 rw [ByteArray.size_extract]
 omega
def okA (a:k6):Prop:=rok a.rune∧0≤a.byte∧a.byte < 256∧a.bH.length≤18
end Go.Tw.X
set_option linter.unusedVariables false
set_option linter.unusedSimpArgs false
set_option maxHeartbeats 1000000
namespace Go.Tw.X
open Go Go.Tw
def Ns (l:List Int):Prop:= ∀ x∈l,rok x
end Go.Tw.X
set_option linter.unusedVariables false
set_option linter.unusedSimpArgs false
namespace Go.Tw.X
open Go Go.Tw
theorem Lp (s:ByteArray) {n:Int} (h:0≤n):okO (n5 s n) (fun r=>(r.size:Int)≤n):=by
 unfold n5
 refine uY (fun hc=> ?_) fun hc=>cA (by omega)
 refine dT (DO (by omega) h (by omega)) fun _ _=>cA ?_
 rw [Cd _ (by omega) h (by omega)]
 omega
theorem Nt {W:Nat} {off:List aE} (h:AY W off) (hW:W≤1000):oC off (off.map told)=some true :=
 HU off (by have:=h.1; omega) fun r hr=>⟨by have:=(h.2 r hr).1; omega,(h.2 r hr).2⟩
theorem GD {x:Int} (h:rok x):IntKind.i32.wrap x=x:=by
 have h1:=h.1
 have h2:=h.2
 rw [IntKind.wrap_i32]
 omega
theorem IP {a:k6} (h:okA a):rU a=some (uv a):=by
 obtain ⟨h1,h2,h3,h4⟩:=h
 unfold rU
 rw [bL (by simp; omega),aA,GD h1,PH h2 h3]
 rfl
section
variable {W : Nat} {s : aB}
theorem Lr (h:SI W s) {a:k6} (ha:okA a):uc (aM s) a=some (aM (acS W s (uv a)),(acF W s (uv a)).map told)∧rU a=some (uv a)∧gB s (uv a)=some (acF W s (uv a),acS W s (uv a))∧oC (acF W s (uv a)) ((acF W s (uv a)).map told)=some true∧SI W (acS W s (uv a)) :=
 ⟨PO h.toSJ a ha.1 (by have:=ha.2.2.2; omega),IP ha,PN h.toSJ _ (by have:=ha.2.2.2; show a.bH.length≤_; omega),Nt (DU h.toSJ _) h.gi.w2,Mj h _ ha.1⟩
theorem IQ (h:SJ W s):iQ s=some (s.g,s):=by
 unfold iQ
 have e:=Dr s.g.w s.g.l (by have:=h.gi.l2; omega) h.gi.len
 rw [show (aW.mk s.g.w s.g.l)=s.g from rfl] at e
 rw [e]
 rfl
end
end Go.Tw.X
set_option linter.unusedVariables false
set_option linter.unusedSimpArgs false
set_option maxRecDepth 20000
set_option maxHeartbeats 1000000
namespace Go.Tw.X
open Go Go.Tw
theorem Nu {P:Int→Prop} (h: ∀ n:Nat,n < 256→P n) {b:Int} (h0:0≤b) (h1:b < 256):P b:=by
 have:=h b.toNat (by omega)
 rwa [Int.toNat_of_nonneg h0] at this
def jK (b:Int):Int×Int×Int:=if 194≤b∧b≤223 then (1,128,191) else if b=224 then (2,160,191) else if b=237 then (2,128,159) else if 225≤b∧b≤239 then (2,128,191) else if b=240 then (3,144,191) else if b=244 then (3,128,143) else if 241≤b∧b≤243 then (3,128,191) else (0,0,0)
theorem u5 (b:Int):((jK b).1=0∨(jK b).1=1∨(jK b).1=2∨(jK b).1=3)∧((jK b).1≠0→194≤b∧b≤244):=by
 unfold jK
 repeat' split
 all_goals simp
 all_goals omega
def GF (l:List kM) (b:Int):Option kM:=l.find? fun x=>decide (x.first≤b) && decide (b≤x.last)
def fnd (b:Int):kM×Bool:=match GF bV b with
 | some x=>(x,true)
 | none=>(⟨0,0,0,0,0⟩,false)
theorem Ce {b:Int} (h0:0≤b) (h1:b < 256):(fnd b).2=decide ((jK b).1≠0)∧(fnd b).1.jm=(jK b).1∧(fnd b).1.low=(jK b).2.1∧(fnd b).1.high=(jK b).2.2 :=
 Nu (P:=fun b=>(fnd b).2=decide ((jK b).1≠0)∧(fnd b).1.jm=(jK b).1∧(fnd b).1.low=(jK b).2.1∧(fnd b).1.high=(jK b).2.2) (by decide) h0 h1
theorem Cg (b:Int):l6 b=some (fnd b):=by
 unfold l6
 have key: ∀ k i:Nat,i+k=8→iter (σ:=Int) (ρ:=Unit ⊕ (kM×Bool)) (fun a=>(bif (decide (a < 8)) then (Option.bind (idx bV a) fun c=>(Option.bind ((bif (decide (b≥c.first)) then some (decide (b≤c.last)) else some false):Option Bool) fun d=>(bif d then (kY (some (c,true))) else some (.inl (IntKind.i64.wrap (a+1)))))) else some (.inr (.inl ())))) (i:Int)=some (match GF (bV.drop i) b with
   | some x=> .inr (x,true)
   | none=> .inl ()):=by
  intro k
  induction k with
  | zero =>
   intro i hi
   obtain rfl:i=8:=by omega
   rw [cM (r:= .inl ()) rfl]
   rfl
  | succ k ih =>
   intro i hi
   have hlt:i < bV.length:=by show i < 8; omega
   have hd:bV.drop i=bV[i]::bV.drop (i+1):=List.drop_eq_getElem_cons hlt
   rw [iter_eq,hd]
   simp only [dG _ i hlt,Option.bind_some,decide_eq_true (show (i:Int) < 8 by omega),cond_true]
   generalize bV[i]=x
   have hw:IntKind.i64.wrap ((i:Int)+1)=((i+1:Nat):Int):=by rw [w64 (by omega) (by omega)]; omega
   by_cases h1:x.first≤b
   ·by_cases h2:b≤x.last
    ·simp [h1,h2,GF,kY]
    ·have:=ih (i+1) (by omega)
     simp [h1,h2,GF,hw] at this ⊢
     exact this
   ·have:=ih (i+1) (by omega)
    simp [h1,GF,hw] at this ⊢
    exact this
 have:=key 8 0 rfl
 simp only [Int.natCast_zero] at this
 rw [this]
 unfold fnd
 rw [List.drop_zero]
 cases GF bV b <;> rfl
theorem OR {b:Int} (h0:0≤b) (h1:b < 256):Go.bits .and .i32 (IntKind.i32.wrap b) 63=b % 64:=by
 rw [GD ⟨by omega,by omega⟩]
 exact m63 b h0 (by omega)
theorem PQ {b:Int} (h0:0≤b) (h1:b < 256):Go.bits .and .i32 (IntKind.i32.wrap b) ((63:Int).fdiv (2 ^ (min (1:Int).toNat 32)))=b % 32∧Go.bits .and .i32 (IntKind.i32.wrap b) ((63:Int).fdiv (2 ^ (min (2:Int).toNat 32)))=b % 16∧Go.bits .and .i32 (IntKind.i32.wrap b) ((63:Int).fdiv (2 ^ (min (3:Int).toNat 32)))=b % 8:=by
 rw [GD ⟨by omega,by omega⟩]
 have g5:=bits_mask .i32 31 (by decide) wraps_i32 5 (by decide) b h0 (by omega)
 have g4:=bits_mask .i32 31 (by decide) wraps_i32 4 (by decide) b h0 (by omega)
 have g3:=bits_mask .i32 31 (by decide) wraps_i32 3 (by decide) b h0 (by omega)
 exact ⟨g5,g4,g3⟩
theorem PR {r b:Int} (h0:0≤r) (h1:r < 1000000) (hb0:0≤b) (hb1:b < 64):Go.bits .or .i32 (IntKind.i32.wrap (r*2 ^ (min 6 32))) b=r*64+b:=by
 have e:(r*2 ^ (min 6 32):Int)=r*64:=rfl
 rw [e,GD ⟨by omega,by omega⟩]
 exact bits_join .i32 31 (by decide) wraps_i32 6 (r*64) b (by omega) (by show r*64 % 64=0; omega) (by omega) hb0 (by omega) (by omega)
def d0:bQ:=⟨0,0,0⟩
def zb (b:Int):Int:=if (jK b).1=1 then b % 32 else if (jK b).1=2 then b % 16 else b % 8
def xk (b:Int):bQ×List Int:=if b < 128 then (d0,[b]) else if (jK b).1=0 then (d0,[65533]) else (⟨b,zb b,(jK b).1⟩,[])
theorem Ci {b:Int} (h0:0≤b) (h1:b < 256):lE b=some (xk b):=by
 unfold lE xk
 by_cases hb:b < 128
 ·rw [decide_eq_true hb,cond_true,if_pos hb,GD ⟨by omega,by omega⟩]; rfl
 ·rw [decide_eq_false hb,cond_false,if_neg hb,Cg,Option.bind_some]
  obtain ⟨f1,f2,f3,f4⟩:=Ce h0 h1
  rw [f1,f2]
  have hn:=u5 b
  by_cases hz:(jK b).1=0
  ·rw [if_pos hz,hz]; rfl
  ·rw [if_neg hz,decide_eq_true hz]
   obtain ⟨a1,a2,a3⟩:=PQ h0 h1
   have hk: ∀ n:Int,n=1∨n=2∨n=3→(Option.bind (chk (shk n)) fun _=>some ((bQ.mk b (Go.bits .and .i32 (IntKind.i32.wrap b) ((63:Int).fdiv (2 ^ (min n.toNat 32)))) n),([]:List Int)))=some (⟨b,if n=1 then b % 32 else if n=2 then b % 16 else b % 8,n⟩,[]):=by
    rintro n (rfl | rfl | rfl)
    ·rw [a1]; rfl
    ·rw [a2]; rfl
    ·rw [a3]; rfl
   exact hk _ (by omega)
def GG (d:bQ) (b:Int):Bool:=if d.jm < (jK d.lead).1 then decide (128≤b∧b≤191) else decide ((jK d.lead).2.1≤b∧b≤(jK d.lead).2.2)
theorem Ls {d:bQ} (h0:0≤d.lead) (h1:d.lead < 256) (b:Int):iI d b=some (GG d b):=by
 unfold iI GG
 rw [Cg,Option.bind_some]
 obtain ⟨f1,f2,f3,f4⟩:=Ce h0 h1
 rw [f2,f3,f4]
 by_cases h:d.jm < (jK d.lead).1
 ·rw [if_pos h,decide_eq_true h,cond_true]
  by_cases ha:128≤b <;> simp [ha]
 ·rw [if_neg h,decide_eq_false h,cond_false]
  by_cases ha:(jK d.lead).2.1≤b <;> simp [ha]
def tO (d:bQ) (b:Int):bQ×List Int:=if d.jm≤0 then xk b else if GG d b then (if d.jm=1 then (d0,[d.rune*64+b % 64]) else (⟨d.lead,d.rune*64+b % 64,d.jm - 1⟩,[])) else ((xk b).1,65533::(xk b).2)
def DI (d:bQ):Prop:=d=d0∨(0≤d.lead∧d.lead < 256∧1≤d.jm∧d.jm≤(jK d.lead).1∧0≤d.rune∧(d.jm=3→d.rune < 8)∧(d.jm=2→d.rune < 512)∧(d.jm=1→d.rune < 32768))
theorem DI0:DI d0:= .inl rfl
theorem Lu {b:Int} (h0:0≤b) (h1:b < 256):DI (xk b).1∧(xk b).2.length≤1∧Ns (xk b).2:=by
 unfold xk
 have hn:=u5 b
 split
 ·refine ⟨DI0,by simp,fun x hx=> ?_⟩
  rw [List.mem_singleton.1 hx]
  exact ⟨by omega,by omega⟩
 ·split
  ·refine ⟨DI0,by simp,fun x hx=> ?_⟩
   rw [List.mem_singleton.1 hx]
   exact ⟨by decide,by decide⟩
  ·rename_i hz
   refine ⟨.inr ⟨h0,h1,by dsimp only; omega,Int.le_refl _,?_,?_,?_,?_⟩,by simp,fun x hx=>by cases hx⟩
   all_goals (dsimp only; unfold zb; intros; split <;> (try split) <;> omega)
theorem yC {d:bQ} (h:DI d) {b:Int} (h0:0≤b) (h1:b < 256):iJ d b=some (tO d b)∧DI (tO d b).1∧(tO d b).2.length≤2∧Ns (tO d b).2:=by
 obtain ⟨k1,k2,k3⟩:=Lu h0 h1
 unfold iJ tO
 by_cases hd:d.jm≤0
 ·rw [decide_eq_true hd,cond_true,Ci h0 h1,if_pos hd]
  exact ⟨rfl,k1,by omega,k3⟩
 ·rcases h with rfl | ⟨l0,l1,n1,n2,r0,r3,r2,r1⟩
  ·exact absurd (by decide) hd
  rw [decide_eq_false hd,cond_false,if_neg hd,Ls l0 l1,Option.bind_some]
  have hn:=u5 d.lead
  have hrb:d.rune < 32768:=by
   have:d.jm=1∨d.jm=2∨d.jm=3:=by omega
   rcases this with h | h | h
   ·exact r1 h
   ·have:=r2 h; omega
   ·have:=r3 h; omega
  cases hf:GG d b with
  | false =>
   simp only [Bool.not_false,cond_true,Ci h0 h1,Option.bind_some,Bool.false_eq_true,if_false]
   refine ⟨by rw [bL (by simp; omega)]; rfl,k1,by simp; omega,fun x hx=> ?_⟩
   rcases List.mem_cons.1 hx with rfl | hx
   ·exact ⟨by decide,by decide⟩
   ·exact k3 x hx
  | true =>
   have hor:Go.bits .or .i32 (IntKind.i32.wrap (d.rune*2 ^ (min 6 32))) (Go.bits .and .i32 (IntKind.i32.wrap b) 63)=d.rune*64+b % 64:=by
    rw [OR h0 h1]
    exact PR r0 (by omega) (by omega) (by omega)
   simp only [Bool.not_true,cond_false,if_true,hor]
   rw [w64 (x:=d.jm - 1) (by omega) (by omega)]
   by_cases h1':d.jm=1
   ·rw [if_pos h1',h1']
    refine ⟨rfl,DI0,by simp,fun x hx=> ?_⟩
    rw [List.mem_singleton.1 hx]
    have:=r1 h1'
    exact ⟨by omega,by omega⟩
   ·have he:(d.jm - 1 == 0)=false:=by
     have: ¬ d.jm - 1=0:=by omega
     simpa using this
    rw [if_neg h1',he,cond_false]
    refine ⟨rfl,.inr ⟨l0,l1,by dsimp only; omega,by dsimp only; omega,by dsimp only; omega,?_,?_,?_⟩,by simp,fun x hx=>by cases hx⟩
    ·dsimp only; intro e; omega
    ·dsimp only; intro e; have:=r3 (by omega); omega
    ·dsimp only; intro e; have:=r2 (by omega); omega
end Go.Tw.X
set_option linter.unusedVariables false
set_option linter.unusedSimpArgs false
set_option maxHeartbeats 1000000
namespace Go.Tw.X
open Go Go.Tw
theorem IS {s:ByteArray} {i:Int} (h0:0≤i) (h1:i < s.size):okO (y5 s i) (fun b=>(0≤b∧b < 256)∧(sbs s).drop i.toNat=b::(sbs s).drop (i.toNat+1)):=by
 have hl:i.toNat < (sbs s).length:=by rw [bD]; omega
 have e:=yk s i.toNat hl
 rw [Int.toNat_of_nonneg h0] at e
 exact ⟨_,e,ly s _ (List.getElem_mem hl),List.drop_eq_getElem_cons hl⟩
end Go.Tw.X
set_option linter.unusedVariables false
set_option linter.unusedSimpArgs false
set_option maxHeartbeats 1000000
namespace Go.Tw.X
open Go Go.Tw
def tP (p:aH) (a:aZ):aH:=⟨p.state,p.order,p.text,p.cK,p.out++[a]⟩
def prA (r:Int):aZ:=⟨1,r,0,false,[],ByteArray.mk #[]⟩
def oW (p:aH) (l:List Int):aH:=⟨p.state,p.order,p.text,p.cK,p.out++l.map prA⟩
def stP (p:aH) (s:Int):aH:=⟨s,p.order,p.text,p.cK,p.out⟩
def ctA (b:Int):aZ:=⟨2,0,b,false,[],ByteArray.mk #[]⟩
def fB (p:aH) (b:Int):Bool×aH:=if b=24∨b=26 then (true,stP p 0) else if b=27 then (true,stP p 1) else if b < 32 then (true,tP p (ctA b)) else (b == 127,p)
def yD (d:bQ):List Int:=if d.jm≤0 then [] else [65533]
def mH (p:aH) (b:Int):aH:=if b < 32∨b=127 then (fB ⟨p.state,p.order,p.text,d0,p.out++(yD p.cK).map prA⟩ b).2 else oW ⟨p.state,p.order,p.text,(tO p.cK b).1,p.out⟩ (tO p.cK b).2
def o0:fE:=⟨false,false,false,false,0,[]⟩
def PT (b:Int):aZ:=⟨3,0,b,false,[],ByteArray.mk #[]⟩
def kI (p:aH) (b:Int):aH :=
 if (fB p b).1 then (fB p b).2 else
 if b=91 then ⟨3,o0,p.text,p.cK,p.out⟩ else if b=93 then ⟨4,p.order,ByteArray.mk #[],p.cK,p.out⟩ else if b < 48 then stP p 2 else if b < 127 then stP (tP p (PT b)) 0 else stP p 0
def rk (p:aH) (b:Int):aH:=if (fB p b).1 then (fB p b).2 else if 48≤b then stP p 0 else p
def wX (o:fE):fE:=⟨o.eE,o.mU,o.any,o.some,0,if o.bH.length < 16 then o.bH++[o.n] else o.bH⟩
def cmA (o:fE) (b:Int):aZ:=⟨4,0,b,o.eE,o.bH,ByteArray.mk #[]⟩
def mI (p:aH) (b:Int):aH:=if p.order.mU then stP p 0 else
 let o:=if p.order.some then wX p.order else p.order
 ⟨0,o,p.text,p.cK,p.out++[cmA o b]⟩
def Lv (o:fE):fE:=⟨o.eE,o.mU,true,o.some,o.n,o.bH⟩
def qg (o:fE) (b:Int):fE :=
 if 48≤b∧b≤57 then ⟨o.eE,o.mU,true,true,eN (10*o.n+(b - 48)) 9999,o.bH⟩ else
 if b=59∨b=58 then ⟨o.eE,o.mU,true,true,0,(wX o).bH⟩ else
 if b=63∧o.any=false then ⟨true,o.mU,true,o.some,o.n,o.bH⟩ else
 ⟨o.eE,true,true,o.some,o.n,o.bH⟩
def lz (p:aH) (b:Int):aH:=if (fB p b).1 then (fB p b).2 else
 if 64≤b∧b < 127 then mI ⟨p.state,Lv p.order,p.text,p.cK,p.out⟩ b else ⟨p.state,qg p.order b,p.text,p.cK,p.out⟩
theorem u6 {p:aH} (h:p.out.length≤1000000) (a:aZ):fW p a=some (tP p a):=by
 unfold fW
 rw [bL (by simp; omega)]
 rfl
theorem Cj {p:aH} (h:p.out.length≤1000000) (a:aZ):iO p a=some (tP p a):=by
 unfold iO
 rw [bL (by simp; omega)]
 rfl
theorem okE {α:Type _} {x:Option α} {r:α} (h:okO x (fun y=>y=r)):x=some r:=by
 obtain ⟨y,e,rfl⟩:=h
 exact e
theorem Ck {p:aH} {l:List Int} (h:p.out.length+l.length≤1000000):iy p l=some (oW p l):=by
 unfold iy
 refine okE (dT (P:=fun y=>y=oW p l) ?_ fun r hr=>cA hr)
 refine sV (fun z:aH×Int=>0≤z.2∧z.2≤l.length∧z.1=oW p (l.take z.2.toNat)) (fun z=>l.length - z.2.toNat) ⟨Int.le_refl 0,by dsimp only; omega,by simp [oW]⟩ ?_
 rintro ⟨q,i⟩ ⟨h0,h1,h2⟩
 dsimp only at h0 h1 h2 ⊢
 subst h2
 refine uY (fun hi=> ?_) fun hi=>cA (by rw [List.take_of_length_le (by omega)])
 obtain ⟨k,rfl⟩: ∃ k:Nat,i=k:=⟨i.toNat,by omega⟩
 have hk:k < l.length:=by omega
 refine dT (P:=fun x=>x=l[k]) ⟨_,dG l k hk,rfl⟩ fun x hx=> ?_
 subst hx
 refine dT (P:=fun x=>x=oW p (l.take (k+1))) ?_ fun x hx=> ?_
 ·rw [u6 (by simp [oW]; omega)]
  refine cA ?_
  simp only [oW,tP,Int.toNat_natCast,List.take_add_one,List.getElem?_eq_getElem hk,Option.toList_some,List.map_append,List.map_cons,List.map_nil,List.append_assoc,prA]
 ·subst hx
  rw [w64 (by omega) (by omega)]
  refine cA ⟨⟨by dsimp only; omega,by dsimp only; omega,?_⟩,by dsimp only; omega⟩
  dsimp only
  rw [show ((k:Int)+1).toNat=k+1 by omega]
theorem s7 {p:aH} (h:p.out.length≤1000000) (b:Int):fD p b=some (fB p b):=by
 unfold fD fB
 by_cases h1:b=24
 ·subst h1; rfl
 ·by_cases h2:b=26
  ·subst h2; rfl
  ·by_cases h3:b=27
   ·subst h3; rfl
   ·have e1:(b == 24)=false:=by simpa using h1
    have e2:(b == 26)=false:=by simpa using h2
    have e3:(b == 27)=false:=by simpa using h3
    rw [if_neg (by omega),if_neg h3,e1,e2,e3]
    by_cases h4:b < 32
    ·rw [if_pos h4,decide_eq_true h4]
     simp only [cond_false,cond_true,Option.bind_some,u6 h]
     rfl
    ·rw [if_neg h4,decide_eq_false h4]
     rfl
theorem GH {p:aH} (h:p.out.length≤999990) (hd:DI p.cK) {b:Int} (h0:0≤b) (h1:b < 256):ig p b=some (mH p b):=by
 unfold ig mH
 have hl:(yD p.cK).length≤1:=by unfold yD; split <;> simp
 have he:jd p.cK=some (yD p.cK):=by
  unfold jd yD
  by_cases hn:p.cK.jm≤0
  ·rw [decide_eq_true hn,if_pos hn]; rfl
  ·rw [decide_eq_false hn,if_neg hn]; rfl
 by_cases hb:b < 32∨b=127
 ·have e:((bif (decide (b < 32)) then some true else some (b == 127)):Option Bool)=some true:=by
   rcases hb with hb | hb
   ·rw [decide_eq_true hb]; rfl
   ·subst hb; rfl
  rw [if_pos hb,e,Option.bind_some,cond_true,he,Option.bind_some,Ck (by omega),Option.bind_some,s7 (by simp [oW]; omega)]
  rfl
 ·have e:((bif (decide (b < 32)) then some true else some (b == 127)):Option Bool)=some false:=by
   rw [decide_eq_false (by omega),cond_false]
   have: ¬ b=127:=by omega
   simpa using this
  obtain ⟨n1,n2,n3,n4⟩:=yC hd h0 h1
  rw [if_neg hb,e,Option.bind_some,cond_false,n1,Option.bind_some,Ck (by dsimp only; omega)]
  rfl
theorem z4 {p:aH} (h:p.out.length≤999990) (b:Int):fX p b=some (kI p b):=by
 unfold fX kI
 rw [s7 (by omega),Option.bind_some]
 cases hc:(fB p b).1 with
 | true=>rfl
 | false =>
  have hp:(fB p b).2=p:=by
   unfold fB at hc ⊢
   split
   ·rename_i hh; rw [if_pos hh] at hc; cases hc
   ·rename_i h1; rw [if_neg h1] at hc
    split
    ·rename_i hh; rw [if_pos hh] at hc; cases hc
    ·rename_i h2; rw [if_neg h2] at hc
     split
     ·rename_i hh; rw [if_pos hh] at hc; cases hc
     ·rfl
  rw [hp]
  simp only [cond_false,Bool.false_eq_true,if_false]
  by_cases h1:b=91
  ·subst h1; rfl
  ·have e1:(b == 91)=false:=by simpa using h1
   rw [if_neg h1,e1]
   by_cases h2:b=93
   ·subst h2; rfl
   ·have e2:(b == 93)=false:=by simpa using h2
    rw [if_neg h2,e2]
    by_cases h3:b < 48
    ·rw [if_pos h3,decide_eq_true h3]; rfl
    ·rw [if_neg h3,decide_eq_false h3]
     by_cases h4:b < 127
     ·rw [if_pos h4,decide_eq_true h4]
      simp only [cond_false,cond_true,u6 (show p.out.length≤1000000 by omega),Option.bind_some]
      rfl
     ·rw [if_neg h4,decide_eq_false h4]; rfl
theorem wY {p:aH} {b:Int} (hc:(fB p b).1=false):(fB p b).2=p:=by
 unfold fB at hc ⊢
 split
 ·rename_i hh; rw [if_pos hh] at hc; cases hc
 ·rename_i h1; rw [if_neg h1] at hc
  split
  ·rename_i hh; rw [if_pos hh] at hc; cases hc
  ·rename_i h2; rw [if_neg h2] at hc
   split
   ·rename_i hh; rw [if_pos hh] at hc; cases hc
   ·rfl
theorem IT {p:aH} (h:p.out.length≤999990) (b:Int):jf p b=some (rk p b):=by
 unfold jf rk
 rw [s7 (by omega),Option.bind_some]
 cases hc:(fB p b).1 with
 | true=>rfl
 | false =>
  rw [wY hc]
  by_cases hb:48≤b
  ·simp [hb,stP]
  ·simp [hb]
theorem Fk {p:aH} (h:p.order.bH.length≤16):jD p=some ⟨p.state,wX p.order,p.text,p.cK,p.out⟩:=by
 unfold jD wX
 by_cases hl:p.order.bH.length < 16
 ·rw [decide_eq_true (by omega),cond_true,bL (by simp; omega),if_pos hl]; rfl
 ·rw [decide_eq_false (by omega),cond_false,if_neg hl]; rfl
theorem GJ {p:aH} (h:p.out.length≤999990) (hn:p.order.bH.length≤16) (b:Int):jg p b=some (mI p b):=by
 unfold jg mI
 cases hw:p.order.mU with
 | true=>rfl
 | false =>
  simp only [cond_false,Bool.false_eq_true,if_false]
  cases hs:p.order.some with
  | true =>
   simp only [cond_true,if_true]
   rw [Fk (by exact hn),Option.bind_some,Option.bind_some,Cj (by dsimp only; omega)]
   rfl
  | false =>
   simp only [cond_false,Bool.false_eq_true,if_false]
   rw [Option.bind_some,Cj (by dsimp only; omega)]
   rfl
theorem DV {p:aH} (h:p.out.length≤999990) (h3:p.state=3) (hn:p.order.bH.length≤16) (hN:0≤p.order.n∧p.order.n≤9999) {b:Int} (h0:0≤b) (h1:b < 256):gR p b=some (lz p b):=by
 unfold gR lz
 rw [s7 (by omega),Option.bind_some]
 cases hc:(fB p b).1 with
 | true=>rfl
 | false =>
  rw [wY hc]
  simp only [cond_false,Bool.false_eq_true,if_false]
  have hchk:chk (p.state == (3:Int))=some ():=by rw [h3]; rfl
  by_cases a1:48≤b∧b≤57
  ·have e:((bif (decide (b≥48)) then some (decide (b≤57)) else some false):Option Bool)=some true:=by rw [decide_eq_true a1.1,decide_eq_true a1.2]; rfl
   have w1:IntKind.u8.wrap (b - 48)=b - 48:=by simp [IntKind.wrap,IntKind.bits,IntKind.signed]; omega
   rw [e,Option.bind_some,cond_true,w1,w64 (x:=b - 48) (by omega) (by omega),w64 (x:=10*p.order.n) (by omega) (by omega),w64 (by omega) (by omega),if_neg (by omega)]
   unfold qg
   rw [if_pos a1]
  ·have e:((bif (decide (b≥48)) then some (decide (b≤57)) else some false):Option Bool)=some false:=by
    by_cases hh:48≤b
    ·rw [decide_eq_true hh,decide_eq_false (by omega)]; rfl
    ·rw [decide_eq_false hh]; rfl
   rw [e,Option.bind_some,cond_false]
   by_cases a2:b=59∨b=58
   ·have e2:((bif (b == 59) then some true else some (b == 58)):Option Bool)=some true:=by rcases a2 with rfl | rfl <;> rfl
    rw [e2,Option.bind_some,cond_true,hchk,Option.bind_some,Fk (by exact hn),Option.bind_some,if_neg (by omega)]
    unfold qg
    rw [if_neg a1,if_pos a2]
    rfl
   ·have e2:((bif (b == 59) then some true else some (b == 58)):Option Bool)=some false:=by
     have x1:(b == 59)=false:=by simpa using (show ¬ b=59 by omega)
     have x2:(b == 58)=false:=by simpa using (show ¬ b=58 by omega)
     rw [x1,x2]; rfl
    rw [e2,Option.bind_some,cond_false]
    by_cases a3:b=63∧p.order.any=false
    ·have e3:((bif (b == 63) then some (!p.order.any) else some false):Option Bool)=some true:=by rw [a3.1,a3.2]; rfl
     rw [e3,Option.bind_some,cond_true,if_neg (by omega)]
     unfold qg
     rw [if_neg a1,if_neg a2,if_pos a3]
    ·have e3:((bif (b == 63) then some (!p.order.any) else some false):Option Bool)=some false:=by
      by_cases hh:b=63
      ·cases ha:p.order.any with
       | true=>rw [hh]; rfl
       | false=>exact absurd ⟨hh,ha⟩ a3
      ·have:(b == 63)=false:=by simpa using hh
       rw [this]; rfl
     rw [e3,Option.bind_some,cond_false]
     by_cases a4:64≤b∧b < 127
     ·have e4:((bif (decide (b≥64)) then some (decide (b < 127)) else some false):Option Bool)=some true:=by rw [decide_eq_true a4.1,decide_eq_true a4.2]; rfl
      rw [e4,Option.bind_some,cond_true,hchk,Option.bind_some,if_pos a4,GJ (by exact h) (by exact hn)]
      rfl
     ·have e4:((bif (decide (b≥64)) then some (decide (b < 127)) else some false):Option Bool)=some false:=by
       by_cases hh:64≤b
       ·rw [decide_eq_true hh,decide_eq_false (by omega)]; rfl
       ·rw [decide_eq_false hh]; rfl
      rw [e4,Option.bind_some,cond_false,if_neg a4]
      unfold qg
      rw [if_neg a1,if_neg a2,if_neg a3]
end Go.Tw.X
set_option linter.unusedVariables false
set_option linter.unusedSimpArgs false
set_option maxHeartbeats 1000000
namespace Go.Tw.X
open Go Go.Tw
def tiA (t:ByteArray):aZ:=⟨5,0,0,false,[],ie t 2 t.size⟩
def ttl (t:ByteArray):List aZ:=match sbs t with
 | x::y::_=>if (x=48∨x=50)∧y=59 then [tiA t] else []
 | _=>[]
theorem Lz (t:ByteArray):(ttl t).length≤1:=by
 unfold ttl
 split
 ·split <;> simp
 ·simp
def ov (p:aH):aH:=⟨0,p.order,p.text,p.cK,p.out++ttl p.text⟩
def isH (c:Int) (t:ByteArray):Bool:=decide ((sbs t).take 2=[c,59])
theorem IU {c:Int} {t:ByteArray} (h:t.size < 2):isH c t=false:=by
 refine decide_eq_false fun e=> ?_
 have:=congrArg List.length e
 simp [bD] at this
 omega
theorem z5 (t h:ByteArray) (c:Int) (hh:sbs h=[c,59]):je t h=some (if isH c t then (ie t 2 t.size,true) else (t,false)):=by
 have hs:h.size=2:=by rw [← bD,hh]; rfl
 have hp:gD t h=some (isH c t):=by
  unfold gD
  rw [hs]
  by_cases h2:2≤t.size
  ·rw [decide_eq_true (show (t.size:Int)≥((2:Nat):Int) by omega),cond_true,bM (by decide) (by decide) (by omega),Option.bind_some,Option.bind_some,uS]
   congr 1
   unfold isH
   refine decide_eq_decide.2 ⟨fun e=> ?_,fun e=> ?_⟩
   ·have:=congrArg sbs e
    rw [show ((0:Int))=((0:Nat):Int) from rfl,gI,hh] at this
    simpa using this
   ·apply qM
    rw [show ((0:Int))=((0:Nat):Int) from rfl,gI,hh]
    simpa using e
  ·rw [decide_eq_false (show ¬ (t.size:Int)≥((2:Nat):Int) by omega),cond_false,Option.bind_some,IU (by omega)]
 unfold je iU
 rw [hp,Option.bind_some,hs]
 cases hi:isH c t with
 | false=>rfl
 | true =>
  have h2:2≤t.size:=by
   by_cases h2:2≤t.size
   ·exact h2
   ·rw [IU (by omega)] at hi; cases hi
  simp only [Bool.not_true,cond_false,if_true]
  rw [bM (by omega) (by omega) (by omega)]
  rfl
theorem IV (t:ByteArray):ttl t=(if isH 48 t then [tiA t] else [])++(if isH 50 t then [tiA t] else []):=by
 unfold ttl isH
 match h:sbs t with
 | []=>simp
 | [x]=>simp
 | x::y::r =>
  simp only [List.take_succ_cons,List.take_zero,List.cons.injEq,and_true,decide_eq_true_eq]
  by_cases hy:y=59
  ·by_cases h1:x=48
   ·subst h1; simp [hy]
   ·by_cases h2:x=50
    ·subst h2; simp [hy]
    ·simp [h1,h2]
  ·simp [hy]
theorem Fl {p:aH} (h:p.out.length≤999990):iV p=some (ov p):=by
 unfold iV
 have c1:=z5 p.text (ByteArray.mk #[48,59]) 48 rfl
 have c2:=z5 p.text (ByteArray.mk #[50,59]) 50 rfl
 refine okE (dT (P:=fun y=>y=ov p) ?_ fun r hr=>cA hr)
 refine sV (fun z:aH×Int=>z.2=0∧z.1=stP p 0∨z.2=1∧z.1=⟨0,p.order,p.text,p.cK,p.out++(if isH 48 p.text then [tiA p.text] else [])⟩∨z.2=2∧z.1=ov p) (fun z=>2 - z.2.toNat) (.inl ⟨rfl,rfl⟩) ?_
 rintro ⟨q,i⟩ (⟨h1,h2⟩ | ⟨h1,h2⟩ | ⟨h1,h2⟩)
 ·dsimp only at h1 h2
  subst h1 h2
  refine uY (fun _=> ?_) fun hh=>absurd (show (0:Int) < 2 from by decide) hh
  refine dT (P:=fun y=>y=(⟨0,p.order,p.text,p.cK,p.out++(if isH 48 p.text then [tiA p.text] else [])⟩:aH)) ?_ fun y hy=> ?_
  ·refine dT (P:=fun x=>x=ByteArray.mk #[48,59]) ⟨_,rfl,rfl⟩ fun x hx=> ?_
   subst hx
   rw [show (stP p 0).text=p.text from rfl,c1]
   cases hi:isH 48 p.text with
   | true =>
    simp only [if_true,Option.bind_some,cond_true]
    rw [u6 (by show p.out.length≤_; omega)]
    exact cA rfl
   | false =>
    simp only [Bool.false_eq_true,if_false,Option.bind_some,cond_false]
    exact cA (by simp [stP])
  ·subst hy
   exact cA ⟨.inr (.inl ⟨show IntKind.i64.wrap (0+1)=1 from by decide,rfl⟩),show 2 - (IntKind.i64.wrap (0+1)).toNat < 2 - (0:Int).toNat from by decide⟩
 ·dsimp only at h1 h2
  subst h1 h2
  refine uY (fun _=> ?_) fun hh=>absurd (show (1:Int) < 2 from by decide) hh
  refine dT (P:=fun y=>y=ov p) ?_ fun y hy=> ?_
  ·refine dT (P:=fun x=>x=ByteArray.mk #[50,59]) ⟨_,rfl,rfl⟩ fun x hx=> ?_
   subst hx
   dsimp only
   rw [c2]
   have hl:((if isH 48 p.text then [tiA p.text] else []):List aZ).length≤1:=by split <;> simp
   cases hi:isH 50 p.text with
   | true =>
    simp only [if_true,Option.bind_some,cond_true]
    rw [u6 (by simp only [List.length_append]; omega)]
    refine cA ?_
    simp only [tP,ov,IV,hi,if_true,List.append_assoc]
    rfl
   | false =>
    simp only [Bool.false_eq_true,if_false,Option.bind_some,cond_false]
    refine cA ?_
    simp only [ov,IV,hi,Bool.false_eq_true,if_false,List.append_nil]
  ·subst hy
   exact cA ⟨.inr (.inr ⟨show IntKind.i64.wrap (1+1)=2 from by decide,rfl⟩),show 2 - (IntKind.i64.wrap (1+1)).toNat < 2 - (1:Int).toNat from by decide⟩
 ·dsimp only at h1 h2
  subst h1 h2
  exact uY (fun hh=>absurd hh (show ¬ (2:Int) < 2 from by decide)) fun _=>cA rfl
def ot (p:aH) (b:Int):aH:=if b=7 then ov p else if b=24∨b=26 then stP p 0 else if b=27 then stP p 5 else if p.text.size < 200 then ⟨p.state,p.order,p.text++gZ [b],p.cK,p.out⟩ else p
theorem IW {p:aH} (h:p.out.length≤999990) (b:Int):iP p b=some (ot p b):=by
 unfold iP ot
 by_cases h1:b=7
 ·subst h1
  rw [if_pos rfl,Fl h]
  rfl
 ·have e1:(b == 7)=false:=by simpa using h1
  rw [if_neg h1,e1,cond_false]
  by_cases h2:b=24∨b=26
  ·have e2:((bif (b == 24) then some true else some (b == 26)):Option Bool)=some true:=by rcases h2 with rfl | rfl <;> rfl
   rw [if_pos h2,e2]; rfl
  ·have e2:((bif (b == 24) then some true else some (b == 26)):Option Bool)=some false:=by
    have x1:(b == 24)=false:=by simpa using (show ¬ b=24 by omega)
    have x2:(b == 26)=false:=by simpa using (show ¬ b=26 by omega)
    rw [x1,x2]; rfl
   rw [if_neg h2,e2,Option.bind_some,cond_false]
   by_cases h3:b=27
   ·subst h3; rfl
   ·have e3:(b == 27)=false:=by simpa using h3
    rw [if_neg h3,e3,cond_false]
    by_cases h4:p.text.size < 200
    ·rw [if_pos h4,decide_eq_true (by omega),cond_true,Gj (by rw [lH]; simp; omega)]; rfl
    ·rw [if_neg h4,decide_eq_false (by omega)]; rfl
def qh (p:aH) (b:Int):aH :=
 if p.state=0 then mH p b else if p.state=1 then kI p b else if p.state=2 then rk p b else if p.state=3 then lz p b else if p.state=4 then ot p b else if b=92 then ov p else kI (stP p 1) b
structure PI (p:aH):Prop where
 di:DI p.cK
 gr:p.state≠0→p.cK=d0
 nu:p.order.bH.length≤16
 n0:0≤p.order.n
 n1:p.order.n≤9999
 tx:p.text.size≤200
theorem LA {p:aH} (hp:PI p) (h:p.out.length≤999990) {b:Int} (h0:0≤b) (h1:b < 256):kR p b=some (qh p b):=by
 unfold kR qh
 by_cases s0:p.state=0
 ·rw [if_pos s0,s0,GH h hp.di h0 h1]; rfl
 ·have e0:(p.state == 0)=false:=by simpa using s0
  rw [if_neg s0,e0,cond_false]
  by_cases s1:p.state=1
  ·rw [if_pos s1,s1,z4 h]; rfl
  ·have e1:(p.state == 1)=false:=by simpa using s1
   rw [if_neg s1,e1,cond_false]
   by_cases s2:p.state=2
   ·rw [if_pos s2,s2,IT h]; rfl
   ·have e2:(p.state == 2)=false:=by simpa using s2
    rw [if_neg s2,e2,cond_false]
    by_cases s3:p.state=3
    ·have e3:(p.state == 3)=true:=by simpa using s3
     rw [if_pos s3,e3,cond_true,DV h s3 hp.nu ⟨hp.n0,hp.n1⟩ h0 h1]; rfl
    ·have e3:(p.state == 3)=false:=by simpa using s3
     rw [if_neg s3,e3,cond_false]
     by_cases s4:p.state=4
     ·rw [if_pos s4,s4,IW h]; rfl
     ·have e4:(p.state == 4)=false:=by simpa using s4
      rw [if_neg s4,e4,cond_false]
      by_cases hb:b=92
      ·subst hb
       rw [if_pos rfl,Fl h]; rfl
      ·have e5:(b == 92)=false:=by simpa using hb
       rw [if_neg hb,e5,cond_false,show aH.mk 1 p.order p.text p.cK p.out=stP p 1 from rfl,z4 (by exact h)]; rfl
end Go.Tw.X
set_option linter.unusedVariables false
set_option linter.unusedSimpArgs false
set_option maxHeartbeats 1000000
namespace Go.Tw.X
open Go Go.Tw
def clr (p:aH):aH:=⟨p.state,p.order,p.text,p.cK,[]⟩
def nP (l:List aZ) (q:aH):aH:=⟨q.state,q.order,q.text,q.cK,l++q.out⟩
theorem oX (p:aH) (b:Int):fB p b=((fB (clr p) b).1,nP p.out (fB (clr p) b).2):=by
 unfold fB
 repeat' split
 all_goals simp [nP,clr,stP,tP]
theorem DW (p:aH) (b:Int):mI p b=nP p.out (mI (clr p) b):=by
 unfold mI
 rw [show (clr p).order=p.order from rfl]
 split
 all_goals simp [nP,clr,stP]
theorem DX (p:aH) (b:Int):mH p b=nP p.out (mH (clr p) b):=by
 unfold mH
 split
 ·rw [oX]
  rw [oX (aH.mk (clr p).state (clr p).order (clr p).text d0 ((clr p).out++(yD (clr p).cK).map prA))]
  simp [nP,clr]
 ·simp [nP,clr,oW]
theorem yE (p:aH) (b:Int):kI p b=nP p.out (kI (clr p) b):=by
 unfold kI
 rw [oX p b]
 dsimp only
 split
 ·rfl
 ·repeat' split
  all_goals simp [nP,clr,stP,tP]
theorem IX (p:aH) (b:Int):rk p b=nP p.out (rk (clr p) b):=by
 unfold rk
 rw [oX p b]
 dsimp only
 split
 ·rfl
 ·split
  all_goals simp [nP,clr,stP]
theorem Cl (p:aH) (b:Int):lz p b=nP p.out (lz (clr p) b):=by
 unfold lz
 rw [oX p b]
 dsimp only
 split
 ·rfl
 ·split
  ·exact DW _ b
  ·simp [nP,clr]
theorem Cm (p:aH):ov p=nP p.out (ov (clr p)):=by simp [ov,nP,clr]
theorem GK (p:aH) (b:Int):ot p b=nP p.out (ot (clr p) b):=by
 unfold ot
 rw [show (clr p).text=p.text from rfl]
 split
 ·exact Cm p
 ·repeat' split
  all_goals simp [nP,clr,stP]
theorem one_add (p:aH) (b:Int):qh p b=nP p.out (qh (clr p) b):=by
 unfold qh
 rw [show (clr p).state=p.state from rfl]
 split
 ·exact DX p b
 ·split
  ·exact yE p b
  ·split
   ·exact IX p b
   ·split
    ·exact Cl p b
    ·split
     ·exact GK p b
     ·split
      ·exact Cm p
      ·exact yE (stP p 1) b
def prun (p:aH) (bs:List Int):aH:=bs.foldl qh p
theorem IY (a b:List aZ) (q:aH):nP a (nP b q)=nP (a++b) q:=by simp [nP]
theorem IZ (a:List aZ) (q:aH):clr (nP a q)=clr q:=rfl
theorem I3 (q:aH):nP q.out (clr q)=q:=by simp [nP,clr]
theorem yF: ∀ (bs:List Int) (p:aH),prun p bs=nP p.out (prun (clr p) bs)
 | [],p=>(I3 p).symm
 | b::bs,p=>by
  show prun (qh p b) bs=nP p.out (prun (qh (clr p) b) bs)
  rw [yF bs (qh p b),yF bs (qh (clr p) b),one_add p b,IY,IZ]
  rfl
theorem Cn (p:aH) (a b:List Int):prun p (a++b)=prun (prun p a) b:=List.foldl_append ..
theorem s8 {p:aH} (h:PI p) (hr:p.cK=d0) (b:Int):PI (fB p b).2∧(fB p b).2.out.length≤p.out.length+1:=by
 unfold fB
 split
 ·exact ⟨⟨h.di,fun _=>hr,h.nu,h.n0,h.n1,h.tx⟩,Nat.le_succ _⟩
 ·split
  ·exact ⟨⟨h.di,fun _=>hr,h.nu,h.n0,h.n1,h.tx⟩,Nat.le_succ _⟩
  ·split
   ·exact ⟨⟨h.di,fun _=>hr,h.nu,h.n0,h.n1,h.tx⟩,by simp [tP]⟩
   ·exact ⟨h,Nat.le_succ _⟩
theorem GL {p:aH} (h:PI p) (hs:p.state=0) {b:Int} (h0:0≤b) (h1:b < 256):PI (mH p b)∧(mH p b).out.length≤p.out.length+2:=by
 unfold mH
 have hl:(yD p.cK).length≤1:=by unfold yD; split <;> simp
 split
 ·have:=s8 (p:=⟨p.state,p.order,p.text,d0,p.out++(yD p.cK).map prA⟩) ⟨DI0,fun _=>rfl,h.nu,h.n0,h.n1,h.tx⟩ rfl b
  refine ⟨this.1,Nat.le_trans this.2 ?_⟩
  simp
  omega
 ·obtain ⟨n1,n2,n3,n4⟩:=yC h.di h0 h1
  exact ⟨⟨n2,fun hh=>absurd hs hh,h.nu,h.n0,h.n1,h.tx⟩,by simp [oW]; omega⟩
theorem z6 {p:aH} (h:PI p) (hr:p.cK=d0) (b:Int):PI (kI p b)∧(kI p b).out.length≤p.out.length+1:=by
 unfold kI
 split
 ·exact s8 h hr b
 ·split
  ·exact ⟨⟨h.di,fun _=>hr,by simp [o0],by simp [o0],by simp [o0],h.tx⟩,Nat.le_succ _⟩
  ·split
   ·exact ⟨⟨h.di,fun _=>hr,h.nu,h.n0,h.n1,by simp [ByteArray.size]⟩,Nat.le_succ _⟩
   ·split
    ·exact ⟨⟨h.di,fun _=>hr,h.nu,h.n0,h.n1,h.tx⟩,Nat.le_succ _⟩
    ·split
     ·exact ⟨⟨h.di,fun _=>hr,h.nu,h.n0,h.n1,h.tx⟩,by simp [tP,stP]⟩
     ·exact ⟨⟨h.di,fun _=>hr,h.nu,h.n0,h.n1,h.tx⟩,Nat.le_succ _⟩
theorem LB {p:aH} (h:PI p) (hr:p.cK=d0) (b:Int):PI (rk p b)∧(rk p b).out.length≤p.out.length+1:=by
 unfold rk
 split
 ·exact s8 h hr b
 ·split
  ·exact ⟨⟨h.di,fun _=>hr,h.nu,h.n0,h.n1,h.tx⟩,Nat.le_succ _⟩
  ·exact ⟨h,Nat.le_succ _⟩
theorem wm {o:fE} (h:o.bH.length≤16):(wX o).bH.length≤16:=by
 unfold wX
 dsimp only
 split
 ·simp; omega
 ·exact h
theorem GM {p:aH} (h:PI p) (hr:p.cK=d0) (b:Int):PI (mI p b)∧(mI p b).out.length≤p.out.length+1:=by
 unfold mI
 cases p.order.mU with
 | true=>exact ⟨⟨h.di,fun _=>hr,h.nu,h.n0,h.n1,h.tx⟩,Nat.le_succ _⟩
 | false =>
  cases p.order.some with
  | true=>exact ⟨⟨h.di,fun _=>hr,wm h.nu,Int.le_refl 0,show (0:Int)≤9999 from by decide,h.tx⟩,by simp⟩
  | false=>exact ⟨⟨h.di,fun _=>hr,h.nu,h.n0,h.n1,h.tx⟩,by simp⟩
theorem DY {p:aH} (h:PI p) (hr:p.cK=d0) {b:Int} (h0:0≤b):PI (lz p b)∧(lz p b).out.length≤p.out.length+1:=by
 unfold lz
 split
 ·exact s8 h hr b
 ·split
  ·exact GM (p:=⟨p.state,Lv p.order,p.text,p.cK,p.out⟩) ⟨h.di,fun _=>hr,h.nu,h.n0,h.n1,h.tx⟩ hr b
  ·refine ⟨⟨h.di,fun _=>hr,?_,?_,?_,h.tx⟩,Nat.le_succ _⟩
   all_goals (dsimp only; unfold qg; split)
   ·exact h.nu
   ·split
    ·exact wm h.nu
    ·split <;> exact h.nu
   ·rename_i hh
    have:=h.n0
    unfold eN
    dsimp only
    split <;> omega
   ·split
    ·exact Int.le_refl 0
    ·split <;> exact h.n0
   ·rename_i hh
    unfold eN
    dsimp only
    split <;> omega
   ·split
    ·show (0:Int)≤9999; decide
    ·split <;> exact h.n1
theorem Fm {p:aH} (h:PI p) (hr:p.cK=d0):PI (ov p)∧(ov p).out.length≤p.out.length+1:=⟨⟨h.di,fun _=>hr,h.nu,h.n0,h.n1,h.tx⟩,by have:=Lz p.text; simp [ov]; omega⟩
theorem I4 {p:aH} (h:PI p) (hr:p.cK=d0) (b:Int):PI (ot p b)∧(ot p b).out.length≤p.out.length+1:=by
 unfold ot
 split
 ·exact Fm h hr
 ·split
  ·exact ⟨⟨h.di,fun _=>hr,h.nu,h.n0,h.n1,h.tx⟩,Nat.le_succ _⟩
  ·split
   ·exact ⟨⟨h.di,fun _=>hr,h.nu,h.n0,h.n1,h.tx⟩,Nat.le_succ _⟩
   ·split
    ·rename_i ht
     refine ⟨⟨h.di,fun _=>hr,h.nu,h.n0,h.n1,?_⟩,Nat.le_succ _⟩
     dsimp only
     have e:(p.text++gZ [b]).size=p.text.size+1:=by rw [← bD,oV,List.length_append,bD,bD,lH]; rfl
     omega
    ·exact ⟨h,Nat.le_succ _⟩
theorem DZ {p:aH} (h:PI p) {b:Int} (h0:0≤b) (h1:b < 256):PI (qh p b)∧(qh p b).out.length≤p.out.length+2:=by
 unfold qh
 split
 ·rename_i hs; exact GL h hs h0 h1
 ·rename_i hs
  have hr:=h.gr hs
  have up: ∀ q:aH,PI q∧q.out.length≤p.out.length+1→PI q∧q.out.length≤p.out.length+2:=fun q hq=>⟨hq.1,by omega⟩
  split
  ·exact up _ (z6 h hr b)
  ·split
   ·exact up _ (LB h hr b)
   ·split
    ·exact up _ (DY h hr h0)
    ·split
     ·exact up _ (I4 h hr b)
     ·split
      ·exact up _ (Fm h hr)
      ·exact up _ (z6 (p:=stP p 1) ⟨h.di,fun _=>hr,h.nu,h.n0,h.n1,h.tx⟩ hr b)
theorem s9: ∀ (bs:List Int) {p:aH},PI p→(∀ b∈bs,0≤b∧b < 256)→PI (prun p bs)∧(prun p bs).out.length≤p.out.length+2*bs.length
 | [],p,h,_=>⟨h,by simp [prun]⟩
 | b::bs,p,h,hb=>by
  obtain ⟨b0,b1⟩:=hb b List.mem_cons_self
  obtain ⟨k1,k2⟩:=DZ h b0 b1
  obtain ⟨k3,k4⟩:=s9 bs k1 fun x hx=>hb x (List.mem_cons_of_mem _ hx)
  exact ⟨k3,by show (prun (qh p b) bs).out.length≤_; simp; omega⟩
theorem LC {p:aH} (h:PI p) {s:ByteArray} (hs:s.size≤400000):ka p s=some ((prun (clr p) (sbs s)).out,clr (prun (clr p) (sbs s))):=by
 unfold ka
 have hc:PI (clr p):=⟨h.di,h.gr,h.nu,h.n0,h.n1,h.tx⟩
 refine okE (dT (P:=fun y=>y=prun (clr p) (sbs s)) ?_ fun r hr=>by subst hr; exact cA rfl)
 refine sV (fun z:aH×Int=>0≤z.2∧z.2≤s.size∧z.1=prun (clr p) ((sbs s).take z.2.toNat)) (fun z=>s.size - z.2.toNat) ⟨Int.le_refl 0,by dsimp only; omega,rfl⟩ ?_
 rintro ⟨q,i⟩ ⟨h0,h1,h2⟩
 dsimp only at h0 h1 h2 ⊢
 subst h2
 have hby: ∀ b∈(sbs s).take i.toNat,0≤b∧b < 256:=fun b hb=>ly s b (List.mem_of_mem_take hb)
 obtain ⟨k1,k2⟩:=s9 _ hc hby
 refine uY (fun hi=> ?_) fun hi=>cA (by rw [List.take_of_length_le (by rw [bD]; omega)])
 refine dT (IS h0 hi) fun b hb=> ?_
 obtain ⟨⟨b0,b1⟩,hbd⟩:=hb
 have hlen:((sbs s).take i.toNat).length=i.toNat:=by rw [List.length_take,bD]; omega
 have hco:(clr p).out.length=0:=rfl
 rw [LA k1 (by omega) b0 b1,w64 (by omega) (by omega)]
 refine cA ⟨⟨by dsimp only; omega,by dsimp only; omega,?_⟩,by dsimp only; omega⟩
 dsimp only
 have ht:(sbs s).take (i+1).toNat=(sbs s).take i.toNat++[b]:=by
  rw [show (i+1).toNat=i.toNat+1 by omega,List.take_add_one]
  congr 1
  have:=congrArg (fun l=>l[0]?) hbd
  simp only [List.getElem?_drop,Nat.add_zero,List.getElem?_cons_zero] at this
  rw [this]
  rfl
 rw [ht,Cn]
 rfl
end Go.Tw.X
set_option linter.unusedVariables false
set_option linter.unusedSimpArgs false
set_option maxHeartbeats 1000000
namespace Go.Tw.X
open Go Go.Tw
def tA (a:aZ):k6:=⟨a.kind,a.rune,a.byte,a.eE,a.bH,a.text⟩
def I5 (o:fE):fE:=if o.some then wX o else o
def D1 (o:fE) (b:Int):List aZ:=if o.mU then [] else [cmA (I5 o) b]
theorem z7 (p:aH) (b:Int):(mI p b).out=p.out++D1 p.order b:=by
 unfold mI D1 I5
 cases p.order.mU <;> simp [stP]
end Go.Tw.X
set_option linter.unusedVariables false
set_option linter.unusedSimpArgs false
set_option maxHeartbeats 2000000
namespace Go.Tw.X
open Go Go.Tw
def p0:aH:=⟨0,o0,ByteArray.mk #[],d0,[]⟩
theorem Mk:PI p0:=⟨DI0,fun h=>absurd rfl h,by simp [p0,o0],by simp [p0,o0],by simp [p0,o0],by simp [p0,ByteArray.size]⟩
theorem Co (o:fE) (b:Int):D1 (Lv o) b=D1 o b:=by
 unfold D1 I5 Lv wX
 cases o.some <;> rfl
end Go.Tw.X
set_option linter.unusedVariables false
set_option linter.unusedSimpArgs false
set_option maxHeartbeats 1000000
namespace Go.Tw.X
open Go Go.Tw
def aOk (a:aZ):Prop:=rok a.rune∧0≤a.byte∧a.byte < 256∧a.bH.length≤16
def sj (l:List aZ):Prop:= ∀ a∈l,aOk a
theorem qi {a b:List aZ} (ha:sj a) (hb:sj b):sj (a++b):=fun x h=>(List.mem_append.1 h).elim (ha x) (hb x)
theorem u7 {a:aZ} (h:aOk a):sj [a]:=fun x hx=>by rw [List.mem_singleton.1 hx]; exact h
theorem Fo {l:List Int} (h:Ns l):sj (l.map prA):=fun x hx=>by
 obtain ⟨r,hr,rfl⟩:=List.mem_map.1 hx
 exact ⟨h r hr,by show (0:Int)≤0; decide,by show (0:Int) < 256; decide,by show 0≤16; decide⟩
theorem I6 (t:ByteArray):sj (ttl t):=by
 have hz:rok 0:=⟨by decide,by decide⟩
 unfold ttl
 split
 ·split
  ·exact u7 ⟨hz,by show (0:Int)≤0; decide,by show (0:Int) < 256; decide,by show 0≤16; decide⟩
  ·exact fun x hx=>by cases hx
 ·exact fun x hx=>by cases hx
theorem td {p:aH} (h:sj p.out) {b:Int} (h0:0≤b) (h1:b < 256):sj (fB p b).2.out:=by
 have hz:rok 0:=⟨by decide,by decide⟩
 unfold fB
 split
 ·exact h
 ·split
  ·exact h
  ·split
   ·exact qi h (u7 ⟨hz,h0,h1,by show 0≤16; decide⟩)
   ·exact h
theorem Nv {p:aH} (hp:PI p) (h:sj p.out) {b:Int} (h0:0≤b) (h1:b < 256):sj (qh p b).out:=by
 have hz:rok 0:=⟨by decide,by decide⟩
 have hesc: ∀ q:aH,sj q.out→sj (kI q b).out:=fun q hq=>by
  unfold kI
  split
  ·exact td hq h0 h1
  ·repeat' split
   all_goals first | exact hq | exact qi hq (u7 ⟨hz,h0,h1,by show 0≤16; decide⟩)
 have hov: ∀ q:aH,sj q.out→sj (ov q).out:=fun q hq=>qi hq (I6 _)
 unfold qh
 split
 ·unfold mH
  split
  ·refine td (qi h (Fo fun x hx=> ?_)) h0 h1
   unfold yD at hx
   split at hx
   ·cases hx
   ·rw [List.mem_singleton.1 hx]; exact ⟨by decide,by decide⟩
  ·exact qi h (Fo (yC hp.di h0 h1).2.2.2)
 ·split
  ·exact hesc p h
  ·split
   ·unfold rk
    split
    ·exact td h h0 h1
    ·split <;> exact h
   ·split
    ·unfold lz
     split
     ·exact td h h0 h1
     ·split
      ·rw [z7,Co]
       refine qi h ?_
       unfold D1
       split
       ·exact fun x hx=>by cases hx
       ·refine u7 ⟨hz,h0,h1,?_⟩
        show (I5 p.order).bH.length≤16
        unfold I5
        split
        ·exact wm hp.nu
        ·exact hp.nu
      ·exact h
    ·split
     ·unfold ot
      repeat' split
      all_goals first | exact h | exact hov p h
     ·split
      ·exact hov p h
      ·exact hesc (stP p 1) h
theorem A9: ∀ (bs:List Int) {p:aH},PI p→sj p.out→(∀ b∈bs,0≤b∧b < 256)→sj (prun p bs).out
 | [],p,_,h,_=>h
 | b::bs,p,hp,h,hb=>by
  obtain ⟨b0,b1⟩:=hb b List.mem_cons_self
  exact A9 bs (DZ hp b0 b1).1 (Nv hp h b0 b1) fun x hx=>hb x (List.mem_cons_of_mem _ hx)
theorem Nw {a:aZ} (h:aOk a):uv (tA a)=a∧okA (tA a):=by
 obtain ⟨h1,h2,h3,h4⟩:=h
 refine ⟨?_,h1,h2,h3,by show a.bH.length≤18; omega⟩
 have w8:IntKind.u8.wrap a.byte=a.byte:=by simp [IntKind.wrap,IntKind.bits,IntKind.signed]; omega
 unfold uv tA
 simp only [GD h1,w8]
end Go.Tw.X
set_option linter.unusedVariables false
set_option linter.unusedSimpArgs false
set_option maxHeartbeats 1000000
namespace Go.Tw.X
open Go Go.Tw
theorem wo: ∀ (n:Nat) (l:List aG),∀ x∈rj n l,x∈l
 | 0,l,x,h=>h
 | n+1,l,x,h=>by
  unfold rj at h
  split at h
  ·exact List.dropLast_subset l (wo n _ x h)
  ·exact h
theorem I7 {r:aE} {g:aJ} (h:g∈oP r): ∃ c∈r.cells,g.rune=c.rune:=by
 unfold oP ue at h
 obtain ⟨c,hc,rfl⟩:=List.mem_map.1 h
 have hc2:=(List.mem_filter.1 hc).1
 split at hc2
 ·exact ⟨c,hc2,rfl⟩
 ·exact ⟨c,wo _ _ c hc2,rfl⟩
def kF (W:Nat) (y:aB×(List (List aJ)×List aJ)) (a:aZ):aB×(List (List aJ)×List aJ):=(acS W y.1 a,(acF W y.1 a).foldl rC y.2)
theorem u9 {W:Nat} {r:aE} (h:gok W r) (hW:W≤1000):B1 r:=⟨by rw [h.1]; exact hW,fun g hg=>by
 obtain ⟨c,hc,e⟩:=I7 hg
 rw [e]
 exact h.2 c hc⟩
end Go.Tw.X
set_option linter.unusedVariables false
set_option linter.unusedSimpArgs false
set_option maxHeartbeats 1000000
namespace Go.Tw.X
open Go Go.Tw
theorem I8 {W k:Nat} {y:aB×(List (List aJ)×List aJ)} (hs:SI W y.1) (hz:ZI k y.2) {a:aZ} (ha:aOk a):SI W (kF W y a).1∧ZI (k+4000) (kF W y a).2:=by
 have ho:=DU hs.toSJ a
 have hW:=hs.gi.w2
 have h2:=sW (acF W y.1 a) hz fun r hr=>u9 (ho.2 r hr) hW
 refine ⟨Mj hs a ha.1,?_⟩
 have h3:=ho.1
 exact ⟨by have:=h2.n; show ((acF W y.1 a).foldl rC y.2).1.length≤_; omega,h2.b,h2.g,h2.ls⟩
theorem wq {W:Nat}: ∀ (l:List aZ) {k:Nat} {y:aB×(List (List aJ)×List aJ)},SI W y.1→ZI k y.2→sj l→SI W (l.foldl (kF W) y).1∧ZI (k+4000*l.length) (l.foldl (kF W) y).2
 | [],k,y,hs,hz,_=>⟨hs,hz⟩
 | a::l,k,y,hs,hz,h=>by
  obtain ⟨h1,h2⟩:=I8 hs hz (h a List.mem_cons_self)
  have:=wq l (k:=k+4000) h1 h2 fun x hx=>h x (List.mem_cons_of_mem _ hx)
  rw [show k+4000*(a::l).length=k+4000+4000*l.length by simp; omega]
  exact this
theorem Nx {W:Nat} {s:aB} (h:SI W s) {a:aZ} (ha:aOk a):gB s a=some (acF W s a,acS W s a):=by
 obtain ⟨e,ho⟩:=Nw ha
 have:=(Lr h ho).2.2.1
 rw [e] at this
 exact this
theorem LD {W k:Nat} {m:bA} {z:List (List aJ)×List aJ} (hs:SI W m.aR) (hz:ZI k z) (hp:PI m.parser) {t:ByteArray} (ht:t.size≤1000) (hk:k≤50000000) :
  jk (fun a c=>(Option.bind (jb a c) fun d=>some (d.2,true))) (fT z) m t=some (fT ((prun (clr m.parser) (sbs t)).out.foldl (kF W) (m.aR,z)).2,⟨m.book,clr (prun (clr m.parser) (sbs t)),((prun (clr m.parser) (sbs t)).out.foldl (kF W) (m.aR,z)).1,m.k⟩):=by
 unfold jk
 rw [LC hp (by omega),Option.bind_some]
 have hc:PI (clr m.parser):=⟨hp.di,hp.gr,hp.nu,hp.n0,hp.n1,hp.tx⟩
 have hpr:=s9 (sbs t) hc (ly t)
 have has:=A9 (sbs t) hc (fun x hx=>by cases hx) (ly t)
 have hlen:=hpr.2
 rw [bD] at hlen
 have hc0:(clr m.parser).out.length=0:=rfl
 generalize prun (clr m.parser) (sbs t)=q at hpr has hlen
 dsimp only
 refine okE (dT (P:=fun | .inl y=>y=(((q.out.foldl (kF W) (m.aR,z)).1,fT (q.out.foldl (kF W) (m.aR,z)).2):aB×cC) | .inr _=>False) ?_ ?_)
 ·refine sV (fun y:aB×Int×cC=>0≤y.2.1∧y.2.1≤q.out.length∧y.1=((q.out.take y.2.1.toNat).foldl (kF W) (m.aR,z)).1∧y.2.2=fT ((q.out.take y.2.1.toNat).foldl (kF W) (m.aR,z)).2) (fun y=>q.out.length - y.2.1.toNat) ⟨Int.le_refl 0,by dsimp only; omega,rfl,rfl⟩ ?_
  rintro ⟨s,i,b⟩ ⟨h0,h1,h2,h3⟩
  dsimp only at h0 h1 h2 h3 ⊢
  subst h2 h3
  refine uY (fun hi=> ?_) fun hi=> ?_
  ·obtain ⟨j,rfl⟩: ∃ j:Nat,i=j:=⟨i.toNat,by omega⟩
   have hj:j < q.out.length:=by omega
   rw [show ((j:Int)).toNat=j from rfl]
   have hst:=wq (W:=W) (q.out.take j) (k:=k) (y:=(m.aR,z)) hs hz fun x hx=>has x (List.mem_of_mem_take hx)
   rw [List.length_take] at hst
   have ha:=has q.out[j] (List.getElem_mem hj)
   have hnext:(q.out.take (j+1)).foldl (kF W) (m.aR,z)=kF W ((q.out.take j).foldl (kF W) (m.aR,z)) q.out[j]:=by
    rw [List.take_add_one,List.getElem?_eq_getElem hj,Option.toList_some,List.foldl_append]
    rfl
   generalize (q.out.take j).foldl (kF W) (m.aR,z)=y at hst hnext
   have ho:=DU hst.1.toSJ q.out[j]
   have hW:=hst.1.gi.w2
   have hol:=ho.1
   rw [dG _ j hj,Option.bind_some,Nx hst.1 ha,Option.bind_some]
   obtain ⟨r,hr1,hr2⟩:=add_eq hst.2 (rows:=acF W y.1 q.out[j]) (fun r hr=>u9 (ho.2 r hr) hW) (by omega)
   rw [hr1]
   simp only [Option.bind_some,Bool.not_true,cond_false]
   rw [w64 (by omega) (by omega)]
   refine cA ⟨⟨by dsimp only; omega,by dsimp only; omega,?_,?_⟩,by dsimp only; omega⟩
   ·dsimp only
    rw [show ((j:Int)+1).toNat=j+1 by omega,hnext]
    rfl
   ·dsimp only
    rw [show ((j:Int)+1).toNat=j+1 by omega,hnext,hr2]
    rfl
  ·refine cA ?_
   rw [List.take_of_length_le (by omega)]
 ·rintro (y | y) h
  ·subst h
   exact cA rfl
  ·exact h.elim
end Go.Tw.X
set_option linter.unusedVariables false
set_option linter.unusedSimpArgs false
set_option maxHeartbeats 1000000
namespace Go.Tw.X
open Go Go.Tw
theorem news (a t:ByteArray):(prun p0 (sbs (a++t))).out=(prun p0 (sbs a)).out++(prun (clr (prun p0 (sbs a))) (sbs t)).out∧clr (prun p0 (sbs (a++t)))=clr (prun (clr (prun p0 (sbs a))) (sbs t)):=by
 rw [oV,Cn,yF (sbs t) (prun p0 (sbs a))]
 exact ⟨rfl,rfl⟩
end Go.Tw.X
set_option linter.unusedVariables false
set_option linter.unusedSimpArgs false
set_option maxHeartbeats 1000000
namespace Go.Tw.X
open Go Go.Tw
def ru (x:Int):Prop:=0≤x∧x≤1114111
def rus (l:List Int):Prop:= ∀ x∈l,ru x
structure D2 (d:bQ):Prop where
 r0:0≤d.rune
 r3:d.jm=3→d.rune≤4∧(d.rune=4→d.lead=244)
 r2:d.jm=2→d.rune≤271
 r1:d.jm=1→d.rune≤17407
theorem D20:D2 d0:=⟨by decide,by decide,by decide,by decide⟩
theorem D3 {x:Int} (h:ru x):rus [x]:=fun y hy=>by rw [List.mem_singleton.1 hy]; exact h
theorem D4:ru 65533:=⟨by decide,by decide⟩
theorem Ny {b:Int} (h0:0≤b) (h1:b < 256):0≤zb b∧((jK b).1=3→zb b≤4∧(zb b=4→b=244))∧((jK b).1=2→zb b≤15)∧((jK b).1=1→zb b≤31):=by
 unfold zb jK
 repeat' split
 all_goals simp_all
 all_goals omega
theorem OS {b:Int} (h0:0≤b) (h1:b < 256):D2 (xk b).1∧rus (xk b).2:=by
 unfold xk
 obtain ⟨l0,l3,l2,l1⟩:=Ny h0 h1
 split
 ·exact ⟨D20,D3 ⟨h0,by omega⟩⟩
 ·split
  ·exact ⟨D20,D3 D4⟩
  ·refine ⟨⟨l0,l3,fun e=> ?_,fun e=> ?_⟩,fun x hx=>by cases hx⟩
   ·have:=l2 e; show zb b≤271; omega
   ·have:=l1 e; show zb b≤17407; omega
theorem LF {d:bQ} {b:Int} (h0:0≤b) (hn:(jK d.lead).1=d.jm) (h3:d.jm=3) (h4:d.lead=244) (hf:GG d b=true):b % 64≤15:=by
 unfold GG at hf
 rw [if_neg (by omega),h4] at hf
 have e:jK 244=(3,128,143):=by decide
 rw [e] at hf
 have:=of_decide_eq_true hf
 dsimp only at this
 omega
theorem I9 {d:bQ} (hd:DI d) (h:D2 d) {b:Int} (h0:0≤b) (h1:b < 256):D2 (tO d b).1∧rus (tO d b).2:=by
 unfold tO
 obtain ⟨k1,k2⟩:=OS h0 h1
 split
 ·exact ⟨k1,k2⟩
 ·rename_i hn
  rcases hd with rfl | ⟨l0,l1,n1,n2,r0,r3,r2,r1⟩
  ·exact absurd (by decide) hn
  have hk:=(u5 d.lead).1
  split
  ·rename_i hf
   split
   ·rename_i hn1
    have:=h.r1 hn1
    exact ⟨D20,D3 ⟨by omega,by omega⟩⟩
   ·rename_i hn1
    refine ⟨⟨by show 0≤d.rune*64+b % 64; omega,fun e=> ?_,fun e=> ?_,fun e=> ?_⟩,fun x hx=>by cases hx⟩
    ·change d.jm - 1=3 at e; omega
    ·change d.jm - 1=2 at e
     show d.rune*64+b % 64≤271
     have h3:d.jm=3:=by omega
     obtain ⟨a1,a2⟩:=h.r3 h3
     by_cases c:d.rune=4
     ·have:=LF h0 (by omega) h3 (a2 c) hf; omega
     ·omega
    ·change d.jm - 1=1 at e
     show d.rune*64+b % 64≤17407
     have:=h.r2 (by omega)
     omega
  ·refine ⟨k1,fun x hx=> ?_⟩
   rcases List.mem_cons.1 hx with rfl | hx
   ·exact D4
   ·exact k2 x hx
def aGd (a:aZ):Prop:=ru a.rune∧a.text.size≤200
def tt (l:List aZ):Prop:= ∀ a∈l,aGd a
theorem qj {a b:List aZ} (ha:tt a) (hb:tt b):tt (a++b):=fun x h=>(List.mem_append.1 h).elim (ha x) (hb x)
theorem va {a:aZ} (h:aGd a):tt [a]:=fun x hx=>by rw [List.mem_singleton.1 hx]; exact h
theorem LG:(ByteArray.mk #[]).size≤200:=by decide
theorem ru0:ru 0:=⟨by decide,by decide⟩
theorem Fp {l:List Int} (h:rus l):tt (l.map prA):=fun x hx=>by
 obtain ⟨r,hr,rfl⟩:=List.mem_map.1 hx
 exact ⟨h r hr,LG⟩
theorem Ja {t:ByteArray} (h:t.size≤200):tt (ttl t):=by
 have hg:2≤t.size→aGd (tiA t):=fun h2=>⟨ru0,by show (ie t 2 t.size).size≤200; rw [Cd _ (by omega) (by omega) (by omega)]; omega⟩
 unfold ttl
 split
 ·rename_i x y l e
  have:2≤t.size:=by have:=congrArg List.length e; rw [bD] at this; simp at this; omega
  split
  ·exact va (hg this)
  ·exact fun x hx=>by cases hx
 ·exact fun x hx=>by cases hx
theorem tf {p:aH} (h:tt p.out) (b:Int):tt (fB p b).2.out:=by
 unfold fB
 split
 ·exact h
 ·split
  ·exact h
  ·split
   ·exact qj h (va ⟨ru0,LG⟩)
   ·exact h
theorem Nz {p:aH} (hp:PI p) (hd:D2 p.cK) (h:tt p.out) {b:Int} (h0:0≤b) (h1:b < 256):tt (qh p b).out:=by
 have hesc: ∀ q:aH,tt q.out→tt (kI q b).out:=fun q hq=>by
  unfold kI
  split
  ·exact tf hq b
  ·repeat' split
   all_goals first | exact hq | exact qj hq (va ⟨ru0,LG⟩)
 have hov:tt (ov p).out:=qj h (Ja hp.tx)
 unfold qh
 split
 ·unfold mH
  split
  ·refine tf (qj h (Fp fun x hx=> ?_)) b
   unfold yD at hx
   split at hx
   ·cases hx
   ·rw [List.mem_singleton.1 hx]; exact D4
  ·exact qj h (Fp (I9 hp.di hd h0 h1).2)
 ·split
  ·exact hesc p h
  ·split
   ·unfold rk
    split
    ·exact tf h b
    ·split <;> exact h
   ·split
    ·unfold lz
     split
     ·exact tf h b
     ·split
      ·rw [z7,Co]
       refine qj h ?_
       unfold D1
       split
       ·exact fun x hx=>by cases hx
       ·exact va ⟨ru0,LG⟩
      ·exact h
    ·split
     ·unfold ot
      repeat' split
      all_goals first | exact h | exact hov
     ·split
      ·exact hov
      ·exact hesc (stP p 1) h
theorem oG (p:aH) (b:Int):(fB p b).2.cK=p.cK:=by
 unfold fB
 repeat' split
 all_goals rfl
theorem vb (p:aH) (b:Int):(kI p b).cK=p.cK:=by
 unfold kI
 split
 ·exact oG p b
 ·repeat' split
  all_goals rfl
theorem NA {p:aH} (hp:PI p) (hd:D2 p.cK) {b:Int} (h0:0≤b) (h1:b < 256):D2 (qh p b).cK:=by
 unfold qh
 split
 ·unfold mH
  split
  ·rw [oG]; exact D20
  ·exact (I9 hp.di hd h0 h1).1
 ·split
  ·rw [vb]; exact hd
  ·split
   ·unfold rk
    split
    ·rw [oG]; exact hd
    ·split <;> exact hd
   ·split
    ·unfold lz
     split
     ·rw [oG]; exact hd
     ·split
      ·unfold mI
       split <;> exact hd
      ·exact hd
    ·split
     ·unfold ot
      repeat' split
      all_goals exact hd
     ·split
      ·exact hd
      ·rw [vb]; exact hd
theorem Fq: ∀ (bs:List Int) {p:aH},PI p→D2 p.cK→tt p.out→(∀ b∈bs,0≤b∧b < 256)→tt (prun p bs).out∧D2 (prun p bs).cK
 | [],p,_,hd,h,_=>⟨h,hd⟩
 | b::bs,p,hp,hd,h,hb=>by
  obtain ⟨b0,b1⟩:=hb b List.mem_cons_self
  exact Fq bs (DZ hp b0 b1).1 (NA hp hd b0 b1) (Nz hp hd h b0 b1) fun x hx=>hb x (List.mem_cons_of_mem _ hx)
end Go.Tw.X
set_option linter.unusedVariables false
set_option linter.unusedSimpArgs false
set_option maxHeartbeats 1000000
namespace Go.Tw.X
open Go Go.Tw
def sy (x:Int):Prop:=0≤x∧x≤647
def cOk (c:aG):Prop:=ru c.rune∧sy c.aL∧0≤c.part∧c.part≤3
theorem NB {c:aG} (h:cOk c):okC c=true:=by
 obtain ⟨⟨a,b⟩,⟨d,e⟩,f,g⟩:=h
 simp [okC,okG,a,b,d,e,f,g]
theorem qR (s:bC):sy (lX s):=by
 unfold lX sy
 split
 ·unfold bN
  repeat' split
  all_goals omega
 ·omega
theorem OT:ru 32:=⟨by decide,by decide⟩
theorem xE {s:Int} (h:sy s):cOk (blk s):=⟨OT,h,by show (0:Int)≤0; decide,by show (0:Int)≤3; decide⟩
theorem sy0:sy 0:=⟨by decide,by decide⟩
def cR (l:List aG):Prop:= ∀ c∈l,cOk c
theorem NC:cR []:=fun c h=>by cases h
theorem th: ∀ (l:List aG) (p:Int),cR l→cR (ja p l)
 | [],_,_=>fun c hc=>by cases hc
 | c::r,p,h=>by
  intro d hd
  simp only [ja,List.mem_cons] at hd
  rcases hd with rfl | hd
  ·unfold vP
   cases y6 p c r with
   | true=>exact xE (h c (by simp)).2.1
   | false=>exact h c (by simp)
  ·exact th r _ (fun e he=>h e (by simp [he])) d hd
theorem yG {l:List aG} (h:cR l) (i:Nat) {c:aG} (hc:cOk c):cR (l.set i c):=by
 intro d hd
 rcases List.mem_or_eq_of_mem_set hd with hd | rfl
 ·exact h d hd
 ·exact hc
theorem ND {l:List aG} (h:cR l) (at_:Int) {s x:Int} (hx:ru x) (hs:sy s):cR (vS l at_ x s):=by
 have m: ∀ p:Int,0≤p→p≤3→cOk ⟨x,s,p⟩:=fun p a b=>⟨hx,hs,a,b⟩
 unfold vS
 split
 ·exact h
 ·split
  ·exact yG h _ (m 0 (by decide) (by decide))
  ·unfold Dh
   have h1:=yG (yG h at_.toNat (m 1 (by decide) (by decide))) (at_.toNat+1) (m 2 (by decide) (by decide))
   split
   ·rename_i c hc
    have hcm:cOk c:=by
     split at hc
     ·exact h1 c (List.mem_of_getElem? hc)
     ·cases hc
    split
    ·exact yG h1 _ (xE hcm.2.1)
    ·exact h1
   ·exact h1
theorem Ba (n:Nat) {s:Int} (h:sy s):cR (List.replicate n (blk s)):=fun c hc=>by rw [List.eq_of_mem_replicate hc]; exact xE h
theorem yH {a b:List aG} (ha:cR a) (hb:cR b):cR (a++b):=fun c hc=>(List.mem_append.1 hc).elim (ha c) (hb c)
theorem xF {a:List aG} (ha:cR a) (n:Nat):cR (a.take n):=fun c hc=>ha c (List.mem_of_mem_take hc)
theorem Fs {a:List aG} (ha:cR a) (n:Nat):cR (a.drop n):=fun c hc=>ha c (List.mem_of_mem_drop hc)
theorem yI (a b:Int) {s:Int} (hs:sy s): ∀ {l:List aG} (i:Int),cR l→cR (lg a b s i l)
 | [],_,_=>fun c hc=>by cases hc
 | c::r,i,h=>by
  intro d hd
  simp only [lg,List.mem_cons] at hd
  rcases hd with rfl | hd
  ·split
   ·exact xE hs
   ·exact h c (by simp)
  ·exact yI a b hs (i+1) (fun e he=>h e (by simp [he])) d hd
theorem LH {l:List aG} (h:cR l) {q:Int} (hq:sy q):cR (pr l q):=yG h _ ⟨OT,hq,by show (0:Int)≤3; decide,by show (3:Int)≤3; decide⟩
theorem NF {l:List aG} (h:cR l) (a n:Int) {q:Int} (hq:sy q):cR (ins l a n q):=by
 unfold ins
 split
 ·exact h
 ·exact xF (yH (yH (xF h _) (Ba _ hq)) (Fs h _)) _
theorem NG {l:List aG} (h:cR l) (a n:Int) {q:Int} (hq:sy q):cR (del l a n q):=by
 unfold del
 split
 ·exact h
 ·exact yH (yH (xF h _) (Fs h _)) (Ba _ hq)
def gR2 (l:List aE):Prop:= ∀ r∈l,cR r.cells
theorem pA {a b:List aE} (ha:gR2 a) (hb:gR2 b):gR2 (a++b):=fun c hc=>(List.mem_append.1 hc).elim (ha c) (hb c)
theorem nw {a:List aE} (ha:gR2 a) (n:Nat):gR2 (a.take n):=fun c hc=>ha c (List.mem_of_mem_take hc)
theorem oY {a:List aE} (ha:gR2 a) (n:Nat):gR2 (a.drop n):=fun c hc=>ha c (List.mem_of_mem_drop hc)
theorem xG (k W:Nat) {s:Int} (h:sy s):gR2 (List.replicate k (iT W s)):=fun c hc=>by rw [List.eq_of_mem_replicate hc]; exact Ba W h
theorem mJ:gR2 []:=fun c h=>by cases h
theorem uw {l:List aE} (h:gR2 l) (y:Int):cR (lx l y).cells:=by
 unfold lx
 split
 ·rename_i hy
  rw [List.getElem?_eq_getElem (by omega)]
  exact h _ (List.getElem_mem _)
 ·exact NC
theorem Jb (W:Nat) {r:aE} (h:cR r.cells):cR (rsz W r).cells:=by
 unfold rsz
 split
 ·exact h
 ·exact th _ _ (yH (xF h _) (Ba _ sy0))
theorem Ft (W:Nat) {l:List aE} (h:gR2 l) (y:Int) {r:aE} (hr:cR r.cells):gR2 (tq W l y r):=by
 unfold tq
 split
 ·intro q hq
  rcases List.mem_or_eq_of_mem_set hq with hq | hq
  ·exact h q hq
  ·rw [hq]; exact Jb W hr
 ·exact h
theorem Jc (W:Nat) {l:List aE} (h:gR2 l) (t b n:Int) {s:Int} (hs:sy s):gR2 (upL W l t b n s):=by
 unfold upL
 split
 ·exact h
 ·exact pA (pA (nw h _) (pA (oY (oY (nw h _) _) _) (xG _ _ hs))) (oY h _)
theorem LI {l:List aE} (h:gR2 l) (t b n:Int):gR2 (upO l t b n):=by
 unfold upO
 split
 ·exact mJ
 ·exact nw (oY (nw h _) _) _
theorem Jd (W:Nat) {l:List aE} (h:gR2 l) (t b n:Int) {s:Int} (hs:sy s):gR2 (rZ W l t b n s):=by
 unfold rZ
 split
 ·exact h
 ·exact pA (pA (nw h _) (pA (xG _ _ hs) (nw (oY (nw h _) _) _))) (oY h _)
theorem NH (W:Nat) {l:List aE} (h:gR2 l) (c H:Nat):gR2 (rzL W l c H):=by
 intro r hr
 unfold rzL at hr
 obtain ⟨q,hq,rfl⟩:=List.mem_map.1 hr
 exact Jb W (pA (nw (oY h _) _) (xG _ W sy0) q hq)
structure SC (s:aB):Prop where
 g:gR2 s.g.l
 t:s.title.size≤200
variable {W : Nat} {s : aB}
theorem dV {p:Prop} [Decidable p] {a b:aB} (ha:SC a) (hb:SC b):SC (if p then a else b):=by split <;> assumption
theorem ll {p:Prop} [Decidable p] {a b:List aE} (ha:gR2 a) (hb:gR2 b):gR2 (if p then a else b):=by split <;> assumption
theorem oZ (h:SC s) (x y:Int):SC (mvS s x y):=⟨h.g,h.t⟩
theorem tQ (h:SC s):SC (nwS s):=⟨h.g,h.t⟩
theorem D5 (h:SC s) (x:Int):SC (xS s x):=⟨h.g,h.t⟩
theorem Fu (h:SC s) (y:Int) {r:aE} (hr:cR r.cells):SC (seS W s y r):=⟨Ft W h.g y hr,h.t⟩
theorem Ml (h:SC s) (n:Int):SC (upS W s n):=⟨Jc W h.g _ _ _ (qR _),h.t⟩
theorem NI (h:SC s) (t b n:Int):SC (upT W s t b n):=⟨Jc W h.g _ _ _ (qR _),h.t⟩
theorem Je (h:SC s) (t b n:Int):SC (dnS W s t b n):=⟨Jd W h.g _ _ _ (qR _),h.t⟩
theorem Fv (h:SC s) (n:Int):gR2 (upF s n):=ll mJ (LI h.g _ _ _)
theorem Cp (h:SC s):SC (liS W s):=dV (Ml (tQ h) 1) (oZ (tQ h) _ _)
theorem yJ (h:SC s):gR2 (liF s):=ll (Fv (tQ h) 1) mJ
theorem OU (h:SC s):cR (r2S s).cells:=th _ _ (LH (uw h.g _) (qR _))
theorem OV (h:SC s) {r:Int} (hr:ru r):cR (r3S s r).cells:=th _ _ (ND (uw h.g _) _ hr (qR _))
theorem PU (h:SC s):SC (aS W s)∧gR2 (aF W s):=by
 have k:SC (xS (seS W s s.spot.y (r1S s)) 0):=D5 (Fu h _ (r:=r1S s) (uw h.g _)) 0
 exact ⟨dV (Cp k) h,ll (yJ k) mJ⟩
theorem PV (h:SC s) (n:Int):SC (bS W s n)∧gR2 (bF W s n):=by
 have k:SC (xS (seS W s s.spot.y (r2S s)) 0):=D5 (Fu h _ (OU h)) 0
 exact ⟨dV (dV (Cp k) (D5 h _)) h,ll (ll (yJ k) mJ) mJ⟩
theorem OW (h:SC s) {r:Int} (hr:ru r):SC (prS W s r)∧gR2 (prF W s r):=by
 obtain ⟨a1,a2⟩:=PU (W:=W) h
 obtain ⟨b1,b2⟩:=PV (W:=W) a1 (ofS r)
 exact ⟨dV h ⟨Ft W b1.g _ (OV b1 hr),b1.t⟩,ll mJ (pA a2 b2)⟩
theorem OX (h:SC s) (b:Int):SC (ctS W s b)∧gR2 (ctF s b) :=
 ⟨dV (oZ h _ _) (dV (oZ h _ _) (dV (Cp h) (dV (oZ h _ _) h))),ll (yJ h) mJ⟩
theorem OY (h:SC s):SC (baS W s):=dV (Je (tQ h) _ _ _) (oZ (tQ h) _ _)
theorem Fw (w h:Int):SC (za w h):=⟨xG _ _ sy0,by show (ByteArray.mk #[]).size≤200; decide⟩
theorem OZ (h:SC s) (b:Int):SC (esS W s b)∧gR2 (esF s b) :=
 ⟨dV (Cp (D5 h 0)) (dV (Cp h) (dV (OY h) (dV ⟨h.g,h.t⟩ (dV (oZ (s:=e8S s) ⟨h.g,h.t⟩ _ _) (dV (Fw _ _) h))))),ll (yJ (D5 h 0)) (ll (yJ h) mJ)⟩
theorem Mm (h:SC s) (y a b:Int):SC (erS W s y a b):=Fu h y (th _ _ (yI _ _ (qR _) _ (uw h.g _)))
theorem O0 (h:SC s) (n:Int):SC (paS W s n):=dV h (tQ (Mm h _ _ _))
theorem Jf (h:SC s) (n:Int): ∀ k,SC (wpS W s n k)
 | 0=>h
 | k+1=>by
  unfold wpS
  split
  ·exact Mm (Jf h n k) _ _ _
  ·exact Jf h n k
theorem Fy (h:SC s) (n:Int):SC (clS s n):=oZ h _ _
theorem Jg (h:SC s) (n:Int) (all:Bool):SC (Ca W s n all):=O0 (dV (Jf h _ _) h) n
theorem Jh {p:Prop} [Decidable p] {a b:List aG} (ha:cR a) (hb:cR b):cR (if p then a else b):=by split <;> assumption
theorem O1 (h:SC s) (b n:Int):SC (ceS W s b n) :=
 tQ (Fu h _ (th _ _ (Jh (NF (uw h.g _) _ _ (qR _)) (Jh (NG (uw h.g _) _ _ (qR _)) (yI _ _ (qR _) _ (uw h.g _))))))
theorem O2 (h:SC s) (b n:Int):SC (shS W s b n):=dV h (dV (oZ (Je h _ _ _) _ _) (oZ (NI h _ _ _) _ _))
theorem O3 (h:SC s) (l:List Int):SC (reS s l):=dV (oZ (s:=rnS s (rgT s l) (rgU s l)) ⟨h.g,h.t⟩ _ _) h
theorem O4 (h:SC s) (b:Int) (l:List Int):SC (orS W s b l)∧gR2 (orF s b l):=by
 refine ⟨?_,ll (Fv (tQ h) _) mJ⟩
 unfold orS
 refine dV (Fy h _) (dV (D5 (Fy h _) 0) (dV (Fy h _) (dV (D5 (Fy h _) 0) (dV (oZ h _ _) (dV (oZ h _ _) (dV (oZ h _ _) (dV (oZ h _ _) (dV (oZ h _ _) (dV (Jg h _ _) (dV (Jg h _ _) (dV (O1 h _ _) (dV (O2 h _ _) (dV (Ml (tQ h) _) (dV (Je (tQ h) _ _ _) (dV ⟨h.g,h.t⟩ (dV (O3 h l) h))))))))))))))))
theorem O5 (h:SC s) {a:aZ} (ha:aGd a):SC (acS W s a)∧gR2 (acF W s a):=by
 obtain ⟨p1,p2⟩:=OW (W:=W) h ha.1
 obtain ⟨c1,c2⟩:=OX (W:=W) h a.byte
 obtain ⟨e1,e2⟩:=OZ (W:=W) h a.byte
 obtain ⟨o1,o2⟩:=O4 (W:=W) h a.byte a.bH
 exact ⟨dV p1 (dV c1 (dV e1 (dV (dV (dV ⟨h.g,h.t⟩ h) o1) (dV ⟨h.g,ha.2⟩ h)))),ll p2 (ll c2 (ll e2 (ll (ll mJ o2) mJ)))⟩
theorem O6 (h:SC s) (w k:Int):SC (rzS s w k)∧gR2 (rzF s k):=⟨⟨NH _ h.g _ _,h.t⟩,nw h.g _⟩
end Go.Tw.X
set_option linter.unusedVariables false
set_option linter.unusedSimpArgs false
set_option maxHeartbeats 1000000
namespace Go.Tw.X
open Go Go.Tw
def yK (k:Int) (n:Nat) (w h:Int):Int:=if k=0 then (if 1048576 < n then 3 else 0) else if k=1 then (if w < 1∨w > 1000∨h < 1∨h > 1000 then 6 else 0) else 5
theorem LJ (w h:Int):((bif (decide (w < 1)) then some true else (bif (decide (w > 1000)) then some true else (bif (decide (h < 1)) then some true else some (decide (h > 1000))))):Option Bool)=some (decide (w < 1∨w > 1000∨h < 1∨h > 1000)):=by
 by_cases a:w < 1
 ·simp [a]
 ·by_cases b:w > 1000
  ·simp [a,b]
  ·by_cases c:h < 1
   ·simp [a,b,c]
   ·simp [a,b,c]
theorem wu (e:ky):jj e=some (yK e.kind e.text.size e.w e.h):=by
 unfold jj yK
 by_cases k0:e.kind=0
 ·have e0:(e.kind == 0)=true:=by simpa using k0
  rw [if_pos k0,e0,cond_true]
  by_cases hs:1048576 < e.text.size
  ·rw [if_pos hs,decide_eq_true (by omega)]; rfl
  ·rw [if_neg hs,decide_eq_false (by omega)]; rfl
 ·have e0:(e.kind == 0)=false:=by simpa using k0
  rw [if_neg k0,e0,cond_false]
  by_cases k1:e.kind=1
  ·have e1:(e.kind == 1)=true:=by simpa using k1
   rw [if_pos k1,e1,cond_true,LJ,Option.bind_some]
   by_cases hs:e.w < 1∨e.w > 1000∨e.h < 1∨e.h > 1000
   ·rw [if_pos hs,decide_eq_true hs]; rfl
   ·rw [if_neg hs,decide_eq_false hs]; rfl
  ·have e1:(e.kind == 1)=false:=by simpa using k1
   rw [if_neg k1,e1]; rfl
end Go.Tw.X
set_option linter.unusedVariables false
set_option linter.unusedSimpArgs false
set_option maxHeartbeats 1000000
namespace Go.Tw.X
open Go Go.Tw
structure MX (W k N:Nat) (z:List (List aJ)×List aJ) (m:bA) (x:kz):Prop where
 si:SI W m.aR
 zi:ZI k z
 bk:m.book=fT z
 xs:x.s=aM m.aR
 xb:x.b=AT z
 pa:m.parser=clr (prun p0 (sbs x.all))
 ac:x.Ou=((prun p0 (sbs x.all)).out.length:Int)
 ke:m.k=x.k
 k0:0≤m.k
 kN:m.k≤N
 al:x.all.size≤1000*N
end Go.Tw.X
set_option linter.unusedVariables false
set_option linter.unusedSimpArgs false
set_option maxHeartbeats 1000000
namespace Go.Tw.X
open Go Go.Tw
theorem Ji {W k N:Nat} {z:List (List aJ)×List aJ} {m:bA} {x:kz} (h:MX W k N z m x) {t:ByteArray} (ht:t.size≤1000) :
  MX W (k+8000*t.size) (N+1) ((prun m.parser (sbs t)).out.foldl (kF W) (m.aR,z)).2 ⟨fT ((prun m.parser (sbs t)).out.foldl (kF W) (m.aR,z)).2,clr (prun m.parser (sbs t)),((prun m.parser (sbs t)).out.foldl (kF W) (m.aR,z)).1,m.k+1⟩ ⟨aM ((prun m.parser (sbs t)).out.foldl (kF W) (m.aR,z)).1,AT ((prun m.parser (sbs t)).out.foldl (kF W) (m.aR,z)).2,x.all++t,((prun p0 (sbs (x.all++t))).out.length:Int),m.k+1⟩:=by
 have hp:PI m.parser:=by
  rw [h.pa]
  have:=(s9 (sbs x.all) Mk (ly x.all)).1
  exact ⟨this.di,this.gr,this.nu,this.n0,this.n1,this.tx⟩
 have hlen:=(s9 (sbs t) hp (ly t)).2
 have hm0:m.parser.out.length=0:=by rw [h.pa]; rfl
 rw [bD] at hlen
 have has:=A9 (sbs t) hp (by rw [h.pa]; exact fun x hx=>by cases hx) (ly t)
 have hst:=wq (W:=W) (prun m.parser (sbs t)).out (k:=k) (y:=(m.aR,z)) h.si h.zi has
 have hk0:=h.k0
 have hkN:=h.kN
 have hal:=h.al
 have hz:(x.all++t).size=x.all.size+t.size:=by rw [← bD,oV,List.length_append,bD,bD]
 have hzn:=hst.2.n
 refine ⟨hst.1,⟨by omega,hst.2.b,hst.2.g,hst.2.ls⟩,rfl,rfl,rfl,?_,rfl,rfl,by dsimp only; omega,by dsimp only; omega,by dsimp only; omega⟩
 dsimp only
 rw [(news x.all t).2,← h.pa]
end Go.Tw.X
set_option linter.unusedVariables false
set_option linter.unusedSimpArgs false
set_option maxHeartbeats 1000000
namespace Go.Tw.X
open Go Go.Tw
theorem LK (m:bA) (e:ky) (h:yK e.kind e.text.size e.w e.h≠0):dZ m e=some (yK e.kind e.text.size e.w e.h,m):=by
 unfold dZ
 have e1:(yK e.kind e.text.size e.w e.h != 0)=true:=by simpa using h
 rw [wu,Option.bind_some,e1,cond_true]
end Go.Tw.X
set_option linter.unusedVariables false
set_option linter.unusedSimpArgs false
set_option maxHeartbeats 1000000
namespace Go.Tw.X
open Go Go.Tw
def Jj (w h:Int):bA:=⟨fT ([],[]),p0,za w h,0⟩
def PW (w h:Int):kz:=⟨aM (za w h),AT ([],[]),ByteArray.mk #[],0,0⟩
theorem Fz (w h:Int):mT w h=some (Jj w h):=by
 unfold mT
 rw [show qE=some (cC.mk [] [0] []) from rfl,Option.bind_some,Fi,Option.bind_some]
 rfl
theorem NJ (w h:Int):MX (szN w) 0 0 ([],[]) (Jj w h) (PW w h) :=
 ⟨Fj w h,⟨Nat.le_refl 0,by show 0 < 1024; decide,fun x hx=>(by cases hx),fun x hx=>(by cases hx)⟩,rfl,rfl,rfl,rfl,rfl,rfl,Int.le_refl 0,Int.le_refl 0,Nat.le_refl 0⟩
theorem Jk {W k N:Nat} {z:List (List aJ)×List aJ} {m:bA} {x:kz} (h:MX W k N z m x) (hk:k≤50000000) (hN:N≤90) {t:ByteArray} {w h':Int} (hc:yK 1 t.size w h'=0) :
  dZ m ⟨1,t,w,h'⟩=some (0,⟨fT ((rzF m.aR h').foldl rC z),m.parser,rzS m.aR w h',m.k+1⟩):=by
 have hk0:=h.k0
 have hkN:=h.kN
 have ho:=IN h.si.toSJ h'
 have hW:=h.si.gi.w2
 have hol:=ho.1
 obtain ⟨r,hr1,hr2⟩:=add_eq h.zi (rows:=rzF m.aR h') (fun r hr=>u9 (ho.2 r hr) hW) (by omega)
 unfold dZ
 rw [wu]
 dsimp only
 rw [hc,Option.bind_some,show ((0:Int) != 0)=false from rfl,show ((1:Int) == 1)=true from rfl,cond_false,cond_true,GC h.si.toSJ,Option.bind_some,h.bk,hr1]
 simp only [Option.bind_some]
 rw [hr2,w64 (by omega) (by omega)]
end Go.Tw.X
set_option linter.unusedVariables false
set_option linter.unusedSimpArgs false
set_option maxHeartbeats 1000000
namespace Go.Tw.X
open Go Go.Tw
theorem LL {W k N:Nat} {z:List (List aJ)×List aJ} {m:bA} {x:kz} (h:MX W k N z m x) (w h':Int) :
  MX (szN w) (k+4000) (N+1) ((rzF m.aR h').foldl rC z) ⟨fT ((rzF m.aR h').foldl rC z),m.parser,rzS m.aR w h',m.k+1⟩ ⟨aM (rzS m.aR w h'),AT ((rzF m.aR h').foldl rC z),x.all,x.Ou,m.k+1⟩:=by
 have hk0:=h.k0
 have hkN:=h.kN
 have hal:=h.al
 have ho:=IN h.si.toSJ h'
 have hW:=h.si.gi.w2
 have hol:=ho.1
 have h2:=sW (rzF m.aR h') h.zi fun r hr=>u9 (ho.2 r hr) hW
 have h2n:=h2.n
 exact ⟨Nr h.si.toSJ w h',⟨by omega,h2.b,h2.g,h2.ls⟩,rfl,rfl,rfl,h.pa,h.ac,rfl,by dsimp only; omega,by dsimp only; omega,by dsimp only; omega⟩
end Go.Tw.X
set_option linter.unusedVariables false
set_option linter.unusedSimpArgs false
set_option maxHeartbeats 1000000
namespace Go.Tw.X
open Go Go.Tw
def gOk (g:aJ):Prop:=ru g.rune∧sy g.aL
def gls (l:List aJ):Prop:= ∀ g∈l,gOk g
theorem LM {a b:List aJ} (ha:gls a) (hb:gls b):gls (a++b):=fun c hc=>(List.mem_append.1 hc).elim (ha c) (hb c)
theorem Jl {a:List aJ} (ha:gls a) (n:Nat):gls (a.take n):=fun c hc=>ha c (List.mem_of_mem_take hc)
theorem Jm {a:List aJ} (ha:gls a) (n:Nat):gls (a.drop n):=fun c hc=>ha c (List.mem_of_mem_drop hc)
theorem FA:gls []:=fun c h=>by cases h
structure ZG (z:List (List aJ)×List aJ):Prop where
 b:gls z.2
 l: ∀ x∈z.1,gls x
theorem Jn {r:aE} (h:cR r.cells):gls (oP r):=by
 intro g hg
 unfold oP ue at hg
 obtain ⟨c,hc,rfl⟩:=List.mem_map.1 hg
 have hc2:=(List.mem_filter.1 hc).1
 have:c∈r.cells:=by
  split at hc2
  ·exact hc2
  ·exact wo _ _ c hc2
 exact ⟨(h c this).1,(h c this).2.1⟩
theorem Cq: ∀ (n:Nat) (g:List aJ),g.length≤n→gls g→gls (oq g).2 ∧ ∀ x∈(oq g).1,gls x
 | 0,g,h,hg=>by
  rw [xC (by omega)]
  exact ⟨hg,fun x hx=>by cases hx⟩
 | n+1,g,h,hg=>by
  by_cases c:1024≤g.length
  ·rw [AS c]
   obtain ⟨a,b⟩:=Cq n (g.drop 1024) (by rw [List.length_drop]; omega) (Jm hg _)
   refine ⟨a,fun x hx=> ?_⟩
   rcases List.mem_cons.1 hx with rfl | hx
   ·exact Jl hg _
   ·exact b x hx
  ·rw [xC c]
   exact ⟨hg,fun x hx=>by cases hx⟩
theorem NK {z:List (List aJ)×List aJ} (h:ZG z) {r:aE} (hr:cR r.cells):ZG (rC z r):=by
 obtain ⟨a,b⟩:=Cq _ (z.2++oP r) (Nat.le_refl _) (LM h.b (Jn hr))
 unfold rC
 dsimp only
 split
 ·exact ⟨a,fun x hx=>(List.mem_append.1 hx).elim (h.l x) (b x)⟩
 ·refine ⟨FA,fun x hx=> ?_⟩
  rcases List.mem_append.1 hx with hx | hx
  ·exact (List.mem_append.1 hx).elim (h.l x) (b x)
  ·rw [List.mem_singleton.1 hx]; exact a
theorem Bb: ∀ (rows:List aE) {z:List (List aJ)×List aJ},ZG z→gR2 rows→ZG (rows.foldl rC z)
 | [],_,h,_=>h
 | r::rows,z,h,hr=>Bb rows (NK h (hr r List.mem_cons_self)) fun q hq=>hr q (List.mem_cons_of_mem _ hq)
theorem Cr {W:Nat}: ∀ (l:List aZ) {y:aB×(List (List aJ)×List aJ)},SC y.1→ZG y.2→tt l→SC (l.foldl (kF W) y).1∧ZG (l.foldl (kF W) y).2
 | [],_,h1,h2,_=>⟨h1,h2⟩
 | a::l,y,h1,h2,h3=>by
  obtain ⟨k1,k2⟩:=O5 (W:=W) h1 (h3 a List.mem_cons_self)
  exact Cr l (y:=kF W y a) k1 (Bb _ h2 k2) fun q hq=>h3 q (List.mem_cons_of_mem _ hq)
structure MG (m:bA) (z:List (List aJ)×List aJ):Prop where
 sc:SC m.aR
 zg:ZG z
 d2:D2 m.parser.cK
theorem NL (w h:Int):MG (Jj w h) ([],[]):=⟨Fw w h,⟨FA,fun x hx=>by cases hx⟩,D20⟩
theorem Mn {W k N:Nat} {z:List (List aJ)×List aJ} {m:bA} {x:kz} (h:MX W k N z m x):PI m.parser∧m.parser.out=[]:=by
 rw [h.pa]
 have:=(s9 (sbs x.all) Mk (ly x.all)).1
 exact ⟨⟨this.di,this.gr,this.nu,this.n0,this.n1,this.tx⟩,rfl⟩
theorem Jo {W k N:Nat} {z:List (List aJ)×List aJ} {m:bA} {x:kz} (h:MX W k N z m x) (g:MG m z) (t:ByteArray) (k':Int) (b':cC) :
  MG ⟨b',clr (prun m.parser (sbs t)),((prun m.parser (sbs t)).out.foldl (kF W) (m.aR,z)).1,k'⟩ ((prun m.parser (sbs t)).out.foldl (kF W) (m.aR,z)).2:=by
 obtain ⟨hp,ho⟩:=Mn h
 obtain ⟨p1,p2⟩:=Fq (sbs t) hp g.d2 (by rw [ho]; exact fun x hx=>by cases hx) (ly t)
 obtain ⟨s1,s2⟩:=Cr (W:=W) _ (y:=(m.aR,z)) g.sc g.zg p1
 exact ⟨s1,s2,p2⟩
theorem LN {m:bA} {z:List (List aJ)×List aJ} (g:MG m z) (w h:Int) (k':Int) (b':cC):MG ⟨b',m.parser,rzS m.aR w h,k'⟩ ((rzF m.aR h).foldl rC z):=by
 obtain ⟨s1,s2⟩:=O6 g.sc w h
 exact ⟨s1,Bb _ g.zg s2,g.d2⟩
theorem D6 {W k N:Nat} {z:List (List aJ)×List aJ} {m:bA} {x:kz} (h:MX W k N z m x) (hk:k≤50000000) (hN:N≤1000000) {t:ByteArray} (ht:t.size≤1000) (w h':Int) :
  dZ m ⟨0,t,w,h'⟩=some (0,⟨fT ((prun m.parser (sbs t)).out.foldl (kF W) (m.aR,z)).2,clr (prun m.parser (sbs t)),((prun m.parser (sbs t)).out.foldl (kF W) (m.aR,z)).1,m.k+1⟩):=by
 have hp:PI m.parser:=(Mn h).1
 have hcl:clr m.parser=m.parser:=by rw [h.pa]; rfl
 have e1:=LD (m:=m) h.si h.zi hp ht hk
 rw [hcl] at e1
 have hk0:=h.k0
 have hkN:=h.kN
 unfold dZ
 rw [wu]
 have hck:yK 0 t.size w h'=0:=by unfold yK; rw [if_pos rfl,if_neg (by omega)]
 dsimp only
 rw [hck,Option.bind_some,show ((0:Int) != 0)=false from rfl,show ((0:Int) == 1)=false from rfl,cond_false,cond_false,show lL m t=some t from rfl,Option.bind_some,h.bk,e1]
 simp only [Option.bind_some]
 rw [w64 (by omega) (by omega)]
def sOf (m:bA) (z:List (List aJ)×List aJ):aI:=⟨m.k+1,m.aR.g.w,(m.aR.g.l.length:Int),m.aR.spot.x,m.aR.spot.y,m.aR.title,m.aR.g.l,(z.1.length:Int),qP z.1,z.2⟩
theorem LO {l:List aJ} (h:gls l): ∀ g∈l,rok g.rune:=fun g hg=>by
 obtain ⟨⟨a,b⟩,_⟩:=h g hg
 exact ⟨by omega,by omega⟩
section
variable {W k N : Nat} {z : List (List aJ) × List aJ} {m : bA} {x : kz}
theorem LP (l:List (List aJ)) (g:List aJ) (h:l.length≤1000000000):jX (fT (l,g)) (l.length:Int)=some (qP l):=by
 unfold jX fT
 dsimp only
 rw [dQ,gy,show max 0 (min (l.length:Int) (l.length:Int))=((l.length:Nat):Int) by omega,E9 _ _ (Nat.le_refl _),List.take_length]
 rfl
theorem Jp (h:MX W k N z m x) (hk:k≤100000000) (hN:N≤1000000):dO m=some (sOf m z,m):=by
 have hk0:=h.k0
 have hkN:=h.kN
 have hzn:=h.zi.n
 have hzb:=h.zi.b
 unfold dO sK
 rw [w64 (by omega) (by omega)]
 rw [show (aB.mk m.aR.g m.aR.spot m.aR.saved m.aR.waiting m.aR.top m.aR.aK m.aR.aX m.aR.title)=m.aR from rfl,IQ h.si.toSJ,aA]
 dsimp only
 have hr:=xv m.aR.g.w m.aR.g.l (by have:=h.si.gi.l2; omega) h.si.gi.len
 rw [show (aW.mk m.aR.g.w m.aR.g.l)=m.aR.g from rfl] at hr
 rw [show jM (aB.mk m.aR.g m.aR.spot m.aR.saved m.aR.waiting m.aR.top m.aR.aK m.aR.aX m.aR.title)=some m.aR.title from rfl,aA,hr,aA]
 rw [h.bk,show ∀ b,lr b=some (b.l.length:Int) from fun b=>rfl,aA,aA]
 dsimp only
 have hc:=LP z.1 z.2 (by omega)
 rw [show (fT z).l=z.1 from rfl,show fT (z.1,z.2)=fT z from rfl] at *
 rw [hc,aA]
 have hb:jY (fT z)=some z.2:=by
  unfold jY
  rw [wc _ (by show z.2.length≤_; omega)]
  rfl
 rw [hb,aA,show ∀ g,dY g=some (g.w,(g.l.length:Int)) from fun g=>rfl,aA,show ∀ s,jt s=some (s.spot.x,s.spot.y) from fun s=>rfl,aA,aA,← h.bk]
 rfl
theorem NM (h:MX W k N z m x) (g:MG m z):SW (sOf m z):=by
 have h1:=h.si.gi.w2
 have h2:=h.si.gi.l2
 have h3:=h.si.gw
 have h4:=h.zi.b
 have h5:=g.sc.t
 refine ⟨?_,?_,LO g.zg.b,fun r hr=> ?_,h2,by show z.2.length≤2000; omega,by show m.aR.title.size≤1000; omega⟩
 ·show -9223372036854775808≤m.aR.g.w∧m.aR.g.w≤9223372036854775807
  omega
 ·show -9223372036854775808≤(m.aR.g.l.length:Int)∧(m.aR.g.l.length:Int)≤9223372036854775807
  omega
 ·have hg:=h.si.gi.rs r hr
  exact ⟨hg.2,by have:=hg.1; omega⟩
theorem LQ (h:MX W k N z m x) (g:MG m z) (hk:k≤100000000) (hN:N≤1000000):nC (sOf m z)=true:=by
 have h1:=h.si.gi.w1
 have h1':=h.si.gi.w2
 have h2:=h.si.gi.l1
 have h2':=h.si.gi.l2
 have h3:=h.si.gw
 have h4:=h.zi.b
 have h5:=g.sc.t
 have h6:=zW z.1
 have h7:=h.zi.n
 have hk0:=h.k0
 have hkN:=h.kN
 have a1:=h.si.x0
 have a2:=h.si.x1
 have a3:=h.si.y0
 have a4:=h.si.y1
 have hch:chM=281474976710597:=rfl
 unfold nC
 rw [Bool.or_eq_true]
 right
 have e1:uj (sOf m z)=true:=by
  unfold uj wi sOf
  simp only [Bool.and_eq_true,decide_eq_true_eq,beq_iff_eq]
  repeat' apply And.intro
  all_goals first | trivial | omega
 have e2:((sOf m z).begun.all fun g=>okG g.rune g.aL)=true:=by
  rw [List.all_eq_true]
  intro q hq
  obtain ⟨⟨b1,b2⟩,b3,b4⟩:=g.zg.b q hq
  simp [okG,b1,b2,b3,b4]
 have e3:(sOf m z).rows.all (sd (sOf m z).w)=true:=by
  rw [List.all_eq_true]
  intro r hr
  have hg:=h.si.gi.rs r hr
  unfold sd
  rw [Bool.and_eq_true]
  refine ⟨?_,?_⟩
  ·show ((r.cells.length:Int) == m.aR.g.w)=true
   rw [beq_iff_eq]
   have:=hg.1
   omega
  ·rw [List.all_eq_true]
   exact fun c hc=>NB (g.sc.g r hr c hc)
 rw [e1,e2,e3]
 rfl
end
end Go.Tw.X
set_option linter.unusedVariables false
set_option linter.unusedSimpArgs false
set_option maxHeartbeats 1000000
namespace Go.Tw.X
open Go Go.Tw
section
variable {W k N : Nat} {z : List (List aJ) × List aJ} {m : bA} {x : kz}
theorem MX.mono (h:MX W k N z m x) {k' N':Nat} (h1:k≤k') (h2:N≤N'):MX W k' N' z m x :=
 ⟨h.si,⟨by have:=h.zi.n; omega,h.zi.b,h.zi.g,h.zi.ls⟩,h.bk,h.xs,h.xb,h.pa,h.ac,h.ke,h.k0,by have:=h.kN; omega,by have:=h.al; omega⟩
end
end Go.Tw.X
set_option linter.unusedVariables false
set_option linter.unusedSimpArgs false
set_option maxHeartbeats 1000000
namespace Go.Tw.X
open Go Go.Tw
theorem FB {n:Nat} {a b:Int} (h:(n:Int) < a∧(n:Int) < b):((bif (decide ((n:Int) < a)) then some (decide ((n:Int) < b)) else some false):Option Bool)=some true:=by
 rw [decide_eq_true h.1,decide_eq_true h.2]; rfl
theorem FC {n:Nat} {a b:Int} (h: ¬ ((n:Int) < a∧(n:Int) < b)):((bif (decide ((n:Int) < a)) then some (decide ((n:Int) < b)) else some false):Option Bool)=some false:=by
 by_cases c:(n:Int) < a
 ·rw [decide_eq_true c,decide_eq_false (by omega: ¬ (n:Int) < b)]; rfl
 ·rw [decide_eq_false c]; rfl
theorem LR {a:Int}:(a != a)=false:=by simp
end Go.Tw.X
set_option linter.unusedVariables false
set_option linter.unusedSimpArgs false
set_option maxHeartbeats 1000000
namespace Go.Tw.X
open Go Go.Tw
structure HN (n:Nat) (s:aB):Prop where
 e:s.g.l.length=n
 l:1≤n
 u:n≤1000
variable {W n : Nat} {s : aB}
theorem dW {p:Prop} [Decidable p] {a b:aB} (ha:HN n a) (hb:HN n b):HN n (if p then a else b):=by split <;> assumption
theorem HN.g1 (h:HN n s):1≤s.g.l.length:=by rw [h.e]; exact h.l
theorem o3 (h:HN n s) (x y:Int):HN n (mvS s x y):=⟨h.e,h.l,h.u⟩
theorem wZ (h:HN n s):HN n (nwS s):=⟨h.e,h.l,h.u⟩
theorem GN (h:HN n s) (x:Int):HN n (xS s x):=⟨h.e,h.l,h.u⟩
theorem FD (h:HN n s) (y:Int) (r:aE):HN n (seS W s y r):=⟨by simp only [seS,ko]; exact h.e,h.l,h.u⟩
theorem Mo (h:HN n s) (k:Int):HN n (upS W s k):=⟨by simp only [upS,sZ _ _ _ _ _ _ h.g1]; exact h.e,h.l,h.u⟩
theorem NN (h:HN n s) (t b k:Int):HN n (upT W s t b k):=⟨by simp only [upT,sZ _ _ _ _ _ _ h.g1]; exact h.e,h.l,h.u⟩
theorem Jq (h:HN n s) (t b k:Int):HN n (dnS W s t b k):=⟨by simp only [dnS,wh _ _ _ _ _ _ h.g1]; exact h.e,h.l,h.u⟩
theorem Cs (h:HN n s):HN n (liS W s):=dW (Mo (wZ h) 1) (o3 (wZ h) _ _)
theorem PX (h:HN n s):HN n (aS W s):=dW (Cs (GN (FD h _ _) 0)) h
theorem PY (h:HN n s) (k:Int):HN n (bS W s k):=dW (dW (Cs (GN (FD h _ _) 0)) (GN h _)) h
theorem O7 (h:HN n s) (r:Int):HN n (prS W s r):=by
 have b1:=PY (W:=W) (PX (W:=W) h) (ofS r)
 exact dW h ⟨by simp only [cS,ko]; exact b1.e,h.l,h.u⟩
theorem O8 (h:HN n s) (b:Int):HN n (ctS W s b):=dW (o3 h _ _) (dW (o3 h _ _) (dW (Cs h) (dW (o3 h _ _) h)))
theorem O9 (h:HN n s):HN n (baS W s):=dW (Jq (wZ h) _ _ _) (o3 (wZ h) _ _)
theorem LS (w:Int) (h:HN n s):HN n (za w s.g.l.length):=⟨by
 show (List.replicate (szN (s.g.l.length:Int)) (iT (szN w) 0)).length=n
 rw [List.length_replicate,h.e]
 exact HG n h.l h.u,h.l,h.u⟩
theorem Pa (h:HN n s) (b:Int):HN n (esS W s b) :=
 dW (Cs (GN h 0)) (dW (Cs h) (dW (O9 h) (dW ⟨h.e,h.l,h.u⟩ (dW (o3 (s:=e8S s) ⟨h.e,h.l,h.u⟩ _ _) (dW (LS _ h) h)))))
theorem Mq (h:HN n s) (y a b:Int):HN n (erS W s y a b):=FD h y _
theorem Pb (h:HN n s) (k:Int):HN n (paS W s k):=dW h (wZ (Mq h _ _ _))
theorem Jr (h:HN n s) (i:Int): ∀ k,HN n (wpS W s i k)
 | 0=>h
 | k+1=>by
  unfold wpS
  split
  ·exact Mq (Jr h i k) _ _ _
  ·exact Jr h i k
theorem FE (h:HN n s) (k:Int):HN n (clS s k):=o3 h _ _
theorem Js (h:HN n s) (k:Int) (all:Bool):HN n (Ca W s k all):=Pb (dW (Jr h _ _) h) k
theorem Pc (h:HN n s) (b k:Int):HN n (ceS W s b k):=wZ (FD h _ _)
theorem Pd (h:HN n s) (b k:Int):HN n (shS W s b k):=dW h (dW (o3 (Jq h _ _ _) _ _) (o3 (NN h _ _ _) _ _))
theorem Pe (h:HN n s) (l:List Int):HN n (reS s l):=dW (o3 (s:=rnS s (rgT s l) (rgU s l)) ⟨h.e,h.l,h.u⟩ _ _) h
theorem Pf (h:HN n s) (b:Int) (l:List Int):HN n (orS W s b l):=by
 unfold orS
 refine dW (FE h _) (dW (GN (FE h _) 0) (dW (FE h _) (dW (GN (FE h _) 0) (dW (o3 h _ _) (dW (o3 h _ _) (dW (o3 h _ _) (dW (o3 h _ _) (dW (o3 h _ _) (dW (Js h _ _) (dW (Js h _ _) (dW (Pc h _ _) (dW (Pd h _ _) (dW (Mo (wZ h) _) (dW (Jq (wZ h) _ _ _) (dW ⟨h.e,h.l,h.u⟩ (dW (Pe h l) h))))))))))))))))
theorem Ph (h:HN n s) (a:aZ):HN n (acS W s a) :=
 dW (O7 h _) (dW (O8 h _) (dW (Pa h _) (dW (dW (dW ⟨h.e,h.l,h.u⟩ h) (Pf h _ _)) (dW ⟨h.e,h.l,h.u⟩ h))))
theorem Ct: ∀ (l:List aZ) {y:aB×(List (List aJ)×List aJ)},HN n y.1→HN n (l.foldl (kF W) y).1
 | [],_,h=>h
 | a::l,y,h=>Ct l (y:=kF W y a) (Ph h a)
end Go.Tw.X
set_option linter.unusedVariables false
set_option linter.unusedSimpArgs false
set_option maxHeartbeats 1000000
namespace Go.Tw.X
open Go Go.Tw
abbrev Zt:=List (List aJ)×List aJ
end Go.Tw.X
set_option linter.unusedVariables false
set_option linter.unusedSimpArgs false
namespace Go.Tw.X
open Go Go.Tw
theorem vd (s:aI) (y:Nat) (h:y < s.rows.length):iF s (y:Int)=some (s.rows[y],true):=by
 unfold iF
 rw [decide_eq_false (show ¬ ((y:Int) < 0) by omega),cond_false,aA,decide_eq_false (show ¬ ((y:Int)≥(s.rows.length:Int)) by omega),cond_false,dG _ _ h,aA]
theorem wv (s:aI) (y:Nat) (h: ¬ y < s.rows.length):iF s (y:Int)=some (AG,false):=by
 unfold iF
 rw [decide_eq_false (show ¬ ((y:Int) < 0) by omega),cond_false,aA,decide_eq_true (show ((y:Int)≥(s.rows.length:Int)) by omega),cond_true]
 rfl
theorem ve {σ:Type} (Y:σ→(Int×aE)→Option (σ×Bool)) (S:Nat→σ) (a b:aI) (hl:b.rows.length≤1000000) (hr: ∀ r∈a.rows,r.cells.length≤1000000)
  (h: ∀ i (hi:i < b.rows.length),if a.rows[i]?=some b.rows[i] then S (i+1)=S i else Y (S i) ((i:Int),b.rows[i])=some (S (i+1),true)) :
  gX Y (S 0) b a=some (S b.rows.length):=by
 unfold gX
 refine gA (S:=fun i=>((i:Int),S i)) (n:=b.rows.length) (r:= .inl (S b.rows.length)) rfl ?_ ?_ rfl
 ·intro i hi
  dsimp only
  have hi2:=h i hi
  rw [decide_eq_true (show (i:Int) < (b.rows.length:Int) by omega),cond_true,dG _ _ hi,aA]
  by_cases ha:i < a.rows.length
  ·rw [vd a i ha,aA]
   dsimp only
   rw [cond_true,xw _ _ (hr _ (List.getElem_mem ha)),aA,aA]
   have e1:a.rows[i]?=some a.rows[i]:=List.getElem?_eq_getElem ha
   rw [e1] at hi2
   by_cases he:a.rows[i]=b.rows[i]
   ·rw [if_pos (by rw [he])] at hi2
    rw [decide_eq_true he,cond_true,aA,w64 (by omega) (by omega),hi2]
    rfl
   ·rw [if_neg (fun hh=>he (Option.some.inj hh))] at hi2
    rw [decide_eq_false he,cond_false,hi2,aA]
    dsimp only
    rw [Bool.not_true,cond_false,aA,w64 (by omega) (by omega)]
    rfl
  ·rw [wv a i ha,aA]
   dsimp only
   rw [cond_false,aA,cond_false]
   have e1:a.rows[i]?=none:=List.getElem?_eq_none (by omega)
   rw [e1,if_neg (by simp)] at hi2
   rw [hi2,aA]
   dsimp only
   rw [Bool.not_true,cond_false,aA,w64 (by omega) (by omega)]
   rfl
 ·dsimp only
  rw [decide_eq_false (by omega),cond_false]
def chN (a b:List aE):Nat→List Nat
 | 0=>[]
 | i+1=>if a[i]?=b[i]? then chN a b i else chN a b i++[i]
theorem o4 (a b:List aE) (i:Nat):chN a b (i+1)=if a[i]?=b[i]? then chN a b i else chN a b i++[i]:=rfl
def ints (l:List Nat):List Int:=l.map fun y:Nat=>(y:Int)
theorem Cu (l:List Nat):(ints l).length=l.length:=List.length_map ..
theorem GO (l:List Nat) (i:Nat):ints (l++[i])=ints l++[(i:Int)]:=by simp [ints]
def chg (a b:List aE):List Nat:=chN a b b.length
theorem Bc (a b:List aE): ∀ i,(chN a b i).length≤i
 | 0=>Nat.le_refl _
 | i+1=>by
  have:=Bc a b i
  unfold chN
  split
  ·omega
  ·simp; omega
theorem Bd (a b:List aE): ∀ i,∀ y∈chN a b i,y < i
 | 0,y,h=>by cases h
 | i+1,y,h=>by
  unfold chN at h
  split at h
  ·exact Nat.lt_succ_of_lt (Bd a b i y h)
  ·rcases List.mem_append.1 h with h | h
   ·exact Nat.lt_succ_of_lt (Bd a b i y h)
   ·rw [List.mem_singleton.1 h]; exact Nat.lt_succ_self _
theorem D7 (a b:aI) (hl:b.rows.length≤1000) (hr: ∀ r∈a.rows,r.cells.length≤1000000):lu a b=some (ints (chg a.rows b.rows)):=by
 unfold lu
 have e0:jS a b=some (b,a):=rfl
 rw [e0,aA]
 have h:=ve (σ:=List Int) (fun (s44:List Int) (x15:Int×aE)=>(Option.bind (chk (eO s44.length [x15.1].length 8)) fun _=>some ((s44++[x15.1]),true))) (fun i=>ints (chN a.rows b.rows i)) a b (by omega) hr (by
  intro i hi
  have e1:b.rows[i]?=some b.rows[i]:=List.getElem?_eq_getElem hi
  split
  ·rename_i he
   rw [o4,if_pos (he.trans e1.symm)]
  ·rename_i he
   have:=Bc a.rows b.rows i
   rw [bL (by rw [Cu]; simp; omega),aA]
   rw [o4,if_neg (fun hh=>he (Eq.trans hh e1)),GO])
 show Option.bind (gX _ (ints (chN a.rows b.rows 0)) b a) _=_
 rw [h,aA]
 rfl
end Go.Tw.X
set_option linter.unusedVariables false
set_option linter.unusedSimpArgs false
namespace Go.Tw.X
open Go Go.Tw
def pB (s:aI):Bool:=ju s || !nC s
theorem z8 {s:aI}:(mc s=noS)↔pB s=true:=by
 unfold mc pB
 constructor
 ·intro h
  split at h
  ·rename_i hb
   rcases hb with hb | hb <;> simp [hb]
  ·exact absurd h (Ie s)
 ·intro h
  rw [if_pos]
  simpa using h
theorem Cv (s:aI) (h:SW s) (hp:(s.rows.flatMap gL).length≤1000000):kh s=some (!pB s):=by
 unfold kh
 rw [E0 s h hp,aA]
 have e:((mc s).toList == (ByteArray.mk #[]).toList)=decide (mc s=noS):=uS _ noS
 rw [e]
 cases hb:pB s with
 | true=>rw [decide_eq_true (z8.2 hb)]
 | false=>rw [decide_eq_false (fun hh=>by rw [z8.1 hh] at hb; cases hb)]
def pch (b:List aE) (l:List Nat):List Int:=l.flatMap fun y:Nat=>dC (y:Int)++gL (b[y]?.getD AG)
def sn (a b:aI):List Int:=[((sf (mc a):Nat):Int),b.k,b.w,b.h,b.x,b.y].flatMap dC++(dC b.title.size++sbs b.title)++[b.len,b.chain].flatMap dC++k8 b.begun++dC ((chg a.rows b.rows).length:Int)
def qS (a b:aI):List Int:=sn a b++pch b.rows (chg a.rows b.rows)
def GP (a b:aI):Bool:= !nC a || pB b
def kq (a b:aI):ByteArray:=if GP a b then noS else gZ (qS a b)
theorem Cw (b:List aE) (l:List Nat) (i:Nat) (hi:i < b.length):pch b (l++[i])=pch b l++(dC (i:Int)++gL b[i]):=by
 unfold pch
 rw [List.flatMap_append,List.flatMap_singleton,List.getElem?_eq_getElem hi]
 rfl
theorem Be (a b:List aE): ∀ i,i≤b.length→(pch b (chN a b i)).length≤9*i+((b.take i).flatMap gL).length
 | 0,_=>by simp [chN,pch]
 | i+1,hi=>by
  have ih:=Be a b i (by omega)
  have h9:=dP (i:Int)
  rw [List.take_succ_eq_append_getElem (show i < b.length by omega),List.flatMap_append,List.flatMap_singleton,List.length_append,o4]
  split
  ·omega
  ·rw [Cw _ _ _ (by omega),List.length_append,List.length_append]
   omega
theorem Jt (a b:List aE) (hb:(b.flatMap gL).length≤12000) (hl:b.length≤1000) (i:Nat) (hi:i≤b.length):(pch b (chN a b i)).length≤21000:=by
 have h1:=Be a b i hi
 have h2:=AM b i
 omega
theorem qk (L:List Int):(L.flatMap dC).length≤9*L.length:=by
 induction L with
 | nil=>simp
 | cons a M ih =>
  rw [List.flatMap_cons,List.length_append,List.length_cons]
  have:=dP a
  omega
theorem z9 (l:List aJ):(k8 l).length≤9+18*l.length:=by
 unfold k8
 have h1:=dP (l.length:Int)
 have h2:=sT l
 rw [List.length_append]
 omega
theorem Aa (a b:aI) (h:SW b):(sn a b).length≤40000:=by
 unfold sn
 have h1:=qk [((sf (mc a):Nat):Int),b.k,b.w,b.h,b.x,b.y]
 have h2:=qk [b.len,b.chain]
 have h3:=dP (b.title.size:Int)
 have h4:=dP ((chg a.rows b.rows).length:Int)
 have h5:=z9 b.begun
 have h6:=h.bl
 have h7:=h.tl
 have h8:=bD b.title
 simp only [List.length_append,List.length_cons,List.length_nil] at h1 h2 ⊢
 omega
theorem FF (l:List aJ):BB (k8 l):=fS (jJ _) (ma fun g _=>KL g)
theorem Ju (b:List aE) (l:List Nat):BB (pch b l):=ma fun y _=>fS (jJ _) (AP _)
theorem diff_eq (a b:aI) (ha:SW a) (hb:SW b) (pa:(a.rows.flatMap gL).length≤12000) (pb:(b.rows.flatMap gL).length≤12000):m7 a b=some (kq a b):=by
 unfold m7 kq
 have hc:((Option.bind (eV a) fun c=>(bif (c != 0) then some true else (Option.bind (kh b) fun d=>some (!d)))):Option Bool)=some (GP a b):=by
  rw [uU a ha,aA,Cv b hb (by omega),aA]
  unfold GP
  cases nC a <;> cases pB b <;> rfl
 rw [hc,aA]
 cases hd:GP a b with
 | true=>rw [cond_true,if_pos rfl]; rfl
 | false =>
  rw [cond_false,if_neg (by simp),E7 a ha pa,aA]
  have har: ∀ r∈a.rows,r.cells.length≤1000000:=fun r hr=>by have:=(ha.ro r hr).2; omega
  have hrl:=hb.rl
  have htl:=hb.tl
  have hbl:=hb.bl
  have h1:=qk [((sf (mc a):Nat):Int),b.k,b.w,b.h,b.x,b.y]
  have h2:=qk [b.len,b.chain]
  have h3:=dP (b.title.size:Int)
  have h5:=z9 b.begun
  have h8:=bD b.title
  have hdl:=Aa a b hb
  simp only [List.length_cons,List.length_nil] at h1 h2
  show Option.bind (cX ⟨[]⟩ _) _=_
  rw [nr _ _ (by simp),aA,List.nil_append,BU _ _ (by omega),aA,nr _ _ (by simp only [List.length_append,List.length_cons,List.length_nil]; omega),aA,yq _ hbl hb.gl,aA,uV _ _ (by rw [lH]; simp only [List.length_append]; omega),aA,n7 _ (FF _),D7 a b hrl har,aA,nr _ _ (by simp only [List.length_append,List.length_cons,List.length_nil]; omega),aA]
  have e0:jS a b=some (b,a):=rfl
  rw [e0,aA]
  have hh:([((sf (mc a):Nat):Int),b.k,b.w,b.h,b.x,b.y].flatMap dC++(dC b.title.size++sbs b.title)++[b.len,b.chain].flatMap dC++k8 b.begun++[((ints (chg a.rows b.rows)).length:Int)].flatMap dC)=sn a b:=by
   unfold sn
   rw [Cu,List.flatMap_singleton]
  rw [hh]
  have h:=ve (σ:=cE) (fun (s376:cE) (x278:Int×aE)=>(Option.bind (cX s376 [x278.1]) fun e=>(Option.bind (jG x278.2) fun f=>(Option.bind (gM e [f]) fun g=>some (g,true))))) (fun i=>⟨sn a b++pch b.rows (chN a.rows b.rows i)⟩) a b (by omega) har (by
   intro i hi
   have e1:b.rows[i]?=some b.rows[i]:=List.getElem?_eq_getElem hi
   split
   ·rename_i he
    rw [o4,if_pos (he.trans e1.symm)]
   ·rename_i he
    have hp1:=Jt a.rows b.rows pb hrl i (by omega)
    have hro:=hb.ro _ (List.getElem_mem hi)
    have h9:=dP (i:Int)
    have hl1:=AM b.rows (i+1)
    rw [List.take_succ_eq_append_getElem hi,List.flatMap_append,List.flatMap_singleton,List.length_append] at hl1
    rw [nr _ _ (by simp only [List.length_append,List.length_cons,List.length_nil]; omega),aA,yp _ hro.2 hro.1,aA,List.flatMap_singleton,uV _ _ (by rw [lH]; simp only [List.length_append]; omega),aA,n7 _ (AP _),o4,if_neg (fun hh=>he (Eq.trans hh e1)),Cw _ _ _ hi]
    simp only [List.append_assoc])
  have e1:(⟨sn a b++pch b.rows (chN a.rows b.rows 0)⟩:cE)=⟨sn a b⟩:=by
   show (⟨sn a b++[]⟩:cE)=_
   rw [List.append_nil]
  rw [e1] at h
  rw [h,aA]
  rfl
end Go.Tw.X
set_option linter.unusedVariables false
set_option linter.unusedSimpArgs false
namespace Go.Tw.X
open Go Go.Tw
def zA (s:ByteArray):=rdS ⟨s,0⟩
def zB (s:ByteArray):=rdS (zA s).2
def zC (s:ByteArray):=dE (zB s).2 1000
def zD (s:ByteArray):=dE (zC s).2 1000
def zE (s:ByteArray):=rdS (zD s).2
def zF (s:ByteArray):=rdS (zE s).2
def zT (s:ByteArray):=um (zF s).2
def zG (s:ByteArray):=rdS (zT s).2
def zH (s:ByteArray):=rdS (zG s).2
def zK (s:ByteArray):=bkS (zH s).2
def zN (s:ByteArray):=rdS (zK s).2
def zS (s:ByteArray):aI:=⟨(zB s).1,(zC s).1,(zD s).1,(zE s).1,(zF s).1,(zT s).1,[],(zG s).1,(zH s).1,(zK s).1⟩
def Cx (j:aT):aT:=if j.e=0 then y7 else j
theorem Jv {j:aT} (h:VI j):VI (Cx j):=by
 unfold Cx
 split
 ·exact uf
 ·exact h
theorem LU (j:aT):(Cx j).e≠0:=by
 unfold Cx
 split
 ·decide
 ·assumption
def dlI (h:Int) (i:aT) (last:Int):aT:=if (rdS i).1≤last∨(rdS i).1≥h then Cx (rdS i).2 else (rdS i).2
def dlL:Nat→Int→Int→aT→Int→List (Int×aE)→List (Int×aE)×aT
 | 0,_,_,i,_,l=>(l,i)
 | k+1,w,h,i,last,l=>if i.e=0 then dlL k w h (mM (dlI h i last) w).2 (rdS i).1 (l++[((rdS i).1,(mM (dlI h i last) w).1)]) else (l,i)
def zR (s:ByteArray):=dlL (zN s).1.toNat (zC s).1 (zD s).1 (zN s).2 (-1) []
theorem qT {h:Int} {i:aT} {last:Int} (hV:VI i):VI (dlI h i last):=by
 unfold dlI
 split
 ·exact Jv (jP hV)
 ·exact jP hV
theorem Jw {h:Int} {i:aT} {last:Int} (he:(dlI h i last).e=0):last < (rdS i).1∧(rdS i).1 < h∧dlI h i last=(rdS i).2:=by
 unfold dlI at he ⊢
 split at he
 ·exact absurd he (LU _)
 ·rename_i hc
  rw [if_neg hc]
  exact ⟨by omega,by omega,rfl⟩
theorem LV (k:Nat) (w h:Int) (i:aT) (last:Int) (l:List (Int×aE)) (he:i.e≠0):dlL k w h i last l=(l,i):=by
 cases k with
 | zero=>rfl
 | succ k=>unfold dlL; rw [if_neg he]
theorem Jx {i:aT} {w:Int} (hV:VI i) (he:(mM i w).2.e=0):i.e=0:=by
 unfold mM at he
 have h1:(rrS (w.toNat+1) w (dE i 1).2 []).2.e=0:=by
  split at he
  ·exact he
  ·exact he
 have h2:=BP _ _ _ _ h1
 exact (mf h2 hV).1
theorem Mr: ∀ (k:Nat) (w h:Int) (i:aT) (last:Int) (l:List (Int×aE)),(dlL k w h i last l).2.e=0→i.e=0
 | 0,w,h,i,last,l,he=>he
 | k+1,w,h,i,last,l,he=>by
  unfold dlL at he
  split at he
  ·assumption
  ·exact he
theorem Jy: ∀ (k:Nat) (w h:Int) (i:aT) (last:Int) (l:List (Int×aE)),VI i→VI (dlL k w h i last l).2
 | 0,w,h,i,last,l,hV=>hV
 | k+1,w,h,i,last,l,hV=>by
  unfold dlL
  split
  ·exact Jy k w h _ _ _ (xA (qT hV))
  ·exact hV
theorem Bf {α:Type} (k:Int) (x:α): ∀ l:List (Int×α),(∀ p∈l,p.1≠k)→msl k x l=l++[(k,x)]
 | [],_=>rfl
 | (j,y)::l,h=>by
  have h1:k≠j:=fun e=>h (j,y) (by simp) e.symm
  simp only [msl,if_neg h1,List.cons_append]
  rw [Bf k x l fun p hp=>h p (by simp [hp])]
theorem D8 (sum:Int) (x:aI) (hx:x.rows=[]) (hw:x.w≤1000) (f:bO×aT×Int×Int→Option ((bO×aT×Int×Int) ⊕ (aT×bO))) (hf:f=(fun a=>(Option.bind ((bif (decide (a.2.2.2 > 0)) then (Option.bind (dR a.2.1) fun g=>some (g == 0)) else some false):Option Bool) fun j=>(bif j then (Option.bind (bT a.2.1) fun b=>(Option.bind ((bif (decide (b.1≤a.2.2.1)) then some true else some (decide (b.1≥a.1.to.h))):Option Bool) fun m=>(Option.bind ((bif m then (Option.bind (bR b.2 1) fun c=>some c) else some b.2):Option aT) fun n=>(Option.bind (kS n a.1.to.w) fun d=>(Option.bind (chk a.1.rows.isSome) fun _=>some (.inl ((bO.mk a.1.sum (aI.mk a.1.to.k a.1.to.w a.1.to.h a.1.to.x a.1.to.y a.1.to.title ([]:List aE) a.1.to.len a.1.to.chain a.1.to.begun) (Ki a.1.rows b.1 d.1)),d.2,b.1,(IntKind.i64.wrap (a.2.2.2 - 1))))))))) else some (.inr (a.2.1,(bO.mk a.1.sum (aI.mk a.1.to.k a.1.to.w a.1.to.h a.1.to.x a.1.to.y a.1.to.title ([]:List aE) a.1.to.len a.1.to.chain a.1.to.begun) a.1.rows)))))) ) :
  ∀ (k:Nat) (i:aT) (last:Int) (l l':List (Int×aE)),k≤4611686018427387904→VI i→(i.e=0→l'=l ∧ ∀ p∈l,p.1≤last) →
  ∃ m',iter f (⟨sum,x,some l'⟩,i,last,(k:Int))=some ((dlL k x.w x.h i last l).2,⟨sum,x,some m'⟩)∧((dlL k x.w x.h i last l).2.e=0→m'=(dlL k x.w x.h i last l).1):=by
 have hx2:aI.mk x.k x.w x.h x.x x.y x.title ([]:List aE) x.len x.chain x.begun=x:=by
  obtain ⟨⟩:=x
  dsimp only at hx
  subst hx
  rfl
 intro k
 induction k with
 | zero =>
  intro i last l l' hk hV hl
  refine ⟨l',cM ?_,fun he=>(hl he).1⟩
  subst hf
  dsimp only
  rw [decide_eq_false (by omega),cond_false,aA,cond_false,hx2]
  rfl
 | succ k ih =>
  intro i last l l' hk hV hl
  by_cases he:i.e=0
  ·obtain ⟨rfl,hlast⟩:=hl he
   have hrr:=sb hV
   have hstep:f (⟨sum,x,some l'⟩,i,last,((k+1:Nat):Int))=some (.inl (⟨sum,x,some (msl (rdS i).1 (mM (dlI x.h i last) x.w).1 l')⟩,(mM (dlI x.h i last) x.w).2,(rdS i).1,(k:Int))):=by
    subst hf
    dsimp only
    have e1:dR i=some i.e:=rfl
    have e2:(i.e == 0)=true:=by simpa using he
    have e3:((bif (decide ((rdS i).1≤last)) then some true else some (decide ((rdS i).1≥x.h))):Option Bool)=some (decide ((rdS i).1≤last∨(rdS i).1≥x.h)):=or2 _ _
    have e4:((bif (decide ((rdS i).1≤last∨(rdS i).1≥x.h)) then (Option.bind (bR (rdS i).2 1) fun c=>some c) else some (rdS i).2):Option aT)=some (dlI x.h i last):=by
     unfold dlI
     by_cases hc:(rdS i).1≤last∨(rdS i).1≥x.h
     ·rw [decide_eq_true hc,cond_true,if_pos hc,wV (jP hV)]
      rfl
     ·rw [decide_eq_false hc,cond_false,if_neg hc]
    rw [decide_eq_true (by omega),cond_true,e1,aA,e2,aA,cond_true,ns _ hV,aA,e3,aA,e4,aA,DE _ _ (qT hV) hw,aA,hx2,w64 (by omega) (by omega)]
    have e5:((k+1:Nat):Int) - 1=(k:Int):=by omega
    rw [e5]
    rfl
   have hnew:(mM (dlI x.h i last) x.w).2.e=0→msl (rdS i).1 (mM (dlI x.h i last) x.w).1 l'=l'++[((rdS i).1,(mM (dlI x.h i last) x.w).1)] ∧ ∀ p∈l'++[((rdS i).1,(mM (dlI x.h i last) x.w).1)],p.1≤(rdS i).1:=by
    intro h0
    obtain ⟨h2,h3, -⟩:=Jw (Jx (qT hV) h0)
    refine ⟨Bf _ _ _ fun p hp e=> ?_,fun p hp=> ?_⟩
    ·have:=hlast p hp
     omega
    ·rcases List.mem_append.1 hp with hp | hp
     ·have:=hlast p hp
      omega
     ·rw [List.mem_singleton.1 hp]
      exact Int.le_refl _
   obtain ⟨m',h1,h2⟩:=ih (mM (dlI x.h i last) x.w).2 (rdS i).1 (l'++[((rdS i).1,(mM (dlI x.h i last) x.w).1)]) (msl (rdS i).1 (mM (dlI x.h i last) x.w).1 l') (by omega) (xA (qT hV)) hnew
   have hd:dlL (k+1) x.w x.h i last l'=dlL k x.w x.h (mM (dlI x.h i last) x.w).2 (rdS i).1 (l'++[((rdS i).1,(mM (dlI x.h i last) x.w).1)]):=by
    conv=>lhs; unfold dlL
    rw [if_pos he]
   rw [hd]
   exact ⟨m',by rw [dN hstep,h1],h2⟩
  ·rw [LV _ _ _ _ _ _ he]
   refine ⟨l',cM ?_,fun h=>absurd h he⟩
   subst hf
   dsimp only
   have e1:dR i=some i.e:=rfl
   have e2:(i.e == 0)=false:=by simpa using he
   rw [decide_eq_true (by omega),cond_true,e1,aA,e2,aA,cond_false,hx2]
theorem Cy {i:aT} (h:VI i):la i=some (dE i 1000):=size_eq h
theorem Jz (s:ByteArray) (h:s.size≤1000000): ∃ m',m8 s=some (⟨(zA s).1,zS s,some m'⟩,vZ (zR s).2)∧((zR s).2.e=0→m'=(zR s).1):=by
 have v0:VI (⟨s,0⟩:aT):=⟨h,.inl rfl⟩
 have vA:VI (zA s).2:=jP v0
 have vB:VI (zB s).2:=jP vA
 have vC:VI (zC s).2:=ic _ vB
 have vD:VI (zD s).2:=ic _ vC
 have vE:VI (zE s).2:=jP vD
 have vF:VI (zF s).2:=jP vE
 have vT:VI (zT s).2:=AN vF
 have vG:VI (zG s).2:=jP vT
 have vH:VI (zH s).2:=jP vG
 have vK:VI (zK s).2:=AO vH
 have vN:VI (zN s).2:=jP vK
 have hn:=sb vK
 have hw:(zS s).w≤1000:=(lI (m:=1000) vB (by omega)).2
 obtain ⟨N,hN⟩:=Int.eq_ofNat_of_zero_le (show 0≤(zN s).1 from hn.1)
 have hN2:N≤4611686018427387904:=by have:(zN s).1≤4611686018427387904:=hn.2; omega
 obtain ⟨m',h1,h2⟩:=D8 (zA s).1 (zS s) rfl hw _ rfl N (zN s).2 (-1) [] [] hN2 vN (fun _=>⟨rfl,fun p hp=>by cases hp⟩)
 have hR:zR s=dlL N (zS s).w (zS s).h (zN s).2 (-1) []:=by
  unfold zR
  rw [hN,Int.toNat_natCast]
  rfl
 rw [← hR] at h1 h2
 refine ⟨m',?_,h2⟩
 unfold m8
 have e0:uN s=some ⟨s,0⟩:=rfl
 have e1:bT ⟨s,0⟩=some (zA s):=ns _ v0
 have e2:bT (zA s).2=some (zB s):=ns _ vA
 have e3:la (zB s).2=some (zC s):=Cy vB
 have e4:la (zC s).2=some (zD s):=Cy vC
 have e5:bT (zD s).2=some (zE s):=ns _ vD
 have e6:bT (zE s).2=some (zF s):=ns _ vE
 have e7:lD (zF s).2=some (zT s):=KK _ vF
 have e8:bT (zT s).2=some (zG s):=ns _ vT
 have e9:bT (zG s).2=some (zH s):=ns _ vG
 have e10:mR (zH s).2=some (zK s):=HY _ vH
 have e11:bT (zK s).2=some (zN s):=ns _ vK
 rw [e0,aA,e1,aA,e2,aA,e3,aA,e4,aA,e5,aA,e6,aA,e7,aA,e8,aA,e9,aA,e10,aA,e11,aA]
 have hS:aI.mk (zB s).1 (zC s).1 (zD s).1 (zE s).1 (zF s).1 (zT s).1 ([]:List aE) (zG s).1 (zH s).1 (zK s).1=zS s:=rfl
 rw [hS,hN,h1,aA,M7,aA]
 rfl
def mh (A:List aE) (l:List (Int×aE)):Nat→Nat→List aE→Option (List aE)
 | 0,_,acc=>some acc
 | k+1,y,acc=>match mgl (y:Int) l,A[y]? with
  | some r,some q=>if q=r then none else mh A l k (y+1) (acc++[r])
  | some r,none=>mh A l k (y+1) (acc++[r])
  | none,some q=>mh A l k (y+1) (acc++[q])
  | none,none=>none
theorem D9 (sum:Int) (x a:aI) (l:List (Int×aE)) (H:Nat) (hH:H≤1000) (hh:x.h=(H:Int)) (ha: ∀ r∈a.rows,r.cells.length≤1000000) (f:bO×Int→Option ((bO×Int) ⊕ (bO ⊕ (Bool×bO)))) (hf:f=(fun b=>(bif (decide (b.2 < x.h)) then (Option.bind (iF a b.2) fun c=>(Option.bind ((Option.bind ((bif (rB b.1.rows b.2) then (bif c.2 then (Option.bind (iM c.1 (mgd b.1.rows b.2 (aE.mk ([]:List aG) false))) fun e=>some e) else some false) else some false):Option Bool) fun d=>(Option.bind ((bif d then some d else (bif (!(rB b.1.rows b.2)) then some (!c.2) else some false)):Option Bool) fun g=>(bif g then (kK (kY (some (false,(bO.mk b.1.sum (aI.mk b.1.to.k b.1.to.w b.1.to.h b.1.to.x b.1.to.y b.1.to.title b.1.to.rows b.1.to.len b.1.to.chain b.1.to.begun) b.1.rows))))) else (bif (!(rB b.1.rows b.2)) then some (.inl c.1) else some (.inl (mgd b.1.rows b.2 (aE.mk ([]:List aG) false))))))):Option (aE ⊕ ((bO×Int) ⊕ (bO ⊕ (Bool×bO))))) fun | .inl e1033=>(Option.bind (chk (eO b.1.to.rows.length [e1033].length 32)) fun _=>some (.inl ((bO.mk b.1.sum (aI.mk b.1.to.k b.1.to.w b.1.to.h b.1.to.x b.1.to.y b.1.to.title (b.1.to.rows++[e1033]) b.1.to.len b.1.to.chain b.1.to.begun) b.1.rows),(IntKind.i64.wrap (b.2+1))))) | .inr w=>some w)) else some (.inr (.inl (bO.mk b.1.sum (aI.mk b.1.to.k b.1.to.w b.1.to.h b.1.to.x b.1.to.y b.1.to.title b.1.to.rows b.1.to.len b.1.to.chain b.1.to.begun) b.1.rows))))) ) :
  ∀ (k y:Nat) (acc:List aE),y+k=H→acc.length=y →
  (∀ out,mh a.rows l k y acc=some out→iter f (⟨sum,nt x acc,some l⟩,(y:Int))=some (.inl ⟨sum,nt x out,some l⟩))∧(mh a.rows l k y acc=none → ∃ p',iter f (⟨sum,nt x acc,some l⟩,(y:Int))=some (.inr (false,p'))):=by
 intro k
 induction k with
 | zero =>
  intro y acc hy hl
  refine ⟨fun out ho=> ?_,fun ho=>by cases ho⟩
  injection ho with ho
  subst ho
  refine cM ?_
  subst hf
  dsimp only
  rw [decide_eq_false (by omega),cond_false]
 | succ k ih =>
  intro y acc hy hl
  have hgo: ∀ r:aE,(∀ out,mh a.rows l k (y+1) (acc++[r])=some out→iter f (⟨sum,nt x (acc++[r]),some l⟩,((y+1:Nat):Int))=some (.inl ⟨sum,nt x out,some l⟩))∧(mh a.rows l k (y+1) (acc++[r])=none → ∃ p',iter f (⟨sum,nt x (acc++[r]),some l⟩,((y+1:Nat):Int))=some (.inr (false,p'))):=fun r=>ih (y+1) (acc++[r]) (by omega) (by simp [hl])
  have hap:chk (eO acc.length 1 32)=some ():=bL (by omega)
  have hwr:IntKind.i64.wrap ((y:Int)+1)=((y+1:Nat):Int):=by rw [w64 (by omega) (by omega)]; rfl
  -- a step that goes on with a row
  have hon: ∀ r:aE,f (⟨sum,nt x acc,some l⟩,(y:Int))=some (.inl (⟨sum,nt x (acc++[r]),some l⟩,((y+1:Nat):Int)))→mh a.rows l (k+1) y acc=mh a.rows l k (y+1) (acc++[r])→(∀ out,mh a.rows l (k+1) y acc=some out→iter f (⟨sum,nt x acc,some l⟩,(y:Int))=some (.inl ⟨sum,nt x out,some l⟩))∧(mh a.rows l (k+1) y acc=none → ∃ p',iter f (⟨sum,nt x acc,some l⟩,(y:Int))=some (.inr (false,p'))):=by
   intro r h1 h2
   rw [h2,dN h1]
   exact hgo r
  have hoff:(∃ p',f (⟨sum,nt x acc,some l⟩,(y:Int))=some (.inr (.inr (false,p'))))→mh a.rows l (k+1) y acc=none→(∀ out,mh a.rows l (k+1) y acc=some out→iter f (⟨sum,nt x acc,some l⟩,(y:Int))=some (.inl ⟨sum,nt x out,some l⟩))∧(mh a.rows l (k+1) y acc=none → ∃ p',iter f (⟨sum,nt x acc,some l⟩,(y:Int))=some (.inr (false,p'))):=by
   rintro ⟨p',h1⟩ h2
   rw [h2]
   exact ⟨fun out ho=>(by cases ho),fun _=>⟨p',cM h1⟩⟩
  have hd:decide ((y:Int) < x.h)=true:=decide_eq_true (by omega)
  cases hm:mgl (y:Int) l with
  | some r =>
   have m1:rB (some l) (y:Int)=true:=by simp [rB,hm]
   have m2: ∀ z,mgd (some l) (y:Int) z=r:=fun z=>by simp [mgd,hm]
   by_cases hya:y < a.rows.length
   ·have e1:a.rows[y]?=some a.rows[y]:=List.getElem?_eq_getElem hya
    by_cases hq:a.rows[y]=r
    ·refine hoff ⟨⟨sum,nt x acc,some l⟩,?_⟩ (by simp only [mh,hm,e1,if_pos hq])
     subst hf
     dsimp only
     rw [hd,cond_true,vd a y hya,aA]
     dsimp only
     rw [m1,m2,cond_true,cond_true,xw _ _ (ha _ (List.getElem_mem hya)),decide_eq_true hq]
     rfl
    ·refine hon r ?_ (by simp only [mh,hm,e1,if_neg hq])
     subst hf
     dsimp only
     rw [hd,cond_true,vd a y hya,aA]
     dsimp only
     rw [m1,m2,cond_true,cond_true,xw _ _ (ha _ (List.getElem_mem hya)),decide_eq_false hq]
     show Option.bind (chk (eO acc.length 1 32)) _=_
     rw [hap,aA,hwr]
     rfl
   ·have e1:a.rows[y]?=none:=List.getElem?_eq_none (by omega)
    refine hon r ?_ (by simp only [mh,hm,e1])
    subst hf
    dsimp only
    rw [hd,cond_true,wv a y hya,aA]
    dsimp only
    rw [m1,m2]
    show Option.bind (chk (eO acc.length 1 32)) _=_
    rw [hap,aA,hwr]
    rfl
  | none =>
   have m1:rB (some l) (y:Int)=false:=by simp [rB,hm]
   by_cases hya:y < a.rows.length
   ·have e1:a.rows[y]?=some a.rows[y]:=List.getElem?_eq_getElem hya
    refine hon a.rows[y] ?_ (by simp only [mh,hm,e1])
    subst hf
    dsimp only
    rw [hd,cond_true,vd a y hya,aA]
    dsimp only
    rw [m1]
    show Option.bind (chk (eO acc.length 1 32)) _=_
    rw [hap,aA,hwr]
    rfl
   ·have e1:a.rows[y]?=none:=List.getElem?_eq_none (by omega)
    refine hoff ⟨⟨sum,nt x acc,some l⟩,?_⟩ (by simp only [mh,hm,e1])
    subst hf
    dsimp only
    rw [hd,cond_true,wv a y hya,aA]
    dsimp only
    rw [m1]
    rfl
end Go.Tw.X
set_option linter.unusedVariables false
set_option linter.unusedSimpArgs false
namespace Go.Tw.X
open Go Go.Tw
def wx (a:aI) (s:ByteArray):aI×Int :=
 if nC a=false then (jn,1)
 else if vZ (zR s).2≠0 then (jn,vZ (zR s).2)
 else if (zA s).1≠((sf (mc a):Nat):Int) then (jn,7)
 else match mh a.rows (zR s).1 (zD s).1.toNat 0 [] with
  | none=>(jn,1)
  | some l=>if pB (nt (zS s) l) then (jn,1) else (nt (zS s) l,0)
theorem GQ {i:aT} (hV:VI i) (h:vZ i=0):i.e=0∧i.s=noS:=by
 unfold vZ at h
 split at h
 ·cases h
 ·rename_i h1
  exact ⟨h,Classical.not_not.1 h1⟩
theorem zVI {s:ByteArray} (h:s.size≤1000000):VI (zB s).2∧VI (zC s).2∧VI (zF s).2∧VI (zH s).2∧VI (zK s).2∧VI (zN s).2∧VI (zR s).2:=by
 have v0:VI (⟨s,0⟩:aT):=⟨h,.inl rfl⟩
 have vB:VI (zB s).2:=jP (jP v0)
 have vC:VI (zC s).2:=ic _ vB
 have vF:VI (zF s).2:=jP (jP (ic _ vC))
 have vH:VI (zH s).2:=jP (jP (AN vF))
 have vK:VI (zK s).2:=AO vH
 have vN:VI (zN s).2:=jP vK
 exact ⟨vB,vC,vF,vH,vK,vN,Jy _ _ _ _ _ _ vN⟩
def prl (l:List (Int×aE)):List Int:=l.flatMap fun p=>dC p.1++gL p.2
theorem LW {i:aT} (hV:VI i) (h:(rdS i).2.e=0):i.e=0∧sbs i.s=dC (rdS i).1++sbs (rdS i).2.s:=by
 obtain ⟨h1,w,h2,h3,h4⟩:=BN h hV
 exact ⟨h1,by rw [h2,lW h3]; exact h4⟩
theorem Ab: ∀ (k:Nat) (w h:Int) (i:aT) (last:Int) (l:List (Int×aE)),VI i→(dlL k w h i last l).2.e=0 → ∃ D,prl (dlL k w h i last l).1=prl l++D∧sbs i.s=D++sbs (dlL k w h i last l).2.s
 | 0,w,h,i,last,l,hV,he=>⟨[],by simp [dlL],by simp [dlL]⟩
 | k+1,w,h,i,last,l,hV,he=>by
  have hi:=Mr _ _ _ _ _ _ he
  unfold dlL at he ⊢
  rw [if_pos hi] at he ⊢
  have h0:=Mr _ _ _ _ _ _ he
  have h1:=Jx (qT hV) h0
  obtain ⟨h2,h3,h4⟩:=Jw h1
  obtain ⟨D,d1,d2⟩:=Ab k w h _ _ _ (xA (qT hV)) he
  have hr:(rdS i).2.e=0:=by rw [← h4]; exact h1
  obtain ⟨-,h5⟩:=LW hV hr
  have h6:=DH (qT (h:=h) (last:=last) hV) h0
  refine ⟨dC (rdS i).1++gL (mM (dlI h i last) w).1++D,?_,?_⟩
  ·rw [d1]
   unfold prl
   rw [List.flatMap_append,List.flatMap_singleton]
   simp only [List.append_assoc]
  ·rw [h5,← h4,h6,d2]
   simp only [List.append_assoc]
theorem NO {i:aT} {m:Nat} (h:SZ m i):(um i).2.s.size≤m:=by
 by_cases he:(um i).2.e=0
 ·obtain ⟨-,hw⟩:=M6 h.1 he
  have:=congrArg List.length hw
  rw [List.length_append,bD,bD] at this
  have:=h.2
  omega
 ·rcases (AN h.1).2 with h1 | h1
  ·exact absurd h1 he
  ·rw [h1]; exact Nat.zero_le _
theorem Pj {i:aT} {m:Nat} (h:SZ m i):(bkS i).2.s.size≤m:=by
 by_cases he:(bkS i).2.e=0
 ·obtain ⟨-,hw⟩:=Gs h.1 he
  have:=congrArg List.length hw
  rw [List.length_append,bD,bD] at this
  have:=h.2
  omega
 ·rcases (AO h.1).2 with h1 | h1
  ·exact absurd h1 he
  ·rw [h1]; exact Nat.zero_le _
theorem Cz: ∀ (k:Nat) (w h:Int) (i:aT) (last:Int) (l:List (Int×aE)),VI i→w≤1000→(∀ p∈l,okR p.2.cells∧p.2.cells.length≤1000) → ∀ p∈(dlL k w h i last l).1,okR p.2.cells∧p.2.cells.length≤1000
 | 0,w,h,i,last,l,hV,hw,hl=>hl
 | k+1,w,h,i,last,l,hV,hw,hl=>by
  unfold dlL
  split
  ·refine Cz k w h _ _ _ (xA (qT hV)) hw ?_
   intro p hp
   rcases List.mem_append.1 hp with hp | hp
   ·exact hl p hp
   ·rw [List.mem_singleton.1 hp]
    exact KH (qT hV) hw
  ·exact hl
theorem vf {α:Type} {k:Int} {x:α}: ∀ {l:List (Int×α)},mgl k l=some x→(k,x)∈l
 | [],h=>by cases h
 | (j,y)::l,h=>by
  simp only [mgl] at h
  split at h
  ·rename_i hk
   injection h with h
   subst h hk
   exact List.mem_cons_self ..
  ·exact List.mem_cons_of_mem _ (vf h)
theorem yL {A:List aE} {l:List (Int×aE)} (Q:aE→Prop) (hA: ∀ r∈A,Q r) (hl: ∀ p∈l,Q p.2): ∀ (k y:Nat) (acc out:List aE),mh A l k y acc=some out→(∀ r∈acc,Q r)→(∀ r∈out,Q r)∧out.length=acc.length+k
 | 0,y,acc,out,h,hacc=>by
  injection h with h
  subst h
  exact ⟨hacc,rfl⟩
 | k+1,y,acc,out,h,hacc=>by
  have go: ∀ r,Q r→mh A l k (y+1) (acc++[r])=some out→(∀ r∈out,Q r)∧out.length=acc.length+(k+1):=by
   intro r hr h2
   obtain ⟨h3,h4⟩:=yL Q hA hl k (y+1) (acc++[r]) out h2 (fun q hq=>by
    rcases List.mem_append.1 hq with hq | hq
    ·exact hacc q hq
    ·rw [List.mem_singleton.1 hq]; exact hr)
   refine ⟨h3,h4.trans ?_⟩
   simp only [List.length_append,List.length_cons,List.length_nil]
   omega
  simp only [mh] at h
  split at h
  ·rename_i r q h1 h2
   split at h
   ·cases h
   ·exact go r (hl _ (vf h1)) h
  ·rename_i r h1 h2
   exact go r (hl _ (vf h1)) h
  ·rename_i q h1 h2
   exact go q (hA _ (List.mem_of_getElem? h2)) h
  ·cases h
def tot (y:Int):List (Int×aE)→Nat
 | []=>0
 | (j,z)::l=>(if y≤j then (gL z).length else 0)+tot y l
theorem yM (y:Int): ∀ l,tot (y+1) l≤tot y l
 | []=>Nat.le_refl _
 | (j,z)::l=>by
  have:=yM y l
  simp only [tot]
  by_cases h1:y+1≤j
  ·rw [if_pos h1,if_pos (by omega)]; omega
  ·rw [if_neg h1]; omega
theorem Bg (y:Int) {r:aE}: ∀ l,mgl y l=some r→(gL r).length+tot (y+1) l≤tot y l
 | [],h=>by cases h
 | (j,z)::l,h=>by
  simp only [mgl] at h
  simp only [tot]
  split at h
  ·rename_i hk
   injection h with h
   subst h hk
   have:=yM y l
   rw [if_neg (by omega),if_pos (Int.le_refl _)]
   omega
  ·have:=Bg y l h
   by_cases h1:y+1≤j
   ·rw [if_pos h1,if_pos (by omega)]; omega
   ·rw [if_neg h1]; omega
theorem JA (y:Int): ∀ l,tot y l≤(prl l).length
 | []=>Nat.le_refl _
 | (j,z)::l=>by
  have:=JA y l
  unfold prl at this ⊢
  simp only [tot,List.flatMap_cons,List.length_append]
  split <;> omega
theorem CA {A:List aE} {l:List (Int×aE)}: ∀ (k y:Nat) (acc out:List aE),mh A l k y acc=some out→(out.flatMap gL).length≤(acc.flatMap gL).length+tot (y:Int) l+((A.drop y).flatMap gL).length
 | 0,y,acc,out,h=>by
  injection h with h
  subst h
  omega
 | k+1,y,acc,out,h=>by
  have hn:=yM (y:Int) l
  have e1:((y+1:Nat):Int)=(y:Int)+1:=rfl
  have hd: ∀ q,A[y]?=some q→((A.drop y).flatMap gL).length=(gL q).length+((A.drop (y+1)).flatMap gL).length:=by
   intro q hq
   obtain ⟨h1,h2⟩:=List.getElem?_eq_some_iff.1 hq
   rw [List.drop_eq_getElem_cons h1,List.flatMap_cons,List.length_append,h2]
  have go: ∀ r,mh A l k (y+1) (acc++[r])=some out→(out.flatMap gL).length≤(acc.flatMap gL).length+(gL r).length+tot ((y:Int)+1) l+((A.drop (y+1)).flatMap gL).length:=by
   intro r h2
   have:=CA k (y+1) (acc++[r]) out h2
   rw [List.flatMap_append,List.flatMap_singleton,List.length_append,e1] at this
   exact this
  have hdd:((A.drop (y+1)).flatMap gL).length≤((A.drop y).flatMap gL).length:=by
   by_cases hy:y < A.length
   ·rw [hd _ (List.getElem?_eq_getElem hy)]; omega
   ·rw [List.drop_eq_nil_of_le (by omega:A.length≤y+1)]
    exact Nat.zero_le _
  simp only [mh] at h
  split at h
  ·rename_i r q h1 h2
   split at h
   ·cases h
   ·have:=go r h
    have:=Bg (y:Int) l h1
    omega
  ·rename_i r h1 h2
   have:=go r h
   have:=Bg (y:Int) l h1
   omega
  ·rename_i q h1 h2
   have:=go q h
   have:=hd q h2
   omega
  ·cases h
theorem NQ {s:ByteArray} (h:s.size≤1000000) (he:(zR s).2.e=0):(prl (zR s).1).length≤s.size:=by
 obtain ⟨vB,vC,vF,vH,vK,vN,vR⟩:=zVI h
 obtain ⟨D,h1,h2⟩:=Ab _ _ _ _ _ _ vN he
 have hD:prl (zR s).1=D:=h1
 have h3:=congrArg List.length h2
 rw [List.length_append,bD,← hD] at h3
 have v0:SZ s.size (⟨s,0⟩:aT):=⟨⟨h,.inl rfl⟩,Nat.le_refl _⟩
 have s1:SZ s.size (zF s).2:=wW (wW (HZ _ (HZ _ (wW (wW v0)))))
 have s2:SZ s.size (zT s).2:=⟨AN s1.1,NO s1⟩
 have s3:SZ s.size (zH s).2:=wW (wW s2)
 have s4:SZ s.size (zK s).2:=⟨AO s3.1,Pj s3⟩
 have s5:=(wW s4).2
 have:(zN s).2.s.size≤s.size:=s5
 omega
theorem CB {a:aI} {s:ByteArray} {l:List aE} (ha:SW a) (pa:(a.rows.flatMap gL).length≤12000) (h:s.size≤100000) (ht:(zT s).1.size≤1000) (he:(zR s).2.e=0) (hl:mh a.rows (zR s).1 (zD s).1.toNat 0 []=some l):SW (nt (zS s) l)∧(l.flatMap gL).length≤200000:=by
 obtain ⟨vB,vC,vF,vH,vK,vN,vR⟩:=zVI (s:=s) (by omega)
 have b1:=lI (m:=1000) vB (by omega)
 have c1:=lI (m:=1000) vC (by omega)
 have hw1:0≤(zC s).1:=b1.1
 have hw2:(zC s).1≤1000:=b1.2
 have hh1:0≤(zD s).1:=c1.1
 have hh2:(zD s).1≤1000:=c1.2
 have bo:=M8 vH
 have hrows:=Cz (zN s).1.toNat (zC s).1 (zD s).1 (zN s).2 (-1) [] vN hw2 (fun p hp=>by cases hp)
 obtain ⟨p1,p2⟩:=yL (fun r=>okR r.cells∧r.cells.length≤1000) ha.ro hrows _ _ _ _ hl (fun r hr=>by cases hr)
 have p3:=CA _ _ _ _ hl
 have p4:=JA ((0:Nat):Int) (zR s).1
 have p5:=NQ (by omega) he
 have p6:((a.rows.drop 0).flatMap gL).length≤12000:=by simpa using pa
 refine ⟨⟨?_,?_,bo.1,p1,?_,Nat.le_trans bo.2 (by decide),ht⟩,?_⟩
 ·show _≤(zC s).1∧(zC s).1≤_
  omega
 ·show _≤(zD s).1∧(zD s).1≤_
  omega
 ·show l.length≤1000
  rw [p2]
  simp only [List.length_nil]
  omega
 ·simp only [List.flatMap_nil,List.length_nil] at p3
  omega
theorem JB (a:aI) (s:ByteArray) (ha:SW a) (pa:(a.rows.flatMap gL).length≤12000) (h:s.size≤100000) (ht:(zT s).1.size≤1000) (he:(zR s).2.e=0) (sum:Int) :
  (∀ l,mh a.rows (zR s).1 (zD s).1.toNat 0 []=some l→fQ ⟨sum,zS s,some (zR s).1⟩ a=some (!pB (nt (zS s) l),⟨sum,nt (zS s) l,some (zR s).1⟩))∧(mh a.rows (zR s).1 (zD s).1.toNat 0 []=none → ∃ p',fQ ⟨sum,zS s,some (zR s).1⟩ a=some (false,p')):=by
 obtain ⟨vB,vC,vF,vH,vK,vN,vR⟩:=zVI (s:=s) (by omega)
 have c1:=lI (m:=1000) vC (by omega)
 have hh1:0≤(zD s).1:=c1.1
 have hh2:(zD s).1≤1000:=c1.2
 have har: ∀ r∈a.rows,r.cells.length≤1000000:=fun r hr=>by have:=(ha.ro r hr).2; omega
 obtain ⟨H,hH⟩:=Int.eq_ofNat_of_zero_le hh1
 obtain ⟨b1,b2⟩:=D9 sum (zS s) a (zR s).1 H (by omega) hH har _ rfl H 0 [] (by omega) rfl
 have hH2:(zD s).1.toNat=H:=by rw [hH,Int.toNat_natCast]
 have hz:nt (zS s) []=zS s:=rfl
 rw [hz] at b1 b2
 refine ⟨fun l hl=> ?_,fun hl=> ?_⟩
 ·obtain ⟨SWx,pl⟩:=CB ha pa h ht he hl
  rw [hH2] at hl
  have e:=b1 l hl
  unfold fQ
  refine (congrArg (fun z=>Option.bind z _) e).trans ?_
  rw [aA]
  dsimp only
  have hm:kh (nt (zS s) l)=some (!pB (nt (zS s) l)):=Cv _ SWx (by show (l.flatMap gL).length≤1000000; omega)
  show Option.bind (kh (nt (zS s) l)) _=_
  rw [hm,aA]
 ·rw [hH2] at hl
  obtain ⟨p',this⟩:=b2 hl
  refine ⟨p',?_⟩
  unfold fQ
  refine (congrArg (fun z=>Option.bind z _) this).trans ?_
  rw [aA]
theorem JC (a:aI) (s:ByteArray) (ha:SW a) (pa:(a.rows.flatMap gL).length≤12000) (h:s.size≤100000) (ht:(zT s).1.size≤1000):lF a s=some (wx a s):=by
 obtain ⟨vB,vC,vF,vH,vK,vN,vR⟩:=zVI (s:=s) (by omega)
 unfold lF wx
 rw [uU a ha,aA]
 cases hm:nC a with
 | false=>rw [if_neg (by simp),if_pos rfl]; rfl
 | true =>
  rw [if_pos rfl,if_neg (by simp)]
  obtain ⟨m',r1,r2⟩:=Jz s (by omega)
  have k0:((0:Int) != 0)=false:=rfl
  rw [k0,cond_false,r1,aA]
  dsimp only
  by_cases he:vZ (zR s).2=0
  ·have k1:(vZ (zR s).2 != 0)=false:=by simp [he]
   rw [k1,cond_false,if_neg (fun hh=>hh he),E7 a ha pa,aA]
   obtain ⟨he0, -⟩:=GQ vR he
   obtain rfl:=r2 he0
   by_cases hs:(zA s).1=((sf (mc a):Nat):Int)
   ·have k2:((zA s).1 != ((sf (mc a):Nat):Int))=false:=by simp [hs]
    rw [k2,cond_false,if_neg (fun hh=>hh hs)]
    obtain ⟨b1,b2⟩:=JB a s ha pa h ht he0 (zA s).1
    cases hl:mh a.rows (zR s).1 (zD s).1.toNat 0 [] with
    | none =>
     obtain ⟨p',b3⟩:=b2 hl
     rw [b3,aA]
     rfl
    | some l =>
     obtain ⟨SWx,pl⟩:=CB ha pa h ht he0 hl
     rw [b1 l hl,aA]
     dsimp only
     cases hn:pB (nt (zS s) l) with
     | true=>rfl
     | false =>
      rw [Bool.not_false,Bool.not_true,cond_false,if_neg (by simp),v7 _ SWx,aA]
   ·have k2:((zA s).1 != ((sf (mc a):Nat):Int))=true:=by simp [hs]
    rw [k2,cond_true,if_pos hs]
    rfl
  ·have k1:(vZ (zR s).2 != 0)=true:=by simp [he]
   rw [k1,cond_true,if_pos he]
   rfl
end Go.Tw.X
set_option linter.unusedVariables false
set_option linter.unusedSimpArgs false
namespace Go.Tw.X
open Go Go.Tw
theorem FG (a b:List aE) (y:Nat): ∀ i,y∈chN a b i↔(y < i∧a[y]?≠b[y]?)
 | 0=>by simp [chN]
 | i+1=>by
  rw [o4]
  have ih:=FG a b y i
  split
  ·rename_i h
   rw [ih]
   constructor
   ·rintro ⟨h1,h2⟩; exact ⟨by omega,h2⟩
   ·rintro ⟨h1,h2⟩
    refine ⟨?_,h2⟩
    rcases Nat.lt_succ_iff_lt_or_eq.1 h1 with h3 | h3
    ·exact h3
    ·subst h3; exact absurd h h2
  ·rename_i h
   rw [List.mem_append,ih,List.mem_singleton]
   constructor
   ·rintro (⟨h1,h2⟩ | h1)
    ·exact ⟨by omega,h2⟩
    ·subst h1; exact ⟨by omega,h⟩
   ·rintro ⟨h1,h2⟩
    rcases Nat.lt_succ_iff_lt_or_eq.1 h1 with h3 | h3
    ·exact .inl ⟨h3,h2⟩
    ·exact .inr h3
theorem ux (a b:List aE): ∀ i,(chN a b i).Pairwise (· < ·)
 | 0=> .nil
 | i+1=>by
  rw [o4]
  split
  ·exact ux a b i
  ·refine List.pairwise_append.2 ⟨ux a b i,by simp,fun x hx y hy=> ?_⟩
   rw [List.mem_singleton.1 hy]
   exact Bd a b i x hx
def prs (b:List aE) (C:List Nat):List (Int×aE):=C.map fun y:Nat=>((y:Int),b[y]?.getD AG)
theorem FH (b:List aE) (y:Nat): ∀ C:List Nat,mgl (y:Int) (prs b C)=if y∈C then some (b[y]?.getD AG) else none
 | []=>rfl
 | c::C=>by
  have ih:=FH b y C
  show (if (y:Int)=(c:Int) then some (b[c]?.getD AG) else mgl (y:Int) (prs b C))=_
  rw [ih]
  by_cases h:y=c
  ·subst h
   rw [if_pos rfl,if_pos (by simp)]
  ·rw [if_neg (by omega)]
   by_cases h2:y∈C
   ·rw [if_pos h2,if_pos (by simp [h2])]
   ·rw [if_neg h2,if_neg (by simp [h,h2])]
theorem FI (b:List aE) (w h:Int) (hw:w≤1000) (hh:h=(b.length:Int)) (hb:b.length≤1000) (hr: ∀ r∈b,(r.cells.length:Int)=w ∧ ∀ c∈r.cells,okC c=true) {R:List Int} (hR:BB R): ∀ (C:List Nat) (last:Int) (acc:List (Int×aE)),C.Pairwise (· < ·)→(∀ y∈C,last < (y:Int)∧y < b.length)→dlL C.length w h (bI (pch b C++R)) last acc=(acc++prs b C,bI R)
 | [],last,acc,_,_=>by simp [dlL,pch,prs]
 | c::C,last,acc,hs,hl=>by
  have hc:=hl c (by simp)
  have hs2:=List.pairwise_cons.1 hs
  have hrc:=hr _ (List.getElem_mem hc.2)
  have hgc:b[c]?.getD AG=b[c]:=by rw [List.getElem?_eq_getElem hc.2]; rfl
  have hBB:BB (pch b C++R):=fS (Ju _ _) hR
  have e1:pch b (c::C)++R=dC (c:Int)++(gL b[c]++(pch b C++R)):=by
   unfold pch
   rw [List.flatMap_cons,hgc]
   simp only [List.append_assoc]
  have e2:rdS (bI (pch b (c::C)++R))=((c:Int),bI (gL b[c]++(pch b C++R))):=by
   rw [e1]
   exact y8 (fS (AP _) hBB) (by omega) (by omega)
  have e3:dlI h (bI (pch b (c::C)++R)) last=bI (gL b[c]++(pch b C++R)):=by
   unfold dlI
   rw [e2,if_neg (by dsimp only; omega)]
  have e4:=Na b[c] w hBB hw hrc.1 hrc.2
  show dlL (C.length+1) w h (bI (pch b (c::C)++R)) last acc=_
  unfold dlL
  rw [if_pos (show (bI (pch b (c::C)++R)).e=0 from rfl),e3,e4,e2]
  dsimp only
  rw [FI b w h hw hh hb hr hR C (c:Int) _ hs2.2 (fun y hy=>⟨by have:=hs2.1 y hy; omega,(hl y (by simp [hy])).2⟩)]
  unfold prs
  rw [List.map_cons,hgc,List.append_assoc]
  rfl
theorem CC (a b:List aE): ∀ k y,y+k=b.length→mh a (prs b (chg a b)) k y (b.take y)=some b
 | 0,y,hy=>by
  show some (b.take y)=some b
  rw [List.take_of_length_le (by omega)]
 | k+1,y,hy=>by
  have hyb:y < b.length:=by omega
  have hb:b[y]?=some b[y]:=List.getElem?_eq_getElem hyb
  have ih:=CC a b k (y+1) (by omega)
  rw [List.take_succ_eq_append_getElem hyb] at ih
  have hm:=FH b y (chg a b)
  have hmem:y∈chg a b↔a[y]?≠b[y]?:=by
   unfold chg
   rw [FG]
   exact ⟨fun h=>h.2,fun h=>⟨hyb,h⟩⟩
  simp only [mh]
  by_cases hc:y∈chg a b
  ·rw [if_pos hc,hb] at hm
   rw [hm]
   simp only [Option.getD_some]
   have hne:=hmem.1 hc
   rw [hb] at hne
   cases ha:a[y]? with
   | none=>exact ih
   | some q =>
    dsimp only
    rw [ha] at hne
    rw [if_neg (fun hh=>hne (by rw [hh]))]
    exact ih
  ·rw [if_neg hc] at hm
   rw [hm]
   have he:a[y]?=b[y]?:=Classical.not_not.1 fun h=>hc (hmem.2 h)
   rw [he,hb]
   exact ih
theorem Ad (a b:aI) (hb:SW b) (hma:nC a=true) (hnb:pB b=false):zT (kq a b)=(b.title,(zT (kq a b)).2)∧wx a (kq a b)=(b,0):=by
 have hbe:ju b=false∧nC b=true:=by
  unfold pB at hnb
  cases h1:ju b <;> cases h2:nC b <;> rw [h1,h2] at hnb <;> first | exact ⟨rfl,rfl⟩ | cases hnb
 have M:=(KR hbe.1).1 hbe.2
 have hbad:GP a b=false:=by unfold GP; rw [hma,hnb]; rfl
 have hs:kq a b=gZ (qS a b):=by unfold kq; rw [hbad]; rfl
 rw [hs]
 generalize hC:chg a.rows b.rows=C
 have hCl:C.length≤b.rows.length:=by rw [← hC]; exact Bc _ _ _
 have hrl:=hb.rl
 have htl:=M.t
 have r0:BB ([]:List Int):=M9
 have rP:BB (pch b.rows C):=Ju _ _
 obtain ⟨t11,ht11⟩: ∃ t,t=pch b.rows C:=⟨_,rfl⟩
 obtain ⟨t10,ht10⟩: ∃ t,t=dC (C.length:Int)++t11:=⟨_,rfl⟩
 obtain ⟨t9,ht9⟩: ∃ t,t=k8 b.begun++t10:=⟨_,rfl⟩
 obtain ⟨t8,ht8⟩: ∃ t,t=dC b.chain++t9:=⟨_,rfl⟩
 obtain ⟨t7,ht7⟩: ∃ t,t=dC b.len++t8:=⟨_,rfl⟩
 obtain ⟨t6,ht6⟩: ∃ t,t=dC b.title.size++sbs b.title++t7:=⟨_,rfl⟩
 obtain ⟨t5,ht5⟩: ∃ t,t=dC b.y++t6:=⟨_,rfl⟩
 obtain ⟨t4,ht4⟩: ∃ t,t=dC b.x++t5:=⟨_,rfl⟩
 obtain ⟨t3,ht3⟩: ∃ t,t=dC b.h++t4:=⟨_,rfl⟩
 obtain ⟨t2,ht2⟩: ∃ t,t=dC b.w++t3:=⟨_,rfl⟩
 obtain ⟨t1,ht1⟩: ∃ t,t=dC b.k++t2:=⟨_,rfl⟩
 have hpd:qS a b=dC ((sf (mc a):Nat):Int)++t1:=by
  rw [ht1,ht2,ht3,ht4,ht5,ht6,ht7,ht8,ht9,ht10,ht11]
  unfold qS sn
  rw [hC]
  simp only [List.flatMap_cons,List.flatMap_nil,List.append_nil,List.append_assoc]
 have q11:BB t11:=by rw [ht11]; exact rP
 have q10:BB t10:=by rw [ht10]; exact fS (jJ _) q11
 have q9:BB t9:=by rw [ht9]; exact fS (FF b.begun) q10
 have q8:BB t8:=by rw [ht8]; exact fS (jJ b.chain) q9
 have q7:BB t7:=by rw [ht7]; exact fS (jJ b.len) q8
 have q6:BB t6:=by rw [ht6]; exact fS (fS (jJ _) (uo _)) q7
 have q5:BB t5:=by rw [ht5]; exact fS (jJ b.y) q6
 have q4:BB t4:=by rw [ht4]; exact fS (jJ b.x) q5
 have q3:BB t3:=by rw [ht3]; exact fS (jJ b.h) q4
 have q2:BB t2:=by rw [ht2]; exact fS (jJ b.w) q3
 have q1:BB t1:=by rw [ht1]; exact fS (jJ b.k) q2
 have hk:=M.k
 have hw:=M.w
 have hh:=M.h
 have hx:=M.x
 have hy:=M.y
 have hl:=M.l
 have hch:=M.c
 have hsum:=AQ (mc a)
 have zA':zA (gZ (qS a b))=(((sf (mc a):Nat):Int),bI t1):=by unfold zA; rw [hpd]; exact y8 q1 (by omega) (by omega)
 have zB':zB (gZ (qS a b))=(b.k,bI t2):=by unfold zB; rw [zA',ht1]; exact y8 q2 (by omega) (by omega)
 have zC':zC (gZ (qS a b))=(b.w,bI t3):=by unfold zC; rw [zB',ht2]; exact tN q3 (by omega) (by omega) (by omega)
 have zD':zD (gZ (qS a b))=(b.h,bI t4):=by unfold zD; rw [zC',ht3]; exact tN q4 (by omega) (by omega) (by omega)
 have zE':zE (gZ (qS a b))=(b.x,bI t5):=by unfold zE; rw [zD',ht4]; exact y8 q5 (by omega) (by omega)
 have zF':zF (gZ (qS a b))=(b.y,bI t6):=by unfold zF; rw [zE',ht5]; exact y8 q6 (by omega) (by omega)
 have zT':zT (gZ (qS a b))=(b.title,bI t7):=by unfold zT; rw [zF',ht6]; exact OA b.title q7 hb.tl
 have zG':zG (gZ (qS a b))=(b.len,bI t8):=by unfold zG; rw [zT',ht7]; exact y8 q8 (by omega) (by omega)
 have zH':zH (gZ (qS a b))=(b.chain,bI t9):=by unfold zH; rw [zG',ht8]; exact y8 q9 (by omega) (by omega)
 have zK':zK (gZ (qS a b))=(b.begun,bI t10):=by unfold zK; rw [zH',ht9]; exact OB b.begun q10 M.g M.b
 have zN':zN (gZ (qS a b))=((C.length:Int),bI t11):=by unfold zN; rw [zK',ht10]; exact y8 q11 (by omega) (by omega)
 have zR':zR (gZ (qS a b))=(prs b.rows C,bI []):=by
  unfold zR
  rw [zN',zC',zD',ht11]
  dsimp only
  rw [Int.toNat_natCast]
  have:=FI b.rows b.w b.h (by omega) M.r.symm hrl M.rr r0 C (-1) [] (by rw [← hC]; exact ux _ _ _) (fun y hy=>⟨by omega,by rw [← hC] at hy; exact Bd _ _ _ y hy⟩)
  rw [List.append_nil,List.nil_append] at this
  exact this
 refine ⟨by rw [zT'],?_⟩
 unfold wx
 rw [hma,if_neg (by simp),zR']
 have hE:vZ (bI [])=0:=KO
 rw [hE,if_neg (fun h=>h rfl),zA',if_neg (fun h=>h rfl),zD']
 dsimp only
 have hb0:=CC a.rows b.rows b.rows.length 0 (by omega)
 have hht:b.h.toNat=b.rows.length:=by have:=M.r; omega
 rw [hht,← hC,show mh a.rows (prs b.rows (chg a.rows b.rows)) b.rows.length 0 []=some b.rows from hb0]
 dsimp only
 have hset:nt (zS (gZ (qS a b))) b.rows=b:=by
  unfold nt zS
  rw [zB',zC',zD',zE',zF',zT',zG',zH',zK']
 rw [hset,hnb]
 rfl
end Go.Tw.X
set_option linter.unusedVariables false
set_option linter.unusedSimpArgs false
namespace Go.Tw.X
open Go Go.Tw
theorem uy (a b:aI) (hb:SW b) (pb:(b.rows.flatMap gL).length≤12000):(kq a b).size≤61000:=by
 unfold kq
 split
 ·exact Nat.zero_le _
 ·rw [lH]
  unfold qS
  have h1:=Aa a b hb
  have h2:=Jt a.rows b.rows pb hb.rl b.rows.length (Nat.le_refl _)
  have h3:(pch b.rows (chg a.rows b.rows)).length≤21000:=h2
  rw [List.length_append]
  omega
theorem LX:(jn.rows.flatMap gL).length≤12000:=by decide
theorem JD:nC jn=true:=by
 unfold nC
 have:ju jn=true:=Gt.2 rfl
 rw [this]
 rfl
structure CT1 (x:aI):Prop where
 sw:SW x
 pk:(x.rows.flatMap gL).length≤11600
end Go.Tw.X
set_option linter.unusedVariables false
set_option linter.unusedSimpArgs false
set_option maxHeartbeats 1000000
namespace Go.Tw.X
open Go Go.Tw
structure SG (s:aI):Prop where
 sw:SW s
 pk:(s.rows.flatMap gL).length≤12000
 may:nC s=true
theorem FJ:SG jn:=⟨BV,LX,JD⟩
theorem FK {s:aI} (g:SG s) (he:ju s=false):pB s=false:=by
 unfold pB
 rw [he,g.may]
 rfl
theorem JE {a b c:aI} (ga:SG a) (gb:SG b) (hb:ju b=false) (gc:SG c):lF c (kq a b)=some (wx c (kq a b)):=by
 have h1:=uy a b gb.sw gb.pk
 have h2:=(Ad a b gb.sw ga.may (FK gb hb)).1
 refine JC c _ gc.sw gc.pk (by omega) ?_
 rw [h2]
 exact gb.sw.tl
theorem CD {a b:aI} (ga:SG a) (gb:SG b) (hb:ju b=false):wx a (kq a b)=(b,0):=(Ad a b gb.sw ga.may (FK gb hb)).2
theorem FL {a b:aI} (ga:SG a):iA a b=some (decide (a=b)):=Ia a b ga.sw
end Go.Tw.X

import Derived.Test.YtgiokjfkjaoeiaaGreatDoorXq1
import Derived.Test.YtgiokjfkjaoeiaaGreatDoorXp1
import Derived.Test.YtgiokjfkjaoeiaaGreatDoorFw2
set_option linter.unusedVariables false
set_option linter.unusedSimpArgs false
namespace Go.Tw.X
open Go Go.Tw
def tst (s:bC):bM:=⟨s.iY,s.back,s.bold,s.under,s.dT⟩
def bN (b:Bool) (n:Int):Int:=if b then n else 0
def nT (s:bC):Int:=if 0<=s.iY/\s.iY < 9/\0<=s.back/\s.back < 9 then s.iY+9*s.back+bN s.bold 81+bN s.under 162+bN s.dT 324 else 0
theorem Pf (b:Bool) (n:Int):oP b n=some (bN b n):=by cases b <;> rfl
theorem Ic (s:bC):lW s=some (decide (0<=s.iY/\s.iY < 9/\0<=s.back/\s.back < 9)):=by
 unfold lW
 by_cases a:0<=s.iY <;> by_cases b:s.iY < 9 <;> by_cases c:0<=s.back <;> by_cases d:s.back < 9 <;> simp [a,b,c,d,ge_iff_le]
theorem ML (s:bC):uo (tst s)=some (decide (0<=s.iY/\s.iY < 9/\0<=s.back/\s.back < 9)):=by
 unfold uo
 have e1:(s.iY<=8)=(s.iY < 9):=propext (by omega)
 have e2:(s.back<=8)=(s.back < 9):=propext (by omega)
 simp only [tst,e1,e2]
 by_cases a:0<=s.iY <;> by_cases b:s.iY < 9 <;> by_cases c:0<=s.back <;> by_cases d:s.back < 9 <;> simp [a,b,c,d,ge_iff_le]
theorem J2 (b:Bool) (n:Int) (h:0<=n):0<=bN b n/\bN b n<=n:=by cases b <;> simp [bN,h]
theorem J3 (s:bC):lX s=some (nT s):=by
 unfold lX nT
 rw [Ic,aA]
 by_cases h:0<=s.iY/\s.iY < 9/\0<=s.back/\s.back < 9
 ·have h1:=J2 s.bold 81 (by omega)
  have h2:=J2 s.under 162 (by omega)
  have h3:=J2 s.dT 324 (by omega)
  rw [decide_eq_true h,if_pos h]
  simp only [Bool.not_true,cond_false,Pf,aA]
  rw [w64 (x:=9*s.back) (by omega) (by omega),w64 (x:=s.iY+9*s.back) (by omega) (by omega),w64 (x:=s.iY+9*s.back+bN s.bold 81) (by omega) (by omega),w64 (x:=s.iY+9*s.back+bN s.bold 81+bN s.under 162) (by omega) (by omega),w64 (by omega) (by omega)]
 ·rw [decide_eq_false h,if_neg h]
  rfl
theorem DT (s:bC):mY (tst s)=some (nT s):=by
 unfold mY nT
 rw [ML,aA]
 by_cases h:0<=s.iY/\s.iY < 9/\0<=s.back/\s.back < 9
 ·rw [decide_eq_true h,if_pos h]
  simp only [Bool.not_true,cond_false,tst]
  rw [w64 (x:=9*s.back) (by omega) (by omega),w64 (x:=s.iY+9*s.back) (by omega) (by omega)]
  cases s.bold <;> cases s.under <;> cases s.dT <;> simp only [cond_true,cond_false,aA,bN] <;> simp <;> (try simp only [IntKind.wrap_i64]) <;> (try omega)
 ·rw [decide_eq_false h,if_neg h]
  rfl
def ym (s:bC) (n:Int):bC:=if n=0 then ⟨0,0,false,false,false⟩ else if n=1\/n=22 then ⟨s.iY,s.back,n == 1,s.under,s.dT⟩ else if n=4\/n=24 then ⟨s.iY,s.back,s.bold,n == 4,s.dT⟩ else if n=7\/n=27 then ⟨s.iY,s.back,s.bold,s.under,n == 7⟩ else if 30<=n/\n < 38 then ⟨n - 29,s.back,s.bold,s.under,s.dT⟩ else if n=39 then ⟨0,s.back,s.bold,s.under,s.dT⟩ else if 40<=n/\n < 48 then ⟨s.iY,n - 39,s.bold,s.under,s.dT⟩ else if n=49 then ⟨s.iY,0,s.bold,s.under,s.dT⟩ else s
theorem eD {a b:Int} (h: ¬ a=b):(a == b)=false:=by simpa using h
theorem od {a b:Int} (h:a=b):(a == b)=true:=by simpa using h
theorem wB (n a b:Int):((bif (n == a) then some true else some (n == b)):Option Bool)=some (decide (n=a\/n=b)):=by
 by_cases h:n=a
 ·simp [h]
 ·rw [eD h,cond_false]
  by_cases h2:n=b
  ·simp [h2]
  ·rw [eD h2,decide_eq_false (by omega)]
theorem MM (n a b:Int):((bif (decide (n>=a)) then some (decide (n < b)) else some false):Option Bool)=some (decide (a<=n/\n < b)):=Cg (a<=n) (n < b)
theorem MN (n a b:Int):((bif (decide (n>=a)) then some (decide (n<=b)) else some false):Option Bool)=some (decide (a<=n/\n<=b)):=Cg (a<=n) (n<=b)
theorem Ph (s:bC) (n:Int):lY s n=some (ym s n):=by
 unfold lY ym
 simp only [wB,MM,aA]
 by_cases h0:n=0
 ·simp [h0,mH]
 ·have b0:(n == 0)=false:=by simpa using h0
  rw [b0,cond_false,if_neg h0]
  by_cases h1:n=1\/n=22
  ·rw [decide_eq_true h1,if_pos h1]; rfl
  ·rw [decide_eq_false h1,cond_false,if_neg h1]
   by_cases h2:n=4\/n=24
   ·rw [decide_eq_true h2,if_pos h2]; rfl
   ·rw [decide_eq_false h2,cond_false,if_neg h2]
    by_cases h3:n=7\/n=27
    ·rw [decide_eq_true h3,if_pos h3]; rfl
    ·rw [decide_eq_false h3,cond_false,if_neg h3]
     by_cases h4:30<=n/\n < 38
     ·rw [decide_eq_true h4,cond_true,if_pos h4,w64 (x:=n - 30) (by omega) (by omega),w64 (by omega) (by omega),show n - 30+1=n - 29 by omega]; rfl
     ·rw [decide_eq_false h4,cond_false,if_neg h4]
      by_cases h5:n=39
      ·simp [h5]
      ·have b5:(n == 39)=false:=by simpa using h5
       rw [b5,cond_false,if_neg h5]
       by_cases h6:40<=n/\n < 48
       ·rw [decide_eq_true h6,cond_true,if_pos h6,w64 (x:=n - 40) (by omega) (by omega),w64 (by omega) (by omega),show n - 40+1=n - 39 by omega]; rfl
       ·rw [decide_eq_false h6,cond_false,if_neg h6]
        by_cases h7:n=49
        ·simp [h7]
        ·rw [eD h7,if_neg h7]; rfl
theorem MO (s:bC) (n k:Int):((Option.bind ((bif (n == 0) then some (bM.mk 0 0 false false false) else some (tst s)):Option bM) λa=>(Option.bind ((bif (n == 1) then some true else some (n == 22)):Option Bool) λh=>(Option.bind ((bif h then some (bM.mk a.iY a.back (decide (n < 10)) a.under a.dT) else some a):Option bM) λb=>(Option.bind ((bif (n == 4) then some true else some (n == 24)):Option Bool) λi=>(Option.bind ((bif i then some (bM.mk b.iY b.back b.bold (decide (n < 10)) b.dT) else some b):Option bM) λc=>(Option.bind ((bif (n == 7) then some true else some (n == 27)):Option Bool) λj=>(Option.bind ((bif j then some (bM.mk c.iY c.back c.bold c.under (decide (n < 10))) else some c):Option bM) λd=>(Option.bind ((bif (decide (n>=30)) then some (decide (n<=37)) else some false):Option Bool) λl=>(Option.bind ((bif l then some (bM.mk (IntKind.i64.wrap (n - 29)) d.back d.bold d.under d.dT) else some d):Option bM) λe=>(Option.bind ((bif (n == 39) then some (bM.mk 0 e.back e.bold e.under e.dT) else some e):Option bM) λf=>(Option.bind ((bif (decide (n>=40)) then some (decide (n<=47)) else some false):Option Bool) λm=>(Option.bind ((bif m then some (bM.mk f.iY (IntKind.i64.wrap (n - 39)) f.bold f.under f.dT) else some f):Option bM) λg=>(bif (n == 49) then some (k,(bM.mk g.iY 0 g.bold g.under g.dT)) else some (k,g)))))))))))))):Option (Int×bM))=some (k,tst (ym s n)):=by
 simp only [wB,MN,aA]
 unfold ym
 by_cases h0:n=0
 ·subst h0; simp [tst,aA]
 ·have b0:(n == 0)=false:=by simpa using h0
  rw [b0,cond_false,if_neg h0,aA]
  by_cases h1:n=1\/n=22
  ·rcases h1 with rfl | rfl <;> simp [tst,aA]
  ·rw [decide_eq_false h1,cond_false,if_neg h1,aA]
   by_cases h2:n=4\/n=24
   ·rcases h2 with rfl | rfl <;> simp [tst,aA]
   ·rw [decide_eq_false h2,cond_false,if_neg h2,aA]
    by_cases h3:n=7\/n=27
    ·rcases h3 with rfl | rfl <;> simp [tst,aA]
    ·rw [decide_eq_false h3,cond_false,if_neg h3,aA]
     by_cases h4:30<=n/\n < 38
     ·have e4:decide (30<=n/\n<=37)=true:=decide_eq_true (by omega)
      have e5:(n == 39)=false:=by simp; omega
      have e6:decide (40<=n/\n<=47)=false:=decide_eq_false (by omega)
      have e7:(n == 49)=false:=by simp; omega
      rw [e4,e5,e6,e7,if_pos h4,w64 (x:=n - 29) (by omega) (by omega)]
      rfl
     ·have e4:decide (30<=n/\n<=37)=false:=decide_eq_false (by omega)
      rw [e4,if_neg h4,cond_false,aA]
      by_cases h5:n=39
      ·subst h5; simp [tst,aA]
      ·have b5:(n == 39)=false:=by simpa using h5
       rw [b5,cond_false,if_neg h5,aA]
       by_cases h6:40<=n/\n < 48
       ·have e6:decide (40<=n/\n<=47)=true:=decide_eq_true (by omega)
        have e7:(n == 49)=false:=by simp; omega
        rw [e6,e7,if_pos h6,w64 (x:=n - 39) (by omega) (by omega)]
        rfl
       ·have e6:decide (40<=n/\n<=47)=false:=decide_eq_false (by omega)
        rw [e6,if_neg h6,cond_false,aA]
        by_cases h7:n=49
        ·simp [h7,tst]
        ·rw [eD h7,if_neg h7]; rfl
def qo:List Int->Nat
 | 5::l=>min 2 (l.length+1)
 | 2::l=>min 4 (l.length+1)
 | _=>0
theorem J4 (l:List Int):qo l<=l.length:=by
 unfold qo
 split <;> simp <;> omega
theorem MP (l:List Int):oY l=some (qo l:Int):=by
 unfold oY
 cases l with
 | nil=>rfl
 | cons a l =>
  have h0:decide (((a::l).length:Int) > 0)=true:=by simp
  have h1:idx (a::l) 0=some a:=Jr _
  simp only [h0,cond_true,h1,aA]
  by_cases h5:a=5
  ·subst h5
   simp only [beq_self_eq_true,cond_true,aA,qo,dP,List.length_cons]
   first | done | (congr 1; omega)
  ·have e5:(a == 5)=false:=by simpa using h5
   simp only [e5,cond_false,aA]
   by_cases h2:a=2
   ·subst h2
    simp only [beq_self_eq_true,cond_true,aA,qo,dP,List.length_cons]
    first | done | (congr 1; omega)
   ·have e2:(a == 2)=false:=by simpa using h2
    simp only [e2,cond_false]
    unfold qo
    split
    ·rename_i heq; injection heq with h; exact absurd h h5
    ·rename_i heq; injection heq with h; exact absurd h h2
    ·rfl
def wC (s:bC) (l:List Int):bC :=
 match l with
 | []=>s
 | n::l=>if n=38\/n=48 then wC s (l.drop (qo l)) else wC (ym s n) l
termination_by l.length
decreasing_by all_goals simp_wf <;> omega
theorem DU (s:bC):wC s []=s:=by unfold wC; rfl
theorem BE (s:bC) (n:Int) (l:List Int):wC s (n::l)=if n=38\/n=48 then wC s (l.drop (qo l)) else wC (ym s n) l:=by rw [wC]
def Ie (s:bC) (l:List Int):bC:=if l.length=0 then ⟨0,0,false,false,false⟩ else wC s l
theorem MR (l:List Int):((l.length:Int) == 0)=decide (l.length=0):=by
 by_cases h:l.length=0
 ·simp [h]
 ·rw [decide_eq_false h,eD (by omega)]
theorem MS (s:bC) (l:List Int) (hl:l.length<=1000000):lZ s l=some (Ie s l):=by
 unfold lZ Ie
 rw [MR]
 by_cases h0:l.length=0
 ·rw [decide_eq_true h0,if_pos h0]; rfl
 ·rw [decide_eq_false h0,if_neg h0,cond_false]
  refine qQ (λx=>0<=x.2/\x.2<=l.length/\wC x.1 (l.drop x.2.toNat)=wC s l) (λx=>l.length - x.2.toNat) (λr=>r=wC s l) ⟨Int.le_refl 0,by dsimp only; omega,by simp⟩ ?_ ?_
  ·rintro ⟨q,i⟩ ⟨h1,h2,h3⟩
   dsimp only at h1 h2 h3 ⊢
   obtain ⟨i,rfl⟩:=Int.eq_ofNat_of_zero_le h1
   rw [Int.toNat_natCast] at h3
   by_cases hi:i < l.length
   ·left
    rw [decide_eq_true (by omega:(i:Int) < l.length),cond_true,dB _ _ hi,aA,wB,aA]
    rw [List.drop_eq_getElem_cons hi,BE] at h3
    by_cases hn:l[i]=38\/l[i]=48
    ·rw [if_pos hn] at h3
     have hsk:=J4 (l.drop (i+1))
     rw [List.length_drop] at hsk
     rw [decide_eq_true hn,cond_true,w64 (x:=(i:Int)+1) (by omega) (by omega),show (i:Int)+1=((i+1:Nat):Int) by omega,bP (by omega) (by omega) (by omega),aA,tu,List.take_length,MP,aA,aA]
     dsimp only
     refine ⟨_,rfl,⟨?_,?_,?_⟩,?_⟩
     ·dsimp only; rw [w64 (x:=(i:Int)+(qo (l.drop (i+1)):Int)) (by omega) (by omega),w64 (by omega) (by omega)]; omega
     ·dsimp only; rw [w64 (x:=(i:Int)+(qo (l.drop (i+1)):Int)) (by omega) (by omega),w64 (by omega) (by omega)]; omega
     ·dsimp only; rw [w64 (x:=(i:Int)+(qo (l.drop (i+1)):Int)) (by omega) (by omega),w64 (by omega) (by omega),<- h3,List.drop_drop]
      congr 2
      omega
     ·dsimp only; rw [w64 (x:=(i:Int)+(qo (l.drop (i+1)):Int)) (by omega) (by omega),w64 (by omega) (by omega)]; omega
    ·rw [if_neg hn] at h3
     rw [decide_eq_false hn,cond_false,aA,Ph,aA,aA]
     dsimp only
     rw [w64 (x:=(i:Int)+1) (by omega) (by omega)]
     refine ⟨_,rfl,⟨by dsimp only; omega,by dsimp only; omega,?_⟩,by dsimp only; omega⟩
     dsimp only
     rw [show ((i:Int)+1).toNat=i+1 by omega,h3]
   ·right
    rw [decide_eq_false (by omega: ¬ (i:Int) < l.length),cond_false]
    rw [List.drop_eq_nil_of_le (by omega),DU] at h3
    exact ⟨q,rfl,h3⟩
  ·rintro r rfl
   rfl
theorem DV (l:List Int):(∃ r,l=5::r/\qo l=min 2 (r.length+1))\/(∃ r,l=2::r/\qo l=min 4 (r.length+1))\/(qo l=0/\(∀ a r,l=a::r->a≠5/\a≠2)):=by
 cases l with
 | nil=>exact .inr (.inr ⟨rfl,λa r h=>by cases h⟩)
 | cons a l =>
  by_cases h5:a=5
  ·subst h5; exact .inl ⟨l,rfl,rfl⟩
  ·by_cases h2:a=2
   ·subst h2; exact .inr (.inl ⟨l,rfl,rfl⟩)
   ·refine .inr (.inr ⟨?_,λb r h=>by injection h with h1 _; subst h1; exact ⟨h5,h2⟩⟩)
    unfold qo
    split
    ·rename_i heq; injection heq with h; exact absurd h h5
    ·rename_i heq; injection heq with h; exact absurd h h2
    ·rfl
theorem DW (l:List Int) (k n:Nat) (h:l.length<=n):l.drop (min k n)=l.drop k:=by
 by_cases hk:k<=n
 ·rw [Nat.min_eq_left hk]
 ·rw [List.drop_eq_nil_of_le (by omega),List.drop_eq_nil_of_le (by omega)]
theorem J5 (s:bC) (l:List Int) (hl:l.length<=1000000):uq (tst s) l=some (tst (Ie s l)):=by
 unfold uq Ie
 rw [MR]
 by_cases h0:l.length=0
 ·rw [decide_eq_true h0,if_pos h0]; rfl
 ·rw [decide_eq_false h0,if_neg h0,cond_false]
  refine qQ (λx=> ∃ q,x.1=tst q/\0<=x.2.1/\x.2.1<=l.length/\0<=x.2.2/\x.2.2<=4/\wC q (l.drop (x.2.1.toNat+x.2.2.toNat))=wC s l) (λx=>l.length - x.2.1.toNat) (λr=>r=tst (wC s l)) ⟨s,rfl,Int.le_refl 0,by dsimp only; omega,Int.le_refl 0,by dsimp only; omega,by simp⟩ ?_ ?_
  ·rintro ⟨q',i,k⟩ ⟨q,e,h1,h2,h4,h5,h3⟩
   dsimp only at e h1 h2 h3 h4 h5 ⊢
   subst e
   obtain ⟨i,rfl⟩:=Int.eq_ofNat_of_zero_le h1
   obtain ⟨k,rfl⟩:=Int.eq_ofNat_of_zero_le h4
   rw [Int.toNat_natCast,Int.toNat_natCast] at h3
   by_cases hi:i < l.length
   ·left
    rw [decide_eq_true (by omega:(i:Int) < l.length),cond_true,dB _ _ hi,aA,w64 (x:=(i:Int)+1) (by omega) (by omega)]
    by_cases hk:0 < k
    ·rw [decide_eq_true (by omega:(k:Int) > 0),cond_true,aA,w64 (x:=(k:Int) - 1) (by omega) (by omega)]
     dsimp only
     refine ⟨_,rfl,⟨q,rfl,by dsimp only; omega,by dsimp only; omega,by dsimp only; omega,by dsimp only; omega,?_⟩,by dsimp only; omega⟩
     dsimp only
     rw [<- h3]
     congr 2
     omega
    ·obtain rfl:k=0:=by omega
     rw [Nat.add_zero,List.drop_eq_getElem_cons hi,BE] at h3
     rw [decide_eq_false (by omega: ¬ ((0:Nat):Int) > 0),cond_false,wB,aA]
     by_cases hn:l[i]=38\/l[i]=48
     ·rw [if_pos hn] at h3
      rw [decide_eq_true hn,cond_true,show (i:Int)+1=((i+1:Nat):Int) by omega]
      have hd:(l.drop (i+1)).length<=l.length:=by simp
      by_cases hi1:i+1 < l.length
      ·rw [decide_eq_true (by omega:((i+1:Nat):Int) < l.length)]
       simp only [cond_true,dB _ _ hi1,aA]
       have hc:=DV (l.drop (i+1))
       rw [List.drop_eq_getElem_cons hi1] at hc
       by_cases a5:l[i+1]=5
       ·rw [a5]
        simp only [beq_self_eq_true,cond_true,aA]
        refine ⟨_,rfl,⟨q,rfl,by dsimp only; omega,by dsimp only; omega,by dsimp only; decide,by dsimp only; decide,?_⟩,by dsimp only; omega⟩
        dsimp only
        rcases hc with ⟨r,e1,e2⟩ | ⟨r,e1,_⟩ | ⟨_,e1⟩
        ·injection e1 with _ er
         rw [<- h3,List.drop_eq_getElem_cons hi1,e2,<- er]
         rw [DW _ _ _ (by simp; omega),<- List.drop_eq_getElem_cons hi1,List.drop_drop]
         congr 2
        ·injection e1 with er _
         omega
        ·exact absurd a5 (e1 _ _ rfl).1
       ·rw [eD a5]
        simp only [cond_false,aA]
        by_cases a2:l[i+1]=2
        ·rw [a2]
         simp only [beq_self_eq_true,cond_true,aA]
         refine ⟨_,rfl,⟨q,rfl,by dsimp only; omega,by dsimp only; omega,by dsimp only; decide,by dsimp only; decide,?_⟩,by dsimp only; omega⟩
         dsimp only
         rcases hc with ⟨r,e1,e2⟩ | ⟨r,e1,e2⟩ | ⟨_,e1⟩
         ·injection e1 with er _
          omega
         ·injection e1 with _ er
          rw [<- h3,List.drop_eq_getElem_cons hi1,e2,<- er]
          rw [DW _ _ _ (by simp; omega),<- List.drop_eq_getElem_cons hi1,List.drop_drop]
          congr 2
         ·exact absurd a2 (e1 _ _ rfl).2
        ·rw [eD a2]
         simp only [cond_false,aA]
         refine ⟨_,rfl,⟨q,rfl,by dsimp only; omega,by dsimp only; omega,by dsimp only; omega,by dsimp only; omega,?_⟩,by dsimp only; omega⟩
         dsimp only
         rcases hc with ⟨r,e1,e2⟩ | ⟨r,e1,e2⟩ | ⟨e2,_⟩
         ·injection e1 with er _
          exact absurd er a5
         ·injection e1 with er _
          exact absurd er a2
         ·rw [<- h3,List.drop_eq_getElem_cons hi1,e2,<- List.drop_eq_getElem_cons hi1,List.drop_drop]
          congr 2
      ·rw [decide_eq_false (by omega: ¬ ((i+1:Nat):Int) < l.length)]
       simp only [cond_false,aA]
       rw [List.drop_eq_nil_of_le (i:=i+1) (by omega),List.drop_nil] at h3
       refine ⟨_,rfl,⟨q,rfl,by dsimp only; omega,by dsimp only; omega,by dsimp only; omega,by dsimp only; omega,?_⟩,by dsimp only; omega⟩
       dsimp only
       rw [List.drop_eq_nil_of_le (by omega)]
       exact h3
     ·rw [if_neg hn] at h3
      rw [decide_eq_false hn,cond_false]
      rw [MO,aA]
      dsimp only
      refine ⟨_,rfl,⟨_,rfl,by dsimp only; omega,by dsimp only; omega,by dsimp only; omega,by dsimp only; omega,?_⟩,by dsimp only; omega⟩
      dsimp only
      rw [show ((i:Int)+1).toNat+((0:Nat):Int).toNat=i+1 by omega,h3]
   ·right
    rw [decide_eq_false (by omega: ¬ (i:Int) < l.length),cond_false]
    rw [List.drop_eq_nil_of_le (by omega),DU] at h3
    exact ⟨_,rfl,by rw [h3]⟩
  ·rintro r rfl
   rfl
def aO (s:aB):aP:=⟨uw s.g,s.spot.x,s.spot.y,tst s.spot.aM,s.saved.x,s.saved.y,tst s.saved.aM,s.waiting,s.top,s.aL,s.aZ,s.title⟩
structure SJ (W:Nat) (s:aB):Prop where
 gw:s.g.w=W
 gi:GI W s.g.l
 x0:0<=s.spot.x
 x1:s.spot.x < W
 y0:0<=s.spot.y
 y1:s.spot.y < s.g.l.length
 t0:0<=s.top
 tb:s.top<=s.aL
 b1:s.aL < s.g.l.length
structure SI (W:Nat) (s:aB):Prop extends SJ W s where
 wt:s.waiting=true->s.spot.x=W - 1
theorem SJ.ge {W:Nat} {s:aB} (h:SJ W s):s.g=⟨W,s.g.l⟩:=by
 have:=h.gw
 cases hg:s.g
 rw [hg] at this
 simp at this
 rw [this]
def xk (W:Nat) (off:List aE):Prop:=off.length<=1000 /\ ∀ r∈off,gok W r
theorem qJ (W:Nat):xk W []:=⟨by simp,λr hr=>by cases hr⟩
structure Sim (W:Nat) (p:Option (List aE×aB)) (q:Option (aP×List aX)) (off:List aE) (s':aB):Prop where
 p:p=some (off,s')
 q:q=some (aO s',off.map told)
 i:SI W s'
 o:xk W off
theorem pq (s:aB):bY s=some (nT s.spot.aM):=by unfold bY; rw [J3]; rfl
theorem xm (s:aB):mY (aO s).s=some (nT s.spot.aM):=DT _
theorem tC (g:aY):dX g=some (g.w,(g.l.length:Int)):=rfl
def mvS (s:aB) (x y:Int):aB:=⟨s.g,⟨max 0 (min x (s.g.w - 1)),max 0 (min y ((s.g.l.length:Int) - 1)),s.spot.aM⟩,s.saved,false,s.top,s.aL,s.aZ,s.title⟩
theorem p9 (n lo hi:Int):gV n lo hi=some (max lo (min n hi)):=by
 unfold gV
 rw [gQ,dP]
section
variable {W : Nat} {s : aB}
theorem As (h:SJ W s):dZ s=some (s.g.w - 1,(s.g.l.length:Int) - 1):=by
 have h1:=h.gi.w2
 have h2:=h.gi.l2
 have h3:=h.gw
 unfold dZ
 rw [tC,aA]
 dsimp only
 rw [w64 (by omega) (by omega),w64 (by omega) (by omega)]
theorem nh (h:SJ W s) (x y:Int):bG s x y=some (mvS s x y):=by
 unfold bG
 rw [As h,aA,p9,aA,p9,aA]
 rfl
theorem kK (h:SJ W s) (x y:Int):dL (aO s) x y=some (aO (mvS s x y)):=by
 have h1:=h.gi.w2
 have h2:=h.gi.l2
 have h3:=h.gw
 have e:((aO s).g.l.length:Int)=s.g.l.length:=by simp [aO,uw]
 unfold dL
 rw [e,show (aO s).g.w=s.g.w from rfl,w64 (by omega) (by omega),w64 (by omega) (by omega),gQ,gQ,dP,dP]
 rfl
theorem qd (h:SJ W s) (x y:Int):SI W (mvS s x y):=by
 have h1:=h.gi.w1
 have h2:=h.gi.l1
 have h3:=h.gw
 exact ⟨⟨h3,h.gi,by simp only [mvS]; omega,by simp only [mvS]; omega,by simp only [mvS]; omega,by simp only [mvS]; omega,h.t0,h.tb,h.b1⟩,λe=>by cases e⟩
theorem SJ.get (h:SJ W s) {y:Int} (h0:0<=y) (h1:y < s.g.l.length):idx (aO s).g.l y=some (told (ns s.g.l y))/\gok W (ns s.g.l y):=by
 obtain ⟨n,rfl⟩:=Int.eq_ofNat_of_zero_le h0
 have hn:n < s.g.l.length:=by omega
 rw [show (aO s).g.l=s.g.l.map told from rfl,fT,List.getElem?_map,List.getElem?_eq_getElem hn]
 exact ⟨by rw [GC hn]; rfl,by rw [GC hn]; exact h.gi.rs _ (List.getElem_mem hn)⟩
theorem SJ.J6 (h:SJ W s) (y:Int):fJ s.g y=some (ns s.g.l y):=by
 rw [h.ge]
 exact O0 _ _ _ h.gi.len
def seS (W:Nat) (s:aB) (y:Int) (r:aE):aB:=⟨⟨W,vo W s.g.l y r⟩,s.spot,s.saved,s.waiting,s.top,s.aL,s.aZ,s.title⟩
theorem GW (h:SJ W s) (y:Int) {r:aE} (hr:okR r.cells):SJ W (seS W s y r) :=
 ⟨rfl,JO h.gi y r hr,h.x0,h.x1,h.y0,by simp only [seS,mf]; exact h.y1,h.t0,h.tb,by simp only [seS,mf]; exact h.b1⟩
theorem SJ.J7 (h:SJ W s) (y:Int) {r:aE} (hr:r.cells.length<=1000000):eW s.g y r=some (inG s.g.l y,⟨W,vo W s.g.l y r⟩):=by
 rw [h.ge]
 exact JC W h.gi.w2 _ _ _ hr
theorem SJ.Qx (h:SJ W s) (y:Int) {r:aE} (hr:r.cells.length<=1000000):p7 (aO s).g y (told r)=some (⟨W,(vo W s.g.l y r).map told⟩,inG s.g.l y):=by
 rw [show (aO s).g=⟨W,s.g.l.map told⟩ by show uw s.g=_; rw [uw,h.gw]]
 exact Me W h.gi.w2 _ _ _ hr (by have:=h.gi.l2; omega)
theorem uD (h:SJ W s) {r:aE} (hr:r.cells.length<=1000000):me (aO s) (told r)=some (aO (seS W s s.spot.y r)):=by
 unfold me
 rw [show (aO s).y=s.spot.y from rfl,h.Qx _ hr,aA]
 rfl
def upS (W:Nat) (s:aB) (n:Int):aB:=⟨⟨W,upL W s.g.l s.top s.aL n (nT s.spot.aM)⟩,s.spot,s.saved,s.waiting,s.top,s.aL,s.aZ,s.title⟩
def upF (s:aB) (n:Int):List aE:=if s.top > 0 then [] else upO s.g.l s.top s.aL n
theorem vd (W:Nat) (l:List aE) (t b n q:Int) (h1:1<=l.length):(upL W l t b n q).length=l.length:=by
 unfold upL
 split
 ·rfl
 ·rename_i h
  obtain ⟨e,e1,e2⟩:=sB l t b h h1
  have e3:l.length=(l.take (loS l t)).length+(rgB l t b).length+(l.drop (loS l b+1)).length:=by rw [<- List.length_append,<- List.length_append,<- e]
  rw [List.length_append,List.length_append,Ai]
  omega
theorem yn (W:Nat) (l:List aE) (t b n q:Int) (h1:1<=l.length):(uz W l t b n q).length=l.length:=by
 unfold uz
 split
 ·rfl
 ·rename_i h
  obtain ⟨e,e1,e2⟩:=sB l t b h h1
  have e3:l.length=(l.take (loS l t)).length+(rgB l t b).length+(l.drop (loS l b+1)).length:=by rw [<- List.length_append,<- List.length_append,<- e]
  rw [List.length_append,List.length_append,wY]
  omega
theorem Oe (h:SJ W s) (n:Int):SJ W (upS W s n) :=
 ⟨rfl,N9 h.gi _ _ _ _,h.x0,h.x1,h.y0,by simp only [upS,vd _ _ _ _ _ _ h.gi.l1]; exact h.y1,h.t0,h.tb,by simp only [upS,vd _ _ _ _ _ _ h.gi.l1]; exact h.b1⟩
theorem J8 (h:SJ W s) (n:Int):xk W (upF s n):=by
 unfold upF
 split
 ·exact qJ W
 ·exact ⟨Nat.le_trans (Ml _ _ _ _) h.gi.l2,λr hr=>h.gi.rs r (Mk hr)⟩
theorem J9 (h:SJ W s) (n:Int):iW s n=some (upF s n,upS W s n):=by
 unfold iW upF
 rw [pq,aA]
 have e:gB s.g s.top s.aL n (nT s.spot.aM)=some (upO s.g.l s.top s.aL n,⟨W,upL W s.g.l s.top s.aL n (nT s.spot.aM)⟩):=by
  rw [h.ge]; exact (Cl h.gi _ _ _ _).1
 rw [e,aA]
 by_cases ht:s.top > 0
 ·rw [decide_eq_true ht,if_pos ht]; rfl
 ·rw [decide_eq_false ht,if_neg ht]; rfl
theorem At (h:SJ W s):(aO s).g=⟨W,s.g.l.map told⟩:=by show uw s.g=_; rw [uw,h.gw]
theorem BF (h:SJ W s) (n:Int):pc (aO s) n=some (aO (upS W s n),(upF s n).map told):=by
 unfold pc upF
 rw [xm,aA,At h,show (aO s).top=s.top from rfl,show (aO s).aL=s.aL from rfl,(Cl h.gi _ _ _ _).2,aA]
 by_cases ht:s.top > 0
 ·rw [decide_eq_true ht,if_pos ht]; rfl
 ·rw [decide_eq_false ht,if_neg ht]; rfl
def nwS (s:aB):aB:=⟨s.g,s.spot,s.saved,false,s.top,s.aL,s.aZ,s.title⟩
theorem oa (h:SJ W s):SJ W (nwS s):=⟨h.gw,h.gi,h.x0,h.x1,h.y0,h.y1,h.t0,h.tb,h.b1⟩
def liS (W:Nat) (s:aB):aB:=if s.spot.y=s.aL then upS W (nwS s) 1 else mvS (nwS s) s.spot.x (s.spot.y+1)
def liF (s:aB):List aE:=if s.spot.y=s.aL then upF (nwS s) 1 else []
theorem iT (h:SJ W s):Sim W (dE s) (jB (aO s)) (liF s) (liS W s):=by
 have h1:=h.y1
 have h2:=h.gi.l2
 have h3:=h.y0
 by_cases hy:s.spot.y=s.aL
 ·refine ⟨?_,?_,?_,?_⟩
  ·unfold dE liF liS
   rw [od hy,cond_true,if_pos hy,if_pos hy,<- nwS,J9 (oa h)]; rfl
  ·unfold jB liF liS
   rw [show ((aO s).y == (aO s).aL)=true from od hy,cond_true,if_pos hy,if_pos hy]
   have e:=BF (oa h) 1
   rw [show (aP.mk (aO s).g (aO s).x (aO s).y (aO s).s (aO s).sX (aO s).sY (aO s).sS false (aO s).top (aO s).aL (aO s).aZ (aO s).title)=aO (nwS s) from rfl,e]; rfl
  ·unfold liS; rw [if_pos hy]; exact ⟨Oe (oa h) 1,λe=>by cases e⟩
  ·unfold liF; rw [if_pos hy]; exact J8 (oa h) 1
 ·refine ⟨?_,?_,?_,?_⟩
  ·unfold dE liF liS
   rw [eD hy,cond_false,if_neg hy,if_neg hy,w64 (by omega) (by omega),<- nwS,nh (oa h)]; rfl
  ·unfold jB liF liS
   rw [show ((aO s).y == (aO s).aL)=false from eD hy,cond_false,if_neg hy,if_neg hy,show (aO s).y=s.spot.y from rfl,w64 (by omega) (by omega)]
   rw [show (aP.mk (aO s).g (aO s).x s.spot.y (aO s).s (aO s).sX (aO s).sY (aO s).sS false (aO s).top (aO s).aL (aO s).aZ (aO s).title)=aO (nwS s) from rfl,show (aO s).x=s.spot.x from rfl,kK (oa h)]; rfl
  ·unfold liS; rw [if_neg hy]; exact qd (oa h) _ _
  ·unfold liF; rw [if_neg hy]; exact qJ W
end
section
variable {W : Nat} {s : aB}
theorem gok.le {W:Nat} {r:aE} (h:gok W r) (hW:W<=1000):r.cells.length<=1000:=by rw [h.1]; exact hW
theorem Ka {l:List aG} (h:okR l) (q:Int):okR (rC l q):=wW h _ (show rok 32 from ⟨by decide,by decide⟩)
theorem Ig (l:List aG) (q:Int):(rC l q).length=l.length:=by simp [rC]
def r1S (s:aB):aE:=⟨(ns s.g.l s.spot.y).cells,true⟩
def r2S (s:aB):aE:=⟨jY 0 (rC (ns s.g.l s.spot.y).cells (nT s.spot.aM)),true⟩
def r3S (s:aB) (r:Int):aE:=⟨jY 0 (x8 (ns s.g.l s.spot.y).cells s.spot.x r (nT s.spot.aM)),false⟩
theorem SJ.row (h:SJ W s):gok W (ns s.g.l s.spot.y):=(h.get h.y0 h.y1).2
theorem Of (h:SJ W s):gok W (r1S s):=⟨h.row.1,h.row.2⟩
theorem Og (h:SJ W s):gok W (r2S s):=⟨by simp only [r2S,na,Ig]; exact h.row.1,sA _ _ (Ka h.row.2 _)⟩
theorem Qy (h:SJ W s) {r:Int} (hr:rok r):gok W (r3S s r):=⟨by simp only [r3S,na,yU]; exact h.row.1,sA _ _ (Ma h.row.2 _ _ hr)⟩
theorem Kb (h:SJ W s):(r1S s).cells.length<=1000000:=by have:=(Of h).le h.gi.w2; omega
theorem Kd (h:SJ W s):(r2S s).cells.length<=1000000:=by have:=(Og h).le h.gi.w2; omega
theorem rF (h:SJ W s):(ns s.g.l s.spot.y).cells.length<=1000:=h.row.le h.gi.w2
theorem Ke (h:SJ W s) (r:Int):(r3S s r).cells.length<=1000000:=by have:=rF h; simp only [r3S,na,yU]; omega
theorem Kf (h:SJ W s):cU s=some (seS W s s.spot.y (r1S s)):=by
 unfold cU
 rw [h.J6,aA,show jT (ns s.g.l s.spot.y)=some (r1S s) from rfl,aA,h.J7 _ (Kb h),aA]
 rfl
theorem Kg (h:SJ W s):cV s=some (seS W s s.spot.y (r2S s)):=by
 unfold cV jU
 have hl:=rF h
 rw [h.J6,aA,pq,aA,fill_eq _ _ (by omega),aA,aA]
 rw [<- r2S,h.J7 _ (Kd h),aA]
 rfl
theorem SJ.xr (h:SJ W s): -9223372036854775808<=s.spot.x/\s.spot.x<=9223372036854775807:=by
 have h1:=h.x0
 have h2:=h.x1
 have h3:=h.gi.w2
 omega
theorem Kh (h:SJ W s) (r:Int):dK s r=some (seS W s s.spot.y (r3S s r)):=by
 unfold dK jV
 have hl:=rF h
 rw [h.J6,aA,pq,aA,put_eq _ _ _ _ (by omega) h.xr.1 h.xr.2,aA,aA]
 rw [<- r3S,h.J7 _ (Ke h r),aA]
 rfl
theorem Pj (h:SJ W s):o8 (told (ns s.g.l s.spot.y)) (nT s.spot.aM)=some (told (r2S s)):=by
 have hl:=rF h
 have:=Jx (ns s.g.l s.spot.y).cells (ns s.g.l s.spot.y).wrapped (nT s.spot.aM) (by omega)
 rw [told,this]
 rfl
theorem Pk (h:SJ W s) {r:Int} (hr:rok r):rB (told (ns s.g.l s.spot.y)) s.spot.x r (nT s.spot.aM)=some (told (r3S s r)):=by
 have hl:=rF h
 have:=L9 (ns s.g.l s.spot.y).cells (ns s.g.l s.spot.y).wrapped s.spot.x r (nT s.spot.aM) (by omega) h.xr.1 h.xr.2 hr.1 hr.2
 rw [told,this]
 rfl
def xS (s:aB) (x:Int):aB:=⟨s.g,⟨x,s.spot.y,s.spot.aM⟩,s.saved,s.waiting,s.top,s.aL,s.aZ,s.title⟩
theorem DX (h:SJ W s) {x:Int} (h0:0<=x) (h1:x < W):SJ W (xS s x):=⟨h.gw,h.gi,h0,h1,h.y0,h.y1,h.t0,h.tb,h.b1⟩
theorem w0 (h:SJ W s):(0:Int) < W:=by have:=h.gi.w1; omega
theorem DY (s:aB):(liS W s).spot.aM=s.spot.aM:=by unfold liS; split <;> rfl
theorem RA (h:SJ W s) (hx:s.spot.x=0):(liS W s).spot.x=0:=by
 have h1:=h.gi.w1
 have h2:=h.gw
 unfold liS
 split
 ·exact hx
 ·simp only [mvS,nwS,hx]
  omega
def aS (W:Nat) (s:aB):aB:=if s.waiting=true/\s.aZ=true then liS W (xS (seS W s s.spot.y (r1S s)) 0) else s
def aF (W:Nat) (s:aB):List aE:=if s.waiting=true/\s.aZ=true then liF (xS (seS W s s.spot.y (r1S s)) 0) else []
theorem GX (h:SJ W s):SJ W (xS (seS W s s.spot.y (r1S s)) 0):=DX (GW h _ (Of h).2) (Int.le_refl 0) (w0 h)
theorem MT (h:SJ W s):SJ W (aS W s):=by
 unfold aS
 split
 ·exact (iT (GX h)).i.toSJ
 ·exact h
theorem Ki (h:SJ W s):xk W (aF W s):=by
 unfold aF
 split
 ·exact (iT (GX h)).o
 ·exact qJ W
theorem MU (s:aB):(aS W s).spot.aM=s.spot.aM:=by
 unfold aS
 split
 ·rw [DY]; rfl
 ·rfl
def bS (W:Nat) (s:aB) (n:Int):aB:=if s.spot.x+n > W then (if s.aZ=true then liS W (xS (seS W s s.spot.y (r2S s)) 0) else xS s (s.spot.x - 1)) else s
def bF (W:Nat) (s:aB) (n:Int):List aE:=if s.spot.x+n > W then (if s.aZ=true then liF (xS (seS W s s.spot.y (r2S s)) 0) else []) else []
theorem DZ (h:SJ W s):SJ W (xS (seS W s s.spot.y (r2S s)) 0):=DX (GW h _ (Og h).2) (Int.le_refl 0) (w0 h)
theorem Pm (h:SJ W s) {n:Int} (hn:n=1\/n=2) (hw:n<=W):SJ W (bS W s n)/\(bS W s n).spot.x+n<=W/\(bS W s n).spot.aM=s.spot.aM:=by
 have h1:=h.x1
 unfold bS
 split
 ·rename_i hx
  split
  ·refine ⟨(iT (DZ h)).i.toSJ,?_,by rw [DY]; rfl⟩
   rw [RA (DZ h) rfl]
   omega
  ·refine ⟨DX h (by omega) (by omega),?_,rfl⟩
   simp only [xS]
   omega
 ·exact ⟨h,by omega,rfl⟩
theorem Qz (h:SJ W s) (n:Int):xk W (bF W s n):=by
 unfold bF
 split
 ·split
  ·exact (iT (DZ h)).o
  ·exact qJ W
 ·exact qJ W
def cS (W:Nat) (s:aB) (r n:Int):aB:=⟨⟨W,vo W s.g.l s.spot.y (r3S s r)⟩,⟨min (s.spot.x+n) (W - 1),s.spot.y,s.spot.aM⟩,s.saved,s.spot.x+n == W,s.top,s.aL,s.aZ,s.title⟩
def prS (W:Nat) (s:aB) (r:Int):aB:=if ofS r=0\/ofS r > W then s else cS W (bS W (aS W s) (ofS r)) r (ofS r)
def prF (W:Nat) (s:aB) (r:Int):List aE:=if ofS r=0\/ofS r > W then [] else aF W s++bF W (aS W s) (ofS r)
theorem Cy {a b:Nat} (ha:a<=1000000) (hb:b<=1000000):chk (eH a b 32)=some ():=bL (by omega)
theorem xk.l {off:List aE} (h:xk W off):off.length<=1000000:=by have:=h.1; omega
theorem RB (h:SJ W s) {n r:Int} (hn:n=1\/n=2) (hx:s.spot.x+n<=W) (hr:rok r):SI W (cS W s r n):=by
 have h1:=h.x0
 have h2:=h.gi.w1
 refine ⟨⟨rfl,JO h.gi _ _ (Qy h hr).2,?_,?_,h.y0,?_,h.t0,h.tb,?_⟩,?_⟩
 ·simp only [cS]; omega
 ·simp only [cS]; omega
 ·simp only [cS,mf]; exact h.y1
 ·simp only [cS,mf]; exact h.b1
 ·intro e
  simp only [cS,beq_iff_eq] at e ⊢
  omega
theorem MW (h:SJ W s) (r:Int):iP s r=some (prF W s r,prS W s r):=by
 have hw2:=h.gi.w2
 unfold iP prF prS
 rw [of_eq,aA,tC,aA,h.gw]
 dsimp only
 have e0:((bif (ofS r == 0) then some true else some (decide (ofS r > (W:Int)))):Option Bool)=some (decide (ofS r=0\/ofS r > W)):=by
  by_cases h1:ofS r=0
  ·rw [od h1,cond_true,decide_eq_true (.inl h1)]
  ·rw [eD h1,cond_false]
   congr 1
   exact decide_eq_decide.2 ⟨.inr,λh=>h.resolve_left h1⟩
 rw [e0,aA]
 by_cases hc:ofS r=0\/ofS r > W
 ·rw [decide_eq_true hc,cond_true,if_pos hc,if_pos hc]
 ·rw [decide_eq_false hc,cond_false,if_neg hc,if_neg hc]
  have hn:ofS r=1\/ofS r=2:=by rcases su r with h | h | h <;> omega
  generalize hnn:ofS r=n at hc hn ⊢
  have ea:((bif s.waiting then some s.aZ else some false):Option Bool)=some (decide (s.waiting=true/\s.aZ=true)):=by cases s.waiting <;> cases s.aZ <;> rfl
  rw [ea,aA]
  have eA:((bif decide (s.waiting=true/\s.aZ=true) then (Option.bind (cU s) λa=>(Option.bind (dE (aB.mk a.g (eG.mk 0 a.spot.y a.spot.aM) a.saved a.waiting a.top a.aL a.aZ a.title)) λc=>(Option.bind (chk (eH ([]:List aE).length c.1.length 32)) λ_=>some ((([]:List aE)++c.1),c.2.g,c.2)))) else some ([],s.g,s)):Option ((List aE)×aY×aB))=some (aF W s,(aS W s).g,aS W s):=by
   unfold aF aS
   by_cases hb:s.waiting=true/\s.aZ=true
   ·rw [decide_eq_true hb,cond_true,if_pos hb,if_pos hb,Kf h,aA]
    have e1:=iT (GX h)
    rw [show (aB.mk (seS W s s.spot.y (r1S s)).g (eG.mk 0 (seS W s s.spot.y (r1S s)).spot.y (seS W s s.spot.y (r1S s)).spot.aM) (seS W s s.spot.y (r1S s)).saved (seS W s s.spot.y (r1S s)).waiting (seS W s s.spot.y (r1S s)).top (seS W s s.spot.y (r1S s)).aL (seS W s s.spot.y (r1S s)).aZ (seS W s s.spot.y (r1S s)).title)=xS (seS W s s.spot.y (r1S s)) 0 from rfl,e1.p,aA]
    dsimp only
    rw [Cy (by simp) e1.o.l,aA,List.nil_append]
   ·rw [decide_eq_false hb,cond_false,if_neg hb,if_neg hb]
  rw [eA,aA]
  dsimp only
  have hA:=MT h
  have hAx:=hA.x1
  have hA0:=hA.x0
  have hFo:=(Ki h).l
  generalize hs1:aS W s=s1 at *
  generalize aF W s=o1 at *
  rw [w64 (x:=s1.spot.x+n) (by omega) (by omega)]
  have hB:=Pm hA hn (by omega:n<=W)
  have eB: ∀ g:aY,g=s1.g->((bif (decide (s1.spot.x+n > (W:Int))) then (bif s1.aZ then (Option.bind (cV (aB.mk g s1.spot s1.saved s1.waiting s1.top s1.aL s1.aZ s1.title)) λb=>(Option.bind (dE (aB.mk b.g (eG.mk 0 b.spot.y b.spot.aM) b.saved b.waiting b.top b.aL b.aZ b.title)) λd=>(Option.bind (chk (eH o1.length d.1.length 32)) λ_=>some ((o1++d.1),d.2.g,d.2)))) else some (o1,g,(aB.mk g (eG.mk (IntKind.i64.wrap (s1.spot.x - 1)) s1.spot.y s1.spot.aM) s1.saved s1.waiting s1.top s1.aL s1.aZ s1.title))) else some (o1,g,(aB.mk g s1.spot s1.saved s1.waiting s1.top s1.aL s1.aZ s1.title))):Option ((List aE)×aY×aB))=some (o1++bF W s1 n,(bS W s1 n).g,bS W s1 n):=by
   rintro g rfl
   unfold bF bS
   by_cases hx:s1.spot.x+n > W
   ·rw [decide_eq_true hx,cond_true,if_pos hx,if_pos hx]
    cases hwr:s1.aZ with
    | true =>
     rw [cond_true,if_pos rfl,if_pos rfl]
     have e2:(aB.mk s1.g s1.spot s1.saved s1.waiting s1.top s1.aL true s1.title)=s1:=by rw [<- hwr]
     rw [e2,Kg hA,aA]
     have e1:=iT (DZ hA)
     rw [show (aB.mk (seS W s1 s1.spot.y (r2S s1)).g (eG.mk 0 (seS W s1 s1.spot.y (r2S s1)).spot.y (seS W s1 s1.spot.y (r2S s1)).spot.aM) (seS W s1 s1.spot.y (r2S s1)).saved (seS W s1 s1.spot.y (r2S s1)).waiting (seS W s1 s1.spot.y (r2S s1)).top (seS W s1 s1.spot.y (r2S s1)).aL (seS W s1 s1.spot.y (r2S s1)).aZ (seS W s1 s1.spot.y (r2S s1)).title)=xS (seS W s1 s1.spot.y (r2S s1)) 0 from rfl,e1.p,aA]
     dsimp only
     rw [Cy hFo e1.o.l,aA]
    | false =>
     rw [cond_false,if_neg (by simp),if_neg (by simp),w64 (by omega) (by omega),List.append_nil]
     simp only [xS,hwr]
   ·rw [decide_eq_false hx,cond_false,if_neg hx,if_neg hx,List.append_nil]
  rw [eB _ rfl,aA]
  dsimp only
  obtain ⟨hB1,hB2,hB3⟩:=hB
  have hBx:=hB1.x0
  generalize bS W s1 n=s2 at *
  generalize o1++bF W s1 n=o2
  rw [show (aB.mk s2.g s2.spot s2.saved s2.waiting s2.top s2.aL s2.aZ s2.title)=s2 from rfl,Kh hB1,aA]
  unfold cS
  simp only [seS]
  rw [w64 (by omega) (by omega),w64 (by omega) (by omega),dP]
end
section
variable {W : Nat} {s : aB}
theorem SJ.MY (h:SJ W s):idx (aO s).g.l (aO s).y=some (told (ns s.g.l s.spot.y)):=(h.get h.y0 h.y1).1
theorem Pn (h:SJ W s) {r:Int} (hr:rok r):tp (aO s) r=some (aO (prS W s r),(prF W s r).map told):=by
 have hw2:=h.gi.w2
 unfold tp prF prS
 rw [Jy r hr.1 hr.2,aA,show (aO s).g.w=(W:Int) from h.gw]
 have e0:((bif (ofS r == 0) then some true else some (decide (ofS r > (W:Int)))):Option Bool)=some (decide (ofS r=0\/ofS r > W)):=by
  by_cases h1:ofS r=0
  ·rw [od h1,cond_true,decide_eq_true (.inl h1)]
  ·rw [eD h1,cond_false]
   congr 1
   exact decide_eq_decide.2 ⟨.inr,λh=>h.resolve_left h1⟩
 rw [e0,aA]
 by_cases hc:ofS r=0\/ofS r > W
 ·rw [decide_eq_true hc,cond_true,if_pos hc,if_pos hc]; rfl
 ·rw [decide_eq_false hc,cond_false,if_neg hc,if_neg hc,xm,aA]
  have hn:ofS r=1\/ofS r=2:=by rcases su r with h | h | h <;> omega
  generalize hnn:ofS r=n at hc hn ⊢
  have ea:((bif (aO s).waiting then some (aO s).aZ else some false):Option Bool)=some (decide (s.waiting=true/\s.aZ=true)):=by
   show ((bif s.waiting then some s.aZ else some false):Option Bool)=_
   cases s.waiting <;> cases s.aZ <;> rfl
  rw [ea,aA]
  have eA:((bif decide (s.waiting=true/\s.aZ=true) then (Option.bind (idx (aO s).g.l (aO s).y) λe=>(Option.bind (me (aO s) (aX.mk e.l true)) λa=>(Option.bind (jB (aP.mk a.g 0 a.y a.s a.sX a.sY a.sS a.waiting a.top a.aL a.aZ a.title)) λc=>(Option.bind (chk (eH ([]:List aX).length c.2.length 32)) λ_=>some ((([]:List aX)++c.2),c.1))))) else some (([]:List aX),aO s)):Option ((List aX)×aP))=some ((aF W s).map told,aO (aS W s)):=by
   unfold aF aS
   by_cases hb:s.waiting=true/\s.aZ=true
   ·rw [decide_eq_true hb,cond_true,if_pos hb,if_pos hb,h.MY,aA]
    rw [show (aX.mk (told (ns s.g.l s.spot.y)).l true)=told (r1S s) from rfl,uD h (Kb h),aA]
    have e1:=iT (GX h)
    have e2:=e1.q
    rw [show aO (xS (seS W s s.spot.y (r1S s)) 0)=(aP.mk (aO (seS W s s.spot.y (r1S s))).g 0 (aO (seS W s s.spot.y (r1S s))).y (aO (seS W s s.spot.y (r1S s))).s (aO (seS W s s.spot.y (r1S s))).sX (aO (seS W s s.spot.y (r1S s))).sY (aO (seS W s s.spot.y (r1S s))).sS (aO (seS W s s.spot.y (r1S s))).waiting (aO (seS W s s.spot.y (r1S s))).top (aO (seS W s s.spot.y (r1S s))).aL (aO (seS W s s.spot.y (r1S s))).aZ (aO (seS W s s.spot.y (r1S s))).title) from rfl] at e2
    rw [e2,aA]
    dsimp only
    rw [Cy (by simp) (by rw [List.length_map]; exact e1.o.l),aA,List.nil_append]
   ·rw [decide_eq_false hb,cond_false,if_neg hb,if_neg hb]; rfl
  rw [eA,aA]
  dsimp only
  have hA:=MT h
  have hst:(aS W s).spot.aM=s.spot.aM:=MU s
  have hAx:=hA.x1
  have hA0:=hA.x0
  have hFo:=(Ki h).l
  generalize hs1:aS W s=s1 at *
  generalize aF W s=o1 at *
  have hB:=Pm hA hn (by omega:n<=W)
  have eb:((bif (n == 2) then some ((aO s1).x == (IntKind.i64.wrap ((aO s1).g.w - 1))) else some false):Option Bool)=some (decide (s1.spot.x+n > W)):=by
   rw [show (aO s1).g.w=(W:Int) from hA.gw,show (aO s1).x=s1.spot.x from rfl,w64 (by omega) (by omega)]
   by_cases h2:n=2
   ·rw [od h2,cond_true]
    by_cases hx:s1.spot.x=(W:Int) - 1
    ·rw [od hx,decide_eq_true (by omega)]
    ·rw [eD hx,decide_eq_false (by omega)]
   ·rw [eD h2,cond_false,decide_eq_false (by omega)]
  rw [eb,aA]
  have eB:((bif decide (s1.spot.x+n > (W:Int)) then (bif (aO s1).aZ then (Option.bind (idx (aO s1).g.l (aO s1).y) λf=>(Option.bind (o8 f (nT s.spot.aM)) λi=>(Option.bind (me (aO s1) i) λb=>(Option.bind (jB (aP.mk b.g 0 b.y b.s b.sX b.sY b.sS b.waiting b.top b.aL b.aZ b.title)) λd=>(Option.bind (chk (eH (o1.map told).length d.2.length 32)) λ_=>some ((o1.map told++d.2),d.1)))))) else some (o1.map told,(aP.mk (aO s1).g (IntKind.i64.wrap ((aO s1).x - 1)) (aO s1).y (aO s1).s (aO s1).sX (aO s1).sY (aO s1).sS (aO s1).waiting (aO s1).top (aO s1).aL (aO s1).aZ (aO s1).title))) else some (o1.map told,aO s1)):Option ((List aX)×aP))=some ((o1++bF W s1 n).map told,aO (bS W s1 n)):=by
   unfold bF bS
   by_cases hx:s1.spot.x+n > W
   ·rw [decide_eq_true hx,cond_true,if_pos hx,if_pos hx,show (aO s1).aZ=s1.aZ from rfl]
    cases hwr:s1.aZ with
    | true =>
     rw [cond_true,if_pos rfl,if_pos rfl,hA.MY,aA,<- hst,Pj hA,aA,uD hA (Kd hA),aA]
     have e1:=iT (DZ hA)
     have e2:=e1.q
     rw [show aO (xS (seS W s1 s1.spot.y (r2S s1)) 0)=(aP.mk (aO (seS W s1 s1.spot.y (r2S s1))).g 0 (aO (seS W s1 s1.spot.y (r2S s1))).y (aO (seS W s1 s1.spot.y (r2S s1))).s (aO (seS W s1 s1.spot.y (r2S s1))).sX (aO (seS W s1 s1.spot.y (r2S s1))).sY (aO (seS W s1 s1.spot.y (r2S s1))).sS (aO (seS W s1 s1.spot.y (r2S s1))).waiting (aO (seS W s1 s1.spot.y (r2S s1))).top (aO (seS W s1 s1.spot.y (r2S s1))).aL (aO (seS W s1 s1.spot.y (r2S s1))).aZ (aO (seS W s1 s1.spot.y (r2S s1))).title) from rfl] at e2
     rw [e2,aA]
     dsimp only
     rw [Cy (by rw [List.length_map]; exact hFo) (by rw [List.length_map]; exact e1.o.l),aA,List.map_append]
    | false =>
     rw [cond_false,if_neg (by simp),if_neg (by simp),show (aO s1).x=s1.spot.x from rfl,w64 (by omega) (by omega),List.append_nil]
     simp only [xS,hwr,aO]
   ·rw [decide_eq_false hx,cond_false,if_neg hx,if_neg hx,List.append_nil]
  rw [eB,aA]
  dsimp only
  obtain ⟨hB1,hB2,hB3⟩:=hB
  have hBx:=hB1.x0
  have hst2:(bS W s1 n).spot.aM=s.spot.aM:=by rw [hB3,hst]
  generalize bS W s1 n=s2 at *
  generalize o1++bF W s1 n=o2
  rw [hB1.MY,aA,show (aO s2).x=s2.spot.x from rfl,<- hst2,Pk hB1 hr,aA,uD hB1 (Ke hB1 r),aA]
  rw [show (aO (seS W s2 s2.spot.y (r3S s2 r))).x=s2.spot.x from rfl,show (aO (seS W s2 s2.spot.y (r3S s2 r))).g.w=(W:Int) from rfl,w64 (by omega) (by omega),w64 (by omega) (by omega)]
  unfold cS
  by_cases hx:s2.spot.x+n=W
  ·rw [od hx,cond_true,aA,show min (s2.spot.x+n) ((W:Int) - 1)=s2.spot.x+n - 1 by omega]; rfl
  ·rw [eD hx,cond_false,aA,show min (s2.spot.x+n) ((W:Int) - 1)=s2.spot.x+n by omega]; rfl
theorem QA (h:SI W s) {r:Int} (hr:rok r):SI W (prS W s r):=by
 unfold prS
 split
 ·exact h
 ·rename_i hc
  have hn:ofS r=1\/ofS r=2:=by rcases su r with h | h | h <;> omega
  have hB:=Pm (MT h.toSJ) hn (by omega)
  exact RB hB.1 hn hB.2.1 hr
theorem Po (h:SJ W s) {r:Int}:(prF W s r).length<=2000 /\ ∀ q∈prF W s r,gok W q:=by
 unfold prF
 split
 ·exact ⟨by simp,λr hr=>by cases hr⟩
 ·have h1:=Ki h
  have h2:=Qz (MT h) (ofS r)
  refine ⟨by rw [List.length_append]; have:=h1.1; have:=h2.1; omega,λq hq=> ?_⟩
  rcases List.mem_append.1 hq with hq | hq
  ·exact h1.2 q hq
  ·exact h2.2 q hq
end
def atS (l:List Int) (i:Nat) (d:Int):Int:=match l[i]? with
 | some n=>if n<=0 then d else min n 9999
 | none=>d
theorem BH (a:bA) (i:Nat) (d:Int):eT a (i:Int) d=some (atS a.bJ i d):=by
 unfold eT atS
 by_cases hi:i < a.bJ.length
 ·rw [decide_eq_false (by omega: ¬ (i:Int)>=(a.bJ.length:Int)),cond_false]
  simp only [dB _ _ hi,aA,List.getElem?_eq_getElem hi]
  by_cases h:a.bJ[i]<=0
  ·rw [decide_eq_true h,cond_true,if_pos h]
  ·rw [decide_eq_false h,cond_false,if_neg h,dP]
 ·rw [decide_eq_true (by omega:(i:Int)>=(a.bJ.length:Int)),cond_true,aA,cond_true,List.getElem?_eq_none (by omega)]
theorem sG (l:List Int) (i:Nat) (d:Int):fH l (i:Int) d=some (atS l i d):=by
 unfold fH atS
 by_cases hi:i < l.length
 ·rw [decide_eq_true (by omega:(i:Int) < (l.length:Int)),cond_true]
  simp only [dB _ _ hi,aA,List.getElem?_eq_getElem hi]
  by_cases h:l[i]<=0
  ·rw [decide_eq_false (by omega),cond_false,if_pos h]
  ·rw [decide_eq_true (by omega),cond_true,if_neg h,dP]
 ·rw [decide_eq_false (by omega: ¬ (i:Int) < (l.length:Int)),cond_false,aA,cond_false,List.getElem?_eq_none (by omega)]
theorem yo (l:List Int) (i:Nat) {d:Int} (h0:0<=d) (h1:d<=9999):0<=atS l i d/\atS l i d<=9999/\(1<=d->1<=atS l i d):=by
 unfold atS
 split
 ·split <;> omega
 ·omega
section
variable {W : Nat} {s : aB}
def dnS (W:Nat) (s:aB) (t b n:Int):aB:=⟨⟨W,uz W s.g.l t b n (nT s.spot.aM)⟩,s.spot,s.saved,s.waiting,s.top,s.aL,s.aZ,s.title⟩
def upT (W:Nat) (s:aB) (t b n:Int):aB:=⟨⟨W,upL W s.g.l t b n (nT s.spot.aM)⟩,s.spot,s.saved,s.waiting,s.top,s.aL,s.aZ,s.title⟩
theorem D1 (h:SJ W s) (t b n:Int):SJ W (dnS W s t b n) :=
 ⟨rfl,Mj h.gi _ _ _ _,h.x0,h.x1,h.y0,by simp only [dnS,yn _ _ _ _ _ _ h.gi.l1]; exact h.y1,h.t0,h.tb,by simp only [dnS,yn _ _ _ _ _ _ h.gi.l1]; exact h.b1⟩
theorem FJ (h:SJ W s) (t b n:Int):SJ W (upT W s t b n) :=
 ⟨rfl,N9 h.gi _ _ _ _,h.x0,h.x1,h.y0,by simp only [upT,vd _ _ _ _ _ _ h.gi.l1]; exact h.y1,h.t0,h.tb,by simp only [upT,vd _ _ _ _ _ _ h.gi.l1]; exact h.b1⟩
theorem Au (h:SJ W s) (t b n:Int):eO s.g t b n (nT s.spot.aM)=some (vP s.g.l t b n,(dnS W s t b n).g):=by
 rw [h.ge]; exact (Dz h.gi _ _ _ _).1
theorem Av (h:SJ W s) (t b n:Int):eK (aO s).g false t b n (nT s.spot.aM)=some ((aO (dnS W s t b n)).g,(vP s.g.l t b n).map told):=by
 rw [At h]; exact (Dz h.gi _ _ _ _).2
theorem Pp (h:SJ W s) (t b n:Int):gB s.g t b n (nT s.spot.aM)=some (upO s.g.l t b n,(upT W s t b n).g):=by
 rw [h.ge]; exact (Cl h.gi _ _ _ _).1
theorem MZ (h:SJ W s) (t b n:Int):eK (aO s).g true t b n (nT s.spot.aM)=some ((aO (upT W s t b n)).g,(upO s.g.l t b n).map told):=by
 rw [At h]; exact (Cl h.gi _ _ _ _).2
def baS (W:Nat) (s:aB):aB:=if s.spot.y=s.top then dnS W (nwS s) s.top s.aL 1 else mvS (nwS s) s.spot.x (s.spot.y - 1)
theorem QB (h:SJ W s):SI W (baS W s):=by
 unfold baS
 split
 ·exact ⟨D1 (oa h) _ _ _,λe=>by cases e⟩
 ·exact qd (oa h) _ _
theorem yr (h:SJ W s):0<=s.spot.y/\s.spot.y < 1000/\0<=s.spot.x/\s.spot.x < 1000:=by
 have h1:=h.gi.w2
 have h2:=h.gi.l2
 have h3:=h.y1
 have h4:=h.x1
 have h5:=h.y0
 have h6:=h.x0
 omega
theorem back_eq (h:SJ W s):jN s=some (baS W s):=by
 have hy:=yr h
 unfold jN baS
 rw [<- nwS]
 by_cases c:s.spot.y=s.top
 ·rw [od c,cond_true,if_pos c,pq,aA]
  have e:=Au (oa h) s.top s.aL 1
  rw [show (nwS s).g=s.g from rfl] at e
  rw [e,aA]
  rfl
 ·rw [eD c,cond_false,if_neg c,w64 (by omega) (by omega),nh (oa h),aA]
theorem FK (h:SJ W s):((aO s).g.l.length:Int)=s.g.l.length:=by simp [aO,uw]
def clS (s:aB) (n:Int):aB:=mvS s s.spot.x (max (if s.spot.y>=s.top/\n < 0 then s.top else 0) (min (s.spot.y+n) (if s.spot.y<=s.aL/\n > 0 then s.aL else (s.g.l.length:Int) - 1)))
theorem zt {α:Type} (p:Prop) [Decidable p] (x y:α):((bif decide p then some x else some y):Option α)=some (if p then x else y):=by
 by_cases h:p <;> simp [h]
theorem Kj (h:SJ W s) {n:Int} (h0: -9999<=n) (h1:n<=9999):fX s n=some (clS s n):=by
 have hy:=yr h
 unfold fX clS
 rw [As h,aA]
 rw [show ((bif (decide (s.spot.y>=s.top)) then some (decide (n < 0)) else some false):Option Bool)=_ from Cg _ _,aA,zt,aA]
 rw [show ((bif (decide (s.spot.y<=s.aL)) then some (decide (n > 0)) else some false):Option Bool)=_ from Cg _ _,aA]
 dsimp only
 rw [zt,aA,w64 (by omega) (by omega),p9,aA,nh h,aA]
def erR (s:aB) (y a b:Int):aE:=⟨jY 0 (nf a b (nT s.spot.aM) 0 (ns s.g.l y).cells),false⟩
def erS (W:Nat) (s:aB) (y a b:Int):aB:=seS W s y (erR s y a b)
theorem FL (h:SJ W s) {y:Int} (h0:0<=y) (h1:y < s.g.l.length) (a b:Int):gok W (erR s y a b):=by
 have hg:=(h.get h0 h1).2
 exact ⟨by simp only [erR,na,ot]; exact hg.1,sA _ _ (yb _ _ _ _ hg.2)⟩
theorem Oh (h:SJ W s) {y:Int} (h0:0<=y) (h1:y < s.g.l.length) (a b:Int):SJ W (erS W s y a b):=GW h _ (FL h h0 h1 a b).2
theorem ve (h:SJ W s) {y:Int} (h0:0<=y) (h1:y < s.g.l.length) (a b:Int):eI s y a b=some (erS W s y a b):=by
 have hg:=(h.get h0 h1).2.le h.gi.w2
 have hr:=(FL h h0 h1 a b).le h.gi.w2
 unfold eI
 rw [h.J6,aA,pq,aA,erase_eq _ _ _ _ (by omega),aA,<- erR,h.J7 _ (by omega),aA]
 rfl
theorem wD (h:SJ W s) {y:Int} (h0:0<=y) (h1:y < s.g.l.length) (a b:Int):nC (aO s) y a b=some (aO (erS W s y a b)):=by
 have hg:=(h.get h0 h1).2.le h.gi.w2
 have hr:=(FL h h0 h1 a b).le h.gi.w2
 unfold nC
 have e:pR (told (ns s.g.l y)) a b (nT s.spot.aM)=some (told (erR s y a b)):=by
  rw [told,HP (ns s.g.l y).cells (ns s.g.l y).wrapped a b _ (by omega)]; rfl
 rw [(h.get h0 h1).1,aA,xm,aA,e,aA,h.Qx _ (by omega),aA]
 rfl
def paA (s:aB) (n:Int):Int:=if n=0 then s.spot.x else 0
def paB (W:Nat) (s:aB) (n:Int):Int:=if n=1 then s.spot.x+1 else W
def paS (W:Nat) (s:aB) (n:Int):aB:=if n > 2 then s else nwS (erS W s s.spot.y (paA s n) (paB W s n))
theorem GY (h:SJ W s) {n:Int} (hn:0<=n):gK s n=some (paS W s n):=by
 have hy:=yr h
 unfold gK paS paA paB
 rw [tC,aA,h.gw]
 dsimp only
 rw [w64 (x:=s.spot.x+1) (by omega) (by omega)]
 have e: ∀ t:aB,((bif t.waiting then some (aB.mk t.g t.spot t.saved false t.top t.aL t.aZ t.title) else some (aB.mk t.g t.spot t.saved false t.top t.aL t.aZ t.title)):Option aB)=some (nwS t):=λt=>by cases t.waiting <;> rfl
 by_cases h0:n=0
 ·subst h0
  rw [od rfl,cond_true,ve h h.y0 h.y1,aA,aA]
  exact e _
 ·rw [eD h0,cond_false]
  by_cases h1:n=1
  ·subst h1
   rw [od rfl,cond_true,ve h h.y0 h.y1,aA,aA]
   exact e _
  ·rw [eD h1,cond_false]
   by_cases h2:n=2
   ·subst h2
    rw [od rfl,cond_true,ve h h.y0 h.y1,aA,aA]
    exact e _
   ·rw [eD h2,cond_false,aA,if_pos (by omega:n > 2),decide_eq_true (by omega:n > 2)]
    dsimp only
    cases hw:s.waiting with
    | true=>rw [cond_true,<- hw]
    | false=>rw [cond_false,<- hw]
theorem QC (h:SI W s) {n:Int}:SI W (paS W s n):=by
 unfold paS
 split
 ·exact h
 ·exact ⟨oa (Oh h.toSJ h.y0 h.y1 _ _),λe=>by cases e⟩
def wpc (s:aB) (n:Int) (k:Nat):Bool:=decide ((k:Int) < s.spot.y/\n≠0/\n<=2\/(k:Int) > s.spot.y/\n≠1/\n<=2)
def wpS (W:Nat) (s:aB) (n:Int):Nat->aB
 | 0=>s
 | k+1=>if wpc s n k then erS W (wpS W s n k) k 0 W else wpS W s n k
theorem xn (n:Int): ∀ k,(wpS W s n k).spot=s.spot/\(wpS W s n k).g.l.length=s.g.l.length/\(wpS W s n k).waiting=s.waiting
 | 0=>⟨rfl,rfl,rfl⟩
 | k+1=>by
  obtain ⟨h1,h2,h3⟩:=xn n k
  unfold wpS
  split
  ·exact ⟨h1,by simp only [erS,seS,mf]; exact h2,h3⟩
  ·exact ⟨h1,h2,h3⟩
theorem BI (h:SJ W s) (n:Int): ∀ k,k<=s.g.l.length->SJ W (wpS W s n k)
 | 0,_=>h
 | k+1,hk=>by
  have ih:=BI h n k (by omega)
  unfold wpS
  split
  ·exact Oh ih (by omega) (by rw [(xn n k).2.1]; omega) _ _
  ·exact ih
end
section
variable {W : Nat} {s : aB}
theorem Cz (n:Int) (k:Nat):wpS W s n (k+1)=if wpc s n k then erS W (wpS W s n k) k 0 W else wpS W s n k:=rfl
theorem M1 (h:SJ W s) {n:Int} (hn:0<=n):jO s n=some (paS W (wpS W s n s.g.l.length) n):=by
 have hl:=h.gi.l2
 unfold jO
 rw [tC,aA,h.gw]
 dsimp only
 refine fM (λk=>(wpS W s n k,(wpS W s n k).g,(k:Int))) s.g.l.length ((wpS W s n s.g.l.length).g,wpS W s n s.g.l.length) rfl ?_ ?_ ?_
 ·intro k hk
  have hs:=xn (W:=W) (s:=s) n k
  have hJ:=BI h n k (by omega)
  dsimp only
  rw [decide_eq_true (by omega:(k:Int) < (s.g.l.length:Int)),cond_true,hs.1,Cz,w64 (by omega) (by omega)]
  have ec:((bif (decide ((k:Int) < s.spot.y)) then (bif (n == 1) then some true else (bif (decide ((k:Int) > s.spot.y)) then (bif (n == 0) then some true else (bif ((k:Int) != s.spot.y) then some (n == 2) else some false)) else (bif ((k:Int) != s.spot.y) then some (n == 2) else some false))) else (bif (decide ((k:Int) > s.spot.y)) then (bif (n == 0) then some true else (bif ((k:Int) != s.spot.y) then some (n == 2) else some false)) else (bif ((k:Int) != s.spot.y) then some (n == 2) else some false))):Option Bool)=some (wpc s n k):=by
   unfold wpc
   have hb: ∀ b:Bool,(b=true)=b:=λb=>rfl
   by_cases a1:(k:Int) < s.spot.y
   ·have a2: ¬ (k:Int) > s.spot.y:=by omega
    have a3:((k:Int) != s.spot.y)=true:=by simp; omega
    rw [decide_eq_true a1,decide_eq_false a2,a3]
    simp only [cond_true,cond_false]
    by_cases c:n=1
    ·rw [od c,cond_true,decide_eq_true (by omega)]
    ·rw [eD c,cond_false]
     by_cases c2:n=2
     ·rw [od c2,decide_eq_true (by omega)]
     ·rw [eD c2,decide_eq_false (by omega)]
   ·rw [decide_eq_false a1,cond_false]
    by_cases a2:(k:Int) > s.spot.y
    ·have a3:((k:Int) != s.spot.y)=true:=by simp; omega
     rw [decide_eq_true a2,a3]
     simp only [cond_true,cond_false]
     by_cases c:n=0
     ·rw [od c,cond_true,decide_eq_true (by omega)]
     ·rw [eD c,cond_false]
      by_cases c2:n=2
      ·rw [od c2,decide_eq_true (by omega)]
      ·rw [eD c2,decide_eq_false (by omega)]
    ·have a3:((k:Int) != s.spot.y)=false:=by simp; omega
     rw [decide_eq_false a2,a3]
     simp only [cond_false]
     rw [decide_eq_false (by omega)]
  rw [ec,aA]
  cases hc:wpc s n k with
  | true =>
   rw [cond_true,if_pos rfl,show (aB.mk (wpS W s n k).g s.spot (wpS W s n k).saved (wpS W s n k).waiting (wpS W s n k).top (wpS W s n k).aL (wpS W s n k).aZ (wpS W s n k).title)=wpS W s n k by rw [<- hs.1]]
   rw [ve hJ (by omega) (by rw [hs.2.1]; omega),aA,aA]
   rfl
  | false =>
   rw [cond_false,if_neg (by simp),aA]
   dsimp only
   rw [show (aB.mk (wpS W s n k).g s.spot (wpS W s n k).saved (wpS W s n k).waiting (wpS W s n k).top (wpS W s n k).aL (wpS W s n k).aZ (wpS W s n k).title)=wpS W s n k by rw [<- hs.1]]
   rfl
 ·dsimp only
  rw [decide_eq_false (by omega: ¬ ((s.g.l.length:Nat):Int) < (s.g.l.length:Int)),cond_false]
 ·dsimp only
  rw [show (aB.mk (wpS W s n s.g.l.length).g (wpS W s n s.g.l.length).spot (wpS W s n s.g.l.length).saved (wpS W s n s.g.l.length).waiting (wpS W s n s.g.l.length).top (wpS W s n s.g.l.length).aL (wpS W s n s.g.l.length).aZ (wpS W s n s.g.l.length).title)=wpS W s n s.g.l.length from rfl,GY (BI h n _ (Nat.le_refl _)) hn,aA]
theorem GZ {n:Int} (hn:n > 2): ∀ k,wpS W s n k=s
 | 0=>rfl
 | k+1=>by
  rw [Cz,GZ hn k]
  unfold wpc
  rw [decide_eq_false (by omega),if_neg (by simp)]
def D3 (W:Nat) (s:aB) (n:Int) (all:Bool):aB:=paS W (if all then wpS W s n s.g.l.length else s) n
theorem D4 (h:SJ W s) {n:Int} (hn:0<=n) (all:Bool):pS (aO s) n all=some (aO (D3 W s n all)):=by
 have hl:=h.gi.l2
 have hy:=yr h
 unfold pS D3
 by_cases h2:n > 2
 ·rw [decide_eq_true h2,cond_true,GZ h2,ite_self]
  unfold paS
  rw [if_pos h2]
 ·rw [decide_eq_false h2,cond_false,FK h]
  refine fM (λk=>(aO (if all then wpS W s n k else s),(k:Int))) s.g.l.length (aO (if all then wpS W s n s.g.l.length else s)) (by cases all <;> rfl) ?_ ?_ ?_
  ·intro k hk
   dsimp only
   rw [decide_eq_true (by omega:(k:Int) < (s.g.l.length:Int)),cond_true,w64 (by omega) (by omega)]
   cases all with
   | false =>
    rw [cond_false,aA,cond_false,aA]
    rfl
   | true =>
    have hs:=xn (W:=W) (s:=s) n k
    have hJ:=BI h n k (by omega)
    simp only [if_true,cond_true]
    rw [show (aO (wpS W s n k)).y=s.spot.y by show (wpS W s n k).spot.y=_; rw [hs.1],Cz]
    have ec:((bif (decide ((k:Int) < s.spot.y)) then (bif (n != 0) then some true else (bif (decide ((k:Int) > s.spot.y)) then some (n != 1) else some false)) else (bif (decide ((k:Int) > s.spot.y)) then some (n != 1) else some false)):Option Bool)=some (wpc s n k):=by
     unfold wpc
     by_cases a1:(k:Int) < s.spot.y
     ·have a2: ¬ (k:Int) > s.spot.y:=by omega
      rw [decide_eq_true a1,decide_eq_false a2]
      simp only [cond_true,cond_false]
      by_cases c:n=0
      ·rw [show (n != 0)=false by simp [c],cond_false,decide_eq_false (by omega)]
      ·rw [show (n != 0)=true by simp [c],cond_true,decide_eq_true (by omega)]
     ·rw [decide_eq_false a1,cond_false]
      by_cases a2:(k:Int) > s.spot.y
      ·rw [decide_eq_true a2,cond_true]
       by_cases c:n=1
       ·rw [show (n != 1)=false by simp [c],decide_eq_false (by omega)]
       ·rw [show (n != 1)=true by simp [c],decide_eq_true (by omega)]
      ·rw [decide_eq_false a2,cond_false,decide_eq_false (by omega)]
    rw [ec,aA]
    cases hc:wpc s n k with
    | true =>
     rw [cond_true,if_pos rfl,show (aO (wpS W s n k)).g.w=(W:Int) from hJ.gw,wD hJ (by omega) (by rw [hs.2.1]; omega),aA,aA]
     rfl
    | false =>
     rw [cond_false,if_neg (by simp),aA]
     rfl
  ·dsimp only
   rw [decide_eq_false (by omega: ¬ ((s.g.l.length:Nat):Int) < (s.g.l.length:Int)),cond_false]
  ·have key: ∀ t:aB,SJ W t->(Option.bind ((bif (n == 0) then some (aO t).x else some 0):Option Int) λb=>(Option.bind ((bif (n == 1) then some (IntKind.i64.wrap ((aO t).x+1)) else some (aO t).g.w):Option Int) λd=>(Option.bind (nC (aO t) (aO t).y b d) λa=>some (aP.mk a.g a.x a.y a.s a.sX a.sY a.sS false a.top a.aL a.aZ a.title))))=some (aO (paS W t n)):=by
    intro t ht
    have hy:=yr ht
    rw [show (aO t).x=t.spot.x from rfl,show (aO t).g.w=(W:Int) from ht.gw,show (aO t).y=t.spot.y from rfl,w64 (x:=t.spot.x+1) (by omega) (by omega)]
    have e1:((bif (n == 0) then some t.spot.x else some 0):Option Int)=some (paA t n):=by
     unfold paA
     by_cases c:n=0
     ·rw [od c,cond_true,if_pos c]
     ·rw [eD c,cond_false,if_neg c]
    have e2:((bif (n == 1) then some (t.spot.x+1) else some (W:Int)):Option Int)=some (paB W t n):=by
     unfold paB
     by_cases c:n=1
     ·rw [od c,cond_true,if_pos c]
     ·rw [eD c,cond_false,if_neg c]
    rw [e1,aA,e2,aA,wD ht ht.y0 ht.y1,aA]
    unfold paS
    rw [if_neg h2]
    rfl
   refine key _ ?_
   cases all with
   | true=>exact BI h n _ (Nat.le_refl _)
   | false=>exact h
theorem Kk (h:SI W s) (n:Int) (all:Bool):SI W (D3 W s n all):=by
 unfold D3
 apply QC
 cases all with
 | false=>exact h
 | true =>
  have hs:=xn (W:=W) (s:=s) n s.g.l.length
  exact ⟨BI h.toSJ n _ (Nat.le_refl _),λe=>by rw [if_pos rfl] at e ⊢; rw [hs.1]; rw [hs.2.2] at e; exact h.wt e⟩
def shS (W:Nat) (s:aB) (b n:Int):aB:=if s.spot.y < s.top\/s.spot.y > s.aL then s else if b=76 then mvS (dnS W s s.spot.y s.aL n) 0 s.spot.y else mvS (upT W s s.spot.y s.aL n) 0 s.spot.y
theorem Kl (h:SJ W s) (b n:Int):iR s b n=some (shS W s b n):=by
 unfold iR shS
 rw [show ((bif (decide (s.spot.y < s.top)) then some true else some (decide (s.spot.y > s.aL))):Option Bool)=_ from or2 _ _,aA]
 by_cases c:s.spot.y < s.top\/s.spot.y > s.aL
 ·rw [decide_eq_true c,cond_true,if_pos c]
 ·rw [decide_eq_false c,cond_false,if_neg c]
  by_cases cb:b=76
  ·rw [od cb,cond_true,if_pos cb,pq,aA,Au h,aA,aA]
   rw [show (aB.mk (vP s.g.l s.spot.y s.aL n,(dnS W s s.spot.y s.aL n).g).snd s.spot s.saved s.waiting s.top s.aL s.aZ s.title)=dnS W s s.spot.y s.aL n from rfl,nh (D1 h _ _ _),aA]
  ·rw [eD cb,cond_false,if_neg cb,pq,aA,Pp h,aA,aA]
   rw [show (aB.mk (upO s.g.l s.spot.y s.aL n,(upT W s s.spot.y s.aL n).g).snd s.spot s.saved s.waiting s.top s.aL s.aZ s.title)=upT W s s.spot.y s.aL n from rfl,nh (FJ h _ _ _),aA]
theorem QD (h:SI W s) (b n:Int):SI W (shS W s b n):=by
 unfold shS
 split
 ·exact h
 ·split
  ·exact qd (D1 h.toSJ _ _ _) _ _
  ·exact qd (FJ h.toSJ _ _ _) _ _
def rgT (s:aB) (l:List Int):Int:=max 1 (min (atS l 0 1) (s.g.l.length:Int)) - 1
def rgU (s:aB) (l:List Int):Int:=max 1 (min (atS l 1 (s.g.l.length:Int)) (s.g.l.length:Int)) - 1
def rnS (s:aB) (t b:Int):aB:=⟨s.g,s.spot,s.saved,s.waiting,t,b,s.aZ,s.title⟩
def reS (s:aB) (l:List Int):aB:=if rgT s l < rgU s l then mvS (rnS s (rgT s l) (rgU s l)) 0 0 else s
theorem QE (h:SJ W s) (l:List Int):0<=rgT s l/\rgT s l < s.g.l.length/\0<=rgU s l/\rgU s l < s.g.l.length:=by
 have h1:=h.gi.l1
 unfold rgT rgU
 omega
theorem Km (h:SJ W s) (l:List Int) (c:rgT s l < rgU s l):SJ W (rnS s (rgT s l) (rgU s l)):=by
 have hr:=QE h l
 exact ⟨h.gw,h.gi,h.x0,h.x1,h.y0,h.y1,hr.1,by simp only [rnS]; omega,by simp only [rnS]; omega⟩
theorem FM (h:SJ W s) (a:bA):iB s a=some (reS s a.bJ):=by
 have hl:=h.gi.l2
 have hl1:=h.gi.l1
 unfold iB reS
 rw [tC,aA,show eT a 0 1=_ from BH a 0 1,aA,p9,aA]
 dsimp only
 rw [show eT a 1 (s.g.l.length:Int)=_ from BH a 1 _,aA,p9,aA,w64 (by omega) (by omega),w64 (by omega) (by omega)]
 rw [<- rgT,<- rgU]
 by_cases c:rgT s a.bJ < rgU s a.bJ
 ·rw [decide_eq_true c,cond_true,if_pos c,<- rnS,nh (Km h _ c),aA]
 ·rw [decide_eq_false c,cond_false,if_neg c]
theorem QF (h:SI W s) (l:List Int):SI W (reS s l):=by
 unfold reS
 split
 ·exact qd (Km h.toSJ l (by assumption)) _ _
 ·exact h
def ceR (s:aB) (b n:Int):aE:=⟨jY 0 (if b=64 then ins (ns s.g.l s.spot.y).cells s.spot.x n (nT s.spot.aM) else if b=80 then del (ns s.g.l s.spot.y).cells s.spot.x n (nT s.spot.aM) else nf s.spot.x (s.spot.x+n) (nT s.spot.aM) 0 (ns s.g.l s.spot.y).cells),false⟩
def ceS (W:Nat) (s:aB) (b n:Int):aB:=nwS (seS W s s.spot.y (ceR s b n))
end
theorem M3 (l:List aG) (a n q:Int):(ins l a n q).length=l.length:=by
 unfold ins
 split
 ·rfl
 ·rcases Ae l a n with h | ⟨h1,h2,h3⟩
  ·contradiction
  ·unfold pT
   simp only [List.length_take,List.length_append,List.length_replicate,List.length_drop]
   omega
theorem M4 (l:List aG) (a n q:Int):(del l a n q).length=l.length:=by
 unfold del
 split
 ·rfl
 ·rcases Ae l a n with h | ⟨h1,h2,h3⟩
  ·contradiction
  ·unfold qC
   simp only [List.length_take,List.length_append,List.length_replicate,List.length_drop]
   omega
theorem Pq {l:List aG} (h:okR l) (a n q:Int):okR (ins l a n q):=by
 unfold ins
 split
 ·exact h
 ·exact wX (tt (tt (wX h _) (zm _ _)) (Ad h _)) _
theorem Pr {l:List aG} (h:okR l) (a n q:Int):okR (del l a n q):=by
 unfold del
 split
 ·exact h
 ·exact tt (tt (wX h _) (Ad h _)) (zm _ _)
section
variable {W : Nat} {s : aB}
theorem Kn (h:SJ W s) (b n:Int):gok W (ceR s b n):=by
 have hg:=h.row
 refine ⟨?_,sA _ _ ?_⟩
 ·simp only [ceR,na]
  split
  ·rw [M3]; exact hg.1
  ·split
   ·rw [M4]; exact hg.1
   ·rw [ot]; exact hg.1
 ·split
  ·exact Pq hg.2 _ _ _
  ·split
   ·exact Pr hg.2 _ _ _
   ·exact yb _ _ _ _ hg.2
theorem CA (h:SJ W s) (b n:Int):(ceR s b n).cells.length<=1000000:=by have:=(Kn h b n).le h.gi.w2; omega
theorem Ih (h:SJ W s) (b:Int) {n:Int} (h0:0<=n) (h1:n<=9999):gL (ns s.g.l s.spot.y) b s n=some (ceR s b n):=by
 have hl:=rF h
 have hy:=yr h
 unfold gL ceR
 by_cases c:b=64
 ·rw [od c,cond_true,pq,aA,insert_eq _ _ _ _ hl h.xr.1 h.xr.2,aA,if_pos c]; rfl
 ·rw [eD c,cond_false,if_neg c]
  by_cases c2:b=80
  ·rw [od c2,cond_true,pq,aA,HL _ _ _ _ hl h.xr.1 h.xr.2,aA,if_pos c2]; rfl
  ·rw [eD c2,cond_false,pq,aA,w64 (by omega) (by omega),erase_eq _ _ _ _ (by omega),aA,if_neg c2]
theorem Ii (h:SJ W s) (b:Int) {n:Int} (h0:0<=n) (h1:n<=9999):iQ s b n=some (ceS W s b n):=by
 unfold iQ eP
 rw [h.J6,aA,Ih h b h0 h1,aA,h.J7 _ (CA h b n),aA,aA]
 rfl
theorem QG (h:SJ W s) (b n:Int):SI W (ceS W s b n):=⟨oa (GW h _ (Kn h b n).2),λe=>by cases e⟩
theorem M5 (h:SJ W s) (n:Int):o6 (told (ns s.g.l s.spot.y)) s.spot.x n (nT s.spot.aM)=some (told (ceR s 64 n)):=by
 have hl:=rF h
 rw [told,Fj (ns s.g.l s.spot.y).cells (ns s.g.l s.spot.y).wrapped s.spot.x n _ hl h.xr.1 h.xr.2]
 rfl
theorem M6 (h:SJ W s) (n:Int):o7 (told (ns s.g.l s.spot.y)) s.spot.x n (nT s.spot.aM)=some (told (ceR s 80 n)):=by
 have hl:=rF h
 rw [told,Fk (ns s.g.l s.spot.y).cells (ns s.g.l s.spot.y).wrapped s.spot.x n _ hl h.xr.1 h.xr.2]
 rfl
def orS (W:Nat) (s:aB) (b:Int) (l:List Int):aB :=
 if b=65 then clS s (0 - atS l 0 1) else if b=70 then xS (clS s (0 - atS l 0 1)) 0 else
 if b=66 then clS s (atS l 0 1) else if b=69 then xS (clS s (atS l 0 1)) 0 else
 if b=67 then mvS s (s.spot.x+atS l 0 1) s.spot.y else if b=68 then mvS s (s.spot.x - atS l 0 1) s.spot.y else
 if b=71 then mvS s (atS l 0 1 - 1) s.spot.y else if b=100 then mvS s s.spot.x (atS l 0 1 - 1) else
 if b=72\/b=102 then mvS s (atS l 1 1 - 1) (atS l 0 1 - 1) else
 if b=74 then D3 W s (atS l 0 0) true else if b=75 then D3 W s (atS l 0 0) false else
 if b=64\/b=80\/b=88 then ceS W s b (atS l 0 1) else
 if b=76\/b=77 then shS W s b (atS l 0 1) else
 if b=83 then upS W (nwS s) (atS l 0 1) else
 if b=84 then dnS W (nwS s) s.top s.aL (atS l 0 1) else
 if b=109 then ⟨s.g,⟨s.spot.x,s.spot.y,Ie s.spot.aM l⟩,s.saved,s.waiting,s.top,s.aL,s.aZ,s.title⟩ else
 if b=114 then reS s l else s
def orF (s:aB) (b:Int) (l:List Int):List aE:=if b=83 then upF (nwS s) (atS l 0 1) else []
theorem n8 {p:Prop} [Decidable p] {a b:aB} (ha:SI W a) (hb:SI W b):SI W (if p then a else b):=by split <;> assumption
theorem QH (h:SI W s) (b:Int) (l:List Int):SI W (orS W s b l):=by
 have h0:=w0 h.toSJ
 have hx: ∀ n,SI W (xS (clS s n) 0):=λn=>⟨DX (qd h.toSJ _ _).toSJ (Int.le_refl 0) h0,λe=>by cases e⟩
 unfold orS
 have e4: ∀ q,SI W ⟨s.g,⟨s.spot.x,s.spot.y,q⟩,s.saved,s.waiting,s.top,s.aL,s.aZ,s.title⟩:=λq=>⟨⟨h.gw,h.gi,h.x0,h.x1,h.y0,h.y1,h.t0,h.tb,h.b1⟩,h.wt⟩
 have e5: ∀ n,SI W (upS W (nwS s) n):=λn=>⟨Oe (oa h.toSJ) _,λe=>by cases e⟩
 have e6: ∀ t b n,SI W (dnS W (nwS s) t b n):=λt b n=>⟨D1 (oa h.toSJ) _ _ _,λe=>by cases e⟩
 refine n8 (qd h.toSJ _ _) (n8 (hx _) (n8 (qd h.toSJ _ _) (n8 (hx _) (n8 (qd h.toSJ _ _) (n8 (qd h.toSJ _ _) (n8 (qd h.toSJ _ _) (n8 (qd h.toSJ _ _) (n8 (qd h.toSJ _ _) (n8 (Kk h _ _) (n8 (Kk h _ _) (n8 (QG h.toSJ _ _) (n8 (QD h _ _) (n8 (e5 _) (n8 (e6 _ _ _) (n8 (e4 _) (n8 (QF h _) h))))))))))))))))
theorem CB (n a b c:Int):((bif (n == a) then some (n == a) else (bif (n == b) then some (n == b) else some (n == c))):Option Bool)=some (decide (n=a\/n=b\/n=c)):=by
 by_cases h:n=a
 ·simp [h]
 ·rw [eD h,cond_false]
  by_cases h2:n=b
  ·simp [h2]
  ·rw [eD h2,cond_false]
   by_cases h3:n=c
   ·simp [h3]
   ·rw [eD h3,decide_eq_false (by omega)]
theorem G0 (n a b:Int):((bif (n == a) then some (n == a) else some (n == b)):Option Bool)=some (decide (n=a\/n=b)):=by
 by_cases h:n=a
 ·simp [h]
 ·rw [eD h,cond_false]
  by_cases h2:n=b
  ·simp [h2]
  ·rw [eD h2,decide_eq_false (by omega)]
end
section
variable {W : Nat} {s : aB}
theorem Ps (s:aB):aB.mk s.g s.spot s.saved false s.top s.aL s.aZ s.title=nwS s:=rfl
theorem ni (t:aB) (b:Int):(Option.bind ((bif (b == 69) then some true else some (b == 70)):Option Bool) λc=>(Option.bind ((bif c then some (aB.mk t.g (eG.mk 0 t.spot.y t.spot.aM) t.saved t.waiting t.top t.aL t.aZ t.title) else some (aB.mk t.g t.spot t.saved t.waiting t.top t.aL t.aZ t.title)):Option aB) λa=>some (([]:List aE),(aB.mk t.g a.spot a.saved a.waiting a.top a.aL a.aZ a.title))))=some ([],if b=69\/b=70 then xS t 0 else t):=by
 rw [wB,aA]
 by_cases h:b=69\/b=70
 ·rw [decide_eq_true h,if_pos h]; rfl
 ·rw [decide_eq_false h,if_neg h]; rfl
theorem M7 (h:SJ W s) (a:bA) (hl:a.bJ.length<=1000000):iS s a=some (orF s a.byte a.bJ,orS W s a.byte a.bJ):=by
 have hy:=yr h
 have hN:=yo a.bJ 0 (d:=1) (by omega) (by omega)
 have hM:=yo a.bJ 1 (d:=1) (by omega) (by omega)
 have hZ:=yo a.bJ 0 (d:=0) (by omega) (by omega)
 unfold iS
 rw [show eT a 0 1=_ from BH a 0 1,aA]
 simp only [show eT a 1 1=_ from BH a 1 1,show eT a 0 0=_ from BH a 0 0,CB,FM h,Ps,MS _ _ hl]
 simp only [G0,aA]
 have hcl:=λn h0 h1=>Kj (n:=n) h h0 h1
 have w1:IntKind.i64.wrap (0 - atS a.bJ 0 1)=0 - atS a.bJ 0 1:=w64 (by omega) (by omega)
 have w2:IntKind.i64.wrap (s.spot.x+atS a.bJ 0 1)=s.spot.x+atS a.bJ 0 1:=w64 (by omega) (by omega)
 have w3:IntKind.i64.wrap (s.spot.x - atS a.bJ 0 1)=s.spot.x - atS a.bJ 0 1:=w64 (by omega) (by omega)
 have w4:IntKind.i64.wrap (atS a.bJ 0 1 - 1)=atS a.bJ 0 1 - 1:=w64 (by omega) (by omega)
 have w5:IntKind.i64.wrap (atS a.bJ 1 1 - 1)=atS a.bJ 1 1 - 1:=w64 (by omega) (by omega)
 have c1:=hcl (0 - atS a.bJ 0 1) (by omega) (by omega)
 have c2:=hcl (atS a.bJ 0 1) (by omega) (by omega)
 have dn:eO s.g s.top s.aL (atS a.bJ 0 1) (nT s.spot.aM)=some (vP s.g.l s.top s.aL (atS a.bJ 0 1),(dnS W (nwS s) s.top s.aL (atS a.bJ 0 1)).g):=Au (oa h) _ _ _
 have nn:bY (nwS s)=some (nT s.spot.aM):=pq _
 generalize hb:a.byte=b
 have key: ∀ (t:aB),(if b=69\/b=70 then xS t 0 else t)=orS W s b a.bJ->orF s b a.bJ=[]->(some ([],if b=69\/b=70 then xS t 0 else t):Option (List aE×aB))=some (orF s b a.bJ,orS W s b a.bJ):=λt e1 e2=>by rw [e1,e2]
 by_cases h1:b=65\/b=70
 ·rw [decide_eq_true h1]
  simp only [cond_true,w1,c1,aA]
  rw [ni]
  refine key _ ?_ ?_
  ·rcases h1 with rfl | rfl <;> rfl
  ·rcases h1 with rfl | rfl <;> rfl
 ·rw [decide_eq_false h1,cond_false]
  by_cases h2:b=66\/b=69
  ·rw [decide_eq_true h2]
   simp only [cond_true,c2,aA]
   rw [ni]
   refine key _ ?_ ?_
   ·rcases h2 with rfl | rfl <;> rfl
   ·rcases h2 with rfl | rfl <;> rfl
  ·rw [decide_eq_false h2,cond_false]
   have hne: ¬ (b=69\/b=70):=by omega
   have key2: ∀ (t:aB),t=orS W s b a.bJ->orF s b a.bJ=[]->(some ([],if b=69\/b=70 then xS t 0 else t):Option (List aE×aB))=some (orF s b a.bJ,orS W s b a.bJ):=λt e1 e2=>by rw [if_neg hne,e1,e2]
   by_cases h3:b=67
   ·subst h3; simp only [beq_self_eq_true,cond_true,w2,nh h,aA]; rw [ni]; exact key2 _ rfl rfl
   rw [eD h3,cond_false]
   by_cases h4:b=68
   ·subst h4; simp only [beq_self_eq_true,cond_true,w3,nh h,aA]; rw [ni]; exact key2 _ rfl rfl
   rw [eD h4,cond_false]
   by_cases h5:b=71
   ·subst h5; simp only [beq_self_eq_true,cond_true,w4,nh h,aA]; rw [ni]; exact key2 _ rfl rfl
   rw [eD h5,cond_false]
   by_cases h6:b=100
   ·subst h6; simp only [beq_self_eq_true,cond_true,w4,nh h,aA]; rw [ni]; exact key2 _ rfl rfl
   rw [eD h6,cond_false]
   by_cases h7:b=72\/b=102
   ·rw [decide_eq_true h7]; simp only [cond_true,w4,w5,nh h,aA]; rw [ni]
    refine key2 _ ?_ ?_
    ·rcases h7 with rfl | rfl <;> rfl
    ·rcases h7 with rfl | rfl <;> rfl
   rw [decide_eq_false h7,cond_false]
   by_cases h8:b=74
   ·subst h8; simp only [beq_self_eq_true,cond_true,M1 h hZ.1,aA]; rw [ni]; exact key2 _ rfl rfl
   rw [eD h8,cond_false]
   by_cases h9:b=75
   ·subst h9; simp only [beq_self_eq_true,cond_true,GY h hZ.1,aA]; rw [ni]; exact key2 _ rfl rfl
   rw [eD h9,cond_false]
   by_cases h10:b=64\/b=80\/b=88
   ·rw [decide_eq_true h10]; simp only [cond_true,Ii h _ hN.1 hN.2.1,aA]; rw [ni]
    refine key2 _ ?_ ?_
    ·rcases h10 with rfl | rfl | rfl <;> rfl
    ·rcases h10 with rfl | rfl | rfl <;> rfl
   rw [decide_eq_false h10,cond_false]
   by_cases h11:b=76\/b=77
   ·rw [decide_eq_true h11]; simp only [cond_true,Kl h,aA]; rw [ni]
    refine key2 _ ?_ ?_
    ·rcases h11 with rfl | rfl <;> rfl
    ·rcases h11 with rfl | rfl <;> rfl
   rw [decide_eq_false h11,cond_false]
   by_cases h12:b=83
   ·subst h12; simp only [beq_self_eq_true,cond_true,J9 (oa h),aA]; rfl
   rw [eD h12,cond_false]
   by_cases h13:b=84
   ·subst h13; simp only [beq_self_eq_true,cond_true,nn,dn,aA]
    have e:=ni (dnS W (nwS s) s.top s.aL (atS a.bJ 0 1)) 84
    exact e.trans (key2 _ rfl rfl)
   rw [eD h13,cond_false]
   by_cases h14:b=109
   ·subst h14; simp only [beq_self_eq_true,cond_true]
    have e:=ni ⟨s.g,⟨s.spot.x,s.spot.y,Ie s.spot.aM a.bJ⟩,s.saved,s.waiting,s.top,s.aL,s.aZ,s.title⟩ 109
    exact e.trans (key2 _ rfl rfl)
   rw [eD h14,cond_false]
   by_cases h15:b=114
   ·subst h15; simp only [beq_self_eq_true,cond_true,aA]; rw [ni]; exact key2 _ rfl rfl
   rw [eD h15,cond_false,aA]
   dsimp only
   rw [ni]
   refine key2 _ ?_ ?_
   ·unfold orS
    rw [if_neg (by omega),if_neg (by omega),if_neg (by omega),if_neg (by omega),if_neg h3,if_neg h4,if_neg h5,if_neg h6,if_neg h7,if_neg h8,if_neg h9,if_neg h10,if_neg h11,if_neg h12,if_neg h13,if_neg h14,if_neg h15]
   ·unfold orF
    rw [if_neg h12]
end
section
variable {W : Nat} {s : aB}
theorem M8 (s:aB):aP.mk (aO s).g (aO s).x (aO s).y (aO s).s (aO s).sX (aO s).sY (aO s).sS false (aO s).top (aO s).aL (aO s).aZ (aO s).title=aO (nwS s):=rfl
theorem G1 {s:aB} {x y x' y':Int} (hx:max 0 (min x (s.g.w - 1))=max 0 (min x' (s.g.w - 1))) (hy:max 0 (min y ((s.g.l.length:Int) - 1))=max 0 (min y' ((s.g.l.length:Int) - 1))):mvS s x y=mvS s x' y':=by
 unfold mvS
 rw [hx,hy]
theorem Ij (h:SJ W s) (b:Int) (l:List Int) (hl:l.length<=1000000):qk (aO s) b l=some (aO (orS W s b l),(orF s b l).map told):=by
 have hy:=yr h
 have hlen:=h.gi.l2
 have hlen1:=h.gi.l1
 have hN:=yo l 0 (d:=1) (by omega) (by omega)
 have hM:=yo l 1 (d:=1) (by omega) (by omega)
 have hZ:=yo l 0 (d:=0) (by omega) (by omega)
 unfold qk
 rw [show fH l 0 1=_ from sG l 0 1,aA,xm,aA]
 simp only [show fH l 0 1=_ from sG l 0 1,show fH l 1 1=_ from sG l 1 1,show fH l 0 0=_ from sG l 0 0,G0,M8,FK h]
 simp only [show fH l 1 (s.g.l.length:Int)=_ from sG l 1 _,show (aO s).x=s.spot.x from rfl,show (aO s).y=s.spot.y from rfl,show (aO s).top=s.top from rfl,show (aO s).aL=s.aL from rfl,show (aO s).s=tst s.spot.aM from rfl,J5 _ _ hl,aA]
 have w1:IntKind.i64.wrap (s.spot.y - atS l 0 1)=s.spot.y - atS l 0 1:=w64 (by omega) (by omega)
 have w1':IntKind.i64.wrap (s.spot.y+atS l 0 1)=s.spot.y+atS l 0 1:=w64 (by omega) (by omega)
 have w2:IntKind.i64.wrap (s.spot.x+atS l 0 1)=s.spot.x+atS l 0 1:=w64 (by omega) (by omega)
 have w3:IntKind.i64.wrap (s.spot.x - atS l 0 1)=s.spot.x - atS l 0 1:=w64 (by omega) (by omega)
 have w4:IntKind.i64.wrap (atS l 0 1 - 1)=atS l 0 1 - 1:=w64 (by omega) (by omega)
 have w5:IntKind.i64.wrap (atS l 1 1 - 1)=atS l 1 1 - 1:=w64 (by omega) (by omega)
 have w6:IntKind.i64.wrap ((s.g.l.length:Int) - 1)=(s.g.l.length:Int) - 1:=w64 (by omega) (by omega)
 have dn:eK (aO s).g false s.top s.aL (atS l 0 1) (nT s.spot.aM)=some ((aO (dnS W (nwS s) s.top s.aL (atS l 0 1))).g,(vP s.g.l s.top s.aL (atS l 0 1)).map told):=Av (oa h) _ _ _
 by_cases h1:b=65\/b=70
 ·rw [decide_eq_true h1]
  simp only [cond_true,zt,w1,aA,gQ,kK h]
  have e:mvS s s.spot.x (max (if s.spot.y>=s.top then s.top else 0) (s.spot.y - atS l 0 1))=clS s (0 - atS l 0 1):=by
   unfold clS
   apply G1 rfl
   split <;> split <;> split <;> omega
  rw [e]
  rcases h1 with rfl | rfl <;> rfl
 rw [decide_eq_false h1,cond_false]
 by_cases h2:b=66\/b=69
 ·rw [decide_eq_true h2]
  simp only [cond_true,zt,w1',w6,aA,dP,kK h]
  have e:mvS s s.spot.x (min (if s.spot.y<=s.aL then s.aL else (s.g.l.length:Int) - 1) (s.spot.y+atS l 0 1))=clS s (atS l 0 1):=by
   unfold clS
   have hb:=h.b1
   have ht:=h.t0
   have htb:=h.tb
   apply G1 rfl
   split <;> split <;> split <;> omega
  rw [e]
  rcases h2 with rfl | rfl <;> rfl
 rw [decide_eq_false h2,cond_false]
 by_cases h3:b=67
 ·subst h3; simp only [beq_self_eq_true,cond_true,w2,kK h,aA]; rfl
 rw [eD h3,cond_false]
 by_cases h4:b=68
 ·subst h4; simp only [beq_self_eq_true,cond_true,w3,kK h,aA]; rfl
 rw [eD h4,cond_false]
 by_cases h5:b=71
 ·subst h5; simp only [beq_self_eq_true,cond_true,w4,kK h,aA]; rfl
 rw [eD h5,cond_false]
 by_cases h6:b=100
 ·subst h6; simp only [beq_self_eq_true,cond_true,w4,kK h,aA]; rfl
 rw [eD h6,cond_false]
 by_cases h7:b=72\/b=102
 ·rw [decide_eq_true h7]; simp only [cond_true,w4,w5,kK h,aA]
  rcases h7 with rfl | rfl <;> rfl
 rw [decide_eq_false h7,cond_false]
 by_cases h8:b=74
 ·subst h8; simp only [beq_self_eq_true,cond_true,D4 h hZ.1,aA]; rfl
 rw [eD h8,cond_false]
 by_cases h9:b=75
 ·subst h9; simp only [beq_self_eq_true,cond_true,D4 h hZ.1,aA]; rfl
 rw [eD h9,cond_false]
 by_cases h10:b=88
 ·subst h10; simp only [beq_self_eq_true,cond_true,w2,wD h h.y0 h.y1,aA]; rfl
 rw [eD h10,cond_false]
 have gr:idx (aO s).g.l s.spot.y=some (told (ns s.g.l s.spot.y)):=h.MY
 by_cases h11:b=64
 ·subst h11; simp only [beq_self_eq_true,cond_true,gr,aA,M5 h,uD h (CA h 64 _)]; rfl
 rw [eD h11,cond_false]
 by_cases h12:b=80
 ·subst h12; simp only [beq_self_eq_true,cond_true,gr,aA,M6 h,uD h (CA h 80 _)]; rfl
 rw [eD h12,cond_false]
 have e12: ¬ (b=64\/b=80\/b=88):=by omega
 by_cases h13:b=76\/b=77
 ·rw [decide_eq_true h13]
  simp only [cond_true]
  rw [show ((bif (decide (s.spot.y>=s.top)) then some (decide (s.spot.y<=s.aL)) else some false):Option Bool)=_ from Cg _ _,aA]
  by_cases c:s.spot.y>=s.top/\s.spot.y<=s.aL
  ·have c': ¬ (s.spot.y < s.top\/s.spot.y > s.aL):=by omega
   rw [decide_eq_true c,cond_true]
   rcases h13 with rfl | rfl
   ·rw [show ((76:Int) == 77)=false from rfl,Av h,aA]
    have e:=kK (D1 h s.spot.y s.aL (atS l 0 1)) 0 s.spot.y
    rw [show aO (dnS W s s.spot.y s.aL (atS l 0 1))=aP.mk (aO (dnS W s s.spot.y s.aL (atS l 0 1))).g s.spot.x s.spot.y (tst s.spot.aM) (aO s).sX (aO s).sY (aO s).sS (aO s).waiting s.top s.aL (aO s).aZ (aO s).title from rfl] at e
    dsimp only
    rw [e,aA]
    unfold orS orF shS
    rw [if_neg c']
    rfl
   ·rw [show ((77:Int) == 77)=true from rfl,MZ h,aA]
    have e:=kK (FJ h s.spot.y s.aL (atS l 0 1)) 0 s.spot.y
    rw [show aO (upT W s s.spot.y s.aL (atS l 0 1))=aP.mk (aO (upT W s s.spot.y s.aL (atS l 0 1))).g s.spot.x s.spot.y (tst s.spot.aM) (aO s).sX (aO s).sY (aO s).sS (aO s).waiting s.top s.aL (aO s).aZ (aO s).title from rfl] at e
    dsimp only
    rw [e,aA]
    unfold orS orF shS
    rw [if_neg c']
    rfl
  ·have c':s.spot.y < s.top\/s.spot.y > s.aL:=by omega
   rw [decide_eq_false c,cond_false,aA]
   unfold orS orF shS
   rw [if_pos c']
   rcases h13 with rfl | rfl <;> rfl
 rw [decide_eq_false h13,cond_false]
 by_cases h14:b=83
 ·subst h14
  have e:=BF (oa h) (atS l 0 1)
  have e2:aP.mk (aO s).g s.spot.x s.spot.y (tst s.spot.aM) (aO s).sX (aO s).sY (aO s).sS false s.top s.aL (aO s).aZ (aO s).title=aO (nwS s):=rfl
  simp only [beq_self_eq_true,cond_true,e2,e,aA]
  rfl
 rw [eD h14,cond_false]
 by_cases h15:b=84
 ·subst h15; simp only [beq_self_eq_true,cond_true,dn,aA]; rfl
 rw [eD h15,cond_false]
 by_cases h16:b=109
 ·subst h16; simp only [beq_self_eq_true,cond_true,aA]; rfl
 rw [eD h16,cond_false]
 by_cases h17:b=114
 ·subst h17
  simp only [beq_self_eq_true,cond_true]
  rw [dP,gQ,dP,gQ,w64 (by omega) (by omega),w64 (by omega) (by omega),<- rgT,<- rgU]
  unfold orS orF
  simp only [Int.reduceEq,if_false,if_true,or_self,Bool.false_eq_true]
  unfold reS
  by_cases c:rgT s l < rgU s l
  ·rw [decide_eq_true c,cond_true,if_pos c]
   have e:=kK (Km h l c) 0 0
   rw [show aO (rnS s (rgT s l) (rgU s l))=aP.mk (aO s).g s.spot.x s.spot.y (tst s.spot.aM) (aO s).sX (aO s).sY (aO s).sS (aO s).waiting (rgT s l) (rgU s l) (aO s).aZ (aO s).title from rfl] at e
   rw [e,aA,aA]
   rfl
  ·rw [decide_eq_false c,cond_false,if_neg c,aA]
   rfl
 rw [eD h17,cond_false,aA]
 unfold orS orF
 rw [if_neg (by omega),if_neg (by omega),if_neg (by omega),if_neg (by omega),if_neg h3,if_neg h4,if_neg h5,if_neg h6,if_neg h7,if_neg h8,if_neg h9,if_neg e12,if_neg h13,if_neg h14,if_neg h15,if_neg h16,if_neg h17,if_neg h14]
 rfl
end
def nlS:bC:=⟨0,0,false,false,false⟩
def Ba (w h:Int):aB:=⟨y9 w h,⟨0,0,nlS⟩,⟨0,0,nlS⟩,false,0,(szN h:Int) - 1,true,ByteArray.mk #[]⟩
theorem D5 (w h:Int):(Ba w h).g.l.length=szN h:=by simp [Ba,y9]
theorem G2 (w h:Int):n5 w h=some (Ba w h):=by
 unfold n5
 have h1:=pf h
 rw [OZ,aA,tC,aA]
 dsimp only
 rw [show ((y9 w h).l.length:Int)=(szN h:Int) by simp [y9],w64 (by omega) (by omega)]
 rfl
theorem Ko (w h:Int):ur w h=some (aO (Ba w h)):=by
 unfold ur
 have h1:=pf h
 rw [Mc,aA]
 rw [show ((uw (y9 w h)).l.length:Int)=(szN h:Int) by simp [y9,uw],w64 (by omega) (by omega)]
 rfl
theorem G3 (w h:Int):SI (szN w) (Ba w h):=by
 have h1:=rD h
 have h2:=rD w
 refine ⟨⟨rfl,OY w h,Int.le_refl 0,?_,Int.le_refl 0,?_,Int.le_refl 0,?_,?_⟩,λe=>by cases e⟩
 ·show (0:Int) < _; omega
 ·rw [D5]; show (0:Int) < _; omega
 ·show (0:Int)<=(szN h:Int) - 1; omega
 ·rw [D5]; show (szN h:Int) - 1 < _; omega
section
variable {W : Nat} {s : aB}
def ctS (W:Nat) (s:aB) (b:Int):aB:=if b=8 then mvS s (s.spot.x - 1) s.spot.y else if b=9 then mvS s (s.spot.x.tdiv 8*8+8) s.spot.y else if b=10\/b=11\/b=12 then liS W s else if b=13 then mvS s 0 s.spot.y else s
def ctF (s:aB) (b:Int):List aE:=if b=10\/b=11\/b=12 then liF s else []
theorem Kp {x:Int} (h0:0<=x) (h1:x < 1000):0<=x.tdiv 8/\x.tdiv 8<=1000:=by
 rw [Int.tdiv_eq_ediv_of_nonneg h0]
 omega
theorem Ik (h:SJ W s) (b:Int):gJ s b=some (ctF s b,ctS W s b):=by
 have hy:=yr h
 have ht:=Kp hy.2.2.1 hy.2.2.2
 unfold gJ ctF ctS
 simp only [CB]
 rw [w64 (x:=s.spot.x - 1) (by omega) (by omega),w64 (x:=s.spot.x.tdiv 8) (by omega) (by omega),w64 (x:=s.spot.x.tdiv 8+1) (by omega) (by omega),w64 (x:=(s.spot.x.tdiv 8+1)*8) (by omega) (by omega),show (s.spot.x.tdiv 8+1)*8=s.spot.x.tdiv 8*8+8 by omega]
 by_cases h1:b=8
 ·subst h1; simp only [beq_self_eq_true,cond_true,nh h,aA]; rfl
 rw [eD h1,cond_false,if_neg h1]
 by_cases h2:b=9
 ·subst h2; simp only [beq_self_eq_true,cond_true,nh h,aA]; rfl
 rw [eD h2,cond_false,if_neg h2,aA]
 by_cases h3:b=10\/b=11\/b=12
 ·rw [decide_eq_true h3,cond_true,(iT h).p,if_pos h3,if_pos h3]; rfl
 rw [decide_eq_false h3,cond_false,if_neg h3,if_neg h3]
 by_cases h4:b=13
 ·subst h4; simp only [beq_self_eq_true,cond_true,nh h,aA]; rfl
 rw [eD h4,cond_false,if_neg h4]
 rfl
theorem QI (h:SI W s) (b:Int):SI W (ctS W s b):=n8 (qd h.toSJ _ _) (n8 (qd h.toSJ _ _) (n8 (iT h.toSJ).i (n8 (qd h.toSJ _ _) h)))
def e8S (s:aB):aB:=⟨s.g,⟨s.spot.x,s.spot.y,s.saved.aM⟩,s.saved,s.waiting,s.top,s.aL,s.aZ,s.title⟩
theorem Kq (h:SJ W s):SJ W (e8S s):=⟨h.gw,h.gi,h.x0,h.x1,h.y0,h.y1,h.t0,h.tb,h.b1⟩
def e7S (s:aB):aB:=⟨s.g,s.spot,s.spot,s.waiting,s.top,s.aL,s.aZ,s.title⟩
def esS (W:Nat) (s:aB) (b:Int):aB:=if b=69 then liS W (xS s 0) else if b=68 then liS W s else if b=77 then baS W s else if b=55 then e7S s else if b=56 then mvS (e8S s) s.saved.x s.saved.y else if b=99 then Ba W s.g.l.length else s
def esF (s:aB) (b:Int):List aE:=if b=69 then liF (xS s 0) else if b=68 then liF s else []
theorem QJ (h:SI W s) (b:Int):SI W (esS W s b):=by
 have e:=G3 (W:Int) (s.g.l.length:Int)
 rw [JA W h.gi.w1 h.gi.w2] at e
 exact n8 (iT (DX h.toSJ (Int.le_refl 0) (w0 h.toSJ))).i (n8 (iT h.toSJ).i (n8 (QB h.toSJ) (n8 ⟨⟨h.gw,h.gi,h.x0,h.x1,h.y0,h.y1,h.t0,h.tb,h.b1⟩,h.wt⟩ (n8 (qd (Kq h.toSJ) _ _) (n8 e h)))))
theorem Kr (h:SJ W s) (b:Int):iA s b=some (esF s b,esS W s b):=by
 unfold iA esF esS
 by_cases h1:b=69
 ·subst h1
  have e:=(iT (DX h (Int.le_refl 0) (w0 h))).p
  rw [show xS s 0=aB.mk s.g (eG.mk 0 s.spot.y s.spot.aM) s.saved s.waiting s.top s.aL s.aZ s.title from rfl] at e
  simp only [beq_self_eq_true,cond_true,aA,e,if_true]
  rfl
 rw [eD h1,cond_false,if_neg h1,if_neg h1]
 by_cases h2:b=68
 ·subst h2
  have e:=(iT h).p
  simp only [beq_self_eq_true,cond_true,aA,if_true]
  rw [show aB.mk s.g s.spot s.saved s.waiting s.top s.aL s.aZ s.title=s from rfl,e]
  rfl
 rw [eD h2,cond_false,if_neg h2,if_neg h2]
 by_cases h3:b=77
 ·subst h3; simp only [beq_self_eq_true,cond_true,back_eq h,aA,if_true]; rfl
 rw [eD h3,cond_false,if_neg h3]
 by_cases h4:b=55
 ·subst h4; simp only [beq_self_eq_true,cond_true,aA,if_true]; rfl
 rw [eD h4,cond_false,if_neg h4]
 by_cases h5:b=56
 ·subst h5
  have e:=nh (Kq h) s.saved.x s.saved.y
  rw [show e8S s=aB.mk s.g (eG.mk s.spot.x s.spot.y s.saved.aM) s.saved s.waiting s.top s.aL s.aZ s.title from rfl] at e
  simp only [beq_self_eq_true,cond_true,e,aA,if_true]
  rfl
 rw [eD h5,cond_false,if_neg h5]
 by_cases h6:b=99
 ·subst h6
  simp only [beq_self_eq_true,cond_true,tC,aA,if_true,G2,h.gw]
  rfl
 rw [eD h6,cond_false,if_neg h6]
 rfl
def pvS (s:aB) (b:Int) (l:List Int):aB:=if atS l 0 0=7/\(b=104\/b=108) then ⟨s.g,s.spot,s.saved,s.waiting,s.top,s.aL,b == 104,s.title⟩ else s
def tiS (s:aB) (t:ByteArray):aB:=⟨s.g,s.spot,s.saved,s.waiting,s.top,s.aL,s.aZ,t⟩
def acS (W:Nat) (s:aB) (a:bA):aB:=if a.kind=1 then prS W s a.rune else if a.kind=2 then ctS W s a.byte else if a.kind=3 then esS W s a.byte else if a.kind=4 then (if a.eC=true then pvS s a.byte a.bJ else orS W s a.byte a.bJ) else if a.kind=5 then tiS s a.text else s
def acF (W:Nat) (s:aB) (a:bA):List aE:=if a.kind=1 then prF W s a.rune else if a.kind=2 then ctF s a.byte else if a.kind=3 then esF s a.byte else if a.kind=4 then (if a.eC=true then [] else orF s a.byte a.bJ) else []
theorem RC (h:SJ W s) (a:bA) (hl:a.bJ.length<=1000000):gG s a=some (acF W s a,acS W s a):=by
 unfold gG acF acS
 by_cases h1:a.kind=1
 ·rw [od h1,cond_true,if_pos h1,if_pos h1,MW h]; rfl
 rw [eD h1,cond_false,if_neg h1,if_neg h1]
 by_cases h2:a.kind=2
 ·rw [od h2,cond_true,if_pos h2,if_pos h2,Ik h]; rfl
 rw [eD h2,cond_false,if_neg h2,if_neg h2]
 by_cases h3:a.kind=3
 ·rw [od h3,cond_true,if_pos h3,if_pos h3,Kr h]; rfl
 rw [eD h3,cond_false,if_neg h3,if_neg h3]
 by_cases h5:a.kind=5
 ·have h4: ¬ a.kind=4:=by omega
  rw [od h5,cond_true,if_neg h4,if_neg h4,if_pos h5]; rfl
 rw [eD h5,cond_false,if_neg h5]
 by_cases h4:a.kind=4
 ·rw [od h4,cond_true,if_pos h4,if_pos h4]
  cases hp:a.eC with
  | false =>
   rw [Bool.not_false,cond_true,M7 h a hl,if_neg (by simp),if_neg (by simp)]
   rfl
  | true =>
   rw [Bool.not_true,cond_false,if_pos rfl,if_pos rfl,show eT a 0 0=_ from BH a 0 0,aA,wB]
   unfold pvS
   by_cases c:atS a.bJ 0 0=7
   ·rw [od c,cond_true,aA]
    by_cases c2:a.byte=104\/a.byte=108
    ·rw [decide_eq_true c2,cond_true,if_pos ⟨c,c2⟩]; rfl
    ·rw [decide_eq_false c2,cond_false,if_neg (λe=>c2 e.2)]; rfl
   ·rw [eD c,cond_false,aA,cond_false,if_neg (λe=>c e.1)]; rfl
 rw [eD h4,cond_false,if_neg h4,if_neg h4]
 rfl
theorem Oi (h:SI W s) (a:bA) (hr:rok a.rune):SI W (acS W s a):=by
 have e1:SI W (pvS s a.byte a.bJ):=by
  unfold pvS
  exact n8 ⟨⟨h.gw,h.gi,h.x0,h.x1,h.y0,h.y1,h.t0,h.tb,h.b1⟩,h.wt⟩ h
 exact n8 (QA h hr) (n8 (QI h _) (n8 (QJ h _) (n8 (n8 e1 (QH h _ _)) (n8 ⟨⟨h.gw,h.gi,h.x0,h.x1,h.y0,h.y1,h.t0,h.tb,h.b1⟩,h.wt⟩ h))))
def CC (W:Nat) (off:List aE):Prop:=off.length<=2000 /\ ∀ r∈off,gok W r
theorem xk.o2 {off:List aE} (h:xk W off):CC W off:=⟨by have:=h.1; omega,h.2⟩
theorem CD {p:Prop} [Decidable p] {a b:List aE} (ha:CC W a) (hb:CC W b):CC W (if p then a else b):=by split <;> assumption
theorem FN (h:SJ W s) (a:bA):CC W (acF W s a):=by
 have n0:CC W []:=(qJ W).o2
 have l0: ∀ t,SJ W t->CC W (liF t):=λt ht=>(iT ht).o.o2
 exact CD (Po h) (CD (CD (l0 _ h) n0) (CD (CD (l0 _ (DX h (Int.le_refl 0) (w0 h))) (CD (l0 _ h) n0)) (CD (CD n0 (CD (J8 (oa h) _).o2 n0)) n0)))
end
def wE (a:mX):bA:=⟨a.kind,a.rune,a.byte,a.eC,a.bJ,a.text⟩
section
variable {W : Nat} {s : aB}
theorem RD (h:SJ W s) (a:mX) (hr:rok a.rune) (hl:a.bJ.length<=1000000):wh (aO s) a=some (aO (acS W s (wE a)),(acF W s (wE a)).map told):=by
 have hy:=yr h
 have hlen:=h.gi.l2
 have ht:=Kp hy.2.2.1 hy.2.2.2
 unfold wh acF acS wE
 dsimp only
 by_cases h1:a.kind=1
 ·rw [od h1,cond_true,if_pos h1,if_pos h1,Pn h hr]; rfl
 rw [eD h1,cond_false,if_neg h1,if_neg h1]
 by_cases h2:a.kind=2
 ·rw [od h2,cond_true,if_pos h2,if_pos h2]
  unfold ctF ctS
  simp only [CB]
  rw [show (aO s).x=s.spot.x from rfl,show (aO s).y=s.spot.y from rfl,w64 (x:=s.spot.x - 1) (by omega) (by omega),w64 (x:=s.spot.x.tdiv 8) (by omega) (by omega),w64 (x:=s.spot.x.tdiv 8*8) (by omega) (by omega),w64 (x:=s.spot.x.tdiv 8*8+8) (by omega) (by omega)]
  generalize a.byte=b
  by_cases c1:b=8
  ·subst c1; simp only [beq_self_eq_true,cond_true,kK h,aA]; rfl
  rw [eD c1,cond_false,if_neg c1]
  by_cases c2:b=9
  ·subst c2; simp only [beq_self_eq_true,cond_true,kK h,aA]; rfl
  rw [eD c2,cond_false,if_neg c2,aA]
  by_cases c3:b=10\/b=11\/b=12
  ·rw [decide_eq_true c3,cond_true,(iT h).q,if_pos c3,if_pos c3]; rfl
  rw [decide_eq_false c3,cond_false,if_neg c3,if_neg c3]
  by_cases c4:b=13
  ·subst c4; simp only [beq_self_eq_true,cond_true,kK h,aA]; rfl
  rw [eD c4,cond_false,if_neg c4]
  rfl
 rw [eD h2,cond_false,if_neg h2,if_neg h2]
 by_cases h3:a.kind=3
 ·rw [od h3,cond_true,if_pos h3,if_pos h3]
  unfold esF esS
  generalize a.byte=b
  by_cases c2:b=68
  ·subst c2; simp only [beq_self_eq_true,cond_true,(iT h).q,aA,if_true]; rfl
  rw [eD c2,cond_false,if_neg c2,if_neg c2]
  by_cases c1:b=69
  ·subst c1
   have e:=(iT (DX h (Int.le_refl 0) (w0 h))).q
   rw [show aO (xS s 0)=aP.mk (aO s).g 0 (aO s).y (aO s).s (aO s).sX (aO s).sY (aO s).sS (aO s).waiting (aO s).top (aO s).aL (aO s).aZ (aO s).title from rfl] at e
   simp only [beq_self_eq_true,cond_true,e,aA,if_true]
   rfl
  rw [eD c1,cond_false,if_neg c1,if_neg c1]
  by_cases c3:b=77
  ·subst c3
   simp only [beq_self_eq_true,cond_true,if_true]
   unfold baS
   rw [show (aO s).y=s.spot.y from rfl,show (aO s).top=s.top from rfl]
   by_cases c:s.spot.y=s.top
   ·have e:eK (aO s).g false s.top s.aL 1 (nT s.spot.aM)=some ((aO (dnS W (nwS s) s.top s.aL 1)).g,(vP s.g.l s.top s.aL 1).map told):=Av (oa h) _ _ _
    rw [od c,cond_true,if_pos c,show (aO s).s=tst s.spot.aM from rfl,DT,aA,show (aO s).aL=s.aL from rfl,e,aA]
    rfl
   ·have e:=kK (oa h) s.spot.x (s.spot.y - 1)
    rw [show aO (nwS s)=aP.mk (aO s).g (aO s).x s.spot.y (aO s).s (aO s).sX (aO s).sY (aO s).sS false s.top (aO s).aL (aO s).aZ (aO s).title from rfl] at e
    rw [eD c,cond_false,if_neg c,w64 (by omega) (by omega),show (aO s).x=s.spot.x from rfl]
    rw [show (aO s).x=s.spot.x from rfl] at e
    rw [e,aA]
    rfl
  rw [eD c3,cond_false,if_neg c3]
  by_cases c4:b=55
  ·subst c4; simp only [beq_self_eq_true,cond_true,aA,if_true]; rfl
  rw [eD c4,cond_false,if_neg c4]
  by_cases c5:b=56
  ·subst c5
   have e:=kK (Kq h) s.saved.x s.saved.y
   rw [show aO (e8S s)=aP.mk (aO s).g (aO s).x (aO s).y (aO s).sS (aO s).sX (aO s).sY (aO s).sS (aO s).waiting (aO s).top (aO s).aL (aO s).aZ (aO s).title from rfl] at e
   simp only [beq_self_eq_true,cond_true,if_true]
   rw [show (aO s).sX=s.saved.x from rfl,show (aO s).sY=s.saved.y from rfl]
   rw [show (aO s).sX=s.saved.x from rfl,show (aO s).sY=s.saved.y from rfl] at e
   rw [e,aA]
   rfl
  rw [eD c5,cond_false,if_neg c5]
  by_cases c6:b=99
  ·subst c6
   simp only [beq_self_eq_true,cond_true,aA,if_true]
   rw [FK h,show (aO s).g.w=(W:Int) from h.gw,Ko,aA]
   rfl
  rw [eD c6,cond_false,if_neg c6]
  rfl
 rw [eD h3,cond_false,if_neg h3,if_neg h3]
 by_cases h4:a.kind=4
 ·rw [od h4,cond_true,if_pos h4,if_pos h4]
  cases hp:a.eC with
  | false =>
   rw [Bool.not_false,cond_true,Ij h a.byte a.bJ hl,if_neg (by simp),if_neg (by simp)]
   rfl
  | true =>
   rw [Bool.not_true,cond_false,if_pos rfl,if_pos rfl,show fH a.bJ 0 0=_ from sG a.bJ 0 0,aA,wB]
   unfold pvS
   by_cases c:atS a.bJ 0 0=7
   ·rw [od c,cond_true,aA]
    by_cases c2:a.byte=104\/a.byte=108
    ·rw [decide_eq_true c2,cond_true,if_pos ⟨c,c2⟩]; rfl
    ·rw [decide_eq_false c2,cond_false,if_neg (λe=>c2 e.2)]; rfl
   ·rw [eD c,cond_false,aA,cond_false,if_neg (λe=>c e.1)]; rfl
 rw [eD h4,cond_false,if_neg h4,if_neg h4]
 by_cases h5:a.kind=5
 ·rw [od h5,cond_true,if_pos h5]; rfl
 rw [eD h5,cond_false,if_neg h5]
 rfl
def roN (s:aB) (h:Int):Int:=max 0 (s.spot.y - ((szN h:Int) - 1))
def rzS (s:aB) (w h:Int):aB:=let t:aB:=mvS ⟨⟨(szN w:Int),rzL (szN w) s.g.l (loS s.g.l (roN s h)) (szN h)⟩,s.spot,s.saved,s.waiting,s.top,s.aL,s.aZ,s.title⟩ s.spot.x (s.spot.y - roN s h); ⟨t.g,t.spot,t.saved,t.waiting,0,(szN h:Int) - 1,t.aZ,t.title⟩
def rzF (s:aB) (h:Int):List aE:=s.g.l.take (loS s.g.l (roN s h))
theorem Il (h:SJ W s) (w k:Int):iC s w k=some (rzF s k,rzS s w k):=by
 have hy:=yr h
 have h1:=rD k
 have h2:=pf k
 have h3:=rD w
 have h4:=pf w
 have hl:=h.gi.len
 unfold iC
 rw [p9,aA,show max 1 (min k 1000)=(szN k:Int) by rw [<- Fm,gQ,dP],w64 (x:=(szN k:Int) - 1) (by omega) (by omega),w64 (x:=s.spot.y - ((szN k:Int) - 1)) (by omega) (by omega),gQ,<- roN]
 have e:=Fw s.g.w s.g.l w k (roN s k) h.gi.l1 (by have:=h.gi.l2; omega) hl
 rw [show (aY.mk s.g.w s.g.l)=s.g from rfl] at e
 rw [e,aA,w64 (x:=s.spot.y - roN s k) (by unfold roN; omega) (by unfold roN; omega)]
 dsimp only
 have hl2:=qT (szN w) s.g.l (loS s.g.l (roN s k)) (szN k)
 have em: ∀ (g:aY) (q:aB),q.g=g->g.w<=1000->1<=g.w->g.l.length<=1000 -> ∀ x y,bG q x y=some (mvS q x y):=by
  intro g q e1 e2 e3 e4 x y
  unfold bG dZ
  rw [e1,tC,aA,aA]
  dsimp only
  rw [w64 (by omega) (by omega),w64 (by omega) (by omega),p9,aA,p9,aA]
  unfold mvS
  rw [e1]
 rw [em _ _ rfl (by dsimp only; omega) (by dsimp only; omega) (by dsimp only; omega),aA]
 unfold dZ
 rw [tC,aA,aA]
 simp only [mvS,hl2]
 rw [w64 (by omega) (by omega)]
 simp only [rzF,rzS,mvS,hl2]
theorem Pt (h:SJ W s) (w k:Int):SI (szN w) (rzS s w k):=by
 have h1:=rD k
 have h2:=pf k
 have h3:=rD w
 have h4:=pf w
 have hl2:=qT (szN w) s.g.l (loS s.g.l (roN s k)) (szN k)
 have hg:GI (szN w) (rzL (szN w) s.g.l (loS s.g.l (roN s k)) (szN k)):=Qr (W:=W) (λr hr=>(h.gi.rs r hr).2) _ _ _ h3 h4 h1 h2
 refine ⟨⟨rfl,hg,?_,?_,?_,?_,?_,?_,?_⟩,λe=>by cases e⟩
 all_goals simp only [rzS,mvS,hl2]
 all_goals omega
theorem Ks (h:SJ W s) (k:Int):CC W (rzF s k):=by
 refine ⟨?_,λr hr=>h.gi.rs r (List.mem_of_mem_take hr)⟩
 have:=h.gi.l2
 simp only [rzF,List.length_take]
 omega
end
theorem D6 (s:ByteArray) {lo hi:Int} (h0:0<=lo) (h1:lo<=hi) (h2:hi<=s.size):(iN s lo hi).size=(hi - lo).toNat:=by
 unfold iN
 rw [ByteArray.size_extract]
 omega
def okA (a:mX):Prop:=rok a.rune/\0<=a.byte/\a.byte < 256/\a.bJ.length<=18
end Go.Tw.X
set_option maxHeartbeats 1000000
namespace Go.Tw.X
open Go Go.Tw
def Pu (l:List Int):Prop:= ∀ x∈l,rok x
theorem M9 (s:ByteArray) {n:Int} (h:0<=n):okO (pZ s n) (λr=>(r.size:Int)<=n):=by
 unfold pZ
 refine xi (λhc=> ?_) λhc=>fN (by omega)
 refine mE (FH (by omega) h (by omega)) λ_ _=>fN ?_
 rw [D6 _ (by omega) h (by omega)]
 omega
theorem Pv {W:Nat} {off:List aE} (h:CC W off) (hW:W<=1000):qA off (off.map told)=some true :=
 JN off (by have:=h.1; omega) λr hr=>⟨by have:=(h.2 r hr).1; omega,(h.2 r hr).2⟩
theorem Io {x:Int} (h:rok x):IntKind.i32.wrap x=x:=by
 have h1:=h.1
 have h2:=h.2
 rw [IntKind.wrap_i32]
 omega
theorem Kt {a:mX} (h:okA a):uu a=some (wE a):=by
 obtain ⟨h1,h2,h3,h4⟩:=h
 unfold uu
 rw [bL (by simp; omega),aA,Io h1,Ry h2 h3]
 rfl
section
variable {W : Nat} {s : aB}
theorem Na (h:SI W s) {a:mX} (ha:okA a):wh (aO s) a=some (aO (acS W s (wE a)),(acF W s (wE a)).map told)/\uu a=some (wE a)/\gG s (wE a)=some (acF W s (wE a),acS W s (wE a))/\qA (acF W s (wE a)) ((acF W s (wE a)).map told)=some true/\SI W (acS W s (wE a)) :=
 ⟨RD h.toSJ a ha.1 (by have:=ha.2.2.2; omega),Kt ha,RC h.toSJ _ (by have:=ha.2.2.2; show a.bJ.length<=_; omega),Pv (FN h.toSJ _) h.gi.w2,Oi h _ ha.1⟩
theorem Ku (h:SJ W s):jM s=some (s.g,s):=by
 unfold jM
 have e:=Fo s.g.w s.g.l (by have:=h.gi.l2; omega) h.gi.len
 rw [show (aY.mk s.g.w s.g.l)=s.g from rfl] at e
 rw [e]
 rfl
end
end Go.Tw.X
set_option maxRecDepth 20000
namespace Go.Tw.X
open Go Go.Tw
theorem Pw {P:Int->Prop} (h: ∀ n:Nat,n < 256->P n) {b:Int} (h0:0<=b) (h1:b < 256):P b:=by
 have:=h b.toNat (by omega)
 rwa [Int.toNat_of_nonneg h0] at this
def lF (b:Int):Int×Int×Int:=if 194<=b/\b<=223 then (1,128,191) else if b=224 then (2,160,191) else if b=237 then (2,128,159) else if 225<=b/\b<=239 then (2,128,191) else if b=240 then (3,144,191) else if b=244 then (3,128,143) else if 241<=b/\b<=243 then (3,128,191) else (0,0,0)
theorem xo (b:Int):((lF b).1=0\/(lF b).1=1\/(lF b).1=2\/(lF b).1=3)/\((lF b).1≠0->194<=b/\b<=244):=by
 unfold lF
 repeat' split
 all_goals simp
 all_goals omega
def Ip (l:List mJ) (b:Int):Option mJ:=l.find? λx=>decide (x.first<=b) && decide (b<=x.last)
def fnd (b:Int):mJ×Bool:=match Ip bW b with
 | some x=>(x,true)
 | none=>(⟨0,0,0,0,0⟩,false)
theorem D7 {b:Int} (h0:0<=b) (h1:b < 256):(fnd b).2=decide ((lF b).1≠0)/\(fnd b).1.kJ=(lF b).1/\(fnd b).1.low=(lF b).2.1/\(fnd b).1.high=(lF b).2.2 :=
 Pw (P:=λb=>(fnd b).2=decide ((lF b).1≠0)/\(fnd b).1.kJ=(lF b).1/\(fnd b).1.low=(lF b).2.1/\(fnd b).1.high=(lF b).2.2) (by decide) h0 h1
theorem D8 (b:Int):nY b=some (fnd b):=by
 unfold nY
 have key: ∀ k i:Nat,i+k=8->iter (σ:=Int) (ρ:=Unit ⊕ (mJ×Bool)) (λa=>(bif (decide (a < 8)) then (Option.bind (idx bW a) λc=>(Option.bind ((bif (decide (b>=c.first)) then some (decide (b<=c.last)) else some false):Option Bool) λd=>(bif d then (m6 (some (c,true))) else some (.inl (IntKind.i64.wrap (a+1)))))) else some (.inr (.inl ())))) (i:Int)=some (match Ip (bW.drop i) b with
   | some x=> .inr (x,true)
   | none=> .inl ()):=by
  intro k
  induction k with
  | zero =>
   intro i hi
   obtain rfl:i=8:=by omega
   rw [cQ (r:= .inl ()) rfl]
   rfl
  | succ k ih =>
   intro i hi
   have hlt:i < bW.length:=by show i < 8; omega
   have hd:bW.drop i=bW[i]::bW.drop (i+1):=List.drop_eq_getElem_cons hlt
   rw [iter_eq,hd]
   simp only [dB _ i hlt,Option.bind_some,decide_eq_true (show (i:Int) < 8 by omega),cond_true]
   generalize bW[i]=x
   have hw:IntKind.i64.wrap ((i:Int)+1)=((i+1:Nat):Int):=by rw [w64 (by omega) (by omega)]; omega
   by_cases h1:x.first<=b
   ·by_cases h2:b<=x.last
    ·simp [h1,h2,Ip,m6]
    ·have:=ih (i+1) (by omega)
     simp [h1,h2,Ip,hw] at this ⊢
     exact this
   ·have:=ih (i+1) (by omega)
    simp [h1,Ip,hw] at this ⊢
    exact this
 have:=key 8 0 rfl
 simp only [Int.natCast_zero] at this
 rw [this]
 unfold fnd
 rw [List.drop_zero]
 cases Ip bW b <;> rfl
theorem QK {b:Int} (h0:0<=b) (h1:b < 256):Go.bits .and .i32 (IntKind.i32.wrap b) 63=b % 64:=by
 rw [Io ⟨by omega,by omega⟩]
 exact m63 b h0 (by omega)
theorem RE {b:Int} (h0:0<=b) (h1:b < 256):Go.bits .and .i32 (IntKind.i32.wrap b) ((63:Int).fdiv (2 ^ (min (1:Int).toNat 32)))=b % 32/\Go.bits .and .i32 (IntKind.i32.wrap b) ((63:Int).fdiv (2 ^ (min (2:Int).toNat 32)))=b % 16/\Go.bits .and .i32 (IntKind.i32.wrap b) ((63:Int).fdiv (2 ^ (min (3:Int).toNat 32)))=b % 8:=by
 rw [Io ⟨by omega,by omega⟩]
 have g5:=bits_mask .i32 31 (by decide) wraps_i32 5 (by decide) b h0 (by omega)
 have g4:=bits_mask .i32 31 (by decide) wraps_i32 4 (by decide) b h0 (by omega)
 have g3:=bits_mask .i32 31 (by decide) wraps_i32 3 (by decide) b h0 (by omega)
 exact ⟨g5,g4,g3⟩
theorem RF {r b:Int} (h0:0<=r) (h1:r < 1000000) (hb0:0<=b) (hb1:b < 64):Go.bits .or .i32 (IntKind.i32.wrap (r*2 ^ (min 6 32))) b=r*64+b:=by
 have e:(r*2 ^ (min 6 32):Int)=r*64:=rfl
 rw [e,Io ⟨by omega,by omega⟩]
 exact bits_join .i32 31 (by decide) wraps_i32 6 (r*64) b (by omega) (by show r*64 % 64=0; omega) (by omega) hb0 (by omega) (by omega)
def d0:bT:=⟨0,0,0⟩
def Bb (b:Int):Int:=if (lF b).1=1 then b % 32 else if (lF b).1=2 then b % 16 else b % 8
def zb (b:Int):bT×List Int:=if b < 128 then (d0,[b]) else if (lF b).1=0 then (d0,[65533]) else (⟨b,Bb b,(lF b).1⟩,[])
theorem D9 {b:Int} (h0:0<=b) (h1:b < 256):nA b=some (zb b):=by
 unfold nA zb
 by_cases hb:b < 128
 ·rw [decide_eq_true hb,cond_true,if_pos hb,Io ⟨by omega,by omega⟩]; rfl
 ·rw [decide_eq_false hb,cond_false,if_neg hb,D8,Option.bind_some]
  obtain ⟨f1,f2,f3,f4⟩:=D7 h0 h1
  rw [f1,f2]
  have hn:=xo b
  by_cases hz:(lF b).1=0
  ·rw [if_pos hz,hz]; rfl
  ·rw [if_neg hz,decide_eq_true hz]
   obtain ⟨a1,a2,a3⟩:=RE h0 h1
   have hk: ∀ n:Int,n=1\/n=2\/n=3->(Option.bind (chk (shk n)) λ_=>some ((bT.mk b (Go.bits .and .i32 (IntKind.i32.wrap b) ((63:Int).fdiv (2 ^ (min n.toNat 32)))) n),([]:List Int)))=some (⟨b,if n=1 then b % 32 else if n=2 then b % 16 else b % 8,n⟩,[]):=by
    rintro n (rfl | rfl | rfl)
    ·rw [a1]; rfl
    ·rw [a2]; rfl
    ·rw [a3]; rfl
   exact hk _ (by omega)
def Iq (d:bT) (b:Int):Bool:=if d.kJ < (lF d.lead).1 then decide (128<=b/\b<=191) else decide ((lF d.lead).2.1<=b/\b<=(lF d.lead).2.2)
theorem Nb {d:bT} (h0:0<=d.lead) (h1:d.lead < 256) (b:Int):jE d b=some (Iq d b):=by
 unfold jE Iq
 rw [D8,Option.bind_some]
 obtain ⟨f1,f2,f3,f4⟩:=D7 h0 h1
 rw [f2,f3,f4]
 by_cases h:d.kJ < (lF d.lead).1
 ·rw [if_pos h,decide_eq_true h,cond_true]
  by_cases ha:128<=b <;> simp [ha]
 ·rw [if_neg h,decide_eq_false h,cond_false]
  by_cases ha:(lF d.lead).2.1<=b <;> simp [ha]
def vU (d:bT) (b:Int):bT×List Int:=if d.kJ<=0 then zb b else if Iq d b then (if d.kJ=1 then (d0,[d.rune*64+b % 64]) else (⟨d.lead,d.rune*64+b % 64,d.kJ - 1⟩,[])) else ((zb b).1,65533::(zb b).2)
def DI (d:bT):Prop:=d=d0\/(0<=d.lead/\d.lead < 256/\1<=d.kJ/\d.kJ<=(lF d.lead).1/\0<=d.rune/\(d.kJ=3->d.rune < 8)/\(d.kJ=2->d.rune < 512)/\(d.kJ=1->d.rune < 32768))
theorem DI0:DI d0:= .inl rfl
theorem Nc {b:Int} (h0:0<=b) (h1:b < 256):DI (zb b).1/\(zb b).2.length<=1/\Pu (zb b).2:=by
 unfold zb
 have hn:=xo b
 split
 ·refine ⟨DI0,by simp,λx hx=> ?_⟩
  rw [List.mem_singleton.1 hx]
  exact ⟨by omega,by omega⟩
 ·split
  ·refine ⟨DI0,by simp,λx hx=> ?_⟩
   rw [List.mem_singleton.1 hx]
   exact ⟨by decide,by decide⟩
  ·rename_i hz
   refine ⟨.inr ⟨h0,h1,by dsimp only; omega,Int.le_refl _,?_,?_,?_,?_⟩,by simp,λx hx=>by cases hx⟩
   all_goals (dsimp only; unfold Bb; intros; split <;> (try split) <;> omega)
theorem Aw {d:bT} (h:DI d) {b:Int} (h0:0<=b) (h1:b < 256):jF d b=some (vU d b)/\DI (vU d b).1/\(vU d b).2.length<=2/\Pu (vU d b).2:=by
 obtain ⟨k1,k2,k3⟩:=Nc h0 h1
 unfold jF vU
 by_cases hd:d.kJ<=0
 ·rw [decide_eq_true hd,cond_true,D9 h0 h1,if_pos hd]
  exact ⟨rfl,k1,by omega,k3⟩
 ·rcases h with rfl | ⟨l0,l1,n1,n2,r0,r3,r2,r1⟩
  ·exact absurd (by decide) hd
  rw [decide_eq_false hd,cond_false,if_neg hd,Nb l0 l1,Option.bind_some]
  have hn:=xo d.lead
  have hrb:d.rune < 32768:=by
   have:d.kJ=1\/d.kJ=2\/d.kJ=3:=by omega
   rcases this with h | h | h
   ·exact r1 h
   ·have:=r2 h; omega
   ·have:=r3 h; omega
  cases hf:Iq d b with
  | false =>
   simp only [Bool.not_false,cond_true,D9 h0 h1,Option.bind_some,Bool.false_eq_true,if_false]
   refine ⟨by rw [bL (by simp; omega)]; rfl,k1,by simp; omega,λx hx=> ?_⟩
   rcases List.mem_cons.1 hx with rfl | hx
   ·exact ⟨by decide,by decide⟩
   ·exact k3 x hx
  | true =>
   have hor:Go.bits .or .i32 (IntKind.i32.wrap (d.rune*2 ^ (min 6 32))) (Go.bits .and .i32 (IntKind.i32.wrap b) 63)=d.rune*64+b % 64:=by
    rw [QK h0 h1]
    exact RF r0 (by omega) (by omega) (by omega)
   simp only [Bool.not_true,cond_false,if_true,hor]
   rw [w64 (x:=d.kJ - 1) (by omega) (by omega)]
   by_cases h1':d.kJ=1
   ·rw [if_pos h1',h1']
    refine ⟨rfl,DI0,by simp,λx hx=> ?_⟩
    rw [List.mem_singleton.1 hx]
    have:=r1 h1'
    exact ⟨by omega,by omega⟩
   ·have he:(d.kJ - 1 == 0)=false:=by
     have: ¬ d.kJ - 1=0:=by omega
     simpa using this
    rw [if_neg h1',he,cond_false]
    refine ⟨rfl,.inr ⟨l0,l1,by dsimp only; omega,by dsimp only; omega,by dsimp only; omega,?_,?_,?_⟩,by simp,λx hx=>by cases hx⟩
    ·dsimp only; intro e; omega
    ·dsimp only; intro e; have:=r3 (by omega); omega
    ·dsimp only; intro e; have:=r2 (by omega); omega
theorem Kv {s:ByteArray} {i:Int} (h0:0<=i) (h1:i < s.size):okO (z6 s i) (λb=>(0<=b/\b < 256)/\(sbs s).drop i.toNat=b::(sbs s).drop (i.toNat+1)):=by
 have hl:i.toNat < (sbs s).length:=by rw [bB]; omega
 have e:=w7 s i.toNat hl
 rw [Int.toNat_of_nonneg h0] at e
 exact ⟨_,e,mR s _ (List.getElem_mem hl),List.drop_eq_getElem_cons hl⟩
def vV (p:aI) (a:bA):aI:=⟨p.state,p.order,p.text,p.cP,p.out++[a]⟩
def prA (r:Int):bA:=⟨1,r,0,false,[],ByteArray.mk #[]⟩
def qV (p:aI) (l:List Int):aI:=⟨p.state,p.order,p.text,p.cP,p.out++l.map prA⟩
def stP (p:aI) (s:Int):aI:=⟨s,p.order,p.text,p.cP,p.out⟩
def ctA (b:Int):bA:=⟨2,0,b,false,[],ByteArray.mk #[]⟩
def eX (p:aI) (b:Int):Bool×aI:=if b=24\/b=26 then (true,stP p 0) else if b=27 then (true,stP p 1) else if b < 32 then (true,vV p (ctA b)) else (b == 127,p)
def Ax (d:bT):List Int:=if d.kJ<=0 then [] else [65533]
def oE (p:aI) (b:Int):aI:=if b < 32\/b=127 then (eX ⟨p.state,p.order,p.text,d0,p.out++(Ax p.cP).map prA⟩ b).2 else qV ⟨p.state,p.order,p.text,(vU p.cP b).1,p.out⟩ (vU p.cP b).2
def o0:fB:=⟨false,false,false,false,0,[]⟩
def RG (b:Int):bA:=⟨3,0,b,false,[],ByteArray.mk #[]⟩
def mF (p:aI) (b:Int):aI :=
 if (eX p b).1 then (eX p b).2 else
 if b=91 then ⟨3,o0,p.text,p.cP,p.out⟩ else if b=93 then ⟨4,p.order,ByteArray.mk #[],p.cP,p.out⟩ else if b < 48 then stP p 2 else if b < 127 then stP (vV p (RG b)) 0 else stP p 0
def tQ (p:aI) (b:Int):aI:=if (eX p b).1 then (eX p b).2 else if 48<=b then stP p 0 else p
def yY (o:fB):fB:=⟨o.eC,o.oQ,o.any,o.some,0,if o.bJ.length < 16 then o.bJ++[o.n] else o.bJ⟩
def cmA (o:fB) (b:Int):bA:=⟨4,0,b,o.eC,o.bJ,ByteArray.mk #[]⟩
def oF (p:aI) (b:Int):aI:=if p.order.oQ then stP p 0 else
 let o:=if p.order.some then yY p.order else p.order
 ⟨0,o,p.text,p.cP,p.out++[cmA o b]⟩
def Nf (o:fB):fB:=⟨o.eC,o.oQ,true,o.some,o.n,o.bJ⟩
def sH (o:fB) (b:Int):fB :=
 if 48<=b/\b<=57 then ⟨o.eC,o.oQ,true,true,eM (10*o.n+(b - 48)) 9999,o.bJ⟩ else
 if b=59\/b=58 then ⟨o.eC,o.oQ,true,true,0,(yY o).bJ⟩ else
 if b=63/\o.any=false then ⟨true,o.oQ,true,o.some,o.n,o.bJ⟩ else
 ⟨o.eC,true,true,o.some,o.n,o.bJ⟩
def nt (p:aI) (b:Int):aI:=if (eX p b).1 then (eX p b).2 else
 if 64<=b/\b < 127 then oF ⟨p.state,Nf p.order,p.text,p.cP,p.out⟩ b else ⟨p.state,sH p.order b,p.text,p.cP,p.out⟩
theorem xq {p:aI} (h:p.out.length<=1000000) (a:bA):fV p a=some (vV p a):=by
 unfold fV
 rw [bL (by simp; omega)]
 rfl
theorem Ea {p:aI} (h:p.out.length<=1000000) (a:bA):jK p a=some (vV p a):=by
 unfold jK
 rw [bL (by simp; omega)]
 rfl
theorem okE {α:Type _} {x:Option α} {r:α} (h:okO x (λy=>y=r)):x=some r:=by
 obtain ⟨y,e,rfl⟩:=h
 exact e
theorem Ec {p:aI} {l:List Int} (h:p.out.length+l.length<=1000000):iV p l=some (qV p l):=by
 unfold iV
 refine okE (mE (P:=λy=>y=qV p l) ?_ λr hr=>fN hr)
 refine va (λz:aI×Int=>0<=z.2/\z.2<=l.length/\z.1=qV p (l.take z.2.toNat)) (λz=>l.length - z.2.toNat) ⟨Int.le_refl 0,by dsimp only; omega,by simp [qV]⟩ ?_
 rintro ⟨q,i⟩ ⟨h0,h1,h2⟩
 dsimp only at h0 h1 h2 ⊢
 subst h2
 refine xi (λhi=> ?_) λhi=>fN (by rw [List.take_of_length_le (by omega)])
 obtain ⟨k,rfl⟩: ∃ k:Nat,i=k:=⟨i.toNat,by omega⟩
 have hk:k < l.length:=by omega
 refine mE (P:=λx=>x=l[k]) ⟨_,dB l k hk,rfl⟩ λx hx=> ?_
 subst hx
 refine mE (P:=λx=>x=qV p (l.take (k+1))) ?_ λx hx=> ?_
 ·rw [xq (by simp [qV]; omega)]
  refine fN ?_
  simp only [qV,vV,Int.toNat_natCast,List.take_add_one,List.getElem?_eq_getElem hk,Option.toList_some,List.map_append,List.map_cons,List.map_nil,List.append_assoc,prA]
 ·subst hx
  rw [w64 (by omega) (by omega)]
  refine fN ⟨⟨by dsimp only; omega,by dsimp only; omega,?_⟩,by dsimp only; omega⟩
  dsimp only
  rw [show ((k:Int)+1).toNat=k+1 by omega]
theorem vf {p:aI} (h:p.out.length<=1000000) (b:Int):fA p b=some (eX p b):=by
 unfold fA eX
 by_cases h1:b=24
 ·subst h1; rfl
 ·by_cases h2:b=26
  ·subst h2; rfl
  ·by_cases h3:b=27
   ·subst h3; rfl
   ·have e1:(b == 24)=false:=by simpa using h1
    have e2:(b == 26)=false:=by simpa using h2
    have e3:(b == 27)=false:=by simpa using h3
    rw [if_neg (by omega),if_neg h3,e1,e2,e3]
    by_cases h4:b < 32
    ·rw [if_pos h4,decide_eq_true h4]
     simp only [cond_false,cond_true,Option.bind_some,xq h]
     rfl
    ·rw [if_neg h4,decide_eq_false h4]
     rfl
theorem Ir {p:aI} (h:p.out.length<=999990) (hd:DI p.cP) {b:Int} (h0:0<=b) (h1:b < 256):iO p b=some (oE p b):=by
 unfold iO oE
 have hl:(Ax p.cP).length<=1:=by unfold Ax; split <;> simp
 have he:kB p.cP=some (Ax p.cP):=by
  unfold kB Ax
  by_cases hn:p.cP.kJ<=0
  ·rw [decide_eq_true hn,if_pos hn]; rfl
  ·rw [decide_eq_false hn,if_neg hn]; rfl
 by_cases hb:b < 32\/b=127
 ·have e:((bif (decide (b < 32)) then some true else some (b == 127)):Option Bool)=some true:=by
   rcases hb with hb | hb
   ·rw [decide_eq_true hb]; rfl
   ·subst hb; rfl
  rw [if_pos hb,e,Option.bind_some,cond_true,he,Option.bind_some,Ec (by omega),Option.bind_some,vf (by simp [qV]; omega)]
  rfl
 ·have e:((bif (decide (b < 32)) then some true else some (b == 127)):Option Bool)=some false:=by
   rw [decide_eq_false (by omega),cond_false]
   have: ¬ b=127:=by omega
   simpa using this
  obtain ⟨n1,n2,n3,n4⟩:=Aw hd h0 h1
  rw [if_neg hb,e,Option.bind_some,cond_false,n1,Option.bind_some,Ec (by dsimp only; omega)]
  rfl
theorem BJ {p:aI} (h:p.out.length<=999990) (b:Int):fW p b=some (mF p b):=by
 unfold fW mF
 rw [vf (by omega),Option.bind_some]
 cases hc:(eX p b).1 with
 | true=>rfl
 | false =>
  have hp:(eX p b).2=p:=by
   unfold eX at hc ⊢
   split
   ·rename_i hh; rw [if_pos hh] at hc; cases hc
   ·rename_i h1; rw [if_neg h1] at hc
    split
    ·rename_i hh; rw [if_pos hh] at hc; cases hc
    ·rename_i h2; rw [if_neg h2] at hc
     split
     ·rename_i hh; rw [if_pos hh] at hc; cases hc
     ·rfl
  rw [hp]
  simp only [cond_false,Bool.false_eq_true,if_false]
  by_cases h1:b=91
  ·subst h1; rfl
  ·have e1:(b == 91)=false:=by simpa using h1
   rw [if_neg h1,e1]
   by_cases h2:b=93
   ·subst h2; rfl
   ·have e2:(b == 93)=false:=by simpa using h2
    rw [if_neg h2,e2]
    by_cases h3:b < 48
    ·rw [if_pos h3,decide_eq_true h3]; rfl
    ·rw [if_neg h3,decide_eq_false h3]
     by_cases h4:b < 127
     ·rw [if_pos h4,decide_eq_true h4]
      simp only [cond_false,cond_true,xq (show p.out.length<=1000000 by omega),Option.bind_some]
      rfl
     ·rw [if_neg h4,decide_eq_false h4]; rfl
theorem yZ {p:aI} {b:Int} (hc:(eX p b).1=false):(eX p b).2=p:=by
 unfold eX at hc ⊢
 split
 ·rename_i hh; rw [if_pos hh] at hc; cases hc
 ·rename_i h1; rw [if_neg h1] at hc
  split
  ·rename_i hh; rw [if_pos hh] at hc; cases hc
  ·rename_i h2; rw [if_neg h2] at hc
   split
   ·rename_i hh; rw [if_pos hh] at hc; cases hc
   ·rfl
theorem Kw {p:aI} (h:p.out.length<=999990) (b:Int):kD p b=some (tQ p b):=by
 unfold kD tQ
 rw [vf (by omega),Option.bind_some]
 cases hc:(eX p b).1 with
 | true=>rfl
 | false =>
  rw [yZ hc]
  by_cases hb:48<=b
  ·simp [hb,stP]
  ·simp [hb]
theorem G4 {p:aI} (h:p.order.bJ.length<=16):kX p=some ⟨p.state,yY p.order,p.text,p.cP,p.out⟩:=by
 unfold kX yY
 by_cases hl:p.order.bJ.length < 16
 ·rw [decide_eq_true (by omega),cond_true,bL (by simp; omega),if_pos hl]; rfl
 ·rw [decide_eq_false (by omega),cond_false,if_neg hl]; rfl
theorem Is {p:aI} (h:p.out.length<=999990) (hn:p.order.bJ.length<=16) (b:Int):kE p b=some (oF p b):=by
 unfold kE oF
 cases hw:p.order.oQ with
 | true=>rfl
 | false =>
  simp only [cond_false,Bool.false_eq_true,if_false]
  cases hs:p.order.some with
  | true =>
   simp only [cond_true,if_true]
   rw [G4 (by exact hn),Option.bind_some,Option.bind_some,Ea (by dsimp only; omega)]
   rfl
  | false =>
   simp only [cond_false,Bool.false_eq_true,if_false]
   rw [Option.bind_some,Ea (by dsimp only; omega)]
   rfl
theorem FP {p:aI} (h:p.out.length<=999990) (h3:p.state=3) (hn:p.order.bJ.length<=16) (hN:0<=p.order.n/\p.order.n<=9999) {b:Int} (h0:0<=b) (h1:b < 256):hU p b=some (nt p b):=by
 unfold hU nt
 rw [vf (by omega),Option.bind_some]
 cases hc:(eX p b).1 with
 | true=>rfl
 | false =>
  rw [yZ hc]
  simp only [cond_false,Bool.false_eq_true,if_false]
  have hchk:chk (p.state == (3:Int))=some ():=by rw [h3]; rfl
  by_cases a1:48<=b/\b<=57
  ·have e:((bif (decide (b>=48)) then some (decide (b<=57)) else some false):Option Bool)=some true:=by rw [decide_eq_true a1.1,decide_eq_true a1.2]; rfl
   have w1:IntKind.u8.wrap (b - 48)=b - 48:=by simp [IntKind.wrap,IntKind.bits,IntKind.signed]; omega
   rw [e,Option.bind_some,cond_true,w1,w64 (x:=b - 48) (by omega) (by omega),w64 (x:=10*p.order.n) (by omega) (by omega),w64 (by omega) (by omega),if_neg (by omega)]
   unfold sH
   rw [if_pos a1]
  ·have e:((bif (decide (b>=48)) then some (decide (b<=57)) else some false):Option Bool)=some false:=by
    by_cases hh:48<=b
    ·rw [decide_eq_true hh,decide_eq_false (by omega)]; rfl
    ·rw [decide_eq_false hh]; rfl
   rw [e,Option.bind_some,cond_false]
   by_cases a2:b=59\/b=58
   ·have e2:((bif (b == 59) then some true else some (b == 58)):Option Bool)=some true:=by rcases a2 with rfl | rfl <;> rfl
    rw [e2,Option.bind_some,cond_true,hchk,Option.bind_some,G4 (by exact hn),Option.bind_some,if_neg (by omega)]
    unfold sH
    rw [if_neg a1,if_pos a2]
    rfl
   ·have e2:((bif (b == 59) then some true else some (b == 58)):Option Bool)=some false:=by
     have x1:(b == 59)=false:=by simpa using (show ¬ b=59 by omega)
     have x2:(b == 58)=false:=by simpa using (show ¬ b=58 by omega)
     rw [x1,x2]; rfl
    rw [e2,Option.bind_some,cond_false]
    by_cases a3:b=63/\p.order.any=false
    ·have e3:((bif (b == 63) then some (!p.order.any) else some false):Option Bool)=some true:=by rw [a3.1,a3.2]; rfl
     rw [e3,Option.bind_some,cond_true,if_neg (by omega)]
     unfold sH
     rw [if_neg a1,if_neg a2,if_pos a3]
    ·have e3:((bif (b == 63) then some (!p.order.any) else some false):Option Bool)=some false:=by
      by_cases hh:b=63
      ·cases ha:p.order.any with
       | true=>rw [hh]; rfl
       | false=>exact absurd ⟨hh,ha⟩ a3
      ·have:(b == 63)=false:=by simpa using hh
       rw [this]; rfl
     rw [e3,Option.bind_some,cond_false]
     by_cases a4:64<=b/\b < 127
     ·have e4:((bif (decide (b>=64)) then some (decide (b < 127)) else some false):Option Bool)=some true:=by rw [decide_eq_true a4.1,decide_eq_true a4.2]; rfl
      rw [e4,Option.bind_some,cond_true,hchk,Option.bind_some,if_pos a4,Is (by exact h) (by exact hn)]
      rfl
     ·have e4:((bif (decide (b>=64)) then some (decide (b < 127)) else some false):Option Bool)=some false:=by
       by_cases hh:64<=b
       ·rw [decide_eq_true hh,decide_eq_false (by omega)]; rfl
       ·rw [decide_eq_false hh]; rfl
      rw [e4,Option.bind_some,cond_false,if_neg a4]
      unfold sH
      rw [if_neg a1,if_neg a2,if_neg a3]
def tiA (t:ByteArray):bA:=⟨5,0,0,false,[],iN t 2 t.size⟩
def ttl (t:ByteArray):List bA:=match sbs t with
 | x::y::_=>if (x=48\/x=50)/\y=59 then [tiA t] else []
 | _=>[]
theorem Ng (t:ByteArray):(ttl t).length<=1:=by
 unfold ttl
 split
 ·split <;> simp
 ·simp
def qp (p:aI):aI:=⟨0,p.order,p.text,p.cP,p.out++ttl p.text⟩
def isH (c:Int) (t:ByteArray):Bool:=decide ((sbs t).take 2=[c,59])
theorem Kx {c:Int} {t:ByteArray} (h:t.size < 2):isH c t=false:=by
 refine decide_eq_false λe=> ?_
 have:=congrArg List.length e
 simp [bB] at this
 omega
theorem BK (t h:ByteArray) (c:Int) (hh:sbs h=[c,59]):kC t h=some (if isH c t then (iN t 2 t.size,true) else (t,false)):=by
 have hs:h.size=2:=by rw [<- bB,hh]; rfl
 have hp:gH t h=some (isH c t):=by
  unfold gH
  rw [hs]
  by_cases h2:2<=t.size
  ·rw [decide_eq_true (show (t.size:Int)>=((2:Nat):Int) by omega),cond_true,bP (by decide) (by decide) (by omega),Option.bind_some,Option.bind_some,w9]
   congr 1
   unfold isH
   refine decide_eq_decide.2 ⟨λe=> ?_,λe=> ?_⟩
   ·have:=congrArg sbs e
    rw [show ((0:Int))=((0:Nat):Int) from rfl,gO,hh] at this
    simpa using this
   ·apply tv
    rw [show ((0:Int))=((0:Nat):Int) from rfl,gO,hh]
    simpa using e
  ·rw [decide_eq_false (show ¬ (t.size:Int)>=((2:Nat):Int) by omega),cond_false,Option.bind_some,Kx (by omega)]
 unfold kC jR
 rw [hp,Option.bind_some,hs]
 cases hi:isH c t with
 | false=>rfl
 | true =>
  have h2:2<=t.size:=by
   by_cases h2:2<=t.size
   ·exact h2
   ·rw [Kx (by omega)] at hi; cases hi
  simp only [Bool.not_true,cond_false,if_true]
  rw [bP (by omega) (by omega) (by omega)]
  rfl
theorem Ky (t:ByteArray):ttl t=(if isH 48 t then [tiA t] else [])++(if isH 50 t then [tiA t] else []):=by
 unfold ttl isH
 match h:sbs t with
 | []=>simp
 | [x]=>simp
 | x::y::r =>
  simp only [List.take_succ_cons,List.take_zero,List.cons.injEq,and_true,decide_eq_true_eq]
  by_cases hy:y=59
  ·by_cases h1:x=48
   ·subst h1; simp [hy]
   ·by_cases h2:x=50
    ·subst h2; simp [hy]
    ·simp [h1,h2]
  ·simp [hy]
theorem G5 {p:aI} (h:p.out.length<=999990):jS p=some (qp p):=by
 unfold jS
 have c1:=BK p.text (ByteArray.mk #[48,59]) 48 rfl
 have c2:=BK p.text (ByteArray.mk #[50,59]) 50 rfl
 refine okE (mE (P:=λy=>y=qp p) ?_ λr hr=>fN hr)
 refine va (λz:aI×Int=>z.2=0/\z.1=stP p 0\/z.2=1/\z.1=⟨0,p.order,p.text,p.cP,p.out++(if isH 48 p.text then [tiA p.text] else [])⟩\/z.2=2/\z.1=qp p) (λz=>2 - z.2.toNat) (.inl ⟨rfl,rfl⟩) ?_
 rintro ⟨q,i⟩ (⟨h1,h2⟩ | ⟨h1,h2⟩ | ⟨h1,h2⟩)
 ·dsimp only at h1 h2
  subst h1 h2
  refine xi (λ_=> ?_) λhh=>absurd (show (0:Int) < 2 from by decide) hh
  refine mE (P:=λy=>y=(⟨0,p.order,p.text,p.cP,p.out++(if isH 48 p.text then [tiA p.text] else [])⟩:aI)) ?_ λy hy=> ?_
  ·refine mE (P:=λx=>x=ByteArray.mk #[48,59]) ⟨_,rfl,rfl⟩ λx hx=> ?_
   subst hx
   rw [show (stP p 0).text=p.text from rfl,c1]
   cases hi:isH 48 p.text with
   | true =>
    simp only [if_true,Option.bind_some,cond_true]
    rw [xq (by show p.out.length<=_; omega)]
    exact fN rfl
   | false =>
    simp only [Bool.false_eq_true,if_false,Option.bind_some,cond_false]
    exact fN (by simp [stP])
  ·subst hy
   exact fN ⟨.inr (.inl ⟨show IntKind.i64.wrap (0+1)=1 from by decide,rfl⟩),show 2 - (IntKind.i64.wrap (0+1)).toNat < 2 - (0:Int).toNat from by decide⟩
 ·dsimp only at h1 h2
  subst h1 h2
  refine xi (λ_=> ?_) λhh=>absurd (show (1:Int) < 2 from by decide) hh
  refine mE (P:=λy=>y=qp p) ?_ λy hy=> ?_
  ·refine mE (P:=λx=>x=ByteArray.mk #[50,59]) ⟨_,rfl,rfl⟩ λx hx=> ?_
   subst hx
   dsimp only
   rw [c2]
   have hl:((if isH 48 p.text then [tiA p.text] else []):List bA).length<=1:=by split <;> simp
   cases hi:isH 50 p.text with
   | true =>
    simp only [if_true,Option.bind_some,cond_true]
    rw [xq (by simp only [List.length_append]; omega)]
    refine fN ?_
    simp only [vV,qp,Ky,hi,if_true,List.append_assoc]
    rfl
   | false =>
    simp only [Bool.false_eq_true,if_false,Option.bind_some,cond_false]
    refine fN ?_
    simp only [qp,Ky,hi,Bool.false_eq_true,if_false,List.append_nil]
  ·subst hy
   exact fN ⟨.inr (.inr ⟨show IntKind.i64.wrap (1+1)=2 from by decide,rfl⟩),show 2 - (IntKind.i64.wrap (1+1)).toNat < 2 - (1:Int).toNat from by decide⟩
 ·dsimp only at h1 h2
  subst h1 h2
  exact xi (λhh=>absurd hh (show ¬ (2:Int) < 2 from by decide)) λ_=>fN rfl
def qm (p:aI) (b:Int):aI:=if b=7 then qp p else if b=24\/b=26 then stP p 0 else if b=27 then stP p 5 else if p.text.size < 200 then ⟨p.state,p.order,p.text++gX [b],p.cP,p.out⟩ else p
theorem Kz {p:aI} (h:p.out.length<=999990) (b:Int):jL p b=some (qm p b):=by
 unfold jL qm
 by_cases h1:b=7
 ·subst h1
  rw [if_pos rfl,G5 h]
  rfl
 ·have e1:(b == 7)=false:=by simpa using h1
  rw [if_neg h1,e1,cond_false]
  by_cases h2:b=24\/b=26
  ·have e2:((bif (b == 24) then some true else some (b == 26)):Option Bool)=some true:=by rcases h2 with rfl | rfl <;> rfl
   rw [if_pos h2,e2]; rfl
  ·have e2:((bif (b == 24) then some true else some (b == 26)):Option Bool)=some false:=by
    have x1:(b == 24)=false:=by simpa using (show ¬ b=24 by omega)
    have x2:(b == 26)=false:=by simpa using (show ¬ b=26 by omega)
    rw [x1,x2]; rfl
   rw [if_neg h2,e2,Option.bind_some,cond_false]
   by_cases h3:b=27
   ·subst h3; rfl
   ·have e3:(b == 27)=false:=by simpa using h3
    rw [if_neg h3,e3,cond_false]
    by_cases h4:p.text.size < 200
    ·rw [if_pos h4,decide_eq_true (by omega),cond_true,HS (by rw [nD]; simp; omega)]; rfl
    ·rw [if_neg h4,decide_eq_false (by omega)]; rfl
def sI (p:aI) (b:Int):aI :=
 if p.state=0 then oE p b else if p.state=1 then mF p b else if p.state=2 then tQ p b else if p.state=3 then nt p b else if p.state=4 then qm p b else if b=92 then qp p else mF (stP p 1) b
structure PI (p:aI):Prop where
 di:DI p.cP
 gr:p.state≠0->p.cP=d0
 nu:p.order.bJ.length<=16
 n0:0<=p.order.n
 n1:p.order.n<=9999
 tx:p.text.size<=200
theorem Nh {p:aI} (hp:PI p) (h:p.out.length<=999990) {b:Int} (h0:0<=b) (h1:b < 256):mN p b=some (sI p b):=by
 unfold mN sI
 by_cases s0:p.state=0
 ·rw [if_pos s0,s0,Ir h hp.di h0 h1]; rfl
 ·have e0:(p.state == 0)=false:=by simpa using s0
  rw [if_neg s0,e0,cond_false]
  by_cases s1:p.state=1
  ·rw [if_pos s1,s1,BJ h]; rfl
  ·have e1:(p.state == 1)=false:=by simpa using s1
   rw [if_neg s1,e1,cond_false]
   by_cases s2:p.state=2
   ·rw [if_pos s2,s2,Kw h]; rfl
   ·have e2:(p.state == 2)=false:=by simpa using s2
    rw [if_neg s2,e2,cond_false]
    by_cases s3:p.state=3
    ·have e3:(p.state == 3)=true:=by simpa using s3
     rw [if_pos s3,e3,cond_true,FP h s3 hp.nu ⟨hp.n0,hp.n1⟩ h0 h1]; rfl
    ·have e3:(p.state == 3)=false:=by simpa using s3
     rw [if_neg s3,e3,cond_false]
     by_cases s4:p.state=4
     ·rw [if_pos s4,s4,Kz h]; rfl
     ·have e4:(p.state == 4)=false:=by simpa using s4
      rw [if_neg s4,e4,cond_false]
      by_cases hb:b=92
      ·subst hb
       rw [if_pos rfl,G5 h]; rfl
      ·have e5:(b == 92)=false:=by simpa using hb
       rw [if_neg hb,e5,cond_false,show aI.mk 1 p.order p.text p.cP p.out=stP p 1 from rfl,BJ (by exact h)]; rfl
def clr (p:aI):aI:=⟨p.state,p.order,p.text,p.cP,[]⟩
def pN (l:List bA) (q:aI):aI:=⟨q.state,q.order,q.text,q.cP,l++q.out⟩
theorem qW (p:aI) (b:Int):eX p b=((eX (clr p) b).1,pN p.out (eX (clr p) b).2):=by
 unfold eX
 repeat' split
 all_goals simp [pN,clr,stP,vV]
theorem FQ (p:aI) (b:Int):oF p b=pN p.out (oF (clr p) b):=by
 unfold oF
 rw [show (clr p).order=p.order from rfl]
 split
 all_goals simp [pN,clr,stP]
theorem FR (p:aI) (b:Int):oE p b=pN p.out (oE (clr p) b):=by
 unfold oE
 split
 ·rw [qW]
  rw [qW (aI.mk (clr p).state (clr p).order (clr p).text d0 ((clr p).out++(Ax (clr p).cP).map prA))]
  simp [pN,clr]
 ·simp [pN,clr,qV]
theorem Ay (p:aI) (b:Int):mF p b=pN p.out (mF (clr p) b):=by
 unfold mF
 rw [qW p b]
 dsimp only
 split
 ·rfl
 ·repeat' split
  all_goals simp [pN,clr,stP,vV]
theorem KA (p:aI) (b:Int):tQ p b=pN p.out (tQ (clr p) b):=by
 unfold tQ
 rw [qW p b]
 dsimp only
 split
 ·rfl
 ·split
  all_goals simp [pN,clr,stP]
theorem Ed (p:aI) (b:Int):nt p b=pN p.out (nt (clr p) b):=by
 unfold nt
 rw [qW p b]
 dsimp only
 split
 ·rfl
 ·split
  ·exact FQ _ b
  ·simp [pN,clr]
theorem Ee (p:aI):qp p=pN p.out (qp (clr p)):=by simp [qp,pN,clr]
theorem Iu (p:aI) (b:Int):qm p b=pN p.out (qm (clr p) b):=by
 unfold qm
 rw [show (clr p).text=p.text from rfl]
 split
 ·exact Ee p
 ·repeat' split
  all_goals simp [pN,clr,stP]
theorem one_add (p:aI) (b:Int):sI p b=pN p.out (sI (clr p) b):=by
 unfold sI
 rw [show (clr p).state=p.state from rfl]
 split
 ·exact FR p b
 ·split
  ·exact Ay p b
  ·split
   ·exact KA p b
   ·split
    ·exact Ed p b
    ·split
     ·exact Iu p b
     ·split
      ·exact Ee p
      ·exact Ay (stP p 1) b
def prun (p:aI) (bs:List Int):aI:=bs.foldl sI p
theorem KB (a b:List bA) (q:aI):pN a (pN b q)=pN (a++b) q:=by simp [pN]
theorem KC (a:List bA) (q:aI):clr (pN a q)=clr q:=rfl
theorem KD (q:aI):pN q.out (clr q)=q:=by simp [pN,clr]
theorem Az: ∀ (bs:List Int) (p:aI),prun p bs=pN p.out (prun (clr p) bs)
 | [],p=>(KD p).symm
 | b::bs,p=>by
  show prun (sI p b) bs=pN p.out (prun (sI (clr p) b) bs)
  rw [Az bs (sI p b),Az bs (sI (clr p) b),one_add p b,KB,KC]
  rfl
theorem Ef (p:aI) (a b:List Int):prun p (a++b)=prun (prun p a) b:=List.foldl_append ..
theorem vg {p:aI} (h:PI p) (hr:p.cP=d0) (b:Int):PI (eX p b).2/\(eX p b).2.out.length<=p.out.length+1:=by
 unfold eX
 split
 ·exact ⟨⟨h.di,λ_=>hr,h.nu,h.n0,h.n1,h.tx⟩,Nat.le_succ _⟩
 ·split
  ·exact ⟨⟨h.di,λ_=>hr,h.nu,h.n0,h.n1,h.tx⟩,Nat.le_succ _⟩
  ·split
   ·exact ⟨⟨h.di,λ_=>hr,h.nu,h.n0,h.n1,h.tx⟩,by simp [vV]⟩
   ·exact ⟨h,Nat.le_succ _⟩
theorem Iv {p:aI} (h:PI p) (hs:p.state=0) {b:Int} (h0:0<=b) (h1:b < 256):PI (oE p b)/\(oE p b).out.length<=p.out.length+2:=by
 unfold oE
 have hl:(Ax p.cP).length<=1:=by unfold Ax; split <;> simp
 split
 ·have:=vg (p:=⟨p.state,p.order,p.text,d0,p.out++(Ax p.cP).map prA⟩) ⟨DI0,λ_=>rfl,h.nu,h.n0,h.n1,h.tx⟩ rfl b
  refine ⟨this.1,Nat.le_trans this.2 ?_⟩
  simp
  omega
 ·obtain ⟨n1,n2,n3,n4⟩:=Aw h.di h0 h1
  exact ⟨⟨n2,λhh=>absurd hs hh,h.nu,h.n0,h.n1,h.tx⟩,by simp [qV]; omega⟩
theorem BL {p:aI} (h:PI p) (hr:p.cP=d0) (b:Int):PI (mF p b)/\(mF p b).out.length<=p.out.length+1:=by
 unfold mF
 split
 ·exact vg h hr b
 ·split
  ·exact ⟨⟨h.di,λ_=>hr,by simp [o0],by simp [o0],by simp [o0],h.tx⟩,Nat.le_succ _⟩
  ·split
   ·exact ⟨⟨h.di,λ_=>hr,h.nu,h.n0,h.n1,by simp [ByteArray.size]⟩,Nat.le_succ _⟩
   ·split
    ·exact ⟨⟨h.di,λ_=>hr,h.nu,h.n0,h.n1,h.tx⟩,Nat.le_succ _⟩
    ·split
     ·exact ⟨⟨h.di,λ_=>hr,h.nu,h.n0,h.n1,h.tx⟩,by simp [vV,stP]⟩
     ·exact ⟨⟨h.di,λ_=>hr,h.nu,h.n0,h.n1,h.tx⟩,Nat.le_succ _⟩
theorem Ni {p:aI} (h:PI p) (hr:p.cP=d0) (b:Int):PI (tQ p b)/\(tQ p b).out.length<=p.out.length+1:=by
 unfold tQ
 split
 ·exact vg h hr b
 ·split
  ·exact ⟨⟨h.di,λ_=>hr,h.nu,h.n0,h.n1,h.tx⟩,Nat.le_succ _⟩
  ·exact ⟨h,Nat.le_succ _⟩
theorem yq {o:fB} (h:o.bJ.length<=16):(yY o).bJ.length<=16:=by
 unfold yY
 dsimp only
 split
 ·simp; omega
 ·exact h
theorem Iw {p:aI} (h:PI p) (hr:p.cP=d0) (b:Int):PI (oF p b)/\(oF p b).out.length<=p.out.length+1:=by
 unfold oF
 cases p.order.oQ with
 | true=>exact ⟨⟨h.di,λ_=>hr,h.nu,h.n0,h.n1,h.tx⟩,Nat.le_succ _⟩
 | false =>
  cases p.order.some with
  | true=>exact ⟨⟨h.di,λ_=>hr,yq h.nu,Int.le_refl 0,show (0:Int)<=9999 from by decide,h.tx⟩,by simp⟩
  | false=>exact ⟨⟨h.di,λ_=>hr,h.nu,h.n0,h.n1,h.tx⟩,by simp⟩
theorem FT {p:aI} (h:PI p) (hr:p.cP=d0) {b:Int} (h0:0<=b):PI (nt p b)/\(nt p b).out.length<=p.out.length+1:=by
 unfold nt
 split
 ·exact vg h hr b
 ·split
  ·exact Iw (p:=⟨p.state,Nf p.order,p.text,p.cP,p.out⟩) ⟨h.di,λ_=>hr,h.nu,h.n0,h.n1,h.tx⟩ hr b
  ·refine ⟨⟨h.di,λ_=>hr,?_,?_,?_,h.tx⟩,Nat.le_succ _⟩
   all_goals (dsimp only; unfold sH; split)
   ·exact h.nu
   ·split
    ·exact yq h.nu
    ·split <;> exact h.nu
   ·rename_i hh
    have:=h.n0
    unfold eM
    dsimp only
    split <;> omega
   ·split
    ·exact Int.le_refl 0
    ·split <;> exact h.n0
   ·rename_i hh
    unfold eM
    dsimp only
    split <;> omega
   ·split
    ·show (0:Int)<=9999; decide
    ·split <;> exact h.n1
theorem G6 {p:aI} (h:PI p) (hr:p.cP=d0):PI (qp p)/\(qp p).out.length<=p.out.length+1:=⟨⟨h.di,λ_=>hr,h.nu,h.n0,h.n1,h.tx⟩,by have:=Ng p.text; simp [qp]; omega⟩
theorem KE {p:aI} (h:PI p) (hr:p.cP=d0) (b:Int):PI (qm p b)/\(qm p b).out.length<=p.out.length+1:=by
 unfold qm
 split
 ·exact G6 h hr
 ·split
  ·exact ⟨⟨h.di,λ_=>hr,h.nu,h.n0,h.n1,h.tx⟩,Nat.le_succ _⟩
  ·split
   ·exact ⟨⟨h.di,λ_=>hr,h.nu,h.n0,h.n1,h.tx⟩,Nat.le_succ _⟩
   ·split
    ·rename_i ht
     refine ⟨⟨h.di,λ_=>hr,h.nu,h.n0,h.n1,?_⟩,Nat.le_succ _⟩
     dsimp only
     have e:(p.text++gX [b]).size=p.text.size+1:=by rw [<- bB,qU,List.length_append,bB,bB,nD]; rfl
     omega
    ·exact ⟨h,Nat.le_succ _⟩
theorem FU {p:aI} (h:PI p) {b:Int} (h0:0<=b) (h1:b < 256):PI (sI p b)/\(sI p b).out.length<=p.out.length+2:=by
 unfold sI
 split
 ·rename_i hs; exact Iv h hs h0 h1
 ·rename_i hs
  have hr:=h.gr hs
  have up: ∀ q:aI,PI q/\q.out.length<=p.out.length+1->PI q/\q.out.length<=p.out.length+2:=λq hq=>⟨hq.1,by omega⟩
  split
  ·exact up _ (BL h hr b)
  ·split
   ·exact up _ (Ni h hr b)
   ·split
    ·exact up _ (FT h hr h0)
    ·split
     ·exact up _ (KE h hr b)
     ·split
      ·exact up _ (G6 h hr)
      ·exact up _ (BL (p:=stP p 1) ⟨h.di,λ_=>hr,h.nu,h.n0,h.n1,h.tx⟩ hr b)
theorem vh: ∀ (bs:List Int) {p:aI},PI p->(∀ b∈bs,0<=b/\b < 256)->PI (prun p bs)/\(prun p bs).out.length<=p.out.length+2*bs.length
 | [],p,h,_=>⟨h,by simp [prun]⟩
 | b::bs,p,h,hb=>by
  obtain ⟨b0,b1⟩:=hb b List.mem_cons_self
  obtain ⟨k1,k2⟩:=FU h b0 b1
  obtain ⟨k3,k4⟩:=vh bs k1 λx hx=>hb x (List.mem_cons_of_mem _ hx)
  exact ⟨k3,by show (prun (sI p b) bs).out.length<=_; simp; omega⟩
theorem Nj {p:aI} (h:PI p) {s:ByteArray} (hs:s.size<=400000):lV p s=some ((prun (clr p) (sbs s)).out,clr (prun (clr p) (sbs s))):=by
 unfold lV
 have hc:PI (clr p):=⟨h.di,h.gr,h.nu,h.n0,h.n1,h.tx⟩
 refine okE (mE (P:=λy=>y=prun (clr p) (sbs s)) ?_ λr hr=>by subst hr; exact fN rfl)
 refine va (λz:aI×Int=>0<=z.2/\z.2<=s.size/\z.1=prun (clr p) ((sbs s).take z.2.toNat)) (λz=>s.size - z.2.toNat) ⟨Int.le_refl 0,by dsimp only; omega,rfl⟩ ?_
 rintro ⟨q,i⟩ ⟨h0,h1,h2⟩
 dsimp only at h0 h1 h2 ⊢
 subst h2
 have hby: ∀ b∈(sbs s).take i.toNat,0<=b/\b < 256:=λb hb=>mR s b (List.mem_of_mem_take hb)
 obtain ⟨k1,k2⟩:=vh _ hc hby
 refine xi (λhi=> ?_) λhi=>fN (by rw [List.take_of_length_le (by rw [bB]; omega)])
 refine mE (Kv h0 hi) λb hb=> ?_
 obtain ⟨⟨b0,b1⟩,hbd⟩:=hb
 have hlen:((sbs s).take i.toNat).length=i.toNat:=by rw [List.length_take,bB]; omega
 have hco:(clr p).out.length=0:=rfl
 rw [Nh k1 (by omega) b0 b1,w64 (by omega) (by omega)]
 refine fN ⟨⟨by dsimp only; omega,by dsimp only; omega,?_⟩,by dsimp only; omega⟩
 dsimp only
 have ht:(sbs s).take (i+1).toNat=(sbs s).take i.toNat++[b]:=by
  rw [show (i+1).toNat=i.toNat+1 by omega,List.take_add_one]
  congr 1
  have:=congrArg (λl=>l[0]?) hbd
  simp only [List.getElem?_drop,Nat.add_zero,List.getElem?_cons_zero] at this
  rw [this]
  rfl
 rw [ht,Ef]
 rfl
def tA (a:bA):mX:=⟨a.kind,a.rune,a.byte,a.eC,a.bJ,a.text⟩
def KF (o:fB):fB:=if o.some then yY o else o
def FV (o:fB) (b:Int):List bA:=if o.oQ then [] else [cmA (KF o) b]
theorem BM (p:aI) (b:Int):(oF p b).out=p.out++FV p.order b:=by
 unfold oF FV KF
 cases p.order.oQ <;> simp [stP]
end Go.Tw.X
set_option maxHeartbeats 2000000
namespace Go.Tw.X
open Go Go.Tw
def p0:aI:=⟨0,o0,ByteArray.mk #[],d0,[]⟩
theorem Oj:PI p0:=⟨DI0,λh=>absurd rfl h,by simp [p0,o0],by simp [p0,o0],by simp [p0,o0],by simp [p0,ByteArray.size]⟩
theorem Ei (o:fB) (b:Int):FV (Nf o) b=FV o b:=by
 unfold FV KF Nf yY
 cases o.some <;> rfl
end Go.Tw.X
set_option maxHeartbeats 1000000
namespace Go.Tw.X
open Go Go.Tw
def aOk (a:bA):Prop:=rok a.rune/\0<=a.byte/\a.byte < 256/\a.bJ.length<=16
def uE (l:List bA):Prop:= ∀ a∈l,aOk a
theorem sJ {a b:List bA} (ha:uE a) (hb:uE b):uE (a++b):=λx h=>(List.mem_append.1 h).elim (ha x) (hb x)
theorem xu {a:bA} (h:aOk a):uE [a]:=λx hx=>by rw [List.mem_singleton.1 hx]; exact h
theorem G7 {l:List Int} (h:Pu l):uE (l.map prA):=λx hx=>by
 obtain ⟨r,hr,rfl⟩:=List.mem_map.1 hx
 exact ⟨h r hr,by show (0:Int)<=0; decide,by show (0:Int) < 256; decide,by show 0<=16; decide⟩
theorem KG (t:ByteArray):uE (ttl t):=by
 have hz:rok 0:=⟨by decide,by decide⟩
 unfold ttl
 split
 ·split
  ·exact xu ⟨hz,by show (0:Int)<=0; decide,by show (0:Int) < 256; decide,by show 0<=16; decide⟩
  ·exact λx hx=>by cases hx
 ·exact λx hx=>by cases hx
theorem vi {p:aI} (h:uE p.out) {b:Int} (h0:0<=b) (h1:b < 256):uE (eX p b).2.out:=by
 have hz:rok 0:=⟨by decide,by decide⟩
 unfold eX
 split
 ·exact h
 ·split
  ·exact h
  ·split
   ·exact sJ h (xu ⟨hz,h0,h1,by show 0<=16; decide⟩)
   ·exact h
theorem Px {p:aI} (hp:PI p) (h:uE p.out) {b:Int} (h0:0<=b) (h1:b < 256):uE (sI p b).out:=by
 have hz:rok 0:=⟨by decide,by decide⟩
 have hesc: ∀ q:aI,uE q.out->uE (mF q b).out:=λq hq=>by
  unfold mF
  split
  ·exact vi hq h0 h1
  ·repeat' split
   all_goals first | exact hq | exact sJ hq (xu ⟨hz,h0,h1,by show 0<=16; decide⟩)
 have hov: ∀ q:aI,uE q.out->uE (qp q).out:=λq hq=>sJ hq (KG _)
 unfold sI
 split
 ·unfold oE
  split
  ·refine vi (sJ h (G7 λx hx=> ?_)) h0 h1
   unfold Ax at hx
   split at hx
   ·cases hx
   ·rw [List.mem_singleton.1 hx]; exact ⟨by decide,by decide⟩
  ·exact sJ h (G7 (Aw hp.di h0 h1).2.2.2)
 ·split
  ·exact hesc p h
  ·split
   ·unfold tQ
    split
    ·exact vi h h0 h1
    ·split <;> exact h
   ·split
    ·unfold nt
     split
     ·exact vi h h0 h1
     ·split
      ·rw [BM,Ei]
       refine sJ h ?_
       unfold FV
       split
       ·exact λx hx=>by cases hx
       ·refine xu ⟨hz,h0,h1,?_⟩
        show (KF p.order).bJ.length<=16
        unfold KF
        split
        ·exact yq hp.nu
        ·exact hp.nu
      ·exact h
    ·split
     ·unfold qm
      repeat' split
      all_goals first | exact h | exact hov p h
     ·split
      ·exact hov p h
      ·exact hesc (stP p 1) h
theorem CE: ∀ (bs:List Int) {p:aI},PI p->uE p.out->(∀ b∈bs,0<=b/\b < 256)->uE (prun p bs).out
 | [],p,_,h,_=>h
 | b::bs,p,hp,h,hb=>by
  obtain ⟨b0,b1⟩:=hb b List.mem_cons_self
  exact CE bs (FU hp b0 b1).1 (Px hp h b0 b1) λx hx=>hb x (List.mem_cons_of_mem _ hx)
theorem Py {a:bA} (h:aOk a):wE (tA a)=a/\okA (tA a):=by
 obtain ⟨h1,h2,h3,h4⟩:=h
 refine ⟨?_,h1,h2,h3,by show a.bJ.length<=18; omega⟩
 have w8:IntKind.u8.wrap a.byte=a.byte:=by simp [IntKind.wrap,IntKind.bits,IntKind.signed]; omega
 unfold wE tA
 simp only [Io h1,w8]
theorem yu: ∀ (n:Nat) (l:List aG),∀ x∈tP n l,x∈l
 | 0,l,x,h=>h
 | n+1,l,x,h=>by
  unfold tP at h
  split at h
  ·exact List.dropLast_subset l (yu n _ x h)
  ·exact h
theorem KH {r:aE} {g:aJ} (h:g∈qN r): ∃ c∈r.cells,g.rune=c.rune:=by
 unfold qN wm at h
 obtain ⟨c,hc,rfl⟩:=List.mem_map.1 h
 have hc2:=(List.mem_filter.1 hc).1
 split at hc2
 ·exact ⟨c,hc2,rfl⟩
 ·exact ⟨c,yu _ _ c hc2,rfl⟩
def mA (W:Nat) (y:aB×(List (List aJ)×List aJ)) (a:bA):aB×(List (List aJ)×List aJ):=(acS W y.1 a,(acF W y.1 a).foldl tX y.2)
theorem xv {W:Nat} {r:aE} (h:gok W r) (hW:W<=1000):DS r:=⟨by rw [h.1]; exact hW,λg hg=>by
 obtain ⟨c,hc,e⟩:=KH hg
 rw [e]
 exact h.2 c hc⟩
theorem KI {W k:Nat} {y:aB×(List (List aJ)×List aJ)} (hs:SI W y.1) (hz:ZI k y.2) {a:bA} (ha:aOk a):SI W (mA W y a).1/\ZI (k+4000) (mA W y a).2:=by
 have ho:=FN hs.toSJ a
 have hW:=hs.gi.w2
 have h2:=vb (acF W y.1 a) hz λr hr=>xv (ho.2 r hr) hW
 refine ⟨Oi hs a ha.1,?_⟩
 have h3:=ho.1
 exact ⟨by have:=h2.n; show ((acF W y.1 a).foldl tX y.2).1.length<=_; omega,h2.b,h2.g,h2.ls⟩
theorem yv {W:Nat}: ∀ (l:List bA) {k:Nat} {y:aB×(List (List aJ)×List aJ)},SI W y.1->ZI k y.2->uE l->SI W (l.foldl (mA W) y).1/\ZI (k+4000*l.length) (l.foldl (mA W) y).2
 | [],k,y,hs,hz,_=>⟨hs,hz⟩
 | a::l,k,y,hs,hz,h=>by
  obtain ⟨h1,h2⟩:=KI hs hz (h a List.mem_cons_self)
  have:=yv l (k:=k+4000) h1 h2 λx hx=>h x (List.mem_cons_of_mem _ hx)
  rw [show k+4000*(a::l).length=k+4000+4000*l.length by simp; omega]
  exact this
theorem Pz {W:Nat} {s:aB} (h:SI W s) {a:bA} (ha:aOk a):gG s a=some (acF W s a,acS W s a):=by
 obtain ⟨e,ho⟩:=Py ha
 have:=(Na h ho).2.2.1
 rw [e] at this
 exact this
theorem Nk {W k:Nat} {m:bD} {z:List (List aJ)×List aJ} (hs:SI W m.aW) (hz:ZI k z) (hp:PI m.parser) {t:ByteArray} (ht:t.size<=1000) (hk:k<=50000000) :
  kI (λa c=>(Option.bind (kA a c) λd=>some (d.2,true))) (fS z) m t=some (fS ((prun (clr m.parser) (sbs t)).out.foldl (mA W) (m.aW,z)).2,⟨m.book,clr (prun (clr m.parser) (sbs t)),((prun (clr m.parser) (sbs t)).out.foldl (mA W) (m.aW,z)).1,m.k⟩):=by
 unfold kI
 rw [Nj hp (by omega),Option.bind_some]
 have hc:PI (clr m.parser):=⟨hp.di,hp.gr,hp.nu,hp.n0,hp.n1,hp.tx⟩
 have hpr:=vh (sbs t) hc (mR t)
 have has:=CE (sbs t) hc (λx hx=>by cases hx) (mR t)
 have hlen:=hpr.2
 rw [bB] at hlen
 have hc0:(clr m.parser).out.length=0:=rfl
 generalize prun (clr m.parser) (sbs t)=q at hpr has hlen
 dsimp only
 refine okE (mE (P:=λ | .inl y=>y=(((q.out.foldl (mA W) (m.aW,z)).1,fS (q.out.foldl (mA W) (m.aW,z)).2):aB×cE) | .inr _=>False) ?_ ?_)
 ·refine va (λy:aB×Int×cE=>0<=y.2.1/\y.2.1<=q.out.length/\y.1=((q.out.take y.2.1.toNat).foldl (mA W) (m.aW,z)).1/\y.2.2=fS ((q.out.take y.2.1.toNat).foldl (mA W) (m.aW,z)).2) (λy=>q.out.length - y.2.1.toNat) ⟨Int.le_refl 0,by dsimp only; omega,rfl,rfl⟩ ?_
  rintro ⟨s,i,b⟩ ⟨h0,h1,h2,h3⟩
  dsimp only at h0 h1 h2 h3 ⊢
  subst h2 h3
  refine xi (λhi=> ?_) λhi=> ?_
  ·obtain ⟨j,rfl⟩: ∃ j:Nat,i=j:=⟨i.toNat,by omega⟩
   have hj:j < q.out.length:=by omega
   rw [show ((j:Int)).toNat=j from rfl]
   have hst:=yv (W:=W) (q.out.take j) (k:=k) (y:=(m.aW,z)) hs hz λx hx=>has x (List.mem_of_mem_take hx)
   rw [List.length_take] at hst
   have ha:=has q.out[j] (List.getElem_mem hj)
   have hnext:(q.out.take (j+1)).foldl (mA W) (m.aW,z)=mA W ((q.out.take j).foldl (mA W) (m.aW,z)) q.out[j]:=by
    rw [List.take_add_one,List.getElem?_eq_getElem hj,Option.toList_some,List.foldl_append]
    rfl
   generalize (q.out.take j).foldl (mA W) (m.aW,z)=y at hst hnext
   have ho:=FN hst.1.toSJ q.out[j]
   have hW:=hst.1.gi.w2
   have hol:=ho.1
   rw [dB _ j hj,Option.bind_some,Pz hst.1 ha,Option.bind_some]
   obtain ⟨r,hr1,hr2⟩:=add_eq hst.2 (rows:=acF W y.1 q.out[j]) (λr hr=>xv (ho.2 r hr) hW) (by omega)
   rw [hr1]
   simp only [Option.bind_some,Bool.not_true,cond_false]
   rw [w64 (by omega) (by omega)]
   refine fN ⟨⟨by dsimp only; omega,by dsimp only; omega,?_,?_⟩,by dsimp only; omega⟩
   ·dsimp only
    rw [show ((j:Int)+1).toNat=j+1 by omega,hnext]
    rfl
   ·dsimp only
    rw [show ((j:Int)+1).toNat=j+1 by omega,hnext,hr2]
    rfl
  ·refine fN ?_
   rw [List.take_of_length_le (by omega)]
 ·rintro (y | y) h
  ·subst h
   exact fN rfl
  ·exact h.elim
theorem news (a t:ByteArray):(prun p0 (sbs (a++t))).out=(prun p0 (sbs a)).out++(prun (clr (prun p0 (sbs a))) (sbs t)).out/\clr (prun p0 (sbs (a++t)))=clr (prun (clr (prun p0 (sbs a))) (sbs t)):=by
 rw [qU,Ef,Az (sbs t) (prun p0 (sbs a))]
 exact ⟨rfl,rfl⟩
def ru (x:Int):Prop:=0<=x/\x<=1114111
def rus (l:List Int):Prop:= ∀ x∈l,ru x
structure D2 (d:bT):Prop where
 r0:0<=d.rune
 r3:d.kJ=3->d.rune<=4/\(d.rune=4->d.lead=244)
 r2:d.kJ=2->d.rune<=271
 r1:d.kJ=1->d.rune<=17407
theorem D20:D2 d0:=⟨by decide,by decide,by decide,by decide⟩
theorem FW {x:Int} (h:ru x):rus [x]:=λy hy=>by rw [List.mem_singleton.1 hy]; exact h
theorem FX:ru 65533:=⟨by decide,by decide⟩
theorem PA {b:Int} (h0:0<=b) (h1:b < 256):0<=Bb b/\((lF b).1=3->Bb b<=4/\(Bb b=4->b=244))/\((lF b).1=2->Bb b<=15)/\((lF b).1=1->Bb b<=31):=by
 unfold Bb lF
 repeat' split
 all_goals simp_all
 all_goals omega
theorem QL {b:Int} (h0:0<=b) (h1:b < 256):D2 (zb b).1/\rus (zb b).2:=by
 unfold zb
 obtain ⟨l0,l3,l2,l1⟩:=PA h0 h1
 split
 ·exact ⟨D20,FW ⟨h0,by omega⟩⟩
 ·split
  ·exact ⟨D20,FW FX⟩
  ·refine ⟨⟨l0,l3,λe=> ?_,λe=> ?_⟩,λx hx=>by cases hx⟩
   ·have:=l2 e; show Bb b<=271; omega
   ·have:=l1 e; show Bb b<=17407; omega
theorem Nl {d:bT} {b:Int} (h0:0<=b) (hn:(lF d.lead).1=d.kJ) (h3:d.kJ=3) (h4:d.lead=244) (hf:Iq d b=true):b % 64<=15:=by
 unfold Iq at hf
 rw [if_neg (by omega),h4] at hf
 have e:lF 244=(3,128,143):=by decide
 rw [e] at hf
 have:=of_decide_eq_true hf
 dsimp only at this
 omega
theorem KJ {d:bT} (hd:DI d) (h:D2 d) {b:Int} (h0:0<=b) (h1:b < 256):D2 (vU d b).1/\rus (vU d b).2:=by
 unfold vU
 obtain ⟨k1,k2⟩:=QL h0 h1
 split
 ·exact ⟨k1,k2⟩
 ·rename_i hn
  rcases hd with rfl | ⟨l0,l1,n1,n2,r0,r3,r2,r1⟩
  ·exact absurd (by decide) hn
  have hk:=(xo d.lead).1
  split
  ·rename_i hf
   split
   ·rename_i hn1
    have:=h.r1 hn1
    exact ⟨D20,FW ⟨by omega,by omega⟩⟩
   ·rename_i hn1
    refine ⟨⟨by show 0<=d.rune*64+b % 64; omega,λe=> ?_,λe=> ?_,λe=> ?_⟩,λx hx=>by cases hx⟩
    ·change d.kJ - 1=3 at e; omega
    ·change d.kJ - 1=2 at e
     show d.rune*64+b % 64<=271
     have h3:d.kJ=3:=by omega
     obtain ⟨a1,a2⟩:=h.r3 h3
     by_cases c:d.rune=4
     ·have:=Nl h0 (by omega) h3 (a2 c) hf; omega
     ·omega
    ·change d.kJ - 1=1 at e
     show d.rune*64+b % 64<=17407
     have:=h.r2 (by omega)
     omega
  ·refine ⟨k1,λx hx=> ?_⟩
   rcases List.mem_cons.1 hx with rfl | hx
   ·exact FX
   ·exact k2 x hx
def aGd (a:bA):Prop:=ru a.rune/\a.text.size<=200
def vq (l:List bA):Prop:= ∀ a∈l,aGd a
theorem sK {a b:List bA} (ha:vq a) (hb:vq b):vq (a++b):=λx h=>(List.mem_append.1 h).elim (ha x) (hb x)
theorem xw {a:bA} (h:aGd a):vq [a]:=λx hx=>by rw [List.mem_singleton.1 hx]; exact h
theorem Nm:(ByteArray.mk #[]).size<=200:=by decide
theorem ru0:ru 0:=⟨by decide,by decide⟩
theorem G8 {l:List Int} (h:rus l):vq (l.map prA):=λx hx=>by
 obtain ⟨r,hr,rfl⟩:=List.mem_map.1 hx
 exact ⟨h r hr,Nm⟩
theorem KK {t:ByteArray} (h:t.size<=200):vq (ttl t):=by
 have hg:2<=t.size->aGd (tiA t):=λh2=>⟨ru0,by show (iN t 2 t.size).size<=200; rw [D6 _ (by omega) (by omega) (by omega)]; omega⟩
 unfold ttl
 split
 ·rename_i x y l e
  have:2<=t.size:=by have:=congrArg List.length e; rw [bB] at this; simp at this; omega
  split
  ·exact xw (hg this)
  ·exact λx hx=>by cases hx
 ·exact λx hx=>by cases hx
theorem vj {p:aI} (h:vq p.out) (b:Int):vq (eX p b).2.out:=by
 unfold eX
 split
 ·exact h
 ·split
  ·exact h
  ·split
   ·exact sK h (xw ⟨ru0,Nm⟩)
   ·exact h
theorem PB {p:aI} (hp:PI p) (hd:D2 p.cP) (h:vq p.out) {b:Int} (h0:0<=b) (h1:b < 256):vq (sI p b).out:=by
 have hesc: ∀ q:aI,vq q.out->vq (mF q b).out:=λq hq=>by
  unfold mF
  split
  ·exact vj hq b
  ·repeat' split
   all_goals first | exact hq | exact sK hq (xw ⟨ru0,Nm⟩)
 have hov:vq (qp p).out:=sK h (KK hp.tx)
 unfold sI
 split
 ·unfold oE
  split
  ·refine vj (sK h (G8 λx hx=> ?_)) b
   unfold Ax at hx
   split at hx
   ·cases hx
   ·rw [List.mem_singleton.1 hx]; exact FX
  ·exact sK h (G8 (KJ hp.di hd h0 h1).2)
 ·split
  ·exact hesc p h
  ·split
   ·unfold tQ
    split
    ·exact vj h b
    ·split <;> exact h
   ·split
    ·unfold nt
     split
     ·exact vj h b
     ·split
      ·rw [BM,Ei]
       refine sK h ?_
       unfold FV
       split
       ·exact λx hx=>by cases hx
       ·exact xw ⟨ru0,Nm⟩
      ·exact h
    ·split
     ·unfold qm
      repeat' split
      all_goals first | exact h | exact hov
     ·split
      ·exact hov
      ·exact hesc (stP p 1) h
theorem qD (p:aI) (b:Int):(eX p b).2.cP=p.cP:=by
 unfold eX
 repeat' split
 all_goals rfl
theorem xx (p:aI) (b:Int):(mF p b).cP=p.cP:=by
 unfold mF
 split
 ·exact qD p b
 ·repeat' split
  all_goals rfl
theorem PC {p:aI} (hp:PI p) (hd:D2 p.cP) {b:Int} (h0:0<=b) (h1:b < 256):D2 (sI p b).cP:=by
 unfold sI
 split
 ·unfold oE
  split
  ·rw [qD]; exact D20
  ·exact (KJ hp.di hd h0 h1).1
 ·split
  ·rw [xx]; exact hd
  ·split
   ·unfold tQ
    split
    ·rw [qD]; exact hd
    ·split <;> exact hd
   ·split
    ·unfold nt
     split
     ·rw [qD]; exact hd
     ·split
      ·unfold oF
       split <;> exact hd
      ·exact hd
    ·split
     ·unfold qm
      repeat' split
      all_goals exact hd
     ·split
      ·exact hd
      ·rw [xx]; exact hd
theorem G9: ∀ (bs:List Int) {p:aI},PI p->D2 p.cP->vq p.out->(∀ b∈bs,0<=b/\b < 256)->vq (prun p bs).out/\D2 (prun p bs).cP
 | [],p,_,hd,h,_=>⟨h,hd⟩
 | b::bs,p,hp,hd,h,hb=>by
  obtain ⟨b0,b1⟩:=hb b List.mem_cons_self
  exact G9 bs (FU hp b0 b1).1 (PC hp hd b0 b1) (PB hp hd h b0 b1) λx hx=>hb x (List.mem_cons_of_mem _ hx)
def sy (x:Int):Prop:=0<=x/\x<=647
def cOk (c:aG):Prop:=ru c.rune/\sy c.aM/\0<=c.part/\c.part<=3
theorem PD {c:aG} (h:cOk c):okC c=true:=by
 obtain ⟨⟨a,b⟩,⟨d,e⟩,f,g⟩:=h
 simp [okC,okG,a,b,d,e,f,g]
theorem tD (s:bC):sy (nT s):=by
 unfold nT sy
 split
 ·unfold bN
  repeat' split
  all_goals omega
 ·omega
theorem QM:ru 32:=⟨by decide,by decide⟩
theorem zu {s:Int} (h:sy s):cOk (blk s):=⟨QM,h,by show (0:Int)<=0; decide,by show (0:Int)<=3; decide⟩
theorem sy0:sy 0:=⟨by decide,by decide⟩
def cR (l:List aG):Prop:= ∀ c∈l,cOk c
theorem PE:cR []:=λc h=>by cases h
theorem vk: ∀ (l:List aG) (p:Int),cR l->cR (jY p l)
 | [],_,_=>λc hc=>by cases hc
 | c::r,p,h=>by
  intro d hd
  simp only [jY,List.mem_cons] at hd
  rcases hd with rfl | hd
  ·unfold xZ
   cases AX p c r with
   | true=>exact zu (h c (by simp)).2.1
   | false=>exact h c (by simp)
  ·exact vk r _ (λe he=>h e (by simp [he])) d hd
theorem AA {l:List aG} (h:cR l) (i:Nat) {c:aG} (hc:cOk c):cR (l.set i c):=by
 intro d hd
 rcases List.mem_or_eq_of_mem_set hd with hd | rfl
 ·exact h d hd
 ·exact hc
theorem PF {l:List aG} (h:cR l) (at_:Int) {s x:Int} (hx:ru x) (hs:sy s):cR (x8 l at_ x s):=by
 have m: ∀ p:Int,0<=p->p<=3->cOk ⟨x,s,p⟩:=λp a b=>⟨hx,hs,a,b⟩
 unfold x8
 split
 ·exact h
 ·split
  ·exact AA h _ (m 0 (by decide) (by decide))
  ·unfold Fi
   have h1:=AA (AA h at_.toNat (m 1 (by decide) (by decide))) (at_.toNat+1) (m 2 (by decide) (by decide))
   split
   ·rename_i c hc
    have hcm:cOk c:=by
     split at hc
     ·exact h1 c (List.mem_of_getElem? hc)
     ·cases hc
    split
    ·exact AA h1 _ (zu hcm.2.1)
    ·exact h1
   ·exact h1
theorem CF (n:Nat) {s:Int} (h:sy s):cR (List.replicate n (blk s)):=λc hc=>by rw [List.eq_of_mem_replicate hc]; exact zu h
theorem AB {a b:List aG} (ha:cR a) (hb:cR b):cR (a++b):=λc hc=>(List.mem_append.1 hc).elim (ha c) (hb c)
theorem zv {a:List aG} (ha:cR a) (n:Nat):cR (a.take n):=λc hc=>ha c (List.mem_of_mem_take hc)
theorem Ha {a:List aG} (ha:cR a) (n:Nat):cR (a.drop n):=λc hc=>ha c (List.mem_of_mem_drop hc)
theorem AD (a b:Int) {s:Int} (hs:sy s): ∀ {l:List aG} (i:Int),cR l->cR (nf a b s i l)
 | [],_,_=>λc hc=>by cases hc
 | c::r,i,h=>by
  intro d hd
  simp only [nf,List.mem_cons] at hd
  rcases hd with rfl | hd
  ·split
   ·exact zu hs
   ·exact h c (by simp)
  ·exact AD a b hs (i+1) (λe he=>h e (by simp [he])) d hd
theorem Nn {l:List aG} (h:cR l) {q:Int} (hq:sy q):cR (rC l q):=AA h _ ⟨QM,hq,by show (0:Int)<=3; decide,by show (3:Int)<=3; decide⟩
theorem PG {l:List aG} (h:cR l) (a n:Int) {q:Int} (hq:sy q):cR (ins l a n q):=by
 unfold ins
 split
 ·exact h
 ·exact zv (AB (AB (zv h _) (CF _ hq)) (Ha h _)) _
theorem PH {l:List aG} (h:cR l) (a n:Int) {q:Int} (hq:sy q):cR (del l a n q):=by
 unfold del
 split
 ·exact h
 ·exact AB (AB (zv h _) (Ha h _)) (CF _ hq)
def gR2 (l:List aE):Prop:= ∀ r∈l,cR r.cells
theorem rG {a b:List aE} (ha:gR2 a) (hb:gR2 b):gR2 (a++b):=λc hc=>(List.mem_append.1 hc).elim (ha c) (hb c)
theorem pr {a:List aE} (ha:gR2 a) (n:Nat):gR2 (a.take n):=λc hc=>ha c (List.mem_of_mem_take hc)
theorem qX {a:List aE} (ha:gR2 a) (n:Nat):gR2 (a.drop n):=λc hc=>ha c (List.mem_of_mem_drop hc)
theorem zw (k W:Nat) {s:Int} (h:sy s):gR2 (List.replicate k (jQ W s)):=λc hc=>by rw [List.eq_of_mem_replicate hc]; exact CF W h
theorem oG:gR2 []:=λc h=>by cases h
theorem wF {l:List aE} (h:gR2 l) (y:Int):cR (ns l y).cells:=by
 unfold ns
 split
 ·rename_i hy
  rw [List.getElem?_eq_getElem (by omega)]
  exact h _ (List.getElem_mem _)
 ·exact PE
theorem KL (W:Nat) {r:aE} (h:cR r.cells):cR (rsz W r).cells:=by
 unfold rsz
 split
 ·exact h
 ·exact vk _ _ (AB (zv h _) (CF _ sy0))
theorem Hb (W:Nat) {l:List aE} (h:gR2 l) (y:Int) {r:aE} (hr:cR r.cells):gR2 (vo W l y r):=by
 unfold vo
 split
 ·intro q hq
  rcases List.mem_or_eq_of_mem_set hq with hq | hq
  ·exact h q hq
  ·rw [hq]; exact KL W hr
 ·exact h
theorem KM (W:Nat) {l:List aE} (h:gR2 l) (t b n:Int) {s:Int} (hs:sy s):gR2 (upL W l t b n s):=by
 unfold upL
 split
 ·exact h
 ·exact rG (rG (pr h _) (rG (qX (qX (pr h _) _) _) (zw _ _ hs))) (qX h _)
theorem No {l:List aE} (h:gR2 l) (t b n:Int):gR2 (upO l t b n):=by
 unfold upO
 split
 ·exact oG
 ·exact pr (qX (pr h _) _) _
theorem KN (W:Nat) {l:List aE} (h:gR2 l) (t b n:Int) {s:Int} (hs:sy s):gR2 (uz W l t b n s):=by
 unfold uz
 split
 ·exact h
 ·exact rG (rG (pr h _) (rG (zw _ _ hs) (pr (qX (pr h _) _) _))) (qX h _)
theorem PJ (W:Nat) {l:List aE} (h:gR2 l) (c H:Nat):gR2 (rzL W l c H):=by
 intro r hr
 unfold rzL at hr
 obtain ⟨q,hq,rfl⟩:=List.mem_map.1 hr
 exact KL W (rG (pr (qX h _) _) (zw _ W sy0) q hq)
structure SC (s:aB):Prop where
 g:gR2 s.g.l
 t:s.title.size<=200
variable {W : Nat} {s : aB}
theorem dU {p:Prop} [Decidable p] {a b:aB} (ha:SC a) (hb:SC b):SC (if p then a else b):=by split <;> assumption
theorem nj {p:Prop} [Decidable p] {a b:List aE} (ha:gR2 a) (hb:gR2 b):gR2 (if p then a else b):=by split <;> assumption
theorem qY (h:SC s) (x y:Int):SC (mvS s x y):=⟨h.g,h.t⟩
theorem vW (h:SC s):SC (nwS s):=⟨h.g,h.t⟩
theorem FY (h:SC s) (x:Int):SC (xS s x):=⟨h.g,h.t⟩
theorem Hc (h:SC s) (y:Int) {r:aE} (hr:cR r.cells):SC (seS W s y r):=⟨Hb W h.g y hr,h.t⟩
theorem Ok (h:SC s) (n:Int):SC (upS W s n):=⟨KM W h.g _ _ _ (tD _),h.t⟩
theorem PK (h:SC s) (t b n:Int):SC (upT W s t b n):=⟨KM W h.g _ _ _ (tD _),h.t⟩
theorem KO (h:SC s) (t b n:Int):SC (dnS W s t b n):=⟨KN W h.g _ _ _ (tD _),h.t⟩
theorem Hd (h:SC s) (n:Int):gR2 (upF s n):=nj oG (No h.g _ _ _)
theorem Ej (h:SC s):SC (liS W s):=dU (Ok (vW h) 1) (qY (vW h) _ _)
theorem AE (h:SC s):gR2 (liF s):=nj (Hd (vW h) 1) oG
theorem QN (h:SC s):cR (r2S s).cells:=vk _ _ (Nn (wF h.g _) (tD _))
theorem QO (h:SC s) {r:Int} (hr:ru r):cR (r3S s r).cells:=vk _ _ (PF (wF h.g _) _ hr (tD _))
theorem RH (h:SC s):SC (aS W s)/\gR2 (aF W s):=by
 have k:SC (xS (seS W s s.spot.y (r1S s)) 0):=FY (Hc h _ (r:=r1S s) (wF h.g _)) 0
 exact ⟨dU (Ej k) h,nj (AE k) oG⟩
theorem RI (h:SC s) (n:Int):SC (bS W s n)/\gR2 (bF W s n):=by
 have k:SC (xS (seS W s s.spot.y (r2S s)) 0):=FY (Hc h _ (QN h)) 0
 exact ⟨dU (dU (Ej k) (FY h _)) h,nj (nj (AE k) oG) oG⟩
theorem QP (h:SC s) {r:Int} (hr:ru r):SC (prS W s r)/\gR2 (prF W s r):=by
 obtain ⟨a1,a2⟩:=RH (W:=W) h
 obtain ⟨b1,b2⟩:=RI (W:=W) a1 (ofS r)
 exact ⟨dU h ⟨Hb W b1.g _ (QO b1 hr),b1.t⟩,nj oG (rG a2 b2)⟩
theorem QQ (h:SC s) (b:Int):SC (ctS W s b)/\gR2 (ctF s b) :=
 ⟨dU (qY h _ _) (dU (qY h _ _) (dU (Ej h) (dU (qY h _ _) h))),nj (AE h) oG⟩
theorem QR (h:SC s):SC (baS W s):=dU (KO (vW h) _ _ _) (qY (vW h) _ _)
theorem He (w h:Int):SC (Ba w h):=⟨zw _ _ sy0,by show (ByteArray.mk #[]).size<=200; decide⟩
theorem QS (h:SC s) (b:Int):SC (esS W s b)/\gR2 (esF s b) :=
 ⟨dU (Ej (FY h 0)) (dU (Ej h) (dU (QR h) (dU ⟨h.g,h.t⟩ (dU (qY (s:=e8S s) ⟨h.g,h.t⟩ _ _) (dU (He _ _) h))))),nj (AE (FY h 0)) (nj (AE h) oG)⟩
theorem Ol (h:SC s) (y a b:Int):SC (erS W s y a b):=Hc h y (vk _ _ (AD _ _ (tD _) _ (wF h.g _)))
theorem QT (h:SC s) (n:Int):SC (paS W s n):=dU h (vW (Ol h _ _ _))
theorem KP (h:SC s) (n:Int): ∀ k,SC (wpS W s n k)
 | 0=>h
 | k+1=>by
  unfold wpS
  split
  ·exact Ol (KP h n k) _ _ _
  ·exact KP h n k
theorem Hf (h:SC s) (n:Int):SC (clS s n):=qY h _ _
theorem KQ (h:SC s) (n:Int) (all:Bool):SC (D3 W s n all):=QT (dU (KP h _ _) h) n
theorem KR {p:Prop} [Decidable p] {a b:List aG} (ha:cR a) (hb:cR b):cR (if p then a else b):=by split <;> assumption
theorem QU (h:SC s) (b n:Int):SC (ceS W s b n) :=
 vW (Hc h _ (vk _ _ (KR (PG (wF h.g _) _ _ (tD _)) (KR (PH (wF h.g _) _ _ (tD _)) (AD _ _ (tD _) _ (wF h.g _))))))
theorem QV (h:SC s) (b n:Int):SC (shS W s b n):=dU h (dU (qY (KO h _ _ _) _ _) (qY (PK h _ _ _) _ _))
theorem QW (h:SC s) (l:List Int):SC (reS s l):=dU (qY (s:=rnS s (rgT s l) (rgU s l)) ⟨h.g,h.t⟩ _ _) h
theorem QX (h:SC s) (b:Int) (l:List Int):SC (orS W s b l)/\gR2 (orF s b l):=by
 refine ⟨?_,nj (Hd (vW h) _) oG⟩
 unfold orS
 refine dU (Hf h _) (dU (FY (Hf h _) 0) (dU (Hf h _) (dU (FY (Hf h _) 0) (dU (qY h _ _) (dU (qY h _ _) (dU (qY h _ _) (dU (qY h _ _) (dU (qY h _ _) (dU (KQ h _ _) (dU (KQ h _ _) (dU (QU h _ _) (dU (QV h _ _) (dU (Ok (vW h) _) (dU (KO (vW h) _ _ _) (dU ⟨h.g,h.t⟩ (dU (QW h l) h))))))))))))))))
theorem QY (h:SC s) {a:bA} (ha:aGd a):SC (acS W s a)/\gR2 (acF W s a):=by
 obtain ⟨p1,p2⟩:=QP (W:=W) h ha.1
 obtain ⟨c1,c2⟩:=QQ (W:=W) h a.byte
 obtain ⟨e1,e2⟩:=QS (W:=W) h a.byte
 obtain ⟨o1,o2⟩:=QX (W:=W) h a.byte a.bJ
 exact ⟨dU p1 (dU c1 (dU e1 (dU (dU (dU ⟨h.g,h.t⟩ h) o1) (dU ⟨h.g,ha.2⟩ h)))),nj p2 (nj c2 (nj e2 (nj (nj oG o2) oG)))⟩
theorem QZ (h:SC s) (w k:Int):SC (rzS s w k)/\gR2 (rzF s k):=⟨⟨PJ _ h.g _ _,h.t⟩,pr h.g _⟩
end Go.Tw.X
namespace Go.Tw.X
open Go Go.Tw
def AF (k:Int) (n:Nat) (w h:Int):Int:=if k=0 then (if 1048576 < n then 3 else 0) else if k=1 then (if w < 1\/w > 1000\/h < 1\/h > 1000 then 6 else 0) else 5
theorem Np (w h:Int):((bif (decide (w < 1)) then some true else (bif (decide (w > 1000)) then some true else (bif (decide (h < 1)) then some true else some (decide (h > 1000))))):Option Bool)=some (decide (w < 1\/w > 1000\/h < 1\/h > 1000)):=by
 by_cases a:w < 1
 ·simp [a]
 ·by_cases b:w > 1000
  ·simp [a,b]
  ·by_cases c:h < 1
   ·simp [a,b,c]
   ·simp [a,b,c]
theorem yw (e:nQ):kH e=some (AF e.kind e.text.size e.w e.h):=by
 unfold kH AF
 by_cases k0:e.kind=0
 ·have e0:(e.kind == 0)=true:=by simpa using k0
  rw [if_pos k0,e0,cond_true]
  by_cases hs:1048576 < e.text.size
  ·rw [if_pos hs,decide_eq_true (by omega)]; rfl
  ·rw [if_neg hs,decide_eq_false (by omega)]; rfl
 ·have e0:(e.kind == 0)=false:=by simpa using k0
  rw [if_neg k0,e0,cond_false]
  by_cases k1:e.kind=1
  ·have e1:(e.kind == 1)=true:=by simpa using k1
   rw [if_pos k1,e1,cond_true,Np,Option.bind_some]
   by_cases hs:e.w < 1\/e.w > 1000\/e.h < 1\/e.h > 1000
   ·rw [if_pos hs,decide_eq_true hs]; rfl
   ·rw [if_neg hs,decide_eq_false hs]; rfl
  ·have e1:(e.kind == 1)=false:=by simpa using k1
   rw [if_neg k1,e1]; rfl
structure MX (W k N:Nat) (z:List (List aJ)×List aJ) (m:bD) (x:mr):Prop where
 si:SI W m.aW
 zi:ZI k z
 bk:m.book=fS z
 xs:x.s=aO m.aW
 xb:x.b=Cx z
 pa:m.parser=clr (prun p0 (sbs x.all))
 ac:x.Qn=((prun p0 (sbs x.all)).out.length:Int)
 ke:m.k=x.k
 k0:0<=m.k
 kN:m.k<=N
 al:x.all.size<=1000*N
theorem KS {W k N:Nat} {z:List (List aJ)×List aJ} {m:bD} {x:mr} (h:MX W k N z m x) {t:ByteArray} (ht:t.size<=1000) :
  MX W (k+8000*t.size) (N+1) ((prun m.parser (sbs t)).out.foldl (mA W) (m.aW,z)).2 ⟨fS ((prun m.parser (sbs t)).out.foldl (mA W) (m.aW,z)).2,clr (prun m.parser (sbs t)),((prun m.parser (sbs t)).out.foldl (mA W) (m.aW,z)).1,m.k+1⟩ ⟨aO ((prun m.parser (sbs t)).out.foldl (mA W) (m.aW,z)).1,Cx ((prun m.parser (sbs t)).out.foldl (mA W) (m.aW,z)).2,x.all++t,((prun p0 (sbs (x.all++t))).out.length:Int),m.k+1⟩:=by
 have hp:PI m.parser:=by
  rw [h.pa]
  have:=(vh (sbs x.all) Oj (mR x.all)).1
  exact ⟨this.di,this.gr,this.nu,this.n0,this.n1,this.tx⟩
 have hlen:=(vh (sbs t) hp (mR t)).2
 have hm0:m.parser.out.length=0:=by rw [h.pa]; rfl
 rw [bB] at hlen
 have has:=CE (sbs t) hp (by rw [h.pa]; exact λx hx=>by cases hx) (mR t)
 have hst:=yv (W:=W) (prun m.parser (sbs t)).out (k:=k) (y:=(m.aW,z)) h.si h.zi has
 have hk0:=h.k0
 have hkN:=h.kN
 have hal:=h.al
 have hz:(x.all++t).size=x.all.size+t.size:=by rw [<- bB,qU,List.length_append,bB,bB]
 have hzn:=hst.2.n
 refine ⟨hst.1,⟨by omega,hst.2.b,hst.2.g,hst.2.ls⟩,rfl,rfl,rfl,?_,rfl,rfl,by dsimp only; omega,by dsimp only; omega,by dsimp only; omega⟩
 dsimp only
 rw [(news x.all t).2,<- h.pa]
theorem Nq (m:bD) (e:nQ) (h:AF e.kind e.text.size e.w e.h≠0):eZ m e=some (AF e.kind e.text.size e.w e.h,m):=by
 unfold eZ
 have e1:(AF e.kind e.text.size e.w e.h != 0)=true:=by simpa using h
 rw [yw,Option.bind_some,e1,cond_true]
def Nr (w h:Int):bD:=⟨fS ([],[]),p0,Ba w h,0⟩
def RJ (w h:Int):mr:=⟨aO (Ba w h),Cx ([],[]),ByteArray.mk #[],0,0⟩
theorem Ns (w h:Int):pY w h=some (Nr w h):=by
 unfold pY
 rw [show tf=some (cE.mk [] [0] []) from rfl,Option.bind_some,G2,Option.bind_some]
 rfl
theorem PL (w h:Int):MX (szN w) 0 0 ([],[]) (Nr w h) (RJ w h) :=
 ⟨G3 w h,⟨Nat.le_refl 0,by show 0 < 1024; decide,λx hx=>(by cases hx),λx hx=>(by cases hx)⟩,rfl,rfl,rfl,rfl,rfl,rfl,Int.le_refl 0,Int.le_refl 0,Nat.le_refl 0⟩
theorem KT {W k N:Nat} {z:List (List aJ)×List aJ} {m:bD} {x:mr} (h:MX W k N z m x) (hk:k<=50000000) (hN:N<=90) {t:ByteArray} {w h':Int} (hc:AF 1 t.size w h'=0) :
  eZ m ⟨1,t,w,h'⟩=some (0,⟨fS ((rzF m.aW h').foldl tX z),m.parser,rzS m.aW w h',m.k+1⟩):=by
 have hk0:=h.k0
 have hkN:=h.kN
 have ho:=Ks h.si.toSJ h'
 have hW:=h.si.gi.w2
 have hol:=ho.1
 obtain ⟨r,hr1,hr2⟩:=add_eq h.zi (rows:=rzF m.aW h') (λr hr=>xv (ho.2 r hr) hW) (by omega)
 unfold eZ
 rw [yw]
 dsimp only
 rw [hc,Option.bind_some,show ((0:Int) != 0)=false from rfl,show ((1:Int) == 1)=true from rfl,cond_false,cond_true,Il h.si.toSJ,Option.bind_some,h.bk,hr1]
 simp only [Option.bind_some]
 rw [hr2,w64 (by omega) (by omega)]
theorem Nt {W k N:Nat} {z:List (List aJ)×List aJ} {m:bD} {x:mr} (h:MX W k N z m x) (w h':Int) :
  MX (szN w) (k+4000) (N+1) ((rzF m.aW h').foldl tX z) ⟨fS ((rzF m.aW h').foldl tX z),m.parser,rzS m.aW w h',m.k+1⟩ ⟨aO (rzS m.aW w h'),Cx ((rzF m.aW h').foldl tX z),x.all,x.Qn,m.k+1⟩:=by
 have hk0:=h.k0
 have hkN:=h.kN
 have hal:=h.al
 have ho:=Ks h.si.toSJ h'
 have hW:=h.si.gi.w2
 have hol:=ho.1
 have h2:=vb (rzF m.aW h') h.zi λr hr=>xv (ho.2 r hr) hW
 have h2n:=h2.n
 exact ⟨Pt h.si.toSJ w h',⟨by omega,h2.b,h2.g,h2.ls⟩,rfl,rfl,rfl,h.pa,h.ac,rfl,by dsimp only; omega,by dsimp only; omega,by dsimp only; omega⟩
def gOk (g:aJ):Prop:=ru g.rune/\sy g.aM
def gls (l:List aJ):Prop:= ∀ g∈l,gOk g
theorem Nu {a b:List aJ} (ha:gls a) (hb:gls b):gls (a++b):=λc hc=>(List.mem_append.1 hc).elim (ha c) (hb c)
theorem KU {a:List aJ} (ha:gls a) (n:Nat):gls (a.take n):=λc hc=>ha c (List.mem_of_mem_take hc)
theorem KV {a:List aJ} (ha:gls a) (n:Nat):gls (a.drop n):=λc hc=>ha c (List.mem_of_mem_drop hc)
theorem Hg:gls []:=λc h=>by cases h
structure ZG (z:List (List aJ)×List aJ):Prop where
 b:gls z.2
 l: ∀ x∈z.1,gls x
theorem KW {r:aE} (h:cR r.cells):gls (qN r):=by
 intro g hg
 unfold qN wm at hg
 obtain ⟨c,hc,rfl⟩:=List.mem_map.1 hg
 have hc2:=(List.mem_filter.1 hc).1
 have:c∈r.cells:=by
  split at hc2
  ·exact hc2
  ·exact yu _ _ c hc2
 exact ⟨(h c this).1,(h c this).2.1⟩
theorem Ek: ∀ (n:Nat) (g:List aJ),g.length<=n->gls g->gls (ql g).2 /\ ∀ x∈(ql g).1,gls x
 | 0,g,h,hg=>by
  rw [zr (by omega)]
  exact ⟨hg,λx hx=>by cases hx⟩
 | n+1,g,h,hg=>by
  by_cases c:1024<=g.length
  ·rw [Cw c]
   obtain ⟨a,b⟩:=Ek n (g.drop 1024) (by rw [List.length_drop]; omega) (KV hg _)
   refine ⟨a,λx hx=> ?_⟩
   rcases List.mem_cons.1 hx with rfl | hx
   ·exact KU hg _
   ·exact b x hx
  ·rw [zr c]
   exact ⟨hg,λx hx=>by cases hx⟩
theorem PN {z:List (List aJ)×List aJ} (h:ZG z) {r:aE} (hr:cR r.cells):ZG (tX z r):=by
 obtain ⟨a,b⟩:=Ek _ (z.2++qN r) (Nat.le_refl _) (Nu h.b (KW hr))
 unfold tX
 dsimp only
 split
 ·exact ⟨a,λx hx=>(List.mem_append.1 hx).elim (h.l x) (b x)⟩
 ·refine ⟨Hg,λx hx=> ?_⟩
  rcases List.mem_append.1 hx with hx | hx
  ·exact (List.mem_append.1 hx).elim (h.l x) (b x)
  ·rw [List.mem_singleton.1 hx]; exact a
theorem CG: ∀ (rows:List aE) {z:List (List aJ)×List aJ},ZG z->gR2 rows->ZG (rows.foldl tX z)
 | [],_,h,_=>h
 | r::rows,z,h,hr=>CG rows (PN h (hr r List.mem_cons_self)) λq hq=>hr q (List.mem_cons_of_mem _ hq)
theorem El {W:Nat}: ∀ (l:List bA) {y:aB×(List (List aJ)×List aJ)},SC y.1->ZG y.2->vq l->SC (l.foldl (mA W) y).1/\ZG (l.foldl (mA W) y).2
 | [],_,h1,h2,_=>⟨h1,h2⟩
 | a::l,y,h1,h2,h3=>by
  obtain ⟨k1,k2⟩:=QY (W:=W) h1 (h3 a List.mem_cons_self)
  exact El l (y:=mA W y a) k1 (CG _ h2 k2) λq hq=>h3 q (List.mem_cons_of_mem _ hq)
structure MG (m:bD) (z:List (List aJ)×List aJ):Prop where
 sc:SC m.aW
 zg:ZG z
 d2:D2 m.parser.cP
theorem PO (w h:Int):MG (Nr w h) ([],[]):=⟨He w h,⟨Hg,λx hx=>by cases hx⟩,D20⟩
theorem Om {W k N:Nat} {z:List (List aJ)×List aJ} {m:bD} {x:mr} (h:MX W k N z m x):PI m.parser/\m.parser.out=[]:=by
 rw [h.pa]
 have:=(vh (sbs x.all) Oj (mR x.all)).1
 exact ⟨⟨this.di,this.gr,this.nu,this.n0,this.n1,this.tx⟩,rfl⟩
theorem KX {W k N:Nat} {z:List (List aJ)×List aJ} {m:bD} {x:mr} (h:MX W k N z m x) (g:MG m z) (t:ByteArray) (k':Int) (b':cE) :
  MG ⟨b',clr (prun m.parser (sbs t)),((prun m.parser (sbs t)).out.foldl (mA W) (m.aW,z)).1,k'⟩ ((prun m.parser (sbs t)).out.foldl (mA W) (m.aW,z)).2:=by
 obtain ⟨hp,ho⟩:=Om h
 obtain ⟨p1,p2⟩:=G9 (sbs t) hp g.d2 (by rw [ho]; exact λx hx=>by cases hx) (mR t)
 obtain ⟨s1,s2⟩:=El (W:=W) _ (y:=(m.aW,z)) g.sc g.zg p1
 exact ⟨s1,s2,p2⟩
theorem Nv {m:bD} {z:List (List aJ)×List aJ} (g:MG m z) (w h:Int) (k':Int) (b':cE):MG ⟨b',m.parser,rzS m.aW w h,k'⟩ ((rzF m.aW h).foldl tX z):=by
 obtain ⟨s1,s2⟩:=QZ g.sc w h
 exact ⟨s1,CG _ g.zg s2,g.d2⟩
theorem FZ {W k N:Nat} {z:List (List aJ)×List aJ} {m:bD} {x:mr} (h:MX W k N z m x) (hk:k<=50000000) (hN:N<=1000000) {t:ByteArray} (ht:t.size<=1000) (w h':Int) :
  eZ m ⟨0,t,w,h'⟩=some (0,⟨fS ((prun m.parser (sbs t)).out.foldl (mA W) (m.aW,z)).2,clr (prun m.parser (sbs t)),((prun m.parser (sbs t)).out.foldl (mA W) (m.aW,z)).1,m.k+1⟩):=by
 have hp:PI m.parser:=(Om h).1
 have hcl:clr m.parser=m.parser:=by rw [h.pa]; rfl
 have e1:=Nk (m:=m) h.si h.zi hp ht hk
 rw [hcl] at e1
 have hk0:=h.k0
 have hkN:=h.kN
 unfold eZ
 rw [yw]
 have hck:AF 0 t.size w h'=0:=by unfold AF; rw [if_pos rfl,if_neg (by omega)]
 dsimp only
 rw [hck,Option.bind_some,show ((0:Int) != 0)=false from rfl,show ((0:Int) == 1)=false from rfl,cond_false,cond_false,show nI m t=some t from rfl,Option.bind_some,h.bk,e1]
 simp only [Option.bind_some]
 rw [w64 (by omega) (by omega)]
def sOf (m:bD) (z:List (List aJ)×List aJ):aH:=⟨m.k+1,m.aW.g.w,(m.aW.g.l.length:Int),m.aW.spot.x,m.aW.spot.y,m.aW.title,m.aW.g.l,(z.1.length:Int),tB z.1,z.2⟩
theorem Nw {l:List aJ} (h:gls l): ∀ g∈l,rok g.rune:=λg hg=>by
 obtain ⟨⟨a,b⟩,_⟩:=h g hg
 exact ⟨by omega,by omega⟩
section
variable {W k N : Nat} {z : List (List aJ) × List aJ} {m : bD} {x : mr}
theorem Nx (l:List (List aJ)) (g:List aJ) (h:l.length<=1000000000):lS (fS (l,g)) (l.length:Int)=some (tB l):=by
 unfold lS fS
 dsimp only
 rw [dP,gQ,show max 0 (min (l.length:Int) (l.length:Int))=((l.length:Nat):Int) by omega,GU _ _ (Nat.le_refl _),List.take_length]
 rfl
theorem KY (h:MX W k N z m x) (hk:k<=100000000) (hN:N<=1000000):fE m=some (sOf m z,m):=by
 have hk0:=h.k0
 have hkN:=h.kN
 have hzn:=h.zi.n
 have hzb:=h.zi.b
 unfold fE uY
 rw [w64 (by omega) (by omega)]
 rw [show (aB.mk m.aW.g m.aW.spot m.aW.saved m.aW.waiting m.aW.top m.aW.aL m.aW.aZ m.aW.title)=m.aW from rfl,Ku h.si.toSJ,aA]
 dsimp only
 have hr:=zh m.aW.g.w m.aW.g.l (by have:=h.si.gi.l2; omega) h.si.gi.len
 rw [show (aY.mk m.aW.g.w m.aW.g.l)=m.aW.g from rfl] at hr
 rw [show lG (aB.mk m.aW.g m.aW.spot m.aW.saved m.aW.waiting m.aW.top m.aW.aL m.aW.aZ m.aW.title)=some m.aW.title from rfl,aA,hr,aA]
 rw [h.bk,show ∀ b,jZ b=some (b.l.length:Int) from λb=>rfl,aA,aA]
 dsimp only
 have hc:=Nx z.1 z.2 (by omega)
 rw [show (fS z).l=z.1 from rfl,show fS (z.1,z.2)=fS z from rfl] at *
 rw [hc,aA]
 have hb:lT (fS z)=some z.2:=by
  unfold lT
  rw [yk _ (by show z.2.length<=_; omega)]
  rfl
 rw [hb,aA,show ∀ g,dX g=some (g.w,(g.l.length:Int)) from λg=>rfl,aA,show ∀ s,kL s=some (s.spot.x,s.spot.y) from λs=>rfl,aA,aA,<- h.bk]
 rfl
theorem PQ (h:MX W k N z m x) (g:MG m z):SW (sOf m z):=by
 have h1:=h.si.gi.w2
 have h2:=h.si.gi.l2
 have h3:=h.si.gw
 have h4:=h.zi.b
 have h5:=g.sc.t
 refine ⟨?_,?_,Nw g.zg.b,λr hr=> ?_,h2,by show z.2.length<=2000; omega,by show m.aW.title.size<=1000; omega⟩
 ·show -9223372036854775808<=m.aW.g.w/\m.aW.g.w<=9223372036854775807
  omega
 ·show -9223372036854775808<=(m.aW.g.l.length:Int)/\(m.aW.g.l.length:Int)<=9223372036854775807
  omega
 ·have hg:=h.si.gi.rs r hr
  exact ⟨hg.2,by have:=hg.1; omega⟩
theorem Ny (h:MX W k N z m x) (g:MG m z) (hk:k<=100000000) (hN:N<=1000000):pA (sOf m z)=true:=by
 have h1:=h.si.gi.w1
 have h1':=h.si.gi.w2
 have h2:=h.si.gi.l1
 have h2':=h.si.gi.l2
 have h3:=h.si.gw
 have h4:=h.zi.b
 have h5:=g.sc.t
 have h6:=BD z.1
 have h7:=h.zi.n
 have hk0:=h.k0
 have hkN:=h.kN
 have a1:=h.si.x0
 have a2:=h.si.x1
 have a3:=h.si.y0
 have a4:=h.si.y1
 have hch:chM=281474976710597:=rfl
 unfold pA
 rw [Bool.or_eq_true]
 right
 have e1:wx (sOf m z)=true:=by
  unfold wx wi sOf
  simp only [Bool.and_eq_true,decide_eq_true_eq,beq_iff_eq]
  repeat' apply And.intro
  all_goals first | trivial | omega
 have e2:((sOf m z).begun.all λg=>okG g.rune g.aM)=true:=by
  rw [List.all_eq_true]
  intro q hq
  obtain ⟨⟨b1,b2⟩,b3,b4⟩:=g.zg.b q hq
  simp [okG,b1,b2,b3,b4]
 have e3:(sOf m z).rows.all (uB (sOf m z).w)=true:=by
  rw [List.all_eq_true]
  intro r hr
  have hg:=h.si.gi.rs r hr
  unfold uB
  rw [Bool.and_eq_true]
  refine ⟨?_,?_⟩
  ·show ((r.cells.length:Int) == m.aW.g.w)=true
   rw [beq_iff_eq]
   have:=hg.1
   omega
  ·rw [List.all_eq_true]
   exact λc hc=>PD (g.sc.g r hr c hc)
 rw [e1,e2,e3]
 rfl
end
section
variable {W k N : Nat} {z : List (List aJ) × List aJ} {m : bD} {x : mr}
theorem MX.mono (h:MX W k N z m x) {k' N':Nat} (h1:k<=k') (h2:N<=N'):MX W k' N' z m x :=
 ⟨h.si,⟨by have:=h.zi.n; omega,h.zi.b,h.zi.g,h.zi.ls⟩,h.bk,h.xs,h.xb,h.pa,h.ac,h.ke,h.k0,by have:=h.kN; omega,by have:=h.al; omega⟩
end
theorem Nz {n:Nat} {a b:Int} (h:(n:Int) < a/\(n:Int) < b):((bif (decide ((n:Int) < a)) then some (decide ((n:Int) < b)) else some false):Option Bool)=some true:=by
 rw [decide_eq_true h.1,decide_eq_true h.2]; rfl
theorem NA {n:Nat} {a b:Int} (h: ¬ ((n:Int) < a/\(n:Int) < b)):((bif (decide ((n:Int) < a)) then some (decide ((n:Int) < b)) else some false):Option Bool)=some false:=by
 by_cases c:(n:Int) < a
 ·rw [decide_eq_true c,decide_eq_false (by omega: ¬ (n:Int) < b)]; rfl
 ·rw [decide_eq_false c]; rfl
theorem PR {a:Int}:(a != a)=false:=by simp
structure HN (n:Nat) (s:aB):Prop where
 e:s.g.l.length=n
 l:1<=n
 u:n<=1000
variable {W n : Nat} {s : aB}
theorem dV {p:Prop} [Decidable p] {a b:aB} (ha:HN n a) (hb:HN n b):HN n (if p then a else b):=by split <;> assumption
theorem HN.g1 (h:HN n s):1<=s.g.l.length:=by rw [h.e]; exact h.l
theorem qZ (h:HN n s) (x y:Int):HN n (mvS s x y):=⟨h.e,h.l,h.u⟩
theorem y3 (h:HN n s):HN n (nwS s):=⟨h.e,h.l,h.u⟩
theorem Ix (h:HN n s) (x:Int):HN n (xS s x):=⟨h.e,h.l,h.u⟩
theorem Hh (h:HN n s) (y:Int) (r:aE):HN n (seS W s y r):=⟨by simp only [seS,mf]; exact h.e,h.l,h.u⟩
theorem Oo (h:HN n s) (k:Int):HN n (upS W s k):=⟨by simp only [upS,vd _ _ _ _ _ _ h.g1]; exact h.e,h.l,h.u⟩
theorem PT (h:HN n s) (t b k:Int):HN n (upT W s t b k):=⟨by simp only [upT,vd _ _ _ _ _ _ h.g1]; exact h.e,h.l,h.u⟩
theorem KZ (h:HN n s) (t b k:Int):HN n (dnS W s t b k):=⟨by simp only [dnS,yn _ _ _ _ _ _ h.g1]; exact h.e,h.l,h.u⟩
theorem Em (h:HN n s):HN n (liS W s):=dV (Oo (y3 h) 1) (qZ (y3 h) _ _)
theorem RK (h:HN n s):HN n (aS W s):=dV (Em (Ix (Hh h _ _) 0)) h
theorem RL (h:HN n s) (k:Int):HN n (bS W s k):=dV (dV (Em (Ix (Hh h _ _) 0)) (Ix h _)) h
theorem Q1 (h:HN n s) (r:Int):HN n (prS W s r):=by
 have b1:=RL (W:=W) (RK (W:=W) h) (ofS r)
 exact dV h ⟨by simp only [cS,mf]; exact b1.e,h.l,h.u⟩
theorem Q2 (h:HN n s) (b:Int):HN n (ctS W s b):=dV (qZ h _ _) (dV (qZ h _ _) (dV (Em h) (dV (qZ h _ _) h)))
theorem Q3 (h:HN n s):HN n (baS W s):=dV (KZ (y3 h) _ _ _) (qZ (y3 h) _ _)
theorem NB (w:Int) (h:HN n s):HN n (Ba w s.g.l.length):=⟨by
 show (List.replicate (szN (s.g.l.length:Int)) (jQ (szN w) 0)).length=n
 rw [List.length_replicate,h.e]
 exact JA n h.l h.u,h.l,h.u⟩
theorem Q4 (h:HN n s) (b:Int):HN n (esS W s b) :=
 dV (Em (Ix h 0)) (dV (Em h) (dV (Q3 h) (dV ⟨h.e,h.l,h.u⟩ (dV (qZ (s:=e8S s) ⟨h.e,h.l,h.u⟩ _ _) (dV (NB _ h) h)))))
theorem Oq (h:HN n s) (y a b:Int):HN n (erS W s y a b):=Hh h y _
theorem Q5 (h:HN n s) (k:Int):HN n (paS W s k):=dV h (y3 (Oq h _ _ _))
theorem K0 (h:HN n s) (i:Int): ∀ k,HN n (wpS W s i k)
 | 0=>h
 | k+1=>by
  unfold wpS
  split
  ·exact Oq (K0 h i k) _ _ _
  ·exact K0 h i k
theorem Hi (h:HN n s) (k:Int):HN n (clS s k):=qZ h _ _
theorem K1 (h:HN n s) (k:Int) (all:Bool):HN n (D3 W s k all):=Q5 (dV (K0 h _ _) h) k
theorem Q6 (h:HN n s) (b k:Int):HN n (ceS W s b k):=y3 (Hh h _ _)
theorem Q7 (h:HN n s) (b k:Int):HN n (shS W s b k):=dV h (dV (qZ (KZ h _ _ _) _ _) (qZ (PT h _ _ _) _ _))
theorem Q8 (h:HN n s) (l:List Int):HN n (reS s l):=dV (qZ (s:=rnS s (rgT s l) (rgU s l)) ⟨h.e,h.l,h.u⟩ _ _) h
theorem Q9 (h:HN n s) (b:Int) (l:List Int):HN n (orS W s b l):=by
 unfold orS
 refine dV (Hi h _) (dV (Ix (Hi h _) 0) (dV (Hi h _) (dV (Ix (Hi h _) 0) (dV (qZ h _ _) (dV (qZ h _ _) (dV (qZ h _ _) (dV (qZ h _ _) (dV (qZ h _ _) (dV (K1 h _ _) (dV (K1 h _ _) (dV (Q6 h _ _) (dV (Q7 h _ _) (dV (Oo (y3 h) _) (dV (KZ (y3 h) _ _ _) (dV ⟨h.e,h.l,h.u⟩ (dV (Q8 h l) h))))))))))))))))
theorem Ra (h:HN n s) (a:bA):HN n (acS W s a) :=
 dV (Q1 h _) (dV (Q2 h _) (dV (Q4 h _) (dV (dV (dV ⟨h.e,h.l,h.u⟩ h) (Q9 h _ _)) (dV ⟨h.e,h.l,h.u⟩ h))))
theorem En: ∀ (l:List bA) {y:aB×(List (List aJ)×List aJ)},HN n y.1->HN n (l.foldl (mA W) y).1
 | [],_,h=>h
 | a::l,y,h=>En l (y:=mA W y a) (Ra h a)
end Go.Tw.X
namespace Go.Tw.X
open Go Go.Tw
abbrev Zt:=List (List aJ)×List aJ
theorem xz (s:aH) (y:Nat) (h:y < s.rows.length):jA s (y:Int)=some (s.rows[y],true):=by
 unfold jA
 rw [decide_eq_false (show ¬ ((y:Int) < 0) by omega),cond_false,aA,decide_eq_false (show ¬ ((y:Int)>=(s.rows.length:Int)) by omega),cond_false,dB _ _ h,aA]
theorem yx (s:aH) (y:Nat) (h: ¬ y < s.rows.length):jA s (y:Int)=some (Ck,false):=by
 unfold jA
 rw [decide_eq_false (show ¬ ((y:Int) < 0) by omega),cond_false,aA,decide_eq_true (show ((y:Int)>=(s.rows.length:Int)) by omega),cond_true]
 rfl
theorem xA {σ:Type} (Y:σ->(Int×aE)->Option (σ×Bool)) (S:Nat->σ) (a b:aH) (hl:b.rows.length<=1000000) (hr: ∀ r∈a.rows,r.cells.length<=1000000)
  (h: ∀ i (hi:i < b.rows.length),if a.rows[i]?=some b.rows[i] then S (i+1)=S i else Y (S i) ((i:Int),b.rows[i])=some (S (i+1),true)) :
  iF Y (S 0) b a=some (S b.rows.length):=by
 unfold iF
 refine fM (S:=λi=>((i:Int),S i)) (n:=b.rows.length) (r:= .inl (S b.rows.length)) rfl ?_ ?_ rfl
 ·intro i hi
  dsimp only
  have hi2:=h i hi
  rw [decide_eq_true (show (i:Int) < (b.rows.length:Int) by omega),cond_true,dB _ _ hi,aA]
  by_cases ha:i < a.rows.length
  ·rw [xz a i ha,aA]
   dsimp only
   rw [cond_true,zj _ _ (hr _ (List.getElem_mem ha)),aA,aA]
   have e1:a.rows[i]?=some a.rows[i]:=List.getElem?_eq_getElem ha
   rw [e1] at hi2
   by_cases he:a.rows[i]=b.rows[i]
   ·rw [if_pos (by rw [he])] at hi2
    rw [decide_eq_true he,cond_true,aA,w64 (by omega) (by omega),hi2]
    rfl
   ·rw [if_neg (λhh=>he (Option.some.inj hh))] at hi2
    rw [decide_eq_false he,cond_false,hi2,aA]
    dsimp only
    rw [Bool.not_true,cond_false,aA,w64 (by omega) (by omega)]
    rfl
  ·rw [yx a i ha,aA]
   dsimp only
   rw [cond_false,aA,cond_false]
   have e1:a.rows[i]?=none:=List.getElem?_eq_none (by omega)
   rw [e1,if_neg (by simp)] at hi2
   rw [hi2,aA]
   dsimp only
   rw [Bool.not_true,cond_false,aA,w64 (by omega) (by omega)]
   rfl
 ·dsimp only
  rw [decide_eq_false (by omega),cond_false]
def chN (a b:List aE):Nat->List Nat
 | 0=>[]
 | i+1=>if a[i]?=b[i]? then chN a b i else chN a b i++[i]
theorem re (a b:List aE) (i:Nat):chN a b (i+1)=if a[i]?=b[i]? then chN a b i else chN a b i++[i]:=rfl
def ints (l:List Nat):List Int:=l.map λy:Nat=>(y:Int)
theorem Ep (l:List Nat):(ints l).length=l.length:=List.length_map ..
theorem Iy (l:List Nat) (i:Nat):ints (l++[i])=ints l++[(i:Int)]:=by simp [ints]
def chg (a b:List aE):List Nat:=chN a b b.length
theorem CH (a b:List aE): ∀ i,(chN a b i).length<=i
 | 0=>Nat.le_refl _
 | i+1=>by
  have:=CH a b i
  unfold chN
  split
  ·omega
  ·simp; omega
theorem CI (a b:List aE): ∀ i,∀ y∈chN a b i,y < i
 | 0,y,h=>by cases h
 | i+1,y,h=>by
  unfold chN at h
  split at h
  ·exact Nat.lt_succ_of_lt (CI a b i y h)
  ·rcases List.mem_append.1 h with h | h
   ·exact Nat.lt_succ_of_lt (CI a b i y h)
   ·rw [List.mem_singleton.1 h]; exact Nat.lt_succ_self _
theorem F0 (a b:aH) (hl:b.rows.length<=1000) (hr: ∀ r∈a.rows,r.cells.length<=1000000):nr a b=some (ints (chg a.rows b.rows)):=by
 unfold nr
 have e0:lN a b=some (b,a):=rfl
 rw [e0,aA]
 have h:=xA (σ:=List Int) (λ(s44:List Int) (x15:Int×aE)=>(Option.bind (chk (eH s44.length [x15.1].length 8)) λ_=>some ((s44++[x15.1]),true))) (λi=>ints (chN a.rows b.rows i)) a b (by omega) hr (by
  intro i hi
  have e1:b.rows[i]?=some b.rows[i]:=List.getElem?_eq_getElem hi
  split
  ·rename_i he
   rw [re,if_pos (he.trans e1.symm)]
  ·rename_i he
   have:=CH a.rows b.rows i
   rw [bL (by rw [Ep]; simp; omega),aA]
   rw [re,if_neg (λhh=>he (Eq.trans hh e1)),Iy])
 show Option.bind (iF _ (ints (chN a.rows b.rows 0)) b a) _=_
 rw [h,aA]
 rfl
def rH (s:aH):Bool:=kO s || !pA s
theorem BN {s:aH}:(n9 s=noS)↔rH s=true:=by
 unfold n9 rH
 constructor
 ·intro h
  split at h
  ·rename_i hb
   rcases hb with hb | hb <;> simp [hb]
  ·exact absurd h (JX s)
 ·intro h
  rw [if_pos]
  simpa using h
theorem Es (s:aH) (h:SW s) (hp:(s.rows.flatMap gT).length<=1000000):mb s=some (!rH s):=by
 unfold mb
 rw [GK s h hp,aA]
 have e:((n9 s).toList == (ByteArray.mk #[]).toList)=decide (n9 s=noS):=w9 _ noS
 rw [e]
 cases hb:rH s with
 | true=>rw [decide_eq_true (BN.2 hb)]
 | false=>rw [decide_eq_false (λhh=>by rw [BN.1 hh] at hb; cases hb)]
def pch (b:List aE) (l:List Nat):List Int:=l.flatMap λy:Nat=>dF (y:Int)++gT (b[y]?.getD Ck)
def uF (a b:aH):List Int:=[((uC (n9 a):Nat):Int),b.k,b.w,b.h,b.x,b.y].flatMap dF++(dF b.title.size++sbs b.title)++[b.len,b.chain].flatMap dF++mZ b.begun++dF ((chg a.rows b.rows).length:Int)
def tE (a b:aH):List Int:=uF a b++pch b.rows (chg a.rows b.rows)
def Iz (a b:aH):Bool:= !pA a || rH b
def m4 (a b:aH):ByteArray:=if Iz a b then noS else gX (tE a b)
theorem Eu (b:List aE) (l:List Nat) (i:Nat) (hi:i < b.length):pch b (l++[i])=pch b l++(dF (i:Int)++gT b[i]):=by
 unfold pch
 rw [List.flatMap_append,List.flatMap_singleton,List.getElem?_eq_getElem hi]
 rfl
theorem CJ (a b:List aE): ∀ i,i<=b.length->(pch b (chN a b i)).length<=9*i+((b.take i).flatMap gT).length
 | 0,_=>by simp [chN,pch]
 | i+1,hi=>by
  have ih:=CJ a b i (by omega)
  have h9:=dO (i:Int)
  rw [List.take_succ_eq_append_getElem (show i < b.length by omega),List.flatMap_append,List.flatMap_singleton,List.length_append,re]
  split
  ·omega
  ·rw [Eu _ _ _ (by omega),List.length_append,List.length_append]
   omega
theorem K4 (a b:List aE) (hb:(b.flatMap gT).length<=12000) (hl:b.length<=1000) (i:Nat) (hi:i<=b.length):(pch b (chN a b i)).length<=21000:=by
 have h1:=CJ a b i hi
 have h2:=Cq b i
 omega
theorem sL (L:List Int):(L.flatMap dF).length<=9*L.length:=by
 induction L with
 | nil=>simp
 | cons a M ih =>
  rw [List.flatMap_cons,List.length_append,List.length_cons]
  have:=dO a
  omega
theorem BO (l:List aJ):(mZ l).length<=9+18*l.length:=by
 unfold mZ
 have h1:=dO (l.length:Int)
 have h2:=u7 l
 rw [List.length_append]
 omega
theorem BP (a b:aH) (h:SW b):(uF a b).length<=40000:=by
 unfold uF
 have h1:=sL [((uC (n9 a):Nat):Int),b.k,b.w,b.h,b.x,b.y]
 have h2:=sL [b.len,b.chain]
 have h3:=dO (b.title.size:Int)
 have h4:=dO ((chg a.rows b.rows).length:Int)
 have h5:=BO b.begun
 have h6:=h.bl
 have h7:=h.tl
 have h8:=bB b.title
 simp only [List.length_append,List.length_cons,List.length_nil] at h1 h2 ⊢
 omega
theorem Hj (l:List aJ):BB (mZ l):=fR (lE _) (n7 λg _=>My g)
theorem K5 (b:List aE) (l:List Nat):BB (pch b l):=n7 λy _=>fR (lE _) (Ct _)
theorem diff_eq (a b:aH) (ha:SW a) (hb:SW b) (pa:(a.rows.flatMap gT).length<=12000) (pb:(b.rows.flatMap gT).length<=12000):oZ a b=some (m4 a b):=by
 unfold oZ m4
 have hc:((Option.bind (eR a) λc=>(bif (c != 0) then some true else (Option.bind (mb b) λd=>some (!d)))):Option Bool)=some (Iz a b):=by
  rw [xd a ha,aA,Es b hb (by omega),aA]
  unfold Iz
  cases pA a <;> cases rH b <;> rfl
 rw [hc,aA]
 cases hd:Iz a b with
 | true=>rw [cond_true,if_pos rfl]; rfl
 | false =>
  rw [cond_false,if_neg (by simp),GR a ha pa,aA]
  have har: ∀ r∈a.rows,r.cells.length<=1000000:=λr hr=>by have:=(ha.ro r hr).2; omega
  have hrl:=hb.rl
  have htl:=hb.tl
  have hbl:=hb.bl
  have h1:=sL [((uC (n9 a):Nat):Int),b.k,b.w,b.h,b.x,b.y]
  have h2:=sL [b.len,b.chain]
  have h3:=dO (b.title.size:Int)
  have h5:=BO b.begun
  have h8:=bB b.title
  have hdl:=BP a b hb
  simp only [List.length_cons,List.length_nil] at h1 h2
  show Option.bind (cY ⟨[]⟩ _) _=_
  rw [ph _ _ (by simp),aA,List.nil_append,DL _ _ (by omega),aA,ph _ _ (by simp only [List.length_append,List.length_cons,List.length_nil]; omega),aA,An _ hbl hb.gl,aA,xe _ _ (by rw [nD]; simp only [List.length_append]; omega),aA,p8 _ (Hj _),F0 a b hrl har,aA,ph _ _ (by simp only [List.length_append,List.length_cons,List.length_nil]; omega),aA]
  have e0:lN a b=some (b,a):=rfl
  rw [e0,aA]
  have hh:([((uC (n9 a):Nat):Int),b.k,b.w,b.h,b.x,b.y].flatMap dF++(dF b.title.size++sbs b.title)++[b.len,b.chain].flatMap dF++mZ b.begun++[((ints (chg a.rows b.rows)).length:Int)].flatMap dF)=uF a b:=by
   unfold uF
   rw [Ep,List.flatMap_singleton]
  rw [hh]
  have h:=xA (σ:=cF) (λ(s376:cF) (x278:Int×aE)=>(Option.bind (cY s376 [x278.1]) λe=>(Option.bind (lB x278.2) λf=>(Option.bind (gU e [f]) λg=>some (g,true))))) (λi=>⟨uF a b++pch b.rows (chN a.rows b.rows i)⟩) a b (by omega) har (by
   intro i hi
   have e1:b.rows[i]?=some b.rows[i]:=List.getElem?_eq_getElem hi
   split
   ·rename_i he
    rw [re,if_pos (he.trans e1.symm)]
   ·rename_i he
    have hp1:=K4 a.rows b.rows pb hrl i (by omega)
    have hro:=hb.ro _ (List.getElem_mem hi)
    have h9:=dO (i:Int)
    have hl1:=Cq b.rows (i+1)
    rw [List.take_succ_eq_append_getElem hi,List.flatMap_append,List.flatMap_singleton,List.length_append] at hl1
    rw [ph _ _ (by simp only [List.length_append,List.length_cons,List.length_nil]; omega),aA,Am _ hro.2 hro.1,aA,List.flatMap_singleton,xe _ _ (by rw [nD]; simp only [List.length_append]; omega),aA,p8 _ (Ct _),re,if_neg (λhh=>he (Eq.trans hh e1)),Eu _ _ _ hi]
    simp only [List.append_assoc])
  have e1:(⟨uF a b++pch b.rows (chN a.rows b.rows 0)⟩:cF)=⟨uF a b⟩:=by
   show (⟨uF a b++[]⟩:cF)=_
   rw [List.append_nil]
  rw [e1] at h
  rw [h,aA]
  rfl
def zA (s:ByteArray):=rdS ⟨s,0⟩
def zB (s:ByteArray):=rdS (zA s).2
def zC (s:ByteArray):=dH (zB s).2 1000
def zD (s:ByteArray):=dH (zC s).2 1000
def zE (s:ByteArray):=rdS (zD s).2
def zF (s:ByteArray):=rdS (zE s).2
def zT (s:ByteArray):=wz (zF s).2
def zG (s:ByteArray):=rdS (zT s).2
def zH (s:ByteArray):=rdS (zG s).2
def zK (s:ByteArray):=bkS (zH s).2
def zN (s:ByteArray):=rdS (zK s).2
def zS (s:ByteArray):aH:=⟨(zB s).1,(zC s).1,(zD s).1,(zE s).1,(zF s).1,(zT s).1,[],(zG s).1,(zH s).1,(zK s).1⟩
def Ew (j:aT):aT:=if j.e=0 then AY else j
theorem K6 {j:aT} (h:VI j):VI (Ew j):=by
 unfold Ew
 split
 ·exact wo
 ·exact h
theorem NC (j:aT):(Ew j).e≠0:=by
 unfold Ew
 split
 ·decide
 ·assumption
def dlI (h:Int) (i:aT) (last:Int):aT:=if (rdS i).1<=last\/(rdS i).1>=h then Ew (rdS i).2 else (rdS i).2
def dlL:Nat->Int->Int->aT->Int->List (Int×aE)->List (Int×aE)×aT
 | 0,_,_,i,_,l=>(l,i)
 | k+1,w,h,i,last,l=>if i.e=0 then dlL k w h (oK (dlI h i last) w).2 (rdS i).1 (l++[((rdS i).1,(oK (dlI h i last) w).1)]) else (l,i)
def zR (s:ByteArray):=dlL (zN s).1.toNat (zC s).1 (zD s).1 (zN s).2 (-1) []
theorem tF {h:Int} {i:aT} {last:Int} (hV:VI i):VI (dlI h i last):=by
 unfold dlI
 split
 ·exact K6 (lK hV)
 ·exact lK hV
theorem K7 {h:Int} {i:aT} {last:Int} (he:(dlI h i last).e=0):last < (rdS i).1/\(rdS i).1 < h/\dlI h i last=(rdS i).2:=by
 unfold dlI at he ⊢
 split at he
 ·exact absurd he (NC _)
 ·rename_i hc
  rw [if_neg hc]
  exact ⟨by omega,by omega,rfl⟩
theorem ND (k:Nat) (w h:Int) (i:aT) (last:Int) (l:List (Int×aE)) (he:i.e≠0):dlL k w h i last l=(l,i):=by
 cases k with
 | zero=>rfl
 | succ k=>unfold dlL; rw [if_neg he]
theorem K8 {i:aT} {w:Int} (hV:VI i) (he:(oK i w).2.e=0):i.e=0:=by
 unfold oK at he
 have h1:(rrS (w.toNat+1) w (dH i 1).2 []).2.e=0:=by
  split at he
  ·exact he
  ·exact he
 have h2:=DE _ _ _ _ h1
 exact (oc h2 hV).1
theorem Ot: ∀ (k:Nat) (w h:Int) (i:aT) (last:Int) (l:List (Int×aE)),(dlL k w h i last l).2.e=0->i.e=0
 | 0,w,h,i,last,l,he=>he
 | k+1,w,h,i,last,l,he=>by
  unfold dlL at he
  split at he
  ·assumption
  ·exact he
theorem K9: ∀ (k:Nat) (w h:Int) (i:aT) (last:Int) (l:List (Int×aE)),VI i->VI (dlL k w h i last l).2
 | 0,w,h,i,last,l,hV=>hV
 | k+1,w,h,i,last,l,hV=>by
  unfold dlL
  split
  ·exact K9 k w h _ _ _ (zp (tF hV))
  ·exact hV
theorem CK {α:Type} (k:Int) (x:α): ∀ l:List (Int×α),(∀ p∈l,p.1≠k)->msl k x l=l++[(k,x)]
 | [],_=>rfl
 | (j,y)::l,h=>by
  have h1:k≠j:=λe=>h (j,y) (by simp) e.symm
  simp only [msl,if_neg h1,List.cons_append]
  rw [CK k x l λp hp=>h p (by simp [hp])]
theorem F1 (sum:Int) (x:aH) (hx:x.rows=[]) (hw:x.w<=1000) (f:bR×aT×Int×Int->Option ((bR×aT×Int×Int) ⊕ (aT×bR))) (hf:f=(λa=>(Option.bind ((bif (decide (a.2.2.2 > 0)) then (Option.bind (dQ a.2.1) λg=>some (g == 0)) else some false):Option Bool) λj=>(bif j then (Option.bind (bV a.2.1) λb=>(Option.bind ((bif (decide (b.1<=a.2.2.1)) then some true else some (decide (b.1>=a.1.to.h))):Option Bool) λm=>(Option.bind ((bif m then (Option.bind (bU b.2 1) λc=>some c) else some b.2):Option aT) λn=>(Option.bind (mO n a.1.to.w) λd=>(Option.bind (chk a.1.rows.isSome) λ_=>some (.inl ((bR.mk a.1.sum (aH.mk a.1.to.k a.1.to.w a.1.to.h a.1.to.x a.1.to.y a.1.to.title ([]:List aE) a.1.to.len a.1.to.chain a.1.to.begun) (L5 a.1.rows b.1 d.1)),d.2,b.1,(IntKind.i64.wrap (a.2.2.2 - 1))))))))) else some (.inr (a.2.1,(bR.mk a.1.sum (aH.mk a.1.to.k a.1.to.w a.1.to.h a.1.to.x a.1.to.y a.1.to.title ([]:List aE) a.1.to.len a.1.to.chain a.1.to.begun) a.1.rows)))))) ) :
  ∀ (k:Nat) (i:aT) (last:Int) (l l':List (Int×aE)),k<=4611686018427387904->VI i->(i.e=0->l'=l /\ ∀ p∈l,p.1<=last) ->
  ∃ m',iter f (⟨sum,x,some l'⟩,i,last,(k:Int))=some ((dlL k x.w x.h i last l).2,⟨sum,x,some m'⟩)/\((dlL k x.w x.h i last l).2.e=0->m'=(dlL k x.w x.h i last l).1):=by
 have hx2:aH.mk x.k x.w x.h x.x x.y x.title ([]:List aE) x.len x.chain x.begun=x:=by
  obtain ⟨⟩:=x
  dsimp only at hx
  subst hx
  rfl
 intro k
 induction k with
 | zero =>
  intro i last l l' hk hV hl
  refine ⟨l',cQ ?_,λhe=>(hl he).1⟩
  subst hf
  dsimp only
  rw [decide_eq_false (by omega),cond_false,aA,cond_false,hx2]
  rfl
 | succ k ih =>
  intro i last l l' hk hV hl
  by_cases he:i.e=0
  ·obtain ⟨rfl,hlast⟩:=hl he
   have hrr:=uA hV
   have hstep:f (⟨sum,x,some l'⟩,i,last,((k+1:Nat):Int))=some (.inl (⟨sum,x,some (msl (rdS i).1 (oK (dlI x.h i last) x.w).1 l')⟩,(oK (dlI x.h i last) x.w).2,(rdS i).1,(k:Int))):=by
    subst hf
    dsimp only
    have e1:dQ i=some i.e:=rfl
    have e2:(i.e == 0)=true:=by simpa using he
    have e3:((bif (decide ((rdS i).1<=last)) then some true else some (decide ((rdS i).1>=x.h))):Option Bool)=some (decide ((rdS i).1<=last\/(rdS i).1>=x.h)):=or2 _ _
    have e4:((bif (decide ((rdS i).1<=last\/(rdS i).1>=x.h)) then (Option.bind (bU (rdS i).2 1) λc=>some c) else some (rdS i).2):Option aT)=some (dlI x.h i last):=by
     unfold dlI
     by_cases hc:(rdS i).1<=last\/(rdS i).1>=x.h
     ·rw [decide_eq_true hc,cond_true,if_pos hc,yW (lK hV)]
      rfl
     ·rw [decide_eq_false hc,cond_false,if_neg hc]
    rw [decide_eq_true (by omega),cond_true,e1,aA,e2,aA,cond_true,pj _ hV,aA,e3,aA,e4,aA,Fz _ _ (tF hV) hw,aA,hx2,w64 (by omega) (by omega)]
    have e5:((k+1:Nat):Int) - 1=(k:Int):=by omega
    rw [e5]
    rfl
   have hnew:(oK (dlI x.h i last) x.w).2.e=0->msl (rdS i).1 (oK (dlI x.h i last) x.w).1 l'=l'++[((rdS i).1,(oK (dlI x.h i last) x.w).1)] /\ ∀ p∈l'++[((rdS i).1,(oK (dlI x.h i last) x.w).1)],p.1<=(rdS i).1:=by
    intro h0
    obtain ⟨h2,h3, -⟩:=K7 (K8 (tF hV) h0)
    refine ⟨CK _ _ _ λp hp e=> ?_,λp hp=> ?_⟩
    ·have:=hlast p hp
     omega
    ·rcases List.mem_append.1 hp with hp | hp
     ·have:=hlast p hp
      omega
     ·rw [List.mem_singleton.1 hp]
      exact Int.le_refl _
   obtain ⟨m',h1,h2⟩:=ih (oK (dlI x.h i last) x.w).2 (rdS i).1 (l'++[((rdS i).1,(oK (dlI x.h i last) x.w).1)]) (msl (rdS i).1 (oK (dlI x.h i last) x.w).1 l') (by omega) (zp (tF hV)) hnew
   have hd:dlL (k+1) x.w x.h i last l'=dlL k x.w x.h (oK (dlI x.h i last) x.w).2 (rdS i).1 (l'++[((rdS i).1,(oK (dlI x.h i last) x.w).1)]):=by
    conv=>lhs; unfold dlL
    rw [if_pos he]
   rw [hd]
   exact ⟨m',by rw [dN hstep,h1],h2⟩
  ·rw [ND _ _ _ _ _ _ he]
   refine ⟨l',cQ ?_,λh=>absurd h he⟩
   subst hf
   dsimp only
   have e1:dQ i=some i.e:=rfl
   have e2:(i.e == 0)=false:=by simpa using he
   rw [decide_eq_true (by omega),cond_true,e1,aA,e2,aA,cond_false,hx2]
theorem Ey {i:aT} (h:VI i):m7 i=some (dH i 1000):=size_eq h
theorem Ld (s:ByteArray) (h:s.size<=1000000): ∃ m',o3 s=some (⟨(zA s).1,zS s,some m'⟩,yg (zR s).2)/\((zR s).2.e=0->m'=(zR s).1):=by
 have v0:VI (⟨s,0⟩:aT):=⟨h,.inl rfl⟩
 have vA:VI (zA s).2:=lK v0
 have vB:VI (zB s).2:=lK vA
 have vC:VI (zC s).2:=iM _ vB
 have vD:VI (zD s).2:=iM _ vC
 have vE:VI (zE s).2:=lK vD
 have vF:VI (zF s).2:=lK vE
 have vT:VI (zT s).2:=Cr vF
 have vG:VI (zG s).2:=lK vT
 have vH:VI (zH s).2:=lK vG
 have vK:VI (zK s).2:=Cs vH
 have vN:VI (zN s).2:=lK vK
 have hn:=uA vK
 have hw:(zS s).w<=1000:=(nE (m:=1000) vB (by omega)).2
 obtain ⟨N,hN⟩:=Int.eq_ofNat_of_zero_le (show 0<=(zN s).1 from hn.1)
 have hN2:N<=4611686018427387904:=by have:(zN s).1<=4611686018427387904:=hn.2; omega
 obtain ⟨m',h1,h2⟩:=F1 (zA s).1 (zS s) rfl hw _ rfl N (zN s).2 (-1) [] [] hN2 vN (λ_=>⟨rfl,λp hp=>by cases hp⟩)
 have hR:zR s=dlL N (zS s).w (zS s).h (zN s).2 (-1) []:=by
  unfold zR
  rw [hN,Int.toNat_natCast]
  rfl
 rw [<- hR] at h1 h2
 refine ⟨m',?_,h2⟩
 unfold o3
 have e0:wV s=some ⟨s,0⟩:=rfl
 have e1:bV ⟨s,0⟩=some (zA s):=pj _ v0
 have e2:bV (zA s).2=some (zB s):=pj _ vA
 have e3:m7 (zB s).2=some (zC s):=Ey vB
 have e4:m7 (zC s).2=some (zD s):=Ey vC
 have e5:bV (zD s).2=some (zE s):=pj _ vD
 have e6:bV (zE s).2=some (zF s):=pj _ vE
 have e7:nz (zF s).2=some (zT s):=Mx _ vF
 have e8:bV (zT s).2=some (zG s):=pj _ vT
 have e9:bV (zG s).2=some (zH s):=pj _ vG
 have e10:oO (zH s).2=some (zK s):=JR _ vH
 have e11:bV (zK s).2=some (zN s):=pj _ vK
 rw [e0,aA,e1,aA,e2,aA,e3,aA,e4,aA,e5,aA,e6,aA,e7,aA,e8,aA,e9,aA,e10,aA,e11,aA]
 have hS:aH.mk (zB s).1 (zC s).1 (zD s).1 (zE s).1 (zF s).1 (zT s).1 ([]:List aE) (zG s).1 (zH s).1 (zK s).1=zS s:=rfl
 rw [hS,hN,h1,aA,O8,aA]
 rfl
def oe (A:List aE) (l:List (Int×aE)):Nat->Nat->List aE->Option (List aE)
 | 0,_,acc=>some acc
 | k+1,y,acc=>match mgl (y:Int) l,A[y]? with
  | some r,some q=>if q=r then none else oe A l k (y+1) (acc++[r])
  | some r,none=>oe A l k (y+1) (acc++[r])
  | none,some q=>oe A l k (y+1) (acc++[q])
  | none,none=>none
theorem F2 (sum:Int) (x a:aH) (l:List (Int×aE)) (H:Nat) (hH:H<=1000) (hh:x.h=(H:Int)) (ha: ∀ r∈a.rows,r.cells.length<=1000000) (f:bR×Int->Option ((bR×Int) ⊕ (bR ⊕ (Bool×bR)))) (hf:f=(λb=>(bif (decide (b.2 < x.h)) then (Option.bind (jA a b.2) λc=>(Option.bind ((Option.bind ((bif (tW b.1.rows b.2) then (bif c.2 then (Option.bind (jI c.1 (mgd b.1.rows b.2 (aE.mk ([]:List aG) false))) λe=>some e) else some false) else some false):Option Bool) λd=>(Option.bind ((bif d then some d else (bif (!(tW b.1.rows b.2)) then some (!c.2) else some false)):Option Bool) λg=>(bif g then (mH (m6 (some (false,(bR.mk b.1.sum (aH.mk b.1.to.k b.1.to.w b.1.to.h b.1.to.x b.1.to.y b.1.to.title b.1.to.rows b.1.to.len b.1.to.chain b.1.to.begun) b.1.rows))))) else (bif (!(tW b.1.rows b.2)) then some (.inl c.1) else some (.inl (mgd b.1.rows b.2 (aE.mk ([]:List aG) false))))))):Option (aE ⊕ ((bR×Int) ⊕ (bR ⊕ (Bool×bR))))) λ | .inl e1033=>(Option.bind (chk (eH b.1.to.rows.length [e1033].length 32)) λ_=>some (.inl ((bR.mk b.1.sum (aH.mk b.1.to.k b.1.to.w b.1.to.h b.1.to.x b.1.to.y b.1.to.title (b.1.to.rows++[e1033]) b.1.to.len b.1.to.chain b.1.to.begun) b.1.rows),(IntKind.i64.wrap (b.2+1))))) | .inr w=>some w)) else some (.inr (.inl (bR.mk b.1.sum (aH.mk b.1.to.k b.1.to.w b.1.to.h b.1.to.x b.1.to.y b.1.to.title b.1.to.rows b.1.to.len b.1.to.chain b.1.to.begun) b.1.rows))))) ) :
  ∀ (k y:Nat) (acc:List aE),y+k=H->acc.length=y ->
  (∀ out,oe a.rows l k y acc=some out->iter f (⟨sum,po x acc,some l⟩,(y:Int))=some (.inl ⟨sum,po x out,some l⟩))/\(oe a.rows l k y acc=none -> ∃ p',iter f (⟨sum,po x acc,some l⟩,(y:Int))=some (.inr (false,p'))):=by
 intro k
 induction k with
 | zero =>
  intro y acc hy hl
  refine ⟨λout ho=> ?_,λho=>by cases ho⟩
  injection ho with ho
  subst ho
  refine cQ ?_
  subst hf
  dsimp only
  rw [decide_eq_false (by omega),cond_false]
 | succ k ih =>
  intro y acc hy hl
  have hgo: ∀ r:aE,(∀ out,oe a.rows l k (y+1) (acc++[r])=some out->iter f (⟨sum,po x (acc++[r]),some l⟩,((y+1:Nat):Int))=some (.inl ⟨sum,po x out,some l⟩))/\(oe a.rows l k (y+1) (acc++[r])=none -> ∃ p',iter f (⟨sum,po x (acc++[r]),some l⟩,((y+1:Nat):Int))=some (.inr (false,p'))):=λr=>ih (y+1) (acc++[r]) (by omega) (by simp [hl])
  have hap:chk (eH acc.length 1 32)=some ():=bL (by omega)
  have hwr:IntKind.i64.wrap ((y:Int)+1)=((y+1:Nat):Int):=by rw [w64 (by omega) (by omega)]; rfl
  -- a step that goes on with a row
  have hon: ∀ r:aE,f (⟨sum,po x acc,some l⟩,(y:Int))=some (.inl (⟨sum,po x (acc++[r]),some l⟩,((y+1:Nat):Int)))->oe a.rows l (k+1) y acc=oe a.rows l k (y+1) (acc++[r])->(∀ out,oe a.rows l (k+1) y acc=some out->iter f (⟨sum,po x acc,some l⟩,(y:Int))=some (.inl ⟨sum,po x out,some l⟩))/\(oe a.rows l (k+1) y acc=none -> ∃ p',iter f (⟨sum,po x acc,some l⟩,(y:Int))=some (.inr (false,p'))):=by
   intro r h1 h2
   rw [h2,dN h1]
   exact hgo r
  have hoff:(∃ p',f (⟨sum,po x acc,some l⟩,(y:Int))=some (.inr (.inr (false,p'))))->oe a.rows l (k+1) y acc=none->(∀ out,oe a.rows l (k+1) y acc=some out->iter f (⟨sum,po x acc,some l⟩,(y:Int))=some (.inl ⟨sum,po x out,some l⟩))/\(oe a.rows l (k+1) y acc=none -> ∃ p',iter f (⟨sum,po x acc,some l⟩,(y:Int))=some (.inr (false,p'))):=by
   rintro ⟨p',h1⟩ h2
   rw [h2]
   exact ⟨λout ho=>(by cases ho),λ_=>⟨p',cQ h1⟩⟩
  have hd:decide ((y:Int) < x.h)=true:=decide_eq_true (by omega)
  cases hm:mgl (y:Int) l with
  | some r =>
   have m1:tW (some l) (y:Int)=true:=by simp [tW,hm]
   have m2: ∀ z,mgd (some l) (y:Int) z=r:=λz=>by simp [mgd,hm]
   by_cases hya:y < a.rows.length
   ·have e1:a.rows[y]?=some a.rows[y]:=List.getElem?_eq_getElem hya
    by_cases hq:a.rows[y]=r
    ·refine hoff ⟨⟨sum,po x acc,some l⟩,?_⟩ (by simp only [oe,hm,e1,if_pos hq])
     subst hf
     dsimp only
     rw [hd,cond_true,xz a y hya,aA]
     dsimp only
     rw [m1,m2,cond_true,cond_true,zj _ _ (ha _ (List.getElem_mem hya)),decide_eq_true hq]
     rfl
    ·refine hon r ?_ (by simp only [oe,hm,e1,if_neg hq])
     subst hf
     dsimp only
     rw [hd,cond_true,xz a y hya,aA]
     dsimp only
     rw [m1,m2,cond_true,cond_true,zj _ _ (ha _ (List.getElem_mem hya)),decide_eq_false hq]
     show Option.bind (chk (eH acc.length 1 32)) _=_
     rw [hap,aA,hwr]
     rfl
   ·have e1:a.rows[y]?=none:=List.getElem?_eq_none (by omega)
    refine hon r ?_ (by simp only [oe,hm,e1])
    subst hf
    dsimp only
    rw [hd,cond_true,yx a y hya,aA]
    dsimp only
    rw [m1,m2]
    show Option.bind (chk (eH acc.length 1 32)) _=_
    rw [hap,aA,hwr]
    rfl
  | none =>
   have m1:tW (some l) (y:Int)=false:=by simp [tW,hm]
   by_cases hya:y < a.rows.length
   ·have e1:a.rows[y]?=some a.rows[y]:=List.getElem?_eq_getElem hya
    refine hon a.rows[y] ?_ (by simp only [oe,hm,e1])
    subst hf
    dsimp only
    rw [hd,cond_true,xz a y hya,aA]
    dsimp only
    rw [m1]
    show Option.bind (chk (eH acc.length 1 32)) _=_
    rw [hap,aA,hwr]
    rfl
   ·have e1:a.rows[y]?=none:=List.getElem?_eq_none (by omega)
    refine hoff ⟨⟨sum,po x acc,some l⟩,?_⟩ (by simp only [oe,hm,e1])
    subst hf
    dsimp only
    rw [hd,cond_true,yx a y hya,aA]
    dsimp only
    rw [m1]
    rfl
def yy (a:aH) (s:ByteArray):aH×Int :=
 if pA a=false then (kR,1)
 else if yg (zR s).2≠0 then (kR,yg (zR s).2)
 else if (zA s).1≠((uC (n9 a):Nat):Int) then (kR,7)
 else match oe a.rows (zR s).1 (zD s).1.toNat 0 [] with
  | none=>(kR,1)
  | some l=>if rH (po (zS s) l) then (kR,1) else (po (zS s) l,0)
theorem IA {i:aT} (hV:VI i) (h:yg i=0):i.e=0/\i.s=noS:=by
 unfold yg at h
 split at h
 ·cases h
 ·rename_i h1
  exact ⟨h,Classical.not_not.1 h1⟩
theorem zVI {s:ByteArray} (h:s.size<=1000000):VI (zB s).2/\VI (zC s).2/\VI (zF s).2/\VI (zH s).2/\VI (zK s).2/\VI (zN s).2/\VI (zR s).2:=by
 have v0:VI (⟨s,0⟩:aT):=⟨h,.inl rfl⟩
 have vB:VI (zB s).2:=lK (lK v0)
 have vC:VI (zC s).2:=iM _ vB
 have vF:VI (zF s).2:=lK (lK (iM _ vC))
 have vH:VI (zH s).2:=lK (lK (Cr vF))
 have vK:VI (zK s).2:=Cs vH
 have vN:VI (zN s).2:=lK vK
 exact ⟨vB,vC,vF,vH,vK,vN,K9 _ _ _ _ _ _ vN⟩
def prl (l:List (Int×aE)):List Int:=l.flatMap λp=>dF p.1++gT p.2
theorem NF {i:aT} (hV:VI i) (h:(rdS i).2.e=0):i.e=0/\sbs i.s=dF (rdS i).1++sbs (rdS i).2.s:=by
 obtain ⟨h1,w,h2,h3,h4⟩:=DB h hV
 exact ⟨h1,by rw [h2,nS h3]; exact h4⟩
theorem BQ: ∀ (k:Nat) (w h:Int) (i:aT) (last:Int) (l:List (Int×aE)),VI i->(dlL k w h i last l).2.e=0 -> ∃ D,prl (dlL k w h i last l).1=prl l++D/\sbs i.s=D++sbs (dlL k w h i last l).2.s
 | 0,w,h,i,last,l,hV,he=>⟨[],by simp [dlL],by simp [dlL]⟩
 | k+1,w,h,i,last,l,hV,he=>by
  have hi:=Ot _ _ _ _ _ _ he
  unfold dlL at he ⊢
  rw [if_pos hi] at he ⊢
  have h0:=Ot _ _ _ _ _ _ he
  have h1:=K8 (tF hV) h0
  obtain ⟨h2,h3,h4⟩:=K7 h1
  obtain ⟨D,d1,d2⟩:=BQ k w h _ _ _ (zp (tF hV)) he
  have hr:(rdS i).2.e=0:=by rw [<- h4]; exact h1
  obtain ⟨-,h5⟩:=NF hV hr
  have h6:=FB (tF (h:=h) (last:=last) hV) h0
  refine ⟨dF (rdS i).1++gT (oK (dlI h i last) w).1++D,?_,?_⟩
  ·rw [d1]
   unfold prl
   rw [List.flatMap_append,List.flatMap_singleton]
   simp only [List.append_assoc]
  ·rw [h5,<- h4,h6,d2]
   simp only [List.append_assoc]
theorem PU {i:aT} {m:Nat} (h:SZ m i):(wz i).2.s.size<=m:=by
 by_cases he:(wz i).2.e=0
 ·obtain ⟨-,hw⟩:=O7 h.1 he
  have:=congrArg List.length hw
  rw [List.length_append,bB,bB] at this
  have:=h.2
  omega
 ·rcases (Cr h.1).2 with h1 | h1
  ·exact absurd h1 he
  ·rw [h1]; exact Nat.zero_le _
theorem Rb {i:aT} {m:Nat} (h:SZ m i):(bkS i).2.s.size<=m:=by
 by_cases he:(bkS i).2.e=0
 ·obtain ⟨-,hw⟩:=H0 h.1 he
  have:=congrArg List.length hw
  rw [List.length_append,bB,bB] at this
  have:=h.2
  omega
 ·rcases (Cs h.1).2 with h1 | h1
  ·exact absurd h1 he
  ·rw [h1]; exact Nat.zero_le _
theorem Ez: ∀ (k:Nat) (w h:Int) (i:aT) (last:Int) (l:List (Int×aE)),VI i->w<=1000->(∀ p∈l,okR p.2.cells/\p.2.cells.length<=1000) -> ∀ p∈(dlL k w h i last l).1,okR p.2.cells/\p.2.cells.length<=1000
 | 0,w,h,i,last,l,hV,hw,hl=>hl
 | k+1,w,h,i,last,l,hV,hw,hl=>by
  unfold dlL
  split
  ·refine Ez k w h _ _ _ (zp (tF hV)) hw ?_
   intro p hp
   rcases List.mem_append.1 hp with hp | hp
   ·exact hl p hp
   ·rw [List.mem_singleton.1 hp]
    exact Mu (tF hV) hw
  ·exact hl
theorem xB {α:Type} {k:Int} {x:α}: ∀ {l:List (Int×α)},mgl k l=some x->(k,x)∈l
 | [],h=>by cases h
 | (j,y)::l,h=>by
  simp only [mgl] at h
  split at h
  ·rename_i hk
   injection h with h
   subst h hk
   exact List.mem_cons_self ..
  ·exact List.mem_cons_of_mem _ (xB h)
theorem AG {A:List aE} {l:List (Int×aE)} (Q:aE->Prop) (hA: ∀ r∈A,Q r) (hl: ∀ p∈l,Q p.2): ∀ (k y:Nat) (acc out:List aE),oe A l k y acc=some out->(∀ r∈acc,Q r)->(∀ r∈out,Q r)/\out.length=acc.length+k
 | 0,y,acc,out,h,hacc=>by
  injection h with h
  subst h
  exact ⟨hacc,rfl⟩
 | k+1,y,acc,out,h,hacc=>by
  have go: ∀ r,Q r->oe A l k (y+1) (acc++[r])=some out->(∀ r∈out,Q r)/\out.length=acc.length+(k+1):=by
   intro r hr h2
   obtain ⟨h3,h4⟩:=AG Q hA hl k (y+1) (acc++[r]) out h2 (λq hq=>by
    rcases List.mem_append.1 hq with hq | hq
    ·exact hacc q hq
    ·rw [List.mem_singleton.1 hq]; exact hr)
   refine ⟨h3,h4.trans ?_⟩
   simp only [List.length_append,List.length_cons,List.length_nil]
   omega
  simp only [oe] at h
  split at h
  ·rename_i r q h1 h2
   split at h
   ·cases h
   ·exact go r (hl _ (xB h1)) h
  ·rename_i r h1 h2
   exact go r (hl _ (xB h1)) h
  ·rename_i q h1 h2
   exact go q (hA _ (List.mem_of_getElem? h2)) h
  ·cases h
def tot (y:Int):List (Int×aE)->Nat
 | []=>0
 | (j,z)::l=>(if y<=j then (gT z).length else 0)+tot y l
theorem AH (y:Int): ∀ l,tot (y+1) l<=tot y l
 | []=>Nat.le_refl _
 | (j,z)::l=>by
  have:=AH y l
  simp only [tot]
  by_cases h1:y+1<=j
  ·rw [if_pos h1,if_pos (by omega)]; omega
  ·rw [if_neg h1]; omega
theorem CL (y:Int) {r:aE}: ∀ l,mgl y l=some r->(gT r).length+tot (y+1) l<=tot y l
 | [],h=>by cases h
 | (j,z)::l,h=>by
  simp only [mgl] at h
  simp only [tot]
  split at h
  ·rename_i hk
   injection h with h
   subst h hk
   have:=AH y l
   rw [if_neg (by omega),if_pos (Int.le_refl _)]
   omega
  ·have:=CL y l h
   by_cases h1:y+1<=j
   ·rw [if_pos h1,if_pos (by omega)]; omega
   ·rw [if_neg h1]; omega
theorem Le (y:Int): ∀ l,tot y l<=(prl l).length
 | []=>Nat.le_refl _
 | (j,z)::l=>by
  have:=Le y l
  unfold prl at this ⊢
  simp only [tot,List.flatMap_cons,List.length_append]
  split <;> omega
theorem EA {A:List aE} {l:List (Int×aE)}: ∀ (k y:Nat) (acc out:List aE),oe A l k y acc=some out->(out.flatMap gT).length<=(acc.flatMap gT).length+tot (y:Int) l+((A.drop y).flatMap gT).length
 | 0,y,acc,out,h=>by
  injection h with h
  subst h
  omega
 | k+1,y,acc,out,h=>by
  have hn:=AH (y:Int) l
  have e1:((y+1:Nat):Int)=(y:Int)+1:=rfl
  have hd: ∀ q,A[y]?=some q->((A.drop y).flatMap gT).length=(gT q).length+((A.drop (y+1)).flatMap gT).length:=by
   intro q hq
   obtain ⟨h1,h2⟩:=List.getElem?_eq_some_iff.1 hq
   rw [List.drop_eq_getElem_cons h1,List.flatMap_cons,List.length_append,h2]
  have go: ∀ r,oe A l k (y+1) (acc++[r])=some out->(out.flatMap gT).length<=(acc.flatMap gT).length+(gT r).length+tot ((y:Int)+1) l+((A.drop (y+1)).flatMap gT).length:=by
   intro r h2
   have:=EA k (y+1) (acc++[r]) out h2
   rw [List.flatMap_append,List.flatMap_singleton,List.length_append,e1] at this
   exact this
  have hdd:((A.drop (y+1)).flatMap gT).length<=((A.drop y).flatMap gT).length:=by
   by_cases hy:y < A.length
   ·rw [hd _ (List.getElem?_eq_getElem hy)]; omega
   ·rw [List.drop_eq_nil_of_le (by omega:A.length<=y+1)]
    exact Nat.zero_le _
  simp only [oe] at h
  split at h
  ·rename_i r q h1 h2
   split at h
   ·cases h
   ·have:=go r h
    have:=CL (y:Int) l h1
    omega
  ·rename_i r h1 h2
   have:=go r h
   have:=CL (y:Int) l h1
   omega
  ·rename_i q h1 h2
   have:=go q h
   have:=hd q h2
   omega
  ·cases h
theorem PV {s:ByteArray} (h:s.size<=1000000) (he:(zR s).2.e=0):(prl (zR s).1).length<=s.size:=by
 obtain ⟨vB,vC,vF,vH,vK,vN,vR⟩:=zVI h
 obtain ⟨D,h1,h2⟩:=BQ _ _ _ _ _ _ vN he
 have hD:prl (zR s).1=D:=h1
 have h3:=congrArg List.length h2
 rw [List.length_append,bB,<- hD] at h3
 have v0:SZ s.size (⟨s,0⟩:aT):=⟨⟨h,.inl rfl⟩,Nat.le_refl _⟩
 have s1:SZ s.size (zF s).2:=yX (yX (JS _ (JS _ (yX (yX v0)))))
 have s2:SZ s.size (zT s).2:=⟨Cr s1.1,PU s1⟩
 have s3:SZ s.size (zH s).2:=yX (yX s2)
 have s4:SZ s.size (zK s).2:=⟨Cs s3.1,Rb s3⟩
 have s5:=(yX s4).2
 have:(zN s).2.s.size<=s.size:=s5
 omega
theorem EB {a:aH} {s:ByteArray} {l:List aE} (ha:SW a) (pa:(a.rows.flatMap gT).length<=12000) (h:s.size<=100000) (ht:(zT s).1.size<=1000) (he:(zR s).2.e=0) (hl:oe a.rows (zR s).1 (zD s).1.toNat 0 []=some l):SW (po (zS s) l)/\(l.flatMap gT).length<=200000:=by
 obtain ⟨vB,vC,vF,vH,vK,vN,vR⟩:=zVI (s:=s) (by omega)
 have b1:=nE (m:=1000) vB (by omega)
 have c1:=nE (m:=1000) vC (by omega)
 have hw1:0<=(zC s).1:=b1.1
 have hw2:(zC s).1<=1000:=b1.2
 have hh1:0<=(zD s).1:=c1.1
 have hh2:(zD s).1<=1000:=c1.2
 have bo:=O9 vH
 have hrows:=Ez (zN s).1.toNat (zC s).1 (zD s).1 (zN s).2 (-1) [] vN hw2 (λp hp=>by cases hp)
 obtain ⟨p1,p2⟩:=AG (λr=>okR r.cells/\r.cells.length<=1000) ha.ro hrows _ _ _ _ hl (λr hr=>by cases hr)
 have p3:=EA _ _ _ _ hl
 have p4:=Le ((0:Nat):Int) (zR s).1
 have p5:=PV (by omega) he
 have p6:((a.rows.drop 0).flatMap gT).length<=12000:=by simpa using pa
 refine ⟨⟨?_,?_,bo.1,p1,?_,Nat.le_trans bo.2 (by decide),ht⟩,?_⟩
 ·show _<=(zC s).1/\(zC s).1<=_
  omega
 ·show _<=(zD s).1/\(zD s).1<=_
  omega
 ·show l.length<=1000
  rw [p2]
  simp only [List.length_nil]
  omega
 ·simp only [List.flatMap_nil,List.length_nil] at p3
  omega
theorem Lf (a:aH) (s:ByteArray) (ha:SW a) (pa:(a.rows.flatMap gT).length<=12000) (h:s.size<=100000) (ht:(zT s).1.size<=1000) (he:(zR s).2.e=0) (sum:Int) :
  (∀ l,oe a.rows (zR s).1 (zD s).1.toNat 0 []=some l->fP ⟨sum,zS s,some (zR s).1⟩ a=some (!rH (po (zS s) l),⟨sum,po (zS s) l,some (zR s).1⟩))/\(oe a.rows (zR s).1 (zD s).1.toNat 0 []=none -> ∃ p',fP ⟨sum,zS s,some (zR s).1⟩ a=some (false,p')):=by
 obtain ⟨vB,vC,vF,vH,vK,vN,vR⟩:=zVI (s:=s) (by omega)
 have c1:=nE (m:=1000) vC (by omega)
 have hh1:0<=(zD s).1:=c1.1
 have hh2:(zD s).1<=1000:=c1.2
 have har: ∀ r∈a.rows,r.cells.length<=1000000:=λr hr=>by have:=(ha.ro r hr).2; omega
 obtain ⟨H,hH⟩:=Int.eq_ofNat_of_zero_le hh1
 obtain ⟨b1,b2⟩:=F2 sum (zS s) a (zR s).1 H (by omega) hH har _ rfl H 0 [] (by omega) rfl
 have hH2:(zD s).1.toNat=H:=by rw [hH,Int.toNat_natCast]
 have hz:po (zS s) []=zS s:=rfl
 rw [hz] at b1 b2
 refine ⟨λl hl=> ?_,λhl=> ?_⟩
 ·obtain ⟨SWx,pl⟩:=EB ha pa h ht he hl
  rw [hH2] at hl
  have e:=b1 l hl
  unfold fP
  refine (congrArg (λz=>Option.bind z _) e).trans ?_
  rw [aA]
  dsimp only
  have hm:mb (po (zS s) l)=some (!rH (po (zS s) l)):=Es _ SWx (by show (l.flatMap gT).length<=1000000; omega)
  show Option.bind (mb (po (zS s) l)) _=_
  rw [hm,aA]
 ·rw [hH2] at hl
  obtain ⟨p',this⟩:=b2 hl
  refine ⟨p',?_⟩
  unfold fP
  refine (congrArg (λz=>Option.bind z _) this).trans ?_
  rw [aA]
theorem Lg (a:aH) (s:ByteArray) (ha:SW a) (pa:(a.rows.flatMap gT).length<=12000) (h:s.size<=100000) (ht:(zT s).1.size<=1000):nB a s=some (yy a s):=by
 obtain ⟨vB,vC,vF,vH,vK,vN,vR⟩:=zVI (s:=s) (by omega)
 unfold nB yy
 rw [xd a ha,aA]
 cases hm:pA a with
 | false=>rw [if_neg (by simp),if_pos rfl]; rfl
 | true =>
  rw [if_pos rfl,if_neg (by simp)]
  obtain ⟨m',r1,r2⟩:=Ld s (by omega)
  have k0:((0:Int) != 0)=false:=rfl
  rw [k0,cond_false,r1,aA]
  dsimp only
  by_cases he:yg (zR s).2=0
  ·have k1:(yg (zR s).2 != 0)=false:=by simp [he]
   rw [k1,cond_false,if_neg (λhh=>hh he),GR a ha pa,aA]
   obtain ⟨he0, -⟩:=IA vR he
   obtain rfl:=r2 he0
   by_cases hs:(zA s).1=((uC (n9 a):Nat):Int)
   ·have k2:((zA s).1 != ((uC (n9 a):Nat):Int))=false:=by simp [hs]
    rw [k2,cond_false,if_neg (λhh=>hh hs)]
    obtain ⟨b1,b2⟩:=Lf a s ha pa h ht he0 (zA s).1
    cases hl:oe a.rows (zR s).1 (zD s).1.toNat 0 [] with
    | none =>
     obtain ⟨p',b3⟩:=b2 hl
     rw [b3,aA]
     rfl
    | some l =>
     obtain ⟨SWx,pl⟩:=EB ha pa h ht he0 hl
     rw [b1 l hl,aA]
     dsimp only
     cases hn:rH (po (zS s) l) with
     | true=>rfl
     | false =>
      rw [Bool.not_false,Bool.not_true,cond_false,if_neg (by simp),yh _ SWx,aA]
   ·have k2:((zA s).1 != ((uC (n9 a):Nat):Int))=true:=by simp [hs]
    rw [k2,cond_true,if_pos hs]
    rfl
  ·have k1:(yg (zR s).2 != 0)=true:=by simp [he]
   rw [k1,cond_true,if_pos he]
   rfl
theorem Hk (a b:List aE) (y:Nat): ∀ i,y∈chN a b i↔(y < i/\a[y]?≠b[y]?)
 | 0=>by simp [chN]
 | i+1=>by
  rw [re]
  have ih:=Hk a b y i
  split
  ·rename_i h
   rw [ih]
   constructor
   ·rintro ⟨h1,h2⟩; exact ⟨by omega,h2⟩
   ·rintro ⟨h1,h2⟩
    refine ⟨?_,h2⟩
    rcases Nat.lt_succ_iff_lt_or_eq.1 h1 with h3 | h3
    ·exact h3
    ·subst h3; exact absurd h h2
  ·rename_i h
   rw [List.mem_append,ih,List.mem_singleton]
   constructor
   ·rintro (⟨h1,h2⟩ | h1)
    ·exact ⟨by omega,h2⟩
    ·subst h1; exact ⟨by omega,h⟩
   ·rintro ⟨h1,h2⟩
    rcases Nat.lt_succ_iff_lt_or_eq.1 h1 with h3 | h3
    ·exact .inl ⟨h3,h2⟩
    ·exact .inr h3
theorem wG (a b:List aE): ∀ i,(chN a b i).Pairwise (· < ·)
 | 0=> .nil
 | i+1=>by
  rw [re]
  split
  ·exact wG a b i
  ·refine List.pairwise_append.2 ⟨wG a b i,by simp,λx hx y hy=> ?_⟩
   rw [List.mem_singleton.1 hy]
   exact CI a b i x hx
def prs (b:List aE) (C:List Nat):List (Int×aE):=C.map λy:Nat=>((y:Int),b[y]?.getD Ck)
theorem Hl (b:List aE) (y:Nat): ∀ C:List Nat,mgl (y:Int) (prs b C)=if y∈C then some (b[y]?.getD Ck) else none
 | []=>rfl
 | c::C=>by
  have ih:=Hl b y C
  show (if (y:Int)=(c:Int) then some (b[c]?.getD Ck) else mgl (y:Int) (prs b C))=_
  rw [ih]
  by_cases h:y=c
  ·subst h
   rw [if_pos rfl,if_pos (by simp)]
  ·rw [if_neg (by omega)]
   by_cases h2:y∈C
   ·rw [if_pos h2,if_pos (by simp [h2])]
   ·rw [if_neg h2,if_neg (by simp [h,h2])]
theorem Hm (b:List aE) (w h:Int) (hw:w<=1000) (hh:h=(b.length:Int)) (hb:b.length<=1000) (hr: ∀ r∈b,(r.cells.length:Int)=w /\ ∀ c∈r.cells,okC c=true) {R:List Int} (hR:BB R): ∀ (C:List Nat) (last:Int) (acc:List (Int×aE)),C.Pairwise (· < ·)->(∀ y∈C,last < (y:Int)/\y < b.length)->dlL C.length w h (bI (pch b C++R)) last acc=(acc++prs b C,bI R)
 | [],last,acc,_,_=>by simp [dlL,pch,prs]
 | c::C,last,acc,hs,hl=>by
  have hc:=hl c (by simp)
  have hs2:=List.pairwise_cons.1 hs
  have hrc:=hr _ (List.getElem_mem hc.2)
  have hgc:b[c]?.getD Ck=b[c]:=by rw [List.getElem?_eq_getElem hc.2]; rfl
  have hBB:BB (pch b C++R):=fR (K5 _ _) hR
  have e1:pch b (c::C)++R=dF (c:Int)++(gT b[c]++(pch b C++R)):=by
   unfold pch
   rw [List.flatMap_cons,hgc]
   simp only [List.append_assoc]
  have e2:rdS (bI (pch b (c::C)++R))=((c:Int),bI (gT b[c]++(pch b C++R))):=by
   rw [e1]
   exact AZ (fR (Ct _) hBB) (by omega) (by omega)
  have e3:dlI h (bI (pch b (c::C)++R)) last=bI (gT b[c]++(pch b C++R)):=by
   unfold dlI
   rw [e2,if_neg (by dsimp only; omega)]
  have e4:=Pb b[c] w hBB hw hrc.1 hrc.2
  show dlL (C.length+1) w h (bI (pch b (c::C)++R)) last acc=_
  unfold dlL
  rw [if_pos (show (bI (pch b (c::C)++R)).e=0 from rfl),e3,e4,e2]
  dsimp only
  rw [Hm b w h hw hh hb hr hR C (c:Int) _ hs2.2 (λy hy=>⟨by have:=hs2.1 y hy; omega,(hl y (by simp [hy])).2⟩)]
  unfold prs
  rw [List.map_cons,hgc,List.append_assoc]
  rfl
theorem EC (a b:List aE): ∀ k y,y+k=b.length->oe a (prs b (chg a b)) k y (b.take y)=some b
 | 0,y,hy=>by
  show some (b.take y)=some b
  rw [List.take_of_length_le (by omega)]
 | k+1,y,hy=>by
  have hyb:y < b.length:=by omega
  have hb:b[y]?=some b[y]:=List.getElem?_eq_getElem hyb
  have ih:=EC a b k (y+1) (by omega)
  rw [List.take_succ_eq_append_getElem hyb] at ih
  have hm:=Hl b y (chg a b)
  have hmem:y∈chg a b↔a[y]?≠b[y]?:=by
   unfold chg
   rw [Hk]
   exact ⟨λh=>h.2,λh=>⟨hyb,h⟩⟩
  simp only [oe]
  by_cases hc:y∈chg a b
  ·rw [if_pos hc,hb] at hm
   rw [hm]
   simp only [Option.getD_some]
   have hne:=hmem.1 hc
   rw [hb] at hne
   cases ha:a[y]? with
   | none=>exact ih
   | some q =>
    dsimp only
    rw [ha] at hne
    rw [if_neg (λhh=>hne (by rw [hh]))]
    exact ih
  ·rw [if_neg hc] at hm
   rw [hm]
   have he:a[y]?=b[y]?:=Classical.not_not.1 λh=>hc (hmem.2 h)
   rw [he,hb]
   exact ih
theorem BR (a b:aH) (hb:SW b) (hma:pA a=true) (hnb:rH b=false):zT (m4 a b)=(b.title,(zT (m4 a b)).2)/\yy a (m4 a b)=(b,0):=by
 have hbe:kO b=false/\pA b=true:=by
  unfold rH at hnb
  cases h1:kO b <;> cases h2:pA b <;> rw [h1,h2] at hnb <;> first | exact ⟨rfl,rfl⟩ | cases hnb
 have M:=(MF hbe.1).1 hbe.2
 have hbad:Iz a b=false:=by unfold Iz; rw [hma,hnb]; rfl
 have hs:m4 a b=gX (tE a b):=by unfold m4; rw [hbad]; rfl
 rw [hs]
 generalize hC:chg a.rows b.rows=C
 have hCl:C.length<=b.rows.length:=by rw [<- hC]; exact CH _ _ _
 have hrl:=hb.rl
 have htl:=M.t
 have r0:BB ([]:List Int):=Pa
 have rP:BB (pch b.rows C):=K5 _ _
 obtain ⟨t11,ht11⟩: ∃ t,t=pch b.rows C:=⟨_,rfl⟩
 obtain ⟨t10,ht10⟩: ∃ t,t=dF (C.length:Int)++t11:=⟨_,rfl⟩
 obtain ⟨t9,ht9⟩: ∃ t,t=mZ b.begun++t10:=⟨_,rfl⟩
 obtain ⟨t8,ht8⟩: ∃ t,t=dF b.chain++t9:=⟨_,rfl⟩
 obtain ⟨t7,ht7⟩: ∃ t,t=dF b.len++t8:=⟨_,rfl⟩
 obtain ⟨t6,ht6⟩: ∃ t,t=dF b.title.size++sbs b.title++t7:=⟨_,rfl⟩
 obtain ⟨t5,ht5⟩: ∃ t,t=dF b.y++t6:=⟨_,rfl⟩
 obtain ⟨t4,ht4⟩: ∃ t,t=dF b.x++t5:=⟨_,rfl⟩
 obtain ⟨t3,ht3⟩: ∃ t,t=dF b.h++t4:=⟨_,rfl⟩
 obtain ⟨t2,ht2⟩: ∃ t,t=dF b.w++t3:=⟨_,rfl⟩
 obtain ⟨t1,ht1⟩: ∃ t,t=dF b.k++t2:=⟨_,rfl⟩
 have hpd:tE a b=dF ((uC (n9 a):Nat):Int)++t1:=by
  rw [ht1,ht2,ht3,ht4,ht5,ht6,ht7,ht8,ht9,ht10,ht11]
  unfold tE uF
  rw [hC]
  simp only [List.flatMap_cons,List.flatMap_nil,List.append_nil,List.append_assoc]
 have q11:BB t11:=by rw [ht11]; exact rP
 have q10:BB t10:=by rw [ht10]; exact fR (lE _) q11
 have q9:BB t9:=by rw [ht9]; exact fR (Hj b.begun) q10
 have q8:BB t8:=by rw [ht8]; exact fR (lE b.chain) q9
 have q7:BB t7:=by rw [ht7]; exact fR (lE b.len) q8
 have q6:BB t6:=by rw [ht6]; exact fR (fR (lE _) (wA _)) q7
 have q5:BB t5:=by rw [ht5]; exact fR (lE b.y) q6
 have q4:BB t4:=by rw [ht4]; exact fR (lE b.x) q5
 have q3:BB t3:=by rw [ht3]; exact fR (lE b.h) q4
 have q2:BB t2:=by rw [ht2]; exact fR (lE b.w) q3
 have q1:BB t1:=by rw [ht1]; exact fR (lE b.k) q2
 have hk:=M.k
 have hw:=M.w
 have hh:=M.h
 have hx:=M.x
 have hy:=M.y
 have hl:=M.l
 have hch:=M.c
 have hsum:=Cu (n9 a)
 have zA':zA (gX (tE a b))=(((uC (n9 a):Nat):Int),bI t1):=by unfold zA; rw [hpd]; exact AZ q1 (by omega) (by omega)
 have zB':zB (gX (tE a b))=(b.k,bI t2):=by unfold zB; rw [zA',ht1]; exact AZ q2 (by omega) (by omega)
 have zC':zC (gX (tE a b))=(b.w,bI t3):=by unfold zC; rw [zB',ht2]; exact vS q3 (by omega) (by omega) (by omega)
 have zD':zD (gX (tE a b))=(b.h,bI t4):=by unfold zD; rw [zC',ht3]; exact vS q4 (by omega) (by omega) (by omega)
 have zE':zE (gX (tE a b))=(b.x,bI t5):=by unfold zE; rw [zD',ht4]; exact AZ q5 (by omega) (by omega)
 have zF':zF (gX (tE a b))=(b.y,bI t6):=by unfold zF; rw [zE',ht5]; exact AZ q6 (by omega) (by omega)
 have zT':zT (gX (tE a b))=(b.title,bI t7):=by unfold zT; rw [zF',ht6]; exact Qt b.title q7 hb.tl
 have zG':zG (gX (tE a b))=(b.len,bI t8):=by unfold zG; rw [zT',ht7]; exact AZ q8 (by omega) (by omega)
 have zH':zH (gX (tE a b))=(b.chain,bI t9):=by unfold zH; rw [zG',ht8]; exact AZ q9 (by omega) (by omega)
 have zK':zK (gX (tE a b))=(b.begun,bI t10):=by unfold zK; rw [zH',ht9]; exact Qu b.begun q10 M.g M.b
 have zN':zN (gX (tE a b))=((C.length:Int),bI t11):=by unfold zN; rw [zK',ht10]; exact AZ q11 (by omega) (by omega)
 have zR':zR (gX (tE a b))=(prs b.rows C,bI []):=by
  unfold zR
  rw [zN',zC',zD',ht11]
  dsimp only
  rw [Int.toNat_natCast]
  have:=Hm b.rows b.w b.h (by omega) M.r.symm hrl M.rr r0 C (-1) [] (by rw [<- hC]; exact wG _ _ _) (λy hy=>⟨by omega,by rw [<- hC] at hy; exact CI _ _ _ y hy⟩)
  rw [List.append_nil,List.nil_append] at this
  exact this
 refine ⟨by rw [zT'],?_⟩
 unfold yy
 rw [hma,if_neg (by simp),zR']
 have hE:yg (bI [])=0:=MB
 rw [hE,if_neg (λh=>h rfl),zA',if_neg (λh=>h rfl),zD']
 dsimp only
 have hb0:=EC a.rows b.rows b.rows.length 0 (by omega)
 have hht:b.h.toNat=b.rows.length:=by have:=M.r; omega
 rw [hht,<- hC,show oe a.rows (prs b.rows (chg a.rows b.rows)) b.rows.length 0 []=some b.rows from hb0]
 dsimp only
 have hset:po (zS (gX (tE a b))) b.rows=b:=by
  unfold po zS
  rw [zB',zC',zD',zE',zF',zT',zG',zH',zK']
 rw [hset,hnb]
 rfl
theorem wH (a b:aH) (hb:SW b) (pb:(b.rows.flatMap gT).length<=12000):(m4 a b).size<=61000:=by
 unfold m4
 split
 ·exact Nat.zero_le _
 ·rw [nD]
  unfold tE
  have h1:=BP a b hb
  have h2:=K4 a.rows b.rows pb hb.rl b.rows.length (Nat.le_refl _)
  have h3:(pch b.rows (chg a.rows b.rows)).length<=21000:=h2
  rw [List.length_append]
  omega
theorem NG:(kR.rows.flatMap gT).length<=12000:=by decide
theorem Lh:pA kR=true:=by
 unfold pA
 have:kO kR=true:=Ia.2 rfl
 rw [this]
 rfl
structure CT1 (x:aH):Prop where
 sw:SW x
 pk:(x.rows.flatMap gT).length<=11600
structure SG (s:aH):Prop where
 sw:SW s
 pk:(s.rows.flatMap gT).length<=12000
 may:pA s=true
theorem NH:SG kR:=⟨DM,NG,Lh⟩
theorem Hn {s:aH} (g:SG s) (he:kO s=false):rH s=false:=by
 unfold rH
 rw [he,g.may]
 rfl
theorem Lj {a b c:aH} (ga:SG a) (gb:SG b) (hb:kO b=false) (gc:SG c):nB c (m4 a b)=some (yy c (m4 a b)):=by
 have h1:=wH a b gb.sw gb.pk
 have h2:=(BR a b gb.sw ga.may (Hn gb hb)).1
 refine Lg c _ gc.sw gc.pk (by omega) ?_
 rw [h2]
 exact gb.sw.tl
theorem ED {a b:aH} (ga:SG a) (gb:SG b) (hb:kO b=false):yy a (m4 a b)=(b,0):=(BR a b gb.sw ga.may (Hn gb hb)).2
theorem NI {a b:aH} (ga:SG a):kZ a b=some (decide (a=b)):=JU a b ga.sw
end Go.Tw.X

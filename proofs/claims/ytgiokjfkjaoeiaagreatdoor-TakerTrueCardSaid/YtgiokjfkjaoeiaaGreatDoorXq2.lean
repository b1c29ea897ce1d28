import Derived.Test.YtgiokjfkjaoeiaaGreatDoorXq1
import Derived.Test.YtgiokjfkjaoeiaaGreatDoorXp1
import Derived.Test.YtgiokjfkjaoeiaaGreatDoorFw2
set_option linter.unusedVariables false
set_option linter.unusedSimpArgs false
namespace Go.Tw.X
open Go Go.Tw
theorem L6 (x:Int) (m:Nat) (hm:m < 9223372036854775808):0<=Go.bits .and .i64 x (m:Int)/\Go.bits .and .i64 x (m:Int)<=(m:Int):=by
 have h2:(BitVec.ofInt 64 (m:Int)).toNat=m:=by
  rw [BitVec.ofInt_natCast,BitVec.toNat_ofNat]; exact Nat.mod_eq_of_lt (by omega)
 have h3:(BitVec.ofInt 64 x).toNat &&& m<=m:=Nat.and_le_right
 have e:Go.bits .and .i64 x (m:Int)=(((BitVec.ofInt 64 x).toNat &&& m:Nat):Int):=by
  show IntKind.i64.wrap ((BitVec.ofInt 64 x &&& BitVec.ofInt 64 (m:Int)).toNat:Int)=_
  rw [BitVec.toNat_and,h2,w64 (by omega) (by omega)]
 rw [e]
 omega
def tst (s:bE):bM:=⟨s.ji,s.back,s.bold,s.under,s.dX⟩
def bN (b:Bool) (n:Int):Int:=if b then n else 0
def mD (s:bE):Int:=if 0<=s.ji/\s.ji < 9/\0<=s.back/\s.back < 9 then s.ji+9*s.back+bN s.bold 81+bN s.under 162+bN s.dX 324 else 0
theorem OG (b:Bool) (n:Int):ny b n=some (bN b n):=by cases b <;> rfl
theorem Hk (s:bE):kO s=some (decide (0<=s.ji/\s.ji < 9/\0<=s.back/\s.back < 9)):=by
 unfold kO
 by_cases a:0<=s.ji <;> by_cases b:s.ji < 9 <;> by_cases c:0<=s.back <;> by_cases d:s.back < 9 <;> simp [a,b,c,d,ge_iff_le]
theorem L7 (s:bE):sV (tst s)=some (decide (0<=s.ji/\s.ji < 9/\0<=s.back/\s.back < 9)):=by
 unfold sV
 have e1:(s.ji<=8)=(s.ji < 9):=propext (by omega)
 have e2:(s.back<=8)=(s.back < 9):=propext (by omega)
 simp only [tst,e1,e2]
 by_cases a:0<=s.ji <;> by_cases b:s.ji < 9 <;> by_cases c:0<=s.back <;> by_cases d:s.back < 9 <;> simp [a,b,c,d,ge_iff_le]
theorem Jk (b:Bool) (n:Int) (h:0<=n):0<=bN b n/\bN b n<=n:=by cases b <;> simp [bN,h]
theorem Jl (s:bE):kP s=some (mD s):=by
 unfold kP mD
 rw [Hk,aA]
 by_cases h:0<=s.ji/\s.ji < 9/\0<=s.back/\s.back < 9
 ·have h1:=Jk s.bold 81 (by omega)
  have h2:=Jk s.under 162 (by omega)
  have h3:=Jk s.dX 324 (by omega)
  rw [decide_eq_true h,if_pos h]
  simp only [Bool.not_true,cond_false,OG,aA]
  rw [w64 (x:=9*s.back) (by omega) (by omega),w64 (x:=s.ji+9*s.back) (by omega) (by omega),w64 (x:=s.ji+9*s.back+bN s.bold 81) (by omega) (by omega),w64 (x:=s.ji+9*s.back+bN s.bold 81+bN s.under 162) (by omega) (by omega),w64 (by omega) (by omega)]
 ·rw [decide_eq_false h,if_neg h]
  rfl
theorem CP (s:bE):lK (tst s)=some (mD s):=by
 unfold lK mD
 rw [L7,aA]
 by_cases h:0<=s.ji/\s.ji < 9/\0<=s.back/\s.back < 9
 ·rw [decide_eq_true h,if_pos h]
  simp only [Bool.not_true,cond_false,tst]
  rw [w64 (x:=9*s.back) (by omega) (by omega),w64 (x:=s.ji+9*s.back) (by omega) (by omega)]
  cases s.bold <;> cases s.under <;> cases s.dX <;> simp only [cond_true,cond_false,aA,bN] <;> simp <;> (try simp only [IntKind.wrap_i64]) <;> (try omega)
 ·rw [decide_eq_false h,if_neg h]
  rfl
def xh (s:bE) (n:Int):bE:=if n=0 then ⟨0,0,false,false,false⟩ else if n=1\/n=22 then ⟨s.ji,s.back,n == 1,s.under,s.dX⟩ else if n=4\/n=24 then ⟨s.ji,s.back,s.bold,n == 4,s.dX⟩ else if n=7\/n=27 then ⟨s.ji,s.back,s.bold,s.under,n == 7⟩ else if 30<=n/\n < 38 then ⟨n - 29,s.back,s.bold,s.under,s.dX⟩ else if n=39 then ⟨0,s.back,s.bold,s.under,s.dX⟩ else if 40<=n/\n < 48 then ⟨s.ji,n - 39,s.bold,s.under,s.dX⟩ else if n=49 then ⟨s.ji,0,s.bold,s.under,s.dX⟩ else s
theorem eH {a b:Int} (h: ¬ a=b):(a == b)=false:=by simpa using h
theorem mS {a b:Int} (h:a=b):(a == b)=true:=by simpa using h
theorem ve (n a b:Int):((bif (n == a) then some true else some (n == b)):Option Bool)=some (decide (n=a\/n=b)):=by
 by_cases h:n=a
 ·simp [h]
 ·rw [eH h,cond_false]
  by_cases h2:n=b
  ·simp [h2]
  ·rw [eH h2,decide_eq_false (by omega)]
theorem L8 (n a b:Int):((bif (decide (n>=a)) then some (decide (n < b)) else some false):Option Bool)=some (decide (a<=n/\n < b)):=Bu (a<=n) (n < b)
theorem L9 (n a b:Int):((bif (decide (n>=a)) then some (decide (n<=b)) else some false):Option Bool)=some (decide (a<=n/\n<=b)):=Bu (a<=n) (n<=b)
theorem OH (s:bE) (n:Int):kQ s n=some (xh s n):=by
 unfold kQ xh
 simp only [ve,L8,aA]
 by_cases h0:n=0
 ·simp [h0,ll]
 ·have b0:(n == 0)=false:=by simpa using h0
  rw [b0,cond_false,if_neg h0]
  by_cases h1:n=1\/n=22
  ·rw [decide_eq_true h1,if_pos h1]; rfl
  ·rw [decide_eq_false h1,cond_false,if_neg h1]
   by_cases h2:n=4\/n=24
   ·rw [decide_eq_true h2,if_pos h2]; rfl
   ·rw [decide_eq_false h2,cond_false,if_neg h2]
    by_cases h3:n=7\/n=27
    ·rw [decide_eq_true h3,if_pos h3]; rfl
    ·rw [decide_eq_false h3,cond_false,if_neg h3]
     by_cases h4:30<=n/\n < 38
     ·rw [decide_eq_true h4,cond_true,if_pos h4,w64 (x:=n - 30) (by omega) (by omega),w64 (by omega) (by omega),show n - 30+1=n - 29 by omega]; rfl
     ·rw [decide_eq_false h4,cond_false,if_neg h4]
      by_cases h5:n=39
      ·simp [h5]
      ·have b5:(n == 39)=false:=by simpa using h5
       rw [b5,cond_false,if_neg h5]
       by_cases h6:40<=n/\n < 48
       ·rw [decide_eq_true h6,cond_true,if_pos h6,w64 (x:=n - 40) (by omega) (by omega),w64 (by omega) (by omega),show n - 40+1=n - 39 by omega]; rfl
       ·rw [decide_eq_false h6,cond_false,if_neg h6]
        by_cases h7:n=49
        ·simp [h7]
        ·rw [eH h7,if_neg h7]; rfl
theorem Ma (s:bE) (n k:Int):((Option.bind ((bif (n == 0) then some (bM.mk 0 0 false false false) else some (tst s)):Option bM) λa=>(Option.bind ((bif (n == 1) then some true else some (n == 22)):Option Bool) λh=>(Option.bind ((bif h then some (bM.mk a.ji a.back (decide (n < 10)) a.under a.dX) else some a):Option bM) λb=>(Option.bind ((bif (n == 4) then some true else some (n == 24)):Option Bool) λi=>(Option.bind ((bif i then some (bM.mk b.ji b.back b.bold (decide (n < 10)) b.dX) else some b):Option bM) λc=>(Option.bind ((bif (n == 7) then some true else some (n == 27)):Option Bool) λj=>(Option.bind ((bif j then some (bM.mk c.ji c.back c.bold c.under (decide (n < 10))) else some c):Option bM) λd=>(Option.bind ((bif (decide (n>=30)) then some (decide (n<=37)) else some false):Option Bool) λl=>(Option.bind ((bif l then some (bM.mk (IntKind.i64.wrap (n - 29)) d.back d.bold d.under d.dX) else some d):Option bM) λe=>(Option.bind ((bif (n == 39) then some (bM.mk 0 e.back e.bold e.under e.dX) else some e):Option bM) λf=>(Option.bind ((bif (decide (n>=40)) then some (decide (n<=47)) else some false):Option Bool) λm=>(Option.bind ((bif m then some (bM.mk f.ji (IntKind.i64.wrap (n - 39)) f.bold f.under f.dX) else some f):Option bM) λg=>(bif (n == 49) then some (k,(bM.mk g.ji 0 g.bold g.under g.dX)) else some (k,g)))))))))))))):Option (Int×bM))=some (k,tst (xh s n)):=by
 simp only [ve,L9,aA]
 unfold xh
 by_cases h0:n=0
 ·subst h0; simp [tst,aA]
 ·have b0:(n == 0)=false:=by simpa using h0
  rw [b0,cond_false,if_neg h0,aA]
  by_cases h1:n=1\/n=22
  ·rcases h1 with rfl | rfl <;> simp [tst,aA]
  ·rw [decide_eq_false h1,cond_false,if_neg h1,aA]
   by_cases h2:n=4\/n=24
   ·rcases h2 with rfl | rfl <;> simp [tst,aA]
   ·rw [decide_eq_false h2,cond_false,if_neg h2,aA]
    by_cases h3:n=7\/n=27
    ·rcases h3 with rfl | rfl <;> simp [tst,aA]
    ·rw [decide_eq_false h3,cond_false,if_neg h3,aA]
     by_cases h4:30<=n/\n < 38
     ·have e4:decide (30<=n/\n<=37)=true:=decide_eq_true (by omega)
      have e5:(n == 39)=false:=by simp; omega
      have e6:decide (40<=n/\n<=47)=false:=decide_eq_false (by omega)
      have e7:(n == 49)=false:=by simp; omega
      rw [e4,e5,e6,e7,if_pos h4,w64 (x:=n - 29) (by omega) (by omega)]
      rfl
     ·have e4:decide (30<=n/\n<=37)=false:=decide_eq_false (by omega)
      rw [e4,if_neg h4,cond_false,aA]
      by_cases h5:n=39
      ·subst h5; simp [tst,aA]
      ·have b5:(n == 39)=false:=by simpa using h5
       rw [b5,cond_false,if_neg h5,aA]
       by_cases h6:40<=n/\n < 48
       ·have e6:decide (40<=n/\n<=47)=true:=decide_eq_true (by omega)
        have e7:(n == 49)=false:=by simp; omega
        rw [e6,e7,if_pos h6,w64 (x:=n - 39) (by omega) (by omega)]
        rfl
       ·have e6:decide (40<=n/\n<=47)=false:=decide_eq_false (by omega)
        rw [e6,if_neg h6,cond_false,aA]
        by_cases h7:n=49
        ·simp [h7,tst]
        ·rw [eH h7,if_neg h7]; rfl
def o3:List Int->Nat
 | 5::l=>min 2 (l.length+1)
 | 2::l=>min 4 (l.length+1)
 | _=>0
theorem Jm (l:List Int):o3 l<=l.length:=by
 unfold o3
 split <;> simp <;> omega
theorem Mb (l:List Int):nJ l=some (o3 l:Int):=by
 unfold nJ
 cases l with
 | nil=>rfl
 | cons a l =>
  have h0:decide (((a::l).length:Int) > 0)=true:=by simp
  have h1:idx (a::l) 0=some a:=ID _
  simp only [h0,cond_true,h1,aA]
  by_cases h5:a=5
  ·subst h5
   simp only [beq_self_eq_true,cond_true,aA,o3,dP,List.length_cons]
   first | done | (congr 1; omega)
  ·have e5:(a == 5)=false:=by simpa using h5
   simp only [e5,cond_false,aA]
   by_cases h2:a=2
   ·subst h2
    simp only [beq_self_eq_true,cond_true,aA,o3,dP,List.length_cons]
    first | done | (congr 1; omega)
   ·have e2:(a == 2)=false:=by simpa using h2
    simp only [e2,cond_false]
    unfold o3
    split
    ·rename_i heq; injection heq with h; exact absurd h h5
    ·rename_i heq; injection heq with h; exact absurd h h2
    ·rfl
def vf (s:bE) (l:List Int):bE :=
 match l with
 | []=>s
 | n::l=>if n=38\/n=48 then vf s (l.drop (o3 l)) else vf (xh s n) l
termination_by l.length
decreasing_by all_goals simp_wf <;> omega
theorem CQ (s:bE):vf s []=s:=by unfold vf; rfl
theorem AK (s:bE) (n:Int) (l:List Int):vf s (n::l)=if n=38\/n=48 then vf s (l.drop (o3 l)) else vf (xh s n) l:=by rw [vf]
def Hl (s:bE) (l:List Int):bE:=if l.length=0 then ⟨0,0,false,false,false⟩ else vf s l
theorem Mc (l:List Int):((l.length:Int) == 0)=decide (l.length=0):=by
 by_cases h:l.length=0
 ·simp [h]
 ·rw [decide_eq_false h,eH (by omega)]
theorem Md (s:bE) (l:List Int) (hl:l.length<=1000000):kR s l=some (Hl s l):=by
 unfold kR Hl
 rw [Mc]
 by_cases h0:l.length=0
 ·rw [decide_eq_true h0,if_pos h0]; rfl
 ·rw [decide_eq_false h0,if_neg h0,cond_false]
  refine pF (λx=>0<=x.2/\x.2<=l.length/\vf x.1 (l.drop x.2.toNat)=vf s l) (λx=>l.length - x.2.toNat) (λr=>r=vf s l) ⟨Int.le_refl 0,by dsimp only; omega,by simp⟩ ?_ ?_
  ·rintro ⟨q,i⟩ ⟨h1,h2,h3⟩
   dsimp only at h1 h2 h3 ⊢
   obtain ⟨i,rfl⟩:=Int.eq_ofNat_of_zero_le h1
   rw [Int.toNat_natCast] at h3
   by_cases hi:i < l.length
   ·left
    rw [decide_eq_true (by omega:(i:Int) < l.length),cond_true,cU _ _ hi,aA,ve,aA]
    rw [List.drop_eq_getElem_cons hi,AK] at h3
    by_cases hn:l[i]=38\/l[i]=48
    ·rw [if_pos hn] at h3
     have hsk:=Jm (l.drop (i+1))
     rw [List.length_drop] at hsk
     rw [decide_eq_true hn,cond_true,w64 (x:=(i:Int)+1) (by omega) (by omega),show (i:Int)+1=((i+1:Nat):Int) by omega,bP (by omega) (by omega) (by omega),aA,rM,List.take_length,Mb,aA,aA]
     dsimp only
     refine ⟨_,rfl,⟨?_,?_,?_⟩,?_⟩
     ·dsimp only; rw [w64 (x:=(i:Int)+(o3 (l.drop (i+1)):Int)) (by omega) (by omega),w64 (by omega) (by omega)]; omega
     ·dsimp only; rw [w64 (x:=(i:Int)+(o3 (l.drop (i+1)):Int)) (by omega) (by omega),w64 (by omega) (by omega)]; omega
     ·dsimp only; rw [w64 (x:=(i:Int)+(o3 (l.drop (i+1)):Int)) (by omega) (by omega),w64 (by omega) (by omega),<- h3,List.drop_drop]
      congr 2
      omega
     ·dsimp only; rw [w64 (x:=(i:Int)+(o3 (l.drop (i+1)):Int)) (by omega) (by omega),w64 (by omega) (by omega)]; omega
    ·rw [if_neg hn] at h3
     rw [decide_eq_false hn,cond_false,aA,OH,aA,aA]
     dsimp only
     rw [w64 (x:=(i:Int)+1) (by omega) (by omega)]
     refine ⟨_,rfl,⟨by dsimp only; omega,by dsimp only; omega,?_⟩,by dsimp only; omega⟩
     dsimp only
     rw [show ((i:Int)+1).toNat=i+1 by omega,h3]
   ·right
    rw [decide_eq_false (by omega: ¬ (i:Int) < l.length),cond_false]
    rw [List.drop_eq_nil_of_le (by omega),CQ] at h3
    exact ⟨q,rfl,h3⟩
  ·rintro r rfl
   rfl
theorem CR (l:List Int):(∃ r,l=5::r/\o3 l=min 2 (r.length+1))\/(∃ r,l=2::r/\o3 l=min 4 (r.length+1))\/(o3 l=0/\(∀ a r,l=a::r->a≠5/\a≠2)):=by
 cases l with
 | nil=>exact .inr (.inr ⟨rfl,λa r h=>by cases h⟩)
 | cons a l =>
  by_cases h5:a=5
  ·subst h5; exact .inl ⟨l,rfl,rfl⟩
  ·by_cases h2:a=2
   ·subst h2; exact .inr (.inl ⟨l,rfl,rfl⟩)
   ·refine .inr (.inr ⟨?_,λb r h=>by injection h with h1 _; subst h1; exact ⟨h5,h2⟩⟩)
    unfold o3
    split
    ·rename_i heq; injection heq with h; exact absurd h h5
    ·rename_i heq; injection heq with h; exact absurd h h2
    ·rfl
theorem CS (l:List Int) (k n:Nat) (h:l.length<=n):l.drop (min k n)=l.drop k:=by
 by_cases hk:k<=n
 ·rw [Nat.min_eq_left hk]
 ·rw [List.drop_eq_nil_of_le (by omega),List.drop_eq_nil_of_le (by omega)]
theorem Jn (s:bE) (l:List Int) (hl:l.length<=1000000):sW (tst s) l=some (tst (Hl s l)):=by
 unfold sW Hl
 rw [Mc]
 by_cases h0:l.length=0
 ·rw [decide_eq_true h0,if_pos h0]; rfl
 ·rw [decide_eq_false h0,if_neg h0,cond_false]
  refine pF (λx=> ∃ q,x.1=tst q/\0<=x.2.1/\x.2.1<=l.length/\0<=x.2.2/\x.2.2<=4/\vf q (l.drop (x.2.1.toNat+x.2.2.toNat))=vf s l) (λx=>l.length - x.2.1.toNat) (λr=>r=tst (vf s l)) ⟨s,rfl,Int.le_refl 0,by dsimp only; omega,Int.le_refl 0,by dsimp only; omega,by simp⟩ ?_ ?_
  ·rintro ⟨q',i,k⟩ ⟨q,e,h1,h2,h4,h5,h3⟩
   dsimp only at e h1 h2 h3 h4 h5 ⊢
   subst e
   obtain ⟨i,rfl⟩:=Int.eq_ofNat_of_zero_le h1
   obtain ⟨k,rfl⟩:=Int.eq_ofNat_of_zero_le h4
   rw [Int.toNat_natCast,Int.toNat_natCast] at h3
   by_cases hi:i < l.length
   ·left
    rw [decide_eq_true (by omega:(i:Int) < l.length),cond_true,cU _ _ hi,aA,w64 (x:=(i:Int)+1) (by omega) (by omega)]
    by_cases hk:0 < k
    ·rw [decide_eq_true (by omega:(k:Int) > 0),cond_true,aA,w64 (x:=(k:Int) - 1) (by omega) (by omega)]
     dsimp only
     refine ⟨_,rfl,⟨q,rfl,by dsimp only; omega,by dsimp only; omega,by dsimp only; omega,by dsimp only; omega,?_⟩,by dsimp only; omega⟩
     dsimp only
     rw [<- h3]
     congr 2
     omega
    ·obtain rfl:k=0:=by omega
     rw [Nat.add_zero,List.drop_eq_getElem_cons hi,AK] at h3
     rw [decide_eq_false (by omega: ¬ ((0:Nat):Int) > 0),cond_false,ve,aA]
     by_cases hn:l[i]=38\/l[i]=48
     ·rw [if_pos hn] at h3
      rw [decide_eq_true hn,cond_true,show (i:Int)+1=((i+1:Nat):Int) by omega]
      have hd:(l.drop (i+1)).length<=l.length:=by simp
      by_cases hi1:i+1 < l.length
      ·rw [decide_eq_true (by omega:((i+1:Nat):Int) < l.length)]
       simp only [cond_true,cU _ _ hi1,aA]
       have hc:=CR (l.drop (i+1))
       rw [List.drop_eq_getElem_cons hi1] at hc
       by_cases a5:l[i+1]=5
       ·rw [a5]
        simp only [beq_self_eq_true,cond_true,aA]
        refine ⟨_,rfl,⟨q,rfl,by dsimp only; omega,by dsimp only; omega,by dsimp only; decide,by dsimp only; decide,?_⟩,by dsimp only; omega⟩
        dsimp only
        rcases hc with ⟨r,e1,e2⟩ | ⟨r,e1,_⟩ | ⟨_,e1⟩
        ·injection e1 with _ er
         rw [<- h3,List.drop_eq_getElem_cons hi1,e2,<- er]
         rw [CS _ _ _ (by simp; omega),<- List.drop_eq_getElem_cons hi1,List.drop_drop]
         congr 2
        ·injection e1 with er _
         omega
        ·exact absurd a5 (e1 _ _ rfl).1
       ·rw [eH a5]
        simp only [cond_false,aA]
        by_cases a2:l[i+1]=2
        ·rw [a2]
         simp only [beq_self_eq_true,cond_true,aA]
         refine ⟨_,rfl,⟨q,rfl,by dsimp only; omega,by dsimp only; omega,by dsimp only; decide,by dsimp only; decide,?_⟩,by dsimp only; omega⟩
         dsimp only
         rcases hc with ⟨r,e1,e2⟩ | ⟨r,e1,e2⟩ | ⟨_,e1⟩
         ·injection e1 with er _
          omega
         ·injection e1 with _ er
          rw [<- h3,List.drop_eq_getElem_cons hi1,e2,<- er]
          rw [CS _ _ _ (by simp; omega),<- List.drop_eq_getElem_cons hi1,List.drop_drop]
          congr 2
         ·exact absurd a2 (e1 _ _ rfl).2
        ·rw [eH a2]
         simp only [cond_false,aA]
         refine ⟨_,rfl,⟨q,rfl,by dsimp only; omega,by dsimp only; omega,by dsimp only; omega,by dsimp only; omega,?_⟩,by dsimp only; omega⟩
         dsimp only
         rcases hc with ⟨r,e1,e2⟩ | ⟨r,e1,e2⟩ | ⟨e2,_⟩
         ·injection e1 with er _
          exact absurd er a5
         ·injection e1 with er _
          exact absurd er a2
         ·rw [<- h3,List.drop_eq_getElem_cons hi1,e2,<- List.drop_eq_getElem_cons hi1,List.drop_drop]
          congr 2
      ·rw [decide_eq_false (by omega: ¬ ((i+1:Nat):Int) < l.length)]
       simp only [cond_false,aA]
       rw [List.drop_eq_nil_of_le (i:=i+1) (by omega),List.drop_nil] at h3
       refine ⟨_,rfl,⟨q,rfl,by dsimp only; omega,by dsimp only; omega,by dsimp only; omega,by dsimp only; omega,?_⟩,by dsimp only; omega⟩
       dsimp only
       rw [List.drop_eq_nil_of_le (by omega)]
       exact h3
     ·rw [if_neg hn] at h3
      rw [decide_eq_false hn,cond_false]
      rw [Ma,aA]
      dsimp only
      refine ⟨_,rfl,⟨_,rfl,by dsimp only; omega,by dsimp only; omega,by dsimp only; omega,by dsimp only; omega,?_⟩,by dsimp only; omega⟩
      dsimp only
      rw [show ((i:Int)+1).toNat+((0:Nat):Int).toNat=i+1 by omega,h3]
   ·right
    rw [decide_eq_false (by omega: ¬ (i:Int) < l.length),cond_false]
    rw [List.drop_eq_nil_of_le (by omega),CQ] at h3
    exact ⟨_,rfl,by rw [h3]⟩
  ·rintro r rfl
   rfl
def aO (s:aB):aP:=⟨s9 s.g,s.spot.x,s.spot.y,tst s.spot.aM,s.saved.x,s.saved.y,tst s.saved.aM,s.waiting,s.top,s.aL,s.aY,s.title⟩
structure SJ (W:Nat) (s:aB):Prop where
 gw:s.g.w=W
 gi:GI W s.g.l
 x0:0<=s.spot.x
 x1:s.spot.x < W
 y0:0<=s.spot.y
 y1:s.spot.y < s.g.l.length
 t0:0<=s.top
 tb:s.top<=s.aL
 b1:s.aL < s.g.l.length
structure SI (W:Nat) (s:aB):Prop extends SJ W s where
 wt:s.waiting=true->s.spot.x=W - 1
theorem SJ.ge {W:Nat} {s:aB} (h:SJ W s):s.g=⟨W,s.g.l⟩:=by
 have:=h.gw
 cases hg:s.g
 rw [hg] at this
 simp at this
 rw [this]
def v7 (W:Nat) (off:List aE):Prop:=off.length<=1000 /\ ∀ r∈off,gok W r
theorem py (W:Nat):v7 W []:=⟨by simp,λr hr=>by cases hr⟩
structure Sim (W:Nat) (p:Option (List aE×aB)) (q:Option (aP×List aW)) (off:List aE) (s':aB):Prop where
 p:p=some (off,s')
 q:q=some (aO s',off.map told)
 i:SI W s'
 o:v7 W off
theorem n6 (s:aB):bY s=some (mD s.spot.aM):=by unfold bY; rw [Jl]; rfl
theorem v8 (s:aB):lK (aO s).s=some (mD s.spot.aM):=CP _
theorem rS (g:aX):eD g=some (g.w,(g.l.length:Int)):=rfl
def mvS (s:aB) (x y:Int):aB:=⟨s.g,⟨max 0 (min x (s.g.w - 1)),max 0 (min y ((s.g.l.length:Int) - 1)),s.spot.aM⟩,s.saved,false,s.top,s.aL,s.aY,s.title⟩
theorem oM (n lo hi:Int):iB n lo hi=some (max lo (min n hi)):=by
 unfold iB
 rw [gN,dP]
section
variable {W : Nat} {s : aB}
theorem zo (h:SJ W s):eF s=some (s.g.w - 1,(s.g.l.length:Int) - 1):=by
 have h1:=h.gi.w2
 have h2:=h.gi.l2
 have h3:=h.gw
 unfold eF
 rw [rS,aA]
 dsimp only
 rw [w64 (by omega) (by omega),w64 (by omega) (by omega)]
theorem lS (h:SJ W s) (x y:Int):bH s x y=some (mvS s x y):=by
 unfold bH
 rw [zo h,aA,oM,aA,oM,aA]
 rfl
theorem jW (h:SJ W s) (x y:Int):dO (aO s) x y=some (aO (mvS s x y)):=by
 have h1:=h.gi.w2
 have h2:=h.gi.l2
 have h3:=h.gw
 have e:((aO s).g.l.length:Int)=s.g.l.length:=by simp [aO,s9]
 unfold dO
 rw [e,show (aO s).g.w=s.g.w from rfl,w64 (by omega) (by omega),w64 (by omega) (by omega),gN,gN,dP,dP]
 rfl
theorem oN (h:SJ W s) (x y:Int):SI W (mvS s x y):=by
 have h1:=h.gi.w1
 have h2:=h.gi.l1
 have h3:=h.gw
 exact ⟨⟨h3,h.gi,by simp only [mvS]; omega,by simp only [mvS]; omega,by simp only [mvS]; omega,by simp only [mvS]; omega,h.t0,h.tb,h.b1⟩,λe=>by cases e⟩
theorem SJ.get (h:SJ W s) {y:Int} (h0:0<=y) (h1:y < s.g.l.length):idx (aO s).g.l y=some (told (lZ s.g.l y))/\gok W (lZ s.g.l y):=by
 obtain ⟨n,rfl⟩:=Int.eq_ofNat_of_zero_le h0
 have hn:n < s.g.l.length:=by omega
 rw [show (aO s).g.l=s.g.l.map told from rfl,fZ,List.getElem?_map,List.getElem?_eq_getElem hn]
 exact ⟨by rw [FQ hn]; rfl,by rw [FQ hn]; exact h.gi.rs _ (List.getElem_mem hn)⟩
theorem SJ.Jo (h:SJ W s) (y:Int):fS s.g y=some (lZ s.g.l y):=by
 rw [h.ge]
 exact Oo _ _ _ h.gi.len
def seS (W:Nat) (s:aB) (y:Int) (r:aE):aB:=⟨⟨W,uq W s.g.l y r⟩,s.spot,s.saved,s.waiting,s.top,s.aL,s.aY,s.title⟩
theorem F8 (h:SJ W s) (y:Int) {r:aE} (hr:okR r.cells):SJ W (seS W s y r) :=
 ⟨rfl,I6 h.gi y r hr,h.x0,h.x1,h.y0,by simp only [seS,kV]; exact h.y1,h.t0,h.tb,by simp only [seS,kV]; exact h.b1⟩
theorem SJ.Jp (h:SJ W s) (y:Int) {r:aE} (hr:r.cells.length<=1000000):fF s.g y r=some (inG s.g.l y,⟨W,uq W s.g.l y r⟩):=by
 rw [h.ge]
 exact IQ W h.gi.w2 _ _ _ hr
theorem SJ.P3 (h:SJ W s) (y:Int) {r:aE} (hr:r.cells.length<=1000000):oK (aO s).g y (told r)=some (⟨W,(uq W s.g.l y r).map told⟩,inG s.g.l y):=by
 rw [show (aO s).g=⟨W,s.g.l.map told⟩ by show s9 s.g=_; rw [s9,h.gw]]
 exact LA W h.gi.w2 _ _ _ hr (by have:=h.gi.l2; omega)
theorem tr (h:SJ W s) {r:aE} (hr:r.cells.length<=1000000):kU (aO s) (told r)=some (aO (seS W s s.spot.y r)):=by
 unfold kU
 rw [show (aO s).y=s.spot.y from rfl,h.P3 _ hr,aA]
 rfl
def upS (W:Nat) (s:aB) (n:Int):aB:=⟨⟨W,upL W s.g.l s.top s.aL n (mD s.spot.aM)⟩,s.spot,s.saved,s.waiting,s.top,s.aL,s.aY,s.title⟩
def upF (s:aB) (n:Int):List aE:=if s.top > 0 then [] else upO s.g.l s.top s.aL n
theorem ua (W:Nat) (l:List aE) (t b n q:Int) (h1:1<=l.length):(upL W l t b n q).length=l.length:=by
 unfold upL
 split
 ·rfl
 ·rename_i h
  obtain ⟨e,e1,e2⟩:=qN l t b h h1
  have e3:l.length=(l.take (loS l t)).length+(rgB l t b).length+(l.drop (loS l b+1)).length:=by rw [<- List.length_append,<- List.length_append,<- e]
  rw [List.length_append,List.length_append,y9]
  omega
theorem xi (W:Nat) (l:List aE) (t b n q:Int) (h1:1<=l.length):(th W l t b n q).length=l.length:=by
 unfold th
 split
 ·rfl
 ·rename_i h
  obtain ⟨e,e1,e2⟩:=qN l t b h h1
  have e3:l.length=(l.take (loS l t)).length+(rgB l t b).length+(l.drop (loS l b+1)).length:=by rw [<- List.length_append,<- List.length_append,<- e]
  rw [List.length_append,List.length_append,vM]
  omega
theorem Nz (h:SJ W s) (n:Int):SJ W (upS W s n) :=
 ⟨rfl,Nu h.gi _ _ _ _,h.x0,h.x1,h.y0,by simp only [upS,ua _ _ _ _ _ _ h.gi.l1]; exact h.y1,h.t0,h.tb,by simp only [upS,ua _ _ _ _ _ _ h.gi.l1]; exact h.b1⟩
theorem Jq (h:SJ W s) (n:Int):v7 W (upF s n):=by
 unfold upF
 split
 ·exact py W
 ·exact ⟨Nat.le_trans (LI _ _ _ _) h.gi.l2,λr hr=>h.gi.rs r (LH hr)⟩
theorem Jr (h:SJ W s) (n:Int):je s n=some (upF s n,upS W s n):=by
 unfold je upF
 rw [n6,aA]
 have e:gI s.g s.top s.aL n (mD s.spot.aM)=some (upO s.g.l s.top s.aL n,⟨W,upL W s.g.l s.top s.aL n (mD s.spot.aM)⟩):=by
  rw [h.ge]; exact (Bz h.gi _ _ _ _).1
 rw [e,aA]
 by_cases ht:s.top > 0
 ·rw [decide_eq_true ht,if_pos ht]; rfl
 ·rw [decide_eq_false ht,if_neg ht]; rfl
theorem zp (h:SJ W s):(aO s).g=⟨W,s.g.l.map told⟩:=by show s9 s.g=_; rw [s9,h.gw]
theorem AL (h:SJ W s) (n:Int):nT (aO s) n=some (aO (upS W s n),(upF s n).map told):=by
 unfold nT upF
 rw [v8,aA,zp h,show (aO s).top=s.top from rfl,show (aO s).aL=s.aL from rfl,(Bz h.gi _ _ _ _).2,aA]
 by_cases ht:s.top > 0
 ·rw [decide_eq_true ht,if_pos ht]; rfl
 ·rw [decide_eq_false ht,if_neg ht]; rfl
def nwS (s:aB):aB:=⟨s.g,s.spot,s.saved,false,s.top,s.aL,s.aY,s.title⟩
theorem mQ (h:SJ W s):SJ W (nwS s):=⟨h.gw,h.gi,h.x0,h.x1,h.y0,h.y1,h.t0,h.tb,h.b1⟩
def liS (W:Nat) (s:aB):aB:=if s.spot.y=s.aL then upS W (nwS s) 1 else mvS (nwS s) s.spot.x (s.spot.y+1)
def liF (s:aB):List aE:=if s.spot.y=s.aL then upF (nwS s) 1 else []
theorem jb (h:SJ W s):Sim W (dF s) (jn (aO s)) (liF s) (liS W s):=by
 have h1:=h.y1
 have h2:=h.gi.l2
 have h3:=h.y0
 by_cases hy:s.spot.y=s.aL
 ·refine ⟨?_,?_,?_,?_⟩
  ·unfold dF liF liS
   rw [mS hy,cond_true,if_pos hy,if_pos hy,<- nwS,Jr (mQ h)]; rfl
  ·unfold jn liF liS
   rw [show ((aO s).y == (aO s).aL)=true from mS hy,cond_true,if_pos hy,if_pos hy]
   have e:=AL (mQ h) 1
   rw [show (aP.mk (aO s).g (aO s).x (aO s).y (aO s).s (aO s).sX (aO s).sY (aO s).sS false (aO s).top (aO s).aL (aO s).aY (aO s).title)=aO (nwS s) from rfl,e]; rfl
  ·unfold liS; rw [if_pos hy]; exact ⟨Nz (mQ h) 1,λe=>by cases e⟩
  ·unfold liF; rw [if_pos hy]; exact Jq (mQ h) 1
 ·refine ⟨?_,?_,?_,?_⟩
  ·unfold dF liF liS
   rw [eH hy,cond_false,if_neg hy,if_neg hy,w64 (by omega) (by omega),<- nwS,lS (mQ h)]; rfl
  ·unfold jn liF liS
   rw [show ((aO s).y == (aO s).aL)=false from eH hy,cond_false,if_neg hy,if_neg hy,show (aO s).y=s.spot.y from rfl,w64 (by omega) (by omega)]
   rw [show (aP.mk (aO s).g (aO s).x s.spot.y (aO s).s (aO s).sX (aO s).sY (aO s).sS false (aO s).top (aO s).aL (aO s).aY (aO s).title)=aO (nwS s) from rfl,show (aO s).x=s.spot.x from rfl,jW (mQ h)]; rfl
  ·unfold liS; rw [if_neg hy]; exact oN (mQ h) _ _
  ·unfold liF; rw [if_neg hy]; exact py W
end
section
variable {W : Nat} {s : aB}
theorem gok.le {W:Nat} {r:aE} (h:gok W r) (hW:W<=1000):r.cells.length<=1000:=by rw [h.1]; exact hW
theorem Js {l:List aG} (h:okR l) (q:Int):okR (qd l q):=vJ h _ (show rok 32 from ⟨by decide,by decide⟩)
theorem Hm (l:List aG) (q:Int):(qd l q).length=l.length:=by simp [qd]
def r1S (s:aB):aE:=⟨(lZ s.g.l s.spot.y).cells,true⟩
def r2S (s:aB):aE:=⟨jL 0 (qd (lZ s.g.l s.spot.y).cells (mD s.spot.aM)),true⟩
def r3S (s:aB) (r:Int):aE:=⟨jL 0 (wV (lZ s.g.l s.spot.y).cells s.spot.x r (mD s.spot.aM)),false⟩
theorem SJ.row (h:SJ W s):gok W (lZ s.g.l s.spot.y):=(h.get h.y0 h.y1).2
theorem NA (h:SJ W s):gok W (r1S s):=⟨h.row.1,h.row.2⟩
theorem NB (h:SJ W s):gok W (r2S s):=⟨by simp only [r2S,lP,Hm]; exact h.row.1,qM _ _ (Js h.row.2 _)⟩
theorem P4 (h:SJ W s) {r:Int} (hr:rok r):gok W (r3S s r):=⟨by simp only [r3S,lP,xP]; exact h.row.1,qM _ _ (Ls h.row.2 _ _ hr)⟩
theorem Jt (h:SJ W s):(r1S s).cells.length<=1000000:=by have:=(NA h).le h.gi.w2; omega
theorem Ju (h:SJ W s):(r2S s).cells.length<=1000000:=by have:=(NB h).le h.gi.w2; omega
theorem qg (h:SJ W s):(lZ s.g.l s.spot.y).cells.length<=1000:=h.row.le h.gi.w2
theorem Jv (h:SJ W s) (r:Int):(r3S s r).cells.length<=1000000:=by have:=qg h; simp only [r3S,lP,xP]; omega
theorem Jw (h:SJ W s):cW s=some (seS W s s.spot.y (r1S s)):=by
 unfold cW
 rw [h.Jo,aA,show jH (lZ s.g.l s.spot.y)=some (r1S s) from rfl,aA,h.Jp _ (Jt h),aA]
 rfl
theorem Jx (h:SJ W s):cX s=some (seS W s s.spot.y (r2S s)):=by
 unfold cX jI
 have hl:=qg h
 rw [h.Jo,aA,n6,aA,fill_eq _ _ (by omega),aA,aA]
 rw [<- r2S,h.Jp _ (Ju h),aA]
 rfl
theorem SJ.xr (h:SJ W s): -9223372036854775808<=s.spot.x/\s.spot.x<=9223372036854775807:=by
 have h1:=h.x0
 have h2:=h.x1
 have h3:=h.gi.w2
 omega
theorem Jy (h:SJ W s) (r:Int):dM s r=some (seS W s s.spot.y (r3S s r)):=by
 unfold dM jJ
 have hl:=qg h
 rw [h.Jo,aA,n6,aA,put_eq _ _ _ _ (by omega) h.xr.1 h.xr.2,aA,aA]
 rw [<- r3S,h.Jp _ (Jv h r),aA]
 rfl
theorem OI (h:SJ W s):nR (told (lZ s.g.l s.spot.y)) (mD s.spot.aM)=some (told (r2S s)):=by
 have hl:=qg h
 have:=IJ (lZ s.g.l s.spot.y).cells (lZ s.g.l s.spot.y).wrapped (mD s.spot.aM) (by omega)
 rw [told,this]
 rfl
theorem OJ (h:SJ W s) {r:Int} (hr:rok r):p9 (told (lZ s.g.l s.spot.y)) s.spot.x r (mD s.spot.aM)=some (told (r3S s r)):=by
 have hl:=qg h
 have:=Lr (lZ s.g.l s.spot.y).cells (lZ s.g.l s.spot.y).wrapped s.spot.x r (mD s.spot.aM) (by omega) h.xr.1 h.xr.2 hr.1 hr.2
 rw [told,this]
 rfl
def xS (s:aB) (x:Int):aB:=⟨s.g,⟨x,s.spot.y,s.spot.aM⟩,s.saved,s.waiting,s.top,s.aL,s.aY,s.title⟩
theorem CU (h:SJ W s) {x:Int} (h0:0<=x) (h1:x < W):SJ W (xS s x):=⟨h.gw,h.gi,h0,h1,h.y0,h.y1,h.t0,h.tb,h.b1⟩
theorem w0 (h:SJ W s):(0:Int) < W:=by have:=h.gi.w1; omega
theorem CV (s:aB):(liS W s).spot.aM=s.spot.aM:=by unfold liS; split <;> rfl
theorem Q4 (h:SJ W s) (hx:s.spot.x=0):(liS W s).spot.x=0:=by
 have h1:=h.gi.w1
 have h2:=h.gw
 unfold liS
 split
 ·exact hx
 ·simp only [mvS,nwS,hx]
  omega
def aS (W:Nat) (s:aB):aB:=if s.waiting=true/\s.aY=true then liS W (xS (seS W s s.spot.y (r1S s)) 0) else s
def aF (W:Nat) (s:aB):List aE:=if s.waiting=true/\s.aY=true then liF (xS (seS W s s.spot.y (r1S s)) 0) else []
theorem F9 (h:SJ W s):SJ W (xS (seS W s s.spot.y (r1S s)) 0):=CU (F8 h _ (NA h).2) (Int.le_refl 0) (w0 h)
theorem Me (h:SJ W s):SJ W (aS W s):=by
 unfold aS
 split
 ·exact (jb (F9 h)).i.toSJ
 ·exact h
theorem Jz (h:SJ W s):v7 W (aF W s):=by
 unfold aF
 split
 ·exact (jb (F9 h)).o
 ·exact py W
theorem Mf (s:aB):(aS W s).spot.aM=s.spot.aM:=by
 unfold aS
 split
 ·rw [CV]; rfl
 ·rfl
def bS (W:Nat) (s:aB) (n:Int):aB:=if s.spot.x+n > W then (if s.aY=true then liS W (xS (seS W s s.spot.y (r2S s)) 0) else xS s (s.spot.x - 1)) else s
def bF (W:Nat) (s:aB) (n:Int):List aE:=if s.spot.x+n > W then (if s.aY=true then liF (xS (seS W s s.spot.y (r2S s)) 0) else []) else []
theorem CW (h:SJ W s):SJ W (xS (seS W s s.spot.y (r2S s)) 0):=CU (F8 h _ (NB h).2) (Int.le_refl 0) (w0 h)
theorem OK (h:SJ W s) {n:Int} (hn:n=1\/n=2) (hw:n<=W):SJ W (bS W s n)/\(bS W s n).spot.x+n<=W/\(bS W s n).spot.aM=s.spot.aM:=by
 have h1:=h.x1
 unfold bS
 split
 ·rename_i hx
  split
  ·refine ⟨(jb (CW h)).i.toSJ,?_,by rw [CV]; rfl⟩
   rw [Q4 (CW h) rfl]
   omega
  ·refine ⟨CU h (by omega) (by omega),?_,rfl⟩
   simp only [xS]
   omega
 ·exact ⟨h,by omega,rfl⟩
theorem P5 (h:SJ W s) (n:Int):v7 W (bF W s n):=by
 unfold bF
 split
 ·split
  ·exact (jb (CW h)).o
  ·exact py W
 ·exact py W
def cS (W:Nat) (s:aB) (r n:Int):aB:=⟨⟨W,uq W s.g.l s.spot.y (r3S s r)⟩,⟨min (s.spot.x+n) (W - 1),s.spot.y,s.spot.aM⟩,s.saved,s.spot.x+n == W,s.top,s.aL,s.aY,s.title⟩
def prS (W:Nat) (s:aB) (r:Int):aB:=if ofS r=0\/ofS r > W then s else cS W (bS W (aS W s) (ofS r)) r (ofS r)
def prF (W:Nat) (s:aB) (r:Int):List aE:=if ofS r=0\/ofS r > W then [] else aF W s++bF W (aS W s) (ofS r)
theorem BO {a b:Nat} (ha:a<=1000000) (hb:b<=1000000):chk (eI a b 32)=some ():=bL (by omega)
theorem v7.l {off:List aE} (h:v7 W off):off.length<=1000000:=by have:=h.1; omega
theorem Q5 (h:SJ W s) {n r:Int} (hn:n=1\/n=2) (hx:s.spot.x+n<=W) (hr:rok r):SI W (cS W s r n):=by
 have h1:=h.x0
 have h2:=h.gi.w1
 refine ⟨⟨rfl,I6 h.gi _ _ (P4 h hr).2,?_,?_,h.y0,?_,h.t0,h.tb,?_⟩,?_⟩
 ·simp only [cS]; omega
 ·simp only [cS]; omega
 ·simp only [cS,kV]; exact h.y1
 ·simp only [cS,kV]; exact h.b1
 ·intro e
  simp only [cS,beq_iff_eq] at e ⊢
  omega
theorem Mg (h:SJ W s) (r:Int):iW s r=some (prF W s r,prS W s r):=by
 have hw2:=h.gi.w2
 unfold iW prF prS
 rw [of_eq,aA,rS,aA,h.gw]
 dsimp only
 have e0:((bif (ofS r == 0) then some true else some (decide (ofS r > (W:Int)))):Option Bool)=some (decide (ofS r=0\/ofS r > W)):=by
  by_cases h1:ofS r=0
  ·rw [mS h1,cond_true,decide_eq_true (.inl h1)]
  ·rw [eH h1,cond_false]
   congr 1
   exact decide_eq_decide.2 ⟨.inr,λh=>h.resolve_left h1⟩
 rw [e0,aA]
 by_cases hc:ofS r=0\/ofS r > W
 ·rw [decide_eq_true hc,cond_true,if_pos hc,if_pos hc]
 ·rw [decide_eq_false hc,cond_false,if_neg hc,if_neg hc]
  have hn:ofS r=1\/ofS r=2:=by rcases qL r with h | h | h <;> omega
  generalize hnn:ofS r=n at hc hn ⊢
  have ea:((bif s.waiting then some s.aY else some false):Option Bool)=some (decide (s.waiting=true/\s.aY=true)):=by cases s.waiting <;> cases s.aY <;> rfl
  rw [ea,aA]
  have eA:((bif decide (s.waiting=true/\s.aY=true) then (Option.bind (cW s) λa=>(Option.bind (dF (aB.mk a.g (eL.mk 0 a.spot.y a.spot.aM) a.saved a.waiting a.top a.aL a.aY a.title)) λc=>(Option.bind (chk (eI ([]:List aE).length c.1.length 32)) λ_=>some ((([]:List aE)++c.1),c.2.g,c.2)))) else some ([],s.g,s)):Option ((List aE)×aX×aB))=some (aF W s,(aS W s).g,aS W s):=by
   unfold aF aS
   by_cases hb:s.waiting=true/\s.aY=true
   ·rw [decide_eq_true hb,cond_true,if_pos hb,if_pos hb,Jw h,aA]
    have e1:=jb (F9 h)
    rw [show (aB.mk (seS W s s.spot.y (r1S s)).g (eL.mk 0 (seS W s s.spot.y (r1S s)).spot.y (seS W s s.spot.y (r1S s)).spot.aM) (seS W s s.spot.y (r1S s)).saved (seS W s s.spot.y (r1S s)).waiting (seS W s s.spot.y (r1S s)).top (seS W s s.spot.y (r1S s)).aL (seS W s s.spot.y (r1S s)).aY (seS W s s.spot.y (r1S s)).title)=xS (seS W s s.spot.y (r1S s)) 0 from rfl,e1.p,aA]
    dsimp only
    rw [BO (by simp) e1.o.l,aA,List.nil_append]
   ·rw [decide_eq_false hb,cond_false,if_neg hb,if_neg hb]
  rw [eA,aA]
  dsimp only
  have hA:=Me h
  have hAx:=hA.x1
  have hA0:=hA.x0
  have hFo:=(Jz h).l
  generalize hs1:aS W s=s1 at *
  generalize aF W s=o1 at *
  rw [w64 (x:=s1.spot.x+n) (by omega) (by omega)]
  have hB:=OK hA hn (by omega:n<=W)
  have eB: ∀ g:aX,g=s1.g->((bif (decide (s1.spot.x+n > (W:Int))) then (bif s1.aY then (Option.bind (cX (aB.mk g s1.spot s1.saved s1.waiting s1.top s1.aL s1.aY s1.title)) λb=>(Option.bind (dF (aB.mk b.g (eL.mk 0 b.spot.y b.spot.aM) b.saved b.waiting b.top b.aL b.aY b.title)) λd=>(Option.bind (chk (eI o1.length d.1.length 32)) λ_=>some ((o1++d.1),d.2.g,d.2)))) else some (o1,g,(aB.mk g (eL.mk (IntKind.i64.wrap (s1.spot.x - 1)) s1.spot.y s1.spot.aM) s1.saved s1.waiting s1.top s1.aL s1.aY s1.title))) else some (o1,g,(aB.mk g s1.spot s1.saved s1.waiting s1.top s1.aL s1.aY s1.title))):Option ((List aE)×aX×aB))=some (o1++bF W s1 n,(bS W s1 n).g,bS W s1 n):=by
   rintro g rfl
   unfold bF bS
   by_cases hx:s1.spot.x+n > W
   ·rw [decide_eq_true hx,cond_true,if_pos hx,if_pos hx]
    cases hwr:s1.aY with
    | true =>
     rw [cond_true,if_pos rfl,if_pos rfl]
     have e2:(aB.mk s1.g s1.spot s1.saved s1.waiting s1.top s1.aL true s1.title)=s1:=by rw [<- hwr]
     rw [e2,Jx hA,aA]
     have e1:=jb (CW hA)
     rw [show (aB.mk (seS W s1 s1.spot.y (r2S s1)).g (eL.mk 0 (seS W s1 s1.spot.y (r2S s1)).spot.y (seS W s1 s1.spot.y (r2S s1)).spot.aM) (seS W s1 s1.spot.y (r2S s1)).saved (seS W s1 s1.spot.y (r2S s1)).waiting (seS W s1 s1.spot.y (r2S s1)).top (seS W s1 s1.spot.y (r2S s1)).aL (seS W s1 s1.spot.y (r2S s1)).aY (seS W s1 s1.spot.y (r2S s1)).title)=xS (seS W s1 s1.spot.y (r2S s1)) 0 from rfl,e1.p,aA]
     dsimp only
     rw [BO hFo e1.o.l,aA]
    | false =>
     rw [cond_false,if_neg (by simp),if_neg (by simp),w64 (by omega) (by omega),List.append_nil]
     simp only [xS,hwr]
   ·rw [decide_eq_false hx,cond_false,if_neg hx,if_neg hx,List.append_nil]
  rw [eB _ rfl,aA]
  dsimp only
  obtain ⟨hB1,hB2,hB3⟩:=hB
  have hBx:=hB1.x0
  generalize bS W s1 n=s2 at *
  generalize o1++bF W s1 n=o2
  rw [show (aB.mk s2.g s2.spot s2.saved s2.waiting s2.top s2.aL s2.aY s2.title)=s2 from rfl,Jy hB1,aA]
  unfold cS
  simp only [seS]
  rw [w64 (by omega) (by omega),w64 (by omega) (by omega),dP]
end
section
variable {W : Nat} {s : aB}
theorem SJ.Mh (h:SJ W s):idx (aO s).g.l (aO s).y=some (told (lZ s.g.l s.spot.y)):=(h.get h.y0 h.y1).1
theorem OL (h:SJ W s) {r:Int} (hr:rok r):rI (aO s) r=some (aO (prS W s r),(prF W s r).map told):=by
 have hw2:=h.gi.w2
 unfold rI prF prS
 rw [IK r hr.1 hr.2,aA,show (aO s).g.w=(W:Int) from h.gw]
 have e0:((bif (ofS r == 0) then some true else some (decide (ofS r > (W:Int)))):Option Bool)=some (decide (ofS r=0\/ofS r > W)):=by
  by_cases h1:ofS r=0
  ·rw [mS h1,cond_true,decide_eq_true (.inl h1)]
  ·rw [eH h1,cond_false]
   congr 1
   exact decide_eq_decide.2 ⟨.inr,λh=>h.resolve_left h1⟩
 rw [e0,aA]
 by_cases hc:ofS r=0\/ofS r > W
 ·rw [decide_eq_true hc,cond_true,if_pos hc,if_pos hc]; rfl
 ·rw [decide_eq_false hc,cond_false,if_neg hc,if_neg hc,v8,aA]
  have hn:ofS r=1\/ofS r=2:=by rcases qL r with h | h | h <;> omega
  generalize hnn:ofS r=n at hc hn ⊢
  have ea:((bif (aO s).waiting then some (aO s).aY else some false):Option Bool)=some (decide (s.waiting=true/\s.aY=true)):=by
   show ((bif s.waiting then some s.aY else some false):Option Bool)=_
   cases s.waiting <;> cases s.aY <;> rfl
  rw [ea,aA]
  have eA:((bif decide (s.waiting=true/\s.aY=true) then (Option.bind (idx (aO s).g.l (aO s).y) λe=>(Option.bind (kU (aO s) (aW.mk e.l true)) λa=>(Option.bind (jn (aP.mk a.g 0 a.y a.s a.sX a.sY a.sS a.waiting a.top a.aL a.aY a.title)) λc=>(Option.bind (chk (eI ([]:List aW).length c.2.length 32)) λ_=>some ((([]:List aW)++c.2),c.1))))) else some (([]:List aW),aO s)):Option ((List aW)×aP))=some ((aF W s).map told,aO (aS W s)):=by
   unfold aF aS
   by_cases hb:s.waiting=true/\s.aY=true
   ·rw [decide_eq_true hb,cond_true,if_pos hb,if_pos hb,h.Mh,aA]
    rw [show (aW.mk (told (lZ s.g.l s.spot.y)).l true)=told (r1S s) from rfl,tr h (Jt h),aA]
    have e1:=jb (F9 h)
    have e2:=e1.q
    rw [show aO (xS (seS W s s.spot.y (r1S s)) 0)=(aP.mk (aO (seS W s s.spot.y (r1S s))).g 0 (aO (seS W s s.spot.y (r1S s))).y (aO (seS W s s.spot.y (r1S s))).s (aO (seS W s s.spot.y (r1S s))).sX (aO (seS W s s.spot.y (r1S s))).sY (aO (seS W s s.spot.y (r1S s))).sS (aO (seS W s s.spot.y (r1S s))).waiting (aO (seS W s s.spot.y (r1S s))).top (aO (seS W s s.spot.y (r1S s))).aL (aO (seS W s s.spot.y (r1S s))).aY (aO (seS W s s.spot.y (r1S s))).title) from rfl] at e2
    rw [e2,aA]
    dsimp only
    rw [BO (by simp) (by rw [List.length_map]; exact e1.o.l),aA,List.nil_append]
   ·rw [decide_eq_false hb,cond_false,if_neg hb,if_neg hb]; rfl
  rw [eA,aA]
  dsimp only
  have hA:=Me h
  have hst:(aS W s).spot.aM=s.spot.aM:=Mf s
  have hAx:=hA.x1
  have hA0:=hA.x0
  have hFo:=(Jz h).l
  generalize hs1:aS W s=s1 at *
  generalize aF W s=o1 at *
  have hB:=OK hA hn (by omega:n<=W)
  have eb:((bif (n == 2) then some ((aO s1).x == (IntKind.i64.wrap ((aO s1).g.w - 1))) else some false):Option Bool)=some (decide (s1.spot.x+n > W)):=by
   rw [show (aO s1).g.w=(W:Int) from hA.gw,show (aO s1).x=s1.spot.x from rfl,w64 (by omega) (by omega)]
   by_cases h2:n=2
   ·rw [mS h2,cond_true]
    by_cases hx:s1.spot.x=(W:Int) - 1
    ·rw [mS hx,decide_eq_true (by omega)]
    ·rw [eH hx,decide_eq_false (by omega)]
   ·rw [eH h2,cond_false,decide_eq_false (by omega)]
  rw [eb,aA]
  have eB:((bif decide (s1.spot.x+n > (W:Int)) then (bif (aO s1).aY then (Option.bind (idx (aO s1).g.l (aO s1).y) λf=>(Option.bind (nR f (mD s.spot.aM)) λi=>(Option.bind (kU (aO s1) i) λb=>(Option.bind (jn (aP.mk b.g 0 b.y b.s b.sX b.sY b.sS b.waiting b.top b.aL b.aY b.title)) λd=>(Option.bind (chk (eI (o1.map told).length d.2.length 32)) λ_=>some ((o1.map told++d.2),d.1)))))) else some (o1.map told,(aP.mk (aO s1).g (IntKind.i64.wrap ((aO s1).x - 1)) (aO s1).y (aO s1).s (aO s1).sX (aO s1).sY (aO s1).sS (aO s1).waiting (aO s1).top (aO s1).aL (aO s1).aY (aO s1).title))) else some (o1.map told,aO s1)):Option ((List aW)×aP))=some ((o1++bF W s1 n).map told,aO (bS W s1 n)):=by
   unfold bF bS
   by_cases hx:s1.spot.x+n > W
   ·rw [decide_eq_true hx,cond_true,if_pos hx,if_pos hx,show (aO s1).aY=s1.aY from rfl]
    cases hwr:s1.aY with
    | true =>
     rw [cond_true,if_pos rfl,if_pos rfl,hA.Mh,aA,<- hst,OI hA,aA,tr hA (Ju hA),aA]
     have e1:=jb (CW hA)
     have e2:=e1.q
     rw [show aO (xS (seS W s1 s1.spot.y (r2S s1)) 0)=(aP.mk (aO (seS W s1 s1.spot.y (r2S s1))).g 0 (aO (seS W s1 s1.spot.y (r2S s1))).y (aO (seS W s1 s1.spot.y (r2S s1))).s (aO (seS W s1 s1.spot.y (r2S s1))).sX (aO (seS W s1 s1.spot.y (r2S s1))).sY (aO (seS W s1 s1.spot.y (r2S s1))).sS (aO (seS W s1 s1.spot.y (r2S s1))).waiting (aO (seS W s1 s1.spot.y (r2S s1))).top (aO (seS W s1 s1.spot.y (r2S s1))).aL (aO (seS W s1 s1.spot.y (r2S s1))).aY (aO (seS W s1 s1.spot.y (r2S s1))).title) from rfl] at e2
     rw [e2,aA]
     dsimp only
     rw [BO (by rw [List.length_map]; exact hFo) (by rw [List.length_map]; exact e1.o.l),aA,List.map_append]
    | false =>
     rw [cond_false,if_neg (by simp),if_neg (by simp),show (aO s1).x=s1.spot.x from rfl,w64 (by omega) (by omega),List.append_nil]
     simp only [xS,hwr,aO]
   ·rw [decide_eq_false hx,cond_false,if_neg hx,if_neg hx,List.append_nil]
  rw [eB,aA]
  dsimp only
  obtain ⟨hB1,hB2,hB3⟩:=hB
  have hBx:=hB1.x0
  have hst2:(bS W s1 n).spot.aM=s.spot.aM:=by rw [hB3,hst]
  generalize bS W s1 n=s2 at *
  generalize o1++bF W s1 n=o2
  rw [hB1.Mh,aA,show (aO s2).x=s2.spot.x from rfl,<- hst2,OJ hB1 hr,aA,tr hB1 (Jv hB1 r),aA]
  rw [show (aO (seS W s2 s2.spot.y (r3S s2 r))).x=s2.spot.x from rfl,show (aO (seS W s2 s2.spot.y (r3S s2 r))).g.w=(W:Int) from rfl,w64 (by omega) (by omega),w64 (by omega) (by omega)]
  unfold cS
  by_cases hx:s2.spot.x+n=W
  ·rw [mS hx,cond_true,aA,show min (s2.spot.x+n) ((W:Int) - 1)=s2.spot.x+n - 1 by omega]; rfl
  ·rw [eH hx,cond_false,aA,show min (s2.spot.x+n) ((W:Int) - 1)=s2.spot.x+n by omega]; rfl
theorem P6 (h:SI W s) {r:Int} (hr:rok r):SI W (prS W s r):=by
 unfold prS
 split
 ·exact h
 ·rename_i hc
  have hn:ofS r=1\/ofS r=2:=by rcases qL r with h | h | h <;> omega
  have hB:=OK (Me h.toSJ) hn (by omega)
  exact Q5 hB.1 hn hB.2.1 hr
theorem OM (h:SJ W s) {r:Int}:(prF W s r).length<=2000 /\ ∀ q∈prF W s r,gok W q:=by
 unfold prF
 split
 ·exact ⟨by simp,λr hr=>by cases hr⟩
 ·have h1:=Jz h
  have h2:=P5 (Me h) (ofS r)
  refine ⟨by rw [List.length_append]; have:=h1.1; have:=h2.1; omega,λq hq=> ?_⟩
  rcases List.mem_append.1 hq with hq | hq
  ·exact h1.2 q hq
  ·exact h2.2 q hq
end
def atS (l:List Int) (i:Nat) (d:Int):Int:=match l[i]? with
 | some n=>if n<=0 then d else min n 9999
 | none=>d
theorem AM (a:aZ) (i:Nat) (d:Int):fB a (i:Int) d=some (atS a.bJ i d):=by
 unfold fB atS
 by_cases hi:i < a.bJ.length
 ·rw [decide_eq_false (by omega: ¬ (i:Int)>=(a.bJ.length:Int)),cond_false]
  simp only [cU _ _ hi,aA,List.getElem?_eq_getElem hi]
  by_cases h:a.bJ[i]<=0
  ·rw [decide_eq_true h,cond_true,if_pos h]
  ·rw [decide_eq_false h,cond_false,if_neg h,dP]
 ·rw [decide_eq_true (by omega:(i:Int)>=(a.bJ.length:Int)),cond_true,aA,cond_true,List.getElem?_eq_none (by omega)]
theorem qS (l:List Int) (i:Nat) (d:Int):fQ l (i:Int) d=some (atS l i d):=by
 unfold fQ atS
 by_cases hi:i < l.length
 ·rw [decide_eq_true (by omega:(i:Int) < (l.length:Int)),cond_true]
  simp only [cU _ _ hi,aA,List.getElem?_eq_getElem hi]
  by_cases h:l[i]<=0
  ·rw [decide_eq_false (by omega),cond_false,if_pos h]
  ·rw [decide_eq_true (by omega),cond_true,if_neg h,dP]
 ·rw [decide_eq_false (by omega: ¬ (i:Int) < (l.length:Int)),cond_false,aA,cond_false,List.getElem?_eq_none (by omega)]
theorem xj (l:List Int) (i:Nat) {d:Int} (h0:0<=d) (h1:d<=9999):0<=atS l i d/\atS l i d<=9999/\(1<=d->1<=atS l i d):=by
 unfold atS
 split
 ·split <;> omega
 ·omega
section
variable {W : Nat} {s : aB}
def dnS (W:Nat) (s:aB) (t b n:Int):aB:=⟨⟨W,th W s.g.l t b n (mD s.spot.aM)⟩,s.spot,s.saved,s.waiting,s.top,s.aL,s.aY,s.title⟩
def upT (W:Nat) (s:aB) (t b n:Int):aB:=⟨⟨W,upL W s.g.l t b n (mD s.spot.aM)⟩,s.spot,s.saved,s.waiting,s.top,s.aL,s.aY,s.title⟩
theorem CX (h:SJ W s) (t b n:Int):SJ W (dnS W s t b n) :=
 ⟨rfl,LG h.gi _ _ _ _,h.x0,h.x1,h.y0,by simp only [dnS,xi _ _ _ _ _ _ h.gi.l1]; exact h.y1,h.t0,h.tb,by simp only [dnS,xi _ _ _ _ _ _ h.gi.l1]; exact h.b1⟩
theorem EW (h:SJ W s) (t b n:Int):SJ W (upT W s t b n) :=
 ⟨rfl,Nu h.gi _ _ _ _,h.x0,h.x1,h.y0,by simp only [upT,ua _ _ _ _ _ _ h.gi.l1]; exact h.y1,h.t0,h.tb,by simp only [upT,ua _ _ _ _ _ _ h.gi.l1]; exact h.b1⟩
theorem zq (h:SJ W s) (t b n:Int):eU s.g t b n (mD s.spot.aM)=some (uI s.g.l t b n,(dnS W s t b n).g):=by
 rw [h.ge]; exact (Cy h.gi _ _ _ _).1
theorem zr (h:SJ W s) (t b n:Int):eR (aO s).g false t b n (mD s.spot.aM)=some ((aO (dnS W s t b n)).g,(uI s.g.l t b n).map told):=by
 rw [zp h]; exact (Cy h.gi _ _ _ _).2
theorem ON (h:SJ W s) (t b n:Int):gI s.g t b n (mD s.spot.aM)=some (upO s.g.l t b n,(upT W s t b n).g):=by
 rw [h.ge]; exact (Bz h.gi _ _ _ _).1
theorem Mi (h:SJ W s) (t b n:Int):eR (aO s).g true t b n (mD s.spot.aM)=some ((aO (upT W s t b n)).g,(upO s.g.l t b n).map told):=by
 rw [zp h]; exact (Bz h.gi _ _ _ _).2
def baS (W:Nat) (s:aB):aB:=if s.spot.y=s.top then dnS W (nwS s) s.top s.aL 1 else mvS (nwS s) s.spot.x (s.spot.y - 1)
theorem P7 (h:SJ W s):SI W (baS W s):=by
 unfold baS
 split
 ·exact ⟨CX (mQ h) _ _ _,λe=>by cases e⟩
 ·exact oN (mQ h) _ _
theorem yr (h:SJ W s):0<=s.spot.y/\s.spot.y < 1000/\0<=s.spot.x/\s.spot.x < 1000:=by
 have h1:=h.gi.w2
 have h2:=h.gi.l2
 have h3:=h.y1
 have h4:=h.x1
 have h5:=h.y0
 have h6:=h.x0
 omega
theorem back_eq (h:SJ W s):jC s=some (baS W s):=by
 have hy:=yr h
 unfold jC baS
 rw [<- nwS]
 by_cases c:s.spot.y=s.top
 ·rw [mS c,cond_true,if_pos c,n6,aA]
  have e:=zq (mQ h) s.top s.aL 1
  rw [show (nwS s).g=s.g from rfl] at e
  rw [e,aA]
  rfl
 ·rw [eH c,cond_false,if_neg c,w64 (by omega) (by omega),lS (mQ h),aA]
theorem EX (h:SJ W s):((aO s).g.l.length:Int)=s.g.l.length:=by simp [aO,s9]
def clS (s:aB) (n:Int):aB:=mvS s s.spot.x (max (if s.spot.y>=s.top/\n < 0 then s.top else 0) (min (s.spot.y+n) (if s.spot.y<=s.aL/\n > 0 then s.aL else (s.g.l.length:Int) - 1)))
theorem yy {α:Type} (p:Prop) [Decidable p] (x y:α):((bif decide p then some x else some y):Option α)=some (if p then x else y):=by
 by_cases h:p <;> simp [h]
theorem JA (h:SJ W s) {n:Int} (h0: -9999<=n) (h1:n<=9999):gD s n=some (clS s n):=by
 have hy:=yr h
 unfold gD clS
 rw [zo h,aA]
 rw [show ((bif (decide (s.spot.y>=s.top)) then some (decide (n < 0)) else some false):Option Bool)=_ from Bu _ _,aA,yy,aA]
 rw [show ((bif (decide (s.spot.y<=s.aL)) then some (decide (n > 0)) else some false):Option Bool)=_ from Bu _ _,aA]
 dsimp only
 rw [yy,aA,w64 (by omega) (by omega),oM,aA,lS h,aA]
def erR (s:aB) (y a b:Int):aE:=⟨jL 0 (lQ a b (mD s.spot.aM) 0 (lZ s.g.l y).cells),false⟩
def erS (W:Nat) (s:aB) (y a b:Int):aB:=seS W s y (erR s y a b)
theorem EY (h:SJ W s) {y:Int} (h0:0<=y) (h1:y < s.g.l.length) (a b:Int):gok W (erR s y a b):=by
 have hg:=(h.get h0 h1).2
 exact ⟨by simp only [erR,lP,mZ]; exact hg.1,qM _ _ (wX _ _ _ _ hg.2)⟩
theorem NC (h:SJ W s) {y:Int} (h0:0<=y) (h1:y < s.g.l.length) (a b:Int):SJ W (erS W s y a b):=F8 h _ (EY h h0 h1 a b).2
theorem ub (h:SJ W s) {y:Int} (h0:0<=y) (h1:y < s.g.l.length) (a b:Int):eP s y a b=some (erS W s y a b):=by
 have hg:=(h.get h0 h1).2.le h.gi.w2
 have hr:=(EY h h0 h1 a b).le h.gi.w2
 unfold eP
 rw [h.Jo,aA,n6,aA,erase_eq _ _ _ _ (by omega),aA,<- erR,h.Jp _ (by omega),aA]
 rfl
theorem vg (h:SJ W s) {y:Int} (h0:0<=y) (h1:y < s.g.l.length) (a b:Int):mc (aO s) y a b=some (aO (erS W s y a b)):=by
 have hg:=(h.get h0 h1).2.le h.gi.w2
 have hr:=(EY h h0 h1 a b).le h.gi.w2
 unfold mc
 have e:oB (told (lZ s.g.l y)) a b (mD s.spot.aM)=some (told (erR s y a b)):=by
  rw [told,G6 (lZ s.g.l y).cells (lZ s.g.l y).wrapped a b _ (by omega)]; rfl
 rw [(h.get h0 h1).1,aA,v8,aA,e,aA,h.P3 _ (by omega),aA]
 rfl
def paA (s:aB) (n:Int):Int:=if n=0 then s.spot.x else 0
def paB (W:Nat) (s:aB) (n:Int):Int:=if n=1 then s.spot.x+1 else W
def paS (W:Nat) (s:aB) (n:Int):aB:=if n > 2 then s else nwS (erS W s s.spot.y (paA s n) (paB W s n))
theorem Ga (h:SJ W s) {n:Int} (hn:0<=n):gT s n=some (paS W s n):=by
 have hy:=yr h
 unfold gT paS paA paB
 rw [rS,aA,h.gw]
 dsimp only
 rw [w64 (x:=s.spot.x+1) (by omega) (by omega)]
 have e: ∀ t:aB,((bif t.waiting then some (aB.mk t.g t.spot t.saved false t.top t.aL t.aY t.title) else some (aB.mk t.g t.spot t.saved false t.top t.aL t.aY t.title)):Option aB)=some (nwS t):=λt=>by cases t.waiting <;> rfl
 by_cases h0:n=0
 ·subst h0
  rw [mS rfl,cond_true,ub h h.y0 h.y1,aA,aA]
  exact e _
 ·rw [eH h0,cond_false]
  by_cases h1:n=1
  ·subst h1
   rw [mS rfl,cond_true,ub h h.y0 h.y1,aA,aA]
   exact e _
  ·rw [eH h1,cond_false]
   by_cases h2:n=2
   ·subst h2
    rw [mS rfl,cond_true,ub h h.y0 h.y1,aA,aA]
    exact e _
   ·rw [eH h2,cond_false,aA,if_pos (by omega:n > 2),decide_eq_true (by omega:n > 2)]
    dsimp only
    cases hw:s.waiting with
    | true=>rw [cond_true,<- hw]
    | false=>rw [cond_false,<- hw]
theorem P8 (h:SI W s) {n:Int}:SI W (paS W s n):=by
 unfold paS
 split
 ·exact h
 ·exact ⟨mQ (NC h.toSJ h.y0 h.y1 _ _),λe=>by cases e⟩
def wpc (s:aB) (n:Int) (k:Nat):Bool:=decide ((k:Int) < s.spot.y/\n≠0/\n<=2\/(k:Int) > s.spot.y/\n≠1/\n<=2)
def wpS (W:Nat) (s:aB) (n:Int):Nat->aB
 | 0=>s
 | k+1=>if wpc s n k then erS W (wpS W s n k) k 0 W else wpS W s n k
theorem v9 (n:Int): ∀ k,(wpS W s n k).spot=s.spot/\(wpS W s n k).g.l.length=s.g.l.length/\(wpS W s n k).waiting=s.waiting
 | 0=>⟨rfl,rfl,rfl⟩
 | k+1=>by
  obtain ⟨h1,h2,h3⟩:=v9 n k
  unfold wpS
  split
  ·exact ⟨h1,by simp only [erS,seS,kV]; exact h2,h3⟩
  ·exact ⟨h1,h2,h3⟩
theorem AN (h:SJ W s) (n:Int): ∀ k,k<=s.g.l.length->SJ W (wpS W s n k)
 | 0,_=>h
 | k+1,hk=>by
  have ih:=AN h n k (by omega)
  unfold wpS
  split
  ·exact NC ih (by omega) (by rw [(v9 n k).2.1]; omega) _ _
  ·exact ih
end
section
variable {W : Nat} {s : aB}
theorem BP (n:Int) (k:Nat):wpS W s n (k+1)=if wpc s n k then erS W (wpS W s n k) k 0 W else wpS W s n k:=rfl
theorem Mj (h:SJ W s) {n:Int} (hn:0<=n):jD s n=some (paS W (wpS W s n s.g.l.length) n):=by
 have hl:=h.gi.l2
 unfold jD
 rw [rS,aA,h.gw]
 dsimp only
 refine fM (λk=>(wpS W s n k,(wpS W s n k).g,(k:Int))) s.g.l.length ((wpS W s n s.g.l.length).g,wpS W s n s.g.l.length) rfl ?_ ?_ ?_
 ·intro k hk
  have hs:=v9 (W:=W) (s:=s) n k
  have hJ:=AN h n k (by omega)
  dsimp only
  rw [decide_eq_true (by omega:(k:Int) < (s.g.l.length:Int)),cond_true,hs.1,BP,w64 (by omega) (by omega)]
  have ec:((bif (decide ((k:Int) < s.spot.y)) then (bif (n == 1) then some true else (bif (decide ((k:Int) > s.spot.y)) then (bif (n == 0) then some true else (bif ((k:Int) != s.spot.y) then some (n == 2) else some false)) else (bif ((k:Int) != s.spot.y) then some (n == 2) else some false))) else (bif (decide ((k:Int) > s.spot.y)) then (bif (n == 0) then some true else (bif ((k:Int) != s.spot.y) then some (n == 2) else some false)) else (bif ((k:Int) != s.spot.y) then some (n == 2) else some false))):Option Bool)=some (wpc s n k):=by
   unfold wpc
   have hb: ∀ b:Bool,(b=true)=b:=λb=>rfl
   by_cases a1:(k:Int) < s.spot.y
   ·have a2: ¬ (k:Int) > s.spot.y:=by omega
    have a3:((k:Int) != s.spot.y)=true:=by simp; omega
    rw [decide_eq_true a1,decide_eq_false a2,a3]
    simp only [cond_true,cond_false]
    by_cases c:n=1
    ·rw [mS c,cond_true,decide_eq_true (by omega)]
    ·rw [eH c,cond_false]
     by_cases c2:n=2
     ·rw [mS c2,decide_eq_true (by omega)]
     ·rw [eH c2,decide_eq_false (by omega)]
   ·rw [decide_eq_false a1,cond_false]
    by_cases a2:(k:Int) > s.spot.y
    ·have a3:((k:Int) != s.spot.y)=true:=by simp; omega
     rw [decide_eq_true a2,a3]
     simp only [cond_true,cond_false]
     by_cases c:n=0
     ·rw [mS c,cond_true,decide_eq_true (by omega)]
     ·rw [eH c,cond_false]
      by_cases c2:n=2
      ·rw [mS c2,decide_eq_true (by omega)]
      ·rw [eH c2,decide_eq_false (by omega)]
    ·have a3:((k:Int) != s.spot.y)=false:=by simp; omega
     rw [decide_eq_false a2,a3]
     simp only [cond_false]
     rw [decide_eq_false (by omega)]
  rw [ec,aA]
  cases hc:wpc s n k with
  | true =>
   rw [cond_true,if_pos rfl,show (aB.mk (wpS W s n k).g s.spot (wpS W s n k).saved (wpS W s n k).waiting (wpS W s n k).top (wpS W s n k).aL (wpS W s n k).aY (wpS W s n k).title)=wpS W s n k by rw [<- hs.1]]
   rw [ub hJ (by omega) (by rw [hs.2.1]; omega),aA,aA]
   rfl
  | false =>
   rw [cond_false,if_neg (by simp),aA]
   dsimp only
   rw [show (aB.mk (wpS W s n k).g s.spot (wpS W s n k).saved (wpS W s n k).waiting (wpS W s n k).top (wpS W s n k).aL (wpS W s n k).aY (wpS W s n k).title)=wpS W s n k by rw [<- hs.1]]
   rfl
 ·dsimp only
  rw [decide_eq_false (by omega: ¬ ((s.g.l.length:Nat):Int) < (s.g.l.length:Int)),cond_false]
 ·dsimp only
  rw [show (aB.mk (wpS W s n s.g.l.length).g (wpS W s n s.g.l.length).spot (wpS W s n s.g.l.length).saved (wpS W s n s.g.l.length).waiting (wpS W s n s.g.l.length).top (wpS W s n s.g.l.length).aL (wpS W s n s.g.l.length).aY (wpS W s n s.g.l.length).title)=wpS W s n s.g.l.length from rfl,Ga (AN h n _ (Nat.le_refl _)) hn,aA]
theorem Gb {n:Int} (hn:n > 2): ∀ k,wpS W s n k=s
 | 0=>rfl
 | k+1=>by
  rw [BP,Gb hn k]
  unfold wpc
  rw [decide_eq_false (by omega),if_neg (by simp)]
def CY (W:Nat) (s:aB) (n:Int) (all:Bool):aB:=paS W (if all then wpS W s n s.g.l.length else s) n
theorem CZ (h:SJ W s) {n:Int} (hn:0<=n) (all:Bool):oC (aO s) n all=some (aO (CY W s n all)):=by
 have hl:=h.gi.l2
 have hy:=yr h
 unfold oC CY
 by_cases h2:n > 2
 ·rw [decide_eq_true h2,cond_true,Gb h2,ite_self]
  unfold paS
  rw [if_pos h2]
 ·rw [decide_eq_false h2,cond_false,EX h]
  refine fM (λk=>(aO (if all then wpS W s n k else s),(k:Int))) s.g.l.length (aO (if all then wpS W s n s.g.l.length else s)) (by cases all <;> rfl) ?_ ?_ ?_
  ·intro k hk
   dsimp only
   rw [decide_eq_true (by omega:(k:Int) < (s.g.l.length:Int)),cond_true,w64 (by omega) (by omega)]
   cases all with
   | false =>
    rw [cond_false,aA,cond_false,aA]
    rfl
   | true =>
    have hs:=v9 (W:=W) (s:=s) n k
    have hJ:=AN h n k (by omega)
    simp only [if_true,cond_true]
    rw [show (aO (wpS W s n k)).y=s.spot.y by show (wpS W s n k).spot.y=_; rw [hs.1],BP]
    have ec:((bif (decide ((k:Int) < s.spot.y)) then (bif (n != 0) then some true else (bif (decide ((k:Int) > s.spot.y)) then some (n != 1) else some false)) else (bif (decide ((k:Int) > s.spot.y)) then some (n != 1) else some false)):Option Bool)=some (wpc s n k):=by
     unfold wpc
     by_cases a1:(k:Int) < s.spot.y
     ·have a2: ¬ (k:Int) > s.spot.y:=by omega
      rw [decide_eq_true a1,decide_eq_false a2]
      simp only [cond_true,cond_false]
      by_cases c:n=0
      ·rw [show (n != 0)=false by simp [c],cond_false,decide_eq_false (by omega)]
      ·rw [show (n != 0)=true by simp [c],cond_true,decide_eq_true (by omega)]
     ·rw [decide_eq_false a1,cond_false]
      by_cases a2:(k:Int) > s.spot.y
      ·rw [decide_eq_true a2,cond_true]
       by_cases c:n=1
       ·rw [show (n != 1)=false by simp [c],decide_eq_false (by omega)]
       ·rw [show (n != 1)=true by simp [c],decide_eq_true (by omega)]
      ·rw [decide_eq_false a2,cond_false,decide_eq_false (by omega)]
    rw [ec,aA]
    cases hc:wpc s n k with
    | true =>
     rw [cond_true,if_pos rfl,show (aO (wpS W s n k)).g.w=(W:Int) from hJ.gw,vg hJ (by omega) (by rw [hs.2.1]; omega),aA,aA]
     rfl
    | false =>
     rw [cond_false,if_neg (by simp),aA]
     rfl
  ·dsimp only
   rw [decide_eq_false (by omega: ¬ ((s.g.l.length:Nat):Int) < (s.g.l.length:Int)),cond_false]
  ·have key: ∀ t:aB,SJ W t->(Option.bind ((bif (n == 0) then some (aO t).x else some 0):Option Int) λb=>(Option.bind ((bif (n == 1) then some (IntKind.i64.wrap ((aO t).x+1)) else some (aO t).g.w):Option Int) λd=>(Option.bind (mc (aO t) (aO t).y b d) λa=>some (aP.mk a.g a.x a.y a.s a.sX a.sY a.sS false a.top a.aL a.aY a.title))))=some (aO (paS W t n)):=by
    intro t ht
    have hy:=yr ht
    rw [show (aO t).x=t.spot.x from rfl,show (aO t).g.w=(W:Int) from ht.gw,show (aO t).y=t.spot.y from rfl,w64 (x:=t.spot.x+1) (by omega) (by omega)]
    have e1:((bif (n == 0) then some t.spot.x else some 0):Option Int)=some (paA t n):=by
     unfold paA
     by_cases c:n=0
     ·rw [mS c,cond_true,if_pos c]
     ·rw [eH c,cond_false,if_neg c]
    have e2:((bif (n == 1) then some (t.spot.x+1) else some (W:Int)):Option Int)=some (paB W t n):=by
     unfold paB
     by_cases c:n=1
     ·rw [mS c,cond_true,if_pos c]
     ·rw [eH c,cond_false,if_neg c]
    rw [e1,aA,e2,aA,vg ht ht.y0 ht.y1,aA]
    unfold paS
    rw [if_neg h2]
    rfl
   refine key _ ?_
   cases all with
   | true=>exact AN h n _ (Nat.le_refl _)
   | false=>exact h
theorem JB (h:SI W s) (n:Int) (all:Bool):SI W (CY W s n all):=by
 unfold CY
 apply P8
 cases all with
 | false=>exact h
 | true =>
  have hs:=v9 (W:=W) (s:=s) n s.g.l.length
  exact ⟨AN h.toSJ n _ (Nat.le_refl _),λe=>by rw [if_pos rfl] at e ⊢; rw [hs.1]; rw [hs.2.2] at e; exact h.wt e⟩
def shS (W:Nat) (s:aB) (b n:Int):aB:=if s.spot.y < s.top\/s.spot.y > s.aL then s else if b=76 then mvS (dnS W s s.spot.y s.aL n) 0 s.spot.y else mvS (upT W s s.spot.y s.aL n) 0 s.spot.y
theorem JC (h:SJ W s) (b n:Int):iY s b n=some (shS W s b n):=by
 unfold iY shS
 rw [show ((bif (decide (s.spot.y < s.top)) then some true else some (decide (s.spot.y > s.aL))):Option Bool)=_ from or2 _ _,aA]
 by_cases c:s.spot.y < s.top\/s.spot.y > s.aL
 ·rw [decide_eq_true c,cond_true,if_pos c]
 ·rw [decide_eq_false c,cond_false,if_neg c]
  by_cases cb:b=76
  ·rw [mS cb,cond_true,if_pos cb,n6,aA,zq h,aA,aA]
   rw [show (aB.mk (uI s.g.l s.spot.y s.aL n,(dnS W s s.spot.y s.aL n).g).snd s.spot s.saved s.waiting s.top s.aL s.aY s.title)=dnS W s s.spot.y s.aL n from rfl,lS (CX h _ _ _),aA]
  ·rw [eH cb,cond_false,if_neg cb,n6,aA,ON h,aA,aA]
   rw [show (aB.mk (upO s.g.l s.spot.y s.aL n,(upT W s s.spot.y s.aL n).g).snd s.spot s.saved s.waiting s.top s.aL s.aY s.title)=upT W s s.spot.y s.aL n from rfl,lS (EW h _ _ _),aA]
theorem P9 (h:SI W s) (b n:Int):SI W (shS W s b n):=by
 unfold shS
 split
 ·exact h
 ·split
  ·exact oN (CX h.toSJ _ _ _) _ _
  ·exact oN (EW h.toSJ _ _ _) _ _
def rgT (s:aB) (l:List Int):Int:=max 1 (min (atS l 0 1) (s.g.l.length:Int)) - 1
def rgU (s:aB) (l:List Int):Int:=max 1 (min (atS l 1 (s.g.l.length:Int)) (s.g.l.length:Int)) - 1
def rnS (s:aB) (t b:Int):aB:=⟨s.g,s.spot,s.saved,s.waiting,t,b,s.aY,s.title⟩
def reS (s:aB) (l:List Int):aB:=if rgT s l < rgU s l then mvS (rnS s (rgT s l) (rgU s l)) 0 0 else s
theorem Qa (h:SJ W s) (l:List Int):0<=rgT s l/\rgT s l < s.g.l.length/\0<=rgU s l/\rgU s l < s.g.l.length:=by
 have h1:=h.gi.l1
 unfold rgT rgU
 omega
theorem JD (h:SJ W s) (l:List Int) (c:rgT s l < rgU s l):SJ W (rnS s (rgT s l) (rgU s l)):=by
 have hr:=Qa h l
 exact ⟨h.gw,h.gi,h.x0,h.x1,h.y0,h.y1,hr.1,by simp only [rnS]; omega,by simp only [rnS]; omega⟩
theorem EZ (h:SJ W s) (a:aZ):iH s a=some (reS s a.bJ):=by
 have hl:=h.gi.l2
 have hl1:=h.gi.l1
 unfold iH reS
 rw [rS,aA,show fB a 0 1=_ from AM a 0 1,aA,oM,aA]
 dsimp only
 rw [show fB a 1 (s.g.l.length:Int)=_ from AM a 1 _,aA,oM,aA,w64 (by omega) (by omega),w64 (by omega) (by omega)]
 rw [<- rgT,<- rgU]
 by_cases c:rgT s a.bJ < rgU s a.bJ
 ·rw [decide_eq_true c,cond_true,if_pos c,<- rnS,lS (JD h _ c),aA]
 ·rw [decide_eq_false c,cond_false,if_neg c]
theorem Qb (h:SI W s) (l:List Int):SI W (reS s l):=by
 unfold reS
 split
 ·exact oN (JD h.toSJ l (by assumption)) _ _
 ·exact h
def ceR (s:aB) (b n:Int):aE:=⟨jL 0 (if b=64 then ins (lZ s.g.l s.spot.y).cells s.spot.x n (mD s.spot.aM) else if b=80 then del (lZ s.g.l s.spot.y).cells s.spot.x n (mD s.spot.aM) else lQ s.spot.x (s.spot.x+n) (mD s.spot.aM) 0 (lZ s.g.l s.spot.y).cells),false⟩
def ceS (W:Nat) (s:aB) (b n:Int):aB:=nwS (seS W s s.spot.y (ceR s b n))
end
theorem Mk (l:List aG) (a n q:Int):(ins l a n q).length=l.length:=by
 unfold ins
 split
 ·rfl
 ·rcases y5 l a n with h | ⟨h1,h2,h3⟩
  ·contradiction
  ·unfold oD
   simp only [List.length_take,List.length_append,List.length_replicate,List.length_drop]
   omega
theorem Ml (l:List aG) (a n q:Int):(del l a n q).length=l.length:=by
 unfold del
 split
 ·rfl
 ·rcases y5 l a n with h | ⟨h1,h2,h3⟩
  ·contradiction
  ·unfold pj
   simp only [List.length_take,List.length_append,List.length_replicate,List.length_drop]
   omega
theorem OO {l:List aG} (h:okR l) (a n q:Int):okR (ins l a n q):=by
 unfold ins
 split
 ·exact h
 ·exact vL (rL (rL (vL h _) (yq _ _)) (y4 h _)) _
theorem OP {l:List aG} (h:okR l) (a n q:Int):okR (del l a n q):=by
 unfold del
 split
 ·exact h
 ·exact rL (rL (vL h _) (y4 h _)) (yq _ _)
section
variable {W : Nat} {s : aB}
theorem JE (h:SJ W s) (b n:Int):gok W (ceR s b n):=by
 have hg:=h.row
 refine ⟨?_,qM _ _ ?_⟩
 ·simp only [ceR,lP]
  split
  ·rw [Mk]; exact hg.1
  ·split
   ·rw [Ml]; exact hg.1
   ·rw [mZ]; exact hg.1
 ·split
  ·exact OO hg.2 _ _ _
  ·split
   ·exact OP hg.2 _ _ _
   ·exact wX _ _ _ _ hg.2
theorem BQ (h:SJ W s) (b n:Int):(ceR s b n).cells.length<=1000000:=by have:=(JE h b n).le h.gi.w2; omega
theorem Hn (h:SJ W s) (b:Int) {n:Int} (h0:0<=n) (h1:n<=9999):gU (lZ s.g.l s.spot.y) b s n=some (ceR s b n):=by
 have hl:=qg h
 have hy:=yr h
 unfold gU ceR
 by_cases c:b=64
 ·rw [mS c,cond_true,n6,aA,insert_eq _ _ _ _ hl h.xr.1 h.xr.2,aA,if_pos c]; rfl
 ·rw [eH c,cond_false,if_neg c]
  by_cases c2:b=80
  ·rw [mS c2,cond_true,n6,aA,G3 _ _ _ _ hl h.xr.1 h.xr.2,aA,if_pos c2]; rfl
  ·rw [eH c2,cond_false,n6,aA,w64 (by omega) (by omega),erase_eq _ _ _ _ (by omega),aA,if_neg c2]
theorem Ho (h:SJ W s) (b:Int) {n:Int} (h0:0<=n) (h1:n<=9999):iX s b n=some (ceS W s b n):=by
 unfold iX eW
 rw [h.Jo,aA,Hn h b h0 h1,aA,h.Jp _ (BQ h b n),aA,aA]
 rfl
theorem Qc (h:SJ W s) (b n:Int):SI W (ceS W s b n):=⟨mQ (F8 h _ (JE h b n).2),λe=>by cases e⟩
theorem Mm (h:SJ W s) (n:Int):nP (told (lZ s.g.l s.spot.y)) s.spot.x n (mD s.spot.aM)=some (told (ceR s 64 n)):=by
 have hl:=qg h
 rw [told,Es (lZ s.g.l s.spot.y).cells (lZ s.g.l s.spot.y).wrapped s.spot.x n _ hl h.xr.1 h.xr.2]
 rfl
theorem Mn (h:SJ W s) (n:Int):nQ (told (lZ s.g.l s.spot.y)) s.spot.x n (mD s.spot.aM)=some (told (ceR s 80 n)):=by
 have hl:=qg h
 rw [told,Eu (lZ s.g.l s.spot.y).cells (lZ s.g.l s.spot.y).wrapped s.spot.x n _ hl h.xr.1 h.xr.2]
 rfl
def orS (W:Nat) (s:aB) (b:Int) (l:List Int):aB :=
 if b=65 then clS s (0 - atS l 0 1) else if b=70 then xS (clS s (0 - atS l 0 1)) 0 else
 if b=66 then clS s (atS l 0 1) else if b=69 then xS (clS s (atS l 0 1)) 0 else
 if b=67 then mvS s (s.spot.x+atS l 0 1) s.spot.y else if b=68 then mvS s (s.spot.x - atS l 0 1) s.spot.y else
 if b=71 then mvS s (atS l 0 1 - 1) s.spot.y else if b=100 then mvS s s.spot.x (atS l 0 1 - 1) else
 if b=72\/b=102 then mvS s (atS l 1 1 - 1) (atS l 0 1 - 1) else
 if b=74 then CY W s (atS l 0 0) true else if b=75 then CY W s (atS l 0 0) false else
 if b=64\/b=80\/b=88 then ceS W s b (atS l 0 1) else
 if b=76\/b=77 then shS W s b (atS l 0 1) else
 if b=83 then upS W (nwS s) (atS l 0 1) else
 if b=84 then dnS W (nwS s) s.top s.aL (atS l 0 1) else
 if b=109 then ⟨s.g,⟨s.spot.x,s.spot.y,Hl s.spot.aM l⟩,s.saved,s.waiting,s.top,s.aL,s.aY,s.title⟩ else
 if b=114 then reS s l else s
def orF (s:aB) (b:Int) (l:List Int):List aE:=if b=83 then upF (nwS s) (atS l 0 1) else []
theorem mO {p:Prop} [Decidable p] {a b:aB} (ha:SI W a) (hb:SI W b):SI W (if p then a else b):=by split <;> assumption
theorem Qd (h:SI W s) (b:Int) (l:List Int):SI W (orS W s b l):=by
 have h0:=w0 h.toSJ
 have hx: ∀ n,SI W (xS (clS s n) 0):=λn=>⟨CU (oN h.toSJ _ _).toSJ (Int.le_refl 0) h0,λe=>by cases e⟩
 unfold orS
 have e4: ∀ q,SI W ⟨s.g,⟨s.spot.x,s.spot.y,q⟩,s.saved,s.waiting,s.top,s.aL,s.aY,s.title⟩:=λq=>⟨⟨h.gw,h.gi,h.x0,h.x1,h.y0,h.y1,h.t0,h.tb,h.b1⟩,h.wt⟩
 have e5: ∀ n,SI W (upS W (nwS s) n):=λn=>⟨Nz (mQ h.toSJ) _,λe=>by cases e⟩
 have e6: ∀ t b n,SI W (dnS W (nwS s) t b n):=λt b n=>⟨CX (mQ h.toSJ) _ _ _,λe=>by cases e⟩
 refine mO (oN h.toSJ _ _) (mO (hx _) (mO (oN h.toSJ _ _) (mO (hx _) (mO (oN h.toSJ _ _) (mO (oN h.toSJ _ _) (mO (oN h.toSJ _ _) (mO (oN h.toSJ _ _) (mO (oN h.toSJ _ _) (mO (JB h _ _) (mO (JB h _ _) (mO (Qc h.toSJ _ _) (mO (P9 h _ _) (mO (e5 _) (mO (e6 _ _ _) (mO (e4 _) (mO (Qb h _) h))))))))))))))))
theorem BR (n a b c:Int):((bif (n == a) then some (n == a) else (bif (n == b) then some (n == b) else some (n == c))):Option Bool)=some (decide (n=a\/n=b\/n=c)):=by
 by_cases h:n=a
 ·simp [h]
 ·rw [eH h,cond_false]
  by_cases h2:n=b
  ·simp [h2]
  ·rw [eH h2,cond_false]
   by_cases h3:n=c
   ·simp [h3]
   ·rw [eH h3,decide_eq_false (by omega)]
theorem Gc (n a b:Int):((bif (n == a) then some (n == a) else some (n == b)):Option Bool)=some (decide (n=a\/n=b)):=by
 by_cases h:n=a
 ·simp [h]
 ·rw [eH h,cond_false]
  by_cases h2:n=b
  ·simp [h2]
  ·rw [eH h2,decide_eq_false (by omega)]
end
section
variable {W : Nat} {s : aB}
theorem OQ (s:aB):aB.mk s.g s.spot s.saved false s.top s.aL s.aY s.title=nwS s:=rfl
theorem lT (t:aB) (b:Int):(Option.bind ((bif (b == 69) then some true else some (b == 70)):Option Bool) λc=>(Option.bind ((bif c then some (aB.mk t.g (eL.mk 0 t.spot.y t.spot.aM) t.saved t.waiting t.top t.aL t.aY t.title) else some (aB.mk t.g t.spot t.saved t.waiting t.top t.aL t.aY t.title)):Option aB) λa=>some (([]:List aE),(aB.mk t.g a.spot a.saved a.waiting a.top a.aL a.aY a.title))))=some ([],if b=69\/b=70 then xS t 0 else t):=by
 rw [ve,aA]
 by_cases h:b=69\/b=70
 ·rw [decide_eq_true h,if_pos h]; rfl
 ·rw [decide_eq_false h,if_neg h]; rfl
theorem Mo (h:SJ W s) (a:aZ) (hl:a.bJ.length<=1000000):iZ s a=some (orF s a.byte a.bJ,orS W s a.byte a.bJ):=by
 have hy:=yr h
 have hN:=xj a.bJ 0 (d:=1) (by omega) (by omega)
 have hM:=xj a.bJ 1 (d:=1) (by omega) (by omega)
 have hZ:=xj a.bJ 0 (d:=0) (by omega) (by omega)
 unfold iZ
 rw [show fB a 0 1=_ from AM a 0 1,aA]
 simp only [show fB a 1 1=_ from AM a 1 1,show fB a 0 0=_ from AM a 0 0,BR,EZ h,OQ,Md _ _ hl]
 simp only [Gc,aA]
 have hcl:=λn h0 h1=>JA (n:=n) h h0 h1
 have w1:IntKind.i64.wrap (0 - atS a.bJ 0 1)=0 - atS a.bJ 0 1:=w64 (by omega) (by omega)
 have w2:IntKind.i64.wrap (s.spot.x+atS a.bJ 0 1)=s.spot.x+atS a.bJ 0 1:=w64 (by omega) (by omega)
 have w3:IntKind.i64.wrap (s.spot.x - atS a.bJ 0 1)=s.spot.x - atS a.bJ 0 1:=w64 (by omega) (by omega)
 have w4:IntKind.i64.wrap (atS a.bJ 0 1 - 1)=atS a.bJ 0 1 - 1:=w64 (by omega) (by omega)
 have w5:IntKind.i64.wrap (atS a.bJ 1 1 - 1)=atS a.bJ 1 1 - 1:=w64 (by omega) (by omega)
 have c1:=hcl (0 - atS a.bJ 0 1) (by omega) (by omega)
 have c2:=hcl (atS a.bJ 0 1) (by omega) (by omega)
 have dn:eU s.g s.top s.aL (atS a.bJ 0 1) (mD s.spot.aM)=some (uI s.g.l s.top s.aL (atS a.bJ 0 1),(dnS W (nwS s) s.top s.aL (atS a.bJ 0 1)).g):=zq (mQ h) _ _ _
 have nn:bY (nwS s)=some (mD s.spot.aM):=n6 _
 generalize hb:a.byte=b
 have key: ∀ (t:aB),(if b=69\/b=70 then xS t 0 else t)=orS W s b a.bJ->orF s b a.bJ=[]->(some ([],if b=69\/b=70 then xS t 0 else t):Option (List aE×aB))=some (orF s b a.bJ,orS W s b a.bJ):=λt e1 e2=>by rw [e1,e2]
 by_cases h1:b=65\/b=70
 ·rw [decide_eq_true h1]
  simp only [cond_true,w1,c1,aA]
  rw [lT]
  refine key _ ?_ ?_
  ·rcases h1 with rfl | rfl <;> rfl
  ·rcases h1 with rfl | rfl <;> rfl
 ·rw [decide_eq_false h1,cond_false]
  by_cases h2:b=66\/b=69
  ·rw [decide_eq_true h2]
   simp only [cond_true,c2,aA]
   rw [lT]
   refine key _ ?_ ?_
   ·rcases h2 with rfl | rfl <;> rfl
   ·rcases h2 with rfl | rfl <;> rfl
  ·rw [decide_eq_false h2,cond_false]
   have hne: ¬ (b=69\/b=70):=by omega
   have key2: ∀ (t:aB),t=orS W s b a.bJ->orF s b a.bJ=[]->(some ([],if b=69\/b=70 then xS t 0 else t):Option (List aE×aB))=some (orF s b a.bJ,orS W s b a.bJ):=λt e1 e2=>by rw [if_neg hne,e1,e2]
   by_cases h3:b=67
   ·subst h3; simp only [beq_self_eq_true,cond_true,w2,lS h,aA]; rw [lT]; exact key2 _ rfl rfl
   rw [eH h3,cond_false]
   by_cases h4:b=68
   ·subst h4; simp only [beq_self_eq_true,cond_true,w3,lS h,aA]; rw [lT]; exact key2 _ rfl rfl
   rw [eH h4,cond_false]
   by_cases h5:b=71
   ·subst h5; simp only [beq_self_eq_true,cond_true,w4,lS h,aA]; rw [lT]; exact key2 _ rfl rfl
   rw [eH h5,cond_false]
   by_cases h6:b=100
   ·subst h6; simp only [beq_self_eq_true,cond_true,w4,lS h,aA]; rw [lT]; exact key2 _ rfl rfl
   rw [eH h6,cond_false]
   by_cases h7:b=72\/b=102
   ·rw [decide_eq_true h7]; simp only [cond_true,w4,w5,lS h,aA]; rw [lT]
    refine key2 _ ?_ ?_
    ·rcases h7 with rfl | rfl <;> rfl
    ·rcases h7 with rfl | rfl <;> rfl
   rw [decide_eq_false h7,cond_false]
   by_cases h8:b=74
   ·subst h8; simp only [beq_self_eq_true,cond_true,Mj h hZ.1,aA]; rw [lT]; exact key2 _ rfl rfl
   rw [eH h8,cond_false]
   by_cases h9:b=75
   ·subst h9; simp only [beq_self_eq_true,cond_true,Ga h hZ.1,aA]; rw [lT]; exact key2 _ rfl rfl
   rw [eH h9,cond_false]
   by_cases h10:b=64\/b=80\/b=88
   ·rw [decide_eq_true h10]; simp only [cond_true,Ho h _ hN.1 hN.2.1,aA]; rw [lT]
    refine key2 _ ?_ ?_
    ·rcases h10 with rfl | rfl | rfl <;> rfl
    ·rcases h10 with rfl | rfl | rfl <;> rfl
   rw [decide_eq_false h10,cond_false]
   by_cases h11:b=76\/b=77
   ·rw [decide_eq_true h11]; simp only [cond_true,JC h,aA]; rw [lT]
    refine key2 _ ?_ ?_
    ·rcases h11 with rfl | rfl <;> rfl
    ·rcases h11 with rfl | rfl <;> rfl
   rw [decide_eq_false h11,cond_false]
   by_cases h12:b=83
   ·subst h12; simp only [beq_self_eq_true,cond_true,Jr (mQ h),aA]; rfl
   rw [eH h12,cond_false]
   by_cases h13:b=84
   ·subst h13; simp only [beq_self_eq_true,cond_true,nn,dn,aA]
    have e:=lT (dnS W (nwS s) s.top s.aL (atS a.bJ 0 1)) 84
    exact e.trans (key2 _ rfl rfl)
   rw [eH h13,cond_false]
   by_cases h14:b=109
   ·subst h14; simp only [beq_self_eq_true,cond_true]
    have e:=lT ⟨s.g,⟨s.spot.x,s.spot.y,Hl s.spot.aM a.bJ⟩,s.saved,s.waiting,s.top,s.aL,s.aY,s.title⟩ 109
    exact e.trans (key2 _ rfl rfl)
   rw [eH h14,cond_false]
   by_cases h15:b=114
   ·subst h15; simp only [beq_self_eq_true,cond_true,aA]; rw [lT]; exact key2 _ rfl rfl
   rw [eH h15,cond_false,aA]
   dsimp only
   rw [lT]
   refine key2 _ ?_ ?_
   ·unfold orS
    rw [if_neg (by omega),if_neg (by omega),if_neg (by omega),if_neg (by omega),if_neg h3,if_neg h4,if_neg h5,if_neg h6,if_neg h7,if_neg h8,if_neg h9,if_neg h10,if_neg h11,if_neg h12,if_neg h13,if_neg h14,if_neg h15]
   ·unfold orF
    rw [if_neg h12]
end
section
variable {W : Nat} {s : aB}
theorem Mq (s:aB):aP.mk (aO s).g (aO s).x (aO s).y (aO s).s (aO s).sX (aO s).sY (aO s).sS false (aO s).top (aO s).aL (aO s).aY (aO s).title=aO (nwS s):=rfl
theorem Gd {s:aB} {x y x' y':Int} (hx:max 0 (min x (s.g.w - 1))=max 0 (min x' (s.g.w - 1))) (hy:max 0 (min y ((s.g.l.length:Int) - 1))=max 0 (min y' ((s.g.l.length:Int) - 1))):mvS s x y=mvS s x' y':=by
 unfold mvS
 rw [hx,hy]
theorem Hp (h:SJ W s) (b:Int) (l:List Int) (hl:l.length<=1000000):oV (aO s) b l=some (aO (orS W s b l),(orF s b l).map told):=by
 have hy:=yr h
 have hlen:=h.gi.l2
 have hlen1:=h.gi.l1
 have hN:=xj l 0 (d:=1) (by omega) (by omega)
 have hM:=xj l 1 (d:=1) (by omega) (by omega)
 have hZ:=xj l 0 (d:=0) (by omega) (by omega)
 unfold oV
 rw [show fQ l 0 1=_ from qS l 0 1,aA,v8,aA]
 simp only [show fQ l 0 1=_ from qS l 0 1,show fQ l 1 1=_ from qS l 1 1,show fQ l 0 0=_ from qS l 0 0,Gc,Mq,EX h]
 simp only [show fQ l 1 (s.g.l.length:Int)=_ from qS l 1 _,show (aO s).x=s.spot.x from rfl,show (aO s).y=s.spot.y from rfl,show (aO s).top=s.top from rfl,show (aO s).aL=s.aL from rfl,show (aO s).s=tst s.spot.aM from rfl,Jn _ _ hl,aA]
 have w1:IntKind.i64.wrap (s.spot.y - atS l 0 1)=s.spot.y - atS l 0 1:=w64 (by omega) (by omega)
 have w1':IntKind.i64.wrap (s.spot.y+atS l 0 1)=s.spot.y+atS l 0 1:=w64 (by omega) (by omega)
 have w2:IntKind.i64.wrap (s.spot.x+atS l 0 1)=s.spot.x+atS l 0 1:=w64 (by omega) (by omega)
 have w3:IntKind.i64.wrap (s.spot.x - atS l 0 1)=s.spot.x - atS l 0 1:=w64 (by omega) (by omega)
 have w4:IntKind.i64.wrap (atS l 0 1 - 1)=atS l 0 1 - 1:=w64 (by omega) (by omega)
 have w5:IntKind.i64.wrap (atS l 1 1 - 1)=atS l 1 1 - 1:=w64 (by omega) (by omega)
 have w6:IntKind.i64.wrap ((s.g.l.length:Int) - 1)=(s.g.l.length:Int) - 1:=w64 (by omega) (by omega)
 have dn:eR (aO s).g false s.top s.aL (atS l 0 1) (mD s.spot.aM)=some ((aO (dnS W (nwS s) s.top s.aL (atS l 0 1))).g,(uI s.g.l s.top s.aL (atS l 0 1)).map told):=zr (mQ h) _ _ _
 by_cases h1:b=65\/b=70
 ·rw [decide_eq_true h1]
  simp only [cond_true,yy,w1,aA,gN,jW h]
  have e:mvS s s.spot.x (max (if s.spot.y>=s.top then s.top else 0) (s.spot.y - atS l 0 1))=clS s (0 - atS l 0 1):=by
   unfold clS
   apply Gd rfl
   split <;> split <;> split <;> omega
  rw [e]
  rcases h1 with rfl | rfl <;> rfl
 rw [decide_eq_false h1,cond_false]
 by_cases h2:b=66\/b=69
 ·rw [decide_eq_true h2]
  simp only [cond_true,yy,w1',w6,aA,dP,jW h]
  have e:mvS s s.spot.x (min (if s.spot.y<=s.aL then s.aL else (s.g.l.length:Int) - 1) (s.spot.y+atS l 0 1))=clS s (atS l 0 1):=by
   unfold clS
   have hb:=h.b1
   have ht:=h.t0
   have htb:=h.tb
   apply Gd rfl
   split <;> split <;> split <;> omega
  rw [e]
  rcases h2 with rfl | rfl <;> rfl
 rw [decide_eq_false h2,cond_false]
 by_cases h3:b=67
 ·subst h3; simp only [beq_self_eq_true,cond_true,w2,jW h,aA]; rfl
 rw [eH h3,cond_false]
 by_cases h4:b=68
 ·subst h4; simp only [beq_self_eq_true,cond_true,w3,jW h,aA]; rfl
 rw [eH h4,cond_false]
 by_cases h5:b=71
 ·subst h5; simp only [beq_self_eq_true,cond_true,w4,jW h,aA]; rfl
 rw [eH h5,cond_false]
 by_cases h6:b=100
 ·subst h6; simp only [beq_self_eq_true,cond_true,w4,jW h,aA]; rfl
 rw [eH h6,cond_false]
 by_cases h7:b=72\/b=102
 ·rw [decide_eq_true h7]; simp only [cond_true,w4,w5,jW h,aA]
  rcases h7 with rfl | rfl <;> rfl
 rw [decide_eq_false h7,cond_false]
 by_cases h8:b=74
 ·subst h8; simp only [beq_self_eq_true,cond_true,CZ h hZ.1,aA]; rfl
 rw [eH h8,cond_false]
 by_cases h9:b=75
 ·subst h9; simp only [beq_self_eq_true,cond_true,CZ h hZ.1,aA]; rfl
 rw [eH h9,cond_false]
 by_cases h10:b=88
 ·subst h10; simp only [beq_self_eq_true,cond_true,w2,vg h h.y0 h.y1,aA]; rfl
 rw [eH h10,cond_false]
 have gr:idx (aO s).g.l s.spot.y=some (told (lZ s.g.l s.spot.y)):=h.Mh
 by_cases h11:b=64
 ·subst h11; simp only [beq_self_eq_true,cond_true,gr,aA,Mm h,tr h (BQ h 64 _)]; rfl
 rw [eH h11,cond_false]
 by_cases h12:b=80
 ·subst h12; simp only [beq_self_eq_true,cond_true,gr,aA,Mn h,tr h (BQ h 80 _)]; rfl
 rw [eH h12,cond_false]
 have e12: ¬ (b=64\/b=80\/b=88):=by omega
 by_cases h13:b=76\/b=77
 ·rw [decide_eq_true h13]
  simp only [cond_true]
  rw [show ((bif (decide (s.spot.y>=s.top)) then some (decide (s.spot.y<=s.aL)) else some false):Option Bool)=_ from Bu _ _,aA]
  by_cases c:s.spot.y>=s.top/\s.spot.y<=s.aL
  ·have c': ¬ (s.spot.y < s.top\/s.spot.y > s.aL):=by omega
   rw [decide_eq_true c,cond_true]
   rcases h13 with rfl | rfl
   ·rw [show ((76:Int) == 77)=false from rfl,zr h,aA]
    have e:=jW (CX h s.spot.y s.aL (atS l 0 1)) 0 s.spot.y
    rw [show aO (dnS W s s.spot.y s.aL (atS l 0 1))=aP.mk (aO (dnS W s s.spot.y s.aL (atS l 0 1))).g s.spot.x s.spot.y (tst s.spot.aM) (aO s).sX (aO s).sY (aO s).sS (aO s).waiting s.top s.aL (aO s).aY (aO s).title from rfl] at e
    dsimp only
    rw [e,aA]
    unfold orS orF shS
    rw [if_neg c']
    rfl
   ·rw [show ((77:Int) == 77)=true from rfl,Mi h,aA]
    have e:=jW (EW h s.spot.y s.aL (atS l 0 1)) 0 s.spot.y
    rw [show aO (upT W s s.spot.y s.aL (atS l 0 1))=aP.mk (aO (upT W s s.spot.y s.aL (atS l 0 1))).g s.spot.x s.spot.y (tst s.spot.aM) (aO s).sX (aO s).sY (aO s).sS (aO s).waiting s.top s.aL (aO s).aY (aO s).title from rfl] at e
    dsimp only
    rw [e,aA]
    unfold orS orF shS
    rw [if_neg c']
    rfl
  ·have c':s.spot.y < s.top\/s.spot.y > s.aL:=by omega
   rw [decide_eq_false c,cond_false,aA]
   unfold orS orF shS
   rw [if_pos c']
   rcases h13 with rfl | rfl <;> rfl
 rw [decide_eq_false h13,cond_false]
 by_cases h14:b=83
 ·subst h14
  have e:=AL (mQ h) (atS l 0 1)
  have e2:aP.mk (aO s).g s.spot.x s.spot.y (tst s.spot.aM) (aO s).sX (aO s).sY (aO s).sS false s.top s.aL (aO s).aY (aO s).title=aO (nwS s):=rfl
  simp only [beq_self_eq_true,cond_true,e2,e,aA]
  rfl
 rw [eH h14,cond_false]
 by_cases h15:b=84
 ·subst h15; simp only [beq_self_eq_true,cond_true,dn,aA]; rfl
 rw [eH h15,cond_false]
 by_cases h16:b=109
 ·subst h16; simp only [beq_self_eq_true,cond_true,aA]; rfl
 rw [eH h16,cond_false]
 by_cases h17:b=114
 ·subst h17
  simp only [beq_self_eq_true,cond_true]
  rw [dP,gN,dP,gN,w64 (by omega) (by omega),w64 (by omega) (by omega),<- rgT,<- rgU]
  unfold orS orF
  simp only [Int.reduceEq,if_false,if_true,or_self,Bool.false_eq_true]
  unfold reS
  by_cases c:rgT s l < rgU s l
  ·rw [decide_eq_true c,cond_true,if_pos c]
   have e:=jW (JD h l c) 0 0
   rw [show aO (rnS s (rgT s l) (rgU s l))=aP.mk (aO s).g s.spot.x s.spot.y (tst s.spot.aM) (aO s).sX (aO s).sY (aO s).sS (aO s).waiting (rgT s l) (rgU s l) (aO s).aY (aO s).title from rfl] at e
   rw [e,aA,aA]
   rfl
  ·rw [decide_eq_false c,cond_false,if_neg c,aA]
   rfl
 rw [eH h17,cond_false,aA]
 unfold orS orF
 rw [if_neg (by omega),if_neg (by omega),if_neg (by omega),if_neg (by omega),if_neg h3,if_neg h4,if_neg h5,if_neg h6,if_neg h7,if_neg h8,if_neg h9,if_neg e12,if_neg h13,if_neg h14,if_neg h15,if_neg h16,if_neg h17,if_neg h14]
 rfl
end
def nlS:bE:=⟨0,0,false,false,false⟩
def Ag (w h:Int):aB:=⟨yg w h,⟨0,0,nlS⟩,⟨0,0,nlS⟩,false,0,(szN h:Int) - 1,true,ByteArray.mk #[]⟩
theorem C9 (w h:Int):(Ag w h).g.l.length=szN h:=by simp [Ag,yg]
theorem Ge (w h:Int):mL w h=some (Ag w h):=by
 unfold mL
 have h1:=nV h
 rw [On,aA,rS,aA]
 dsimp only
 rw [show ((yg w h).l.length:Int)=(szN h:Int) by simp [yg],w64 (by omega) (by omega)]
 rfl
theorem JF (w h:Int):sZ w h=some (aO (Ag w h)):=by
 unfold sZ
 have h1:=nV h
 rw [Lv,aA]
 rw [show ((s9 (yg w h)).l.length:Int)=(szN h:Int) by simp [yg,s9],w64 (by omega) (by omega)]
 rfl
theorem Gf (w h:Int):SI (szN w) (Ag w h):=by
 have h1:=qe h
 have h2:=qe w
 refine ⟨⟨rfl,Om w h,Int.le_refl 0,?_,Int.le_refl 0,?_,Int.le_refl 0,?_,?_⟩,λe=>by cases e⟩
 ·show (0:Int) < _; omega
 ·rw [C9]; show (0:Int) < _; omega
 ·show (0:Int)<=(szN h:Int) - 1; omega
 ·rw [C9]; show (szN h:Int) - 1 < _; omega
section
variable {W : Nat} {s : aB}
def ctS (W:Nat) (s:aB) (b:Int):aB:=if b=8 then mvS s (s.spot.x - 1) s.spot.y else if b=9 then mvS s (s.spot.x.tdiv 8*8+8) s.spot.y else if b=10\/b=11\/b=12 then liS W s else if b=13 then mvS s 0 s.spot.y else s
def ctF (s:aB) (b:Int):List aE:=if b=10\/b=11\/b=12 then liF s else []
theorem JG {x:Int} (h0:0<=x) (h1:x < 1000):0<=x.tdiv 8/\x.tdiv 8<=1000:=by
 rw [Int.tdiv_eq_ediv_of_nonneg h0]
 omega
theorem Hq (h:SJ W s) (b:Int):gS s b=some (ctF s b,ctS W s b):=by
 have hy:=yr h
 have ht:=JG hy.2.2.1 hy.2.2.2
 unfold gS ctF ctS
 simp only [BR]
 rw [w64 (x:=s.spot.x - 1) (by omega) (by omega),w64 (x:=s.spot.x.tdiv 8) (by omega) (by omega),w64 (x:=s.spot.x.tdiv 8+1) (by omega) (by omega),w64 (x:=(s.spot.x.tdiv 8+1)*8) (by omega) (by omega),show (s.spot.x.tdiv 8+1)*8=s.spot.x.tdiv 8*8+8 by omega]
 by_cases h1:b=8
 ·subst h1; simp only [beq_self_eq_true,cond_true,lS h,aA]; rfl
 rw [eH h1,cond_false,if_neg h1]
 by_cases h2:b=9
 ·subst h2; simp only [beq_self_eq_true,cond_true,lS h,aA]; rfl
 rw [eH h2,cond_false,if_neg h2,aA]
 by_cases h3:b=10\/b=11\/b=12
 ·rw [decide_eq_true h3,cond_true,(jb h).p,if_pos h3,if_pos h3]; rfl
 rw [decide_eq_false h3,cond_false,if_neg h3,if_neg h3]
 by_cases h4:b=13
 ·subst h4; simp only [beq_self_eq_true,cond_true,lS h,aA]; rfl
 rw [eH h4,cond_false,if_neg h4]
 rfl
theorem Qe (h:SI W s) (b:Int):SI W (ctS W s b):=mO (oN h.toSJ _ _) (mO (oN h.toSJ _ _) (mO (jb h.toSJ).i (mO (oN h.toSJ _ _) h)))
def e8S (s:aB):aB:=⟨s.g,⟨s.spot.x,s.spot.y,s.saved.aM⟩,s.saved,s.waiting,s.top,s.aL,s.aY,s.title⟩
theorem JH (h:SJ W s):SJ W (e8S s):=⟨h.gw,h.gi,h.x0,h.x1,h.y0,h.y1,h.t0,h.tb,h.b1⟩
def e7S (s:aB):aB:=⟨s.g,s.spot,s.spot,s.waiting,s.top,s.aL,s.aY,s.title⟩
def esS (W:Nat) (s:aB) (b:Int):aB:=if b=69 then liS W (xS s 0) else if b=68 then liS W s else if b=77 then baS W s else if b=55 then e7S s else if b=56 then mvS (e8S s) s.saved.x s.saved.y else if b=99 then Ag W s.g.l.length else s
def esF (s:aB) (b:Int):List aE:=if b=69 then liF (xS s 0) else if b=68 then liF s else []
theorem Qf (h:SI W s) (b:Int):SI W (esS W s b):=by
 have e:=Gf (W:Int) (s.g.l.length:Int)
 rw [IN W h.gi.w1 h.gi.w2] at e
 exact mO (jb (CU h.toSJ (Int.le_refl 0) (w0 h.toSJ))).i (mO (jb h.toSJ).i (mO (P7 h.toSJ) (mO ⟨⟨h.gw,h.gi,h.x0,h.x1,h.y0,h.y1,h.t0,h.tb,h.b1⟩,h.wt⟩ (mO (oN (JH h.toSJ) _ _) (mO e h)))))
theorem JI (h:SJ W s) (b:Int):iG s b=some (esF s b,esS W s b):=by
 unfold iG esF esS
 by_cases h1:b=69
 ·subst h1
  have e:=(jb (CU h (Int.le_refl 0) (w0 h))).p
  rw [show xS s 0=aB.mk s.g (eL.mk 0 s.spot.y s.spot.aM) s.saved s.waiting s.top s.aL s.aY s.title from rfl] at e
  simp only [beq_self_eq_true,cond_true,aA,e,if_true]
  rfl
 rw [eH h1,cond_false,if_neg h1,if_neg h1]
 by_cases h2:b=68
 ·subst h2
  have e:=(jb h).p
  simp only [beq_self_eq_true,cond_true,aA,if_true]
  rw [show aB.mk s.g s.spot s.saved s.waiting s.top s.aL s.aY s.title=s from rfl,e]
  rfl
 rw [eH h2,cond_false,if_neg h2,if_neg h2]
 by_cases h3:b=77
 ·subst h3; simp only [beq_self_eq_true,cond_true,back_eq h,aA,if_true]; rfl
 rw [eH h3,cond_false,if_neg h3]
 by_cases h4:b=55
 ·subst h4; simp only [beq_self_eq_true,cond_true,aA,if_true]; rfl
 rw [eH h4,cond_false,if_neg h4]
 by_cases h5:b=56
 ·subst h5
  have e:=lS (JH h) s.saved.x s.saved.y
  rw [show e8S s=aB.mk s.g (eL.mk s.spot.x s.spot.y s.saved.aM) s.saved s.waiting s.top s.aL s.aY s.title from rfl] at e
  simp only [beq_self_eq_true,cond_true,e,aA,if_true]
  rfl
 rw [eH h5,cond_false,if_neg h5]
 by_cases h6:b=99
 ·subst h6
  simp only [beq_self_eq_true,cond_true,rS,aA,if_true,Ge,h.gw]
  rfl
 rw [eH h6,cond_false,if_neg h6]
 rfl
def pvS (s:aB) (b:Int) (l:List Int):aB:=if atS l 0 0=7/\(b=104\/b=108) then ⟨s.g,s.spot,s.saved,s.waiting,s.top,s.aL,b == 104,s.title⟩ else s
def tiS (s:aB) (t:ByteArray):aB:=⟨s.g,s.spot,s.saved,s.waiting,s.top,s.aL,s.aY,t⟩
def acS (W:Nat) (s:aB) (a:aZ):aB:=if a.kind=1 then prS W s a.rune else if a.kind=2 then ctS W s a.byte else if a.kind=3 then esS W s a.byte else if a.kind=4 then (if a.eG=true then pvS s a.byte a.bJ else orS W s a.byte a.bJ) else if a.kind=5 then tiS s a.text else s
def acF (W:Nat) (s:aB) (a:aZ):List aE:=if a.kind=1 then prF W s a.rune else if a.kind=2 then ctF s a.byte else if a.kind=3 then esF s a.byte else if a.kind=4 then (if a.eG=true then [] else orF s a.byte a.bJ) else []
theorem Q6 (h:SJ W s) (a:aZ) (hl:a.bJ.length<=1000000):gP s a=some (acF W s a,acS W s a):=by
 unfold gP acF acS
 by_cases h1:a.kind=1
 ·rw [mS h1,cond_true,if_pos h1,if_pos h1,Mg h]; rfl
 rw [eH h1,cond_false,if_neg h1,if_neg h1]
 by_cases h2:a.kind=2
 ·rw [mS h2,cond_true,if_pos h2,if_pos h2,Hq h]; rfl
 rw [eH h2,cond_false,if_neg h2,if_neg h2]
 by_cases h3:a.kind=3
 ·rw [mS h3,cond_true,if_pos h3,if_pos h3,JI h]; rfl
 rw [eH h3,cond_false,if_neg h3,if_neg h3]
 by_cases h5:a.kind=5
 ·have h4: ¬ a.kind=4:=by omega
  rw [mS h5,cond_true,if_neg h4,if_neg h4,if_pos h5]; rfl
 rw [eH h5,cond_false,if_neg h5]
 by_cases h4:a.kind=4
 ·rw [mS h4,cond_true,if_pos h4,if_pos h4]
  cases hp:a.eG with
  | false =>
   rw [Bool.not_false,cond_true,Mo h a hl,if_neg (by simp),if_neg (by simp)]
   rfl
  | true =>
   rw [Bool.not_true,cond_false,if_pos rfl,if_pos rfl,show fB a 0 0=_ from AM a 0 0,aA,ve]
   unfold pvS
   by_cases c:atS a.bJ 0 0=7
   ·rw [mS c,cond_true,aA]
    by_cases c2:a.byte=104\/a.byte=108
    ·rw [decide_eq_true c2,cond_true,if_pos ⟨c,c2⟩]; rfl
    ·rw [decide_eq_false c2,cond_false,if_neg (λe=>c2 e.2)]; rfl
   ·rw [eH c,cond_false,aA,cond_false,if_neg (λe=>c e.1)]; rfl
 rw [eH h4,cond_false,if_neg h4,if_neg h4]
 rfl
theorem ND (h:SI W s) (a:aZ) (hr:rok a.rune):SI W (acS W s a):=by
 have e1:SI W (pvS s a.byte a.bJ):=by
  unfold pvS
  exact mO ⟨⟨h.gw,h.gi,h.x0,h.x1,h.y0,h.y1,h.t0,h.tb,h.b1⟩,h.wt⟩ h
 exact mO (P6 h hr) (mO (Qe h _) (mO (Qf h _) (mO (mO e1 (Qd h _ _)) (mO ⟨⟨h.gw,h.gi,h.x0,h.x1,h.y0,h.y1,h.t0,h.tb,h.b1⟩,h.wt⟩ h))))
def BS (W:Nat) (off:List aE):Prop:=off.length<=2000 /\ ∀ r∈off,gok W r
theorem v7.o2 {off:List aE} (h:v7 W off):BS W off:=⟨by have:=h.1; omega,h.2⟩
theorem BT {p:Prop} [Decidable p] {a b:List aE} (ha:BS W a) (hb:BS W b):BS W (if p then a else b):=by split <;> assumption
theorem E0 (h:SJ W s) (a:aZ):BS W (acF W s a):=by
 have n0:BS W []:=(py W).o2
 have l0: ∀ t,SJ W t->BS W (liF t):=λt ht=>(jb ht).o.o2
 exact BT (OM h) (BT (BT (l0 _ h) n0) (BT (BT (l0 _ (CU h (Int.le_refl 0) (w0 h))) (BT (l0 _ h) n0)) (BT (BT n0 (BT (Jq (mQ h) _).o2 n0)) n0)))
end
def vh (a:lJ):aZ:=⟨a.kind,a.rune,a.byte,a.eG,a.bJ,a.text⟩
section
variable {W : Nat} {s : aB}
theorem Q7 (h:SJ W s) (a:lJ) (hr:rok a.rune) (hl:a.bJ.length<=1000000):uZ (aO s) a=some (aO (acS W s (vh a)),(acF W s (vh a)).map told):=by
 have hy:=yr h
 have hlen:=h.gi.l2
 have ht:=JG hy.2.2.1 hy.2.2.2
 unfold uZ acF acS vh
 dsimp only
 by_cases h1:a.kind=1
 ·rw [mS h1,cond_true,if_pos h1,if_pos h1,OL h hr]; rfl
 rw [eH h1,cond_false,if_neg h1,if_neg h1]
 by_cases h2:a.kind=2
 ·rw [mS h2,cond_true,if_pos h2,if_pos h2]
  unfold ctF ctS
  simp only [BR]
  rw [show (aO s).x=s.spot.x from rfl,show (aO s).y=s.spot.y from rfl,w64 (x:=s.spot.x - 1) (by omega) (by omega),w64 (x:=s.spot.x.tdiv 8) (by omega) (by omega),w64 (x:=s.spot.x.tdiv 8*8) (by omega) (by omega),w64 (x:=s.spot.x.tdiv 8*8+8) (by omega) (by omega)]
  generalize a.byte=b
  by_cases c1:b=8
  ·subst c1; simp only [beq_self_eq_true,cond_true,jW h,aA]; rfl
  rw [eH c1,cond_false,if_neg c1]
  by_cases c2:b=9
  ·subst c2; simp only [beq_self_eq_true,cond_true,jW h,aA]; rfl
  rw [eH c2,cond_false,if_neg c2,aA]
  by_cases c3:b=10\/b=11\/b=12
  ·rw [decide_eq_true c3,cond_true,(jb h).q,if_pos c3,if_pos c3]; rfl
  rw [decide_eq_false c3,cond_false,if_neg c3,if_neg c3]
  by_cases c4:b=13
  ·subst c4; simp only [beq_self_eq_true,cond_true,jW h,aA]; rfl
  rw [eH c4,cond_false,if_neg c4]
  rfl
 rw [eH h2,cond_false,if_neg h2,if_neg h2]
 by_cases h3:a.kind=3
 ·rw [mS h3,cond_true,if_pos h3,if_pos h3]
  unfold esF esS
  generalize a.byte=b
  by_cases c2:b=68
  ·subst c2; simp only [beq_self_eq_true,cond_true,(jb h).q,aA,if_true]; rfl
  rw [eH c2,cond_false,if_neg c2,if_neg c2]
  by_cases c1:b=69
  ·subst c1
   have e:=(jb (CU h (Int.le_refl 0) (w0 h))).q
   rw [show aO (xS s 0)=aP.mk (aO s).g 0 (aO s).y (aO s).s (aO s).sX (aO s).sY (aO s).sS (aO s).waiting (aO s).top (aO s).aL (aO s).aY (aO s).title from rfl] at e
   simp only [beq_self_eq_true,cond_true,e,aA,if_true]
   rfl
  rw [eH c1,cond_false,if_neg c1,if_neg c1]
  by_cases c3:b=77
  ·subst c3
   simp only [beq_self_eq_true,cond_true,if_true]
   unfold baS
   rw [show (aO s).y=s.spot.y from rfl,show (aO s).top=s.top from rfl]
   by_cases c:s.spot.y=s.top
   ·have e:eR (aO s).g false s.top s.aL 1 (mD s.spot.aM)=some ((aO (dnS W (nwS s) s.top s.aL 1)).g,(uI s.g.l s.top s.aL 1).map told):=zr (mQ h) _ _ _
    rw [mS c,cond_true,if_pos c,show (aO s).s=tst s.spot.aM from rfl,CP,aA,show (aO s).aL=s.aL from rfl,e,aA]
    rfl
   ·have e:=jW (mQ h) s.spot.x (s.spot.y - 1)
    rw [show aO (nwS s)=aP.mk (aO s).g (aO s).x s.spot.y (aO s).s (aO s).sX (aO s).sY (aO s).sS false s.top (aO s).aL (aO s).aY (aO s).title from rfl] at e
    rw [eH c,cond_false,if_neg c,w64 (by omega) (by omega),show (aO s).x=s.spot.x from rfl]
    rw [show (aO s).x=s.spot.x from rfl] at e
    rw [e,aA]
    rfl
  rw [eH c3,cond_false,if_neg c3]
  by_cases c4:b=55
  ·subst c4; simp only [beq_self_eq_true,cond_true,aA,if_true]; rfl
  rw [eH c4,cond_false,if_neg c4]
  by_cases c5:b=56
  ·subst c5
   have e:=jW (JH h) s.saved.x s.saved.y
   rw [show aO (e8S s)=aP.mk (aO s).g (aO s).x (aO s).y (aO s).sS (aO s).sX (aO s).sY (aO s).sS (aO s).waiting (aO s).top (aO s).aL (aO s).aY (aO s).title from rfl] at e
   simp only [beq_self_eq_true,cond_true,if_true]
   rw [show (aO s).sX=s.saved.x from rfl,show (aO s).sY=s.saved.y from rfl]
   rw [show (aO s).sX=s.saved.x from rfl,show (aO s).sY=s.saved.y from rfl] at e
   rw [e,aA]
   rfl
  rw [eH c5,cond_false,if_neg c5]
  by_cases c6:b=99
  ·subst c6
   simp only [beq_self_eq_true,cond_true,aA,if_true]
   rw [EX h,show (aO s).g.w=(W:Int) from h.gw,JF,aA]
   rfl
  rw [eH c6,cond_false,if_neg c6]
  rfl
 rw [eH h3,cond_false,if_neg h3,if_neg h3]
 by_cases h4:a.kind=4
 ·rw [mS h4,cond_true,if_pos h4,if_pos h4]
  cases hp:a.eG with
  | false =>
   rw [Bool.not_false,cond_true,Hp h a.byte a.bJ hl,if_neg (by simp),if_neg (by simp)]
   rfl
  | true =>
   rw [Bool.not_true,cond_false,if_pos rfl,if_pos rfl,show fQ a.bJ 0 0=_ from qS a.bJ 0 0,aA,ve]
   unfold pvS
   by_cases c:atS a.bJ 0 0=7
   ·rw [mS c,cond_true,aA]
    by_cases c2:a.byte=104\/a.byte=108
    ·rw [decide_eq_true c2,cond_true,if_pos ⟨c,c2⟩]; rfl
    ·rw [decide_eq_false c2,cond_false,if_neg (λe=>c2 e.2)]; rfl
   ·rw [eH c,cond_false,aA,cond_false,if_neg (λe=>c e.1)]; rfl
 rw [eH h4,cond_false,if_neg h4,if_neg h4]
 by_cases h5:a.kind=5
 ·rw [mS h5,cond_true,if_pos h5]; rfl
 rw [eH h5,cond_false,if_neg h5]
 rfl
def roN (s:aB) (h:Int):Int:=max 0 (s.spot.y - ((szN h:Int) - 1))
def rzS (s:aB) (w h:Int):aB:=let t:aB:=mvS ⟨⟨(szN w:Int),rzL (szN w) s.g.l (loS s.g.l (roN s h)) (szN h)⟩,s.spot,s.saved,s.waiting,s.top,s.aL,s.aY,s.title⟩ s.spot.x (s.spot.y - roN s h); ⟨t.g,t.spot,t.saved,t.waiting,0,(szN h:Int) - 1,t.aY,t.title⟩
def rzF (s:aB) (h:Int):List aE:=s.g.l.take (loS s.g.l (roN s h))
theorem Hr (h:SJ W s) (w k:Int):iI s w k=some (rzF s k,rzS s w k):=by
 have hy:=yr h
 have h1:=qe k
 have h2:=nV k
 have h3:=qe w
 have h4:=nV w
 have hl:=h.gi.len
 unfold iI
 rw [oM,aA,show max 1 (min k 1000)=(szN k:Int) by rw [<- Ey,gN,dP],w64 (x:=(szN k:Int) - 1) (by omega) (by omega),w64 (x:=s.spot.y - ((szN k:Int) - 1)) (by omega) (by omega),gN,<- roN]
 have e:=EG s.g.w s.g.l w k (roN s k) h.gi.l1 (by have:=h.gi.l2; omega) hl
 rw [show (aX.mk s.g.w s.g.l)=s.g from rfl] at e
 rw [e,aA,w64 (x:=s.spot.y - roN s k) (by unfold roN; omega) (by unfold roN; omega)]
 dsimp only
 have hl2:=pI (szN w) s.g.l (loS s.g.l (roN s k)) (szN k)
 have em: ∀ (g:aX) (q:aB),q.g=g->g.w<=1000->1<=g.w->g.l.length<=1000 -> ∀ x y,bH q x y=some (mvS q x y):=by
  intro g q e1 e2 e3 e4 x y
  unfold bH eF
  rw [e1,rS,aA,aA]
  dsimp only
  rw [w64 (by omega) (by omega),w64 (by omega) (by omega),oM,aA,oM,aA]
  unfold mvS
  rw [e1]
 rw [em _ _ rfl (by dsimp only; omega) (by dsimp only; omega) (by dsimp only; omega),aA]
 unfold eF
 rw [rS,aA,aA]
 simp only [mvS,hl2]
 rw [w64 (by omega) (by omega)]
 simp only [rzF,rzS,mvS,hl2]
theorem OR (h:SJ W s) (w k:Int):SI (szN w) (rzS s w k):=by
 have h1:=qe k
 have h2:=nV k
 have h3:=qe w
 have h4:=nV w
 have hl2:=pI (szN w) s.g.l (loS s.g.l (roN s k)) (szN k)
 have hg:GI (szN w) (rzL (szN w) s.g.l (loS s.g.l (roN s k)) (szN k)):=PW (W:=W) (λr hr=>(h.gi.rs r hr).2) _ _ _ h3 h4 h1 h2
 refine ⟨⟨rfl,hg,?_,?_,?_,?_,?_,?_,?_⟩,λe=>by cases e⟩
 all_goals simp only [rzS,mvS,hl2]
 all_goals omega
theorem JJ (h:SJ W s) (k:Int):BS W (rzF s k):=by
 refine ⟨?_,λr hr=>h.gi.rs r (List.mem_of_mem_take hr)⟩
 have:=h.gi.l2
 simp only [rzF,List.length_take]
 omega
end
theorem Dc (s:ByteArray) {lo hi:Int} (h0:0<=lo) (h1:lo<=hi) (h2:hi<=s.size):(iU s lo hi).size=(hi - lo).toNat:=by
 unfold iU
 rw [ByteArray.size_extract]
 omega
def okA (a:lJ):Prop:=rok a.rune/\0<=a.byte/\a.byte < 256/\a.bJ.length<=18
end Go.Tw.X
set_option maxHeartbeats 1000000
namespace Go.Tw.X
open Go Go.Tw
def OS (l:List Int):Prop:= ∀ x∈l,rok x
theorem Mr (s:ByteArray) {n:Int} (h:0<=n):okO (oJ s n) (λr=>(r.size:Int)<=n):=by
 unfold oJ
 refine vY (λhc=> ?_) λhc=>cC (by omega)
 refine dW (EU (by omega) h (by omega)) λ_ _=>cC ?_
 rw [Dc _ (by omega) h (by omega)]
 omega
theorem OT {W:Nat} {off:List aE} (h:BS W off) (hW:W<=1000):pf off (off.map told)=some true :=
 I5 off (by have:=h.1; omega) λr hr=>⟨by have:=(h.2 r hr).1; omega,(h.2 r hr).2⟩
theorem Hs {x:Int} (h:rok x):IntKind.i32.wrap x=x:=by
 have h1:=h.1
 have h2:=h.2
 rw [IntKind.wrap_i32]
 omega
theorem JK {a:lJ} (h:okA a):s6 a=some (vh a):=by
 obtain ⟨h1,h2,h3,h4⟩:=h
 unfold s6
 rw [bL (by simp; omega),aA,Hs h1,PX h2 h3]
 rfl
section
variable {W : Nat} {s : aB}
theorem Ms (h:SI W s) {a:lJ} (ha:okA a):uZ (aO s) a=some (aO (acS W s (vh a)),(acF W s (vh a)).map told)/\s6 a=some (vh a)/\gP s (vh a)=some (acF W s (vh a),acS W s (vh a))/\pf (acF W s (vh a)) ((acF W s (vh a)).map told)=some true/\SI W (acS W s (vh a)) :=
 ⟨Q7 h.toSJ a ha.1 (by have:=ha.2.2.2; omega),JK ha,Q6 h.toSJ _ (by have:=ha.2.2.2; show a.bJ.length<=_; omega),OT (E0 h.toSJ _) h.gi.w2,ND h _ ha.1⟩
theorem JL (h:SJ W s):jB s=some (s.g,s):=by
 unfold jB
 have e:=Ez s.g.w s.g.l (by have:=h.gi.l2; omega) h.gi.len
 rw [show (aX.mk s.g.w s.g.l)=s.g from rfl] at e
 rw [e]
 rfl
end
end Go.Tw.X
set_option maxRecDepth 20000
namespace Go.Tw.X
open Go Go.Tw
theorem OU {P:Int->Prop} (h: ∀ n:Nat,n < 256->P n) {b:Int} (h0:0<=b) (h1:b < 256):P b:=by
 have:=h b.toNat (by omega)
 rwa [Int.toNat_of_nonneg h0] at this
def kx (b:Int):Int×Int×Int:=if 194<=b/\b<=223 then (1,128,191) else if b=224 then (2,160,191) else if b=237 then (2,128,159) else if 225<=b/\b<=239 then (2,128,191) else if b=240 then (3,144,191) else if b=244 then (3,128,143) else if 241<=b/\b<=243 then (3,128,191) else (0,0,0)
theorem wc (b:Int):((kx b).1=0\/(kx b).1=1\/(kx b).1=2\/(kx b).1=3)/\((kx b).1≠0->194<=b/\b<=244):=by
 unfold kx
 repeat' split
 all_goals simp
 all_goals omega
def Ht (l:List lr) (b:Int):Option lr:=l.find? λx=>decide (x.first<=b) && decide (b<=x.last)
def fnd (b:Int):lr×Bool:=match Ht bX b with
 | some x=>(x,true)
 | none=>(⟨0,0,0,0,0⟩,false)
theorem Dd {b:Int} (h0:0<=b) (h1:b < 256):(fnd b).2=decide ((kx b).1≠0)/\(fnd b).1.jV=(kx b).1/\(fnd b).1.low=(kx b).2.1/\(fnd b).1.high=(kx b).2.2 :=
 OU (P:=λb=>(fnd b).2=decide ((kx b).1≠0)/\(fnd b).1.jV=(kx b).1/\(fnd b).1.low=(kx b).2.1/\(fnd b).1.high=(kx b).2.2) (by decide) h0 h1
theorem De (b:Int):mJ b=some (fnd b):=by
 unfold mJ
 have key: ∀ k i:Nat,i+k=8->iter (σ:=Int) (ρ:=Unit ⊕ (lr×Bool)) (λa=>(bif (decide (a < 8)) then (Option.bind (idx bX a) λc=>(Option.bind ((bif (decide (b>=c.first)) then some (decide (b<=c.last)) else some false):Option Bool) λd=>(bif d then (ln (some (c,true))) else some (.inl (IntKind.i64.wrap (a+1)))))) else some (.inr (.inl ())))) (i:Int)=some (match Ht (bX.drop i) b with
   | some x=> .inr (x,true)
   | none=> .inl ()):=by
  intro k
  induction k with
  | zero =>
   intro i hi
   obtain rfl:i=8:=by omega
   rw [cP (r:= .inl ()) rfl]
   rfl
  | succ k ih =>
   intro i hi
   have hlt:i < bX.length:=by show i < 8; omega
   have hd:bX.drop i=bX[i]::bX.drop (i+1):=List.drop_eq_getElem_cons hlt
   rw [iter_eq,hd]
   simp only [cU _ i hlt,Option.bind_some,decide_eq_true (show (i:Int) < 8 by omega),cond_true]
   generalize bX[i]=x
   have hw:IntKind.i64.wrap ((i:Int)+1)=((i+1:Nat):Int):=by rw [w64 (by omega) (by omega)]; omega
   by_cases h1:x.first<=b
   ·by_cases h2:b<=x.last
    ·simp [h1,h2,Ht,ln]
    ·have:=ih (i+1) (by omega)
     simp [h1,h2,Ht,hw] at this ⊢
     exact this
   ·have:=ih (i+1) (by omega)
    simp [h1,Ht,hw] at this ⊢
    exact this
 have:=key 8 0 rfl
 simp only [Int.natCast_zero] at this
 rw [this]
 unfold fnd
 rw [List.drop_zero]
 cases Ht bX b <;> rfl
theorem Qg {b:Int} (h0:0<=b) (h1:b < 256):Go.bits .and .i32 (IntKind.i32.wrap b) 63=b % 64:=by
 rw [Hs ⟨by omega,by omega⟩]
 exact m63 b h0 (by omega)
theorem Q8 {b:Int} (h0:0<=b) (h1:b < 256):Go.bits .and .i32 (IntKind.i32.wrap b) ((63:Int).fdiv (2 ^ (min (1:Int).toNat 32)))=b % 32/\Go.bits .and .i32 (IntKind.i32.wrap b) ((63:Int).fdiv (2 ^ (min (2:Int).toNat 32)))=b % 16/\Go.bits .and .i32 (IntKind.i32.wrap b) ((63:Int).fdiv (2 ^ (min (3:Int).toNat 32)))=b % 8:=by
 rw [Hs ⟨by omega,by omega⟩]
 have g5:=bits_mask .i32 31 (by decide) wraps_i32 5 (by decide) b h0 (by omega)
 have g4:=bits_mask .i32 31 (by decide) wraps_i32 4 (by decide) b h0 (by omega)
 have g3:=bits_mask .i32 31 (by decide) wraps_i32 3 (by decide) b h0 (by omega)
 exact ⟨g5,g4,g3⟩
theorem Q9 {r b:Int} (h0:0<=r) (h1:r < 1000000) (hb0:0<=b) (hb1:b < 64):Go.bits .or .i32 (IntKind.i32.wrap (r*2 ^ (min 6 32))) b=r*64+b:=by
 have e:(r*2 ^ (min 6 32):Int)=r*64:=rfl
 rw [e,Hs ⟨by omega,by omega⟩]
 exact bits_join .i32 31 (by decide) wraps_i32 6 (r*64) b (by omega) (by show r*64 % 64=0; omega) (by omega) hb0 (by omega) (by omega)
def d0:bT:=⟨0,0,0⟩
def Ah (b:Int):Int:=if (kx b).1=1 then b % 32 else if (kx b).1=2 then b % 16 else b % 8
def yi (b:Int):bT×List Int:=if b < 128 then (d0,[b]) else if (kx b).1=0 then (d0,[65533]) else (⟨b,Ah b,(kx b).1⟩,[])
theorem Df {b:Int} (h0:0<=b) (h1:b < 256):ma b=some (yi b):=by
 unfold ma yi
 by_cases hb:b < 128
 ·rw [decide_eq_true hb,cond_true,if_pos hb,Hs ⟨by omega,by omega⟩]; rfl
 ·rw [decide_eq_false hb,cond_false,if_neg hb,De,Option.bind_some]
  obtain ⟨f1,f2,f3,f4⟩:=Dd h0 h1
  rw [f1,f2]
  have hn:=wc b
  by_cases hz:(kx b).1=0
  ·rw [if_pos hz,hz]; rfl
  ·rw [if_neg hz,decide_eq_true hz]
   obtain ⟨a1,a2,a3⟩:=Q8 h0 h1
   have hk: ∀ n:Int,n=1\/n=2\/n=3->(Option.bind (chk (shk n)) λ_=>some ((bT.mk b (Go.bits .and .i32 (IntKind.i32.wrap b) ((63:Int).fdiv (2 ^ (min n.toNat 32)))) n),([]:List Int)))=some (⟨b,if n=1 then b % 32 else if n=2 then b % 16 else b % 8,n⟩,[]):=by
    rintro n (rfl | rfl | rfl)
    ·rw [a1]; rfl
    ·rw [a2]; rfl
    ·rw [a3]; rfl
   exact hk _ (by omega)
def Hu (d:bT) (b:Int):Bool:=if d.jV < (kx d.lead).1 then decide (128<=b/\b<=191) else decide ((kx d.lead).2.1<=b/\b<=(kx d.lead).2.2)
theorem Mt {d:bT} (h0:0<=d.lead) (h1:d.lead < 256) (b:Int):jr d b=some (Hu d b):=by
 unfold jr Hu
 rw [De,Option.bind_some]
 obtain ⟨f1,f2,f3,f4⟩:=Dd h0 h1
 rw [f2,f3,f4]
 by_cases h:d.jV < (kx d.lead).1
 ·rw [if_pos h,decide_eq_true h,cond_true]
  by_cases ha:128<=b <;> simp [ha]
 ·rw [if_neg h,decide_eq_false h,cond_false]
  by_cases ha:(kx d.lead).2.1<=b <;> simp [ha]
def uL (d:bT) (b:Int):bT×List Int:=if d.jV<=0 then yi b else if Hu d b then (if d.jV=1 then (d0,[d.rune*64+b % 64]) else (⟨d.lead,d.rune*64+b % 64,d.jV - 1⟩,[])) else ((yi b).1,65533::(yi b).2)
def DI (d:bT):Prop:=d=d0\/(0<=d.lead/\d.lead < 256/\1<=d.jV/\d.jV<=(kx d.lead).1/\0<=d.rune/\(d.jV=3->d.rune < 8)/\(d.jV=2->d.rune < 512)/\(d.jV=1->d.rune < 32768))
theorem DI0:DI d0:= .inl rfl
theorem Mu {b:Int} (h0:0<=b) (h1:b < 256):DI (yi b).1/\(yi b).2.length<=1/\OS (yi b).2:=by
 unfold yi
 have hn:=wc b
 split
 ·refine ⟨DI0,by simp,λx hx=> ?_⟩
  rw [List.mem_singleton.1 hx]
  exact ⟨by omega,by omega⟩
 ·split
  ·refine ⟨DI0,by simp,λx hx=> ?_⟩
   rw [List.mem_singleton.1 hx]
   exact ⟨by decide,by decide⟩
  ·rename_i hz
   refine ⟨.inr ⟨h0,h1,by dsimp only; omega,Int.le_refl _,?_,?_,?_,?_⟩,by simp,λx hx=>by cases hx⟩
   all_goals (dsimp only; unfold Ah; intros; split <;> (try split) <;> omega)
theorem zt {d:bT} (h:DI d) {b:Int} (h0:0<=b) (h1:b < 256):jt d b=some (uL d b)/\DI (uL d b).1/\(uL d b).2.length<=2/\OS (uL d b).2:=by
 obtain ⟨k1,k2,k3⟩:=Mu h0 h1
 unfold jt uL
 by_cases hd:d.jV<=0
 ·rw [decide_eq_true hd,cond_true,Df h0 h1,if_pos hd]
  exact ⟨rfl,k1,by omega,k3⟩
 ·rcases h with rfl | ⟨l0,l1,n1,n2,r0,r3,r2,r1⟩
  ·exact absurd (by decide) hd
  rw [decide_eq_false hd,cond_false,if_neg hd,Mt l0 l1,Option.bind_some]
  have hn:=wc d.lead
  have hrb:d.rune < 32768:=by
   have:d.jV=1\/d.jV=2\/d.jV=3:=by omega
   rcases this with h | h | h
   ·exact r1 h
   ·have:=r2 h; omega
   ·have:=r3 h; omega
  cases hf:Hu d b with
  | false =>
   simp only [Bool.not_false,cond_true,Df h0 h1,Option.bind_some,Bool.false_eq_true,if_false]
   refine ⟨by rw [bL (by simp; omega)]; rfl,k1,by simp; omega,λx hx=> ?_⟩
   rcases List.mem_cons.1 hx with rfl | hx
   ·exact ⟨by decide,by decide⟩
   ·exact k3 x hx
  | true =>
   have hor:Go.bits .or .i32 (IntKind.i32.wrap (d.rune*2 ^ (min 6 32))) (Go.bits .and .i32 (IntKind.i32.wrap b) 63)=d.rune*64+b % 64:=by
    rw [Qg h0 h1]
    exact Q9 r0 (by omega) (by omega) (by omega)
   simp only [Bool.not_true,cond_false,if_true,hor]
   rw [w64 (x:=d.jV - 1) (by omega) (by omega)]
   by_cases h1':d.jV=1
   ·rw [if_pos h1',h1']
    refine ⟨rfl,DI0,by simp,λx hx=> ?_⟩
    rw [List.mem_singleton.1 hx]
    have:=r1 h1'
    exact ⟨by omega,by omega⟩
   ·have he:(d.jV - 1 == 0)=false:=by
     have: ¬ d.jV - 1=0:=by omega
     simpa using this
    rw [if_neg h1',he,cond_false]
    refine ⟨rfl,.inr ⟨l0,l1,by dsimp only; omega,by dsimp only; omega,by dsimp only; omega,?_,?_,?_⟩,by simp,λx hx=>by cases hx⟩
    ·dsimp only; intro e; omega
    ·dsimp only; intro e; have:=r3 (by omega); omega
    ·dsimp only; intro e; have:=r2 (by omega); omega
theorem JM {s:ByteArray} {i:Int} (h0:0<=i) (h1:i < s.size):okO (yV s i) (λb=>(0<=b/\b < 256)/\(sbs s).drop i.toNat=b::(sbs s).drop (i.toNat+1)):=by
 have hl:i.toNat < (sbs s).length:=by rw [bD]; omega
 have e:=vP s i.toNat hl
 rw [Int.toNat_of_nonneg h0] at e
 exact ⟨_,e,lC s _ (List.getElem_mem hl),List.drop_eq_getElem_cons hl⟩
def uM (p:aI) (a:aZ):aI:=⟨p.state,p.order,p.text,p.cO,p.out++[a]⟩
def prA (r:Int):aZ:=⟨1,r,0,false,[],ByteArray.mk #[]⟩
def pK (p:aI) (l:List Int):aI:=⟨p.state,p.order,p.text,p.cO,p.out++l.map prA⟩
def stP (p:aI) (s:Int):aI:=⟨s,p.order,p.text,p.cO,p.out⟩
def ctA (b:Int):aZ:=⟨2,0,b,false,[],ByteArray.mk #[]⟩
def fG (p:aI) (b:Int):Bool×aI:=if b=24\/b=26 then (true,stP p 0) else if b=27 then (true,stP p 1) else if b < 32 then (true,uM p (ctA b)) else (b == 127,p)
def zu (d:bT):List Int:=if d.jV<=0 then [] else [65533]
def nj (p:aI) (b:Int):aI:=if b < 32\/b=127 then (fG ⟨p.state,p.order,p.text,d0,p.out++(zu p.cO).map prA⟩ b).2 else pK ⟨p.state,p.order,p.text,(uL p.cO b).1,p.out⟩ (uL p.cO b).2
def o0:fK:=⟨false,false,false,false,0,[]⟩
def Ra (b:Int):aZ:=⟨3,0,b,false,[],ByteArray.mk #[]⟩
def lj (p:aI) (b:Int):aI :=
 if (fG p b).1 then (fG p b).2 else
 if b=91 then ⟨3,o0,p.text,p.cO,p.out⟩ else if b=93 then ⟨4,p.order,ByteArray.mk #[],p.cO,p.out⟩ else if b < 48 then stP p 2 else if b < 127 then stP (uM p (Ra b)) 0 else stP p 0
def su (p:aI) (b:Int):aI:=if (fG p b).1 then (fG p b).2 else if 48<=b then stP p 0 else p
def xU (o:fK):fK:=⟨o.eG,o.nB,o.any,o.some,0,if o.bJ.length < 16 then o.bJ++[o.n] else o.bJ⟩
def cmA (o:fK) (b:Int):aZ:=⟨4,0,b,o.eG,o.bJ,ByteArray.mk #[]⟩
def nk (p:aI) (b:Int):aI:=if p.order.nB then stP p 0 else
 let o:=if p.order.some then xU p.order else p.order
 ⟨0,o,p.text,p.cO,p.out++[cmA o b]⟩
def Mv (o:fK):fK:=⟨o.eG,o.nB,true,o.some,o.n,o.bJ⟩
def qT (o:fK) (b:Int):fK :=
 if 48<=b/\b<=57 then ⟨o.eG,o.nB,true,true,eO (10*o.n+(b - 48)) 9999,o.bJ⟩ else
 if b=59\/b=58 then ⟨o.eG,o.nB,true,true,0,(xU o).bJ⟩ else
 if b=63/\o.any=false then ⟨true,o.nB,true,o.some,o.n,o.bJ⟩ else
 ⟨o.eG,true,true,o.some,o.n,o.bJ⟩
def l4 (p:aI) (b:Int):aI:=if (fG p b).1 then (fG p b).2 else
 if 64<=b/\b < 127 then nk ⟨p.state,Mv p.order,p.text,p.cO,p.out⟩ b else ⟨p.state,qT p.order b,p.text,p.cO,p.out⟩
theorem we {p:aI} (h:p.out.length<=1000000) (a:aZ):gB p a=some (uM p a):=by
 unfold gB
 rw [bL (by simp; omega)]
 rfl
theorem Dg {p:aI} (h:p.out.length<=1000000) (a:aZ):jz p a=some (uM p a):=by
 unfold jz
 rw [bL (by simp; omega)]
 rfl
theorem okE {α:Type _} {x:Option α} {r:α} (h:okO x (λy=>y=r)):x=some r:=by
 obtain ⟨y,e,rfl⟩:=h
 exact e
theorem Dh {p:aI} {l:List Int} (h:p.out.length+l.length<=1000000):jd p l=some (pK p l):=by
 unfold jd
 refine okE (dW (P:=λy=>y=pK p l) ?_ λr hr=>cC hr)
 refine tY (λz:aI×Int=>0<=z.2/\z.2<=l.length/\z.1=pK p (l.take z.2.toNat)) (λz=>l.length - z.2.toNat) ⟨Int.le_refl 0,by dsimp only; omega,by simp [pK]⟩ ?_
 rintro ⟨q,i⟩ ⟨h0,h1,h2⟩
 dsimp only at h0 h1 h2 ⊢
 subst h2
 refine vY (λhi=> ?_) λhi=>cC (by rw [List.take_of_length_le (by omega)])
 obtain ⟨k,rfl⟩: ∃ k:Nat,i=k:=⟨i.toNat,by omega⟩
 have hk:k < l.length:=by omega
 refine dW (P:=λx=>x=l[k]) ⟨_,cU l k hk,rfl⟩ λx hx=> ?_
 subst hx
 refine dW (P:=λx=>x=pK p (l.take (k+1))) ?_ λx hx=> ?_
 ·rw [we (by simp [pK]; omega)]
  refine cC ?_
  simp only [pK,uM,Int.toNat_natCast,List.take_add_one,List.getElem?_eq_getElem hk,Option.toList_some,List.map_append,List.map_cons,List.map_nil,List.append_assoc,prA]
 ·subst hx
  rw [w64 (by omega) (by omega)]
  refine cC ⟨⟨by dsimp only; omega,by dsimp only; omega,?_⟩,by dsimp only; omega⟩
  dsimp only
  rw [show ((k:Int)+1).toNat=k+1 by omega]
theorem uc {p:aI} (h:p.out.length<=1000000) (b:Int):fJ p b=some (fG p b):=by
 unfold fJ fG
 by_cases h1:b=24
 ·subst h1; rfl
 ·by_cases h2:b=26
  ·subst h2; rfl
  ·by_cases h3:b=27
   ·subst h3; rfl
   ·have e1:(b == 24)=false:=by simpa using h1
    have e2:(b == 26)=false:=by simpa using h2
    have e3:(b == 27)=false:=by simpa using h3
    rw [if_neg (by omega),if_neg h3,e1,e2,e3]
    by_cases h4:b < 32
    ·rw [if_pos h4,decide_eq_true h4]
     simp only [cond_false,cond_true,Option.bind_some,we h]
     rfl
    ·rw [if_neg h4,decide_eq_false h4]
     rfl
theorem Hv {p:aI} (h:p.out.length<=999990) (hd:DI p.cO) {b:Int} (h0:0<=b) (h1:b < 256):iV p b=some (nj p b):=by
 unfold iV nj
 have hl:(zu p.cO).length<=1:=by unfold zu; split <;> simp
 have he:jN p.cO=some (zu p.cO):=by
  unfold jN zu
  by_cases hn:p.cO.jV<=0
  ·rw [decide_eq_true hn,if_pos hn]; rfl
  ·rw [decide_eq_false hn,if_neg hn]; rfl
 by_cases hb:b < 32\/b=127
 ·have e:((bif (decide (b < 32)) then some true else some (b == 127)):Option Bool)=some true:=by
   rcases hb with hb | hb
   ·rw [decide_eq_true hb]; rfl
   ·subst hb; rfl
  rw [if_pos hb,e,Option.bind_some,cond_true,he,Option.bind_some,Dh (by omega),Option.bind_some,uc (by simp [pK]; omega)]
  rfl
 ·have e:((bif (decide (b < 32)) then some true else some (b == 127)):Option Bool)=some false:=by
   rw [decide_eq_false (by omega),cond_false]
   have: ¬ b=127:=by omega
   simpa using this
  obtain ⟨n1,n2,n3,n4⟩:=zt hd h0 h1
  rw [if_neg hb,e,Option.bind_some,cond_false,n1,Option.bind_some,Dh (by dsimp only; omega)]
  rfl
theorem AO {p:aI} (h:p.out.length<=999990) (b:Int):gC p b=some (lj p b):=by
 unfold gC lj
 rw [uc (by omega),Option.bind_some]
 cases hc:(fG p b).1 with
 | true=>rfl
 | false =>
  have hp:(fG p b).2=p:=by
   unfold fG at hc ⊢
   split
   ·rename_i hh; rw [if_pos hh] at hc; cases hc
   ·rename_i h1; rw [if_neg h1] at hc
    split
    ·rename_i hh; rw [if_pos hh] at hc; cases hc
    ·rename_i h2; rw [if_neg h2] at hc
     split
     ·rename_i hh; rw [if_pos hh] at hc; cases hc
     ·rfl
  rw [hp]
  simp only [cond_false,Bool.false_eq_true,if_false]
  by_cases h1:b=91
  ·subst h1; rfl
  ·have e1:(b == 91)=false:=by simpa using h1
   rw [if_neg h1,e1]
   by_cases h2:b=93
   ·subst h2; rfl
   ·have e2:(b == 93)=false:=by simpa using h2
    rw [if_neg h2,e2]
    by_cases h3:b < 48
    ·rw [if_pos h3,decide_eq_true h3]; rfl
    ·rw [if_neg h3,decide_eq_false h3]
     by_cases h4:b < 127
     ·rw [if_pos h4,decide_eq_true h4]
      simp only [cond_false,cond_true,we (show p.out.length<=1000000 by omega),Option.bind_some]
      rfl
     ·rw [if_neg h4,decide_eq_false h4]; rfl
theorem xV {p:aI} {b:Int} (hc:(fG p b).1=false):(fG p b).2=p:=by
 unfold fG at hc ⊢
 split
 ·rename_i hh; rw [if_pos hh] at hc; cases hc
 ·rename_i h1; rw [if_neg h1] at hc
  split
  ·rename_i hh; rw [if_pos hh] at hc; cases hc
  ·rename_i h2; rw [if_neg h2] at hc
   split
   ·rename_i hh; rw [if_pos hh] at hc; cases hc
   ·rfl
theorem JN {p:aI} (h:p.out.length<=999990) (b:Int):jP p b=some (su p b):=by
 unfold jP su
 rw [uc (by omega),Option.bind_some]
 cases hc:(fG p b).1 with
 | true=>rfl
 | false =>
  rw [xV hc]
  by_cases hb:48<=b
  ·simp [hb,stP]
  ·simp [hb]
theorem Gg {p:aI} (h:p.order.bJ.length<=16):kh p=some ⟨p.state,xU p.order,p.text,p.cO,p.out⟩:=by
 unfold kh xU
 by_cases hl:p.order.bJ.length < 16
 ·rw [decide_eq_true (by omega),cond_true,bL (by simp; omega),if_pos hl]; rfl
 ·rw [decide_eq_false (by omega),cond_false,if_neg hl]; rfl
theorem Hw {p:aI} (h:p.out.length<=999990) (hn:p.order.bJ.length<=16) (b:Int):jQ p b=some (nk p b):=by
 unfold jQ nk
 cases hw:p.order.nB with
 | true=>rfl
 | false =>
  simp only [cond_false,Bool.false_eq_true,if_false]
  cases hs:p.order.some with
  | true =>
   simp only [cond_true,if_true]
   rw [Gg (by exact hn),Option.bind_some,Option.bind_some,Dg (by dsimp only; omega)]
   rfl
  | false =>
   simp only [cond_false,Bool.false_eq_true,if_false]
   rw [Option.bind_some,Dg (by dsimp only; omega)]
   rfl
theorem E1 {p:aI} (h:p.out.length<=999990) (h3:p.state=3) (hn:p.order.bJ.length<=16) (hN:0<=p.order.n/\p.order.n<=9999) {b:Int} (h0:0<=b) (h1:b < 256):iF p b=some (l4 p b):=by
 unfold iF l4
 rw [uc (by omega),Option.bind_some]
 cases hc:(fG p b).1 with
 | true=>rfl
 | false =>
  rw [xV hc]
  simp only [cond_false,Bool.false_eq_true,if_false]
  have hchk:chk (p.state == (3:Int))=some ():=by rw [h3]; rfl
  by_cases a1:48<=b/\b<=57
  ·have e:((bif (decide (b>=48)) then some (decide (b<=57)) else some false):Option Bool)=some true:=by rw [decide_eq_true a1.1,decide_eq_true a1.2]; rfl
   have w1:IntKind.u8.wrap (b - 48)=b - 48:=by simp [IntKind.wrap,IntKind.bits,IntKind.signed]; omega
   rw [e,Option.bind_some,cond_true,w1,w64 (x:=b - 48) (by omega) (by omega),w64 (x:=10*p.order.n) (by omega) (by omega),w64 (by omega) (by omega),if_neg (by omega)]
   unfold qT
   rw [if_pos a1]
  ·have e:((bif (decide (b>=48)) then some (decide (b<=57)) else some false):Option Bool)=some false:=by
    by_cases hh:48<=b
    ·rw [decide_eq_true hh,decide_eq_false (by omega)]; rfl
    ·rw [decide_eq_false hh]; rfl
   rw [e,Option.bind_some,cond_false]
   by_cases a2:b=59\/b=58
   ·have e2:((bif (b == 59) then some true else some (b == 58)):Option Bool)=some true:=by rcases a2 with rfl | rfl <;> rfl
    rw [e2,Option.bind_some,cond_true,hchk,Option.bind_some,Gg (by exact hn),Option.bind_some,if_neg (by omega)]
    unfold qT
    rw [if_neg a1,if_pos a2]
    rfl
   ·have e2:((bif (b == 59) then some true else some (b == 58)):Option Bool)=some false:=by
     have x1:(b == 59)=false:=by simpa using (show ¬ b=59 by omega)
     have x2:(b == 58)=false:=by simpa using (show ¬ b=58 by omega)
     rw [x1,x2]; rfl
    rw [e2,Option.bind_some,cond_false]
    by_cases a3:b=63/\p.order.any=false
    ·have e3:((bif (b == 63) then some (!p.order.any) else some false):Option Bool)=some true:=by rw [a3.1,a3.2]; rfl
     rw [e3,Option.bind_some,cond_true,if_neg (by omega)]
     unfold qT
     rw [if_neg a1,if_neg a2,if_pos a3]
    ·have e3:((bif (b == 63) then some (!p.order.any) else some false):Option Bool)=some false:=by
      by_cases hh:b=63
      ·cases ha:p.order.any with
       | true=>rw [hh]; rfl
       | false=>exact absurd ⟨hh,ha⟩ a3
      ·have:(b == 63)=false:=by simpa using hh
       rw [this]; rfl
     rw [e3,Option.bind_some,cond_false]
     by_cases a4:64<=b/\b < 127
     ·have e4:((bif (decide (b>=64)) then some (decide (b < 127)) else some false):Option Bool)=some true:=by rw [decide_eq_true a4.1,decide_eq_true a4.2]; rfl
      rw [e4,Option.bind_some,cond_true,hchk,Option.bind_some,if_pos a4,Hw (by exact h) (by exact hn)]
      rfl
     ·have e4:((bif (decide (b>=64)) then some (decide (b < 127)) else some false):Option Bool)=some false:=by
       by_cases hh:64<=b
       ·rw [decide_eq_true hh,decide_eq_false (by omega)]; rfl
       ·rw [decide_eq_false hh]; rfl
      rw [e4,Option.bind_some,cond_false,if_neg a4]
      unfold qT
      rw [if_neg a1,if_neg a2,if_neg a3]
def tiA (t:ByteArray):aZ:=⟨5,0,0,false,[],iU t 2 t.size⟩
def ttl (t:ByteArray):List aZ:=match sbs t with
 | x::y::_=>if (x=48\/x=50)/\y=59 then [tiA t] else []
 | _=>[]
theorem Mw (t:ByteArray):(ttl t).length<=1:=by
 unfold ttl
 split
 ·split <;> simp
 ·simp
def o4 (p:aI):aI:=⟨0,p.order,p.text,p.cO,p.out++ttl p.text⟩
def isH (c:Int) (t:ByteArray):Bool:=decide ((sbs t).take 2=[c,59])
theorem JO {c:Int} {t:ByteArray} (h:t.size < 2):isH c t=false:=by
 refine decide_eq_false λe=> ?_
 have:=congrArg List.length e
 simp [bD] at this
 omega
theorem AP (t h:ByteArray) (c:Int) (hh:sbs h=[c,59]):jO t h=some (if isH c t then (iU t 2 t.size,true) else (t,false)):=by
 have hs:h.size=2:=by rw [<- bD,hh]; rfl
 have hp:gQ t h=some (isH c t):=by
  unfold gQ
  rw [hs]
  by_cases h2:2<=t.size
  ·rw [decide_eq_true (show (t.size:Int)>=((2:Nat):Int) by omega),cond_true,bP (by decide) (by decide) (by omega),Option.bind_some,Option.bind_some,vQ]
   congr 1
   unfold isH
   refine decide_eq_decide.2 ⟨λe=> ?_,λe=> ?_⟩
   ·have:=congrArg sbs e
    rw [show ((0:Int))=((0:Nat):Int) from rfl,gW,hh] at this
    simpa using this
   ·apply rN
    rw [show ((0:Int))=((0:Nat):Int) from rfl,gW,hh]
    simpa using e
  ·rw [decide_eq_false (show ¬ (t.size:Int)>=((2:Nat):Int) by omega),cond_false,Option.bind_some,JO (by omega)]
 unfold jO jF
 rw [hp,Option.bind_some,hs]
 cases hi:isH c t with
 | false=>rfl
 | true =>
  have h2:2<=t.size:=by
   by_cases h2:2<=t.size
   ·exact h2
   ·rw [JO (by omega)] at hi; cases hi
  simp only [Bool.not_true,cond_false,if_true]
  rw [bP (by omega) (by omega) (by omega)]
  rfl
theorem JP (t:ByteArray):ttl t=(if isH 48 t then [tiA t] else [])++(if isH 50 t then [tiA t] else []):=by
 unfold ttl isH
 match h:sbs t with
 | []=>simp
 | [x]=>simp
 | x::y::r =>
  simp only [List.take_succ_cons,List.take_zero,List.cons.injEq,and_true,decide_eq_true_eq]
  by_cases hy:y=59
  ·by_cases h1:x=48
   ·subst h1; simp [hy]
   ·by_cases h2:x=50
    ·subst h2; simp [hy]
    ·simp [h1,h2]
  ·simp [hy]
theorem Gh {p:aI} (h:p.out.length<=999990):jG p=some (o4 p):=by
 unfold jG
 have c1:=AP p.text (ByteArray.mk #[48,59]) 48 rfl
 have c2:=AP p.text (ByteArray.mk #[50,59]) 50 rfl
 refine okE (dW (P:=λy=>y=o4 p) ?_ λr hr=>cC hr)
 refine tY (λz:aI×Int=>z.2=0/\z.1=stP p 0\/z.2=1/\z.1=⟨0,p.order,p.text,p.cO,p.out++(if isH 48 p.text then [tiA p.text] else [])⟩\/z.2=2/\z.1=o4 p) (λz=>2 - z.2.toNat) (.inl ⟨rfl,rfl⟩) ?_
 rintro ⟨q,i⟩ (⟨h1,h2⟩ | ⟨h1,h2⟩ | ⟨h1,h2⟩)
 ·dsimp only at h1 h2
  subst h1 h2
  refine vY (λ_=> ?_) λhh=>absurd (show (0:Int) < 2 from by decide) hh
  refine dW (P:=λy=>y=(⟨0,p.order,p.text,p.cO,p.out++(if isH 48 p.text then [tiA p.text] else [])⟩:aI)) ?_ λy hy=> ?_
  ·refine dW (P:=λx=>x=ByteArray.mk #[48,59]) ⟨_,rfl,rfl⟩ λx hx=> ?_
   subst hx
   rw [show (stP p 0).text=p.text from rfl,c1]
   cases hi:isH 48 p.text with
   | true =>
    simp only [if_true,Option.bind_some,cond_true]
    rw [we (by show p.out.length<=_; omega)]
    exact cC rfl
   | false =>
    simp only [Bool.false_eq_true,if_false,Option.bind_some,cond_false]
    exact cC (by simp [stP])
  ·subst hy
   exact cC ⟨.inr (.inl ⟨show IntKind.i64.wrap (0+1)=1 from by decide,rfl⟩),show 2 - (IntKind.i64.wrap (0+1)).toNat < 2 - (0:Int).toNat from by decide⟩
 ·dsimp only at h1 h2
  subst h1 h2
  refine vY (λ_=> ?_) λhh=>absurd (show (1:Int) < 2 from by decide) hh
  refine dW (P:=λy=>y=o4 p) ?_ λy hy=> ?_
  ·refine dW (P:=λx=>x=ByteArray.mk #[50,59]) ⟨_,rfl,rfl⟩ λx hx=> ?_
   subst hx
   dsimp only
   rw [c2]
   have hl:((if isH 48 p.text then [tiA p.text] else []):List aZ).length<=1:=by split <;> simp
   cases hi:isH 50 p.text with
   | true =>
    simp only [if_true,Option.bind_some,cond_true]
    rw [we (by simp only [List.length_append]; omega)]
    refine cC ?_
    simp only [uM,o4,JP,hi,if_true,List.append_assoc]
    rfl
   | false =>
    simp only [Bool.false_eq_true,if_false,Option.bind_some,cond_false]
    refine cC ?_
    simp only [o4,JP,hi,Bool.false_eq_true,if_false,List.append_nil]
  ·subst hy
   exact cC ⟨.inr (.inr ⟨show IntKind.i64.wrap (1+1)=2 from by decide,rfl⟩),show 2 - (IntKind.i64.wrap (1+1)).toNat < 2 - (1:Int).toNat from by decide⟩
 ·dsimp only at h1 h2
  subst h1 h2
  exact vY (λhh=>absurd hh (show ¬ (2:Int) < 2 from by decide)) λ_=>cC rfl
def oX (p:aI) (b:Int):aI:=if b=7 then o4 p else if b=24\/b=26 then stP p 0 else if b=27 then stP p 5 else if p.text.size < 200 then ⟨p.state,p.order,p.text++hU [b],p.cO,p.out⟩ else p
theorem JQ {p:aI} (h:p.out.length<=999990) (b:Int):jA p b=some (oX p b):=by
 unfold jA oX
 by_cases h1:b=7
 ·subst h1
  rw [if_pos rfl,Gh h]
  rfl
 ·have e1:(b == 7)=false:=by simpa using h1
  rw [if_neg h1,e1,cond_false]
  by_cases h2:b=24\/b=26
  ·have e2:((bif (b == 24) then some true else some (b == 26)):Option Bool)=some true:=by rcases h2 with rfl | rfl <;> rfl
   rw [if_pos h2,e2]; rfl
  ·have e2:((bif (b == 24) then some true else some (b == 26)):Option Bool)=some false:=by
    have x1:(b == 24)=false:=by simpa using (show ¬ b=24 by omega)
    have x2:(b == 26)=false:=by simpa using (show ¬ b=26 by omega)
    rw [x1,x2]; rfl
   rw [if_neg h2,e2,Option.bind_some,cond_false]
   by_cases h3:b=27
   ·subst h3; rfl
   ·have e3:(b == 27)=false:=by simpa using h3
    rw [if_neg h3,e3,cond_false]
    by_cases h4:p.text.size < 200
    ·rw [if_pos h4,decide_eq_true (by omega),cond_true,G9 (by rw [me]; simp; omega)]; rfl
    ·rw [if_neg h4,decide_eq_false (by omega)]; rfl
def qU (p:aI) (b:Int):aI :=
 if p.state=0 then nj p b else if p.state=1 then lj p b else if p.state=2 then su p b else if p.state=3 then l4 p b else if p.state=4 then oX p b else if b=92 then o4 p else lj (stP p 1) b
structure PI (p:aI):Prop where
 di:DI p.cO
 gr:p.state≠0->p.cO=d0
 nu:p.order.bJ.length<=16
 n0:0<=p.order.n
 n1:p.order.n<=9999
 tx:p.text.size<=200
theorem Mx {p:aI} (hp:PI p) (h:p.out.length<=999990) {b:Int} (h0:0<=b) (h1:b < 256):lz p b=some (qU p b):=by
 unfold lz qU
 by_cases s0:p.state=0
 ·rw [if_pos s0,s0,Hv h hp.di h0 h1]; rfl
 ·have e0:(p.state == 0)=false:=by simpa using s0
  rw [if_neg s0,e0,cond_false]
  by_cases s1:p.state=1
  ·rw [if_pos s1,s1,AO h]; rfl
  ·have e1:(p.state == 1)=false:=by simpa using s1
   rw [if_neg s1,e1,cond_false]
   by_cases s2:p.state=2
   ·rw [if_pos s2,s2,JN h]; rfl
   ·have e2:(p.state == 2)=false:=by simpa using s2
    rw [if_neg s2,e2,cond_false]
    by_cases s3:p.state=3
    ·have e3:(p.state == 3)=true:=by simpa using s3
     rw [if_pos s3,e3,cond_true,E1 h s3 hp.nu ⟨hp.n0,hp.n1⟩ h0 h1]; rfl
    ·have e3:(p.state == 3)=false:=by simpa using s3
     rw [if_neg s3,e3,cond_false]
     by_cases s4:p.state=4
     ·rw [if_pos s4,s4,JQ h]; rfl
     ·have e4:(p.state == 4)=false:=by simpa using s4
      rw [if_neg s4,e4,cond_false]
      by_cases hb:b=92
      ·subst hb
       rw [if_pos rfl,Gh h]; rfl
      ·have e5:(b == 92)=false:=by simpa using hb
       rw [if_neg hb,e5,cond_false,show aI.mk 1 p.order p.text p.cO p.out=stP p 1 from rfl,AO (by exact h)]; rfl
def clr (p:aI):aI:=⟨p.state,p.order,p.text,p.cO,[]⟩
def oy (l:List aZ) (q:aI):aI:=⟨q.state,q.order,q.text,q.cO,l++q.out⟩
theorem pL (p:aI) (b:Int):fG p b=((fG (clr p) b).1,oy p.out (fG (clr p) b).2):=by
 unfold fG
 repeat' split
 all_goals simp [oy,clr,stP,uM]
theorem E2 (p:aI) (b:Int):nk p b=oy p.out (nk (clr p) b):=by
 unfold nk
 rw [show (clr p).order=p.order from rfl]
 split
 all_goals simp [oy,clr,stP]
theorem E3 (p:aI) (b:Int):nj p b=oy p.out (nj (clr p) b):=by
 unfold nj
 split
 ·rw [pL]
  rw [pL (aI.mk (clr p).state (clr p).order (clr p).text d0 ((clr p).out++(zu (clr p).cO).map prA))]
  simp [oy,clr]
 ·simp [oy,clr,pK]
theorem zv (p:aI) (b:Int):lj p b=oy p.out (lj (clr p) b):=by
 unfold lj
 rw [pL p b]
 dsimp only
 split
 ·rfl
 ·repeat' split
  all_goals simp [oy,clr,stP,uM]
theorem JR (p:aI) (b:Int):su p b=oy p.out (su (clr p) b):=by
 unfold su
 rw [pL p b]
 dsimp only
 split
 ·rfl
 ·split
  all_goals simp [oy,clr,stP]
theorem Di (p:aI) (b:Int):l4 p b=oy p.out (l4 (clr p) b):=by
 unfold l4
 rw [pL p b]
 dsimp only
 split
 ·rfl
 ·split
  ·exact E2 _ b
  ·simp [oy,clr]
theorem Dj (p:aI):o4 p=oy p.out (o4 (clr p)):=by simp [o4,oy,clr]
theorem Hx (p:aI) (b:Int):oX p b=oy p.out (oX (clr p) b):=by
 unfold oX
 rw [show (clr p).text=p.text from rfl]
 split
 ·exact Dj p
 ·repeat' split
  all_goals simp [oy,clr,stP]
theorem one_add (p:aI) (b:Int):qU p b=oy p.out (qU (clr p) b):=by
 unfold qU
 rw [show (clr p).state=p.state from rfl]
 split
 ·exact E3 p b
 ·split
  ·exact zv p b
  ·split
   ·exact JR p b
   ·split
    ·exact Di p b
    ·split
     ·exact Hx p b
     ·split
      ·exact Dj p
      ·exact zv (stP p 1) b
def prun (p:aI) (bs:List Int):aI:=bs.foldl qU p
theorem JS (a b:List aZ) (q:aI):oy a (oy b q)=oy (a++b) q:=by simp [oy]
theorem JT (a:List aZ) (q:aI):clr (oy a q)=clr q:=rfl
theorem JU (q:aI):oy q.out (clr q)=q:=by simp [oy,clr]
theorem zw: ∀ (bs:List Int) (p:aI),prun p bs=oy p.out (prun (clr p) bs)
 | [],p=>(JU p).symm
 | b::bs,p=>by
  show prun (qU p b) bs=oy p.out (prun (qU (clr p) b) bs)
  rw [zw bs (qU p b),zw bs (qU (clr p) b),one_add p b,JS,JT]
  rfl
theorem Dl (p:aI) (a b:List Int):prun p (a++b)=prun (prun p a) b:=List.foldl_append ..
theorem ud {p:aI} (h:PI p) (hr:p.cO=d0) (b:Int):PI (fG p b).2/\(fG p b).2.out.length<=p.out.length+1:=by
 unfold fG
 split
 ·exact ⟨⟨h.di,λ_=>hr,h.nu,h.n0,h.n1,h.tx⟩,Nat.le_succ _⟩
 ·split
  ·exact ⟨⟨h.di,λ_=>hr,h.nu,h.n0,h.n1,h.tx⟩,Nat.le_succ _⟩
  ·split
   ·exact ⟨⟨h.di,λ_=>hr,h.nu,h.n0,h.n1,h.tx⟩,by simp [uM]⟩
   ·exact ⟨h,Nat.le_succ _⟩
theorem Hy {p:aI} (h:PI p) (hs:p.state=0) {b:Int} (h0:0<=b) (h1:b < 256):PI (nj p b)/\(nj p b).out.length<=p.out.length+2:=by
 unfold nj
 have hl:(zu p.cO).length<=1:=by unfold zu; split <;> simp
 split
 ·have:=ud (p:=⟨p.state,p.order,p.text,d0,p.out++(zu p.cO).map prA⟩) ⟨DI0,λ_=>rfl,h.nu,h.n0,h.n1,h.tx⟩ rfl b
  refine ⟨this.1,Nat.le_trans this.2 ?_⟩
  simp
  omega
 ·obtain ⟨n1,n2,n3,n4⟩:=zt h.di h0 h1
  exact ⟨⟨n2,λhh=>absurd hs hh,h.nu,h.n0,h.n1,h.tx⟩,by simp [pK]; omega⟩
theorem AQ {p:aI} (h:PI p) (hr:p.cO=d0) (b:Int):PI (lj p b)/\(lj p b).out.length<=p.out.length+1:=by
 unfold lj
 split
 ·exact ud h hr b
 ·split
  ·exact ⟨⟨h.di,λ_=>hr,by simp [o0],by simp [o0],by simp [o0],h.tx⟩,Nat.le_succ _⟩
  ·split
   ·exact ⟨⟨h.di,λ_=>hr,h.nu,h.n0,h.n1,by simp [ByteArray.size]⟩,Nat.le_succ _⟩
   ·split
    ·exact ⟨⟨h.di,λ_=>hr,h.nu,h.n0,h.n1,h.tx⟩,Nat.le_succ _⟩
    ·split
     ·exact ⟨⟨h.di,λ_=>hr,h.nu,h.n0,h.n1,h.tx⟩,by simp [uM,stP]⟩
     ·exact ⟨⟨h.di,λ_=>hr,h.nu,h.n0,h.n1,h.tx⟩,Nat.le_succ _⟩
theorem My {p:aI} (h:PI p) (hr:p.cO=d0) (b:Int):PI (su p b)/\(su p b).out.length<=p.out.length+1:=by
 unfold su
 split
 ·exact ud h hr b
 ·split
  ·exact ⟨⟨h.di,λ_=>hr,h.nu,h.n0,h.n1,h.tx⟩,Nat.le_succ _⟩
  ·exact ⟨h,Nat.le_succ _⟩
theorem xk {o:fK} (h:o.bJ.length<=16):(xU o).bJ.length<=16:=by
 unfold xU
 dsimp only
 split
 ·simp; omega
 ·exact h
theorem Hz {p:aI} (h:PI p) (hr:p.cO=d0) (b:Int):PI (nk p b)/\(nk p b).out.length<=p.out.length+1:=by
 unfold nk
 cases p.order.nB with
 | true=>exact ⟨⟨h.di,λ_=>hr,h.nu,h.n0,h.n1,h.tx⟩,Nat.le_succ _⟩
 | false =>
  cases p.order.some with
  | true=>exact ⟨⟨h.di,λ_=>hr,xk h.nu,Int.le_refl 0,show (0:Int)<=9999 from by decide,h.tx⟩,by simp⟩
  | false=>exact ⟨⟨h.di,λ_=>hr,h.nu,h.n0,h.n1,h.tx⟩,by simp⟩
theorem E4 {p:aI} (h:PI p) (hr:p.cO=d0) {b:Int} (h0:0<=b):PI (l4 p b)/\(l4 p b).out.length<=p.out.length+1:=by
 unfold l4
 split
 ·exact ud h hr b
 ·split
  ·exact Hz (p:=⟨p.state,Mv p.order,p.text,p.cO,p.out⟩) ⟨h.di,λ_=>hr,h.nu,h.n0,h.n1,h.tx⟩ hr b
  ·refine ⟨⟨h.di,λ_=>hr,?_,?_,?_,h.tx⟩,Nat.le_succ _⟩
   all_goals (dsimp only; unfold qT; split)
   ·exact h.nu
   ·split
    ·exact xk h.nu
    ·split <;> exact h.nu
   ·rename_i hh
    have:=h.n0
    unfold eO
    dsimp only
    split <;> omega
   ·split
    ·exact Int.le_refl 0
    ·split <;> exact h.n0
   ·rename_i hh
    unfold eO
    dsimp only
    split <;> omega
   ·split
    ·show (0:Int)<=9999; decide
    ·split <;> exact h.n1
theorem Gi {p:aI} (h:PI p) (hr:p.cO=d0):PI (o4 p)/\(o4 p).out.length<=p.out.length+1:=⟨⟨h.di,λ_=>hr,h.nu,h.n0,h.n1,h.tx⟩,by have:=Mw p.text; simp [o4]; omega⟩
theorem JV {p:aI} (h:PI p) (hr:p.cO=d0) (b:Int):PI (oX p b)/\(oX p b).out.length<=p.out.length+1:=by
 unfold oX
 split
 ·exact Gi h hr
 ·split
  ·exact ⟨⟨h.di,λ_=>hr,h.nu,h.n0,h.n1,h.tx⟩,Nat.le_succ _⟩
  ·split
   ·exact ⟨⟨h.di,λ_=>hr,h.nu,h.n0,h.n1,h.tx⟩,Nat.le_succ _⟩
   ·split
    ·rename_i ht
     refine ⟨⟨h.di,λ_=>hr,h.nu,h.n0,h.n1,?_⟩,Nat.le_succ _⟩
     dsimp only
     have e:(p.text++hU [b]).size=p.text.size+1:=by rw [<- bD,pJ,List.length_append,bD,bD,me]; rfl
     omega
    ·exact ⟨h,Nat.le_succ _⟩
theorem E5 {p:aI} (h:PI p) {b:Int} (h0:0<=b) (h1:b < 256):PI (qU p b)/\(qU p b).out.length<=p.out.length+2:=by
 unfold qU
 split
 ·rename_i hs; exact Hy h hs h0 h1
 ·rename_i hs
  have hr:=h.gr hs
  have up: ∀ q:aI,PI q/\q.out.length<=p.out.length+1->PI q/\q.out.length<=p.out.length+2:=λq hq=>⟨hq.1,by omega⟩
  split
  ·exact up _ (AQ h hr b)
  ·split
   ·exact up _ (My h hr b)
   ·split
    ·exact up _ (E4 h hr h0)
    ·split
     ·exact up _ (JV h hr b)
     ·split
      ·exact up _ (Gi h hr)
      ·exact up _ (AQ (p:=stP p 1) ⟨h.di,λ_=>hr,h.nu,h.n0,h.n1,h.tx⟩ hr b)
theorem ue: ∀ (bs:List Int) {p:aI},PI p->(∀ b∈bs,0<=b/\b < 256)->PI (prun p bs)/\(prun p bs).out.length<=p.out.length+2*bs.length
 | [],p,h,_=>⟨h,by simp [prun]⟩
 | b::bs,p,h,hb=>by
  obtain ⟨b0,b1⟩:=hb b List.mem_cons_self
  obtain ⟨k1,k2⟩:=E5 h b0 b1
  obtain ⟨k3,k4⟩:=ue bs k1 λx hx=>hb x (List.mem_cons_of_mem _ hx)
  exact ⟨k3,by show (prun (qU p b) bs).out.length<=_; simp; omega⟩
theorem Mz {p:aI} (h:PI p) {s:ByteArray} (hs:s.size<=400000):kM p s=some ((prun (clr p) (sbs s)).out,clr (prun (clr p) (sbs s))):=by
 unfold kM
 have hc:PI (clr p):=⟨h.di,h.gr,h.nu,h.n0,h.n1,h.tx⟩
 refine okE (dW (P:=λy=>y=prun (clr p) (sbs s)) ?_ λr hr=>by subst hr; exact cC rfl)
 refine tY (λz:aI×Int=>0<=z.2/\z.2<=s.size/\z.1=prun (clr p) ((sbs s).take z.2.toNat)) (λz=>s.size - z.2.toNat) ⟨Int.le_refl 0,by dsimp only; omega,rfl⟩ ?_
 rintro ⟨q,i⟩ ⟨h0,h1,h2⟩
 dsimp only at h0 h1 h2 ⊢
 subst h2
 have hby: ∀ b∈(sbs s).take i.toNat,0<=b/\b < 256:=λb hb=>lC s b (List.mem_of_mem_take hb)
 obtain ⟨k1,k2⟩:=ue _ hc hby
 refine vY (λhi=> ?_) λhi=>cC (by rw [List.take_of_length_le (by rw [bD]; omega)])
 refine dW (JM h0 hi) λb hb=> ?_
 obtain ⟨⟨b0,b1⟩,hbd⟩:=hb
 have hlen:((sbs s).take i.toNat).length=i.toNat:=by rw [List.length_take,bD]; omega
 have hco:(clr p).out.length=0:=rfl
 rw [Mx k1 (by omega) b0 b1,w64 (by omega) (by omega)]
 refine cC ⟨⟨by dsimp only; omega,by dsimp only; omega,?_⟩,by dsimp only; omega⟩
 dsimp only
 have ht:(sbs s).take (i+1).toNat=(sbs s).take i.toNat++[b]:=by
  rw [show (i+1).toNat=i.toNat+1 by omega,List.take_add_one]
  congr 1
  have:=congrArg (λl=>l[0]?) hbd
  simp only [List.getElem?_drop,Nat.add_zero,List.getElem?_cons_zero] at this
  rw [this]
  rfl
 rw [ht,Dl]
 rfl
def tA (a:aZ):lJ:=⟨a.kind,a.rune,a.byte,a.eG,a.bJ,a.text⟩
def JW (o:fK):fK:=if o.some then xU o else o
def E6 (o:fK) (b:Int):List aZ:=if o.nB then [] else [cmA (JW o) b]
theorem AR (p:aI) (b:Int):(nk p b).out=p.out++E6 p.order b:=by
 unfold nk E6 JW
 cases p.order.nB <;> simp [stP]
end Go.Tw.X
set_option maxHeartbeats 2000000
namespace Go.Tw.X
open Go Go.Tw
def p0:aI:=⟨0,o0,ByteArray.mk #[],d0,[]⟩
theorem NF:PI p0:=⟨DI0,λh=>absurd rfl h,by simp [p0,o0],by simp [p0,o0],by simp [p0,o0],by simp [p0,ByteArray.size]⟩
theorem Dm (o:fK) (b:Int):E6 (Mv o) b=E6 o b:=by
 unfold E6 JW Mv xU
 cases o.some <;> rfl
end Go.Tw.X
set_option maxHeartbeats 1000000
namespace Go.Tw.X
open Go Go.Tw
def aOk (a:aZ):Prop:=rok a.rune/\0<=a.byte/\a.byte < 256/\a.bJ.length<=16
def tt (l:List aZ):Prop:= ∀ a∈l,aOk a
theorem qV {a b:List aZ} (ha:tt a) (hb:tt b):tt (a++b):=λx h=>(List.mem_append.1 h).elim (ha x) (hb x)
theorem wh {a:aZ} (h:aOk a):tt [a]:=λx hx=>by rw [List.mem_singleton.1 hx]; exact h
theorem Gj {l:List Int} (h:OS l):tt (l.map prA):=λx hx=>by
 obtain ⟨r,hr,rfl⟩:=List.mem_map.1 hx
 exact ⟨h r hr,by show (0:Int)<=0; decide,by show (0:Int) < 256; decide,by show 0<=16; decide⟩
theorem JX (t:ByteArray):tt (ttl t):=by
 have hz:rok 0:=⟨by decide,by decide⟩
 unfold ttl
 split
 ·split
  ·exact wh ⟨hz,by show (0:Int)<=0; decide,by show (0:Int) < 256; decide,by show 0<=16; decide⟩
  ·exact λx hx=>by cases hx
 ·exact λx hx=>by cases hx
theorem uf {p:aI} (h:tt p.out) {b:Int} (h0:0<=b) (h1:b < 256):tt (fG p b).2.out:=by
 have hz:rok 0:=⟨by decide,by decide⟩
 unfold fG
 split
 ·exact h
 ·split
  ·exact h
  ·split
   ·exact qV h (wh ⟨hz,h0,h1,by show 0<=16; decide⟩)
   ·exact h
theorem OV {p:aI} (hp:PI p) (h:tt p.out) {b:Int} (h0:0<=b) (h1:b < 256):tt (qU p b).out:=by
 have hz:rok 0:=⟨by decide,by decide⟩
 have hesc: ∀ q:aI,tt q.out->tt (lj q b).out:=λq hq=>by
  unfold lj
  split
  ·exact uf hq h0 h1
  ·repeat' split
   all_goals first | exact hq | exact qV hq (wh ⟨hz,h0,h1,by show 0<=16; decide⟩)
 have hov: ∀ q:aI,tt q.out->tt (o4 q).out:=λq hq=>qV hq (JX _)
 unfold qU
 split
 ·unfold nj
  split
  ·refine uf (qV h (Gj λx hx=> ?_)) h0 h1
   unfold zu at hx
   split at hx
   ·cases hx
   ·rw [List.mem_singleton.1 hx]; exact ⟨by decide,by decide⟩
  ·exact qV h (Gj (zt hp.di h0 h1).2.2.2)
 ·split
  ·exact hesc p h
  ·split
   ·unfold su
    split
    ·exact uf h h0 h1
    ·split <;> exact h
   ·split
    ·unfold l4
     split
     ·exact uf h h0 h1
     ·split
      ·rw [AR,Dm]
       refine qV h ?_
       unfold E6
       split
       ·exact λx hx=>by cases hx
       ·refine wh ⟨hz,h0,h1,?_⟩
        show (JW p.order).bJ.length<=16
        unfold JW
        split
        ·exact xk hp.nu
        ·exact hp.nu
      ·exact h
    ·split
     ·unfold oX
      repeat' split
      all_goals first | exact h | exact hov p h
     ·split
      ·exact hov p h
      ·exact hesc (stP p 1) h
theorem BU: ∀ (bs:List Int) {p:aI},PI p->tt p.out->(∀ b∈bs,0<=b/\b < 256)->tt (prun p bs).out
 | [],p,_,h,_=>h
 | b::bs,p,hp,h,hb=>by
  obtain ⟨b0,b1⟩:=hb b List.mem_cons_self
  exact BU bs (E5 hp b0 b1).1 (OV hp h b0 b1) λx hx=>hb x (List.mem_cons_of_mem _ hx)
theorem OW {a:aZ} (h:aOk a):vh (tA a)=a/\okA (tA a):=by
 obtain ⟨h1,h2,h3,h4⟩:=h
 refine ⟨?_,h1,h2,h3,by show a.bJ.length<=18; omega⟩
 have w8:IntKind.u8.wrap a.byte=a.byte:=by simp [IntKind.wrap,IntKind.bits,IntKind.signed]; omega
 unfold vh tA
 simp only [Hs h1,w8]
theorem xm: ∀ (n:Nat) (l:List aG),∀ x∈ss n l,x∈l
 | 0,l,x,h=>h
 | n+1,l,x,h=>by
  unfold ss at h
  split at h
  ·exact List.dropLast_subset l (xm n _ x h)
  ·exact h
theorem JY {r:aE} {g:aJ} (h:g∈pD r): ∃ c∈r.cells,g.rune=c.rune:=by
 unfold pD u3 at h
 obtain ⟨c,hc,rfl⟩:=List.mem_map.1 h
 have hc2:=(List.mem_filter.1 hc).1
 split at hc2
 ·exact ⟨c,hc2,rfl⟩
 ·exact ⟨c,xm _ _ c hc2,rfl⟩
def ld (W:Nat) (y:aB×(List (List aJ)×List aJ)) (a:aZ):aB×(List (List aJ)×List aJ):=(acS W y.1 a,(acF W y.1 a).foldl sG y.2)
theorem wj {W:Nat} {r:aE} (h:gok W r) (hW:W<=1000):CO r:=⟨by rw [h.1]; exact hW,λg hg=>by
 obtain ⟨c,hc,e⟩:=JY hg
 rw [e]
 exact h.2 c hc⟩
theorem JZ {W k:Nat} {y:aB×(List (List aJ)×List aJ)} (hs:SI W y.1) (hz:ZI k y.2) {a:aZ} (ha:aOk a):SI W (ld W y a).1/\ZI (k+4000) (ld W y a).2:=by
 have ho:=E0 hs.toSJ a
 have hW:=hs.gi.w2
 have h2:=tZ (acF W y.1 a) hz λr hr=>wj (ho.2 r hr) hW
 refine ⟨ND hs a ha.1,?_⟩
 have h3:=ho.1
 exact ⟨by have:=h2.n; show ((acF W y.1 a).foldl sG y.2).1.length<=_; omega,h2.b,h2.g,h2.ls⟩
theorem xn {W:Nat}: ∀ (l:List aZ) {k:Nat} {y:aB×(List (List aJ)×List aJ)},SI W y.1->ZI k y.2->tt l->SI W (l.foldl (ld W) y).1/\ZI (k+4000*l.length) (l.foldl (ld W) y).2
 | [],k,y,hs,hz,_=>⟨hs,hz⟩
 | a::l,k,y,hs,hz,h=>by
  obtain ⟨h1,h2⟩:=JZ hs hz (h a List.mem_cons_self)
  have:=xn l (k:=k+4000) h1 h2 λx hx=>h x (List.mem_cons_of_mem _ hx)
  rw [show k+4000*(a::l).length=k+4000+4000*l.length by simp; omega]
  exact this
theorem OX {W:Nat} {s:aB} (h:SI W s) {a:aZ} (ha:aOk a):gP s a=some (acF W s a,acS W s a):=by
 obtain ⟨e,ho⟩:=OW ha
 have:=(Ms h ho).2.2.1
 rw [e] at this
 exact this
theorem MA {W k:Nat} {m:bB} {z:List (List aJ)×List aJ} (hs:SI W m.aV) (hz:ZI k z) (hp:PI m.parser) {t:ByteArray} (ht:t.size<=1000) (hk:k<=50000000) :
  jU (λa c=>(Option.bind (jM a c) λd=>some (d.2,true))) (fY z) m t=some (fY ((prun (clr m.parser) (sbs t)).out.foldl (ld W) (m.aV,z)).2,⟨m.book,clr (prun (clr m.parser) (sbs t)),((prun (clr m.parser) (sbs t)).out.foldl (ld W) (m.aV,z)).1,m.k⟩):=by
 unfold jU
 rw [Mz hp (by omega),Option.bind_some]
 have hc:PI (clr m.parser):=⟨hp.di,hp.gr,hp.nu,hp.n0,hp.n1,hp.tx⟩
 have hpr:=ue (sbs t) hc (lC t)
 have has:=BU (sbs t) hc (λx hx=>by cases hx) (lC t)
 have hlen:=hpr.2
 rw [bD] at hlen
 have hc0:(clr m.parser).out.length=0:=rfl
 generalize prun (clr m.parser) (sbs t)=q at hpr has hlen
 dsimp only
 refine okE (dW (P:=λ | .inl y=>y=(((q.out.foldl (ld W) (m.aV,z)).1,fY (q.out.foldl (ld W) (m.aV,z)).2):aB×cF) | .inr _=>False) ?_ ?_)
 ·refine tY (λy:aB×Int×cF=>0<=y.2.1/\y.2.1<=q.out.length/\y.1=((q.out.take y.2.1.toNat).foldl (ld W) (m.aV,z)).1/\y.2.2=fY ((q.out.take y.2.1.toNat).foldl (ld W) (m.aV,z)).2) (λy=>q.out.length - y.2.1.toNat) ⟨Int.le_refl 0,by dsimp only; omega,rfl,rfl⟩ ?_
  rintro ⟨s,i,b⟩ ⟨h0,h1,h2,h3⟩
  dsimp only at h0 h1 h2 h3 ⊢
  subst h2 h3
  refine vY (λhi=> ?_) λhi=> ?_
  ·obtain ⟨j,rfl⟩: ∃ j:Nat,i=j:=⟨i.toNat,by omega⟩
   have hj:j < q.out.length:=by omega
   rw [show ((j:Int)).toNat=j from rfl]
   have hst:=xn (W:=W) (q.out.take j) (k:=k) (y:=(m.aV,z)) hs hz λx hx=>has x (List.mem_of_mem_take hx)
   rw [List.length_take] at hst
   have ha:=has q.out[j] (List.getElem_mem hj)
   have hnext:(q.out.take (j+1)).foldl (ld W) (m.aV,z)=ld W ((q.out.take j).foldl (ld W) (m.aV,z)) q.out[j]:=by
    rw [List.take_add_one,List.getElem?_eq_getElem hj,Option.toList_some,List.foldl_append]
    rfl
   generalize (q.out.take j).foldl (ld W) (m.aV,z)=y at hst hnext
   have ho:=E0 hst.1.toSJ q.out[j]
   have hW:=hst.1.gi.w2
   have hol:=ho.1
   rw [cU _ j hj,Option.bind_some,OX hst.1 ha,Option.bind_some]
   obtain ⟨r,hr1,hr2⟩:=add_eq hst.2 (rows:=acF W y.1 q.out[j]) (λr hr=>wj (ho.2 r hr) hW) (by omega)
   rw [hr1]
   simp only [Option.bind_some,Bool.not_true,cond_false]
   rw [w64 (by omega) (by omega)]
   refine cC ⟨⟨by dsimp only; omega,by dsimp only; omega,?_,?_⟩,by dsimp only; omega⟩
   ·dsimp only
    rw [show ((j:Int)+1).toNat=j+1 by omega,hnext]
    rfl
   ·dsimp only
    rw [show ((j:Int)+1).toNat=j+1 by omega,hnext,hr2]
    rfl
  ·refine cC ?_
   rw [List.take_of_length_le (by omega)]
 ·rintro (y | y) h
  ·subst h
   exact cC rfl
  ·exact h.elim
theorem news (a t:ByteArray):(prun p0 (sbs (a++t))).out=(prun p0 (sbs a)).out++(prun (clr (prun p0 (sbs a))) (sbs t)).out/\clr (prun p0 (sbs (a++t)))=clr (prun (clr (prun p0 (sbs a))) (sbs t)):=by
 rw [pJ,Dl,zw (sbs t) (prun p0 (sbs a))]
 exact ⟨rfl,rfl⟩
def ru (x:Int):Prop:=0<=x/\x<=1114111
def rus (l:List Int):Prop:= ∀ x∈l,ru x
structure D2 (d:bT):Prop where
 r0:0<=d.rune
 r3:d.jV=3->d.rune<=4/\(d.rune=4->d.lead=244)
 r2:d.jV=2->d.rune<=271
 r1:d.jV=1->d.rune<=17407
theorem D20:D2 d0:=⟨by decide,by decide,by decide,by decide⟩
theorem E7 {x:Int} (h:ru x):rus [x]:=λy hy=>by rw [List.mem_singleton.1 hy]; exact h
theorem E8:ru 65533:=⟨by decide,by decide⟩
theorem OY {b:Int} (h0:0<=b) (h1:b < 256):0<=Ah b/\((kx b).1=3->Ah b<=4/\(Ah b=4->b=244))/\((kx b).1=2->Ah b<=15)/\((kx b).1=1->Ah b<=31):=by
 unfold Ah kx
 repeat' split
 all_goals simp_all
 all_goals omega
theorem Qh {b:Int} (h0:0<=b) (h1:b < 256):D2 (yi b).1/\rus (yi b).2:=by
 unfold yi
 obtain ⟨l0,l3,l2,l1⟩:=OY h0 h1
 split
 ·exact ⟨D20,E7 ⟨h0,by omega⟩⟩
 ·split
  ·exact ⟨D20,E7 E8⟩
  ·refine ⟨⟨l0,l3,λe=> ?_,λe=> ?_⟩,λx hx=>by cases hx⟩
   ·have:=l2 e; show Ah b<=271; omega
   ·have:=l1 e; show Ah b<=17407; omega
theorem MB {d:bT} {b:Int} (h0:0<=b) (hn:(kx d.lead).1=d.jV) (h3:d.jV=3) (h4:d.lead=244) (hf:Hu d b=true):b % 64<=15:=by
 unfold Hu at hf
 rw [if_neg (by omega),h4] at hf
 have e:kx 244=(3,128,143):=by decide
 rw [e] at hf
 have:=of_decide_eq_true hf
 dsimp only at this
 omega
theorem J0 {d:bT} (hd:DI d) (h:D2 d) {b:Int} (h0:0<=b) (h1:b < 256):D2 (uL d b).1/\rus (uL d b).2:=by
 unfold uL
 obtain ⟨k1,k2⟩:=Qh h0 h1
 split
 ·exact ⟨k1,k2⟩
 ·rename_i hn
  rcases hd with rfl | ⟨l0,l1,n1,n2,r0,r3,r2,r1⟩
  ·exact absurd (by decide) hn
  have hk:=(wc d.lead).1
  split
  ·rename_i hf
   split
   ·rename_i hn1
    have:=h.r1 hn1
    exact ⟨D20,E7 ⟨by omega,by omega⟩⟩
   ·rename_i hn1
    refine ⟨⟨by show 0<=d.rune*64+b % 64; omega,λe=> ?_,λe=> ?_,λe=> ?_⟩,λx hx=>by cases hx⟩
    ·change d.jV - 1=3 at e; omega
    ·change d.jV - 1=2 at e
     show d.rune*64+b % 64<=271
     have h3:d.jV=3:=by omega
     obtain ⟨a1,a2⟩:=h.r3 h3
     by_cases c:d.rune=4
     ·have:=MB h0 (by omega) h3 (a2 c) hf; omega
     ·omega
    ·change d.jV - 1=1 at e
     show d.rune*64+b % 64<=17407
     have:=h.r2 (by omega)
     omega
  ·refine ⟨k1,λx hx=> ?_⟩
   rcases List.mem_cons.1 hx with rfl | hx
   ·exact E8
   ·exact k2 x hx
def aGd (a:aZ):Prop:=ru a.rune/\a.text.size<=200
def uu (l:List aZ):Prop:= ∀ a∈l,aGd a
theorem qW {a b:List aZ} (ha:uu a) (hb:uu b):uu (a++b):=λx h=>(List.mem_append.1 h).elim (ha x) (hb x)
theorem wm {a:aZ} (h:aGd a):uu [a]:=λx hx=>by rw [List.mem_singleton.1 hx]; exact h
theorem MC:(ByteArray.mk #[]).size<=200:=by decide
theorem ru0:ru 0:=⟨by decide,by decide⟩
theorem Gk {l:List Int} (h:rus l):uu (l.map prA):=λx hx=>by
 obtain ⟨r,hr,rfl⟩:=List.mem_map.1 hx
 exact ⟨h r hr,MC⟩
theorem J1 {t:ByteArray} (h:t.size<=200):uu (ttl t):=by
 have hg:2<=t.size->aGd (tiA t):=λh2=>⟨ru0,by show (iU t 2 t.size).size<=200; rw [Dc _ (by omega) (by omega) (by omega)]; omega⟩
 unfold ttl
 split
 ·rename_i x y l e
  have:2<=t.size:=by have:=congrArg List.length e; rw [bD] at this; simp at this; omega
  split
  ·exact wm (hg this)
  ·exact λx hx=>by cases hx
 ·exact λx hx=>by cases hx
theorem ug {p:aI} (h:uu p.out) (b:Int):uu (fG p b).2.out:=by
 unfold fG
 split
 ·exact h
 ·split
  ·exact h
  ·split
   ·exact qW h (wm ⟨ru0,MC⟩)
   ·exact h
theorem OZ {p:aI} (hp:PI p) (hd:D2 p.cO) (h:uu p.out) {b:Int} (h0:0<=b) (h1:b < 256):uu (qU p b).out:=by
 have hesc: ∀ q:aI,uu q.out->uu (lj q b).out:=λq hq=>by
  unfold lj
  split
  ·exact ug hq b
  ·repeat' split
   all_goals first | exact hq | exact qW hq (wm ⟨ru0,MC⟩)
 have hov:uu (o4 p).out:=qW h (J1 hp.tx)
 unfold qU
 split
 ·unfold nj
  split
  ·refine ug (qW h (Gk λx hx=> ?_)) b
   unfold zu at hx
   split at hx
   ·cases hx
   ·rw [List.mem_singleton.1 hx]; exact E8
  ·exact qW h (Gk (J0 hp.di hd h0 h1).2)
 ·split
  ·exact hesc p h
  ·split
   ·unfold su
    split
    ·exact ug h b
    ·split <;> exact h
   ·split
    ·unfold l4
     split
     ·exact ug h b
     ·split
      ·rw [AR,Dm]
       refine qW h ?_
       unfold E6
       split
       ·exact λx hx=>by cases hx
       ·exact wm ⟨ru0,MC⟩
      ·exact h
    ·split
     ·unfold oX
      repeat' split
      all_goals first | exact h | exact hov
     ·split
      ·exact hov
      ·exact hesc (stP p 1) h
theorem po (p:aI) (b:Int):(fG p b).2.cO=p.cO:=by
 unfold fG
 repeat' split
 all_goals rfl
theorem wo (p:aI) (b:Int):(lj p b).cO=p.cO:=by
 unfold lj
 split
 ·exact po p b
 ·repeat' split
  all_goals rfl
theorem O0 {p:aI} (hp:PI p) (hd:D2 p.cO) {b:Int} (h0:0<=b) (h1:b < 256):D2 (qU p b).cO:=by
 unfold qU
 split
 ·unfold nj
  split
  ·rw [po]; exact D20
  ·exact (J0 hp.di hd h0 h1).1
 ·split
  ·rw [wo]; exact hd
  ·split
   ·unfold su
    split
    ·rw [po]; exact hd
    ·split <;> exact hd
   ·split
    ·unfold l4
     split
     ·rw [po]; exact hd
     ·split
      ·unfold nk
       split <;> exact hd
      ·exact hd
    ·split
     ·unfold oX
      repeat' split
      all_goals exact hd
     ·split
      ·exact hd
      ·rw [wo]; exact hd
theorem Gl: ∀ (bs:List Int) {p:aI},PI p->D2 p.cO->uu p.out->(∀ b∈bs,0<=b/\b < 256)->uu (prun p bs).out/\D2 (prun p bs).cO
 | [],p,_,hd,h,_=>⟨h,hd⟩
 | b::bs,p,hp,hd,h,hb=>by
  obtain ⟨b0,b1⟩:=hb b List.mem_cons_self
  exact Gl bs (E5 hp b0 b1).1 (O0 hp hd b0 b1) (OZ hp hd h b0 b1) λx hx=>hb x (List.mem_cons_of_mem _ hx)
def sy (x:Int):Prop:=0<=x/\x<=647
def cOk (c:aG):Prop:=ru c.rune/\sy c.aM/\0<=c.part/\c.part<=3
theorem O1 {c:aG} (h:cOk c):okC c=true:=by
 obtain ⟨⟨a,b⟩,⟨d,e⟩,f,g⟩:=h
 simp [okC,okG,a,b,d,e,f,g]
theorem rT (s:bE):sy (mD s):=by
 unfold mD sy
 split
 ·unfold bN
  repeat' split
  all_goals omega
 ·omega
theorem Qi:ru 32:=⟨by decide,by decide⟩
theorem yz {s:Int} (h:sy s):cOk (blk s):=⟨Qi,h,by show (0:Int)<=0; decide,by show (0:Int)<=3; decide⟩
theorem sy0:sy 0:=⟨by decide,by decide⟩
def cR (l:List aG):Prop:= ∀ c∈l,cOk c
theorem O2:cR []:=λc h=>by cases h
theorem uh: ∀ (l:List aG) (p:Int),cR l->cR (jL p l)
 | [],_,_=>λc hc=>by cases hc
 | c::r,p,h=>by
  intro d hd
  simp only [jL,List.mem_cons] at hd
  rcases hd with rfl | hd
  ·unfold wT
   cases Ab p c r with
   | true=>exact yz (h c (by simp)).2.1
   | false=>exact h c (by simp)
  ·exact uh r _ (λe he=>h e (by simp [he])) d hd
theorem zx {l:List aG} (h:cR l) (i:Nat) {c:aG} (hc:cOk c):cR (l.set i c):=by
 intro d hd
 rcases List.mem_or_eq_of_mem_set hd with hd | rfl
 ·exact h d hd
 ·exact hc
theorem O3 {l:List aG} (h:cR l) (at_:Int) {s x:Int} (hx:ru x) (hs:sy s):cR (wV l at_ x s):=by
 have m: ∀ p:Int,0<=p->p<=3->cOk ⟨x,s,p⟩:=λp a b=>⟨hx,hs,a,b⟩
 unfold wV
 split
 ·exact h
 ·split
  ·exact zx h _ (m 0 (by decide) (by decide))
  ·unfold Ep
   have h1:=zx (zx h at_.toNat (m 1 (by decide) (by decide))) (at_.toNat+1) (m 2 (by decide) (by decide))
   split
   ·rename_i c hc
    have hcm:cOk c:=by
     split at hc
     ·exact h1 c (List.mem_of_getElem? hc)
     ·cases hc
    split
    ·exact zx h1 _ (yz hcm.2.1)
    ·exact h1
   ·exact h1
theorem BV (n:Nat) {s:Int} (h:sy s):cR (List.replicate n (blk s)):=λc hc=>by rw [List.eq_of_mem_replicate hc]; exact yz h
theorem zy {a b:List aG} (ha:cR a) (hb:cR b):cR (a++b):=λc hc=>(List.mem_append.1 hc).elim (ha c) (hb c)
theorem yA {a:List aG} (ha:cR a) (n:Nat):cR (a.take n):=λc hc=>ha c (List.mem_of_mem_take hc)
theorem Gm {a:List aG} (ha:cR a) (n:Nat):cR (a.drop n):=λc hc=>ha c (List.mem_of_mem_drop hc)
theorem zz (a b:Int) {s:Int} (hs:sy s): ∀ {l:List aG} (i:Int),cR l->cR (lQ a b s i l)
 | [],_,_=>λc hc=>by cases hc
 | c::r,i,h=>by
  intro d hd
  simp only [lQ,List.mem_cons] at hd
  rcases hd with rfl | hd
  ·split
   ·exact yz hs
   ·exact h c (by simp)
  ·exact zz a b hs (i+1) (λe he=>h e (by simp [he])) d hd
theorem MD {l:List aG} (h:cR l) {q:Int} (hq:sy q):cR (qd l q):=zx h _ ⟨Qi,hq,by show (0:Int)<=3; decide,by show (3:Int)<=3; decide⟩
theorem O4 {l:List aG} (h:cR l) (a n:Int) {q:Int} (hq:sy q):cR (ins l a n q):=by
 unfold ins
 split
 ·exact h
 ·exact yA (zy (zy (yA h _) (BV _ hq)) (Gm h _)) _
theorem O5 {l:List aG} (h:cR l) (a n:Int) {q:Int} (hq:sy q):cR (del l a n q):=by
 unfold del
 split
 ·exact h
 ·exact zy (zy (yA h _) (Gm h _)) (BV _ hq)
def gR2 (l:List aE):Prop:= ∀ r∈l,cR r.cells
theorem qh {a b:List aE} (ha:gR2 a) (hb:gR2 b):gR2 (a++b):=λc hc=>(List.mem_append.1 hc).elim (ha c) (hb c)
theorem n7 {a:List aE} (ha:gR2 a) (n:Nat):gR2 (a.take n):=λc hc=>ha c (List.mem_of_mem_take hc)
theorem pM {a:List aE} (ha:gR2 a) (n:Nat):gR2 (a.drop n):=λc hc=>ha c (List.mem_of_mem_drop hc)
theorem yB (k W:Nat) {s:Int} (h:sy s):gR2 (List.replicate k (jE W s)):=λc hc=>by rw [List.eq_of_mem_replicate hc]; exact BV W h
theorem nm:gR2 []:=λc h=>by cases h
theorem vi {l:List aE} (h:gR2 l) (y:Int):cR (lZ l y).cells:=by
 unfold lZ
 split
 ·rename_i hy
  rw [List.getElem?_eq_getElem (by omega)]
  exact h _ (List.getElem_mem _)
 ·exact O2
theorem J2 (W:Nat) {r:aE} (h:cR r.cells):cR (rsz W r).cells:=by
 unfold rsz
 split
 ·exact h
 ·exact uh _ _ (zy (yA h _) (BV _ sy0))
theorem Gn (W:Nat) {l:List aE} (h:gR2 l) (y:Int) {r:aE} (hr:cR r.cells):gR2 (uq W l y r):=by
 unfold uq
 split
 ·intro q hq
  rcases List.mem_or_eq_of_mem_set hq with hq | hq
  ·exact h q hq
  ·rw [hq]; exact J2 W hr
 ·exact h
theorem J3 (W:Nat) {l:List aE} (h:gR2 l) (t b n:Int) {s:Int} (hs:sy s):gR2 (upL W l t b n s):=by
 unfold upL
 split
 ·exact h
 ·exact qh (qh (n7 h _) (qh (pM (pM (n7 h _) _) _) (yB _ _ hs))) (pM h _)
theorem ME {l:List aE} (h:gR2 l) (t b n:Int):gR2 (upO l t b n):=by
 unfold upO
 split
 ·exact nm
 ·exact n7 (pM (n7 h _) _) _
theorem J4 (W:Nat) {l:List aE} (h:gR2 l) (t b n:Int) {s:Int} (hs:sy s):gR2 (th W l t b n s):=by
 unfold th
 split
 ·exact h
 ·exact qh (qh (n7 h _) (qh (yB _ _ hs) (n7 (pM (n7 h _) _) _))) (pM h _)
theorem O6 (W:Nat) {l:List aE} (h:gR2 l) (c H:Nat):gR2 (rzL W l c H):=by
 intro r hr
 unfold rzL at hr
 obtain ⟨q,hq,rfl⟩:=List.mem_map.1 hr
 exact J2 W (qh (n7 (pM h _) _) (yB _ W sy0) q hq)
structure SC (s:aB):Prop where
 g:gR2 s.g.l
 t:s.title.size<=200
variable {W : Nat} {s : aB}
theorem dY {p:Prop} [Decidable p] {a b:aB} (ha:SC a) (hb:SC b):SC (if p then a else b):=by split <;> assumption
theorem lU {p:Prop} [Decidable p] {a b:List aE} (ha:gR2 a) (hb:gR2 b):gR2 (if p then a else b):=by split <;> assumption
theorem pN (h:SC s) (x y:Int):SC (mvS s x y):=⟨h.g,h.t⟩
theorem uN (h:SC s):SC (nwS s):=⟨h.g,h.t⟩
theorem E9 (h:SC s) (x:Int):SC (xS s x):=⟨h.g,h.t⟩
theorem Gp (h:SC s) (y:Int) {r:aE} (hr:cR r.cells):SC (seS W s y r):=⟨Gn W h.g y hr,h.t⟩
theorem NG (h:SC s) (n:Int):SC (upS W s n):=⟨J3 W h.g _ _ _ (rT _),h.t⟩
theorem O7 (h:SC s) (t b n:Int):SC (upT W s t b n):=⟨J3 W h.g _ _ _ (rT _),h.t⟩
theorem J5 (h:SC s) (t b n:Int):SC (dnS W s t b n):=⟨J4 W h.g _ _ _ (rT _),h.t⟩
theorem Gq (h:SC s) (n:Int):gR2 (upF s n):=lU nm (ME h.g _ _ _)
theorem Dr (h:SC s):SC (liS W s):=dY (NG (uN h) 1) (pN (uN h) _ _)
theorem zI (h:SC s):gR2 (liF s):=lU (Gq (uN h) 1) nm
theorem Qj (h:SC s):cR (r2S s).cells:=uh _ _ (MD (vi h.g _) (rT _))
theorem Qk (h:SC s) {r:Int} (hr:ru r):cR (r3S s r).cells:=uh _ _ (O3 (vi h.g _) _ hr (rT _))
theorem Rb (h:SC s):SC (aS W s)/\gR2 (aF W s):=by
 have k:SC (xS (seS W s s.spot.y (r1S s)) 0):=E9 (Gp h _ (r:=r1S s) (vi h.g _)) 0
 exact ⟨dY (Dr k) h,lU (zI k) nm⟩
theorem Rc (h:SC s) (n:Int):SC (bS W s n)/\gR2 (bF W s n):=by
 have k:SC (xS (seS W s s.spot.y (r2S s)) 0):=E9 (Gp h _ (Qj h)) 0
 exact ⟨dY (dY (Dr k) (E9 h _)) h,lU (lU (zI k) nm) nm⟩
theorem Ql (h:SC s) {r:Int} (hr:ru r):SC (prS W s r)/\gR2 (prF W s r):=by
 obtain ⟨a1,a2⟩:=Rb (W:=W) h
 obtain ⟨b1,b2⟩:=Rc (W:=W) a1 (ofS r)
 exact ⟨dY h ⟨Gn W b1.g _ (Qk b1 hr),b1.t⟩,lU nm (qh a2 b2)⟩
theorem Qm (h:SC s) (b:Int):SC (ctS W s b)/\gR2 (ctF s b) :=
 ⟨dY (pN h _ _) (dY (pN h _ _) (dY (Dr h) (dY (pN h _ _) h))),lU (zI h) nm⟩
theorem Qn (h:SC s):SC (baS W s):=dY (J5 (uN h) _ _ _) (pN (uN h) _ _)
theorem Gr (w h:Int):SC (Ag w h):=⟨yB _ _ sy0,by show (ByteArray.mk #[]).size<=200; decide⟩
theorem Qo (h:SC s) (b:Int):SC (esS W s b)/\gR2 (esF s b) :=
 ⟨dY (Dr (E9 h 0)) (dY (Dr h) (dY (Qn h) (dY ⟨h.g,h.t⟩ (dY (pN (s:=e8S s) ⟨h.g,h.t⟩ _ _) (dY (Gr _ _) h))))),lU (zI (E9 h 0)) (lU (zI h) nm)⟩
theorem NH (h:SC s) (y a b:Int):SC (erS W s y a b):=Gp h y (uh _ _ (zz _ _ (rT _) _ (vi h.g _)))
theorem Qp (h:SC s) (n:Int):SC (paS W s n):=dY h (uN (NH h _ _ _))
theorem J6 (h:SC s) (n:Int): ∀ k,SC (wpS W s n k)
 | 0=>h
 | k+1=>by
  unfold wpS
  split
  ·exact NH (J6 h n k) _ _ _
  ·exact J6 h n k
theorem Gs (h:SC s) (n:Int):SC (clS s n):=pN h _ _
theorem J7 (h:SC s) (n:Int) (all:Bool):SC (CY W s n all):=Qp (dY (J6 h _ _) h) n
theorem J8 {p:Prop} [Decidable p] {a b:List aG} (ha:cR a) (hb:cR b):cR (if p then a else b):=by split <;> assumption
theorem Qq (h:SC s) (b n:Int):SC (ceS W s b n) :=
 uN (Gp h _ (uh _ _ (J8 (O4 (vi h.g _) _ _ (rT _)) (J8 (O5 (vi h.g _) _ _ (rT _)) (zz _ _ (rT _) _ (vi h.g _))))))
theorem Qr (h:SC s) (b n:Int):SC (shS W s b n):=dY h (dY (pN (J5 h _ _ _) _ _) (pN (O7 h _ _ _) _ _))
theorem Qs (h:SC s) (l:List Int):SC (reS s l):=dY (pN (s:=rnS s (rgT s l) (rgU s l)) ⟨h.g,h.t⟩ _ _) h
theorem Qt (h:SC s) (b:Int) (l:List Int):SC (orS W s b l)/\gR2 (orF s b l):=by
 refine ⟨?_,lU (Gq (uN h) _) nm⟩
 unfold orS
 refine dY (Gs h _) (dY (E9 (Gs h _) 0) (dY (Gs h _) (dY (E9 (Gs h _) 0) (dY (pN h _ _) (dY (pN h _ _) (dY (pN h _ _) (dY (pN h _ _) (dY (pN h _ _) (dY (J7 h _ _) (dY (J7 h _ _) (dY (Qq h _ _) (dY (Qr h _ _) (dY (NG (uN h) _) (dY (J5 (uN h) _ _ _) (dY ⟨h.g,h.t⟩ (dY (Qs h l) h))))))))))))))))
theorem Qu (h:SC s) {a:aZ} (ha:aGd a):SC (acS W s a)/\gR2 (acF W s a):=by
 obtain ⟨p1,p2⟩:=Ql (W:=W) h ha.1
 obtain ⟨c1,c2⟩:=Qm (W:=W) h a.byte
 obtain ⟨e1,e2⟩:=Qo (W:=W) h a.byte
 obtain ⟨o1,o2⟩:=Qt (W:=W) h a.byte a.bJ
 exact ⟨dY p1 (dY c1 (dY e1 (dY (dY (dY ⟨h.g,h.t⟩ h) o1) (dY ⟨h.g,ha.2⟩ h)))),lU p2 (lU c2 (lU e2 (lU (lU nm o2) nm)))⟩
theorem Qv (h:SC s) (w k:Int):SC (rzS s w k)/\gR2 (rzF s k):=⟨⟨O6 _ h.g _ _,h.t⟩,n7 h.g _⟩
end Go.Tw.X
namespace Go.Tw.X
open Go Go.Tw
def zJ (k:Int) (n:Nat) (w h:Int):Int:=if k=0 then (if 1048576 < n then 3 else 0) else if k=1 then (if w < 1\/w > 1000\/h < 1\/h > 1000 then 6 else 0) else 5
theorem MF (w h:Int):((bif (decide (w < 1)) then some true else (bif (decide (w > 1000)) then some true else (bif (decide (h < 1)) then some true else some (decide (h > 1000))))):Option Bool)=some (decide (w < 1\/w > 1000\/h < 1\/h > 1000)):=by
 by_cases a:w < 1
 ·simp [a]
 ·by_cases b:w > 1000
  ·simp [a,b]
  ·by_cases c:h < 1
   ·simp [a,b,c]
   ·simp [a,b,c]
theorem xo (e:lO):jT e=some (zJ e.kind e.text.size e.w e.h):=by
 unfold jT zJ
 by_cases k0:e.kind=0
 ·have e0:(e.kind == 0)=true:=by simpa using k0
  rw [if_pos k0,e0,cond_true]
  by_cases hs:1048576 < e.text.size
  ·rw [if_pos hs,decide_eq_true (by omega)]; rfl
  ·rw [if_neg hs,decide_eq_false (by omega)]; rfl
 ·have e0:(e.kind == 0)=false:=by simpa using k0
  rw [if_neg k0,e0,cond_false]
  by_cases k1:e.kind=1
  ·have e1:(e.kind == 1)=true:=by simpa using k1
   rw [if_pos k1,e1,cond_true,MF,Option.bind_some]
   by_cases hs:e.w < 1\/e.w > 1000\/e.h < 1\/e.h > 1000
   ·rw [if_pos hs,decide_eq_true hs]; rfl
   ·rw [if_neg hs,decide_eq_false hs]; rfl
  ·have e1:(e.kind == 1)=false:=by simpa using k1
   rw [if_neg k1,e1]; rfl
structure MX (W k N:Nat) (z:List (List aJ)×List aJ) (m:bB) (x:k5):Prop where
 si:SI W m.aV
 zi:ZI k z
 bk:m.book=fY z
 xs:x.s=aO m.aV
 xb:x.b=BN z
 pa:m.parser=clr (prun p0 (sbs x.all))
 ac:x.PR=((prun p0 (sbs x.all)).out.length:Int)
 ke:m.k=x.k
 k0:0<=m.k
 kN:m.k<=N
 al:x.all.size<=1000*N
theorem J9 {W k N:Nat} {z:List (List aJ)×List aJ} {m:bB} {x:k5} (h:MX W k N z m x) {t:ByteArray} (ht:t.size<=1000) :
  MX W (k+8000*t.size) (N+1) ((prun m.parser (sbs t)).out.foldl (ld W) (m.aV,z)).2 ⟨fY ((prun m.parser (sbs t)).out.foldl (ld W) (m.aV,z)).2,clr (prun m.parser (sbs t)),((prun m.parser (sbs t)).out.foldl (ld W) (m.aV,z)).1,m.k+1⟩ ⟨aO ((prun m.parser (sbs t)).out.foldl (ld W) (m.aV,z)).1,BN ((prun m.parser (sbs t)).out.foldl (ld W) (m.aV,z)).2,x.all++t,((prun p0 (sbs (x.all++t))).out.length:Int),m.k+1⟩:=by
 have hp:PI m.parser:=by
  rw [h.pa]
  have:=(ue (sbs x.all) NF (lC x.all)).1
  exact ⟨this.di,this.gr,this.nu,this.n0,this.n1,this.tx⟩
 have hlen:=(ue (sbs t) hp (lC t)).2
 have hm0:m.parser.out.length=0:=by rw [h.pa]; rfl
 rw [bD] at hlen
 have has:=BU (sbs t) hp (by rw [h.pa]; exact λx hx=>by cases hx) (lC t)
 have hst:=xn (W:=W) (prun m.parser (sbs t)).out (k:=k) (y:=(m.aV,z)) h.si h.zi has
 have hk0:=h.k0
 have hkN:=h.kN
 have hal:=h.al
 have hz:(x.all++t).size=x.all.size+t.size:=by rw [<- bD,pJ,List.length_append,bD,bD]
 have hzn:=hst.2.n
 refine ⟨hst.1,⟨by omega,hst.2.b,hst.2.g,hst.2.ls⟩,rfl,rfl,rfl,?_,rfl,rfl,by dsimp only; omega,by dsimp only; omega,by dsimp only; omega⟩
 dsimp only
 rw [(news x.all t).2,<- h.pa]
theorem MH (m:bB) (e:lO) (h:zJ e.kind e.text.size e.w e.h≠0):eV m e=some (zJ e.kind e.text.size e.w e.h,m):=by
 unfold eV
 have e1:(zJ e.kind e.text.size e.w e.h != 0)=true:=by simpa using h
 rw [xo,Option.bind_some,e1,cond_true]
def Ka (w h:Int):bB:=⟨fY ([],[]),p0,Ag w h,0⟩
def Re (w h:Int):k5:=⟨aO (Ag w h),BN ([],[]),ByteArray.mk #[],0,0⟩
theorem Gt (w h:Int):nz w h=some (Ka w h):=by
 unfold nz
 rw [show rF=some (cF.mk [] [0] []) from rfl,Option.bind_some,Ge,Option.bind_some]
 rfl
theorem O8 (w h:Int):MX (szN w) 0 0 ([],[]) (Ka w h) (Re w h) :=
 ⟨Gf w h,⟨Nat.le_refl 0,by show 0 < 1024; decide,λx hx=>(by cases hx),λx hx=>(by cases hx)⟩,rfl,rfl,rfl,rfl,rfl,rfl,Int.le_refl 0,Int.le_refl 0,Nat.le_refl 0⟩
theorem Kb {W k N:Nat} {z:List (List aJ)×List aJ} {m:bB} {x:k5} (h:MX W k N z m x) (hk:k<=50000000) (hN:N<=90) {t:ByteArray} {w h':Int} (hc:zJ 1 t.size w h'=0) :
  eV m ⟨1,t,w,h'⟩=some (0,⟨fY ((rzF m.aV h').foldl sG z),m.parser,rzS m.aV w h',m.k+1⟩):=by
 have hk0:=h.k0
 have hkN:=h.kN
 have ho:=JJ h.si.toSJ h'
 have hW:=h.si.gi.w2
 have hol:=ho.1
 obtain ⟨r,hr1,hr2⟩:=add_eq h.zi (rows:=rzF m.aV h') (λr hr=>wj (ho.2 r hr) hW) (by omega)
 unfold eV
 rw [xo]
 dsimp only
 rw [hc,Option.bind_some,show ((0:Int) != 0)=false from rfl,show ((1:Int) == 1)=true from rfl,cond_false,cond_true,Hr h.si.toSJ,Option.bind_some,h.bk,hr1]
 simp only [Option.bind_some]
 rw [hr2,w64 (by omega) (by omega)]
theorem MI {W k N:Nat} {z:List (List aJ)×List aJ} {m:bB} {x:k5} (h:MX W k N z m x) (w h':Int) :
  MX (szN w) (k+4000) (N+1) ((rzF m.aV h').foldl sG z) ⟨fY ((rzF m.aV h').foldl sG z),m.parser,rzS m.aV w h',m.k+1⟩ ⟨aO (rzS m.aV w h'),BN ((rzF m.aV h').foldl sG z),x.all,x.PR,m.k+1⟩:=by
 have hk0:=h.k0
 have hkN:=h.kN
 have hal:=h.al
 have ho:=JJ h.si.toSJ h'
 have hW:=h.si.gi.w2
 have hol:=ho.1
 have h2:=tZ (rzF m.aV h') h.zi λr hr=>wj (ho.2 r hr) hW
 have h2n:=h2.n
 exact ⟨OR h.si.toSJ w h',⟨by omega,h2.b,h2.g,h2.ls⟩,rfl,rfl,rfl,h.pa,h.ac,rfl,by dsimp only; omega,by dsimp only; omega,by dsimp only; omega⟩
def gOk (g:aJ):Prop:=ru g.rune/\sy g.aM
def gls (l:List aJ):Prop:= ∀ g∈l,gOk g
theorem MJ {a b:List aJ} (ha:gls a) (hb:gls b):gls (a++b):=λc hc=>(List.mem_append.1 hc).elim (ha c) (hb c)
theorem Kd {a:List aJ} (ha:gls a) (n:Nat):gls (a.take n):=λc hc=>ha c (List.mem_of_mem_take hc)
theorem Ke {a:List aJ} (ha:gls a) (n:Nat):gls (a.drop n):=λc hc=>ha c (List.mem_of_mem_drop hc)
theorem Gu:gls []:=λc h=>by cases h
structure ZG (z:List (List aJ)×List aJ):Prop where
 b:gls z.2
 l: ∀ x∈z.1,gls x
theorem Kf {r:aE} (h:cR r.cells):gls (pD r):=by
 intro g hg
 unfold pD u3 at hg
 obtain ⟨c,hc,rfl⟩:=List.mem_map.1 hg
 have hc2:=(List.mem_filter.1 hc).1
 have:c∈r.cells:=by
  split at hc2
  ·exact hc2
  ·exact xm _ _ c hc2
 exact ⟨(h c this).1,(h c this).2.1⟩
theorem Du: ∀ (n:Nat) (g:List aJ),g.length<=n->gls g->gls (oW g).2 /\ ∀ x∈(oW g).1,gls x
 | 0,g,h,hg=>by
  rw [yx (by omega)]
  exact ⟨hg,λx hx=>by cases hx⟩
 | n+1,g,h,hg=>by
  by_cases c:1024<=g.length
  ·rw [BM c]
   obtain ⟨a,b⟩:=Du n (g.drop 1024) (by rw [List.length_drop]; omega) (Ke hg _)
   refine ⟨a,λx hx=> ?_⟩
   rcases List.mem_cons.1 hx with rfl | hx
   ·exact Kd hg _
   ·exact b x hx
  ·rw [yx c]
   exact ⟨hg,λx hx=>by cases hx⟩
theorem O9 {z:List (List aJ)×List aJ} (h:ZG z) {r:aE} (hr:cR r.cells):ZG (sG z r):=by
 obtain ⟨a,b⟩:=Du _ (z.2++pD r) (Nat.le_refl _) (MJ h.b (Kf hr))
 unfold sG
 dsimp only
 split
 ·exact ⟨a,λx hx=>(List.mem_append.1 hx).elim (h.l x) (b x)⟩
 ·refine ⟨Gu,λx hx=> ?_⟩
  rcases List.mem_append.1 hx with hx | hx
  ·exact (List.mem_append.1 hx).elim (h.l x) (b x)
  ·rw [List.mem_singleton.1 hx]; exact a
theorem BW: ∀ (rows:List aE) {z:List (List aJ)×List aJ},ZG z->gR2 rows->ZG (rows.foldl sG z)
 | [],_,h,_=>h
 | r::rows,z,h,hr=>BW rows (O9 h (hr r List.mem_cons_self)) λq hq=>hr q (List.mem_cons_of_mem _ hq)
theorem Dv {W:Nat}: ∀ (l:List aZ) {y:aB×(List (List aJ)×List aJ)},SC y.1->ZG y.2->uu l->SC (l.foldl (ld W) y).1/\ZG (l.foldl (ld W) y).2
 | [],_,h1,h2,_=>⟨h1,h2⟩
 | a::l,y,h1,h2,h3=>by
  obtain ⟨k1,k2⟩:=Qu (W:=W) h1 (h3 a List.mem_cons_self)
  exact Dv l (y:=ld W y a) k1 (BW _ h2 k2) λq hq=>h3 q (List.mem_cons_of_mem _ hq)
structure MG (m:bB) (z:List (List aJ)×List aJ):Prop where
 sc:SC m.aV
 zg:ZG z
 d2:D2 m.parser.cO
theorem Pa (w h:Int):MG (Ka w h) ([],[]):=⟨Gr w h,⟨Gu,λx hx=>by cases hx⟩,D20⟩
theorem NI {W k N:Nat} {z:List (List aJ)×List aJ} {m:bB} {x:k5} (h:MX W k N z m x):PI m.parser/\m.parser.out=[]:=by
 rw [h.pa]
 have:=(ue (sbs x.all) NF (lC x.all)).1
 exact ⟨⟨this.di,this.gr,this.nu,this.n0,this.n1,this.tx⟩,rfl⟩
theorem Kg {W k N:Nat} {z:List (List aJ)×List aJ} {m:bB} {x:k5} (h:MX W k N z m x) (g:MG m z) (t:ByteArray) (k':Int) (b':cF) :
  MG ⟨b',clr (prun m.parser (sbs t)),((prun m.parser (sbs t)).out.foldl (ld W) (m.aV,z)).1,k'⟩ ((prun m.parser (sbs t)).out.foldl (ld W) (m.aV,z)).2:=by
 obtain ⟨hp,ho⟩:=NI h
 obtain ⟨p1,p2⟩:=Gl (sbs t) hp g.d2 (by rw [ho]; exact λx hx=>by cases hx) (lC t)
 obtain ⟨s1,s2⟩:=Dv (W:=W) _ (y:=(m.aV,z)) g.sc g.zg p1
 exact ⟨s1,s2,p2⟩
theorem MK {m:bB} {z:List (List aJ)×List aJ} (g:MG m z) (w h:Int) (k':Int) (b':cF):MG ⟨b',m.parser,rzS m.aV w h,k'⟩ ((rzF m.aV h).foldl sG z):=by
 obtain ⟨s1,s2⟩:=Qv g.sc w h
 exact ⟨s1,BW _ g.zg s2,g.d2⟩
theorem Fa {W k N:Nat} {z:List (List aJ)×List aJ} {m:bB} {x:k5} (h:MX W k N z m x) (hk:k<=50000000) (hN:N<=1000000) {t:ByteArray} (ht:t.size<=1000) (w h':Int) :
  eV m ⟨0,t,w,h'⟩=some (0,⟨fY ((prun m.parser (sbs t)).out.foldl (ld W) (m.aV,z)).2,clr (prun m.parser (sbs t)),((prun m.parser (sbs t)).out.foldl (ld W) (m.aV,z)).1,m.k+1⟩):=by
 have hp:PI m.parser:=(NI h).1
 have hcl:clr m.parser=m.parser:=by rw [h.pa]; rfl
 have e1:=MA (m:=m) h.si h.zi hp ht hk
 rw [hcl] at e1
 have hk0:=h.k0
 have hkN:=h.kN
 unfold eV
 rw [xo]
 have hck:zJ 0 t.size w h'=0:=by unfold zJ; rw [if_pos rfl,if_neg (by omega)]
 dsimp only
 rw [hck,Option.bind_some,show ((0:Int) != 0)=false from rfl,show ((0:Int) == 1)=false from rfl,cond_false,cond_false,show mm m t=some t from rfl,Option.bind_some,h.bk,e1]
 simp only [Option.bind_some]
 rw [w64 (by omega) (by omega)]
def sOf (m:bB) (z:List (List aJ)×List aJ):aH:=⟨m.k+1,m.aV.g.w,(m.aV.g.l.length:Int),m.aV.spot.x,m.aV.spot.y,m.aV.title,m.aV.g.l,(z.1.length:Int),rR z.1,z.2⟩
theorem ML {l:List aJ} (h:gls l): ∀ g∈l,rok g.rune:=λg hg=>by
 obtain ⟨⟨a,b⟩,_⟩:=h g hg
 exact ⟨by omega,by omega⟩
section
variable {W k N : Nat} {z : List (List aJ) × List aJ} {m : bB} {x : k5}
theorem MM (l:List (List aJ)) (g:List aJ) (h:l.length<=1000000000):kJ (fY (l,g)) (l.length:Int)=some (rR l):=by
 unfold kJ fY
 dsimp only
 rw [dP,gN,show max 0 (min (l.length:Int) (l.length:Int))=((l.length:Nat):Int) by omega,F6 _ _ (Nat.le_refl _),List.take_length]
 rfl
theorem Kh (h:MX W k N z m x) (hk:k<=100000000) (hN:N<=1000000):eM m=some (sOf m z,m):=by
 have hk0:=h.k0
 have hkN:=h.kN
 have hzn:=h.zi.n
 have hzb:=h.zi.b
 unfold eM tO
 rw [w64 (by omega) (by omega)]
 rw [show (aB.mk m.aV.g m.aV.spot m.aV.saved m.aV.waiting m.aV.top m.aV.aL m.aV.aY m.aV.title)=m.aV from rfl,JL h.si.toSJ,aA]
 dsimp only
 have hr:=yn m.aV.g.w m.aV.g.l (by have:=h.si.gi.l2; omega) h.si.gi.len
 rw [show (aX.mk m.aV.g.w m.aV.g.l)=m.aV.g from rfl] at hr
 rw [show ky (aB.mk m.aV.g m.aV.spot m.aV.saved m.aV.waiting m.aV.top m.aV.aL m.aV.aY m.aV.title)=some m.aV.title from rfl,aA,hr,aA]
 rw [h.bk,show ∀ b,lX b=some (b.l.length:Int) from λb=>rfl,aA,aA]
 dsimp only
 have hc:=MM z.1 z.2 (by omega)
 rw [show (fY z).l=z.1 from rfl,show fY (z.1,z.2)=fY z from rfl] at *
 rw [hc,aA]
 have hb:kK (fY z)=some z.2:=by
  unfold kK
  rw [xf _ (by show z.2.length<=_; omega)]
  rfl
 rw [hb,aA,show ∀ g,eD g=some (g.w,(g.l.length:Int)) from λg=>rfl,aA,show ∀ s,jX s=some (s.spot.x,s.spot.y) from λs=>rfl,aA,aA,<- h.bk]
 rfl
theorem Pb (h:MX W k N z m x) (g:MG m z):SW (sOf m z):=by
 have h1:=h.si.gi.w2
 have h2:=h.si.gi.l2
 have h3:=h.si.gw
 have h4:=h.zi.b
 have h5:=g.sc.t
 refine ⟨?_,?_,ML g.zg.b,λr hr=> ?_,h2,by show z.2.length<=2000; omega,by show m.aV.title.size<=6000; omega⟩
 ·show -9223372036854775808<=m.aV.g.w/\m.aV.g.w<=9223372036854775807
  omega
 ·show -9223372036854775808<=(m.aV.g.l.length:Int)/\(m.aV.g.l.length:Int)<=9223372036854775807
  omega
 ·have hg:=h.si.gi.rs r hr
  exact ⟨hg.2,by have:=hg.1; omega⟩
theorem MN (h:MX W k N z m x) (g:MG m z) (hk:k<=100000000) (hN:N<=1000000):nZ (sOf m z)=true:=by
 have h1:=h.si.gi.w1
 have h1':=h.si.gi.w2
 have h2:=h.si.gi.l1
 have h2':=h.si.gi.l2
 have h3:=h.si.gw
 have h4:=h.zi.b
 have h5:=g.sc.t
 have h6:=AJ z.1
 have h7:=h.zi.n
 have hk0:=h.k0
 have hkN:=h.kN
 have a1:=h.si.x0
 have a2:=h.si.x1
 have a3:=h.si.y0
 have a4:=h.si.y1
 have hch:chM=281474976710597:=rfl
 unfold nZ
 rw [Bool.or_eq_true]
 right
 have e1:u9 (sOf m z)=true:=by
  unfold u9 wi sOf
  simp only [Bool.and_eq_true,decide_eq_true_eq,beq_iff_eq]
  repeat' apply And.intro
  all_goals first | trivial | omega
 have e2:((sOf m z).begun.all λg=>okG g.rune g.aM)=true:=by
  rw [List.all_eq_true]
  intro q hq
  obtain ⟨⟨b1,b2⟩,b3,b4⟩:=g.zg.b q hq
  simp [okG,b1,b2,b3,b4]
 have e3:(sOf m z).rows.all (tp (sOf m z).w)=true:=by
  rw [List.all_eq_true]
  intro r hr
  have hg:=h.si.gi.rs r hr
  unfold tp
  rw [Bool.and_eq_true]
  refine ⟨?_,?_⟩
  ·show ((r.cells.length:Int) == m.aV.g.w)=true
   rw [beq_iff_eq]
   have:=hg.1
   omega
  ·rw [List.all_eq_true]
   exact λc hc=>O1 (g.sc.g r hr c hc)
 rw [e1,e2,e3]
 rfl
end
section
variable {W k N : Nat} {z : List (List aJ) × List aJ} {m : bB} {x : k5}
theorem MX.mono (h:MX W k N z m x) {k' N':Nat} (h1:k<=k') (h2:N<=N'):MX W k' N' z m x :=
 ⟨h.si,⟨by have:=h.zi.n; omega,h.zi.b,h.zi.g,h.zi.ls⟩,h.bk,h.xs,h.xb,h.pa,h.ac,h.ke,h.k0,by have:=h.kN; omega,by have:=h.al; omega⟩
end
theorem MO {n:Nat} {a b:Int} (h:(n:Int) < a/\(n:Int) < b):((bif (decide ((n:Int) < a)) then some (decide ((n:Int) < b)) else some false):Option Bool)=some true:=by
 rw [decide_eq_true h.1,decide_eq_true h.2]; rfl
theorem MP {n:Nat} {a b:Int} (h: ¬ ((n:Int) < a/\(n:Int) < b)):((bif (decide ((n:Int) < a)) then some (decide ((n:Int) < b)) else some false):Option Bool)=some false:=by
 by_cases c:(n:Int) < a
 ·rw [decide_eq_true c,decide_eq_false (by omega: ¬ (n:Int) < b)]; rfl
 ·rw [decide_eq_false c]; rfl
theorem MR {a:Int}:(a != a)=false:=by simp
structure HN (n:Nat) (s:aB):Prop where
 e:s.g.l.length=n
 l:1<=n
 u:n<=1000
variable {W n : Nat} {s : aB}
theorem dZ {p:Prop} [Decidable p] {a b:aB} (ha:HN n a) (hb:HN n b):HN n (if p then a else b):=by split <;> assumption
theorem HN.g1 (h:HN n s):1<=s.g.l.length:=by rw [h.e]; exact h.l
theorem pO (h:HN n s) (x y:Int):HN n (mvS s x y):=⟨h.e,h.l,h.u⟩
theorem xW (h:HN n s):HN n (nwS s):=⟨h.e,h.l,h.u⟩
theorem HA (h:HN n s) (x:Int):HN n (xS s x):=⟨h.e,h.l,h.u⟩
theorem Gv (h:HN n s) (y:Int) (r:aE):HN n (seS W s y r):=⟨by simp only [seS,kV]; exact h.e,h.l,h.u⟩
theorem NJ (h:HN n s) (k:Int):HN n (upS W s k):=⟨by simp only [upS,ua _ _ _ _ _ _ h.g1]; exact h.e,h.l,h.u⟩
theorem Pc (h:HN n s) (t b k:Int):HN n (upT W s t b k):=⟨by simp only [upT,ua _ _ _ _ _ _ h.g1]; exact h.e,h.l,h.u⟩
theorem Ki (h:HN n s) (t b k:Int):HN n (dnS W s t b k):=⟨by simp only [dnS,xi _ _ _ _ _ _ h.g1]; exact h.e,h.l,h.u⟩
theorem Dw (h:HN n s):HN n (liS W s):=dZ (NJ (xW h) 1) (pO (xW h) _ _)
theorem Rf (h:HN n s):HN n (aS W s):=dZ (Dw (HA (Gv h _ _) 0)) h
theorem Rg (h:HN n s) (k:Int):HN n (bS W s k):=dZ (dZ (Dw (HA (Gv h _ _) 0)) (HA h _)) h
theorem Qw (h:HN n s) (r:Int):HN n (prS W s r):=by
 have b1:=Rg (W:=W) (Rf (W:=W) h) (ofS r)
 exact dZ h ⟨by simp only [cS,kV]; exact b1.e,h.l,h.u⟩
theorem Qx (h:HN n s) (b:Int):HN n (ctS W s b):=dZ (pO h _ _) (dZ (pO h _ _) (dZ (Dw h) (dZ (pO h _ _) h)))
theorem Qy (h:HN n s):HN n (baS W s):=dZ (Ki (xW h) _ _ _) (pO (xW h) _ _)
theorem MS (w:Int) (h:HN n s):HN n (Ag w s.g.l.length):=⟨by
 show (List.replicate (szN (s.g.l.length:Int)) (jE (szN w) 0)).length=n
 rw [List.length_replicate,h.e]
 exact IN n h.l h.u,h.l,h.u⟩
theorem Qz (h:HN n s) (b:Int):HN n (esS W s b) :=
 dZ (Dw (HA h 0)) (dZ (Dw h) (dZ (Qy h) (dZ ⟨h.e,h.l,h.u⟩ (dZ (pO (s:=e8S s) ⟨h.e,h.l,h.u⟩ _ _) (dZ (MS _ h) h)))))
theorem NK (h:HN n s) (y a b:Int):HN n (erS W s y a b):=Gv h y _
theorem QA (h:HN n s) (k:Int):HN n (paS W s k):=dZ h (xW (NK h _ _ _))
theorem Kj (h:HN n s) (i:Int): ∀ k,HN n (wpS W s i k)
 | 0=>h
 | k+1=>by
  unfold wpS
  split
  ·exact NK (Kj h i k) _ _ _
  ·exact Kj h i k
theorem Gw (h:HN n s) (k:Int):HN n (clS s k):=pO h _ _
theorem Kk (h:HN n s) (k:Int) (all:Bool):HN n (CY W s k all):=QA (dZ (Kj h _ _) h) k
theorem QB (h:HN n s) (b k:Int):HN n (ceS W s b k):=xW (Gv h _ _)
theorem QC (h:HN n s) (b k:Int):HN n (shS W s b k):=dZ h (dZ (pO (Ki h _ _ _) _ _) (pO (Pc h _ _ _) _ _))
theorem QD (h:HN n s) (l:List Int):HN n (reS s l):=dZ (pO (s:=rnS s (rgT s l) (rgU s l)) ⟨h.e,h.l,h.u⟩ _ _) h
theorem QE (h:HN n s) (b:Int) (l:List Int):HN n (orS W s b l):=by
 unfold orS
 refine dZ (Gw h _) (dZ (HA (Gw h _) 0) (dZ (Gw h _) (dZ (HA (Gw h _) 0) (dZ (pO h _ _) (dZ (pO h _ _) (dZ (pO h _ _) (dZ (pO h _ _) (dZ (pO h _ _) (dZ (Kk h _ _) (dZ (Kk h _ _) (dZ (QB h _ _) (dZ (QC h _ _) (dZ (NJ (xW h) _) (dZ (Ki (xW h) _ _ _) (dZ ⟨h.e,h.l,h.u⟩ (dZ (QD h l) h))))))))))))))))
theorem QF (h:HN n s) (a:aZ):HN n (acS W s a) :=
 dZ (Qw h _) (dZ (Qx h _) (dZ (Qz h _) (dZ (dZ (dZ ⟨h.e,h.l,h.u⟩ h) (QE h _ _)) (dZ ⟨h.e,h.l,h.u⟩ h))))
theorem Dx: ∀ (l:List aZ) {y:aB×(List (List aJ)×List aJ)},HN n y.1->HN n (l.foldl (ld W) y).1
 | [],_,h=>h
 | a::l,y,h=>Dx l (y:=ld W y a) (QF h a)
end Go.Tw.X
namespace Go.Tw.X
open Go Go.Tw
abbrev Zt:=List (List aJ)×List aJ
theorem wq (s:aH) (y:Nat) (h:y < s.rows.length):jm s (y:Int)=some (s.rows[y],true):=by
 unfold jm
 rw [decide_eq_false (show ¬ ((y:Int) < 0) by omega),cond_false,aA,decide_eq_false (show ¬ ((y:Int)>=(s.rows.length:Int)) by omega),cond_false,cU _ _ h,aA]
theorem xq (s:aH) (y:Nat) (h: ¬ y < s.rows.length):jm s (y:Int)=some (By,false):=by
 unfold jm
 rw [decide_eq_false (show ¬ ((y:Int) < 0) by omega),cond_false,aA,decide_eq_true (show ((y:Int)>=(s.rows.length:Int)) by omega),cond_true]
 rfl
theorem wu {σ:Type} (Y:σ->(Int×aE)->Option (σ×Bool)) (S:Nat->σ) (a b:aH) (hl:b.rows.length<=1000000) (hr: ∀ r∈a.rows,r.cells.length<=1000000)
  (h: ∀ i (hi:i < b.rows.length),if a.rows[i]?=some b.rows[i] then S (i+1)=S i else Y (S i) ((i:Int),b.rows[i])=some (S (i+1),true)) :
  iL Y (S 0) b a=some (S b.rows.length):=by
 unfold iL
 refine fM (S:=λi=>((i:Int),S i)) (n:=b.rows.length) (r:= .inl (S b.rows.length)) rfl ?_ ?_ rfl
 ·intro i hi
  dsimp only
  have hi2:=h i hi
  rw [decide_eq_true (show (i:Int) < (b.rows.length:Int) by omega),cond_true,cU _ _ hi,aA]
  by_cases ha:i < a.rows.length
  ·rw [wq a i ha,aA]
   dsimp only
   rw [cond_true,yo _ _ (hr _ (List.getElem_mem ha)),aA,aA]
   have e1:a.rows[i]?=some a.rows[i]:=List.getElem?_eq_getElem ha
   rw [e1] at hi2
   by_cases he:a.rows[i]=b.rows[i]
   ·rw [if_pos (by rw [he])] at hi2
    rw [decide_eq_true he,cond_true,aA,w64 (by omega) (by omega),hi2]
    rfl
   ·rw [if_neg (λhh=>he (Option.some.inj hh))] at hi2
    rw [decide_eq_false he,cond_false,hi2,aA]
    dsimp only
    rw [Bool.not_true,cond_false,aA,w64 (by omega) (by omega)]
    rfl
  ·rw [xq a i ha,aA]
   dsimp only
   rw [cond_false,aA,cond_false]
   have e1:a.rows[i]?=none:=List.getElem?_eq_none (by omega)
   rw [e1,if_neg (by simp)] at hi2
   rw [hi2,aA]
   dsimp only
   rw [Bool.not_true,cond_false,aA,w64 (by omega) (by omega)]
   rfl
 ·dsimp only
  rw [decide_eq_false (by omega),cond_false]
def chN (a b:List aE):Nat->List Nat
 | 0=>[]
 | i+1=>if a[i]?=b[i]? then chN a b i else chN a b i++[i]
theorem pP (a b:List aE) (i:Nat):chN a b (i+1)=if a[i]?=b[i]? then chN a b i else chN a b i++[i]:=rfl
def ints (l:List Nat):List Int:=l.map λy:Nat=>(y:Int)
theorem Dz (l:List Nat):(ints l).length=l.length:=List.length_map ..
theorem HB (l:List Nat) (i:Nat):ints (l++[i])=ints l++[(i:Int)]:=by simp [ints]
def chg (a b:List aE):List Nat:=chN a b b.length
theorem BX (a b:List aE): ∀ i,(chN a b i).length<=i
 | 0=>Nat.le_refl _
 | i+1=>by
  have:=BX a b i
  unfold chN
  split
  ·omega
  ·simp; omega
theorem BY (a b:List aE): ∀ i,∀ y∈chN a b i,y < i
 | 0,y,h=>by cases h
 | i+1,y,h=>by
  unfold chN at h
  split at h
  ·exact Nat.lt_succ_of_lt (BY a b i y h)
  ·rcases List.mem_append.1 h with h | h
   ·exact Nat.lt_succ_of_lt (BY a b i y h)
   ·rw [List.mem_singleton.1 h]; exact Nat.lt_succ_self _
theorem Fb (a b:aH) (hl:b.rows.length<=1000) (hr: ∀ r∈a.rows,r.cells.length<=1000000):lY a b=some (ints (chg a.rows b.rows)):=by
 unfold lY
 have e0:kE a b=some (b,a):=rfl
 rw [e0,aA]
 have h:=wu (σ:=List Int) (λ(s44:List Int) (x15:Int×aE)=>(Option.bind (chk (eI s44.length [x15.1].length 8)) λ_=>some ((s44++[x15.1]),true))) (λi=>ints (chN a.rows b.rows i)) a b (by omega) hr (by
  intro i hi
  have e1:b.rows[i]?=some b.rows[i]:=List.getElem?_eq_getElem hi
  split
  ·rename_i he
   rw [pP,if_pos (he.trans e1.symm)]
  ·rename_i he
   have:=BX a.rows b.rows i
   rw [bL (by rw [Dz]; simp; omega),aA]
   rw [pP,if_neg (λhh=>he (Eq.trans hh e1)),HB])
 show Option.bind (iL _ (ints (chN a.rows b.rows 0)) b a) _=_
 rw [h,aA]
 rfl
def qi (s:aH):Bool:=jY s || !nZ s
theorem AS {s:aH}:(mP s=noS)↔qi s=true:=by
 unfold mP qi
 constructor
 ·intro h
  split at h
  ·rename_i hb
   rcases hb with hb | hb <;> simp [hb]
  ·exact absurd h (Jf s)
 ·intro h
  rw [if_pos]
  simpa using h
theorem DA (s:aH) (h:SW s) (hp:(s.rows.flatMap gZ).length<=1000000):kT s=some (!qi s):=by
 unfold kT
 rw [FX s h hp,aA]
 have e:((mP s).toList == (ByteArray.mk #[]).toList)=decide (mP s=noS):=vQ _ noS
 rw [e]
 cases hb:qi s with
 | true=>rw [decide_eq_true (AS.2 hb)]
 | false=>rw [decide_eq_false (λhh=>by rw [AS.1 hh] at hb; cases hb)]
def pch (b:List aE) (l:List Nat):List Int:=l.flatMap λy:Nat=>dG (y:Int)++gZ (b[y]?.getD By)
def tu (a b:aH):List Int:=[((tq (mP a):Nat):Int),b.k,b.w,b.h,b.x,b.y].flatMap dG++(dG b.title.size++sbs b.title)++[b.len,b.chain].flatMap dG++lL b.begun++dG ((chg a.rows b.rows).length:Int)
def rU (a b:aH):List Int:=tu a b++pch b.rows (chg a.rows b.rows)
def HC (a b:aH):Bool:= !nZ a || qi b
def lf (a b:aH):ByteArray:=if HC a b then noS else hU (rU a b)
theorem DB (b:List aE) (l:List Nat) (i:Nat) (hi:i < b.length):pch b (l++[i])=pch b l++(dG (i:Int)++gZ b[i]):=by
 unfold pch
 rw [List.flatMap_append,List.flatMap_singleton,List.getElem?_eq_getElem hi]
 rfl
theorem BZ (a b:List aE): ∀ i,i<=b.length->(pch b (chN a b i)).length<=9*i+((b.take i).flatMap gZ).length
 | 0,_=>by simp [chN,pch]
 | i+1,hi=>by
  have ih:=BZ a b i (by omega)
  have h9:=dT (i:Int)
  rw [List.take_succ_eq_append_getElem (show i < b.length by omega),List.flatMap_append,List.flatMap_singleton,List.length_append,pP]
  split
  ·omega
  ·rw [DB _ _ _ (by omega),List.length_append,List.length_append]
   omega
theorem Kl (a b:List aE) (hb:(b.flatMap gZ).length<=12000) (hl:b.length<=1000) (i:Nat) (hi:i<=b.length):(pch b (chN a b i)).length<=21000:=by
 have h1:=BZ a b i hi
 have h2:=BF b i
 omega
theorem qX (L:List Int):(L.flatMap dG).length<=9*L.length:=by
 induction L with
 | nil=>simp
 | cons a M ih =>
  rw [List.flatMap_cons,List.length_append,List.length_cons]
  have:=dT a
  omega
theorem AT (l:List aJ):(lL l).length<=9+18*l.length:=by
 unfold lL
 have h1:=dT (l.length:Int)
 have h2:=tW l
 rw [List.length_append]
 omega
theorem AU (a b:aH) (h:SW b):(tu a b).length<=46000:=by
 unfold tu
 have h1:=qX [((tq (mP a):Nat):Int),b.k,b.w,b.h,b.x,b.y]
 have h2:=qX [b.len,b.chain]
 have h3:=dT (b.title.size:Int)
 have h4:=dT ((chg a.rows b.rows).length:Int)
 have h5:=AT b.begun
 have h6:=h.bl
 have h7:=h.tl
 have h8:=bD b.title
 simp only [List.length_append,List.length_cons,List.length_nil] at h1 h2 ⊢
 omega
theorem Gx (l:List aJ):BB (lL l):=fX (kv _) (mN λg _=>LV g)
theorem Km (b:List aE) (l:List Nat):BB (pch b l):=mN λy _=>fX (kv _) (BJ _)
theorem diff_eq (a b:aH) (ha:SW a) (hb:SW b) (pa:(a.rows.flatMap gZ).length<=12000) (pb:(b.rows.flatMap gZ).length<=12000):nK a b=some (lf a b):=by
 unfold nK lf
 have hc:((Option.bind (eY a) λc=>(bif (c != 0) then some true else (Option.bind (kT b) λd=>some (!d)))):Option Bool)=some (HC a b):=by
  rw [vU a ha,aA,DA b hb (by omega),aA]
  unfold HC
  cases nZ a <;> cases qi b <;> rfl
 rw [hc,aA]
 cases hd:HC a b with
 | true=>rw [cond_true,if_pos rfl]; rfl
 | false =>
  rw [cond_false,if_neg (by simp),F4 a ha pa,aA]
  have har: ∀ r∈a.rows,r.cells.length<=1000000:=λr hr=>by have:=(ha.ro r hr).2; omega
  have hrl:=hb.rl
  have htl:=hb.tl
  have hbl:=hb.bl
  have h1:=qX [((tq (mP a):Nat):Int),b.k,b.w,b.h,b.x,b.y]
  have h2:=qX [b.len,b.chain]
  have h3:=dT (b.title.size:Int)
  have h5:=AT b.begun
  have h8:=bD b.title
  have hdl:=AU a b hb
  simp only [List.length_cons,List.length_nil] at h1 h2
  show Option.bind (dB ⟨[]⟩ _) _=_
  rw [nX _ _ (by simp),aA,List.nil_append,CH _ _ (by omega),aA,nX _ _ (by simp only [List.length_append,List.length_cons,List.length_nil]; omega),aA,zf _ hbl hb.gl,aA,vV _ _ (by rw [me]; simp only [List.length_append]; omega),aA,oL _ (Gx _),Fb a b hrl har,aA,nX _ _ (by simp only [List.length_append,List.length_cons,List.length_nil]; omega),aA]
  have e0:kE a b=some (b,a):=rfl
  rw [e0,aA]
  have hh:([((tq (mP a):Nat):Int),b.k,b.w,b.h,b.x,b.y].flatMap dG++(dG b.title.size++sbs b.title)++[b.len,b.chain].flatMap dG++lL b.begun++[((ints (chg a.rows b.rows)).length:Int)].flatMap dG)=tu a b:=by
   unfold tu
   rw [Dz,List.flatMap_singleton]
  rw [hh]
  have h:=wu (σ:=cG) (λ(s376:cG) (x278:Int×aE)=>(Option.bind (dB s376 [x278.1]) λe=>(Option.bind (ko x278.2) λf=>(Option.bind (iA e [f]) λg=>some (g,true))))) (λi=>⟨tu a b++pch b.rows (chN a.rows b.rows i)⟩) a b (by omega) har (by
   intro i hi
   have e1:b.rows[i]?=some b.rows[i]:=List.getElem?_eq_getElem hi
   split
   ·rename_i he
    rw [pP,if_pos (he.trans e1.symm)]
   ·rename_i he
    have hp1:=Kl a.rows b.rows pb hrl i (by omega)
    have hro:=hb.ro _ (List.getElem_mem hi)
    have h9:=dT (i:Int)
    have hl1:=BF b.rows (i+1)
    rw [List.take_succ_eq_append_getElem hi,List.flatMap_append,List.flatMap_singleton,List.length_append] at hl1
    rw [nX _ _ (by simp only [List.length_append,List.length_cons,List.length_nil]; omega),aA,zd _ hro.2 hro.1,aA,List.flatMap_singleton,vV _ _ (by rw [me]; simp only [List.length_append]; omega),aA,oL _ (BJ _),pP,if_neg (λhh=>he (Eq.trans hh e1)),DB _ _ _ hi]
    simp only [List.append_assoc])
  have e1:(⟨tu a b++pch b.rows (chN a.rows b.rows 0)⟩:cG)=⟨tu a b⟩:=by
   show (⟨tu a b++[]⟩:cG)=_
   rw [List.append_nil]
  rw [e1] at h
  rw [h,aA]
  rfl
def zA (s:ByteArray):=rdS ⟨s,0⟩
def zB (s:ByteArray):=rdS (zA s).2
def zC (s:ByteArray):=dJ (zB s).2 1000
def zD (s:ByteArray):=dJ (zC s).2 1000
def zE (s:ByteArray):=rdS (zD s).2
def zF (s:ByteArray):=rdS (zE s).2
def zT (s:ByteArray):=vb (zF s).2
def zG (s:ByteArray):=rdS (zT s).2
def zH (s:ByteArray):=rdS (zG s).2
def zK (s:ByteArray):=bkS (zH s).2
def zN (s:ByteArray):=rdS (zK s).2
def zS (s:ByteArray):aH:=⟨(zB s).1,(zC s).1,(zD s).1,(zE s).1,(zF s).1,(zT s).1,[],(zG s).1,(zH s).1,(zK s).1⟩
def DD (j:aT):aT:=if j.e=0 then Ad else j
theorem Kn {j:aT} (h:VI j):VI (DD j):=by
 unfold DD
 split
 ·exact u4
 ·exact h
theorem MT (j:aT):(DD j).e≠0:=by
 unfold DD
 split
 ·decide
 ·assumption
def dlI (h:Int) (i:aT) (last:Int):aT:=if (rdS i).1<=last\/(rdS i).1>=h then DD (rdS i).2 else (rdS i).2
def dlL:Nat->Int->Int->aT->Int->List (Int×aE)->List (Int×aE)×aT
 | 0,_,_,i,_,l=>(l,i)
 | k+1,w,h,i,last,l=>if i.e=0 then dlL k w h (ns (dlI h i last) w).2 (rdS i).1 (l++[((rdS i).1,(ns (dlI h i last) w).1)]) else (l,i)
def zR (s:ByteArray):=dlL (zN s).1.toNat (zC s).1 (zD s).1 (zN s).2 (-1) []
theorem rV {h:Int} {i:aT} {last:Int} (hV:VI i):VI (dlI h i last):=by
 unfold dlI
 split
 ·exact Kn (kB hV)
 ·exact kB hV
theorem Ko {h:Int} {i:aT} {last:Int} (he:(dlI h i last).e=0):last < (rdS i).1/\(rdS i).1 < h/\dlI h i last=(rdS i).2:=by
 unfold dlI at he ⊢
 split at he
 ·exact absurd he (MT _)
 ·rename_i hc
  rw [if_neg hc]
  exact ⟨by omega,by omega,rfl⟩
theorem MU (k:Nat) (w h:Int) (i:aT) (last:Int) (l:List (Int×aE)) (he:i.e≠0):dlL k w h i last l=(l,i):=by
 cases k with
 | zero=>rfl
 | succ k=>unfold dlL; rw [if_neg he]
theorem Kp {i:aT} {w:Int} (hV:VI i) (he:(ns i w).2.e=0):i.e=0:=by
 unfold ns at he
 have h1:(rrS (w.toNat+1) w (dJ i 1).2 []).2.e=0:=by
  split at he
  ·exact he
  ·exact he
 have h2:=CC _ _ _ _ h1
 exact (mR h2 hV).1
theorem NL: ∀ (k:Nat) (w h:Int) (i:aT) (last:Int) (l:List (Int×aE)),(dlL k w h i last l).2.e=0->i.e=0
 | 0,w,h,i,last,l,he=>he
 | k+1,w,h,i,last,l,he=>by
  unfold dlL at he
  split at he
  ·assumption
  ·exact he
theorem Kq: ∀ (k:Nat) (w h:Int) (i:aT) (last:Int) (l:List (Int×aE)),VI i->VI (dlL k w h i last l).2
 | 0,w,h,i,last,l,hV=>hV
 | k+1,w,h,i,last,l,hV=>by
  unfold dlL
  split
  ·exact Kq k w h _ _ _ (yv (rV hV))
  ·exact hV
theorem B0 {α:Type} (k:Int) (x:α): ∀ l:List (Int×α),(∀ p∈l,p.1≠k)->msl k x l=l++[(k,x)]
 | [],_=>rfl
 | (j,y)::l,h=>by
  have h1:k≠j:=λe=>h (j,y) (by simp) e.symm
  simp only [msl,if_neg h1,List.cons_append]
  rw [B0 k x l λp hp=>h p (by simp [hp])]
theorem Fc (sum:Int) (x:aH) (hx:x.rows=[]) (hw:x.w<=1000) (f:bQ×aT×Int×Int->Option ((bQ×aT×Int×Int) ⊕ (aT×bQ))) (hf:f=(λa=>(Option.bind ((bif (decide (a.2.2.2 > 0)) then (Option.bind (dU a.2.1) λg=>some (g == 0)) else some false):Option Bool) λj=>(bif j then (Option.bind (bW a.2.1) λb=>(Option.bind ((bif (decide (b.1<=a.2.2.1)) then some true else some (decide (b.1>=a.1.to.h))):Option Bool) λm=>(Option.bind ((bif m then (Option.bind (bU b.2 1) λc=>some c) else some b.2):Option aT) λn=>(Option.bind (lA n a.1.to.w) λd=>(Option.bind (chk a.1.rows.isSome) λ_=>some (.inl ((bQ.mk a.1.sum (aH.mk a.1.to.k a.1.to.w a.1.to.h a.1.to.x a.1.to.y a.1.to.title ([]:List aE) a.1.to.len a.1.to.chain a.1.to.begun) (Lj a.1.rows b.1 d.1)),d.2,b.1,(IntKind.i64.wrap (a.2.2.2 - 1))))))))) else some (.inr (a.2.1,(bQ.mk a.1.sum (aH.mk a.1.to.k a.1.to.w a.1.to.h a.1.to.x a.1.to.y a.1.to.title ([]:List aE) a.1.to.len a.1.to.chain a.1.to.begun) a.1.rows)))))) ) :
  ∀ (k:Nat) (i:aT) (last:Int) (l l':List (Int×aE)),k<=4611686018427387904->VI i->(i.e=0->l'=l /\ ∀ p∈l,p.1<=last) ->
  ∃ m',iter f (⟨sum,x,some l'⟩,i,last,(k:Int))=some ((dlL k x.w x.h i last l).2,⟨sum,x,some m'⟩)/\((dlL k x.w x.h i last l).2.e=0->m'=(dlL k x.w x.h i last l).1):=by
 have hx2:aH.mk x.k x.w x.h x.x x.y x.title ([]:List aE) x.len x.chain x.begun=x:=by
  obtain ⟨⟩:=x
  dsimp only at hx
  subst hx
  rfl
 intro k
 induction k with
 | zero =>
  intro i last l l' hk hV hl
  refine ⟨l',cP ?_,λhe=>(hl he).1⟩
  subst hf
  dsimp only
  rw [decide_eq_false (by omega),cond_false,aA,cond_false,hx2]
  rfl
 | succ k ih =>
  intro i last l l' hk hV hl
  by_cases he:i.e=0
  ·obtain ⟨rfl,hlast⟩:=hl he
   have hrr:=tj hV
   have hstep:f (⟨sum,x,some l'⟩,i,last,((k+1:Nat):Int))=some (.inl (⟨sum,x,some (msl (rdS i).1 (ns (dlI x.h i last) x.w).1 l')⟩,(ns (dlI x.h i last) x.w).2,(rdS i).1,(k:Int))):=by
    subst hf
    dsimp only
    have e1:dU i=some i.e:=rfl
    have e2:(i.e == 0)=true:=by simpa using he
    have e3:((bif (decide ((rdS i).1<=last)) then some true else some (decide ((rdS i).1>=x.h))):Option Bool)=some (decide ((rdS i).1<=last\/(rdS i).1>=x.h)):=or2 _ _
    have e4:((bif (decide ((rdS i).1<=last\/(rdS i).1>=x.h)) then (Option.bind (bU (rdS i).2 1) λc=>some c) else some (rdS i).2):Option aT)=some (dlI x.h i last):=by
     unfold dlI
     by_cases hc:(rdS i).1<=last\/(rdS i).1>=x.h
     ·rw [decide_eq_true hc,cond_true,if_pos hc,xR (kB hV)]
      rfl
     ·rw [decide_eq_false hc,cond_false,if_neg hc]
    rw [decide_eq_true (by omega),cond_true,e1,aA,e2,aA,cond_true,nY _ hV,aA,e3,aA,e4,aA,EJ _ _ (rV hV) hw,aA,hx2,w64 (by omega) (by omega)]
    have e5:((k+1:Nat):Int) - 1=(k:Int):=by omega
    rw [e5]
    rfl
   have hnew:(ns (dlI x.h i last) x.w).2.e=0->msl (rdS i).1 (ns (dlI x.h i last) x.w).1 l'=l'++[((rdS i).1,(ns (dlI x.h i last) x.w).1)] /\ ∀ p∈l'++[((rdS i).1,(ns (dlI x.h i last) x.w).1)],p.1<=(rdS i).1:=by
    intro h0
    obtain ⟨h2,h3, -⟩:=Ko (Kp (rV hV) h0)
    refine ⟨B0 _ _ _ λp hp e=> ?_,λp hp=> ?_⟩
    ·have:=hlast p hp
     omega
    ·rcases List.mem_append.1 hp with hp | hp
     ·have:=hlast p hp
      omega
     ·rw [List.mem_singleton.1 hp]
      exact Int.le_refl _
   obtain ⟨m',h1,h2⟩:=ih (ns (dlI x.h i last) x.w).2 (rdS i).1 (l'++[((rdS i).1,(ns (dlI x.h i last) x.w).1)]) (msl (rdS i).1 (ns (dlI x.h i last) x.w).1 l') (by omega) (yv (rV hV)) hnew
   have hd:dlL (k+1) x.w x.h i last l'=dlL k x.w x.h (ns (dlI x.h i last) x.w).2 (rdS i).1 (l'++[((rdS i).1,(ns (dlI x.h i last) x.w).1)]):=by
    conv=>lhs; unfold dlL
    rw [if_pos he]
   rw [hd]
   exact ⟨m',by rw [dS hstep,h1],h2⟩
  ·rw [MU _ _ _ _ _ _ he]
   refine ⟨l',cP ?_,λh=>absurd h he⟩
   subst hf
   dsimp only
   have e1:dU i=some i.e:=rfl
   have e2:(i.e == 0)=false:=by simpa using he
   rw [decide_eq_true (by omega),cond_true,e1,aA,e2,aA,cond_false,hx2]
theorem DE {i:aT} (h:VI i):lN i=some (dJ i 1000):=size_eq h
theorem Kr (s:ByteArray) (h:s.size<=1000000): ∃ m',nL s=some (⟨(zA s).1,zS s,some m'⟩,w9 (zR s).2)/\((zR s).2.e=0->m'=(zR s).1):=by
 have v0:VI (⟨s,0⟩:aT):=⟨h,.inl rfl⟩
 have vA:VI (zA s).2:=kB v0
 have vB:VI (zB s).2:=kB vA
 have vC:VI (zC s).2:=iT _ vB
 have vD:VI (zD s).2:=iT _ vC
 have vE:VI (zE s).2:=kB vD
 have vF:VI (zF s).2:=kB vE
 have vT:VI (zT s).2:=BH vF
 have vG:VI (zG s).2:=kB vT
 have vH:VI (zH s).2:=kB vG
 have vK:VI (zK s).2:=BI vH
 have vN:VI (zN s).2:=kB vK
 have hn:=tj vK
 have hw:(zS s).w<=1000:=(mf (m:=1000) vB (by omega)).2
 obtain ⟨N,hN⟩:=Int.eq_ofNat_of_zero_le (show 0<=(zN s).1 from hn.1)
 have hN2:N<=4611686018427387904:=by have:(zN s).1<=4611686018427387904:=hn.2; omega
 obtain ⟨m',h1,h2⟩:=Fc (zA s).1 (zS s) rfl hw _ rfl N (zN s).2 (-1) [] [] hN2 vN (λ_=>⟨rfl,λp hp=>by cases hp⟩)
 have hR:zR s=dlL N (zS s).w (zS s).h (zN s).2 (-1) []:=by
  unfold zR
  rw [hN,Int.toNat_natCast]
  rfl
 rw [<- hR] at h1 h2
 refine ⟨m',?_,h2⟩
 unfold nL
 have e0:vI s=some ⟨s,0⟩:=rfl
 have e1:bW ⟨s,0⟩=some (zA s):=nY _ v0
 have e2:bW (zA s).2=some (zB s):=nY _ vA
 have e3:lN (zB s).2=some (zC s):=DE vB
 have e4:lN (zC s).2=some (zD s):=DE vC
 have e5:bW (zD s).2=some (zE s):=nY _ vD
 have e6:bW (zE s).2=some (zF s):=nY _ vE
 have e7:l9 (zF s).2=some (zT s):=LU _ vF
 have e8:bW (zT s).2=some (zG s):=nY _ vT
 have e9:bW (zG s).2=some (zH s):=nY _ vG
 have e10:nw (zH s).2=some (zK s):=I9 _ vH
 have e11:bW (zK s).2=some (zN s):=nY _ vK
 rw [e0,aA,e1,aA,e2,aA,e3,aA,e4,aA,e5,aA,e6,aA,e7,aA,e8,aA,e9,aA,e10,aA,e11,aA]
 have hS:aH.mk (zB s).1 (zC s).1 (zD s).1 (zE s).1 (zF s).1 (zT s).1 ([]:List aE) (zG s).1 (zH s).1 (zK s).1=zS s:=rfl
 rw [hS,hN,h1,aA,Oz,aA]
 rfl
def mT (A:List aE) (l:List (Int×aE)):Nat->Nat->List aE->Option (List aE)
 | 0,_,acc=>some acc
 | k+1,y,acc=>match mgl (y:Int) l,A[y]? with
  | some r,some q=>if q=r then none else mT A l k (y+1) (acc++[r])
  | some r,none=>mT A l k (y+1) (acc++[r])
  | none,some q=>mT A l k (y+1) (acc++[q])
  | none,none=>none
theorem Fe (sum:Int) (x a:aH) (l:List (Int×aE)) (H:Nat) (hH:H<=1000) (hh:x.h=(H:Int)) (ha: ∀ r∈a.rows,r.cells.length<=1000000) (f:bQ×Int->Option ((bQ×Int) ⊕ (bQ ⊕ (Bool×bQ)))) (hf:f=(λb=>(bif (decide (b.2 < x.h)) then (Option.bind (jm a b.2) λc=>(Option.bind ((Option.bind ((bif (rD b.1.rows b.2) then (bif c.2 then (Option.bind (jw c.1 (mgd b.1.rows b.2 (aE.mk ([]:List aG) false))) λe=>some e) else some false) else some false):Option Bool) λd=>(Option.bind ((bif d then some d else (bif (!(rD b.1.rows b.2)) then some (!c.2) else some false)):Option Bool) λg=>(bif g then (ll (ln (some (false,(bQ.mk b.1.sum (aH.mk b.1.to.k b.1.to.w b.1.to.h b.1.to.x b.1.to.y b.1.to.title b.1.to.rows b.1.to.len b.1.to.chain b.1.to.begun) b.1.rows))))) else (bif (!(rD b.1.rows b.2)) then some (.inl c.1) else some (.inl (mgd b.1.rows b.2 (aE.mk ([]:List aG) false))))))):Option (aE ⊕ ((bQ×Int) ⊕ (bQ ⊕ (Bool×bQ))))) λ | .inl e1033=>(Option.bind (chk (eI b.1.to.rows.length [e1033].length 32)) λ_=>some (.inl ((bQ.mk b.1.sum (aH.mk b.1.to.k b.1.to.w b.1.to.h b.1.to.x b.1.to.y b.1.to.title (b.1.to.rows++[e1033]) b.1.to.len b.1.to.chain b.1.to.begun) b.1.rows),(IntKind.i64.wrap (b.2+1))))) | .inr w=>some w)) else some (.inr (.inl (bQ.mk b.1.sum (aH.mk b.1.to.k b.1.to.w b.1.to.h b.1.to.x b.1.to.y b.1.to.title b.1.to.rows b.1.to.len b.1.to.chain b.1.to.begun) b.1.rows))))) ) :
  ∀ (k y:Nat) (acc:List aE),y+k=H->acc.length=y ->
  (∀ out,mT a.rows l k y acc=some out->iter f (⟨sum,n5 x acc,some l⟩,(y:Int))=some (.inl ⟨sum,n5 x out,some l⟩))/\(mT a.rows l k y acc=none -> ∃ p',iter f (⟨sum,n5 x acc,some l⟩,(y:Int))=some (.inr (false,p'))):=by
 intro k
 induction k with
 | zero =>
  intro y acc hy hl
  refine ⟨λout ho=> ?_,λho=>by cases ho⟩
  injection ho with ho
  subst ho
  refine cP ?_
  subst hf
  dsimp only
  rw [decide_eq_false (by omega),cond_false]
 | succ k ih =>
  intro y acc hy hl
  have hgo: ∀ r:aE,(∀ out,mT a.rows l k (y+1) (acc++[r])=some out->iter f (⟨sum,n5 x (acc++[r]),some l⟩,((y+1:Nat):Int))=some (.inl ⟨sum,n5 x out,some l⟩))/\(mT a.rows l k (y+1) (acc++[r])=none -> ∃ p',iter f (⟨sum,n5 x (acc++[r]),some l⟩,((y+1:Nat):Int))=some (.inr (false,p'))):=λr=>ih (y+1) (acc++[r]) (by omega) (by simp [hl])
  have hap:chk (eI acc.length 1 32)=some ():=bL (by omega)
  have hwr:IntKind.i64.wrap ((y:Int)+1)=((y+1:Nat):Int):=by rw [w64 (by omega) (by omega)]; rfl
  -- a step that goes on with a row
  have hon: ∀ r:aE,f (⟨sum,n5 x acc,some l⟩,(y:Int))=some (.inl (⟨sum,n5 x (acc++[r]),some l⟩,((y+1:Nat):Int)))->mT a.rows l (k+1) y acc=mT a.rows l k (y+1) (acc++[r])->(∀ out,mT a.rows l (k+1) y acc=some out->iter f (⟨sum,n5 x acc,some l⟩,(y:Int))=some (.inl ⟨sum,n5 x out,some l⟩))/\(mT a.rows l (k+1) y acc=none -> ∃ p',iter f (⟨sum,n5 x acc,some l⟩,(y:Int))=some (.inr (false,p'))):=by
   intro r h1 h2
   rw [h2,dS h1]
   exact hgo r
  have hoff:(∃ p',f (⟨sum,n5 x acc,some l⟩,(y:Int))=some (.inr (.inr (false,p'))))->mT a.rows l (k+1) y acc=none->(∀ out,mT a.rows l (k+1) y acc=some out->iter f (⟨sum,n5 x acc,some l⟩,(y:Int))=some (.inl ⟨sum,n5 x out,some l⟩))/\(mT a.rows l (k+1) y acc=none -> ∃ p',iter f (⟨sum,n5 x acc,some l⟩,(y:Int))=some (.inr (false,p'))):=by
   rintro ⟨p',h1⟩ h2
   rw [h2]
   exact ⟨λout ho=>(by cases ho),λ_=>⟨p',cP h1⟩⟩
  have hd:decide ((y:Int) < x.h)=true:=decide_eq_true (by omega)
  cases hm:mgl (y:Int) l with
  | some r =>
   have m1:rD (some l) (y:Int)=true:=by simp [rD,hm]
   have m2: ∀ z,mgd (some l) (y:Int) z=r:=λz=>by simp [mgd,hm]
   by_cases hya:y < a.rows.length
   ·have e1:a.rows[y]?=some a.rows[y]:=List.getElem?_eq_getElem hya
    by_cases hq:a.rows[y]=r
    ·refine hoff ⟨⟨sum,n5 x acc,some l⟩,?_⟩ (by simp only [mT,hm,e1,if_pos hq])
     subst hf
     dsimp only
     rw [hd,cond_true,wq a y hya,aA]
     dsimp only
     rw [m1,m2,cond_true,cond_true,yo _ _ (ha _ (List.getElem_mem hya)),decide_eq_true hq]
     rfl
    ·refine hon r ?_ (by simp only [mT,hm,e1,if_neg hq])
     subst hf
     dsimp only
     rw [hd,cond_true,wq a y hya,aA]
     dsimp only
     rw [m1,m2,cond_true,cond_true,yo _ _ (ha _ (List.getElem_mem hya)),decide_eq_false hq]
     show Option.bind (chk (eI acc.length 1 32)) _=_
     rw [hap,aA,hwr]
     rfl
   ·have e1:a.rows[y]?=none:=List.getElem?_eq_none (by omega)
    refine hon r ?_ (by simp only [mT,hm,e1])
    subst hf
    dsimp only
    rw [hd,cond_true,xq a y hya,aA]
    dsimp only
    rw [m1,m2]
    show Option.bind (chk (eI acc.length 1 32)) _=_
    rw [hap,aA,hwr]
    rfl
  | none =>
   have m1:rD (some l) (y:Int)=false:=by simp [rD,hm]
   by_cases hya:y < a.rows.length
   ·have e1:a.rows[y]?=some a.rows[y]:=List.getElem?_eq_getElem hya
    refine hon a.rows[y] ?_ (by simp only [mT,hm,e1])
    subst hf
    dsimp only
    rw [hd,cond_true,wq a y hya,aA]
    dsimp only
    rw [m1]
    show Option.bind (chk (eI acc.length 1 32)) _=_
    rw [hap,aA,hwr]
    rfl
   ·have e1:a.rows[y]?=none:=List.getElem?_eq_none (by omega)
    refine hoff ⟨⟨sum,n5 x acc,some l⟩,?_⟩ (by simp only [mT,hm,e1])
    subst hf
    dsimp only
    rw [hd,cond_true,xq a y hya,aA]
    dsimp only
    rw [m1]
    rfl
def xu (a:aH) (s:ByteArray):aH×Int :=
 if nZ a=false then (iR,1)
 else if w9 (zR s).2≠0 then (iR,w9 (zR s).2)
 else if (zA s).1≠((tq (mP a):Nat):Int) then (iR,7)
 else match mT a.rows (zR s).1 (zD s).1.toNat 0 [] with
  | none=>(iR,1)
  | some l=>if qi (n5 (zS s) l) then (iR,1) else (n5 (zS s) l,0)
theorem HD {i:aT} (hV:VI i) (h:w9 i=0):i.e=0/\i.s=noS:=by
 unfold w9 at h
 split at h
 ·cases h
 ·rename_i h1
  exact ⟨h,Classical.not_not.1 h1⟩
theorem zVI {s:ByteArray} (h:s.size<=1000000):VI (zB s).2/\VI (zC s).2/\VI (zF s).2/\VI (zH s).2/\VI (zK s).2/\VI (zN s).2/\VI (zR s).2:=by
 have v0:VI (⟨s,0⟩:aT):=⟨h,.inl rfl⟩
 have vB:VI (zB s).2:=kB (kB v0)
 have vC:VI (zC s).2:=iT _ vB
 have vF:VI (zF s).2:=kB (kB (iT _ vC))
 have vH:VI (zH s).2:=kB (kB (BH vF))
 have vK:VI (zK s).2:=BI vH
 have vN:VI (zN s).2:=kB vK
 exact ⟨vB,vC,vF,vH,vK,vN,Kq _ _ _ _ _ _ vN⟩
def prl (l:List (Int×aE)):List Int:=l.flatMap λp=>dG p.1++gZ p.2
theorem MV {i:aT} (hV:VI i) (h:(rdS i).2.e=0):i.e=0/\sbs i.s=dG (rdS i).1++sbs (rdS i).2.s:=by
 obtain ⟨h1,w,h2,h3,h4⟩:=CA h hV
 exact ⟨h1,by rw [h2,mC h3]; exact h4⟩
theorem AV: ∀ (k:Nat) (w h:Int) (i:aT) (last:Int) (l:List (Int×aE)),VI i->(dlL k w h i last l).2.e=0 -> ∃ D,prl (dlL k w h i last l).1=prl l++D/\sbs i.s=D++sbs (dlL k w h i last l).2.s
 | 0,w,h,i,last,l,hV,he=>⟨[],by simp [dlL],by simp [dlL]⟩
 | k+1,w,h,i,last,l,hV,he=>by
  have hi:=NL _ _ _ _ _ _ he
  unfold dlL at he ⊢
  rw [if_pos hi] at he ⊢
  have h0:=NL _ _ _ _ _ _ he
  have h1:=Kp (rV hV) h0
  obtain ⟨h2,h3,h4⟩:=Ko h1
  obtain ⟨D,d1,d2⟩:=AV k w h _ _ _ (yv (rV hV)) he
  have hr:(rdS i).2.e=0:=by rw [<- h4]; exact h1
  obtain ⟨-,h5⟩:=MV hV hr
  have h6:=EL (rV (h:=h) (last:=last) hV) h0
  refine ⟨dG (rdS i).1++gZ (ns (dlI h i last) w).1++D,?_,?_⟩
  ·rw [d1]
   unfold prl
   rw [List.flatMap_append,List.flatMap_singleton]
   simp only [List.append_assoc]
  ·rw [h5,<- h4,h6,d2]
   simp only [List.append_assoc]
theorem Pd {i:aT} {m:Nat} (h:SZ m i):(vb i).2.s.size<=m:=by
 by_cases he:(vb i).2.e=0
 ·obtain ⟨-,hw⟩:=Oy h.1 he
  have:=congrArg List.length hw
  rw [List.length_append,bD,bD] at this
  have:=h.2
  omega
 ·rcases (BH h.1).2 with h1 | h1
  ·exact absurd h1 he
  ·rw [h1]; exact Nat.zero_le _
theorem QG {i:aT} {m:Nat} (h:SZ m i):(bkS i).2.s.size<=m:=by
 by_cases he:(bkS i).2.e=0
 ·obtain ⟨-,hw⟩:=Hh h.1 he
  have:=congrArg List.length hw
  rw [List.length_append,bD,bD] at this
  have:=h.2
  omega
 ·rcases (BI h.1).2 with h1 | h1
  ·exact absurd h1 he
  ·rw [h1]; exact Nat.zero_le _
theorem DG: ∀ (k:Nat) (w h:Int) (i:aT) (last:Int) (l:List (Int×aE)),VI i->w<=1000->(∀ p∈l,okR p.2.cells/\p.2.cells.length<=1000) -> ∀ p∈(dlL k w h i last l).1,okR p.2.cells/\p.2.cells.length<=1000
 | 0,w,h,i,last,l,hV,hw,hl=>hl
 | k+1,w,h,i,last,l,hV,hw,hl=>by
  unfold dlL
  split
  ·refine DG k w h _ _ _ (yv (rV hV)) hw ?_
   intro p hp
   rcases List.mem_append.1 hp with hp | hp
   ·exact hl p hp
   ·rw [List.mem_singleton.1 hp]
    exact LQ (rV hV) hw
  ·exact hl
theorem yC {α:Type} {k:Int} {x:α}: ∀ {l:List (Int×α)},mgl k l=some x->(k,x)∈l
 | [],h=>by cases h
 | (j,y)::l,h=>by
  simp only [mgl] at h
  split at h
  ·rename_i hk
   injection h with h
   subst h hk
   exact List.mem_cons_self ..
  ·exact List.mem_cons_of_mem _ (yC h)
theorem zL {A:List aE} {l:List (Int×aE)} (Q:aE->Prop) (hA: ∀ r∈A,Q r) (hl: ∀ p∈l,Q p.2): ∀ (k y:Nat) (acc out:List aE),mT A l k y acc=some out->(∀ r∈acc,Q r)->(∀ r∈out,Q r)/\out.length=acc.length+k
 | 0,y,acc,out,h,hacc=>by
  injection h with h
  subst h
  exact ⟨hacc,rfl⟩
 | k+1,y,acc,out,h,hacc=>by
  have go: ∀ r,Q r->mT A l k (y+1) (acc++[r])=some out->(∀ r∈out,Q r)/\out.length=acc.length+(k+1):=by
   intro r hr h2
   obtain ⟨h3,h4⟩:=zL Q hA hl k (y+1) (acc++[r]) out h2 (λq hq=>by
    rcases List.mem_append.1 hq with hq | hq
    ·exact hacc q hq
    ·rw [List.mem_singleton.1 hq]; exact hr)
   refine ⟨h3,h4.trans ?_⟩
   simp only [List.length_append,List.length_cons,List.length_nil]
   omega
  simp only [mT] at h
  split at h
  ·rename_i r q h1 h2
   split at h
   ·cases h
   ·exact go r (hl _ (yC h1)) h
  ·rename_i r h1 h2
   exact go r (hl _ (yC h1)) h
  ·rename_i q h1 h2
   exact go q (hA _ (List.mem_of_getElem? h2)) h
  ·cases h
def tot (y:Int):List (Int×aE)->Nat
 | []=>0
 | (j,z)::l=>(if y<=j then (gZ z).length else 0)+tot y l
theorem zM (y:Int): ∀ l,tot (y+1) l<=tot y l
 | []=>Nat.le_refl _
 | (j,z)::l=>by
  have:=zM y l
  simp only [tot]
  by_cases h1:y+1<=j
  ·rw [if_pos h1,if_pos (by omega)]; omega
  ·rw [if_neg h1]; omega
theorem B1 (y:Int) {r:aE}: ∀ l,mgl y l=some r->(gZ r).length+tot (y+1) l<=tot y l
 | [],h=>by cases h
 | (j,z)::l,h=>by
  simp only [mgl] at h
  simp only [tot]
  split at h
  ·rename_i hk
   injection h with h
   subst h hk
   have:=zM y l
   rw [if_neg (by omega),if_pos (Int.le_refl _)]
   omega
  ·have:=B1 y l h
   by_cases h1:y+1<=j
   ·rw [if_pos h1,if_pos (by omega)]; omega
   ·rw [if_neg h1]; omega
theorem Ks (y:Int): ∀ l,tot y l<=(prl l).length
 | []=>Nat.le_refl _
 | (j,z)::l=>by
  have:=Ks y l
  unfold prl at this ⊢
  simp only [tot,List.flatMap_cons,List.length_append]
  split <;> omega
theorem DH {A:List aE} {l:List (Int×aE)}: ∀ (k y:Nat) (acc out:List aE),mT A l k y acc=some out->(out.flatMap gZ).length<=(acc.flatMap gZ).length+tot (y:Int) l+((A.drop y).flatMap gZ).length
 | 0,y,acc,out,h=>by
  injection h with h
  subst h
  omega
 | k+1,y,acc,out,h=>by
  have hn:=zM (y:Int) l
  have e1:((y+1:Nat):Int)=(y:Int)+1:=rfl
  have hd: ∀ q,A[y]?=some q->((A.drop y).flatMap gZ).length=(gZ q).length+((A.drop (y+1)).flatMap gZ).length:=by
   intro q hq
   obtain ⟨h1,h2⟩:=List.getElem?_eq_some_iff.1 hq
   rw [List.drop_eq_getElem_cons h1,List.flatMap_cons,List.length_append,h2]
  have go: ∀ r,mT A l k (y+1) (acc++[r])=some out->(out.flatMap gZ).length<=(acc.flatMap gZ).length+(gZ r).length+tot ((y:Int)+1) l+((A.drop (y+1)).flatMap gZ).length:=by
   intro r h2
   have:=DH k (y+1) (acc++[r]) out h2
   rw [List.flatMap_append,List.flatMap_singleton,List.length_append,e1] at this
   exact this
  have hdd:((A.drop (y+1)).flatMap gZ).length<=((A.drop y).flatMap gZ).length:=by
   by_cases hy:y < A.length
   ·rw [hd _ (List.getElem?_eq_getElem hy)]; omega
   ·rw [List.drop_eq_nil_of_le (by omega:A.length<=y+1)]
    exact Nat.zero_le _
  simp only [mT] at h
  split at h
  ·rename_i r q h1 h2
   split at h
   ·cases h
   ·have:=go r h
    have:=B1 (y:Int) l h1
    omega
  ·rename_i r h1 h2
   have:=go r h
   have:=B1 (y:Int) l h1
   omega
  ·rename_i q h1 h2
   have:=go q h
   have:=hd q h2
   omega
  ·cases h
theorem Pe {s:ByteArray} (h:s.size<=1000000) (he:(zR s).2.e=0):(prl (zR s).1).length<=s.size:=by
 obtain ⟨vB,vC,vF,vH,vK,vN,vR⟩:=zVI h
 obtain ⟨D,h1,h2⟩:=AV _ _ _ _ _ _ vN he
 have hD:prl (zR s).1=D:=h1
 have h3:=congrArg List.length h2
 rw [List.length_append,bD,<- hD] at h3
 have v0:SZ s.size (⟨s,0⟩:aT):=⟨⟨h,.inl rfl⟩,Nat.le_refl _⟩
 have s1:SZ s.size (zF s).2:=xT (xT (Ja _ (Ja _ (xT (xT v0)))))
 have s2:SZ s.size (zT s).2:=⟨BH s1.1,Pd s1⟩
 have s3:SZ s.size (zH s).2:=xT (xT s2)
 have s4:SZ s.size (zK s).2:=⟨BI s3.1,QG s3⟩
 have s5:=(xT s4).2
 have:(zN s).2.s.size<=s.size:=s5
 omega
theorem DJ {a:aH} {s:ByteArray} {l:List aE} (ha:SW a) (pa:(a.rows.flatMap gZ).length<=12000) (h:s.size<=100000) (ht:(zT s).1.size<=6000) (he:(zR s).2.e=0) (hl:mT a.rows (zR s).1 (zD s).1.toNat 0 []=some l):SW (n5 (zS s) l)/\(l.flatMap gZ).length<=200000:=by
 obtain ⟨vB,vC,vF,vH,vK,vN,vR⟩:=zVI (s:=s) (by omega)
 have b1:=mf (m:=1000) vB (by omega)
 have c1:=mf (m:=1000) vC (by omega)
 have hw1:0<=(zC s).1:=b1.1
 have hw2:(zC s).1<=1000:=b1.2
 have hh1:0<=(zD s).1:=c1.1
 have hh2:(zD s).1<=1000:=c1.2
 have bo:=OA vH
 have hrows:=DG (zN s).1.toNat (zC s).1 (zD s).1 (zN s).2 (-1) [] vN hw2 (λp hp=>by cases hp)
 obtain ⟨p1,p2⟩:=zL (λr=>okR r.cells/\r.cells.length<=1000) ha.ro hrows _ _ _ _ hl (λr hr=>by cases hr)
 have p3:=DH _ _ _ _ hl
 have p4:=Ks ((0:Nat):Int) (zR s).1
 have p5:=Pe (by omega) he
 have p6:((a.rows.drop 0).flatMap gZ).length<=12000:=by simpa using pa
 refine ⟨⟨?_,?_,bo.1,p1,?_,Nat.le_trans bo.2 (by decide),ht⟩,?_⟩
 ·show _<=(zC s).1/\(zC s).1<=_
  omega
 ·show _<=(zD s).1/\(zD s).1<=_
  omega
 ·show l.length<=1000
  rw [p2]
  simp only [List.length_nil]
  omega
 ·simp only [List.flatMap_nil,List.length_nil] at p3
  omega
theorem Kt (a:aH) (s:ByteArray) (ha:SW a) (pa:(a.rows.flatMap gZ).length<=12000) (h:s.size<=100000) (ht:(zT s).1.size<=6000) (he:(zR s).2.e=0) (sum:Int) :
  (∀ l,mT a.rows (zR s).1 (zD s).1.toNat 0 []=some l->fW ⟨sum,zS s,some (zR s).1⟩ a=some (!qi (n5 (zS s) l),⟨sum,n5 (zS s) l,some (zR s).1⟩))/\(mT a.rows (zR s).1 (zD s).1.toNat 0 []=none -> ∃ p',fW ⟨sum,zS s,some (zR s).1⟩ a=some (false,p')):=by
 obtain ⟨vB,vC,vF,vH,vK,vN,vR⟩:=zVI (s:=s) (by omega)
 have c1:=mf (m:=1000) vC (by omega)
 have hh1:0<=(zD s).1:=c1.1
 have hh2:(zD s).1<=1000:=c1.2
 have har: ∀ r∈a.rows,r.cells.length<=1000000:=λr hr=>by have:=(ha.ro r hr).2; omega
 obtain ⟨H,hH⟩:=Int.eq_ofNat_of_zero_le hh1
 obtain ⟨b1,b2⟩:=Fe sum (zS s) a (zR s).1 H (by omega) hH har _ rfl H 0 [] (by omega) rfl
 have hH2:(zD s).1.toNat=H:=by rw [hH,Int.toNat_natCast]
 have hz:n5 (zS s) []=zS s:=rfl
 rw [hz] at b1 b2
 refine ⟨λl hl=> ?_,λhl=> ?_⟩
 ·obtain ⟨SWx,pl⟩:=DJ ha pa h ht he hl
  rw [hH2] at hl
  have e:=b1 l hl
  unfold fW
  refine (congrArg (λz=>Option.bind z _) e).trans ?_
  rw [aA]
  dsimp only
  have hm:kT (n5 (zS s) l)=some (!qi (n5 (zS s) l)):=DA _ SWx (by show (l.flatMap gZ).length<=1000000; omega)
  show Option.bind (kT (n5 (zS s) l)) _=_
  rw [hm,aA]
 ·rw [hH2] at hl
  obtain ⟨p',this⟩:=b2 hl
  refine ⟨p',?_⟩
  unfold fW
  refine (congrArg (λz=>Option.bind z _) this).trans ?_
  rw [aA]
theorem Ku (a:aH) (s:ByteArray) (ha:SW a) (pa:(a.rows.flatMap gZ).length<=12000) (h:s.size<=100000) (ht:(zT s).1.size<=6000):mb a s=some (xu a s):=by
 obtain ⟨vB,vC,vF,vH,vK,vN,vR⟩:=zVI (s:=s) (by omega)
 unfold mb xu
 rw [vU a ha,aA]
 cases hm:nZ a with
 | false=>rw [if_neg (by simp),if_pos rfl]; rfl
 | true =>
  rw [if_pos rfl,if_neg (by simp)]
  obtain ⟨m',r1,r2⟩:=Kr s (by omega)
  have k0:((0:Int) != 0)=false:=rfl
  rw [k0,cond_false,r1,aA]
  dsimp only
  by_cases he:w9 (zR s).2=0
  ·have k1:(w9 (zR s).2 != 0)=false:=by simp [he]
   rw [k1,cond_false,if_neg (λhh=>hh he),F4 a ha pa,aA]
   obtain ⟨he0, -⟩:=HD vR he
   obtain rfl:=r2 he0
   by_cases hs:(zA s).1=((tq (mP a):Nat):Int)
   ·have k2:((zA s).1 != ((tq (mP a):Nat):Int))=false:=by simp [hs]
    rw [k2,cond_false,if_neg (λhh=>hh hs)]
    obtain ⟨b1,b2⟩:=Kt a s ha pa h ht he0 (zA s).1
    cases hl:mT a.rows (zR s).1 (zD s).1.toNat 0 [] with
    | none =>
     obtain ⟨p',b3⟩:=b2 hl
     rw [b3,aA]
     rfl
    | some l =>
     obtain ⟨SWx,pl⟩:=DJ ha pa h ht he0 hl
     rw [b1 l hl,aA]
     dsimp only
     cases hn:qi (n5 (zS s) l) with
     | true=>rfl
     | false =>
      rw [Bool.not_false,Bool.not_true,cond_false,if_neg (by simp),xc _ SWx,aA]
   ·have k2:((zA s).1 != ((tq (mP a):Nat):Int))=true:=by simp [hs]
    rw [k2,cond_true,if_pos hs]
    rfl
  ·have k1:(w9 (zR s).2 != 0)=true:=by simp [he]
   rw [k1,cond_true,if_pos he]
   rfl
theorem Gy (a b:List aE) (y:Nat): ∀ i,y∈chN a b i↔(y < i/\a[y]?≠b[y]?)
 | 0=>by simp [chN]
 | i+1=>by
  rw [pP]
  have ih:=Gy a b y i
  split
  ·rename_i h
   rw [ih]
   constructor
   ·rintro ⟨h1,h2⟩; exact ⟨by omega,h2⟩
   ·rintro ⟨h1,h2⟩
    refine ⟨?_,h2⟩
    rcases Nat.lt_succ_iff_lt_or_eq.1 h1 with h3 | h3
    ·exact h3
    ·subst h3; exact absurd h h2
  ·rename_i h
   rw [List.mem_append,ih,List.mem_singleton]
   constructor
   ·rintro (⟨h1,h2⟩ | h1)
    ·exact ⟨by omega,h2⟩
    ·subst h1; exact ⟨by omega,h⟩
   ·rintro ⟨h1,h2⟩
    rcases Nat.lt_succ_iff_lt_or_eq.1 h1 with h3 | h3
    ·exact .inl ⟨h3,h2⟩
    ·exact .inr h3
theorem vj (a b:List aE): ∀ i,(chN a b i).Pairwise (· < ·)
 | 0=> .nil
 | i+1=>by
  rw [pP]
  split
  ·exact vj a b i
  ·refine List.pairwise_append.2 ⟨vj a b i,by simp,λx hx y hy=> ?_⟩
   rw [List.mem_singleton.1 hy]
   exact BY a b i x hx
def prs (b:List aE) (C:List Nat):List (Int×aE):=C.map λy:Nat=>((y:Int),b[y]?.getD By)
theorem Gz (b:List aE) (y:Nat): ∀ C:List Nat,mgl (y:Int) (prs b C)=if y∈C then some (b[y]?.getD By) else none
 | []=>rfl
 | c::C=>by
  have ih:=Gz b y C
  show (if (y:Int)=(c:Int) then some (b[c]?.getD By) else mgl (y:Int) (prs b C))=_
  rw [ih]
  by_cases h:y=c
  ·subst h
   rw [if_pos rfl,if_pos (by simp)]
  ·rw [if_neg (by omega)]
   by_cases h2:y∈C
   ·rw [if_pos h2,if_pos (by simp [h2])]
   ·rw [if_neg h2,if_neg (by simp [h,h2])]
theorem GA (b:List aE) (w h:Int) (hw:w<=1000) (hh:h=(b.length:Int)) (hb:b.length<=1000) (hr: ∀ r∈b,(r.cells.length:Int)=w /\ ∀ c∈r.cells,okC c=true) {R:List Int} (hR:BB R): ∀ (C:List Nat) (last:Int) (acc:List (Int×aE)),C.Pairwise (· < ·)->(∀ y∈C,last < (y:Int)/\y < b.length)->dlL C.length w h (bI (pch b C++R)) last acc=(acc++prs b C,bI R)
 | [],last,acc,_,_=>by simp [dlL,pch,prs]
 | c::C,last,acc,hs,hl=>by
  have hc:=hl c (by simp)
  have hs2:=List.pairwise_cons.1 hs
  have hrc:=hr _ (List.getElem_mem hc.2)
  have hgc:b[c]?.getD By=b[c]:=by rw [List.getElem?_eq_getElem hc.2]; rfl
  have hBB:BB (pch b C++R):=fX (Km _ _) hR
  have e1:pch b (c::C)++R=dG (c:Int)++(gZ b[c]++(pch b C++R)):=by
   unfold pch
   rw [List.flatMap_cons,hgc]
   simp only [List.append_assoc]
  have e2:rdS (bI (pch b (c::C)++R))=((c:Int),bI (gZ b[c]++(pch b C++R))):=by
   rw [e1]
   exact Ae (fX (BJ _) hBB) (by omega) (by omega)
  have e3:dlI h (bI (pch b (c::C)++R)) last=bI (gZ b[c]++(pch b C++R)):=by
   unfold dlI
   rw [e2,if_neg (by dsimp only; omega)]
  have e4:=OC b[c] w hBB hw hrc.1 hrc.2
  show dlL (C.length+1) w h (bI (pch b (c::C)++R)) last acc=_
  unfold dlL
  rw [if_pos (show (bI (pch b (c::C)++R)).e=0 from rfl),e3,e4,e2]
  dsimp only
  rw [GA b w h hw hh hb hr hR C (c:Int) _ hs2.2 (λy hy=>⟨by have:=hs2.1 y hy; omega,(hl y (by simp [hy])).2⟩)]
  unfold prs
  rw [List.map_cons,hgc,List.append_assoc]
  rfl
theorem DK (a b:List aE): ∀ k y,y+k=b.length->mT a (prs b (chg a b)) k y (b.take y)=some b
 | 0,y,hy=>by
  show some (b.take y)=some b
  rw [List.take_of_length_le (by omega)]
 | k+1,y,hy=>by
  have hyb:y < b.length:=by omega
  have hb:b[y]?=some b[y]:=List.getElem?_eq_getElem hyb
  have ih:=DK a b k (y+1) (by omega)
  rw [List.take_succ_eq_append_getElem hyb] at ih
  have hm:=Gz b y (chg a b)
  have hmem:y∈chg a b↔a[y]?≠b[y]?:=by
   unfold chg
   rw [Gy]
   exact ⟨λh=>h.2,λh=>⟨hyb,h⟩⟩
  simp only [mT]
  by_cases hc:y∈chg a b
  ·rw [if_pos hc,hb] at hm
   rw [hm]
   simp only [Option.getD_some]
   have hne:=hmem.1 hc
   rw [hb] at hne
   cases ha:a[y]? with
   | none=>exact ih
   | some q =>
    dsimp only
    rw [ha] at hne
    rw [if_neg (λhh=>hne (by rw [hh]))]
    exact ih
  ·rw [if_neg hc] at hm
   rw [hm]
   have he:a[y]?=b[y]?:=Classical.not_not.1 λh=>hc (hmem.2 h)
   rw [he,hb]
   exact ih
theorem AW (a b:aH) (hb:SW b) (hma:nZ a=true) (hnb:qi b=false):zT (lf a b)=(b.title,(zT (lf a b)).2)/\xu a (lf a b)=(b,0):=by
 have hbe:jY b=false/\nZ b=true:=by
  unfold qi at hnb
  cases h1:jY b <;> cases h2:nZ b <;> rw [h1,h2] at hnb <;> first | exact ⟨rfl,rfl⟩ | cases hnb
 have M:=(L1 hbe.1).1 hbe.2
 have hbad:HC a b=false:=by unfold HC; rw [hma,hnb]; rfl
 have hs:lf a b=hU (rU a b):=by unfold lf; rw [hbad]; rfl
 rw [hs]
 generalize hC:chg a.rows b.rows=C
 have hCl:C.length<=b.rows.length:=by rw [<- hC]; exact BX _ _ _
 have hrl:=hb.rl
 have htl:=M.t
 have r0:BB ([]:List Int):=OB
 have rP:BB (pch b.rows C):=Km _ _
 obtain ⟨t11,ht11⟩: ∃ t,t=pch b.rows C:=⟨_,rfl⟩
 obtain ⟨t10,ht10⟩: ∃ t,t=dG (C.length:Int)++t11:=⟨_,rfl⟩
 obtain ⟨t9,ht9⟩: ∃ t,t=lL b.begun++t10:=⟨_,rfl⟩
 obtain ⟨t8,ht8⟩: ∃ t,t=dG b.chain++t9:=⟨_,rfl⟩
 obtain ⟨t7,ht7⟩: ∃ t,t=dG b.len++t8:=⟨_,rfl⟩
 obtain ⟨t6,ht6⟩: ∃ t,t=dG b.title.size++sbs b.title++t7:=⟨_,rfl⟩
 obtain ⟨t5,ht5⟩: ∃ t,t=dG b.y++t6:=⟨_,rfl⟩
 obtain ⟨t4,ht4⟩: ∃ t,t=dG b.x++t5:=⟨_,rfl⟩
 obtain ⟨t3,ht3⟩: ∃ t,t=dG b.h++t4:=⟨_,rfl⟩
 obtain ⟨t2,ht2⟩: ∃ t,t=dG b.w++t3:=⟨_,rfl⟩
 obtain ⟨t1,ht1⟩: ∃ t,t=dG b.k++t2:=⟨_,rfl⟩
 have hpd:rU a b=dG ((tq (mP a):Nat):Int)++t1:=by
  rw [ht1,ht2,ht3,ht4,ht5,ht6,ht7,ht8,ht9,ht10,ht11]
  unfold rU tu
  rw [hC]
  simp only [List.flatMap_cons,List.flatMap_nil,List.append_nil,List.append_assoc]
 have q11:BB t11:=by rw [ht11]; exact rP
 have q10:BB t10:=by rw [ht10]; exact fX (kv _) q11
 have q9:BB t9:=by rw [ht9]; exact fX (Gx b.begun) q10
 have q8:BB t8:=by rw [ht8]; exact fX (kv b.chain) q9
 have q7:BB t7:=by rw [ht7]; exact fX (kv b.len) q8
 have q6:BB t6:=by rw [ht6]; exact fX (fX (kv _) (vd _)) q7
 have q5:BB t5:=by rw [ht5]; exact fX (kv b.y) q6
 have q4:BB t4:=by rw [ht4]; exact fX (kv b.x) q5
 have q3:BB t3:=by rw [ht3]; exact fX (kv b.h) q4
 have q2:BB t2:=by rw [ht2]; exact fX (kv b.w) q3
 have q1:BB t1:=by rw [ht1]; exact fX (kv b.k) q2
 have hk:=M.k
 have hw:=M.w
 have hh:=M.h
 have hx:=M.x
 have hy:=M.y
 have hl:=M.l
 have hch:=M.c
 have hsum:=BK (mP a)
 have zA':zA (hU (rU a b))=(((tq (mP a):Nat):Int),bI t1):=by unfold zA; rw [hpd]; exact Ae q1 (by omega) (by omega)
 have zB':zB (hU (rU a b))=(b.k,bI t2):=by unfold zB; rw [zA',ht1]; exact Ae q2 (by omega) (by omega)
 have zC':zC (hU (rU a b))=(b.w,bI t3):=by unfold zC; rw [zB',ht2]; exact uK q3 (by omega) (by omega) (by omega)
 have zD':zD (hU (rU a b))=(b.h,bI t4):=by unfold zD; rw [zC',ht3]; exact uK q4 (by omega) (by omega) (by omega)
 have zE':zE (hU (rU a b))=(b.x,bI t5):=by unfold zE; rw [zD',ht4]; exact Ae q5 (by omega) (by omega)
 have zF':zF (hU (rU a b))=(b.y,bI t6):=by unfold zF; rw [zE',ht5]; exact Ae q6 (by omega) (by omega)
 have zT':zT (hU (rU a b))=(b.title,bI t7):=by unfold zT; rw [zF',ht6]; exact PZ b.title q7 hb.tl
 have zG':zG (hU (rU a b))=(b.len,bI t8):=by unfold zG; rw [zT',ht7]; exact Ae q8 (by omega) (by omega)
 have zH':zH (hU (rU a b))=(b.chain,bI t9):=by unfold zH; rw [zG',ht8]; exact Ae q9 (by omega) (by omega)
 have zK':zK (hU (rU a b))=(b.begun,bI t10):=by unfold zK; rw [zH',ht9]; exact P0 b.begun q10 M.g M.b
 have zN':zN (hU (rU a b))=((C.length:Int),bI t11):=by unfold zN; rw [zK',ht10]; exact Ae q11 (by omega) (by omega)
 have zR':zR (hU (rU a b))=(prs b.rows C,bI []):=by
  unfold zR
  rw [zN',zC',zD',ht11]
  dsimp only
  rw [Int.toNat_natCast]
  have:=GA b.rows b.w b.h (by omega) M.r.symm hrl M.rr r0 C (-1) [] (by rw [<- hC]; exact vj _ _ _) (λy hy=>⟨by omega,by rw [<- hC] at hy; exact BY _ _ _ y hy⟩)
  rw [List.append_nil,List.nil_append] at this
  exact this
 refine ⟨by rw [zT'],?_⟩
 unfold xu
 rw [hma,if_neg (by simp),zR']
 have hE:w9 (bI [])=0:=LY
 rw [hE,if_neg (λh=>h rfl),zA',if_neg (λh=>h rfl),zD']
 dsimp only
 have hb0:=DK a.rows b.rows b.rows.length 0 (by omega)
 have hht:b.h.toNat=b.rows.length:=by have:=M.r; omega
 rw [hht,<- hC,show mT a.rows (prs b.rows (chg a.rows b.rows)) b.rows.length 0 []=some b.rows from hb0]
 dsimp only
 have hset:n5 (zS (hU (rU a b))) b.rows=b:=by
  unfold n5 zS
  rw [zB',zC',zD',zE',zF',zT',zG',zH',zK']
 rw [hset,hnb]
 rfl
theorem vk (a b:aH) (hb:SW b) (pb:(b.rows.flatMap gZ).length<=12000):(lf a b).size<=67000:=by
 unfold lf
 split
 ·exact Nat.zero_le _
 ·rw [me]
  unfold rU
  have h1:=AU a b hb
  have h2:=Kl a.rows b.rows pb hb.rl b.rows.length (Nat.le_refl _)
  have h3:(pch b.rows (chg a.rows b.rows)).length<=21000:=h2
  rw [List.length_append]
  omega
theorem MW:(iR.rows.flatMap gZ).length<=12000:=by decide
theorem Kv:nZ iR=true:=by
 unfold nZ
 have:jY iR=true:=Hi.2 rfl
 rw [this]
 rfl
structure CT1 (x:aH):Prop where
 sw:SW x
 pk:(x.rows.flatMap gZ).length<=11600
structure SG (s:aH):Prop where
 sw:SW s
 pk:(s.rows.flatMap gZ).length<=12000
 may:nZ s=true
theorem B2:SG iR:=⟨CI,MW,Kv⟩
theorem GB {s:aH} (g:SG s) (he:jY s=false):qi s=false:=by
 unfold qi
 rw [he,g.may]
 rfl
theorem Kw {a b c:aH} (ga:SG a) (gb:SG b) (hb:jY b=false) (gc:SG c):mb c (lf a b)=some (xu c (lf a b)):=by
 have h1:=vk a b gb.sw gb.pk
 have h2:=(AW a b gb.sw ga.may (GB gb hb)).1
 refine Ku c _ gc.sw gc.pk (by omega) ?_
 rw [h2]
 exact gb.sw.tl
theorem DL {a b:aH} (ga:SG a) (gb:SG b) (hb:jY b=false):xu a (lf a b)=(b,0):=(AW a b gb.sw ga.may (GB gb hb)).2
theorem GC {a b:aH} (ga:SG a):fT a b=some (decide (a=b)):=Jc a b ga.sw
end Go.Tw.X

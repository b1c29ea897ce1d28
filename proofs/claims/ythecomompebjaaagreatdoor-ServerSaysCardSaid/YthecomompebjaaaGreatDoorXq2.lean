import Derived.Test.YthecomompebjaaaGreatDoorXq1
import Derived.Test.YthecomompebjaaaGreatDoorXp1
import Derived.Test.YthecomompebjaaaGreatDoorFw2
set_option linter.unusedVariables false
set_option linter.unusedSimpArgs false
set_option maxHeartbeats 1000000
namespace Go.Tw.X
open Go Go.Tw
def fK (z:List (List aJ)×List aJ):bT:=⟨z.1,chs z.1,z.2⟩
def Fe (g:List aJ):Prop:= ∀ x∈g,rok x.rune
theorem DT: ∀ n (g:List aJ),g.length=n->Fe g->(nQ g).1.length*1024<=n/\(nQ g).2.length < 1024/\Fe (nQ g).2 /\ ∀ x∈(nQ g).1,zC x:=by
 intro n
 induction n using Nat.strongRecOn with
 | _ n ih =>
  intro g hg ho
  by_cases h:1024<=g.length
  ·rw [zD h]
   obtain ⟨a,b,c,d⟩:=ih (g.drop 1024).length (by rw [List.length_drop]; omega) _ rfl (λx hx=>ho x (List.mem_of_mem_drop hx))
   rw [List.length_drop] at a
   refine ⟨by rw [List.length_cons,Nat.succ_mul,<- hg]; exact Nat.add_le_of_le_sub h a,b,c,λx hx=> ?_⟩
   rcases List.mem_cons.1 hx with rfl | hx
   ·exact ⟨by rw [List.length_take]; omega,λy hy=>ho y (List.mem_of_mem_take hy)⟩
   ·exact d x hx
  ·rw [wD h]
   exact ⟨by rw [List.length_nil]; omega,by dsimp only; omega,ho,λx hx=>by cases hx⟩
def AM (r:aG):Prop:=r.cells.length<=1000/\Fe (ou r)
structure ZI (k:Nat) (z:List (List aJ)×List aJ):Prop where
 n:z.1.length<=k
 b:z.2.length < 1024
 g:Fe z.2
 ls: ∀ x∈z.1,zC x
theorem JE {k:Nat} {z:List (List aJ)×List aJ} (h:ZI k z) {r:aG} (hr:AM r):ZI (k+2) (qK z r):=by
 have hl:=Aq r
 obtain ⟨a,b,c,d⟩:=DT _ (z.2++ou r) rfl (λx hx=>(List.mem_append.1 hx).elim (h.g x) (hr.2 x))
 rw [List.length_append] at a
 have h1:=h.n
 have h2:=h.b
 have h3:=hr.1
 unfold qK
 dsimp only
 split
 ·exact ⟨by rw [List.length_append]; omega,b,c,λx hx=>(List.mem_append.1 hx).elim (h.ls x) (d x)⟩
 ·refine ⟨by simp; omega,by show 0 < 1024; decide,λx hx=>(by cases hx),λx hx=> ?_⟩
  rcases List.mem_append.1 hx with hx | hx
  ·exact (List.mem_append.1 hx).elim (h.ls x) (d x)
  ·rw [List.mem_singleton.1 hx]
   exact ⟨by omega,c⟩
theorem add_one {k:Nat} (hk:k<=100000000) {z:List (List aJ)×List aJ} (h:ZI k z) {r:aG} (hr:AM r):(Option.bind (jh r) λf=>(Option.bind (chk (eY (fK z).begun.length f.length 16)) λ_=>(Option.bind (iter (σ:=bT) (ρ:=bT) (λd=>(bif (decide ((d.begun.length:Int)>=1024)) then (Option.bind (chk (cZ 0 1024 d.begun.length)) λ_=>(Option.bind (fM d (cut d.begun 0 1024)) λc=>(Option.bind (chk (cZ 1024 (c.begun.length:Int) c.begun.length)) λ_=>(Option.bind (cA (cut c.begun 1024 (c.begun.length:Int))) λj=>some (.inl (bT.mk c.l c.bA j)))))) else some (.inr d))) (bT.mk (fK z).l (fK z).bA ((fK z).begun++f))) λe=>(bif (!r.wrapped) then (Option.bind (fM e e.begun) λi=>some (bT.mk i.l i.bA ([]:List aJ))) else some e))))=some (fK (qK z r)):=by
 have hl:=Aq r
 have h1:=h.n
 have h2:=h.b
 have h3:=hr.1
 have hgo:Fe (z.2++ou r):=λx hx=>(List.mem_append.1 hx).elim (h.g x) (hr.2 x)
 obtain ⟨ca,cb,cc,_⟩:=DT _ (z.2++ou r) rfl hgo
 rw [List.length_append] at ca
 rw [EX r (by omega),Option.bind_some,bP (by show (z.2.length+(ou r).length)*16<=_; omega),Option.bind_some]
 refine Ok (dP (P:=λy=>y=fK (z.1++(nQ (z.2++ou r)).1,(nQ (z.2++ou r)).2)) ?_ λy hy=> ?_)
 ·refine sg (λy:bT=> ∃ l g,y=fK (l,g)/\g.length<=2024/\Fe g/\l.length+g.length<=200000000/\(nQ g).2=(nQ (z.2++ou r)).2/\l++(nQ g).1=z.1++(nQ (z.2++ou r)).1) (λy=>y.begun.length) ⟨z.1,z.2++ou r,rfl,by simp; omega,hgo,by simp; omega,rfl,rfl⟩ ?_
  rintro _ ⟨l,g,rfl,g1,g2,g3,g4,g5⟩
  show okO (bif (decide ((g.length:Int)>=1024)) then _ else _) _
  refine uo (λhh=> ?_) λhh=> ?_
  ·have hge:1024<=g.length:=by omega
   rw [zD hge] at g4 g5
   have hcut:cut g 0 1024=g.take 1024:=by rw [show (1024:Int)=((1024:Nat):Int) from rfl,xk]
   have hcut2:cut g 1024 (g.length:Int)=g.drop 1024:=by rw [show (1024:Int)=((1024:Nat):Int) from rfl,qk,List.take_length]
   refine dP (Cl (by omega) (by omega) (by show (1024:Int)<=g.length; omega)) λ_ _=> ?_
   rw [show (fK (l,g)).begun=g from rfl,hcut,AF (b:=fK (l,g)) rfl (by show l.length<=_; omega) ⟨by rw [List.length_take]; omega,λx hx=>g2 x (List.mem_of_mem_take hx)⟩,Option.bind_some]
   dsimp only
   refine dP (Cl (by omega) (by show (1024:Int)<=g.length; omega) (by show (g.length:Int)<=g.length; omega)) λ_ _=> ?_
   rw [show (fK (l,g)).begun=g from rfl,show (fK (l,g)).l=l from rfl,hcut2,sj _ (by rw [List.length_drop]; omega),Option.bind_some]
   refine cG ⟨⟨l++[g.take 1024],g.drop 1024,rfl,by rw [List.length_drop]; omega,λx hx=>g2 x (List.mem_of_mem_drop hx),by simp; omega,g4,by rw [<- g5]; simp⟩,?_⟩
   show (g.drop 1024).length < g.length
   rw [List.length_drop]
   omega
  ·rw [wD (by omega)] at g4 g5
   refine cG ?_
   rw [<- g4,<- g5]
   simp
 ·subst hy
  unfold qK
  cases hw:r.wrapped with
  | true=>exact cG rfl
  | false =>
   simp only [Bool.not_false,cond_true]
   rw [show ∀ a b,(fK (a,b)).begun=b from λ_ _=>rfl,AF (b:=fK (z.1++(nQ (z.2++ou r)).1,(nQ (z.2++ou r)).2)) rfl (by show (z.1++(nQ (z.2++ou r)).1).length<=_; rw [List.length_append]; omega) ⟨by show (nQ (z.2++ou r)).2.length<=1024; omega,cc⟩]
   exact cG rfl
theorem sn {k:Nat}: ∀ (rows:List aG) {z:List (List aJ)×List aJ},ZI k z->(∀ r∈rows,AM r)->ZI (k+2*rows.length) (rows.foldl qK z)
 | [],z,h,_=>h
 | r::rows,z,h,hr=>by
  have h1:=JE h (hr r List.mem_cons_self)
  have h2:=sn (k:=k+2) rows h1 λx hx=>hr x (List.mem_cons_of_mem _ hx)
  rw [show k+2*(r::rows).length=k+2+2*rows.length by simp; omega]
  exact h2
theorem add_eq {k:Nat} {z:List (List aJ)×List aJ} (h:ZI k z) {rows:List aG} (hr: ∀ r∈rows,AM r) (hk:k+2*rows.length<=100000000):okO (iQ (fK z) rows) (λy=>y.2=fK (rows.foldl qK z)):=by
 unfold iQ
 refine dP (P:=λy=>y=fK (rows.foldl qK z)) ?_ λy hy=>cG hy
 refine sg (λy:bT×Int=>0<=y.2/\y.2<=rows.length/\y.1=fK ((rows.take y.2.toNat).foldl qK z)) (λy=>rows.length - y.2.toNat) ⟨Int.le_refl 0,by dsimp only; omega,rfl⟩ ?_
 rintro ⟨b,i⟩ ⟨h0,h1,h2⟩
 dsimp only at h0 h1 h2 ⊢
 subst h2
 refine uo (λhi=> ?_) λhi=>cG (by rw [List.take_of_length_le (by omega)])
 obtain ⟨j,rfl⟩: ∃ j:Nat,i=j:=⟨i.toNat,by omega⟩
 have hj:j < rows.length:=by omega
 have hZ:=sn (rows.take j) h λx hx=>hr x (List.mem_of_mem_take hx)
 rw [List.length_take] at hZ
 rw [dC rows j hj,Option.bind_some]
 have:=add_one (by omega) hZ (hr rows[j] (List.getElem_mem hj))
 rw [show ((j:Int)).toNat=j from rfl]
 rw [this,Option.bind_some,w64 (by omega) (by omega)]
 refine cG ⟨⟨by dsimp only; omega,by dsimp only; omega,?_⟩,by dsimp only; omega⟩
 dsimp only
 rw [show ((j:Int)+1).toNat=j+1 by omega,List.take_add_one,List.getElem?_eq_getElem hj,Option.toList_some,List.foldl_append]
 rfl
def tst (s:bJ):bR:=⟨s.ib,s.back,s.bold,s.under,s.dS⟩
def bN (b:Bool) (n:Int):Int:=if b then n else 0
def lA (s:bJ):Int:=if 0<=s.ib/\s.ib < 9/\0<=s.back/\s.back < 9 then s.ib+9*s.back+bN s.bold 81+bN s.under 162+bN s.dS 324 else 0
theorem LU (b:Bool) (n:Int):mv b n=some (bN b n):=by cases b <;> rfl
theorem Ff (s:bJ):jS s=some (decide (0<=s.ib/\s.ib < 9/\0<=s.back/\s.back < 9)):=by
 unfold jS
 by_cases a:0<=s.ib <;> by_cases b:s.ib < 9 <;> by_cases c:0<=s.back <;> by_cases d:s.back < 9 <;> simp [a,b,c,d,ge_iff_le]
theorem JF (s:bJ):q6 (tst s)=some (decide (0<=s.ib/\s.ib < 9/\0<=s.back/\s.back < 9)):=by
 unfold q6
 have e1:(s.ib<=8)=(s.ib < 9):=propext (by omega)
 have e2:(s.back<=8)=(s.back < 9):=propext (by omega)
 simp only [tst,e1,e2]
 by_cases a:0<=s.ib <;> by_cases b:s.ib < 9 <;> by_cases c:0<=s.back <;> by_cases d:s.back < 9 <;> simp [a,b,c,d,ge_iff_le]
theorem G4 (b:Bool) (n:Int) (h:0<=n):0<=bN b n/\bN b n<=n:=by cases b <;> simp [bN,h]
theorem G5 (s:bJ):jT s=some (lA s):=by
 unfold jT lA
 rw [Ff,aA]
 by_cases h:0<=s.ib/\s.ib < 9/\0<=s.back/\s.back < 9
 ·have h1:=G4 s.bold 81 (by omega)
  have h2:=G4 s.under 162 (by omega)
  have h3:=G4 s.dS 324 (by omega)
  rw [decide_eq_true h,if_pos h]
  simp only [Bool.not_true,cond_false,LU,aA]
  rw [w64 (x:=9*s.back) (by omega) (by omega),w64 (x:=s.ib+9*s.back) (by omega) (by omega),w64 (x:=s.ib+9*s.back+bN s.bold 81) (by omega) (by omega),w64 (x:=s.ib+9*s.back+bN s.bold 81+bN s.under 162) (by omega) (by omega),w64 (by omega) (by omega)]
 ·rw [decide_eq_false h,if_neg h]
  rfl
theorem AN (s:bJ):kG (tst s)=some (lA s):=by
 unfold kG lA
 rw [JF,aA]
 by_cases h:0<=s.ib/\s.ib < 9/\0<=s.back/\s.back < 9
 ·rw [decide_eq_true h,if_pos h]
  simp only [Bool.not_true,cond_false,tst]
  rw [w64 (x:=9*s.back) (by omega) (by omega),w64 (x:=s.ib+9*s.back) (by omega) (by omega)]
  cases s.bold <;> cases s.under <;> cases s.dS <;> simp only [cond_true,cond_false,aA,bN] <;> simp <;> (try simp only [IntKind.wrap_i64]) <;> (try omega)
 ·rw [decide_eq_false h,if_neg h]
  rfl
def vj (s:bJ) (n:Int):bJ:=if n=0 then ⟨0,0,false,false,false⟩ else if n=1\/n=22 then ⟨s.ib,s.back,n == 1,s.under,s.dS⟩ else if n=4\/n=24 then ⟨s.ib,s.back,s.bold,n == 4,s.dS⟩ else if n=7\/n=27 then ⟨s.ib,s.back,s.bold,s.under,n == 7⟩ else if 30<=n/\n < 38 then ⟨n - 29,s.back,s.bold,s.under,s.dS⟩ else if n=39 then ⟨0,s.back,s.bold,s.under,s.dS⟩ else if 40<=n/\n < 48 then ⟨s.ib,n - 39,s.bold,s.under,s.dS⟩ else if n=49 then ⟨s.ib,0,s.bold,s.under,s.dS⟩ else s
theorem eE {a b:Int} (h: ¬ a=b):(a == b)=false:=by simpa using h
theorem lR {a b:Int} (h:a=b):(a == b)=true:=by simpa using h
theorem tD (n a b:Int):((bif (n == a) then some true else some (n == b)):Option Bool)=some (decide (n=a\/n=b)):=by
 by_cases h:n=a
 ·simp [h]
 ·rw [eE h,cond_false]
  by_cases h2:n=b
  ·simp [h2]
  ·rw [eE h2,decide_eq_false (by omega)]
theorem JG (n a b:Int):((bif (decide (n>=a)) then some (decide (n < b)) else some false):Option Bool)=some (decide (a<=n/\n < b)):=zr (a<=n) (n < b)
theorem JH (n a b:Int):((bif (decide (n>=a)) then some (decide (n<=b)) else some false):Option Bool)=some (decide (a<=n/\n<=b)):=zr (a<=n) (n<=b)
theorem LV (s:bJ) (n:Int):jU s n=some (vj s n):=by
 unfold jU vj
 simp only [tD,JG,aA]
 by_cases h0:n=0
 ·simp [h0,k7]
 ·have b0:(n == 0)=false:=by simpa using h0
  rw [b0,cond_false,if_neg h0]
  by_cases h1:n=1\/n=22
  ·rw [decide_eq_true h1,if_pos h1]; rfl
  ·rw [decide_eq_false h1,cond_false,if_neg h1]
   by_cases h2:n=4\/n=24
   ·rw [decide_eq_true h2,if_pos h2]; rfl
   ·rw [decide_eq_false h2,cond_false,if_neg h2]
    by_cases h3:n=7\/n=27
    ·rw [decide_eq_true h3,if_pos h3]; rfl
    ·rw [decide_eq_false h3,cond_false,if_neg h3]
     by_cases h4:30<=n/\n < 38
     ·rw [decide_eq_true h4,cond_true,if_pos h4,w64 (x:=n - 30) (by omega) (by omega),w64 (by omega) (by omega),show n - 30+1=n - 29 by omega]; rfl
     ·rw [decide_eq_false h4,cond_false,if_neg h4]
      by_cases h5:n=39
      ·simp [h5]
      ·have b5:(n == 39)=false:=by simpa using h5
       rw [b5,cond_false,if_neg h5]
       by_cases h6:40<=n/\n < 48
       ·rw [decide_eq_true h6,cond_true,if_pos h6,w64 (x:=n - 40) (by omega) (by omega),w64 (by omega) (by omega),show n - 40+1=n - 39 by omega]; rfl
       ·rw [decide_eq_false h6,cond_false,if_neg h6]
        by_cases h7:n=49
        ·simp [h7]
        ·rw [eE h7,if_neg h7]; rfl
theorem JI (s:bJ) (n k:Int):((Option.bind ((bif (n == 0) then some (bR.mk 0 0 false false false) else some (tst s)):Option bR) λa=>(Option.bind ((bif (n == 1) then some true else some (n == 22)):Option Bool) λh=>(Option.bind ((bif h then some (bR.mk a.ib a.back (decide (n < 10)) a.under a.dS) else some a):Option bR) λb=>(Option.bind ((bif (n == 4) then some true else some (n == 24)):Option Bool) λi=>(Option.bind ((bif i then some (bR.mk b.ib b.back b.bold (decide (n < 10)) b.dS) else some b):Option bR) λc=>(Option.bind ((bif (n == 7) then some true else some (n == 27)):Option Bool) λj=>(Option.bind ((bif j then some (bR.mk c.ib c.back c.bold c.under (decide (n < 10))) else some c):Option bR) λd=>(Option.bind ((bif (decide (n>=30)) then some (decide (n<=37)) else some false):Option Bool) λl=>(Option.bind ((bif l then some (bR.mk (IntKind.i64.wrap (n - 29)) d.back d.bold d.under d.dS) else some d):Option bR) λe=>(Option.bind ((bif (n == 39) then some (bR.mk 0 e.back e.bold e.under e.dS) else some e):Option bR) λf=>(Option.bind ((bif (decide (n>=40)) then some (decide (n<=47)) else some false):Option Bool) λm=>(Option.bind ((bif m then some (bR.mk f.ib (IntKind.i64.wrap (n - 39)) f.bold f.under f.dS) else some f):Option bR) λg=>(bif (n == 49) then some (k,(bR.mk g.ib 0 g.bold g.under g.dS)) else some (k,g)))))))))))))):Option (Int×bR))=some (k,tst (vj s n)):=by
 simp only [tD,JH,aA]
 unfold vj
 by_cases h0:n=0
 ·subst h0; simp [tst,aA]
 ·have b0:(n == 0)=false:=by simpa using h0
  rw [b0,cond_false,if_neg h0,aA]
  by_cases h1:n=1\/n=22
  ·rcases h1 with rfl | rfl <;> simp [tst,aA]
  ·rw [decide_eq_false h1,cond_false,if_neg h1,aA]
   by_cases h2:n=4\/n=24
   ·rcases h2 with rfl | rfl <;> simp [tst,aA]
   ·rw [decide_eq_false h2,cond_false,if_neg h2,aA]
    by_cases h3:n=7\/n=27
    ·rcases h3 with rfl | rfl <;> simp [tst,aA]
    ·rw [decide_eq_false h3,cond_false,if_neg h3,aA]
     by_cases h4:30<=n/\n < 38
     ·have e4:decide (30<=n/\n<=37)=true:=decide_eq_true (by omega)
      have e5:(n == 39)=false:=by simp; omega
      have e6:decide (40<=n/\n<=47)=false:=decide_eq_false (by omega)
      have e7:(n == 49)=false:=by simp; omega
      rw [e4,e5,e6,e7,if_pos h4,w64 (x:=n - 29) (by omega) (by omega)]
      rfl
     ·have e4:decide (30<=n/\n<=37)=false:=decide_eq_false (by omega)
      rw [e4,if_neg h4,cond_false,aA]
      by_cases h5:n=39
      ·subst h5; simp [tst,aA]
      ·have b5:(n == 39)=false:=by simpa using h5
       rw [b5,cond_false,if_neg h5,aA]
       by_cases h6:40<=n/\n < 48
       ·have e6:decide (40<=n/\n<=47)=true:=decide_eq_true (by omega)
        have e7:(n == 49)=false:=by simp; omega
        rw [e6,e7,if_pos h6,w64 (x:=n - 39) (by omega) (by omega)]
        rfl
       ·have e6:decide (40<=n/\n<=47)=false:=decide_eq_false (by omega)
        rw [e6,if_neg h6,cond_false,aA]
        by_cases h7:n=49
        ·simp [h7,tst]
        ·rw [eE h7,if_neg h7]; rfl
def nU:List Int->Nat
 | 5::l=>min 2 (l.length+1)
 | 2::l=>min 4 (l.length+1)
 | _=>0
theorem G6 (l:List Int):nU l<=l.length:=by
 unfold nU
 split <;> simp <;> omega
theorem JJ (l:List Int):mI l=some (nU l:Int):=by
 unfold mI
 cases l with
 | nil=>rfl
 | cons a l =>
  have h0:decide (((a::l).length:Int) > 0)=true:=by simp
  have h1:idx (a::l) 0=some a:=Gh _
  simp only [h0,cond_true,h1,aA]
  by_cases h5:a=5
  ·subst h5
   simp only [beq_self_eq_true,cond_true,aA,nU,dN,List.length_cons]
   first | done | (congr 1; omega)
  ·have e5:(a == 5)=false:=by simpa using h5
   simp only [e5,cond_false,aA]
   by_cases h2:a=2
   ·subst h2
    simp only [beq_self_eq_true,cond_true,aA,nU,dN,List.length_cons]
    first | done | (congr 1; omega)
   ·have e2:(a == 2)=false:=by simpa using h2
    simp only [e2,cond_false]
    unfold nU
    split
    ·rename_i heq; injection heq with h; exact absurd h h5
    ·rename_i heq; injection heq with h; exact absurd h h2
    ·rfl
def tE (s:bJ) (l:List Int):bJ :=
 match l with
 | []=>s
 | n::l=>if n=38\/n=48 then tE s (l.drop (nU l)) else tE (vj s n) l
termination_by l.length
decreasing_by all_goals simp_wf <;> omega
theorem AO (s:bJ):tE s []=s:=by unfold tE; rfl
theorem yR (s:bJ) (n:Int) (l:List Int):tE s (n::l)=if n=38\/n=48 then tE s (l.drop (nU l)) else tE (vj s n) l:=by rw [tE]
def Fg (s:bJ) (l:List Int):bJ:=if l.length=0 then ⟨0,0,false,false,false⟩ else tE s l
theorem M5 (l:List Int):((l.length:Int) == 0)=decide (l.length=0):=by
 by_cases h:l.length=0
 ·simp [h]
 ·rw [decide_eq_false h,eE (by omega)]
theorem JK (s:bJ) (l:List Int) (hl:l.length<=1000000):jV s l=some (Fg s l):=by
 unfold jV Fg
 rw [M5]
 by_cases h0:l.length=0
 ·rw [decide_eq_true h0,if_pos h0]; rfl
 ·rw [decide_eq_false h0,if_neg h0,cond_false]
  refine rh (λx=>0<=x.2/\x.2<=l.length/\tE x.1 (l.drop x.2.toNat)=tE s l) (λx=>l.length - x.2.toNat) (λr=>r=tE s l) ⟨Int.le_refl 0,by dsimp only; omega,by simp⟩ ?_ ?_
  ·rintro ⟨q,i⟩ ⟨h1,h2,h3⟩
   dsimp only at h1 h2 h3 ⊢
   obtain ⟨i,rfl⟩:=Int.eq_ofNat_of_zero_le h1
   rw [Int.toNat_natCast] at h3
   by_cases hi:i < l.length
   ·left
    rw [decide_eq_true (by omega:(i:Int) < l.length),cond_true,dC _ _ hi,aA,tD,aA]
    rw [List.drop_eq_getElem_cons hi,yR] at h3
    by_cases hn:l[i]=38\/l[i]=48
    ·rw [if_pos hn] at h3
     have hsk:=G6 (l.drop (i+1))
     rw [List.length_drop] at hsk
     rw [decide_eq_true hn,cond_true,w64 (x:=(i:Int)+1) (by omega) (by omega),show (i:Int)+1=((i+1:Nat):Int) by omega,bQ (by omega) (by omega) (by omega),aA,qk,List.take_length,JJ,aA,aA]
     dsimp only
     refine ⟨_,rfl,⟨?_,?_,?_⟩,?_⟩
     ·dsimp only; rw [w64 (x:=(i:Int)+(nU (l.drop (i+1)):Int)) (by omega) (by omega),w64 (by omega) (by omega)]; omega
     ·dsimp only; rw [w64 (x:=(i:Int)+(nU (l.drop (i+1)):Int)) (by omega) (by omega),w64 (by omega) (by omega)]; omega
     ·dsimp only; rw [w64 (x:=(i:Int)+(nU (l.drop (i+1)):Int)) (by omega) (by omega),w64 (by omega) (by omega),<- h3,List.drop_drop]
      congr 2
      omega
     ·dsimp only; rw [w64 (x:=(i:Int)+(nU (l.drop (i+1)):Int)) (by omega) (by omega),w64 (by omega) (by omega)]; omega
    ·rw [if_neg hn] at h3
     rw [decide_eq_false hn,cond_false,aA,LV,aA,aA]
     dsimp only
     rw [w64 (x:=(i:Int)+1) (by omega) (by omega)]
     refine ⟨_,rfl,⟨by dsimp only; omega,by dsimp only; omega,?_⟩,by dsimp only; omega⟩
     dsimp only
     rw [show ((i:Int)+1).toNat=i+1 by omega,h3]
   ·right
    rw [decide_eq_false (by omega: ¬ (i:Int) < l.length),cond_false]
    rw [List.drop_eq_nil_of_le (by omega),AO] at h3
    exact ⟨q,rfl,h3⟩
  ·rintro r rfl
   rfl
theorem AP (l:List Int):(∃ r,l=5::r/\nU l=min 2 (r.length+1))\/(∃ r,l=2::r/\nU l=min 4 (r.length+1))\/(nU l=0/\(∀ a r,l=a::r->a≠5/\a≠2)):=by
 cases l with
 | nil=>exact .inr (.inr ⟨rfl,λa r h=>by cases h⟩)
 | cons a l =>
  by_cases h5:a=5
  ·subst h5; exact .inl ⟨l,rfl,rfl⟩
  ·by_cases h2:a=2
   ·subst h2; exact .inr (.inl ⟨l,rfl,rfl⟩)
   ·refine .inr (.inr ⟨?_,λb r h=>by injection h with h1 _; subst h1; exact ⟨h5,h2⟩⟩)
    unfold nU
    split
    ·rename_i heq; injection heq with h; exact absurd h h5
    ·rename_i heq; injection heq with h; exact absurd h h2
    ·rfl
theorem AQ (l:List Int) (k n:Nat) (h:l.length<=n):l.drop (min k n)=l.drop k:=by
 by_cases hk:k<=n
 ·rw [Nat.min_eq_left hk]
 ·rw [List.drop_eq_nil_of_le (by omega),List.drop_eq_nil_of_le (by omega)]
theorem G7 (s:bJ) (l:List Int) (hl:l.length<=1000000):q7 (tst s) l=some (tst (Fg s l)):=by
 unfold q7 Fg
 rw [M5]
 by_cases h0:l.length=0
 ·rw [decide_eq_true h0,if_pos h0]; rfl
 ·rw [decide_eq_false h0,if_neg h0,cond_false]
  refine rh (λx=> ∃ q,x.1=tst q/\0<=x.2.1/\x.2.1<=l.length/\0<=x.2.2/\x.2.2<=4/\tE q (l.drop (x.2.1.toNat+x.2.2.toNat))=tE s l) (λx=>l.length - x.2.1.toNat) (λr=>r=tst (tE s l)) ⟨s,rfl,Int.le_refl 0,by dsimp only; omega,Int.le_refl 0,by dsimp only; omega,by simp⟩ ?_ ?_
  ·rintro ⟨q',i,k⟩ ⟨q,e,h1,h2,h4,h5,h3⟩
   dsimp only at e h1 h2 h3 h4 h5 ⊢
   subst e
   obtain ⟨i,rfl⟩:=Int.eq_ofNat_of_zero_le h1
   obtain ⟨k,rfl⟩:=Int.eq_ofNat_of_zero_le h4
   rw [Int.toNat_natCast,Int.toNat_natCast] at h3
   by_cases hi:i < l.length
   ·left
    rw [decide_eq_true (by omega:(i:Int) < l.length),cond_true,dC _ _ hi,aA,w64 (x:=(i:Int)+1) (by omega) (by omega)]
    by_cases hk:0 < k
    ·rw [decide_eq_true (by omega:(k:Int) > 0),cond_true,aA,w64 (x:=(k:Int) - 1) (by omega) (by omega)]
     dsimp only
     refine ⟨_,rfl,⟨q,rfl,by dsimp only; omega,by dsimp only; omega,by dsimp only; omega,by dsimp only; omega,?_⟩,by dsimp only; omega⟩
     dsimp only
     rw [<- h3]
     congr 2
     omega
    ·obtain rfl:k=0:=by omega
     rw [Nat.add_zero,List.drop_eq_getElem_cons hi,yR] at h3
     rw [decide_eq_false (by omega: ¬ ((0:Nat):Int) > 0),cond_false,tD,aA]
     by_cases hn:l[i]=38\/l[i]=48
     ·rw [if_pos hn] at h3
      rw [decide_eq_true hn,cond_true,show (i:Int)+1=((i+1:Nat):Int) by omega]
      have hd:(l.drop (i+1)).length<=l.length:=by simp
      by_cases hi1:i+1 < l.length
      ·rw [decide_eq_true (by omega:((i+1:Nat):Int) < l.length)]
       simp only [cond_true,dC _ _ hi1,aA]
       have hc:=AP (l.drop (i+1))
       rw [List.drop_eq_getElem_cons hi1] at hc
       by_cases a5:l[i+1]=5
       ·rw [a5]
        simp only [beq_self_eq_true,cond_true,aA]
        refine ⟨_,rfl,⟨q,rfl,by dsimp only; omega,by dsimp only; omega,by dsimp only; decide,by dsimp only; decide,?_⟩,by dsimp only; omega⟩
        dsimp only
        rcases hc with ⟨r,e1,e2⟩ | ⟨r,e1,_⟩ | ⟨_,e1⟩
        ·injection e1 with _ er
         rw [<- h3,List.drop_eq_getElem_cons hi1,e2,<- er]
         rw [AQ _ _ _ (by simp; omega),<- List.drop_eq_getElem_cons hi1,List.drop_drop]
         congr 2
        ·injection e1 with er _
         omega
        ·exact absurd a5 (e1 _ _ rfl).1
       ·rw [eE a5]
        simp only [cond_false,aA]
        by_cases a2:l[i+1]=2
        ·rw [a2]
         simp only [beq_self_eq_true,cond_true,aA]
         refine ⟨_,rfl,⟨q,rfl,by dsimp only; omega,by dsimp only; omega,by dsimp only; decide,by dsimp only; decide,?_⟩,by dsimp only; omega⟩
         dsimp only
         rcases hc with ⟨r,e1,e2⟩ | ⟨r,e1,e2⟩ | ⟨_,e1⟩
         ·injection e1 with er _
          omega
         ·injection e1 with _ er
          rw [<- h3,List.drop_eq_getElem_cons hi1,e2,<- er]
          rw [AQ _ _ _ (by simp; omega),<- List.drop_eq_getElem_cons hi1,List.drop_drop]
          congr 2
         ·exact absurd a2 (e1 _ _ rfl).2
        ·rw [eE a2]
         simp only [cond_false,aA]
         refine ⟨_,rfl,⟨q,rfl,by dsimp only; omega,by dsimp only; omega,by dsimp only; omega,by dsimp only; omega,?_⟩,by dsimp only; omega⟩
         dsimp only
         rcases hc with ⟨r,e1,e2⟩ | ⟨r,e1,e2⟩ | ⟨e2,_⟩
         ·injection e1 with er _
          exact absurd er a5
         ·injection e1 with er _
          exact absurd er a2
         ·rw [<- h3,List.drop_eq_getElem_cons hi1,e2,<- List.drop_eq_getElem_cons hi1,List.drop_drop]
          congr 2
      ·rw [decide_eq_false (by omega: ¬ ((i+1:Nat):Int) < l.length)]
       simp only [cond_false,aA]
       rw [List.drop_eq_nil_of_le (i:=i+1) (by omega),List.drop_nil] at h3
       refine ⟨_,rfl,⟨q,rfl,by dsimp only; omega,by dsimp only; omega,by dsimp only; omega,by dsimp only; omega,?_⟩,by dsimp only; omega⟩
       dsimp only
       rw [List.drop_eq_nil_of_le (by omega)]
       exact h3
     ·rw [if_neg hn] at h3
      rw [decide_eq_false hn,cond_false]
      rw [JI,aA]
      dsimp only
      refine ⟨_,rfl,⟨_,rfl,by dsimp only; omega,by dsimp only; omega,by dsimp only; omega,by dsimp only; omega,?_⟩,by dsimp only; omega⟩
      dsimp only
      rw [show ((i:Int)+1).toNat+((0:Nat):Int).toNat=i+1 by omega,h3]
   ·right
    rw [decide_eq_false (by omega: ¬ (i:Int) < l.length),cond_false]
    rw [List.drop_eq_nil_of_le (by omega),AO] at h3
    exact ⟨_,rfl,by rw [h3]⟩
  ·rintro r rfl
   rfl
def aQ (s:aB):aR:=⟨ri s.g,s.spot.x,s.spot.y,tst s.spot.aO,s.saved.x,s.saved.y,tst s.saved.aO,s.waiting,s.top,s.aK,s.bB,s.title⟩
structure SJ (W:Nat) (s:aB):Prop where
 gw:s.g.w=W
 gi:GI W s.g.l
 x0:0<=s.spot.x
 x1:s.spot.x < W
 y0:0<=s.spot.y
 y1:s.spot.y < s.g.l.length
 t0:0<=s.top
 tb:s.top<=s.aK
 b1:s.aK < s.g.l.length
structure SI (W:Nat) (s:aB):Prop extends SJ W s where
 wt:s.waiting=true->s.spot.x=W - 1
theorem SJ.ge {W:Nat} {s:aB} (h:SJ W s):s.g=⟨W,s.g.l⟩:=by
 have:=h.gw
 cases hg:s.g
 rw [hg] at this
 simp at this
 rw [this]
def ur (W:Nat) (off:List aG):Prop:=off.length<=1000 /\ ∀ r∈off,gok W r
theorem oh (W:Nat):ur W []:=⟨by simp,λr hr=>by cases hr⟩
structure Sim (W:Nat) (p:Option (List aG×aB)) (q:Option (aR×List aX)) (off:List aG) (s':aB):Prop where
 p:p=some (off,s')
 q:q=some (aQ s',off.map told)
 i:SI W s'
 o:ur W off
theorem mV (s:aB):cC s=some (lA s.spot.aO):=by unfold cC; rw [G5]; rfl
theorem uu (s:aB):kG (aQ s).s=some (lA s.spot.aO):=AN _
theorem qn (g:aZ):dV g=some (g.w,(g.l.length:Int)):=rfl
def mvS (s:aB) (x y:Int):aB:=⟨s.g,⟨max 0 (min x (s.g.w - 1)),max 0 (min y ((s.g.l.length:Int) - 1)),s.spot.aO⟩,s.saved,false,s.top,s.aK,s.bB,s.title⟩
theorem nG (n lo hi:Int):gD n lo hi=some (max lo (min n hi)):=by
 unfold gD
 rw [gy,dN]
section
variable {W : Nat} {s : aB}
theorem xD (h:SJ W s):dX s=some (s.g.w - 1,(s.g.l.length:Int) - 1):=by
 have h1:=h.gi.w2
 have h2:=h.gi.l2
 have h3:=h.gw
 unfold dX
 rw [qn,aA]
 dsimp only
 rw [w64 (by omega) (by omega),w64 (by omega) (by omega)]
theorem kL (h:SJ W s) (x y:Int):bM s x y=some (mvS s x y):=by
 unfold bM
 rw [xD h,aA,nG,aA,nG,aA]
 rfl
theorem jb (h:SJ W s) (x y:Int):dI (aQ s) x y=some (aQ (mvS s x y)):=by
 have h1:=h.gi.w2
 have h2:=h.gi.l2
 have h3:=h.gw
 have e:((aQ s).g.l.length:Int)=s.g.l.length:=by simp [aQ,ri]
 unfold dI
 rw [e,show (aQ s).g.w=s.g.w from rfl,w64 (by omega) (by omega),w64 (by omega) (by omega),gy,gy,dN,dN]
 rfl
theorem nH (h:SJ W s) (x y:Int):SI W (mvS s x y):=by
 have h1:=h.gi.w1
 have h2:=h.gi.l1
 have h3:=h.gw
 exact ⟨⟨h3,h.gi,by simp only [mvS]; omega,by simp only [mvS]; omega,by simp only [mvS]; omega,by simp only [mvS]; omega,h.t0,h.tb,h.b1⟩,λe=>by cases e⟩
theorem SJ.get (h:SJ W s) {y:Int} (h0:0<=y) (h1:y < s.g.l.length):idx (aQ s).g.l y=some (told (kU s.g.l y))/\gok W (kU s.g.l y):=by
 obtain ⟨n,rfl⟩:=Int.eq_ofNat_of_zero_le h0
 have hn:n < s.g.l.length:=by omega
 rw [show (aQ s).g.l=s.g.l.map told from rfl,fL,List.getElem?_map,List.getElem?_eq_getElem hn]
 exact ⟨by rw [Dx hn]; rfl,by rw [Dx hn]; exact h.gi.rs _ (List.getElem_mem hn)⟩
theorem SJ.G8 (h:SJ W s) (y:Int):fF s.g y=some (kU s.g.l y):=by
 rw [h.ge]
 exact LD _ _ _ h.gi.len
def seS (W:Nat) (s:aB) (y:Int) (r:aG):aB:=⟨⟨W,sG W s.g.l y r⟩,s.spot,s.saved,s.waiting,s.top,s.aK,s.bB,s.title⟩
theorem DU (h:SJ W s) (y:Int) {r:aG} (hr:okR r.cells):SJ W (seS W s y r) :=
 ⟨rfl,GH h.gi y r hr,h.x0,h.x1,h.y0,by simp only [seS,ka]; exact h.y1,h.t0,h.tb,by simp only [seS,ka]; exact h.b1⟩
theorem SJ.G9 (h:SJ W s) (y:Int) {r:aG} (hr:r.cells.length<=1000000):eR s.g y r=some (inG s.g.l y,⟨W,sG W s.g.l y r⟩):=by
 rw [h.ge]
 exact Gu W h.gi.w2 _ _ _ hr
theorem SJ.M6 (h:SJ W s) (y:Int) {r:aG} (hr:r.cells.length<=1000000):nE (aQ s).g y (told r)=some (⟨W,(sG W s.g.l y r).map told⟩,inG s.g.l y):=by
 rw [show (aQ s).g=⟨W,s.g.l.map told⟩ by show ri s.g=_; rw [ri,h.gw]]
 exact I6 W h.gi.w2 _ _ _ hr (by have:=h.gi.l2; omega)
theorem rr (h:SJ W s) {r:aG} (hr:r.cells.length<=1000000):jZ (aQ s) (told r)=some (aQ (seS W s s.spot.y r)):=by
 unfold jZ
 rw [show (aQ s).y=s.spot.y from rfl,h.M6 _ hr,aA]
 rfl
def upS (W:Nat) (s:aB) (n:Int):aB:=⟨⟨W,upL W s.g.l s.top s.aK n (lA s.spot.aO)⟩,s.spot,s.saved,s.waiting,s.top,s.aK,s.bB,s.title⟩
def upF (s:aB) (n:Int):List aG:=if s.top > 0 then [] else upO s.g.l s.top s.aK n
theorem sq (W:Nat) (l:List aG) (t b n q:Int) (h1:1<=l.length):(upL W l t b n q).length=l.length:=by
 unfold upL
 split
 ·rfl
 ·rename_i h
  obtain ⟨e,e1,e2⟩:=pG l t b h h1
  have e3:l.length=(l.take (loS l t)).length+(rgB l t b).length+(l.drop (loS l b+1)).length:=by rw [<- List.length_append,<- List.length_append,<- e]
  rw [List.length_append,List.length_append,xn]
  omega
theorem vk (W:Nat) (l:List aG) (t b n q:Int) (h1:1<=l.length):(rm W l t b n q).length=l.length:=by
 unfold rm
 split
 ·rfl
 ·rename_i h
  obtain ⟨e,e1,e2⟩:=pG l t b h h1
  have e3:l.length=(l.take (loS l t)).length+(rgB l t b).length+(l.drop (loS l b+1)).length:=by rw [<- List.length_append,<- List.length_append,<- e]
  rw [List.length_append,List.length_append,tZ]
  omega
theorem KJ (h:SJ W s) (n:Int):SJ W (upS W s n) :=
 ⟨rfl,KG h.gi _ _ _ _,h.x0,h.x1,h.y0,by simp only [upS,sq _ _ _ _ _ _ h.gi.l1]; exact h.y1,h.t0,h.tb,by simp only [upS,sq _ _ _ _ _ _ h.gi.l1]; exact h.b1⟩
theorem Ha (h:SJ W s) (n:Int):ur W (upF s n):=by
 unfold upF
 split
 ·exact oh W
 ·exact ⟨Nat.le_trans (Jd _ _ _ _) h.gi.l2,λr hr=>h.gi.rs r (Jc hr)⟩
theorem Hb (h:SJ W s) (n:Int):hH s n=some (upF s n,upS W s n):=by
 unfold hH upF
 rw [mV,aA]
 have e:fU s.g s.top s.aK n (lA s.spot.aO)=some (upO s.g.l s.top s.aK n,⟨W,upL W s.g.l s.top s.aK n (lA s.spot.aO)⟩):=by
  rw [h.ge]; exact (zv h.gi _ _ _ _).1
 rw [e,aA]
 by_cases ht:s.top > 0
 ·rw [decide_eq_true ht,if_pos ht]; rfl
 ·rw [decide_eq_false ht,if_neg ht]; rfl
theorem xE (h:SJ W s):(aQ s).g=⟨W,s.g.l.map told⟩:=by show ri s.g=_; rw [ri,h.gw]
theorem yS (h:SJ W s) (n:Int):mP (aQ s) n=some (aQ (upS W s n),(upF s n).map told):=by
 unfold mP upF
 rw [uu,aA,xE h,show (aQ s).top=s.top from rfl,show (aQ s).aK=s.aK from rfl,(zv h.gi _ _ _ _).2,aA]
 by_cases ht:s.top > 0
 ·rw [decide_eq_true ht,if_pos ht]; rfl
 ·rw [decide_eq_false ht,if_neg ht]; rfl
def nwS (s:aB):aB:=⟨s.g,s.spot,s.saved,false,s.top,s.aK,s.bB,s.title⟩
theorem lP (h:SJ W s):SJ W (nwS s):=⟨h.gw,h.gi,h.x0,h.x1,h.y0,h.y1,h.t0,h.tb,h.b1⟩
def liS (W:Nat) (s:aB):aB:=if s.spot.y=s.aK then upS W (nwS s) 1 else mvS (nwS s) s.spot.x (s.spot.y+1)
def liF (s:aB):List aG:=if s.spot.y=s.aK then upF (nwS s) 1 else []
theorem g9 (h:SJ W s):Sim W (dE s) (ie (aQ s)) (liF s) (liS W s):=by
 have h1:=h.y1
 have h2:=h.gi.l2
 have h3:=h.y0
 by_cases hy:s.spot.y=s.aK
 ·refine ⟨?_,?_,?_,?_⟩
  ·unfold dE liF liS
   rw [lR hy,cond_true,if_pos hy,if_pos hy,<- nwS,Hb (lP h)]; rfl
  ·unfold ie liF liS
   rw [show ((aQ s).y == (aQ s).aK)=true from lR hy,cond_true,if_pos hy,if_pos hy]
   have e:=yS (lP h) 1
   rw [show (aR.mk (aQ s).g (aQ s).x (aQ s).y (aQ s).s (aQ s).sX (aQ s).sY (aQ s).sS false (aQ s).top (aQ s).aK (aQ s).bB (aQ s).title)=aQ (nwS s) from rfl,e]; rfl
  ·unfold liS; rw [if_pos hy]; exact ⟨KJ (lP h) 1,λe=>by cases e⟩
  ·unfold liF; rw [if_pos hy]; exact Ha (lP h) 1
 ·refine ⟨?_,?_,?_,?_⟩
  ·unfold dE liF liS
   rw [eE hy,cond_false,if_neg hy,if_neg hy,w64 (by omega) (by omega),<- nwS,kL (lP h)]; rfl
  ·unfold ie liF liS
   rw [show ((aQ s).y == (aQ s).aK)=false from eE hy,cond_false,if_neg hy,if_neg hy,show (aQ s).y=s.spot.y from rfl,w64 (by omega) (by omega)]
   rw [show (aR.mk (aQ s).g (aQ s).x s.spot.y (aQ s).s (aQ s).sX (aQ s).sY (aQ s).sS false (aQ s).top (aQ s).aK (aQ s).bB (aQ s).title)=aQ (nwS s) from rfl,show (aQ s).x=s.spot.x from rfl,jb (lP h)]; rfl
  ·unfold liS; rw [if_neg hy]; exact nH (lP h) _ _
  ·unfold liF; rw [if_neg hy]; exact oh W
end
section
variable {W : Nat} {s : aB}
theorem gok.le {W:Nat} {r:aG} (h:gok W r) (hW:W<=1000):r.cells.length<=1000:=by rw [h.1]; exact hW
theorem Hc {l:List aH} (h:okR l) (q:Int):okR (oT l q):=tW h _ (show rok 32 from ⟨by decide,by decide⟩)
theorem Fh (l:List aH) (q:Int):(oT l q).length=l.length:=by simp [oT]
def r1S (s:aB):aG:=⟨(kU s.g.l s.spot.y).cells,true⟩
def r2S (s:aB):aG:=⟨iO 0 (oT (kU s.g.l s.spot.y).cells (lA s.spot.aO)),true⟩
def r3S (s:aB) (r:Int):aG:=⟨iO 0 (u7 (kU s.g.l s.spot.y).cells s.spot.x r (lA s.spot.aO)),false⟩
theorem SJ.row (h:SJ W s):gok W (kU s.g.l s.spot.y):=(h.get h.y0 h.y1).2
theorem KK (h:SJ W s):gok W (r1S s):=⟨h.row.1,h.row.2⟩
theorem KL (h:SJ W s):gok W (r2S s):=⟨by simp only [r2S,kJ,Fh]; exact h.row.1,pF _ _ (Hc h.row.2 _)⟩
theorem M7 (h:SJ W s) {r:Int} (hr:rok r):gok W (r3S s r):=⟨by simp only [r3S,kJ,vL]; exact h.row.1,pF _ _ (IZ h.row.2 _ _ hr)⟩
theorem Hd (h:SJ W s):(r1S s).cells.length<=1000000:=by have:=(KK h).le h.gi.w2; omega
theorem He (h:SJ W s):(r2S s).cells.length<=1000000:=by have:=(KL h).le h.gi.w2; omega
theorem oV (h:SJ W s):(kU s.g.l s.spot.y).cells.length<=1000:=h.row.le h.gi.w2
theorem Hf (h:SJ W s) (r:Int):(r3S s r).cells.length<=1000000:=by have:=oV h; simp only [r3S,kJ,vL]; omega
theorem Hg (h:SJ W s):cX s=some (seS W s s.spot.y (r1S s)):=by
 unfold cX
 rw [h.G8,aA,show iL (kU s.g.l s.spot.y)=some (r1S s) from rfl,aA,h.G9 _ (Hd h),aA]
 rfl
theorem Hh (h:SJ W s):cY s=some (seS W s s.spot.y (r2S s)):=by
 unfold cY iM
 have hl:=oV h
 rw [h.G8,aA,mV,aA,fill_eq _ _ (by omega),aA,aA]
 rw [<- r2S,h.G9 _ (He h),aA]
 rfl
theorem SJ.xr (h:SJ W s): -9223372036854775808<=s.spot.x/\s.spot.x<=9223372036854775807:=by
 have h1:=h.x0
 have h2:=h.x1
 have h3:=h.gi.w2
 omega
theorem Hi (h:SJ W s) (r:Int):dH s r=some (seS W s s.spot.y (r3S s r)):=by
 unfold dH iN
 have hl:=oV h
 rw [h.G8,aA,mV,aA,put_eq _ _ _ _ (by omega) h.xr.1 h.xr.2,aA,aA]
 rw [<- r3S,h.G9 _ (Hf h r),aA]
 rfl
theorem LW (h:SJ W s):mN (told (kU s.g.l s.spot.y)) (lA s.spot.aO)=some (told (r2S s)):=by
 have hl:=oV h
 have:=Gn (kU s.g.l s.spot.y).cells (kU s.g.l s.spot.y).wrapped (lA s.spot.aO) (by omega)
 rw [told,this]
 rfl
theorem LX (h:SJ W s) {r:Int} (hr:rok r):oQ (told (kU s.g.l s.spot.y)) s.spot.x r (lA s.spot.aO)=some (told (r3S s r)):=by
 have hl:=oV h
 have:=IY (kU s.g.l s.spot.y).cells (kU s.g.l s.spot.y).wrapped s.spot.x r (lA s.spot.aO) (by omega) h.xr.1 h.xr.2 hr.1 hr.2
 rw [told,this]
 rfl
def xS (s:aB) (x:Int):aB:=⟨s.g,⟨x,s.spot.y,s.spot.aO⟩,s.saved,s.waiting,s.top,s.aK,s.bB,s.title⟩
theorem AR (h:SJ W s) {x:Int} (h0:0<=x) (h1:x < W):SJ W (xS s x):=⟨h.gw,h.gi,h0,h1,h.y0,h.y1,h.t0,h.tb,h.b1⟩
theorem w0 (h:SJ W s):(0:Int) < W:=by have:=h.gi.w1; omega
theorem AS (s:aB):(liS W s).spot.aO=s.spot.aO:=by unfold liS; split <;> rfl
theorem Ol (h:SJ W s) (hx:s.spot.x=0):(liS W s).spot.x=0:=by
 have h1:=h.gi.w1
 have h2:=h.gw
 unfold liS
 split
 ·exact hx
 ·simp only [mvS,nwS,hx]
  omega
def aS (W:Nat) (s:aB):aB:=if s.waiting=true/\s.bB=true then liS W (xS (seS W s s.spot.y (r1S s)) 0) else s
def aF (W:Nat) (s:aB):List aG:=if s.waiting=true/\s.bB=true then liF (xS (seS W s s.spot.y (r1S s)) 0) else []
theorem DV (h:SJ W s):SJ W (xS (seS W s s.spot.y (r1S s)) 0):=AR (DU h _ (KK h).2) (Int.le_refl 0) (w0 h)
theorem JL (h:SJ W s):SJ W (aS W s):=by
 unfold aS
 split
 ·exact (g9 (DV h)).i.toSJ
 ·exact h
theorem Hj (h:SJ W s):ur W (aF W s):=by
 unfold aF
 split
 ·exact (g9 (DV h)).o
 ·exact oh W
theorem JM (s:aB):(aS W s).spot.aO=s.spot.aO:=by
 unfold aS
 split
 ·rw [AS]; rfl
 ·rfl
def bS (W:Nat) (s:aB) (n:Int):aB:=if s.spot.x+n > W then (if s.bB=true then liS W (xS (seS W s s.spot.y (r2S s)) 0) else xS s (s.spot.x - 1)) else s
def bF (W:Nat) (s:aB) (n:Int):List aG:=if s.spot.x+n > W then (if s.bB=true then liF (xS (seS W s s.spot.y (r2S s)) 0) else []) else []
theorem AT (h:SJ W s):SJ W (xS (seS W s s.spot.y (r2S s)) 0):=AR (DU h _ (KL h).2) (Int.le_refl 0) (w0 h)
theorem LY (h:SJ W s) {n:Int} (hn:n=1\/n=2) (hw:n<=W):SJ W (bS W s n)/\(bS W s n).spot.x+n<=W/\(bS W s n).spot.aO=s.spot.aO:=by
 have h1:=h.x1
 unfold bS
 split
 ·rename_i hx
  split
  ·refine ⟨(g9 (AT h)).i.toSJ,?_,by rw [AS]; rfl⟩
   rw [Ol (AT h) rfl]
   omega
  ·refine ⟨AR h (by omega) (by omega),?_,rfl⟩
   simp only [xS]
   omega
 ·exact ⟨h,by omega,rfl⟩
theorem M8 (h:SJ W s) (n:Int):ur W (bF W s n):=by
 unfold bF
 split
 ·split
  ·exact (g9 (AT h)).o
  ·exact oh W
 ·exact oh W
def cS (W:Nat) (s:aB) (r n:Int):aB:=⟨⟨W,sG W s.g.l s.spot.y (r3S s r)⟩,⟨min (s.spot.x+n) (W - 1),s.spot.y,s.spot.aO⟩,s.saved,s.spot.x+n == W,s.top,s.aK,s.bB,s.title⟩
def prS (W:Nat) (s:aB) (r:Int):aB:=if ofS r=0\/ofS r > W then s else cS W (bS W (aS W s) (ofS r)) r (ofS r)
def prF (W:Nat) (s:aB) (r:Int):List aG:=if ofS r=0\/ofS r > W then [] else aF W s++bF W (aS W s) (ofS r)
theorem zG {a b:Nat} (ha:a<=1000000) (hb:b<=1000000):chk (eY a b 32)=some ():=bP (by omega)
theorem ur.l {off:List aG} (h:ur W off):off.length<=1000000:=by have:=h.1; omega
theorem Om (h:SJ W s) {n r:Int} (hn:n=1\/n=2) (hx:s.spot.x+n<=W) (hr:rok r):SI W (cS W s r n):=by
 have h1:=h.x0
 have h2:=h.gi.w1
 refine ⟨⟨rfl,GH h.gi _ _ (M7 h hr).2,?_,?_,h.y0,?_,h.t0,h.tb,?_⟩,?_⟩
 ·simp only [cS]; omega
 ·simp only [cS]; omega
 ·simp only [cS,ka]; exact h.y1
 ·simp only [cS,ka]; exact h.b1
 ·intro e
  simp only [cS,beq_iff_eq] at e ⊢
  omega
theorem JN (h:SJ W s) (r:Int):gU s r=some (prF W s r,prS W s r):=by
 have hw2:=h.gi.w2
 unfold gU prF prS
 rw [of_eq,aA,qn,aA,h.gw]
 dsimp only
 have e0:((bif (ofS r == 0) then some true else some (decide (ofS r > (W:Int)))):Option Bool)=some (decide (ofS r=0\/ofS r > W)):=by
  by_cases h1:ofS r=0
  ·rw [lR h1,cond_true,decide_eq_true (.inl h1)]
  ·rw [eE h1,cond_false]
   congr 1
   exact decide_eq_decide.2 ⟨.inr,λh=>h.resolve_left h1⟩
 rw [e0,aA]
 by_cases hc:ofS r=0\/ofS r > W
 ·rw [decide_eq_true hc,cond_true,if_pos hc,if_pos hc]
 ·rw [decide_eq_false hc,cond_false,if_neg hc,if_neg hc]
  have hn:ofS r=1\/ofS r=2:=by rcases pD r with h | h | h <;> omega
  generalize hnn:ofS r=n at hc hn ⊢
  have ea:((bif s.waiting then some s.bB else some false):Option Bool)=some (decide (s.waiting=true/\s.bB=true)):=by cases s.waiting <;> cases s.bB <;> rfl
  rw [ea,aA]
  have eA:((bif decide (s.waiting=true/\s.bB=true) then (Option.bind (cX s) λa=>(Option.bind (dE (aB.mk a.g (eD.mk 0 a.spot.y a.spot.aO) a.saved a.waiting a.top a.aK a.bB a.title)) λc=>(Option.bind (chk (eY ([]:List aG).length c.1.length 32)) λ_=>some ((([]:List aG)++c.1),c.2.g,c.2)))) else some ([],s.g,s)):Option ((List aG)×aZ×aB))=some (aF W s,(aS W s).g,aS W s):=by
   unfold aF aS
   by_cases hb:s.waiting=true/\s.bB=true
   ·rw [decide_eq_true hb,cond_true,if_pos hb,if_pos hb,Hg h,aA]
    have e1:=g9 (DV h)
    rw [show (aB.mk (seS W s s.spot.y (r1S s)).g (eD.mk 0 (seS W s s.spot.y (r1S s)).spot.y (seS W s s.spot.y (r1S s)).spot.aO) (seS W s s.spot.y (r1S s)).saved (seS W s s.spot.y (r1S s)).waiting (seS W s s.spot.y (r1S s)).top (seS W s s.spot.y (r1S s)).aK (seS W s s.spot.y (r1S s)).bB (seS W s s.spot.y (r1S s)).title)=xS (seS W s s.spot.y (r1S s)) 0 from rfl,e1.p,aA]
    dsimp only
    rw [zG (by simp) e1.o.l,aA,List.nil_append]
   ·rw [decide_eq_false hb,cond_false,if_neg hb,if_neg hb]
  rw [eA,aA]
  dsimp only
  have hA:=JL h
  have hAx:=hA.x1
  have hA0:=hA.x0
  have hFo:=(Hj h).l
  generalize hs1:aS W s=s1 at *
  generalize aF W s=o1 at *
  rw [w64 (x:=s1.spot.x+n) (by omega) (by omega)]
  have hB:=LY hA hn (by omega:n<=W)
  have eB: ∀ g:aZ,g=s1.g->((bif (decide (s1.spot.x+n > (W:Int))) then (bif s1.bB then (Option.bind (cY (aB.mk g s1.spot s1.saved s1.waiting s1.top s1.aK s1.bB s1.title)) λb=>(Option.bind (dE (aB.mk b.g (eD.mk 0 b.spot.y b.spot.aO) b.saved b.waiting b.top b.aK b.bB b.title)) λd=>(Option.bind (chk (eY o1.length d.1.length 32)) λ_=>some ((o1++d.1),d.2.g,d.2)))) else some (o1,g,(aB.mk g (eD.mk (IntKind.i64.wrap (s1.spot.x - 1)) s1.spot.y s1.spot.aO) s1.saved s1.waiting s1.top s1.aK s1.bB s1.title))) else some (o1,g,(aB.mk g s1.spot s1.saved s1.waiting s1.top s1.aK s1.bB s1.title))):Option ((List aG)×aZ×aB))=some (o1++bF W s1 n,(bS W s1 n).g,bS W s1 n):=by
   rintro g rfl
   unfold bF bS
   by_cases hx:s1.spot.x+n > W
   ·rw [decide_eq_true hx,cond_true,if_pos hx,if_pos hx]
    cases hwr:s1.bB with
    | true =>
     rw [cond_true,if_pos rfl,if_pos rfl]
     have e2:(aB.mk s1.g s1.spot s1.saved s1.waiting s1.top s1.aK true s1.title)=s1:=by rw [<- hwr]
     rw [e2,Hh hA,aA]
     have e1:=g9 (AT hA)
     rw [show (aB.mk (seS W s1 s1.spot.y (r2S s1)).g (eD.mk 0 (seS W s1 s1.spot.y (r2S s1)).spot.y (seS W s1 s1.spot.y (r2S s1)).spot.aO) (seS W s1 s1.spot.y (r2S s1)).saved (seS W s1 s1.spot.y (r2S s1)).waiting (seS W s1 s1.spot.y (r2S s1)).top (seS W s1 s1.spot.y (r2S s1)).aK (seS W s1 s1.spot.y (r2S s1)).bB (seS W s1 s1.spot.y (r2S s1)).title)=xS (seS W s1 s1.spot.y (r2S s1)) 0 from rfl,e1.p,aA]
     dsimp only
     rw [zG hFo e1.o.l,aA]
    | false =>
     rw [cond_false,if_neg (by simp),if_neg (by simp),w64 (by omega) (by omega),List.append_nil]
     simp only [xS,hwr]
   ·rw [decide_eq_false hx,cond_false,if_neg hx,if_neg hx,List.append_nil]
  rw [eB _ rfl,aA]
  dsimp only
  obtain ⟨hB1,hB2,hB3⟩:=hB
  have hBx:=hB1.x0
  generalize bS W s1 n=s2 at *
  generalize o1++bF W s1 n=o2
  rw [show (aB.mk s2.g s2.spot s2.saved s2.waiting s2.top s2.aK s2.bB s2.title)=s2 from rfl,Hi hB1,aA]
  unfold cS
  simp only [seS]
  rw [w64 (by omega) (by omega),w64 (by omega) (by omega),dN]
end
section
variable {W : Nat} {s : aB}
theorem SJ.JO (h:SJ W s):idx (aQ s).g.l (aQ s).y=some (told (kU s.g.l s.spot.y)):=(h.get h.y0 h.y1).1
theorem LZ (h:SJ W s) {r:Int} (hr:rok r):qf (aQ s) r=some (aQ (prS W s r),(prF W s r).map told):=by
 have hw2:=h.gi.w2
 unfold qf prF prS
 rw [Gp r hr.1 hr.2,aA,show (aQ s).g.w=(W:Int) from h.gw]
 have e0:((bif (ofS r == 0) then some true else some (decide (ofS r > (W:Int)))):Option Bool)=some (decide (ofS r=0\/ofS r > W)):=by
  by_cases h1:ofS r=0
  ·rw [lR h1,cond_true,decide_eq_true (.inl h1)]
  ·rw [eE h1,cond_false]
   congr 1
   exact decide_eq_decide.2 ⟨.inr,λh=>h.resolve_left h1⟩
 rw [e0,aA]
 by_cases hc:ofS r=0\/ofS r > W
 ·rw [decide_eq_true hc,cond_true,if_pos hc,if_pos hc]; rfl
 ·rw [decide_eq_false hc,cond_false,if_neg hc,if_neg hc,uu,aA]
  have hn:ofS r=1\/ofS r=2:=by rcases pD r with h | h | h <;> omega
  generalize hnn:ofS r=n at hc hn ⊢
  have ea:((bif (aQ s).waiting then some (aQ s).bB else some false):Option Bool)=some (decide (s.waiting=true/\s.bB=true)):=by
   show ((bif s.waiting then some s.bB else some false):Option Bool)=_
   cases s.waiting <;> cases s.bB <;> rfl
  rw [ea,aA]
  have eA:((bif decide (s.waiting=true/\s.bB=true) then (Option.bind (idx (aQ s).g.l (aQ s).y) λe=>(Option.bind (jZ (aQ s) (aX.mk e.l true)) λa=>(Option.bind (ie (aR.mk a.g 0 a.y a.s a.sX a.sY a.sS a.waiting a.top a.aK a.bB a.title)) λc=>(Option.bind (chk (eY ([]:List aX).length c.2.length 32)) λ_=>some ((([]:List aX)++c.2),c.1))))) else some (([]:List aX),aQ s)):Option ((List aX)×aR))=some ((aF W s).map told,aQ (aS W s)):=by
   unfold aF aS
   by_cases hb:s.waiting=true/\s.bB=true
   ·rw [decide_eq_true hb,cond_true,if_pos hb,if_pos hb,h.JO,aA]
    rw [show (aX.mk (told (kU s.g.l s.spot.y)).l true)=told (r1S s) from rfl,rr h (Hd h),aA]
    have e1:=g9 (DV h)
    have e2:=e1.q
    rw [show aQ (xS (seS W s s.spot.y (r1S s)) 0)=(aR.mk (aQ (seS W s s.spot.y (r1S s))).g 0 (aQ (seS W s s.spot.y (r1S s))).y (aQ (seS W s s.spot.y (r1S s))).s (aQ (seS W s s.spot.y (r1S s))).sX (aQ (seS W s s.spot.y (r1S s))).sY (aQ (seS W s s.spot.y (r1S s))).sS (aQ (seS W s s.spot.y (r1S s))).waiting (aQ (seS W s s.spot.y (r1S s))).top (aQ (seS W s s.spot.y (r1S s))).aK (aQ (seS W s s.spot.y (r1S s))).bB (aQ (seS W s s.spot.y (r1S s))).title) from rfl] at e2
    rw [e2,aA]
    dsimp only
    rw [zG (by simp) (by rw [List.length_map]; exact e1.o.l),aA,List.nil_append]
   ·rw [decide_eq_false hb,cond_false,if_neg hb,if_neg hb]; rfl
  rw [eA,aA]
  dsimp only
  have hA:=JL h
  have hst:(aS W s).spot.aO=s.spot.aO:=JM s
  have hAx:=hA.x1
  have hA0:=hA.x0
  have hFo:=(Hj h).l
  generalize hs1:aS W s=s1 at *
  generalize aF W s=o1 at *
  have hB:=LY hA hn (by omega:n<=W)
  have eb:((bif (n == 2) then some ((aQ s1).x == (IntKind.i64.wrap ((aQ s1).g.w - 1))) else some false):Option Bool)=some (decide (s1.spot.x+n > W)):=by
   rw [show (aQ s1).g.w=(W:Int) from hA.gw,show (aQ s1).x=s1.spot.x from rfl,w64 (by omega) (by omega)]
   by_cases h2:n=2
   ·rw [lR h2,cond_true]
    by_cases hx:s1.spot.x=(W:Int) - 1
    ·rw [lR hx,decide_eq_true (by omega)]
    ·rw [eE hx,decide_eq_false (by omega)]
   ·rw [eE h2,cond_false,decide_eq_false (by omega)]
  rw [eb,aA]
  have eB:((bif decide (s1.spot.x+n > (W:Int)) then (bif (aQ s1).bB then (Option.bind (idx (aQ s1).g.l (aQ s1).y) λf=>(Option.bind (mN f (lA s.spot.aO)) λi=>(Option.bind (jZ (aQ s1) i) λb=>(Option.bind (ie (aR.mk b.g 0 b.y b.s b.sX b.sY b.sS b.waiting b.top b.aK b.bB b.title)) λd=>(Option.bind (chk (eY (o1.map told).length d.2.length 32)) λ_=>some ((o1.map told++d.2),d.1)))))) else some (o1.map told,(aR.mk (aQ s1).g (IntKind.i64.wrap ((aQ s1).x - 1)) (aQ s1).y (aQ s1).s (aQ s1).sX (aQ s1).sY (aQ s1).sS (aQ s1).waiting (aQ s1).top (aQ s1).aK (aQ s1).bB (aQ s1).title))) else some (o1.map told,aQ s1)):Option ((List aX)×aR))=some ((o1++bF W s1 n).map told,aQ (bS W s1 n)):=by
   unfold bF bS
   by_cases hx:s1.spot.x+n > W
   ·rw [decide_eq_true hx,cond_true,if_pos hx,if_pos hx,show (aQ s1).bB=s1.bB from rfl]
    cases hwr:s1.bB with
    | true =>
     rw [cond_true,if_pos rfl,if_pos rfl,hA.JO,aA,<- hst,LW hA,aA,rr hA (He hA),aA]
     have e1:=g9 (AT hA)
     have e2:=e1.q
     rw [show aQ (xS (seS W s1 s1.spot.y (r2S s1)) 0)=(aR.mk (aQ (seS W s1 s1.spot.y (r2S s1))).g 0 (aQ (seS W s1 s1.spot.y (r2S s1))).y (aQ (seS W s1 s1.spot.y (r2S s1))).s (aQ (seS W s1 s1.spot.y (r2S s1))).sX (aQ (seS W s1 s1.spot.y (r2S s1))).sY (aQ (seS W s1 s1.spot.y (r2S s1))).sS (aQ (seS W s1 s1.spot.y (r2S s1))).waiting (aQ (seS W s1 s1.spot.y (r2S s1))).top (aQ (seS W s1 s1.spot.y (r2S s1))).aK (aQ (seS W s1 s1.spot.y (r2S s1))).bB (aQ (seS W s1 s1.spot.y (r2S s1))).title) from rfl] at e2
     rw [e2,aA]
     dsimp only
     rw [zG (by rw [List.length_map]; exact hFo) (by rw [List.length_map]; exact e1.o.l),aA,List.map_append]
    | false =>
     rw [cond_false,if_neg (by simp),if_neg (by simp),show (aQ s1).x=s1.spot.x from rfl,w64 (by omega) (by omega),List.append_nil]
     simp only [xS,hwr,aQ]
   ·rw [decide_eq_false hx,cond_false,if_neg hx,if_neg hx,List.append_nil]
  rw [eB,aA]
  dsimp only
  obtain ⟨hB1,hB2,hB3⟩:=hB
  have hBx:=hB1.x0
  have hst2:(bS W s1 n).spot.aO=s.spot.aO:=by rw [hB3,hst]
  generalize bS W s1 n=s2 at *
  generalize o1++bF W s1 n=o2
  rw [hB1.JO,aA,show (aQ s2).x=s2.spot.x from rfl,<- hst2,LX hB1 hr,aA,rr hB1 (Hf hB1 r),aA]
  rw [show (aQ (seS W s2 s2.spot.y (r3S s2 r))).x=s2.spot.x from rfl,show (aQ (seS W s2 s2.spot.y (r3S s2 r))).g.w=(W:Int) from rfl,w64 (by omega) (by omega),w64 (by omega) (by omega)]
  unfold cS
  by_cases hx:s2.spot.x+n=W
  ·rw [lR hx,cond_true,aA,show min (s2.spot.x+n) ((W:Int) - 1)=s2.spot.x+n - 1 by omega]; rfl
  ·rw [eE hx,cond_false,aA,show min (s2.spot.x+n) ((W:Int) - 1)=s2.spot.x+n by omega]; rfl
theorem M9 (h:SI W s) {r:Int} (hr:rok r):SI W (prS W s r):=by
 unfold prS
 split
 ·exact h
 ·rename_i hc
  have hn:ofS r=1\/ofS r=2:=by rcases pD r with h | h | h <;> omega
  have hB:=LY (JL h.toSJ) hn (by omega)
  exact Om hB.1 hn hB.2.1 hr
theorem L0 (h:SJ W s) {r:Int}:(prF W s r).length<=2000 /\ ∀ q∈prF W s r,gok W q:=by
 unfold prF
 split
 ·exact ⟨by simp,λr hr=>by cases hr⟩
 ·have h1:=Hj h
  have h2:=M8 (JL h) (ofS r)
  refine ⟨by rw [List.length_append]; have:=h1.1; have:=h2.1; omega,λq hq=> ?_⟩
  rcases List.mem_append.1 hq with hq | hq
  ·exact h1.2 q hq
  ·exact h2.2 q hq
end
def atS (l:List Int) (i:Nat) (d:Int):Int:=match l[i]? with
 | some n=>if n<=0 then d else min n 9999
 | none=>d
theorem yT (a:bC) (i:Nat) (d:Int):eO a (i:Int) d=some (atS a.aW i d):=by
 unfold eO atS
 by_cases hi:i < a.aW.length
 ·rw [decide_eq_false (by omega: ¬ (i:Int)>=(a.aW.length:Int)),cond_false]
  simp only [dC _ _ hi,aA,List.getElem?_eq_getElem hi]
  by_cases h:a.aW[i]<=0
  ·rw [decide_eq_true h,cond_true,if_pos h]
  ·rw [decide_eq_false h,cond_false,if_neg h,dN]
 ·rw [decide_eq_true (by omega:(i:Int)>=(a.aW.length:Int)),cond_true,aA,cond_true,List.getElem?_eq_none (by omega)]
theorem pN (l:List Int) (i:Nat) (d:Int):fC l (i:Int) d=some (atS l i d):=by
 unfold fC atS
 by_cases hi:i < l.length
 ·rw [decide_eq_true (by omega:(i:Int) < (l.length:Int)),cond_true]
  simp only [dC _ _ hi,aA,List.getElem?_eq_getElem hi]
  by_cases h:l[i]<=0
  ·rw [decide_eq_false (by omega),cond_false,if_pos h]
  ·rw [decide_eq_true (by omega),cond_true,if_neg h,dN]
 ·rw [decide_eq_false (by omega: ¬ (i:Int) < (l.length:Int)),cond_false,aA,cond_false,List.getElem?_eq_none (by omega)]
theorem vl (l:List Int) (i:Nat) {d:Int} (h0:0<=d) (h1:d<=9999):0<=atS l i d/\atS l i d<=9999/\(1<=d->1<=atS l i d):=by
 unfold atS
 split
 ·split <;> omega
 ·omega
section
variable {W : Nat} {s : aB}
def dnS (W:Nat) (s:aB) (t b n:Int):aB:=⟨⟨W,rm W s.g.l t b n (lA s.spot.aO)⟩,s.spot,s.saved,s.waiting,s.top,s.aK,s.bB,s.title⟩
def upT (W:Nat) (s:aB) (t b n:Int):aB:=⟨⟨W,upL W s.g.l t b n (lA s.spot.aO)⟩,s.spot,s.saved,s.waiting,s.top,s.aK,s.bB,s.title⟩
theorem AU (h:SJ W s) (t b n:Int):SJ W (dnS W s t b n) :=
 ⟨rfl,Jb h.gi _ _ _ _,h.x0,h.x1,h.y0,by simp only [dnS,vk _ _ _ _ _ _ h.gi.l1]; exact h.y1,h.t0,h.tb,by simp only [dnS,vk _ _ _ _ _ _ h.gi.l1]; exact h.b1⟩
theorem Cp (h:SJ W s) (t b n:Int):SJ W (upT W s t b n) :=
 ⟨rfl,KG h.gi _ _ _ _,h.x0,h.x1,h.y0,by simp only [upT,sq _ _ _ _ _ _ h.gi.l1]; exact h.y1,h.t0,h.tb,by simp only [upT,sq _ _ _ _ _ _ h.gi.l1]; exact h.b1⟩
theorem xF (h:SJ W s) (t b n:Int):eK s.g t b n (lA s.spot.aO)=some (sT s.g.l t b n,(dnS W s t b n).g):=by
 rw [h.ge]; exact (Ap h.gi _ _ _ _).1
theorem xG (h:SJ W s) (t b n:Int):eI (aQ s).g false t b n (lA s.spot.aO)=some ((aQ (dnS W s t b n)).g,(sT s.g.l t b n).map told):=by
 rw [xE h]; exact (Ap h.gi _ _ _ _).2
theorem L1 (h:SJ W s) (t b n:Int):fU s.g t b n (lA s.spot.aO)=some (upO s.g.l t b n,(upT W s t b n).g):=by
 rw [h.ge]; exact (zv h.gi _ _ _ _).1
theorem JP (h:SJ W s) (t b n:Int):eI (aQ s).g true t b n (lA s.spot.aO)=some ((aQ (upT W s t b n)).g,(upO s.g.l t b n).map told):=by
 rw [xE h]; exact (zv h.gi _ _ _ _).2
def baS (W:Nat) (s:aB):aB:=if s.spot.y=s.top then dnS W (nwS s) s.top s.aK 1 else mvS (nwS s) s.spot.x (s.spot.y - 1)
theorem Na (h:SJ W s):SI W (baS W s):=by
 unfold baS
 split
 ·exact ⟨AU (lP h) _ _ _,λe=>by cases e⟩
 ·exact nH (lP h) _ _
theorem yr (h:SJ W s):0<=s.spot.y/\s.spot.y < 1000/\0<=s.spot.x/\s.spot.x < 1000:=by
 have h1:=h.gi.w2
 have h2:=h.gi.l2
 have h3:=h.y1
 have h4:=h.x1
 have h5:=h.y0
 have h6:=h.x0
 omega
theorem back_eq (h:SJ W s):iA s=some (baS W s):=by
 have hy:=yr h
 unfold iA baS
 rw [<- nwS]
 by_cases c:s.spot.y=s.top
 ·rw [lR c,cond_true,if_pos c,mV,aA]
  have e:=xF (lP h) s.top s.aK 1
  rw [show (nwS s).g=s.g from rfl] at e
  rw [e,aA]
  rfl
 ·rw [eE c,cond_false,if_neg c,w64 (by omega) (by omega),kL (lP h),aA]
theorem Cq (h:SJ W s):((aQ s).g.l.length:Int)=s.g.l.length:=by simp [aQ,ri]
def clS (s:aB) (n:Int):aB:=mvS s s.spot.x (max (if s.spot.y>=s.top/\n < 0 then s.top else 0) (min (s.spot.y+n) (if s.spot.y<=s.aK/\n > 0 then s.aK else (s.g.l.length:Int) - 1)))
theorem wE {α:Type} (p:Prop) [Decidable p] (x y:α):((bif decide p then some x else some y):Option α)=some (if p then x else y):=by
 by_cases h:p <;> simp [h]
theorem Hk (h:SJ W s) {n:Int} (h0: -9999<=n) (h1:n<=9999):fP s n=some (clS s n):=by
 have hy:=yr h
 unfold fP clS
 rw [xD h,aA]
 rw [show ((bif (decide (s.spot.y>=s.top)) then some (decide (n < 0)) else some false):Option Bool)=_ from zr _ _,aA,wE,aA]
 rw [show ((bif (decide (s.spot.y<=s.aK)) then some (decide (n > 0)) else some false):Option Bool)=_ from zr _ _,aA]
 dsimp only
 rw [wE,aA,w64 (by omega) (by omega),nG,aA,kL h,aA]
def erR (s:aB) (y a b:Int):aG:=⟨iO 0 (kK a b (lA s.spot.aO) 0 (kU s.g.l y).cells),false⟩
def erS (W:Nat) (s:aB) (y a b:Int):aB:=seS W s y (erR s y a b)
theorem Cr (h:SJ W s) {y:Int} (h0:0<=y) (h1:y < s.g.l.length) (a b:Int):gok W (erR s y a b):=by
 have hg:=(h.get h0 h1).2
 exact ⟨by simp only [erR,kJ,l4]; exact hg.1,pF _ _ (va _ _ _ _ hg.2)⟩
theorem KM (h:SJ W s) {y:Int} (h0:0<=y) (h1:y < s.g.l.length) (a b:Int):SJ W (erS W s y a b):=DU h _ (Cr h h0 h1 a b).2
theorem sr (h:SJ W s) {y:Int} (h0:0<=y) (h1:y < s.g.l.length) (a b:Int):eH s y a b=some (erS W s y a b):=by
 have hg:=(h.get h0 h1).2.le h.gi.w2
 have hr:=(Cr h h0 h1 a b).le h.gi.w2
 unfold eH
 rw [h.G8,aA,mV,aA,erase_eq _ _ _ _ (by omega),aA,<- erR,h.G9 _ (by omega),aA]
 rfl
theorem tF (h:SJ W s) {y:Int} (h0:0<=y) (h1:y < s.g.l.length) (a b:Int):k5 (aQ s) y a b=some (aQ (erS W s y a b)):=by
 have hg:=(h.get h0 h1).2.le h.gi.w2
 have hr:=(Cr h h0 h1 a b).le h.gi.w2
 unfold k5
 have e:nm (told (kU s.g.l y)) a b (lA s.spot.aO)=some (told (erR s y a b)):=by
  rw [told,EY (kU s.g.l y).cells (kU s.g.l y).wrapped a b _ (by omega)]; rfl
 rw [(h.get h0 h1).1,aA,uu,aA,e,aA,h.M6 _ (by omega),aA]
 rfl
def paA (s:aB) (n:Int):Int:=if n=0 then s.spot.x else 0
def paB (W:Nat) (s:aB) (n:Int):Int:=if n=1 then s.spot.x+1 else W
def paS (W:Nat) (s:aB) (n:Int):aB:=if n > 2 then s else nwS (erS W s s.spot.y (paA s n) (paB W s n))
theorem DW (h:SJ W s) {n:Int} (hn:0<=n):gj s n=some (paS W s n):=by
 have hy:=yr h
 unfold gj paS paA paB
 rw [qn,aA,h.gw]
 dsimp only
 rw [w64 (x:=s.spot.x+1) (by omega) (by omega)]
 have e: ∀ t:aB,((bif t.waiting then some (aB.mk t.g t.spot t.saved false t.top t.aK t.bB t.title) else some (aB.mk t.g t.spot t.saved false t.top t.aK t.bB t.title)):Option aB)=some (nwS t):=λt=>by cases t.waiting <;> rfl
 by_cases h0:n=0
 ·subst h0
  rw [lR rfl,cond_true,sr h h.y0 h.y1,aA,aA]
  exact e _
 ·rw [eE h0,cond_false]
  by_cases h1:n=1
  ·subst h1
   rw [lR rfl,cond_true,sr h h.y0 h.y1,aA,aA]
   exact e _
  ·rw [eE h1,cond_false]
   by_cases h2:n=2
   ·subst h2
    rw [lR rfl,cond_true,sr h h.y0 h.y1,aA,aA]
    exact e _
   ·rw [eE h2,cond_false,aA,if_pos (by omega:n > 2),decide_eq_true (by omega:n > 2)]
    dsimp only
    cases hw:s.waiting with
    | true=>rw [cond_true,<- hw]
    | false=>rw [cond_false,<- hw]
theorem Nb (h:SI W s) {n:Int}:SI W (paS W s n):=by
 unfold paS
 split
 ·exact h
 ·exact ⟨lP (KM h.toSJ h.y0 h.y1 _ _),λe=>by cases e⟩
def wpc (s:aB) (n:Int) (k:Nat):Bool:=decide ((k:Int) < s.spot.y/\n≠0/\n<=2\/(k:Int) > s.spot.y/\n≠1/\n<=2)
def wpS (W:Nat) (s:aB) (n:Int):Nat->aB
 | 0=>s
 | k+1=>if wpc s n k then erS W (wpS W s n k) k 0 W else wpS W s n k
theorem uv (n:Int): ∀ k,(wpS W s n k).spot=s.spot/\(wpS W s n k).g.l.length=s.g.l.length/\(wpS W s n k).waiting=s.waiting
 | 0=>⟨rfl,rfl,rfl⟩
 | k+1=>by
  obtain ⟨h1,h2,h3⟩:=uv n k
  unfold wpS
  split
  ·exact ⟨h1,by simp only [erS,seS,ka]; exact h2,h3⟩
  ·exact ⟨h1,h2,h3⟩
theorem yU (h:SJ W s) (n:Int): ∀ k,k<=s.g.l.length->SJ W (wpS W s n k)
 | 0,_=>h
 | k+1,hk=>by
  have ih:=yU h n k (by omega)
  unfold wpS
  split
  ·exact KM ih (by omega) (by rw [(uv n k).2.1]; omega) _ _
  ·exact ih
end
section
variable {W : Nat} {s : aB}
theorem zH (n:Int) (k:Nat):wpS W s n (k+1)=if wpc s n k then erS W (wpS W s n k) k 0 W else wpS W s n k:=rfl
theorem JQ (h:SJ W s) {n:Int} (hn:0<=n):iB s n=some (paS W (wpS W s n s.g.l.length) n):=by
 have hl:=h.gi.l2
 unfold iB
 rw [qn,aA,h.gw]
 dsimp only
 refine fw (λk=>(wpS W s n k,(wpS W s n k).g,(k:Int))) s.g.l.length ((wpS W s n s.g.l.length).g,wpS W s n s.g.l.length) rfl ?_ ?_ ?_
 ·intro k hk
  have hs:=uv (W:=W) (s:=s) n k
  have hJ:=yU h n k (by omega)
  dsimp only
  rw [decide_eq_true (by omega:(k:Int) < (s.g.l.length:Int)),cond_true,hs.1,zH,w64 (by omega) (by omega)]
  have ec:((bif (decide ((k:Int) < s.spot.y)) then (bif (n == 1) then some true else (bif (decide ((k:Int) > s.spot.y)) then (bif (n == 0) then some true else (bif ((k:Int) != s.spot.y) then some (n == 2) else some false)) else (bif ((k:Int) != s.spot.y) then some (n == 2) else some false))) else (bif (decide ((k:Int) > s.spot.y)) then (bif (n == 0) then some true else (bif ((k:Int) != s.spot.y) then some (n == 2) else some false)) else (bif ((k:Int) != s.spot.y) then some (n == 2) else some false))):Option Bool)=some (wpc s n k):=by
   unfold wpc
   have hb: ∀ b:Bool,(b=true)=b:=λb=>rfl
   by_cases a1:(k:Int) < s.spot.y
   ·have a2: ¬ (k:Int) > s.spot.y:=by omega
    have a3:((k:Int) != s.spot.y)=true:=by simp; omega
    rw [decide_eq_true a1,decide_eq_false a2,a3]
    simp only [cond_true,cond_false]
    by_cases c:n=1
    ·rw [lR c,cond_true,decide_eq_true (by omega)]
    ·rw [eE c,cond_false]
     by_cases c2:n=2
     ·rw [lR c2,decide_eq_true (by omega)]
     ·rw [eE c2,decide_eq_false (by omega)]
   ·rw [decide_eq_false a1,cond_false]
    by_cases a2:(k:Int) > s.spot.y
    ·have a3:((k:Int) != s.spot.y)=true:=by simp; omega
     rw [decide_eq_true a2,a3]
     simp only [cond_true,cond_false]
     by_cases c:n=0
     ·rw [lR c,cond_true,decide_eq_true (by omega)]
     ·rw [eE c,cond_false]
      by_cases c2:n=2
      ·rw [lR c2,decide_eq_true (by omega)]
      ·rw [eE c2,decide_eq_false (by omega)]
    ·have a3:((k:Int) != s.spot.y)=false:=by simp; omega
     rw [decide_eq_false a2,a3]
     simp only [cond_false]
     rw [decide_eq_false (by omega)]
  rw [ec,aA]
  cases hc:wpc s n k with
  | true =>
   rw [cond_true,if_pos rfl,show (aB.mk (wpS W s n k).g s.spot (wpS W s n k).saved (wpS W s n k).waiting (wpS W s n k).top (wpS W s n k).aK (wpS W s n k).bB (wpS W s n k).title)=wpS W s n k by rw [<- hs.1]]
   rw [sr hJ (by omega) (by rw [hs.2.1]; omega),aA,aA]
   rfl
  | false =>
   rw [cond_false,if_neg (by simp),aA]
   dsimp only
   rw [show (aB.mk (wpS W s n k).g s.spot (wpS W s n k).saved (wpS W s n k).waiting (wpS W s n k).top (wpS W s n k).aK (wpS W s n k).bB (wpS W s n k).title)=wpS W s n k by rw [<- hs.1]]
   rfl
 ·dsimp only
  rw [decide_eq_false (by omega: ¬ ((s.g.l.length:Nat):Int) < (s.g.l.length:Int)),cond_false]
 ·dsimp only
  rw [show (aB.mk (wpS W s n s.g.l.length).g (wpS W s n s.g.l.length).spot (wpS W s n s.g.l.length).saved (wpS W s n s.g.l.length).waiting (wpS W s n s.g.l.length).top (wpS W s n s.g.l.length).aK (wpS W s n s.g.l.length).bB (wpS W s n s.g.l.length).title)=wpS W s n s.g.l.length from rfl,DW (yU h n _ (Nat.le_refl _)) hn,aA]
theorem DX {n:Int} (hn:n > 2): ∀ k,wpS W s n k=s
 | 0=>rfl
 | k+1=>by
  rw [zH,DX hn k]
  unfold wpc
  rw [decide_eq_false (by omega),if_neg (by simp)]
def AV (W:Nat) (s:aB) (n:Int) (all:Bool):aB:=paS W (if all then wpS W s n s.g.l.length else s) n
theorem AW (h:SJ W s) {n:Int} (hn:0<=n) (all:Bool):np (aQ s) n all=some (aQ (AV W s n all)):=by
 have hl:=h.gi.l2
 have hy:=yr h
 unfold np AV
 by_cases h2:n > 2
 ·rw [decide_eq_true h2,cond_true,DX h2,ite_self]
  unfold paS
  rw [if_pos h2]
 ·rw [decide_eq_false h2,cond_false,Cq h]
  refine fw (λk=>(aQ (if all then wpS W s n k else s),(k:Int))) s.g.l.length (aQ (if all then wpS W s n s.g.l.length else s)) (by cases all <;> rfl) ?_ ?_ ?_
  ·intro k hk
   dsimp only
   rw [decide_eq_true (by omega:(k:Int) < (s.g.l.length:Int)),cond_true,w64 (by omega) (by omega)]
   cases all with
   | false =>
    rw [cond_false,aA,cond_false,aA]
    rfl
   | true =>
    have hs:=uv (W:=W) (s:=s) n k
    have hJ:=yU h n k (by omega)
    simp only [if_true,cond_true]
    rw [show (aQ (wpS W s n k)).y=s.spot.y by show (wpS W s n k).spot.y=_; rw [hs.1],zH]
    have ec:((bif (decide ((k:Int) < s.spot.y)) then (bif (n != 0) then some true else (bif (decide ((k:Int) > s.spot.y)) then some (n != 1) else some false)) else (bif (decide ((k:Int) > s.spot.y)) then some (n != 1) else some false)):Option Bool)=some (wpc s n k):=by
     unfold wpc
     by_cases a1:(k:Int) < s.spot.y
     ·have a2: ¬ (k:Int) > s.spot.y:=by omega
      rw [decide_eq_true a1,decide_eq_false a2]
      simp only [cond_true,cond_false]
      by_cases c:n=0
      ·rw [show (n != 0)=false by simp [c],cond_false,decide_eq_false (by omega)]
      ·rw [show (n != 0)=true by simp [c],cond_true,decide_eq_true (by omega)]
     ·rw [decide_eq_false a1,cond_false]
      by_cases a2:(k:Int) > s.spot.y
      ·rw [decide_eq_true a2,cond_true]
       by_cases c:n=1
       ·rw [show (n != 1)=false by simp [c],decide_eq_false (by omega)]
       ·rw [show (n != 1)=true by simp [c],decide_eq_true (by omega)]
      ·rw [decide_eq_false a2,cond_false,decide_eq_false (by omega)]
    rw [ec,aA]
    cases hc:wpc s n k with
    | true =>
     rw [cond_true,if_pos rfl,show (aQ (wpS W s n k)).g.w=(W:Int) from hJ.gw,tF hJ (by omega) (by rw [hs.2.1]; omega),aA,aA]
     rfl
    | false =>
     rw [cond_false,if_neg (by simp),aA]
     rfl
  ·dsimp only
   rw [decide_eq_false (by omega: ¬ ((s.g.l.length:Nat):Int) < (s.g.l.length:Int)),cond_false]
  ·have key: ∀ t:aB,SJ W t->(Option.bind ((bif (n == 0) then some (aQ t).x else some 0):Option Int) λb=>(Option.bind ((bif (n == 1) then some (IntKind.i64.wrap ((aQ t).x+1)) else some (aQ t).g.w):Option Int) λd=>(Option.bind (k5 (aQ t) (aQ t).y b d) λa=>some (aR.mk a.g a.x a.y a.s a.sX a.sY a.sS false a.top a.aK a.bB a.title))))=some (aQ (paS W t n)):=by
    intro t ht
    have hy:=yr ht
    rw [show (aQ t).x=t.spot.x from rfl,show (aQ t).g.w=(W:Int) from ht.gw,show (aQ t).y=t.spot.y from rfl,w64 (x:=t.spot.x+1) (by omega) (by omega)]
    have e1:((bif (n == 0) then some t.spot.x else some 0):Option Int)=some (paA t n):=by
     unfold paA
     by_cases c:n=0
     ·rw [lR c,cond_true,if_pos c]
     ·rw [eE c,cond_false,if_neg c]
    have e2:((bif (n == 1) then some (t.spot.x+1) else some (W:Int)):Option Int)=some (paB W t n):=by
     unfold paB
     by_cases c:n=1
     ·rw [lR c,cond_true,if_pos c]
     ·rw [eE c,cond_false,if_neg c]
    rw [e1,aA,e2,aA,tF ht ht.y0 ht.y1,aA]
    unfold paS
    rw [if_neg h2]
    rfl
   refine key _ ?_
   cases all with
   | true=>exact yU h n _ (Nat.le_refl _)
   | false=>exact h
theorem Hl (h:SI W s) (n:Int) (all:Bool):SI W (AV W s n all):=by
 unfold AV
 apply Nb
 cases all with
 | false=>exact h
 | true =>
  have hs:=uv (W:=W) (s:=s) n s.g.l.length
  exact ⟨yU h.toSJ n _ (Nat.le_refl _),λe=>by rw [if_pos rfl] at e ⊢; rw [hs.1]; rw [hs.2.2] at e; exact h.wt e⟩
def shS (W:Nat) (s:aB) (b n:Int):aB:=if s.spot.y < s.top\/s.spot.y > s.aK then s else if b=76 then mvS (dnS W s s.spot.y s.aK n) 0 s.spot.y else mvS (upT W s s.spot.y s.aK n) 0 s.spot.y
theorem Hm (h:SJ W s) (b n:Int):gW s b n=some (shS W s b n):=by
 unfold gW shS
 rw [show ((bif (decide (s.spot.y < s.top)) then some true else some (decide (s.spot.y > s.aK))):Option Bool)=_ from or2 _ _,aA]
 by_cases c:s.spot.y < s.top\/s.spot.y > s.aK
 ·rw [decide_eq_true c,cond_true,if_pos c]
 ·rw [decide_eq_false c,cond_false,if_neg c]
  by_cases cb:b=76
  ·rw [lR cb,cond_true,if_pos cb,mV,aA,xF h,aA,aA]
   rw [show (aB.mk (sT s.g.l s.spot.y s.aK n,(dnS W s s.spot.y s.aK n).g).snd s.spot s.saved s.waiting s.top s.aK s.bB s.title)=dnS W s s.spot.y s.aK n from rfl,kL (AU h _ _ _),aA]
  ·rw [eE cb,cond_false,if_neg cb,mV,aA,L1 h,aA,aA]
   rw [show (aB.mk (upO s.g.l s.spot.y s.aK n,(upT W s s.spot.y s.aK n).g).snd s.spot s.saved s.waiting s.top s.aK s.bB s.title)=upT W s s.spot.y s.aK n from rfl,kL (Cp h _ _ _),aA]
theorem Nc (h:SI W s) (b n:Int):SI W (shS W s b n):=by
 unfold shS
 split
 ·exact h
 ·split
  ·exact nH (AU h.toSJ _ _ _) _ _
  ·exact nH (Cp h.toSJ _ _ _) _ _
def rgT (s:aB) (l:List Int):Int:=max 1 (min (atS l 0 1) (s.g.l.length:Int)) - 1
def rgU (s:aB) (l:List Int):Int:=max 1 (min (atS l 1 (s.g.l.length:Int)) (s.g.l.length:Int)) - 1
def rnS (s:aB) (t b:Int):aB:=⟨s.g,s.spot,s.saved,s.waiting,t,b,s.bB,s.title⟩
def reS (s:aB) (l:List Int):aB:=if rgT s l < rgU s l then mvS (rnS s (rgT s l) (rgU s l)) 0 0 else s
theorem Nf (h:SJ W s) (l:List Int):0<=rgT s l/\rgT s l < s.g.l.length/\0<=rgU s l/\rgU s l < s.g.l.length:=by
 have h1:=h.gi.l1
 unfold rgT rgU
 omega
theorem Hn (h:SJ W s) (l:List Int) (c:rgT s l < rgU s l):SJ W (rnS s (rgT s l) (rgU s l)):=by
 have hr:=Nf h l
 exact ⟨h.gw,h.gi,h.x0,h.x1,h.y0,h.y1,hr.1,by simp only [rnS]; omega,by simp only [rnS]; omega⟩
theorem Cs (h:SJ W s) (a:bC):gK s a=some (reS s a.aW):=by
 have hl:=h.gi.l2
 have hl1:=h.gi.l1
 unfold gK reS
 rw [qn,aA,show eO a 0 1=_ from yT a 0 1,aA,nG,aA]
 dsimp only
 rw [show eO a 1 (s.g.l.length:Int)=_ from yT a 1 _,aA,nG,aA,w64 (by omega) (by omega),w64 (by omega) (by omega)]
 rw [<- rgT,<- rgU]
 by_cases c:rgT s a.aW < rgU s a.aW
 ·rw [decide_eq_true c,cond_true,if_pos c,<- rnS,kL (Hn h _ c),aA]
 ·rw [decide_eq_false c,cond_false,if_neg c]
theorem Ng (h:SI W s) (l:List Int):SI W (reS s l):=by
 unfold reS
 split
 ·exact nH (Hn h.toSJ l (by assumption)) _ _
 ·exact h
def ceR (s:aB) (b n:Int):aG:=⟨iO 0 (if b=64 then ins (kU s.g.l s.spot.y).cells s.spot.x n (lA s.spot.aO) else if b=80 then del (kU s.g.l s.spot.y).cells s.spot.x n (lA s.spot.aO) else kK s.spot.x (s.spot.x+n) (lA s.spot.aO) 0 (kU s.g.l s.spot.y).cells),false⟩
def ceS (W:Nat) (s:aB) (b n:Int):aB:=nwS (seS W s s.spot.y (ceR s b n))
end
theorem JR (l:List aH) (a n q:Int):(ins l a n q).length=l.length:=by
 unfold ins
 split
 ·rfl
 ·rcases xi l a n with h | ⟨h1,h2,h3⟩
  ·contradiction
  ·unfold nq
   simp only [List.length_take,List.length_append,List.length_replicate,List.length_drop]
   omega
theorem JS (l:List aH) (a n q:Int):(del l a n q).length=l.length:=by
 unfold del
 split
 ·rfl
 ·rcases xi l a n with h | ⟨h1,h2,h3⟩
  ·contradiction
  ·unfold n9
   simp only [List.length_take,List.length_append,List.length_replicate,List.length_drop]
   omega
theorem L2 {l:List aH} (h:okR l) (a n q:Int):okR (ins l a n q):=by
 unfold ins
 split
 ·exact h
 ·exact tY (tX (tX (tY h _) (wx _ _)) (xh h _)) _
theorem L3 {l:List aH} (h:okR l) (a n q:Int):okR (del l a n q):=by
 unfold del
 split
 ·exact h
 ·exact tX (tX (tY h _) (xh h _)) (wx _ _)
section
variable {W : Nat} {s : aB}
theorem Ho (h:SJ W s) (b n:Int):gok W (ceR s b n):=by
 have hg:=h.row
 refine ⟨?_,pF _ _ ?_⟩
 ·simp only [ceR,kJ]
  split
  ·rw [JR]; exact hg.1
  ·split
   ·rw [JS]; exact hg.1
   ·rw [l4]; exact hg.1
 ·split
  ·exact L2 hg.2 _ _ _
  ·split
   ·exact L3 hg.2 _ _ _
   ·exact va _ _ _ _ hg.2
theorem zI (h:SJ W s) (b n:Int):(ceR s b n).cells.length<=1000000:=by have:=(Ho h b n).le h.gi.w2; omega
theorem Fi (h:SJ W s) (b:Int) {n:Int} (h0:0<=n) (h1:n<=9999):gk (kU s.g.l s.spot.y) b s n=some (ceR s b n):=by
 have hl:=oV h
 have hy:=yr h
 unfold gk ceR
 by_cases c:b=64
 ·rw [lR c,cond_true,mV,aA,insert_eq _ _ _ _ hl h.xr.1 h.xr.2,aA,if_pos c]; rfl
 ·rw [eE c,cond_false,if_neg c]
  by_cases c2:b=80
  ·rw [lR c2,cond_true,mV,aA,EV _ _ _ _ hl h.xr.1 h.xr.2,aA,if_pos c2]; rfl
  ·rw [eE c2,cond_false,mV,aA,w64 (by omega) (by omega),erase_eq _ _ _ _ (by omega),aA,if_neg c2]
theorem Fj (h:SJ W s) (b:Int) {n:Int} (h0:0<=n) (h1:n<=9999):gV s b n=some (ceS W s b n):=by
 unfold gV eL
 rw [h.G8,aA,Fi h b h0 h1,aA,h.G9 _ (zI h b n),aA,aA]
 rfl
theorem Nh (h:SJ W s) (b n:Int):SI W (ceS W s b n):=⟨lP (DU h _ (Ho h b n).2),λe=>by cases e⟩
theorem JT (h:SJ W s) (n:Int):mL (told (kU s.g.l s.spot.y)) s.spot.x n (lA s.spot.aO)=some (told (ceR s 64 n)):=by
 have hl:=oV h
 rw [told,BW (kU s.g.l s.spot.y).cells (kU s.g.l s.spot.y).wrapped s.spot.x n _ hl h.xr.1 h.xr.2]
 rfl
theorem JU (h:SJ W s) (n:Int):mM (told (kU s.g.l s.spot.y)) s.spot.x n (lA s.spot.aO)=some (told (ceR s 80 n)):=by
 have hl:=oV h
 rw [told,BX (kU s.g.l s.spot.y).cells (kU s.g.l s.spot.y).wrapped s.spot.x n _ hl h.xr.1 h.xr.2]
 rfl
def orS (W:Nat) (s:aB) (b:Int) (l:List Int):aB :=
 if b=65 then clS s (0 - atS l 0 1) else if b=70 then xS (clS s (0 - atS l 0 1)) 0 else
 if b=66 then clS s (atS l 0 1) else if b=69 then xS (clS s (atS l 0 1)) 0 else
 if b=67 then mvS s (s.spot.x+atS l 0 1) s.spot.y else if b=68 then mvS s (s.spot.x - atS l 0 1) s.spot.y else
 if b=71 then mvS s (atS l 0 1 - 1) s.spot.y else if b=100 then mvS s s.spot.x (atS l 0 1 - 1) else
 if b=72\/b=102 then mvS s (atS l 1 1 - 1) (atS l 0 1 - 1) else
 if b=74 then AV W s (atS l 0 0) true else if b=75 then AV W s (atS l 0 0) false else
 if b=64\/b=80\/b=88 then ceS W s b (atS l 0 1) else
 if b=76\/b=77 then shS W s b (atS l 0 1) else
 if b=83 then upS W (nwS s) (atS l 0 1) else
 if b=84 then dnS W (nwS s) s.top s.aK (atS l 0 1) else
 if b=109 then ⟨s.g,⟨s.spot.x,s.spot.y,Fg s.spot.aO l⟩,s.saved,s.waiting,s.top,s.aK,s.bB,s.title⟩ else
 if b=114 then reS s l else s
def orF (s:aB) (b:Int) (l:List Int):List aG:=if b=83 then upF (nwS s) (atS l 0 1) else []
theorem lM {p:Prop} [Decidable p] {a b:aB} (ha:SI W a) (hb:SI W b):SI W (if p then a else b):=by split <;> assumption
theorem Ni (h:SI W s) (b:Int) (l:List Int):SI W (orS W s b l):=by
 have h0:=w0 h.toSJ
 have hx: ∀ n,SI W (xS (clS s n) 0):=λn=>⟨AR (nH h.toSJ _ _).toSJ (Int.le_refl 0) h0,λe=>by cases e⟩
 unfold orS
 have e4: ∀ q,SI W ⟨s.g,⟨s.spot.x,s.spot.y,q⟩,s.saved,s.waiting,s.top,s.aK,s.bB,s.title⟩:=λq=>⟨⟨h.gw,h.gi,h.x0,h.x1,h.y0,h.y1,h.t0,h.tb,h.b1⟩,h.wt⟩
 have e5: ∀ n,SI W (upS W (nwS s) n):=λn=>⟨KJ (lP h.toSJ) _,λe=>by cases e⟩
 have e6: ∀ t b n,SI W (dnS W (nwS s) t b n):=λt b n=>⟨AU (lP h.toSJ) _ _ _,λe=>by cases e⟩
 refine lM (nH h.toSJ _ _) (lM (hx _) (lM (nH h.toSJ _ _) (lM (hx _) (lM (nH h.toSJ _ _) (lM (nH h.toSJ _ _) (lM (nH h.toSJ _ _) (lM (nH h.toSJ _ _) (lM (nH h.toSJ _ _) (lM (Hl h _ _) (lM (Hl h _ _) (lM (Nh h.toSJ _ _) (lM (Nc h _ _) (lM (e5 _) (lM (e6 _ _ _) (lM (e4 _) (lM (Ng h _) h))))))))))))))))
theorem zJ (n a b c:Int):((bif (n == a) then some (n == a) else (bif (n == b) then some (n == b) else some (n == c))):Option Bool)=some (decide (n=a\/n=b\/n=c)):=by
 by_cases h:n=a
 ·simp [h]
 ·rw [eE h,cond_false]
  by_cases h2:n=b
  ·simp [h2]
  ·rw [eE h2,cond_false]
   by_cases h3:n=c
   ·simp [h3]
   ·rw [eE h3,decide_eq_false (by omega)]
theorem DY (n a b:Int):((bif (n == a) then some (n == a) else some (n == b)):Option Bool)=some (decide (n=a\/n=b)):=by
 by_cases h:n=a
 ·simp [h]
 ·rw [eE h,cond_false]
  by_cases h2:n=b
  ·simp [h2]
  ·rw [eE h2,decide_eq_false (by omega)]
end
section
variable {W : Nat} {s : aB}
theorem L4 (s:aB):aB.mk s.g s.spot s.saved false s.top s.aK s.bB s.title=nwS s:=rfl
theorem kM (t:aB) (b:Int):(Option.bind ((bif (b == 69) then some true else some (b == 70)):Option Bool) λc=>(Option.bind ((bif c then some (aB.mk t.g (eD.mk 0 t.spot.y t.spot.aO) t.saved t.waiting t.top t.aK t.bB t.title) else some (aB.mk t.g t.spot t.saved t.waiting t.top t.aK t.bB t.title)):Option aB) λa=>some (([]:List aG),(aB.mk t.g a.spot a.saved a.waiting a.top a.aK a.bB a.title))))=some ([],if b=69\/b=70 then xS t 0 else t):=by
 rw [tD,aA]
 by_cases h:b=69\/b=70
 ·rw [decide_eq_true h,if_pos h]; rfl
 ·rw [decide_eq_false h,if_neg h]; rfl
theorem JV (h:SJ W s) (a:bC) (hl:a.aW.length<=1000000):gX s a=some (orF s a.byte a.aW,orS W s a.byte a.aW):=by
 have hy:=yr h
 have hN:=vl a.aW 0 (d:=1) (by omega) (by omega)
 have hM:=vl a.aW 1 (d:=1) (by omega) (by omega)
 have hZ:=vl a.aW 0 (d:=0) (by omega) (by omega)
 unfold gX
 rw [show eO a 0 1=_ from yT a 0 1,aA]
 simp only [show eO a 1 1=_ from yT a 1 1,show eO a 0 0=_ from yT a 0 0,zJ,Cs h,L4,JK _ _ hl]
 simp only [DY,aA]
 have hcl:=λn h0 h1=>Hk (n:=n) h h0 h1
 have w1:IntKind.i64.wrap (0 - atS a.aW 0 1)=0 - atS a.aW 0 1:=w64 (by omega) (by omega)
 have w2:IntKind.i64.wrap (s.spot.x+atS a.aW 0 1)=s.spot.x+atS a.aW 0 1:=w64 (by omega) (by omega)
 have w3:IntKind.i64.wrap (s.spot.x - atS a.aW 0 1)=s.spot.x - atS a.aW 0 1:=w64 (by omega) (by omega)
 have w4:IntKind.i64.wrap (atS a.aW 0 1 - 1)=atS a.aW 0 1 - 1:=w64 (by omega) (by omega)
 have w5:IntKind.i64.wrap (atS a.aW 1 1 - 1)=atS a.aW 1 1 - 1:=w64 (by omega) (by omega)
 have c1:=hcl (0 - atS a.aW 0 1) (by omega) (by omega)
 have c2:=hcl (atS a.aW 0 1) (by omega) (by omega)
 have dn:eK s.g s.top s.aK (atS a.aW 0 1) (lA s.spot.aO)=some (sT s.g.l s.top s.aK (atS a.aW 0 1),(dnS W (nwS s) s.top s.aK (atS a.aW 0 1)).g):=xF (lP h) _ _ _
 have nn:cC (nwS s)=some (lA s.spot.aO):=mV _
 generalize hb:a.byte=b
 have key: ∀ (t:aB),(if b=69\/b=70 then xS t 0 else t)=orS W s b a.aW->orF s b a.aW=[]->(some ([],if b=69\/b=70 then xS t 0 else t):Option (List aG×aB))=some (orF s b a.aW,orS W s b a.aW):=λt e1 e2=>by rw [e1,e2]
 by_cases h1:b=65\/b=70
 ·rw [decide_eq_true h1]
  simp only [cond_true,w1,c1,aA]
  rw [kM]
  refine key _ ?_ ?_
  ·rcases h1 with rfl | rfl <;> rfl
  ·rcases h1 with rfl | rfl <;> rfl
 ·rw [decide_eq_false h1,cond_false]
  by_cases h2:b=66\/b=69
  ·rw [decide_eq_true h2]
   simp only [cond_true,c2,aA]
   rw [kM]
   refine key _ ?_ ?_
   ·rcases h2 with rfl | rfl <;> rfl
   ·rcases h2 with rfl | rfl <;> rfl
  ·rw [decide_eq_false h2,cond_false]
   have hne: ¬ (b=69\/b=70):=by omega
   have key2: ∀ (t:aB),t=orS W s b a.aW->orF s b a.aW=[]->(some ([],if b=69\/b=70 then xS t 0 else t):Option (List aG×aB))=some (orF s b a.aW,orS W s b a.aW):=λt e1 e2=>by rw [if_neg hne,e1,e2]
   by_cases h3:b=67
   ·subst h3; simp only [beq_self_eq_true,cond_true,w2,kL h,aA]; rw [kM]; exact key2 _ rfl rfl
   rw [eE h3,cond_false]
   by_cases h4:b=68
   ·subst h4; simp only [beq_self_eq_true,cond_true,w3,kL h,aA]; rw [kM]; exact key2 _ rfl rfl
   rw [eE h4,cond_false]
   by_cases h5:b=71
   ·subst h5; simp only [beq_self_eq_true,cond_true,w4,kL h,aA]; rw [kM]; exact key2 _ rfl rfl
   rw [eE h5,cond_false]
   by_cases h6:b=100
   ·subst h6; simp only [beq_self_eq_true,cond_true,w4,kL h,aA]; rw [kM]; exact key2 _ rfl rfl
   rw [eE h6,cond_false]
   by_cases h7:b=72\/b=102
   ·rw [decide_eq_true h7]; simp only [cond_true,w4,w5,kL h,aA]; rw [kM]
    refine key2 _ ?_ ?_
    ·rcases h7 with rfl | rfl <;> rfl
    ·rcases h7 with rfl | rfl <;> rfl
   rw [decide_eq_false h7,cond_false]
   by_cases h8:b=74
   ·subst h8; simp only [beq_self_eq_true,cond_true,JQ h hZ.1,aA]; rw [kM]; exact key2 _ rfl rfl
   rw [eE h8,cond_false]
   by_cases h9:b=75
   ·subst h9; simp only [beq_self_eq_true,cond_true,DW h hZ.1,aA]; rw [kM]; exact key2 _ rfl rfl
   rw [eE h9,cond_false]
   by_cases h10:b=64\/b=80\/b=88
   ·rw [decide_eq_true h10]; simp only [cond_true,Fj h _ hN.1 hN.2.1,aA]; rw [kM]
    refine key2 _ ?_ ?_
    ·rcases h10 with rfl | rfl | rfl <;> rfl
    ·rcases h10 with rfl | rfl | rfl <;> rfl
   rw [decide_eq_false h10,cond_false]
   by_cases h11:b=76\/b=77
   ·rw [decide_eq_true h11]; simp only [cond_true,Hm h,aA]; rw [kM]
    refine key2 _ ?_ ?_
    ·rcases h11 with rfl | rfl <;> rfl
    ·rcases h11 with rfl | rfl <;> rfl
   rw [decide_eq_false h11,cond_false]
   by_cases h12:b=83
   ·subst h12; simp only [beq_self_eq_true,cond_true,Hb (lP h),aA]; rfl
   rw [eE h12,cond_false]
   by_cases h13:b=84
   ·subst h13; simp only [beq_self_eq_true,cond_true,nn,dn,aA]
    have e:=kM (dnS W (nwS s) s.top s.aK (atS a.aW 0 1)) 84
    exact e.trans (key2 _ rfl rfl)
   rw [eE h13,cond_false]
   by_cases h14:b=109
   ·subst h14; simp only [beq_self_eq_true,cond_true]
    have e:=kM ⟨s.g,⟨s.spot.x,s.spot.y,Fg s.spot.aO a.aW⟩,s.saved,s.waiting,s.top,s.aK,s.bB,s.title⟩ 109
    exact e.trans (key2 _ rfl rfl)
   rw [eE h14,cond_false]
   by_cases h15:b=114
   ·subst h15; simp only [beq_self_eq_true,cond_true,aA]; rw [kM]; exact key2 _ rfl rfl
   rw [eE h15,cond_false,aA]
   dsimp only
   rw [kM]
   refine key2 _ ?_ ?_
   ·unfold orS
    rw [if_neg (by omega),if_neg (by omega),if_neg (by omega),if_neg (by omega),if_neg h3,if_neg h4,if_neg h5,if_neg h6,if_neg h7,if_neg h8,if_neg h9,if_neg h10,if_neg h11,if_neg h12,if_neg h13,if_neg h14,if_neg h15]
   ·unfold orF
    rw [if_neg h12]
end
section
variable {W : Nat} {s : aB}
theorem JW (s:aB):aR.mk (aQ s).g (aQ s).x (aQ s).y (aQ s).s (aQ s).sX (aQ s).sY (aQ s).sS false (aQ s).top (aQ s).aK (aQ s).bB (aQ s).title=aQ (nwS s):=rfl
theorem DZ {s:aB} {x y x' y':Int} (hx:max 0 (min x (s.g.w - 1))=max 0 (min x' (s.g.w - 1))) (hy:max 0 (min y ((s.g.l.length:Int) - 1))=max 0 (min y' ((s.g.l.length:Int) - 1))):mvS s x y=mvS s x' y':=by
 unfold mvS
 rw [hx,hy]
theorem Fk (h:SJ W s) (b:Int) (l:List Int) (hl:l.length<=1000000):nP (aQ s) b l=some (aQ (orS W s b l),(orF s b l).map told):=by
 have hy:=yr h
 have hlen:=h.gi.l2
 have hlen1:=h.gi.l1
 have hN:=vl l 0 (d:=1) (by omega) (by omega)
 have hM:=vl l 1 (d:=1) (by omega) (by omega)
 have hZ:=vl l 0 (d:=0) (by omega) (by omega)
 unfold nP
 rw [show fC l 0 1=_ from pN l 0 1,aA,uu,aA]
 simp only [show fC l 0 1=_ from pN l 0 1,show fC l 1 1=_ from pN l 1 1,show fC l 0 0=_ from pN l 0 0,DY,JW,Cq h]
 simp only [show fC l 1 (s.g.l.length:Int)=_ from pN l 1 _,show (aQ s).x=s.spot.x from rfl,show (aQ s).y=s.spot.y from rfl,show (aQ s).top=s.top from rfl,show (aQ s).aK=s.aK from rfl,show (aQ s).s=tst s.spot.aO from rfl,G7 _ _ hl,aA]
 have w1:IntKind.i64.wrap (s.spot.y - atS l 0 1)=s.spot.y - atS l 0 1:=w64 (by omega) (by omega)
 have w1':IntKind.i64.wrap (s.spot.y+atS l 0 1)=s.spot.y+atS l 0 1:=w64 (by omega) (by omega)
 have w2:IntKind.i64.wrap (s.spot.x+atS l 0 1)=s.spot.x+atS l 0 1:=w64 (by omega) (by omega)
 have w3:IntKind.i64.wrap (s.spot.x - atS l 0 1)=s.spot.x - atS l 0 1:=w64 (by omega) (by omega)
 have w4:IntKind.i64.wrap (atS l 0 1 - 1)=atS l 0 1 - 1:=w64 (by omega) (by omega)
 have w5:IntKind.i64.wrap (atS l 1 1 - 1)=atS l 1 1 - 1:=w64 (by omega) (by omega)
 have w6:IntKind.i64.wrap ((s.g.l.length:Int) - 1)=(s.g.l.length:Int) - 1:=w64 (by omega) (by omega)
 have dn:eI (aQ s).g false s.top s.aK (atS l 0 1) (lA s.spot.aO)=some ((aQ (dnS W (nwS s) s.top s.aK (atS l 0 1))).g,(sT s.g.l s.top s.aK (atS l 0 1)).map told):=xG (lP h) _ _ _
 by_cases h1:b=65\/b=70
 ·rw [decide_eq_true h1]
  simp only [cond_true,wE,w1,aA,gy,jb h]
  have e:mvS s s.spot.x (max (if s.spot.y>=s.top then s.top else 0) (s.spot.y - atS l 0 1))=clS s (0 - atS l 0 1):=by
   unfold clS
   apply DZ rfl
   split <;> split <;> split <;> omega
  rw [e]
  rcases h1 with rfl | rfl <;> rfl
 rw [decide_eq_false h1,cond_false]
 by_cases h2:b=66\/b=69
 ·rw [decide_eq_true h2]
  simp only [cond_true,wE,w1',w6,aA,dN,jb h]
  have e:mvS s s.spot.x (min (if s.spot.y<=s.aK then s.aK else (s.g.l.length:Int) - 1) (s.spot.y+atS l 0 1))=clS s (atS l 0 1):=by
   unfold clS
   have hb:=h.b1
   have ht:=h.t0
   have htb:=h.tb
   apply DZ rfl
   split <;> split <;> split <;> omega
  rw [e]
  rcases h2 with rfl | rfl <;> rfl
 rw [decide_eq_false h2,cond_false]
 by_cases h3:b=67
 ·subst h3; simp only [beq_self_eq_true,cond_true,w2,jb h,aA]; rfl
 rw [eE h3,cond_false]
 by_cases h4:b=68
 ·subst h4; simp only [beq_self_eq_true,cond_true,w3,jb h,aA]; rfl
 rw [eE h4,cond_false]
 by_cases h5:b=71
 ·subst h5; simp only [beq_self_eq_true,cond_true,w4,jb h,aA]; rfl
 rw [eE h5,cond_false]
 by_cases h6:b=100
 ·subst h6; simp only [beq_self_eq_true,cond_true,w4,jb h,aA]; rfl
 rw [eE h6,cond_false]
 by_cases h7:b=72\/b=102
 ·rw [decide_eq_true h7]; simp only [cond_true,w4,w5,jb h,aA]
  rcases h7 with rfl | rfl <;> rfl
 rw [decide_eq_false h7,cond_false]
 by_cases h8:b=74
 ·subst h8; simp only [beq_self_eq_true,cond_true,AW h hZ.1,aA]; rfl
 rw [eE h8,cond_false]
 by_cases h9:b=75
 ·subst h9; simp only [beq_self_eq_true,cond_true,AW h hZ.1,aA]; rfl
 rw [eE h9,cond_false]
 by_cases h10:b=88
 ·subst h10; simp only [beq_self_eq_true,cond_true,w2,tF h h.y0 h.y1,aA]; rfl
 rw [eE h10,cond_false]
 have gr:idx (aQ s).g.l s.spot.y=some (told (kU s.g.l s.spot.y)):=h.JO
 by_cases h11:b=64
 ·subst h11; simp only [beq_self_eq_true,cond_true,gr,aA,JT h,rr h (zI h 64 _)]; rfl
 rw [eE h11,cond_false]
 by_cases h12:b=80
 ·subst h12; simp only [beq_self_eq_true,cond_true,gr,aA,JU h,rr h (zI h 80 _)]; rfl
 rw [eE h12,cond_false]
 have e12: ¬ (b=64\/b=80\/b=88):=by omega
 by_cases h13:b=76\/b=77
 ·rw [decide_eq_true h13]
  simp only [cond_true]
  rw [show ((bif (decide (s.spot.y>=s.top)) then some (decide (s.spot.y<=s.aK)) else some false):Option Bool)=_ from zr _ _,aA]
  by_cases c:s.spot.y>=s.top/\s.spot.y<=s.aK
  ·have c': ¬ (s.spot.y < s.top\/s.spot.y > s.aK):=by omega
   rw [decide_eq_true c,cond_true]
   rcases h13 with rfl | rfl
   ·rw [show ((76:Int) == 77)=false from rfl,xG h,aA]
    have e:=jb (AU h s.spot.y s.aK (atS l 0 1)) 0 s.spot.y
    rw [show aQ (dnS W s s.spot.y s.aK (atS l 0 1))=aR.mk (aQ (dnS W s s.spot.y s.aK (atS l 0 1))).g s.spot.x s.spot.y (tst s.spot.aO) (aQ s).sX (aQ s).sY (aQ s).sS (aQ s).waiting s.top s.aK (aQ s).bB (aQ s).title from rfl] at e
    dsimp only
    rw [e,aA]
    unfold orS orF shS
    rw [if_neg c']
    rfl
   ·rw [show ((77:Int) == 77)=true from rfl,JP h,aA]
    have e:=jb (Cp h s.spot.y s.aK (atS l 0 1)) 0 s.spot.y
    rw [show aQ (upT W s s.spot.y s.aK (atS l 0 1))=aR.mk (aQ (upT W s s.spot.y s.aK (atS l 0 1))).g s.spot.x s.spot.y (tst s.spot.aO) (aQ s).sX (aQ s).sY (aQ s).sS (aQ s).waiting s.top s.aK (aQ s).bB (aQ s).title from rfl] at e
    dsimp only
    rw [e,aA]
    unfold orS orF shS
    rw [if_neg c']
    rfl
  ·have c':s.spot.y < s.top\/s.spot.y > s.aK:=by omega
   rw [decide_eq_false c,cond_false,aA]
   unfold orS orF shS
   rw [if_pos c']
   rcases h13 with rfl | rfl <;> rfl
 rw [decide_eq_false h13,cond_false]
 by_cases h14:b=83
 ·subst h14
  have e:=yS (lP h) (atS l 0 1)
  have e2:aR.mk (aQ s).g s.spot.x s.spot.y (tst s.spot.aO) (aQ s).sX (aQ s).sY (aQ s).sS false s.top s.aK (aQ s).bB (aQ s).title=aQ (nwS s):=rfl
  simp only [beq_self_eq_true,cond_true,e2,e,aA]
  rfl
 rw [eE h14,cond_false]
 by_cases h15:b=84
 ·subst h15; simp only [beq_self_eq_true,cond_true,dn,aA]; rfl
 rw [eE h15,cond_false]
 by_cases h16:b=109
 ·subst h16; simp only [beq_self_eq_true,cond_true,aA]; rfl
 rw [eE h16,cond_false]
 by_cases h17:b=114
 ·subst h17
  simp only [beq_self_eq_true,cond_true]
  rw [dN,gy,dN,gy,w64 (by omega) (by omega),w64 (by omega) (by omega),<- rgT,<- rgU]
  unfold orS orF
  simp only [Int.reduceEq,if_false,if_true,or_self,Bool.false_eq_true]
  unfold reS
  by_cases c:rgT s l < rgU s l
  ·rw [decide_eq_true c,cond_true,if_pos c]
   have e:=jb (Hn h l c) 0 0
   rw [show aQ (rnS s (rgT s l) (rgU s l))=aR.mk (aQ s).g s.spot.x s.spot.y (tst s.spot.aO) (aQ s).sX (aQ s).sY (aQ s).sS (aQ s).waiting (rgT s l) (rgU s l) (aQ s).bB (aQ s).title from rfl] at e
   rw [e,aA,aA]
   rfl
  ·rw [decide_eq_false c,cond_false,if_neg c,aA]
   rfl
 rw [eE h17,cond_false,aA]
 unfold orS orF
 rw [if_neg (by omega),if_neg (by omega),if_neg (by omega),if_neg (by omega),if_neg h3,if_neg h4,if_neg h5,if_neg h6,if_neg h7,if_neg h8,if_neg h9,if_neg e12,if_neg h13,if_neg h14,if_neg h15,if_neg h16,if_neg h17,if_neg h14]
 rfl
end
def nlS:bJ:=⟨0,0,false,false,false⟩
def yj (w h:Int):aB:=⟨vZ w h,⟨0,0,nlS⟩,⟨0,0,nlS⟩,false,0,(szN h:Int) - 1,true,ByteArray.mk #[]⟩
theorem AX (w h:Int):(yj w h).g.l.length=szN h:=by simp [yj,vZ]
theorem D1 (w h:Int):lJ w h=some (yj w h):=by
 unfold lJ
 have h1:=mR h
 rw [LC,aA,qn,aA]
 dsimp only
 rw [show ((vZ w h).l.length:Int)=(szN h:Int) by simp [vZ],w64 (by omega) (by omega)]
 rfl
theorem Hp (w h:Int):q8 w h=some (aQ (yj w h)):=by
 unfold q8
 have h1:=mR h
 rw [I4,aA]
 rw [show ((ri (vZ w h)).l.length:Int)=(szN h:Int) by simp [vZ,ri],w64 (by omega) (by omega)]
 rfl
theorem D3 (w h:Int):SI (szN w) (yj w h):=by
 have h1:=oU h
 have h2:=oU w
 refine ⟨⟨rfl,LA w h,Int.le_refl 0,?_,Int.le_refl 0,?_,Int.le_refl 0,?_,?_⟩,λe=>by cases e⟩
 ·show (0:Int) < _; omega
 ·rw [AX]; show (0:Int) < _; omega
 ·show (0:Int)<=(szN h:Int) - 1; omega
 ·rw [AX]; show (szN h:Int) - 1 < _; omega
section
variable {W : Nat} {s : aB}
def ctS (W:Nat) (s:aB) (b:Int):aB:=if b=8 then mvS s (s.spot.x - 1) s.spot.y else if b=9 then mvS s (s.spot.x.tdiv 8*8+8) s.spot.y else if b=10\/b=11\/b=12 then liS W s else if b=13 then mvS s 0 s.spot.y else s
def ctF (s:aB) (b:Int):List aG:=if b=10\/b=11\/b=12 then liF s else []
theorem Hq {x:Int} (h0:0<=x) (h1:x < 1000):0<=x.tdiv 8/\x.tdiv 8<=1000:=by
 rw [Int.tdiv_eq_ediv_of_nonneg h0]
 omega
theorem Fl (h:SJ W s) (b:Int):gg s b=some (ctF s b,ctS W s b):=by
 have hy:=yr h
 have ht:=Hq hy.2.2.1 hy.2.2.2
 unfold gg ctF ctS
 simp only [zJ]
 rw [w64 (x:=s.spot.x - 1) (by omega) (by omega),w64 (x:=s.spot.x.tdiv 8) (by omega) (by omega),w64 (x:=s.spot.x.tdiv 8+1) (by omega) (by omega),w64 (x:=(s.spot.x.tdiv 8+1)*8) (by omega) (by omega),show (s.spot.x.tdiv 8+1)*8=s.spot.x.tdiv 8*8+8 by omega]
 by_cases h1:b=8
 ·subst h1; simp only [beq_self_eq_true,cond_true,kL h,aA]; rfl
 rw [eE h1,cond_false,if_neg h1]
 by_cases h2:b=9
 ·subst h2; simp only [beq_self_eq_true,cond_true,kL h,aA]; rfl
 rw [eE h2,cond_false,if_neg h2,aA]
 by_cases h3:b=10\/b=11\/b=12
 ·rw [decide_eq_true h3,cond_true,(g9 h).p,if_pos h3,if_pos h3]; rfl
 rw [decide_eq_false h3,cond_false,if_neg h3,if_neg h3]
 by_cases h4:b=13
 ·subst h4; simp only [beq_self_eq_true,cond_true,kL h,aA]; rfl
 rw [eE h4,cond_false,if_neg h4]
 rfl
theorem Nj (h:SI W s) (b:Int):SI W (ctS W s b):=lM (nH h.toSJ _ _) (lM (nH h.toSJ _ _) (lM (g9 h.toSJ).i (lM (nH h.toSJ _ _) h)))
def e8S (s:aB):aB:=⟨s.g,⟨s.spot.x,s.spot.y,s.saved.aO⟩,s.saved,s.waiting,s.top,s.aK,s.bB,s.title⟩
theorem Hr (h:SJ W s):SJ W (e8S s):=⟨h.gw,h.gi,h.x0,h.x1,h.y0,h.y1,h.t0,h.tb,h.b1⟩
def e7S (s:aB):aB:=⟨s.g,s.spot,s.spot,s.waiting,s.top,s.aK,s.bB,s.title⟩
def esS (W:Nat) (s:aB) (b:Int):aB:=if b=69 then liS W (xS s 0) else if b=68 then liS W s else if b=77 then baS W s else if b=55 then e7S s else if b=56 then mvS (e8S s) s.saved.x s.saved.y else if b=99 then yj W s.g.l.length else s
def esF (s:aB) (b:Int):List aG:=if b=69 then liF (xS s 0) else if b=68 then liF s else []
theorem Nk (h:SI W s) (b:Int):SI W (esS W s b):=by
 have e:=D3 (W:Int) (s.g.l.length:Int)
 rw [Gr W h.gi.w1 h.gi.w2] at e
 exact lM (g9 (AR h.toSJ (Int.le_refl 0) (w0 h.toSJ))).i (lM (g9 h.toSJ).i (lM (Na h.toSJ) (lM ⟨⟨h.gw,h.gi,h.x0,h.x1,h.y0,h.y1,h.t0,h.tb,h.b1⟩,h.wt⟩ (lM (nH (Hr h.toSJ) _ _) (lM e h)))))
theorem Hs (h:SJ W s) (b:Int):gJ s b=some (esF s b,esS W s b):=by
 unfold gJ esF esS
 by_cases h1:b=69
 ·subst h1
  have e:=(g9 (AR h (Int.le_refl 0) (w0 h))).p
  rw [show xS s 0=aB.mk s.g (eD.mk 0 s.spot.y s.spot.aO) s.saved s.waiting s.top s.aK s.bB s.title from rfl] at e
  simp only [beq_self_eq_true,cond_true,aA,e,if_true]
  rfl
 rw [eE h1,cond_false,if_neg h1,if_neg h1]
 by_cases h2:b=68
 ·subst h2
  have e:=(g9 h).p
  simp only [beq_self_eq_true,cond_true,aA,if_true]
  rw [show aB.mk s.g s.spot s.saved s.waiting s.top s.aK s.bB s.title=s from rfl,e]
  rfl
 rw [eE h2,cond_false,if_neg h2,if_neg h2]
 by_cases h3:b=77
 ·subst h3; simp only [beq_self_eq_true,cond_true,back_eq h,aA,if_true]; rfl
 rw [eE h3,cond_false,if_neg h3]
 by_cases h4:b=55
 ·subst h4; simp only [beq_self_eq_true,cond_true,aA,if_true]; rfl
 rw [eE h4,cond_false,if_neg h4]
 by_cases h5:b=56
 ·subst h5
  have e:=kL (Hr h) s.saved.x s.saved.y
  rw [show e8S s=aB.mk s.g (eD.mk s.spot.x s.spot.y s.saved.aO) s.saved s.waiting s.top s.aK s.bB s.title from rfl] at e
  simp only [beq_self_eq_true,cond_true,e,aA,if_true]
  rfl
 rw [eE h5,cond_false,if_neg h5]
 by_cases h6:b=99
 ·subst h6
  simp only [beq_self_eq_true,cond_true,qn,aA,if_true,D1,h.gw]
  rfl
 rw [eE h6,cond_false,if_neg h6]
 rfl
def pvS (s:aB) (b:Int) (l:List Int):aB:=if atS l 0 0=7/\(b=104\/b=108) then ⟨s.g,s.spot,s.saved,s.waiting,s.top,s.aK,b == 104,s.title⟩ else s
def tiS (s:aB) (t:ByteArray):aB:=⟨s.g,s.spot,s.saved,s.waiting,s.top,s.aK,s.bB,t⟩
def acS (W:Nat) (s:aB) (a:bC):aB:=if a.kind=1 then prS W s a.rune else if a.kind=2 then ctS W s a.byte else if a.kind=3 then esS W s a.byte else if a.kind=4 then (if a.dZ=true then pvS s a.byte a.aW else orS W s a.byte a.aW) else if a.kind=5 then tiS s a.text else s
def acF (W:Nat) (s:aB) (a:bC):List aG:=if a.kind=1 then prF W s a.rune else if a.kind=2 then ctF s a.byte else if a.kind=3 then esF s a.byte else if a.kind=4 then (if a.dZ=true then [] else orF s a.byte a.aW) else []
theorem On (h:SJ W s) (a:bC) (hl:a.aW.length<=1000000):fX s a=some (acF W s a,acS W s a):=by
 unfold fX acF acS
 by_cases h1:a.kind=1
 ·rw [lR h1,cond_true,if_pos h1,if_pos h1,JN h]; rfl
 rw [eE h1,cond_false,if_neg h1,if_neg h1]
 by_cases h2:a.kind=2
 ·rw [lR h2,cond_true,if_pos h2,if_pos h2,Fl h]; rfl
 rw [eE h2,cond_false,if_neg h2,if_neg h2]
 by_cases h3:a.kind=3
 ·rw [lR h3,cond_true,if_pos h3,if_pos h3,Hs h]; rfl
 rw [eE h3,cond_false,if_neg h3,if_neg h3]
 by_cases h5:a.kind=5
 ·have h4: ¬ a.kind=4:=by omega
  rw [lR h5,cond_true,if_neg h4,if_neg h4,if_pos h5]; rfl
 rw [eE h5,cond_false,if_neg h5]
 by_cases h4:a.kind=4
 ·rw [lR h4,cond_true,if_pos h4,if_pos h4]
  cases hp:a.dZ with
  | false =>
   rw [Bool.not_false,cond_true,JV h a hl,if_neg (by simp),if_neg (by simp)]
   rfl
  | true =>
   rw [Bool.not_true,cond_false,if_pos rfl,if_pos rfl,show eO a 0 0=_ from yT a 0 0,aA,tD]
   unfold pvS
   by_cases c:atS a.aW 0 0=7
   ·rw [lR c,cond_true,aA]
    by_cases c2:a.byte=104\/a.byte=108
    ·rw [decide_eq_true c2,cond_true,if_pos ⟨c,c2⟩]; rfl
    ·rw [decide_eq_false c2,cond_false,if_neg (λe=>c2 e.2)]; rfl
   ·rw [eE c,cond_false,aA,cond_false,if_neg (λe=>c e.1)]; rfl
 rw [eE h4,cond_false,if_neg h4,if_neg h4]
 rfl
theorem KN (h:SI W s) (a:bC) (hr:rok a.rune):SI W (acS W s a):=by
 have e1:SI W (pvS s a.byte a.aW):=by
  unfold pvS
  exact lM ⟨⟨h.gw,h.gi,h.x0,h.x1,h.y0,h.y1,h.t0,h.tb,h.b1⟩,h.wt⟩ h
 exact lM (M9 h hr) (lM (Nj h _) (lM (Nk h _) (lM (lM e1 (Ni h _ _)) (lM ⟨⟨h.gw,h.gi,h.x0,h.x1,h.y0,h.y1,h.t0,h.tb,h.b1⟩,h.wt⟩ h))))
def zK (W:Nat) (off:List aG):Prop:=off.length<=2000 /\ ∀ r∈off,gok W r
theorem ur.o2 {off:List aG} (h:ur W off):zK W off:=⟨by have:=h.1; omega,h.2⟩
theorem zL {p:Prop} [Decidable p] {a b:List aG} (ha:zK W a) (hb:zK W b):zK W (if p then a else b):=by split <;> assumption
theorem Ct (h:SJ W s) (a:bC):zK W (acF W s a):=by
 have n0:zK W []:=(oh W).o2
 have l0: ∀ t,SJ W t->zK W (liF t):=λt ht=>(g9 ht).o.o2
 exact zL (L0 h) (zL (zL (l0 _ h) n0) (zL (zL (l0 _ (AR h (Int.le_refl 0) (w0 h))) (zL (l0 _ h) n0)) (zL (zL n0 (zL (Ha (lP h) _).o2 n0)) n0)))
end
def tG (a:kF):bC:=⟨a.kind,a.rune,a.byte,a.dZ,a.aW,a.text⟩
section
variable {W : Nat} {s : aB}
theorem Oo (h:SJ W s) (a:kF) (hr:rok a.rune) (hl:a.aW.length<=1000000):tu (aQ s) a=some (aQ (acS W s (tG a)),(acF W s (tG a)).map told):=by
 have hy:=yr h
 have hlen:=h.gi.l2
 have ht:=Hq hy.2.2.1 hy.2.2.2
 unfold tu acF acS tG
 dsimp only
 by_cases h1:a.kind=1
 ·rw [lR h1,cond_true,if_pos h1,if_pos h1,LZ h hr]; rfl
 rw [eE h1,cond_false,if_neg h1,if_neg h1]
 by_cases h2:a.kind=2
 ·rw [lR h2,cond_true,if_pos h2,if_pos h2]
  unfold ctF ctS
  simp only [zJ]
  rw [show (aQ s).x=s.spot.x from rfl,show (aQ s).y=s.spot.y from rfl,w64 (x:=s.spot.x - 1) (by omega) (by omega),w64 (x:=s.spot.x.tdiv 8) (by omega) (by omega),w64 (x:=s.spot.x.tdiv 8*8) (by omega) (by omega),w64 (x:=s.spot.x.tdiv 8*8+8) (by omega) (by omega)]
  generalize a.byte=b
  by_cases c1:b=8
  ·subst c1; simp only [beq_self_eq_true,cond_true,jb h,aA]; rfl
  rw [eE c1,cond_false,if_neg c1]
  by_cases c2:b=9
  ·subst c2; simp only [beq_self_eq_true,cond_true,jb h,aA]; rfl
  rw [eE c2,cond_false,if_neg c2,aA]
  by_cases c3:b=10\/b=11\/b=12
  ·rw [decide_eq_true c3,cond_true,(g9 h).q,if_pos c3,if_pos c3]; rfl
  rw [decide_eq_false c3,cond_false,if_neg c3,if_neg c3]
  by_cases c4:b=13
  ·subst c4; simp only [beq_self_eq_true,cond_true,jb h,aA]; rfl
  rw [eE c4,cond_false,if_neg c4]
  rfl
 rw [eE h2,cond_false,if_neg h2,if_neg h2]
 by_cases h3:a.kind=3
 ·rw [lR h3,cond_true,if_pos h3,if_pos h3]
  unfold esF esS
  generalize a.byte=b
  by_cases c2:b=68
  ·subst c2; simp only [beq_self_eq_true,cond_true,(g9 h).q,aA,if_true]; rfl
  rw [eE c2,cond_false,if_neg c2,if_neg c2]
  by_cases c1:b=69
  ·subst c1
   have e:=(g9 (AR h (Int.le_refl 0) (w0 h))).q
   rw [show aQ (xS s 0)=aR.mk (aQ s).g 0 (aQ s).y (aQ s).s (aQ s).sX (aQ s).sY (aQ s).sS (aQ s).waiting (aQ s).top (aQ s).aK (aQ s).bB (aQ s).title from rfl] at e
   simp only [beq_self_eq_true,cond_true,e,aA,if_true]
   rfl
  rw [eE c1,cond_false,if_neg c1,if_neg c1]
  by_cases c3:b=77
  ·subst c3
   simp only [beq_self_eq_true,cond_true,if_true]
   unfold baS
   rw [show (aQ s).y=s.spot.y from rfl,show (aQ s).top=s.top from rfl]
   by_cases c:s.spot.y=s.top
   ·have e:eI (aQ s).g false s.top s.aK 1 (lA s.spot.aO)=some ((aQ (dnS W (nwS s) s.top s.aK 1)).g,(sT s.g.l s.top s.aK 1).map told):=xG (lP h) _ _ _
    rw [lR c,cond_true,if_pos c,show (aQ s).s=tst s.spot.aO from rfl,AN,aA,show (aQ s).aK=s.aK from rfl,e,aA]
    rfl
   ·have e:=jb (lP h) s.spot.x (s.spot.y - 1)
    rw [show aQ (nwS s)=aR.mk (aQ s).g (aQ s).x s.spot.y (aQ s).s (aQ s).sX (aQ s).sY (aQ s).sS false s.top (aQ s).aK (aQ s).bB (aQ s).title from rfl] at e
    rw [eE c,cond_false,if_neg c,w64 (by omega) (by omega),show (aQ s).x=s.spot.x from rfl]
    rw [show (aQ s).x=s.spot.x from rfl] at e
    rw [e,aA]
    rfl
  rw [eE c3,cond_false,if_neg c3]
  by_cases c4:b=55
  ·subst c4; simp only [beq_self_eq_true,cond_true,aA,if_true]; rfl
  rw [eE c4,cond_false,if_neg c4]
  by_cases c5:b=56
  ·subst c5
   have e:=jb (Hr h) s.saved.x s.saved.y
   rw [show aQ (e8S s)=aR.mk (aQ s).g (aQ s).x (aQ s).y (aQ s).sS (aQ s).sX (aQ s).sY (aQ s).sS (aQ s).waiting (aQ s).top (aQ s).aK (aQ s).bB (aQ s).title from rfl] at e
   simp only [beq_self_eq_true,cond_true,if_true]
   rw [show (aQ s).sX=s.saved.x from rfl,show (aQ s).sY=s.saved.y from rfl]
   rw [show (aQ s).sX=s.saved.x from rfl,show (aQ s).sY=s.saved.y from rfl] at e
   rw [e,aA]
   rfl
  rw [eE c5,cond_false,if_neg c5]
  by_cases c6:b=99
  ·subst c6
   simp only [beq_self_eq_true,cond_true,aA,if_true]
   rw [Cq h,show (aQ s).g.w=(W:Int) from h.gw,Hp,aA]
   rfl
  rw [eE c6,cond_false,if_neg c6]
  rfl
 rw [eE h3,cond_false,if_neg h3,if_neg h3]
 by_cases h4:a.kind=4
 ·rw [lR h4,cond_true,if_pos h4,if_pos h4]
  cases hp:a.dZ with
  | false =>
   rw [Bool.not_false,cond_true,Fk h a.byte a.aW hl,if_neg (by simp),if_neg (by simp)]
   rfl
  | true =>
   rw [Bool.not_true,cond_false,if_pos rfl,if_pos rfl,show fC a.aW 0 0=_ from pN a.aW 0 0,aA,tD]
   unfold pvS
   by_cases c:atS a.aW 0 0=7
   ·rw [lR c,cond_true,aA]
    by_cases c2:a.byte=104\/a.byte=108
    ·rw [decide_eq_true c2,cond_true,if_pos ⟨c,c2⟩]; rfl
    ·rw [decide_eq_false c2,cond_false,if_neg (λe=>c2 e.2)]; rfl
   ·rw [eE c,cond_false,aA,cond_false,if_neg (λe=>c e.1)]; rfl
 rw [eE h4,cond_false,if_neg h4,if_neg h4]
 by_cases h5:a.kind=5
 ·rw [lR h5,cond_true,if_pos h5]; rfl
 rw [eE h5,cond_false,if_neg h5]
 rfl
def roN (s:aB) (h:Int):Int:=max 0 (s.spot.y - ((szN h:Int) - 1))
def rzS (s:aB) (w h:Int):aB:=let t:aB:=mvS ⟨⟨(szN w:Int),rzL (szN w) s.g.l (loS s.g.l (roN s h)) (szN h)⟩,s.spot,s.saved,s.waiting,s.top,s.aK,s.bB,s.title⟩ s.spot.x (s.spot.y - roN s h); ⟨t.g,t.spot,t.saved,t.waiting,0,(szN h:Int) - 1,t.bB,t.title⟩
def rzF (s:aB) (h:Int):List aG:=s.g.l.take (loS s.g.l (roN s h))
theorem Fm (h:SJ W s) (w k:Int):gL s w k=some (rzF s k,rzS s w k):=by
 have hy:=yr h
 have h1:=oU k
 have h2:=mR k
 have h3:=oU w
 have h4:=mR w
 have hl:=h.gi.len
 unfold gL
 rw [nG,aA,show max 1 (min k 1000)=(szN k:Int) by rw [<- BZ,gy,dN],w64 (x:=(szN k:Int) - 1) (by omega) (by omega),w64 (x:=s.spot.y - ((szN k:Int) - 1)) (by omega) (by omega),gy,<- roN]
 have e:=Cb s.g.w s.g.l w k (roN s k) h.gi.l1 (by have:=h.gi.l2; omega) hl
 rw [show (aZ.mk s.g.w s.g.l)=s.g from rfl] at e
 rw [e,aA,w64 (x:=s.spot.y - roN s k) (by unfold roN; omega) (by unfold roN; omega)]
 dsimp only
 have hl2:=ox (szN w) s.g.l (loS s.g.l (roN s k)) (szN k)
 have em: ∀ (g:aZ) (q:aB),q.g=g->g.w<=1000->1<=g.w->g.l.length<=1000 -> ∀ x y,bM q x y=some (mvS q x y):=by
  intro g q e1 e2 e3 e4 x y
  unfold bM dX
  rw [e1,qn,aA,aA]
  dsimp only
  rw [w64 (by omega) (by omega),w64 (by omega) (by omega),nG,aA,nG,aA]
  unfold mvS
  rw [e1]
 rw [em _ _ rfl (by dsimp only; omega) (by dsimp only; omega) (by dsimp only; omega),aA]
 unfold dX
 rw [qn,aA,aA]
 simp only [mvS,hl2]
 rw [w64 (by omega) (by omega)]
 simp only [rzF,rzS,mvS,hl2]
theorem L5 (h:SJ W s) (w k:Int):SI (szN w) (rzS s w k):=by
 have h1:=oU k
 have h2:=mR k
 have h3:=oU w
 have h4:=mR w
 have hl2:=ox (szN w) s.g.l (loS s.g.l (roN s k)) (szN k)
 have hg:GI (szN w) (rzL (szN w) s.g.l (loS s.g.l (roN s k)) (szN k)):=MW (W:=W) (λr hr=>(h.gi.rs r hr).2) _ _ _ h3 h4 h1 h2
 refine ⟨⟨rfl,hg,?_,?_,?_,?_,?_,?_,?_⟩,λe=>by cases e⟩
 all_goals simp only [rzS,mvS,hl2]
 all_goals omega
theorem Ht (h:SJ W s) (k:Int):zK W (rzF s k):=by
 refine ⟨?_,λr hr=>h.gi.rs r (List.mem_of_mem_take hr)⟩
 have:=h.gi.l2
 simp only [rzF,List.length_take]
 omega
end
theorem AY (s:ByteArray) {lo hi:Int} (h0:0<=lo) (h1:lo<=hi) (h2:hi<=s.size):(gB s lo hi).size=(hi - lo).toNat:=by
 unfold gB
 rw [ByteArray.size_extract]
 omega
def okA (a:kF):Prop:=rok a.rune/\0<=a.byte/\a.byte < 256/\a.aW.length<=18
def L6 (l:List Int):Prop:= ∀ x∈l,rok x
theorem D4 (s:ByteArray) {n:Int} (h:0<=n):okO (jf s n) (λr=>(r.size:Int)<=n):=by
 unfold jf
 refine uo (λhc=> ?_) λhc=>cG (by omega)
 refine dP (Cl (by omega) h (by omega)) λ_ _=>cG ?_
 rw [AY _ (by omega) h (by omega)]
 omega
theorem L7 {W:Nat} {off:List aG} (h:zK W off) (hW:W<=1000):n7 off (off.map told)=some true :=
 GG off (by have:=h.1; omega) λr hr=>⟨by have:=(h.2 r hr).1; omega,(h.2 r hr).2⟩
theorem Fo {x:Int} (h:rok x):IntKind.i32.wrap x=x:=by
 have h1:=h.1
 have h2:=h.2
 rw [IntKind.wrap_i32]
 omega
theorem Hu {a:kF} (h:okA a):q9 a=some (tG a):=by
 obtain ⟨h1,h2,h3,h4⟩:=h
 unfold q9
 rw [bP (by simp; omega),aA,Fo h1,Oi h2 h3]
 rfl
section
variable {W : Nat} {s : aB}
theorem JX (h:SI W s) {a:kF} (ha:okA a):tu (aQ s) a=some (aQ (acS W s (tG a)),(acF W s (tG a)).map told)/\q9 a=some (tG a)/\fX s (tG a)=some (acF W s (tG a),acS W s (tG a))/\n7 (acF W s (tG a)) ((acF W s (tG a)).map told)=some true/\SI W (acS W s (tG a)) :=
 ⟨Oo h.toSJ a ha.1 (by have:=ha.2.2.2; omega),Hu ha,On h.toSJ _ (by have:=ha.2.2.2; show a.aW.length<=_; omega),L7 (Ct h.toSJ _) h.gi.w2,KN h _ ha.1⟩
theorem Hv (h:SJ W s):iz s=some (s.g,s):=by
 unfold iz
 have e:=B4 s.g.w s.g.l (by have:=h.gi.l2; omega) h.gi.len
 rw [show (aZ.mk s.g.w s.g.l)=s.g from rfl] at e
 rw [e]
 rfl
end
end Go.Tw.X
set_option maxRecDepth 20000
namespace Go.Tw.X
open Go Go.Tw
theorem L8 {P:Int->Prop} (h: ∀ n:Nat,n < 256->P n) {b:Int} (h0:0<=b) (h1:b < 256):P b:=by
 have:=h b.toNat (by omega)
 rwa [Int.toNat_of_nonneg h0] at this
def jw (b:Int):Int×Int×Int:=if 194<=b/\b<=223 then (1,128,191) else if b=224 then (2,160,191) else if b=237 then (2,128,159) else if 225<=b/\b<=239 then (2,128,191) else if b=240 then (3,144,191) else if b=244 then (3,128,143) else if 241<=b/\b<=243 then (3,128,191) else (0,0,0)
theorem uw (b:Int):((jw b).1=0\/(jw b).1=1\/(jw b).1=2\/(jw b).1=3)/\((jw b).1≠0->194<=b/\b<=244):=by
 unfold jw
 repeat' split
 all_goals simp
 all_goals omega
def Fp (l:List ko) (b:Int):Option ko:=l.find? λx=>decide (x.first<=b) && decide (b<=x.last)
def fnd (b:Int):ko×Bool:=match Fp bX b with
 | some x=>(x,true)
 | none=>(⟨0,0,0,0,0⟩,false)
theorem AZ {b:Int} (h0:0<=b) (h1:b < 256):(fnd b).2=decide ((jw b).1≠0)/\(fnd b).1.ja=(jw b).1/\(fnd b).1.low=(jw b).2.1/\(fnd b).1.high=(jw b).2.2 :=
 L8 (P:=λb=>(fnd b).2=decide ((jw b).1≠0)/\(fnd b).1.ja=(jw b).1/\(fnd b).1.low=(jw b).2.1/\(fnd b).1.high=(jw b).2.2) (by decide) h0 h1
theorem Ba (b:Int):lH b=some (fnd b):=by
 unfold lH
 have key: ∀ k i:Nat,i+k=8->iter (σ:=Int) (ρ:=Unit ⊕ (ko×Bool)) (λa=>(bif (decide (a < 8)) then (Option.bind (idx bX a) λc=>(Option.bind ((bif (decide (b>=c.first)) then some (decide (b<=c.last)) else some false):Option Bool) λd=>(bif d then (k8 (some (c,true))) else some (.inl (IntKind.i64.wrap (a+1)))))) else some (.inr (.inl ())))) (i:Int)=some (match Fp (bX.drop i) b with
   | some x=> .inr (x,true)
   | none=> .inl ()):=by
  intro k
  induction k with
  | zero =>
   intro i hi
   obtain rfl:i=8:=by omega
   rw [cO (r:= .inl ()) rfl]
   rfl
  | succ k ih =>
   intro i hi
   have hlt:i < bX.length:=by show i < 8; omega
   have hd:bX.drop i=bX[i]::bX.drop (i+1):=List.drop_eq_getElem_cons hlt
   rw [iter_eq,hd]
   simp only [dC _ i hlt,Option.bind_some,decide_eq_true (show (i:Int) < 8 by omega),cond_true]
   generalize bX[i]=x
   have hw:IntKind.i64.wrap ((i:Int)+1)=((i+1:Nat):Int):=by rw [w64 (by omega) (by omega)]; omega
   by_cases h1:x.first<=b
   ·by_cases h2:b<=x.last
    ·simp [h1,h2,Fp,k8]
    ·have:=ih (i+1) (by omega)
     simp [h1,h2,Fp,hw] at this ⊢
     exact this
   ·have:=ih (i+1) (by omega)
    simp [h1,Fp,hw] at this ⊢
    exact this
 have:=key 8 0 rfl
 simp only [Int.natCast_zero] at this
 rw [this]
 unfold fnd
 rw [List.drop_zero]
 cases Fp bX b <;> rfl
theorem Nl {b:Int} (h0:0<=b) (h1:b < 256):Go.bits .and .i32 (IntKind.i32.wrap b) 63=b % 64:=by
 rw [Fo ⟨by omega,by omega⟩]
 exact m63 b h0 (by omega)
theorem Oq {b:Int} (h0:0<=b) (h1:b < 256):Go.bits .and .i32 (IntKind.i32.wrap b) ((63:Int).fdiv (2 ^ (min (1:Int).toNat 32)))=b % 32/\Go.bits .and .i32 (IntKind.i32.wrap b) ((63:Int).fdiv (2 ^ (min (2:Int).toNat 32)))=b % 16/\Go.bits .and .i32 (IntKind.i32.wrap b) ((63:Int).fdiv (2 ^ (min (3:Int).toNat 32)))=b % 8:=by
 rw [Fo ⟨by omega,by omega⟩]
 have g5:=bits_mask .i32 31 (by decide) wraps_i32 5 (by decide) b h0 (by omega)
 have g4:=bits_mask .i32 31 (by decide) wraps_i32 4 (by decide) b h0 (by omega)
 have g3:=bits_mask .i32 31 (by decide) wraps_i32 3 (by decide) b h0 (by omega)
 exact ⟨g5,g4,g3⟩
theorem Ot {r b:Int} (h0:0<=r) (h1:r < 1000000) (hb0:0<=b) (hb1:b < 64):Go.bits .or .i32 (IntKind.i32.wrap (r*2 ^ (min 6 32))) b=r*64+b:=by
 have e:(r*2 ^ (min 6 32):Int)=r*64:=rfl
 rw [e,Fo ⟨by omega,by omega⟩]
 exact bits_join .i32 31 (by decide) wraps_i32 6 (r*64) b (by omega) (by show r*64 % 64=0; omega) (by omega) hb0 (by omega) (by omega)
def d0:bV:=⟨0,0,0⟩
def yk (b:Int):Int:=if (jw b).1=1 then b % 32 else if (jw b).1=2 then b % 16 else b % 8
def v9 (b:Int):bV×List Int:=if b < 128 then (d0,[b]) else if (jw b).1=0 then (d0,[65533]) else (⟨b,yk b,(jw b).1⟩,[])
theorem Bb {b:Int} (h0:0<=b) (h1:b < 256):kZ b=some (v9 b):=by
 unfold kZ v9
 by_cases hb:b < 128
 ·rw [decide_eq_true hb,cond_true,if_pos hb,Fo ⟨by omega,by omega⟩]; rfl
 ·rw [decide_eq_false hb,cond_false,if_neg hb,Ba,Option.bind_some]
  obtain ⟨f1,f2,f3,f4⟩:=AZ h0 h1
  rw [f1,f2]
  have hn:=uw b
  by_cases hz:(jw b).1=0
  ·rw [if_pos hz,hz]; rfl
  ·rw [if_neg hz,decide_eq_true hz]
   obtain ⟨a1,a2,a3⟩:=Oq h0 h1
   have hk: ∀ n:Int,n=1\/n=2\/n=3->(Option.bind (chk (shk n)) λ_=>some ((bV.mk b (Go.bits .and .i32 (IntKind.i32.wrap b) ((63:Int).fdiv (2 ^ (min n.toNat 32)))) n),([]:List Int)))=some (⟨b,if n=1 then b % 32 else if n=2 then b % 16 else b % 8,n⟩,[]):=by
    rintro n (rfl | rfl | rfl)
    ·rw [a1]; rfl
    ·rw [a2]; rfl
    ·rw [a3]; rfl
   exact hk _ (by omega)
def Fq (d:bV) (b:Int):Bool:=if d.ja < (jw d.lead).1 then decide (128<=b/\b<=191) else decide ((jw d.lead).2.1<=b/\b<=(jw d.lead).2.2)
theorem JY {d:bV} (h0:0<=d.lead) (h1:d.lead < 256) (b:Int):ik d b=some (Fq d b):=by
 unfold ik Fq
 rw [Ba,Option.bind_some]
 obtain ⟨f1,f2,f3,f4⟩:=AZ h0 h1
 rw [f2,f3,f4]
 by_cases h:d.ja < (jw d.lead).1
 ·rw [if_pos h,decide_eq_true h,cond_true]
  by_cases ha:128<=b <;> simp [ha]
 ·rw [if_neg h,decide_eq_false h,cond_false]
  by_cases ha:(jw d.lead).2.1<=b <;> simp [ha]
def s6 (d:bV) (b:Int):bV×List Int:=if d.ja<=0 then v9 b else if Fq d b then (if d.ja=1 then (d0,[d.rune*64+b % 64]) else (⟨d.lead,d.rune*64+b % 64,d.ja - 1⟩,[])) else ((v9 b).1,65533::(v9 b).2)
def DI (d:bV):Prop:=d=d0\/(0<=d.lead/\d.lead < 256/\1<=d.ja/\d.ja<=(jw d.lead).1/\0<=d.rune/\(d.ja=3->d.rune < 8)/\(d.ja=2->d.rune < 512)/\(d.ja=1->d.rune < 32768))
theorem DI0:DI d0:= .inl rfl
theorem JZ {b:Int} (h0:0<=b) (h1:b < 256):DI (v9 b).1/\(v9 b).2.length<=1/\L6 (v9 b).2:=by
 unfold v9
 have hn:=uw b
 split
 ·refine ⟨DI0,by simp,λx hx=> ?_⟩
  rw [List.mem_singleton.1 hx]
  exact ⟨by omega,by omega⟩
 ·split
  ·refine ⟨DI0,by simp,λx hx=> ?_⟩
   rw [List.mem_singleton.1 hx]
   exact ⟨by decide,by decide⟩
  ·rename_i hz
   refine ⟨.inr ⟨h0,h1,by dsimp only; omega,Int.le_refl _,?_,?_,?_,?_⟩,by simp,λx hx=>by cases hx⟩
   all_goals (dsimp only; unfold yk; intros; split <;> (try split) <;> omega)
theorem xH {d:bV} (h:DI d) {b:Int} (h0:0<=b) (h1:b < 256):il d b=some (s6 d b)/\DI (s6 d b).1/\(s6 d b).2.length<=2/\L6 (s6 d b).2:=by
 obtain ⟨k1,k2,k3⟩:=JZ h0 h1
 unfold il s6
 by_cases hd:d.ja<=0
 ·rw [decide_eq_true hd,cond_true,Bb h0 h1,if_pos hd]
  exact ⟨rfl,k1,by omega,k3⟩
 ·rcases h with rfl | ⟨l0,l1,n1,n2,r0,r3,r2,r1⟩
  ·exact absurd (by decide) hd
  rw [decide_eq_false hd,cond_false,if_neg hd,JY l0 l1,Option.bind_some]
  have hn:=uw d.lead
  have hrb:d.rune < 32768:=by
   have:d.ja=1\/d.ja=2\/d.ja=3:=by omega
   rcases this with h | h | h
   ·exact r1 h
   ·have:=r2 h; omega
   ·have:=r3 h; omega
  cases hf:Fq d b with
  | false =>
   simp only [Bool.not_false,cond_true,Bb h0 h1,Option.bind_some,Bool.false_eq_true,if_false]
   refine ⟨by rw [bP (by simp; omega)]; rfl,k1,by simp; omega,λx hx=> ?_⟩
   rcases List.mem_cons.1 hx with rfl | hx
   ·exact ⟨by decide,by decide⟩
   ·exact k3 x hx
  | true =>
   have hor:Go.bits .or .i32 (IntKind.i32.wrap (d.rune*2 ^ (min 6 32))) (Go.bits .and .i32 (IntKind.i32.wrap b) 63)=d.rune*64+b % 64:=by
    rw [Nl h0 h1]
    exact Ot r0 (by omega) (by omega) (by omega)
   simp only [Bool.not_true,cond_false,if_true,hor]
   rw [w64 (x:=d.ja - 1) (by omega) (by omega)]
   by_cases h1':d.ja=1
   ·rw [if_pos h1',h1']
    refine ⟨rfl,DI0,by simp,λx hx=> ?_⟩
    rw [List.mem_singleton.1 hx]
    have:=r1 h1'
    exact ⟨by omega,by omega⟩
   ·have he:(d.ja - 1 == 0)=false:=by
     have: ¬ d.ja - 1=0:=by omega
     simpa using this
    rw [if_neg h1',he,cond_false]
    refine ⟨rfl,.inr ⟨l0,l1,by dsimp only; omega,by dsimp only; omega,by dsimp only; omega,?_,?_,?_⟩,by simp,λx hx=>by cases hx⟩
    ·dsimp only; intro e; omega
    ·dsimp only; intro e; have:=r3 (by omega); omega
    ·dsimp only; intro e; have:=r2 (by omega); omega
theorem Hw {s:ByteArray} {i:Int} (h0:0<=i) (h1:i < s.size):okO (w7 s i) (λb=>(0<=b/\b < 256)/\(sbs s).drop i.toNat=b::(sbs s).drop (i.toNat+1)):=by
 have hl:i.toNat < (sbs s).length:=by rw [bG]; omega
 have e:=ub s i.toNat hl
 rw [Int.toNat_of_nonneg h0] at e
 exact ⟨_,e,kz s _ (List.getElem_mem hl),List.drop_eq_getElem_cons hl⟩
def s7 (p:aE) (a:bC):aE:=⟨p.state,p.order,p.text,p.cN,p.out++[a]⟩
def prA (r:Int):bC:=⟨1,r,0,false,[],ByteArray.mk #[]⟩
def oA (p:aE) (l:List Int):aE:=⟨p.state,p.order,p.text,p.cN,p.out++l.map prA⟩
def stP (p:aE) (s:Int):aE:=⟨s,p.order,p.text,p.cN,p.out⟩
def ctA (b:Int):bC:=⟨2,0,b,false,[],ByteArray.mk #[]⟩
def eS (p:aE) (b:Int):Bool×aE:=if b=24\/b=26 then (true,stP p 0) else if b=27 then (true,stP p 1) else if b < 32 then (true,s7 p (ctA b)) else (b == 127,p)
def xI (d:bV):List Int:=if d.ja<=0 then [] else [65533]
def mf (p:aE) (b:Int):aE:=if b < 32\/b=127 then (eS ⟨p.state,p.order,p.text,d0,p.out++(xI p.cN).map prA⟩ b).2 else oA ⟨p.state,p.order,p.text,(s6 p.cN b).1,p.out⟩ (s6 p.cN b).2
def o0:eZ:=⟨false,false,false,false,0,[]⟩
def Ou (b:Int):bC:=⟨3,0,b,false,[],ByteArray.mk #[]⟩
def kj (p:aE) (b:Int):aE :=
 if (eS p b).1 then (eS p b).2 else
 if b=91 then ⟨3,o0,p.text,p.cN,p.out⟩ else if b=93 then ⟨4,p.order,ByteArray.mk #[],p.cN,p.out⟩ else if b < 48 then stP p 2 else if b < 127 then stP (s7 p (Ou b)) 0 else stP p 0
def qD (p:aE) (b:Int):aE:=if (eS p b).1 then (eS p b).2 else if 48<=b then stP p 0 else p
def vQ (o:eZ):eZ:=⟨o.dZ,o.mA,o.any,o.some,0,if o.aW.length < 16 then o.aW++[o.n] else o.aW⟩
def cmA (o:eZ) (b:Int):bC:=⟨4,0,b,o.dZ,o.aW,ByteArray.mk #[]⟩
def mg (p:aE) (b:Int):aE:=if p.order.mA then stP p 0 else
 let o:=if p.order.some then vQ p.order else p.order
 ⟨0,o,p.text,p.cN,p.out++[cmA o b]⟩
def J0 (o:eZ):eZ:=⟨o.dZ,o.mA,true,o.some,o.n,o.aW⟩
def pO (o:eZ) (b:Int):eZ :=
 if 48<=b/\b<=57 then ⟨o.dZ,o.mA,true,true,dF (10*o.n+(b - 48)) 9999,o.aW⟩ else
 if b=59\/b=58 then ⟨o.dZ,o.mA,true,true,0,(vQ o).aW⟩ else
 if b=63/\o.any=false then ⟨true,o.mA,true,o.some,o.n,o.aW⟩ else
 ⟨o.dZ,true,true,o.some,o.n,o.aW⟩
def kV (p:aE) (b:Int):aE:=if (eS p b).1 then (eS p b).2 else
 if 64<=b/\b < 127 then mg ⟨p.state,J0 p.order,p.text,p.cN,p.out⟩ b else ⟨p.state,pO p.order b,p.text,p.cN,p.out⟩
theorem ux {p:aE} (h:p.out.length<=1000000) (a:bC):fN p a=some (s7 p a):=by
 unfold fN
 rw [bP (by simp; omega)]
 rfl
theorem Bc {p:aE} (h:p.out.length<=1000000) (a:bC):iw p a=some (s7 p a):=by
 unfold iw
 rw [bP (by simp; omega)]
 rfl
theorem okE {α:Type _} {x:Option α} {r:α} (h:okO x (λy=>y=r)):x=some r:=by
 obtain ⟨y,e,rfl⟩:=h
 exact e
theorem Bd {p:aE} {l:List Int} (h:p.out.length+l.length<=1000000):hG p l=some (oA p l):=by
 unfold hG
 refine okE (dP (P:=λy=>y=oA p l) ?_ λr hr=>cG hr)
 refine sg (λz:aE×Int=>0<=z.2/\z.2<=l.length/\z.1=oA p (l.take z.2.toNat)) (λz=>l.length - z.2.toNat) ⟨Int.le_refl 0,by dsimp only; omega,by simp [oA]⟩ ?_
 rintro ⟨q,i⟩ ⟨h0,h1,h2⟩
 dsimp only at h0 h1 h2 ⊢
 subst h2
 refine uo (λhi=> ?_) λhi=>cG (by rw [List.take_of_length_le (by omega)])
 obtain ⟨k,rfl⟩: ∃ k:Nat,i=k:=⟨i.toNat,by omega⟩
 have hk:k < l.length:=by omega
 refine dP (P:=λx=>x=l[k]) ⟨_,dC l k hk,rfl⟩ λx hx=> ?_
 subst hx
 refine dP (P:=λx=>x=oA p (l.take (k+1))) ?_ λx hx=> ?_
 ·rw [ux (by simp [oA]; omega)]
  refine cG ?_
  simp only [oA,s7,Int.toNat_natCast,List.take_add_one,List.getElem?_eq_getElem hk,Option.toList_some,List.map_append,List.map_cons,List.map_nil,List.append_assoc,prA]
 ·subst hx
  rw [w64 (by omega) (by omega)]
  refine cG ⟨⟨by dsimp only; omega,by dsimp only; omega,?_⟩,by dsimp only; omega⟩
  dsimp only
  rw [show ((k:Int)+1).toNat=k+1 by omega]
theorem ss {p:aE} (h:p.out.length<=1000000) (b:Int):eW p b=some (eS p b):=by
 unfold eW eS
 by_cases h1:b=24
 ·subst h1; rfl
 ·by_cases h2:b=26
  ·subst h2; rfl
  ·by_cases h3:b=27
   ·subst h3; rfl
   ·have e1:(b == 24)=false:=by simpa using h1
    have e2:(b == 26)=false:=by simpa using h2
    have e3:(b == 27)=false:=by simpa using h3
    rw [if_neg (by omega),if_neg h3,e1,e2,e3]
    by_cases h4:b < 32
    ·rw [if_pos h4,decide_eq_true h4]
     simp only [cond_false,cond_true,Option.bind_some,ux h]
     rfl
    ·rw [if_neg h4,decide_eq_false h4]
     rfl
theorem Fs {p:aE} (h:p.out.length<=999990) (hd:DI p.cN) {b:Int} (h0:0<=b) (h1:b < 256):gT p b=some (mf p b):=by
 unfold gT mf
 have hl:(xI p.cN).length<=1:=by unfold xI; split <;> simp
 have he:iR p.cN=some (xI p.cN):=by
  unfold iR xI
  by_cases hn:p.cN.ja<=0
  ·rw [decide_eq_true hn,if_pos hn]; rfl
  ·rw [decide_eq_false hn,if_neg hn]; rfl
 by_cases hb:b < 32\/b=127
 ·have e:((bif (decide (b < 32)) then some true else some (b == 127)):Option Bool)=some true:=by
   rcases hb with hb | hb
   ·rw [decide_eq_true hb]; rfl
   ·subst hb; rfl
  rw [if_pos hb,e,Option.bind_some,cond_true,he,Option.bind_some,Bd (by omega),Option.bind_some,ss (by simp [oA]; omega)]
  rfl
 ·have e:((bif (decide (b < 32)) then some true else some (b == 127)):Option Bool)=some false:=by
   rw [decide_eq_false (by omega),cond_false]
   have: ¬ b=127:=by omega
   simpa using this
  obtain ⟨n1,n2,n3,n4⟩:=xH hd h0 h1
  rw [if_neg hb,e,Option.bind_some,cond_false,n1,Option.bind_some,Bd (by dsimp only; omega)]
  rfl
theorem yV {p:aE} (h:p.out.length<=999990) (b:Int):fO p b=some (kj p b):=by
 unfold fO kj
 rw [ss (by omega),Option.bind_some]
 cases hc:(eS p b).1 with
 | true=>rfl
 | false =>
  have hp:(eS p b).2=p:=by
   unfold eS at hc ⊢
   split
   ·rename_i hh; rw [if_pos hh] at hc; cases hc
   ·rename_i h1; rw [if_neg h1] at hc
    split
    ·rename_i hh; rw [if_pos hh] at hc; cases hc
    ·rename_i h2; rw [if_neg h2] at hc
     split
     ·rename_i hh; rw [if_pos hh] at hc; cases hc
     ·rfl
  rw [hp]
  simp only [cond_false,Bool.false_eq_true,if_false]
  by_cases h1:b=91
  ·subst h1; rfl
  ·have e1:(b == 91)=false:=by simpa using h1
   rw [if_neg h1,e1]
   by_cases h2:b=93
   ·subst h2; rfl
   ·have e2:(b == 93)=false:=by simpa using h2
    rw [if_neg h2,e2]
    by_cases h3:b < 48
    ·rw [if_pos h3,decide_eq_true h3]; rfl
    ·rw [if_neg h3,decide_eq_false h3]
     by_cases h4:b < 127
     ·rw [if_pos h4,decide_eq_true h4]
      simp only [cond_false,cond_true,ux (show p.out.length<=1000000 by omega),Option.bind_some]
      rfl
     ·rw [if_neg h4,decide_eq_false h4]; rfl
theorem vR {p:aE} {b:Int} (hc:(eS p b).1=false):(eS p b).2=p:=by
 unfold eS at hc ⊢
 split
 ·rename_i hh; rw [if_pos hh] at hc; cases hc
 ·rename_i h1; rw [if_neg h1] at hc
  split
  ·rename_i hh; rw [if_pos hh] at hc; cases hc
  ·rename_i h2; rw [if_neg h2] at hc
   split
   ·rename_i hh; rw [if_pos hh] at hc; cases hc
   ·rfl
theorem Hx {p:aE} (h:p.out.length<=999990) (b:Int):iT p b=some (qD p b):=by
 unfold iT qD
 rw [ss (by omega),Option.bind_some]
 cases hc:(eS p b).1 with
 | true=>rfl
 | false =>
  rw [vR hc]
  by_cases hb:48<=b
  ·simp [hb,stP]
  ·simp [hb]
theorem D5 {p:aE} (h:p.order.aW.length<=16):jn p=some ⟨p.state,vQ p.order,p.text,p.cN,p.out⟩:=by
 unfold jn vQ
 by_cases hl:p.order.aW.length < 16
 ·rw [decide_eq_true (by omega),cond_true,bP (by simp; omega),if_pos hl]; rfl
 ·rw [decide_eq_false (by omega),cond_false,if_neg hl]; rfl
theorem Ft {p:aE} (h:p.out.length<=999990) (hn:p.order.aW.length<=16) (b:Int):iU p b=some (mg p b):=by
 unfold iU mg
 cases hw:p.order.mA with
 | true=>rfl
 | false =>
  simp only [cond_false,Bool.false_eq_true,if_false]
  cases hs:p.order.some with
  | true =>
   simp only [cond_true,if_true]
   rw [D5 (by exact hn),Option.bind_some,Option.bind_some,Bc (by dsimp only; omega)]
   rfl
  | false =>
   simp only [cond_false,Bool.false_eq_true,if_false]
   rw [Option.bind_some,Bc (by dsimp only; omega)]
   rfl
theorem Cu {p:aE} (h:p.out.length<=999990) (h3:p.state=3) (hn:p.order.aW.length<=16) (hN:0<=p.order.n/\p.order.n<=9999) {b:Int} (h0:0<=b) (h1:b < 256):gI p b=some (kV p b):=by
 unfold gI kV
 rw [ss (by omega),Option.bind_some]
 cases hc:(eS p b).1 with
 | true=>rfl
 | false =>
  rw [vR hc]
  simp only [cond_false,Bool.false_eq_true,if_false]
  have hchk:chk (p.state == (3:Int))=some ():=by rw [h3]; rfl
  by_cases a1:48<=b/\b<=57
  ·have e:((bif (decide (b>=48)) then some (decide (b<=57)) else some false):Option Bool)=some true:=by rw [decide_eq_true a1.1,decide_eq_true a1.2]; rfl
   have w1:IntKind.u8.wrap (b - 48)=b - 48:=by simp [IntKind.wrap,IntKind.bits,IntKind.signed]; omega
   rw [e,Option.bind_some,cond_true,w1,w64 (x:=b - 48) (by omega) (by omega),w64 (x:=10*p.order.n) (by omega) (by omega),w64 (by omega) (by omega),if_neg (by omega)]
   unfold pO
   rw [if_pos a1]
  ·have e:((bif (decide (b>=48)) then some (decide (b<=57)) else some false):Option Bool)=some false:=by
    by_cases hh:48<=b
    ·rw [decide_eq_true hh,decide_eq_false (by omega)]; rfl
    ·rw [decide_eq_false hh]; rfl
   rw [e,Option.bind_some,cond_false]
   by_cases a2:b=59\/b=58
   ·have e2:((bif (b == 59) then some true else some (b == 58)):Option Bool)=some true:=by rcases a2 with rfl | rfl <;> rfl
    rw [e2,Option.bind_some,cond_true,hchk,Option.bind_some,D5 (by exact hn),Option.bind_some,if_neg (by omega)]
    unfold pO
    rw [if_neg a1,if_pos a2]
    rfl
   ·have e2:((bif (b == 59) then some true else some (b == 58)):Option Bool)=some false:=by
     have x1:(b == 59)=false:=by simpa using (show ¬ b=59 by omega)
     have x2:(b == 58)=false:=by simpa using (show ¬ b=58 by omega)
     rw [x1,x2]; rfl
    rw [e2,Option.bind_some,cond_false]
    by_cases a3:b=63/\p.order.any=false
    ·have e3:((bif (b == 63) then some (!p.order.any) else some false):Option Bool)=some true:=by rw [a3.1,a3.2]; rfl
     rw [e3,Option.bind_some,cond_true,if_neg (by omega)]
     unfold pO
     rw [if_neg a1,if_neg a2,if_pos a3]
    ·have e3:((bif (b == 63) then some (!p.order.any) else some false):Option Bool)=some false:=by
      by_cases hh:b=63
      ·cases ha:p.order.any with
       | true=>rw [hh]; rfl
       | false=>exact absurd ⟨hh,ha⟩ a3
      ·have:(b == 63)=false:=by simpa using hh
       rw [this]; rfl
     rw [e3,Option.bind_some,cond_false]
     by_cases a4:64<=b/\b < 127
     ·have e4:((bif (decide (b>=64)) then some (decide (b < 127)) else some false):Option Bool)=some true:=by rw [decide_eq_true a4.1,decide_eq_true a4.2]; rfl
      rw [e4,Option.bind_some,cond_true,hchk,Option.bind_some,if_pos a4,Ft (by exact h) (by exact hn)]
      rfl
     ·have e4:((bif (decide (b>=64)) then some (decide (b < 127)) else some false):Option Bool)=some false:=by
       by_cases hh:64<=b
       ·rw [decide_eq_true hh,decide_eq_false (by omega)]; rfl
       ·rw [decide_eq_false hh]; rfl
      rw [e4,Option.bind_some,cond_false,if_neg a4]
      unfold pO
      rw [if_neg a1,if_neg a2,if_neg a3]
def tiA (t:ByteArray):bC:=⟨5,0,0,false,[],gB t 2 t.size⟩
def ttl (t:ByteArray):List bC:=match sbs t with
 | x::y::_=>if (x=48\/x=50)/\y=59 then [tiA t] else []
 | _=>[]
theorem J1 (t:ByteArray):(ttl t).length<=1:=by
 unfold ttl
 split
 ·split <;> simp
 ·simp
def nV (p:aE):aE:=⟨0,p.order,p.text,p.cN,p.out++ttl p.text⟩
def isH (c:Int) (t:ByteArray):Bool:=decide ((sbs t).take 2=[c,59])
theorem Hy {c:Int} {t:ByteArray} (h:t.size < 2):isH c t=false:=by
 refine decide_eq_false λe=> ?_
 have:=congrArg List.length e
 simp [bG] at this
 omega
theorem yW (t h:ByteArray) (c:Int) (hh:sbs h=[c,59]):iS t h=some (if isH c t then (gB t 2 t.size,true) else (t,false)):=by
 have hs:h.size=2:=by rw [<- bG,hh]; rfl
 have hp:gb t h=some (isH c t):=by
  unfold gb
  rw [hs]
  by_cases h2:2<=t.size
  ·rw [decide_eq_true (show (t.size:Int)>=((2:Nat):Int) by omega),cond_true,bQ (by decide) (by decide) (by omega),Option.bind_some,Option.bind_some,uc]
   congr 1
   unfold isH
   refine decide_eq_decide.2 ⟨λe=> ?_,λe=> ?_⟩
   ·have:=congrArg sbs e
    rw [show ((0:Int))=((0:Nat):Int) from rfl,gZ,hh] at this
    simpa using this
   ·apply ns
    rw [show ((0:Int))=((0:Nat):Int) from rfl,gZ,hh]
    simpa using e
  ·rw [decide_eq_false (show ¬ (t.size:Int)>=((2:Nat):Int) by omega),cond_false,Option.bind_some,Hy (by omega)]
 unfold iS iJ
 rw [hp,Option.bind_some,hs]
 cases hi:isH c t with
 | false=>rfl
 | true =>
  have h2:2<=t.size:=by
   by_cases h2:2<=t.size
   ·exact h2
   ·rw [Hy (by omega)] at hi; cases hi
  simp only [Bool.not_true,cond_false,if_true]
  rw [bQ (by omega) (by omega) (by omega)]
  rfl
theorem Hz (t:ByteArray):ttl t=(if isH 48 t then [tiA t] else [])++(if isH 50 t then [tiA t] else []):=by
 unfold ttl isH
 match h:sbs t with
 | []=>simp
 | [x]=>simp
 | x::y::r =>
  simp only [List.take_succ_cons,List.take_zero,List.cons.injEq,and_true,decide_eq_true_eq]
  by_cases hy:y=59
  ·by_cases h1:x=48
   ·subst h1; simp [hy]
   ·by_cases h2:x=50
    ·subst h2; simp [hy]
    ·simp [h1,h2]
  ·simp [hy]
theorem D6 {p:aE} (h:p.out.length<=999990):iK p=some (nV p):=by
 unfold iK
 have c1:=yW p.text (ByteArray.mk #[48,59]) 48 rfl
 have c2:=yW p.text (ByteArray.mk #[50,59]) 50 rfl
 refine okE (dP (P:=λy=>y=nV p) ?_ λr hr=>cG hr)
 refine sg (λz:aE×Int=>z.2=0/\z.1=stP p 0\/z.2=1/\z.1=⟨0,p.order,p.text,p.cN,p.out++(if isH 48 p.text then [tiA p.text] else [])⟩\/z.2=2/\z.1=nV p) (λz=>2 - z.2.toNat) (.inl ⟨rfl,rfl⟩) ?_
 rintro ⟨q,i⟩ (⟨h1,h2⟩ | ⟨h1,h2⟩ | ⟨h1,h2⟩)
 ·dsimp only at h1 h2
  subst h1 h2
  refine uo (λ_=> ?_) λhh=>absurd (show (0:Int) < 2 from by decide) hh
  refine dP (P:=λy=>y=(⟨0,p.order,p.text,p.cN,p.out++(if isH 48 p.text then [tiA p.text] else [])⟩:aE)) ?_ λy hy=> ?_
  ·refine dP (P:=λx=>x=ByteArray.mk #[48,59]) ⟨_,rfl,rfl⟩ λx hx=> ?_
   subst hx
   rw [show (stP p 0).text=p.text from rfl,c1]
   cases hi:isH 48 p.text with
   | true =>
    simp only [if_true,Option.bind_some,cond_true]
    rw [ux (by show p.out.length<=_; omega)]
    exact cG rfl
   | false =>
    simp only [Bool.false_eq_true,if_false,Option.bind_some,cond_false]
    exact cG (by simp [stP])
  ·subst hy
   exact cG ⟨.inr (.inl ⟨show IntKind.i64.wrap (0+1)=1 from by decide,rfl⟩),show 2 - (IntKind.i64.wrap (0+1)).toNat < 2 - (0:Int).toNat from by decide⟩
 ·dsimp only at h1 h2
  subst h1 h2
  refine uo (λ_=> ?_) λhh=>absurd (show (1:Int) < 2 from by decide) hh
  refine dP (P:=λy=>y=nV p) ?_ λy hy=> ?_
  ·refine dP (P:=λx=>x=ByteArray.mk #[50,59]) ⟨_,rfl,rfl⟩ λx hx=> ?_
   subst hx
   dsimp only
   rw [c2]
   have hl:((if isH 48 p.text then [tiA p.text] else []):List bC).length<=1:=by split <;> simp
   cases hi:isH 50 p.text with
   | true =>
    simp only [if_true,Option.bind_some,cond_true]
    rw [ux (by simp only [List.length_append]; omega)]
    refine cG ?_
    simp only [s7,nV,Hz,hi,if_true,List.append_assoc]
    rfl
   | false =>
    simp only [Bool.false_eq_true,if_false,Option.bind_some,cond_false]
    refine cG ?_
    simp only [nV,Hz,hi,Bool.false_eq_true,if_false,List.append_nil]
  ·subst hy
   exact cG ⟨.inr (.inr ⟨show IntKind.i64.wrap (1+1)=2 from by decide,rfl⟩),show 2 - (IntKind.i64.wrap (1+1)).toNat < 2 - (1:Int).toNat from by decide⟩
 ·dsimp only at h1 h2
  subst h1 h2
  exact uo (λhh=>absurd hh (show ¬ (2:Int) < 2 from by decide)) λ_=>cG rfl
def nR (p:aE) (b:Int):aE:=if b=7 then nV p else if b=24\/b=26 then stP p 0 else if b=27 then stP p 5 else if p.text.size < 200 then ⟨p.state,p.order,p.text++jD [b],p.cN,p.out⟩ else p
theorem HA {p:aE} (h:p.out.length<=999990) (b:Int):iy p b=some (nR p b):=by
 unfold iy nR
 by_cases h1:b=7
 ·subst h1
  rw [if_pos rfl,D6 h]
  rfl
 ·have e1:(b == 7)=false:=by simpa using h1
  rw [if_neg h1,e1,cond_false]
  by_cases h2:b=24\/b=26
  ·have e2:((bif (b == 24) then some true else some (b == 26)):Option Bool)=some true:=by rcases h2 with rfl | rfl <;> rfl
   rw [if_pos h2,e2]; rfl
  ·have e2:((bif (b == 24) then some true else some (b == 26)):Option Bool)=some false:=by
    have x1:(b == 24)=false:=by simpa using (show ¬ b=24 by omega)
    have x2:(b == 26)=false:=by simpa using (show ¬ b=26 by omega)
    rw [x1,x2]; rfl
   rw [if_neg h2,e2,Option.bind_some,cond_false]
   by_cases h3:b=27
   ·subst h3; rfl
   ·have e3:(b == 27)=false:=by simpa using h3
    rw [if_neg h3,e3,cond_false]
    by_cases h4:p.text.size < 200
    ·rw [if_pos h4,decide_eq_true (by omega),cond_true,rZ (by rw [gq]; simp; omega)]; rfl
    ·rw [if_neg h4,decide_eq_false (by omega)]; rfl
def pP (p:aE) (b:Int):aE :=
 if p.state=0 then mf p b else if p.state=1 then kj p b else if p.state=2 then qD p b else if p.state=3 then kV p b else if p.state=4 then nR p b else if b=92 then nV p else kj (stP p 1) b
structure PI (p:aE):Prop where
 di:DI p.cN
 gr:p.state≠0->p.cN=d0
 nu:p.order.aW.length<=16
 n0:0<=p.order.n
 n1:p.order.n<=9999
 tx:p.text.size<=200
theorem J2 {p:aE} (hp:PI p) (h:p.out.length<=999990) {b:Int} (h0:0<=b) (h1:b < 256):kv p b=some (pP p b):=by
 unfold kv pP
 by_cases s0:p.state=0
 ·rw [if_pos s0,s0,Fs h hp.di h0 h1]; rfl
 ·have e0:(p.state == 0)=false:=by simpa using s0
  rw [if_neg s0,e0,cond_false]
  by_cases s1:p.state=1
  ·rw [if_pos s1,s1,yV h]; rfl
  ·have e1:(p.state == 1)=false:=by simpa using s1
   rw [if_neg s1,e1,cond_false]
   by_cases s2:p.state=2
   ·rw [if_pos s2,s2,Hx h]; rfl
   ·have e2:(p.state == 2)=false:=by simpa using s2
    rw [if_neg s2,e2,cond_false]
    by_cases s3:p.state=3
    ·have e3:(p.state == 3)=true:=by simpa using s3
     rw [if_pos s3,e3,cond_true,Cu h s3 hp.nu ⟨hp.n0,hp.n1⟩ h0 h1]; rfl
    ·have e3:(p.state == 3)=false:=by simpa using s3
     rw [if_neg s3,e3,cond_false]
     by_cases s4:p.state=4
     ·rw [if_pos s4,s4,HA h]; rfl
     ·have e4:(p.state == 4)=false:=by simpa using s4
      rw [if_neg s4,e4,cond_false]
      by_cases hb:b=92
      ·subst hb
       rw [if_pos rfl,D6 h]; rfl
      ·have e5:(b == 92)=false:=by simpa using hb
       rw [if_neg hb,e5,cond_false,show aE.mk 1 p.order p.text p.cN p.out=stP p 1 from rfl,yV (by exact h)]; rfl
def clr (p:aE):aE:=⟨p.state,p.order,p.text,p.cN,[]⟩
def ng (l:List bC) (q:aE):aE:=⟨q.state,q.order,q.text,q.cN,l++q.out⟩
theorem oB (p:aE) (b:Int):eS p b=((eS (clr p) b).1,ng p.out (eS (clr p) b).2):=by
 unfold eS
 repeat' split
 all_goals simp [ng,clr,stP,s7]
theorem Cv (p:aE) (b:Int):mg p b=ng p.out (mg (clr p) b):=by
 unfold mg
 rw [show (clr p).order=p.order from rfl]
 split
 all_goals simp [ng,clr,stP]
theorem Cw (p:aE) (b:Int):mf p b=ng p.out (mf (clr p) b):=by
 unfold mf
 split
 ·rw [oB]
  rw [oB (aE.mk (clr p).state (clr p).order (clr p).text d0 ((clr p).out++(xI (clr p).cN).map prA))]
  simp [ng,clr]
 ·simp [ng,clr,oA]
theorem xJ (p:aE) (b:Int):kj p b=ng p.out (kj (clr p) b):=by
 unfold kj
 rw [oB p b]
 dsimp only
 split
 ·rfl
 ·repeat' split
  all_goals simp [ng,clr,stP,s7]
theorem HB (p:aE) (b:Int):qD p b=ng p.out (qD (clr p) b):=by
 unfold qD
 rw [oB p b]
 dsimp only
 split
 ·rfl
 ·split
  all_goals simp [ng,clr,stP]
theorem Be (p:aE) (b:Int):kV p b=ng p.out (kV (clr p) b):=by
 unfold kV
 rw [oB p b]
 dsimp only
 split
 ·rfl
 ·split
  ·exact Cv _ b
  ·simp [ng,clr]
theorem Bf (p:aE):nV p=ng p.out (nV (clr p)):=by simp [nV,ng,clr]
theorem Fu (p:aE) (b:Int):nR p b=ng p.out (nR (clr p) b):=by
 unfold nR
 rw [show (clr p).text=p.text from rfl]
 split
 ·exact Bf p
 ·repeat' split
  all_goals simp [ng,clr,stP]
theorem one_add (p:aE) (b:Int):pP p b=ng p.out (pP (clr p) b):=by
 unfold pP
 rw [show (clr p).state=p.state from rfl]
 split
 ·exact Cw p b
 ·split
  ·exact xJ p b
  ·split
   ·exact HB p b
   ·split
    ·exact Be p b
    ·split
     ·exact Fu p b
     ·split
      ·exact Bf p
      ·exact xJ (stP p 1) b
def prun (p:aE) (bs:List Int):aE:=bs.foldl pP p
theorem HC (a b:List bC) (q:aE):ng a (ng b q)=ng (a++b) q:=by simp [ng]
theorem HD (a:List bC) (q:aE):clr (ng a q)=clr q:=rfl
theorem HE (q:aE):ng q.out (clr q)=q:=by simp [ng,clr]
theorem xK: ∀ (bs:List Int) (p:aE),prun p bs=ng p.out (prun (clr p) bs)
 | [],p=>(HE p).symm
 | b::bs,p=>by
  show prun (pP p b) bs=ng p.out (prun (pP (clr p) b) bs)
  rw [xK bs (pP p b),xK bs (pP (clr p) b),one_add p b,HC,HD]
  rfl
theorem Bg (p:aE) (a b:List Int):prun p (a++b)=prun (prun p a) b:=List.foldl_append ..
theorem su {p:aE} (h:PI p) (hr:p.cN=d0) (b:Int):PI (eS p b).2/\(eS p b).2.out.length<=p.out.length+1:=by
 unfold eS
 split
 ·exact ⟨⟨h.di,λ_=>hr,h.nu,h.n0,h.n1,h.tx⟩,Nat.le_succ _⟩
 ·split
  ·exact ⟨⟨h.di,λ_=>hr,h.nu,h.n0,h.n1,h.tx⟩,Nat.le_succ _⟩
  ·split
   ·exact ⟨⟨h.di,λ_=>hr,h.nu,h.n0,h.n1,h.tx⟩,by simp [s7]⟩
   ·exact ⟨h,Nat.le_succ _⟩
theorem Fv {p:aE} (h:PI p) (hs:p.state=0) {b:Int} (h0:0<=b) (h1:b < 256):PI (mf p b)/\(mf p b).out.length<=p.out.length+2:=by
 unfold mf
 have hl:(xI p.cN).length<=1:=by unfold xI; split <;> simp
 split
 ·have:=su (p:=⟨p.state,p.order,p.text,d0,p.out++(xI p.cN).map prA⟩) ⟨DI0,λ_=>rfl,h.nu,h.n0,h.n1,h.tx⟩ rfl b
  refine ⟨this.1,Nat.le_trans this.2 ?_⟩
  simp
  omega
 ·obtain ⟨n1,n2,n3,n4⟩:=xH h.di h0 h1
  exact ⟨⟨n2,λhh=>absurd hs hh,h.nu,h.n0,h.n1,h.tx⟩,by simp [oA]; omega⟩
theorem yX {p:aE} (h:PI p) (hr:p.cN=d0) (b:Int):PI (kj p b)/\(kj p b).out.length<=p.out.length+1:=by
 unfold kj
 split
 ·exact su h hr b
 ·split
  ·exact ⟨⟨h.di,λ_=>hr,by simp [o0],by simp [o0],by simp [o0],h.tx⟩,Nat.le_succ _⟩
  ·split
   ·exact ⟨⟨h.di,λ_=>hr,h.nu,h.n0,h.n1,by simp [ByteArray.size]⟩,Nat.le_succ _⟩
   ·split
    ·exact ⟨⟨h.di,λ_=>hr,h.nu,h.n0,h.n1,h.tx⟩,Nat.le_succ _⟩
    ·split
     ·exact ⟨⟨h.di,λ_=>hr,h.nu,h.n0,h.n1,h.tx⟩,by simp [s7,stP]⟩
     ·exact ⟨⟨h.di,λ_=>hr,h.nu,h.n0,h.n1,h.tx⟩,Nat.le_succ _⟩
theorem J3 {p:aE} (h:PI p) (hr:p.cN=d0) (b:Int):PI (qD p b)/\(qD p b).out.length<=p.out.length+1:=by
 unfold qD
 split
 ·exact su h hr b
 ·split
  ·exact ⟨⟨h.di,λ_=>hr,h.nu,h.n0,h.n1,h.tx⟩,Nat.le_succ _⟩
  ·exact ⟨h,Nat.le_succ _⟩
theorem vm {o:eZ} (h:o.aW.length<=16):(vQ o).aW.length<=16:=by
 unfold vQ
 dsimp only
 split
 ·simp; omega
 ·exact h
theorem Fw {p:aE} (h:PI p) (hr:p.cN=d0) (b:Int):PI (mg p b)/\(mg p b).out.length<=p.out.length+1:=by
 unfold mg
 cases p.order.mA with
 | true=>exact ⟨⟨h.di,λ_=>hr,h.nu,h.n0,h.n1,h.tx⟩,Nat.le_succ _⟩
 | false =>
  cases p.order.some with
  | true=>exact ⟨⟨h.di,λ_=>hr,vm h.nu,Int.le_refl 0,show (0:Int)<=9999 from by decide,h.tx⟩,by simp⟩
  | false=>exact ⟨⟨h.di,λ_=>hr,h.nu,h.n0,h.n1,h.tx⟩,by simp⟩
theorem Cx {p:aE} (h:PI p) (hr:p.cN=d0) {b:Int} (h0:0<=b):PI (kV p b)/\(kV p b).out.length<=p.out.length+1:=by
 unfold kV
 split
 ·exact su h hr b
 ·split
  ·exact Fw (p:=⟨p.state,J0 p.order,p.text,p.cN,p.out⟩) ⟨h.di,λ_=>hr,h.nu,h.n0,h.n1,h.tx⟩ hr b
  ·refine ⟨⟨h.di,λ_=>hr,?_,?_,?_,h.tx⟩,Nat.le_succ _⟩
   all_goals (dsimp only; unfold pO; split)
   ·exact h.nu
   ·split
    ·exact vm h.nu
    ·split <;> exact h.nu
   ·rename_i hh
    have:=h.n0
    unfold dF
    dsimp only
    split <;> omega
   ·split
    ·exact Int.le_refl 0
    ·split <;> exact h.n0
   ·rename_i hh
    unfold dF
    dsimp only
    split <;> omega
   ·split
    ·show (0:Int)<=9999; decide
    ·split <;> exact h.n1
theorem D7 {p:aE} (h:PI p) (hr:p.cN=d0):PI (nV p)/\(nV p).out.length<=p.out.length+1:=⟨⟨h.di,λ_=>hr,h.nu,h.n0,h.n1,h.tx⟩,by have:=J1 p.text; simp [nV]; omega⟩
theorem HF {p:aE} (h:PI p) (hr:p.cN=d0) (b:Int):PI (nR p b)/\(nR p b).out.length<=p.out.length+1:=by
 unfold nR
 split
 ·exact D7 h hr
 ·split
  ·exact ⟨⟨h.di,λ_=>hr,h.nu,h.n0,h.n1,h.tx⟩,Nat.le_succ _⟩
  ·split
   ·exact ⟨⟨h.di,λ_=>hr,h.nu,h.n0,h.n1,h.tx⟩,Nat.le_succ _⟩
   ·split
    ·rename_i ht
     refine ⟨⟨h.di,λ_=>hr,h.nu,h.n0,h.n1,?_⟩,Nat.le_succ _⟩
     dsimp only
     have e:(p.text++jD [b]).size=p.text.size+1:=by rw [<- bG,oy,List.length_append,bG,bG,gq]; rfl
     omega
    ·exact ⟨h,Nat.le_succ _⟩
theorem Cy {p:aE} (h:PI p) {b:Int} (h0:0<=b) (h1:b < 256):PI (pP p b)/\(pP p b).out.length<=p.out.length+2:=by
 unfold pP
 split
 ·rename_i hs; exact Fv h hs h0 h1
 ·rename_i hs
  have hr:=h.gr hs
  have up: ∀ q:aE,PI q/\q.out.length<=p.out.length+1->PI q/\q.out.length<=p.out.length+2:=λq hq=>⟨hq.1,by omega⟩
  split
  ·exact up _ (yX h hr b)
  ·split
   ·exact up _ (J3 h hr b)
   ·split
    ·exact up _ (Cx h hr h0)
    ·split
     ·exact up _ (HF h hr b)
     ·split
      ·exact up _ (D7 h hr)
      ·exact up _ (yX (p:=stP p 1) ⟨h.di,λ_=>hr,h.nu,h.n0,h.n1,h.tx⟩ hr b)
theorem sx: ∀ (bs:List Int) {p:aE},PI p->(∀ b∈bs,0<=b/\b < 256)->PI (prun p bs)/\(prun p bs).out.length<=p.out.length+2*bs.length
 | [],p,h,_=>⟨h,by simp [prun]⟩
 | b::bs,p,h,hb=>by
  obtain ⟨b0,b1⟩:=hb b List.mem_cons_self
  obtain ⟨k1,k2⟩:=Cy h b0 b1
  obtain ⟨k3,k4⟩:=sx bs k1 λx hx=>hb x (List.mem_cons_of_mem _ hx)
  exact ⟨k3,by show (prun (pP p b) bs).out.length<=_; simp; omega⟩
theorem J4 {p:aE} (h:PI p) {s:ByteArray} (hs:s.size<=400000):jR p s=some ((prun (clr p) (sbs s)).out,clr (prun (clr p) (sbs s))):=by
 unfold jR
 have hc:PI (clr p):=⟨h.di,h.gr,h.nu,h.n0,h.n1,h.tx⟩
 refine okE (dP (P:=λy=>y=prun (clr p) (sbs s)) ?_ λr hr=>by subst hr; exact cG rfl)
 refine sg (λz:aE×Int=>0<=z.2/\z.2<=s.size/\z.1=prun (clr p) ((sbs s).take z.2.toNat)) (λz=>s.size - z.2.toNat) ⟨Int.le_refl 0,by dsimp only; omega,rfl⟩ ?_
 rintro ⟨q,i⟩ ⟨h0,h1,h2⟩
 dsimp only at h0 h1 h2 ⊢
 subst h2
 have hby: ∀ b∈(sbs s).take i.toNat,0<=b/\b < 256:=λb hb=>kz s b (List.mem_of_mem_take hb)
 obtain ⟨k1,k2⟩:=sx _ hc hby
 refine uo (λhi=> ?_) λhi=>cG (by rw [List.take_of_length_le (by rw [bG]; omega)])
 refine dP (Hw h0 hi) λb hb=> ?_
 obtain ⟨⟨b0,b1⟩,hbd⟩:=hb
 have hlen:((sbs s).take i.toNat).length=i.toNat:=by rw [List.length_take,bG]; omega
 have hco:(clr p).out.length=0:=rfl
 rw [J2 k1 (by omega) b0 b1,w64 (by omega) (by omega)]
 refine cG ⟨⟨by dsimp only; omega,by dsimp only; omega,?_⟩,by dsimp only; omega⟩
 dsimp only
 have ht:(sbs s).take (i+1).toNat=(sbs s).take i.toNat++[b]:=by
  rw [show (i+1).toNat=i.toNat+1 by omega,List.take_add_one]
  congr 1
  have:=congrArg (λl=>l[0]?) hbd
  simp only [List.getElem?_drop,Nat.add_zero,List.getElem?_cons_zero] at this
  rw [this]
  rfl
 rw [ht,Bg]
 rfl
def tA (a:bC):kF:=⟨a.kind,a.rune,a.byte,a.dZ,a.aW,a.text⟩
def HG (o:eZ):eZ:=if o.some then vQ o else o
def Cz (o:eZ) (b:Int):List bC:=if o.mA then [] else [cmA (HG o) b]
theorem yY (p:aE) (b:Int):(mg p b).out=p.out++Cz p.order b:=by
 unfold mg Cz HG
 cases p.order.mA <;> simp [stP]
end Go.Tw.X
set_option maxHeartbeats 2000000
namespace Go.Tw.X
open Go Go.Tw
def p0:aE:=⟨0,o0,ByteArray.mk #[],d0,[]⟩
theorem KO:PI p0:=⟨DI0,λh=>absurd rfl h,by simp [p0,o0],by simp [p0,o0],by simp [p0,o0],by simp [p0,ByteArray.size]⟩
theorem Bh (o:eZ) (b:Int):Cz (J0 o) b=Cz o b:=by
 unfold Cz HG J0 vQ
 cases o.some <;> rfl
end Go.Tw.X
set_option maxHeartbeats 1000000
namespace Go.Tw.X
open Go Go.Tw
def aOk (a:bC):Prop:=rok a.rune/\0<=a.byte/\a.byte < 256/\a.aW.length<=16
def ry (l:List bC):Prop:= ∀ a∈l,aOk a
theorem pQ {a b:List bC} (ha:ry a) (hb:ry b):ry (a++b):=λx h=>(List.mem_append.1 h).elim (ha x) (hb x)
theorem uy {a:bC} (h:aOk a):ry [a]:=λx hx=>by rw [List.mem_singleton.1 hx]; exact h
theorem D8 {l:List Int} (h:L6 l):ry (l.map prA):=λx hx=>by
 obtain ⟨r,hr,rfl⟩:=List.mem_map.1 hx
 exact ⟨h r hr,by show (0:Int)<=0; decide,by show (0:Int) < 256; decide,by show 0<=16; decide⟩
theorem HH (t:ByteArray):ry (ttl t):=by
 have hz:rok 0:=⟨by decide,by decide⟩
 unfold ttl
 split
 ·split
  ·exact uy ⟨hz,by show (0:Int)<=0; decide,by show (0:Int) < 256; decide,by show 0<=16; decide⟩
  ·exact λx hx=>by cases hx
 ·exact λx hx=>by cases hx
theorem sA {p:aE} (h:ry p.out) {b:Int} (h0:0<=b) (h1:b < 256):ry (eS p b).2.out:=by
 have hz:rok 0:=⟨by decide,by decide⟩
 unfold eS
 split
 ·exact h
 ·split
  ·exact h
  ·split
   ·exact pQ h (uy ⟨hz,h0,h1,by show 0<=16; decide⟩)
   ·exact h
theorem L9 {p:aE} (hp:PI p) (h:ry p.out) {b:Int} (h0:0<=b) (h1:b < 256):ry (pP p b).out:=by
 have hz:rok 0:=⟨by decide,by decide⟩
 have hesc: ∀ q:aE,ry q.out->ry (kj q b).out:=λq hq=>by
  unfold kj
  split
  ·exact sA hq h0 h1
  ·repeat' split
   all_goals first | exact hq | exact pQ hq (uy ⟨hz,h0,h1,by show 0<=16; decide⟩)
 have hov: ∀ q:aE,ry q.out->ry (nV q).out:=λq hq=>pQ hq (HH _)
 unfold pP
 split
 ·unfold mf
  split
  ·refine sA (pQ h (D8 λx hx=> ?_)) h0 h1
   unfold xI at hx
   split at hx
   ·cases hx
   ·rw [List.mem_singleton.1 hx]; exact ⟨by decide,by decide⟩
  ·exact pQ h (D8 (xH hp.di h0 h1).2.2.2)
 ·split
  ·exact hesc p h
  ·split
   ·unfold qD
    split
    ·exact sA h h0 h1
    ·split <;> exact h
   ·split
    ·unfold kV
     split
     ·exact sA h h0 h1
     ·split
      ·rw [yY,Bh]
       refine pQ h ?_
       unfold Cz
       split
       ·exact λx hx=>by cases hx
       ·refine uy ⟨hz,h0,h1,?_⟩
        show (HG p.order).aW.length<=16
        unfold HG
        split
        ·exact vm hp.nu
        ·exact hp.nu
      ·exact h
    ·split
     ·unfold nR
      repeat' split
      all_goals first | exact h | exact hov p h
     ·split
      ·exact hov p h
      ·exact hesc (stP p 1) h
theorem zM: ∀ (bs:List Int) {p:aE},PI p->ry p.out->(∀ b∈bs,0<=b/\b < 256)->ry (prun p bs).out
 | [],p,_,h,_=>h
 | b::bs,p,hp,h,hb=>by
  obtain ⟨b0,b1⟩:=hb b List.mem_cons_self
  exact zM bs (Cy hp b0 b1).1 (L9 hp h b0 b1) λx hx=>hb x (List.mem_cons_of_mem _ hx)
theorem Ma {a:bC} (h:aOk a):tG (tA a)=a/\okA (tA a):=by
 obtain ⟨h1,h2,h3,h4⟩:=h
 refine ⟨?_,h1,h2,h3,by show a.aW.length<=18; omega⟩
 have w8:IntKind.u8.wrap a.byte=a.byte:=by simp [IntKind.wrap,IntKind.bits,IntKind.signed]; omega
 unfold tG tA
 simp only [Fo h1,w8]
theorem vn: ∀ (n:Nat) (l:List aH),∀ x∈qC n l,x∈l
 | 0,l,x,h=>h
 | n+1,l,x,h=>by
  unfold qC at h
  split at h
  ·exact List.dropLast_subset l (vn n _ x h)
  ·exact h
theorem HI {r:aG} {g:aJ} (h:g∈ou r): ∃ c∈r.cells,g.rune=c.rune:=by
 unfold ou tw at h
 obtain ⟨c,hc,rfl⟩:=List.mem_map.1 h
 have hc2:=(List.mem_filter.1 hc).1
 split at hc2
 ·exact ⟨c,hc2,rfl⟩
 ·exact ⟨c,vn _ _ c hc2,rfl⟩
def ki (W:Nat) (y:aB×(List (List aJ)×List aJ)) (a:bC):aB×(List (List aJ)×List aJ):=(acS W y.1 a,(acF W y.1 a).foldl qK y.2)
theorem uz {W:Nat} {r:aG} (h:gok W r) (hW:W<=1000):AM r:=⟨by rw [h.1]; exact hW,λg hg=>by
 obtain ⟨c,hc,e⟩:=HI hg
 rw [e]
 exact h.2 c hc⟩
theorem HJ {W k:Nat} {y:aB×(List (List aJ)×List aJ)} (hs:SI W y.1) (hz:ZI k y.2) {a:bC} (ha:aOk a):SI W (ki W y a).1/\ZI (k+4000) (ki W y a).2:=by
 have ho:=Ct hs.toSJ a
 have hW:=hs.gi.w2
 have h2:=sn (acF W y.1 a) hz λr hr=>uz (ho.2 r hr) hW
 refine ⟨KN hs a ha.1,?_⟩
 have h3:=ho.1
 exact ⟨by have:=h2.n; show ((acF W y.1 a).foldl qK y.2).1.length<=_; omega,h2.b,h2.g,h2.ls⟩
theorem vo {W:Nat}: ∀ (l:List bC) {k:Nat} {y:aB×(List (List aJ)×List aJ)},SI W y.1->ZI k y.2->ry l->SI W (l.foldl (ki W) y).1/\ZI (k+4000*l.length) (l.foldl (ki W) y).2
 | [],k,y,hs,hz,_=>⟨hs,hz⟩
 | a::l,k,y,hs,hz,h=>by
  obtain ⟨h1,h2⟩:=HJ hs hz (h a List.mem_cons_self)
  have:=vo l (k:=k+4000) h1 h2 λx hx=>h x (List.mem_cons_of_mem _ hx)
  rw [show k+4000*(a::l).length=k+4000+4000*l.length by simp; omega]
  exact this
theorem Mb {W:Nat} {s:aB} (h:SI W s) {a:bC} (ha:aOk a):fX s a=some (acF W s a,acS W s a):=by
 obtain ⟨e,ho⟩:=Ma ha
 have:=(JX h ho).2.2.1
 rw [e] at this
 exact this
theorem J5 {W k:Nat} {m:bO} {z:List (List aJ)×List aJ} (hs:SI W m.aN) (hz:ZI k z) (hp:PI m.parser) {t:ByteArray} (ht:t.size<=1000) (hk:k<=50000000) :
  iY (λa c=>(Option.bind (iQ a c) λd=>some (d.2,true))) (fK z) m t=some (fK ((prun (clr m.parser) (sbs t)).out.foldl (ki W) (m.aN,z)).2,⟨m.book,clr (prun (clr m.parser) (sbs t)),((prun (clr m.parser) (sbs t)).out.foldl (ki W) (m.aN,z)).1,m.k⟩):=by
 unfold iY
 rw [J4 hp (by omega),Option.bind_some]
 have hc:PI (clr m.parser):=⟨hp.di,hp.gr,hp.nu,hp.n0,hp.n1,hp.tx⟩
 have hpr:=sx (sbs t) hc (kz t)
 have has:=zM (sbs t) hc (λx hx=>by cases hx) (kz t)
 have hlen:=hpr.2
 rw [bG] at hlen
 have hc0:(clr m.parser).out.length=0:=rfl
 generalize prun (clr m.parser) (sbs t)=q at hpr has hlen
 dsimp only
 refine okE (dP (P:=λ | .inl y=>y=(((q.out.foldl (ki W) (m.aN,z)).1,fK (q.out.foldl (ki W) (m.aN,z)).2):aB×bT) | .inr _=>False) ?_ ?_)
 ·refine sg (λy:aB×Int×bT=>0<=y.2.1/\y.2.1<=q.out.length/\y.1=((q.out.take y.2.1.toNat).foldl (ki W) (m.aN,z)).1/\y.2.2=fK ((q.out.take y.2.1.toNat).foldl (ki W) (m.aN,z)).2) (λy=>q.out.length - y.2.1.toNat) ⟨Int.le_refl 0,by dsimp only; omega,rfl,rfl⟩ ?_
  rintro ⟨s,i,b⟩ ⟨h0,h1,h2,h3⟩
  dsimp only at h0 h1 h2 h3 ⊢
  subst h2 h3
  refine uo (λhi=> ?_) λhi=> ?_
  ·obtain ⟨j,rfl⟩: ∃ j:Nat,i=j:=⟨i.toNat,by omega⟩
   have hj:j < q.out.length:=by omega
   rw [show ((j:Int)).toNat=j from rfl]
   have hst:=vo (W:=W) (q.out.take j) (k:=k) (y:=(m.aN,z)) hs hz λx hx=>has x (List.mem_of_mem_take hx)
   rw [List.length_take] at hst
   have ha:=has q.out[j] (List.getElem_mem hj)
   have hnext:(q.out.take (j+1)).foldl (ki W) (m.aN,z)=ki W ((q.out.take j).foldl (ki W) (m.aN,z)) q.out[j]:=by
    rw [List.take_add_one,List.getElem?_eq_getElem hj,Option.toList_some,List.foldl_append]
    rfl
   generalize (q.out.take j).foldl (ki W) (m.aN,z)=y at hst hnext
   have ho:=Ct hst.1.toSJ q.out[j]
   have hW:=hst.1.gi.w2
   have hol:=ho.1
   rw [dC _ j hj,Option.bind_some,Mb hst.1 ha,Option.bind_some]
   obtain ⟨r,hr1,hr2⟩:=add_eq hst.2 (rows:=acF W y.1 q.out[j]) (λr hr=>uz (ho.2 r hr) hW) (by omega)
   rw [hr1]
   simp only [Option.bind_some,Bool.not_true,cond_false]
   rw [w64 (by omega) (by omega)]
   refine cG ⟨⟨by dsimp only; omega,by dsimp only; omega,?_,?_⟩,by dsimp only; omega⟩
   ·dsimp only
    rw [show ((j:Int)+1).toNat=j+1 by omega,hnext]
    rfl
   ·dsimp only
    rw [show ((j:Int)+1).toNat=j+1 by omega,hnext,hr2]
    rfl
  ·refine cG ?_
   rw [List.take_of_length_le (by omega)]
 ·rintro (y | y) h
  ·subst h
   exact cG rfl
  ·exact h.elim
theorem news (a t:ByteArray):(prun p0 (sbs (a++t))).out=(prun p0 (sbs a)).out++(prun (clr (prun p0 (sbs a))) (sbs t)).out/\clr (prun p0 (sbs (a++t)))=clr (prun (clr (prun p0 (sbs a))) (sbs t)):=by
 rw [oy,Bg,xK (sbs t) (prun p0 (sbs a))]
 exact ⟨rfl,rfl⟩
def ru (x:Int):Prop:=0<=x/\x<=1114111
def rus (l:List Int):Prop:= ∀ x∈l,ru x
structure D2 (d:bV):Prop where
 r0:0<=d.rune
 r3:d.ja=3->d.rune<=4/\(d.rune=4->d.lead=244)
 r2:d.ja=2->d.rune<=271
 r1:d.ja=1->d.rune<=17407
theorem D20:D2 d0:=⟨by decide,by decide,by decide,by decide⟩
theorem CA {x:Int} (h:ru x):rus [x]:=λy hy=>by rw [List.mem_singleton.1 hy]; exact h
theorem CB:ru 65533:=⟨by decide,by decide⟩
theorem Mc {b:Int} (h0:0<=b) (h1:b < 256):0<=yk b/\((jw b).1=3->yk b<=4/\(yk b=4->b=244))/\((jw b).1=2->yk b<=15)/\((jw b).1=1->yk b<=31):=by
 unfold yk jw
 repeat' split
 all_goals simp_all
 all_goals omega
theorem Nm {b:Int} (h0:0<=b) (h1:b < 256):D2 (v9 b).1/\rus (v9 b).2:=by
 unfold v9
 obtain ⟨l0,l3,l2,l1⟩:=Mc h0 h1
 split
 ·exact ⟨D20,CA ⟨h0,by omega⟩⟩
 ·split
  ·exact ⟨D20,CA CB⟩
  ·refine ⟨⟨l0,l3,λe=> ?_,λe=> ?_⟩,λx hx=>by cases hx⟩
   ·have:=l2 e; show yk b<=271; omega
   ·have:=l1 e; show yk b<=17407; omega
theorem J6 {d:bV} {b:Int} (h0:0<=b) (hn:(jw d.lead).1=d.ja) (h3:d.ja=3) (h4:d.lead=244) (hf:Fq d b=true):b % 64<=15:=by
 unfold Fq at hf
 rw [if_neg (by omega),h4] at hf
 have e:jw 244=(3,128,143):=by decide
 rw [e] at hf
 have:=of_decide_eq_true hf
 dsimp only at this
 omega
theorem HK {d:bV} (hd:DI d) (h:D2 d) {b:Int} (h0:0<=b) (h1:b < 256):D2 (s6 d b).1/\rus (s6 d b).2:=by
 unfold s6
 obtain ⟨k1,k2⟩:=Nm h0 h1
 split
 ·exact ⟨k1,k2⟩
 ·rename_i hn
  rcases hd with rfl | ⟨l0,l1,n1,n2,r0,r3,r2,r1⟩
  ·exact absurd (by decide) hn
  have hk:=(uw d.lead).1
  split
  ·rename_i hf
   split
   ·rename_i hn1
    have:=h.r1 hn1
    exact ⟨D20,CA ⟨by omega,by omega⟩⟩
   ·rename_i hn1
    refine ⟨⟨by show 0<=d.rune*64+b % 64; omega,λe=> ?_,λe=> ?_,λe=> ?_⟩,λx hx=>by cases hx⟩
    ·change d.ja - 1=3 at e; omega
    ·change d.ja - 1=2 at e
     show d.rune*64+b % 64<=271
     have h3:d.ja=3:=by omega
     obtain ⟨a1,a2⟩:=h.r3 h3
     by_cases c:d.rune=4
     ·have:=J6 h0 (by omega) h3 (a2 c) hf; omega
     ·omega
    ·change d.ja - 1=1 at e
     show d.rune*64+b % 64<=17407
     have:=h.r2 (by omega)
     omega
  ·refine ⟨k1,λx hx=> ?_⟩
   rcases List.mem_cons.1 hx with rfl | hx
   ·exact CB
   ·exact k2 x hx
def aGd (a:bC):Prop:=ru a.rune/\a.text.size<=200
def sH (l:List bC):Prop:= ∀ a∈l,aGd a
theorem pR {a b:List bC} (ha:sH a) (hb:sH b):sH (a++b):=λx h=>(List.mem_append.1 h).elim (ha x) (hb x)
theorem uA {a:bC} (h:aGd a):sH [a]:=λx hx=>by rw [List.mem_singleton.1 hx]; exact h
theorem J7:(ByteArray.mk #[]).size<=200:=by decide
theorem ru0:ru 0:=⟨by decide,by decide⟩
theorem D9 {l:List Int} (h:rus l):sH (l.map prA):=λx hx=>by
 obtain ⟨r,hr,rfl⟩:=List.mem_map.1 hx
 exact ⟨h r hr,J7⟩
theorem HL {t:ByteArray} (h:t.size<=200):sH (ttl t):=by
 have hg:2<=t.size->aGd (tiA t):=λh2=>⟨ru0,by show (gB t 2 t.size).size<=200; rw [AY _ (by omega) (by omega) (by omega)]; omega⟩
 unfold ttl
 split
 ·rename_i x y l e
  have:2<=t.size:=by have:=congrArg List.length e; rw [bG] at this; simp at this; omega
  split
  ·exact uA (hg this)
  ·exact λx hx=>by cases hx
 ·exact λx hx=>by cases hx
theorem sB {p:aE} (h:sH p.out) (b:Int):sH (eS p b).2.out:=by
 unfold eS
 split
 ·exact h
 ·split
  ·exact h
  ·split
   ·exact pR h (uA ⟨ru0,J7⟩)
   ·exact h
theorem Md {p:aE} (hp:PI p) (hd:D2 p.cN) (h:sH p.out) {b:Int} (h0:0<=b) (h1:b < 256):sH (pP p b).out:=by
 have hesc: ∀ q:aE,sH q.out->sH (kj q b).out:=λq hq=>by
  unfold kj
  split
  ·exact sB hq b
  ·repeat' split
   all_goals first | exact hq | exact pR hq (uA ⟨ru0,J7⟩)
 have hov:sH (nV p).out:=pR h (HL hp.tx)
 unfold pP
 split
 ·unfold mf
  split
  ·refine sB (pR h (D9 λx hx=> ?_)) b
   unfold xI at hx
   split at hx
   ·cases hx
   ·rw [List.mem_singleton.1 hx]; exact CB
  ·exact pR h (D9 (HK hp.di hd h0 h1).2)
 ·split
  ·exact hesc p h
  ·split
   ·unfold qD
    split
    ·exact sB h b
    ·split <;> exact h
   ·split
    ·unfold kV
     split
     ·exact sB h b
     ·split
      ·rw [yY,Bh]
       refine pR h ?_
       unfold Cz
       split
       ·exact λx hx=>by cases hx
       ·exact uA ⟨ru0,J7⟩
      ·exact h
    ·split
     ·unfold nR
      repeat' split
      all_goals first | exact h | exact hov
     ·split
      ·exact hov
      ·exact hesc (stP p 1) h
theorem oc (p:aE) (b:Int):(eS p b).2.cN=p.cN:=by
 unfold eS
 repeat' split
 all_goals rfl
theorem uB (p:aE) (b:Int):(kj p b).cN=p.cN:=by
 unfold kj
 split
 ·exact oc p b
 ·repeat' split
  all_goals rfl
theorem Me {p:aE} (hp:PI p) (hd:D2 p.cN) {b:Int} (h0:0<=b) (h1:b < 256):D2 (pP p b).cN:=by
 unfold pP
 split
 ·unfold mf
  split
  ·rw [oc]; exact D20
  ·exact (HK hp.di hd h0 h1).1
 ·split
  ·rw [uB]; exact hd
  ·split
   ·unfold qD
    split
    ·rw [oc]; exact hd
    ·split <;> exact hd
   ·split
    ·unfold kV
     split
     ·rw [oc]; exact hd
     ·split
      ·unfold mg
       split <;> exact hd
      ·exact hd
    ·split
     ·unfold nR
      repeat' split
      all_goals exact hd
     ·split
      ·exact hd
      ·rw [uB]; exact hd
theorem Ea: ∀ (bs:List Int) {p:aE},PI p->D2 p.cN->sH p.out->(∀ b∈bs,0<=b/\b < 256)->sH (prun p bs).out/\D2 (prun p bs).cN
 | [],p,_,hd,h,_=>⟨h,hd⟩
 | b::bs,p,hp,hd,h,hb=>by
  obtain ⟨b0,b1⟩:=hb b List.mem_cons_self
  exact Ea bs (Cy hp b0 b1).1 (Me hp hd b0 b1) (Md hp hd h b0 b1) λx hx=>hb x (List.mem_cons_of_mem _ hx)
def sy (x:Int):Prop:=0<=x/\x<=647
def cOk (c:aH):Prop:=ru c.rune/\sy c.aO/\0<=c.part/\c.part<=3
theorem Mf {c:aH} (h:cOk c):okC c=true:=by
 obtain ⟨⟨a,b⟩,⟨d,e⟩,f,g⟩:=h
 simp [okC,okG,a,b,d,e,f,g]
theorem qo (s:bJ):sy (lA s):=by
 unfold lA sy
 split
 ·unfold bN
  repeat' split
  all_goals omega
 ·omega
theorem Nn:ru 32:=⟨by decide,by decide⟩
theorem wF {s:Int} (h:sy s):cOk (blk s):=⟨Nn,h,by show (0:Int)<=0; decide,by show (0:Int)<=3; decide⟩
theorem sy0:sy 0:=⟨by decide,by decide⟩
def cR (l:List aH):Prop:= ∀ c∈l,cOk c
theorem Mg:cR []:=λc h=>by cases h
theorem sC: ∀ (l:List aH) (p:Int),cR l->cR (iO p l)
 | [],_,_=>λc hc=>by cases hc
 | c::r,p,h=>by
  intro d hd
  simp only [iO,List.mem_cons] at hd
  rcases hd with rfl | hd
  ·unfold u5
   cases yf p c r with
   | true=>exact wF (h c (by simp)).2.1
   | false=>exact h c (by simp)
  ·exact sC r _ (λe he=>h e (by simp [he])) d hd
theorem xL {l:List aH} (h:cR l) (i:Nat) {c:aH} (hc:cOk c):cR (l.set i c):=by
 intro d hd
 rcases List.mem_or_eq_of_mem_set hd with hd | rfl
 ·exact h d hd
 ·exact hc
theorem Mh {l:List aH} (h:cR l) (at_:Int) {s x:Int} (hx:ru x) (hs:sy s):cR (u7 l at_ x s):=by
 have m: ∀ p:Int,0<=p->p<=3->cOk ⟨x,s,p⟩:=λp a b=>⟨hx,hs,a,b⟩
 unfold u7
 split
 ·exact h
 ·split
  ·exact xL h _ (m 0 (by decide) (by decide))
  ·unfold BV
   have h1:=xL (xL h at_.toNat (m 1 (by decide) (by decide))) (at_.toNat+1) (m 2 (by decide) (by decide))
   split
   ·rename_i c hc
    have hcm:cOk c:=by
     split at hc
     ·exact h1 c (List.mem_of_getElem? hc)
     ·cases hc
    split
    ·exact xL h1 _ (wF hcm.2.1)
    ·exact h1
   ·exact h1
theorem zN (n:Nat) {s:Int} (h:sy s):cR (List.replicate n (blk s)):=λc hc=>by rw [List.eq_of_mem_replicate hc]; exact wF h
theorem xM {a b:List aH} (ha:cR a) (hb:cR b):cR (a++b):=λc hc=>(List.mem_append.1 hc).elim (ha c) (hb c)
theorem wG {a:List aH} (ha:cR a) (n:Nat):cR (a.take n):=λc hc=>ha c (List.mem_of_mem_take hc)
theorem Ec {a:List aH} (ha:cR a) (n:Nat):cR (a.drop n):=λc hc=>ha c (List.mem_of_mem_drop hc)
theorem xN (a b:Int) {s:Int} (hs:sy s): ∀ {l:List aH} (i:Int),cR l->cR (kK a b s i l)
 | [],_,_=>λc hc=>by cases hc
 | c::r,i,h=>by
  intro d hd
  simp only [kK,List.mem_cons] at hd
  rcases hd with rfl | hd
  ·split
   ·exact wF hs
   ·exact h c (by simp)
  ·exact xN a b hs (i+1) (λe he=>h e (by simp [he])) d hd
theorem J8 {l:List aH} (h:cR l) {q:Int} (hq:sy q):cR (oT l q):=xL h _ ⟨Nn,hq,by show (0:Int)<=3; decide,by show (3:Int)<=3; decide⟩
theorem Mi {l:List aH} (h:cR l) (a n:Int) {q:Int} (hq:sy q):cR (ins l a n q):=by
 unfold ins
 split
 ·exact h
 ·exact wG (xM (xM (wG h _) (zN _ hq)) (Ec h _)) _
theorem Mj {l:List aH} (h:cR l) (a n:Int) {q:Int} (hq:sy q):cR (del l a n q):=by
 unfold del
 split
 ·exact h
 ·exact xM (xM (wG h _) (Ec h _)) (zN _ hq)
def gR2 (l:List aG):Prop:= ∀ r∈l,cR r.cells
theorem oW {a b:List aG} (ha:gR2 a) (hb:gR2 b):gR2 (a++b):=λc hc=>(List.mem_append.1 hc).elim (ha c) (hb c)
theorem mW {a:List aG} (ha:gR2 a) (n:Nat):gR2 (a.take n):=λc hc=>ha c (List.mem_of_mem_take hc)
theorem oC {a:List aG} (ha:gR2 a) (n:Nat):gR2 (a.drop n):=λc hc=>ha c (List.mem_of_mem_drop hc)
theorem wH (k W:Nat) {s:Int} (h:sy s):gR2 (List.replicate k (iF W s)):=λc hc=>by rw [List.eq_of_mem_replicate hc]; exact zN W h
theorem mh:gR2 []:=λc h=>by cases h
theorem tH {l:List aG} (h:gR2 l) (y:Int):cR (kU l y).cells:=by
 unfold kU
 split
 ·rename_i hy
  rw [List.getElem?_eq_getElem (by omega)]
  exact h _ (List.getElem_mem _)
 ·exact Mg
theorem HM (W:Nat) {r:aG} (h:cR r.cells):cR (rsz W r).cells:=by
 unfold rsz
 split
 ·exact h
 ·exact sC _ _ (xM (wG h _) (zN _ sy0))
theorem Ed (W:Nat) {l:List aG} (h:gR2 l) (y:Int) {r:aG} (hr:cR r.cells):gR2 (sG W l y r):=by
 unfold sG
 split
 ·intro q hq
  rcases List.mem_or_eq_of_mem_set hq with hq | hq
  ·exact h q hq
  ·rw [hq]; exact HM W hr
 ·exact h
theorem HO (W:Nat) {l:List aG} (h:gR2 l) (t b n:Int) {s:Int} (hs:sy s):gR2 (upL W l t b n s):=by
 unfold upL
 split
 ·exact h
 ·exact oW (oW (mW h _) (oW (oC (oC (mW h _) _) _) (wH _ _ hs))) (oC h _)
theorem J9 {l:List aG} (h:gR2 l) (t b n:Int):gR2 (upO l t b n):=by
 unfold upO
 split
 ·exact mh
 ·exact mW (oC (mW h _) _) _
theorem HP (W:Nat) {l:List aG} (h:gR2 l) (t b n:Int) {s:Int} (hs:sy s):gR2 (rm W l t b n s):=by
 unfold rm
 split
 ·exact h
 ·exact oW (oW (mW h _) (oW (wH _ _ hs) (mW (oC (mW h _) _) _))) (oC h _)
theorem Mk (W:Nat) {l:List aG} (h:gR2 l) (c H:Nat):gR2 (rzL W l c H):=by
 intro r hr
 unfold rzL at hr
 obtain ⟨q,hq,rfl⟩:=List.mem_map.1 hr
 exact HM W (oW (mW (oC h _) _) (wH _ W sy0) q hq)
structure SC (s:aB):Prop where
 g:gR2 s.g.l
 t:s.title.size<=200
variable {W : Nat} {s : aB}
theorem dT {p:Prop} [Decidable p] {a b:aB} (ha:SC a) (hb:SC b):SC (if p then a else b):=by split <;> assumption
theorem kO {p:Prop} [Decidable p] {a b:List aG} (ha:gR2 a) (hb:gR2 b):gR2 (if p then a else b):=by split <;> assumption
theorem oD (h:SC s) (x y:Int):SC (mvS s x y):=⟨h.g,h.t⟩
theorem s8 (h:SC s):SC (nwS s):=⟨h.g,h.t⟩
theorem CC (h:SC s) (x:Int):SC (xS s x):=⟨h.g,h.t⟩
theorem Ee (h:SC s) (y:Int) {r:aG} (hr:cR r.cells):SC (seS W s y r):=⟨Ed W h.g y hr,h.t⟩
theorem KP (h:SC s) (n:Int):SC (upS W s n):=⟨HO W h.g _ _ _ (qo _),h.t⟩
theorem Ml (h:SC s) (t b n:Int):SC (upT W s t b n):=⟨HO W h.g _ _ _ (qo _),h.t⟩
theorem HQ (h:SC s) (t b n:Int):SC (dnS W s t b n):=⟨HP W h.g _ _ _ (qo _),h.t⟩
theorem Ef (h:SC s) (n:Int):gR2 (upF s n):=kO mh (J9 h.g _ _ _)
theorem Bi (h:SC s):SC (liS W s):=dT (KP (s8 h) 1) (oD (s8 h) _ _)
theorem xO (h:SC s):gR2 (liF s):=kO (Ef (s8 h) 1) mh
theorem No (h:SC s):cR (r2S s).cells:=sC _ _ (J8 (tH h.g _) (qo _))
theorem Np (h:SC s) {r:Int} (hr:ru r):cR (r3S s r).cells:=sC _ _ (Mh (tH h.g _) _ hr (qo _))
theorem Ov (h:SC s):SC (aS W s)/\gR2 (aF W s):=by
 have k:SC (xS (seS W s s.spot.y (r1S s)) 0):=CC (Ee h _ (r:=r1S s) (tH h.g _)) 0
 exact ⟨dT (Bi k) h,kO (xO k) mh⟩
theorem Ow (h:SC s) (n:Int):SC (bS W s n)/\gR2 (bF W s n):=by
 have k:SC (xS (seS W s s.spot.y (r2S s)) 0):=CC (Ee h _ (No h)) 0
 exact ⟨dT (dT (Bi k) (CC h _)) h,kO (kO (xO k) mh) mh⟩
theorem Nq (h:SC s) {r:Int} (hr:ru r):SC (prS W s r)/\gR2 (prF W s r):=by
 obtain ⟨a1,a2⟩:=Ov (W:=W) h
 obtain ⟨b1,b2⟩:=Ow (W:=W) a1 (ofS r)
 exact ⟨dT h ⟨Ed W b1.g _ (Np b1 hr),b1.t⟩,kO mh (oW a2 b2)⟩
theorem Nr (h:SC s) (b:Int):SC (ctS W s b)/\gR2 (ctF s b) :=
 ⟨dT (oD h _ _) (dT (oD h _ _) (dT (Bi h) (dT (oD h _ _) h))),kO (xO h) mh⟩
theorem Ns (h:SC s):SC (baS W s):=dT (HQ (s8 h) _ _ _) (oD (s8 h) _ _)
theorem Ei (w h:Int):SC (yj w h):=⟨wH _ _ sy0,by show (ByteArray.mk #[]).size<=200; decide⟩
theorem Nt (h:SC s) (b:Int):SC (esS W s b)/\gR2 (esF s b) :=
 ⟨dT (Bi (CC h 0)) (dT (Bi h) (dT (Ns h) (dT ⟨h.g,h.t⟩ (dT (oD (s:=e8S s) ⟨h.g,h.t⟩ _ _) (dT (Ei _ _) h))))),kO (xO (CC h 0)) (kO (xO h) mh)⟩
theorem KQ (h:SC s) (y a b:Int):SC (erS W s y a b):=Ee h y (sC _ _ (xN _ _ (qo _) _ (tH h.g _)))
theorem Nu (h:SC s) (n:Int):SC (paS W s n):=dT h (s8 (KQ h _ _ _))
theorem HR (h:SC s) (n:Int): ∀ k,SC (wpS W s n k)
 | 0=>h
 | k+1=>by
  unfold wpS
  split
  ·exact KQ (HR h n k) _ _ _
  ·exact HR h n k
theorem Ej (h:SC s) (n:Int):SC (clS s n):=oD h _ _
theorem HS (h:SC s) (n:Int) (all:Bool):SC (AV W s n all):=Nu (dT (HR h _ _) h) n
theorem HT {p:Prop} [Decidable p] {a b:List aH} (ha:cR a) (hb:cR b):cR (if p then a else b):=by split <;> assumption
theorem Nv (h:SC s) (b n:Int):SC (ceS W s b n) :=
 s8 (Ee h _ (sC _ _ (HT (Mi (tH h.g _) _ _ (qo _)) (HT (Mj (tH h.g _) _ _ (qo _)) (xN _ _ (qo _) _ (tH h.g _))))))
theorem Nw (h:SC s) (b n:Int):SC (shS W s b n):=dT h (dT (oD (HQ h _ _ _) _ _) (oD (Ml h _ _ _) _ _))
theorem Nx (h:SC s) (l:List Int):SC (reS s l):=dT (oD (s:=rnS s (rgT s l) (rgU s l)) ⟨h.g,h.t⟩ _ _) h
theorem Ny (h:SC s) (b:Int) (l:List Int):SC (orS W s b l)/\gR2 (orF s b l):=by
 refine ⟨?_,kO (Ef (s8 h) _) mh⟩
 unfold orS
 refine dT (Ej h _) (dT (CC (Ej h _) 0) (dT (Ej h _) (dT (CC (Ej h _) 0) (dT (oD h _ _) (dT (oD h _ _) (dT (oD h _ _) (dT (oD h _ _) (dT (oD h _ _) (dT (HS h _ _) (dT (HS h _ _) (dT (Nv h _ _) (dT (Nw h _ _) (dT (KP (s8 h) _) (dT (HQ (s8 h) _ _ _) (dT ⟨h.g,h.t⟩ (dT (Nx h l) h))))))))))))))))
theorem Nz (h:SC s) {a:bC} (ha:aGd a):SC (acS W s a)/\gR2 (acF W s a):=by
 obtain ⟨p1,p2⟩:=Nq (W:=W) h ha.1
 obtain ⟨c1,c2⟩:=Nr (W:=W) h a.byte
 obtain ⟨e1,e2⟩:=Nt (W:=W) h a.byte
 obtain ⟨o1,o2⟩:=Ny (W:=W) h a.byte a.aW
 exact ⟨dT p1 (dT c1 (dT e1 (dT (dT (dT ⟨h.g,h.t⟩ h) o1) (dT ⟨h.g,ha.2⟩ h)))),kO p2 (kO c2 (kO e2 (kO (kO mh o2) mh)))⟩
theorem NA (h:SC s) (w k:Int):SC (rzS s w k)/\gR2 (rzF s k):=⟨⟨Mk _ h.g _ _,h.t⟩,mW h.g _⟩
end Go.Tw.X
namespace Go.Tw.X
open Go Go.Tw
def xP (k:Int) (n:Nat) (w h:Int):Int:=if k=0 then (if 1048576 < n then 3 else 0) else if k=1 then (if w < 1\/w > 1000\/h < 1\/h > 1000 then 6 else 0) else 5
theorem Ka (w h:Int):((bif (decide (w < 1)) then some true else (bif (decide (w > 1000)) then some true else (bif (decide (h < 1)) then some true else some (decide (h > 1000))))):Option Bool)=some (decide (w < 1\/w > 1000\/h < 1\/h > 1000)):=by
 by_cases a:w < 1
 ·simp [a]
 ·by_cases b:w > 1000
  ·simp [a,b]
  ·by_cases c:h < 1
   ·simp [a,b,c]
   ·simp [a,b,c]
theorem vp (e:ju):iX e=some (xP e.kind e.text.size e.w e.h):=by
 unfold iX xP
 by_cases k0:e.kind=0
 ·have e0:(e.kind == 0)=true:=by simpa using k0
  rw [if_pos k0,e0,cond_true]
  by_cases hs:1048576 < e.text.size
  ·rw [if_pos hs,decide_eq_true (by omega)]; rfl
  ·rw [if_neg hs,decide_eq_false (by omega)]; rfl
 ·have e0:(e.kind == 0)=false:=by simpa using k0
  rw [if_neg k0,e0,cond_false]
  by_cases k1:e.kind=1
  ·have e1:(e.kind == 1)=true:=by simpa using k1
   rw [if_pos k1,e1,cond_true,Ka,Option.bind_some]
   by_cases hs:e.w < 1\/e.w > 1000\/e.h < 1\/e.h > 1000
   ·rw [if_pos hs,decide_eq_true hs]; rfl
   ·rw [if_neg hs,decide_eq_false hs]; rfl
  ·have e1:(e.kind == 1)=false:=by simpa using k1
   rw [if_neg k1,e1]; rfl
structure MX (W k N:Nat) (z:List (List aJ)×List aJ) (m:bO) (x:kg):Prop where
 si:SI W m.aN
 zi:ZI k z
 bk:m.book=fK z
 xs:x.s=aQ m.aN
 xb:x.b=zE z
 pa:m.parser=clr (prun p0 (sbs x.all))
 ac:x.kT=((prun p0 (sbs x.all)).out.length:Int)
 ke:m.k=x.k
 k0:0<=m.k
 kN:m.k<=N
 al:x.all.size<=1000*N
theorem HU {W k N:Nat} {z:List (List aJ)×List aJ} {m:bO} {x:kg} (h:MX W k N z m x) {t:ByteArray} (ht:t.size<=1000) :
  MX W (k+8000*t.size) (N+1) ((prun m.parser (sbs t)).out.foldl (ki W) (m.aN,z)).2 ⟨fK ((prun m.parser (sbs t)).out.foldl (ki W) (m.aN,z)).2,clr (prun m.parser (sbs t)),((prun m.parser (sbs t)).out.foldl (ki W) (m.aN,z)).1,m.k+1⟩ ⟨aQ ((prun m.parser (sbs t)).out.foldl (ki W) (m.aN,z)).1,zE ((prun m.parser (sbs t)).out.foldl (ki W) (m.aN,z)).2,x.all++t,((prun p0 (sbs (x.all++t))).out.length:Int),m.k+1⟩:=by
 have hp:PI m.parser:=by
  rw [h.pa]
  have:=(sx (sbs x.all) KO (kz x.all)).1
  exact ⟨this.di,this.gr,this.nu,this.n0,this.n1,this.tx⟩
 have hlen:=(sx (sbs t) hp (kz t)).2
 have hm0:m.parser.out.length=0:=by rw [h.pa]; rfl
 rw [bG] at hlen
 have has:=zM (sbs t) hp (by rw [h.pa]; exact λx hx=>by cases hx) (kz t)
 have hst:=vo (W:=W) (prun m.parser (sbs t)).out (k:=k) (y:=(m.aN,z)) h.si h.zi has
 have hk0:=h.k0
 have hkN:=h.kN
 have hal:=h.al
 have hz:(x.all++t).size=x.all.size+t.size:=by rw [<- bG,oy,List.length_append,bG,bG]
 have hzn:=hst.2.n
 refine ⟨hst.1,⟨by omega,hst.2.b,hst.2.g,hst.2.ls⟩,rfl,rfl,rfl,?_,rfl,rfl,by dsimp only; omega,by dsimp only; omega,by dsimp only; omega⟩
 dsimp only
 rw [(news x.all t).2,<- h.pa]
theorem Kb (m:bO) (e:ju) (h:xP e.kind e.text.size e.w e.h≠0):eU m e=some (xP e.kind e.text.size e.w e.h,m):=by
 unfold eU
 have e1:(xP e.kind e.text.size e.w e.h != 0)=true:=by simpa using h
 rw [vp,Option.bind_some,e1,cond_true]
def tI (w h:Int):bO:=⟨fK ([],[]),p0,yj w h,0⟩
def Ox (w h:Int):kg:=⟨aQ (yj w h),zE ([],[]),ByteArray.mk #[],0,0⟩
theorem Ek (w h:Int):nD w h=some (tI w h):=by
 unfold nD
 rw [show qc=some (bT.mk [] [0] []) from rfl,Option.bind_some,D1,Option.bind_some]
 rfl
theorem Mm (w h:Int):MX (szN w) 0 0 ([],[]) (tI w h) (Ox w h) :=
 ⟨D3 w h,⟨Nat.le_refl 0,by show 0 < 1024; decide,λx hx=>(by cases hx),λx hx=>(by cases hx)⟩,rfl,rfl,rfl,rfl,rfl,rfl,Int.le_refl 0,Int.le_refl 0,Nat.le_refl 0⟩
theorem HV {W k N:Nat} {z:List (List aJ)×List aJ} {m:bO} {x:kg} (h:MX W k N z m x) (hk:k<=50000000) (hN:N<=90) {t:ByteArray} {w h':Int} (hc:xP 1 t.size w h'=0) :
  eU m ⟨1,t,w,h'⟩=some (0,⟨fK ((rzF m.aN h').foldl qK z),m.parser,rzS m.aN w h',m.k+1⟩):=by
 have hk0:=h.k0
 have hkN:=h.kN
 have ho:=Ht h.si.toSJ h'
 have hW:=h.si.gi.w2
 have hol:=ho.1
 obtain ⟨r,hr1,hr2⟩:=add_eq h.zi (rows:=rzF m.aN h') (λr hr=>uz (ho.2 r hr) hW) (by omega)
 unfold eU
 rw [vp]
 dsimp only
 rw [hc,Option.bind_some,show ((0:Int) != 0)=false from rfl,show ((1:Int) == 1)=true from rfl,cond_false,cond_true,Fm h.si.toSJ,Option.bind_some,h.bk,hr1]
 simp only [Option.bind_some]
 rw [hr2,w64 (by omega) (by omega)]
theorem Kd {W k N:Nat} {z:List (List aJ)×List aJ} {m:bO} {x:kg} (h:MX W k N z m x) (w h':Int) :
  MX (szN w) (k+4000) (N+1) ((rzF m.aN h').foldl qK z) ⟨fK ((rzF m.aN h').foldl qK z),m.parser,rzS m.aN w h',m.k+1⟩ ⟨aQ (rzS m.aN w h'),zE ((rzF m.aN h').foldl qK z),x.all,x.kT,m.k+1⟩:=by
 have hk0:=h.k0
 have hkN:=h.kN
 have hal:=h.al
 have ho:=Ht h.si.toSJ h'
 have hW:=h.si.gi.w2
 have hol:=ho.1
 have h2:=sn (rzF m.aN h') h.zi λr hr=>uz (ho.2 r hr) hW
 have h2n:=h2.n
 exact ⟨L5 h.si.toSJ w h',⟨by omega,h2.b,h2.g,h2.ls⟩,rfl,rfl,rfl,h.pa,h.ac,rfl,by dsimp only; omega,by dsimp only; omega,by dsimp only; omega⟩
def gOk (g:aJ):Prop:=ru g.rune/\sy g.aO
def gls (l:List aJ):Prop:= ∀ g∈l,gOk g
theorem Ke {a b:List aJ} (ha:gls a) (hb:gls b):gls (a++b):=λc hc=>(List.mem_append.1 hc).elim (ha c) (hb c)
theorem HW {a:List aJ} (ha:gls a) (n:Nat):gls (a.take n):=λc hc=>ha c (List.mem_of_mem_take hc)
theorem HX {a:List aJ} (ha:gls a) (n:Nat):gls (a.drop n):=λc hc=>ha c (List.mem_of_mem_drop hc)
theorem El:gls []:=λc h=>by cases h
structure ZG (z:List (List aJ)×List aJ):Prop where
 b:gls z.2
 l: ∀ x∈z.1,gls x
theorem HY {r:aG} (h:cR r.cells):gls (ou r):=by
 intro g hg
 unfold ou tw at hg
 obtain ⟨c,hc,rfl⟩:=List.mem_map.1 hg
 have hc2:=(List.mem_filter.1 hc).1
 have:c∈r.cells:=by
  split at hc2
  ·exact hc2
  ·exact vn _ _ c hc2
 exact ⟨(h c this).1,(h c this).2.1⟩
theorem Bj: ∀ (n:Nat) (g:List aJ),g.length<=n->gls g->gls (nQ g).2 /\ ∀ x∈(nQ g).1,gls x
 | 0,g,h,hg=>by
  rw [wD (by omega)]
  exact ⟨hg,λx hx=>by cases hx⟩
 | n+1,g,h,hg=>by
  by_cases c:1024<=g.length
  ·rw [zD c]
   obtain ⟨a,b⟩:=Bj n (g.drop 1024) (by rw [List.length_drop]; omega) (HX hg _)
   refine ⟨a,λx hx=> ?_⟩
   rcases List.mem_cons.1 hx with rfl | hx
   ·exact HW hg _
   ·exact b x hx
  ·rw [wD c]
   exact ⟨hg,λx hx=>by cases hx⟩
theorem Mn {z:List (List aJ)×List aJ} (h:ZG z) {r:aG} (hr:cR r.cells):ZG (qK z r):=by
 obtain ⟨a,b⟩:=Bj _ (z.2++ou r) (Nat.le_refl _) (Ke h.b (HY hr))
 unfold qK
 dsimp only
 split
 ·exact ⟨a,λx hx=>(List.mem_append.1 hx).elim (h.l x) (b x)⟩
 ·refine ⟨El,λx hx=> ?_⟩
  rcases List.mem_append.1 hx with hx | hx
  ·exact (List.mem_append.1 hx).elim (h.l x) (b x)
  ·rw [List.mem_singleton.1 hx]; exact a
theorem zO: ∀ (rows:List aG) {z:List (List aJ)×List aJ},ZG z->gR2 rows->ZG (rows.foldl qK z)
 | [],_,h,_=>h
 | r::rows,z,h,hr=>zO rows (Mn h (hr r List.mem_cons_self)) λq hq=>hr q (List.mem_cons_of_mem _ hq)
theorem Bk {W:Nat}: ∀ (l:List bC) {y:aB×(List (List aJ)×List aJ)},SC y.1->ZG y.2->sH l->SC (l.foldl (ki W) y).1/\ZG (l.foldl (ki W) y).2
 | [],_,h1,h2,_=>⟨h1,h2⟩
 | a::l,y,h1,h2,h3=>by
  obtain ⟨k1,k2⟩:=Nz (W:=W) h1 (h3 a List.mem_cons_self)
  exact Bk l (y:=ki W y a) k1 (zO _ h2 k2) λq hq=>h3 q (List.mem_cons_of_mem _ hq)
structure MG (m:bO) (z:List (List aJ)×List aJ):Prop where
 sc:SC m.aN
 zg:ZG z
 d2:D2 m.parser.cN
theorem Mo (w h:Int):MG (tI w h) ([],[]):=⟨Ei w h,⟨El,λx hx=>by cases hx⟩,D20⟩
theorem KR {W k N:Nat} {z:List (List aJ)×List aJ} {m:bO} {x:kg} (h:MX W k N z m x):PI m.parser/\m.parser.out=[]:=by
 rw [h.pa]
 have:=(sx (sbs x.all) KO (kz x.all)).1
 exact ⟨⟨this.di,this.gr,this.nu,this.n0,this.n1,this.tx⟩,rfl⟩
theorem HZ {W k N:Nat} {z:List (List aJ)×List aJ} {m:bO} {x:kg} (h:MX W k N z m x) (g:MG m z) (t:ByteArray) (k':Int) (b':bT) :
  MG ⟨b',clr (prun m.parser (sbs t)),((prun m.parser (sbs t)).out.foldl (ki W) (m.aN,z)).1,k'⟩ ((prun m.parser (sbs t)).out.foldl (ki W) (m.aN,z)).2:=by
 obtain ⟨hp,ho⟩:=KR h
 obtain ⟨p1,p2⟩:=Ea (sbs t) hp g.d2 (by rw [ho]; exact λx hx=>by cases hx) (kz t)
 obtain ⟨s1,s2⟩:=Bk (W:=W) _ (y:=(m.aN,z)) g.sc g.zg p1
 exact ⟨s1,s2,p2⟩
theorem Kf {m:bO} {z:List (List aJ)×List aJ} (g:MG m z) (w h:Int) (k':Int) (b':bT):MG ⟨b',m.parser,rzS m.aN w h,k'⟩ ((rzF m.aN h).foldl qK z):=by
 obtain ⟨s1,s2⟩:=NA g.sc w h
 exact ⟨s1,zO _ g.zg s2,g.d2⟩
theorem CD {W k N:Nat} {z:List (List aJ)×List aJ} {m:bO} {x:kg} (h:MX W k N z m x) (hk:k<=50000000) (hN:N<=1000000) {t:ByteArray} (ht:t.size<=1000) (w h':Int) :
  eU m ⟨0,t,w,h'⟩=some (0,⟨fK ((prun m.parser (sbs t)).out.foldl (ki W) (m.aN,z)).2,clr (prun m.parser (sbs t)),((prun m.parser (sbs t)).out.foldl (ki W) (m.aN,z)).1,m.k+1⟩):=by
 have hp:PI m.parser:=(KR h).1
 have hcl:clr m.parser=m.parser:=by rw [h.pa]; rfl
 have e1:=J5 (m:=m) h.si h.zi hp ht hk
 rw [hcl] at e1
 have hk0:=h.k0
 have hkN:=h.kN
 unfold eU
 rw [vp]
 have hck:xP 0 t.size w h'=0:=by unfold xP; rw [if_pos rfl,if_neg (by omega)]
 dsimp only
 rw [hck,Option.bind_some,show ((0:Int) != 0)=false from rfl,show ((0:Int) == 1)=false from rfl,cond_false,cond_false,show lf m t=some t from rfl,Option.bind_some,h.bk,e1]
 simp only [Option.bind_some]
 rw [w64 (by omega) (by omega)]
def sOf (m:bO) (z:List (List aJ)×List aJ):aL:=⟨m.k+1,m.aN.g.w,(m.aN.g.l.length:Int),m.aN.spot.x,m.aN.spot.y,m.aN.title,m.aN.g.l,(z.1.length:Int),qm z.1,z.2⟩
theorem Kg {l:List aJ} (h:gls l): ∀ g∈l,rok g.rune:=λg hg=>by
 obtain ⟨⟨a,b⟩,_⟩:=h g hg
 exact ⟨by omega,by omega⟩
section
variable {W k N : Nat} {z : List (List aJ) × List aJ} {m : bO} {x : kg}
theorem Kh (l:List (List aJ)) (g:List aJ) (h:l.length<=1000000000):jN (fK (l,g)) (l.length:Int)=some (qm l):=by
 unfold jN fK
 dsimp only
 rw [dN,gy,show max 0 (min (l.length:Int) (l.length:Int))=((l.length:Nat):Int) by omega,DR _ _ (Nat.le_refl _),List.take_length]
 rfl
theorem H0 (h:MX W k N z m x) (hk:k<=100000000) (hN:N<=1000000):fY m=some (sOf m z,m):=by
 have hk0:=h.k0
 have hkN:=h.kN
 have hzn:=h.zi.n
 have hzb:=h.zi.b
 unfold fY rT
 rw [w64 (by omega) (by omega)]
 rw [show (aB.mk m.aN.g m.aN.spot m.aN.saved m.aN.waiting m.aN.top m.aN.aK m.aN.bB m.aN.title)=m.aN from rfl,Hv h.si.toSJ,aA]
 dsimp only
 have hr:=wu m.aN.g.w m.aN.g.l (by have:=h.si.gi.l2; omega) h.si.gi.len
 rw [show (aZ.mk m.aN.g.w m.aN.g.l)=m.aN.g from rfl] at hr
 rw [show jy (aB.mk m.aN.g m.aN.spot m.aN.saved m.aN.waiting m.aN.top m.aN.aK m.aN.bB m.aN.title)=some m.aN.title from rfl,aA,hr,aA]
 rw [h.bk,show ∀ b,kQ b=some (b.l.length:Int) from λb=>rfl,aA,aA]
 dsimp only
 have hc:=Kh z.1 z.2 (by omega)
 rw [show (fK z).l=z.1 from rfl,show fK (z.1,z.2)=fK z from rfl] at *
 rw [hc,aA]
 have hb:jO (fK z)=some z.2:=by
  unfold jO
  rw [sj _ (by show z.2.length<=_; omega)]
  rfl
 rw [hb,aA,show ∀ g,dV g=some (g.w,(g.l.length:Int)) from λg=>rfl,aA,show ∀ s,jc s=some (s.spot.x,s.spot.y) from λs=>rfl,aA,aA,<- h.bk]
 rfl
theorem Mp (h:MX W k N z m x) (g:MG m z):SW (sOf m z):=by
 have h1:=h.si.gi.w2
 have h2:=h.si.gi.l2
 have h3:=h.si.gw
 have h4:=h.zi.b
 have h5:=g.sc.t
 refine ⟨?_,?_,Kg g.zg.b,λr hr=> ?_,h2,by show z.2.length<=2000; omega,by show m.aN.title.size<=6000; omega⟩
 ·show -9223372036854775808<=m.aN.g.w/\m.aN.g.w<=9223372036854775807
  omega
 ·show -9223372036854775808<=(m.aN.g.l.length:Int)/\(m.aN.g.l.length:Int)<=9223372036854775807
  omega
 ·have hg:=h.si.gi.rs r hr
  exact ⟨hg.2,by have:=hg.1; omega⟩
theorem Ki (h:MX W k N z m x) (g:MG m z) (hk:k<=100000000) (hN:N<=1000000):ql (sOf m z)=true:=by
 have h1:=h.si.gi.w1
 have h1':=h.si.gi.w2
 have h2:=h.si.gi.l1
 have h2':=h.si.gi.l2
 have h3:=h.si.gw
 have h4:=h.zi.b
 have h5:=g.sc.t
 have h6:=yQ z.1
 have h7:=h.zi.n
 have hk0:=h.k0
 have hkN:=h.kN
 have a1:=h.si.x0
 have a2:=h.si.x1
 have a3:=h.si.y0
 have a4:=h.si.y1
 have hch:chM=281474976710597:=rfl
 unfold ql
 rw [Bool.or_eq_true]
 right
 have e1:ve (sOf m z)=true:=by
  unfold ve wi sOf
  simp only [Bool.and_eq_true,decide_eq_true_eq,beq_iff_eq]
  repeat' apply And.intro
  all_goals first | trivial | omega
 have e2:((sOf m z).begun.all λg=>okG g.rune g.aO)=true:=by
  rw [List.all_eq_true]
  intro q hq
  obtain ⟨⟨b1,b2⟩,b3,b4⟩:=g.zg.b q hq
  simp [okG,b1,b2,b3,b4]
 have e3:(sOf m z).rows.all (sU (sOf m z).w)=true:=by
  rw [List.all_eq_true]
  intro r hr
  have hg:=h.si.gi.rs r hr
  unfold sU
  rw [Bool.and_eq_true]
  refine ⟨?_,?_⟩
  ·show ((r.cells.length:Int) == m.aN.g.w)=true
   rw [beq_iff_eq]
   have:=hg.1
   omega
  ·rw [List.all_eq_true]
   exact λc hc=>Mf (g.sc.g r hr c hc)
 rw [e1,e2,e3]
 rfl
end
section
variable {W k N : Nat} {z : List (List aJ) × List aJ} {m : bO} {x : kg}
theorem MX.mono (h:MX W k N z m x) {k' N':Nat} (h1:k<=k') (h2:N<=N'):MX W k' N' z m x :=
 ⟨h.si,⟨by have:=h.zi.n; omega,h.zi.b,h.zi.g,h.zi.ls⟩,h.bk,h.xs,h.xb,h.pa,h.ac,h.ke,h.k0,by have:=h.kN; omega,by have:=h.al; omega⟩
end
theorem Kj {n:Nat} {a b:Int} (h:(n:Int) < a/\(n:Int) < b):((bif (decide ((n:Int) < a)) then some (decide ((n:Int) < b)) else some false):Option Bool)=some true:=by
 rw [decide_eq_true h.1,decide_eq_true h.2]; rfl
theorem Kk {n:Nat} {a b:Int} (h: ¬ ((n:Int) < a/\(n:Int) < b)):((bif (decide ((n:Int) < a)) then some (decide ((n:Int) < b)) else some false):Option Bool)=some false:=by
 by_cases c:(n:Int) < a
 ·rw [decide_eq_true c,decide_eq_false (by omega: ¬ (n:Int) < b)]; rfl
 ·rw [decide_eq_false c]; rfl
theorem Mq {a:Int}:(a != a)=false:=by simp
structure HN (n:Nat) (s:aB):Prop where
 e:s.g.l.length=n
 l:1<=n
 u:n<=1000
variable {W n : Nat} {s : aB}
theorem dU {p:Prop} [Decidable p] {a b:aB} (ha:HN n a) (hb:HN n b):HN n (if p then a else b):=by split <;> assumption
theorem HN.g1 (h:HN n s):1<=s.g.l.length:=by rw [h.e]; exact h.l
theorem oE (h:HN n s) (x y:Int):HN n (mvS s x y):=⟨h.e,h.l,h.u⟩
theorem vS (h:HN n s):HN n (nwS s):=⟨h.e,h.l,h.u⟩
theorem Fy (h:HN n s) (x:Int):HN n (xS s x):=⟨h.e,h.l,h.u⟩
theorem Em (h:HN n s) (y:Int) (r:aG):HN n (seS W s y r):=⟨by simp only [seS,ka]; exact h.e,h.l,h.u⟩
theorem KS (h:HN n s) (k:Int):HN n (upS W s k):=⟨by simp only [upS,sq _ _ _ _ _ _ h.g1]; exact h.e,h.l,h.u⟩
theorem Mr (h:HN n s) (t b k:Int):HN n (upT W s t b k):=⟨by simp only [upT,sq _ _ _ _ _ _ h.g1]; exact h.e,h.l,h.u⟩
theorem Ia (h:HN n s) (t b k:Int):HN n (dnS W s t b k):=⟨by simp only [dnS,vk _ _ _ _ _ _ h.g1]; exact h.e,h.l,h.u⟩
theorem Bl (h:HN n s):HN n (liS W s):=dU (KS (vS h) 1) (oE (vS h) _ _)
theorem Oy (h:HN n s):HN n (aS W s):=dU (Bl (Fy (Em h _ _) 0)) h
theorem Oz (h:HN n s) (k:Int):HN n (bS W s k):=dU (dU (Bl (Fy (Em h _ _) 0)) (Fy h _)) h
theorem NB (h:HN n s) (r:Int):HN n (prS W s r):=by
 have b1:=Oz (W:=W) (Oy (W:=W) h) (ofS r)
 exact dU h ⟨by simp only [cS,ka]; exact b1.e,h.l,h.u⟩
theorem NC (h:HN n s) (b:Int):HN n (ctS W s b):=dU (oE h _ _) (dU (oE h _ _) (dU (Bl h) (dU (oE h _ _) h)))
theorem ND (h:HN n s):HN n (baS W s):=dU (Ia (vS h) _ _ _) (oE (vS h) _ _)
theorem Kl (w:Int) (h:HN n s):HN n (yj w s.g.l.length):=⟨by
 show (List.replicate (szN (s.g.l.length:Int)) (iF (szN w) 0)).length=n
 rw [List.length_replicate,h.e]
 exact Gr n h.l h.u,h.l,h.u⟩
theorem NF (h:HN n s) (b:Int):HN n (esS W s b) :=
 dU (Bl (Fy h 0)) (dU (Bl h) (dU (ND h) (dU ⟨h.e,h.l,h.u⟩ (dU (oE (s:=e8S s) ⟨h.e,h.l,h.u⟩ _ _) (dU (Kl _ h) h)))))
theorem KT (h:HN n s) (y a b:Int):HN n (erS W s y a b):=Em h y _
theorem NG (h:HN n s) (k:Int):HN n (paS W s k):=dU h (vS (KT h _ _ _))
theorem Ib (h:HN n s) (i:Int): ∀ k,HN n (wpS W s i k)
 | 0=>h
 | k+1=>by
  unfold wpS
  split
  ·exact KT (Ib h i k) _ _ _
  ·exact Ib h i k
theorem En (h:HN n s) (k:Int):HN n (clS s k):=oE h _ _
theorem Ic (h:HN n s) (k:Int) (all:Bool):HN n (AV W s k all):=NG (dU (Ib h _ _) h) k
theorem NH (h:HN n s) (b k:Int):HN n (ceS W s b k):=vS (Em h _ _)
theorem NI (h:HN n s) (b k:Int):HN n (shS W s b k):=dU h (dU (oE (Ia h _ _ _) _ _) (oE (Mr h _ _ _) _ _))
theorem NJ (h:HN n s) (l:List Int):HN n (reS s l):=dU (oE (s:=rnS s (rgT s l) (rgU s l)) ⟨h.e,h.l,h.u⟩ _ _) h
theorem NK (h:HN n s) (b:Int) (l:List Int):HN n (orS W s b l):=by
 unfold orS
 refine dU (En h _) (dU (Fy (En h _) 0) (dU (En h _) (dU (Fy (En h _) 0) (dU (oE h _ _) (dU (oE h _ _) (dU (oE h _ _) (dU (oE h _ _) (dU (oE h _ _) (dU (Ic h _ _) (dU (Ic h _ _) (dU (NH h _ _) (dU (NI h _ _) (dU (KS (vS h) _) (dU (Ia (vS h) _ _ _) (dU ⟨h.e,h.l,h.u⟩ (dU (NJ h l) h))))))))))))))))
theorem NL (h:HN n s) (a:bC):HN n (acS W s a) :=
 dU (NB h _) (dU (NC h _) (dU (NF h _) (dU (dU (dU ⟨h.e,h.l,h.u⟩ h) (NK h _ _)) (dU ⟨h.e,h.l,h.u⟩ h))))
theorem Bm: ∀ (l:List bC) {y:aB×(List (List aJ)×List aJ)},HN n y.1->HN n (l.foldl (ki W) y).1
 | [],_,h=>h
 | a::l,y,h=>Bm l (y:=ki W y a) (NL h a)
end Go.Tw.X
namespace Go.Tw.X
open Go Go.Tw
abbrev Zt:=List (List aJ)×List aJ
theorem xQ (a b:aL) (hb:SW b) (pb:(b.rows.flatMap mm).length<=12000):(nT a b).size<=67000:=by
 unfold nT
 split
 ·exact Nat.zero_le _
 ·rw [gq]
  unfold Jy
  have h1:=yN a b hb
  have h2:=GZ a.rows b.rows pb hb.rl b.rows.length (Nat.le_refl _)
  have h3:(pch b.rows (chg a.rows b.rows)).length<=21000:=h2
  rw [List.length_append]
  omega
structure CT1 (x:aL):Prop where
 sw:SW x
 pk:(x.rows.flatMap mm).length<=11600
structure SG (s:aL):Prop where
 sw:SW s
 pk:(s.rows.flatMap mm).length<=12000
 may:ql s=true
def ptN (size:Int):Nat:=(max 1 (min size 8000)).toNat
theorem Ms (size:Int):imax 1 (dF size 8000)=(ptN size:Int):=by rw [gy,dN]; unfold ptN; omega
theorem Ep (n:Int):1<=ptN n:=by unfold ptN; omega
theorem Mt (n:Int):ptN n<=8000:=by unfold ptN; omega
def pS (z n:Nat):Nat:=max 1 ((z+n - 1) / n)
def rz (s:ByteArray) (n i:Nat):ByteArray:=gB s ((i*n:Nat):Int) ((min s.size (i*n+n):Nat):Int)
def wc (s:ByteArray) (n:Nat):List ByteArray:=(List.range (pS s.size n)).map (rz s n)
theorem Ie (s:ByteArray) (n:Nat):(wc s n).length=pS s.size n:=by unfold wc; rw [List.length_map,List.length_range]
theorem Es (z n:Nat):1<=pS z n:=by unfold pS; omega
theorem Ig (z n:Nat) (h:1<=n):pS z n<=z+1:=by
 unfold pS
 have:(z+n - 1) / n<=z+1:=Nat.le_of_lt_succ ((Nat.div_lt_iff_lt_mul (by omega)).2 (by
  have h1:z*1<=z*n:=Nat.mul_le_mul_left _ h
  have h2:(z+1+1)*n=z*n+n+n:=by rw [Nat.add_mul,Nat.add_mul,Nat.one_mul]
  rw [Nat.succ_eq_add_one,h2]
  omega))
 omega
theorem zP {z n i:Nat} (h:1<=n):i+1 < pS z n↔i*n+n < z:=by
 unfold pS
 have h2:(i+2)*n=i*n+n+n:=by rw [Nat.add_mul]; omega
 have key:i+2<=(z+n - 1) / n↔(i+2)*n<=z+n - 1:=Nat.le_div_iff_mul_le (by omega)
 omega
theorem Fz (s:ByteArray) (a b:Nat) (h:b<=s.size):(gB s a b).size=b - a:=by
 rw [<- bG,gZ,List.length_drop,List.length_take,bG]
 omega
theorem yZ (s:ByteArray):gB s 0 (s.size:Int)=s:=by
 apply ns
 have:=gZ s 0 s.size
 rw [show gB s 0 (s.size:Int)=gB s ((0:Nat):Int) (s.size:Int) from rfl,this,List.drop_zero,<- bG,List.take_length]
theorem y2 (s:ByteArray) (a b c d:Nat) (h:a+d<=b):gB (gB s a b) c d=gB s ((a+c:Nat):Int) ((a+d:Nat):Int):=by
 apply ns
 rw [gZ,gZ,gZ,List.take_drop,List.take_take,List.drop_drop]
 rw [show min (a+d) b=a+d by omega]
theorem FA (s:ByteArray) (size:Int) (h:s.size<=1000000):lX s size=some (wc s (ptN size)):=by
 unfold lX
 rw [Ms]
 have hp:=Ep size
 have hl:=Mt size
 generalize ptN size=n at hp hl
 have hc:=Es s.size n
 have hcl:=Ig s.size n hp
 have hz: ∀ i,(gB s ((i*n:Nat):Int) (s.size:Int)).size=s.size - i*n:=λi=>Fz _ _ _ (Nat.le_refl _)
 refine fw (λi=>(gB s ((i*n:Nat):Int) (s.size:Int),(List.range i).map (rz s n))) (pS s.size n - 1) (gB s (((pS s.size n - 1)*n:Nat):Int) (s.size:Int),(List.range (pS s.size n - 1)).map (rz s n)) ?_ ?_ ?_ ?_
 ·rw [Nat.zero_mul,show ((0:Nat):Int)=0 from rfl,yZ]
  rfl
 ·intro i hi
  have h1:i*n+n < s.size:=(zP hp).1 (by omega)
  dsimp only
  rw [hz,decide_eq_true (by omega),cond_true,bQ (by omega) (by omega) (by omega),aA,bP (by simp; omega),aA,bQ (by omega) (by omega) (by omega),aA]
  have e1:gB (gB s ((i*n:Nat):Int) (s.size:Int)) (n:Int) ((s.size - i*n:Nat):Int)=gB s (((i+1)*n:Nat):Int) (s.size:Int):=by
   rw [y2 _ _ _ _ _ (by omega),Nat.add_mul,Nat.one_mul,show i*n+(s.size - i*n)=s.size by omega]
  have e2:gB (gB s ((i*n:Nat):Int) (s.size:Int)) 0 (n:Int)=rz s n i:=by
   rw [show (0:Int)=((0:Nat):Int) from rfl,y2 _ _ _ _ _ (by omega),Nat.add_zero]
   unfold rz
   rw [show min s.size (i*n+n)=i*n+n by omega]
  rw [e1,e2,List.range_succ,List.map_append]
  rfl
 ·have h1: ¬ ((pS s.size n - 1)*n+n < s.size):=λhh=>by
   have:=(zP (z:=s.size) hp).2 hh
   omega
  dsimp only
  rw [hz,decide_eq_false (by omega),cond_false]
 ·dsimp only
  rw [bP (by simp; omega),aA]
  have h1: ¬ ((pS s.size n - 1)*n+n < s.size):=λhh=>by
   have:=(zP (z:=s.size) hp).2 hh
   omega
  have e:gB s (((pS s.size n - 1)*n:Nat):Int) (s.size:Int)=rz s n (pS s.size n - 1):=by
   unfold rz
   rw [show min s.size ((pS s.size n - 1)*n+n)=s.size by omega]
  rw [e]
  unfold wc
  conv=>rhs; rw [show pS s.size n=(pS s.size n - 1)+1 by omega,List.range_succ,List.map_append]
  rfl
theorem CE (s:aI):aI.mk (bW.mk s.config.part s.config.every s.config.most) (aL.mk s.current.k s.current.w s.current.h s.current.x s.current.y s.current.title s.current.rows s.current.len s.current.chain s.current.begun) (aL.mk s.aM.k s.aM.w s.aM.h s.aM.x s.aM.y s.aM.title s.aM.rows s.aM.len s.aM.chain s.aM.begun) s.kept (bK.mk s.message.id s.message.key s.message.base s.message.parts s.message.there s.message.due) s.next=s:=rfl
def Eu (m:bK) (i:Nat):Option (Int×ByteArray):=if m.there[i]?=some true then none else some ((i:Int),(m.parts[i]?).getD noS)
def uC (m:bK) (n:Nat):List (Int×ByteArray):=(List.range n).filterMap (Eu m)
def y3 (m:bK):List (Int×ByteArray):=uC m m.parts.length
theorem y4 (m:bK) (n:Nat):(uC m n).length<=n:=by
 have:=List.length_filterMap_le (Eu m) (List.range n)
 rw [List.length_range] at this
 exact this
theorem xR (m:bK) (n:Nat):uC m (n+1)=uC m n++(if m.there[n]?=some true then [] else [((n:Int),(m.parts[n]?).getD noS)]):=by
 unfold uC
 rw [List.range_succ,List.filterMap_append]
 congr 1
 unfold Eu
 by_cases h:m.there[n]?=some true
 ·simp [h]
 ·simp [h]
theorem Ih {α:Type} (m:bK) (F:Int×ByteArray->α) (Y:List α->Int×ByteArray->Option (List α×Bool)) (hl:m.there.length=m.parts.length) (hp:m.parts.length<=1000000) (hY: ∀ (l:List α) x,l.length<=1000000->Y l x=some (l++[F x],true)):gO m Y []=some ((y3 m).map F):=by
 unfold gO
 refine fw (λi:Nat=>((i:Int),(uC m i).map F)) m.parts.length (.inl ((y3 m).map F)) rfl ?_ ?_ rfl
 ·intro i hi
  have hi2:i < m.there.length:=by omega
  have hn:=y4 m i
  dsimp only
  rw [decide_eq_true (by omega),cond_true,dC _ _ hi,aA,dC _ _ hi2,aA,xR,List.getElem?_eq_getElem hi2,List.getElem?_eq_getElem hi]
  cases hb:m.there[i] with
  | true =>
   rw [Bool.not_true,cond_false,aA,cond_false,w64 (by omega) (by omega),if_pos rfl,List.append_nil]
   rfl
  | false =>
   rw [Bool.not_false,cond_true,hY _ _ (by rw [List.length_map]; omega),aA,Bool.not_true,aA,cond_false,w64 (by omega) (by omega),if_neg (by simp),List.map_append]
   rfl
 ·dsimp only
  rw [decide_eq_false (by omega),cond_false]
  rfl
def gr (m:bK) (x:Int×ByteArray):aV:=⟨1,1,[m.id,m.key,m.base,x.1,(m.parts.length:Int)],x.2⟩
def rA (m:bK):List aV:=(y3 m).map (gr m)
def has (k:Int) (l:List aL):Bool:=l.any λx=>x.k == k
def Km (s:aI) (now:Int):bK:=⟨s.next,s.current.k,s.aM.k,wc (nT s.aM s.current) (ptN s.config.part),List.replicate (wc (nT s.aM s.current) (ptN s.config.part)).length false,now⟩
def rB (s:aI):List aL:=if has s.current.k s.kept then s.kept else s.kept++[s.current]
def ym (s:aI) (now:Int):aI:=⟨s.config,s.current,s.aM,(rB s).drop ((rB s).length - s.config.most.toNat),Km s now,IntKind.i64.wrap (s.next+1)⟩
structure SNI (s:aI):Prop where
 cur:CT1 s.current
 ack:CT1 s.aM
 kp: ∀ x∈s.kept,CT1 x
 m0:1<=s.config.most/\s.config.most<=64
 kl:(s.kept.length:Int)<=s.config.most
 pl:s.message.parts.length<=67001
 tl:s.message.there.length=s.message.parts.length
 so:s.kept.Pairwise λx y=>x.k < y.k
 ck: ∀ x∈s.kept,x.k<=s.current.k
theorem Mu (l:List aL) (S:aI) (hl:l.length<=1000000):cH l S=some (has S.current.k l):=by
 unfold cH dB has
 obtain ⟨q,h1,h2⟩:=find_eq l (λx=>x.k == S.current.k) hl (λa=>(bif (decide (a < (l.length:Int))) then (Option.bind (idx l a) λb=>(Option.bind (fB b S) λc=>(bif c then (k8 (some a)) else some (.inl (IntKind.i64.wrap (a+1)))))) else some (.inr (.inl ())))) (by
  intro n hn
  unfold fB
  rw [decide_eq_true (by omega),cond_true,dC l n hn,aA,aA,w64 (by omega) (by omega)]
  cases (l[n].k == S.current.k) <;> rfl) (by
  rw [decide_eq_false (by omega),cond_false])
 rw [h1,aA]
 rcases h2 with ⟨rfl,h3⟩ | ⟨w,rfl,h4,h3⟩
 ·rw [h3]
  rfl
 ·rw [h3]
  show some (decide (w>=0))=some true
  rw [decide_eq_true h4]
theorem Ii (s:aI):(rB s).length<=s.kept.length+1:=by
 unfold rB
 split
 ·omega
 ·simp
theorem y5 (s:aI) (h:SNI s):(wc (nT s.aM s.current) (ptN s.config.part)).length<=67001:=by
 have h1:=xQ s.aM s.current h.cur.sw (by have:=h.cur.pk; omega)
 have h2:=Ig (nT s.aM s.current).size (ptN s.config.part) (Ep _)
 rw [Ie]
 omega
theorem Bn {α:Type} (l:List α) (a:Nat):cut l (a:Int) (l.length:Int)=l.drop a:=by rw [qk,List.take_length]
theorem Bo (s:aI) (now:Int) (h:SNI s):fQ s now=some (ym s now):=by
 unfold fQ
 have h1:=xQ s.aM s.current h.cur.sw (by have:=h.cur.pk; omega)
 have h2:=y5 s h
 have hk:=h.kl
 have hm:=h.m0
 rw [diff_eq _ _ h.ack.sw h.cur.sw (by have:=h.ack.pk; omega) (by have:=h.cur.pk; omega),aA,FA _ _ (by omega),aA,yB (by omega) (by omega) (by omega),aA,Mu _ _ (by omega),aA,Int.toNat_natCast]
 dsimp only
 have hlen:=Ii s
 have fin: ∀ e:aI,e=⟨s.config,s.current,s.aM,rB s,Km s now,IntKind.i64.wrap (s.next+1)⟩->(Option.bind (chk (cZ (imax 0 (IntKind.i64.wrap ((e.kept.length:Int) - e.config.most))) (e.kept.length:Int) e.kept.length)) λ_=>some (aI.mk (bW.mk e.config.part e.config.every e.config.most) (aL.mk e.current.k e.current.w e.current.h e.current.x e.current.y e.current.title e.current.rows e.current.len e.current.chain e.current.begun) (aL.mk e.aM.k e.aM.w e.aM.h e.aM.x e.aM.y e.aM.title e.aM.rows e.aM.len e.aM.chain e.aM.begun) (cut e.kept (imax 0 (IntKind.i64.wrap ((e.kept.length:Int) - e.config.most))) (e.kept.length:Int)) (bK.mk e.message.id e.message.key e.message.base e.message.parts e.message.there e.message.due) e.next))=some (ym s now):=by
  rintro e rfl
  dsimp only
  rw [w64 (by omega) (by omega),show imax 0 (((rB s).length:Int) - s.config.most)=(((rB s).length - s.config.most.toNat:Nat):Int) by rw [gy]; omega,bQ (by omega) (by omega) (by omega),aA,Bn]
  rfl
 cases hh:has s.current.k s.kept with
 | true =>
  rw [Bool.not_true,cond_false,aA]
  exact fin _ (by unfold rB; rw [hh,if_pos rfl]; rfl)
 | false =>
  rw [Bool.not_false,cond_true,bP (by simp; omega),aA,aA]
  exact fin _ (by unfold rB; rw [hh,if_neg (by simp)]; rfl)
theorem FB {k:Int} {l:List aL} (h:has k l=false): ∀ x∈l,x.k≠k:=by
 intro x hx he
 have:has k l=true:=List.any_eq_true.2 ⟨x,hx,by simp [he]⟩
 rw [h] at this
 cases this
theorem Mv {s:aI} (now:Int) (h:SNI s):SNI (ym s now):=by
 have hm:=h.m0
 have hk: ∀ x∈rB s,CT1 x/\x.k<=s.current.k:=by
  unfold rB
  split
  ·exact λx hx=>⟨h.kp x hx,h.ck x hx⟩
  ·intro x hx
   rcases List.mem_append.1 hx with hx | hx
   ·exact ⟨h.kp x hx,h.ck x hx⟩
   ·rw [List.mem_singleton.1 hx]
    exact ⟨h.cur,Int.le_refl _⟩
 have hs:(rB s).Pairwise λx y=>x.k < y.k:=by
  unfold rB
  split
  ·exact h.so
  ·rename_i hh
   rw [List.pairwise_append]
   refine ⟨h.so,List.pairwise_singleton ..,?_⟩
   intro x hx y hy
   rw [List.mem_singleton.1 hy]
   have h1:=h.ck x hx
   have h2:=FB (by simpa using hh) x hx
   omega
 refine ⟨h.cur,h.ack,λx hx=>(hk x (List.mem_of_mem_drop hx)).1,hm,?_,y5 s h,by show (List.replicate _ false).length=_; rw [List.length_replicate]; rfl,hs.sublist (List.drop_sublist _ _),λx hx=>(hk x (List.mem_of_mem_drop hx)).2⟩
 show (((rB s).drop ((rB s).length - s.config.most.toNat)).length:Int)<=s.config.most
 rw [List.length_drop]
 omega
def KU:bK:=⟨0,0,0,[],[],0⟩
def FC (s:aI) (d:Int):aI:=⟨s.config,s.current,s.aM,s.kept,⟨s.message.id,s.message.key,s.message.base,s.message.parts,s.message.there,d⟩,s.next⟩
def vq (s:aI):Bool:=(s.message.id == 0) || ((s.message.key != s.current.k) || (s.message.base != s.aM.k))
def lB (s:aI) (now:Int):aI:=if vq s then ym s now else s
def nI (s:aI) (now:Int):List aV×aI :=
 if s.current.k=s.aM.k then ([],⟨s.config,s.current,s.aM,s.kept,KU,s.next⟩)
 else if now < (lB s now).message.due then ([],lB s now)
 else (rA (lB s now).message,FC (lB s now) (IntKind.i64.wrap (now+s.config.every)))
theorem rC {s:aI} (now:Int) (h:SNI s):SNI (lB s now):=by
 unfold lB
 split
 ·exact Mv now h
 ·exact h
theorem FD (s:aI) (now:Int):(lB s now).config=s.config:=by unfold lB; split <;> rfl
theorem Mw {s:aI} (d:Int) (h:SNI s):SNI (FC s d):=⟨h.cur,h.ack,h.kp,h.m0,h.kl,h.pl,h.tl,h.so,h.ck⟩
theorem Ew {s:aI} (now:Int) (h:SNI s):SNI (nI s now).2:=by
 unfold nI
 split
 ·exact ⟨h.cur,h.ack,h.kp,h.m0,h.kl,Nat.zero_le _,rfl,h.so,h.ck⟩
 ·split
  ·exact rC now h
  ·exact Mw _ (rC now h)
theorem Ij (s:aI):((bif (s.message.id == 0) then some true else (bif (s.message.key != s.current.k) then some true else some (s.message.base != s.aM.k))):Option Bool)=some (vq s):=by
 unfold vq
 cases (s.message.id == 0) <;> cases (s.message.key != s.current.k) <;> rfl
theorem y6 (s:aI) (now:Int) (h:SNI s):gm s now=some (nI s now):=by
 unfold gm
 simp only [CE]
 by_cases hk:s.current.k=s.aM.k
 ·rw [show (s.current.k == s.aM.k)=true by simp [hk],cond_true]
  unfold nI
  rw [if_pos hk]
  rfl
 ·rw [show (s.current.k == s.aM.k)=false by simp [hk],cond_false,Ij,aA]
  have hb:((bif vq s then (Option.bind (fQ s now) λc=>some c) else some s):Option aI)=some (lB s now):=by
   unfold lB
   cases vq s with
   | true=>rw [cond_true,Bo s now h,aA,if_pos rfl]
   | false=>rw [cond_false,if_neg (by simp)]
  rw [hb,aA]
  have hS:=rC now h
  have hc:=FD s now
  unfold nI
  rw [if_neg hk]
  generalize lB s now=e at hS hc
  by_cases hd:now < e.message.due
  ·rw [decide_eq_true hd,cond_true,if_pos hd]
  ·rw [decide_eq_false hd,cond_false,if_neg hd]
   have hpl:=hS.pl
   have:=Ih ⟨e.message.id,e.message.key,e.message.base,e.message.parts,e.message.there,IntKind.i64.wrap (now+e.config.every)⟩ (gr e.message) (λb a=>(Option.bind (chk (eY b.length ([(aV.mk 1 1 [e.message.id,e.message.key,e.message.base,a.1,(e.message.parts.length:Int)] a.2)]).length 56)) λ_=>some ((b++[(aV.mk 1 1 [e.message.id,e.message.key,e.message.base,a.1,(e.message.parts.length:Int)] a.2)]),true))) hS.tl (by show e.message.parts.length<=_; omega) (by
    intro l x hl
    rw [bP (by simp; omega),aA]
    rfl)
   rw [this,aA,<- hc]
   rfl
def xT (h:ByteArray) (i:Nat):Bool:=match (sbs h)[i / 8]? with | some b=>decide ((b / 2 ^ (i % 8)) % 2=1) | none=>false
def mkI (t:List Bool) (h:ByteArray) (n:Nat):List Bool:=t.mapIdx λi b=>b || (decide (i < n) && xT h i)
theorem nv (t:List Bool) (h:ByteArray) (n:Nat):(mkI t h n).length=t.length:=by unfold mkI; rw [List.length_mapIdx]
theorem sD (t:List Bool) (h:ByteArray) (n i:Nat) (hi:i < t.length):(mkI t h n)[i]?=some (t[i] || (decide (i < n) && xT h i)):=by
 unfold mkI
 rw [List.getElem?_mapIdx,List.getElem?_eq_getElem hi]
 rfl
theorem Ik (t:List Bool) (h:ByteArray):mkI t h 0=t:=by
 apply List.ext_getElem?
 intro i
 by_cases hi:i < t.length
 ·rw [sD _ _ _ _ hi,List.getElem?_eq_getElem hi]
  simp
 ·rw [List.getElem?_eq_none (by rw [nv]; omega),List.getElem?_eq_none (by omega)]
theorem Il (t:List Bool) (h:ByteArray) (n:Nat) (hn:n < t.length):mkI t h (n+1)=if xT h n then (mkI t h n).set n true else mkI t h n:=by
 apply List.ext_getElem?
 intro i
 by_cases hi:i < t.length
 ·rw [sD _ _ _ _ hi]
  by_cases hb:xT h n=true
  ·rw [if_pos hb,List.getElem?_set]
   by_cases hin:n=i
   ·subst hin
    rw [if_pos rfl,if_pos (by rw [nv]; exact hi),hb]
    simp
   ·rw [if_neg hin,sD _ _ _ _ hi]
    have:decide (i < n+1)=decide (i < n):=by rw [decide_eq_decide]; omega
    rw [this]
  ·rw [if_neg hb,sD _ _ _ _ hi]
   by_cases hin:n=i
   ·subst hin
    have:xT h n=false:=by simpa using hb
    rw [this]
    simp
   ·have:decide (i < n+1)=decide (i < n):=by rw [decide_eq_decide]; omega
    rw [this]
 ·rw [List.getElem?_eq_none (by rw [nv]; omega)]
  split
  ·rw [List.getElem?_eq_none (by rw [List.length_set,nv]; omega)]
  ·rw [List.getElem?_eq_none (by rw [nv]; omega)]
theorem Io (h:ByteArray) (i:Nat) (hi:8*h.size<=i):xT h i=false:=by
 unfold xT
 rw [List.getElem?_eq_none (by rw [bG]; omega)]
theorem Kn (t:List Bool) (h:ByteArray) (n:Nat) (hn:min t.length (8*h.size)<=n):mkI t h n=mkI t h t.length:=by
 apply List.ext_getElem?
 intro i
 by_cases hi:i < t.length
 ·rw [sD _ _ _ _ hi,sD _ _ _ _ hi]
  by_cases hin:i < n
  ·rw [decide_eq_true hin,decide_eq_true hi]
  ·rw [Io h i (by omega),Bool.and_false,Bool.and_false]
 ·rw [List.getElem?_eq_none (by rw [nv]; omega),List.getElem?_eq_none (by rw [nv]; omega)]
theorem Ko (h:ByteArray) (i:Nat) (hi:i / 8 < (sbs h).length):xT h i=decide (((sbs h)[i / 8] / 2 ^ (i % 8)) % 2=1):=by
 unfold xT
 rw [List.getElem?_eq_getElem hi]
theorem FE (b:Int) (i:Nat) (h0:0<=b):b.fdiv (2 ^ (min (((i:Int).tmod 8)).toNat 8))=b / 2 ^ (i % 8):=by
 have e:min (((i:Int).tmod 8)).toNat 8=i % 8:=by
  rw [show ((i:Int).tmod 8)=((i % 8:Nat):Int) from rfl,Int.toNat_natCast]
  omega
 rw [e,Int.fdiv_eq_ediv_of_nonneg _ (Int.pow_nonneg (by decide))]
theorem FF (b:Int) (j:Nat) (h0:0<=b) (h1:b < 256):0<=b / 2 ^ j/\b / 2 ^ j < 256:=by
 refine ⟨Int.ediv_nonneg h0 (Int.pow_nonneg (by decide)),?_⟩
 have:=Int.ediv_le_self (2 ^ j) h0
 omega
theorem Kp (x:Int) (h0:0<=x) (h1:x < 256):Go.bits .and .u8 x 1=x % 2:=by
 have h:=bits_mask .u8 8 (by decide) wraps_u8 1 (by decide) x h0 (by omega)
 have e:((2:Int) ^ 1 - 1)=1:=by decide
 have e2:((2:Int) ^ 1)=2:=by decide
 rw [e,e2] at h
 exact h
def Bp (s:aI) (t:List Bool):aI:=⟨s.config,s.current,s.aM,s.kept,⟨s.message.id,s.message.key,s.message.base,s.message.parts,t,s.message.due⟩,s.next⟩
theorem Kq (s:aI) (h:ByteArray) (hl:s.message.there.length<=1000000) (hs:h.size<=1000000):gn s h=some (Bp s (mkI s.message.there h s.message.there.length)):=by
 unfold gn
 simp only [CE]
 rw [w64 (x:=8*(h.size:Int)) (by omega) (by omega),show dF (s.message.there.length:Int) (8*(h.size:Int))=((min s.message.there.length (8*h.size):Nat):Int) by rw [dN]; omega]
 refine fw (λi:Nat=>(Bp s (mkI s.message.there h i),(i:Int))) (min s.message.there.length (8*h.size)) (Bp s (mkI s.message.there h (min s.message.there.length (8*h.size)))) ?_ ?_ ?_ ?_
 ·rw [Ik]
  rfl
 ·intro i hi
  have hi2:i / 8 < (sbs h).length:=by rw [bG]; omega
  have hb:=kz h _ (List.getElem_mem hi2)
  have hr:=FF _ (i % 8) hb.1 hb.2
  dsimp only
  rw [decide_eq_true (by omega),cond_true,show (i:Int).tdiv 8=((i / 8:Nat):Int) from rfl,w64 (x:=((i / 8:Nat):Int)) (by omega) (by omega),ub h _ hi2,aA,show chk (shk ((i:Int).tmod 8))=some () from lU (show (0:Int)<=((i % 8:Nat):Int) by omega),aA,FE _ _ hb.1,Kp _ hr.1 hr.2,Il _ _ _ (by omega),Ko h i hi2,w64 (by omega) (by omega)]
  by_cases hq:((sbs h)[i / 8] / 2 ^ (i % 8)) % 2=1
  ·rw [show (((sbs h)[i / 8] / 2 ^ (i % 8)) % 2 == 1)=true by simp [hq],cond_true,decide_eq_true hq,if_pos rfl]
   have hg:idx (Bp s (mkI s.message.there h i)).message.there (i:Int)=some ((mkI s.message.there h i)[i]'(by rw [nv]; omega)):=dC (mkI s.message.there h i) i (by rw [nv]; omega)
   rw [hg,aA]
   rfl
  ·rw [show (((sbs h)[i / 8] / 2 ^ (i % 8)) % 2 == 1)=false by simp [hq],cond_false,decide_eq_false hq,if_neg (by simp)]
   rfl
 ·dsimp only
  rw [decide_eq_false (by omega),cond_false]
 ·rw [Kn _ _ _ (Nat.le_refl _)]
def fk (k:Int):List aL->Nat | []=>0 | x::l=>if x.k=k then 0 else fk k l+1
theorem KV (k:Int): ∀ l,fk k l<=l.length
 | []=>Nat.le_refl _
 | x::l=>by
  unfold fk
  have:=KV k l
  split
  ·exact Nat.zero_le _
  ·rw [List.length_cons]; omega
theorem KW (k:Int): ∀ (l:List aL) (n:Nat) (hn:n < l.length),n < fk k l->l[n].k≠k
 | x::l,n,hn,h=>by
  unfold fk at h
  split at h
  ·omega
  ·rename_i hx
   cases n with
   | zero=>exact hx
   | succ n=>exact KW k l n (by simpa using hn) (by omega)
theorem KX (k:Int): ∀ (l:List aL) (hn:fk k l < l.length),l[fk k l].k=k
 | x::l,hn=>by
  by_cases hx:x.k=k
  ·have e:fk k (x::l)=0:=by unfold fk; rw [if_pos hx]
   simp only [e]
   exact hx
  ·have e:fk k (x::l)=fk k l+1:=by conv=>lhs; unfold fk; rw [if_neg hx]
   simp only [e]
   rw [e] at hn
   exact KX k l (by simpa using hn)
theorem Ip (l:List aL) (k:Int) (hl:l.length<=1000000):cM l k=some (if fk k l < l.length then (fk k l:Int) else -1):=by
 unfold cM
 have hle:=KV k l
 refine fw (λi:Nat=>(i:Int)) (fk k l) (if fk k l < l.length then .inr (fk k l:Int) else .inl ()) rfl ?_ ?_ ?_
 ·intro i hi
  have hil:i < l.length:=by omega
  have hne:=KW k l i hil hi
  unfold fW
  rw [decide_eq_true (by omega),cond_true,dC _ _ hil,aA,aA,show (l[i].k == k)=false by simp [hne],cond_false,w64 (by omega) (by omega)]
  rfl
 ·by_cases hlt:fk k l < l.length
  ·have ha:=KX k l hlt
   unfold fW
   rw [decide_eq_true (by omega),cond_true,dC _ _ hlt,aA,aA,show (l[fk k l].k == k)=true by simp [ha],cond_true,if_pos hlt]
   rfl
  ·rw [decide_eq_false (by omega),cond_false,if_neg hlt]
 ·by_cases hlt:fk k l < l.length
  ·rw [if_pos hlt,if_pos hlt]
  ·rw [if_neg hlt,if_neg hlt]
def iP (s:aI) (id:Int) (h:ByteArray):aI:=if id=s.message.id/\id > 0 then Bp s (mkI s.message.there h s.message.there.length) else s
def FG (s:aI) (k id:Int) (h:ByteArray):Bool×aI :=
 if k<=s.aM.k\/k > s.current.k then (false,iP s id h)
 else if fk k s.kept < s.kept.length then (true,⟨s.config,s.current,s.kept[fk k s.kept]?.getD mC,s.kept.drop (fk k s.kept+1),(iP s id h).message,s.next⟩)
 else (false,⟨s.config,s.current,mC,s.kept,(iP s id h).message,s.next⟩)
theorem FH {s:aI} (id:Int) (h:ByteArray) (hS:SNI s):SNI (iP s id h):=by
 unfold iP
 split
 ·exact ⟨hS.cur,hS.ack,hS.kp,hS.m0,hS.kl,hS.pl,by show (mkI _ _ _).length=_; rw [nv]; exact hS.tl,hS.so,hS.ck⟩
 ·exact hS
theorem zQ:CT1 mC:=⟨GR,by decide⟩
theorem Mx {s:aI} (k id:Int) (h:ByteArray) (hS:SNI s):SNI (FG s k id h).2:=by
 have hM:=FH id h hS
 unfold FG
 split
 ·exact hM
 ·split
  ·rename_i hlt
   have hk:=hS.kl
   have e:s.kept[fk k s.kept]?.getD mC=s.kept[fk k s.kept]:=by rw [List.getElem?_eq_getElem hlt]; rfl
   refine ⟨hS.cur,by show CT1 (s.kept[fk k s.kept]?.getD mC); rw [e]; exact hS.kp _ (List.getElem_mem hlt),λx hx=>hS.kp x (List.mem_of_mem_drop hx),hS.m0,?_,hM.pl,hM.tl,hS.so.sublist (List.drop_sublist _ _),λx hx=>hS.ck x (List.mem_of_mem_drop hx)⟩
   show ((s.kept.drop _).length:Int)<=s.config.most
   rw [List.length_drop]
   omega
  ·exact ⟨hS.cur,zQ,hS.kp,hS.m0,hS.kl,hM.pl,hM.tl,hS.so,hS.ck⟩
theorem FI (l:List aL) (h:l.length<=1000000):fV l=some l:=by
 unfold fV
 rw [bP (by simp; omega),aA]
 rfl
theorem Ey (s:aI) (k id:Int) (h:ByteArray) (hS:SNI s) (hs:h.size<=1000000):iZ s k id h=some (FG s k id h):=by
 unfold iZ
 simp only [CE]
 have hk:=hS.kl
 have hm:=hS.m0
 have e1:((bif (id == s.message.id) then some (decide (id > 0)) else some false):Option Bool)=some (decide (id=s.message.id/\id > 0)):=by
  by_cases h1:id=s.message.id
  ·rw [show (id == s.message.id)=true by simp [h1],cond_true]
   by_cases h2:id > 0
   ·rw [decide_eq_true h2,decide_eq_true ⟨h1,h2⟩]
   ·rw [decide_eq_false h2,decide_eq_false (λhh=>h2 hh.2)]
  ·rw [show (id == s.message.id)=false by simp [h1],cond_false,decide_eq_false (λhh=>h1 hh.1)]
 have e2:((bif (decide (id=s.message.id/\id > 0)) then (Option.bind (gn s h) λa=>some a) else some s):Option aI)=some (iP s id h):=by
  unfold iP
  by_cases h1:id=s.message.id/\id > 0
  ·rw [decide_eq_true h1,cond_true,Kq s h (by have:=hS.pl; have:=hS.tl; omega) hs,aA,if_pos h1]
  ·rw [decide_eq_false h1,cond_false,if_neg h1]
 have a1:(iP s id h).aM=s.aM:=by unfold iP; split <;> rfl
 have a2:(iP s id h).current=s.current:=by unfold iP; split <;> rfl
 have a3:(iP s id h).kept=s.kept:=by unfold iP; split <;> rfl
 have a4:(iP s id h).config=s.config:=by unfold iP; split <;> rfl
 have a5:(iP s id h).next=s.next:=by unfold iP; split <;> rfl
 rw [e1,aA,e2,aA]
 unfold FG
 generalize iP s id h=m at a1 a2 a3 a4 a5
 rw [or2,aA,a1,a2,a3]
 by_cases hc:k<=s.aM.k\/k > s.current.k
 ·rw [decide_eq_true hc,cond_true,if_pos hc]
 ·rw [decide_eq_false hc,cond_false,if_neg hc,Ip _ _ (by omega),aA]
  by_cases hlt:fk k s.kept < s.kept.length
  ·rw [if_pos hlt,if_pos hlt,decide_eq_false (by omega),cond_false,dC _ _ hlt,aA,w64 (by omega) (by omega),bQ (by omega) (by omega) (by omega),aA,show ((fk k s.kept:Int)+1)=((fk k s.kept+1:Nat):Int) by omega,Bn,FI _ (by rw [List.length_drop]; omega),aA,List.getElem?_eq_getElem hlt,<- a2,<- a4,<- a5]
   rfl
  ·rw [if_neg hlt,if_neg hlt,decide_eq_true (by omega),cond_true,<- a2,<- a4,<- a5]
   rfl
def nuS (c:bW):aI:=⟨⟨imax 1 (dF c.part 8000),imax 1 (dF c.every 1048576),imax 1 (dF c.most 64)⟩,mC,mC,[],KU,1⟩
theorem xU (c:bW):n5 c=some (nuS c):=rfl
theorem CF (c:bW):SNI (nuS c):=by
 have hm:imax 1 (dF c.most 64)=max 1 (min c.most 64):=by rw [gy,dN]
 refine ⟨zQ,zQ,λx hx=>(by cases hx),?_,?_,Nat.zero_le _,rfl,List.Pairwise.nil,λx hx=>(by cases hx)⟩
 ·show 1<=imax 1 (dF c.most 64)/\imax 1 (dF c.most 64)<=64
  omega
 ·show (0:Int)<=imax 1 (dF c.most 64)
  omega
def setCur (s:aI) (x:aL):aI:=⟨s.config,x,s.aM,s.kept,s.message,s.next⟩
def vT (s:aI) (x:aL):Bool×aI:=if ql x=false\/x.k<=s.current.k then (false,s) else (true,setCur s x)
theorem uD (s:aI) (x:aL) (h:SW x):fA s x=some (vT s x):=by
 unfold fA vT
 rw [xx x h,aA,E4 x h]
 by_cases hm:ql x=true
 ·rw [hm,if_pos rfl,show ((0:Int) != 0)=false from rfl,cond_false,aA]
  by_cases hk:x.k<=s.current.k
  ·rw [decide_eq_true hk,cond_true,if_pos (.inr hk)]
  ·rw [decide_eq_false hk,cond_false,if_neg (by simp [hk]),aA]
   rfl
 ·have hm2:ql x=false:=by simpa using hm
  rw [hm2,if_neg (by simp),show ((1:Int) != 0)=true from rfl,cond_true,aA,cond_true,if_pos (Or.inl rfl)]
theorem wI {s:aI} {x:aL} (h:SNI s) (hx:CT1 x):SNI (vT s x).2:=by
 unfold vT
 split
 ·exact h
 ·rename_i hn
  exact ⟨hx,h.ack,h.kp,h.m0,h.kl,h.pl,h.tl,h.so,λy hy=>by have:=h.ck y hy; show y.k<=x.k; omega⟩
theorem xV {s:aI} (now:Int) (hk:s.current.k≠s.aM.k) (hf:vq s=true):nI s now=(rA (Km s now),FC (ym s now) (IntKind.i64.wrap (now+s.config.every))):=by
 have e:lB s now=ym s now:=by unfold lB; rw [hf,if_pos rfl]
 unfold nI
 rw [if_neg hk,e,if_neg (show ¬ now < (ym s now).message.due from Int.lt_irrefl now)]
 rfl
theorem FJ (m:bK):(rA m).length=(y3 m).length:=by unfold rA; rw [List.length_map]
theorem Iq {m:bK} (h:m.there=List.replicate m.parts.length false):y3 m=(List.range m.parts.length).map λi:Nat=>((i:Int),(m.parts[i]?).getD noS):=by
 have key: ∀ n,n<=m.parts.length->uC m n=(List.range n).map λi:Nat=>((i:Int),(m.parts[i]?).getD noS):=by
  intro n
  induction n with
  | zero=>intro _; rfl
  | succ n ih =>
   intro hn
   rw [xR,ih (by omega),List.range_succ,List.map_append,show m.there[n]?=some false by rw [h,List.getElem?_replicate,if_pos (by omega)],if_neg (by simp)]
   rfl
 exact key _ (Nat.le_refl _)
theorem Kr (s:ByteArray) (n:Nat) (h:1<=n) (hs:s.size<=n):wc s n=[s]:=by
 have h1:pS s.size n=1:=by
  have h2:=Es s.size n
  have h3: ¬ (0+1 < pS s.size n):=λhh=>by
   have:=(zP h).1 hh
   omega
  omega
 unfold wc
 rw [h1]
 show [rz s n 0]=[s]
 unfold rz
 rw [Nat.zero_mul,show min s.size (0+n)=s.size by omega,show ((0:Nat):Int)=0 from rfl,yZ]
theorem Ez (k:Nat) {v:Int} (h1:v < 128 ^ (k+1)):(dM v).length<=k+1:=by
 refine ua k _ ?_
 unfold clN
 have h2:((max 0 (min v 4611686018427387904)).toNat:Int) < ((128 ^ (k+1):Nat):Int):=by
  have h3:(0:Int) < 128 ^ (k+1):=Int.pow_pos (by decide)
  rw [Int.natCast_pow]
  show ((max 0 (min v 4611686018427387904)).toNat:Int) < (128:Int) ^ (k+1)
  omega
 exact Int.ofNat_lt.1 h2
theorem My {g:aJ} (h:gOk g):(yg g).length<=5:=by
 obtain ⟨⟨_,a⟩,_,b⟩:=h
 have h1:=Ez 2 (v:=g.rune) (by omega)
 have h2:=Ez 1 (v:=g.aO) (by omega)
 show ([g.rune,g.aO].flatMap dM).length<=5
 simp only [List.flatMap_cons,List.flatMap_nil,List.append_nil,List.length_append]
 omega
theorem EA: ∀ (l:List aJ),gls l->(l.flatMap yg).length<=5*l.length
 | [],_=>Nat.le_refl _
 | g::l,h=>by
  have h1:=My (h g List.mem_cons_self)
  have h2:=EA l λq hq=>h q (List.mem_cons_of_mem _ hq)
  rw [List.flatMap_cons,List.length_append,List.length_cons]
  omega
structure SQ (s:aL):Prop where
 g:SG s
 ne:lQ s=false
 bg:gls s.begun
 bl:s.begun.length < 1024
 tl:s.title.size<=200
 rl:s.rows.length<=6
 rw_: ∀ r∈s.rows,r.cells.length<=10
theorem SQ.pk {s:aL} (h:SQ s):(s.rows.flatMap mm).length<=2214:=by
 have h1:=vf 10 s.rows h.rw_
 have:=h.rl
 have:s.rows.length*(9+36*10)<=6*369:=Nat.mul_le_mul this (by decide)
 omega
theorem SQ.ct {s:aL} (h:SQ s):CT1 s:=⟨h.g.sw,by have:=h.pk; omega⟩
def grm (id key base:Int) (P:List ByteArray) (i:Nat):aV:=⟨1,1,[id,key,base,(i:Int),(P.length:Int)],(P[i]?).getD noS⟩
theorem FK {m:bK} (h:m.there=List.replicate m.parts.length false):rA m=(List.range m.parts.length).map (grm m.id m.key m.base m.parts):=by
 unfold rA
 rw [Iq h,List.map_map]
 rfl
theorem CG {c:bW} {x:aL} (hx:SQ x) (hk:1<=x.k) {now:Int} :
  fA (nuS c) x=some (true,setCur (nuS c) x)/\gm (setCur (nuS c) x) now=some (nI (setCur (nuS c) x) now) /\
   (nI (setCur (nuS c) x) now).1=(List.range (wc (nT mC x) (ptN (nuS c).config.part)).length).map (grm 1 x.k 0 (wc (nT mC x) (ptN (nuS c).config.part))):=by
 have hn:=uD (nuS c) x hx.g.sw
 have hc: ¬ (ql x=false\/x.k<=(nuS c).current.k):=by
  rw [hx.g.may]
  rintro (h | h)
  ·cases h
  ·have:(nuS c).current.k=0:=rfl
   omega
 have e:vT (nuS c) x=(true,setCur (nuS c) x):=by
  unfold vT
  rw [if_neg hc]
 rw [e] at hn
 have hs:SNI (setCur (nuS c) x):=by
  have:=wI (CF c) hx.ct
  rw [e] at this
  exact this
 refine ⟨hn,y6 _ now hs,?_⟩
 rw [xV now (by show x.k≠0; omega) rfl]
 rw [FK rfl]
 rfl
theorem Mz (e:cU):okO (mz e) (λr=>r.text.size<=60/\(r.w<=10\/1000 < r.w)/\(r.h<=6\/1000 < r.h)):=by
 unfold mz
 refine dP (D4 e.text (n:=60) (by decide)) λr hr=> ?_
 have hr':r.size<=60:=by omega
 by_cases h1:e.w > 10
 ·rw [decide_eq_true h1,cond_true]
  refine dP (P:=λb=>b=decide (e.w<=1000)) (cG rfl) λb hb=> ?_
  subst hb
  by_cases h2:e.w<=1000
  ·rw [decide_eq_true h2,cond_true]
   refine dP (P:=λq=>q=cU.mk e.kind r 10 e.h) (cG rfl) λq hq=> ?_
   subst hq
   dsimp only
   by_cases h3:e.h > 6
   ·rw [decide_eq_true h3,cond_true]
    refine dP (P:=λb=>b=decide (e.h<=1000)) (cG rfl) λb hb=> ?_
    subst hb
    by_cases h4:e.h<=1000
    ·rw [decide_eq_true h4,cond_true]
     exact dP (P:=λq=>q=cU.mk e.kind r 10 6) (cG rfl) λq hq=>by subst hq; exact cG ⟨hr',.inl (Int.le_refl _),.inl (Int.le_refl _)⟩
    ·rw [decide_eq_false h4,cond_false]
     exact dP (P:=λq=>q=cU.mk e.kind r 10 e.h) (cG rfl) λq hq=>by subst hq; exact cG ⟨hr',.inl (Int.le_refl _),.inr (by dsimp only; omega)⟩
   ·rw [decide_eq_false h3,cond_false]
    refine dP (P:=λb=>b=false) (cG rfl) λb hb=> ?_
    subst hb
    rw [cond_false]
    exact dP (P:=λq=>q=cU.mk e.kind r 10 e.h) (cG rfl) λq hq=>by subst hq; exact cG ⟨hr',.inl (Int.le_refl _),.inl (by dsimp only; omega)⟩
  ·rw [decide_eq_false h2,cond_false]
   refine dP (P:=λq=>q=cU.mk e.kind r e.w e.h) (cG rfl) λq hq=> ?_
   subst hq
   dsimp only
   by_cases h3:e.h > 6
   ·rw [decide_eq_true h3,cond_true]
    refine dP (P:=λb=>b=decide (e.h<=1000)) (cG rfl) λb hb=> ?_
    subst hb
    by_cases h4:e.h<=1000
    ·rw [decide_eq_true h4,cond_true]
     exact dP (P:=λq=>q=cU.mk e.kind r e.w 6) (cG rfl) λq hq=>by subst hq; exact cG ⟨hr',.inr (by dsimp only; omega),.inl (Int.le_refl _)⟩
    ·rw [decide_eq_false h4,cond_false]
     exact dP (P:=λq=>q=cU.mk e.kind r e.w e.h) (cG rfl) λq hq=>by subst hq; exact cG ⟨hr',.inr (by dsimp only; omega),.inr (by dsimp only; omega)⟩
   ·rw [decide_eq_false h3,cond_false]
    refine dP (P:=λb=>b=false) (cG rfl) λb hb=> ?_
    subst hb
    rw [cond_false]
    exact dP (P:=λq=>q=cU.mk e.kind r e.w e.h) (cG rfl) λq hq=>by subst hq; exact cG ⟨hr',.inr (by dsimp only; omega),.inl (by dsimp only; omega)⟩
 ·rw [decide_eq_false h1,cond_false]
  refine dP (P:=λb=>b=false) (cG rfl) λb hb=> ?_
  subst hb
  rw [cond_false]
  refine dP (P:=λq=>q=cU.mk e.kind r e.w e.h) (cG rfl) λq hq=> ?_
  subst hq
  dsimp only
  by_cases h3:e.h > 6
  ·rw [decide_eq_true h3,cond_true]
   refine dP (P:=λb=>b=decide (e.h<=1000)) (cG rfl) λb hb=> ?_
   subst hb
   by_cases h4:e.h<=1000
   ·rw [decide_eq_true h4,cond_true]
    exact dP (P:=λq=>q=cU.mk e.kind r e.w 6) (cG rfl) λq hq=>by subst hq; exact cG ⟨hr',.inl (by dsimp only; omega),.inl (Int.le_refl _)⟩
   ·rw [decide_eq_false h4,cond_false]
    exact dP (P:=λq=>q=cU.mk e.kind r e.w e.h) (cG rfl) λq hq=>by subst hq; exact cG ⟨hr',.inl (by dsimp only; omega),.inr (by dsimp only; omega)⟩
  ·rw [decide_eq_false h3,cond_false]
   refine dP (P:=λb=>b=false) (cG rfl) λb hb=> ?_
   subst hb
   rw [cond_false]
   exact dP (P:=λq=>q=cU.mk e.kind r e.w e.h) (cG rfl) λq hq=>by subst hq; exact cG ⟨hr',.inl (by dsimp only; omega),.inl (by dsimp only; omega)⟩
structure MQ (N:Nat) (m:bO) (z:Zt):Prop where
 ex: ∃ W x,W<=10/\MX W (484000*N) N z m x
 g:MG m z
 h:m.aN.g.l.length<=6
theorem Ir {w h:Int} (hw:w<=10) (hh:h<=6):MQ 0 (tI w h) ([],[]):=by
 refine ⟨⟨szN w,_,by unfold szN; omega,Mm w h⟩,Mo w h,?_⟩
 show (List.replicate (szN h) (iF (szN w) 0)).length<=6
 rw [List.length_replicate]
 unfold szN
 omega
theorem NM {N:Nat} {m:bO} {z:Zt} (h:MQ N m z) (hN:N<=90) {e:cU} (ht:e.text.size<=60) (hw:e.w<=10\/1000 < e.w) (hh:e.h<=6\/1000 < e.h) :
  ∃ f m' z',eU m ⟨e.kind,e.text,e.w,e.h⟩=some (f,m')/\MQ (N+1) m' z'/\m.k<=m'.k/\(f=0->m'.k=m.k+1)/\(f≠0->m'=m/\z'=z):=by
 obtain ⟨W,x,hW,hx⟩:=h.ex
 by_cases hc:xP e.kind e.text.size e.w e.h=0
 ·by_cases hk0:e.kind=0
  ·obtain ⟨ek,et,ew,eh⟩:=e
   dsimp only at hk0 ht hc hw hh ⊢
   subst hk0
   have e1:=CD hx (by omega) (by omega) (t:=et) (by omega) ew eh
   have h1:=HU hx (t:=et) (by omega)
   have hl1:=hx.si.gi.l1
   have hl2:=hx.si.gi.l2
   refine ⟨0,_,_,e1,⟨⟨W,_,hW,h1.mono (by omega) (Nat.le_refl _)⟩,HZ hx h.g et _ _,?_⟩,by dsimp only; omega,λ_=>rfl,λe=>absurd rfl e⟩
   have:=(Bm (W:=W) (prun m.parser (sbs et)).out (y:=(m.aN,z)) ⟨rfl,hl1,hl2⟩).e
   dsimp only at this ⊢
   rw [this]
   exact h.h
  ·by_cases hk1:e.kind=1
   ·obtain ⟨ek,et,ew,eh⟩:=e
    dsimp only at hk1 ht hc hw hh ⊢
    subst hk1
    have hb:1<=ew/\ew<=1000/\1<=eh/\eh<=1000:=by
     unfold xP at hc
     rw [if_neg (by decide),if_pos rfl] at hc
     split at hc
     ·exact absurd hc (by decide)
     ·omega
    refine ⟨0,_,_,HV hx (by omega) hN hc,⟨⟨szN ew,_,by unfold szN; omega,(Kd hx ew eh).mono (by omega) (Nat.le_refl _)⟩,Kf h.g ew eh _ _,?_⟩,by dsimp only; omega,λ_=>rfl,λe=>absurd rfl e⟩
    show (rzL (szN ew) m.aN.g.l _ (szN eh)).length<=6
    rw [ox]
    unfold szN
    omega
   ·exfalso
    unfold xP at hc
    rw [if_neg hk0,if_neg hk1] at hc
    exact absurd hc (by decide)
 ·exact ⟨_,m,z,Kb m ⟨e.kind,e.text,e.w,e.h⟩ hc,⟨⟨W,x,hW,hx.mono (by omega) (by omega)⟩,h.g,h.h⟩,Int.le_refl _,λe=>absurd e hc,λ_=>⟨rfl,rfl⟩⟩
theorem zR {N:Nat} {m:bO} {z:Zt} (h:MQ N m z) (hN:N<=90):fY m=some (sOf m z,m)/\SQ (sOf m z)/\1<=(sOf m z).k/\(sOf m z).k=m.k+1/\m.k<=N:=by
 obtain ⟨W,x,hW,hx⟩:=h.ex
 have hk0:=hx.k0
 have hkN:=hx.kN
 have hrw: ∀ r∈(sOf m z).rows,r.cells.length<=10:=λr hr=>by
  have:=(hx.si.gi.rs r hr).1
  omega
 have hpk:((sOf m z).rows.flatMap mm).length<=12000:=by
  have h1:=vf 10 (sOf m z).rows hrw
  have h2:(sOf m z).rows.length<=6:=h.h
  have:(sOf m z).rows.length*(9+36*10)<=6*369:=Nat.mul_le_mul h2 (by decide)
  omega
 refine ⟨H0 hx (by omega) (by omega),⟨⟨Mp hx h.g,hpk,Ki hx h.g (by omega) (by omega)⟩,?_,h.g.zg.b,hx.zi.b,h.g.sc.t,h.h,hrw⟩,?_,rfl,hkN⟩
 ·unfold lQ
  rw [show (sOf m z).k=m.k+1 from rfl,eE (by omega)]
  rfl
 ·show 1<=m.k+1
  omega
end Go.Tw.X

import Derived.Test.YtjpeabeokdkkbaaGreatDoorXq1
import Derived.Test.YtjpeabeokdkkbaaGreatDoorXp1
import Derived.Test.YtjpeabeokdkkbaaGreatDoorFw2
set_option linter.unusedVariables false
set_option linter.unusedSimpArgs false
set_option maxHeartbeats 1000000
namespace Go.Tw.X
open Go Go.Tw
def fX (z:List (List aN)×List aN):cG:=⟨z.1,chs z.1,z.2⟩
def DS (g:List aN):Prop:= ∀ x∈g,rok x.rune
theorem Cx: ∀ n (g:List aN),g.length=n→DS g→(nf g).1.length*1024≤n∧(nf g).2.length < 1024∧DS (nf g).2 ∧ ∀ x∈(nf g).1,yw x:=by
 intro n
 induction n using Nat.strongRecOn with
 | _ n ih =>
  intro g hg ho
  by_cases h:1024≤g.length
  ·rw [yx h]
   obtain ⟨a,b,c,d⟩:=ih (g.drop 1024).length (by rw [List.length_drop]; omega) _ rfl (fun x hx=>ho x (List.mem_of_mem_drop hx))
   rw [List.length_drop] at a
   refine ⟨by rw [List.length_cons,Nat.succ_mul,← hg]; exact Nat.add_le_of_le_sub h a,b,c,fun x hx=> ?_⟩
   rcases List.mem_cons.1 hx with rfl | hx
   ·exact ⟨by rw [List.length_take]; omega,fun y hy=>ho y (List.mem_of_mem_take hy)⟩
   ·exact d x hx
  ·rw [vi h]
   exact ⟨by rw [List.length_nil]; omega,by dsimp only; omega,ho,fun x hx=>by cases hx⟩
def zL (r:aE):Prop:=r.cells.length≤1000∧DS (nF r)
structure ZI (k:Nat) (z:List (List aN)×List aN):Prop where
 n:z.1.length≤k
 b:z.2.length < 1024
 g:DS z.2
 ls: ∀ x∈z.1,yw x
theorem HO {k:Nat} {z:List (List aN)×List aN} (h:ZI k z) {r:aE} (hr:zL r):ZI (k+2) (ug z r):=by
 have hl:=zj r
 obtain ⟨a,b,c,d⟩:=Cx _ (z.2++nF r) rfl (fun x hx=>(List.mem_append.1 hx).elim (h.g x) (hr.2 x))
 rw [List.length_append] at a
 have h1:=h.n
 have h2:=h.b
 have h3:=hr.1
 unfold ug
 dsimp only
 split
 ·exact ⟨by rw [List.length_append]; omega,b,c,fun x hx=>(List.mem_append.1 hx).elim (h.ls x) (d x)⟩
 ·refine ⟨by simp; omega,by show 0 < 1024; decide,fun x hx=>(by cases hx),fun x hx=> ?_⟩
  rcases List.mem_append.1 hx with hx | hx
  ·exact (List.mem_append.1 hx).elim (h.ls x) (d x)
  ·rw [List.mem_singleton.1 hx]
   exact ⟨by omega,c⟩
theorem add_one {k:Nat} (hk:k≤100000000) {z:List (List aN)×List aN} (h:ZI k z) {r:aE} (hr:zL r):(Option.bind (iU r) fun f=>(Option.bind (chk (eL (fX z).begun.length f.length 16)) fun _=>(Option.bind (iter (σ:=cG) (ρ:=cG) (fun d=>(bif (decide ((d.begun.length:Int)≥1024)) then (Option.bind (chk (dB 0 1024 d.begun.length)) fun _=>(Option.bind (fF d (cut d.begun 0 1024)) fun c=>(Option.bind (chk (dB 1024 (c.begun.length:Int) c.begun.length)) fun _=>(Option.bind (cC (cut c.begun 1024 (c.begun.length:Int))) fun j=>some (.inl (cG.mk c.l c.bZ j)))))) else some (.inr d))) (cG.mk (fX z).l (fX z).bZ ((fX z).begun++f))) fun e=>(bif (!r.wrapped) then (Option.bind (fF e e.begun) fun i=>some (cG.mk i.l i.bZ ([]:List aN))) else some e))))=some (fX (ug z r)):=by
 have hl:=zj r
 have h1:=h.n
 have h2:=h.b
 have h3:=hr.1
 have hgo:DS (z.2++nF r):=fun x hx=>(List.mem_append.1 hx).elim (h.g x) (hr.2 x)
 obtain ⟨ca,cb,cc,_⟩:=Cx _ (z.2++nF r) rfl hgo
 rw [List.length_append] at ca
 rw [Dz r (by omega),Option.bind_some,bR (by show (z.2.length+(nF r).length)*16≤_; omega),Option.bind_some]
 refine L3 (jP (P:=fun y=>y=fX (z.1++(nf (z.2++nF r)).1,(nf (z.2++nF r)).2)) ?_ fun y hy=> ?_)
 ·refine qZ (fun y:cG=> ∃ l g,y=fX (l,g)∧g.length≤2024∧DS g∧l.length+g.length≤200000000∧(nf g).2=(nf (z.2++nF r)).2∧l++(nf g).1=z.1++(nf (z.2++nF r)).1) (fun y=>y.begun.length) ⟨z.1,z.2++nF r,rfl,by simp; omega,hgo,by simp; omega,rfl,rfl⟩ ?_
  rintro _ ⟨l,g,rfl,g1,g2,g3,g4,g5⟩
  show okO (bif (decide ((g.length:Int)≥1024)) then _ else _) _
  refine td (fun hh=> ?_) fun hh=> ?_
  ·have hge:1024≤g.length:=by omega
   rw [yx hge] at g4 g5
   have hcut:cut g 0 1024=g.take 1024:=by rw [show (1024:Int)=((1024:Nat):Int) from rfl,E7]
   have hcut2:cut g 1024 (g.length:Int)=g.drop 1024:=by rw [show (1024:Int)=((1024:Nat):Int) from rfl,sV,List.take_length]
   refine jP (Be (by omega) (by omega) (by show (1024:Int)≤g.length; omega)) fun _ _=> ?_
   rw [show (fX (l,g)).begun=g from rfl,hcut,zJ (b:=fX (l,g)) rfl (by show l.length≤_; omega) ⟨by rw [List.length_take]; omega,fun x hx=>g2 x (List.mem_of_mem_take hx)⟩,Option.bind_some]
   dsimp only
   refine jP (Be (by omega) (by show (1024:Int)≤g.length; omega) (by show (g.length:Int)≤g.length; omega)) fun _ _=> ?_
   rw [show (fX (l,g)).begun=g from rfl,show (fX (l,g)).l=l from rfl,hcut2,uf _ (by rw [List.length_drop]; omega),Option.bind_some]
   refine fC ⟨⟨l++[g.take 1024],g.drop 1024,rfl,by rw [List.length_drop]; omega,fun x hx=>g2 x (List.mem_of_mem_drop hx),by simp; omega,g4,by rw [← g5]; simp⟩,?_⟩
   show (g.drop 1024).length < g.length
   rw [List.length_drop]
   omega
  ·rw [vi (by omega)] at g4 g5
   refine fC ?_
   rw [← g4,← g5]
   simp
 ·subst hy
  unfold ug
  cases hw:r.wrapped with
  | true=>exact fC rfl
  | false =>
   simp only [Bool.not_false,cond_true]
   rw [show ∀ a b,(fX (a,b)).begun=b from fun _ _=>rfl,zJ (b:=fX (z.1++(nf (z.2++nF r)).1,(nf (z.2++nF r)).2)) rfl (by show (z.1++(nf (z.2++nF r)).1).length≤_; rw [List.length_append]; omega) ⟨by show (nf (z.2++nF r)).2.length≤2000; omega,cc⟩]
   exact fC rfl
theorem uh {k:Nat}: ∀ (rows:List aE) {z:List (List aN)×List aN},ZI k z→(∀ r∈rows,zL r)→ZI (k+2*rows.length) (rows.foldl ug z)
 | [],z,h,_=>h
 | r::rows,z,h,hr=>by
  have h1:=HO h (hr r List.mem_cons_self)
  have h2:=uh (k:=k+2) rows h1 fun x hx=>hr x (List.mem_cons_of_mem _ hx)
  rw [show k+2*(r::rows).length=k+2+2*rows.length by simp; omega]
  exact h2
theorem add_eq {k:Nat} {z:List (List aN)×List aN} (h:ZI k z) {rows:List aE} (hr: ∀ r∈rows,zL r) (hk:k+2*rows.length≤100000000):okO (iA (fX z) rows) (fun y=>y.2=fX (rows.foldl ug z)):=by
 unfold iA
 refine jP (P:=fun y=>y=fX (rows.foldl ug z)) ?_ fun y hy=>fC hy
 refine qZ (fun y:cG×Int=>0≤y.2∧y.2≤rows.length∧y.1=fX ((rows.take y.2.toNat).foldl ug z)) (fun y=>rows.length - y.2.toNat) ⟨Int.le_refl 0,by dsimp only; omega,rfl⟩ ?_
 rintro ⟨b,i⟩ ⟨h0,h1,h2⟩
 dsimp only at h0 h1 h2 ⊢
 subst h2
 refine td (fun hi=> ?_) fun hi=>fC (by rw [List.take_of_length_le (by omega)])
 obtain ⟨j,rfl⟩: ∃ j:Nat,i=j:=⟨i.toNat,by omega⟩
 have hj:j < rows.length:=by omega
 have hZ:=uh (rows.take j) h fun x hx=>hr x (List.mem_of_mem_take hx)
 rw [List.length_take] at hZ
 rw [dO rows j hj,Option.bind_some]
 have:=add_one (by omega) hZ (hr rows[j] (List.getElem_mem hj))
 rw [show ((j:Int)).toNat=j from rfl]
 rw [this,Option.bind_some,w64 (by omega) (by omega)]
 refine fC ⟨⟨by dsimp only; omega,by dsimp only; omega,?_⟩,by dsimp only; omega⟩
 dsimp only
 rw [show ((j:Int)+1).toNat=j+1 by omega,List.take_add_one,List.getElem?_eq_getElem hj,Option.toList_some,List.foldl_append]
 rfl
end Go.Tw.X
set_option linter.unusedVariables false
set_option linter.unusedSimpArgs false
namespace Go.Tw.X
open Go Go.Tw
def tst (s:bG):bO:=⟨s.gN,s.back,s.bold,s.under,s.dI⟩
def bN (b:Bool) (n:Int):Int:=if b then n else 0
def k7 (s:bG):Int:=if 0≤s.gN∧s.gN < 9∧0≤s.back∧s.back < 9 then s.gN+9*s.back+bN s.bold 81+bN s.under 162+bN s.dI 324 else 0
theorem J0 (b:Bool) (n:Int):l4 b n=some (bN b n):=by cases b <;> rfl
theorem DT (s:bG):jw s=some (decide (0≤s.gN∧s.gN < 9∧0≤s.back∧s.back < 9)):=by
 unfold jw
 by_cases a:0≤s.gN <;> by_cases b:s.gN < 9 <;> by_cases c:0≤s.back <;> by_cases d:s.back < 9 <;> simp [a,b,c,d,ge_iff_le]
theorem HP (s:bG):pZ (tst s)=some (decide (0≤s.gN∧s.gN < 9∧0≤s.back∧s.back < 9)):=by
 unfold pZ
 have e1:(s.gN≤8)=(s.gN < 9):=propext (by omega)
 have e2:(s.back≤8)=(s.back < 9):=propext (by omega)
 simp only [tst,e1,e2]
 by_cases a:0≤s.gN <;> by_cases b:s.gN < 9 <;> by_cases c:0≤s.back <;> by_cases d:s.back < 9 <;> simp [a,b,c,d,ge_iff_le]
theorem FJ (b:Bool) (n:Int) (h:0≤n):0≤bN b n∧bN b n≤n:=by cases b <;> simp [bN,h]
theorem FK (s:bG):jy s=some (k7 s):=by
 unfold jy k7
 rw [DT,aA]
 by_cases h:0≤s.gN∧s.gN < 9∧0≤s.back∧s.back < 9
 ·have h1:=FJ s.bold 81 (by omega)
  have h2:=FJ s.under 162 (by omega)
  have h3:=FJ s.dI 324 (by omega)
  rw [decide_eq_true h,if_pos h]
  simp only [Bool.not_true,cond_false,J0,aA]
  rw [w64 (x:=9*s.back) (by omega) (by omega),w64 (x:=s.gN+9*s.back) (by omega) (by omega),w64 (x:=s.gN+9*s.back+bN s.bold 81) (by omega) (by omega),w64 (x:=s.gN+9*s.back+bN s.bold 81+bN s.under 162) (by omega) (by omega),w64 (by omega) (by omega)]
 ·rw [decide_eq_false h,if_neg h]
  rfl
theorem zM (s:bG):ki (tst s)=some (k7 s):=by
 unfold ki k7
 rw [HP,aA]
 by_cases h:0≤s.gN∧s.gN < 9∧0≤s.back∧s.back < 9
 ·rw [decide_eq_true h,if_pos h]
  simp only [Bool.not_true,cond_false,tst]
  rw [w64 (x:=9*s.back) (by omega) (by omega),w64 (x:=s.gN+9*s.back) (by omega) (by omega)]
  cases s.bold <;> cases s.under <;> cases s.dI <;> simp only [cond_true,cond_false,aA,bN] <;> simp <;> (try simp only [IntKind.wrap_i64]) <;> (try omega)
 ·rw [decide_eq_false h,if_neg h]
  rfl
def ui (s:bG) (n:Int):bG:=if n=0 then ⟨0,0,false,false,false⟩ else if n=1∨n=22 then ⟨s.gN,s.back,n == 1,s.under,s.dI⟩ else if n=4∨n=24 then ⟨s.gN,s.back,s.bold,n == 4,s.dI⟩ else if n=7∨n=27 then ⟨s.gN,s.back,s.bold,s.under,n == 7⟩ else if 30≤n∧n < 38 then ⟨n - 29,s.back,s.bold,s.under,s.dI⟩ else if n=39 then ⟨0,s.back,s.bold,s.under,s.dI⟩ else if 40≤n∧n < 48 then ⟨s.gN,n - 39,s.bold,s.under,s.dI⟩ else if n=49 then ⟨s.gN,0,s.bold,s.under,s.dI⟩ else s
theorem dQ {a b:Int} (h: ¬ a=b):(a == b)=false:=by simpa using h
theorem k8 {a b:Int} (h:a=b):(a == b)=true:=by simpa using h
theorem sD (n a b:Int):((bif (n == a) then some true else some (n == b)):Option Bool)=some (decide (n=a∨n=b)):=by
 by_cases h:n=a
 ·simp [h]
 ·rw [dQ h,cond_false]
  by_cases h2:n=b
  ·simp [h2]
  ·rw [dQ h2,decide_eq_false (by omega)]
theorem HQ (n a b:Int):((bif (decide (n≥a)) then some (decide (n < b)) else some false):Option Bool)=some (decide (a≤n∧n < b)):=yg (a≤n) (n < b)
theorem HR (n a b:Int):((bif (decide (n≥a)) then some (decide (n≤b)) else some false):Option Bool)=some (decide (a≤n∧n≤b)):=yg (a≤n) (n≤b)
theorem J1 (s:bG) (n:Int):jz s n=some (ui s n):=by
 unfold jz ui
 simp only [sD,HQ,aA]
 by_cases h0:n=0
 ·simp [h0,kb]
 ·have b0:(n == 0)=false:=by simpa using h0
  rw [b0,cond_false,if_neg h0]
  by_cases h1:n=1∨n=22
  ·rw [decide_eq_true h1,if_pos h1]; rfl
  ·rw [decide_eq_false h1,cond_false,if_neg h1]
   by_cases h2:n=4∨n=24
   ·rw [decide_eq_true h2,if_pos h2]; rfl
   ·rw [decide_eq_false h2,cond_false,if_neg h2]
    by_cases h3:n=7∨n=27
    ·rw [decide_eq_true h3,if_pos h3]; rfl
    ·rw [decide_eq_false h3,cond_false,if_neg h3]
     by_cases h4:30≤n∧n < 38
     ·rw [decide_eq_true h4,cond_true,if_pos h4,w64 (x:=n - 30) (by omega) (by omega),w64 (by omega) (by omega),show n - 30+1=n - 29 by omega]; rfl
     ·rw [decide_eq_false h4,cond_false,if_neg h4]
      by_cases h5:n=39
      ·simp [h5]
      ·have b5:(n == 39)=false:=by simpa using h5
       rw [b5,cond_false,if_neg h5]
       by_cases h6:40≤n∧n < 48
       ·rw [decide_eq_true h6,cond_true,if_pos h6,w64 (x:=n - 40) (by omega) (by omega),w64 (by omega) (by omega),show n - 40+1=n - 39 by omega]; rfl
       ·rw [decide_eq_false h6,cond_false,if_neg h6]
        by_cases h7:n=49
        ·simp [h7]
        ·rw [dQ h7,if_neg h7]; rfl
theorem HS (s:bG) (n k:Int):((Option.bind ((bif (n == 0) then some (bO.mk 0 0 false false false) else some (tst s)):Option bO) fun a=>(Option.bind ((bif (n == 1) then some true else some (n == 22)):Option Bool) fun h=>(Option.bind ((bif h then some (bO.mk a.gN a.back (decide (n < 10)) a.under a.dI) else some a):Option bO) fun b=>(Option.bind ((bif (n == 4) then some true else some (n == 24)):Option Bool) fun i=>(Option.bind ((bif i then some (bO.mk b.gN b.back b.bold (decide (n < 10)) b.dI) else some b):Option bO) fun c=>(Option.bind ((bif (n == 7) then some true else some (n == 27)):Option Bool) fun j=>(Option.bind ((bif j then some (bO.mk c.gN c.back c.bold c.under (decide (n < 10))) else some c):Option bO) fun d=>(Option.bind ((bif (decide (n≥30)) then some (decide (n≤37)) else some false):Option Bool) fun l=>(Option.bind ((bif l then some (bO.mk (IntKind.i64.wrap (n - 29)) d.back d.bold d.under d.dI) else some d):Option bO) fun e=>(Option.bind ((bif (n == 39) then some (bO.mk 0 e.back e.bold e.under e.dI) else some e):Option bO) fun f=>(Option.bind ((bif (decide (n≥40)) then some (decide (n≤47)) else some false):Option Bool) fun m=>(Option.bind ((bif m then some (bO.mk f.gN (IntKind.i64.wrap (n - 39)) f.bold f.under f.dI) else some f):Option bO) fun g=>(bif (n == 49) then some (k,(bO.mk g.gN 0 g.bold g.under g.dI)) else some (k,g)))))))))))))):Option (Int×bO))=some (k,tst (ui s n)):=by
 simp only [sD,HR,aA]
 unfold ui
 by_cases h0:n=0
 ·subst h0; simp [tst,aA]
 ·have b0:(n == 0)=false:=by simpa using h0
  rw [b0,cond_false,if_neg h0,aA]
  by_cases h1:n=1∨n=22
  ·rcases h1 with rfl | rfl <;> simp [tst,aA]
  ·rw [decide_eq_false h1,cond_false,if_neg h1,aA]
   by_cases h2:n=4∨n=24
   ·rcases h2 with rfl | rfl <;> simp [tst,aA]
   ·rw [decide_eq_false h2,cond_false,if_neg h2,aA]
    by_cases h3:n=7∨n=27
    ·rcases h3 with rfl | rfl <;> simp [tst,aA]
    ·rw [decide_eq_false h3,cond_false,if_neg h3,aA]
     by_cases h4:30≤n∧n < 38
     ·have e4:decide (30≤n∧n≤37)=true:=decide_eq_true (by omega)
      have e5:(n == 39)=false:=by simp; omega
      have e6:decide (40≤n∧n≤47)=false:=decide_eq_false (by omega)
      have e7:(n == 49)=false:=by simp; omega
      rw [e4,e5,e6,e7,if_pos h4,w64 (x:=n - 29) (by omega) (by omega)]
      rfl
     ·have e4:decide (30≤n∧n≤37)=false:=decide_eq_false (by omega)
      rw [e4,if_neg h4,cond_false,aA]
      by_cases h5:n=39
      ·subst h5; simp [tst,aA]
      ·have b5:(n == 39)=false:=by simpa using h5
       rw [b5,cond_false,if_neg h5,aA]
       by_cases h6:40≤n∧n < 48
       ·have e6:decide (40≤n∧n≤47)=true:=decide_eq_true (by omega)
        have e7:(n == 49)=false:=by simp; omega
        rw [e6,e7,if_pos h6,w64 (x:=n - 39) (by omega) (by omega)]
        rfl
       ·have e6:decide (40≤n∧n≤47)=false:=decide_eq_false (by omega)
        rw [e6,if_neg h6,cond_false,aA]
        by_cases h7:n=49
        ·simp [h7,tst]
        ·rw [dQ h7,if_neg h7]; rfl
def nh:List Int→Nat
 | 5::l=>min 2 (l.length+1)
 | 2::l=>min 4 (l.length+1)
 | _=>0
theorem FL (l:List Int):nh l≤l.length:=by
 unfold nh
 split <;> simp <;> omega
theorem HT (l:List Int):me l=some (nh l:Int):=by
 unfold me
 cases l with
 | nil=>rfl
 | cons a l =>
  have h0:decide (((a::l).length:Int) > 0)=true:=by simp
  have h1:idx (a::l) 0=some a:=EY _
  simp only [h0,cond_true,h1,aA]
  by_cases h5:a=5
  ·subst h5
   simp only [beq_self_eq_true,cond_true,aA,nh,eG,List.length_cons]
   first | done | (congr 1; omega)
  ·have e5:(a == 5)=false:=by simpa using h5
   simp only [e5,cond_false,aA]
   by_cases h2:a=2
   ·subst h2
    simp only [beq_self_eq_true,cond_true,aA,nh,eG,List.length_cons]
    first | done | (congr 1; omega)
   ·have e2:(a == 2)=false:=by simpa using h2
    simp only [e2,cond_false]
    unfold nh
    split
    ·rename_i heq; injection heq with h; exact absurd h h5
    ·rename_i heq; injection heq with h; exact absurd h h2
    ·rfl
def sE (s:bG) (l:List Int):bG :=
 match l with
 | []=>s
 | n::l=>if n=38∨n=48 then sE s (l.drop (nh l)) else sE (ui s n) l
termination_by l.length
decreasing_by all_goals simp_wf <;> omega
theorem zO (s:bG):sE s []=s:=by unfold sE; rfl
theorem xF (s:bG) (n:Int) (l:List Int):sE s (n::l)=if n=38∨n=48 then sE s (l.drop (nh l)) else sE (ui s n) l:=by rw [sE]
def DU (s:bG) (l:List Int):bG:=if l.length=0 then ⟨0,0,false,false,false⟩ else sE s l
theorem HU (l:List Int):((l.length:Int) == 0)=decide (l.length=0):=by
 by_cases h:l.length=0
 ·simp [h]
 ·rw [decide_eq_false h,dQ (by omega)]
theorem HV (s:bG) (l:List Int) (hl:l.length≤1000000):jA s l=some (DU s l):=by
 unfold jA DU
 rw [HU]
 by_cases h0:l.length=0
 ·rw [decide_eq_true h0,if_pos h0]; rfl
 ·rw [decide_eq_false h0,if_neg h0,cond_false]
  refine nH (fun x=>0≤x.2∧x.2≤l.length∧sE x.1 (l.drop x.2.toNat)=sE s l) (fun x=>l.length - x.2.toNat) (fun r=>r=sE s l) ⟨Int.le_refl 0,by dsimp only; omega,by simp⟩ ?_ ?_
  ·rintro ⟨q,i⟩ ⟨h1,h2,h3⟩
   dsimp only at h1 h2 h3 ⊢
   obtain ⟨i,rfl⟩:=Int.eq_ofNat_of_zero_le h1
   rw [Int.toNat_natCast] at h3
   by_cases hi:i < l.length
   ·left
    rw [decide_eq_true (by omega:(i:Int) < l.length),cond_true,dO _ _ hi,aA,sD,aA]
    rw [List.drop_eq_getElem_cons hi,xF] at h3
    by_cases hn:l[i]=38∨l[i]=48
    ·rw [if_pos hn] at h3
     have hsk:=FL (l.drop (i+1))
     rw [List.length_drop] at hsk
     rw [decide_eq_true hn,cond_true,w64 (x:=(i:Int)+1) (by omega) (by omega),show (i:Int)+1=((i+1:Nat):Int) by omega,bY (by omega) (by omega) (by omega),aA,sV,List.take_length,HT,aA,aA]
     dsimp only
     refine ⟨_,rfl,⟨?_,?_,?_⟩,?_⟩
     ·dsimp only; rw [w64 (x:=(i:Int)+(nh (l.drop (i+1)):Int)) (by omega) (by omega),w64 (by omega) (by omega)]; omega
     ·dsimp only; rw [w64 (x:=(i:Int)+(nh (l.drop (i+1)):Int)) (by omega) (by omega),w64 (by omega) (by omega)]; omega
     ·dsimp only; rw [w64 (x:=(i:Int)+(nh (l.drop (i+1)):Int)) (by omega) (by omega),w64 (by omega) (by omega),← h3,List.drop_drop]
      congr 2
      omega
     ·dsimp only; rw [w64 (x:=(i:Int)+(nh (l.drop (i+1)):Int)) (by omega) (by omega),w64 (by omega) (by omega)]; omega
    ·rw [if_neg hn] at h3
     rw [decide_eq_false hn,cond_false,aA,J1,aA,aA]
     dsimp only
     rw [w64 (x:=(i:Int)+1) (by omega) (by omega)]
     refine ⟨_,rfl,⟨by dsimp only; omega,by dsimp only; omega,?_⟩,by dsimp only; omega⟩
     dsimp only
     rw [show ((i:Int)+1).toNat=i+1 by omega,h3]
   ·right
    rw [decide_eq_false (by omega: ¬ (i:Int) < l.length),cond_false]
    rw [List.drop_eq_nil_of_le (by omega),zO] at h3
    exact ⟨q,rfl,h3⟩
  ·rintro r rfl
   rfl
theorem zP (l:List Int):(∃ r,l=5::r∧nh l=min 2 (r.length+1))∨(∃ r,l=2::r∧nh l=min 4 (r.length+1))∨(nh l=0∧(∀ a r,l=a::r→a≠5∧a≠2)):=by
 cases l with
 | nil=>exact .inr (.inr ⟨rfl,fun a r h=>by cases h⟩)
 | cons a l =>
  by_cases h5:a=5
  ·subst h5; exact .inl ⟨l,rfl,rfl⟩
  ·by_cases h2:a=2
   ·subst h2; exact .inr (.inl ⟨l,rfl,rfl⟩)
   ·refine .inr (.inr ⟨?_,fun b r h=>by injection h with h1 _; subst h1; exact ⟨h5,h2⟩⟩)
    unfold nh
    split
    ·rename_i heq; injection heq with h; exact absurd h h5
    ·rename_i heq; injection heq with h; exact absurd h h2
    ·rfl
theorem zQ (l:List Int) (k n:Nat) (h:l.length≤n):l.drop (min k n)=l.drop k:=by
 by_cases hk:k≤n
 ·rw [Nat.min_eq_left hk]
 ·rw [List.drop_eq_nil_of_le (by omega),List.drop_eq_nil_of_le (by omega)]
end Go.Tw.X
set_option linter.unusedVariables false
set_option linter.unusedSimpArgs false
namespace Go.Tw.X
open Go Go.Tw
theorem FM (s:bG) (l:List Int) (hl:l.length≤1000000):p7 (tst s) l=some (tst (DU s l)):=by
 unfold p7 DU
 rw [HU]
 by_cases h0:l.length=0
 ·rw [decide_eq_true h0,if_pos h0]; rfl
 ·rw [decide_eq_false h0,if_neg h0,cond_false]
  refine nH (fun x=> ∃ q,x.1=tst q∧0≤x.2.1∧x.2.1≤l.length∧0≤x.2.2∧x.2.2≤4∧sE q (l.drop (x.2.1.toNat+x.2.2.toNat))=sE s l) (fun x=>l.length - x.2.1.toNat) (fun r=>r=tst (sE s l)) ⟨s,rfl,Int.le_refl 0,by dsimp only; omega,Int.le_refl 0,by dsimp only; omega,by simp⟩ ?_ ?_
  ·rintro ⟨q',i,k⟩ ⟨q,e,h1,h2,h4,h5,h3⟩
   dsimp only at e h1 h2 h3 h4 h5 ⊢
   subst e
   obtain ⟨i,rfl⟩:=Int.eq_ofNat_of_zero_le h1
   obtain ⟨k,rfl⟩:=Int.eq_ofNat_of_zero_le h4
   rw [Int.toNat_natCast,Int.toNat_natCast] at h3
   by_cases hi:i < l.length
   ·left
    rw [decide_eq_true (by omega:(i:Int) < l.length),cond_true,dO _ _ hi,aA,w64 (x:=(i:Int)+1) (by omega) (by omega)]
    by_cases hk:0 < k
    ·rw [decide_eq_true (by omega:(k:Int) > 0),cond_true,aA,w64 (x:=(k:Int) - 1) (by omega) (by omega)]
     dsimp only
     refine ⟨_,rfl,⟨q,rfl,by dsimp only; omega,by dsimp only; omega,by dsimp only; omega,by dsimp only; omega,?_⟩,by dsimp only; omega⟩
     dsimp only
     rw [← h3]
     congr 2
     omega
    ·obtain rfl:k=0:=by omega
     rw [Nat.add_zero,List.drop_eq_getElem_cons hi,xF] at h3
     rw [decide_eq_false (by omega: ¬ ((0:Nat):Int) > 0),cond_false,sD,aA]
     by_cases hn:l[i]=38∨l[i]=48
     ·rw [if_pos hn] at h3
      rw [decide_eq_true hn,cond_true,show (i:Int)+1=((i+1:Nat):Int) by omega]
      have hd:(l.drop (i+1)).length≤l.length:=by simp
      by_cases hi1:i+1 < l.length
      ·rw [decide_eq_true (by omega:((i+1:Nat):Int) < l.length)]
       simp only [cond_true,dO _ _ hi1,aA]
       have hc:=zP (l.drop (i+1))
       rw [List.drop_eq_getElem_cons hi1] at hc
       by_cases a5:l[i+1]=5
       ·rw [a5]
        simp only [beq_self_eq_true,cond_true,aA]
        refine ⟨_,rfl,⟨q,rfl,by dsimp only; omega,by dsimp only; omega,by dsimp only; decide,by dsimp only; decide,?_⟩,by dsimp only; omega⟩
        dsimp only
        rcases hc with ⟨r,e1,e2⟩ | ⟨r,e1,_⟩ | ⟨_,e1⟩
        ·injection e1 with _ er
         rw [← h3,List.drop_eq_getElem_cons hi1,e2,← er]
         rw [zQ _ _ _ (by simp; omega),← List.drop_eq_getElem_cons hi1,List.drop_drop]
         congr 2
        ·injection e1 with er _
         omega
        ·exact absurd a5 (e1 _ _ rfl).1
       ·rw [dQ a5]
        simp only [cond_false,aA]
        by_cases a2:l[i+1]=2
        ·rw [a2]
         simp only [beq_self_eq_true,cond_true,aA]
         refine ⟨_,rfl,⟨q,rfl,by dsimp only; omega,by dsimp only; omega,by dsimp only; decide,by dsimp only; decide,?_⟩,by dsimp only; omega⟩
         dsimp only
         rcases hc with ⟨r,e1,e2⟩ | ⟨r,e1,e2⟩ | ⟨_,e1⟩
         ·injection e1 with er _
          omega
         ·injection e1 with _ er
          rw [← h3,List.drop_eq_getElem_cons hi1,e2,← er]
          rw [zQ _ _ _ (by simp; omega),← List.drop_eq_getElem_cons hi1,List.drop_drop]
          congr 2
         ·exact absurd a2 (e1 _ _ rfl).2
        ·rw [dQ a2]
         simp only [cond_false,aA]
         refine ⟨_,rfl,⟨q,rfl,by dsimp only; omega,by dsimp only; omega,by dsimp only; omega,by dsimp only; omega,?_⟩,by dsimp only; omega⟩
         dsimp only
         rcases hc with ⟨r,e1,e2⟩ | ⟨r,e1,e2⟩ | ⟨e2,_⟩
         ·injection e1 with er _
          exact absurd er a5
         ·injection e1 with er _
          exact absurd er a2
         ·rw [← h3,List.drop_eq_getElem_cons hi1,e2,← List.drop_eq_getElem_cons hi1,List.drop_drop]
          congr 2
      ·rw [decide_eq_false (by omega: ¬ ((i+1:Nat):Int) < l.length)]
       simp only [cond_false,aA]
       rw [List.drop_eq_nil_of_le (i:=i+1) (by omega),List.drop_nil] at h3
       refine ⟨_,rfl,⟨q,rfl,by dsimp only; omega,by dsimp only; omega,by dsimp only; omega,by dsimp only; omega,?_⟩,by dsimp only; omega⟩
       dsimp only
       rw [List.drop_eq_nil_of_le (by omega)]
       exact h3
     ·rw [if_neg hn] at h3
      rw [decide_eq_false hn,cond_false]
      rw [HS,aA]
      dsimp only
      refine ⟨_,rfl,⟨_,rfl,by dsimp only; omega,by dsimp only; omega,by dsimp only; omega,by dsimp only; omega,?_⟩,by dsimp only; omega⟩
      dsimp only
      rw [show ((i:Int)+1).toNat+((0:Nat):Int).toNat=i+1 by omega,h3]
   ·right
    rw [decide_eq_false (by omega: ¬ (i:Int) < l.length),cond_false]
    rw [List.drop_eq_nil_of_le (by omega),zO] at h3
    exact ⟨_,rfl,by rw [h3]⟩
  ·rintro r rfl
   rfl
end Go.Tw.X
set_option linter.unusedVariables false
set_option linter.unusedSimpArgs false
namespace Go.Tw.X
open Go Go.Tw
def aQ (s:aB):aR:=⟨qf s.g,s.spot.x,s.spot.y,tst s.spot.aP,s.saved.x,s.saved.y,tst s.saved.aP,s.waiting,s.top,s.aO,s.bA,s.title⟩
structure SJ (W:Nat) (s:aB):Prop where
 gw:s.g.w=W
 gi:GI W s.g.l
 x0:0≤s.spot.x
 x1:s.spot.x < W
 y0:0≤s.spot.y
 y1:s.spot.y < s.g.l.length
 t0:0≤s.top
 tb:s.top≤s.aO
 b1:s.aO < s.g.l.length
structure SI (W:Nat) (s:aB):Prop extends SJ W s where
 wt:s.waiting=true→s.spot.x=W - 1
theorem SJ.ge {W:Nat} {s:aB} (h:SJ W s):s.g=⟨W,s.g.l⟩:=by
 have:=h.gw
 cases hg:s.g
 rw [hg] at this
 simp at this
 rw [this]
def th (W:Nat) (off:List aE):Prop:=off.length≤1000 ∧ ∀ r∈off,gok W r
theorem nA (W:Nat):th W []:=⟨by simp,fun r hr=>by cases hr⟩
structure Sim (W:Nat) (p:Option (List aE×aB)) (q:Option (aR×List aZ)) (off:List aE) (s':aB):Prop where
 p:p=some (off,s')
 q:q=some (aQ s',off.map told)
 i:SI W s'
 o:th W off
theorem my (s:aB):bX s=some (k7 s.spot.aP):=by unfold bX; rw [FK]; rfl
theorem tj (s:aB):ki (aQ s).s=some (k7 s.spot.aP):=zM _
theorem sF (g:bC):dL g=some (g.w,(g.l.length:Int)):=rfl
def mvS (s:aB) (x y:Int):aB:=⟨s.g,⟨max 0 (min x (s.g.w - 1)),max 0 (min y ((s.g.l.length:Int) - 1)),s.spot.aP⟩,s.saved,false,s.top,s.aO,s.bA,s.title⟩
theorem ql (n lo hi:Int):gp n lo hi=some (max lo (min n hi)):=by
 unfold gp
 rw [iL,eG]
section
variable {W : Nat} {s : aB}
theorem wC (h:SJ W s):eV s=some (s.g.w - 1,(s.g.l.length:Int) - 1):=by
 have h1:=h.gi.w2
 have h2:=h.gi.l2
 have h3:=h.gw
 unfold eV
 rw [sF,aA]
 dsimp only
 rw [w64 (by omega) (by omega),w64 (by omega) (by omega)]
theorem kx (h:SJ W s) (x y:Int):bM s x y=some (mvS s x y):=by
 unfold bM
 rw [wC h,aA,ql,aA,ql,aA]
 rfl
theorem iK (h:SJ W s) (x y:Int):dF (aQ s) x y=some (aQ (mvS s x y)):=by
 have h1:=h.gi.w2
 have h2:=h.gi.l2
 have h3:=h.gw
 have e:((aQ s).g.l.length:Int)=s.g.l.length:=by simp [aQ,qf]
 unfold dF
 rw [e,show (aQ s).g.w=s.g.w from rfl,w64 (by omega) (by omega),w64 (by omega) (by omega),iL,iL,eG,eG]
 rfl
theorem m7 (h:SJ W s) (x y:Int):SI W (mvS s x y):=by
 have h1:=h.gi.w1
 have h2:=h.gi.l1
 have h3:=h.gw
 exact ⟨⟨h3,h.gi,by simp only [mvS]; omega,by simp only [mvS]; omega,by simp only [mvS]; omega,by simp only [mvS]; omega,h.t0,h.tb,h.b1⟩,fun e=>by cases e⟩
theorem SJ.get (h:SJ W s) {y:Int} (h0:0≤y) (h1:y < s.g.l.length):idx (aQ s).g.l y=some (told (kD s.g.l y))∧gok W (kD s.g.l y):=by
 obtain ⟨n,rfl⟩:=Int.eq_ofNat_of_zero_le h0
 have hn:n < s.g.l.length:=by omega
 rw [show (aQ s).g.l=s.g.l.map told from rfl,fE,List.getElem?_map,List.getElem?_eq_getElem hn]
 exact ⟨by rw [Cb hn]; rfl,by rw [Cb hn]; exact h.gi.rs _ (List.getElem_mem hn)⟩
theorem SJ.FN (h:SJ W s) (y:Int):eY s.g y=some (kD s.g.l y):=by
 rw [h.ge]
 exact JN _ _ _ h.gi.len
def seS (W:Nat) (s:aB) (y:Int) (r:aE):aB:=⟨⟨W,sj W s.g.l y r⟩,s.spot,s.saved,s.waiting,s.top,s.aO,s.bA,s.title⟩
theorem Cy (h:SJ W s) (y:Int) {r:aE} (hr:okR r.cells):SJ W (seS W s y r) :=
 ⟨rfl,Fo h.gi y r hr,h.x0,h.x1,h.y0,by simp only [seS,jG]; exact h.y1,h.t0,h.tb,by simp only [seS,jG]; exact h.b1⟩
theorem SJ.FP (h:SJ W s) (y:Int) {r:aE} (hr:r.cells.length≤1000000):eM s.g y r=some (inG s.g.l y,⟨W,sj W s.g.l y r⟩):=by
 rw [h.ge]
 exact JP W h.gi.w2 _ _ _ hr
theorem SJ.KQ (h:SJ W s) (y:Int) {r:aE} (hr:r.cells.length≤1000000):m5 (aQ s).g y (told r)=some (⟨W,(sj W s.g.l y r).map told⟩,inG s.g.l y):=by
 rw [show (aQ s).g=⟨W,s.g.l.map told⟩ by show qf s.g=_; rw [qf,h.gw]]
 exact Hr W h.gi.w2 _ _ _ hr (by have:=h.gi.l2; omega)
theorem qm (h:SJ W s) {r:aE} (hr:r.cells.length≤1000000):jE (aQ s) (told r)=some (aQ (seS W s s.spot.y r)):=by
 unfold jE
 rw [show (aQ s).y=s.spot.y from rfl,h.KQ _ hr,aA]
 rfl
def upS (W:Nat) (s:aB) (n:Int):aB:=⟨⟨W,upL W s.g.l s.top s.aO n (k7 s.spot.aP)⟩,s.spot,s.saved,s.waiting,s.top,s.aO,s.bA,s.title⟩
def upF (s:aB) (n:Int):List aE:=if s.top > 0 then [] else upO s.g.l s.top s.aO n
theorem re (W:Nat) (l:List aE) (t b n q:Int) (h1:1≤l.length):(upL W l t b n q).length=l.length:=by
 unfold upL
 split
 ·rfl
 ·rename_i h
  obtain ⟨e,e1,e2⟩:=oC l t b h h1
  have e3:l.length=(l.take (loS l t)).length+(rgB l t b).length+(l.drop (loS l b+1)).length:=by rw [← List.length_append,← List.length_append,← e]
  rw [List.length_append,List.length_append,wa]
  omega
theorem uj (W:Nat) (l:List aE) (t b n q:Int) (h1:1≤l.length):(qg W l t b n q).length=l.length:=by
 unfold qg
 split
 ·rfl
 ·rename_i h
  obtain ⟨e,e1,e2⟩:=oC l t b h h1
  have e3:l.length=(l.take (loS l t)).length+(rgB l t b).length+(l.drop (loS l b+1)).length:=by rw [← List.length_append,← List.length_append,← e]
  rw [List.length_append,List.length_append,sZ]
  omega
theorem I9 (h:SJ W s) (n:Int):SJ W (upS W s n) :=
 ⟨rfl,IY h.gi _ _ _ _,h.x0,h.x1,h.y0,by simp only [upS,re _ _ _ _ _ _ h.gi.l1]; exact h.y1,h.t0,h.tb,by simp only [upS,re _ _ _ _ _ _ h.gi.l1]; exact h.b1⟩
theorem FQ (h:SJ W s) (n:Int):th W (upF s n):=by
 unfold upF
 split
 ·exact nA W
 ·exact ⟨Nat.le_trans (Hy _ _ _ _) h.gi.l2,fun r hr=>h.gi.rs r (Hx hr)⟩
theorem FR (h:SJ W s) (n:Int):gK s n=some (upF s n,upS W s n):=by
 unfold gK upF
 rw [my,aA]
 have e:fN s.g s.top s.aO n (k7 s.spot.aP)=some (upO s.g.l s.top s.aO n,⟨W,upL W s.g.l s.top s.aO n (k7 s.spot.aP)⟩):=by
  rw [h.ge]; exact (yj h.gi _ _ _ _).1
 rw [e,aA]
 by_cases ht:s.top > 0
 ·rw [decide_eq_true ht,if_pos ht]; rfl
 ·rw [decide_eq_false ht,if_neg ht]; rfl
theorem wD (h:SJ W s):(aQ s).g=⟨W,s.g.l.map told⟩:=by show qf s.g=_; rw [qf,h.gw]
theorem xG (h:SJ W s) (n:Int):mq (aQ s) n=some (aQ (upS W s n),(upF s n).map told):=by
 unfold mq upF
 rw [tj,aA,wD h,show (aQ s).top=s.top from rfl,show (aQ s).aO=s.aO from rfl,(yj h.gi _ _ _ _).2,aA]
 by_cases ht:s.top > 0
 ·rw [decide_eq_true ht,if_pos ht]; rfl
 ·rw [decide_eq_false ht,if_neg ht]; rfl
def nwS (s:aB):aB:=⟨s.g,s.spot,s.saved,false,s.top,s.aO,s.bA,s.title⟩
theorem lz (h:SJ W s):SJ W (nwS s):=⟨h.gw,h.gi,h.x0,h.x1,h.y0,h.y1,h.t0,h.tb,h.b1⟩
def liS (W:Nat) (s:aB):aB:=if s.spot.y=s.aO then upS W (nwS s) 1 else mvS (nwS s) s.spot.x (s.spot.y+1)
def liF (s:aB):List aE:=if s.spot.y=s.aO then upF (nwS s) 1 else []
theorem gI (h:SJ W s):Sim W (cV s) (gR (aQ s)) (liF s) (liS W s):=by
 have h1:=h.y1
 have h2:=h.gi.l2
 have h3:=h.y0
 by_cases hy:s.spot.y=s.aO
 ·refine ⟨?_,?_,?_,?_⟩
  ·unfold cV liF liS
   rw [k8 hy,cond_true,if_pos hy,if_pos hy,← nwS,FR (lz h)]; rfl
  ·unfold gR liF liS
   rw [show ((aQ s).y == (aQ s).aO)=true from k8 hy,cond_true,if_pos hy,if_pos hy]
   have e:=xG (lz h) 1
   rw [show (aR.mk (aQ s).g (aQ s).x (aQ s).y (aQ s).s (aQ s).sX (aQ s).sY (aQ s).sS false (aQ s).top (aQ s).aO (aQ s).bA (aQ s).title)=aQ (nwS s) from rfl,e]; rfl
  ·unfold liS; rw [if_pos hy]; exact ⟨I9 (lz h) 1,fun e=>by cases e⟩
  ·unfold liF; rw [if_pos hy]; exact FQ (lz h) 1
 ·refine ⟨?_,?_,?_,?_⟩
  ·unfold cV liF liS
   rw [dQ hy,cond_false,if_neg hy,if_neg hy,w64 (by omega) (by omega),← nwS,kx (lz h)]; rfl
  ·unfold gR liF liS
   rw [show ((aQ s).y == (aQ s).aO)=false from dQ hy,cond_false,if_neg hy,if_neg hy,show (aQ s).y=s.spot.y from rfl,w64 (by omega) (by omega)]
   rw [show (aR.mk (aQ s).g (aQ s).x s.spot.y (aQ s).s (aQ s).sX (aQ s).sY (aQ s).sS false (aQ s).top (aQ s).aO (aQ s).bA (aQ s).title)=aQ (nwS s) from rfl,show (aQ s).x=s.spot.x from rfl,iK (lz h)]; rfl
  ·unfold liS; rw [if_neg hy]; exact m7 (lz h) _ _
  ·unfold liF; rw [if_neg hy]; exact nA W
end
end Go.Tw.X
set_option linter.unusedVariables false
set_option linter.unusedSimpArgs false
namespace Go.Tw.X
open Go Go.Tw
section
variable {W : Nat} {s : aB}
theorem gok.le {W:Nat} {r:aE} (h:gok W r) (hW:W≤1000):r.cells.length≤1000:=by rw [h.1]; exact hW
theorem FT {l:List aG} (h:okR l) (q:Int):okR (nZ l q):=sR h _ (show rok 32 from ⟨by decide,by decide⟩)
theorem DV (l:List aG) (q:Int):(nZ l q).length=l.length:=by simp [nZ]
def r1S (s:aB):aE:=⟨(kD s.g.l s.spot.y).cells,true⟩
def r2S (s:aB):aE:=⟨iz 0 (nZ (kD s.g.l s.spot.y).cells (k7 s.spot.aP)),true⟩
def r3S (s:aB) (r:Int):aE:=⟨iz 0 (tY (kD s.g.l s.spot.y).cells s.spot.x r (k7 s.spot.aP)),false⟩
theorem SJ.row (h:SJ W s):gok W (kD s.g.l s.spot.y):=(h.get h.y0 h.y1).2
theorem Ja (h:SJ W s):gok W (r1S s):=⟨h.row.1,h.row.2⟩
theorem Jb (h:SJ W s):gok W (r2S s):=⟨by simp only [r2S,kp,DV]; exact h.row.1,oA _ _ (FT h.row.2 _)⟩
theorem KR (h:SJ W s) {r:Int} (hr:rok r):gok W (r3S s r):=⟨by simp only [r3S,kp,uL]; exact h.row.1,oA _ _ (Hm h.row.2 _ _ hr)⟩
theorem FU (h:SJ W s):(r1S s).cells.length≤1000000:=by have:=(Ja h).le h.gi.w2; omega
theorem FV (h:SJ W s):(r2S s).cells.length≤1000000:=by have:=(Jb h).le h.gi.w2; omega
theorem n6 (h:SJ W s):(kD s.g.l s.spot.y).cells.length≤1000:=h.row.le h.gi.w2
theorem FW (h:SJ W s) (r:Int):(r3S s r).cells.length≤1000000:=by have:=n6 h; simp only [r3S,kp,uL]; omega
theorem FX (h:SJ W s):cN s=some (seS W s s.spot.y (r1S s)):=by
 unfold cN
 rw [h.FN,aA,show iu (kD s.g.l s.spot.y)=some (r1S s) from rfl,aA,h.FP _ (FU h),aA]
 rfl
theorem FY (h:SJ W s):cO s=some (seS W s s.spot.y (r2S s)):=by
 unfold cO iw
 have hl:=n6 h
 rw [h.FN,aA,my,aA,fill_eq _ _ (by omega),aA,aA]
 rw [← r2S,h.FP _ (FV h),aA]
 rfl
theorem SJ.xr (h:SJ W s): -9223372036854775808≤s.spot.x∧s.spot.x≤9223372036854775807:=by
 have h1:=h.x0
 have h2:=h.x1
 have h3:=h.gi.w2
 omega
theorem FZ (h:SJ W s) (r:Int):dE s r=some (seS W s s.spot.y (r3S s r)):=by
 unfold dE iy
 have hl:=n6 h
 rw [h.FN,aA,my,aA,put_eq _ _ _ _ (by omega) h.xr.1 h.xr.2,aA,aA]
 rw [← r3S,h.FP _ (FW h r),aA]
 rfl
theorem J2 (h:SJ W s):mj (told (kD s.g.l s.spot.y)) (k7 s.spot.aP)=some (told (r2S s)):=by
 have hl:=n6 h
 have:=E4 (kD s.g.l s.spot.y).cells (kD s.g.l s.spot.y).wrapped (k7 s.spot.aP) (by omega)
 rw [told,this]
 rfl
theorem J3 (h:SJ W s) {r:Int} (hr:rok r):nY (told (kD s.g.l s.spot.y)) s.spot.x r (k7 s.spot.aP)=some (told (r3S s r)):=by
 have hl:=n6 h
 have:=Hl (kD s.g.l s.spot.y).cells (kD s.g.l s.spot.y).wrapped s.spot.x r (k7 s.spot.aP) (by omega) h.xr.1 h.xr.2 hr.1 hr.2
 rw [told,this]
 rfl
def xS (s:aB) (x:Int):aB:=⟨s.g,⟨x,s.spot.y,s.spot.aP⟩,s.saved,s.waiting,s.top,s.aO,s.bA,s.title⟩
theorem zU (h:SJ W s) {x:Int} (h0:0≤x) (h1:x < W):SJ W (xS s x):=⟨h.gw,h.gi,h0,h1,h.y0,h.y1,h.t0,h.tb,h.b1⟩
theorem w0 (h:SJ W s):(0:Int) < W:=by have:=h.gi.w1; omega
theorem zV (s:aB):(liS W s).spot.aP=s.spot.aP:=by unfold liS; split <;> rfl
theorem L4 (h:SJ W s) (hx:s.spot.x=0):(liS W s).spot.x=0:=by
 have h1:=h.gi.w1
 have h2:=h.gw
 unfold liS
 split
 ·exact hx
 ·simp only [mvS,nwS,hx]
  omega
def aS (W:Nat) (s:aB):aB:=if s.waiting=true∧s.bA=true then liS W (xS (seS W s s.spot.y (r1S s)) 0) else s
def aF (W:Nat) (s:aB):List aE:=if s.waiting=true∧s.bA=true then liF (xS (seS W s s.spot.y (r1S s)) 0) else []
theorem Cz (h:SJ W s):SJ W (xS (seS W s s.spot.y (r1S s)) 0):=zU (Cy h _ (Ja h).2) (Int.le_refl 0) (w0 h)
theorem HW (h:SJ W s):SJ W (aS W s):=by
 unfold aS
 split
 ·exact (gI (Cz h)).i.toSJ
 ·exact h
theorem F0 (h:SJ W s):th W (aF W s):=by
 unfold aF
 split
 ·exact (gI (Cz h)).o
 ·exact nA W
theorem HX (s:aB):(aS W s).spot.aP=s.spot.aP:=by
 unfold aS
 split
 ·rw [zV]; rfl
 ·rfl
def bS (W:Nat) (s:aB) (n:Int):aB:=if s.spot.x+n > W then (if s.bA=true then liS W (xS (seS W s s.spot.y (r2S s)) 0) else xS s (s.spot.x - 1)) else s
def bF (W:Nat) (s:aB) (n:Int):List aE:=if s.spot.x+n > W then (if s.bA=true then liF (xS (seS W s s.spot.y (r2S s)) 0) else []) else []
theorem zW (h:SJ W s):SJ W (xS (seS W s s.spot.y (r2S s)) 0):=zU (Cy h _ (Jb h).2) (Int.le_refl 0) (w0 h)
theorem J4 (h:SJ W s) {n:Int} (hn:n=1∨n=2) (hw:n≤W):SJ W (bS W s n)∧(bS W s n).spot.x+n≤W∧(bS W s n).spot.aP=s.spot.aP:=by
 have h1:=h.x1
 unfold bS
 split
 ·rename_i hx
  split
  ·refine ⟨(gI (zW h)).i.toSJ,?_,by rw [zV]; rfl⟩
   rw [L4 (zW h) rfl]
   omega
  ·refine ⟨zU h (by omega) (by omega),?_,rfl⟩
   simp only [xS]
   omega
 ·exact ⟨h,by omega,rfl⟩
theorem KS (h:SJ W s) (n:Int):th W (bF W s n):=by
 unfold bF
 split
 ·split
  ·exact (gI (zW h)).o
  ·exact nA W
 ·exact nA W
def cS (W:Nat) (s:aB) (r n:Int):aB:=⟨⟨W,sj W s.g.l s.spot.y (r3S s r)⟩,⟨min (s.spot.x+n) (W - 1),s.spot.y,s.spot.aP⟩,s.saved,s.spot.x+n == W,s.top,s.aO,s.bA,s.title⟩
def prS (W:Nat) (s:aB) (r:Int):aB:=if ofS r=0∨ofS r > W then s else cS W (bS W (aS W s) (ofS r)) r (ofS r)
def prF (W:Nat) (s:aB) (r:Int):List aE:=if ofS r=0∨ofS r > W then [] else aF W s++bF W (aS W s) (ofS r)
theorem yy {a b:Nat} (ha:a≤1000000) (hb:b≤1000000):chk (eL a b 32)=some ():=bR (by omega)
theorem th.l {off:List aE} (h:th W off):off.length≤1000000:=by have:=h.1; omega
theorem L5 (h:SJ W s) {n r:Int} (hn:n=1∨n=2) (hx:s.spot.x+n≤W) (hr:rok r):SI W (cS W s r n):=by
 have h1:=h.x0
 have h2:=h.gi.w1
 refine ⟨⟨rfl,Fo h.gi _ _ (KR h hr).2,?_,?_,h.y0,?_,h.t0,h.tb,?_⟩,?_⟩
 ·simp only [cS]; omega
 ·simp only [cS]; omega
 ·simp only [cS,jG]; exact h.y1
 ·simp only [cS,jG]; exact h.b1
 ·intro e
  simp only [cS,beq_iff_eq] at e ⊢
  omega
theorem HY (h:SJ W s) (r:Int):gE s r=some (prF W s r,prS W s r):=by
 have hw2:=h.gi.w2
 unfold gE prF prS
 rw [of_eq,aA,sF,aA,h.gw]
 dsimp only
 have e0:((bif (ofS r == 0) then some true else some (decide (ofS r > (W:Int)))):Option Bool)=some (decide (ofS r=0∨ofS r > W)):=by
  by_cases h1:ofS r=0
  ·rw [k8 h1,cond_true,decide_eq_true (.inl h1)]
  ·rw [dQ h1,cond_false]
   congr 1
   exact decide_eq_decide.2 ⟨.inr,fun h=>h.resolve_left h1⟩
 rw [e0,aA]
 by_cases hc:ofS r=0∨ofS r > W
 ·rw [decide_eq_true hc,cond_true,if_pos hc,if_pos hc]
 ·rw [decide_eq_false hc,cond_false,if_neg hc,if_neg hc]
  have hn:ofS r=1∨ofS r=2:=by rcases oz r with h | h | h <;> omega
  generalize hnn:ofS r=n at hc hn ⊢
  have ea:((bif s.waiting then some s.bA else some false):Option Bool)=some (decide (s.waiting=true∧s.bA=true)):=by cases s.waiting <;> cases s.bA <;> rfl
  rw [ea,aA]
  have eA:((bif decide (s.waiting=true∧s.bA=true) then (Option.bind (cN s) fun a=>(Option.bind (cV (aB.mk a.g (dT.mk 0 a.spot.y a.spot.aP) a.saved a.waiting a.top a.aO a.bA a.title)) fun c=>(Option.bind (chk (eL ([]:List aE).length c.1.length 32)) fun _=>some ((([]:List aE)++c.1),c.2.g,c.2)))) else some ([],s.g,s)):Option ((List aE)×bC×aB))=some (aF W s,(aS W s).g,aS W s):=by
   unfold aF aS
   by_cases hb:s.waiting=true∧s.bA=true
   ·rw [decide_eq_true hb,cond_true,if_pos hb,if_pos hb,FX h,aA]
    have e1:=gI (Cz h)
    rw [show (aB.mk (seS W s s.spot.y (r1S s)).g (dT.mk 0 (seS W s s.spot.y (r1S s)).spot.y (seS W s s.spot.y (r1S s)).spot.aP) (seS W s s.spot.y (r1S s)).saved (seS W s s.spot.y (r1S s)).waiting (seS W s s.spot.y (r1S s)).top (seS W s s.spot.y (r1S s)).aO (seS W s s.spot.y (r1S s)).bA (seS W s s.spot.y (r1S s)).title)=xS (seS W s s.spot.y (r1S s)) 0 from rfl,e1.p,aA]
    dsimp only
    rw [yy (by simp) e1.o.l,aA,List.nil_append]
   ·rw [decide_eq_false hb,cond_false,if_neg hb,if_neg hb]
  rw [eA,aA]
  dsimp only
  have hA:=HW h
  have hAx:=hA.x1
  have hA0:=hA.x0
  have hFo:=(F0 h).l
  generalize hs1:aS W s=s1 at *
  generalize aF W s=o1 at *
  rw [w64 (x:=s1.spot.x+n) (by omega) (by omega)]
  have hB:=J4 hA hn (by omega:n≤W)
  have eB: ∀ g:bC,g=s1.g→((bif (decide (s1.spot.x+n > (W:Int))) then (bif s1.bA then (Option.bind (cO (aB.mk g s1.spot s1.saved s1.waiting s1.top s1.aO s1.bA s1.title)) fun b=>(Option.bind (cV (aB.mk b.g (dT.mk 0 b.spot.y b.spot.aP) b.saved b.waiting b.top b.aO b.bA b.title)) fun d=>(Option.bind (chk (eL o1.length d.1.length 32)) fun _=>some ((o1++d.1),d.2.g,d.2)))) else some (o1,g,(aB.mk g (dT.mk (IntKind.i64.wrap (s1.spot.x - 1)) s1.spot.y s1.spot.aP) s1.saved s1.waiting s1.top s1.aO s1.bA s1.title))) else some (o1,g,(aB.mk g s1.spot s1.saved s1.waiting s1.top s1.aO s1.bA s1.title))):Option ((List aE)×bC×aB))=some (o1++bF W s1 n,(bS W s1 n).g,bS W s1 n):=by
   rintro g rfl
   unfold bF bS
   by_cases hx:s1.spot.x+n > W
   ·rw [decide_eq_true hx,cond_true,if_pos hx,if_pos hx]
    cases hwr:s1.bA with
    | true =>
     rw [cond_true,if_pos rfl,if_pos rfl]
     have e2:(aB.mk s1.g s1.spot s1.saved s1.waiting s1.top s1.aO true s1.title)=s1:=by rw [← hwr]
     rw [e2,FY hA,aA]
     have e1:=gI (zW hA)
     rw [show (aB.mk (seS W s1 s1.spot.y (r2S s1)).g (dT.mk 0 (seS W s1 s1.spot.y (r2S s1)).spot.y (seS W s1 s1.spot.y (r2S s1)).spot.aP) (seS W s1 s1.spot.y (r2S s1)).saved (seS W s1 s1.spot.y (r2S s1)).waiting (seS W s1 s1.spot.y (r2S s1)).top (seS W s1 s1.spot.y (r2S s1)).aO (seS W s1 s1.spot.y (r2S s1)).bA (seS W s1 s1.spot.y (r2S s1)).title)=xS (seS W s1 s1.spot.y (r2S s1)) 0 from rfl,e1.p,aA]
     dsimp only
     rw [yy hFo e1.o.l,aA]
    | false =>
     rw [cond_false,if_neg (by simp),if_neg (by simp),w64 (by omega) (by omega),List.append_nil]
     simp only [xS,hwr]
   ·rw [decide_eq_false hx,cond_false,if_neg hx,if_neg hx,List.append_nil]
  rw [eB _ rfl,aA]
  dsimp only
  obtain ⟨hB1,hB2,hB3⟩:=hB
  have hBx:=hB1.x0
  generalize bS W s1 n=s2 at *
  generalize o1++bF W s1 n=o2
  rw [show (aB.mk s2.g s2.spot s2.saved s2.waiting s2.top s2.aO s2.bA s2.title)=s2 from rfl,FZ hB1,aA]
  unfold cS
  simp only [seS]
  rw [w64 (by omega) (by omega),w64 (by omega) (by omega),eG]
end
end Go.Tw.X
set_option linter.unusedVariables false
set_option linter.unusedSimpArgs false
namespace Go.Tw.X
open Go Go.Tw
section
variable {W : Nat} {s : aB}
theorem SJ.HZ (h:SJ W s):idx (aQ s).g.l (aQ s).y=some (told (kD s.g.l s.spot.y)):=(h.get h.y0 h.y1).1
theorem J5 (h:SJ W s) {r:Int} (hr:rok r):o9 (aQ s) r=some (aQ (prS W s r),(prF W s r).map told):=by
 have hw2:=h.gi.w2
 unfold o9 prF prS
 rw [E5 r hr.1 hr.2,aA,show (aQ s).g.w=(W:Int) from h.gw]
 have e0:((bif (ofS r == 0) then some true else some (decide (ofS r > (W:Int)))):Option Bool)=some (decide (ofS r=0∨ofS r > W)):=by
  by_cases h1:ofS r=0
  ·rw [k8 h1,cond_true,decide_eq_true (.inl h1)]
  ·rw [dQ h1,cond_false]
   congr 1
   exact decide_eq_decide.2 ⟨.inr,fun h=>h.resolve_left h1⟩
 rw [e0,aA]
 by_cases hc:ofS r=0∨ofS r > W
 ·rw [decide_eq_true hc,cond_true,if_pos hc,if_pos hc]; rfl
 ·rw [decide_eq_false hc,cond_false,if_neg hc,if_neg hc,tj,aA]
  have hn:ofS r=1∨ofS r=2:=by rcases oz r with h | h | h <;> omega
  generalize hnn:ofS r=n at hc hn ⊢
  have ea:((bif (aQ s).waiting then some (aQ s).bA else some false):Option Bool)=some (decide (s.waiting=true∧s.bA=true)):=by
   show ((bif s.waiting then some s.bA else some false):Option Bool)=_
   cases s.waiting <;> cases s.bA <;> rfl
  rw [ea,aA]
  have eA:((bif decide (s.waiting=true∧s.bA=true) then (Option.bind (idx (aQ s).g.l (aQ s).y) fun e=>(Option.bind (jE (aQ s) (aZ.mk e.l true)) fun a=>(Option.bind (gR (aR.mk a.g 0 a.y a.s a.sX a.sY a.sS a.waiting a.top a.aO a.bA a.title)) fun c=>(Option.bind (chk (eL ([]:List aZ).length c.2.length 32)) fun _=>some ((([]:List aZ)++c.2),c.1))))) else some (([]:List aZ),aQ s)):Option ((List aZ)×aR))=some ((aF W s).map told,aQ (aS W s)):=by
   unfold aF aS
   by_cases hb:s.waiting=true∧s.bA=true
   ·rw [decide_eq_true hb,cond_true,if_pos hb,if_pos hb,h.HZ,aA]
    rw [show (aZ.mk (told (kD s.g.l s.spot.y)).l true)=told (r1S s) from rfl,qm h (FU h),aA]
    have e1:=gI (Cz h)
    have e2:=e1.q
    rw [show aQ (xS (seS W s s.spot.y (r1S s)) 0)=(aR.mk (aQ (seS W s s.spot.y (r1S s))).g 0 (aQ (seS W s s.spot.y (r1S s))).y (aQ (seS W s s.spot.y (r1S s))).s (aQ (seS W s s.spot.y (r1S s))).sX (aQ (seS W s s.spot.y (r1S s))).sY (aQ (seS W s s.spot.y (r1S s))).sS (aQ (seS W s s.spot.y (r1S s))).waiting (aQ (seS W s s.spot.y (r1S s))).top (aQ (seS W s s.spot.y (r1S s))).aO (aQ (seS W s s.spot.y (r1S s))).bA (aQ (seS W s s.spot.y (r1S s))).title) from rfl] at e2
    rw [e2,aA]
    dsimp only
    rw [yy (by simp) (by rw [List.length_map]; exact e1.o.l),aA,List.nil_append]
   ·rw [decide_eq_false hb,cond_false,if_neg hb,if_neg hb]; rfl
  rw [eA,aA]
  dsimp only
  have hA:=HW h
  have hst:(aS W s).spot.aP=s.spot.aP:=HX s
  have hAx:=hA.x1
  have hA0:=hA.x0
  have hFo:=(F0 h).l
  generalize hs1:aS W s=s1 at *
  generalize aF W s=o1 at *
  have hB:=J4 hA hn (by omega:n≤W)
  have eb:((bif (n == 2) then some ((aQ s1).x == (IntKind.i64.wrap ((aQ s1).g.w - 1))) else some false):Option Bool)=some (decide (s1.spot.x+n > W)):=by
   rw [show (aQ s1).g.w=(W:Int) from hA.gw,show (aQ s1).x=s1.spot.x from rfl,w64 (by omega) (by omega)]
   by_cases h2:n=2
   ·rw [k8 h2,cond_true]
    by_cases hx:s1.spot.x=(W:Int) - 1
    ·rw [k8 hx,decide_eq_true (by omega)]
    ·rw [dQ hx,decide_eq_false (by omega)]
   ·rw [dQ h2,cond_false,decide_eq_false (by omega)]
  rw [eb,aA]
  have eB:((bif decide (s1.spot.x+n > (W:Int)) then (bif (aQ s1).bA then (Option.bind (idx (aQ s1).g.l (aQ s1).y) fun f=>(Option.bind (mj f (k7 s.spot.aP)) fun i=>(Option.bind (jE (aQ s1) i) fun b=>(Option.bind (gR (aR.mk b.g 0 b.y b.s b.sX b.sY b.sS b.waiting b.top b.aO b.bA b.title)) fun d=>(Option.bind (chk (eL (o1.map told).length d.2.length 32)) fun _=>some ((o1.map told++d.2),d.1)))))) else some (o1.map told,(aR.mk (aQ s1).g (IntKind.i64.wrap ((aQ s1).x - 1)) (aQ s1).y (aQ s1).s (aQ s1).sX (aQ s1).sY (aQ s1).sS (aQ s1).waiting (aQ s1).top (aQ s1).aO (aQ s1).bA (aQ s1).title))) else some (o1.map told,aQ s1)):Option ((List aZ)×aR))=some ((o1++bF W s1 n).map told,aQ (bS W s1 n)):=by
   unfold bF bS
   by_cases hx:s1.spot.x+n > W
   ·rw [decide_eq_true hx,cond_true,if_pos hx,if_pos hx,show (aQ s1).bA=s1.bA from rfl]
    cases hwr:s1.bA with
    | true =>
     rw [cond_true,if_pos rfl,if_pos rfl,hA.HZ,aA,← hst,J2 hA,aA,qm hA (FV hA),aA]
     have e1:=gI (zW hA)
     have e2:=e1.q
     rw [show aQ (xS (seS W s1 s1.spot.y (r2S s1)) 0)=(aR.mk (aQ (seS W s1 s1.spot.y (r2S s1))).g 0 (aQ (seS W s1 s1.spot.y (r2S s1))).y (aQ (seS W s1 s1.spot.y (r2S s1))).s (aQ (seS W s1 s1.spot.y (r2S s1))).sX (aQ (seS W s1 s1.spot.y (r2S s1))).sY (aQ (seS W s1 s1.spot.y (r2S s1))).sS (aQ (seS W s1 s1.spot.y (r2S s1))).waiting (aQ (seS W s1 s1.spot.y (r2S s1))).top (aQ (seS W s1 s1.spot.y (r2S s1))).aO (aQ (seS W s1 s1.spot.y (r2S s1))).bA (aQ (seS W s1 s1.spot.y (r2S s1))).title) from rfl] at e2
     rw [e2,aA]
     dsimp only
     rw [yy (by rw [List.length_map]; exact hFo) (by rw [List.length_map]; exact e1.o.l),aA,List.map_append]
    | false =>
     rw [cond_false,if_neg (by simp),if_neg (by simp),show (aQ s1).x=s1.spot.x from rfl,w64 (by omega) (by omega),List.append_nil]
     simp only [xS,hwr,aQ]
   ·rw [decide_eq_false hx,cond_false,if_neg hx,if_neg hx,List.append_nil]
  rw [eB,aA]
  dsimp only
  obtain ⟨hB1,hB2,hB3⟩:=hB
  have hBx:=hB1.x0
  have hst2:(bS W s1 n).spot.aP=s.spot.aP:=by rw [hB3,hst]
  generalize bS W s1 n=s2 at *
  generalize o1++bF W s1 n=o2
  rw [hB1.HZ,aA,show (aQ s2).x=s2.spot.x from rfl,← hst2,J3 hB1 hr,aA,qm hB1 (FW hB1 r),aA]
  rw [show (aQ (seS W s2 s2.spot.y (r3S s2 r))).x=s2.spot.x from rfl,show (aQ (seS W s2 s2.spot.y (r3S s2 r))).g.w=(W:Int) from rfl,w64 (by omega) (by omega),w64 (by omega) (by omega)]
  unfold cS
  by_cases hx:s2.spot.x+n=W
  ·rw [k8 hx,cond_true,aA,show min (s2.spot.x+n) ((W:Int) - 1)=s2.spot.x+n - 1 by omega]; rfl
  ·rw [dQ hx,cond_false,aA,show min (s2.spot.x+n) ((W:Int) - 1)=s2.spot.x+n by omega]; rfl
theorem KT (h:SI W s) {r:Int} (hr:rok r):SI W (prS W s r):=by
 unfold prS
 split
 ·exact h
 ·rename_i hc
  have hn:ofS r=1∨ofS r=2:=by rcases oz r with h | h | h <;> omega
  have hB:=J4 (HW h.toSJ) hn (by omega)
  exact L5 hB.1 hn hB.2.1 hr
theorem J6 (h:SJ W s) {r:Int}:(prF W s r).length≤2000 ∧ ∀ q∈prF W s r,gok W q:=by
 unfold prF
 split
 ·exact ⟨by simp,fun r hr=>by cases hr⟩
 ·have h1:=F0 h
  have h2:=KS (HW h) (ofS r)
  refine ⟨by rw [List.length_append]; have:=h1.1; have:=h2.1; omega,fun q hq=> ?_⟩
  rcases List.mem_append.1 hq with hq | hq
  ·exact h1.2 q hq
  ·exact h2.2 q hq
end
end Go.Tw.X
set_option linter.unusedVariables false
set_option linter.unusedSimpArgs false
namespace Go.Tw.X
open Go Go.Tw
def atS (l:List Int) (i:Nat) (d:Int):Int:=match l[i]? with
 | some n=>if n≤0 then d else min n 9999
 | none=>d
theorem xH (a:bE) (i:Nat) (d:Int):eK a (i:Int) d=some (atS a.bQ i d):=by
 unfold eK atS
 by_cases hi:i < a.bQ.length
 ·rw [decide_eq_false (by omega: ¬ (i:Int)≥(a.bQ.length:Int)),cond_false]
  simp only [dO _ _ hi,aA,List.getElem?_eq_getElem hi]
  by_cases h:a.bQ[i]≤0
  ·rw [decide_eq_true h,cond_true,if_pos h]
  ·rw [decide_eq_false h,cond_false,if_neg h,eG]
 ·rw [decide_eq_true (by omega:(i:Int)≥(a.bQ.length:Int)),cond_true,aA,cond_true,List.getElem?_eq_none (by omega)]
theorem oG (l:List Int) (i:Nat) (d:Int):eW l (i:Int) d=some (atS l i d):=by
 unfold eW atS
 by_cases hi:i < l.length
 ·rw [decide_eq_true (by omega:(i:Int) < (l.length:Int)),cond_true]
  simp only [dO _ _ hi,aA,List.getElem?_eq_getElem hi]
  by_cases h:l[i]≤0
  ·rw [decide_eq_false (by omega),cond_false,if_pos h]
  ·rw [decide_eq_true (by omega),cond_true,if_neg h,eG]
 ·rw [decide_eq_false (by omega: ¬ (i:Int) < (l.length:Int)),cond_false,aA,cond_false,List.getElem?_eq_none (by omega)]
theorem uk (l:List Int) (i:Nat) {d:Int} (h0:0≤d) (h1:d≤9999):0≤atS l i d∧atS l i d≤9999∧(1≤d→1≤atS l i d):=by
 unfold atS
 split
 ·split <;> omega
 ·omega
section
variable {W : Nat} {s : aB}
def dnS (W:Nat) (s:aB) (t b n:Int):aB:=⟨⟨W,qg W s.g.l t b n (k7 s.spot.aP)⟩,s.spot,s.saved,s.waiting,s.top,s.aO,s.bA,s.title⟩
def upT (W:Nat) (s:aB) (t b n:Int):aB:=⟨⟨W,upL W s.g.l t b n (k7 s.spot.aP)⟩,s.spot,s.saved,s.waiting,s.top,s.aO,s.bA,s.title⟩
theorem zX (h:SJ W s) (t b n:Int):SJ W (dnS W s t b n) :=
 ⟨rfl,Hw h.gi _ _ _ _,h.x0,h.x1,h.y0,by simp only [dnS,uj _ _ _ _ _ _ h.gi.l1]; exact h.y1,h.t0,h.tb,by simp only [dnS,uj _ _ _ _ _ _ h.gi.l1]; exact h.b1⟩
theorem Bh (h:SJ W s) (t b n:Int):SJ W (upT W s t b n) :=
 ⟨rfl,IY h.gi _ _ _ _,h.x0,h.x1,h.y0,by simp only [upT,re _ _ _ _ _ _ h.gi.l1]; exact h.y1,h.t0,h.tb,by simp only [upT,re _ _ _ _ _ _ h.gi.l1]; exact h.b1⟩
theorem wE (h:SJ W s) (t b n:Int):eF s.g t b n (k7 s.spot.aP)=some (rL s.g.l t b n,(dnS W s t b n).g):=by
 rw [h.ge]; exact (zh h.gi _ _ _ _).1
theorem wF (h:SJ W s) (t b n:Int):dZ (aQ s).g false t b n (k7 s.spot.aP)=some ((aQ (dnS W s t b n)).g,(rL s.g.l t b n).map told):=by
 rw [wD h]; exact (zh h.gi _ _ _ _).2
theorem J7 (h:SJ W s) (t b n:Int):fN s.g t b n (k7 s.spot.aP)=some (upO s.g.l t b n,(upT W s t b n).g):=by
 rw [h.ge]; exact (yj h.gi _ _ _ _).1
theorem H0 (h:SJ W s) (t b n:Int):dZ (aQ s).g true t b n (k7 s.spot.aP)=some ((aQ (upT W s t b n)).g,(upO s.g.l t b n).map told):=by
 rw [wD h]; exact (yj h.gi _ _ _ _).2
def baS (W:Nat) (s:aB):aB:=if s.spot.y=s.top then dnS W (nwS s) s.top s.aO 1 else mvS (nwS s) s.spot.x (s.spot.y - 1)
theorem KU (h:SJ W s):SI W (baS W s):=by
 unfold baS
 split
 ·exact ⟨zX (lz h) _ _ _,fun e=>by cases e⟩
 ·exact m7 (lz h) _ _
theorem yr (h:SJ W s):0≤s.spot.y∧s.spot.y < 1000∧0≤s.spot.x∧s.spot.x < 1000:=by
 have h1:=h.gi.w2
 have h2:=h.gi.l2
 have h3:=h.y1
 have h4:=h.x1
 have h5:=h.y0
 have h6:=h.x0
 omega
theorem back_eq (h:SJ W s):ig s=some (baS W s):=by
 have hy:=yr h
 unfold ig baS
 rw [← nwS]
 by_cases c:s.spot.y=s.top
 ·rw [k8 c,cond_true,if_pos c,my,aA]
  have e:=wE (lz h) s.top s.aO 1
  rw [show (nwS s).g=s.g from rfl] at e
  rw [e,aA]
  rfl
 ·rw [dQ c,cond_false,if_neg c,w64 (by omega) (by omega),kx (lz h),aA]
theorem Bi (h:SJ W s):((aQ s).g.l.length:Int)=s.g.l.length:=by simp [aQ,qf]
def clS (s:aB) (n:Int):aB:=mvS s s.spot.x (max (if s.spot.y≥s.top∧n < 0 then s.top else 0) (min (s.spot.y+n) (if s.spot.y≤s.aO∧n > 0 then s.aO else (s.g.l.length:Int) - 1)))
theorem vj {α:Type} (p:Prop) [Decidable p] (x y:α):((bif decide p then some x else some y):Option α)=some (if p then x else y):=by
 by_cases h:p <;> simp [h]
theorem F1 (h:SJ W s) {n:Int} (h0: -9999≤n) (h1:n≤9999):fK s n=some (clS s n):=by
 have hy:=yr h
 unfold fK clS
 rw [wC h,aA]
 rw [show ((bif (decide (s.spot.y≥s.top)) then some (decide (n < 0)) else some false):Option Bool)=_ from yg _ _,aA,vj,aA]
 rw [show ((bif (decide (s.spot.y≤s.aO)) then some (decide (n > 0)) else some false):Option Bool)=_ from yg _ _,aA]
 dsimp only
 rw [vj,aA,w64 (by omega) (by omega),ql,aA,kx h,aA]
def erR (s:aB) (y a b:Int):aE:=⟨iz 0 (kq a b (k7 s.spot.aP) 0 (kD s.g.l y).cells),false⟩
def erS (W:Nat) (s:aB) (y a b:Int):aB:=seS W s y (erR s y a b)
theorem Bj (h:SJ W s) {y:Int} (h0:0≤y) (h1:y < s.g.l.length) (a b:Int):gok W (erR s y a b):=by
 have hg:=(h.get h0 h1).2
 exact ⟨by simp only [erR,kp,lH]; exact hg.1,oA _ _ (ua _ _ _ _ hg.2)⟩
theorem Jc (h:SJ W s) {y:Int} (h0:0≤y) (h1:y < s.g.l.length) (a b:Int):SJ W (erS W s y a b):=Cy h _ (Bj h h0 h1 a b).2
theorem rh (h:SJ W s) {y:Int} (h0:0≤y) (h1:y < s.g.l.length) (a b:Int):dX s y a b=some (erS W s y a b):=by
 have hg:=(h.get h0 h1).2.le h.gi.w2
 have hr:=(Bj h h0 h1 a b).le h.gi.w2
 unfold dX
 rw [h.FN,aA,my,aA,erase_eq _ _ _ _ (by omega),aA,← erR,h.FP _ (by omega),aA]
 rfl
theorem sG (h:SJ W s) {y:Int} (h0:0≤y) (h1:y < s.g.l.length) (a b:Int):kL (aQ s) y a b=some (aQ (erS W s y a b)):=by
 have hg:=(h.get h0 h1).2.le h.gi.w2
 have hr:=(Bj h h0 h1 a b).le h.gi.w2
 unfold kL
 have e:mT (told (kD s.g.l y)) a b (k7 s.spot.aP)=some (told (erR s y a b)):=by
  rw [told,DA (kD s.g.l y).cells (kD s.g.l y).wrapped a b _ (by omega)]; rfl
 rw [(h.get h0 h1).1,aA,tj,aA,e,aA,h.KQ _ (by omega),aA]
 rfl
def paA (s:aB) (n:Int):Int:=if n=0 then s.spot.x else 0
def paB (W:Nat) (s:aB) (n:Int):Int:=if n=1 then s.spot.x+1 else W
def paS (W:Nat) (s:aB) (n:Int):aB:=if n > 2 then s else nwS (erS W s s.spot.y (paA s n) (paB W s n))
theorem CA (h:SJ W s) {n:Int} (hn:0≤n):gg s n=some (paS W s n):=by
 have hy:=yr h
 unfold gg paS paA paB
 rw [sF,aA,h.gw]
 dsimp only
 rw [w64 (x:=s.spot.x+1) (by omega) (by omega)]
 have e: ∀ t:aB,((bif t.waiting then some (aB.mk t.g t.spot t.saved false t.top t.aO t.bA t.title) else some (aB.mk t.g t.spot t.saved false t.top t.aO t.bA t.title)):Option aB)=some (nwS t):=fun t=>by cases t.waiting <;> rfl
 by_cases h0:n=0
 ·subst h0
  rw [k8 rfl,cond_true,rh h h.y0 h.y1,aA,aA]
  exact e _
 ·rw [dQ h0,cond_false]
  by_cases h1:n=1
  ·subst h1
   rw [k8 rfl,cond_true,rh h h.y0 h.y1,aA,aA]
   exact e _
  ·rw [dQ h1,cond_false]
   by_cases h2:n=2
   ·subst h2
    rw [k8 rfl,cond_true,rh h h.y0 h.y1,aA,aA]
    exact e _
   ·rw [dQ h2,cond_false,aA,if_pos (by omega:n > 2),decide_eq_true (by omega:n > 2)]
    dsimp only
    cases hw:s.waiting with
    | true=>rw [cond_true,← hw]
    | false=>rw [cond_false,← hw]
theorem KV (h:SI W s) {n:Int}:SI W (paS W s n):=by
 unfold paS
 split
 ·exact h
 ·exact ⟨lz (Jc h.toSJ h.y0 h.y1 _ _),fun e=>by cases e⟩
def wpc (s:aB) (n:Int) (k:Nat):Bool:=decide ((k:Int) < s.spot.y∧n≠0∧n≤2∨(k:Int) > s.spot.y∧n≠1∧n≤2)
def wpS (W:Nat) (s:aB) (n:Int):Nat→aB
 | 0=>s
 | k+1=>if wpc s n k then erS W (wpS W s n k) k 0 W else wpS W s n k
theorem tp (n:Int): ∀ k,(wpS W s n k).spot=s.spot∧(wpS W s n k).g.l.length=s.g.l.length∧(wpS W s n k).waiting=s.waiting
 | 0=>⟨rfl,rfl,rfl⟩
 | k+1=>by
  obtain ⟨h1,h2,h3⟩:=tp n k
  unfold wpS
  split
  ·exact ⟨h1,by simp only [erS,seS,jG]; exact h2,h3⟩
  ·exact ⟨h1,h2,h3⟩
theorem xI (h:SJ W s) (n:Int): ∀ k,k≤s.g.l.length→SJ W (wpS W s n k)
 | 0,_=>h
 | k+1,hk=>by
  have ih:=xI h n k (by omega)
  unfold wpS
  split
  ·exact Jc ih (by omega) (by rw [(tp n k).2.1]; omega) _ _
  ·exact ih
end
end Go.Tw.X
set_option linter.unusedVariables false
set_option linter.unusedSimpArgs false
namespace Go.Tw.X
open Go Go.Tw
section
variable {W : Nat} {s : aB}
theorem yz (n:Int) (k:Nat):wpS W s n (k+1)=if wpc s n k then erS W (wpS W s n k) k 0 W else wpS W s n k:=rfl
theorem Ia (h:SJ W s) {n:Int} (hn:0≤n):ij s n=some (paS W (wpS W s n s.g.l.length) n):=by
 have hl:=h.gi.l2
 unfold ij
 rw [sF,aA,h.gw]
 dsimp only
 refine iP (fun k=>(wpS W s n k,(wpS W s n k).g,(k:Int))) s.g.l.length ((wpS W s n s.g.l.length).g,wpS W s n s.g.l.length) rfl ?_ ?_ ?_
 ·intro k hk
  have hs:=tp (W:=W) (s:=s) n k
  have hJ:=xI h n k (by omega)
  dsimp only
  rw [decide_eq_true (by omega:(k:Int) < (s.g.l.length:Int)),cond_true,hs.1,yz,w64 (by omega) (by omega)]
  have ec:((bif (decide ((k:Int) < s.spot.y)) then (bif (n == 1) then some true else (bif (decide ((k:Int) > s.spot.y)) then (bif (n == 0) then some true else (bif ((k:Int) != s.spot.y) then some (n == 2) else some false)) else (bif ((k:Int) != s.spot.y) then some (n == 2) else some false))) else (bif (decide ((k:Int) > s.spot.y)) then (bif (n == 0) then some true else (bif ((k:Int) != s.spot.y) then some (n == 2) else some false)) else (bif ((k:Int) != s.spot.y) then some (n == 2) else some false))):Option Bool)=some (wpc s n k):=by
   unfold wpc
   have hb: ∀ b:Bool,(b=true)=b:=fun b=>rfl
   by_cases a1:(k:Int) < s.spot.y
   ·have a2: ¬ (k:Int) > s.spot.y:=by omega
    have a3:((k:Int) != s.spot.y)=true:=by simp; omega
    rw [decide_eq_true a1,decide_eq_false a2,a3]
    simp only [cond_true,cond_false]
    by_cases c:n=1
    ·rw [k8 c,cond_true,decide_eq_true (by omega)]
    ·rw [dQ c,cond_false]
     by_cases c2:n=2
     ·rw [k8 c2,decide_eq_true (by omega)]
     ·rw [dQ c2,decide_eq_false (by omega)]
   ·rw [decide_eq_false a1,cond_false]
    by_cases a2:(k:Int) > s.spot.y
    ·have a3:((k:Int) != s.spot.y)=true:=by simp; omega
     rw [decide_eq_true a2,a3]
     simp only [cond_true,cond_false]
     by_cases c:n=0
     ·rw [k8 c,cond_true,decide_eq_true (by omega)]
     ·rw [dQ c,cond_false]
      by_cases c2:n=2
      ·rw [k8 c2,decide_eq_true (by omega)]
      ·rw [dQ c2,decide_eq_false (by omega)]
    ·have a3:((k:Int) != s.spot.y)=false:=by simp; omega
     rw [decide_eq_false a2,a3]
     simp only [cond_false]
     rw [decide_eq_false (by omega)]
  rw [ec,aA]
  cases hc:wpc s n k with
  | true =>
   rw [cond_true,if_pos rfl,show (aB.mk (wpS W s n k).g s.spot (wpS W s n k).saved (wpS W s n k).waiting (wpS W s n k).top (wpS W s n k).aO (wpS W s n k).bA (wpS W s n k).title)=wpS W s n k by rw [← hs.1]]
   rw [rh hJ (by omega) (by rw [hs.2.1]; omega),aA,aA]
   rfl
  | false =>
   rw [cond_false,if_neg (by simp),aA]
   dsimp only
   rw [show (aB.mk (wpS W s n k).g s.spot (wpS W s n k).saved (wpS W s n k).waiting (wpS W s n k).top (wpS W s n k).aO (wpS W s n k).bA (wpS W s n k).title)=wpS W s n k by rw [← hs.1]]
   rfl
 ·dsimp only
  rw [decide_eq_false (by omega: ¬ ((s.g.l.length:Nat):Int) < (s.g.l.length:Int)),cond_false]
 ·dsimp only
  rw [show (aB.mk (wpS W s n s.g.l.length).g (wpS W s n s.g.l.length).spot (wpS W s n s.g.l.length).saved (wpS W s n s.g.l.length).waiting (wpS W s n s.g.l.length).top (wpS W s n s.g.l.length).aO (wpS W s n s.g.l.length).bA (wpS W s n s.g.l.length).title)=wpS W s n s.g.l.length from rfl,CA (xI h n _ (Nat.le_refl _)) hn,aA]
theorem CB {n:Int} (hn:n > 2): ∀ k,wpS W s n k=s
 | 0=>rfl
 | k+1=>by
  rw [yz,CB hn k]
  unfold wpc
  rw [decide_eq_false (by omega),if_neg (by simp)]
def zY (W:Nat) (s:aB) (n:Int) (all:Bool):aB:=paS W (if all then wpS W s n s.g.l.length else s) n
theorem zZ (h:SJ W s) {n:Int} (hn:0≤n) (all:Bool):mU (aQ s) n all=some (aQ (zY W s n all)):=by
 have hl:=h.gi.l2
 have hy:=yr h
 unfold mU zY
 by_cases h2:n > 2
 ·rw [decide_eq_true h2,cond_true,CB h2,ite_self]
  unfold paS
  rw [if_pos h2]
 ·rw [decide_eq_false h2,cond_false,Bi h]
  refine iP (fun k=>(aQ (if all then wpS W s n k else s),(k:Int))) s.g.l.length (aQ (if all then wpS W s n s.g.l.length else s)) (by cases all <;> rfl) ?_ ?_ ?_
  ·intro k hk
   dsimp only
   rw [decide_eq_true (by omega:(k:Int) < (s.g.l.length:Int)),cond_true,w64 (by omega) (by omega)]
   cases all with
   | false =>
    rw [cond_false,aA,cond_false,aA]
    rfl
   | true =>
    have hs:=tp (W:=W) (s:=s) n k
    have hJ:=xI h n k (by omega)
    simp only [if_true,cond_true]
    rw [show (aQ (wpS W s n k)).y=s.spot.y by show (wpS W s n k).spot.y=_; rw [hs.1],yz]
    have ec:((bif (decide ((k:Int) < s.spot.y)) then (bif (n != 0) then some true else (bif (decide ((k:Int) > s.spot.y)) then some (n != 1) else some false)) else (bif (decide ((k:Int) > s.spot.y)) then some (n != 1) else some false)):Option Bool)=some (wpc s n k):=by
     unfold wpc
     by_cases a1:(k:Int) < s.spot.y
     ·have a2: ¬ (k:Int) > s.spot.y:=by omega
      rw [decide_eq_true a1,decide_eq_false a2]
      simp only [cond_true,cond_false]
      by_cases c:n=0
      ·rw [show (n != 0)=false by simp [c],cond_false,decide_eq_false (by omega)]
      ·rw [show (n != 0)=true by simp [c],cond_true,decide_eq_true (by omega)]
     ·rw [decide_eq_false a1,cond_false]
      by_cases a2:(k:Int) > s.spot.y
      ·rw [decide_eq_true a2,cond_true]
       by_cases c:n=1
       ·rw [show (n != 1)=false by simp [c],decide_eq_false (by omega)]
       ·rw [show (n != 1)=true by simp [c],decide_eq_true (by omega)]
      ·rw [decide_eq_false a2,cond_false,decide_eq_false (by omega)]
    rw [ec,aA]
    cases hc:wpc s n k with
    | true =>
     rw [cond_true,if_pos rfl,show (aQ (wpS W s n k)).g.w=(W:Int) from hJ.gw,sG hJ (by omega) (by rw [hs.2.1]; omega),aA,aA]
     rfl
    | false =>
     rw [cond_false,if_neg (by simp),aA]
     rfl
  ·dsimp only
   rw [decide_eq_false (by omega: ¬ ((s.g.l.length:Nat):Int) < (s.g.l.length:Int)),cond_false]
  ·have key: ∀ t:aB,SJ W t→(Option.bind ((bif (n == 0) then some (aQ t).x else some 0):Option Int) fun b=>(Option.bind ((bif (n == 1) then some (IntKind.i64.wrap ((aQ t).x+1)) else some (aQ t).g.w):Option Int) fun d=>(Option.bind (kL (aQ t) (aQ t).y b d) fun a=>some (aR.mk a.g a.x a.y a.s a.sX a.sY a.sS false a.top a.aO a.bA a.title))))=some (aQ (paS W t n)):=by
    intro t ht
    have hy:=yr ht
    rw [show (aQ t).x=t.spot.x from rfl,show (aQ t).g.w=(W:Int) from ht.gw,show (aQ t).y=t.spot.y from rfl,w64 (x:=t.spot.x+1) (by omega) (by omega)]
    have e1:((bif (n == 0) then some t.spot.x else some 0):Option Int)=some (paA t n):=by
     unfold paA
     by_cases c:n=0
     ·rw [k8 c,cond_true,if_pos c]
     ·rw [dQ c,cond_false,if_neg c]
    have e2:((bif (n == 1) then some (t.spot.x+1) else some (W:Int)):Option Int)=some (paB W t n):=by
     unfold paB
     by_cases c:n=1
     ·rw [k8 c,cond_true,if_pos c]
     ·rw [dQ c,cond_false,if_neg c]
    rw [e1,aA,e2,aA,sG ht ht.y0 ht.y1,aA]
    unfold paS
    rw [if_neg h2]
    rfl
   refine key _ ?_
   cases all with
   | true=>exact xI h n _ (Nat.le_refl _)
   | false=>exact h
theorem F2 (h:SI W s) (n:Int) (all:Bool):SI W (zY W s n all):=by
 unfold zY
 apply KV
 cases all with
 | false=>exact h
 | true =>
  have hs:=tp (W:=W) (s:=s) n s.g.l.length
  exact ⟨xI h.toSJ n _ (Nat.le_refl _),fun e=>by rw [if_pos rfl] at e ⊢; rw [hs.1]; rw [hs.2.2] at e; exact h.wt e⟩
def shS (W:Nat) (s:aB) (b n:Int):aB:=if s.spot.y < s.top∨s.spot.y > s.aO then s else if b=76 then mvS (dnS W s s.spot.y s.aO n) 0 s.spot.y else mvS (upT W s s.spot.y s.aO n) 0 s.spot.y
theorem F3 (h:SJ W s) (b n:Int):gG s b n=some (shS W s b n):=by
 unfold gG shS
 rw [show ((bif (decide (s.spot.y < s.top)) then some true else some (decide (s.spot.y > s.aO))):Option Bool)=_ from or2 _ _,aA]
 by_cases c:s.spot.y < s.top∨s.spot.y > s.aO
 ·rw [decide_eq_true c,cond_true,if_pos c]
 ·rw [decide_eq_false c,cond_false,if_neg c]
  by_cases cb:b=76
  ·rw [k8 cb,cond_true,if_pos cb,my,aA,wE h,aA,aA]
   rw [show (aB.mk (rL s.g.l s.spot.y s.aO n,(dnS W s s.spot.y s.aO n).g).snd s.spot s.saved s.waiting s.top s.aO s.bA s.title)=dnS W s s.spot.y s.aO n from rfl,kx (zX h _ _ _),aA]
  ·rw [dQ cb,cond_false,if_neg cb,my,aA,J7 h,aA,aA]
   rw [show (aB.mk (upO s.g.l s.spot.y s.aO n,(upT W s s.spot.y s.aO n).g).snd s.spot s.saved s.waiting s.top s.aO s.bA s.title)=upT W s s.spot.y s.aO n from rfl,kx (Bh h _ _ _),aA]
theorem KW (h:SI W s) (b n:Int):SI W (shS W s b n):=by
 unfold shS
 split
 ·exact h
 ·split
  ·exact m7 (zX h.toSJ _ _ _) _ _
  ·exact m7 (Bh h.toSJ _ _ _) _ _
def rgT (s:aB) (l:List Int):Int:=max 1 (min (atS l 0 1) (s.g.l.length:Int)) - 1
def rgU (s:aB) (l:List Int):Int:=max 1 (min (atS l 1 (s.g.l.length:Int)) (s.g.l.length:Int)) - 1
def rnS (s:aB) (t b:Int):aB:=⟨s.g,s.spot,s.saved,s.waiting,t,b,s.bA,s.title⟩
def reS (s:aB) (l:List Int):aB:=if rgT s l < rgU s l then mvS (rnS s (rgT s l) (rgU s l)) 0 0 else s
theorem KX (h:SJ W s) (l:List Int):0≤rgT s l∧rgT s l < s.g.l.length∧0≤rgU s l∧rgU s l < s.g.l.length:=by
 have h1:=h.gi.l1
 unfold rgT rgU
 omega
theorem F4 (h:SJ W s) (l:List Int) (c:rgT s l < rgU s l):SJ W (rnS s (rgT s l) (rgU s l)):=by
 have hr:=KX h l
 exact ⟨h.gw,h.gi,h.x0,h.x1,h.y0,h.y1,hr.1,by simp only [rnS]; omega,by simp only [rnS]; omega⟩
theorem Bk (h:SJ W s) (a:bE):gA s a=some (reS s a.bQ):=by
 have hl:=h.gi.l2
 have hl1:=h.gi.l1
 unfold gA reS
 rw [sF,aA,show eK a 0 1=_ from xH a 0 1,aA,ql,aA]
 dsimp only
 rw [show eK a 1 (s.g.l.length:Int)=_ from xH a 1 _,aA,ql,aA,w64 (by omega) (by omega),w64 (by omega) (by omega)]
 rw [← rgT,← rgU]
 by_cases c:rgT s a.bQ < rgU s a.bQ
 ·rw [decide_eq_true c,cond_true,if_pos c,← rnS,kx (F4 h _ c),aA]
 ·rw [decide_eq_false c,cond_false,if_neg c]
theorem KY (h:SI W s) (l:List Int):SI W (reS s l):=by
 unfold reS
 split
 ·exact m7 (F4 h.toSJ l (by assumption)) _ _
 ·exact h
def ceR (s:aB) (b n:Int):aE:=⟨iz 0 (if b=64 then ins (kD s.g.l s.spot.y).cells s.spot.x n (k7 s.spot.aP) else if b=80 then del (kD s.g.l s.spot.y).cells s.spot.x n (k7 s.spot.aP) else kq s.spot.x (s.spot.x+n) (k7 s.spot.aP) 0 (kD s.g.l s.spot.y).cells),false⟩
def ceS (W:Nat) (s:aB) (b n:Int):aB:=nwS (seS W s s.spot.y (ceR s b n))
end
end Go.Tw.X
set_option linter.unusedVariables false
set_option linter.unusedSimpArgs false
namespace Go.Tw.X
open Go Go.Tw
theorem Ib (l:List aG) (a n q:Int):(ins l a n q).length=l.length:=by
 unfold ins
 split
 ·rfl
 ·rcases vW l a n with h | ⟨h1,h2,h3⟩
  ·contradiction
  ·unfold mV
   simp only [List.length_take,List.length_append,List.length_replicate,List.length_drop]
   omega
theorem Ic (l:List aG) (a n q:Int):(del l a n q).length=l.length:=by
 unfold del
 split
 ·rfl
 ·rcases vW l a n with h | ⟨h1,h2,h3⟩
  ·contradiction
  ·unfold nt
   simp only [List.length_take,List.length_append,List.length_replicate,List.length_drop]
   omega
theorem J8 {l:List aG} (h:okR l) (a n q:Int):okR (ins l a n q):=by
 unfold ins
 split
 ·exact h
 ·exact sT (pf (pf (sT h _) (vb _ _)) (vV h _)) _
theorem J9 {l:List aG} (h:okR l) (a n q:Int):okR (del l a n q):=by
 unfold del
 split
 ·exact h
 ·exact pf (pf (sT h _) (vV h _)) (vb _ _)
section
variable {W : Nat} {s : aB}
theorem F5 (h:SJ W s) (b n:Int):gok W (ceR s b n):=by
 have hg:=h.row
 refine ⟨?_,oA _ _ ?_⟩
 ·simp only [ceR,kp]
  split
  ·rw [Ib]; exact hg.1
  ·split
   ·rw [Ic]; exact hg.1
   ·rw [lH]; exact hg.1
 ·split
  ·exact J8 hg.2 _ _ _
  ·split
   ·exact J9 hg.2 _ _ _
   ·exact ua _ _ _ _ hg.2
theorem yA (h:SJ W s) (b n:Int):(ceR s b n).cells.length≤1000000:=by have:=(F5 h b n).le h.gi.w2; omega
theorem DW (h:SJ W s) (b:Int) {n:Int} (h0:0≤n) (h1:n≤9999):gh (kD s.g.l s.spot.y) b s n=some (ceR s b n):=by
 have hl:=n6 h
 have hy:=yr h
 unfold gh ceR
 by_cases c:b=64
 ·rw [k8 c,cond_true,my,aA,insert_eq _ _ _ _ hl h.xr.1 h.xr.2,aA,if_pos c]; rfl
 ·rw [dQ c,cond_false,if_neg c]
  by_cases c2:b=80
  ·rw [k8 c2,cond_true,my,aA,Dw _ _ _ _ hl h.xr.1 h.xr.2,aA,if_pos c2]; rfl
  ·rw [dQ c2,cond_false,my,aA,w64 (by omega) (by omega),erase_eq _ _ _ _ (by omega),aA,if_neg c2]
theorem DX (h:SJ W s) (b:Int) {n:Int} (h0:0≤n) (h1:n≤9999):gF s b n=some (ceS W s b n):=by
 unfold gF eH
 rw [h.FN,aA,DW h b h0 h1,aA,h.FP _ (yA h b n),aA,aA]
 rfl
theorem KZ (h:SJ W s) (b n:Int):SI W (ceS W s b n):=⟨lz (Cy h _ (F5 h b n).2),fun e=>by cases e⟩
theorem Ie (h:SJ W s) (n:Int):mh (told (kD s.g.l s.spot.y)) s.spot.x n (k7 s.spot.aP)=some (told (ceR s 64 n)):=by
 have hl:=n6 h
 rw [told,AQ (kD s.g.l s.spot.y).cells (kD s.g.l s.spot.y).wrapped s.spot.x n _ hl h.xr.1 h.xr.2]
 rfl
theorem Ig (h:SJ W s) (n:Int):mi (told (kD s.g.l s.spot.y)) s.spot.x n (k7 s.spot.aP)=some (told (ceR s 80 n)):=by
 have hl:=n6 h
 rw [told,AR (kD s.g.l s.spot.y).cells (kD s.g.l s.spot.y).wrapped s.spot.x n _ hl h.xr.1 h.xr.2]
 rfl
def orS (W:Nat) (s:aB) (b:Int) (l:List Int):aB :=
 if b=65 then clS s (0 - atS l 0 1) else if b=70 then xS (clS s (0 - atS l 0 1)) 0 else
 if b=66 then clS s (atS l 0 1) else if b=69 then xS (clS s (atS l 0 1)) 0 else
 if b=67 then mvS s (s.spot.x+atS l 0 1) s.spot.y else if b=68 then mvS s (s.spot.x - atS l 0 1) s.spot.y else
 if b=71 then mvS s (atS l 0 1 - 1) s.spot.y else if b=100 then mvS s s.spot.x (atS l 0 1 - 1) else
 if b=72∨b=102 then mvS s (atS l 1 1 - 1) (atS l 0 1 - 1) else
 if b=74 then zY W s (atS l 0 0) true else if b=75 then zY W s (atS l 0 0) false else
 if b=64∨b=80∨b=88 then ceS W s b (atS l 0 1) else
 if b=76∨b=77 then shS W s b (atS l 0 1) else
 if b=83 then upS W (nwS s) (atS l 0 1) else
 if b=84 then dnS W (nwS s) s.top s.aO (atS l 0 1) else
 if b=109 then ⟨s.g,⟨s.spot.x,s.spot.y,DU s.spot.aP l⟩,s.saved,s.waiting,s.top,s.aO,s.bA,s.title⟩ else
 if b=114 then reS s l else s
def orF (s:aB) (b:Int) (l:List Int):List aE:=if b=83 then upF (nwS s) (atS l 0 1) else []
theorem lx {p:Prop} [Decidable p] {a b:aB} (ha:SI W a) (hb:SI W b):SI W (if p then a else b):=by split <;> assumption
theorem K0 (h:SI W s) (b:Int) (l:List Int):SI W (orS W s b l):=by
 have h0:=w0 h.toSJ
 have hx: ∀ n,SI W (xS (clS s n) 0):=fun n=>⟨zU (m7 h.toSJ _ _).toSJ (Int.le_refl 0) h0,fun e=>by cases e⟩
 unfold orS
 have e4: ∀ q,SI W ⟨s.g,⟨s.spot.x,s.spot.y,q⟩,s.saved,s.waiting,s.top,s.aO,s.bA,s.title⟩:=fun q=>⟨⟨h.gw,h.gi,h.x0,h.x1,h.y0,h.y1,h.t0,h.tb,h.b1⟩,h.wt⟩
 have e5: ∀ n,SI W (upS W (nwS s) n):=fun n=>⟨I9 (lz h.toSJ) _,fun e=>by cases e⟩
 have e6: ∀ t b n,SI W (dnS W (nwS s) t b n):=fun t b n=>⟨zX (lz h.toSJ) _ _ _,fun e=>by cases e⟩
 refine lx (m7 h.toSJ _ _) (lx (hx _) (lx (m7 h.toSJ _ _) (lx (hx _) (lx (m7 h.toSJ _ _) (lx (m7 h.toSJ _ _) (lx (m7 h.toSJ _ _) (lx (m7 h.toSJ _ _) (lx (m7 h.toSJ _ _) (lx (F2 h _ _) (lx (F2 h _ _) (lx (KZ h.toSJ _ _) (lx (KW h _ _) (lx (e5 _) (lx (e6 _ _ _) (lx (e4 _) (lx (KY h _) h))))))))))))))))
theorem yB (n a b c:Int):((bif (n == a) then some (n == a) else (bif (n == b) then some (n == b) else some (n == c))):Option Bool)=some (decide (n=a∨n=b∨n=c)):=by
 by_cases h:n=a
 ·simp [h]
 ·rw [dQ h,cond_false]
  by_cases h2:n=b
  ·simp [h2]
  ·rw [dQ h2,cond_false]
   by_cases h3:n=c
   ·simp [h3]
   ·rw [dQ h3,decide_eq_false (by omega)]
theorem CC (n a b:Int):((bif (n == a) then some (n == a) else some (n == b)):Option Bool)=some (decide (n=a∨n=b)):=by
 by_cases h:n=a
 ·simp [h]
 ·rw [dQ h,cond_false]
  by_cases h2:n=b
  ·simp [h2]
  ·rw [dQ h2,decide_eq_false (by omega)]
end
end Go.Tw.X
set_option linter.unusedVariables false
set_option linter.unusedSimpArgs false
namespace Go.Tw.X
open Go Go.Tw
section
variable {W : Nat} {s : aB}
theorem Ka (s:aB):aB.mk s.g s.spot s.saved false s.top s.aO s.bA s.title=nwS s:=rfl
theorem ky (t:aB) (b:Int):(Option.bind ((bif (b == 69) then some true else some (b == 70)):Option Bool) fun c=>(Option.bind ((bif c then some (aB.mk t.g (dT.mk 0 t.spot.y t.spot.aP) t.saved t.waiting t.top t.aO t.bA t.title) else some (aB.mk t.g t.spot t.saved t.waiting t.top t.aO t.bA t.title)):Option aB) fun a=>some (([]:List aE),(aB.mk t.g a.spot a.saved a.waiting a.top a.aO a.bA a.title))))=some ([],if b=69∨b=70 then xS t 0 else t):=by
 rw [sD,aA]
 by_cases h:b=69∨b=70
 ·rw [decide_eq_true h,if_pos h]; rfl
 ·rw [decide_eq_false h,if_neg h]; rfl
theorem Ih (h:SJ W s) (a:bE) (hl:a.bQ.length≤1000000):gH s a=some (orF s a.byte a.bQ,orS W s a.byte a.bQ):=by
 have hy:=yr h
 have hN:=uk a.bQ 0 (d:=1) (by omega) (by omega)
 have hM:=uk a.bQ 1 (d:=1) (by omega) (by omega)
 have hZ:=uk a.bQ 0 (d:=0) (by omega) (by omega)
 unfold gH
 rw [show eK a 0 1=_ from xH a 0 1,aA]
 simp only [show eK a 1 1=_ from xH a 1 1,show eK a 0 0=_ from xH a 0 0,yB,Bk h,Ka,HV _ _ hl]
 simp only [CC,aA]
 have hcl:=fun n h0 h1=>F1 (n:=n) h h0 h1
 have w1:IntKind.i64.wrap (0 - atS a.bQ 0 1)=0 - atS a.bQ 0 1:=w64 (by omega) (by omega)
 have w2:IntKind.i64.wrap (s.spot.x+atS a.bQ 0 1)=s.spot.x+atS a.bQ 0 1:=w64 (by omega) (by omega)
 have w3:IntKind.i64.wrap (s.spot.x - atS a.bQ 0 1)=s.spot.x - atS a.bQ 0 1:=w64 (by omega) (by omega)
 have w4:IntKind.i64.wrap (atS a.bQ 0 1 - 1)=atS a.bQ 0 1 - 1:=w64 (by omega) (by omega)
 have w5:IntKind.i64.wrap (atS a.bQ 1 1 - 1)=atS a.bQ 1 1 - 1:=w64 (by omega) (by omega)
 have c1:=hcl (0 - atS a.bQ 0 1) (by omega) (by omega)
 have c2:=hcl (atS a.bQ 0 1) (by omega) (by omega)
 have dn:eF s.g s.top s.aO (atS a.bQ 0 1) (k7 s.spot.aP)=some (rL s.g.l s.top s.aO (atS a.bQ 0 1),(dnS W (nwS s) s.top s.aO (atS a.bQ 0 1)).g):=wE (lz h) _ _ _
 have nn:bX (nwS s)=some (k7 s.spot.aP):=my _
 generalize hb:a.byte=b
 have key: ∀ (t:aB),(if b=69∨b=70 then xS t 0 else t)=orS W s b a.bQ→orF s b a.bQ=[]→(some ([],if b=69∨b=70 then xS t 0 else t):Option (List aE×aB))=some (orF s b a.bQ,orS W s b a.bQ):=fun t e1 e2=>by rw [e1,e2]
 by_cases h1:b=65∨b=70
 ·rw [decide_eq_true h1]
  simp only [cond_true,w1,c1,aA]
  rw [ky]
  refine key _ ?_ ?_
  ·rcases h1 with rfl | rfl <;> rfl
  ·rcases h1 with rfl | rfl <;> rfl
 ·rw [decide_eq_false h1,cond_false]
  by_cases h2:b=66∨b=69
  ·rw [decide_eq_true h2]
   simp only [cond_true,c2,aA]
   rw [ky]
   refine key _ ?_ ?_
   ·rcases h2 with rfl | rfl <;> rfl
   ·rcases h2 with rfl | rfl <;> rfl
  ·rw [decide_eq_false h2,cond_false]
   have hne: ¬ (b=69∨b=70):=by omega
   have key2: ∀ (t:aB),t=orS W s b a.bQ→orF s b a.bQ=[]→(some ([],if b=69∨b=70 then xS t 0 else t):Option (List aE×aB))=some (orF s b a.bQ,orS W s b a.bQ):=fun t e1 e2=>by rw [if_neg hne,e1,e2]
   by_cases h3:b=67
   ·subst h3; simp only [beq_self_eq_true,cond_true,w2,kx h,aA]; rw [ky]; exact key2 _ rfl rfl
   rw [dQ h3,cond_false]
   by_cases h4:b=68
   ·subst h4; simp only [beq_self_eq_true,cond_true,w3,kx h,aA]; rw [ky]; exact key2 _ rfl rfl
   rw [dQ h4,cond_false]
   by_cases h5:b=71
   ·subst h5; simp only [beq_self_eq_true,cond_true,w4,kx h,aA]; rw [ky]; exact key2 _ rfl rfl
   rw [dQ h5,cond_false]
   by_cases h6:b=100
   ·subst h6; simp only [beq_self_eq_true,cond_true,w4,kx h,aA]; rw [ky]; exact key2 _ rfl rfl
   rw [dQ h6,cond_false]
   by_cases h7:b=72∨b=102
   ·rw [decide_eq_true h7]; simp only [cond_true,w4,w5,kx h,aA]; rw [ky]
    refine key2 _ ?_ ?_
    ·rcases h7 with rfl | rfl <;> rfl
    ·rcases h7 with rfl | rfl <;> rfl
   rw [decide_eq_false h7,cond_false]
   by_cases h8:b=74
   ·subst h8; simp only [beq_self_eq_true,cond_true,Ia h hZ.1,aA]; rw [ky]; exact key2 _ rfl rfl
   rw [dQ h8,cond_false]
   by_cases h9:b=75
   ·subst h9; simp only [beq_self_eq_true,cond_true,CA h hZ.1,aA]; rw [ky]; exact key2 _ rfl rfl
   rw [dQ h9,cond_false]
   by_cases h10:b=64∨b=80∨b=88
   ·rw [decide_eq_true h10]; simp only [cond_true,DX h _ hN.1 hN.2.1,aA]; rw [ky]
    refine key2 _ ?_ ?_
    ·rcases h10 with rfl | rfl | rfl <;> rfl
    ·rcases h10 with rfl | rfl | rfl <;> rfl
   rw [decide_eq_false h10,cond_false]
   by_cases h11:b=76∨b=77
   ·rw [decide_eq_true h11]; simp only [cond_true,F3 h,aA]; rw [ky]
    refine key2 _ ?_ ?_
    ·rcases h11 with rfl | rfl <;> rfl
    ·rcases h11 with rfl | rfl <;> rfl
   rw [decide_eq_false h11,cond_false]
   by_cases h12:b=83
   ·subst h12; simp only [beq_self_eq_true,cond_true,FR (lz h),aA]; rfl
   rw [dQ h12,cond_false]
   by_cases h13:b=84
   ·subst h13; simp only [beq_self_eq_true,cond_true,nn,dn,aA]
    have e:=ky (dnS W (nwS s) s.top s.aO (atS a.bQ 0 1)) 84
    exact e.trans (key2 _ rfl rfl)
   rw [dQ h13,cond_false]
   by_cases h14:b=109
   ·subst h14; simp only [beq_self_eq_true,cond_true]
    have e:=ky ⟨s.g,⟨s.spot.x,s.spot.y,DU s.spot.aP a.bQ⟩,s.saved,s.waiting,s.top,s.aO,s.bA,s.title⟩ 109
    exact e.trans (key2 _ rfl rfl)
   rw [dQ h14,cond_false]
   by_cases h15:b=114
   ·subst h15; simp only [beq_self_eq_true,cond_true,aA]; rw [ky]; exact key2 _ rfl rfl
   rw [dQ h15,cond_false,aA]
   dsimp only
   rw [ky]
   refine key2 _ ?_ ?_
   ·unfold orS
    rw [if_neg (by omega),if_neg (by omega),if_neg (by omega),if_neg (by omega),if_neg h3,if_neg h4,if_neg h5,if_neg h6,if_neg h7,if_neg h8,if_neg h9,if_neg h10,if_neg h11,if_neg h12,if_neg h13,if_neg h14,if_neg h15]
   ·unfold orF
    rw [if_neg h12]
end
end Go.Tw.X
set_option linter.unusedVariables false
set_option linter.unusedSimpArgs false
namespace Go.Tw.X
open Go Go.Tw
section
variable {W : Nat} {s : aB}
theorem Ii (s:aB):aR.mk (aQ s).g (aQ s).x (aQ s).y (aQ s).s (aQ s).sX (aQ s).sY (aQ s).sS false (aQ s).top (aQ s).aO (aQ s).bA (aQ s).title=aQ (nwS s):=rfl
theorem CD {s:aB} {x y x' y':Int} (hx:max 0 (min x (s.g.w - 1))=max 0 (min x' (s.g.w - 1))) (hy:max 0 (min y ((s.g.l.length:Int) - 1))=max 0 (min y' ((s.g.l.length:Int) - 1))):mvS s x y=mvS s x' y':=by
 unfold mvS
 rw [hx,hy]
theorem DY (h:SJ W s) (b:Int) (l:List Int) (hl:l.length≤1000000):nd (aQ s) b l=some (aQ (orS W s b l),(orF s b l).map told):=by
 have hy:=yr h
 have hlen:=h.gi.l2
 have hlen1:=h.gi.l1
 have hN:=uk l 0 (d:=1) (by omega) (by omega)
 have hM:=uk l 1 (d:=1) (by omega) (by omega)
 have hZ:=uk l 0 (d:=0) (by omega) (by omega)
 unfold nd
 rw [show eW l 0 1=_ from oG l 0 1,aA,tj,aA]
 simp only [show eW l 0 1=_ from oG l 0 1,show eW l 1 1=_ from oG l 1 1,show eW l 0 0=_ from oG l 0 0,CC,Ii,Bi h]
 simp only [show eW l 1 (s.g.l.length:Int)=_ from oG l 1 _,show (aQ s).x=s.spot.x from rfl,show (aQ s).y=s.spot.y from rfl,show (aQ s).top=s.top from rfl,show (aQ s).aO=s.aO from rfl,show (aQ s).s=tst s.spot.aP from rfl,FM _ _ hl,aA]
 have w1:IntKind.i64.wrap (s.spot.y - atS l 0 1)=s.spot.y - atS l 0 1:=w64 (by omega) (by omega)
 have w1':IntKind.i64.wrap (s.spot.y+atS l 0 1)=s.spot.y+atS l 0 1:=w64 (by omega) (by omega)
 have w2:IntKind.i64.wrap (s.spot.x+atS l 0 1)=s.spot.x+atS l 0 1:=w64 (by omega) (by omega)
 have w3:IntKind.i64.wrap (s.spot.x - atS l 0 1)=s.spot.x - atS l 0 1:=w64 (by omega) (by omega)
 have w4:IntKind.i64.wrap (atS l 0 1 - 1)=atS l 0 1 - 1:=w64 (by omega) (by omega)
 have w5:IntKind.i64.wrap (atS l 1 1 - 1)=atS l 1 1 - 1:=w64 (by omega) (by omega)
 have w6:IntKind.i64.wrap ((s.g.l.length:Int) - 1)=(s.g.l.length:Int) - 1:=w64 (by omega) (by omega)
 have dn:dZ (aQ s).g false s.top s.aO (atS l 0 1) (k7 s.spot.aP)=some ((aQ (dnS W (nwS s) s.top s.aO (atS l 0 1))).g,(rL s.g.l s.top s.aO (atS l 0 1)).map told):=wF (lz h) _ _ _
 by_cases h1:b=65∨b=70
 ·rw [decide_eq_true h1]
  simp only [cond_true,vj,w1,aA,iL,iK h]
  have e:mvS s s.spot.x (max (if s.spot.y≥s.top then s.top else 0) (s.spot.y - atS l 0 1))=clS s (0 - atS l 0 1):=by
   unfold clS
   apply CD rfl
   split <;> split <;> split <;> omega
  rw [e]
  rcases h1 with rfl | rfl <;> rfl
 rw [decide_eq_false h1,cond_false]
 by_cases h2:b=66∨b=69
 ·rw [decide_eq_true h2]
  simp only [cond_true,vj,w1',w6,aA,eG,iK h]
  have e:mvS s s.spot.x (min (if s.spot.y≤s.aO then s.aO else (s.g.l.length:Int) - 1) (s.spot.y+atS l 0 1))=clS s (atS l 0 1):=by
   unfold clS
   have hb:=h.b1
   have ht:=h.t0
   have htb:=h.tb
   apply CD rfl
   split <;> split <;> split <;> omega
  rw [e]
  rcases h2 with rfl | rfl <;> rfl
 rw [decide_eq_false h2,cond_false]
 by_cases h3:b=67
 ·subst h3; simp only [beq_self_eq_true,cond_true,w2,iK h,aA]; rfl
 rw [dQ h3,cond_false]
 by_cases h4:b=68
 ·subst h4; simp only [beq_self_eq_true,cond_true,w3,iK h,aA]; rfl
 rw [dQ h4,cond_false]
 by_cases h5:b=71
 ·subst h5; simp only [beq_self_eq_true,cond_true,w4,iK h,aA]; rfl
 rw [dQ h5,cond_false]
 by_cases h6:b=100
 ·subst h6; simp only [beq_self_eq_true,cond_true,w4,iK h,aA]; rfl
 rw [dQ h6,cond_false]
 by_cases h7:b=72∨b=102
 ·rw [decide_eq_true h7]; simp only [cond_true,w4,w5,iK h,aA]
  rcases h7 with rfl | rfl <;> rfl
 rw [decide_eq_false h7,cond_false]
 by_cases h8:b=74
 ·subst h8; simp only [beq_self_eq_true,cond_true,zZ h hZ.1,aA]; rfl
 rw [dQ h8,cond_false]
 by_cases h9:b=75
 ·subst h9; simp only [beq_self_eq_true,cond_true,zZ h hZ.1,aA]; rfl
 rw [dQ h9,cond_false]
 by_cases h10:b=88
 ·subst h10; simp only [beq_self_eq_true,cond_true,w2,sG h h.y0 h.y1,aA]; rfl
 rw [dQ h10,cond_false]
 have gr:idx (aQ s).g.l s.spot.y=some (told (kD s.g.l s.spot.y)):=h.HZ
 by_cases h11:b=64
 ·subst h11; simp only [beq_self_eq_true,cond_true,gr,aA,Ie h,qm h (yA h 64 _)]; rfl
 rw [dQ h11,cond_false]
 by_cases h12:b=80
 ·subst h12; simp only [beq_self_eq_true,cond_true,gr,aA,Ig h,qm h (yA h 80 _)]; rfl
 rw [dQ h12,cond_false]
 have e12: ¬ (b=64∨b=80∨b=88):=by omega
 by_cases h13:b=76∨b=77
 ·rw [decide_eq_true h13]
  simp only [cond_true]
  rw [show ((bif (decide (s.spot.y≥s.top)) then some (decide (s.spot.y≤s.aO)) else some false):Option Bool)=_ from yg _ _,aA]
  by_cases c:s.spot.y≥s.top∧s.spot.y≤s.aO
  ·have c': ¬ (s.spot.y < s.top∨s.spot.y > s.aO):=by omega
   rw [decide_eq_true c,cond_true]
   rcases h13 with rfl | rfl
   ·rw [show ((76:Int) == 77)=false from rfl,wF h,aA]
    have e:=iK (zX h s.spot.y s.aO (atS l 0 1)) 0 s.spot.y
    rw [show aQ (dnS W s s.spot.y s.aO (atS l 0 1))=aR.mk (aQ (dnS W s s.spot.y s.aO (atS l 0 1))).g s.spot.x s.spot.y (tst s.spot.aP) (aQ s).sX (aQ s).sY (aQ s).sS (aQ s).waiting s.top s.aO (aQ s).bA (aQ s).title from rfl] at e
    dsimp only
    rw [e,aA]
    unfold orS orF shS
    rw [if_neg c']
    rfl
   ·rw [show ((77:Int) == 77)=true from rfl,H0 h,aA]
    have e:=iK (Bh h s.spot.y s.aO (atS l 0 1)) 0 s.spot.y
    rw [show aQ (upT W s s.spot.y s.aO (atS l 0 1))=aR.mk (aQ (upT W s s.spot.y s.aO (atS l 0 1))).g s.spot.x s.spot.y (tst s.spot.aP) (aQ s).sX (aQ s).sY (aQ s).sS (aQ s).waiting s.top s.aO (aQ s).bA (aQ s).title from rfl] at e
    dsimp only
    rw [e,aA]
    unfold orS orF shS
    rw [if_neg c']
    rfl
  ·have c':s.spot.y < s.top∨s.spot.y > s.aO:=by omega
   rw [decide_eq_false c,cond_false,aA]
   unfold orS orF shS
   rw [if_pos c']
   rcases h13 with rfl | rfl <;> rfl
 rw [decide_eq_false h13,cond_false]
 by_cases h14:b=83
 ·subst h14
  have e:=xG (lz h) (atS l 0 1)
  have e2:aR.mk (aQ s).g s.spot.x s.spot.y (tst s.spot.aP) (aQ s).sX (aQ s).sY (aQ s).sS false s.top s.aO (aQ s).bA (aQ s).title=aQ (nwS s):=rfl
  simp only [beq_self_eq_true,cond_true,e2,e,aA]
  rfl
 rw [dQ h14,cond_false]
 by_cases h15:b=84
 ·subst h15; simp only [beq_self_eq_true,cond_true,dn,aA]; rfl
 rw [dQ h15,cond_false]
 by_cases h16:b=109
 ·subst h16; simp only [beq_self_eq_true,cond_true,aA]; rfl
 rw [dQ h16,cond_false]
 by_cases h17:b=114
 ·subst h17
  simp only [beq_self_eq_true,cond_true]
  rw [eG,iL,eG,iL,w64 (by omega) (by omega),w64 (by omega) (by omega),← rgT,← rgU]
  unfold orS orF
  simp only [Int.reduceEq,if_false,if_true,or_self,Bool.false_eq_true]
  unfold reS
  by_cases c:rgT s l < rgU s l
  ·rw [decide_eq_true c,cond_true,if_pos c]
   have e:=iK (F4 h l c) 0 0
   rw [show aQ (rnS s (rgT s l) (rgU s l))=aR.mk (aQ s).g s.spot.x s.spot.y (tst s.spot.aP) (aQ s).sX (aQ s).sY (aQ s).sS (aQ s).waiting (rgT s l) (rgU s l) (aQ s).bA (aQ s).title from rfl] at e
   rw [e,aA,aA]
   rfl
  ·rw [decide_eq_false c,cond_false,if_neg c,aA]
   rfl
 rw [dQ h17,cond_false,aA]
 unfold orS orF
 rw [if_neg (by omega),if_neg (by omega),if_neg (by omega),if_neg (by omega),if_neg h3,if_neg h4,if_neg h5,if_neg h6,if_neg h7,if_neg h8,if_neg h9,if_neg e12,if_neg h13,if_neg h14,if_neg h15,if_neg h16,if_neg h17,if_neg h14]
 rfl
end
end Go.Tw.X
set_option linter.unusedVariables false
set_option linter.unusedSimpArgs false
namespace Go.Tw.X
open Go Go.Tw
def nlS:bG:=⟨0,0,false,false,false⟩
def w9 (w h:Int):aB:=⟨u0 w h,⟨0,0,nlS⟩,⟨0,0,nlS⟩,false,0,(szN h:Int) - 1,true,ByteArray.mk #[]⟩
theorem z3 (w h:Int):(w9 w h).g.l.length=szN h:=by simp [w9,u0]
theorem CE (w h:Int):lk w h=some (w9 w h):=by
 unfold lk
 have h1:=qe h
 rw [JM,aA,sF,aA]
 dsimp only
 rw [show ((u0 w h).l.length:Int)=(szN h:Int) by simp [u0],w64 (by omega) (by omega)]
 rfl
theorem F6 (w h:Int):p8 w h=some (aQ (w9 w h)):=by
 unfold p8
 have h1:=qe h
 rw [Ho,aA]
 rw [show ((qf (u0 w h)).l.length:Int)=(szN h:Int) by simp [u0,qf],w64 (by omega) (by omega)]
 rfl
theorem CF (w h:Int):SI (szN w) (w9 w h):=by
 have h1:=vd h
 have h2:=vd w
 refine ⟨⟨rfl,JL w h,Int.le_refl 0,?_,Int.le_refl 0,?_,Int.le_refl 0,?_,?_⟩,fun e=>by cases e⟩
 ·show (0:Int) < _; omega
 ·rw [z3]; show (0:Int) < _; omega
 ·show (0:Int)≤(szN h:Int) - 1; omega
 ·rw [z3]; show (szN h:Int) - 1 < _; omega
section
variable {W : Nat} {s : aB}
def ctS (W:Nat) (s:aB) (b:Int):aB:=if b=8 then mvS s (s.spot.x - 1) s.spot.y else if b=9 then mvS s (s.spot.x.tdiv 8*8+8) s.spot.y else if b=10∨b=11∨b=12 then liS W s else if b=13 then mvS s 0 s.spot.y else s
def ctF (s:aB) (b:Int):List aE:=if b=10∨b=11∨b=12 then liF s else []
theorem F7 {x:Int} (h0:0≤x) (h1:x < 1000):0≤x.tdiv 8∧x.tdiv 8≤1000:=by
 rw [Int.tdiv_eq_ediv_of_nonneg h0]
 omega
theorem DZ (h:SJ W s) (b:Int):gf s b=some (ctF s b,ctS W s b):=by
 have hy:=yr h
 have ht:=F7 hy.2.2.1 hy.2.2.2
 unfold gf ctF ctS
 simp only [yB]
 rw [w64 (x:=s.spot.x - 1) (by omega) (by omega),w64 (x:=s.spot.x.tdiv 8) (by omega) (by omega),w64 (x:=s.spot.x.tdiv 8+1) (by omega) (by omega),w64 (x:=(s.spot.x.tdiv 8+1)*8) (by omega) (by omega),show (s.spot.x.tdiv 8+1)*8=s.spot.x.tdiv 8*8+8 by omega]
 by_cases h1:b=8
 ·subst h1; simp only [beq_self_eq_true,cond_true,kx h,aA]; rfl
 rw [dQ h1,cond_false,if_neg h1]
 by_cases h2:b=9
 ·subst h2; simp only [beq_self_eq_true,cond_true,kx h,aA]; rfl
 rw [dQ h2,cond_false,if_neg h2,aA]
 by_cases h3:b=10∨b=11∨b=12
 ·rw [decide_eq_true h3,cond_true,(gI h).p,if_pos h3,if_pos h3]; rfl
 rw [decide_eq_false h3,cond_false,if_neg h3,if_neg h3]
 by_cases h4:b=13
 ·subst h4; simp only [beq_self_eq_true,cond_true,kx h,aA]; rfl
 rw [dQ h4,cond_false,if_neg h4]
 rfl
theorem K1 (h:SI W s) (b:Int):SI W (ctS W s b):=lx (m7 h.toSJ _ _) (lx (m7 h.toSJ _ _) (lx (gI h.toSJ).i (lx (m7 h.toSJ _ _) h)))
def e8S (s:aB):aB:=⟨s.g,⟨s.spot.x,s.spot.y,s.saved.aP⟩,s.saved,s.waiting,s.top,s.aO,s.bA,s.title⟩
theorem F8 (h:SJ W s):SJ W (e8S s):=⟨h.gw,h.gi,h.x0,h.x1,h.y0,h.y1,h.t0,h.tb,h.b1⟩
def e7S (s:aB):aB:=⟨s.g,s.spot,s.spot,s.waiting,s.top,s.aO,s.bA,s.title⟩
def esS (W:Nat) (s:aB) (b:Int):aB:=if b=69 then liS W (xS s 0) else if b=68 then liS W s else if b=77 then baS W s else if b=55 then e7S s else if b=56 then mvS (e8S s) s.saved.x s.saved.y else if b=99 then w9 W s.g.l.length else s
def esF (s:aB) (b:Int):List aE:=if b=69 then liF (xS s 0) else if b=68 then liF s else []
theorem K4 (h:SI W s) (b:Int):SI W (esS W s b):=by
 have e:=CF (W:Int) (s.g.l.length:Int)
 rw [E9 W h.gi.w1 h.gi.w2] at e
 exact lx (gI (zU h.toSJ (Int.le_refl 0) (w0 h.toSJ))).i (lx (gI h.toSJ).i (lx (KU h.toSJ) (lx ⟨⟨h.gw,h.gi,h.x0,h.x1,h.y0,h.y1,h.t0,h.tb,h.b1⟩,h.wt⟩ (lx (m7 (F8 h.toSJ) _ _) (lx e h)))))
theorem F9 (h:SJ W s) (b:Int):gy s b=some (esF s b,esS W s b):=by
 unfold gy esF esS
 by_cases h1:b=69
 ·subst h1
  have e:=(gI (zU h (Int.le_refl 0) (w0 h))).p
  rw [show xS s 0=aB.mk s.g (dT.mk 0 s.spot.y s.spot.aP) s.saved s.waiting s.top s.aO s.bA s.title from rfl] at e
  simp only [beq_self_eq_true,cond_true,aA,e,if_true]
  rfl
 rw [dQ h1,cond_false,if_neg h1,if_neg h1]
 by_cases h2:b=68
 ·subst h2
  have e:=(gI h).p
  simp only [beq_self_eq_true,cond_true,aA,if_true]
  rw [show aB.mk s.g s.spot s.saved s.waiting s.top s.aO s.bA s.title=s from rfl,e]
  rfl
 rw [dQ h2,cond_false,if_neg h2,if_neg h2]
 by_cases h3:b=77
 ·subst h3; simp only [beq_self_eq_true,cond_true,back_eq h,aA,if_true]; rfl
 rw [dQ h3,cond_false,if_neg h3]
 by_cases h4:b=55
 ·subst h4; simp only [beq_self_eq_true,cond_true,aA,if_true]; rfl
 rw [dQ h4,cond_false,if_neg h4]
 by_cases h5:b=56
 ·subst h5
  have e:=kx (F8 h) s.saved.x s.saved.y
  rw [show e8S s=aB.mk s.g (dT.mk s.spot.x s.spot.y s.saved.aP) s.saved s.waiting s.top s.aO s.bA s.title from rfl] at e
  simp only [beq_self_eq_true,cond_true,e,aA,if_true]
  rfl
 rw [dQ h5,cond_false,if_neg h5]
 by_cases h6:b=99
 ·subst h6
  simp only [beq_self_eq_true,cond_true,sF,aA,if_true,CE,h.gw]
  rfl
 rw [dQ h6,cond_false,if_neg h6]
 rfl
def pvS (s:aB) (b:Int) (l:List Int):aB:=if atS l 0 0=7∧(b=104∨b=108) then ⟨s.g,s.spot,s.saved,s.waiting,s.top,s.aO,b == 104,s.title⟩ else s
def tiS (s:aB) (t:ByteArray):aB:=⟨s.g,s.spot,s.saved,s.waiting,s.top,s.aO,s.bA,t⟩
def acS (W:Nat) (s:aB) (a:bE):aB:=if a.kind=1 then prS W s a.rune else if a.kind=2 then ctS W s a.byte else if a.kind=3 then esS W s a.byte else if a.kind=4 then (if a.dN=true then pvS s a.byte a.bQ else orS W s a.byte a.bQ) else if a.kind=5 then tiS s a.text else s
def acF (W:Nat) (s:aB) (a:bE):List aE:=if a.kind=1 then prF W s a.rune else if a.kind=2 then ctF s a.byte else if a.kind=3 then esF s a.byte else if a.kind=4 then (if a.dN=true then [] else orF s a.byte a.bQ) else []
theorem L6 (h:SJ W s) (a:bE) (hl:a.bQ.length≤1000000):fT s a=some (acF W s a,acS W s a):=by
 unfold fT acF acS
 by_cases h1:a.kind=1
 ·rw [k8 h1,cond_true,if_pos h1,if_pos h1,HY h]; rfl
 rw [dQ h1,cond_false,if_neg h1,if_neg h1]
 by_cases h2:a.kind=2
 ·rw [k8 h2,cond_true,if_pos h2,if_pos h2,DZ h]; rfl
 rw [dQ h2,cond_false,if_neg h2,if_neg h2]
 by_cases h3:a.kind=3
 ·rw [k8 h3,cond_true,if_pos h3,if_pos h3,F9 h]; rfl
 rw [dQ h3,cond_false,if_neg h3,if_neg h3]
 by_cases h5:a.kind=5
 ·have h4: ¬ a.kind=4:=by omega
  rw [k8 h5,cond_true,if_neg h4,if_neg h4,if_pos h5]; rfl
 rw [dQ h5,cond_false,if_neg h5]
 by_cases h4:a.kind=4
 ·rw [k8 h4,cond_true,if_pos h4,if_pos h4]
  cases hp:a.dN with
  | false =>
   rw [Bool.not_false,cond_true,Ih h a hl,if_neg (by simp),if_neg (by simp)]
   rfl
  | true =>
   rw [Bool.not_true,cond_false,if_pos rfl,if_pos rfl,show eK a 0 0=_ from xH a 0 0,aA,sD]
   unfold pvS
   by_cases c:atS a.bQ 0 0=7
   ·rw [k8 c,cond_true,aA]
    by_cases c2:a.byte=104∨a.byte=108
    ·rw [decide_eq_true c2,cond_true,if_pos ⟨c,c2⟩]; rfl
    ·rw [decide_eq_false c2,cond_false,if_neg (fun e=>c2 e.2)]; rfl
   ·rw [dQ c,cond_false,aA,cond_false,if_neg (fun e=>c e.1)]; rfl
 rw [dQ h4,cond_false,if_neg h4,if_neg h4]
 rfl
theorem Jd (h:SI W s) (a:bE) (hr:rok a.rune):SI W (acS W s a):=by
 have e1:SI W (pvS s a.byte a.bQ):=by
  unfold pvS
  exact lx ⟨⟨h.gw,h.gi,h.x0,h.x1,h.y0,h.y1,h.t0,h.tb,h.b1⟩,h.wt⟩ h
 exact lx (KT h hr) (lx (K1 h _) (lx (K4 h _) (lx (lx e1 (K0 h _ _)) (lx ⟨⟨h.gw,h.gi,h.x0,h.x1,h.y0,h.y1,h.t0,h.tb,h.b1⟩,h.wt⟩ h))))
def z4 (W:Nat) (off:List aE):Prop:=off.length≤2000 ∧ ∀ r∈off,gok W r
theorem th.o2 {off:List aE} (h:th W off):z4 W off:=⟨by have:=h.1; omega,h.2⟩
theorem yC {p:Prop} [Decidable p] {a b:List aE} (ha:z4 W a) (hb:z4 W b):z4 W (if p then a else b):=by split <;> assumption
theorem Bl (h:SJ W s) (a:bE):z4 W (acF W s a):=by
 have n0:z4 W []:=(nA W).o2
 have l0: ∀ t,SJ W t→z4 W (liF t):=fun t ht=>(gI ht).o.o2
 exact yC (J6 h) (yC (yC (l0 _ h) n0) (yC (yC (l0 _ (zU h (Int.le_refl 0) (w0 h))) (yC (l0 _ h) n0)) (yC (yC n0 (yC (FQ (lz h) _).o2 n0)) n0)))
end
end Go.Tw.X
set_option linter.unusedVariables false
set_option linter.unusedSimpArgs false
namespace Go.Tw.X
open Go Go.Tw
def sH (a:kh):bE:=⟨a.kind,a.rune,a.byte,a.dN,a.bQ,a.text⟩
section
variable {W : Nat} {s : aB}
theorem L7 (h:SJ W s) (a:kh) (hr:rok a.rune) (hl:a.bQ.length≤1000000):sd (aQ s) a=some (aQ (acS W s (sH a)),(acF W s (sH a)).map told):=by
 have hy:=yr h
 have hlen:=h.gi.l2
 have ht:=F7 hy.2.2.1 hy.2.2.2
 unfold sd acF acS sH
 dsimp only
 by_cases h1:a.kind=1
 ·rw [k8 h1,cond_true,if_pos h1,if_pos h1,J5 h hr]; rfl
 rw [dQ h1,cond_false,if_neg h1,if_neg h1]
 by_cases h2:a.kind=2
 ·rw [k8 h2,cond_true,if_pos h2,if_pos h2]
  unfold ctF ctS
  simp only [yB]
  rw [show (aQ s).x=s.spot.x from rfl,show (aQ s).y=s.spot.y from rfl,w64 (x:=s.spot.x - 1) (by omega) (by omega),w64 (x:=s.spot.x.tdiv 8) (by omega) (by omega),w64 (x:=s.spot.x.tdiv 8*8) (by omega) (by omega),w64 (x:=s.spot.x.tdiv 8*8+8) (by omega) (by omega)]
  generalize a.byte=b
  by_cases c1:b=8
  ·subst c1; simp only [beq_self_eq_true,cond_true,iK h,aA]; rfl
  rw [dQ c1,cond_false,if_neg c1]
  by_cases c2:b=9
  ·subst c2; simp only [beq_self_eq_true,cond_true,iK h,aA]; rfl
  rw [dQ c2,cond_false,if_neg c2,aA]
  by_cases c3:b=10∨b=11∨b=12
  ·rw [decide_eq_true c3,cond_true,(gI h).q,if_pos c3,if_pos c3]; rfl
  rw [decide_eq_false c3,cond_false,if_neg c3,if_neg c3]
  by_cases c4:b=13
  ·subst c4; simp only [beq_self_eq_true,cond_true,iK h,aA]; rfl
  rw [dQ c4,cond_false,if_neg c4]
  rfl
 rw [dQ h2,cond_false,if_neg h2,if_neg h2]
 by_cases h3:a.kind=3
 ·rw [k8 h3,cond_true,if_pos h3,if_pos h3]
  unfold esF esS
  generalize a.byte=b
  by_cases c2:b=68
  ·subst c2; simp only [beq_self_eq_true,cond_true,(gI h).q,aA,if_true]; rfl
  rw [dQ c2,cond_false,if_neg c2,if_neg c2]
  by_cases c1:b=69
  ·subst c1
   have e:=(gI (zU h (Int.le_refl 0) (w0 h))).q
   rw [show aQ (xS s 0)=aR.mk (aQ s).g 0 (aQ s).y (aQ s).s (aQ s).sX (aQ s).sY (aQ s).sS (aQ s).waiting (aQ s).top (aQ s).aO (aQ s).bA (aQ s).title from rfl] at e
   simp only [beq_self_eq_true,cond_true,e,aA,if_true]
   rfl
  rw [dQ c1,cond_false,if_neg c1,if_neg c1]
  by_cases c3:b=77
  ·subst c3
   simp only [beq_self_eq_true,cond_true,if_true]
   unfold baS
   rw [show (aQ s).y=s.spot.y from rfl,show (aQ s).top=s.top from rfl]
   by_cases c:s.spot.y=s.top
   ·have e:dZ (aQ s).g false s.top s.aO 1 (k7 s.spot.aP)=some ((aQ (dnS W (nwS s) s.top s.aO 1)).g,(rL s.g.l s.top s.aO 1).map told):=wF (lz h) _ _ _
    rw [k8 c,cond_true,if_pos c,show (aQ s).s=tst s.spot.aP from rfl,zM,aA,show (aQ s).aO=s.aO from rfl,e,aA]
    rfl
   ·have e:=iK (lz h) s.spot.x (s.spot.y - 1)
    rw [show aQ (nwS s)=aR.mk (aQ s).g (aQ s).x s.spot.y (aQ s).s (aQ s).sX (aQ s).sY (aQ s).sS false s.top (aQ s).aO (aQ s).bA (aQ s).title from rfl] at e
    rw [dQ c,cond_false,if_neg c,w64 (by omega) (by omega),show (aQ s).x=s.spot.x from rfl]
    rw [show (aQ s).x=s.spot.x from rfl] at e
    rw [e,aA]
    rfl
  rw [dQ c3,cond_false,if_neg c3]
  by_cases c4:b=55
  ·subst c4; simp only [beq_self_eq_true,cond_true,aA,if_true]; rfl
  rw [dQ c4,cond_false,if_neg c4]
  by_cases c5:b=56
  ·subst c5
   have e:=iK (F8 h) s.saved.x s.saved.y
   rw [show aQ (e8S s)=aR.mk (aQ s).g (aQ s).x (aQ s).y (aQ s).sS (aQ s).sX (aQ s).sY (aQ s).sS (aQ s).waiting (aQ s).top (aQ s).aO (aQ s).bA (aQ s).title from rfl] at e
   simp only [beq_self_eq_true,cond_true,if_true]
   rw [show (aQ s).sX=s.saved.x from rfl,show (aQ s).sY=s.saved.y from rfl]
   rw [show (aQ s).sX=s.saved.x from rfl,show (aQ s).sY=s.saved.y from rfl] at e
   rw [e,aA]
   rfl
  rw [dQ c5,cond_false,if_neg c5]
  by_cases c6:b=99
  ·subst c6
   simp only [beq_self_eq_true,cond_true,aA,if_true]
   rw [Bi h,show (aQ s).g.w=(W:Int) from h.gw,F6,aA]
   rfl
  rw [dQ c6,cond_false,if_neg c6]
  rfl
 rw [dQ h3,cond_false,if_neg h3,if_neg h3]
 by_cases h4:a.kind=4
 ·rw [k8 h4,cond_true,if_pos h4,if_pos h4]
  cases hp:a.dN with
  | false =>
   rw [Bool.not_false,cond_true,DY h a.byte a.bQ hl,if_neg (by simp),if_neg (by simp)]
   rfl
  | true =>
   rw [Bool.not_true,cond_false,if_pos rfl,if_pos rfl,show eW a.bQ 0 0=_ from oG a.bQ 0 0,aA,sD]
   unfold pvS
   by_cases c:atS a.bQ 0 0=7
   ·rw [k8 c,cond_true,aA]
    by_cases c2:a.byte=104∨a.byte=108
    ·rw [decide_eq_true c2,cond_true,if_pos ⟨c,c2⟩]; rfl
    ·rw [decide_eq_false c2,cond_false,if_neg (fun e=>c2 e.2)]; rfl
   ·rw [dQ c,cond_false,aA,cond_false,if_neg (fun e=>c e.1)]; rfl
 rw [dQ h4,cond_false,if_neg h4,if_neg h4]
 by_cases h5:a.kind=5
 ·rw [k8 h5,cond_true,if_pos h5]; rfl
 rw [dQ h5,cond_false,if_neg h5]
 rfl
end
end Go.Tw.X
set_option linter.unusedVariables false
set_option linter.unusedSimpArgs false
namespace Go.Tw.X
open Go Go.Tw
theorem z5 (s:ByteArray) {lo hi:Int} (h0:0≤lo) (h1:lo≤hi) (h2:hi≤s.size):(lE s lo hi).size=(hi - lo).toNat:=by
 unfold lE
 rw [ByteArray.size_extract]
 omega
def okA (a:kh):Prop:=rok a.rune∧0≤a.byte∧a.byte < 256∧a.bQ.length≤18
end Go.Tw.X
set_option linter.unusedVariables false
set_option linter.unusedSimpArgs false
set_option maxHeartbeats 1000000
namespace Go.Tw.X
open Go Go.Tw
def Kb (l:List Int):Prop:= ∀ x∈l,rok x
end Go.Tw.X
set_option linter.unusedVariables false
set_option linter.unusedSimpArgs false
namespace Go.Tw.X
open Go Go.Tw
theorem Ij (s:ByteArray) {n:Int} (h:0≤n):okO (m4 s n) (fun r=>(r.size:Int)≤n):=by
 unfold m4
 refine td (fun hc=> ?_) fun hc=>fC (by omega)
 refine jP (Be (by omega) h (by omega)) fun _ _=>fC ?_
 rw [z5 _ (by omega) h (by omega)]
 omega
theorem Kd {W:Nat} {off:List aE} (h:z4 W off) (hW:W≤1000):nr off (off.map told)=some true :=
 Fm off (by have:=h.1; omega) fun r hr=>⟨by have:=(h.2 r hr).1; omega,(h.2 r hr).2⟩
theorem D1 {x:Int} (h:rok x):IntKind.i32.wrap x=x:=by
 have h1:=h.1
 have h2:=h.2
 rw [IntKind.wrap_i32]
 omega
theorem Ga {a:kh} (h:okA a):p9 a=some (sH a):=by
 obtain ⟨h1,h2,h3,h4⟩:=h
 unfold p9
 rw [bR (by simp; omega),aA,D1 h1,L2 h2 h3]
 rfl
section
variable {W : Nat} {s : aB}
theorem Ik (h:SI W s) {a:kh} (ha:okA a):sd (aQ s) a=some (aQ (acS W s (sH a)),(acF W s (sH a)).map told)∧p9 a=some (sH a)∧fT s (sH a)=some (acF W s (sH a),acS W s (sH a))∧nr (acF W s (sH a)) ((acF W s (sH a)).map told)=some true∧SI W (acS W s (sH a)) :=
 ⟨L7 h.toSJ a ha.1 (by have:=ha.2.2.2; omega),Ga ha,L6 h.toSJ _ (by have:=ha.2.2.2; show a.bQ.length≤_; omega),Kd (Bl h.toSJ _) h.gi.w2,Jd h _ ha.1⟩
theorem Gb (h:SJ W s):ie s=some (s.g,s):=by
 unfold ie
 have e:=AU s.g.w s.g.l (by have:=h.gi.l2; omega) h.gi.len
 rw [show (bC.mk s.g.w s.g.l)=s.g from rfl] at e
 rw [e]
 rfl
end
end Go.Tw.X
set_option linter.unusedVariables false
set_option linter.unusedSimpArgs false
set_option maxRecDepth 20000
set_option maxHeartbeats 1000000
namespace Go.Tw.X
open Go Go.Tw
theorem Ke {P:Int→Prop} (h: ∀ n:Nat,n < 256→P n) {b:Int} (h0:0≤b) (h1:b < 256):P b:=by
 have:=h b.toNat (by omega)
 rwa [Int.toNat_of_nonneg h0] at this
def jc (b:Int):Int×Int×Int:=if 194≤b∧b≤223 then (1,128,191) else if b=224 then (2,160,191) else if b=237 then (2,128,159) else if 225≤b∧b≤239 then (2,128,191) else if b=240 then (3,144,191) else if b=244 then (3,128,143) else if 241≤b∧b≤243 then (3,128,191) else (0,0,0)
theorem tq (b:Int):((jc b).1=0∨(jc b).1=1∨(jc b).1=2∨(jc b).1=3)∧((jc b).1≠0→194≤b∧b≤244):=by
 unfold jc
 repeat' split
 all_goals simp
 all_goals omega
def D3 (l:List jT) (b:Int):Option jT:=l.find? fun x=>decide (x.first≤b) && decide (b≤x.last)
def fnd (b:Int):jT×Bool:=match D3 bW b with
 | some x=>(x,true)
 | none=>(⟨0,0,0,0,0⟩,false)
theorem z6 {b:Int} (h0:0≤b) (h1:b < 256):(fnd b).2=decide ((jc b).1≠0)∧(fnd b).1.iJ=(jc b).1∧(fnd b).1.low=(jc b).2.1∧(fnd b).1.high=(jc b).2.2 :=
 Ke (P:=fun b=>(fnd b).2=decide ((jc b).1≠0)∧(fnd b).1.iJ=(jc b).1∧(fnd b).1.low=(jc b).2.1∧(fnd b).1.high=(jc b).2.2) (by decide) h0 h1
theorem z7 (b:Int):lh b=some (fnd b):=by
 unfold lh
 have key: ∀ k i:Nat,i+k=8→iter (σ:=Int) (ρ:=Unit ⊕ (jT×Bool)) (fun a=>(bif (decide (a < 8)) then (Option.bind (idx bW a) fun c=>(Option.bind ((bif (decide (b≥c.first)) then some (decide (b≤c.last)) else some false):Option Bool) fun d=>(bif d then (kO (some (c,true))) else some (.inl (IntKind.i64.wrap (a+1)))))) else some (.inr (.inl ())))) (i:Int)=some (match D3 (bW.drop i) b with
   | some x=> .inr (x,true)
   | none=> .inl ()):=by
  intro k
  induction k with
  | zero =>
   intro i hi
   obtain rfl:i=8:=by omega
   rw [cJ (r:= .inl ()) rfl]
   rfl
  | succ k ih =>
   intro i hi
   have hlt:i < bW.length:=by show i < 8; omega
   have hd:bW.drop i=bW[i]::bW.drop (i+1):=List.drop_eq_getElem_cons hlt
   rw [iter_eq,hd]
   simp only [dO _ i hlt,Option.bind_some,decide_eq_true (show (i:Int) < 8 by omega),cond_true]
   generalize bW[i]=x
   have hw:IntKind.i64.wrap ((i:Int)+1)=((i+1:Nat):Int):=by rw [w64 (by omega) (by omega)]; omega
   by_cases h1:x.first≤b
   ·by_cases h2:b≤x.last
    ·simp [h1,h2,D3,kO]
    ·have:=ih (i+1) (by omega)
     simp [h1,h2,D3,hw] at this ⊢
     exact this
   ·have:=ih (i+1) (by omega)
    simp [h1,D3,hw] at this ⊢
    exact this
 have:=key 8 0 rfl
 simp only [Int.natCast_zero] at this
 rw [this]
 unfold fnd
 rw [List.drop_zero]
 cases D3 bW b <;> rfl
theorem K5 {b:Int} (h0:0≤b) (h1:b < 256):Go.bits .and .i32 (IntKind.i32.wrap b) 63=b % 64:=by
 rw [D1 ⟨by omega,by omega⟩]
 exact m63 b h0 (by omega)
theorem L8 {b:Int} (h0:0≤b) (h1:b < 256):Go.bits .and .i32 (IntKind.i32.wrap b) ((63:Int).fdiv (2 ^ (min (1:Int).toNat 32)))=b % 32∧Go.bits .and .i32 (IntKind.i32.wrap b) ((63:Int).fdiv (2 ^ (min (2:Int).toNat 32)))=b % 16∧Go.bits .and .i32 (IntKind.i32.wrap b) ((63:Int).fdiv (2 ^ (min (3:Int).toNat 32)))=b % 8:=by
 rw [D1 ⟨by omega,by omega⟩]
 have g5:=bits_mask .i32 31 (by decide) wraps_i32 5 (by decide) b h0 (by omega)
 have g4:=bits_mask .i32 31 (by decide) wraps_i32 4 (by decide) b h0 (by omega)
 have g3:=bits_mask .i32 31 (by decide) wraps_i32 3 (by decide) b h0 (by omega)
 exact ⟨g5,g4,g3⟩
theorem L9 {r b:Int} (h0:0≤r) (h1:r < 1000000) (hb0:0≤b) (hb1:b < 64):Go.bits .or .i32 (IntKind.i32.wrap (r*2 ^ (min 6 32))) b=r*64+b:=by
 have e:(r*2 ^ (min 6 32):Int)=r*64:=rfl
 rw [e,D1 ⟨by omega,by omega⟩]
 exact bits_join .i32 31 (by decide) wraps_i32 6 (r*64) b (by omega) (by show r*64 % 64=0; omega) (by omega) hb0 (by omega) (by omega)
def d0:bU:=⟨0,0,0⟩
def xc (b:Int):Int:=if (jc b).1=1 then b % 32 else if (jc b).1=2 then b % 16 else b % 8
def u3 (b:Int):bU×List Int:=if b < 128 then (d0,[b]) else if (jc b).1=0 then (d0,[65533]) else (⟨b,xc b,(jc b).1⟩,[])
theorem z8 {b:Int} (h0:0≤b) (h1:b < 256):kJ b=some (u3 b):=by
 unfold kJ u3
 by_cases hb:b < 128
 ·rw [decide_eq_true hb,cond_true,if_pos hb,D1 ⟨by omega,by omega⟩]; rfl
 ·rw [decide_eq_false hb,cond_false,if_neg hb,z7,Option.bind_some]
  obtain ⟨f1,f2,f3,f4⟩:=z6 h0 h1
  rw [f1,f2]
  have hn:=tq b
  by_cases hz:(jc b).1=0
  ·rw [if_pos hz,hz]; rfl
  ·rw [if_neg hz,decide_eq_true hz]
   obtain ⟨a1,a2,a3⟩:=L8 h0 h1
   have hk: ∀ n:Int,n=1∨n=2∨n=3→(Option.bind (chk (shk n)) fun _=>some ((bU.mk b (Go.bits .and .i32 (IntKind.i32.wrap b) ((63:Int).fdiv (2 ^ (min n.toNat 32)))) n),([]:List Int)))=some (⟨b,if n=1 then b % 32 else if n=2 then b % 16 else b % 8,n⟩,[]):=by
    rintro n (rfl | rfl | rfl)
    ·rw [a1]; rfl
    ·rw [a2]; rfl
    ·rw [a3]; rfl
   exact hk _ (by omega)
def D4 (d:bU) (b:Int):Bool:=if d.iJ < (jc d.lead).1 then decide (128≤b∧b≤191) else decide ((jc d.lead).2.1≤b∧b≤(jc d.lead).2.2)
theorem Il {d:bU} (h0:0≤d.lead) (h1:d.lead < 256) (b:Int):gV d b=some (D4 d b):=by
 unfold gV D4
 rw [z7,Option.bind_some]
 obtain ⟨f1,f2,f3,f4⟩:=z6 h0 h1
 rw [f2,f3,f4]
 by_cases h:d.iJ < (jc d.lead).1
 ·rw [if_pos h,decide_eq_true h,cond_true]
  by_cases ha:128≤b <;> simp [ha]
 ·rw [if_neg h,decide_eq_false h,cond_false]
  by_cases ha:(jc d.lead).2.1≤b <;> simp [ha]
def rM (d:bU) (b:Int):bU×List Int:=if d.iJ≤0 then u3 b else if D4 d b then (if d.iJ=1 then (d0,[d.rune*64+b % 64]) else (⟨d.lead,d.rune*64+b % 64,d.iJ - 1⟩,[])) else ((u3 b).1,65533::(u3 b).2)
def DI (d:bU):Prop:=d=d0∨(0≤d.lead∧d.lead < 256∧1≤d.iJ∧d.iJ≤(jc d.lead).1∧0≤d.rune∧(d.iJ=3→d.rune < 8)∧(d.iJ=2→d.rune < 512)∧(d.iJ=1→d.rune < 32768))
theorem DI0:DI d0:= .inl rfl
theorem Io {b:Int} (h0:0≤b) (h1:b < 256):DI (u3 b).1∧(u3 b).2.length≤1∧Kb (u3 b).2:=by
 unfold u3
 have hn:=tq b
 split
 ·refine ⟨DI0,by simp,fun x hx=> ?_⟩
  rw [List.mem_singleton.1 hx]
  exact ⟨by omega,by omega⟩
 ·split
  ·refine ⟨DI0,by simp,fun x hx=> ?_⟩
   rw [List.mem_singleton.1 hx]
   exact ⟨by decide,by decide⟩
  ·rename_i hz
   refine ⟨.inr ⟨h0,h1,by dsimp only; omega,Int.le_refl _,?_,?_,?_,?_⟩,by simp,fun x hx=>by cases hx⟩
   all_goals (dsimp only; unfold xc; intros; split <;> (try split) <;> omega)
theorem wG {d:bU} (h:DI d) {b:Int} (h0:0≤b) (h1:b < 256):gW d b=some (rM d b)∧DI (rM d b).1∧(rM d b).2.length≤2∧Kb (rM d b).2:=by
 obtain ⟨k1,k2,k3⟩:=Io h0 h1
 unfold gW rM
 by_cases hd:d.iJ≤0
 ·rw [decide_eq_true hd,cond_true,z8 h0 h1,if_pos hd]
  exact ⟨rfl,k1,by omega,k3⟩
 ·rcases h with rfl | ⟨l0,l1,n1,n2,r0,r3,r2,r1⟩
  ·exact absurd (by decide) hd
  rw [decide_eq_false hd,cond_false,if_neg hd,Il l0 l1,Option.bind_some]
  have hn:=tq d.lead
  have hrb:d.rune < 32768:=by
   have:d.iJ=1∨d.iJ=2∨d.iJ=3:=by omega
   rcases this with h | h | h
   ·exact r1 h
   ·have:=r2 h; omega
   ·have:=r3 h; omega
  cases hf:D4 d b with
  | false =>
   simp only [Bool.not_false,cond_true,z8 h0 h1,Option.bind_some,Bool.false_eq_true,if_false]
   refine ⟨by rw [bR (by simp; omega)]; rfl,k1,by simp; omega,fun x hx=> ?_⟩
   rcases List.mem_cons.1 hx with rfl | hx
   ·exact ⟨by decide,by decide⟩
   ·exact k3 x hx
  | true =>
   have hor:Go.bits .or .i32 (IntKind.i32.wrap (d.rune*2 ^ (min 6 32))) (Go.bits .and .i32 (IntKind.i32.wrap b) 63)=d.rune*64+b % 64:=by
    rw [K5 h0 h1]
    exact L9 r0 (by omega) (by omega) (by omega)
   simp only [Bool.not_true,cond_false,if_true,hor]
   rw [w64 (x:=d.iJ - 1) (by omega) (by omega)]
   by_cases h1':d.iJ=1
   ·rw [if_pos h1',h1']
    refine ⟨rfl,DI0,by simp,fun x hx=> ?_⟩
    rw [List.mem_singleton.1 hx]
    have:=r1 h1'
    exact ⟨by omega,by omega⟩
   ·have he:(d.iJ - 1 == 0)=false:=by
     have: ¬ d.iJ - 1=0:=by omega
     simpa using this
    rw [if_neg h1',he,cond_false]
    refine ⟨rfl,.inr ⟨l0,l1,by dsimp only; omega,by dsimp only; omega,by dsimp only; omega,?_,?_,?_⟩,by simp,fun x hx=>by cases hx⟩
    ·dsimp only; intro e; omega
    ·dsimp only; intro e; have:=r3 (by omega); omega
    ·dsimp only; intro e; have:=r2 (by omega); omega
end Go.Tw.X
set_option linter.unusedVariables false
set_option linter.unusedSimpArgs false
set_option maxHeartbeats 1000000
namespace Go.Tw.X
open Go Go.Tw
theorem Gc {s:ByteArray} {i:Int} (h0:0≤i) (h1:i < s.size):okO (wX s i) (fun b=>(0≤b∧b < 256)∧(sbs s).drop i.toNat=b::(sbs s).drop (i.toNat+1)):=by
 have hl:i.toNat < (sbs s).length:=by rw [bL]; omega
 have e:=wc s i.toNat hl
 rw [Int.toNat_of_nonneg h0] at e
 exact ⟨_,e,kE s _ (List.getElem_mem hl),List.drop_eq_getElem_cons hl⟩
end Go.Tw.X
set_option linter.unusedVariables false
set_option linter.unusedSimpArgs false
set_option maxHeartbeats 1000000
namespace Go.Tw.X
open Go Go.Tw
def rN (p:aI) (a:bE):aI:=⟨p.state,p.order,p.text,p.cL,p.out++[a]⟩
def prA (r:Int):bE:=⟨1,r,0,false,[],ByteArray.mk #[]⟩
def nI (p:aI) (l:List Int):aI:=⟨p.state,p.order,p.text,p.cL,p.out++l.map prA⟩
def stP (p:aI) (s:Int):aI:=⟨s,p.order,p.text,p.cL,p.out⟩
def ctA (b:Int):bE:=⟨2,0,b,false,[],ByteArray.mk #[]⟩
def eN (p:aI) (b:Int):Bool×aI:=if b=24∨b=26 then (true,stP p 0) else if b=27 then (true,stP p 1) else if b < 32 then (true,rN p (ctA b)) else (b == 127,p)
def wH (d:bU):List Int:=if d.iJ≤0 then [] else [65533]
def lS (p:aI) (b:Int):aI:=if b < 32∨b=127 then (eN ⟨p.state,p.order,p.text,d0,p.out++(wH p.cL).map prA⟩ b).2 else nI ⟨p.state,p.order,p.text,(rM p.cL b).1,p.out⟩ (rM p.cL b).2
def o0:eS:=⟨false,false,false,false,0,[]⟩
def Ma (b:Int):bE:=⟨3,0,b,false,[],ByteArray.mk #[]⟩
def jQ (p:aI) (b:Int):aI :=
 if (eN p b).1 then (eN p b).2 else
 if b=91 then ⟨3,o0,p.text,p.cL,p.out⟩ else if b=93 then ⟨4,p.order,ByteArray.mk #[],p.cL,p.out⟩ else if b < 48 then stP p 2 else if b < 127 then stP (rN p (Ma b)) 0 else stP p 0
def pF (p:aI) (b:Int):aI:=if (eN p b).1 then (eN p b).2 else if 48≤b then stP p 0 else p
def uP (o:eS):eS:=⟨o.dN,o.l5,o.any,o.some,0,if o.bQ.length < 16 then o.bQ++[o.n] else o.bQ⟩
def cmA (o:eS) (b:Int):bE:=⟨4,0,b,o.dN,o.bQ,ByteArray.mk #[]⟩
def lT (p:aI) (b:Int):aI:=if p.order.l5 then stP p 0 else
 let o:=if p.order.some then uP p.order else p.order
 ⟨0,o,p.text,p.cL,p.out++[cmA o b]⟩
def Ip (o:eS):eS:=⟨o.dN,o.l5,true,o.some,o.n,o.bQ⟩
def oH (o:eS) (b:Int):eS :=
 if 48≤b∧b≤57 then ⟨o.dN,o.l5,true,true,fQ (10*o.n+(b - 48)) 9999,o.bQ⟩ else
 if b=59∨b=58 then ⟨o.dN,o.l5,true,true,0,(uP o).bQ⟩ else
 if b=63∧o.any=false then ⟨true,o.l5,true,o.some,o.n,o.bQ⟩ else
 ⟨o.dN,true,true,o.some,o.n,o.bQ⟩
def kF (p:aI) (b:Int):aI:=if (eN p b).1 then (eN p b).2 else
 if 64≤b∧b < 127 then lT ⟨p.state,Ip p.order,p.text,p.cL,p.out⟩ b else ⟨p.state,oH p.order b,p.text,p.cL,p.out⟩
theorem tr {p:aI} (h:p.out.length≤1000000) (a:bE):fG p a=some (rN p a):=by
 unfold fG
 rw [bR (by simp; omega)]
 rfl
theorem z9 {p:aI} (h:p.out.length≤1000000) (a:bE):ib p a=some (rN p a):=by
 unfold ib
 rw [bR (by simp; omega)]
 rfl
theorem okE {α:Type _} {x:Option α} {r:α} (h:okO x (fun y=>y=r)):x=some r:=by
 obtain ⟨y,e,rfl⟩:=h
 exact e
theorem Aa {p:aI} {l:List Int} (h:p.out.length+l.length≤1000000):gJ p l=some (nI p l):=by
 unfold gJ
 refine okE (jP (P:=fun y=>y=nI p l) ?_ fun r hr=>fC hr)
 refine qZ (fun z:aI×Int=>0≤z.2∧z.2≤l.length∧z.1=nI p (l.take z.2.toNat)) (fun z=>l.length - z.2.toNat) ⟨Int.le_refl 0,by dsimp only; omega,by simp [nI]⟩ ?_
 rintro ⟨q,i⟩ ⟨h0,h1,h2⟩
 dsimp only at h0 h1 h2 ⊢
 subst h2
 refine td (fun hi=> ?_) fun hi=>fC (by rw [List.take_of_length_le (by omega)])
 obtain ⟨k,rfl⟩: ∃ k:Nat,i=k:=⟨i.toNat,by omega⟩
 have hk:k < l.length:=by omega
 refine jP (P:=fun x=>x=l[k]) ⟨_,dO l k hk,rfl⟩ fun x hx=> ?_
 subst hx
 refine jP (P:=fun x=>x=nI p (l.take (k+1))) ?_ fun x hx=> ?_
 ·rw [tr (by simp [nI]; omega)]
  refine fC ?_
  simp only [nI,rN,Int.toNat_natCast,List.take_add_one,List.getElem?_eq_getElem hk,Option.toList_some,List.map_append,List.map_cons,List.map_nil,List.append_assoc,prA]
 ·subst hx
  rw [w64 (by omega) (by omega)]
  refine fC ⟨⟨by dsimp only; omega,by dsimp only; omega,?_⟩,by dsimp only; omega⟩
  dsimp only
  rw [show ((k:Int)+1).toNat=k+1 by omega]
theorem ri {p:aI} (h:p.out.length≤1000000) (b:Int):eP p b=some (eN p b):=by
 unfold eP eN
 by_cases h1:b=24
 ·subst h1; rfl
 ·by_cases h2:b=26
  ·subst h2; rfl
  ·by_cases h3:b=27
   ·subst h3; rfl
   ·have e1:(b == 24)=false:=by simpa using h1
    have e2:(b == 26)=false:=by simpa using h2
    have e3:(b == 27)=false:=by simpa using h3
    rw [if_neg (by omega),if_neg h3,e1,e2,e3]
    by_cases h4:b < 32
    ·rw [if_pos h4,decide_eq_true h4]
     simp only [cond_false,cond_true,Option.bind_some,tr h]
     rfl
    ·rw [if_neg h4,decide_eq_false h4]
     rfl
theorem D5 {p:aI} (h:p.out.length≤999990) (hd:DI p.cL) {b:Int} (h0:0≤b) (h1:b < 256):gD p b=some (lS p b):=by
 unfold gD lS
 have hl:(wH p.cL).length≤1:=by unfold wH; split <;> simp
 have he:iB p.cL=some (wH p.cL):=by
  unfold iB wH
  by_cases hn:p.cL.iJ≤0
  ·rw [decide_eq_true hn,if_pos hn]; rfl
  ·rw [decide_eq_false hn,if_neg hn]; rfl
 by_cases hb:b < 32∨b=127
 ·have e:((bif (decide (b < 32)) then some true else some (b == 127)):Option Bool)=some true:=by
   rcases hb with hb | hb
   ·rw [decide_eq_true hb]; rfl
   ·subst hb; rfl
  rw [if_pos hb,e,Option.bind_some,cond_true,he,Option.bind_some,Aa (by omega),Option.bind_some,ri (by simp [nI]; omega)]
  rfl
 ·have e:((bif (decide (b < 32)) then some true else some (b == 127)):Option Bool)=some false:=by
   rw [decide_eq_false (by omega),cond_false]
   have: ¬ b=127:=by omega
   simpa using this
  obtain ⟨n1,n2,n3,n4⟩:=wG hd h0 h1
  rw [if_neg hb,e,Option.bind_some,cond_false,n1,Option.bind_some,Aa (by dsimp only; omega)]
  rfl
theorem xJ {p:aI} (h:p.out.length≤999990) (b:Int):fJ p b=some (jQ p b):=by
 unfold fJ jQ
 rw [ri (by omega),Option.bind_some]
 cases hc:(eN p b).1 with
 | true=>rfl
 | false =>
  have hp:(eN p b).2=p:=by
   unfold eN at hc ⊢
   split
   ·rename_i hh; rw [if_pos hh] at hc; cases hc
   ·rename_i h1; rw [if_neg h1] at hc
    split
    ·rename_i hh; rw [if_pos hh] at hc; cases hc
    ·rename_i h2; rw [if_neg h2] at hc
     split
     ·rename_i hh; rw [if_pos hh] at hc; cases hc
     ·rfl
  rw [hp]
  simp only [cond_false,Bool.false_eq_true,if_false]
  by_cases h1:b=91
  ·subst h1; rfl
  ·have e1:(b == 91)=false:=by simpa using h1
   rw [if_neg h1,e1]
   by_cases h2:b=93
   ·subst h2; rfl
   ·have e2:(b == 93)=false:=by simpa using h2
    rw [if_neg h2,e2]
    by_cases h3:b < 48
    ·rw [if_pos h3,decide_eq_true h3]; rfl
    ·rw [if_neg h3,decide_eq_false h3]
     by_cases h4:b < 127
     ·rw [if_pos h4,decide_eq_true h4]
      simp only [cond_false,cond_true,tr (show p.out.length≤1000000 by omega),Option.bind_some]
      rfl
     ·rw [if_neg h4,decide_eq_false h4]; rfl
theorem uQ {p:aI} {b:Int} (hc:(eN p b).1=false):(eN p b).2=p:=by
 unfold eN at hc ⊢
 split
 ·rename_i hh; rw [if_pos hh] at hc; cases hc
 ·rename_i h1; rw [if_neg h1] at hc
  split
  ·rename_i hh; rw [if_pos hh] at hc; cases hc
  ·rename_i h2; rw [if_neg h2] at hc
   split
   ·rename_i hh; rw [if_pos hh] at hc; cases hc
   ·rfl
theorem Gd {p:aI} (h:p.out.length≤999990) (b:Int):iD p b=some (pF p b):=by
 unfold iD pF
 rw [ri (by omega),Option.bind_some]
 cases hc:(eN p b).1 with
 | true=>rfl
 | false =>
  rw [uQ hc]
  by_cases hb:48≤b
  ·simp [hb,stP]
  ·simp [hb]
theorem CG {p:aI} (h:p.order.bQ.length≤16):iZ p=some ⟨p.state,uP p.order,p.text,p.cL,p.out⟩:=by
 unfold iZ uP
 by_cases hl:p.order.bQ.length < 16
 ·rw [decide_eq_true (by omega),cond_true,bR (by simp; omega),if_pos hl]; rfl
 ·rw [decide_eq_false (by omega),cond_false,if_neg hl]; rfl
theorem D6 {p:aI} (h:p.out.length≤999990) (hn:p.order.bQ.length≤16) (b:Int):iE p b=some (lT p b):=by
 unfold iE lT
 cases hw:p.order.l5 with
 | true=>rfl
 | false =>
  simp only [cond_false,Bool.false_eq_true,if_false]
  cases hs:p.order.some with
  | true =>
   simp only [cond_true,if_true]
   rw [CG (by exact hn),Option.bind_some,Option.bind_some,z9 (by dsimp only; omega)]
   rfl
  | false =>
   simp only [cond_false,Bool.false_eq_true,if_false]
   rw [Option.bind_some,z9 (by dsimp only; omega)]
   rfl
theorem Bm {p:aI} (h:p.out.length≤999990) (h3:p.state=3) (hn:p.order.bQ.length≤16) (hN:0≤p.order.n∧p.order.n≤9999) {b:Int} (h0:0≤b) (h1:b < 256):gx p b=some (kF p b):=by
 unfold gx kF
 rw [ri (by omega),Option.bind_some]
 cases hc:(eN p b).1 with
 | true=>rfl
 | false =>
  rw [uQ hc]
  simp only [cond_false,Bool.false_eq_true,if_false]
  have hchk:chk (p.state == (3:Int))=some ():=by rw [h3]; rfl
  by_cases a1:48≤b∧b≤57
  ·have e:((bif (decide (b≥48)) then some (decide (b≤57)) else some false):Option Bool)=some true:=by rw [decide_eq_true a1.1,decide_eq_true a1.2]; rfl
   have w1:IntKind.u8.wrap (b - 48)=b - 48:=by simp [IntKind.wrap,IntKind.bits,IntKind.signed]; omega
   rw [e,Option.bind_some,cond_true,w1,w64 (x:=b - 48) (by omega) (by omega),w64 (x:=10*p.order.n) (by omega) (by omega),w64 (by omega) (by omega),if_neg (by omega)]
   unfold oH
   rw [if_pos a1]
  ·have e:((bif (decide (b≥48)) then some (decide (b≤57)) else some false):Option Bool)=some false:=by
    by_cases hh:48≤b
    ·rw [decide_eq_true hh,decide_eq_false (by omega)]; rfl
    ·rw [decide_eq_false hh]; rfl
   rw [e,Option.bind_some,cond_false]
   by_cases a2:b=59∨b=58
   ·have e2:((bif (b == 59) then some true else some (b == 58)):Option Bool)=some true:=by rcases a2 with rfl | rfl <;> rfl
    rw [e2,Option.bind_some,cond_true,hchk,Option.bind_some,CG (by exact hn),Option.bind_some,if_neg (by omega)]
    unfold oH
    rw [if_neg a1,if_pos a2]
    rfl
   ·have e2:((bif (b == 59) then some true else some (b == 58)):Option Bool)=some false:=by
     have x1:(b == 59)=false:=by simpa using (show ¬ b=59 by omega)
     have x2:(b == 58)=false:=by simpa using (show ¬ b=58 by omega)
     rw [x1,x2]; rfl
    rw [e2,Option.bind_some,cond_false]
    by_cases a3:b=63∧p.order.any=false
    ·have e3:((bif (b == 63) then some (!p.order.any) else some false):Option Bool)=some true:=by rw [a3.1,a3.2]; rfl
     rw [e3,Option.bind_some,cond_true,if_neg (by omega)]
     unfold oH
     rw [if_neg a1,if_neg a2,if_pos a3]
    ·have e3:((bif (b == 63) then some (!p.order.any) else some false):Option Bool)=some false:=by
      by_cases hh:b=63
      ·cases ha:p.order.any with
       | true=>rw [hh]; rfl
       | false=>exact absurd ⟨hh,ha⟩ a3
      ·have:(b == 63)=false:=by simpa using hh
       rw [this]; rfl
     rw [e3,Option.bind_some,cond_false]
     by_cases a4:64≤b∧b < 127
     ·have e4:((bif (decide (b≥64)) then some (decide (b < 127)) else some false):Option Bool)=some true:=by rw [decide_eq_true a4.1,decide_eq_true a4.2]; rfl
      rw [e4,Option.bind_some,cond_true,hchk,Option.bind_some,if_pos a4,D6 (by exact h) (by exact hn)]
      rfl
     ·have e4:((bif (decide (b≥64)) then some (decide (b < 127)) else some false):Option Bool)=some false:=by
       by_cases hh:64≤b
       ·rw [decide_eq_true hh,decide_eq_false (by omega)]; rfl
       ·rw [decide_eq_false hh]; rfl
      rw [e4,Option.bind_some,cond_false,if_neg a4]
      unfold oH
      rw [if_neg a1,if_neg a2,if_neg a3]
end Go.Tw.X
set_option linter.unusedVariables false
set_option linter.unusedSimpArgs false
set_option maxHeartbeats 1000000
namespace Go.Tw.X
open Go Go.Tw
def tiA (t:ByteArray):bE:=⟨5,0,0,false,[],lE t 2 t.size⟩
def ttl (t:ByteArray):List bE:=match sbs t with
 | x::y::_=>if (x=48∨x=50)∧y=59 then [tiA t] else []
 | _=>[]
theorem Iq (t:ByteArray):(ttl t).length≤1:=by
 unfold ttl
 split
 ·split <;> simp
 ·simp
def ni (p:aI):aI:=⟨0,p.order,p.text,p.cL,p.out++ttl p.text⟩
def isH (c:Int) (t:ByteArray):Bool:=decide ((sbs t).take 2=[c,59])
theorem Ge {c:Int} {t:ByteArray} (h:t.size < 2):isH c t=false:=by
 refine decide_eq_false fun e=> ?_
 have:=congrArg List.length e
 simp [bL] at this
 omega
theorem xK (t h:ByteArray) (c:Int) (hh:sbs h=[c,59]):iC t h=some (if isH c t then (lE t 2 t.size,true) else (t,false)):=by
 have hs:h.size=2:=by rw [← bL,hh]; rfl
 have hp:fY t h=some (isH c t):=by
  unfold fY
  rw [hs]
  by_cases h2:2≤t.size
  ·rw [decide_eq_true (show (t.size:Int)≥((2:Nat):Int) by omega),cond_true,bY (by decide) (by decide) (by omega),Option.bind_some,Option.bind_some,qS]
   congr 1
   unfold isH
   refine decide_eq_decide.2 ⟨fun e=> ?_,fun e=> ?_⟩
   ·have:=congrArg sbs e
    rw [show ((0:Int))=((0:Nat):Int) from rfl,k5,hh] at this
    simpa using this
   ·apply ve
    rw [show ((0:Int))=((0:Nat):Int) from rfl,k5,hh]
    simpa using e
  ·rw [decide_eq_false (show ¬ (t.size:Int)≥((2:Nat):Int) by omega),cond_false,Option.bind_some,Ge (by omega)]
 unfold iC iq
 rw [hp,Option.bind_some,hs]
 cases hi:isH c t with
 | false=>rfl
 | true =>
  have h2:2≤t.size:=by
   by_cases h2:2≤t.size
   ·exact h2
   ·rw [Ge (by omega)] at hi; cases hi
  simp only [Bool.not_true,cond_false,if_true]
  rw [bY (by omega) (by omega) (by omega)]
  rfl
theorem Gf (t:ByteArray):ttl t=(if isH 48 t then [tiA t] else [])++(if isH 50 t then [tiA t] else []):=by
 unfold ttl isH
 match h:sbs t with
 | []=>simp
 | [x]=>simp
 | x::y::r =>
  simp only [List.take_succ_cons,List.take_zero,List.cons.injEq,and_true,decide_eq_true_eq]
  by_cases hy:y=59
  ·by_cases h1:x=48
   ·subst h1; simp [hy]
   ·by_cases h2:x=50
    ·subst h2; simp [hy]
    ·simp [h1,h2]
  ·simp [hy]
theorem CH {p:aI} (h:p.out.length≤999990):ir p=some (ni p):=by
 unfold ir
 have c1:=xK p.text (ByteArray.mk #[48,59]) 48 rfl
 have c2:=xK p.text (ByteArray.mk #[50,59]) 50 rfl
 refine okE (jP (P:=fun y=>y=ni p) ?_ fun r hr=>fC hr)
 refine qZ (fun z:aI×Int=>z.2=0∧z.1=stP p 0∨z.2=1∧z.1=⟨0,p.order,p.text,p.cL,p.out++(if isH 48 p.text then [tiA p.text] else [])⟩∨z.2=2∧z.1=ni p) (fun z=>2 - z.2.toNat) (.inl ⟨rfl,rfl⟩) ?_
 rintro ⟨q,i⟩ (⟨h1,h2⟩ | ⟨h1,h2⟩ | ⟨h1,h2⟩)
 ·dsimp only at h1 h2
  subst h1 h2
  refine td (fun _=> ?_) fun hh=>absurd (show (0:Int) < 2 from by decide) hh
  refine jP (P:=fun y=>y=(⟨0,p.order,p.text,p.cL,p.out++(if isH 48 p.text then [tiA p.text] else [])⟩:aI)) ?_ fun y hy=> ?_
  ·refine jP (P:=fun x=>x=ByteArray.mk #[48,59]) ⟨_,rfl,rfl⟩ fun x hx=> ?_
   subst hx
   rw [show (stP p 0).text=p.text from rfl,c1]
   cases hi:isH 48 p.text with
   | true =>
    simp only [if_true,Option.bind_some,cond_true]
    rw [tr (by show p.out.length≤_; omega)]
    exact fC rfl
   | false =>
    simp only [Bool.false_eq_true,if_false,Option.bind_some,cond_false]
    exact fC (by simp [stP])
  ·subst hy
   exact fC ⟨.inr (.inl ⟨show IntKind.i64.wrap (0+1)=1 from by decide,rfl⟩),show 2 - (IntKind.i64.wrap (0+1)).toNat < 2 - (0:Int).toNat from by decide⟩
 ·dsimp only at h1 h2
  subst h1 h2
  refine td (fun _=> ?_) fun hh=>absurd (show (1:Int) < 2 from by decide) hh
  refine jP (P:=fun y=>y=ni p) ?_ fun y hy=> ?_
  ·refine jP (P:=fun x=>x=ByteArray.mk #[50,59]) ⟨_,rfl,rfl⟩ fun x hx=> ?_
   subst hx
   dsimp only
   rw [c2]
   have hl:((if isH 48 p.text then [tiA p.text] else []):List bE).length≤1:=by split <;> simp
   cases hi:isH 50 p.text with
   | true =>
    simp only [if_true,Option.bind_some,cond_true]
    rw [tr (by simp only [List.length_append]; omega)]
    refine fC ?_
    simp only [rN,ni,Gf,hi,if_true,List.append_assoc]
    rfl
   | false =>
    simp only [Bool.false_eq_true,if_false,Option.bind_some,cond_false]
    refine fC ?_
    simp only [ni,Gf,hi,Bool.false_eq_true,if_false,List.append_nil]
  ·subst hy
   exact fC ⟨.inr (.inr ⟨show IntKind.i64.wrap (1+1)=2 from by decide,rfl⟩),show 2 - (IntKind.i64.wrap (1+1)).toNat < 2 - (1:Int).toNat from by decide⟩
 ·dsimp only at h1 h2
  subst h1 h2
  exact td (fun hh=>absurd hh (show ¬ (2:Int) < 2 from by decide)) fun _=>fC rfl
def ng (p:aI) (b:Int):aI:=if b=7 then ni p else if b=24∨b=26 then stP p 0 else if b=27 then stP p 5 else if p.text.size < 200 then ⟨p.state,p.order,p.text++fR [b],p.cL,p.out⟩ else p
theorem Gg {p:aI} (h:p.out.length≤999990) (b:Int):ic p b=some (ng p b):=by
 unfold ic ng
 by_cases h1:b=7
 ·subst h1
  rw [if_pos rfl,CH h]
  rfl
 ·have e1:(b == 7)=false:=by simpa using h1
  rw [if_neg h1,e1,cond_false]
  by_cases h2:b=24∨b=26
  ·have e2:((bif (b == 24) then some true else some (b == 26)):Option Bool)=some true:=by rcases h2 with rfl | rfl <;> rfl
   rw [if_pos h2,e2]; rfl
  ·have e2:((bif (b == 24) then some true else some (b == 26)):Option Bool)=some false:=by
    have x1:(b == 24)=false:=by simpa using (show ¬ b=24 by omega)
    have x2:(b == 26)=false:=by simpa using (show ¬ b=26 by omega)
    rw [x1,x2]; rfl
   rw [if_neg h2,e2,Option.bind_some,cond_false]
   by_cases h3:b=27
   ·subst h3; rfl
   ·have e3:(b == 27)=false:=by simpa using h3
    rw [if_neg h3,e3,cond_false]
    by_cases h4:p.text.size < 200
    ·rw [if_pos h4,decide_eq_true (by omega),cond_true,DE (by rw [lu]; simp; omega)]; rfl
    ·rw [if_neg h4,decide_eq_false (by omega)]; rfl
def oI (p:aI) (b:Int):aI :=
 if p.state=0 then lS p b else if p.state=1 then jQ p b else if p.state=2 then pF p b else if p.state=3 then kF p b else if p.state=4 then ng p b else if b=92 then ni p else jQ (stP p 1) b
structure PI (p:aI):Prop where
 di:DI p.cL
 gr:p.state≠0→p.cL=d0
 nu:p.order.bQ.length≤16
 n0:0≤p.order.n
 n1:p.order.n≤9999
 tx:p.text.size≤200
theorem Ir {p:aI} (hp:PI p) (h:p.out.length≤999990) {b:Int} (h0:0≤b) (h1:b < 256):jX p b=some (oI p b):=by
 unfold jX oI
 by_cases s0:p.state=0
 ·rw [if_pos s0,s0,D5 h hp.di h0 h1]; rfl
 ·have e0:(p.state == 0)=false:=by simpa using s0
  rw [if_neg s0,e0,cond_false]
  by_cases s1:p.state=1
  ·rw [if_pos s1,s1,xJ h]; rfl
  ·have e1:(p.state == 1)=false:=by simpa using s1
   rw [if_neg s1,e1,cond_false]
   by_cases s2:p.state=2
   ·rw [if_pos s2,s2,Gd h]; rfl
   ·have e2:(p.state == 2)=false:=by simpa using s2
    rw [if_neg s2,e2,cond_false]
    by_cases s3:p.state=3
    ·have e3:(p.state == 3)=true:=by simpa using s3
     rw [if_pos s3,e3,cond_true,Bm h s3 hp.nu ⟨hp.n0,hp.n1⟩ h0 h1]; rfl
    ·have e3:(p.state == 3)=false:=by simpa using s3
     rw [if_neg s3,e3,cond_false]
     by_cases s4:p.state=4
     ·rw [if_pos s4,s4,Gg h]; rfl
     ·have e4:(p.state == 4)=false:=by simpa using s4
      rw [if_neg s4,e4,cond_false]
      by_cases hb:b=92
      ·subst hb
       rw [if_pos rfl,CH h]; rfl
      ·have e5:(b == 92)=false:=by simpa using hb
       rw [if_neg hb,e5,cond_false,show aI.mk 1 p.order p.text p.cL p.out=stP p 1 from rfl,xJ (by exact h)]; rfl
end Go.Tw.X
set_option linter.unusedVariables false
set_option linter.unusedSimpArgs false
set_option maxHeartbeats 1000000
namespace Go.Tw.X
open Go Go.Tw
def clr (p:aI):aI:=⟨p.state,p.order,p.text,p.cL,[]⟩
def mO (l:List bE) (q:aI):aI:=⟨q.state,q.order,q.text,q.cL,l++q.out⟩
theorem nJ (p:aI) (b:Int):eN p b=((eN (clr p) b).1,mO p.out (eN (clr p) b).2):=by
 unfold eN
 repeat' split
 all_goals simp [mO,clr,stP,rN]
theorem Bn (p:aI) (b:Int):lT p b=mO p.out (lT (clr p) b):=by
 unfold lT
 rw [show (clr p).order=p.order from rfl]
 split
 all_goals simp [mO,clr,stP]
theorem Bo (p:aI) (b:Int):lS p b=mO p.out (lS (clr p) b):=by
 unfold lS
 split
 ·rw [nJ]
  rw [nJ (aI.mk (clr p).state (clr p).order (clr p).text d0 ((clr p).out++(wH (clr p).cL).map prA))]
  simp [mO,clr]
 ·simp [mO,clr,nI]
theorem wI (p:aI) (b:Int):jQ p b=mO p.out (jQ (clr p) b):=by
 unfold jQ
 rw [nJ p b]
 dsimp only
 split
 ·rfl
 ·repeat' split
  all_goals simp [mO,clr,stP,rN]
theorem Gh (p:aI) (b:Int):pF p b=mO p.out (pF (clr p) b):=by
 unfold pF
 rw [nJ p b]
 dsimp only
 split
 ·rfl
 ·split
  all_goals simp [mO,clr,stP]
theorem Ab (p:aI) (b:Int):kF p b=mO p.out (kF (clr p) b):=by
 unfold kF
 rw [nJ p b]
 dsimp only
 split
 ·rfl
 ·split
  ·exact Bn _ b
  ·simp [mO,clr]
theorem Ad (p:aI):ni p=mO p.out (ni (clr p)):=by simp [ni,mO,clr]
theorem D7 (p:aI) (b:Int):ng p b=mO p.out (ng (clr p) b):=by
 unfold ng
 rw [show (clr p).text=p.text from rfl]
 split
 ·exact Ad p
 ·repeat' split
  all_goals simp [mO,clr,stP]
theorem one_add (p:aI) (b:Int):oI p b=mO p.out (oI (clr p) b):=by
 unfold oI
 rw [show (clr p).state=p.state from rfl]
 split
 ·exact Bo p b
 ·split
  ·exact wI p b
  ·split
   ·exact Gh p b
   ·split
    ·exact Ab p b
    ·split
     ·exact D7 p b
     ·split
      ·exact Ad p
      ·exact wI (stP p 1) b
def prun (p:aI) (bs:List Int):aI:=bs.foldl oI p
theorem Gi (a b:List bE) (q:aI):mO a (mO b q)=mO (a++b) q:=by simp [mO]
theorem Gj (a:List bE) (q:aI):clr (mO a q)=clr q:=rfl
theorem Gk (q:aI):mO q.out (clr q)=q:=by simp [mO,clr]
theorem wJ: ∀ (bs:List Int) (p:aI),prun p bs=mO p.out (prun (clr p) bs)
 | [],p=>(Gk p).symm
 | b::bs,p=>by
  show prun (oI p b) bs=mO p.out (prun (oI (clr p) b) bs)
  rw [wJ bs (oI p b),wJ bs (oI (clr p) b),one_add p b,Gi,Gj]
  rfl
theorem Ae (p:aI) (a b:List Int):prun p (a++b)=prun (prun p a) b:=List.foldl_append ..
theorem rj {p:aI} (h:PI p) (hr:p.cL=d0) (b:Int):PI (eN p b).2∧(eN p b).2.out.length≤p.out.length+1:=by
 unfold eN
 split
 ·exact ⟨⟨h.di,fun _=>hr,h.nu,h.n0,h.n1,h.tx⟩,Nat.le_succ _⟩
 ·split
  ·exact ⟨⟨h.di,fun _=>hr,h.nu,h.n0,h.n1,h.tx⟩,Nat.le_succ _⟩
  ·split
   ·exact ⟨⟨h.di,fun _=>hr,h.nu,h.n0,h.n1,h.tx⟩,by simp [rN]⟩
   ·exact ⟨h,Nat.le_succ _⟩
theorem D8 {p:aI} (h:PI p) (hs:p.state=0) {b:Int} (h0:0≤b) (h1:b < 256):PI (lS p b)∧(lS p b).out.length≤p.out.length+2:=by
 unfold lS
 have hl:(wH p.cL).length≤1:=by unfold wH; split <;> simp
 split
 ·have:=rj (p:=⟨p.state,p.order,p.text,d0,p.out++(wH p.cL).map prA⟩) ⟨DI0,fun _=>rfl,h.nu,h.n0,h.n1,h.tx⟩ rfl b
  refine ⟨this.1,Nat.le_trans this.2 ?_⟩
  simp
  omega
 ·obtain ⟨n1,n2,n3,n4⟩:=wG h.di h0 h1
  exact ⟨⟨n2,fun hh=>absurd hs hh,h.nu,h.n0,h.n1,h.tx⟩,by simp [nI]; omega⟩
theorem xL {p:aI} (h:PI p) (hr:p.cL=d0) (b:Int):PI (jQ p b)∧(jQ p b).out.length≤p.out.length+1:=by
 unfold jQ
 split
 ·exact rj h hr b
 ·split
  ·exact ⟨⟨h.di,fun _=>hr,by simp [o0],by simp [o0],by simp [o0],h.tx⟩,Nat.le_succ _⟩
  ·split
   ·exact ⟨⟨h.di,fun _=>hr,h.nu,h.n0,h.n1,by simp [ByteArray.size]⟩,Nat.le_succ _⟩
   ·split
    ·exact ⟨⟨h.di,fun _=>hr,h.nu,h.n0,h.n1,h.tx⟩,Nat.le_succ _⟩
    ·split
     ·exact ⟨⟨h.di,fun _=>hr,h.nu,h.n0,h.n1,h.tx⟩,by simp [rN,stP]⟩
     ·exact ⟨⟨h.di,fun _=>hr,h.nu,h.n0,h.n1,h.tx⟩,Nat.le_succ _⟩
theorem Is {p:aI} (h:PI p) (hr:p.cL=d0) (b:Int):PI (pF p b)∧(pF p b).out.length≤p.out.length+1:=by
 unfold pF
 split
 ·exact rj h hr b
 ·split
  ·exact ⟨⟨h.di,fun _=>hr,h.nu,h.n0,h.n1,h.tx⟩,Nat.le_succ _⟩
  ·exact ⟨h,Nat.le_succ _⟩
theorem um {o:eS} (h:o.bQ.length≤16):(uP o).bQ.length≤16:=by
 unfold uP
 dsimp only
 split
 ·simp; omega
 ·exact h
theorem D9 {p:aI} (h:PI p) (hr:p.cL=d0) (b:Int):PI (lT p b)∧(lT p b).out.length≤p.out.length+1:=by
 unfold lT
 cases p.order.l5 with
 | true=>exact ⟨⟨h.di,fun _=>hr,h.nu,h.n0,h.n1,h.tx⟩,Nat.le_succ _⟩
 | false =>
  cases p.order.some with
  | true=>exact ⟨⟨h.di,fun _=>hr,um h.nu,Int.le_refl 0,show (0:Int)≤9999 from by decide,h.tx⟩,by simp⟩
  | false=>exact ⟨⟨h.di,fun _=>hr,h.nu,h.n0,h.n1,h.tx⟩,by simp⟩
theorem Bp {p:aI} (h:PI p) (hr:p.cL=d0) {b:Int} (h0:0≤b):PI (kF p b)∧(kF p b).out.length≤p.out.length+1:=by
 unfold kF
 split
 ·exact rj h hr b
 ·split
  ·exact D9 (p:=⟨p.state,Ip p.order,p.text,p.cL,p.out⟩) ⟨h.di,fun _=>hr,h.nu,h.n0,h.n1,h.tx⟩ hr b
  ·refine ⟨⟨h.di,fun _=>hr,?_,?_,?_,h.tx⟩,Nat.le_succ _⟩
   all_goals (dsimp only; unfold oH; split)
   ·exact h.nu
   ·split
    ·exact um h.nu
    ·split <;> exact h.nu
   ·rename_i hh
    have:=h.n0
    unfold fQ
    dsimp only
    split <;> omega
   ·split
    ·exact Int.le_refl 0
    ·split <;> exact h.n0
   ·rename_i hh
    unfold fQ
    dsimp only
    split <;> omega
   ·split
    ·show (0:Int)≤9999; decide
    ·split <;> exact h.n1
theorem CI {p:aI} (h:PI p) (hr:p.cL=d0):PI (ni p)∧(ni p).out.length≤p.out.length+1:=⟨⟨h.di,fun _=>hr,h.nu,h.n0,h.n1,h.tx⟩,by have:=Iq p.text; simp [ni]; omega⟩
theorem Gl {p:aI} (h:PI p) (hr:p.cL=d0) (b:Int):PI (ng p b)∧(ng p b).out.length≤p.out.length+1:=by
 unfold ng
 split
 ·exact CI h hr
 ·split
  ·exact ⟨⟨h.di,fun _=>hr,h.nu,h.n0,h.n1,h.tx⟩,Nat.le_succ _⟩
  ·split
   ·exact ⟨⟨h.di,fun _=>hr,h.nu,h.n0,h.n1,h.tx⟩,Nat.le_succ _⟩
   ·split
    ·rename_i ht
     refine ⟨⟨h.di,fun _=>hr,h.nu,h.n0,h.n1,?_⟩,Nat.le_succ _⟩
     dsimp only
     have e:(p.text++fR [b]).size=p.text.size+1:=by rw [← bL,sn,List.length_append,bL,bL,lu]; rfl
     omega
    ·exact ⟨h,Nat.le_succ _⟩
theorem Bq {p:aI} (h:PI p) {b:Int} (h0:0≤b) (h1:b < 256):PI (oI p b)∧(oI p b).out.length≤p.out.length+2:=by
 unfold oI
 split
 ·rename_i hs; exact D8 h hs h0 h1
 ·rename_i hs
  have hr:=h.gr hs
  have up: ∀ q:aI,PI q∧q.out.length≤p.out.length+1→PI q∧q.out.length≤p.out.length+2:=fun q hq=>⟨hq.1,by omega⟩
  split
  ·exact up _ (xL h hr b)
  ·split
   ·exact up _ (Is h hr b)
   ·split
    ·exact up _ (Bp h hr h0)
    ·split
     ·exact up _ (Gl h hr b)
     ·split
      ·exact up _ (CI h hr)
      ·exact up _ (xL (p:=stP p 1) ⟨h.di,fun _=>hr,h.nu,h.n0,h.n1,h.tx⟩ hr b)
theorem rk: ∀ (bs:List Int) {p:aI},PI p→(∀ b∈bs,0≤b∧b < 256)→PI (prun p bs)∧(prun p bs).out.length≤p.out.length+2*bs.length
 | [],p,h,_=>⟨h,by simp [prun]⟩
 | b::bs,p,h,hb=>by
  obtain ⟨b0,b1⟩:=hb b List.mem_cons_self
  obtain ⟨k1,k2⟩:=Bq h b0 b1
  obtain ⟨k3,k4⟩:=rk bs k1 fun x hx=>hb x (List.mem_cons_of_mem _ hx)
  exact ⟨k3,by show (prun (oI p b) bs).out.length≤_; simp; omega⟩
theorem Iu {p:aI} (h:PI p) {s:ByteArray} (hs:s.size≤400000):jv p s=some ((prun (clr p) (sbs s)).out,clr (prun (clr p) (sbs s))):=by
 unfold jv
 have hc:PI (clr p):=⟨h.di,h.gr,h.nu,h.n0,h.n1,h.tx⟩
 refine okE (jP (P:=fun y=>y=prun (clr p) (sbs s)) ?_ fun r hr=>by subst hr; exact fC rfl)
 refine qZ (fun z:aI×Int=>0≤z.2∧z.2≤s.size∧z.1=prun (clr p) ((sbs s).take z.2.toNat)) (fun z=>s.size - z.2.toNat) ⟨Int.le_refl 0,by dsimp only; omega,rfl⟩ ?_
 rintro ⟨q,i⟩ ⟨h0,h1,h2⟩
 dsimp only at h0 h1 h2 ⊢
 subst h2
 have hby: ∀ b∈(sbs s).take i.toNat,0≤b∧b < 256:=fun b hb=>kE s b (List.mem_of_mem_take hb)
 obtain ⟨k1,k2⟩:=rk _ hc hby
 refine td (fun hi=> ?_) fun hi=>fC (by rw [List.take_of_length_le (by rw [bL]; omega)])
 refine jP (Gc h0 hi) fun b hb=> ?_
 obtain ⟨⟨b0,b1⟩,hbd⟩:=hb
 have hlen:((sbs s).take i.toNat).length=i.toNat:=by rw [List.length_take,bL]; omega
 have hco:(clr p).out.length=0:=rfl
 rw [Ir k1 (by omega) b0 b1,w64 (by omega) (by omega)]
 refine fC ⟨⟨by dsimp only; omega,by dsimp only; omega,?_⟩,by dsimp only; omega⟩
 dsimp only
 have ht:(sbs s).take (i+1).toNat=(sbs s).take i.toNat++[b]:=by
  rw [show (i+1).toNat=i.toNat+1 by omega,List.take_add_one]
  congr 1
  have:=congrArg (fun l=>l[0]?) hbd
  simp only [List.getElem?_drop,Nat.add_zero,List.getElem?_cons_zero] at this
  rw [this]
  rfl
 rw [ht,Ae]
 rfl
end Go.Tw.X
set_option linter.unusedVariables false
set_option linter.unusedSimpArgs false
set_option maxHeartbeats 1000000
namespace Go.Tw.X
open Go Go.Tw
def tA (a:bE):kh:=⟨a.kind,a.rune,a.byte,a.dN,a.bQ,a.text⟩
def Gm (o:eS):eS:=if o.some then uP o else o
def Br (o:eS) (b:Int):List bE:=if o.l5 then [] else [cmA (Gm o) b]
theorem xM (p:aI) (b:Int):(lT p b).out=p.out++Br p.order b:=by
 unfold lT Br Gm
 cases p.order.l5 <;> simp [stP]
end Go.Tw.X
set_option linter.unusedVariables false
set_option linter.unusedSimpArgs false
set_option maxHeartbeats 2000000
namespace Go.Tw.X
open Go Go.Tw
def p0:aI:=⟨0,o0,ByteArray.mk #[],d0,[]⟩
theorem Je:PI p0:=⟨DI0,fun h=>absurd rfl h,by simp [p0,o0],by simp [p0,o0],by simp [p0,o0],by simp [p0,ByteArray.size]⟩
theorem Af (o:eS) (b:Int):Br (Ip o) b=Br o b:=by
 unfold Br Gm Ip uP
 cases o.some <;> rfl
end Go.Tw.X
set_option linter.unusedVariables false
set_option linter.unusedSimpArgs false
set_option maxHeartbeats 1000000
namespace Go.Tw.X
open Go Go.Tw
def aOk (a:bE):Prop:=rok a.rune∧0≤a.byte∧a.byte < 256∧a.bQ.length≤16
def qn (l:List bE):Prop:= ∀ a∈l,aOk a
theorem oJ {a b:List bE} (ha:qn a) (hb:qn b):qn (a++b):=fun x h=>(List.mem_append.1 h).elim (ha x) (hb x)
theorem tt {a:bE} (h:aOk a):qn [a]:=fun x hx=>by rw [List.mem_singleton.1 hx]; exact h
theorem CJ {l:List Int} (h:Kb l):qn (l.map prA):=fun x hx=>by
 obtain ⟨r,hr,rfl⟩:=List.mem_map.1 hx
 exact ⟨h r hr,by show (0:Int)≤0; decide,by show (0:Int) < 256; decide,by show 0≤16; decide⟩
theorem Gn (t:ByteArray):qn (ttl t):=by
 have hz:rok 0:=⟨by decide,by decide⟩
 unfold ttl
 split
 ·split
  ·exact tt ⟨hz,by show (0:Int)≤0; decide,by show (0:Int) < 256; decide,by show 0≤16; decide⟩
  ·exact fun x hx=>by cases hx
 ·exact fun x hx=>by cases hx
theorem rm {p:aI} (h:qn p.out) {b:Int} (h0:0≤b) (h1:b < 256):qn (eN p b).2.out:=by
 have hz:rok 0:=⟨by decide,by decide⟩
 unfold eN
 split
 ·exact h
 ·split
  ·exact h
  ·split
   ·exact oJ h (tt ⟨hz,h0,h1,by show 0≤16; decide⟩)
   ·exact h
theorem Kf {p:aI} (hp:PI p) (h:qn p.out) {b:Int} (h0:0≤b) (h1:b < 256):qn (oI p b).out:=by
 have hz:rok 0:=⟨by decide,by decide⟩
 have hesc: ∀ q:aI,qn q.out→qn (jQ q b).out:=fun q hq=>by
  unfold jQ
  split
  ·exact rm hq h0 h1
  ·repeat' split
   all_goals first | exact hq | exact oJ hq (tt ⟨hz,h0,h1,by show 0≤16; decide⟩)
 have hov: ∀ q:aI,qn q.out→qn (ni q).out:=fun q hq=>oJ hq (Gn _)
 unfold oI
 split
 ·unfold lS
  split
  ·refine rm (oJ h (CJ fun x hx=> ?_)) h0 h1
   unfold wH at hx
   split at hx
   ·cases hx
   ·rw [List.mem_singleton.1 hx]; exact ⟨by decide,by decide⟩
  ·exact oJ h (CJ (wG hp.di h0 h1).2.2.2)
 ·split
  ·exact hesc p h
  ·split
   ·unfold pF
    split
    ·exact rm h h0 h1
    ·split <;> exact h
   ·split
    ·unfold kF
     split
     ·exact rm h h0 h1
     ·split
      ·rw [xM,Af]
       refine oJ h ?_
       unfold Br
       split
       ·exact fun x hx=>by cases hx
       ·refine tt ⟨hz,h0,h1,?_⟩
        show (Gm p.order).bQ.length≤16
        unfold Gm
        split
        ·exact um hp.nu
        ·exact hp.nu
      ·exact h
    ·split
     ·unfold ng
      repeat' split
      all_goals first | exact h | exact hov p h
     ·split
      ·exact hov p h
      ·exact hesc (stP p 1) h
theorem yD: ∀ (bs:List Int) {p:aI},PI p→qn p.out→(∀ b∈bs,0≤b∧b < 256)→qn (prun p bs).out
 | [],p,_,h,_=>h
 | b::bs,p,hp,h,hb=>by
  obtain ⟨b0,b1⟩:=hb b List.mem_cons_self
  exact yD bs (Bq hp b0 b1).1 (Kf hp h b0 b1) fun x hx=>hb x (List.mem_cons_of_mem _ hx)
theorem Kg {a:bE} (h:aOk a):sH (tA a)=a∧okA (tA a):=by
 obtain ⟨h1,h2,h3,h4⟩:=h
 refine ⟨?_,h1,h2,h3,by show a.bQ.length≤18; omega⟩
 have w8:IntKind.u8.wrap a.byte=a.byte:=by simp [IntKind.wrap,IntKind.bits,IntKind.signed]; omega
 unfold sH tA
 simp only [D1 h1,w8]
end Go.Tw.X
set_option linter.unusedVariables false
set_option linter.unusedSimpArgs false
set_option maxHeartbeats 1000000
namespace Go.Tw.X
open Go Go.Tw
theorem uo: ∀ (n:Nat) (l:List aG),∀ x∈pD n l,x∈l
 | 0,l,x,h=>h
 | n+1,l,x,h=>by
  unfold pD at h
  split at h
  ·exact List.dropLast_subset l (uo n _ x h)
  ·exact h
theorem Gp {r:aE} {g:aN} (h:g∈nF r): ∃ c∈r.cells,g.rune=c.rune:=by
 unfold nF sg at h
 obtain ⟨c,hc,rfl⟩:=List.mem_map.1 h
 have hc2:=(List.mem_filter.1 hc).1
 split at hc2
 ·exact ⟨c,hc2,rfl⟩
 ·exact ⟨c,uo _ _ c hc2,rfl⟩
def jN (W:Nat) (y:aB×(List (List aN)×List aN)) (a:bE):aB×(List (List aN)×List aN):=(acS W y.1 a,(acF W y.1 a).foldl ug y.2)
theorem Ag {W:Nat} {r:aE} (h:gok W r) (hW:W≤1000):zL r:=⟨by rw [h.1]; exact hW,fun g hg=>by
 obtain ⟨c,hc,e⟩:=Gp hg
 rw [e]
 exact h.2 c hc⟩
end Go.Tw.X
set_option linter.unusedVariables false
set_option linter.unusedSimpArgs false
set_option maxHeartbeats 1000000
namespace Go.Tw.X
open Go Go.Tw
theorem Gq {W k:Nat} {y:aB×(List (List aN)×List aN)} (hs:SI W y.1) (hz:ZI k y.2) {a:bE} (ha:aOk a):SI W (jN W y a).1∧ZI (k+4000) (jN W y a).2:=by
 have ho:=Bl hs.toSJ a
 have hW:=hs.gi.w2
 have h2:=uh (acF W y.1 a) hz fun r hr=>Ag (ho.2 r hr) hW
 refine ⟨Jd hs a ha.1,?_⟩
 have h3:=ho.1
 exact ⟨by have:=h2.n; show ((acF W y.1 a).foldl ug y.2).1.length≤_; omega,h2.b,h2.g,h2.ls⟩
theorem uq {W:Nat}: ∀ (l:List bE) {k:Nat} {y:aB×(List (List aN)×List aN)},SI W y.1→ZI k y.2→qn l→SI W (l.foldl (jN W) y).1∧ZI (k+4000*l.length) (l.foldl (jN W) y).2
 | [],k,y,hs,hz,_=>⟨hs,hz⟩
 | a::l,k,y,hs,hz,h=>by
  obtain ⟨h1,h2⟩:=Gq hs hz (h a List.mem_cons_self)
  have:=uq l (k:=k+4000) h1 h2 fun x hx=>h x (List.mem_cons_of_mem _ hx)
  rw [show k+4000*(a::l).length=k+4000+4000*l.length by simp; omega]
  exact this
theorem Kh {W:Nat} {s:aB} (h:SI W s) {a:bE} (ha:aOk a):fT s a=some (acF W s a,acS W s a):=by
 obtain ⟨e,ho⟩:=Kg ha
 have:=(Ik h ho).2.2.1
 rw [e] at this
 exact this
theorem Iv {W k:Nat} {m:bK} {z:List (List aN)×List aN} (hs:SI W m.bB) (hz:ZI k z) (hp:PI m.parser) {t:ByteArray} (ht:t.size≤1000) (hk:k≤50000000) :
  iI (fun a c=>(Option.bind (iA a c) fun d=>some (d.2,true))) (fX z) m t=some (fX ((prun (clr m.parser) (sbs t)).out.foldl (jN W) (m.bB,z)).2,⟨m.book,clr (prun (clr m.parser) (sbs t)),((prun (clr m.parser) (sbs t)).out.foldl (jN W) (m.bB,z)).1,m.k⟩):=by
 unfold iI
 rw [Iu hp (by omega),Option.bind_some]
 have hc:PI (clr m.parser):=⟨hp.di,hp.gr,hp.nu,hp.n0,hp.n1,hp.tx⟩
 have hpr:=rk (sbs t) hc (kE t)
 have has:=yD (sbs t) hc (fun x hx=>by cases hx) (kE t)
 have hlen:=hpr.2
 rw [bL] at hlen
 have hc0:(clr m.parser).out.length=0:=rfl
 generalize prun (clr m.parser) (sbs t)=q at hpr has hlen
 dsimp only
 refine okE (jP (P:=fun | .inl y=>y=(((q.out.foldl (jN W) (m.bB,z)).1,fX (q.out.foldl (jN W) (m.bB,z)).2):aB×cG) | .inr _=>False) ?_ ?_)
 ·refine qZ (fun y:aB×Int×cG=>0≤y.2.1∧y.2.1≤q.out.length∧y.1=((q.out.take y.2.1.toNat).foldl (jN W) (m.bB,z)).1∧y.2.2=fX ((q.out.take y.2.1.toNat).foldl (jN W) (m.bB,z)).2) (fun y=>q.out.length - y.2.1.toNat) ⟨Int.le_refl 0,by dsimp only; omega,rfl,rfl⟩ ?_
  rintro ⟨s,i,b⟩ ⟨h0,h1,h2,h3⟩
  dsimp only at h0 h1 h2 h3 ⊢
  subst h2 h3
  refine td (fun hi=> ?_) fun hi=> ?_
  ·obtain ⟨j,rfl⟩: ∃ j:Nat,i=j:=⟨i.toNat,by omega⟩
   have hj:j < q.out.length:=by omega
   rw [show ((j:Int)).toNat=j from rfl]
   have hst:=uq (W:=W) (q.out.take j) (k:=k) (y:=(m.bB,z)) hs hz fun x hx=>has x (List.mem_of_mem_take hx)
   rw [List.length_take] at hst
   have ha:=has q.out[j] (List.getElem_mem hj)
   have hnext:(q.out.take (j+1)).foldl (jN W) (m.bB,z)=jN W ((q.out.take j).foldl (jN W) (m.bB,z)) q.out[j]:=by
    rw [List.take_add_one,List.getElem?_eq_getElem hj,Option.toList_some,List.foldl_append]
    rfl
   generalize (q.out.take j).foldl (jN W) (m.bB,z)=y at hst hnext
   have ho:=Bl hst.1.toSJ q.out[j]
   have hW:=hst.1.gi.w2
   have hol:=ho.1
   rw [dO _ j hj,Option.bind_some,Kh hst.1 ha,Option.bind_some]
   obtain ⟨r,hr1,hr2⟩:=add_eq hst.2 (rows:=acF W y.1 q.out[j]) (fun r hr=>Ag (ho.2 r hr) hW) (by omega)
   rw [hr1]
   simp only [Option.bind_some,Bool.not_true,cond_false]
   rw [w64 (by omega) (by omega)]
   refine fC ⟨⟨by dsimp only; omega,by dsimp only; omega,?_,?_⟩,by dsimp only; omega⟩
   ·dsimp only
    rw [show ((j:Int)+1).toNat=j+1 by omega,hnext]
    rfl
   ·dsimp only
    rw [show ((j:Int)+1).toNat=j+1 by omega,hnext,hr2]
    rfl
  ·refine fC ?_
   rw [List.take_of_length_le (by omega)]
 ·rintro (y | y) h
  ·subst h
   exact fC rfl
  ·exact h.elim
end Go.Tw.X
set_option linter.unusedVariables false
set_option linter.unusedSimpArgs false
set_option maxHeartbeats 1000000
namespace Go.Tw.X
open Go Go.Tw
theorem news (a t:ByteArray):(prun p0 (sbs (a++t))).out=(prun p0 (sbs a)).out++(prun (clr (prun p0 (sbs a))) (sbs t)).out∧clr (prun p0 (sbs (a++t)))=clr (prun (clr (prun p0 (sbs a))) (sbs t)):=by
 rw [sn,Ae,wJ (sbs t) (prun p0 (sbs a))]
 exact ⟨rfl,rfl⟩
end Go.Tw.X
set_option linter.unusedVariables false
set_option linter.unusedSimpArgs false
set_option maxHeartbeats 1000000
namespace Go.Tw.X
open Go Go.Tw
def ru (x:Int):Prop:=0≤x∧x≤1114111
def rus (l:List Int):Prop:= ∀ x∈l,ru x
structure D2 (d:bU):Prop where
 r0:0≤d.rune
 r3:d.iJ=3→d.rune≤4∧(d.rune=4→d.lead=244)
 r2:d.iJ=2→d.rune≤271
 r1:d.iJ=1→d.rune≤17407
theorem D20:D2 d0:=⟨by decide,by decide,by decide,by decide⟩
theorem Bs {x:Int} (h:ru x):rus [x]:=fun y hy=>by rw [List.mem_singleton.1 hy]; exact h
theorem Bt:ru 65533:=⟨by decide,by decide⟩
theorem Ki {b:Int} (h0:0≤b) (h1:b < 256):0≤xc b∧((jc b).1=3→xc b≤4∧(xc b=4→b=244))∧((jc b).1=2→xc b≤15)∧((jc b).1=1→xc b≤31):=by
 unfold xc jc
 repeat' split
 all_goals simp_all
 all_goals omega
theorem K6 {b:Int} (h0:0≤b) (h1:b < 256):D2 (u3 b).1∧rus (u3 b).2:=by
 unfold u3
 obtain ⟨l0,l3,l2,l1⟩:=Ki h0 h1
 split
 ·exact ⟨D20,Bs ⟨h0,by omega⟩⟩
 ·split
  ·exact ⟨D20,Bs Bt⟩
  ·refine ⟨⟨l0,l3,fun e=> ?_,fun e=> ?_⟩,fun x hx=>by cases hx⟩
   ·have:=l2 e; show xc b≤271; omega
   ·have:=l1 e; show xc b≤17407; omega
theorem Iw {d:bU} {b:Int} (h0:0≤b) (hn:(jc d.lead).1=d.iJ) (h3:d.iJ=3) (h4:d.lead=244) (hf:D4 d b=true):b % 64≤15:=by
 unfold D4 at hf
 rw [if_neg (by omega),h4] at hf
 have e:jc 244=(3,128,143):=by decide
 rw [e] at hf
 have:=of_decide_eq_true hf
 dsimp only at this
 omega
theorem Gr {d:bU} (hd:DI d) (h:D2 d) {b:Int} (h0:0≤b) (h1:b < 256):D2 (rM d b).1∧rus (rM d b).2:=by
 unfold rM
 obtain ⟨k1,k2⟩:=K6 h0 h1
 split
 ·exact ⟨k1,k2⟩
 ·rename_i hn
  rcases hd with rfl | ⟨l0,l1,n1,n2,r0,r3,r2,r1⟩
  ·exact absurd (by decide) hn
  have hk:=(tq d.lead).1
  split
  ·rename_i hf
   split
   ·rename_i hn1
    have:=h.r1 hn1
    exact ⟨D20,Bs ⟨by omega,by omega⟩⟩
   ·rename_i hn1
    refine ⟨⟨by show 0≤d.rune*64+b % 64; omega,fun e=> ?_,fun e=> ?_,fun e=> ?_⟩,fun x hx=>by cases hx⟩
    ·change d.iJ - 1=3 at e; omega
    ·change d.iJ - 1=2 at e
     show d.rune*64+b % 64≤271
     have h3:d.iJ=3:=by omega
     obtain ⟨a1,a2⟩:=h.r3 h3
     by_cases c:d.rune=4
     ·have:=Iw h0 (by omega) h3 (a2 c) hf; omega
     ·omega
    ·change d.iJ - 1=1 at e
     show d.rune*64+b % 64≤17407
     have:=h.r2 (by omega)
     omega
  ·refine ⟨k1,fun x hx=> ?_⟩
   rcases List.mem_cons.1 hx with rfl | hx
   ·exact Bt
   ·exact k2 x hx
def aGd (a:bE):Prop:=ru a.rune∧a.text.size≤200
def rz (l:List bE):Prop:= ∀ a∈l,aGd a
theorem oK {a b:List bE} (ha:rz a) (hb:rz b):rz (a++b):=fun x h=>(List.mem_append.1 h).elim (ha x) (hb x)
theorem tu {a:bE} (h:aGd a):rz [a]:=fun x hx=>by rw [List.mem_singleton.1 hx]; exact h
theorem Ix:(ByteArray.mk #[]).size≤200:=by decide
theorem ru0:ru 0:=⟨by decide,by decide⟩
theorem CK {l:List Int} (h:rus l):rz (l.map prA):=fun x hx=>by
 obtain ⟨r,hr,rfl⟩:=List.mem_map.1 hx
 exact ⟨h r hr,Ix⟩
theorem Gs {t:ByteArray} (h:t.size≤200):rz (ttl t):=by
 have hg:2≤t.size→aGd (tiA t):=fun h2=>⟨ru0,by show (lE t 2 t.size).size≤200; rw [z5 _ (by omega) (by omega) (by omega)]; omega⟩
 unfold ttl
 split
 ·rename_i x y l e
  have:2≤t.size:=by have:=congrArg List.length e; rw [bL] at this; simp at this; omega
  split
  ·exact tu (hg this)
  ·exact fun x hx=>by cases hx
 ·exact fun x hx=>by cases hx
theorem rn {p:aI} (h:rz p.out) (b:Int):rz (eN p b).2.out:=by
 unfold eN
 split
 ·exact h
 ·split
  ·exact h
  ·split
   ·exact oK h (tu ⟨ru0,Ix⟩)
   ·exact h
theorem Kj {p:aI} (hp:PI p) (hd:D2 p.cL) (h:rz p.out) {b:Int} (h0:0≤b) (h1:b < 256):rz (oI p b).out:=by
 have hesc: ∀ q:aI,rz q.out→rz (jQ q b).out:=fun q hq=>by
  unfold jQ
  split
  ·exact rn hq b
  ·repeat' split
   all_goals first | exact hq | exact oK hq (tu ⟨ru0,Ix⟩)
 have hov:rz (ni p).out:=oK h (Gs hp.tx)
 unfold oI
 split
 ·unfold lS
  split
  ·refine rn (oK h (CK fun x hx=> ?_)) b
   unfold wH at hx
   split at hx
   ·cases hx
   ·rw [List.mem_singleton.1 hx]; exact Bt
  ·exact oK h (CK (Gr hp.di hd h0 h1).2)
 ·split
  ·exact hesc p h
  ·split
   ·unfold pF
    split
    ·exact rn h b
    ·split <;> exact h
   ·split
    ·unfold kF
     split
     ·exact rn h b
     ·split
      ·rw [xM,Af]
       refine oK h ?_
       unfold Br
       split
       ·exact fun x hx=>by cases hx
       ·exact tu ⟨ru0,Ix⟩
      ·exact h
    ·split
     ·unfold ng
      repeat' split
      all_goals first | exact h | exact hov
     ·split
      ·exact hov
      ·exact hesc (stP p 1) h
theorem nv (p:aI) (b:Int):(eN p b).2.cL=p.cL:=by
 unfold eN
 repeat' split
 all_goals rfl
theorem tv (p:aI) (b:Int):(jQ p b).cL=p.cL:=by
 unfold jQ
 split
 ·exact nv p b
 ·repeat' split
  all_goals rfl
theorem Kk {p:aI} (hp:PI p) (hd:D2 p.cL) {b:Int} (h0:0≤b) (h1:b < 256):D2 (oI p b).cL:=by
 unfold oI
 split
 ·unfold lS
  split
  ·rw [nv]; exact D20
  ·exact (Gr hp.di hd h0 h1).1
 ·split
  ·rw [tv]; exact hd
  ·split
   ·unfold pF
    split
    ·rw [nv]; exact hd
    ·split <;> exact hd
   ·split
    ·unfold kF
     split
     ·rw [nv]; exact hd
     ·split
      ·unfold lT
       split <;> exact hd
      ·exact hd
    ·split
     ·unfold ng
      repeat' split
      all_goals exact hd
     ·split
      ·exact hd
      ·rw [tv]; exact hd
theorem CL: ∀ (bs:List Int) {p:aI},PI p→D2 p.cL→rz p.out→(∀ b∈bs,0≤b∧b < 256)→rz (prun p bs).out∧D2 (prun p bs).cL
 | [],p,_,hd,h,_=>⟨h,hd⟩
 | b::bs,p,hp,hd,h,hb=>by
  obtain ⟨b0,b1⟩:=hb b List.mem_cons_self
  exact CL bs (Bq hp b0 b1).1 (Kk hp hd b0 b1) (Kj hp hd h b0 b1) fun x hx=>hb x (List.mem_cons_of_mem _ hx)
end Go.Tw.X
set_option linter.unusedVariables false
set_option linter.unusedSimpArgs false
set_option maxHeartbeats 1000000
namespace Go.Tw.X
open Go Go.Tw
def sy (x:Int):Prop:=0≤x∧x≤647
def cOk (c:aG):Prop:=ru c.rune∧sy c.aP∧0≤c.part∧c.part≤3
theorem Kl {c:aG} (h:cOk c):okC c=true:=by
 obtain ⟨⟨a,b⟩,⟨d,e⟩,f,g⟩:=h
 simp [okC,okG,a,b,d,e,f,g]
theorem pq (s:bG):sy (k7 s):=by
 unfold k7 sy
 split
 ·unfold bN
  repeat' split
  all_goals omega
 ·omega
theorem K7:ru 32:=⟨by decide,by decide⟩
theorem vk {s:Int} (h:sy s):cOk (blk s):=⟨K7,h,by show (0:Int)≤0; decide,by show (0:Int)≤3; decide⟩
theorem sy0:sy 0:=⟨by decide,by decide⟩
def cR (l:List aG):Prop:= ∀ c∈l,cOk c
theorem Km:cR []:=fun c h=>by cases h
theorem rp: ∀ (l:List aG) (p:Int),cR l→cR (iz p l)
 | [],_,_=>fun c hc=>by cases hc
 | c::r,p,h=>by
  intro d hd
  simp only [iz,List.mem_cons] at hd
  rcases hd with rfl | hd
  ·unfold tW
   cases wY p c r with
   | true=>exact vk (h c (by simp)).2.1
   | false=>exact h c (by simp)
  ·exact rp r _ (fun e he=>h e (by simp [he])) d hd
theorem wK {l:List aG} (h:cR l) (i:Nat) {c:aG} (hc:cOk c):cR (l.set i c):=by
 intro d hd
 rcases List.mem_or_eq_of_mem_set hd with hd | rfl
 ·exact h d hd
 ·exact hc
theorem Kn {l:List aG} (h:cR l) (at_:Int) {s x:Int} (hx:ru x) (hs:sy s):cR (tY l at_ x s):=by
 have m: ∀ p:Int,0≤p→p≤3→cOk ⟨x,s,p⟩:=fun p a b=>⟨hx,hs,a,b⟩
 unfold tY
 split
 ·exact h
 ·split
  ·exact wK h _ (m 0 (by decide) (by decide))
  ·unfold AP
   have h1:=wK (wK h at_.toNat (m 1 (by decide) (by decide))) (at_.toNat+1) (m 2 (by decide) (by decide))
   split
   ·rename_i c hc
    have hcm:cOk c:=by
     split at hc
     ·exact h1 c (List.mem_of_getElem? hc)
     ·cases hc
    split
    ·exact wK h1 _ (vk hcm.2.1)
    ·exact h1
   ·exact h1
theorem yE (n:Nat) {s:Int} (h:sy s):cR (List.replicate n (blk s)):=fun c hc=>by rw [List.eq_of_mem_replicate hc]; exact vk h
theorem wL {a b:List aG} (ha:cR a) (hb:cR b):cR (a++b):=fun c hc=>(List.mem_append.1 hc).elim (ha c) (hb c)
theorem vl {a:List aG} (ha:cR a) (n:Nat):cR (a.take n):=fun c hc=>ha c (List.mem_of_mem_take hc)
theorem CM {a:List aG} (ha:cR a) (n:Nat):cR (a.drop n):=fun c hc=>ha c (List.mem_of_mem_drop hc)
theorem wM (a b:Int) {s:Int} (hs:sy s): ∀ {l:List aG} (i:Int),cR l→cR (kq a b s i l)
 | [],_,_=>fun c hc=>by cases hc
 | c::r,i,h=>by
  intro d hd
  simp only [kq,List.mem_cons] at hd
  rcases hd with rfl | hd
  ·split
   ·exact vk hs
   ·exact h c (by simp)
  ·exact wM a b hs (i+1) (fun e he=>h e (by simp [he])) d hd
theorem Iy {l:List aG} (h:cR l) {q:Int} (hq:sy q):cR (nZ l q):=wK h _ ⟨K7,hq,by show (0:Int)≤3; decide,by show (3:Int)≤3; decide⟩
theorem Ko {l:List aG} (h:cR l) (a n:Int) {q:Int} (hq:sy q):cR (ins l a n q):=by
 unfold ins
 split
 ·exact h
 ·exact vl (wL (wL (vl h _) (yE _ hq)) (CM h _)) _
theorem Kp {l:List aG} (h:cR l) (a n:Int) {q:Int} (hq:sy q):cR (del l a n q):=by
 unfold del
 split
 ·exact h
 ·exact wL (wL (vl h _) (CM h _)) (yE _ hq)
def gR2 (l:List aE):Prop:= ∀ r∈l,cR r.cells
theorem pr {a b:List aE} (ha:gR2 a) (hb:gR2 b):gR2 (a++b):=fun c hc=>(List.mem_append.1 hc).elim (ha c) (hb c)
theorem nK {a:List aE} (ha:gR2 a) (n:Nat):gR2 (a.take n):=fun c hc=>ha c (List.mem_of_mem_take hc)
theorem oL {a:List aE} (ha:gR2 a) (n:Nat):gR2 (a.drop n):=fun c hc=>ha c (List.mem_of_mem_drop hc)
theorem yF (k W:Nat) {s:Int} (h:sy s):gR2 (List.replicate k (jF W s)):=fun c hc=>by rw [List.eq_of_mem_replicate hc]; exact yE W h
theorem lU:gR2 []:=fun c h=>by cases h
theorem sI {l:List aE} (h:gR2 l) (y:Int):cR (kD l y).cells:=by
 unfold kD
 split
 ·rename_i hy
  rw [List.getElem?_eq_getElem (by omega)]
  exact h _ (List.getElem_mem _)
 ·exact Km
theorem Kq (W:Nat) {r:aE} (h:cR r.cells):cR (rsz W r).cells:=by
 unfold rsz
 split
 ·exact h
 ·exact rp _ _ (wL (vl h _) (yE _ sy0))
theorem CN (W:Nat) {l:List aE} (h:gR2 l) (y:Int) {r:aE} (hr:cR r.cells):gR2 (sj W l y r):=by
 unfold sj
 split
 ·intro q hq
  rcases List.mem_or_eq_of_mem_set hq with hq | hq
  ·exact h q hq
  ·rw [hq]; exact Kq W hr
 ·exact h
theorem Gt (W:Nat) {l:List aE} (h:gR2 l) (t b n:Int) {s:Int} (hs:sy s):gR2 (upL W l t b n s):=by
 unfold upL
 split
 ·exact h
 ·exact pr (pr (nK h _) (pr (oL (oL (nK h _) _) _) (yF _ _ hs))) (oL h _)
theorem Iz {l:List aE} (h:gR2 l) (t b n:Int):gR2 (upO l t b n):=by
 unfold upO
 split
 ·exact lU
 ·exact nK (oL (nK h _) _) _
theorem Gu (W:Nat) {l:List aE} (h:gR2 l) (t b n:Int) {s:Int} (hs:sy s):gR2 (qg W l t b n s):=by
 unfold qg
 split
 ·exact h
 ·exact pr (pr (nK h _) (pr (yF _ _ hs) (nK (oL (nK h _) _) _))) (oL h _)
structure SC (s:aB):Prop where
 g:gR2 s.g.l
 t:s.title.size≤200
variable {W : Nat} {s : aB}
theorem dJ {p:Prop} [Decidable p] {a b:aB} (ha:SC a) (hb:SC b):SC (if p then a else b):=by split <;> assumption
theorem kz {p:Prop} [Decidable p] {a b:List aE} (ha:gR2 a) (hb:gR2 b):gR2 (if p then a else b):=by split <;> assumption
theorem nL (h:SC s) (x y:Int):SC (mvS s x y):=⟨h.g,h.t⟩
theorem rO (h:SC s):SC (nwS s):=⟨h.g,h.t⟩
theorem Bu (h:SC s) (x:Int):SC (xS s x):=⟨h.g,h.t⟩
theorem CO (h:SC s) (y:Int) {r:aE} (hr:cR r.cells):SC (seS W s y r):=⟨CN W h.g y hr,h.t⟩
theorem Jf (h:SC s) (n:Int):SC (upS W s n):=⟨Gt W h.g _ _ _ (pq _),h.t⟩
theorem Kr (h:SC s) (t b n:Int):SC (upT W s t b n):=⟨Gt W h.g _ _ _ (pq _),h.t⟩
theorem Gv (h:SC s) (t b n:Int):SC (dnS W s t b n):=⟨Gu W h.g _ _ _ (pq _),h.t⟩
theorem CP (h:SC s) (n:Int):gR2 (upF s n):=kz lU (Iz h.g _ _ _)
theorem Ah (h:SC s):SC (liS W s):=dJ (Jf (rO h) 1) (nL (rO h) _ _)
theorem wN (h:SC s):gR2 (liF s):=kz (CP (rO h) 1) lU
theorem K8 (h:SC s):cR (r2S s).cells:=rp _ _ (Iy (sI h.g _) (pq _))
theorem K9 (h:SC s) {r:Int} (hr:ru r):cR (r3S s r).cells:=rp _ _ (Kn (sI h.g _) _ hr (pq _))
theorem Mb (h:SC s):SC (aS W s)∧gR2 (aF W s):=by
 have k:SC (xS (seS W s s.spot.y (r1S s)) 0):=Bu (CO h _ (r:=r1S s) (sI h.g _)) 0
 exact ⟨dJ (Ah k) h,kz (wN k) lU⟩
theorem Mc (h:SC s) (n:Int):SC (bS W s n)∧gR2 (bF W s n):=by
 have k:SC (xS (seS W s s.spot.y (r2S s)) 0):=Bu (CO h _ (K8 h)) 0
 exact ⟨dJ (dJ (Ah k) (Bu h _)) h,kz (kz (wN k) lU) lU⟩
theorem Ld (h:SC s) {r:Int} (hr:ru r):SC (prS W s r)∧gR2 (prF W s r):=by
 obtain ⟨a1,a2⟩:=Mb (W:=W) h
 obtain ⟨b1,b2⟩:=Mc (W:=W) a1 (ofS r)
 exact ⟨dJ h ⟨CN W b1.g _ (K9 b1 hr),b1.t⟩,kz lU (pr a2 b2)⟩
theorem Le (h:SC s) (b:Int):SC (ctS W s b)∧gR2 (ctF s b) :=
 ⟨dJ (nL h _ _) (dJ (nL h _ _) (dJ (Ah h) (dJ (nL h _ _) h))),kz (wN h) lU⟩
theorem Lf (h:SC s):SC (baS W s):=dJ (Gv (rO h) _ _ _) (nL (rO h) _ _)
theorem CQ (w h:Int):SC (w9 w h):=⟨yF _ _ sy0,by show (ByteArray.mk #[]).size≤200; decide⟩
theorem Lg (h:SC s) (b:Int):SC (esS W s b)∧gR2 (esF s b) :=
 ⟨dJ (Ah (Bu h 0)) (dJ (Ah h) (dJ (Lf h) (dJ ⟨h.g,h.t⟩ (dJ (nL (s:=e8S s) ⟨h.g,h.t⟩ _ _) (dJ (CQ _ _) h))))),kz (wN (Bu h 0)) (kz (wN h) lU)⟩
theorem Jg (h:SC s) (y a b:Int):SC (erS W s y a b):=CO h y (rp _ _ (wM _ _ (pq _) _ (sI h.g _)))
theorem Lh (h:SC s) (n:Int):SC (paS W s n):=dJ h (rO (Jg h _ _ _))
theorem Gw (h:SC s) (n:Int): ∀ k,SC (wpS W s n k)
 | 0=>h
 | k+1=>by
  unfold wpS
  split
  ·exact Jg (Gw h n k) _ _ _
  ·exact Gw h n k
theorem CR (h:SC s) (n:Int):SC (clS s n):=nL h _ _
theorem Gx (h:SC s) (n:Int) (all:Bool):SC (zY W s n all):=Lh (dJ (Gw h _ _) h) n
theorem Gy {p:Prop} [Decidable p] {a b:List aG} (ha:cR a) (hb:cR b):cR (if p then a else b):=by split <;> assumption
theorem Lj (h:SC s) (b n:Int):SC (ceS W s b n) :=
 rO (CO h _ (rp _ _ (Gy (Ko (sI h.g _) _ _ (pq _)) (Gy (Kp (sI h.g _) _ _ (pq _)) (wM _ _ (pq _) _ (sI h.g _))))))
theorem Lm (h:SC s) (b n:Int):SC (shS W s b n):=dJ h (dJ (nL (Gv h _ _ _) _ _) (nL (Kr h _ _ _) _ _))
theorem Lo (h:SC s) (l:List Int):SC (reS s l):=dJ (nL (s:=rnS s (rgT s l) (rgU s l)) ⟨h.g,h.t⟩ _ _) h
theorem Lp (h:SC s) (b:Int) (l:List Int):SC (orS W s b l)∧gR2 (orF s b l):=by
 refine ⟨?_,kz (CP (rO h) _) lU⟩
 unfold orS
 refine dJ (CR h _) (dJ (Bu (CR h _) 0) (dJ (CR h _) (dJ (Bu (CR h _) 0) (dJ (nL h _ _) (dJ (nL h _ _) (dJ (nL h _ _) (dJ (nL h _ _) (dJ (nL h _ _) (dJ (Gx h _ _) (dJ (Gx h _ _) (dJ (Lj h _ _) (dJ (Lm h _ _) (dJ (Jf (rO h) _) (dJ (Gv (rO h) _ _ _) (dJ ⟨h.g,h.t⟩ (dJ (Lo h l) h))))))))))))))))
theorem Lr (h:SC s) {a:bE} (ha:aGd a):SC (acS W s a)∧gR2 (acF W s a):=by
 obtain ⟨p1,p2⟩:=Ld (W:=W) h ha.1
 obtain ⟨c1,c2⟩:=Le (W:=W) h a.byte
 obtain ⟨e1,e2⟩:=Lg (W:=W) h a.byte
 obtain ⟨o1,o2⟩:=Lp (W:=W) h a.byte a.bQ
 exact ⟨dJ p1 (dJ c1 (dJ e1 (dJ (dJ (dJ ⟨h.g,h.t⟩ h) o1) (dJ ⟨h.g,ha.2⟩ h)))),kz p2 (kz c2 (kz e2 (kz (kz lU o2) lU)))⟩
end Go.Tw.X
set_option linter.unusedVariables false
set_option linter.unusedSimpArgs false
set_option maxHeartbeats 1000000
namespace Go.Tw.X
open Go Go.Tw
def IA (k:Int) (n:Nat) (w h:Int):Int:=if k=0 then (if 1048576 < n then 3 else 0) else if k=1 then (if w < 1∨w > 1000∨h < 1∨h > 1000 then 6 else 0) else 5
theorem IB (w h:Int):((bif (decide (w < 1)) then some true else (bif (decide (w > 1000)) then some true else (bif (decide (h < 1)) then some true else some (decide (h > 1000))))):Option Bool)=some (decide (w < 1∨w > 1000∨h < 1∨h > 1000)):=by
 by_cases a:w < 1
 ·simp [a]
 ·by_cases b:w > 1000
  ·simp [a,b]
  ·by_cases c:h < 1
   ·simp [a,b,c]
   ·simp [a,b,c]
theorem Ea (e:lY):iH e=some (IA e.kind e.text.size e.w e.h):=by
 unfold iH IA
 by_cases k0:e.kind=0
 ·have e0:(e.kind == 0)=true:=by simpa using k0
  rw [if_pos k0,e0,cond_true]
  by_cases hs:1048576 < e.text.size
  ·rw [if_pos hs,decide_eq_true (by omega)]; rfl
  ·rw [if_neg hs,decide_eq_false (by omega)]; rfl
 ·have e0:(e.kind == 0)=false:=by simpa using k0
  rw [if_neg k0,e0,cond_false]
  by_cases k1:e.kind=1
  ·have e1:(e.kind == 1)=true:=by simpa using k1
   rw [if_pos k1,e1,cond_true,IB,Option.bind_some]
   by_cases hs:e.w < 1∨e.w > 1000∨e.h < 1∨e.h > 1000
   ·rw [if_pos hs,decide_eq_true hs]; rfl
   ·rw [if_neg hs,decide_eq_false hs]; rfl
  ·have e1:(e.kind == 1)=false:=by simpa using k1
   rw [if_neg k1,e1]; rfl
end Go.Tw.X
set_option linter.unusedVariables false
set_option linter.unusedSimpArgs false
set_option maxHeartbeats 1000000
namespace Go.Tw.X
open Go Go.Tw
structure MX (W k N:Nat) (z:List (List aN)×List aN) (m:bK) (x:kZ):Prop where
 si:SI W m.bB
 zi:ZI k z
 bk:m.book=fX z
 xs:x.s=aQ m.bB
 xb:x.b=Bg z
 pa:m.parser=clr (prun p0 (sbs x.all))
 ac:x.L0=((prun p0 (sbs x.all)).out.length:Int)
 ke:m.k=x.k
 k0:0≤m.k
 kN:m.k≤N
 al:x.all.size≤1000*N
end Go.Tw.X
set_option linter.unusedVariables false
set_option linter.unusedSimpArgs false
set_option maxHeartbeats 1000000
namespace Go.Tw.X
open Go Go.Tw
theorem Gz {W k N:Nat} {z:List (List aN)×List aN} {m:bK} {x:kZ} (h:MX W k N z m x) {t:ByteArray} (ht:t.size≤1000) :
  MX W (k+8000*t.size) (N+1) ((prun m.parser (sbs t)).out.foldl (jN W) (m.bB,z)).2 ⟨fX ((prun m.parser (sbs t)).out.foldl (jN W) (m.bB,z)).2,clr (prun m.parser (sbs t)),((prun m.parser (sbs t)).out.foldl (jN W) (m.bB,z)).1,m.k+1⟩ ⟨aQ ((prun m.parser (sbs t)).out.foldl (jN W) (m.bB,z)).1,Bg ((prun m.parser (sbs t)).out.foldl (jN W) (m.bB,z)).2,x.all++t,((prun p0 (sbs (x.all++t))).out.length:Int),m.k+1⟩:=by
 have hp:PI m.parser:=by
  rw [h.pa]
  have:=(rk (sbs x.all) Je (kE x.all)).1
  exact ⟨this.di,this.gr,this.nu,this.n0,this.n1,this.tx⟩
 have hlen:=(rk (sbs t) hp (kE t)).2
 have hm0:m.parser.out.length=0:=by rw [h.pa]; rfl
 rw [bL] at hlen
 have has:=yD (sbs t) hp (by rw [h.pa]; exact fun x hx=>by cases hx) (kE t)
 have hst:=uq (W:=W) (prun m.parser (sbs t)).out (k:=k) (y:=(m.bB,z)) h.si h.zi has
 have hk0:=h.k0
 have hkN:=h.kN
 have hal:=h.al
 have hz:(x.all++t).size=x.all.size+t.size:=by rw [← bL,sn,List.length_append,bL,bL]
 have hzn:=hst.2.n
 refine ⟨hst.1,⟨by omega,hst.2.b,hst.2.g,hst.2.ls⟩,rfl,rfl,rfl,?_,rfl,rfl,by dsimp only; omega,by dsimp only; omega,by dsimp only; omega⟩
 dsimp only
 rw [(news x.all t).2,← h.pa]
end Go.Tw.X
set_option linter.unusedVariables false
set_option linter.unusedSimpArgs false
set_option maxHeartbeats 1000000
namespace Go.Tw.X
open Go Go.Tw
def GA (w h:Int):bK:=⟨fX ([],[]),p0,w9 w h,0⟩
def Md (w h:Int):kZ:=⟨aQ (w9 w h),Bg ([],[]),ByteArray.mk #[],0,0⟩
theorem IC (w h:Int):mZ w h=some (GA w h):=by
 unfold mZ
 rw [show o6=some (cG.mk [] [0] []) from rfl,Option.bind_some,CE,Option.bind_some]
 rfl
theorem Ks (w h:Int):MX (szN w) 0 0 ([],[]) (GA w h) (Md w h) :=
 ⟨CF w h,⟨Nat.le_refl 0,by show 0 < 1024; decide,fun x hx=>(by cases hx),fun x hx=>(by cases hx)⟩,rfl,rfl,rfl,rfl,rfl,rfl,Int.le_refl 0,Int.le_refl 0,Nat.le_refl 0⟩
end Go.Tw.X
set_option linter.unusedVariables false
set_option linter.unusedSimpArgs false
set_option maxHeartbeats 1000000
namespace Go.Tw.X
open Go Go.Tw
def gOk (g:aN):Prop:=ru g.rune∧sy g.aP
def gls (l:List aN):Prop:= ∀ g∈l,gOk g
theorem ID {a b:List aN} (ha:gls a) (hb:gls b):gls (a++b):=fun c hc=>(List.mem_append.1 hc).elim (ha c) (hb c)
theorem GB {a:List aN} (ha:gls a) (n:Nat):gls (a.take n):=fun c hc=>ha c (List.mem_of_mem_take hc)
theorem GC {a:List aN} (ha:gls a) (n:Nat):gls (a.drop n):=fun c hc=>ha c (List.mem_of_mem_drop hc)
theorem CS:gls []:=fun c h=>by cases h
structure ZG (z:List (List aN)×List aN):Prop where
 b:gls z.2
 l: ∀ x∈z.1,gls x
theorem GD {r:aE} (h:cR r.cells):gls (nF r):=by
 intro g hg
 unfold nF sg at hg
 obtain ⟨c,hc,rfl⟩:=List.mem_map.1 hg
 have hc2:=(List.mem_filter.1 hc).1
 have:c∈r.cells:=by
  split at hc2
  ·exact hc2
  ·exact uo _ _ c hc2
 exact ⟨(h c this).1,(h c this).2.1⟩
theorem Ai: ∀ (n:Nat) (g:List aN),g.length≤n→gls g→gls (nf g).2 ∧ ∀ x∈(nf g).1,gls x
 | 0,g,h,hg=>by
  rw [vi (by omega)]
  exact ⟨hg,fun x hx=>by cases hx⟩
 | n+1,g,h,hg=>by
  by_cases c:1024≤g.length
  ·rw [yx c]
   obtain ⟨a,b⟩:=Ai n (g.drop 1024) (by rw [List.length_drop]; omega) (GC hg _)
   refine ⟨a,fun x hx=> ?_⟩
   rcases List.mem_cons.1 hx with rfl | hx
   ·exact GB hg _
   ·exact b x hx
  ·rw [vi c]
   exact ⟨hg,fun x hx=>by cases hx⟩
theorem Kt {z:List (List aN)×List aN} (h:ZG z) {r:aE} (hr:cR r.cells):ZG (ug z r):=by
 obtain ⟨a,b⟩:=Ai _ (z.2++nF r) (Nat.le_refl _) (ID h.b (GD hr))
 unfold ug
 dsimp only
 split
 ·exact ⟨a,fun x hx=>(List.mem_append.1 hx).elim (h.l x) (b x)⟩
 ·refine ⟨CS,fun x hx=> ?_⟩
  rcases List.mem_append.1 hx with hx | hx
  ·exact (List.mem_append.1 hx).elim (h.l x) (b x)
  ·rw [List.mem_singleton.1 hx]; exact a
theorem CU: ∀ (rows:List aE) {z:List (List aN)×List aN},ZG z→gR2 rows→ZG (rows.foldl ug z)
 | [],_,h,_=>h
 | r::rows,z,h,hr=>CU rows (Kt h (hr r List.mem_cons_self)) fun q hq=>hr q (List.mem_cons_of_mem _ hq)
theorem Aj {W:Nat}: ∀ (l:List bE) {y:aB×(List (List aN)×List aN)},SC y.1→ZG y.2→rz l→SC (l.foldl (jN W) y).1∧ZG (l.foldl (jN W) y).2
 | [],_,h1,h2,_=>⟨h1,h2⟩
 | a::l,y,h1,h2,h3=>by
  obtain ⟨k1,k2⟩:=Lr (W:=W) h1 (h3 a List.mem_cons_self)
  exact Aj l (y:=jN W y a) k1 (CU _ h2 k2) fun q hq=>h3 q (List.mem_cons_of_mem _ hq)
structure MG (m:bK) (z:List (List aN)×List aN):Prop where
 sc:SC m.bB
 zg:ZG z
 d2:D2 m.parser.cL
theorem Ku (w h:Int):MG (GA w h) ([],[]):=⟨CQ w h,⟨CS,fun x hx=>by cases hx⟩,D20⟩
theorem Jh {W k N:Nat} {z:List (List aN)×List aN} {m:bK} {x:kZ} (h:MX W k N z m x):PI m.parser∧m.parser.out=[]:=by
 rw [h.pa]
 have:=(rk (sbs x.all) Je (kE x.all)).1
 exact ⟨⟨this.di,this.gr,this.nu,this.n0,this.n1,this.tx⟩,rfl⟩
theorem GF {W k N:Nat} {z:List (List aN)×List aN} {m:bK} {x:kZ} (h:MX W k N z m x) (g:MG m z) (t:ByteArray) (k':Int) (b':cG) :
  MG ⟨b',clr (prun m.parser (sbs t)),((prun m.parser (sbs t)).out.foldl (jN W) (m.bB,z)).1,k'⟩ ((prun m.parser (sbs t)).out.foldl (jN W) (m.bB,z)).2:=by
 obtain ⟨hp,ho⟩:=Jh h
 obtain ⟨p1,p2⟩:=CL (sbs t) hp g.d2 (by rw [ho]; exact fun x hx=>by cases hx) (kE t)
 obtain ⟨s1,s2⟩:=Aj (W:=W) _ (y:=(m.bB,z)) g.sc g.zg p1
 exact ⟨s1,s2,p2⟩
theorem Bv {W k N:Nat} {z:List (List aN)×List aN} {m:bK} {x:kZ} (h:MX W k N z m x) (hk:k≤50000000) (hN:N≤1000000) {t:ByteArray} (ht:t.size≤1000) (w h':Int) :
  ja m ⟨0,t,w,h'⟩=some (0,⟨fX ((prun m.parser (sbs t)).out.foldl (jN W) (m.bB,z)).2,clr (prun m.parser (sbs t)),((prun m.parser (sbs t)).out.foldl (jN W) (m.bB,z)).1,m.k+1⟩):=by
 have hp:PI m.parser:=(Jh h).1
 have hcl:clr m.parser=m.parser:=by rw [h.pa]; rfl
 have e1:=Iv (m:=m) h.si h.zi hp ht hk
 rw [hcl] at e1
 have hk0:=h.k0
 have hkN:=h.kN
 unfold ja
 rw [Ea]
 have hck:IA 0 t.size w h'=0:=by unfold IA; rw [if_pos rfl,if_neg (by omega)]
 dsimp only
 rw [hck,Option.bind_some,show ((0:Int) != 0)=false from rfl,show ((0:Int) == 1)=false from rfl,cond_false,cond_false,show kQ m t=some t from rfl,Option.bind_some,h.bk,e1]
 simp only [Option.bind_some]
 rw [w64 (by omega) (by omega)]
def sOf (m:bK) (z:List (List aN)×List aN):aM:=⟨m.k+1,m.bB.g.w,(m.bB.g.l.length:Int),m.bB.spot.x,m.bB.spot.y,m.bB.title,m.bB.g.l,(z.1.length:Int),po z.1,z.2⟩
theorem IE {l:List aN} (h:gls l): ∀ g∈l,rok g.rune:=fun g hg=>by
 obtain ⟨⟨a,b⟩,_⟩:=h g hg
 exact ⟨by omega,by omega⟩
section
variable {W k N : Nat} {z : List (List aN) × List aN} {m : bK} {x : kZ}
theorem IF (l:List (List aN)) (g:List aN) (h:l.length≤1000000000):jr (fX (l,g)) (l.length:Int)=some (po l):=by
 unfold jr fX
 dsimp only
 rw [eG,iL,show max 0 (min (l.length:Int) (l.length:Int))=((l.length:Nat):Int) by omega,Cw _ _ (Nat.le_refl _),List.take_length]
 rfl
theorem GG (h:MX W k N z m x) (hk:k≤100000000) (hN:N≤1000000):fU m=some (sOf m z,m):=by
 have hk0:=h.k0
 have hkN:=h.kN
 have hzn:=h.zi.n
 have hzb:=h.zi.b
 unfold fU qN
 rw [w64 (by omega) (by omega)]
 rw [show (aB.mk m.bB.g m.bB.spot m.bB.saved m.bB.waiting m.bB.top m.bB.aO m.bB.bA m.bB.title)=m.bB from rfl,Gb h.si.toSJ,aA]
 dsimp only
 have hr:=u7 m.bB.g.w m.bB.g.l (by have:=h.si.gi.l2; omega) h.si.gi.len
 rw [show (bC.mk m.bB.g.w m.bB.g.l)=m.bB.g from rfl] at hr
 rw [show jd (aB.mk m.bB.g m.bB.spot m.bB.saved m.bB.waiting m.bB.top m.bB.aO m.bB.bA m.bB.title)=some m.bB.title from rfl,aA,hr,aA]
 rw [h.bk,show ∀ b,kB b=some (b.l.length:Int) from fun b=>rfl,aA,aA]
 dsimp only
 have hc:=IF z.1 z.2 (by omega)
 rw [show (fX z).l=z.1 from rfl,show fX (z.1,z.2)=fX z from rfl] at *
 rw [hc,aA]
 have hb:jt (fX z)=some z.2:=by
  unfold jt
  rw [uf _ (by show z.2.length≤_; omega)]
  rfl
 rw [hb,aA,show ∀ g,dL g=some (g.w,(g.l.length:Int)) from fun g=>rfl,aA,show ∀ s,iN s=some (s.spot.x,s.spot.y) from fun s=>rfl,aA,aA,← h.bk]
 rfl
theorem Kv (h:MX W k N z m x) (g:MG m z):SW (sOf m z):=by
 have h1:=h.si.gi.w2
 have h2:=h.si.gi.l2
 have h3:=h.si.gw
 have h4:=h.zi.b
 have h5:=g.sc.t
 refine ⟨?_,?_,IE g.zg.b,fun r hr=> ?_,h2,by show z.2.length≤2000; omega,by show m.bB.title.size≤1000; omega⟩
 ·show -9223372036854775808≤m.bB.g.w∧m.bB.g.w≤9223372036854775807
  omega
 ·show -9223372036854775808≤(m.bB.g.l.length:Int)∧(m.bB.g.l.length:Int)≤9223372036854775807
  omega
 ·have hg:=h.si.gi.rs r hr
  exact ⟨hg.2,by have:=hg.1; omega⟩
theorem IG (h:MX W k N z m x) (g:MG m z) (hk:k≤100000000) (hN:N≤1000000):mN (sOf m z)=true:=by
 have h1:=h.si.gi.w1
 have h1':=h.si.gi.w2
 have h2:=h.si.gi.l1
 have h2':=h.si.gi.l2
 have h3:=h.si.gw
 have h4:=h.zi.b
 have h5:=g.sc.t
 have h6:=xE z.1
 have h7:=h.zi.n
 have hk0:=h.k0
 have hkN:=h.kN
 have a1:=h.si.x0
 have a2:=h.si.x1
 have a3:=h.si.y0
 have a4:=h.si.y1
 have hch:chM=281474976710597:=rfl
 unfold mN
 rw [Bool.or_eq_true]
 right
 have e1:su (sOf m z)=true:=by
  unfold su wi sOf
  simp only [Bool.and_eq_true,decide_eq_true_eq,beq_iff_eq]
  repeat' apply And.intro
  all_goals first | trivial | omega
 have e2:((sOf m z).begun.all fun g=>okG g.rune g.aP)=true:=by
  rw [List.all_eq_true]
  intro q hq
  obtain ⟨⟨b1,b2⟩,b3,b4⟩:=g.zg.b q hq
  simp [okG,b1,b2,b3,b4]
 have e3:(sOf m z).rows.all (qi (sOf m z).w)=true:=by
  rw [List.all_eq_true]
  intro r hr
  have hg:=h.si.gi.rs r hr
  unfold qi
  rw [Bool.and_eq_true]
  refine ⟨?_,?_⟩
  ·show ((r.cells.length:Int) == m.bB.g.w)=true
   rw [beq_iff_eq]
   have:=hg.1
   omega
  ·rw [List.all_eq_true]
   exact fun c hc=>Kl (g.sc.g r hr c hc)
 rw [e1,e2,e3]
 rfl
end
end Go.Tw.X
set_option linter.unusedVariables false
set_option linter.unusedSimpArgs false
set_option maxHeartbeats 1000000
namespace Go.Tw.X
open Go Go.Tw
section
variable {W k N : Nat} {z : List (List aN) × List aN} {m : bK} {x : kZ}
theorem MX.mono (h:MX W k N z m x) {k' N':Nat} (h1:k≤k') (h2:N≤N'):MX W k' N' z m x :=
 ⟨h.si,⟨by have:=h.zi.n; omega,h.zi.b,h.zi.g,h.zi.ls⟩,h.bk,h.xs,h.xb,h.pa,h.ac,h.ke,h.k0,by have:=h.kN; omega,by have:=h.al; omega⟩
end
end Go.Tw.X
set_option linter.unusedVariables false
set_option linter.unusedSimpArgs false
set_option maxHeartbeats 1000000
namespace Go.Tw.X
open Go Go.Tw
theorem IH {n:Nat} {a b:Int} (h:(n:Int) < a∧(n:Int) < b):((bif (decide ((n:Int) < a)) then some (decide ((n:Int) < b)) else some false):Option Bool)=some true:=by
 rw [decide_eq_true h.1,decide_eq_true h.2]; rfl
theorem II {n:Nat} {a b:Int} (h: ¬ ((n:Int) < a∧(n:Int) < b)):((bif (decide ((n:Int) < a)) then some (decide ((n:Int) < b)) else some false):Option Bool)=some false:=by
 by_cases c:(n:Int) < a
 ·rw [decide_eq_true c,decide_eq_false (by omega: ¬ (n:Int) < b)]; rfl
 ·rw [decide_eq_false c]; rfl
theorem Me {a:Int}:(a != a)=false:=by simp
end Go.Tw.X
set_option linter.unusedVariables false
set_option linter.unusedSimpArgs false
set_option maxHeartbeats 1000000
namespace Go.Tw.X
open Go Go.Tw
structure HN (n:Nat) (s:aB):Prop where
 e:s.g.l.length=n
 l:1≤n
 u:n≤1000
variable {W n : Nat} {s : aB}
theorem dK {p:Prop} [Decidable p] {a b:aB} (ha:HN n a) (hb:HN n b):HN n (if p then a else b):=by split <;> assumption
theorem HN.g1 (h:HN n s):1≤s.g.l.length:=by rw [h.e]; exact h.l
theorem nM (h:HN n s) (x y:Int):HN n (mvS s x y):=⟨h.e,h.l,h.u⟩
theorem uR (h:HN n s):HN n (nwS s):=⟨h.e,h.l,h.u⟩
theorem Ec (h:HN n s) (x:Int):HN n (xS s x):=⟨h.e,h.l,h.u⟩
theorem CV (h:HN n s) (y:Int) (r:aE):HN n (seS W s y r):=⟨by simp only [seS,jG]; exact h.e,h.l,h.u⟩
theorem Ji (h:HN n s) (k:Int):HN n (upS W s k):=⟨by simp only [upS,re _ _ _ _ _ _ h.g1]; exact h.e,h.l,h.u⟩
theorem Kw (h:HN n s) (t b k:Int):HN n (upT W s t b k):=⟨by simp only [upT,re _ _ _ _ _ _ h.g1]; exact h.e,h.l,h.u⟩
theorem GH (h:HN n s) (t b k:Int):HN n (dnS W s t b k):=⟨by simp only [dnS,uj _ _ _ _ _ _ h.g1]; exact h.e,h.l,h.u⟩
theorem Ak (h:HN n s):HN n (liS W s):=dK (Ji (uR h) 1) (nM (uR h) _ _)
theorem Mf (h:HN n s):HN n (aS W s):=dK (Ak (Ec (CV h _ _) 0)) h
theorem Mg (h:HN n s) (k:Int):HN n (bS W s k):=dK (dK (Ak (Ec (CV h _ _) 0)) (Ec h _)) h
theorem Ls (h:HN n s) (r:Int):HN n (prS W s r):=by
 have b1:=Mg (W:=W) (Mf (W:=W) h) (ofS r)
 exact dK h ⟨by simp only [cS,jG]; exact b1.e,h.l,h.u⟩
theorem Lu (h:HN n s) (b:Int):HN n (ctS W s b):=dK (nM h _ _) (dK (nM h _ _) (dK (Ak h) (dK (nM h _ _) h)))
theorem Lv (h:HN n s):HN n (baS W s):=dK (GH (uR h) _ _ _) (nM (uR h) _ _)
theorem IJ (w:Int) (h:HN n s):HN n (w9 w s.g.l.length):=⟨by
 show (List.replicate (szN (s.g.l.length:Int)) (jF (szN w) 0)).length=n
 rw [List.length_replicate,h.e]
 exact E9 n h.l h.u,h.l,h.u⟩
theorem Lz (h:HN n s) (b:Int):HN n (esS W s b) :=
 dK (Ak (Ec h 0)) (dK (Ak h) (dK (Lv h) (dK ⟨h.e,h.l,h.u⟩ (dK (nM (s:=e8S s) ⟨h.e,h.l,h.u⟩ _ _) (dK (IJ _ h) h)))))
theorem Jj (h:HN n s) (y a b:Int):HN n (erS W s y a b):=CV h y _
theorem LA (h:HN n s) (k:Int):HN n (paS W s k):=dK h (uR (Jj h _ _ _))
theorem GJ (h:HN n s) (i:Int): ∀ k,HN n (wpS W s i k)
 | 0=>h
 | k+1=>by
  unfold wpS
  split
  ·exact Jj (GJ h i k) _ _ _
  ·exact GJ h i k
theorem CW (h:HN n s) (k:Int):HN n (clS s k):=nM h _ _
theorem GK (h:HN n s) (k:Int) (all:Bool):HN n (zY W s k all):=LA (dK (GJ h _ _) h) k
theorem LB (h:HN n s) (b k:Int):HN n (ceS W s b k):=uR (CV h _ _)
theorem LC (h:HN n s) (b k:Int):HN n (shS W s b k):=dK h (dK (nM (GH h _ _ _) _ _) (nM (Kw h _ _ _) _ _))
theorem LD (h:HN n s) (l:List Int):HN n (reS s l):=dK (nM (s:=rnS s (rgT s l) (rgU s l)) ⟨h.e,h.l,h.u⟩ _ _) h
theorem LF (h:HN n s) (b:Int) (l:List Int):HN n (orS W s b l):=by
 unfold orS
 refine dK (CW h _) (dK (Ec (CW h _) 0) (dK (CW h _) (dK (Ec (CW h _) 0) (dK (nM h _ _) (dK (nM h _ _) (dK (nM h _ _) (dK (nM h _ _) (dK (nM h _ _) (dK (GK h _ _) (dK (GK h _ _) (dK (LB h _ _) (dK (LC h _ _) (dK (Ji (uR h) _) (dK (GH (uR h) _ _ _) (dK ⟨h.e,h.l,h.u⟩ (dK (LD h l) h))))))))))))))))
theorem LG (h:HN n s) (a:bE):HN n (acS W s a) :=
 dK (Ls h _) (dK (Lu h _) (dK (Lz h _) (dK (dK (dK ⟨h.e,h.l,h.u⟩ h) (LF h _ _)) (dK ⟨h.e,h.l,h.u⟩ h))))
theorem Al: ∀ (l:List bE) {y:aB×(List (List aN)×List aN)},HN n y.1→HN n (l.foldl (jN W) y).1
 | [],_,h=>h
 | a::l,y,h=>Al l (y:=jN W y a) (LG h a)
end Go.Tw.X
set_option linter.unusedVariables false
set_option linter.unusedSimpArgs false
set_option maxHeartbeats 1000000
namespace Go.Tw.X
open Go Go.Tw
abbrev Zt:=List (List aN)×List aN
end Go.Tw.X
set_option linter.unusedVariables false
set_option linter.unusedSimpArgs false
namespace Go.Tw.X
open Go Go.Tw
theorem tw (s:aM) (y:Nat) (h:y < s.rows.length):gQ s (y:Int)=some (s.rows[y],true):=by
 unfold gQ
 rw [decide_eq_false (show ¬ ((y:Int) < 0) by omega),cond_false,aA,decide_eq_false (show ¬ ((y:Int)≥(s.rows.length:Int)) by omega),cond_false,dO _ _ h,aA]
theorem ur (s:aM) (y:Nat) (h: ¬ y < s.rows.length):gQ s (y:Int)=some (yi,false):=by
 unfold gQ
 rw [decide_eq_false (show ¬ ((y:Int) < 0) by omega),cond_false,aA,decide_eq_true (show ((y:Int)≥(s.rows.length:Int)) by omega),cond_true]
 rfl
theorem tz {σ:Type} (Y:σ→(Int×aE)→Option (σ×Bool)) (S:Nat→σ) (a b:aM) (hl:b.rows.length≤1000000) (hr: ∀ r∈a.rows,r.cells.length≤1000000)
  (h: ∀ i (hi:i < b.rows.length),if a.rows[i]?=some b.rows[i] then S (i+1)=S i else Y (S i) ((i:Int),b.rows[i])=some (S (i+1),true)) :
  gB Y (S 0) b a=some (S b.rows.length):=by
 unfold gB
 refine iP (S:=fun i=>((i:Int),S i)) (n:=b.rows.length) (r:= .inl (S b.rows.length)) rfl ?_ ?_ rfl
 ·intro i hi
  dsimp only
  have hi2:=h i hi
  rw [decide_eq_true (show (i:Int) < (b.rows.length:Int) by omega),cond_true,dO _ _ hi,aA]
  by_cases ha:i < a.rows.length
  ·rw [tw a i ha,aA]
   dsimp only
   rw [cond_true,u9 _ _ (hr _ (List.getElem_mem ha)),aA,aA]
   have e1:a.rows[i]?=some a.rows[i]:=List.getElem?_eq_getElem ha
   rw [e1] at hi2
   by_cases he:a.rows[i]=b.rows[i]
   ·rw [if_pos (by rw [he])] at hi2
    rw [decide_eq_true he,cond_true,aA,w64 (by omega) (by omega),hi2]
    rfl
   ·rw [if_neg (fun hh=>he (Option.some.inj hh))] at hi2
    rw [decide_eq_false he,cond_false,hi2,aA]
    dsimp only
    rw [Bool.not_true,cond_false,aA,w64 (by omega) (by omega)]
    rfl
  ·rw [ur a i ha,aA]
   dsimp only
   rw [cond_false,aA,cond_false]
   have e1:a.rows[i]?=none:=List.getElem?_eq_none (by omega)
   rw [e1,if_neg (by simp)] at hi2
   rw [hi2,aA]
   dsimp only
   rw [Bool.not_true,cond_false,aA,w64 (by omega) (by omega)]
   rfl
 ·dsimp only
  rw [decide_eq_false (by omega),cond_false]
def chN (a b:List aE):Nat→List Nat
 | 0=>[]
 | i+1=>if a[i]?=b[i]? then chN a b i else chN a b i++[i]
theorem nN (a b:List aE) (i:Nat):chN a b (i+1)=if a[i]?=b[i]? then chN a b i else chN a b i++[i]:=rfl
def ints (l:List Nat):List Int:=l.map fun y:Nat=>(y:Int)
theorem Am (l:List Nat):(ints l).length=l.length:=List.length_map ..
theorem Ed (l:List Nat) (i:Nat):ints (l++[i])=ints l++[(i:Int)]:=by simp [ints]
def chg (a b:List aE):List Nat:=chN a b b.length
theorem yG (a b:List aE): ∀ i,(chN a b i).length≤i
 | 0=>Nat.le_refl _
 | i+1=>by
  have:=yG a b i
  unfold chN
  split
  ·omega
  ·simp; omega
theorem yH (a b:List aE): ∀ i,∀ y∈chN a b i,y < i
 | 0,y,h=>by cases h
 | i+1,y,h=>by
  unfold chN at h
  split at h
  ·exact Nat.lt_succ_of_lt (yH a b i y h)
  ·rcases List.mem_append.1 h with h | h
   ·exact Nat.lt_succ_of_lt (yH a b i y h)
   ·rw [List.mem_singleton.1 h]; exact Nat.lt_succ_self _
theorem Bx (a b:aM) (hl:b.rows.length≤1000) (hr: ∀ r∈a.rows,r.cells.length≤1000000):kC a b=some (ints (chg a.rows b.rows)):=by
 unfold kC
 have e0:ji a b=some (b,a):=rfl
 rw [e0,aA]
 have h:=tz (σ:=List Int) (fun (s44:List Int) (x15:Int×aE)=>(Option.bind (chk (eL s44.length [x15.1].length 8)) fun _=>some ((s44++[x15.1]),true))) (fun i=>ints (chN a.rows b.rows i)) a b (by omega) hr (by
  intro i hi
  have e1:b.rows[i]?=some b.rows[i]:=List.getElem?_eq_getElem hi
  split
  ·rename_i he
   rw [nN,if_pos (he.trans e1.symm)]
  ·rename_i he
   have:=yG a.rows b.rows i
   rw [bR (by rw [Am]; simp; omega),aA]
   rw [nN,if_neg (fun hh=>he (Eq.trans hh e1)),Ed])
 show Option.bind (gB _ (ints (chN a.rows b.rows 0)) b a) _=_
 rw [h,aA]
 rfl
end Go.Tw.X
set_option linter.unusedVariables false
set_option linter.unusedSimpArgs false
namespace Go.Tw.X
open Go Go.Tw
def n7 (s:aM):Bool:=fV s || !mN s
theorem xN {s:aM}:(jg s=noS)↔n7 s=true:=by
 unfold jg n7
 constructor
 ·intro h
  split at h
  ·rename_i hb
   rcases hb with hb | hb <;> simp [hb]
  ·exact absurd h (FE s)
 ·intro h
  rw [if_pos]
  simpa using h
theorem An (s:aM) (h:SW s) (hp:(s.rows.flatMap eT).length≤1000000):jD s=some (!n7 s):=by
 unfold jD
 rw [yq s h hp,aA]
 have e:((jg s).toList == (ByteArray.mk #[]).toList)=decide (jg s=noS):=qS _ noS
 rw [e]
 cases hb:n7 s with
 | true=>rw [decide_eq_true (xN.2 hb)]
 | false=>rw [decide_eq_false (fun hh=>by rw [xN.1 hh] at hb; cases hb)]
def pch (b:List aE) (l:List Nat):List Int:=l.flatMap fun y:Nat=>cD (y:Int)++eT (b[y]?.getD yi)
def rQ (a b:aM):List Int:=[((nW (jg a):Nat):Int),b.k,b.w,b.h,b.x,b.y].flatMap cD++(cD b.title.size++sbs b.title)++[b.len,b.chain].flatMap cD++gP b.begun++cD ((chg a.rows b.rows).length:Int)
def pM (a b:aM):List Int:=rQ a b++pch b.rows (chg a.rows b.rows)
def Ee (a b:aM):Bool:= !mN a || n7 b
def lA (a b:aM):ByteArray:=if Ee a b then noS else fR (pM a b)
theorem Ao (b:List aE) (l:List Nat) (i:Nat) (hi:i < b.length):pch b (l++[i])=pch b l++(cD (i:Int)++eT b[i]):=by
 unfold pch
 rw [List.flatMap_append,List.flatMap_singleton,List.getElem?_eq_getElem hi]
 rfl
theorem CX (a b:List aE): ∀ i,i≤b.length→(pch b (chN a b i)).length≤9*i+((b.take i).flatMap eT).length
 | 0,_=>by simp [chN,pch]
 | i+1,hi=>by
  have ih:=CX a b i (by omega)
  have h9:=dW (i:Int)
  rw [List.take_succ_eq_append_getElem (show i < b.length by omega),List.flatMap_append,List.flatMap_singleton,List.length_append,nN]
  split
  ·omega
  ·rw [Ao _ _ _ (by omega),List.length_append,List.length_append]
   omega
theorem GL (a b:List aE) (hb:(b.flatMap eT).length≤12000) (hl:b.length≤1000) (i:Nat) (hi:i≤b.length):(pch b (chN a b i)).length≤21000:=by
 have h1:=CX a b i hi
 have h2:=yp b i
 omega
theorem tB (L:List Int):(L.flatMap cD).length≤9*L.length:=by
 induction L with
 | nil=>simp
 | cons a M ih =>
  rw [List.flatMap_cons,List.length_append,List.length_cons]
  have:=dW a
  omega
theorem xO (l:List aN):(gP l).length≤9+18*l.length:=by
 unfold gP
 have h1:=dW (l.length:Int)
 have h2:=qW l
 rw [List.length_append]
 omega
theorem xP (a b:aM) (h:SW b):(rQ a b).length≤40000:=by
 unfold rQ
 have h1:=tB [((nW (jg a):Nat):Int),b.k,b.w,b.h,b.x,b.y]
 have h2:=tB [b.len,b.chain]
 have h3:=dW (b.title.size:Int)
 have h4:=dW ((chg a.rows b.rows).length:Int)
 have h5:=xO b.begun
 have h6:=h.bl
 have h7:=h.tl
 have h8:=bL b.title
 simp only [List.length_append,List.length_cons,List.length_nil] at h1 h2 ⊢
 omega
theorem CY (l:List aN):BB (gP l):=dP (fW _) (kv fun g _=>Fz g)
theorem GM (b:List aE) (l:List Nat):BB (pch b l):=kv fun y _=>dP (fW _) (wx _)
theorem diff_eq (a b:aM) (ha:SW a) (hb:SW b) (pa:(a.rows.flatMap eT).length≤12000) (pb:(b.rows.flatMap eT).length≤12000):lr a b=some (lA a b):=by
 unfold lr lA
 have hc:((Option.bind (eJ a) fun c=>(bif (c != 0) then some true else (Option.bind (jD b) fun d=>some (!d)))):Option Bool)=some (Ee a b):=by
  rw [s7 a ha,aA,An b hb (by omega),aA]
  unfold Ee
  cases mN a <;> cases n7 b <;> rfl
 rw [hc,aA]
 cases hd:Ee a b with
 | true=>rw [cond_true,if_pos rfl]; rfl
 | false =>
  rw [cond_false,if_neg (by simp),vh a ha pa,aA]
  have har: ∀ r∈a.rows,r.cells.length≤1000000:=fun r hr=>by have:=(ha.ro r hr).2; omega
  have hrl:=hb.rl
  have htl:=hb.tl
  have hbl:=hb.bl
  have h1:=tB [((nW (jg a):Nat):Int),b.k,b.w,b.h,b.x,b.y]
  have h2:=tB [b.len,b.chain]
  have h3:=dW (b.title.size:Int)
  have h5:=xO b.begun
  have h8:=bL b.title
  have hdl:=xP a b hb
  simp only [List.length_cons,List.length_nil] at h1 h2
  show Option.bind (cQ ⟨[]⟩ _) _=_
  rw [mv _ _ (by simp),aA,List.nil_append,zu _ _ (by omega),aA,mv _ _ (by simp only [List.length_append,List.length_cons,List.length_nil]; omega),aA,wq _ hbl hb.gl,aA,s8 _ _ (by rw [lu]; simp only [List.length_append]; omega),aA,mw _ (CY _),Bx a b hrl har,aA,mv _ _ (by simp only [List.length_append,List.length_cons,List.length_nil]; omega),aA]
  have e0:ji a b=some (b,a):=rfl
  rw [e0,aA]
  have hh:([((nW (jg a):Nat):Int),b.k,b.w,b.h,b.x,b.y].flatMap cD++(cD b.title.size++sbs b.title)++[b.len,b.chain].flatMap cD++gP b.begun++[((ints (chg a.rows b.rows)).length:Int)].flatMap cD)=rQ a b:=by
   unfold rQ
   rw [Am,List.flatMap_singleton]
  rw [hh]
  have h:=tz (σ:=cE) (fun (s376:cE) (x278:Int×aE)=>(Option.bind (cQ s376 [x278.1]) fun e=>(Option.bind (jb x278.2) fun f=>(Option.bind (gn e [f]) fun g=>some (g,true))))) (fun i=>⟨rQ a b++pch b.rows (chN a.rows b.rows i)⟩) a b (by omega) har (by
   intro i hi
   have e1:b.rows[i]?=some b.rows[i]:=List.getElem?_eq_getElem hi
   split
   ·rename_i he
    rw [nN,if_pos (he.trans e1.symm)]
   ·rename_i he
    have hp1:=GL a.rows b.rows pb hrl i (by omega)
    have hro:=hb.ro _ (List.getElem_mem hi)
    have h9:=dW (i:Int)
    have hl1:=yp b.rows (i+1)
    rw [List.take_succ_eq_append_getElem hi,List.flatMap_append,List.flatMap_singleton,List.length_append] at hl1
    rw [mv _ _ (by simp only [List.length_append,List.length_cons,List.length_nil]; omega),aA,wo _ hro.2 hro.1,aA,List.flatMap_singleton,s8 _ _ (by rw [lu]; simp only [List.length_append]; omega),aA,mw _ (wx _),nN,if_neg (fun hh=>he (Eq.trans hh e1)),Ao _ _ _ hi]
    simp only [List.append_assoc])
  have e1:(⟨rQ a b++pch b.rows (chN a.rows b.rows 0)⟩:cE)=⟨rQ a b⟩:=by
   show (⟨rQ a b++[]⟩:cE)=_
   rw [List.append_nil]
  rw [e1] at h
  rw [h,aA]
  rfl
end Go.Tw.X
set_option linter.unusedVariables false
set_option linter.unusedSimpArgs false
namespace Go.Tw.X
open Go Go.Tw
def zA (s:ByteArray):=rdS ⟨s,0⟩
def zB (s:ByteArray):=rdS (zA s).2
def zC (s:ByteArray):=dA (zB s).2 1000
def zD (s:ByteArray):=dA (zC s).2 1000
def zE (s:ByteArray):=rdS (zD s).2
def zF (s:ByteArray):=rdS (zE s).2
def zT (s:ByteArray):=sB (zF s).2
def zG (s:ByteArray):=rdS (zT s).2
def zH (s:ByteArray):=rdS (zG s).2
def zK (s:ByteArray):=bkS (zH s).2
def zN (s:ByteArray):=rdS (zK s).2
def zS (s:ByteArray):aM:=⟨(zB s).1,(zC s).1,(zD s).1,(zE s).1,(zF s).1,(zT s).1,[],(zG s).1,(zH s).1,(zK s).1⟩
def Ap (j:aU):aU:=if j.e=0 then wZ else j
theorem GN {j:aU} (h:VI j):VI (Ap j):=by
 unfold Ap
 split
 ·exact so
 ·exact h
theorem IK (j:aU):(Ap j).e≠0:=by
 unfold Ap
 split
 ·decide
 ·assumption
def dlI (h:Int) (i:aU) (last:Int):aU:=if (rdS i).1≤last∨(rdS i).1≥h then Ap (rdS i).2 else (rdS i).2
def dlL:Nat→Int→Int→aU→Int→List (Int×aE)→List (Int×aE)×aU
 | 0,_,_,i,_,l=>(l,i)
 | k+1,w,h,i,last,l=>if i.e=0 then dlL k w h (kT (dlI h i last) w).2 (rdS i).1 (l++[((rdS i).1,(kT (dlI h i last) w).1)]) else (l,i)
def zR (s:ByteArray):=dlL (zN s).1.toNat (zC s).1 (zD s).1 (zN s).2 (-1) []
theorem pt {h:Int} {i:aU} {last:Int} (hV:VI i):VI (dlI h i last):=by
 unfold dlI
 split
 ·exact GN (ik hV)
 ·exact ik hV
theorem GO {h:Int} {i:aU} {last:Int} (he:(dlI h i last).e=0):last < (rdS i).1∧(rdS i).1 < h∧dlI h i last=(rdS i).2:=by
 unfold dlI at he ⊢
 split at he
 ·exact absurd he (IK _)
 ·rename_i hc
  rw [if_neg hc]
  exact ⟨by omega,by omega,rfl⟩
theorem IM (k:Nat) (w h:Int) (i:aU) (last:Int) (l:List (Int×aE)) (he:i.e≠0):dlL k w h i last l=(l,i):=by
 cases k with
 | zero=>rfl
 | succ k=>unfold dlL; rw [if_neg he]
theorem GP {i:aU} {w:Int} (hV:VI i) (he:(kT i w).2.e=0):i.e=0:=by
 unfold kT at he
 have h1:(rrS (w.toNat+1) w (dA i 1).2 []).2.e=0:=by
  split at he
  ·exact he
  ·exact he
 have h2:=zo _ _ _ _ h1
 exact (lB h2 hV).1
theorem Jk: ∀ (k:Nat) (w h:Int) (i:aU) (last:Int) (l:List (Int×aE)),(dlL k w h i last l).2.e=0→i.e=0
 | 0,w,h,i,last,l,he=>he
 | k+1,w,h,i,last,l,he=>by
  unfold dlL at he
  split at he
  ·assumption
  ·exact he
theorem GQ: ∀ (k:Nat) (w h:Int) (i:aU) (last:Int) (l:List (Int×aE)),VI i→VI (dlL k w h i last l).2
 | 0,w,h,i,last,l,hV=>hV
 | k+1,w,h,i,last,l,hV=>by
  unfold dlL
  split
  ·exact GQ k w h _ _ _ (s6 (pt hV))
  ·exact hV
theorem CZ {α:Type} (k:Int) (x:α): ∀ l:List (Int×α),(∀ p∈l,p.1≠k)→msl k x l=l++[(k,x)]
 | [],_=>rfl
 | (j,y)::l,h=>by
  have h1:k≠j:=fun e=>h (j,y) (by simp) e.symm
  simp only [msl,if_neg h1,List.cons_append]
  rw [CZ k x l fun p hp=>h p (by simp [hp])]
theorem By (sum:Int) (x:aM) (hx:x.rows=[]) (hw:x.w≤1000) (f:bT×aU×Int×Int→Option ((bT×aU×Int×Int) ⊕ (aU×bT))) (hf:f=(fun a=>(Option.bind ((bif (decide (a.2.2.2 > 0)) then (Option.bind (cM a.2.1) fun g=>some (g == 0)) else some false):Option Bool) fun j=>(bif j then (Option.bind (bH a.2.1) fun b=>(Option.bind ((bif (decide (b.1≤a.2.2.1)) then some true else some (decide (b.1≥a.1.to.h))):Option Bool) fun m=>(Option.bind ((bif m then (Option.bind (bV b.2 1) fun c=>some c) else some b.2):Option aU) fun n=>(Option.bind (fO n a.1.to.w) fun d=>(Option.bind (chk a.1.rows.isSome) fun _=>some (.inl ((bT.mk a.1.sum (aM.mk a.1.to.k a.1.to.w a.1.to.h a.1.to.x a.1.to.y a.1.to.title ([]:List aE) a.1.to.len a.1.to.chain a.1.to.begun) (JF a.1.rows b.1 d.1)),d.2,b.1,(IntKind.i64.wrap (a.2.2.2 - 1))))))))) else some (.inr (a.2.1,(bT.mk a.1.sum (aM.mk a.1.to.k a.1.to.w a.1.to.h a.1.to.x a.1.to.y a.1.to.title ([]:List aE) a.1.to.len a.1.to.chain a.1.to.begun) a.1.rows)))))) ) :
  ∀ (k:Nat) (i:aU) (last:Int) (l l':List (Int×aE)),k≤4611686018427387904→VI i→(i.e=0→l'=l ∧ ∀ p∈l,p.1≤last) →
  ∃ m',iter f (⟨sum,x,some l'⟩,i,last,(k:Int))=some ((dlL k x.w x.h i last l).2,⟨sum,x,some m'⟩)∧((dlL k x.w x.h i last l).2.e=0→m'=(dlL k x.w x.h i last l).1):=by
 have hx2:aM.mk x.k x.w x.h x.x x.y x.title ([]:List aE) x.len x.chain x.begun=x:=by
  obtain ⟨⟩:=x
  dsimp only at hx
  subst hx
  rfl
 intro k
 induction k with
 | zero =>
  intro i last l l' hk hV hl
  refine ⟨l',cJ ?_,fun he=>(hl he).1⟩
  subst hf
  dsimp only
  rw [decide_eq_false (by omega),cond_false,aA,cond_false,hx2]
  rfl
 | succ k ih =>
  intro i last l l' hk hV hl
  by_cases he:i.e=0
  ·obtain ⟨rfl,hlast⟩:=hl he
   have hrr:=qh hV
   have hstep:f (⟨sum,x,some l'⟩,i,last,((k+1:Nat):Int))=some (.inl (⟨sum,x,some (msl (rdS i).1 (kT (dlI x.h i last) x.w).1 l')⟩,(kT (dlI x.h i last) x.w).2,(rdS i).1,(k:Int))):=by
    subst hf
    dsimp only
    have e1:cM i=some i.e:=rfl
    have e2:(i.e == 0)=true:=by simpa using he
    have e3:((bif (decide ((rdS i).1≤last)) then some true else some (decide ((rdS i).1≥x.h))):Option Bool)=some (decide ((rdS i).1≤last∨(rdS i).1≥x.h)):=or2 _ _
    have e4:((bif (decide ((rdS i).1≤last∨(rdS i).1≥x.h)) then (Option.bind (bV (rdS i).2 1) fun c=>some c) else some (rdS i).2):Option aU)=some (dlI x.h i last):=by
     unfold dlI
     by_cases hc:(rdS i).1≤last∨(rdS i).1≥x.h
     ·rw [decide_eq_true hc,cond_true,if_pos hc,uN (ik hV)]
      rfl
     ·rw [decide_eq_false hc,cond_false,if_neg hc]
    rw [decide_eq_true (by omega),cond_true,e1,aA,e2,aA,cond_true,ku _ hV,aA,e3,aA,e4,aA,wk _ _ (pt hV) hw,aA,hx2,w64 (by omega) (by omega)]
    have e5:((k+1:Nat):Int) - 1=(k:Int):=by omega
    rw [e5]
    rfl
   have hnew:(kT (dlI x.h i last) x.w).2.e=0→msl (rdS i).1 (kT (dlI x.h i last) x.w).1 l'=l'++[((rdS i).1,(kT (dlI x.h i last) x.w).1)] ∧ ∀ p∈l'++[((rdS i).1,(kT (dlI x.h i last) x.w).1)],p.1≤(rdS i).1:=by
    intro h0
    obtain ⟨h2,h3, -⟩:=GO (GP (pt hV) h0)
    refine ⟨CZ _ _ _ fun p hp e=> ?_,fun p hp=> ?_⟩
    ·have:=hlast p hp
     omega
    ·rcases List.mem_append.1 hp with hp | hp
     ·have:=hlast p hp
      omega
     ·rw [List.mem_singleton.1 hp]
      exact Int.le_refl _
   obtain ⟨m',h1,h2⟩:=ih (kT (dlI x.h i last) x.w).2 (rdS i).1 (l'++[((rdS i).1,(kT (dlI x.h i last) x.w).1)]) (msl (rdS i).1 (kT (dlI x.h i last) x.w).1 l') (by omega) (s6 (pt hV)) hnew
   have hd:dlL (k+1) x.w x.h i last l'=dlL k x.w x.h (kT (dlI x.h i last) x.w).2 (rdS i).1 (l'++[((rdS i).1,(kT (dlI x.h i last) x.w).1)]):=by
    conv=>lhs; unfold dlL
    rw [if_pos he]
   rw [hd]
   exact ⟨m',by rw [cY hstep,h1],h2⟩
  ·rw [IM _ _ _ _ _ _ he]
   refine ⟨l',cJ ?_,fun h=>absurd h he⟩
   subst hf
   dsimp only
   have e1:cM i=some i.e:=rfl
   have e2:(i.e == 0)=false:=by simpa using he
   rw [decide_eq_true (by omega),cond_true,e1,aA,e2,aA,cond_false,hx2]
theorem Aq {i:aU} (h:VI i):ko i=some (dA i 1000):=size_eq h
theorem GR (s:ByteArray) (h:s.size≤1000000): ∃ m',mf s=some (⟨(zA s).1,zS s,some m'⟩,pj (zR s).2)∧((zR s).2.e=0→m'=(zR s).1):=by
 have v0:VI (⟨s,0⟩:aU):=⟨h,.inl rfl⟩
 have vA:VI (zA s).2:=ik v0
 have vB:VI (zB s).2:=ik vA
 have vC:VI (zC s).2:=gm _ vB
 have vD:VI (zD s).2:=gm _ vC
 have vE:VI (zE s).2:=ik vD
 have vF:VI (zF s).2:=ik vE
 have vT:VI (zT s).2:=wu vF
 have vG:VI (zG s).2:=ik vT
 have vH:VI (zH s).2:=ik vG
 have vK:VI (zK s).2:=wv vH
 have vN:VI (zN s).2:=ik vK
 have hn:=qh vK
 have hw:(zS s).w≤1000:=(jj (m:=1000) vB (by omega)).2
 obtain ⟨N,hN⟩:=Int.eq_ofNat_of_zero_le (show 0≤(zN s).1 from hn.1)
 have hN2:N≤4611686018427387904:=by have:(zN s).1≤4611686018427387904:=hn.2; omega
 obtain ⟨m',h1,h2⟩:=By (zA s).1 (zS s) rfl hw _ rfl N (zN s).2 (-1) [] [] hN2 vN (fun _=>⟨rfl,fun p hp=>by cases hp⟩)
 have hR:zR s=dlL N (zS s).w (zS s).h (zN s).2 (-1) []:=by
  unfold zR
  rw [hN,Int.toNat_natCast]
  rfl
 rw [← hR] at h1 h2
 refine ⟨m',?_,h2⟩
 unfold mf
 have e0:ow s=some ⟨s,0⟩:=rfl
 have e1:bH ⟨s,0⟩=some (zA s):=ku _ v0
 have e2:bH (zA s).2=some (zB s):=ku _ vA
 have e3:ko (zB s).2=some (zC s):=Aq vB
 have e4:ko (zC s).2=some (zD s):=Aq vC
 have e5:bH (zD s).2=some (zE s):=ku _ vD
 have e6:bH (zE s).2=some (zF s):=ku _ vE
 have e7:iR (zF s).2=some (zT s):=Cj _ vF
 have e8:bH (zT s).2=some (zG s):=ku _ vT
 have e9:bH (zG s).2=some (zH s):=ku _ vG
 have e10:kf (zH s).2=some (zK s):=zv _ vH
 have e11:bH (zK s).2=some (zN s):=ku _ vK
 rw [e0,aA,e1,aA,e2,aA,e3,aA,e4,aA,e5,aA,e6,aA,e7,aA,e8,aA,e9,aA,e10,aA,e11,aA]
 have hS:aM.mk (zB s).1 (zC s).1 (zD s).1 (zE s).1 (zF s).1 (zT s).1 ([]:List aE) (zG s).1 (zH s).1 (zK s).1=zS s:=rfl
 rw [hS,hN,h1,aA,Ft,aA]
 rfl
def lC (A:List aE) (l:List (Int×aE)):Nat→Nat→List aE→Option (List aE)
 | 0,_,acc=>some acc
 | k+1,y,acc=>match mgl (y:Int) l,A[y]? with
  | some r,some q=>if q=r then none else lC A l k (y+1) (acc++[r])
  | some r,none=>lC A l k (y+1) (acc++[r])
  | none,some q=>lC A l k (y+1) (acc++[q])
  | none,none=>none
theorem Bz (sum:Int) (x a:aM) (l:List (Int×aE)) (H:Nat) (hH:H≤1000) (hh:x.h=(H:Int)) (ha: ∀ r∈a.rows,r.cells.length≤1000000) (f:bT×Int→Option ((bT×Int) ⊕ (bT ⊕ (Bool×bT)))) (hf:f=(fun b=>(bif (decide (b.2 < x.h)) then (Option.bind (gQ a b.2) fun c=>(Option.bind ((Option.bind ((bif (rX b.1.rows b.2) then (bif c.2 then (Option.bind (gZ c.1 (mgd b.1.rows b.2 (aE.mk ([]:List aG) false))) fun e=>some e) else some false) else some false):Option Bool) fun d=>(Option.bind ((bif d then some d else (bif (!(rX b.1.rows b.2)) then some (!c.2) else some false)):Option Bool) fun g=>(bif g then (kb (kO (some (false,(bT.mk b.1.sum (aM.mk b.1.to.k b.1.to.w b.1.to.h b.1.to.x b.1.to.y b.1.to.title b.1.to.rows b.1.to.len b.1.to.chain b.1.to.begun) b.1.rows))))) else (bif (!(rX b.1.rows b.2)) then some (.inl c.1) else some (.inl (mgd b.1.rows b.2 (aE.mk ([]:List aG) false))))))):Option (aE ⊕ ((bT×Int) ⊕ (bT ⊕ (Bool×bT))))) fun | .inl e1033=>(Option.bind (chk (eL b.1.to.rows.length [e1033].length 32)) fun _=>some (.inl ((bT.mk b.1.sum (aM.mk b.1.to.k b.1.to.w b.1.to.h b.1.to.x b.1.to.y b.1.to.title (b.1.to.rows++[e1033]) b.1.to.len b.1.to.chain b.1.to.begun) b.1.rows),(IntKind.i64.wrap (b.2+1))))) | .inr w=>some w)) else some (.inr (.inl (bT.mk b.1.sum (aM.mk b.1.to.k b.1.to.w b.1.to.h b.1.to.x b.1.to.y b.1.to.title b.1.to.rows b.1.to.len b.1.to.chain b.1.to.begun) b.1.rows))))) ) :
  ∀ (k y:Nat) (acc:List aE),y+k=H→acc.length=y →
  (∀ out,lC a.rows l k y acc=some out→iter f (⟨sum,kc x acc,some l⟩,(y:Int))=some (.inl ⟨sum,kc x out,some l⟩))∧(lC a.rows l k y acc=none → ∃ p',iter f (⟨sum,kc x acc,some l⟩,(y:Int))=some (.inr (false,p'))):=by
 intro k
 induction k with
 | zero =>
  intro y acc hy hl
  refine ⟨fun out ho=> ?_,fun ho=>by cases ho⟩
  injection ho with ho
  subst ho
  refine cJ ?_
  subst hf
  dsimp only
  rw [decide_eq_false (by omega),cond_false]
 | succ k ih =>
  intro y acc hy hl
  have hgo: ∀ r:aE,(∀ out,lC a.rows l k (y+1) (acc++[r])=some out→iter f (⟨sum,kc x (acc++[r]),some l⟩,((y+1:Nat):Int))=some (.inl ⟨sum,kc x out,some l⟩))∧(lC a.rows l k (y+1) (acc++[r])=none → ∃ p',iter f (⟨sum,kc x (acc++[r]),some l⟩,((y+1:Nat):Int))=some (.inr (false,p'))):=fun r=>ih (y+1) (acc++[r]) (by omega) (by simp [hl])
  have hap:chk (eL acc.length 1 32)=some ():=bR (by omega)
  have hwr:IntKind.i64.wrap ((y:Int)+1)=((y+1:Nat):Int):=by rw [w64 (by omega) (by omega)]; rfl
  -- a step that goes on with a row
  have hon: ∀ r:aE,f (⟨sum,kc x acc,some l⟩,(y:Int))=some (.inl (⟨sum,kc x (acc++[r]),some l⟩,((y+1:Nat):Int)))→lC a.rows l (k+1) y acc=lC a.rows l k (y+1) (acc++[r])→(∀ out,lC a.rows l (k+1) y acc=some out→iter f (⟨sum,kc x acc,some l⟩,(y:Int))=some (.inl ⟨sum,kc x out,some l⟩))∧(lC a.rows l (k+1) y acc=none → ∃ p',iter f (⟨sum,kc x acc,some l⟩,(y:Int))=some (.inr (false,p'))):=by
   intro r h1 h2
   rw [h2,cY h1]
   exact hgo r
  have hoff:(∃ p',f (⟨sum,kc x acc,some l⟩,(y:Int))=some (.inr (.inr (false,p'))))→lC a.rows l (k+1) y acc=none→(∀ out,lC a.rows l (k+1) y acc=some out→iter f (⟨sum,kc x acc,some l⟩,(y:Int))=some (.inl ⟨sum,kc x out,some l⟩))∧(lC a.rows l (k+1) y acc=none → ∃ p',iter f (⟨sum,kc x acc,some l⟩,(y:Int))=some (.inr (false,p'))):=by
   rintro ⟨p',h1⟩ h2
   rw [h2]
   exact ⟨fun out ho=>(by cases ho),fun _=>⟨p',cJ h1⟩⟩
  have hd:decide ((y:Int) < x.h)=true:=decide_eq_true (by omega)
  cases hm:mgl (y:Int) l with
  | some r =>
   have m1:rX (some l) (y:Int)=true:=by simp [rX,hm]
   have m2: ∀ z,mgd (some l) (y:Int) z=r:=fun z=>by simp [mgd,hm]
   by_cases hya:y < a.rows.length
   ·have e1:a.rows[y]?=some a.rows[y]:=List.getElem?_eq_getElem hya
    by_cases hq:a.rows[y]=r
    ·refine hoff ⟨⟨sum,kc x acc,some l⟩,?_⟩ (by simp only [lC,hm,e1,if_pos hq])
     subst hf
     dsimp only
     rw [hd,cond_true,tw a y hya,aA]
     dsimp only
     rw [m1,m2,cond_true,cond_true,u9 _ _ (ha _ (List.getElem_mem hya)),decide_eq_true hq]
     rfl
    ·refine hon r ?_ (by simp only [lC,hm,e1,if_neg hq])
     subst hf
     dsimp only
     rw [hd,cond_true,tw a y hya,aA]
     dsimp only
     rw [m1,m2,cond_true,cond_true,u9 _ _ (ha _ (List.getElem_mem hya)),decide_eq_false hq]
     show Option.bind (chk (eL acc.length 1 32)) _=_
     rw [hap,aA,hwr]
     rfl
   ·have e1:a.rows[y]?=none:=List.getElem?_eq_none (by omega)
    refine hon r ?_ (by simp only [lC,hm,e1])
    subst hf
    dsimp only
    rw [hd,cond_true,ur a y hya,aA]
    dsimp only
    rw [m1,m2]
    show Option.bind (chk (eL acc.length 1 32)) _=_
    rw [hap,aA,hwr]
    rfl
  | none =>
   have m1:rX (some l) (y:Int)=false:=by simp [rX,hm]
   by_cases hya:y < a.rows.length
   ·have e1:a.rows[y]?=some a.rows[y]:=List.getElem?_eq_getElem hya
    refine hon a.rows[y] ?_ (by simp only [lC,hm,e1])
    subst hf
    dsimp only
    rw [hd,cond_true,tw a y hya,aA]
    dsimp only
    rw [m1]
    show Option.bind (chk (eL acc.length 1 32)) _=_
    rw [hap,aA,hwr]
    rfl
   ·have e1:a.rows[y]?=none:=List.getElem?_eq_none (by omega)
    refine hoff ⟨⟨sum,kc x acc,some l⟩,?_⟩ (by simp only [lC,hm,e1])
    subst hf
    dsimp only
    rw [hd,cond_true,ur a y hya,aA]
    dsimp only
    rw [m1]
    rfl
end Go.Tw.X
set_option linter.unusedVariables false
set_option linter.unusedSimpArgs false
namespace Go.Tw.X
open Go Go.Tw
def oe (a:aM) (s:ByteArray):aM×Int :=
 if mN a=false then (mA,1)
 else if pj (zR s).2≠0 then (mA,pj (zR s).2)
 else if (zA s).1≠((nW (jg a):Nat):Int) then (mA,7)
 else match lC a.rows (zR s).1 (zD s).1.toNat 0 [] with
  | none=>(mA,1)
  | some l=>if n7 (kc (zS s) l) then (mA,1) else (kc (zS s) l,0)
theorem Ef {i:aU} (hV:VI i) (h:pj i=0):i.e=0∧i.s=noS:=by
 unfold pj at h
 split at h
 ·cases h
 ·rename_i h1
  exact ⟨h,Classical.not_not.1 h1⟩
theorem zVI {s:ByteArray} (h:s.size≤1000000):VI (zB s).2∧VI (zC s).2∧VI (zF s).2∧VI (zH s).2∧VI (zK s).2∧VI (zN s).2∧VI (zR s).2:=by
 have v0:VI (⟨s,0⟩:aU):=⟨h,.inl rfl⟩
 have vB:VI (zB s).2:=ik (ik v0)
 have vC:VI (zC s).2:=gm _ vB
 have vF:VI (zF s).2:=ik (ik (gm _ vC))
 have vH:VI (zH s).2:=ik (ik (wu vF))
 have vK:VI (zK s).2:=wv vH
 have vN:VI (zN s).2:=ik vK
 exact ⟨vB,vC,vF,vH,vK,vN,GQ _ _ _ _ _ _ vN⟩
def prl (l:List (Int×aE)):List Int:=l.flatMap fun p=>cD p.1++eT p.2
theorem IN {i:aU} (hV:VI i) (h:(rdS i).2.e=0):i.e=0∧sbs i.s=cD (rdS i).1++sbs (rdS i).2.s:=by
 obtain ⟨h1,w,h2,h3,h4⟩:=zl h hV
 exact ⟨h1,by rw [h2,k6 h3]; exact h4⟩
theorem xQ: ∀ (k:Nat) (w h:Int) (i:aU) (last:Int) (l:List (Int×aE)),VI i→(dlL k w h i last l).2.e=0 → ∃ D,prl (dlL k w h i last l).1=prl l++D∧sbs i.s=D++sbs (dlL k w h i last l).2.s
 | 0,w,h,i,last,l,hV,he=>⟨[],by simp [dlL],by simp [dlL]⟩
 | k+1,w,h,i,last,l,hV,he=>by
  have hi:=Jk _ _ _ _ _ _ he
  unfold dlL at he ⊢
  rw [if_pos hi] at he ⊢
  have h0:=Jk _ _ _ _ _ _ he
  have h1:=GP (pt hV) h0
  obtain ⟨h2,h3,h4⟩:=GO h1
  obtain ⟨D,d1,d2⟩:=xQ k w h _ _ _ (s6 (pt hV)) he
  have hr:(rdS i).2.e=0:=by rw [← h4]; exact h1
  obtain ⟨-,h5⟩:=IN hV hr
  have h6:=A9 (pt (h:=h) (last:=last) hV) h0
  refine ⟨cD (rdS i).1++eT (kT (dlI h i last) w).1++D,?_,?_⟩
  ·rw [d1]
   unfold prl
   rw [List.flatMap_append,List.flatMap_singleton]
   simp only [List.append_assoc]
  ·rw [h5,← h4,h6,d2]
   simp only [List.append_assoc]
theorem Kx {i:aU} {m:Nat} (h:SZ m i):(sB i).2.s.size≤m:=by
 by_cases he:(sB i).2.e=0
 ·obtain ⟨-,hw⟩:=JV h.1 he
  have:=congrArg List.length hw
  rw [List.length_append,bL,bL] at this
  have:=h.2
  omega
 ·rcases (wu h.1).2 with h1 | h1
  ·exact absurd h1 he
  ·rw [h1]; exact Nat.zero_le _
theorem LH {i:aU} {m:Nat} (h:SZ m i):(bkS i).2.s.size≤m:=by
 by_cases he:(bkS i).2.e=0
 ·obtain ⟨-,hw⟩:=DQ h.1 he
  have:=congrArg List.length hw
  rw [List.length_append,bL,bL] at this
  have:=h.2
  omega
 ·rcases (wv h.1).2 with h1 | h1
  ·exact absurd h1 he
  ·rw [h1]; exact Nat.zero_le _
theorem Ar: ∀ (k:Nat) (w h:Int) (i:aU) (last:Int) (l:List (Int×aE)),VI i→w≤1000→(∀ p∈l,okR p.2.cells∧p.2.cells.length≤1000) → ∀ p∈(dlL k w h i last l).1,okR p.2.cells∧p.2.cells.length≤1000
 | 0,w,h,i,last,l,hV,hw,hl=>hl
 | k+1,w,h,i,last,l,hV,hw,hl=>by
  unfold dlL
  split
  ·refine Ar k w h _ _ _ (s6 (pt hV)) hw ?_
   intro p hp
   rcases List.mem_append.1 hp with hp | hp
   ·exact hl p hp
   ·rw [List.mem_singleton.1 hp]
    exact HG (pt hV) hw
  ·exact hl
theorem yI {α:Type} {k:Int} {x:α}: ∀ {l:List (Int×α)},mgl k l=some x→(k,x)∈l
 | [],h=>by cases h
 | (j,y)::l,h=>by
  simp only [mgl] at h
  split at h
  ·rename_i hk
   injection h with h
   subst h hk
   exact List.mem_cons_self ..
  ·exact List.mem_cons_of_mem _ (yI h)
theorem wO {A:List aE} {l:List (Int×aE)} (Q:aE→Prop) (hA: ∀ r∈A,Q r) (hl: ∀ p∈l,Q p.2): ∀ (k y:Nat) (acc out:List aE),lC A l k y acc=some out→(∀ r∈acc,Q r)→(∀ r∈out,Q r)∧out.length=acc.length+k
 | 0,y,acc,out,h,hacc=>by
  injection h with h
  subst h
  exact ⟨hacc,rfl⟩
 | k+1,y,acc,out,h,hacc=>by
  have go: ∀ r,Q r→lC A l k (y+1) (acc++[r])=some out→(∀ r∈out,Q r)∧out.length=acc.length+(k+1):=by
   intro r hr h2
   obtain ⟨h3,h4⟩:=wO Q hA hl k (y+1) (acc++[r]) out h2 (fun q hq=>by
    rcases List.mem_append.1 hq with hq | hq
    ·exact hacc q hq
    ·rw [List.mem_singleton.1 hq]; exact hr)
   refine ⟨h3,h4.trans ?_⟩
   simp only [List.length_append,List.length_cons,List.length_nil]
   omega
  simp only [lC] at h
  split at h
  ·rename_i r q h1 h2
   split at h
   ·cases h
   ·exact go r (hl _ (yI h1)) h
  ·rename_i r h1 h2
   exact go r (hl _ (yI h1)) h
  ·rename_i q h1 h2
   exact go q (hA _ (List.mem_of_getElem? h2)) h
  ·cases h
def tot (y:Int):List (Int×aE)→Nat
 | []=>0
 | (j,z)::l=>(if y≤j then (eT z).length else 0)+tot y l
theorem wP (y:Int): ∀ l,tot (y+1) l≤tot y l
 | []=>Nat.le_refl _
 | (j,z)::l=>by
  have:=wP y l
  simp only [tot]
  by_cases h1:y+1≤j
  ·rw [if_pos h1,if_pos (by omega)]; omega
  ·rw [if_neg h1]; omega
theorem yJ (y:Int) {r:aE}: ∀ l,mgl y l=some r→(eT r).length+tot (y+1) l≤tot y l
 | [],h=>by cases h
 | (j,z)::l,h=>by
  simp only [mgl] at h
  simp only [tot]
  split at h
  ·rename_i hk
   injection h with h
   subst h hk
   have:=wP y l
   rw [if_neg (by omega),if_pos (Int.le_refl _)]
   omega
  ·have:=yJ y l h
   by_cases h1:y+1≤j
   ·rw [if_pos h1,if_pos (by omega)]; omega
   ·rw [if_neg h1]; omega
theorem GS (y:Int): ∀ l,tot y l≤(prl l).length
 | []=>Nat.le_refl _
 | (j,z)::l=>by
  have:=GS y l
  unfold prl at this ⊢
  simp only [tot,List.flatMap_cons,List.length_append]
  split <;> omega
theorem As {A:List aE} {l:List (Int×aE)}: ∀ (k y:Nat) (acc out:List aE),lC A l k y acc=some out→(out.flatMap eT).length≤(acc.flatMap eT).length+tot (y:Int) l+((A.drop y).flatMap eT).length
 | 0,y,acc,out,h=>by
  injection h with h
  subst h
  omega
 | k+1,y,acc,out,h=>by
  have hn:=wP (y:Int) l
  have e1:((y+1:Nat):Int)=(y:Int)+1:=rfl
  have hd: ∀ q,A[y]?=some q→((A.drop y).flatMap eT).length=(eT q).length+((A.drop (y+1)).flatMap eT).length:=by
   intro q hq
   obtain ⟨h1,h2⟩:=List.getElem?_eq_some_iff.1 hq
   rw [List.drop_eq_getElem_cons h1,List.flatMap_cons,List.length_append,h2]
  have go: ∀ r,lC A l k (y+1) (acc++[r])=some out→(out.flatMap eT).length≤(acc.flatMap eT).length+(eT r).length+tot ((y:Int)+1) l+((A.drop (y+1)).flatMap eT).length:=by
   intro r h2
   have:=As k (y+1) (acc++[r]) out h2
   rw [List.flatMap_append,List.flatMap_singleton,List.length_append,e1] at this
   exact this
  have hdd:((A.drop (y+1)).flatMap eT).length≤((A.drop y).flatMap eT).length:=by
   by_cases hy:y < A.length
   ·rw [hd _ (List.getElem?_eq_getElem hy)]; omega
   ·rw [List.drop_eq_nil_of_le (by omega:A.length≤y+1)]
    exact Nat.zero_le _
  simp only [lC] at h
  split at h
  ·rename_i r q h1 h2
   split at h
   ·cases h
   ·have:=go r h
    have:=yJ (y:Int) l h1
    omega
  ·rename_i r h1 h2
   have:=go r h
   have:=yJ (y:Int) l h1
   omega
  ·rename_i q h1 h2
   have:=go q h
   have:=hd q h2
   omega
  ·cases h
theorem Ky {s:ByteArray} (h:s.size≤1000000) (he:(zR s).2.e=0):(prl (zR s).1).length≤s.size:=by
 obtain ⟨vB,vC,vF,vH,vK,vN,vR⟩:=zVI h
 obtain ⟨D,h1,h2⟩:=xQ _ _ _ _ _ _ vN he
 have hD:prl (zR s).1=D:=h1
 have h3:=congrArg List.length h2
 rw [List.length_append,bL,← hD] at h3
 have v0:SZ s.size (⟨s,0⟩:aU):=⟨⟨h,.inl rfl⟩,Nat.le_refl _⟩
 have s1:SZ s.size (zF s).2:=uO (uO (Fu _ (Fu _ (uO (uO v0)))))
 have s2:SZ s.size (zT s).2:=⟨wu s1.1,Kx s1⟩
 have s3:SZ s.size (zH s).2:=uO (uO s2)
 have s4:SZ s.size (zK s).2:=⟨wv s3.1,LH s3⟩
 have s5:=(uO s4).2
 have:(zN s).2.s.size≤s.size:=s5
 omega
theorem At {a:aM} {s:ByteArray} {l:List aE} (ha:SW a) (pa:(a.rows.flatMap eT).length≤12000) (h:s.size≤100000) (ht:(zT s).1.size≤1000) (he:(zR s).2.e=0) (hl:lC a.rows (zR s).1 (zD s).1.toNat 0 []=some l):SW (kc (zS s) l)∧(l.flatMap eT).length≤200000:=by
 obtain ⟨vB,vC,vF,vH,vK,vN,vR⟩:=zVI (s:=s) (by omega)
 have b1:=jj (m:=1000) vB (by omega)
 have c1:=jj (m:=1000) vC (by omega)
 have hw1:0≤(zC s).1:=b1.1
 have hw2:(zC s).1≤1000:=b1.2
 have hh1:0≤(zD s).1:=c1.1
 have hh2:(zD s).1≤1000:=c1.2
 have bo:=JW vH
 have hrows:=Ar (zN s).1.toNat (zC s).1 (zD s).1 (zN s).2 (-1) [] vN hw2 (fun p hp=>by cases hp)
 obtain ⟨p1,p2⟩:=wO (fun r=>okR r.cells∧r.cells.length≤1000) ha.ro hrows _ _ _ _ hl (fun r hr=>by cases hr)
 have p3:=As _ _ _ _ hl
 have p4:=GS ((0:Nat):Int) (zR s).1
 have p5:=Ky (by omega) he
 have p6:((a.rows.drop 0).flatMap eT).length≤12000:=by simpa using pa
 refine ⟨⟨?_,?_,bo.1,p1,?_,Nat.le_trans bo.2 (by decide),ht⟩,?_⟩
 ·show _≤(zC s).1∧(zC s).1≤_
  omega
 ·show _≤(zD s).1∧(zD s).1≤_
  omega
 ·show l.length≤1000
  rw [p2]
  simp only [List.length_nil]
  omega
 ·simp only [List.flatMap_nil,List.length_nil] at p3
  omega
theorem GU (a:aM) (s:ByteArray) (ha:SW a) (pa:(a.rows.flatMap eT).length≤12000) (h:s.size≤100000) (ht:(zT s).1.size≤1000) (he:(zR s).2.e=0) (sum:Int) :
  (∀ l,lC a.rows (zR s).1 (zD s).1.toNat 0 []=some l→fD ⟨sum,zS s,some (zR s).1⟩ a=some (!n7 (kc (zS s) l),⟨sum,kc (zS s) l,some (zR s).1⟩))∧(lC a.rows (zR s).1 (zD s).1.toNat 0 []=none → ∃ p',fD ⟨sum,zS s,some (zR s).1⟩ a=some (false,p')):=by
 obtain ⟨vB,vC,vF,vH,vK,vN,vR⟩:=zVI (s:=s) (by omega)
 have c1:=jj (m:=1000) vC (by omega)
 have hh1:0≤(zD s).1:=c1.1
 have hh2:(zD s).1≤1000:=c1.2
 have har: ∀ r∈a.rows,r.cells.length≤1000000:=fun r hr=>by have:=(ha.ro r hr).2; omega
 obtain ⟨H,hH⟩:=Int.eq_ofNat_of_zero_le hh1
 obtain ⟨b1,b2⟩:=Bz sum (zS s) a (zR s).1 H (by omega) hH har _ rfl H 0 [] (by omega) rfl
 have hH2:(zD s).1.toNat=H:=by rw [hH,Int.toNat_natCast]
 have hz:kc (zS s) []=zS s:=rfl
 rw [hz] at b1 b2
 refine ⟨fun l hl=> ?_,fun hl=> ?_⟩
 ·obtain ⟨SWx,pl⟩:=At ha pa h ht he hl
  rw [hH2] at hl
  have e:=b1 l hl
  unfold fD
  refine (congrArg (fun z=>Option.bind z _) e).trans ?_
  rw [aA]
  dsimp only
  have hm:jD (kc (zS s) l)=some (!n7 (kc (zS s) l)):=An _ SWx (by show (l.flatMap eT).length≤1000000; omega)
  show Option.bind (jD (kc (zS s) l)) _=_
  rw [hm,aA]
 ·rw [hH2] at hl
  obtain ⟨p',this⟩:=b2 hl
  refine ⟨p',?_⟩
  unfold fD
  refine (congrArg (fun z=>Option.bind z _) this).trans ?_
  rw [aA]
theorem GV (a:aM) (s:ByteArray) (ha:SW a) (pa:(a.rows.flatMap eT).length≤12000) (h:s.size≤100000) (ht:(zT s).1.size≤1000):kK a s=some (oe a s):=by
 obtain ⟨vB,vC,vF,vH,vK,vN,vR⟩:=zVI (s:=s) (by omega)
 unfold kK oe
 rw [s7 a ha,aA]
 cases hm:mN a with
 | false=>rw [if_neg (by simp),if_pos rfl]; rfl
 | true =>
  rw [if_pos rfl,if_neg (by simp)]
  obtain ⟨m',r1,r2⟩:=GR s (by omega)
  have k0:((0:Int) != 0)=false:=rfl
  rw [k0,cond_false,r1,aA]
  dsimp only
  by_cases he:pj (zR s).2=0
  ·have k1:(pj (zR s).2 != 0)=false:=by simp [he]
   rw [k1,cond_false,if_neg (fun hh=>hh he),vh a ha pa,aA]
   obtain ⟨he0, -⟩:=Ef vR he
   obtain rfl:=r2 he0
   by_cases hs:(zA s).1=((nW (jg a):Nat):Int)
   ·have k2:((zA s).1 != ((nW (jg a):Nat):Int))=false:=by simp [hs]
    rw [k2,cond_false,if_neg (fun hh=>hh hs)]
    obtain ⟨b1,b2⟩:=GU a s ha pa h ht he0 (zA s).1
    cases hl:lC a.rows (zR s).1 (zD s).1.toNat 0 [] with
    | none =>
     obtain ⟨p',b3⟩:=b2 hl
     rw [b3,aA]
     rfl
    | some l =>
     obtain ⟨SWx,pl⟩:=At ha pa h ht he0 hl
     rw [b1 l hl,aA]
     dsimp only
     cases hn:n7 (kc (zS s) l) with
     | true=>rfl
     | false =>
      rw [Bool.not_false,Bool.not_true,cond_false,if_neg (by simp),DP _ SWx,aA]
   ·have k2:((zA s).1 != ((nW (jg a):Nat):Int))=true:=by simp [hs]
    rw [k2,cond_true,if_pos hs]
    rfl
  ·have k1:(pj (zR s).2 != 0)=true:=by simp [he]
   rw [k1,cond_true,if_pos he]
   rfl
end Go.Tw.X
set_option linter.unusedVariables false
set_option linter.unusedSimpArgs false
namespace Go.Tw.X
open Go Go.Tw
theorem C6 (a b:List aE) (y:Nat): ∀ i,y∈chN a b i↔(y < i∧a[y]?≠b[y]?)
 | 0=>by simp [chN]
 | i+1=>by
  rw [nN]
  have ih:=C6 a b y i
  split
  ·rename_i h
   rw [ih]
   constructor
   ·rintro ⟨h1,h2⟩; exact ⟨by omega,h2⟩
   ·rintro ⟨h1,h2⟩
    refine ⟨?_,h2⟩
    rcases Nat.lt_succ_iff_lt_or_eq.1 h1 with h3 | h3
    ·exact h3
    ·subst h3; exact absurd h h2
  ·rename_i h
   rw [List.mem_append,ih,List.mem_singleton]
   constructor
   ·rintro (⟨h1,h2⟩ | h1)
    ·exact ⟨by omega,h2⟩
    ·subst h1; exact ⟨by omega,h⟩
   ·rintro ⟨h1,h2⟩
    rcases Nat.lt_succ_iff_lt_or_eq.1 h1 with h3 | h3
    ·exact .inl ⟨h3,h2⟩
    ·exact .inr h3
theorem sJ (a b:List aE): ∀ i,(chN a b i).Pairwise (· < ·)
 | 0=> .nil
 | i+1=>by
  rw [nN]
  split
  ·exact sJ a b i
  ·refine List.pairwise_append.2 ⟨sJ a b i,by simp,fun x hx y hy=> ?_⟩
   rw [List.mem_singleton.1 hy]
   exact yH a b i x hx
def prs (b:List aE) (C:List Nat):List (Int×aE):=C.map fun y:Nat=>((y:Int),b[y]?.getD yi)
theorem C7 (b:List aE) (y:Nat): ∀ C:List Nat,mgl (y:Int) (prs b C)=if y∈C then some (b[y]?.getD yi) else none
 | []=>rfl
 | c::C=>by
  have ih:=C7 b y C
  show (if (y:Int)=(c:Int) then some (b[c]?.getD yi) else mgl (y:Int) (prs b C))=_
  rw [ih]
  by_cases h:y=c
  ·subst h
   rw [if_pos rfl,if_pos (by simp)]
  ·rw [if_neg (by omega)]
   by_cases h2:y∈C
   ·rw [if_pos h2,if_pos (by simp [h2])]
   ·rw [if_neg h2,if_neg (by simp [h,h2])]
theorem C8 (b:List aE) (w h:Int) (hw:w≤1000) (hh:h=(b.length:Int)) (hb:b.length≤1000) (hr: ∀ r∈b,(r.cells.length:Int)=w ∧ ∀ c∈r.cells,okC c=true) {R:List Int} (hR:BB R): ∀ (C:List Nat) (last:Int) (acc:List (Int×aE)),C.Pairwise (· < ·)→(∀ y∈C,last < (y:Int)∧y < b.length)→dlL C.length w h (bI (pch b C++R)) last acc=(acc++prs b C,bI R)
 | [],last,acc,_,_=>by simp [dlL,pch,prs]
 | c::C,last,acc,hs,hl=>by
  have hc:=hl c (by simp)
  have hs2:=List.pairwise_cons.1 hs
  have hrc:=hr _ (List.getElem_mem hc.2)
  have hgc:b[c]?.getD yi=b[c]:=by rw [List.getElem?_eq_getElem hc.2]; rfl
  have hBB:BB (pch b C++R):=dP (GM _ _) hR
  have e1:pch b (c::C)++R=cD (c:Int)++(eT b[c]++(pch b C++R)):=by
   unfold pch
   rw [List.flatMap_cons,hgc]
   simp only [List.append_assoc]
  have e2:rdS (bI (pch b (c::C)++R))=((c:Int),bI (eT b[c]++(pch b C++R))):=by
   rw [e1]
   exact sC (dP (wx _) hBB) (by omega) (by omega)
  have e3:dlI h (bI (pch b (c::C)++R)) last=bI (eT b[c]++(pch b C++R)):=by
   unfold dlI
   rw [e2,if_neg (by dsimp only; omega)]
  have e4:=FA b[c] w hBB hw hrc.1 hrc.2
  show dlL (C.length+1) w h (bI (pch b (c::C)++R)) last acc=_
  unfold dlL
  rw [if_pos (show (bI (pch b (c::C)++R)).e=0 from rfl),e3,e4,e2]
  dsimp only
  rw [C8 b w h hw hh hb hr hR C (c:Int) _ hs2.2 (fun y hy=>⟨by have:=hs2.1 y hy; omega,(hl y (by simp [hy])).2⟩)]
  unfold prs
  rw [List.map_cons,hgc,List.append_assoc]
  rfl
theorem Au (a b:List aE): ∀ k y,y+k=b.length→lC a (prs b (chg a b)) k y (b.take y)=some b
 | 0,y,hy=>by
  show some (b.take y)=some b
  rw [List.take_of_length_le (by omega)]
 | k+1,y,hy=>by
  have hyb:y < b.length:=by omega
  have hb:b[y]?=some b[y]:=List.getElem?_eq_getElem hyb
  have ih:=Au a b k (y+1) (by omega)
  rw [List.take_succ_eq_append_getElem hyb] at ih
  have hm:=C7 b y (chg a b)
  have hmem:y∈chg a b↔a[y]?≠b[y]?:=by
   unfold chg
   rw [C6]
   exact ⟨fun h=>h.2,fun h=>⟨hyb,h⟩⟩
  simp only [lC]
  by_cases hc:y∈chg a b
  ·rw [if_pos hc,hb] at hm
   rw [hm]
   simp only [Option.getD_some]
   have hne:=hmem.1 hc
   rw [hb] at hne
   cases ha:a[y]? with
   | none=>exact ih
   | some q =>
    dsimp only
    rw [ha] at hne
    rw [if_neg (fun hh=>hne (by rw [hh]))]
    exact ih
  ·rw [if_neg hc] at hm
   rw [hm]
   have he:a[y]?=b[y]?:=Classical.not_not.1 fun h=>hc (hmem.2 h)
   rw [he,hb]
   exact ih
theorem xR (a b:aM) (hb:SW b) (hma:mN a=true) (hnb:n7 b=false):zT (lA a b)=(b.title,(zT (lA a b)).2)∧oe a (lA a b)=(b,0):=by
 have hbe:fV b=false∧mN b=true:=by
  unfold n7 at hnb
  cases h1:fV b <;> cases h2:mN b <;> rw [h1,h2] at hnb <;> first | exact ⟨rfl,rfl⟩ | cases hnb
 have M:=(Cr hbe.1).1 hbe.2
 have hbad:Ee a b=false:=by unfold Ee; rw [hma,hnb]; rfl
 have hs:lA a b=fR (pM a b):=by unfold lA; rw [hbad]; rfl
 rw [hs]
 generalize hC:chg a.rows b.rows=C
 have hCl:C.length≤b.rows.length:=by rw [← hC]; exact yG _ _ _
 have hrl:=hb.rl
 have htl:=M.t
 have r0:BB ([]:List Int):=Fy
 have rP:BB (pch b.rows C):=GM _ _
 obtain ⟨t11,ht11⟩: ∃ t,t=pch b.rows C:=⟨_,rfl⟩
 obtain ⟨t10,ht10⟩: ∃ t,t=cD (C.length:Int)++t11:=⟨_,rfl⟩
 obtain ⟨t9,ht9⟩: ∃ t,t=gP b.begun++t10:=⟨_,rfl⟩
 obtain ⟨t8,ht8⟩: ∃ t,t=cD b.chain++t9:=⟨_,rfl⟩
 obtain ⟨t7,ht7⟩: ∃ t,t=cD b.len++t8:=⟨_,rfl⟩
 obtain ⟨t6,ht6⟩: ∃ t,t=cD b.title.size++sbs b.title++t7:=⟨_,rfl⟩
 obtain ⟨t5,ht5⟩: ∃ t,t=cD b.y++t6:=⟨_,rfl⟩
 obtain ⟨t4,ht4⟩: ∃ t,t=cD b.x++t5:=⟨_,rfl⟩
 obtain ⟨t3,ht3⟩: ∃ t,t=cD b.h++t4:=⟨_,rfl⟩
 obtain ⟨t2,ht2⟩: ∃ t,t=cD b.w++t3:=⟨_,rfl⟩
 obtain ⟨t1,ht1⟩: ∃ t,t=cD b.k++t2:=⟨_,rfl⟩
 have hpd:pM a b=cD ((nW (jg a):Nat):Int)++t1:=by
  rw [ht1,ht2,ht3,ht4,ht5,ht6,ht7,ht8,ht9,ht10,ht11]
  unfold pM rQ
  rw [hC]
  simp only [List.flatMap_cons,List.flatMap_nil,List.append_nil,List.append_assoc]
 have q11:BB t11:=by rw [ht11]; exact rP
 have q10:BB t10:=by rw [ht10]; exact dP (fW _) q11
 have q9:BB t9:=by rw [ht9]; exact dP (CY b.begun) q10
 have q8:BB t8:=by rw [ht8]; exact dP (fW b.chain) q9
 have q7:BB t7:=by rw [ht7]; exact dP (fW b.len) q8
 have q6:BB t6:=by rw [ht6]; exact dP (dP (fW _) (qk _)) q7
 have q5:BB t5:=by rw [ht5]; exact dP (fW b.y) q6
 have q4:BB t4:=by rw [ht4]; exact dP (fW b.x) q5
 have q3:BB t3:=by rw [ht3]; exact dP (fW b.h) q4
 have q2:BB t2:=by rw [ht2]; exact dP (fW b.w) q3
 have q1:BB t1:=by rw [ht1]; exact dP (fW b.k) q2
 have hk:=M.k
 have hw:=M.w
 have hh:=M.h
 have hx:=M.x
 have hy:=M.y
 have hl:=M.l
 have hch:=M.c
 have hsum:=yv (jg a)
 have zA':zA (fR (pM a b))=(((nW (jg a):Nat):Int),bI t1):=by unfold zA; rw [hpd]; exact sC q1 (by omega) (by omega)
 have zB':zB (fR (pM a b))=(b.k,bI t2):=by unfold zB; rw [zA',ht1]; exact sC q2 (by omega) (by omega)
 have zC':zC (fR (pM a b))=(b.w,bI t3):=by unfold zC; rw [zB',ht2]; exact pE q3 (by omega) (by omega) (by omega)
 have zD':zD (fR (pM a b))=(b.h,bI t4):=by unfold zD; rw [zC',ht3]; exact pE q4 (by omega) (by omega) (by omega)
 have zE':zE (fR (pM a b))=(b.x,bI t5):=by unfold zE; rw [zD',ht4]; exact sC q5 (by omega) (by omega)
 have zF':zF (fR (pM a b))=(b.y,bI t6):=by unfold zF; rw [zE',ht5]; exact sC q6 (by omega) (by omega)
 have zT':zT (fR (pM a b))=(b.title,bI t7):=by unfold zT; rw [zF',ht6]; exact IZ b.title q7 hb.tl
 have zG':zG (fR (pM a b))=(b.len,bI t8):=by unfold zG; rw [zT',ht7]; exact sC q8 (by omega) (by omega)
 have zH':zH (fR (pM a b))=(b.chain,bI t9):=by unfold zH; rw [zG',ht8]; exact sC q9 (by omega) (by omega)
 have zK':zK (fR (pM a b))=(b.begun,bI t10):=by unfold zK; rw [zH',ht9]; exact I4 b.begun q10 M.g M.b
 have zN':zN (fR (pM a b))=((C.length:Int),bI t11):=by unfold zN; rw [zK',ht10]; exact sC q11 (by omega) (by omega)
 have zR':zR (fR (pM a b))=(prs b.rows C,bI []):=by
  unfold zR
  rw [zN',zC',zD',ht11]
  dsimp only
  rw [Int.toNat_natCast]
  have:=C8 b.rows b.w b.h (by omega) M.r.symm hrl M.rr r0 C (-1) [] (by rw [← hC]; exact sJ _ _ _) (fun y hy=>⟨by omega,by rw [← hC] at hy; exact yH _ _ _ y hy⟩)
  rw [List.append_nil,List.nil_append] at this
  exact this
 refine ⟨by rw [zT'],?_⟩
 unfold oe
 rw [hma,if_neg (by simp),zR']
 have hE:pj (bI [])=0:=Co
 rw [hE,if_neg (fun h=>h rfl),zA',if_neg (fun h=>h rfl),zD']
 dsimp only
 have hb0:=Au a.rows b.rows b.rows.length 0 (by omega)
 have hht:b.h.toNat=b.rows.length:=by have:=M.r; omega
 rw [hht,← hC,show lC a.rows (prs b.rows (chg a.rows b.rows)) b.rows.length 0 []=some b.rows from hb0]
 dsimp only
 have hset:kc (zS (fR (pM a b))) b.rows=b:=by
  unfold kc zS
  rw [zB',zC',zD',zE',zF',zT',zG',zH',zK']
 rw [hset,hnb]
 rfl
end Go.Tw.X
set_option linter.unusedVariables false
set_option linter.unusedSimpArgs false
namespace Go.Tw.X
open Go Go.Tw
theorem BA (a b:aM) (hb:SW b) (pb:(b.rows.flatMap eT).length≤12000):(lA a b).size≤61000:=by
 unfold lA
 split
 ·exact Nat.zero_le _
 ·rw [lu]
  unfold pM
  have h1:=xP a b hb
  have h2:=GL a.rows b.rows pb hb.rl b.rows.length (Nat.le_refl _)
  have h3:(pch b.rows (chg a.rows b.rows)).length≤21000:=h2
  rw [List.length_append]
  omega
theorem IP:(mA.rows.flatMap eT).length≤12000:=by decide
theorem GW:mN mA=true:=by
 unfold mN
 have:fV mA=true:=DR.2 rfl
 rw [this]
 rfl
end Go.Tw.X

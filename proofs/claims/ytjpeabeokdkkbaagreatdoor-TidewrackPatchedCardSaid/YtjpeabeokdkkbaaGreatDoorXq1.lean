import Derived.Test.YtjpeabeokdkkbaaGreatDoorXp1
import Derived.Test.YtjpeabeokdkkbaaGreatDoorFw2
import Derived.Laws.BitsLemmas
import Derived.Laws.Strings
set_option linter.unusedVariables false
set_option linter.unusedSimpArgs false
namespace Go.Tw.X
open Go Go.Tw
def tc (c:aG):aV:=⟨c.rune,c.aP,c.part⟩
def told (r:aE):aZ:=⟨r.cells.map tc,r.wrapped⟩
def EZ (r:List aG):Int:=match r with
 | []=>0
 | d::_=>d.part
def wY (p:Int) (c:aG) (r:List aG):Bool :=
 bif c.part == 1 then (EZ r != 2) else bif c.part == 2 then (p != 1) else bif c.part == 3 then !r.isEmpty else false
def tW (p:Int) (c:aG) (r:List aG):aG:=bif wY p c r then ⟨32,c.aP,0⟩ else c
def iz:Int→List aG→List aG
 | _,[]=>[]
 | p,c::r=>tW p c r::iz (tW p c r).part r
theorem kp: ∀ (l:List aG) (p:Int),(iz p l).length=l.length
 | [],_=>rfl
 | c::r,p=>by simp [iz,kp r]
def l6 (l:List aG):Int:=rK 0 (l.map (·.part))
theorem vQ (l:List aG) (c:aG):l6 (l++[c])=c.part:=by simp [l6,vP]
theorem tX {α β:Type} (f:α→β) (d:α): ∀ l:List α,rK (f d) (l.map f)=f (rK d l)
 | []=>rfl
 | [x]=>rfl
 | _::y::l=>tX f d (y::l)
theorem qd (s:Int):gY s=some ⟨32,s,0⟩:=rfl
theorem Dv (l r:List aG) (c:aG) (h:(l++c::r).length≤1000000):lj (l++c::r) (l.length:Int)=some (wY (l6 l) c r):=by
 have hl:(l++c::r).length=l.length+r.length+1:=by simp; omega
 unfold lj
 rw [ld,aA]
 rw [w64 (x:=(l.length:Int)+1) (by omega) (by omega),w64 (x:=(l.length:Int) - 1) (by omega) (by omega),w64 (x:=((l++c::r).length:Int) - 1) (by omega) (by omega),zc,hl]
 unfold wY
 cases h1:(c.part == 1) with
 | true =>
  simp only [cond_true]
  cases r with
  | nil=>simp [EZ]
  | cons d r =>
   have hd:decide ((l.length:Int)+1≥((l.length+(d::r).length+1:Nat):Int))=false:=decide_eq_false (by simp only [List.length_cons]; omega)
   rw [hd]
   simp [EZ]
 | false =>
  simp only [cond_false]
  cases h2:(c.part == 2) with
  | true =>
   simp only [cond_true]
   cases hl0:l with
   | nil=>simp [l6,rK]
   | cons a t =>
    have hne:(((a::t).length:Int) == 0)=false:=by simp; omega
    rw [hne,cond_false,zb (a::t) r ⟨0,0,0⟩ c (by simp)]
    simp only [aA]
    rw [l6,← tX (fun c:aG=>c.part) ⟨0,0,0⟩]
  | false =>
   simp only [cond_false]
   cases h3:(c.part == 3) with
   | true =>
    simp only [cond_true]
    cases r with
    | nil=>simp
    | cons d r=>simp; omega
   | false=>rfl
theorem ns (l:List aG) (h:l.length≤1000000):eU l=some ⟨iz 0 l,false⟩:=by
 unfold eU
 have key: ∀ (r d:List aG),(d++r).length=l.length→iter (σ:=(List aG)×Int) (ρ:=(List aG)) (fun s=>(bif (decide (s.2 < (l.length:Int))) then (Option.bind ((Option.bind (lj s.1 s.2) fun r1=>(bif r1 then (Option.bind (idx s.1 s.2) fun x=>(Option.bind (gY x.aP) fun r2=>(Option.bind (idx s.1 s.2) fun _=>some (s.1.set s.2.toNat r2)))) else some s.1)):Option (List aG)) fun e=>some (.inl (e,(IntKind.i64.wrap (s.2+1))))) else some (.inr s.1))) (d++r,(d.length:Int))=some (d++iz (l6 d) r):=by
  intro r
  induction r with
  | nil =>
   intro d hd
   simp at hd
   rw [cJ (r:=d)]
   ·simp [iz]
   ·simp [hd]
  | cons c r ih =>
   intro d hd
   have hdl:d.length < l.length:=by rw [← hd]; simp
   have hlen:(d++tW (l6 d) c r::r).length=l.length:=by rw [← hd]; simp
   rw [cY (s':=((d++[tW (l6 d) c r])++r,((d++[tW (l6 d) c r]).length:Int)))]
   ·rw [ih (d++[tW (l6 d) c r]) (by simpa using hlen),vQ]
    simp [iz]
   ·have hc:decide ((d.length:Int) < (l.length:Int))=true:=by simp; omega
    simp only [hc,cond_true]
    rw [Dv d r c (by rw [hd]; exact h),ld]
    simp only [aA,qd]
    rw [w64 (by omega) (by omega)]
    unfold tW
    cases wY (l6 d) c r with
    | true=>simp
    | false=>simp
 have:=key l [] (by simp)
 simp only [List.nil_append,List.length_nil,Int.ofNat_zero] at this
 rw [this]
 rfl
end Go.Tw.X
set_option linter.unusedVariables false
set_option linter.unusedSimpArgs false
namespace Go.Tw.X
open Go Go.Tw
theorem E0 (n:Int):IntKind.u64.wrap n=n % 18446744073709551616:=by simp [IntKind.wrap,IntKind.bits,IntKind.signed]
theorem Hj (n:Int) (h0:0≤n) (h1:n < 2 ^ 63):IntKind.u64.wrap n=n:=by rw [E0]; omega
theorem AN (y:Int) (h0:0≤y) (h1:y < 4294967296):Go.bits .and .u64 y 4294967295=y:=by
 have h:=bits_mask .u64 63 (by decide) Hj 32 (by decide) y h0 (by omega)
 have e:((2:Int) ^ 32 - 1)=4294967295:=by decide
 have e2:((2:Int) ^ 32)=4294967296:=by decide
 rw [e,e2] at h
 rw [h]
 omega
theorem E1 {x:Int} (h0:0≤x) (h1:x < 18446744073709551616):IntKind.u64.wrap x=x:=by rw [E0]; omega
theorem AO (n:Int) (h0:0≤n) (h1:n≤1000000):nD 1 n=some (0,n):=by
 have e32:(2:Int) ^ (min 32 64)=4294967296:=by decide
 have f1:Int.fdiv 1 4294967296=0:=by decide
 have f2:Int.fdiv n 4294967296=0:=by rw [Int.fdiv_eq_ediv_of_nonneg _ (by decide)]; omega
 have f0:Int.fdiv 0 4294967296=0:=by decide
 have z0:IntKind.u64.wrap 0=0:=by rw [E0]; rfl
 have m0:Go.bits .and .u64 0 4294967295=0:=AN 0 (by omega) (by omega)
 have m1:Go.bits .and .u64 1 4294967295=1:=AN 1 (by omega) (by omega)
 have mn:=AN n h0 (by omega)
 have un:IntKind.u64.wrap n=n:=E1 h0 (by omega)
 unfold nD np
 simp only [e32,f1,f2,m1,mn,Int.zero_mul,Int.mul_zero,Int.one_mul,z0,un,f0,Int.add_zero,Int.zero_add,m0,aA]
theorem xq (c:aG) (n:Int) (h0:0≤n) (h1:n≤1000000):dR [c] n=some (List.replicate n.toNat c):=by
 unfold dR
 have hn:decide (n < 0)=false:=decide_eq_false (by omega)
 have u1:IntKind.u64.wrap (([c].length:Nat):Int)=1:=E1 (by simp) (by simp)
 rw [hn,cond_false,u1,E1 h0 (by omega),AO n h0 h1]
 simp only [aA]
 have g1:decide ((0:Int) > 0)=false:=by decide
 have g2:decide (n > 9223372036854775807)=false:=decide_eq_false (by omega)
 rw [g1,cond_false,aA,g2,cond_false,w64 (by omega) (by omega),Dr h0 (by omega) (by omega),aA]
 obtain ⟨k,rfl⟩: ∃ k:Nat,n=k:=⟨n.toNat,by omega⟩
 simp only [Int.toNat_natCast,List.length_cons,List.length_nil,List.length_replicate]
 have key: ∀ m j,k - j=m→j≤k→(1≤j∨k=0)→iter (σ:=(List aG)×Int) (ρ:=(List aG)) (fun a=>(bif (decide (a.2 < (a.1.length:Int))) then (Option.bind (chk (dB a.2 (a.1.length:Int) a.1.length)) fun _=>(Option.bind (chk (dB 0 a.2 a.1.length)) fun _=>some (.inl ((wW a.1 a.2.toNat),(IntKind.i64.wrap (a.2+((Nat.min a.2.toNat (a.1.length - a.2.toNat):Nat):Int))))))) else some (.inr a.1))) (List.replicate j c++List.replicate (k - j) (aG.mk 0 0 0),(j:Int))=some (List.replicate k c):=by
  intro m
  induction m using Nat.strongRecOn with
  | _ m ih =>
   intro j hm hj h1j
   have hlen:(List.replicate j c++List.replicate (k - j) (aG.mk 0 0 0)).length=k:=by simp; omega
   by_cases hjk:j < k
   ·have hmin:Nat.min j (k - j)=min j (k - j):=rfl
    rw [cY (s':=(List.replicate (j+min j (k - j)) c++List.replicate (k - (j+min j (k - j))) (aG.mk 0 0 0),((j+min j (k - j):Nat):Int)))]
    ·exact ih (k - (j+min j (k - j))) (by omega) _ rfl (by omega) (by omega)
    ·have hc:decide ((j:Int) < ((List.replicate j c++List.replicate (k - j) (aG.mk 0 0 0)).length:Int))=true:=by rw [hlen]; simp; omega
     simp only [hc,cond_true]
     rw [hlen,bY (by omega) (by omega) (by omega),aA,bY (by omega) (by omega) (by omega),aA,Int.toNat_natCast,hmin,w64 (by omega) (by omega)]
     congr 2
     refine Prod.ext ?_ ?_
     ·show wW _ _=_
      unfold wW
      rw [hlen]
      have t1:(List.replicate j c++List.replicate (k - j) (aG.mk 0 0 0)).take j=List.replicate j c:=by rw [List.take_left']; simp
      rw [t1,List.take_replicate,List.drop_append,List.drop_of_length_le (by simp),List.nil_append,List.length_replicate,List.drop_replicate,List.replicate_append_replicate,Nat.min_comm (k - j) j]
      congr 2
      omega
     ·show ((j:Int)+((min j (k - j):Nat):Int))=_
      omega
   ·have hjk':j=k:=by omega
    subst hjk'
    rw [cJ (r:=List.replicate j c)]
    simp
 have hs:cpy (List.replicate k (aG.mk 0 0 0)) [c]=List.replicate (min 1 k) c++List.replicate (k - min 1 k) (aG.mk 0 0 0):=by
  unfold cpy
  cases k with
  | zero=>simp
  | succ k=>simp [Nat.min_eq_left]
 have hmin:Nat.min (0+1) k=min 1 k:=rfl
 rw [hs,hmin,key _ (min 1 k) rfl (by omega) (by omega),aA]
theorem qO (n s:Int) (h:n≤1000000):jo n s=some (List.replicate n.toNat ⟨32,s,0⟩):=by
 unfold jo
 rw [qd,aA]
 rw [iL,xq _ (max 0 n) (by omega) (by omega),aA]
 have:(max 0 n).toNat=n.toNat:=by omega
 rw [this]
theorem qP (n lo hi:Int):jJ n lo hi=some (max lo (min n hi)):=by
 unfold jJ
 rw [iL,eG]
theorem vS (l:List aG) (h:l.length≤1000000):eD l=some l:=by
 unfold eD
 rw [bR (by simp; omega),aA]
 rfl
theorem oy (r:aE) (h:r.cells.length≤1000000):eX r=some r.cells:=by
 unfold eX
 rw [vS _ h,aA]
def cP (l:List aG) (at_ n:Int):Int:=if at_ < 0∨at_≥l.length then 0 else max 0 (min n (l.length - at_))
theorem xu (r:aE) (at_ n:Int) (h:r.cells.length≤1000000) (ha: -9223372036854775808≤at_) (hb:at_≤9223372036854775807):iV r at_ n=some (cP r.cells at_ n):=by
 unfold iV cP
 by_cases h1:at_ < 0
 ·rw [if_pos (.inl h1)]
  simp [h1]
 ·by_cases h2:at_≥r.cells.length
  ·rw [if_pos (.inr h2)]
   simp [h1,h2]
  ·rw [if_neg (by omega)]
   have e1:decide (at_ < 0)=false:=decide_eq_false h1
   have e2:decide (at_≥(r.cells.length:Int))=false:=decide_eq_false h2
   rw [e1,cond_false,e2,aA,cond_false,w64 (by omega) (by omega),qP,aA]
end Go.Tw.X
set_option linter.unusedVariables false
set_option linter.unusedSimpArgs false
namespace Go.Tw.X
open Go Go.Tw
def rv (r:Int):List gX→Nat
 | []=>0
 | s::l=>if s.to < r then rv r l+1 else 0
def inS (l:List gX) (r:Int):Bool:=l.any fun s=>decide (s.from_≤r∧r≤s.to)
def rising:List gX→Bool
 | []=>true
 | [s]=>true
 | s::t::l=>decide (s.to < t.from_∧t.from_≤t.to) && rising (t::l)
theorem yc (r:Int): ∀ l:List gX,rv r l≤l.length
 | []=>Nat.le_refl _
 | s::l=>by
  unfold rv
  have:=yc r l
  split <;> simp <;> omega
theorem uK {s:gX} {l:List gX} (h:rising (s::l)=true):rising l=true:=by
 cases l with
 | nil=>rfl
 | cons t l=>simp only [rising,Bool.and_eq_true] at h; exact h.2
theorem sf {s:gX}: ∀ {l:List gX},rising (s::l)=true → ∀ t∈l,s.to < t.from_∧t.from_≤t.to
 | [],_,t,ht=>by cases ht
 | u::l,h,t,ht=>by
  simp only [rising,Bool.and_eq_true,decide_eq_true_eq] at h
  rcases List.mem_cons.1 ht with rfl | ht
  ·exact h.1
  ·have:=sf h.2 t ht
   have:=h.1
   omega
theorem BX (r:Int): ∀ {l:List gX},rising l=true → ∀ (i:Nat) (s:gX),l[i]?=some s→(s.to < r↔i < rv r l)
 | [],_,i,s,h=>by simp at h
 | u::l,hr,i,s,h=>by
  cases i with
  | zero =>
   simp at h
   subst h
   unfold rv
   split <;> simp [*]
  | succ i =>
   simp at h
   have ih:=BX r (uK hr) i s h
   unfold rv
   split
   ·rw [ih]; omega
   ·have:=sf hr s (List.mem_of_getElem? h)
    constructor
    ·intro; omega
    ·intro; omega
theorem BY (r:Int): ∀ {l:List gX},rising l=true→inS l r=(match l[rv r l]? with | some s=>decide (s.from_≤r) | none=>false)
 | [],_=>rfl
 | u::l,hr=>by
  have ih:=BY r (uK hr)
  unfold inS at ih ⊢
  unfold rv
  by_cases hu:u.to < r
  ·rw [if_pos hu,List.any_cons,ih]
   have:decide (u.from_≤r∧r≤u.to)=false:=by simp; omega
   simp [this]
  ·rw [if_neg hu,List.any_cons]
   simp only [List.getElem?_cons_zero]
   by_cases hf:u.from_≤r
   ·have:decide (u.from_≤r∧r≤u.to)=true:=by simp; omega
    rw [this,Bool.true_or]
    simp [hf]
   ·have h1:decide (u.from_≤r∧r≤u.to)=false:=by simp; omega
    have h2:(l.any fun s=>decide (s.from_≤r∧r≤s.to))=false:=by
     rw [List.any_eq_false]
     intro t ht
     have:=sf hr t ht
     simp
     omega
    rw [h1,h2]
    simp [hf]
theorem IU (l:List gX) (r:Int) (hr:rising l=true) (hl:l.length≤1000000):ny l r=some (inS l r):=by
 unfold ny
 have key: ∀ m lo hi,hi - lo=m→lo≤rv r l→rv r l≤hi→hi≤l.length→iter (σ:=Int×Int) (ρ:=Int) (fun a=>(bif (decide (a.1 < a.2)) then (Option.bind (idx l (IntKind.i64.wrap ((IntKind.i64.wrap (a.1+a.2)).tdiv 2))) fun b=>(bif (decide (b.to < r)) then some (.inl ((IntKind.i64.wrap ((IntKind.i64.wrap ((IntKind.i64.wrap (a.1+a.2)).tdiv 2))+1)),a.2)) else some (.inl (a.1,(IntKind.i64.wrap ((IntKind.i64.wrap (a.1+a.2)).tdiv 2)))))) else some (.inr a.1))) ((lo:Int),(hi:Int))=some ((rv r l:Nat):Int):=by
  intro m
  induction m using Nat.strongRecOn with
  | _ m ih =>
   intro lo hi hm h1 h2 h3
   by_cases hlt:lo < hi
   ·have e:(IntKind.i64.wrap ((IntKind.i64.wrap ((lo:Int)+(hi:Int))).tdiv 2))=(((lo+hi) / 2:Nat):Int):=by
     rw [w64 (x:=(lo:Int)+(hi:Int)) (by omega) (by omega)]
     have e1:((lo:Int)+(hi:Int)).tdiv 2=(((lo+hi) / 2:Nat):Int):=by
      rw [Int.tdiv_eq_ediv_of_nonneg (by omega)]
      omega
     rw [e1,w64 (by omega) (by omega)]
    have hmid:(lo+hi) / 2 < l.length:=by omega
    have hc:decide ((lo:Int) < (hi:Int))=true:=by simp; omega
    have hx:idx l (((lo+hi) / 2:Nat):Int)=some l[(lo+hi) / 2]:=by rw [fE]; simp [hmid]
    have hat:=BX r hr ((lo+hi) / 2) l[(lo+hi) / 2] (by simp [hmid])
    by_cases hto:(l[(lo+hi) / 2]).to < r
    ·rw [cY (s':=((((lo+hi) / 2+1:Nat):Int),(hi:Int)))]
     ·have:=hat.1 hto
      exact ih (hi - ((lo+hi) / 2+1)) (by omega) _ _ rfl (by omega) h2 h3
     ·simp only [hc,cond_true,e,hx,aA,hto,decide_true]
      rw [w64 (by omega) (by omega)]
      rfl
    ·rw [cY (s':=((lo:Int),(((lo+hi) / 2:Nat):Int)))]
     ·have: ¬ (lo+hi) / 2 < rv r l:=fun h=>hto (hat.2 h)
      exact ih ((lo+hi) / 2 - lo) (by omega) _ _ rfl h1 (by omega) (by omega)
     ·simp only [hc,cond_true,e,hx,aA,hto,decide_false,cond_false]
   ·have:lo=rv r l:=by omega
    rw [cJ (r:=(lo:Int)),this]
    have hc:decide ((lo:Int) < (hi:Int))=false:=by simp; omega
    simp only [hc,cond_false]
 have h0:=key (l.length - 0) 0 l.length rfl (Nat.zero_le _) (yc r l) (Nat.le_refl _)
 have e0:((0:Nat):Int)=0:=rfl
 rw [e0] at h0
 rw [h0,aA,BY r hr]
 have hle:=yc r l
 by_cases hlt:rv r l < l.length
 ·have hc:decide (((rv r l:Nat):Int) < (l.length:Int))=true:=by simp; omega
  rw [hc,cond_true,fE,List.getElem?_eq_getElem hlt]
  rfl
 ·have hc:decide (((rv r l:Nat):Int) < (l.length:Int))=false:=by simp; omega
  rw [hc,cond_false,List.getElem?_eq_none (by omega)]
  rfl
def ofS (r:Int):Int:=if inS cT r then 0 else if inS dC r then 2 else 1
theorem of_eq (r:Int):nz r=some (ofS r):=by
 unfold nz
 rw [IU cT r (by decide) (by decide),IU dC r (by decide) (by decide)]
 simp only [aA,ofS]
 cases inS cT r <;> cases inS dC r <;> rfl
theorem oz (r:Int):ofS r=0∨ofS r=1∨ofS r=2:=by
 unfold ofS
 split
 ·exact .inl rfl
 ·split
  ·exact .inr (.inr rfl)
  ·exact .inr (.inl rfl)
end Go.Tw.X
set_option linter.unusedVariables false
set_option linter.unusedSimpArgs false
namespace Go.Tw.X
open Go Go.Tw
theorem Hk (n:Int) (h0:0≤n) (h1:n≤1000000):gu n=some []:=by
 unfold gu
 have hn:decide (n < 0)=false:=decide_eq_false (by omega)
 have z:IntKind.i64.wrap (0 - 0)=0:=by decide
 rw [hn,cond_false,z,w64 (by omega) (by omega),Int.sub_zero]
 by_cases hp:n > 0
 ·have:decide (n > 0)=true:=decide_eq_true hp
  rw [this,cond_true,Du hp (by omega) (by omega),aA,bY (by omega) (by omega) (by omega),aA]
  rfl
 ·have:decide (n > 0)=false:=decide_eq_false hp
  rw [this,cond_false]
  rfl
def total:List (List aG)→Nat
 | []=>0
 | x::r=>x.length+total r
theorem pc (a b:List (List aG)):total (a++b)=total a+total b:=by
 induction a with
 | nil=>simp [total]
 | cons x a ih=>simp only [List.cons_append,total,ih]; omega
theorem vU (a:List (List aG)):a.flatten.length=total a:=by
 induction a with
 | nil=>rfl
 | cons x a ih=>simp only [List.flatten_cons,List.length_append,total,ih]
theorem xv (ls:List (List aG)) (h:total ls≤1000000) (h2:ls.length≤1000000):eO ls=some ls.flatten:=by
 unfold eO
 have k1: ∀ (r d:List (List aG)),d++r=ls→iter (σ:=Int×Int) (ρ:=Int) (fun a=>(bif (decide (a.1 < (ls.length:Int))) then (Option.bind (idx ls a.1) fun c=>(bif (decide ((IntKind.i64.wrap (a.2+(c.length:Int))) < 0)) then none else some (.inl ((IntKind.i64.wrap (a.1+1)),(IntKind.i64.wrap (a.2+(c.length:Int))))))) else some (.inr a.2))) ((d.length:Int),(total d:Int))=some (total ls:Int):=by
  intro r
  induction r with
  | nil =>
   intro d hd
   simp at hd
   subst hd
   rw [cJ (r:=(total d:Int))]
   simp
  | cons x r ih =>
   intro d hd
   have hl:ls.length=d.length+r.length+1:=by rw [← hd]; simp; omega
   have ht:total ls=total d+(x.length+total r):=by rw [← hd,pc]; rfl
   rw [cY (s':=(((d++[x]).length:Int),(total (d++[x]):Int)))]
   ·exact ih (d++[x]) (by simpa using hd)
   ·have hc:decide ((d.length:Int) < (ls.length:Int))=true:=by simp; omega
    have hx:idx ls (d.length:Int)=some x:=by rw [← hd]; exact ld d r x
    simp only [hc,cond_true,hx,aA]
    rw [w64 (by omega) (by omega),w64 (by omega) (by omega)]
    have hp:decide ((total d:Int)+(x.length:Int) < 0)=false:=decide_eq_false (by omega)
    rw [hp,cond_false,pc]
    simp [total]
 have k2: ∀ (r d:List (List aG)),d++r=ls→iter (σ:=Int×(List aG)) (ρ:=(List aG)) (fun b=>(bif (decide (b.1 < (ls.length:Int))) then (Option.bind (idx ls b.1) fun e=>(Option.bind (chk (eL b.2.length e.length 24)) fun _=>some (.inl ((IntKind.i64.wrap (b.1+1)),(b.2++e))))) else some (.inr b.2))) ((d.length:Int),d.flatten)=some ls.flatten:=by
  intro r
  induction r with
  | nil =>
   intro d hd
   simp at hd
   subst hd
   rw [cJ (r:=d.flatten)]
   simp
  | cons x r ih =>
   intro d hd
   have hl:ls.length=d.length+r.length+1:=by rw [← hd]; simp; omega
   have ht:total ls=total d+(x.length+total r):=by rw [← hd,pc]; rfl
   rw [cY (s':=(((d++[x]).length:Int),(d++[x]).flatten))]
   ·exact ih (d++[x]) (by simpa using hd)
   ·have hc:decide ((d.length:Int) < (ls.length:Int))=true:=by simp; omega
    have hx:idx ls (d.length:Int)=some x:=by rw [← hd]; exact ld d r x
    simp only [hc,cond_true,hx,aA]
    rw [w64 (by omega) (by omega),bR (by rw [vU]; omega),aA]
    simp
 have h0:=k1 ls [] rfl
 have h3:=k2 ls [] rfl
 have e0:((([]:List (List aG)).length:Nat):Int)=0:=rfl
 have e1:((total []:Nat):Int)=0:=rfl
 rw [e0,e1] at h0
 rw [e0,List.flatten_nil] at h3
 rw [h0,aA,Hk _ (by omega) (by omega),aA,h3,aA]
def blk (s:Int):aG:=⟨32,s,0⟩
def AP (l1:List aG) (at_:Int):List aG :=
 match (if at_ > 0 then l1[at_.toNat - 1]? else none) with
  | some c=>if c.part=1 then l1.set (at_.toNat - 1) (blk c.aP) else l1
  | none=>l1
theorem zd (l:List aG) (at_:Int):(AP l at_).length=l.length:=by
 unfold AP
 split
 ·split <;> simp
 ·rfl
def tY (l:List aG) (at_ x s:Int):List aG :=
 if ofS x=0∨at_ < 0∨at_ > l.length - ofS x then l
 else if ofS x=1 then l.set at_.toNat ⟨x,s,0⟩
 else AP ((l.set at_.toNat ⟨x,s,1⟩).set (at_.toNat+1) ⟨x,s,2⟩) at_
theorem uL (l:List aG) (at_ x s:Int):(tY l at_ x s).length=l.length:=by
 unfold tY
 split
 ·rfl
 ·split
  ·simp
  ·simp [zd]
theorem put_eq (r:aE) (at_ x s:Int) (h:r.cells.length≤1000000) (ha: -9223372036854775808≤at_) (hb:at_≤9223372036854775807):lG r at_ x s=some ⟨iz 0 (tY r.cells at_ x s),false⟩:=by
 unfold lG
 rw [oy r h,aA,of_eq,aA]
 have h3:=oz x
 have fin: ∀ l:List aG,l.length=r.cells.length→(Option.bind (eU l) fun a=>some a)=some ⟨iz 0 l,false⟩:=fun l hl=>by rw [ns l (by omega),aA]
 rw [w64 (x:=(r.cells.length:Int) - ofS x) (by omega) (by omega)]
 by_cases hc:ofS x=0∨at_ < 0∨at_ > r.cells.length - ofS x
 ·have hb2:((bif (ofS x == 0) then some true else (bif (decide (at_ < 0)) then some true else some (decide (at_ > ((r.cells.length:Int) - ofS x))))):Option Bool)=some true:=by
   rcases hc with hc | hc | hc
   ·simp [hc]
   ·cases h0:(ofS x == 0) <;> simp [hc]
   ·cases h0:(ofS x == 0) <;> cases h1:decide (at_ < 0) <;> simp [hc]
  rw [hb2,aA,cond_true,aA]
  unfold tY
  rw [if_pos hc]
  exact fin _ rfl
 ·have hb2:((bif (ofS x == 0) then some true else (bif (decide (at_ < 0)) then some true else some (decide (at_ > ((r.cells.length:Int) - ofS x))))):Option Bool)=some false:=by
   have e0:(ofS x == 0)=false:=by simp; omega
   have e1:decide (at_ < 0)=false:=decide_eq_false (by omega)
   rw [e0,cond_false,e1,cond_false]
   simp
   omega
  rw [hb2,aA,cond_false]
  obtain ⟨k,rfl⟩: ∃ k:Nat,at_=k:=⟨at_.toNat,by omega⟩
  unfold tY
  rw [if_neg hc]
  by_cases h1:ofS x=1
  ·have e1:(ofS x == 1)=true:=by simp [h1]
   have hk:k < r.cells.length:=by omega
   rw [e1,cond_true,fE,List.getElem?_eq_getElem hk,aA,aA,if_pos h1,Int.toNat_natCast]
   exact fin _ (by simp)
  ·have e1:(ofS x == 1)=false:=by simp [h1]
   have h2:ofS x=2:=by omega
   have hk:k+1 < r.cells.length:=by omega
   have ew:IntKind.i64.wrap ((k:Int)+1)=((k+1:Nat):Int):=by rw [w64 (by omega) (by omega)]; omega
   rw [e1,cond_false,fE,List.getElem?_eq_getElem (by omega:k < r.cells.length),aA,ew,fE,if_neg h1,Int.toNat_natCast,Int.toNat_natCast,List.getElem?_eq_getElem (by simp; omega),aA]
   generalize hl1:(r.cells.set k ⟨x,s,1⟩).set (k+1) ⟨x,s,2⟩=l1
   have hlen:l1.length=r.cells.length:=by rw [← hl1]; simp
   unfold AP
   rw [show ((k:Int)).toNat=k from Int.toNat_natCast k]
   by_cases h0:(k:Int) > 0
   ·have e2:decide ((k:Int) > 0)=true:=decide_eq_true h0
    have em:IntKind.i64.wrap ((k:Int) - 1)=((k - 1:Nat):Int):=by rw [w64 (by omega) (by omega)]; omega
    have hk1:k - 1 < l1.length:=by omega
    rw [e2,cond_true,em,fE,Int.toNat_natCast,if_pos h0,List.getElem?_eq_getElem hk1,aA,aA]
    by_cases hp:(l1[k - 1]).part=1
    ·have e3:((l1[k - 1]).part == 1)=true:=by simp [hp]
     rw [e3,cond_true]
     simp only [aA,qd,if_pos hp,Int.toNat_natCast]
     exact fin _ (by simpa using hlen)
    ·have e3:((l1[k - 1]).part == 1)=false:=by simp [hp]
     rw [e3,cond_false,aA]
     simp only [if_neg hp]
     exact fin _ hlen
   ·have e2:decide ((k:Int) > 0)=false:=decide_eq_false h0
    rw [e2,cond_false,if_neg h0,aA,cond_false,aA]
    exact fin _ hlen
end Go.Tw.X
set_option linter.unusedVariables false
set_option linter.unusedSimpArgs false
namespace Go.Tw.X
open Go Go.Tw
def kq (a b s:Int):Int→List aG→List aG
 | _,[]=>[]
 | i,c::r=>(if a≤i∧i < b then blk s else c)::kq a b s (i+1) r
theorem lH (a b s:Int): ∀ (l:List aG) (i:Int),(kq a b s i l).length=l.length
 | [],_=>rfl
 | c::r,i=>by simp [kq,lH a b s r]
theorem mL (a b s:Int): ∀ (l:List aG) (i:Int) (j:Nat),(kq a b s i l)[j]?=(l[j]?).map fun c=>if a≤i+j∧i+j < b then blk s else c
 | [],_,_=>by simp [kq]
 | c::r,i,0=>by simp [kq]
 | c::r,i,j+1=>by
  have:=mL a b s r (i+1) j
  simp only [kq,List.getElem?_cons_succ,this]
  have e:i+1+(j:Int)=i+((j+1:Nat):Int):=by omega
  rw [e]
theorem erase_eq (r:aE) (a b s:Int) (h:r.cells.length≤1000000):jh r a b s=some ⟨iz 0 (kq a b s 0 r.cells),false⟩:=by
 unfold jh
 rw [oy r h,aA,qP,aA]
 generalize hA:max 0 (min a (r.cells.length:Int))=A
 generalize hB:max 0 (min b (r.cells.length:Int))=B
 have key: ∀ m (i:Nat) (l:List aG),B.toNat - i=m→l.length=r.cells.length→iter (σ:=Int×(List aG)) (ρ:=(List aG)) (fun d=>(Option.bind (jJ b 0 (d.2.length:Int)) fun e=>(bif (decide (d.1 < e)) then (Option.bind (gY s) fun f=>(Option.bind (idx d.2 d.1) fun g=>some (.inl ((IntKind.i64.wrap (d.1+1)),(d.2.set d.1.toNat f))))) else some (.inr d.2)))) ((i:Int),l)=some (kq i B s 0 l):=by
  intro m
  induction m with
  | zero =>
   intro i l hm hl
   rw [cJ (r:=l)]
   ·congr 1
    apply List.ext_getElem?
    intro j
    rw [mL]
    cases hj:l[j]? with
    | none=>rfl
    | some c =>
     simp
     intro h1 h2
     omega
   ·simp only [qP,aA,hl,hB]
    have:decide ((i:Int) < B)=false:=decide_eq_false (by omega)
    rw [this,cond_false]
  | succ m ih =>
   intro i l hm hl
   have hi:i < l.length:=by omega
   rw [cY (s':=(((i+1:Nat):Int),l.set i (blk s)))]
   ·rw [ih (i+1) (l.set i (blk s)) (by omega) (by simpa using hl)]
    congr 1
    apply List.ext_getElem?
    intro j
    rw [mL,mL,List.getElem?_set]
    by_cases hij:i=j
    ·subst hij
     rw [if_pos rfl,if_pos hi,List.getElem?_eq_getElem hi]
     simp
     omega
    ·rw [if_neg hij]
     cases hj:l[j]? with
     | none=>rfl
     | some c =>
      simp only [Option.map_some,Option.some.injEq]
      by_cases h1:(i:Int)≤0+(j:Int)∧0+(j:Int) < B
      ·rw [if_pos h1,if_pos (by omega)]
      ·rw [if_neg h1,if_neg (by omega)]
   ·simp only [qP,aA,hl,hB]
    have:decide ((i:Int) < B)=true:=decide_eq_true (by omega)
    rw [this,cond_true,fE,List.getElem?_eq_getElem hi,w64 (by omega) (by omega)]
    rfl
 obtain ⟨k,hk⟩: ∃ k:Nat,A=k:=⟨A.toNat,by omega⟩
 rw [hk,key _ k r.cells rfl rfl,aA,ns _ (by rw [lH]; exact h),aA]
 congr 2
 congr 1
 apply List.ext_getElem?
 intro j
 rw [mL,mL]
 cases hj:r.cells[j]? with
 | none=>rfl
 | some c =>
  have hjl:=(List.getElem?_eq_some_iff.1 hj).1
  simp only [Option.map_some,Option.some.injEq]
  by_cases h1:a≤0+(j:Int)∧0+(j:Int) < b
  ·rw [if_pos h1,if_pos (by omega)]
  ·rw [if_neg h1,if_neg (by omega)]
def mV (l:List aG) (k n:Nat) (s:Int):List aG:=(l.take k++List.replicate n (blk s)++l.drop k).take l.length
def nt (l:List aG) (k n:Nat) (s:Int):List aG:=l.take k++l.drop (k+n)++List.replicate n (blk s)
def nZ (l:List aG) (s:Int):List aG:=l.set (l.length - 1) ⟨32,s,3⟩
theorem insert_eq (r:aE) (at_ n s:Int) (h:r.cells.length≤1000) (ha: -9223372036854775808≤at_) (hb:at_≤9223372036854775807):jU r at_ n s=some ⟨iz 0 (if cP r.cells at_ n=0 then r.cells else mV r.cells at_.toNat (cP r.cells at_ n).toNat s),false⟩:=by
 unfold jU
 rw [xu r at_ n (by omega) ha hb,aA]
 by_cases h0:cP r.cells at_ n=0
 ·have e:(cP r.cells at_ n == 0)=true:=by simp [h0]
  rw [e,cond_true,oy r (by omega),aA,ns _ (by omega),aA,if_pos h0]
 ·have e:(cP r.cells at_ n == 0)=false:=by simp [h0]
  rw [e,cond_false,if_neg h0]
  have hw:cP r.cells at_ n=max 0 (min n (r.cells.length - at_))∧0≤at_∧at_ < r.cells.length:=by
   unfold cP at h0 ⊢
   by_cases hc:at_ < 0∨at_≥r.cells.length
   ·rw [if_pos hc] at h0; exact absurd rfl h0
   ·rw [if_neg hc]; exact ⟨rfl,by omega,by omega⟩
  obtain ⟨hw,h1,h2⟩:=hw
  generalize cP r.cells at_ n=w at hw h0
  obtain ⟨k,rfl⟩: ∃ k:Nat,at_=k:=⟨at_.toNat,by omega⟩
  obtain ⟨m,rfl⟩: ∃ m:Nat,w=m:=⟨w.toNat,by omega⟩
  have c1:cut r.cells 0 (k:Int)=r.cells.take k:=by simp [cut]
  have c2:cut r.cells (k:Int) (r.cells.length:Int)=r.cells.drop k:=by simp [cut]
  rw [bY (by omega) (by omega) (by omega),aA,bY (by omega) (by omega) (by omega),aA,qO _ _ (by omega),aA,c1,c2,xv _ (by simp [total]; omega) (by simp),aA]
  have hl:([r.cells.take k,List.replicate (m:Int).toNat (blk s),r.cells.drop k].flatten).length=r.cells.length+m:=by simp; omega
  change (Option.bind (chk (dB 0 (r.cells.length:Int) (([r.cells.take k,List.replicate (m:Int).toNat (blk s),r.cells.drop k].flatten).length:Int))) _)=_
  rw [hl,bY (by omega) (by omega) (by omega),aA]
  have c3:cut ([r.cells.take k,List.replicate (m:Int).toNat (blk s),r.cells.drop k].flatten) 0 (r.cells.length:Int)=mV r.cells (k:Int).toNat (m:Int).toNat s:=by
   unfold cut mV
   simp
  change (Option.bind (eU (cut ([r.cells.take k,List.replicate (m:Int).toNat (blk s),r.cells.drop k].flatten) 0 (r.cells.length:Int))) _)=_
  rw [c3,ns _ (by unfold mV; simp; omega),aA]
theorem Dw (r:aE) (at_ n s:Int) (h:r.cells.length≤1000) (ha: -9223372036854775808≤at_) (hb:at_≤9223372036854775807):jV r at_ n s=some ⟨iz 0 (if cP r.cells at_ n=0 then r.cells else nt r.cells at_.toNat (cP r.cells at_ n).toNat s),false⟩:=by
 unfold jV
 rw [xu r at_ n (by omega) ha hb,aA]
 by_cases h0:cP r.cells at_ n=0
 ·have e:(cP r.cells at_ n == 0)=true:=by simp [h0]
  rw [e,cond_true,oy r (by omega),aA,ns _ (by omega),aA,if_pos h0]
 ·have e:(cP r.cells at_ n == 0)=false:=by simp [h0]
  rw [e,cond_false,if_neg h0]
  have hw:cP r.cells at_ n=max 0 (min n (r.cells.length - at_))∧0≤at_∧at_ < r.cells.length:=by
   unfold cP at h0 ⊢
   by_cases hc:at_ < 0∨at_≥r.cells.length
   ·rw [if_pos hc] at h0; exact absurd rfl h0
   ·rw [if_neg hc]; exact ⟨rfl,by omega,by omega⟩
  obtain ⟨hw,h1,h2⟩:=hw
  generalize cP r.cells at_ n=w at hw h0
  obtain ⟨k,rfl⟩: ∃ k:Nat,at_=k:=⟨at_.toNat,by omega⟩
  obtain ⟨m,rfl⟩: ∃ m:Nat,w=m:=⟨w.toNat,by omega⟩
  have c1:cut r.cells 0 (k:Int)=r.cells.take k:=by simp [cut]
  have c2:cut r.cells ((k+m:Nat):Int) (r.cells.length:Int)=r.cells.drop (k+m):=by
   unfold cut
   rw [Int.toNat_natCast,Int.toNat_natCast,List.take_length]
  have ek:((k:Int)+(m:Int))=((k+m:Nat):Int):=by omega
  have hkm:k+m≤r.cells.length:=by omega
  rw [w64 (by omega) (by omega),ek,bY (by omega) (by omega) (by omega),aA,bY (by omega) (by omega) (by omega),aA,qO _ _ (by omega),aA,c1,c2,xv _ (by simp [total]; omega) (by simp),aA]
  have c3:[r.cells.take k,r.cells.drop (k+m),List.replicate (m:Int).toNat (blk s)].flatten=nt r.cells (k:Int).toNat (m:Int).toNat s:=by
   unfold nt
   simp
  change (Option.bind (eU [r.cells.take k,r.cells.drop (k+m),List.replicate (m:Int).toNat (blk s)].flatten) _)=_
  rw [c3,ns _ (by unfold nt; simp; omega),aA]
theorem fill_eq (r:aE) (s:Int) (h:r.cells.length≤1000000):kX r s=some ⟨iz 0 (nZ r.cells s),true⟩:=by
 unfold kX
 rw [oy r h,aA]
 by_cases h0:(r.cells.length:Int) > 0
 ·have e:decide ((r.cells.length:Int) > 0)=true:=decide_eq_true h0
  have ew:IntKind.i64.wrap ((r.cells.length:Int) - 1)=((r.cells.length - 1:Nat):Int):=by rw [w64 (by omega) (by omega)]; omega
  rw [e,cond_true,ew,fE,List.getElem?_eq_getElem (by omega),aA,aA,Int.toNat_natCast]
  change (Option.bind (eU (nZ r.cells s)) _)=_
  rw [ns _ (by simp [nZ]; exact h),aA]
 ·have e:decide ((r.cells.length:Int) > 0)=false:=decide_eq_false h0
  have hn:r.cells=[]:=List.eq_nil_of_length_eq_zero (by omega)
  rw [e,cond_false,aA,ns _ h,aA]
  simp [nZ,hn]
def mW (l:List aG) (w:Nat):List aG:=l.take w++List.replicate (w - l.length) (blk 0)
theorem Dx (r:aE) (w:Int) (h:r.cells.length≤1000000):iW r w=some (if (max 0 (min w 1000)).toNat=r.cells.length then r else ⟨iz 0 (mW r.cells (max 0 (min w 1000)).toNat),false⟩):=by
 unfold iW
 rw [qP,aA,oy r h,aA]
 generalize hv:max 0 (min w 1000)=v
 obtain ⟨k,rfl⟩: ∃ k:Nat,v=k:=⟨v.toNat,by omega⟩
 rw [Int.toNat_natCast]
 by_cases h0:k=r.cells.length
 ·have e:((k:Int) == (r.cells.length:Int))=true:=by simp [h0]
  rw [e,cond_true,if_pos h0]
 ·have e:((k:Int) == (r.cells.length:Int))=false:=by simp; omega
  have ec:fQ (k:Int) (r.cells.length:Int)=((min k r.cells.length:Nat):Int):=by rw [eG]; omega
  have c1:cut r.cells 0 ((min k r.cells.length:Nat):Int)=r.cells.take k:=by
   simp only [cut,Int.toNat_natCast,Int.toNat_zero,List.drop_zero]
   rw [← List.take_take,List.take_length]
  rw [e,cond_false,if_neg h0,ec,w64 (by omega) (by omega),qO _ _ (by omega),aA,bY (by omega) (by omega) (by omega),aA,c1,bR (by simp; omega),aA]
  have c2:r.cells.take k++List.replicate ((k:Int) - (r.cells.length:Int)).toNat (blk 0)=mW r.cells k:=by
   unfold mW
   congr 2
   omega
  change (Option.bind (eU (r.cells.take k++List.replicate ((k:Int) - (r.cells.length:Int)).toNat (blk 0))) _)=_
  rw [c2,ns _ (by unfold mW; simp; omega),aA]
end Go.Tw.X
set_option linter.unusedVariables false
set_option linter.unusedSimpArgs false
namespace Go.Tw.X
open Go Go.Tw
theorem ye (w s:Int):jq w s=some ⟨List.replicate (max 0 (min w 1000)).toNat (blk s),false⟩:=by
 unfold jq
 rw [qP,aA,qO _ _ (by omega),aA]
 rfl
def pD:Nat→List aG→List aG
 | 0,l=>l
 | n+1,l=>if l.getLast?=some (blk 0) then pD n l.dropLast else l
def IV (l:List aG):List aG:=pD l.length l
def isG (c:aG):Bool:=c.part == 0 || c.part == 1
def sg (l:List aG):List aN:=(l.filter isG).map fun c=>⟨c.rune,c.aP⟩
def nF (r:aE):List aN:=sg (if r.wrapped then r.cells else IV r.cells)
theorem uM (l:List aG):(sg l).length≤l.length:=by
 unfold sg
 rw [List.length_map]
 exact List.length_filter_le _ _
theorem pd: ∀ (n:Nat) (l:List aG),(pD n l).length≤l.length
 | 0,l=>Nat.le_refl _
 | n+1,l=>by
  unfold pD
  split
  ·have:=pd n l.dropLast
   rw [List.length_dropLast] at this
   omega
  ·exact Nat.le_refl _
theorem nG (x y:aG):((x.rune == y.rune) && ((x.aP == y.aP) && ((x.part == y.part) && true)))=decide (x=y):=by
 obtain ⟨a,b,c⟩:=x
 obtain ⟨d,e,f⟩:=y
 by_cases h1:a=d <;> by_cases h2:b=e <;> by_cases h3:c=f <;> simp [h1,h2,h3]
theorem Dz (r:aE) (h:r.cells.length≤1000000):iU r=some (nF r):=by
 unfold iU
 have k1: ∀ (n:Nat) (l:List aG),l.length=n→n≤1000000→iter (σ:=(List aG)) (ρ:=(List aG)) (fun a=>(Option.bind ((bif (!r.wrapped) then (bif (decide ((a.length:Int) > 0)) then (Option.bind (idx a (IntKind.i64.wrap ((a.length:Int) - 1))) fun g=>(Option.bind (gY 0) fun i=>some ((g.rune == i.rune) && ((g.aP == i.aP) && ((g.part == i.part) && true))))) else some false) else some false):Option Bool) fun j=>(bif j then (Option.bind (chk (dB 0 (IntKind.i64.wrap ((a.length:Int) - 1)) a.length)) fun _=>some (.inl (cut a 0 (IntKind.i64.wrap ((a.length:Int) - 1))))) else some (.inr a)))) l=some (if r.wrapped then l else pD n l):=by
  intro n
  induction n with
  | zero =>
   intro l hl hn
   rw [cJ (r:=l)]
   ·simp [pD]
   ·cases r.wrapped <;> simp [hl]
  | succ n ih =>
   intro l hl hn
   cases hw:r.wrapped with
   | true =>
    rw [cJ (r:=l)]
    ·simp
    ·simp [hw]
   | false =>
    have hp:decide ((l.length:Int) > 0)=true:=decide_eq_true (by omega)
    have ew:IntKind.i64.wrap ((l.length:Int) - 1)=((l.length - 1:Nat):Int):=by rw [w64 (by omega) (by omega)]; omega
    have hlt:l.length - 1 < l.length:=by omega
    have hlast:l.getLast?=some l[l.length - 1]:=by rw [List.getLast?_eq_getElem?,List.getElem?_eq_getElem hlt]
    unfold pD
    rw [hlast]
    by_cases hb:l[l.length - 1]=blk 0
    ·rw [cY (s':=l.dropLast)]
     ·have:=ih l.dropLast (by rw [List.length_dropLast]; omega) (by omega)
      rw [hw] at this
      simp only [hw,Bool.not_false,cond_true] at this ⊢
      rw [this,if_neg (by simp),if_neg (by simp),if_pos (by rw [hb])]
     ·simp only [hw,Bool.not_false,cond_true,hp,ew,fE,List.getElem?_eq_getElem hlt,aA,qd,nG]
      have:decide (l[l.length - 1]=⟨32,0,0⟩)=true:=decide_eq_true hb
      rw [this,cond_true,bY (by omega) (by omega) (by omega),aA]
      congr 2
      simp [cut,List.dropLast_eq_take]
    ·rw [cJ (r:=l)]
     ·rw [if_neg (by simp),if_neg (by simpa using hb)]
     ·simp only [hw,Bool.not_false,cond_true,hp,ew,fE,List.getElem?_eq_getElem hlt,aA,qd,nG]
      have:decide (l[l.length - 1]=⟨32,0,0⟩)=false:=decide_eq_false hb
      rw [this,cond_false]
 rw [k1 r.cells.length r.cells rfl h,aA]
 have hE:(if r.wrapped then r.cells else pD r.cells.length r.cells).length≤1000000:=by
  split
  ·exact h
  ·exact Nat.le_trans (pd _ _) h
 change (Option.bind _ _)=some (sg (if r.wrapped then r.cells else pD r.cells.length r.cells))
 generalize (if r.wrapped then r.cells else pD r.cells.length r.cells)=E at hE
 have k2: ∀ (b d:List aG),d++b=E→iter (σ:=Int×(List aN)) (ρ:=(List aN)) (fun e=>(bif (decide (e.1 < (E.length:Int))) then (Option.bind ((Option.bind (idx E e.1) fun f=>(Option.bind ((bif (f.part == 0) then some true else some (f.part == 1)):Option Bool) fun k=>(bif k then (Option.bind (chk (eL e.2.length [(aN.mk f.rune f.aP)].length 16)) fun _=>some (e.2++[(aN.mk f.rune f.aP)])) else some e.2))):Option (List aN)) fun m=>some (.inl ((IntKind.i64.wrap (e.1+1)),m))) else some (.inr e.2))) ((d.length:Int),sg d)=some (sg E):=by
  intro b
  induction b with
  | nil =>
   intro d hd
   simp at hd
   subst hd
   rw [cJ (r:=sg d)]
   simp
  | cons c b ih =>
   intro d hd
   have hl:E.length=d.length+b.length+1:=by rw [← hd]; simp; omega
   have hg:sg (d++[c])=bif isG c then sg d++[⟨c.rune,c.aP⟩] else sg d:=by
    unfold sg
    rw [List.filter_append]
    cases hc:isG c <;> simp [hc]
   rw [cY (s':=(((d++[c]).length:Int),sg (d++[c])))]
   ·exact ih (d++[c]) (by simpa using hd)
   ·have hc:decide ((d.length:Int) < (E.length:Int))=true:=by simp; omega
    have hx:idx E (d.length:Int)=some c:=by rw [← hd]; exact ld d b c
    have hi:((bif (c.part == 0) then some true else some (c.part == 1)):Option Bool)=some (isG c):=by unfold isG; cases c.part == 0 <;> rfl
    have hgl:=uM d
    simp only [hc,cond_true,hx,aA,hi]
    rw [hg,w64 (by omega) (by omega)]
    cases hc2:isG c with
    | true=>rw [cond_true,bR (by simp; omega),aA,aA]; simp
    | false=>simp
 have h0:=k2 E [] rfl
 have e0:((([]:List aG).length:Nat):Int)=0:=rfl
 have e1:sg []=[]:=rfl
 rw [e0,e1] at h0
 rw [h0,aA]
theorem E2 (a b:List aG) (h:a.length≤1000000):fZ a b=some (decide (a=b)):=by
 unfold fZ
 by_cases hl:a.length=b.length
 ·have e:((a.length:Int) != (b.length:Int))=false:=by simp [hl]
  rw [e,cond_false]
  have key: ∀ (x y d d2:List aG),d++x=a→d2++y=b→d=d2→x.length=y.length→iter (σ:=Int) (ρ:=Unit ⊕ Bool) (fun f=>(bif (decide (f < (a.length:Int))) then (Option.bind (idx a f) fun g=>(Option.bind (idx b f) fun i=>(bif (!((g.rune == i.rune) && ((g.aP == i.aP) && ((g.part == i.part) && true)))) then (kO (some false)) else some (.inl (IntKind.i64.wrap (f+1)))))) else some (.inr (.inl ())))) (d.length:Int)=some (if x=y then .inl () else .inr false):=by
   intro x
   induction x with
   | nil =>
    intro y d d2 hd hd2 hdd hxy
    have:y=[]:=List.eq_nil_of_length_eq_zero hxy.symm
    subst this
    simp at hd
    subst hd
    rw [cJ (r:= .inl ())]
    ·simp
    ·simp
   | cons c x ih =>
    intro y d d2 hd hd2 hdd hxy
    cases y with
    | nil=>simp at hxy
    | cons c2 y =>
     subst hdd
     have hal:a.length=d.length+x.length+1:=by rw [← hd]; simp; omega
     have hc:decide ((d.length:Int) < (a.length:Int))=true:=by simp; omega
     have hx:idx a (d.length:Int)=some c:=by rw [← hd]; exact ld d x c
     have hx2:idx b (d.length:Int)=some c2:=by rw [← hd2]; exact ld d y c2
     by_cases hcc:c=c2
     ·subst hcc
      rw [cY (s':=((d++[c]).length:Int))]
      ·rw [ih y (d++[c]) (d++[c]) (by simpa using hd) (by simpa using hd2) rfl (by simpa using hxy)]
       simp
      ·simp only [hc,cond_true,hx,hx2,aA,nG]
       rw [w64 (by omega) (by omega)]
       simp
     ·rw [cJ (r:= .inr false)]
      ·simp [hcc]
      ·simp only [hc,cond_true,hx,hx2,aA,nG]
       have:decide (c=c2)=false:=decide_eq_false hcc
       rw [this]
       rfl
  have h0:=key a b [] [] rfl rfl rfl hl
  have e0:((([]:List aG).length:Nat):Int)=0:=rfl
  rw [e0] at h0
  rw [h0,aA]
  by_cases hab:a=b
  ·rw [if_pos hab]; simp [hab]
  ·rw [if_neg hab]; simp [hab]
 ·have e:((a.length:Int) != (b.length:Int))=true:=by simp; omega
  rw [e,cond_true]
  have:a≠b:=fun h=>hl (by rw [h])
  simp [this]
theorem u9 (r q:aE) (h:r.cells.length≤1000000):gZ r q=some (decide (r=q)):=by
 unfold gZ
 obtain ⟨a,x⟩:=r
 obtain ⟨b,y⟩:=q
 rw [E2 a b h]
 cases x <;> cases y <;> simp
end Go.Tw.X
set_option linter.unusedVariables false
set_option linter.unusedSimpArgs false
namespace Go.Tw.X
open Go Go.Tw
theorem mr (l:List aG) (h:l.length≤1000000):fB (l.map tc)=some ⟨(iz 0 l).map tc,false⟩:=by
 unfold fB
 have hml:(l.map tc).length=l.length:=List.length_map _
 rw [hml]
 have key: ∀ (r d o:List aG),d++r=l→o.length=d.length→iter (σ:=Int×(List aV)) (ρ:=(List aV)) (fun b=>(bif (decide (b.1 < (l.length:Int))) then (Option.bind (idx (l.map tc) b.1) fun f=>(Option.bind ((bif (f.part == 1) then (bif ((IntKind.i64.wrap (b.1+1)) == (l.length:Int)) then some true else (Option.bind (idx (l.map tc) (IntKind.i64.wrap (b.1+1))) fun g=>some (g.part != 2))) else (bif (f.part == 2) then (bif (b.1 == 0) then some true else (Option.bind (idx b.2 (IntKind.i64.wrap (b.1 - 1))) fun i=>some (i.part != 1))) else (bif (f.part == 3) then some (decide (b.1 < (IntKind.i64.wrap ((l.length:Int) - 1)))) else some false))):Option Bool) fun k=>(Option.bind ((bif k then some (aV.mk 32 f.aP 0) else some f):Option aV) fun j=>(Option.bind (chk (eL b.2.length [j].length 24)) fun _=>some (.inl ((IntKind.i64.wrap (b.1+1)),(b.2++[j]))))))) else some (.inr b.2))) ((d.length:Int),o.map tc)=some ((o++iz (l6 o) r).map tc):=by
  intro r
  induction r with
  | nil =>
   intro d o hd ho
   simp at hd
   subst hd
   rw [cJ (r:=o.map tc)]
   ·simp [iz]
   ·simp
  | cons c r ih =>
   intro d o hd ho
   have hl:l.length=d.length+r.length+1:=by rw [← hd]; simp; omega
   rw [cY (s':=(((d++[c]).length:Int),(o++[tW (l6 o) c r]).map tc))]
   ·rw [ih (d++[c]) (o++[tW (l6 o) c r]) (by simpa using hd) (by simp [ho]),vQ]
    simp [iz]
   ·have hc:decide ((d.length:Int) < (l.length:Int))=true:=by simp; omega
    have em:l.map tc=d.map tc++tc c::r.map tc:=by rw [← hd]; simp
    have hdl:(d.map tc).length=d.length:=List.length_map _
    have hx:idx (l.map tc) (d.length:Int)=some (tc c):=by rw [em,← hdl]; exact ld _ _ _
    have hx2:idx (l.map tc) ((d.length:Int)+1)=(r.map tc)[0]?:=by rw [em,← hdl]; exact zc _ _ _
    simp only [hc,cond_true,hx,aA]
    rw [w64 (x:=(d.length:Int)+1) (by omega) (by omega),w64 (x:=(d.length:Int) - 1) (by omega) (by omega),w64 (x:=(l.length:Int) - 1) (by omega) (by omega),hx2]
    have hbad:((bif ((tc c).part == 1) then (bif (((d.length:Int)+1) == (l.length:Int)) then some true else (Option.bind ((r.map tc)[0]?) fun g=>some (g.part != 2))) else (bif ((tc c).part == 2) then (bif ((d.length:Int) == 0) then some true else (Option.bind (idx (o.map tc) ((d.length:Int) - 1)) fun i=>some (i.part != 1))) else (bif ((tc c).part == 3) then some (decide ((d.length:Int) < (l.length:Int) - 1)) else some false))):Option Bool)=some (wY (l6 o) c r):=by
     have htc:(tc c).part=c.part:=rfl
     rw [htc]
     unfold wY
     cases h1:(c.part == 1) with
     | true =>
      simp only [cond_true]
      cases r with
      | nil =>
       have:(((d.length:Int)+1) == (l.length:Int))=true:=by simp at hl ⊢; omega
       rw [this]
       rfl
      | cons e r =>
       have:(((d.length:Int)+1) == (l.length:Int))=false:=by simp at hl ⊢; omega
       rw [this]
       rfl
     | false =>
      simp only [cond_false]
      cases h2:(c.part == 2) with
      | true =>
       simp only [cond_true]
       cases ho0:o with
       | nil =>
        have:d.length=0:=by rw [← ho,ho0]; rfl
        have:((d.length:Int) == 0)=true:=by simp [this]
        rw [this]
        rfl
       | cons a t =>
        have hpos:0 < d.length:=by rw [← ho,ho0]; simp
        have hne:((d.length:Int) == 0)=false:=by rw [beq_eq_false_iff_ne]; omega
        have hol:((a::t).map tc).length=d.length:=by rw [List.length_map,← ho0,ho]
        have hi:=zb ((a::t).map tc) [] ⟨0,0,0⟩ ⟨0,0,0⟩ (by rw [hol]; exact hpos)
        have hlt:d.length - 1 < ((a::t).map tc).length:=by rw [hol]; omega
        have e1:((d.length:Int) - 1)=((d.length - 1:Nat):Int):=by omega
        rw [hol,e1,fE,List.getElem?_append_left hlt] at hi
        rw [hne,cond_false,e1,fE,hi,aA]
        have e2:l6 (a::t)=(rK (⟨0,0,0⟩:aV) ((a::t).map tc)).part:=by
         unfold l6
         rw [← tX (fun c:aV=>c.part) ⟨0,0,0⟩ ((a::t).map tc),List.map_map]
         rfl
        rw [e2]
      | false =>
       simp only [cond_false]
       cases h3:(c.part == 3) with
       | true =>
        simp only [cond_true]
        cases r with
        | nil =>
         have:decide ((d.length:Int) < (l.length:Int) - 1)=false:=decide_eq_false (by simp at hl; omega)
         rw [this]
         rfl
        | cons e r =>
         have:decide ((d.length:Int) < (l.length:Int) - 1)=true:=decide_eq_true (by simp at hl; omega)
         rw [this]
         rfl
       | false=>rfl
    rw [hbad,aA]
    have hfix:((bif wY (l6 o) c r then some (aV.mk 32 (tc c).aP 0) else some (tc c)):Option aV)=some (tc (tW (l6 o) c r)):=by
     unfold tW
     cases wY (l6 o) c r <;> rfl
    rw [hfix,aA,bR (by simp; omega),aA]
    simp
 have h0:=key l [] [] rfl rfl
 have e0:((([]:List aG).length:Nat):Int)=0:=rfl
 rw [e0] at h0
 simp only [List.map_nil,List.nil_append] at h0
 rw [h0,aA]
 rfl
theorem yf (n lo hi:Int) (h:lo≤hi):mg n lo hi=some (max lo (min n hi)):=by
 unfold mg
 by_cases h1:n < lo
 ·rw [decide_eq_true h1,cond_true]; congr 1; omega
 ·rw [decide_eq_false h1,cond_false]
  by_cases h2:n > hi
  ·rw [decide_eq_true h2,cond_true]; congr 1; omega
  ·rw [decide_eq_false h2,cond_false]; congr 1; omega
theorem qQ (w s:Int):iT w s=some ⟨(List.replicate (max 0 (min w 1000)).toNat (blk s)).map tc,false⟩:=by
 unfold iT
 generalize hv:max 0 (min w 1000)=v
 obtain ⟨k,rfl⟩: ∃ k:Nat,v=k:=⟨v.toNat,by omega⟩
 have hk:k≤1000:=by omega
 have key: ∀ m j,k - j=m→j≤k→iter (σ:=(List aV)×Int) (ρ:=(List aV)) (fun a=>(Option.bind (mg w 0 1000) fun b=>(bif (decide (a.2 < b)) then (Option.bind (chk (eL a.1.length [(aV.mk 32 s 0)].length 24)) fun _=>some (.inl ((a.1++[(aV.mk 32 s 0)]),(IntKind.i64.wrap (a.2+1))))) else some (.inr a.1)))) (List.replicate j (tc (blk s)),(j:Int))=some (List.replicate k (tc (blk s))):=by
  intro m
  induction m with
  | zero =>
   intro j hm hj
   have:j=k:=by omega
   subst this
   rw [cJ (r:=List.replicate j (tc (blk s)))]
   simp only [yf w 0 1000 (by omega),hv,aA]
   simp
  | succ m ih =>
   intro j hm hj
   rw [cY (s':=(List.replicate (j+1) (tc (blk s)),((j+1:Nat):Int)))]
   ·exact ih (j+1) (by omega) (by omega)
   ·simp only [yf w 0 1000 (by omega),hv,aA]
    have:decide ((j:Int) < (k:Int))=true:=decide_eq_true (by omega)
    rw [this,cond_true,bR (by simp; omega),aA,w64 (by omega) (by omega),List.replicate_succ']
    rfl
 have h0:=key (k - 0) 0 rfl (Nat.zero_le _)
 have e0:((0:Nat):Int)=0:=rfl
 rw [e0,List.replicate_zero] at h0
 rw [h0,aA,Int.toNat_natCast,List.map_replicate]
end Go.Tw.X
set_option linter.unusedVariables false
set_option linter.unusedSimpArgs false
namespace Go.Tw.X
open Go Go.Tw
theorem E3 (n:Nat) (h:n≤1000000):chk (eL ([]:List aV).length n 24)=some ():=bR (by simp; omega)
theorem jY (l:List aG):(l.map tc).length=l.length:=List.length_map _
theorem JK (s:Int):tc (blk s)=⟨32,s,0⟩:=rfl
theorem DA (l:List aG) (w:Bool) (a b s:Int) (h:l.length≤1000000):mT ⟨l.map tc,w⟩ a b s=some ⟨(iz 0 (kq a b s 0 l)).map tc,false⟩:=by
 unfold mT
 simp only [jY,List.nil_append]
 rw [E3 _ h,aA]
 have key: ∀ (r d o:List aG),d++r=l→o.length=d.length→iter (σ:=Int×(List aV)) (ρ:=(List aV)) (fun e=>(bif (decide (e.1 < (l.length:Int))) then (Option.bind ((Option.bind ((bif (decide (e.1≥a)) then some (decide (e.1 < b)) else some false):Option Bool) fun f=>(bif f then (Option.bind (idx e.2 e.1) fun i=>some (e.2.set e.1.toNat (aV.mk 32 s 0))) else some e.2)):Option (List aV)) fun g=>some (.inl ((IntKind.i64.wrap (e.1+1)),g))) else some (.inr e.2))) ((d.length:Int),(o++r).map tc)=some ((o++kq a b s (d.length:Int) r).map tc):=by
  intro r
  induction r with
  | nil =>
   intro d o hd ho
   simp at hd
   subst hd
   rw [cJ (r:=(o++[]).map tc)]
   ·simp [kq]
   ·simp
  | cons c r ih =>
   intro d o hd ho
   have hl:l.length=d.length+r.length+1:=by rw [← hd]; simp; omega
   have hc:decide ((d.length:Int) < (l.length:Int))=true:=by simp; omega
   generalize hc':(if a≤(d.length:Int)∧(d.length:Int) < b then blk s else c)=c'
   rw [cY (s':=(((d++[c]).length:Int),((o++[c'])++r).map tc))]
   ·rw [ih (d++[c]) (o++[c']) (by simpa using hd) (by simp [ho])]
    simp [kq,hc']
   ·simp only [hc,cond_true]
    rw [w64 (by omega) (by omega)]
    have hx:idx ((o++c::r).map tc) (d.length:Int)=some (tc c):=by
     rw [← ho,List.map_append,List.map_cons,← jY o]
     exact ld _ _ _
    by_cases h1:a≤(d.length:Int)
    ·by_cases h2:(d.length:Int) < b
     ·rw [decide_eq_true (show (d.length:Int)≥a from h1),cond_true,decide_eq_true h2,aA,cond_true,hx,aA,aA]
      rw [if_pos ⟨h1,h2⟩] at hc'
      subst hc'
      congr 2
      refine Prod.ext (by simp) ?_
      show ((o++c::r).map tc).set ((d.length:Int).toNat) _=_
      rw [Int.toNat_natCast,← ho,List.map_append,List.map_cons]
      simp [JK]
     ·rw [decide_eq_true (show (d.length:Int)≥a from h1),cond_true,decide_eq_false h2,aA,cond_false,aA]
      rw [if_neg (by omega)] at hc'
      subst hc'
      simp
    ·rw [decide_eq_false (show ¬ (d.length:Int)≥a from h1),cond_false,aA,cond_false,aA]
     rw [if_neg (by omega)] at hc'
     subst hc'
     simp
 have h0:=key l [] [] rfl rfl
 have e0:((([]:List aG).length:Nat):Int)=0:=rfl
 rw [e0] at h0
 simp only [List.nil_append] at h0
 rw [h0,aA,mr _ (by rw [lH]; exact h),aA]
theorem E4 (l:List aG) (w:Bool) (s:Int) (h:l.length≤1000000):mj ⟨l.map tc,w⟩ s=some ⟨(iz 0 (nZ l s)).map tc,true⟩:=by
 unfold mj
 simp only [jY,List.nil_append]
 rw [E3 _ h,aA]
 by_cases h0:(l.length:Int) > 0
 ·have ew:IntKind.i64.wrap ((l.length:Int) - 1)=((l.length - 1:Nat):Int):=by rw [w64 (by omega) (by omega)]; omega
  rw [decide_eq_true h0,cond_true,ew,fE,List.getElem?_eq_getElem (by rw [jY]; omega),aA,aA,Int.toNat_natCast]
  have e:(l.map tc).set (l.length - 1) ⟨32,s,3⟩=(nZ l s).map tc:=by
   unfold nZ
   rw [List.map_set]
   rfl
  rw [e,mr _ (by simp [nZ]; exact h),aA]
 ·have hn:l=[]:=List.eq_nil_of_length_eq_zero (by omega)
  rw [decide_eq_false h0,cond_false,aA,mr _ h,aA]
  simp [nZ,hn]
theorem KK (x y:Int):(if x < y then x else y)=min y x:=by split <;> omega
theorem AQ (l:List aG) (w:Bool) (at_ n s:Int) (h:l.length≤1000) (ha: -9223372036854775808≤at_) (hb:at_≤9223372036854775807):mh ⟨l.map tc,w⟩ at_ n s=some ⟨(iz 0 (if cP l at_ n=0 then l else mV l at_.toNat (cP l at_ n).toNat s)).map tc,false⟩:=by
 unfold mh
 simp only [jY,List.nil_append,KK]
 by_cases h0:at_ < 0∨at_≥l.length∨n≤0
 ·have e:((bif (decide (at_ < 0)) then some true else (bif (decide (at_≥(l.length:Int))) then some true else some (decide (n≤0)))):Option Bool)=some true:=by
   rcases h0 with h0 | h0 | h0
   ·simp [h0]
   ·cases h1:decide (at_ < 0) <;> simp [h0]
   ·cases h1:decide (at_ < 0) <;> cases h2:decide (at_≥(l.length:Int)) <;> simp [h0]
  have hw:cP l at_ n=0:=by unfold cP; split <;> omega
  rw [e,aA,cond_true,mr _ (by omega),aA,if_pos hw]
 ·have e:((bif (decide (at_ < 0)) then some true else (bif (decide (at_≥(l.length:Int))) then some true else some (decide (n≤0)))):Option Bool)=some false:=by
   rw [decide_eq_false (by omega: ¬ at_ < 0),decide_eq_false (by omega: ¬ at_≥(l.length:Int)),decide_eq_false (by omega: ¬ n≤0)]
   rfl
  have hw:cP l at_ n=min n (l.length - at_):=by unfold cP; rw [if_neg (by omega)]; omega
  rw [e,aA,cond_false,w64 (x:=(l.length:Int) - at_) (by omega) (by omega),eG,← hw]
  have hb2:0 < cP l at_ n∧at_+cP l at_ n≤l.length:=by omega
  rw [if_neg (by omega)]
  generalize cP l at_ n=v at hb2
  clear hw e
  obtain ⟨k,rfl⟩: ∃ k:Nat,at_=k:=⟨at_.toNat,by omega⟩
  obtain ⟨m,rfl⟩: ∃ m:Nat,v=m:=⟨v.toNat,by omega⟩
  have c1:cut (l.map tc) 0 (k:Int)=(l.take k).map tc:=by simp [cut,List.map_take]
  have c2:cut (l.map tc) (k:Int) ((l.length:Int) - (m:Int))=((l.take (l.length - m)).drop k).map tc:=by
   have e:((l.length:Int) - (m:Int)).toNat=l.length - m:=by omega
   unfold cut
   rw [e,Int.toNat_natCast,List.map_drop,List.map_take]
  rw [bY (by omega) (by omega) (by omega),aA,c1,bR (by simp; omega),aA,qQ,aA,w64 (x:=(l.length:Int) - (m:Int)) (by omega) (by omega),bR (by simp; omega),aA,bY (by omega) (by omega) (by omega),aA,c2,bR (by simp; omega),aA]
  have em:(max 0 (min (m:Int) 1000)).toNat=m:=by omega
  rw [em,← List.map_append,← List.map_append,Int.toNat_natCast,Int.toNat_natCast]
  have ei:l.take k++List.replicate m (blk s)++(l.take (l.length - m)).drop k=mV l k m s:=by
   unfold mV
   have hkm:k+m≤l.length:=by omega
   have hA:(l.take k++List.replicate m (blk s)).length=k+m:=by rw [List.length_append,List.length_take,List.length_replicate]; omega
   have hT:=List.take_of_length_le (l:=l.take k++List.replicate m (blk s)) (i:=l.length) (by rw [hA]; exact hkm)
   rw [List.take_append,hA,hT,List.drop_take,Nat.sub_sub,Nat.add_comm m k]
  rw [ei,mr _ (by unfold mV; simp; omega),aA]
theorem AR (l:List aG) (w:Bool) (at_ n s:Int) (h:l.length≤1000) (ha: -9223372036854775808≤at_) (hb:at_≤9223372036854775807):mi ⟨l.map tc,w⟩ at_ n s=some ⟨(iz 0 (if cP l at_ n=0 then l else nt l at_.toNat (cP l at_ n).toNat s)).map tc,false⟩:=by
 unfold mi
 simp only [jY,List.nil_append,KK]
 by_cases h0:at_ < 0∨at_≥l.length∨n≤0
 ·have e:((bif (decide (at_ < 0)) then some true else (bif (decide (at_≥(l.length:Int))) then some true else some (decide (n≤0)))):Option Bool)=some true:=by
   rcases h0 with h0 | h0 | h0
   ·simp [h0]
   ·cases h1:decide (at_ < 0) <;> simp [h0]
   ·cases h1:decide (at_ < 0) <;> cases h2:decide (at_≥(l.length:Int)) <;> simp [h0]
  have hw:cP l at_ n=0:=by unfold cP; split <;> omega
  rw [e,aA,cond_true,mr _ (by omega),aA,if_pos hw]
 ·have e:((bif (decide (at_ < 0)) then some true else (bif (decide (at_≥(l.length:Int))) then some true else some (decide (n≤0)))):Option Bool)=some false:=by
   rw [decide_eq_false (by omega: ¬ at_ < 0),decide_eq_false (by omega: ¬ at_≥(l.length:Int)),decide_eq_false (by omega: ¬ n≤0)]
   rfl
  have hw:cP l at_ n=min n (l.length - at_):=by unfold cP; rw [if_neg (by omega)]; omega
  rw [e,aA,cond_false,w64 (x:=(l.length:Int) - at_) (by omega) (by omega),eG,← hw]
  have hb2:0 < cP l at_ n∧at_+cP l at_ n≤l.length:=by omega
  rw [if_neg (by omega)]
  generalize cP l at_ n=v at hb2
  clear hw e
  obtain ⟨k,rfl⟩: ∃ k:Nat,at_=k:=⟨at_.toNat,by omega⟩
  obtain ⟨m,rfl⟩: ∃ m:Nat,v=m:=⟨v.toNat,by omega⟩
  have c1:cut (l.map tc) 0 (k:Int)=(l.take k).map tc:=by simp [cut,List.map_take]
  have ek:(k:Int)+(m:Int)=((k+m:Nat):Int):=by omega
  have c2:cut (l.map tc) ((k+m:Nat):Int) (l.length:Int)=(l.drop (k+m)).map tc:=by
   unfold cut
   rw [Int.toNat_natCast,Int.toNat_natCast,List.take_of_length_le (by rw [jY]; exact Nat.le_refl _),List.map_drop]
  rw [bY (by omega) (by omega) (by omega),aA,c1,bR (by simp; omega),aA,w64 (x:=(k:Int)+(m:Int)) (by omega) (by omega),ek,bY (by omega) (by omega) (by omega),aA,c2,bR (by simp; omega),aA,qQ,aA,bR (by simp; omega),aA]
  have em:(max 0 (min (m:Int) 1000)).toNat=m:=by omega
  rw [em,← List.map_append,← List.map_append,Int.toNat_natCast,Int.toNat_natCast]
  change (Option.bind (fB ((nt l k m s).map tc)) _)=_
  rw [mr _ (by unfold nt; simp; omega),aA]
theorem AS (l:List aG) (w:Bool) (v:Int) (h:l.length≤1000000):mm ⟨l.map tc,w⟩ v=some (if (max 0 (min v 1000)).toNat=l.length then ⟨l.map tc,w⟩ else ⟨(iz 0 (mW l (max 0 (min v 1000)).toNat)).map tc,false⟩):=by
 unfold mm
 rw [yf _ _ _ (by omega),aA]
 simp only [jY,List.nil_append]
 generalize hv:max 0 (min v 1000)=u
 obtain ⟨k,rfl⟩: ∃ k:Nat,u=k:=⟨u.toNat,by omega⟩
 rw [Int.toNat_natCast]
 by_cases h0:k=l.length
 ·have e:((k:Int) == (l.length:Int))=true:=by simp [h0]
  rw [e,cond_true,if_pos h0]
 ·have e:((k:Int) == (l.length:Int))=false:=by rw [beq_eq_false_iff_ne]; omega
  have ec:fQ (k:Int) (l.length:Int)=((min k l.length:Nat):Int):=by rw [eG]; omega
  have c1:cut (l.map tc) 0 ((min k l.length:Nat):Int)=(l.take k).map tc:=by
   simp only [cut,Int.toNat_natCast,Int.toNat_zero,List.drop_zero]
   rw [← List.take_take,← jY l,List.take_length,List.map_take]
  rw [e,cond_false,if_neg h0,ec,bY (by omega) (by omega) (by omega),aA,c1,bR (by simp; omega),aA]
  have e3:(((l.take k).map tc).length:Int)=((min k l.length:Nat):Int):=by simp
  rw [e3,w64 (by omega) (by omega),qQ,aA,bR (by simp; omega),aA,← List.map_append]
  have c2:l.take k++List.replicate (max 0 (min ((k:Int) - ((min k l.length:Nat):Int)) 1000)).toNat (blk 0)=mW l k:=by
   unfold mW
   congr 2
   omega
  rw [c2,mr _ (by unfold mW; simp; omega),aA]
end Go.Tw.X
set_option linter.unusedVariables false
set_option linter.unusedSimpArgs false
namespace Go.Tw.X
open Go Go.Tw
def tZ (Z:List cF) (r:Int):Bool:=Z.any fun x=>decide (x.e0≤r∧r≤x.e1)
theorem BZ (Z:List cF) (r v:Int) (h:Z.length≤1000):iter (σ:=Int) (ρ:=Unit ⊕ Int) (fun a=>(bif (decide (a < (Z.length:Int))) then (Option.bind (idx Z a) fun e=>(Option.bind ((bif (decide (r≥e.e0)) then some (decide (r≤e.e1)) else some false):Option Bool) fun f=>(bif f then (kO (some v)) else some (.inl (IntKind.i64.wrap (a+1)))))) else some (.inr (.inl ())))) 0=some (if tZ Z r then .inr v else .inl ()):=by
 have key: ∀ (b d:List cF),d++b=Z→iter (σ:=Int) (ρ:=Unit ⊕ Int) (fun a=>(bif (decide (a < (Z.length:Int))) then (Option.bind (idx Z a) fun e=>(Option.bind ((bif (decide (r≥e.e0)) then some (decide (r≤e.e1)) else some false):Option Bool) fun f=>(bif f then (kO (some v)) else some (.inl (IntKind.i64.wrap (a+1)))))) else some (.inr (.inl ())))) (d.length:Int)=some (if tZ b r then .inr v else .inl ()):=by
  intro b
  induction b with
  | nil =>
   intro d hd
   simp at hd
   subst hd
   rw [cJ (r:= .inl ())]
   ·rfl
   ·simp
  | cons c b ih =>
   intro d hd
   have hl:Z.length=d.length+b.length+1:=by rw [← hd]; simp; omega
   have hc:decide ((d.length:Int) < (Z.length:Int))=true:=by simp; omega
   have hx:idx Z (d.length:Int)=some c:=by rw [← hd]; exact ld d b c
   have hin:((bif (decide (r≥c.e0)) then some (decide (r≤c.e1)) else some false):Option Bool)=some (decide (c.e0≤r∧r≤c.e1)):=by
    by_cases h1:c.e0≤r <;> by_cases h2:r≤c.e1 <;> simp [h1,h2]
   by_cases hh:c.e0≤r∧r≤c.e1
   ·rw [cJ (r:= .inr v)]
    ·have:tZ (c::b) r=true:=by unfold tZ; rw [List.any_cons,decide_eq_true hh,Bool.true_or]
     rw [this]
     rfl
    ·simp only [hc,cond_true,hx,aA,hin]
     rw [decide_eq_true hh]
     rfl
   ·rw [cY (s':=((d++[c]).length:Int))]
    ·rw [ih (d++[c]) (by simpa using hd)]
     have:tZ (c::b) r=tZ b r:=by unfold tZ; rw [List.any_cons,decide_eq_false hh,Bool.false_or]
     rw [this]
    ·simp only [hc,cond_true,hx,aA,hin]
     rw [decide_eq_false hh,cond_false,w64 (by omega) (by omega)]
     simp
 exact key Z [] rfl
theorem E5 (x:Int) (h0: -2147483648≤x) (h1:x≤2147483647):o8 x=some (ofS x):=by
 unfold o8
 rw [BZ _ x 0 (by decide),BZ _ x 2 (by decide)]
 have e8:((bif (decide (x < 32)) then some true else some (decide (x > 1114111))):Option Bool)=some (decide (x < 32∨x > 1114111)):=by
  by_cases h2:x < 32 <;> by_cases h3:x > 1114111 <;> simp [h2,h3]
 rw [e8,aA]
 have en:inS cT x=(decide (x < 32∨x > 1114111) || tZ [⟨127,159⟩,⟨768,879⟩,⟨6832,6911⟩,⟨7616,7679⟩,⟨8203,8207⟩,⟨8400,8447⟩,⟨55296,57343⟩,⟨65024,65039⟩,⟨65056,65071⟩,⟨65279,65279⟩,⟨917760,917999⟩] x):=by
  rw [Bool.eq_iff_iff]
  simp only [inS,cT,tZ,List.any_cons,List.any_nil,Bool.or_eq_true,decide_eq_true_eq,Bool.false_eq_true,or_false]
  constructor
  ·rintro (h | h | h | h | h | h | h | h | h | h | h | h | h) <;> omega
  ·omega
 have et:inS dC x=tZ [⟨4352,4447⟩,⟨11904,12350⟩,⟨12353,13311⟩,⟨13312,19903⟩,⟨19968,40959⟩,⟨40960,42191⟩,⟨44032,55203⟩,⟨63744,64255⟩,⟨65072,65135⟩,⟨65280,65376⟩,⟨65504,65510⟩,⟨127744,128591⟩,⟨129280,129535⟩,⟨131072,262141⟩] x:=by
  simp only [inS,dC,tZ,List.any_cons,List.any_nil]
 unfold ofS
 rw [en,et]
 cases decide (x < 32∨x > 1114111) with
 | true=>rfl
 | false =>
  rw [cond_false,Bool.false_or]
  cases tZ [⟨127,159⟩,⟨768,879⟩,⟨6832,6911⟩,⟨7616,7679⟩,⟨8203,8207⟩,⟨8400,8447⟩,⟨55296,57343⟩,⟨65024,65039⟩,⟨65056,65071⟩,⟨65279,65279⟩,⟨917760,917999⟩] x with
  | true=>rfl
  | false =>
   cases tZ [⟨4352,4447⟩,⟨11904,12350⟩,⟨12353,13311⟩,⟨13312,19903⟩,⟨19968,40959⟩,⟨40960,42191⟩,⟨44032,55203⟩,⟨63744,64255⟩,⟨65072,65135⟩,⟨65280,65376⟩,⟨65504,65510⟩,⟨127744,128591⟩,⟨129280,129535⟩,⟨131072,262141⟩] x <;> rfl
theorem Hl (l:List aG) (w:Bool) (at_ x s:Int) (h:l.length≤1000000) (ha: -9223372036854775808≤at_) (hb:at_≤9223372036854775807) (h0: -2147483648≤x) (h1:x≤2147483647):nY ⟨l.map tc,w⟩ at_ x s=some ⟨(iz 0 (tY l at_ x s)).map tc,false⟩:=by
 unfold nY
 simp only [jY,List.nil_append]
 rw [E5 x h0 h1,aA]
 have h3:=oz x
 have fin: ∀ (q:List aG),q.length=l.length→(Option.bind (fB (q.map tc)) fun a=>some a)=some ⟨(iz 0 q).map tc,false⟩:=fun q hq=>by rw [mr q (by omega),aA]
 rw [w64 (x:=(l.length:Int) - ofS x) (by omega) (by omega)]
 by_cases hc:ofS x=0∨at_ < 0∨at_ > l.length - ofS x
 ·have hb2:((bif (ofS x == 0) then some true else (bif (decide (at_ < 0)) then some true else some (decide (at_ > ((l.length:Int) - ofS x))))):Option Bool)=some true:=by
   rcases hc with hc | hc | hc
   ·simp [hc]
   ·cases h0:(ofS x == 0) <;> simp [hc]
   ·cases h0:(ofS x == 0) <;> cases h1:decide (at_ < 0) <;> simp [hc]
  rw [hb2,aA,cond_true]
  unfold tY
  rw [if_pos hc]
  exact fin _ rfl
 ·have hb2:((bif (ofS x == 0) then some true else (bif (decide (at_ < 0)) then some true else some (decide (at_ > ((l.length:Int) - ofS x))))):Option Bool)=some false:=by
   have e0:(ofS x == 0)=false:=by simp; omega
   have e1:decide (at_ < 0)=false:=decide_eq_false (by omega)
   rw [e0,cond_false,e1,cond_false]
   simp
   omega
  rw [hb2,aA,cond_false,E3 _ h,aA]
  obtain ⟨k,rfl⟩: ∃ k:Nat,at_=k:=⟨at_.toNat,by omega⟩
  unfold tY
  rw [if_neg hc]
  have hk:k < (l.map tc).length:=by rw [jY]; omega
  rw [fE,List.getElem?_eq_getElem hk,aA,Int.toNat_natCast]
  by_cases h1:ofS x=1
  ·have e1:(ofS x == 2)=false:=by simp [h1]
   have em:(l.map tc).set k ⟨x,s,0⟩=(l.set k ⟨x,s,0⟩).map tc:=by rw [List.map_set]; rfl
   rw [e1,cond_false,aA,if_pos h1,em]
   exact fin _ (by simp)
  ·have h2:ofS x=2:=by omega
   have e1:(ofS x == 2)=true:=by simp [h2]
   have hk2:k+1 < l.length:=by omega
   have ew:IntKind.i64.wrap ((k:Int)+1)=((k+1:Nat):Int):=by rw [w64 (by omega) (by omega)]; omega
   rw [e1,cond_true,ew,fE,List.getElem?_eq_getElem (by simpa using hk),aA,fE,List.getElem?_eq_getElem (by simp; omega),aA,if_neg h1,Int.toNat_natCast]
   have em:(((l.map tc).set k ⟨x,s,0⟩).set k ⟨x,s,1⟩).set (k+1) ⟨x,s,2⟩=((l.set k ⟨x,s,1⟩).set (k+1) ⟨x,s,2⟩).map tc:=by
    rw [List.set_set,List.map_set,List.map_set]
    rfl
   rw [em]
   generalize hl1:(l.set k ⟨x,s,1⟩).set (k+1) ⟨x,s,2⟩=l1
   have hlen:l1.length=l.length:=by rw [← hl1]; simp
   unfold AP
   rw [show ((k:Int)).toNat=k from Int.toNat_natCast k]
   by_cases h0:(k:Int) > 0
   ·have em1:IntKind.i64.wrap ((k:Int) - 1)=((k - 1:Nat):Int):=by rw [w64 (by omega) (by omega)]; omega
    have hk1:k - 1 < l1.length:=by omega
    have hg:idx (l1.map tc) ((k - 1:Nat):Int)=some (tc l1[k - 1]):=by rw [fE,List.getElem?_map,List.getElem?_eq_getElem hk1]; rfl
    rw [decide_eq_true h0,cond_true,em1,hg,if_pos h0,List.getElem?_eq_getElem hk1]
    simp only [aA]
    by_cases hp:(l1[k - 1]).part=1
    ·have e3:((tc l1[k - 1]).part == 1)=true:=by simp [tc,hp]
     have es:(l1.map tc).set (k - 1) ⟨32,(tc l1[k - 1]).aP,0⟩=(l1.set (k - 1) (blk (l1[k - 1]).aP)).map tc:=by rw [List.map_set]; rfl
     rw [e3,cond_true,if_pos hp]
     simp only [aA,Int.toNat_natCast,es]
     exact fin _ (by simpa using hlen)
    ·have e3:((tc l1[k - 1]).part == 1)=false:=by simp [tc,hp]
     rw [e3,cond_false,if_neg hp]
     simp only [aA]
     exact fin _ hlen
   ·rw [decide_eq_false h0,cond_false,if_neg h0]
    simp only [aA]
    rw [cond_false,aA]
    exact fin _ hlen
end Go.Tw.X
set_option linter.unusedVariables false
set_option linter.unusedSimpArgs false
namespace Go.Tw.X
open Go Go.Tw
def rok (x:Int):Prop:= -2147483648≤x∧x≤2147483647
def okR (l:List aG):Prop:= ∀ c∈l,rok c.rune
theorem va (s:Int):rok (blk s).rune:=by unfold rok blk; simp
theorem oA: ∀ (l:List aG) (p:Int),okR l→okR (iz p l)
 | [],_,_=>fun c hc=>by cases hc
 | c::r,p,h=>by
  intro d hd
  simp only [iz,List.mem_cons] at hd
  rcases hd with rfl | hd
  ·unfold tW
   cases wY p c r with
   | true=>exact va c.aP
   | false=>exact h c (by simp)
  ·exact oA r _ (fun e he=>h e (by simp [he])) d hd
theorem sR {l:List aG} (h:okR l) (i:Nat) {c:aG} (hc:rok c.rune):okR (l.set i c):=by
 intro d hd
 rcases List.mem_or_eq_of_mem_set hd with hd | rfl
 ·exact h d hd
 ·exact hc
theorem Hm {l:List aG} (h:okR l) (at_ s:Int) {x:Int} (hx:rok x):okR (tY l at_ x s):=by
 unfold tY
 split
 ·exact h
 ·split
  ·exact sR h _ hx
  ·unfold AP
   have h1:=sR (sR h at_.toNat (c:=⟨x,s,1⟩) hx) (at_.toNat+1) (c:=⟨x,s,2⟩) hx
   split
   ·split
    ·exact sR h1 _ (va _)
    ·exact h1
   ·exact h1
theorem vb (n:Nat) (s:Int):okR (List.replicate n (blk s)):=fun c hc=>by rw [List.eq_of_mem_replicate hc]; exact va s
theorem pf {a b:List aG} (ha:okR a) (hb:okR b):okR (a++b):=fun c hc=>(List.mem_append.1 hc).elim (ha c) (hb c)
theorem sT {a:List aG} (ha:okR a) (n:Nat):okR (a.take n):=fun c hc=>ha c (List.mem_of_mem_take hc)
theorem vV {a:List aG} (ha:okR a) (n:Nat):okR (a.drop n):=fun c hc=>ha c (List.mem_of_mem_drop hc)
theorem ua (a b s:Int): ∀ {l:List aG} (i:Int),okR l→okR (kq a b s i l)
 | [],_,_=>fun c hc=>by cases hc
 | c::r,i,h=>by
  intro d hd
  simp only [kq,List.mem_cons] at hd
  rcases hd with rfl | hd
  ·split
   ·exact va s
   ·exact h c (by simp)
  ·exact ua a b s (i+1) (fun e he=>h e (by simp [he])) d hd
theorem w32 {x:Int} (h:rok x):IntKind.i64.wrap x=x:=by obtain ⟨h1,h2⟩:=h; exact w64 (by omega) (by omega)
theorem KL (r:aE) (h:r.cells.length≤1000000) (hr:okR r.cells):sb r (told r)=some true:=by
 unfold sb told
 simp only [jY]
 have e6:((bif ((r.cells.length:Int) != (r.cells.length:Int)) then some true else some (!(r.wrapped == r.wrapped))):Option Bool)=some false:=by simp
 rw [e6,aA,cond_false]
 have key: ∀ (b d:List aG),d++b=r.cells→iter (σ:=Int) (ρ:=Unit ⊕ Bool) (fun a=>(bif (decide (a < (r.cells.length:Int))) then (Option.bind (idx r.cells a) fun e=>(Option.bind ((Option.bind (idx (r.cells.map tc) a) fun f=>(bif ((IntKind.i64.wrap e.rune) != f.rune) then some true else (Option.bind (idx (r.cells.map tc) a) fun g=>(bif (e.aP != g.aP) then some true else (Option.bind (idx (r.cells.map tc) a) fun i=>some (e.part != i.part)))))):Option Bool) fun j=>(bif j then (kO (some false)) else some (.inl (IntKind.i64.wrap (a+1)))))) else some (.inr (.inl ())))) (d.length:Int)=some (.inl ()):=by
  intro b
  induction b with
  | nil =>
   intro d hd
   simp at hd
   subst hd
   rw [cJ (r:= .inl ())]
   simp
  | cons c b ih =>
   intro d hd
   have hl:r.cells.length=d.length+b.length+1:=by rw [← hd]; simp; omega
   have hc:decide ((d.length:Int) < (r.cells.length:Int))=true:=by simp; omega
   have hx:idx r.cells (d.length:Int)=some c:=by rw [← hd]; exact ld d b c
   have hx2:idx (r.cells.map tc) (d.length:Int)=some (tc c):=by
    rw [← hd,List.map_append,List.map_cons,← jY d]
    exact ld _ _ _
   have hcr:rok c.rune:=hr c (by rw [← hd]; simp)
   rw [cY (s':=((d++[c]).length:Int))]
   ·exact ih (d++[c]) (by simpa using hd)
   ·simp only [hc,cond_true,hx,hx2,aA,w32 hcr,tc,bne_self_eq_false,cond_false]
    rw [w64 (by omega) (by omega)]
    simp
 have h0:=key r.cells [] rfl
 have e0:((([]:List aG).length:Nat):Int)=0:=rfl
 rw [e0] at h0
 rw [h0,aA]
def ins (l:List aG) (at_ n s:Int):List aG:=if cP l at_ n=0 then l else mV l at_.toNat (cP l at_ n).toNat s
def del (l:List aG) (at_ n s:Int):List aG:=if cP l at_ n=0 then l else nt l at_.toNat (cP l at_ n).toNat s
theorem vW (l:List aG) (at_ n:Int):cP l at_ n=0∨(0 < cP l at_ n∧0≤at_∧at_+cP l at_ n≤l.length):=by
 unfold cP
 split
 ·exact .inl rfl
 ·omega
end Go.Tw.X
set_option linter.unusedVariables false
set_option linter.unusedSimpArgs false
namespace Go.Tw.X
open Go Go.Tw
theorem B9 {σ ρ:Type} {f:σ→Option (σ ⊕ ρ)} (S:Nat→σ) (n:Nat) (r:ρ) (hs: ∀ i,i < n→f (S i)=some (.inl (S (i+1)))) (he:f (S n)=some (.inr r)):iter f (S 0)=some r:=by
 have key: ∀ i,i≤n→iter f (S 0)=iter f (S i):=by
  intro i
  induction i with
  | zero=>intro _; rfl
  | succ i ih =>
   intro hi
   rw [ih (by omega),cY (hs i (by omega))]
 rw [key n (Nat.le_refl n),cJ he]
theorem iP {σ ρ β:Type} {f:σ→Option (σ ⊕ ρ)} {s:σ} {g:ρ→Option β} {out:Option β} (S:Nat→σ) (n:Nat) (r:ρ) (h0:s=S 0) (hs: ∀ i,i < n→f (S i)=some (.inl (S (i+1)))) (he:f (S n)=some (.inr r)) (hg:g r=out):Option.bind (iter f s) g=out:=by
 rw [h0,B9 S n r hs he]
 exact hg
theorem sU {σ ρ:Type} {f:σ→Option (σ ⊕ ρ)} (Inv:σ→Prop) (m:σ→Nat) (pW:ρ→Prop)
  (hs: ∀ s,Inv s→(∃ s',f s=some (.inl s')∧Inv s'∧m s' < m s)∨(∃ r,f s=some (.inr r)∧pW r)): ∀ s,Inv s → ∃ r,iter f s=some r∧pW r:=by
 have key: ∀ (n:Nat) s,m s≤n→Inv s → ∃ r,iter f s=some r∧pW r:=by
  intro n
  induction n with
  | zero =>
   intro s hm hi
   rcases hs s hi with ⟨s',hf,hi',hlt⟩ | ⟨r,hf,hp⟩
   ·omega
   ·exact ⟨r,cJ hf,hp⟩
  | succ n ih =>
   intro s hm hi
   rcases hs s hi with ⟨s',hf,hi',hlt⟩ | ⟨r,hf,hp⟩
   ·rw [cY hf]
    exact ih s' (by omega) hi'
   ·exact ⟨r,cJ hf,hp⟩
 intro s hi
 exact key (m s) s (Nat.le_refl _) hi
theorem nH {σ ρ β:Type} {f:σ→Option (σ ⊕ ρ)} {s:σ} {g:ρ→Option β} {out:Option β} (Inv:σ→Prop) (m:σ→Nat) (pW:ρ→Prop) (h0:Inv s)
  (hs: ∀ s,Inv s→(∃ s',f s=some (.inl s')∧Inv s'∧m s' < m s)∨(∃ r,f s=some (.inr r)∧pW r)) (hg: ∀ r,pW r→g r=out):Option.bind (iter f s) g=out:=by
 obtain ⟨r,h1,h2⟩:=sU Inv m pW hs s h0
 rw [h1]
 exact hg r h2
theorem E6 {α:Type} (l:List α) {i:Int} (h0:0≤i) (h1:i < l.length): ∃ a,idx l i=some a∧a∈l:=by
 obtain ⟨n,rfl⟩:=Int.eq_ofNat_of_zero_le h0
 rw [fE]
 have hn:n < l.length:=by omega
 rw [List.getElem?_eq_getElem hn]
 exact ⟨_,rfl,List.getElem_mem hn⟩
theorem yg (p q:Prop) [Decidable p] [Decidable q]:((bif decide p then some (decide q) else some false):Option Bool)=some (decide (p∧q)):=by
 by_cases a1:p <;> by_cases a2:q <;> simp [a1,a2]
theorem or2 (p q:Prop) [Decidable p] [Decidable q]:((bif decide p then some true else some (decide q)):Option Bool)=some (decide (p∨q)):=by
 by_cases a1:p <;> by_cases a2:q <;> simp [a1,a2]
theorem dO {α:Type} (l:List α) (n:Nat) (h:n < l.length):idx l (n:Int)=some l[n]:=by rw [fE,List.getElem?_eq_getElem h]
theorem Hn {α:Type} (l r:List α) (x y:α):(l++x::r).set l.length y=l++y::r:=by simp
theorem Ca {α:Type} (A B C:List α) (hi:Int) (h:hi=((A.length+B.length:Nat):Int)):cut (A++B++C) (A.length:Int) hi=B:=by
 subst h
 simp only [cut,Int.toNat_natCast]
 rw [List.take_left' (by simp),List.drop_left]
theorem sV {α:Type} (l:List α) (a b:Nat):cut l (a:Int) (b:Int)=(l.take b).drop a:=by simp [cut]
theorem E7 {α:Type} (l:List α) (b:Nat):cut l 0 (b:Int)=l.take b:=by simp [cut]
def szN (n:Int):Nat:=(max 1 (min n 1000)).toNat
theorem E8 (n:Int):imax 1 (fQ n 1000)=(szN n:Int):=by rw [iL,eG]; unfold szN; omega
theorem vd (n:Int):1≤szN n:=by unfold szN; omega
theorem qe (n:Int):szN n≤1000:=by unfold szN; omega
theorem E9 (n:Nat) (h0:1≤n) (h1:n≤1000):szN n=n:=by unfold szN; omega
def jF (W:Nat) (s:Int):aE:=⟨List.replicate W (blk s),false⟩
def qf (g:bC):gM:=⟨g.w,g.l.map told⟩
def gok (W:Nat) (r:aE):Prop:=r.cells.length=W∧okR r.cells
structure GI (W:Nat) (l:List aE):Prop where
 w1:1≤W
 w2:W≤1000
 l1:1≤l.length
 l2:l.length≤1000
 rs: ∀ r∈l,gok W r
theorem sW (n lo hi:Int):hU n lo hi=some (max lo (min n hi)):=by
 unfold hU
 rw [iL,eG]
theorem zf (n:Int):iS n=some (szN n:Int):=by
 unfold iS hU
 rw [E8]
 rfl
theorem vX (n:Int):nq n=some (szN n:Int):=by
 unfold nq
 rw [E8]
theorem AT (W:Nat) (s:Int) (h:W≤1000):jq W s=some (jF W s):=by
 rw [ye]
 have:(max 0 (min (W:Int) 1000)).toNat=W:=by omega
 rw [this]
 rfl
theorem yh (W:Nat) (s:Int) (h:W≤1000):iT W s=some (told (jF W s)):=by
 rw [qQ]
 have:(max 0 (min (W:Int) 1000)).toNat=W:=by omega
 rw [this]
 rfl
theorem ub (W:Nat) (s:Int):gok W (jF W s):=⟨by simp [jF],vb W s⟩
def u0 (w h:Int):bC:=⟨(szN w:Int),List.replicate (szN h) (jF (szN w) 0)⟩
theorem JL (w h:Int):GI (szN w) (u0 w h).l:=by
 refine ⟨vd w,qe w,?_,?_,?_⟩
 ·simpa [u0] using vd h
 ·simpa [u0] using qe h
 ·intro r hr
  rw [List.eq_of_mem_replicate hr]
  exact ub _ _
theorem JM (w h:Int):nE w h=some (u0 w h):=by
 unfold nE
 rw [zf,aA,zf,aA]
 have hw:=qe w
 have hh:=qe h
 refine iP (fun i=>((⟨(szN w:Int),List.replicate i (jF (szN w) 0)⟩:bC),(i:Int))) (szN h) _ rfl ?_ ?_ rfl
 ·intro i hi
  try dsimp only
  rw [decide_eq_true (by omega),cond_true,AT _ _ hw,aA,bR (by simp; omega),aA,w64 (by omega) (by omega),← List.replicate_succ']
  rfl
 ·try dsimp only
  rw [decide_eq_false (by omega),cond_false]
  rfl
theorem Ho (w h:Int):pY w h=some (qf (u0 w h)):=by
 unfold pY
 rw [vX,aA]
 have hw:=qe w
 have hh:=qe h
 refine iP (fun i=>((⟨(szN w:Int),List.replicate i (told (jF (szN w) 0))⟩:gM),(i:Int))) (szN h) (⟨(szN w:Int),List.replicate (szN h) (told (jF (szN w) 0))⟩:gM) rfl ?_ ?_ ?_
 ·intro i hi
  try dsimp only
  rw [vX,aA,decide_eq_true (by omega),cond_true,yh _ _ hw,aA,bR (by simp; omega),aA,w64 (by omega) (by omega),← List.replicate_succ']
  rfl
 ·try dsimp only
  rw [vX,aA,decide_eq_false (by omega),cond_false]
 ·simp [qf,u0]
theorem Fa (r:aE) (h:r.cells.length≤1000000):mJ r=some r:=by
 unfold mJ
 rw [vS _ h,aA]
def yi:aE:=⟨[],false⟩
def kD (l:List aE) (y:Int):aE:=if 0≤y∧y < l.length then l[y.toNat]?.getD yi else yi
theorem Cb {l:List aE} {n:Nat} (h:n < l.length):kD l n=l[n]:=by
 unfold kD
 rw [if_pos (by omega),Int.toNat_natCast,List.getElem?_eq_getElem h]
 rfl
theorem JN (w:Int) (l:List aE) (y:Int) (h: ∀ r∈l,r.cells.length≤1000000):eY ⟨w,l⟩ y=some (kD l y):=by
 unfold eY kD
 rw [or2,aA]
 by_cases hy:0≤y∧y < l.length
 ·rw [decide_eq_false (by (try dsimp only); omega),cond_false,if_pos hy]
  obtain ⟨n,rfl⟩:=Int.eq_ofNat_of_zero_le hy.1
  have hn:n < l.length:=by omega
  simp only [Int.toNat_natCast]
  rw [dO l n hn,aA,Fa _ (h _ (List.getElem_mem hn)),aA,List.getElem?_eq_getElem hn]
  rfl
 ·rw [decide_eq_true (by (try dsimp only); omega),cond_true,if_neg hy]
  rfl
def rsz (W:Nat) (r:aE):aE:=if W=r.cells.length then r else ⟨iz 0 (mW r.cells W),false⟩
theorem JO (W:Nat) (hW:W≤1000) (r:aE) (h:r.cells.length≤1000000):iW r W=some (rsz W r):=by
 rw [Dx _ _ h]
 have:(max 0 (min (W:Int) 1000)).toNat=W:=by omega
 rw [this]
 rfl
theorem Hp (W:Nat) (hW:W≤1000) (r:aE) (h:r.cells.length≤1000000):mm (told r) W=some (told (rsz W r)):=by
 unfold told
 rw [AS _ _ _ h]
 have:(max 0 (min (W:Int) 1000)).toNat=W:=by omega
 rw [this]
 unfold rsz
 split <;> rfl
theorem Hq (W:Nat) (r:aE) (h:okR r.cells):gok W (rsz W r):=by
 unfold rsz
 split
 ·rename_i e
  exact ⟨e.symm,h⟩
 ·refine ⟨?_,oA _ _ (pf (sT h _) (vb _ _))⟩
  simp only [kp,mW,List.length_append,List.length_take,List.length_replicate]
  omega
def inG (l:List aE) (y:Int):Bool:=decide (0≤y∧y < l.length)
def sj (W:Nat) (l:List aE) (y:Int) (r:aE):List aE:=if 0≤y∧y < l.length then l.set y.toNat (rsz W r) else l
theorem jG (W:Nat) (l:List aE) (y:Int) (r:aE):(sj W l y r).length=l.length:=by
 unfold sj
 split <;> simp
theorem DB {W:Nat} {l:List aE} (h: ∀ r∈l,gok W r) (y:Int) (r:aE) (hr:okR r.cells): ∀ q∈sj W l y r,gok W q:=by
 unfold sj
 split
 ·intro q hq
  rcases List.mem_or_eq_of_mem_set hq with hq | hq
  ·exact h q hq
  ·rw [hq]
   exact Hq W r hr
 ·exact h
theorem JP (W:Nat) (hW:W≤1000) (l:List aE) (y:Int) (r:aE) (h:r.cells.length≤1000000):eM ⟨W,l⟩ y r=some (inG l y,⟨W,sj W l y r⟩):=by
 unfold eM sj inG
 rw [or2,aA]
 by_cases hy:0≤y∧y < l.length
 ·rw [decide_eq_false (by (try dsimp only); omega),cond_false,if_pos hy,decide_eq_true hy]
  obtain ⟨n,rfl⟩:=Int.eq_ofNat_of_zero_le hy.1
  have hn:n < l.length:=by omega
  try dsimp only
  rw [JO W hW r h,aA,dO l n hn,aA]
 ·rw [decide_eq_true (by (try dsimp only); omega),cond_true,if_neg hy,decide_eq_false hy]
theorem Hr (W:Nat) (hW:W≤1000) (l:List aE) (y:Int) (r:aE) (h:r.cells.length≤1000000) (hl:l.length≤1000000):m5 ⟨W,l.map told⟩ y (told r)=some (⟨W,(sj W l y r).map told⟩,inG l y):=by
 unfold m5 sj inG
 rw [or2,aA]
 simp only [List.length_map]
 by_cases hy:0≤y∧y < l.length
 ·rw [decide_eq_false (by (try dsimp only); omega),cond_false,if_pos hy,decide_eq_true hy]
  obtain ⟨n,rfl⟩:=Int.eq_ofNat_of_zero_le hy.1
  have hn:n < l.length:=by omega
  rw [bR (by simp; omega),aA,Hp W hW r h,aA,List.nil_append,dO (l.map told) n (by simpa using hn),aA]
  simp only [Int.toNat_natCast,List.map_set]
 ·rw [decide_eq_true (by (try dsimp only); omega),cond_true,if_neg hy,decide_eq_false hy]
theorem xw (l:List aE) (h:l.length≤1000000):dM l=some l:=by
 unfold dM
 rw [bR (by simp; omega),aA]
 rfl
theorem Hs {σ:Type} (Y:σ→aE→Option (σ×Bool)) (S:Nat→σ) (l:List aE) (hl:l.length≤1000000) (h: ∀ r∈l,r.cells.length≤1000000) (hY: ∀ i (hi:i < l.length),Y (S i) l[i]=some (S (i+1),true)):iX Y (S 0) l=some (S l.length):=by
 unfold iX
 refine iP (fun i=>((i:Int),S i)) l.length (.inl (S l.length)) rfl ?_ ?_ rfl
 ·intro i hi
  try dsimp only
  rw [decide_eq_true (by omega),cond_true,dO l i hi,aA,Fa _ (h _ (List.getElem_mem hi)),aA,hY i hi,aA]
  try dsimp only
  rw [Bool.not_true,cond_false,w64 (by omega) (by omega)]
  rfl
 ·try dsimp only
  rw [decide_eq_false (by omega),cond_false]
theorem vY (l:List aE) (hl:l.length≤1000000) (h: ∀ r∈l,r.cells.length≤1000000):iY l=some (l,l):=by
 unfold iY mc
 rw [aA]
 have key:=Hs (fun (s40:List aE) (x9:aE)=>(Option.bind (chk (eL s40.length [x9].length 32)) fun _=>some ((s40++[x9]),true))) (fun i=>l.take i) l hl h (by
  intro i hi
  try dsimp only
  rw [bR (by simp; omega),aA,← List.take_succ_eq_append_getElem hi])
 rw [List.take_length] at key
 change iX _ ([]:List aE) l=some l at key
 rw [key]
 rfl
theorem u7 (w:Int) (l:List aE) (hl:l.length≤1000000) (h: ∀ r∈l,r.cells.length≤1000000):jW ⟨w,l⟩=some (l,⟨w,l⟩):=by
 unfold jW
 try dsimp only
 rw [vY l hl h,aA,lF rfl,aA]
theorem AU (w:Int) (l:List aE) (hl:l.length≤1000000) (h: ∀ r∈l,r.cells.length≤1000000):ju ⟨w,l⟩=some (⟨w,l⟩,⟨w,l⟩):=by
 unfold ju
 try dsimp only
 rw [vY l hl h,aA,lF rfl,aA]
theorem Fb (a b:List aE) (ha:a.length≤1000000) (h: ∀ r∈a,r.cells.length≤1000000):dD a b=some (decide (a=b)):=by
 unfold dD
 by_cases hl:a.length=b.length
 ·have e0:((a.length:Int) != (b.length:Int))=false:=by simp [hl]
  rw [e0,cond_false]
  refine nH (fun i:Int=> ∃ n:Nat,i=n∧n≤a.length∧a.take n=b.take n) (fun i=>(a.length - i).toNat) (fun r=>r=(if a=b then .inl () else .inr false)) ⟨0,rfl,by omega,rfl⟩ ?_ ?_
  ·rintro i ⟨n,rfl,hn,ht⟩
   by_cases h1:n < a.length
   ·have h2:n < b.length:=by omega
    try dsimp only
    rw [decide_eq_true (by omega),cond_true,dO a n h1,dO b n h2,aA,aA,u9 _ _ (h _ (List.getElem_mem h1)),aA]
    by_cases he:a[n]=b[n]
    ·refine .inl ⟨((n+1:Nat):Int),?_,⟨n+1,rfl,by omega,?_⟩,by (try dsimp only); omega⟩
     ·rw [decide_eq_true he,w64 (by omega) (by omega)]
      rfl
     ·rw [List.take_succ_eq_append_getElem h1,List.take_succ_eq_append_getElem h2,ht,he]
    ·refine .inr ⟨.inr false,?_,?_⟩
     ·rw [decide_eq_false he]
      rfl
     ·rw [if_neg]
      intro hab
      subst hab
      exact he rfl
   ·refine .inr ⟨.inl (),?_,?_⟩
    ·try dsimp only
     rw [decide_eq_false (by omega),cond_false]
    ·rw [if_pos]
     have hn2:n=a.length:=by omega
     subst hn2
     rw [List.take_length] at ht
     rw [ht,hl,List.take_length]
  ·intro r hr
   subst hr
   by_cases hab:a=b
   ·rw [if_pos hab,decide_eq_true hab]
   ·rw [if_neg hab,decide_eq_false hab]
 ·have e0:((a.length:Int) != (b.length:Int))=true:=by simp; omega
  rw [e0,cond_true,decide_eq_false]
  intro h
  exact hl (by rw [h])
end Go.Tw.X
set_option linter.unusedVariables false
set_option linter.unusedSimpArgs false
namespace Go.Tw.X
open Go Go.Tw
theorem m6 {α:Type} {l r:List α} {x:α} {k:Int} (h:k=l.length):idx (l++x::r) k=some x:=by rw [h,ld]
theorem oB {α:Type} {l r:List α} {x y:α} {k:Nat} (h:k=l.length):(l++x::r).set k y=l++y::r:=by rw [h,Hn]
theorem nk {α:Type} (l:List α) (a b:Nat) (h:a≤b) (h2:b≤l.length):(cut l (a:Int) (b:Int)).length=b - a:=by
 rw [sV,List.length_drop,List.length_take]
 omega
def loS (l:List aE) (t:Int):Nat:=(max 0 (min t ((l.length:Int) - 1))).toNat
theorem vZ (l:List aE) (t:Int) (h:1≤l.length):loS l t < l.length:=by unfold loS; omega
theorem od (l:List aE) (t:Int):max 0 (min t ((l.length:Int) - 1))=(loS l t:Int):=by unfold loS; omega
theorem xx (w:Int) (l:List aE) (top aO:Int) (h1:1≤l.length) (h2:l.length≤1000000):dS ⟨w,l⟩ top aO=some (if loS l aO < loS l top then .inl () else .inr ((loS l top:Int),((loS l aO+1:Nat):Int))):=by
 unfold dS
 dsimp only
 have ht:=vZ l top h1
 have hb:=vZ l aO h1
 rw [w64 (x:=(l.length:Int) - 1) (by omega) (by omega),sW,aA,sW,aA,od,od]
 by_cases h:loS l aO < loS l top
 ·rw [decide_eq_true (by omega),cond_true,if_pos h]
 ·rw [decide_eq_false (by omega),cond_false,if_neg h,w64 (by omega) (by omega),bY (by omega) (by omega) (by omega),aA]
  rfl
def kN (n:Int) (b:Nat):Nat:=(max 0 (min n (b:Int))).toNat
theorem IW (n:Int) (b:Nat):max 0 (min n (b:Int))=(kN n b:Int):=by unfold kN; omega
theorem Cc (n:Int) (b:Nat):kN n b≤b:=by unfold kN; omega
def upB {α:Type} (k:Nat) (B:List α) (x:α):List α:=B.drop k++List.replicate (min k B.length) x
def lI {α:Type} (k:Nat) (B:List α) (x:α):List α:=List.replicate (min k B.length) x++B.take (B.length - k)
theorem wa {α:Type} (k:Nat) (B:List α) (x:α):(upB k B x).length=B.length:=by
 unfold upB
 rw [List.length_append,List.length_drop,List.length_replicate]
 omega
theorem sZ {α:Type} (k:Nat) (B:List α) (x:α):(lI k B x).length=B.length:=by
 unfold lI
 rw [List.length_append,List.length_take,List.length_replicate]
 omega
theorem Ht {α β:Type} (f:α→β) (k:Nat) (B:List α) (x:α):(upB k B x).map f=upB k (B.map f) (f x):=by
 simp [upB]
theorem DD {α β:Type} (f:α→β) (k:Nat) (B:List α) (x:α):(lI k B x).map f=lI k (B.map f) (f x):=by
 simp [lI]
theorem Fc {α:Type} (A B C:List α) (n:Nat) (h:n≤B.length):(A++B++C).drop (A.length+n)=B.drop n++C:=by
 rw [List.append_assoc,List.drop_append,List.drop_append]
 have e1:A.drop (A.length+n)=[]:=List.drop_eq_nil_of_le (by omega)
 have e2:A.length+n - A.length=n:=by omega
 have e3:n - B.length=0:=by omega
 rw [e1,e2,e3,List.nil_append,List.drop_zero]
theorem IX {α:Type} (A B C:List α) (n:Nat) (h:n≤B.length):(A++B++C).take (A.length+n)=A++B.take n:=by
 rw [List.append_assoc,List.take_append,List.take_append]
 have e1:A.take (A.length+n)=A:=List.take_of_length_le (by omega)
 have e2:A.length+n - A.length=n:=by omega
 have e3:n - B.length=0:=by omega
 rw [e1,e2,e3,List.take_zero,List.append_nil]
theorem Hu {α:Type} (A B C:List α) (m n:Nat) (h:n≤B.length) (h2:m≤n):cut (A++B++C) ((A.length+m:Nat):Int) ((A.length+n:Nat):Int)=(B.take n).drop m:=by
 rw [sV,IX A B C n h]
 have:=Fc A (B.take n) [] m (by rw [List.length_take]; omega)
 simp
theorem KM (W:Nat) (hW:W≤1000) (A B C:List aE) (top aO n s:Int) (hl:(A++B++C).length≤1000000) (hB:1≤B.length)
  (hreg:dS ⟨W,A++B++C⟩ top aO=some (.inr ((A.length:Int),((A.length+B.length:Nat):Int)))) :
  fN ⟨W,A++B++C⟩ top aO n s=some (B.take (kN n B.length),⟨W,A++upB (kN n B.length) B (jF W s)++C⟩):=by
 unfold fN
 rw [hreg,aA]
 dsimp only
 have hk:=Cc n B.length
 simp only [List.length_append] at hl
 rw [bY (by omega) (by omega) (by simp only [List.length_append]; omega),aA,Ca A B C _ rfl,sW,aA,IW]
 generalize kN n B.length=k at hk
 rw [bY (by omega) (by omega) (by omega),aA]
 have e1:cut (A++B++C) ((A.length:Int)+0) ((A.length:Int)+(k:Int))=B.take k:=by
  have:=Hu A B C 0 k hk (by omega)
  simpa using this
 have e2:pK (A++B++C) (A.length:Int) ((A.length+B.length:Nat):Int) ((A.length:Int)+(k:Int)) ((A.length:Int)+(B.length:Int))=A++B.drop k++(B.drop (B.length - k)++C):=by
  have c:=Hu A B C k B.length (Nat.le_refl _) hk
  rw [List.take_length] at c
  have c':cut (A++B++C) ((A.length:Int)+(k:Int)) ((A.length:Int)+(B.length:Int))=B.drop k:=by simpa using c
  unfold pK
  rw [c',Int.toNat_natCast,Int.toNat_natCast,List.append_assoc A B C,List.take_left,List.take_of_length_le (l:=B.drop k) (by rw [List.length_drop]; omega),List.length_drop,← List.append_assoc A B C,Fc A B C _ (by omega)]
 rw [e1,xw _ (by rw [List.length_take]; omega),aA,bY (by omega) (by omega) (by omega),aA,e2]
 have hL:(cut (A++B.drop k++(B.drop (B.length - k)++C)) (A.length:Int) ((A.length+B.length:Nat):Int)).length=B.length:=by
  rw [nk _ _ _ (by omega) (by simp; omega)]
  omega
 rw [hL,w64 (by omega) (by omega)]
 refine iP (fun i=>((⟨W,A++(B.drop k++List.replicate i (jF W s))++(B.drop (B.length - k+i)++C)⟩:bC),((B.length - k+i:Nat):Int))) k (⟨W,A++upB k B (jF W s)++C⟩:bC) ?_ ?_ ?_ rfl
 ·have:(B.length:Int) - (k:Int)=((B.length - k+0:Nat):Int):=by omega
  rw [this]
  simp
 ·intro i hi
  dsimp only
  have hlen:(A++(B.drop k++List.replicate i (jF W s))++(B.drop (B.length - k+i)++C)).length=A.length+B.length+C.length:=by simp; omega
  have hc:(cut (A++(B.drop k++List.replicate i (jF W s))++(B.drop (B.length - k+i)++C)) (A.length:Int) ((A.length+B.length:Nat):Int)).length=B.length:=by
   rw [nk _ _ _ (by omega) (by rw [hlen]; omega)]
   omega
  rw [hc,decide_eq_true (by omega),cond_true,AT _ _ hW,aA,bY (by omega) (by omega) (by rw [hlen]; omega),aA]
  obtain ⟨x,hx,_⟩:=E6 (cut (A++(B.drop k++List.replicate i (jF W s))++(B.drop (B.length - k+i)++C)) (A.length:Int) ((A.length+B.length:Nat):Int)) (i:=((B.length - k+i:Nat):Int)) (by omega) (by rw [hc]; omega)
  rw [hx,aA,w64 (by omega) (by omega),List.drop_eq_getElem_cons (l:=B) (i:=B.length - k+i) (by omega),List.cons_append,oB (by simp; omega),List.replicate_succ']
  simp [Nat.add_assoc]
  omega
 ·dsimp only
  have hlen:(A++(B.drop k++List.replicate k (jF W s))++(B.drop (B.length - k+k)++C)).length=A.length+B.length+C.length:=by simp; omega
  have hc:(cut (A++(B.drop k++List.replicate k (jF W s))++(B.drop (B.length - k+k)++C)) (A.length:Int) ((A.length+B.length:Nat):Int)).length=B.length:=by
   rw [nk _ _ _ (by omega) (by rw [hlen]; omega)]
   omega
  rw [hc,decide_eq_false (by omega),cond_false,List.drop_eq_nil_of_le (as:=B) (i:=B.length - k+k) (by omega)]
  unfold upB
  rw [Nat.min_eq_left hk]
  simp
end Go.Tw.X
set_option linter.unusedVariables false
set_option linter.unusedSimpArgs false
namespace Go.Tw.X
open Go Go.Tw
theorem AV (l:List aE) (h:l.length≤1000000):fL l=some l.reverse:=by
 unfold fL
 refine nH (fun s:List aE×Int×Int=> ∃ t:Nat,s.2.1=t∧s.2.2=(l.length:Int) - 1 - t∧2*t≤l.length+1∧s.1.length=l.length ∧ ∀ p,p < l.length→s.1[p]?=if p < t∨l.length - 1 - t < p then l[l.length - 1 - p]? else l[p]?) (fun s=>(s.2.2 - s.2.1+1).toNat) (fun r=>r=l.reverse) ?_ ?_ (fun r hr=>by rw [hr])
 ·refine ⟨0,rfl,?_,by omega,rfl,fun p hp=> ?_⟩
  ·dsimp only
   rw [w64 (by omega) (by omega)]
   omega
  ·rw [if_neg (by omega)]
 ·rintro ⟨L,i,j⟩ ⟨t,hi,hj,ht,hL,hp⟩
  dsimp only at hi hj hL hp ⊢
  subst hi hj
  by_cases hlt:(t:Int) < (l.length:Int) - 1 - t
  ·have hj:(l.length:Int) - 1 - (t:Int)=((l.length - 1 - t:Nat):Int):=by omega
   have h1:t < L.length:=by omega
   have h2:l.length - 1 - t < L.length:=by omega
   have g1:=hp t (by omega)
   have g2:=hp (l.length - 1 - t) (by omega)
   rw [if_neg (by omega)] at g1 g2
   refine .inl ⟨((L.set t L[l.length - 1 - t]).set (l.length - 1 - t) L[t],((t+1:Nat):Int),(l.length:Int) - 1 - ((t+1:Nat):Int)),?_,⟨t+1,rfl,rfl,by omega,by simp [hL],?_⟩,by dsimp only; omega⟩
   ·rw [decide_eq_true hlt,cond_true,hj,dO L _ h1,dO L _ h2]
    simp only [aA,Int.toNat_natCast]
    rw [w64 (by omega) (by omega),w64 (by omega) (by omega)]
    congr 3
    congr 1
    omega
   ·intro p hpl
    have hg1:L[t]?=some L[t]:=List.getElem?_eq_getElem h1
    have hg2:L[l.length - 1 - t]?=some L[l.length - 1 - t]:=List.getElem?_eq_getElem h2
    dsimp only
    by_cases c1:p=l.length - 1 - t
    ·subst c1
     rw [List.getElem?_set_self (by simpa using h2),if_pos (by omega),← hg1,g1]
     congr 1
     omega
    ·rw [List.getElem?_set_ne (fun e=>c1 e.symm)]
     by_cases c2:p=t
     ·subst c2
      rw [List.getElem?_set_self h1,if_pos (by omega),← hg2,g2]
     ·rw [List.getElem?_set_ne (fun e=>c2 e.symm),hp p hpl]
      by_cases c3:p < t∨l.length - 1 - t < p
      ·rw [if_pos c3,if_pos (by omega)]
      ·rw [if_neg c3,if_neg (by omega)]
  ·refine .inr ⟨L,by rw [decide_eq_false hlt,cond_false],?_⟩
   apply List.ext_getElem?
   intro p
   by_cases hpl:p < l.length
   ·rw [hp p hpl,List.getElem?_reverse hpl]
    by_cases c3:p < t∨l.length - 1 - t < p
    ·rw [if_pos c3]
    ·rw [if_neg c3]
     congr 1
     omega
   ·rw [List.getElem?_eq_none (by omega),List.getElem?_eq_none (by simp; omega)]
theorem Hv (W:Nat) (hW:W≤1000) (A B C:List aE) (top aO n s:Int) (hl:(A++B++C).length≤1000000) (hB:1≤B.length)
  (hreg:dS ⟨W,A++B++C⟩ top aO=some (.inr ((A.length:Int),((A.length+B.length:Nat):Int)))) :
  eF ⟨W,A++B++C⟩ top aO n s=some ((B.drop (B.length - kN n B.length)).reverse,⟨W,A++lI (kN n B.length) B (jF W s)++C⟩):=by
 unfold eF
 rw [hreg,aA]
 dsimp only
 have hk:=Cc n B.length
 simp only [List.length_append] at hl
 rw [bY (by omega) (by omega) (by simp only [List.length_append]; omega),aA,Ca A B C _ rfl,sW,aA,IW]
 generalize kN n B.length=k at hk
 rw [w64 (x:=(B.length:Int) - (k:Int)) (by omega) (by omega)]
 have hbk:(B.length:Int) - (k:Int)=((B.length - k:Nat):Int):=by omega
 rw [hbk,bY (by omega) (by omega) (by omega),aA]
 have e1:cut (A++B++C) ((A.length:Int)+((B.length - k:Nat):Int)) ((A.length:Int)+(B.length:Int))=B.drop (B.length - k):=by
  have:=Hu A B C (B.length - k) B.length (Nat.le_refl _) (by omega)
  rw [List.take_length] at this
  simpa using this
 have e2:pK (A++B++C) ((A.length:Int)+(k:Int)) ((A.length:Int)+(B.length:Int)) ((A.length:Int)+0) ((A.length:Int)+((B.length - k:Nat):Int))=A++B.take k++(B.take (B.length - k)++C):=by
  have c:=Hu A B C 0 (B.length - k) (by omega) (by omega)
  rw [List.drop_zero] at c
  have c':cut (A++B++C) ((A.length:Int)+0) ((A.length:Int)+((B.length - k:Nat):Int))=B.take (B.length - k):=by simpa using c
  have t1:((A.length:Int)+(k:Int)).toNat=A.length+k:=by omega
  have t2:((A.length:Int)+(B.length:Int)).toNat=A.length+B.length:=by omega
  unfold pK
  rw [c',t1,t2,IX A B C k hk,List.take_of_length_le (l:=B.take (B.length - k)) (by rw [List.length_take]; omega),List.length_take]
  have t3:A.length+k+min (B.length - k) B.length=A.length+B.length:=by omega
  rw [t3,Fc A B C _ (Nat.le_refl _),List.drop_eq_nil_of_le (Nat.le_refl _),List.nil_append,List.append_assoc (A++B.take k)]
 rw [e1,xw _ (by rw [List.length_drop]; omega),aA,AV _ (by rw [List.length_drop]; omega),aA,lF (by simp),aA,bY (by omega) (by omega) (by omega),aA,bY (by omega) (by omega) (by omega),aA,e2]
 refine iP (fun i=>((⟨W,A++List.replicate i (jF W s)++((B.take k).drop i++(B.take (B.length - k)++C))⟩:bC),(i:Int))) k (⟨W,A++lI k B (jF W s)++C⟩:bC) ?_ ?_ ?_ rfl
 ·simp
 ·intro i hi
  dsimp only
  have hlen:(A++List.replicate i (jF W s)++((B.take k).drop i++(B.take (B.length - k)++C))).length=A.length+B.length+C.length:=by simp; omega
  have hc:(cut (A++List.replicate i (jF W s)++((B.take k).drop i++(B.take (B.length - k)++C))) (A.length:Int) ((A.length+B.length:Nat):Int)).length=B.length:=by
   rw [nk _ _ _ (by omega) (by rw [hlen]; omega)]
   omega
  rw [decide_eq_true (by omega),cond_true,AT _ _ hW,aA,bY (by omega) (by omega) (by rw [hlen]; omega),aA]
  obtain ⟨x,hx,_⟩:=E6 (cut (A++List.replicate i (jF W s)++((B.take k).drop i++(B.take (B.length - k)++C))) (A.length:Int) ((A.length+B.length:Nat):Int)) (i:=(i:Int)) (by omega) (by rw [hc]; omega)
  have htl:i < (B.take k).length:=by rw [List.length_take]; omega
  rw [hx,aA,w64 (by omega) (by omega),List.drop_eq_getElem_cons htl,List.cons_append,oB (by simp),List.replicate_succ']
  simp
 ·dsimp only
  rw [decide_eq_false (by omega),cond_false,List.drop_eq_nil_of_le (as:=B.take k) (i:=k) (by rw [List.length_take]; omega)]
  unfold lI
  rw [Nat.min_eq_left hk]
  simp
end Go.Tw.X
set_option linter.unusedVariables false
set_option linter.unusedSimpArgs false
namespace Go.Tw.X
open Go Go.Tw
variable {α : Type}
theorem Fe (B:List α) (x:α):upB 0 B x=B:=by simp [upB]
theorem AW (B:List α) (x:α):lI 0 B x=B:=by simp [lI]
theorem Ff (B:List α) (x:α) (i:Nat) (h:i < B.length):upB i B x=B[i]::(B.drop (i+1)++List.replicate i x):=by
 unfold upB
 rw [Nat.min_eq_left (by omega),List.drop_eq_getElem_cons h,List.cons_append]
theorem Fg (B:List α) (x:α) (i:Nat) (h:i < B.length):upB (i+1) B x=(B.drop (i+1)++List.replicate i x)++[x]:=by
 unfold upB
 rw [Nat.min_eq_left (by omega),List.replicate_succ',List.append_assoc]
theorem AX (B:List α) (x:α) (i:Nat) (h:i < B.length):lI i B x=(List.replicate i x++B.take (B.length - i - 1))++[B[B.length - i - 1]'(by omega)]:=by
 unfold lI
 rw [Nat.min_eq_left (by omega),List.append_assoc,← List.take_succ_eq_append_getElem]
 congr 2
 omega
theorem AY (B:List α) (x:α) (i:Nat) (h:i < B.length):lI (i+1) B x=x::(List.replicate i x++B.take (B.length - i - 1)):=by
 unfold lI
 rw [Nat.min_eq_left (by omega),List.replicate_succ,List.cons_append]
 congr 3
theorem take_one {l:List α} (h:0 < l.length):l.take 1=[l[0]]:=by
 cases l with
 | nil=>simp at h
 | cons a t=>rfl
theorem L1 {ρ β:Type} (lo hi:Int) (A T C:List aZ) (y:aZ) (g:List aZ→Option β) (out:Option β) (hl:(A++(y::T)++C).length≤1000000) (hlo:lo=A.length) (hhi:hi=lo+T.length)
  (hg:g ((A++T)++((y::T).drop T.length++C))=out) :
  Option.bind (iter (σ:=(List aZ)×Int) (ρ:=(List aZ)) (fun a=>(bif (decide (a.2 < hi)) then (Option.bind (idx a.1 (IntKind.i64.wrap (a.2+1))) fun b=>(Option.bind (idx a.1 a.2) fun c=>some (.inl ((a.1.set a.2.toNat b),(IntKind.i64.wrap (a.2+1)))))) else some (.inr a.1))) (A++(y::T)++C,lo)) g=out:=by
 subst hlo
 simp only [List.length_append,List.length_cons] at hl
 refine iP (fun j=>((A++T.take j)++((y::T).drop j++C),((A.length+j:Nat):Int))) T.length _ ?_ ?_ ?_ hg
 ·simp
 ·intro j hj
  dsimp only
  have e1:(y::T).drop j=(y::T)[j]'(by simp; omega)::T[j]::T.drop (j+1):=by
   rw [List.drop_eq_getElem_cons (by simp; omega),List.drop_succ_cons,List.drop_eq_getElem_cons hj]
  have e2:A++T.take j++((y::T).drop j++C)=((A++T.take j)++[(y::T)[j]'(by simp; omega)])++T[j]::(T.drop (j+1)++C):=by rw [e1]; simp only [List.append_assoc,List.cons_append,List.nil_append]
  have e3:A++T.take j++((y::T).drop j++C)=(A++T.take j)++(y::T)[j]'(by simp; omega)::(T[j]::(T.drop (j+1)++C)):=by rw [e1]; simp only [List.append_assoc,List.cons_append,List.nil_append]
  rw [decide_eq_true (by omega),cond_true,w64 (by omega) (by omega)]
  rw [show idx (A++T.take j++((y::T).drop j++C)) (((A.length+j:Nat):Int)+1)=some T[j] by rw [e2]; exact m6 (by simp; omega)]
  rw [aA]
  rw [show idx (A++T.take j++((y::T).drop j++C)) ((A.length+j:Nat):Int)=some ((y::T)[j]'(by simp; omega)) by rw [e3]; exact m6 (by simp; omega)]
  rw [aA,Int.toNat_natCast,e3,oB (by simp; omega),List.drop_succ_cons,List.drop_eq_getElem_cons hj,List.take_succ_eq_append_getElem hj]
  have t4:((A.length+j:Nat):Int)+1=((A.length+(j+1):Nat):Int):=by omega
  rw [t4]
  simp only [List.append_assoc,List.cons_append,List.nil_append]
 ·dsimp only
  rw [decide_eq_false (by omega),cond_false,List.take_length]
theorem JQ {ρ β:Type} (lo hi:Int) (A T C:List aZ) (y:aZ) (g:List aZ→Option β) (out:Option β) (hl:(A++(T++[y])++C).length≤1000000) (hlo:lo=A.length) (hhi:hi=lo+T.length)
  (hg:g (A++(T++[y]).take 1++(T++C))=out) :
  Option.bind (iter (σ:=(List aZ)×Int) (ρ:=(List aZ)) (fun a=>(bif (decide (a.2 > lo)) then (Option.bind (idx a.1 (IntKind.i64.wrap (a.2 - 1))) fun b=>(Option.bind (idx a.1 a.2) fun c=>some (.inl ((a.1.set a.2.toNat b),(IntKind.i64.wrap (a.2 - 1)))))) else some (.inr a.1))) (A++(T++[y])++C,hi)) g=out:=by
 subst hlo
 simp only [List.length_append,List.length_cons,List.length_nil] at hl
 refine iP (fun j=>((A++(T++[y]).take (T.length+1 - j))++(T.drop (T.length - j)++C),((A.length+(T.length - j):Nat):Int))) T.length _ ?_ ?_ ?_ hg
 ·have:(T++[y]).take (T.length+1 - 0)=T++[y]:=List.take_of_length_le (by simp)
  try dsimp only
  rw [hhi,this]
  simp
 ·intro j hj
  dsimp only
  have hz:T.length - 1 - j < T.length:=by omega
  have hzz:T.length - j < (T++[y]).length:=by simp; omega
  have t1:(T++[y]).take (T.length+1 - j)=(T++[y]).take (T.length - 1 - j)++[T[T.length - 1 - j]]++[(T++[y])[T.length - j]]:=by
   have a1:T.length+1 - j=(T.length - j)+1:=by omega
   have a2:T.length - j=(T.length - 1 - j)+1:=by omega
   rw [a1,List.take_succ_eq_append_getElem hzz]
   congr 1
   rw [a2,List.take_succ_eq_append_getElem (by simp; omega)]
   congr 2
   rw [List.getElem_append_left hz]
  have e2:A++(T++[y]).take (T.length+1 - j)++(T.drop (T.length - j)++C)=(A++(T++[y]).take (T.length - 1 - j))++T[T.length - 1 - j]::((T++[y])[T.length - j]::(T.drop (T.length - j)++C)):=by rw [t1]; simp
  have e3:A++(T++[y]).take (T.length+1 - j)++(T.drop (T.length - j)++C)=(A++(T++[y]).take (T.length - 1 - j)++[T[T.length - 1 - j]])++(T++[y])[T.length - j]::(T.drop (T.length - j)++C):=by rw [t1]; simp
  rw [decide_eq_true (by omega),cond_true,w64 (by omega) (by omega)]
  rw [show idx (A++(T++[y]).take (T.length+1 - j)++(T.drop (T.length - j)++C)) (((A.length+(T.length - j):Nat):Int) - 1)=some T[T.length - 1 - j] by rw [e2]; exact m6 (by simp; omega)]
  rw [aA]
  rw [show idx (A++(T++[y]).take (T.length+1 - j)++(T.drop (T.length - j)++C)) ((A.length+(T.length - j):Nat):Int)=some ((T++[y])[T.length - j]) by rw [e3]; exact m6 (by simp; omega)]
  rw [aA,Int.toNat_natCast,e3,oB (by simp; omega)]
  have t2:(T++[y]).take (T.length+1 - (j+1))=(T++[y]).take (T.length - 1 - j)++[T[T.length - 1 - j]]:=by
   have a2:T.length+1 - (j+1)=(T.length - 1 - j)+1:=by omega
   rw [a2,List.take_succ_eq_append_getElem (by simp; omega)]
   congr 2
   rw [List.getElem_append_left hz]
  have t3:T.drop (T.length - (j+1))=T[T.length - 1 - j]::T.drop (T.length - j):=by
   have a2:T.length - (j+1)=T.length - 1 - j:=by omega
   rw [a2,List.drop_eq_getElem_cons hz]
   congr 2
   omega
  rw [t2,t3]
  have t4:((A.length+(T.length - j):Nat):Int) - 1=((A.length+(T.length - (j+1)):Nat):Int):=by omega
  rw [t4]
  simp
 ·dsimp only
  rw [decide_eq_false (by omega),cond_false]
  have:T.length+1 - T.length=1:=by omega
  rw [this,Nat.sub_self,List.drop_zero]
theorem Fh (W:Nat) (hW:W≤1000) (A B C:List aZ) (top aO n s:Int) (hl:(A++B++C).length≤1000000) (hB:1≤B.length)
  (h1:max 0 (min top (((A++B++C).length:Int) - 1))=A.length) (h2:max 0 (min aO (((A++B++C).length:Int) - 1))=A.length+B.length - 1) :
  dZ ⟨W,A++B++C⟩ true top aO n s=some (⟨W,A++upB (kN n B.length) B (told (jF W s))++C⟩,B.take (kN n B.length)):=by
 unfold dZ
 dsimp only
 have hl':=hl
 simp only [List.length_append] at hl'
 rw [w64 (x:=((A++B++C).length:Int) - 1) (by omega) (by omega)]
 simp only [iL,eG,h1,h2]
 have hk:=Cc n B.length
 have hkn: ∀ i:Nat,i < kN n B.length→(i:Int) < n:=fun i hi=>by unfold kN at hi; omega
 have hkx: ¬ (((kN n B.length:Nat):Int) < n∧((kN n B.length:Nat):Int)≤(A.length:Int)+(B.length:Int) - 1 - (A.length:Int)):=by unfold kN; omega
 generalize kN n B.length=k at hk hkn hkx
 rw [decide_eq_false (by omega),cond_false,bR (by simp; omega),aA,yh _ _ hW,aA,List.nil_append]
 refine iP (fun i=>(B.take i,A++upB i B (told (jF W s))++C,(i:Int))) k (B.take k,A++upB k B (told (jF W s))++C) ?_ ?_ ?_ rfl
 ·rw [Fe]
  rfl
 ·intro i hi
  dsimp only
  have hib:i < B.length:=by omega
  rw [yg,w64 (x:=(A.length:Int)+(B.length:Int) - 1 - (A.length:Int)) (by omega) (by omega),decide_eq_true ⟨hkn i hi,by omega⟩,aA,cond_true,cond_true,Ff _ _ _ hib]
  rw [show idx (A++B[i]::(B.drop (i+1)++List.replicate i (told (jF W s)))++C) (A.length:Int)=some B[i] by rw [List.append_assoc,List.cons_append]; exact m6 rfl]
  rw [aA,bR (by simp; omega),aA]
  rw [L1 (ρ:=Unit) (A.length:Int) ((A.length:Int)+(B.length:Int) - 1) A (B.drop (i+1)++List.replicate i (told (jF W s))) C B[i] _ (some (B.take (i+1),A++upB (i+1) B (told (jF W s))++C)) (by simp; omega) rfl (by simp; omega)]
  ·rw [aA,w64 (by omega) (by omega)]
   rfl
  ·generalize hT:B.drop (i+1)++List.replicate i (told (jF W s))=T
   have hTl:A.length+T.length=A.length+B.length - 1:=by rw [← hT]; simp; omega
   have hd:(B[i]::T).drop T.length=[(B[i]::T)[T.length]]:=by
    rw [List.drop_eq_getElem_cons (by simp),List.drop_eq_nil_of_le (by simp)]
   rw [hd,List.singleton_append]
   rw [m6 (by simp; omega),aA,Fg _ _ _ hib,hT,oB (by simp; omega),List.take_succ_eq_append_getElem hib]
   simp
 ·dsimp only
  rw [yg,w64 (x:=(A.length:Int)+(B.length:Int) - 1 - (A.length:Int)) (by omega) (by omega),decide_eq_false hkx,aA,cond_false]
theorem AZ (W:Nat) (hW:W≤1000) (A B C:List aZ) (top aO n s:Int) (hl:(A++B++C).length≤1000000) (hB:1≤B.length)
  (h1:max 0 (min top (((A++B++C).length:Int) - 1))=A.length) (h2:max 0 (min aO (((A++B++C).length:Int) - 1))=A.length+B.length - 1) :
  dZ ⟨W,A++B++C⟩ false top aO n s=some (⟨W,A++lI (kN n B.length) B (told (jF W s))++C⟩,(B.drop (B.length - kN n B.length)).reverse):=by
 unfold dZ
 dsimp only
 have hl':=hl
 simp only [List.length_append] at hl'
 rw [w64 (x:=((A++B++C).length:Int) - 1) (by omega) (by omega)]
 simp only [iL,eG,h1,h2]
 have hk:=Cc n B.length
 have hkn: ∀ i:Nat,i < kN n B.length→(i:Int) < n:=fun i hi=>by unfold kN at hi; omega
 have hkx: ¬ (((kN n B.length:Nat):Int) < n∧((kN n B.length:Nat):Int)≤(A.length:Int)+(B.length:Int) - 1 - (A.length:Int)):=by unfold kN; omega
 generalize kN n B.length=k at hk hkn hkx
 rw [decide_eq_false (by omega),cond_false,bR (by simp; omega),aA,yh _ _ hW,aA,List.nil_append]
 refine iP (fun i=>((B.drop (B.length - i)).reverse,A++lI i B (told (jF W s))++C,(i:Int))) k ((B.drop (B.length - k)).reverse,A++lI k B (told (jF W s))++C) ?_ ?_ ?_ rfl
 ·rw [AW]
  simp
 ·intro i hi
  dsimp only
  have hib:i < B.length:=by omega
  rw [yg,w64 (x:=(A.length:Int)+(B.length:Int) - 1 - (A.length:Int)) (by omega) (by omega),decide_eq_true ⟨hkn i hi,by omega⟩,aA,cond_true,cond_false,AX _ _ _ hib]
  have hTl:A.length+(List.replicate i (told (jF W s))++B.take (B.length - i - 1)).length=A.length+B.length - 1:=by simp; omega
  rw [show idx (A++((List.replicate i (told (jF W s))++B.take (B.length - i - 1))++[B[B.length - i - 1]'(by omega)])++C) ((A.length:Int)+(B.length:Int) - 1)=some (B[B.length - i - 1]'(by omega)) by
   rw [← List.append_assoc A,List.append_assoc (A++(List.replicate i (told (jF W s))++B.take (B.length - i - 1))),List.singleton_append]; exact m6 (by rw [List.length_append]; omega)]
  rw [aA,bR (by simp; omega),aA]
  rw [JQ (ρ:=Unit) (A.length:Int) ((A.length:Int)+(B.length:Int) - 1) A (List.replicate i (told (jF W s))++B.take (B.length - i - 1)) C (B[B.length - i - 1]'(by omega)) _ (some ((B.drop (B.length - (i+1))).reverse,A++lI (i+1) B (told (jF W s))++C)) (by simp; omega) rfl (by omega)]
  ·rw [aA,w64 (by omega) (by omega)]
   rfl
  ·rw [AY _ _ _ hib]
   generalize hT:List.replicate i (told (jF W s))++B.take (B.length - i - 1)=T
   have hd:(T++[B[B.length - i - 1]'(by omega)]).take 1=[(T++[B[B.length - i - 1]'(by omega)])[0]'(by simp)]:=by
    exact take_one (by simp)
   rw [hd,List.append_assoc A,List.singleton_append]
   rw [m6 rfl,aA,Int.toNat_natCast,oB rfl]
   have a1:B.length - i=(B.length - i - 1)+1:=by omega
   have a2:B.length - (i+1)=B.length - i - 1:=by omega
   rw [a2,List.drop_eq_getElem_cons (i:=B.length - i - 1) (by omega),← a1]
   simp
 ·dsimp only
  rw [yg,w64 (x:=(A.length:Int)+(B.length:Int) - 1 - (A.length:Int)) (by omega) (by omega),decide_eq_false hkx,aA,cond_false]
end Go.Tw.X
set_option linter.unusedVariables false
set_option linter.unusedSimpArgs false
namespace Go.Tw.X
open Go Go.Tw
theorem GI.len {W:Nat} {l:List aE} (h:GI W l): ∀ r∈l,r.cells.length≤1000000:=fun r hr=>by
 have:=(h.rs r hr).1
 have:=h.w2
 omega
def rgB (l:List aE) (t b:Int):List aE:=(l.take (loS l b+1)).drop (loS l t)
def upL (W:Nat) (l:List aE) (t b n s:Int):List aE:=if loS l b < loS l t then l else l.take (loS l t)++upB (kN n (rgB l t b).length) (rgB l t b) (jF W s)++l.drop (loS l b+1)
def upO (l:List aE) (t b n:Int):List aE:=if loS l b < loS l t then [] else (rgB l t b).take (kN n (rgB l t b).length)
def qg (W:Nat) (l:List aE) (t b n s:Int):List aE:=if loS l b < loS l t then l else l.take (loS l t)++lI (kN n (rgB l t b).length) (rgB l t b) (jF W s)++l.drop (loS l b+1)
def rL (l:List aE) (t b n:Int):List aE:=if loS l b < loS l t then [] else ((rgB l t b).drop ((rgB l t b).length - kN n (rgB l t b).length)).reverse
theorem oC (l:List aE) (t b:Int) (h: ¬ loS l b < loS l t) (h1:1≤l.length):l=l.take (loS l t)++rgB l t b++l.drop (loS l b+1)∧(l.take (loS l t)).length=loS l t∧(rgB l t b).length=loS l b+1 - loS l t:=by
 have hb:=vZ l b h1
 unfold rgB
 refine ⟨?_,?_,?_⟩
 ·have:l.take (loS l t)=(l.take (loS l b+1)).take (loS l t):=by rw [List.take_take]; congr 1; omega
  rw [this,List.take_append_drop,List.take_append_drop]
 ·rw [List.length_take]; omega
 ·rw [List.length_drop,List.length_take]; omega
theorem yj {W:Nat} {l:List aE} (h:GI W l) (t b n s:Int):fN ⟨W,l⟩ t b n s=some (upO l t b n,⟨W,upL W l t b n s⟩)∧dZ ⟨W,l.map told⟩ true t b n s=some (⟨W,(upL W l t b n s).map told⟩,(upO l t b n).map told):=by
 have h1:=h.l1
 have h2:=h.l2
 have hreg:=xx (W:Int) l t b h1 (by omega)
 have hb:=vZ l b h1
 by_cases hc:loS l b < loS l t
 ·rw [if_pos hc] at hreg
  unfold upO upL
  rw [if_pos hc,if_pos hc]
  constructor
  ·unfold fN
   rw [hreg,aA]
  ·unfold dZ
   dsimp only
   rw [List.length_map,w64 (x:=(l.length:Int) - 1) (by omega) (by omega),iL,iL,eG,eG,od,od,decide_eq_true (by omega),cond_true]
   rfl
 ·rw [if_neg hc] at hreg
  obtain ⟨e,ea,eb⟩:=oC l t b hc h1
  have hlo:=od l t
  have hhi:=od l b
  unfold upO upL
  rw [if_neg hc,if_neg hc]
  generalize l.take (loS l t)=A at e ea
  generalize rgB l t b=B at e eb
  generalize l.drop (loS l b+1)=C at e
  rw [e] at hlo hhi hreg h2 hc ea eb ⊢
  have e2:((loS (A++B++C) b+1:Nat):Int)=((A.length+B.length:Nat):Int):=by omega
  have e1:((loS (A++B++C) t:Nat):Int)=(A.length:Int):=by omega
  rw [e1,e2] at hreg
  constructor
  ·exact KM W h.w2 A B C t b n s (by omega) (by omega) hreg
  ·have hm:=Fh W h.w2 (A.map told) (B.map told) (C.map told) t b n s (by simpa using (by omega:(A++B++C).length≤1000000)) (by simp; omega)
   have el:((A.map told++B.map told++C.map told).length:Int)=((A++B++C).length:Int):=by simp
   rw [el] at hm
   have:=hm (by rw [hlo,List.length_map]; omega) (by rw [hhi,List.length_map,List.length_map]; omega)
   rw [List.map_append,List.map_append,this,List.length_map,List.map_append,List.map_append,Ht,List.map_take]
theorem zh {W:Nat} {l:List aE} (h:GI W l) (t b n s:Int):eF ⟨W,l⟩ t b n s=some (rL l t b n,⟨W,qg W l t b n s⟩)∧dZ ⟨W,l.map told⟩ false t b n s=some (⟨W,(qg W l t b n s).map told⟩,(rL l t b n).map told):=by
 have h1:=h.l1
 have h2:=h.l2
 have hreg:=xx (W:Int) l t b h1 (by omega)
 have hb:=vZ l b h1
 by_cases hc:loS l b < loS l t
 ·rw [if_pos hc] at hreg
  unfold rL qg
  rw [if_pos hc,if_pos hc]
  constructor
  ·unfold eF
   rw [hreg,aA]
  ·unfold dZ
   dsimp only
   rw [List.length_map,w64 (x:=(l.length:Int) - 1) (by omega) (by omega),iL,iL,eG,eG,od,od,decide_eq_true (by omega),cond_true]
   rfl
 ·rw [if_neg hc] at hreg
  obtain ⟨e,ea,eb⟩:=oC l t b hc h1
  have hlo:=od l t
  have hhi:=od l b
  unfold rL qg
  rw [if_neg hc,if_neg hc]
  generalize l.take (loS l t)=A at e ea
  generalize rgB l t b=B at e eb
  generalize l.drop (loS l b+1)=C at e
  rw [e] at hlo hhi hreg h2 hc ea eb ⊢
  have e2:((loS (A++B++C) b+1:Nat):Int)=((A.length+B.length:Nat):Int):=by omega
  have e1:((loS (A++B++C) t:Nat):Int)=(A.length:Int):=by omega
  rw [e1,e2] at hreg
  constructor
  ·exact Hv W h.w2 A B C t b n s (by omega) (by omega) hreg
  ·have hm:=AZ W h.w2 (A.map told) (B.map told) (C.map told) t b n s (by simpa using (by omega:(A++B++C).length≤1000000)) (by simp; omega)
   have el:((A.map told++B.map told++C.map told).length:Int)=((A++B++C).length:Int):=by simp
   rw [el] at hm
   have:=hm (by rw [hlo,List.length_map]; omega) (by rw [hhi,List.length_map,List.length_map]; omega)
   rw [List.map_append,List.map_append,this,List.length_map,List.map_append,List.map_append,DD,List.map_reverse,List.map_drop]
theorem A6 {l:List aE} {t b:Int} {r:aE} (h:r∈rgB l t b):r∈l:=List.mem_of_mem_take (List.mem_of_mem_drop h)
theorem IY {W:Nat} {l:List aE} (h:GI W l) (t b n s:Int):GI W (upL W l t b n s):=by
 unfold upL
 by_cases hc:loS l b < loS l t
 ·rw [if_pos hc]
  exact h
 ·rw [if_neg hc]
  obtain ⟨e,ea,eb⟩:=oC l t b hc h.l1
  have hlen:(l.take (loS l t)++upB (kN n (rgB l t b).length) (rgB l t b) (jF W s)++l.drop (loS l b+1)).length=l.length:=by
   conv=>rhs; rw [e]
   simp only [List.length_append,wa]
  refine ⟨h.w1,h.w2,by rw [hlen]; exact h.l1,by rw [hlen]; exact h.l2,?_⟩
  intro r hr
  rw [List.mem_append,List.mem_append] at hr
  rcases hr with (hr | hr) | hr
  ·exact h.rs r (List.mem_of_mem_take hr)
  ·unfold upB at hr
   rw [List.mem_append] at hr
   rcases hr with hr | hr
   ·exact h.rs r (A6 (List.mem_of_mem_drop hr))
   ·rw [List.eq_of_mem_replicate hr]
    exact ub _ _
  ·exact h.rs r (List.mem_of_mem_drop hr)
theorem Hw {W:Nat} {l:List aE} (h:GI W l) (t b n s:Int):GI W (qg W l t b n s):=by
 unfold qg
 by_cases hc:loS l b < loS l t
 ·rw [if_pos hc]
  exact h
 ·rw [if_neg hc]
  obtain ⟨e,ea,eb⟩:=oC l t b hc h.l1
  have hlen:(l.take (loS l t)++lI (kN n (rgB l t b).length) (rgB l t b) (jF W s)++l.drop (loS l b+1)).length=l.length:=by
   conv=>rhs; rw [e]
   simp only [List.length_append,sZ]
  refine ⟨h.w1,h.w2,by rw [hlen]; exact h.l1,by rw [hlen]; exact h.l2,?_⟩
  intro r hr
  rw [List.mem_append,List.mem_append] at hr
  rcases hr with (hr | hr) | hr
  ·exact h.rs r (List.mem_of_mem_take hr)
  ·unfold lI at hr
   rw [List.mem_append] at hr
   rcases hr with hr | hr
   ·rw [List.eq_of_mem_replicate hr]
    exact ub _ _
   ·exact h.rs r (A6 (List.mem_of_mem_take hr))
  ·exact h.rs r (List.mem_of_mem_drop hr)
theorem Hx {l:List aE} {t b n:Int} {r:aE} (h:r∈upO l t b n):r∈l:=by
 unfold upO at h
 split at h
 ·cases h
 ·exact A6 (List.mem_of_mem_take h)
theorem Hy (l:List aE) (t b n:Int):(upO l t b n).length≤l.length:=by
 unfold upO
 split
 ·exact Nat.zero_le _
 ·unfold rgB
  rw [List.length_take,List.length_drop,List.length_take]
  omega
end Go.Tw.X
set_option linter.unusedVariables false
set_option linter.unusedSimpArgs false
namespace Go.Tw.X
open Go Go.Tw
theorem m63 (x:Int) (h0:0≤x) (h1:x < 2147483648):Go.bits .and .i32 x 63=x % 64:=by
 have h:=bits_mask .i32 31 (by decide) wraps_i32 6 (by decide) x h0 (by omega)
 have e:((2:Int) ^ 6 - 1)=63:=by decide
 have e2:((2:Int) ^ 6)=64:=by decide
 rw [e,e2] at h
 exact h
theorem L2 {x:Int} (h0:0≤x) (h1:x < 256):IntKind.u8.wrap x=x:=by rw [IntKind.wrap_u8]; omega
theorem foldl_push (xs:List Int): ∀ l:List UInt8,xs.foldl (fun r n=>r.push (UInt8.ofNat n.toNat)) (ByteArray.mk l.toArray)=ByteArray.mk (l++xs.map (fun n=>UInt8.ofNat n.toNat)).toArray:=by
 induction xs with
 | nil=>intro l; simp
 | cons a xs ih =>
  intro l
  rw [List.foldl_cons]
  have:(ByteArray.mk l.toArray).push (UInt8.ofNat a.toNat)=ByteArray.mk (l++[UInt8.ofNat a.toNat]).toArray:=by
   show ByteArray.mk (l.toArray.push _)=_
   rw [List.push_toArray]
  rw [this,ih]
  simp
theorem yk (xs:List Int):fR xs=ByteArray.mk (xs.map (fun n=>UInt8.ofNat n.toNat)).toArray:=foldl_push xs []
theorem lu (a:List Int):(fR a).size=a.length:=by
 rw [yk]
 simp [ByteArray.size]
theorem zj (r:aE):(nF r).length≤r.cells.length:=by
 unfold nF IV
 refine Nat.le_trans (uM _) ?_
 split
 ·exact Nat.le_refl _
 ·exact pd _ _
theorem DE {n m:Nat} (h:n+m≤4611686018427387904):chk (JB n m)=some ():=lF h
end Go.Tw.X
set_option linter.unusedVariables false
set_option linter.unusedSimpArgs false
namespace Go.Tw.X
open Go Go.Tw
def kr (n:Nat):List Int:=if n < 128 then [(n:Int)] else ((128+n % 128:Nat):Int)::kr (n / 128)
termination_by n
decreasing_by omega
def clN (n:Int):Nat:=(max 0 (min n 4611686018427387904)).toNat
theorem JR (n:Int):imax 0 (fQ n 4611686018427387904)=(clN n:Int):=by rw [iL,eG]; unfold clN; omega
theorem Fi (n:Int):clN n≤4611686018427387904:=by unfold clN; omega
def cD (n:Int):List Int:=kr (clN n)
theorem jK {n:Nat} (h:n < 128):kr n=[(n:Int)]:=by rw [kr,if_pos h]
theorem oD {n:Nat} (h: ¬ n < 128):kr n=((128+n % 128:Nat):Int)::kr (n / 128):=by rw [kr,if_neg h]
theorem wb: ∀ (k n:Nat),n < 128 ^ (k+1)→(kr n).length≤k+1:=by
 intro k
 induction k with
 | zero =>
  intro n h
  rw [jK (by omega)]
  simp
 | succ k ih =>
  intro n h
  by_cases hn:n < 128
  ·rw [jK hn]
   simp
  ·rw [oD hn,List.length_cons]
   have:n / 128 < 128 ^ (k+1):=by
    rw [Nat.pow_succ] at h
    exact Nat.div_lt_of_lt_mul (by rw [Nat.mul_comm]; exact h)
   have:=ih _ this
   omega
theorem dW (n:Int):(cD n).length≤9:=wb 8 _ (by have:=Fi n; omega)
theorem oE: ∀ (n:Nat),∀ b∈kr n,0≤b∧b < 256:=by
 intro n
 induction n using Nat.strongRecOn with
 | _ n ih =>
  intro b hb
  by_cases hn:n < 128
  ·rw [jK hn,List.mem_singleton] at hb
   omega
  ·rw [oD hn] at hb
   rcases List.mem_cons.1 hb with rfl | hb
   ·omega
   ·exact ih (n / 128) (by omega) b hb
theorem Fj (x:Int) (h0:0≤x) (h1:x < 256):Go.bits .and .u8 x 127=x % 128:=by
 have h:=bits_mask .u8 8 (by decide) wraps_u8 7 (by decide) x h0 (by omega)
 have e:((2:Int) ^ 7 - 1)=127:=by decide
 have e2:((2:Int) ^ 7)=128:=by decide
 rw [e,e2] at h
 exact h
theorem or_comm (k:IntKind) (x y:Int):Go.bits .or k x y=Go.bits .or k y x:=by
 show k.wrap ((BitVec.ofInt k.bits x ||| BitVec.ofInt k.bits y).toNat:Int)=k.wrap ((BitVec.ofInt k.bits y ||| BitVec.ofInt k.bits x).toNat:Int)
 rw [BitVec.or_comm]
theorem Hz (y:Int) (h0:0≤y) (h1:y < 128):Go.bits .or .u8 y 128=128+y:=by
 rw [or_comm]
 exact bits_join .u8 8 (by decide) wraps_u8 7 128 y (by decide) (by decide) (by decide) h0 (by omega) (by omega)
theorem KN (n:Nat):(n:Int).fdiv (2 ^ (min 7 64))=((n / 128:Nat):Int):=by
 rw [Int.fdiv_eq_ediv_of_nonneg _ (by decide)]
 show (n:Int) / 128=_
 omega
theorem DG (b:List Int) (x:Int) (hb:b.length≤100000000): ∃ e,kW (fun (s661:cE) (x619:Int)=>(Option.bind (chk (eL s661.b.length [x619].length 1)) fun _=>some ((cE.mk (s661.b++[x619])),true))) (⟨b⟩:cE) x=some ((⟨b++cD x⟩:cE),e):=by
 unfold kW o4
 rw [JR,aA]
 unfold cD
 have hle:=Fi x
 generalize clN x=n at hle
 have key: ∀ (k n:Nat) (b:List Int),n < 128 ^ (k+1)→b.length+(k+1)≤100000010 → ∃ e,iter (σ:=Int×cE) (ρ:=(Int×cE) ⊕ (cE×Int)) (fun a=>(bif (decide (a.1≥128)) then (Option.bind ((fun (s661:cE) (x619:Int)=>(Option.bind (chk (eL s661.b.length [x619].length 1)) fun _=>some ((cE.mk (s661.b++[x619])),true))) a.2 (Go.bits .or .u8 (Go.bits .and .u8 (IntKind.u8.wrap a.1) 127) 128)) fun z68=>(bif (!z68.2) then (kO (some (z68.1,a.1))) else some (.inl ((a.1.fdiv (2 ^ (min 7 64))),z68.1)))) else some (.inr (.inl (a.1,a.2))))) ((n:Int),(⟨b⟩:cE))=some (.inl ((e:Int),(⟨b++(kr n).dropLast⟩:cE)))∧0≤e∧e < 128∧kr n=(kr n).dropLast++[e]:=by
  intro k
  induction k with
  | zero =>
   intro n b h hb
   refine ⟨n,?_,by omega,by omega,?_⟩
   ·rw [jK (by omega)]
    refine cJ ?_
    dsimp only
    rw [decide_eq_false (by omega),cond_false]
    simp
   ·rw [jK (by omega)]
    rfl
  | succ k ih =>
   intro n b h hb
   by_cases hn:n < 128
   ·refine ⟨n,?_,by omega,by omega,?_⟩
    ·rw [jK hn]
     refine cJ ?_
     dsimp only
     rw [decide_eq_false (by omega),cond_false]
     simp
    ·rw [jK hn]
     rfl
   ·have hlt:n / 128 < 128 ^ (k+1):=by
     rw [Nat.pow_succ] at h
     exact Nat.div_lt_of_lt_mul (by rw [Nat.mul_comm]; exact h)
    obtain ⟨e,h1,h2,h3,h4⟩:=ih (n / 128) (b++[((128+n % 128:Nat):Int)]) hlt (by simp; omega)
    refine ⟨e,?_,h2,h3,?_⟩
    ·rw [cY (s':=(((n / 128:Nat):Int),(⟨b++[((128+n % 128:Nat):Int)]⟩:cE)))]
     ·rw [h1,oD hn]
      have hne:kr (n / 128)≠[]:=by rw [h4]; simp
      rw [List.dropLast_cons_of_ne_nil hne]
      simp
     ·dsimp only
      have hw:IntKind.u8.wrap (n:Int)=((n % 256:Nat):Int):=by rw [IntKind.wrap_u8]; omega
      have hv:Go.bits .or .u8 (Go.bits .and .u8 (IntKind.u8.wrap (n:Int)) 127) 128=((128+n % 128:Nat):Int):=by
       rw [hw,Fj _ (by omega) (by omega),Hz _ (by omega) (by omega)]
       omega
      rw [decide_eq_true (by omega),cond_true,hv,bR (by simp; omega),aA,aA]
      dsimp only
      rw [Bool.not_true,cond_false,KN]
    ·rw [oD hn]
     have hne:kr (n / 128)≠[]:=by rw [h4]; simp
     rw [List.dropLast_cons_of_ne_nil hne,List.cons_append,← h4]
 obtain ⟨e,h1,h2,h3,h4⟩:=key 8 n b (by omega) (by omega)
 have hl:=wb 8 n (by omega)
 have hd:(kr n).dropLast.length≤9:=by rw [List.length_dropLast]; omega
 refine ⟨e,?_⟩
 rw [h1,aA]
 dsimp only
 have hu:IntKind.u8.wrap e=e:=by rw [IntKind.wrap_u8]; omega
 rw [hu,bR (by simp only [List.length_append,List.length_singleton]; omega),aA,aA,List.append_assoc,← h4]
theorem mv (b:List Int) (l:List Int) (hb:b.length+9*l.length≤10000000):cQ ⟨b⟩ l=some ⟨b++l.flatMap cD⟩:=by
 unfold cQ nm
 have hfl: ∀ l:List Int,(l.flatMap cD).length≤9*l.length:=by
  intro l
  induction l with
  | nil=>simp
  | cons a l ih =>
   rw [List.flatMap_cons,List.length_append,List.length_cons]
   have:=dW a
   omega
 refine iP (fun i=>((⟨b++(l.take i).flatMap cD⟩:cE),(i:Int))) l.length (⟨b++l.flatMap cD⟩:cE) ?_ ?_ ?_ rfl
 ·simp
 ·intro i hi
  dsimp only
  have h4:=hfl (l.take i)
  rw [List.length_take] at h4
  obtain ⟨e,he⟩:=DG (b++(l.take i).flatMap cD) l[i] (by rw [List.length_append]; omega)
  rw [decide_eq_true (by omega),cond_true,dO l i hi,aA,aA,he,aA,w64 (by omega) (by omega),List.take_succ_eq_append_getElem hi,List.flatMap_append,List.flatMap_singleton,List.append_assoc]
  rfl
 ·dsimp only
  rw [decide_eq_false (by omega),cond_false,List.take_length]
end Go.Tw.X
set_option linter.unusedVariables false
set_option linter.unusedSimpArgs false
namespace Go.Tw.X
open Go Go.Tw
def most:Nat:=4611686018427387904
def rdp:Nat→Nat→Nat→List Int→Int ⊕ (Nat×Nat)
 | 0,_,_,_=> .inl 1
 | _+1,_,_,[]=> .inl 2
 | k+1,i,acc,b::r=>if b < 128 then (if (i > 0∧b=0)∨acc+b.toNat % 128*128 ^ i > most then .inl 1 else .inr (acc+b.toNat % 128*128 ^ i,i+1)) else rdp k (i+1) (acc+b.toNat % 128*128 ^ i) r
def noS:ByteArray:=ByteArray.mk #[]
theorem kE (s:ByteArray): ∀ b∈sbs s,0≤b∧b < 256:=by
 intro b hb
 unfold sbs at hb
 obtain ⟨c,_,rfl⟩:=List.mem_map.1 hb
 have:=c.toNat_lt
 omega
theorem wc (s:ByteArray) (i:Nat) (h:i < (sbs s).length):wX s (i:Int)=some (sbs s)[i]:=by
 unfold wX
 rw [decide_eq_true (by omega),cond_true,Int.toNat_natCast]
 have h2:i < s.data.size:=by rw [bL] at h; exact h
 rw [Array.getElem?_eq_getElem h2]
 simp only [sbs,Option.map_some,List.getElem_map,Array.getElem_toList]
theorem p2 (i:Nat):2 ^ (7*i)=128 ^ i:=by rw [Nat.pow_mul]
theorem pw8 {i:Nat} (h:i≤8):128 ^ i≤72057594037927936:=Nat.le_trans (Nat.pow_le_pow_right (by omega) h) (by decide)
theorem HA (i acc b:Nat) (hi:i≤8) (ha:acc < 128 ^ i) (hb:b < 256) :
  Go.bits .or .i64 (acc:Int) (IntKind.i64.wrap ((IntKind.i64.wrap (Go.bits .and .u8 (b:Int) 127))*2 ^ (min (IntKind.i64.wrap (7*(i:Int))).toNat 64)))=((acc+b % 128*128 ^ i:Nat):Int)∧acc+b % 128*128 ^ i < 128 ^ (i+1):=by
 have hP:=pw8 hi
 have h7:(IntKind.i64.wrap (7*(i:Int))).toNat=7*i:=by rw [w64 (by omega) (by omega)]; omega
 have hm:min (7*i) 64=7*i:=by omega
 have hp:(2:Int) ^ (7*i)=((128 ^ i:Nat):Int):=by rw [← p2]; simp
 rw [h7,hm,hp,Fj _ (by omega) (by omega)]
 have hlt:b % 128*128 ^ i≤127*128 ^ i:=Nat.mul_le_mul_right _ (by omega)
 have hP1:128 ^ (i+1)=128*128 ^ i:=by rw [Nat.pow_succ,Nat.mul_comm]
 have e1:IntKind.i64.wrap ((b:Int) % 128)=((b % 128:Nat):Int):=by rw [w64 (by omega) (by omega)]; omega
 have e2:((b % 128:Nat):Int)*((128 ^ i:Nat):Int)=((b % 128*128 ^ i:Nat):Int):=by simp
 rw [e1,e2]
 generalize hw:b % 128*128 ^ i=w at hlt
 rw [w64 (by omega) (by omega),or_comm]
 have hmod:(w:Int) % 2 ^ (7*i)=0:=by
  rw [hp,← hw]
  rw [← Int.natCast_emod,Nat.mul_mod_left]
  rfl
 have:=bits_join .i64 63 (by decide) (fun n h0 h1=>w64 (by omega) (by omega)) (7*i) (w:Int) (acc:Int) (by omega) hmod (by omega) (by omega) (by rw [hp]; omega) (by omega)
 rw [this]
 constructor
 ·omega
 ·omega
def HB (s:ByteArray):Int ⊕ (Nat×Nat)→Int×aU
 | .inl e=>(0,⟨noS,e⟩)
 | .inr (v,j)=>(v,⟨lE s j s.size,0⟩)
theorem oF (s:ByteArray) (e:Int) (h:e≠0):bV ⟨s,0⟩ e=some ⟨noS,e⟩:=by
 unfold bV
 have:(e != 0)=true:=by simpa using h
 simp [this,noS]
theorem uc (s:ByteArray) (e f:Int) (h:e≠0):bV ⟨s,e⟩ f=some ⟨s,e⟩:=by
 unfold bV
 have:(e == 0)=false:=by simpa using h
 simp [this]
theorem HC (s:ByteArray) (hs:s.size≤1000000):bH ⟨s,0⟩=some (HB s (rdp 9 0 0 (sbs s))):=by
 unfold bH
 have hl:(sbs s).length=s.size:=bL s
 refine Eq.trans ?_ (congrArg (fun l=>some (HB s (rdp 9 0 0 l))) (List.drop_zero (l:=sbs s)))
 have key: ∀ (k i acc:Nat),i+k=9→acc < 128 ^ i→i≤(sbs s).length→Option.bind (iter (σ:=Int×Int) (ρ:=Unit ⊕ (Int×aU)) (fun a=>(bif (decide (a.1 < (fQ ((⟨s,0⟩:aU).s.size:Int) 9))) then (Option.bind (wX (⟨s,0⟩:aU).s a.1) fun b213=>(Option.bind (chk (shk (IntKind.i64.wrap (7*a.1)))) fun _=>(bif (decide (b213≥128)) then some (.inl ((IntKind.i64.wrap (a.1+1)),(Go.bits .or .i64 a.2 (IntKind.i64.wrap ((IntKind.i64.wrap (Go.bits .and .u8 b213 127))*2 ^ (min (IntKind.i64.wrap (7*a.1)).toNat 64)))))) else (Option.bind ((bif (decide (a.1 > 0)) then (bif (b213 == 0) then some true else some (decide ((Go.bits .or .i64 a.2 (IntKind.i64.wrap ((IntKind.i64.wrap (Go.bits .and .u8 b213 127))*2 ^ (min (IntKind.i64.wrap (7*a.1)).toNat 64)))) > 4611686018427387904))) else some (decide ((Go.bits .or .i64 a.2 (IntKind.i64.wrap ((IntKind.i64.wrap (Go.bits .and .u8 b213 127))*2 ^ (min (IntKind.i64.wrap (7*a.1)).toNat 64)))) > 4611686018427387904))):Option Bool) fun c=>(bif c then (Option.bind (bV (⟨s,0⟩:aU) 1) fun d=>(kO (some (0,d)))) else (Option.bind (chk (dB (IntKind.i64.wrap (a.1+1)) ((⟨s,0⟩:aU).s.size:Int) (⟨s,0⟩:aU).s.size)) fun _=>(kO (some ((Go.bits .or .i64 a.2 (IntKind.i64.wrap ((IntKind.i64.wrap (Go.bits .and .u8 b213 127))*2 ^ (min (IntKind.i64.wrap (7*a.1)).toNat 64)))),(aU.mk (lE (⟨s,0⟩:aU).s (IntKind.i64.wrap (a.1+1)) ((⟨s,0⟩:aU).s.size:Int)) (⟨s,0⟩:aU).e)))))))))) else some (.inr (.inl ())))) ((i:Int),(acc:Int))) (fun | .inl e176=>(Option.bind ((bif (decide (((⟨s,0⟩:aU).s.size:Int)≥9)) then (Option.bind (bV (⟨s,0⟩:aU) 1) fun f=>some f) else some (⟨s,0⟩:aU)):Option aU) fun g=>(Option.bind (bV g 2) fun j=>some (0,j))) | .inr w=>some w)=some (HB s (rdp k i acc ((sbs s).drop i))):=by
  intro k
  induction k with
  | zero =>
   intro i acc hi ha hil
   rw [cJ (r:= .inl ())]
   ·rw [aA]
    dsimp only
    rw [decide_eq_true (by omega),cond_true,oF _ _ (by decide),aA,aA,uc _ _ _ (by decide),aA]
    rfl
   ·dsimp only
    rw [eG,decide_eq_false (by omega),cond_false]
  | succ k ih =>
   intro i acc hi ha hil
   by_cases hlt:i < (sbs s).length
   ·obtain ⟨hb0,hb1⟩:=kE s _ (List.getElem_mem hlt)
    have hx:=wc s i hlt
    rw [List.drop_eq_getElem_cons hlt]
    generalize (sbs s)[i]=b at hb0 hb1 hx
    obtain ⟨B,rfl⟩:=Int.eq_ofNat_of_zero_le hb0
    obtain ⟨hor,hbd⟩:=HA i acc B (by omega) ha (by omega)
    have hshk:chk (shk (IntKind.i64.wrap (7*(i:Int))))=some ():=by
     rw [w64 (by omega) (by omega)]
     exact lF (by omega)
    unfold rdp
    rw [Int.toNat_natCast]
    by_cases hbig:(B:Int)≥128
    ·rw [cY (s':=(((i+1:Nat):Int),((acc+B % 128*128 ^ i:Nat):Int)))]
     ·rw [ih (i+1) (acc+B % 128*128 ^ i) (by omega) hbd (by omega),if_neg (by omega)]
     ·dsimp only
      rw [eG,decide_eq_true (by omega),cond_true,hx,aA,hshk,aA,decide_eq_true hbig,cond_true,hor,w64 (by omega) (by omega)]
      rfl
    ·rw [if_pos (by omega)]
     have hc:((bif (decide ((i:Int) > 0)) then (bif ((B:Int) == 0) then some true else some (decide (((acc+B % 128*128 ^ i:Nat):Int) > 4611686018427387904))) else some (decide (((acc+B % 128*128 ^ i:Nat):Int) > 4611686018427387904))):Option Bool)=some (decide ((i > 0∧(B:Int)=0)∨acc+B % 128*128 ^ i > most)):=by
      have hd: ∀ v:Nat,decide ((v:Int) > 4611686018427387904)=decide (v > most):=fun v=>by
       unfold most
       congr 1
       apply propext
       omega
      rw [hd]
      by_cases c1:i > 0
      ·have c1':(i:Int) > 0:=by omega
       rw [decide_eq_true c1',cond_true]
       by_cases c2:(B:Int)=0
       ·have:((B:Int) == 0)=true:=by simpa using c2
        rw [this,cond_true,decide_eq_true (.inl ⟨c1,c2⟩)]
       ·have:((B:Int) == 0)=false:=by simpa using c2
        rw [this,cond_false]
        congr 1
        by_cases c3:acc+B % 128*128 ^ i > most
        ·rw [decide_eq_true c3,decide_eq_true (.inr c3)]
        ·rw [decide_eq_false c3,decide_eq_false (by rintro (h | h); exact c2 h.2; exact c3 h)]
      ·rw [decide_eq_false (by omega),cond_false]
       congr 1
       by_cases c3:acc+B % 128*128 ^ i > most
       ·rw [decide_eq_true c3,decide_eq_true (.inr c3)]
       ·rw [decide_eq_false c3,decide_eq_false (by rintro (h | h); exact c1 h.1; exact c3 h)]
     by_cases hf:(i > 0∧(B:Int)=0)∨acc+B % 128*128 ^ i > most
     ·rw [if_pos hf,cJ (r:= .inr (0,⟨noS,1⟩))]
      ·rfl
      ·dsimp only
       rw [eG,decide_eq_true (by omega),cond_true,hx,aA,hshk,aA,decide_eq_false hbig,cond_false,hor,hc,aA,decide_eq_true hf,cond_true,oF _ _ (by decide),aA]
       rfl
     ·rw [if_neg hf,cJ (r:= .inr (((acc+B % 128*128 ^ i:Nat):Int),⟨lE s ((i+1:Nat):Int) s.size,0⟩))]
      ·rfl
      ·dsimp only
       rw [eG,decide_eq_true (by omega),cond_true,hx,aA,hshk,aA,decide_eq_false hbig,cond_false,hor,hc,aA,decide_eq_false hf,cond_false,w64 (by omega) (by omega),bY (by omega) (by omega) (by omega),aA]
       rfl
   ·have hd:(sbs s).drop i=[]:=List.drop_eq_nil_of_le (by omega)
    rw [hd,cJ (r:= .inl ())]
    ·rw [aA]
     dsimp only
     rw [decide_eq_false (by omega),cond_false,aA,oF _ _ (by decide),aA]
     rfl
    ·dsimp only
     rw [eG,decide_eq_false (by omega),cond_false]
 exact key 9 0 0 (by omega) (by omega) (by omega)
end Go.Tw.X
set_option linter.unusedVariables false
set_option linter.unusedSimpArgs false
namespace Go.Tw.X
open Go Go.Tw
theorem qS (a b:ByteArray):(a.toList == b.toList)=decide (a=b):=by
 rw [ByteArray.toList_eq,ByteArray.toList_eq]
 by_cases h:a=b
 ·subst h
  rw [decide_eq_true rfl,beq_self_eq_true]
 ·rw [decide_eq_false h]
  have: ¬ a.data.toList=b.data.toList:=fun e=>h (ByteArray.ext (Array.ext' e))
  simpa using this
theorem k5 (s:ByteArray) (lo hi:Nat):sbs (lE s lo hi)=((sbs s).take hi).drop lo:=by
 unfold sbs lE
 rw [ByteArray.data_extract,Int.toNat_natCast,Int.toNat_natCast]
 rw [Array.toList_extract]
 rw [List.extract_eq_take_drop,List.map_take,List.map_drop,List.drop_take]
theorem we (s:ByteArray):fR (sbs s)=s:=by
 rw [yk]
 unfold sbs
 rw [List.map_map]
 have:((fun n:Int=>UInt8.ofNat n.toNat) ∘ fun b:UInt8=>(b.toNat:Int))=id:=by
  funext b
  simp
 rw [this,List.map_id]
theorem mw (l:List Int) (h: ∀ b∈l,0≤b∧b < 256):sbs (fR l)=l:=by
 rw [yk]
 unfold sbs
 simp only [List.map_map]
 induction l with
 | nil=>rfl
 | cons a l ih =>
  have ha:=h a (List.mem_cons_self ..)
  rw [List.map_cons,ih fun b hb=>h b (List.mem_cons_of_mem _ hb)]
  congr 1
  show ((UInt8.ofNat a.toNat).toNat:Int)=a
  rw [UInt8.toNat_ofNat']
  omega
theorem ve {a b:ByteArray} (h:sbs a=sbs b):a=b:=by rw [← we a,h,we]
theorem sn (a b:ByteArray):sbs (a++b)=sbs a++sbs b:=by
 unfold sbs
 rw [ByteArray.data_append]
 simp
theorem Fk:fR []=noS:=rfl
def VI (i:aU):Prop:=i.s.size≤1000000∧(i.e=0∨i.s=noS)
def rdS (i:aU):Int×aU:=if i.e=0 then HB i.s (rdp 9 0 0 (sbs i.s)) else (0,i)
theorem ku (i:aU) (h:VI i):bH i=some (rdS i):=by
 obtain ⟨s,e⟩:=i
 obtain ⟨h1,h2⟩:=h
 unfold rdS
 by_cases he:e=0
 ·subst he
  rw [if_pos rfl]
  exact HC s h1
 ·rw [if_neg he]
  obtain rfl:s=noS:=h2.resolve_left he
  unfold bH
  rw [cJ (r:= .inl ())]
  ·rw [aA]
   have hz:(noS.size:Int)=0:=rfl
   dsimp only
   rw [hz,decide_eq_false (by omega),cond_false,aA,uc _ _ _ he,aA]
  ·dsimp only
   have hz:(noS.size:Int)=0:=rfl
   rw [eG,hz,decide_eq_false (by omega),cond_false]
theorem Fl: ∀ (k i acc:Nat) (l:List Int) (v j:Nat),(∀ b∈l,0≤b∧b < 256)→rdp k i acc l = .inr (v,j) → ∃ w,v=acc+w*128 ^ i∧v≤most∧i < j∧j≤i+l.length∧kr w=l.take (j - i)∧(i > 0→w > 0):=by
 intro k
 induction k with
 | zero=>intro i acc l v j hb h; cases h
 | succ k ih =>
  intro i acc l v j hb h
  cases l with
  | nil=>cases h
  | cons b r =>
   unfold rdp at h
   have hb0:=hb b (List.mem_cons_self ..)
   obtain ⟨B,rfl⟩:=Int.eq_ofNat_of_zero_le hb0.1
   rw [Int.toNat_natCast] at h
   by_cases hbig:(B:Int) < 128
   ·rw [if_pos hbig] at h
    by_cases hf:(i > 0∧(B:Int)=0)∨acc+B % 128*128 ^ i > most
    ·rw [if_pos hf] at h
     cases h
    ·rw [if_neg hf] at h
     injection h with h
     injection h with hv hj
     have hm:B % 128=B:=Nat.mod_eq_of_lt (by omega)
     rw [hm] at hv hf
     refine ⟨B,hv.symm,?_,by omega,by simp; omega,?_,?_⟩
     ·rw [← hv]
      exact Nat.le_of_not_lt fun hh=>hf (.inr hh)
     ·rw [jK (by omega),← hj]
      have:i+1 - i=1:=by omega
      rw [this]
      rfl
     ·intro hi
      exact Nat.pos_of_ne_zero fun h0=>hf (.inl ⟨hi,by omega⟩)
   ·rw [if_neg hbig] at h
    obtain ⟨w,h1,h2,h3,h4,h5,h6⟩:=ih (i+1) _ r v j (fun c hc=>hb c (List.mem_cons_of_mem _ hc)) h
    have hw:=h6 (by omega)
    refine ⟨B % 128+128*w,?_,h2,by omega,by simp; omega,?_,fun _=>by omega⟩
    ·rw [h1,Nat.pow_succ,Nat.add_mul,Nat.add_assoc]
     congr 2
     rw [Nat.mul_comm 128 w,Nat.mul_assoc,Nat.mul_comm 128]
    ·rw [oD (by omega)]
     have e1:(B % 128+128*w) / 128=w:=by omega
     have e2:128+(B % 128+128*w) % 128=B:=by omega
     have e3:j - i=(j - (i+1))+1:=by omega
     rw [e1,e2,h5,e3,List.take_succ_cons]
theorem HD: ∀ (k i acc w:Nat) (R:List Int),w < 128 ^ (k+1)→k+1+i≤9→(i > 0→w > 0)→acc+w*128 ^ i≤most→rdp (k+1) i acc (kr w++R) = .inr (acc+w*128 ^ i,i+(kr w).length):=by
 intro k
 induction k with
 | zero =>
  intro i acc w R hw hk hi hm
  have hs:w < 128:=by simpa using hw
  rw [jK hs]
  show rdp (0+1) i acc ((w:Int)::R)=_
  unfold rdp
  have hmod:w % 128=w:=Nat.mod_eq_of_lt hs
  rw [if_pos (by omega),Int.toNat_natCast,hmod,if_neg]
  ·simp
  ·rintro (⟨h1,h2⟩ | h)
   ·have:=hi h1
    omega
   ·omega
 | succ k ih =>
  intro i acc w R hw hk hi hm
  by_cases hs:w < 128
  ·rw [jK hs]
   show rdp (k+1+1) i acc ((w:Int)::R)=_
   unfold rdp
   have hmod:w % 128=w:=Nat.mod_eq_of_lt hs
   rw [if_pos (by omega),Int.toNat_natCast,hmod,if_neg]
   ·simp
   ·rintro (⟨h1,h2⟩ | h)
    ·have:=hi h1
     omega
    ·omega
  ·rw [oD hs]
   have hq:w / 128 < 128 ^ (k+1):=by
    rw [Nat.pow_succ] at hw
    exact Nat.div_lt_of_lt_mul (by rw [Nat.mul_comm]; exact hw)
   have he:(128+w % 128) % 128=w % 128:=by omega
   have hsum:acc+w % 128*128 ^ i+w / 128*128 ^ (i+1)=acc+w*128 ^ i:=by
    rw [Nat.pow_succ,Nat.add_assoc]
    congr 1
    rw [Nat.mul_comm (128 ^ i) 128,← Nat.mul_assoc,← Nat.add_mul]
    congr 1
    omega
   show rdp (k+1+1) i acc (((128+w % 128:Nat):Int)::(kr (w / 128)++R))=_
   rw [rdp,if_neg (by omega),Int.toNat_natCast,he,ih (i+1) _ (w / 128) R hq (by omega) (fun _=>by omega) (by rw [hsum]; exact hm),hsum]
   simp only [List.length_cons]
   congr 2
   omega
theorem ik {i:aU} (h:VI i):VI (rdS i).2:=by
 obtain ⟨s,e⟩:=i
 obtain ⟨h1,h2⟩:=h
 unfold rdS
 by_cases he:e=0
 ·rw [if_pos he]
  cases hr:rdp 9 0 0 (sbs (⟨s,e⟩:aU).s) with
  | inl f=>exact ⟨by show noS.size≤1000000; decide,.inr rfl⟩
  | inr p =>
   refine ⟨?_,.inl rfl⟩
   show (lE s p.2 s.size).size≤1000000
   rw [← bL,k5,List.length_drop,List.length_take,bL]
   simp only at h1
   omega
 ·rw [if_neg he]
  exact ⟨h1,h2⟩
theorem A7 {i:aU} (h:(rdS i).2.e≠0):(rdS i).1=0:=by
 unfold rdS at *
 split at h
 ·rename_i he
  rw [if_pos he]
  cases hr:rdp 9 0 0 (sbs i.s) with
  | inl f=>rfl
  | inr p =>
   rw [hr] at h
   exact absurd rfl h
 ·rename_i he
  rw [if_neg he]
theorem zl {i:aU} (h:(rdS i).2.e=0) (hV:VI i):i.e=0 ∧ ∃ w:Nat,(rdS i).1=w∧w≤most∧sbs i.s=kr w++sbs (rdS i).2.s:=by
 unfold rdS at *
 by_cases he:i.e=0
 ·rw [if_pos he] at h ⊢
  refine ⟨he,?_⟩
  cases hr:rdp 9 0 0 (sbs i.s) with
  | inl f =>
   rw [hr] at h
   -- an error is never nought
   exfalso
   have key: ∀ (k i acc:Nat) (l:List Int) (e:Int),rdp k i acc l = .inl e→e≠0:=by
    intro k
    induction k with
    | zero=>intro i acc l e hh; injection hh with hh; omega
    | succ k ih =>
     intro i acc l e hh
     cases l with
     | nil=>injection hh with hh; omega
     | cons b r =>
      unfold rdp at hh
      split at hh
      ·split at hh
       ·injection hh with hh
        omega
       ·cases hh
      ·exact ih _ _ _ _ hh
   exact key _ _ _ _ _ hr h
  | inr p =>
   obtain ⟨v,j⟩:=p
   obtain ⟨w,h1,h2,h3,h4,h5,h6⟩:=Fl 9 0 0 (sbs i.s) v j (kE i.s) hr
   refine ⟨v,rfl,h2,?_⟩
   have hvw:v=w:=by rw [h1]; simp
   show sbs i.s=kr v++sbs (lE i.s j i.s.size)
   rw [hvw,h5,k5,Nat.sub_zero]
   have:(sbs i.s).take i.s.size=sbs i.s:=List.take_of_length_le (by rw [bL]; exact Nat.le_refl _)
   rw [this,List.take_append_drop]
 ·rw [if_neg he] at h
  exact absurd h he
theorem qh {i:aU} (hV:VI i):0≤(rdS i).1∧(rdS i).1≤4611686018427387904:=by
 by_cases h:(rdS i).2.e=0
 ·obtain ⟨_,w,h1,h2,_⟩:=zl h hV
  rw [h1]
  unfold most at h2
  omega
 ·rw [A7 h]
  omega
theorem JS (s:ByteArray) (w:Nat) (R:List Int) (hw:w≤most) (hs:sbs s=kr w++R):rdS ⟨s,0⟩=((w:Int),⟨fR R,0⟩):=by
 unfold rdS
 rw [if_pos rfl]
 have hl:=wb 8 w (by unfold most at hw; omega)
 have h:=HD 8 0 0 w R (by unfold most at hw; omega) (by omega) (fun h=>by omega) (by simpa using hw)
 dsimp only
 rw [hs,h]
 show (((0+w*128 ^ 0:Nat):Int),(⟨lE s ((0+(kr w).length:Nat):Int) s.size,0⟩:aU))=_
 have e1:0+w*128 ^ 0=w:=by simp
 have e2:lE s ((0+(kr w).length:Nat):Int) s.size=fR R:=by
  rw [← we (lE s ((0+(kr w).length:Nat):Int) s.size),k5]
  have:(sbs s).take s.size=sbs s:=List.take_of_length_le (by rw [bL]; exact Nat.le_refl _)
  rw [this,hs,Nat.zero_add,List.drop_left]
 rw [e1,e2]
end Go.Tw.X
set_option linter.unusedVariables false
set_option linter.unusedSimpArgs false
namespace Go.Tw.X
open Go Go.Tw
theorem Fm (l:List aE) (hl:l.length≤1000000) (h: ∀ r∈l,r.cells.length≤1000000∧okR r.cells):nr l (l.map told)=some true:=by
 unfold nr
 have e0:((l.length:Int) != ((l.map told).length:Int))=false:=by simp
 rw [e0,cond_false]
 refine iP (fun i=>(i:Int)) l.length (.inl ()) rfl ?_ ?_ rfl
 ·intro i hi
  try dsimp only
  have hr:=h _ (List.getElem_mem hi)
  rw [List.length_map,decide_eq_true (by omega),cond_true,dO l i hi,aA,dO _ _ (by simpa using hi),aA,List.getElem_map,KL _ hr.1 hr.2,aA,Bool.not_true,cond_false,w64 (by omega) (by omega)]
  rfl
 ·try dsimp only
  rw [List.length_map,decide_eq_false (by omega),cond_false]
theorem Fo {W:Nat} {l:List aE} (h:GI W l) (y:Int) (r:aE) (hr:okR r.cells):GI W (sj W l y r):=⟨h.w1,h.w2,by rw [jG]; exact h.l1,by rw [jG]; exact h.l2,DB h.rs y r hr⟩
end Go.Tw.X
set_option linter.unusedVariables false
set_option linter.unusedSimpArgs false
namespace Go.Tw.X
open Go Go.Tw
def wZ:aU:=⟨noS,1⟩
theorem so:VI wZ:=⟨by show noS.size≤1000000; decide,.inr rfl⟩
theorem uN {i:aU} (h:VI i):bV i 1=some (if i.e=0 then wZ else i):=by
 obtain ⟨s,e⟩:=i
 by_cases he:e=0
 ·subst he
  rw [if_pos rfl]
  exact oF s 1 (by decide)
 ·rw [if_neg he]
  exact uc s e 1 he
def dA (i:aU) (m:Int):Int×aU:=if (rdS i).1 > m then (0,wZ) else rdS i
theorem gm {i:aU} (m:Int) (h:VI i):VI (dA i m).2:=by
 unfold dA
 split
 ·exact so
 ·exact ik h
theorem jj {i:aU} {m:Int} (h:VI i) (hm:0≤m):0≤(dA i m).1∧(dA i m).1≤m:=by
 unfold dA
 split
 ·exact ⟨Int.le_refl _,hm⟩
 ·have:=qh h
  omega
theorem lB {i:aU} {m:Int} (h:(dA i m).2.e=0) (hV:VI i):i.e=0 ∧ ∃ w:Nat,(dA i m).1=w∧(w:Int)≤m∧w≤most∧sbs i.s=kr w++sbs (dA i m).2.s:=by
 unfold dA at *
 split at h
 ·exact absurd h (by decide)
 ·rename_i hh
  rw [if_neg hh]
  obtain ⟨h1,w,h2,h3,h4⟩:=zl h hV
  exact ⟨h1,w,h2,by omega,h3,h4⟩
theorem wh {i:aU} (hV:VI i) {m:Int} (hm:0≤m) (h:(rdS i).1 > m):(rdS i).2.e=0:=by
 by_cases he:(rdS i).2.e=0
 ·exact he
 ·have:=A7 he
  omega
theorem size_eq {i:aU} (h:VI i):kg i=some (dA i 1000):=by
 unfold kg dA
 rw [ku i h,aA]
 by_cases hb:(rdS i).1 > 1000
 ·have he:=wh h (by omega) hb
  rw [decide_eq_true hb,cond_true,uN (ik h),if_pos he,aA,if_pos hb]
 ·rw [decide_eq_false hb,cond_false,if_neg hb]
theorem ym {i:aU} (h:VI i) {m:Int} (hm:0≤m):gv i m=some (dA i m):=by
 unfold gv dA
 rw [ku i h,aA]
 by_cases hb:(rdS i).1 > m
 ·have he:=wh h hm hb
  rw [decide_eq_true hb,cond_true,uN (ik h),if_pos he,aA,if_pos hb]
 ·rw [decide_eq_false hb,cond_false,if_neg hb]
def pg (i:aU) (left:Int):aU:=if (dA i left).2.e=0∧(dA i left).1=0 then wZ else (dA i left).2
theorem ph {i:aU} (left:Int) (h:VI i):VI (pg i left):=by
 unfold pg
 split
 ·exact so
 ·exact gm left h
def ry (i:aU) (left:Int):Int×aU:=dA (pg i left) 1114111
def sq (i:aU) (left:Int):Int×aU:=dA (ry i left).2 647
def mM (i:aU) (left:Int):Int×aU:=dA (sq i left).2 3
theorem qU {i:aU} (left:Int) (h:VI i):VI (ry i left).2:=gm _ (ph left h)
theorem qV {i:aU} (left:Int) (h:VI i):VI (sq i left).2:=gm _ (qU left h)
theorem n5 {i:aU} (left:Int) (h:VI i):VI (mM i left).2:=gm _ (qV left h)
def jO (i:aU) (left:Int):aG:=⟨(ry i left).1,(sq i left).1,(mM i left).1⟩
theorem wj (i:aU) (h:VI i) (m:Int) (hm:0≤m): ∃ v:Int,bH i=some (v,(rdS i).2)∧(if v > m then (if (rdS i).2.e=0 then wZ else (rdS i).2) else (rdS i).2)=(dA i m).2∧((dA i m).2.e=0→v=(dA i m).1):=by
 refine ⟨(rdS i).1,ku i h,?_,?_⟩
 ·unfold dA
  by_cases hb:(rdS i).1 > m
  ·rw [if_pos hb,if_pos hb,if_pos (wh h hm hb)]
  ·rw [if_neg hb,if_neg hb]
 ·unfold dA
  by_cases hb:(rdS i).1 > m
  ·rw [if_pos hb]
   intro hh
   exact absurd hh (by decide)
  ·rw [if_neg hb]
   exact fun _=>rfl
theorem zm {i:aU} (h:i.e≠0) (m:Int) (hm:0≤m):(dA i m).2=i:=by
 unfold dA rdS
 rw [if_neg h]
 dsimp only
 rw [if_neg (by omega)]
theorem run_eq (i:aU) (left:Int) (h:VI i) (hl:0≤left):mK i left=some (if (mM i left).2.e=0 then ((dA i left).1,jO i left,true,(mM i left).2) else (0,⟨0,0,0⟩,false,(mM i left).2)):=by
 unfold mK
 rw [ku i h,aA]
 have hor:((bif ((rdS i).1 == 0) then some true else some (decide ((rdS i).1 > left))):Option Bool)=some (decide ((rdS i).1=0∨(rdS i).1 > left)):=by
  by_cases h0:(rdS i).1=0
  ·have:((rdS i).1 == 0)=true:=by simpa using h0
   rw [this,cond_true,decide_eq_true (.inl h0)]
  ·have:((rdS i).1 == 0)=false:=by simpa using h0
   rw [this,cond_false]
   by_cases h1:(rdS i).1 > left
   ·rw [decide_eq_true h1,decide_eq_true (.inr h1)]
   ·rw [decide_eq_false h1,decide_eq_false (by omega)]
 have hst:((bif decide ((rdS i).1=0∨(rdS i).1 > left) then (Option.bind (bV (rdS i).2 1) fun b=>some b) else some (rdS i).2):Option aU)=some (pg i left):=by
  unfold pg dA
  by_cases hb:(rdS i).1 > left
  ·rw [decide_eq_true (.inr hb),cond_true,uN (ik h),if_pos (wh h hl hb),aA,if_pos hb]
   rfl
  ·rw [if_neg hb]
   by_cases h0:(rdS i).1=0
   ·rw [decide_eq_true (.inl h0),cond_true,uN (ik h),aA]
    by_cases he:(rdS i).2.e=0
    ·rw [if_pos he,if_pos ⟨he,h0⟩]
    ·rw [if_neg he,if_neg (fun hh=>he hh.1)]
   ·rw [decide_eq_false (by omega),cond_false,if_neg (fun hh=>h0 hh.2)]
 rw [hor,aA,hst,aA]
 obtain ⟨v1,n1,f1,g1⟩:=wj (pg i left) (ph left h) 1114111 (by omega)
 obtain ⟨v2,n2,f2,g2⟩:=wj (ry i left).2 (qU left h) 647 (by omega)
 obtain ⟨v3,n3,f3,g3⟩:=wj (sq i left).2 (qV left h) 3 (by omega)
 have fl: ∀ (j:aU) (hj:VI j) (v m:Int) (a:lR) (out:aU),(if v > m then (if j.e=0 then wZ else j) else j)=out→((bif (decide (v > m)) then (Option.bind (bV j 1) fun c=>some (a,c)) else some (a,j)):Option (lR×aU))=some (a,out):=by
  intro j hj v m a out ho
  by_cases hb:v > m
  ·rw [if_pos hb] at ho
   rw [decide_eq_true hb,cond_true,uN hj,aA,ho]
  ·rw [if_neg hb] at ho
   rw [decide_eq_false hb,cond_false,ho]
 have ab: ∀ k:Int,0≤k→k < 3→chk (ET k 3)=some ():=fun k h0 h1=>lF ⟨h0,h1⟩
 rw [cY (s':=((⟨v1,0,0⟩:lR),(ry i left).2,(1:Int)))]
 ·rw [cY (s':=((⟨v1,v2,0⟩:lR),(sq i left).2,(2:Int)))]
  ·rw [cY (s':=((⟨v1,v2,v3⟩:lR),(mM i left).2,(3:Int)))]
   ·rw [cJ (r:=((⟨v1,v2,v3⟩:lR),(mM i left).2))]
    ·rw [aA]
     unfold cM
     rw [aA]
     dsimp only
     by_cases he:(mM i left).2.e=0
     ·have hb:((mM i left).2.e != 0)=false:=by simpa using he
      rw [hb,cond_false,if_pos he]
      have eB:(sq i left).2.e=0:=(lB (i:=(sq i left).2) (m:=3) he (qV left h)).1
      have eA:(ry i left).2.e=0:=(lB (i:=(ry i left).2) (m:=647) eB (qU left h)).1
      have e0:(pg i left).e=0:=(lB (i:=pg i left) (m:=1114111) eA (ph left h)).1
      have q1:v1=(ry i left).1:=g1 eA
      have q2:v2=(sq i left).1:=g2 eB
      have q3:v3=(mM i left).1:=g3 he
      have hr:=jj (i:=pg i left) (m:=1114111) (ph left h) (by omega)
      have hw:IntKind.i32.wrap v1=v1:=by
       rw [q1,IntKind.wrap_i32]
       unfold ry
       omega
      have hn:(rdS i).1=(dA i left).1:=by
       unfold pg at e0
       unfold dA at *
       split
       ·rename_i hb2
        rw [if_pos hb2] at e0
        split at e0
        ·exact absurd e0 (by decide)
        ·exact absurd e0 (by decide)
       ·rfl
      rw [hw,q1,q2,q3,hn]
      rfl
     ·have hb:((mM i left).2.e != 0)=true:=by simpa using he
      rw [hb,cond_true,if_neg he]
    ·rfl
   ·dsimp only
    rw [decide_eq_true (by omega),cond_true,show idx ([1114111,647,3]:List Int) (2:Int)=some 3 from rfl,aA,n3,aA,ab 2 (by omega) (by omega),aA,aA]
    dsimp only
    rw [show idx [sel 2 0 v3 v1,sel 2 1 v3 v2,sel 2 2 v3 0] (2:Int)=some v3 from rfl,aA,fl _ (ik (qV left h)) _ _ _ _ f3,aA]
    rfl
  ·dsimp only
   rw [decide_eq_true (by omega),cond_true,show idx ([1114111,647,3]:List Int) (1:Int)=some 647 from rfl,aA,n2,aA,ab 1 (by omega) (by omega),aA,aA]
   dsimp only
   rw [show idx [sel 1 0 v2 v1,sel 1 1 v2 0,sel 1 2 v2 0] (1:Int)=some v2 from rfl,aA,fl _ (ik (qU left h)) _ _ _ _ f2,aA]
   rfl
 ·dsimp only
  rw [decide_eq_true (by omega),cond_true,show idx ([1114111,647,3]:List Int) (0:Int)=some 1114111 from rfl,aA,n1,aA,ab 0 (by omega) (by omega),aA,aA]
  dsimp only
  rw [show idx [sel 0 0 v1 0,sel 0 1 v1 0,sel 0 2 v1 0] (0:Int)=some v1 from rfl,aA,fl _ (ik (ph left h)) _ _ _ _ f1,aA]
  rfl
end Go.Tw.X
set_option linter.unusedVariables false
set_option linter.unusedSimpArgs false
namespace Go.Tw.X
open Go Go.Tw
def rrS:Nat→Int→aU→List aG→List aG×aU
 | 0,_,i,l=>(l,i)
 | k+1,w,i,l=>if (l.length:Int) < w∧i.e=0 then
   (if (mM i (w - l.length)).2.e=0 then (if l.getLast?=some (jO i (w - l.length)) then rrS k w wZ l else rrS k w (mM i (w - l.length)).2 (l++List.replicate (dA i (w - l.length)).1.toNat (jO i (w - l.length))))
   else rrS k w (mM i (w - l.length)).2 l)
  else (l,i)
theorem vf {i:aU} {left:Int} (h:VI i) (hl:0≤left) (he:(mM i left).2.e=0):i.e=0∧1≤(dA i left).1∧(dA i left).1≤left∧(dA i left).2.e=0∧pg i left=(dA i left).2:=by
 have eB:(sq i left).2.e=0:=(lB (i:=(sq i left).2) (m:=3) he (qV left h)).1
 have eA:(ry i left).2.e=0:=(lB (i:=(ry i left).2) (m:=647) eB (qU left h)).1
 have e0:(pg i left).e=0:=(lB (i:=pg i left) (m:=1114111) eA (ph left h)).1
 have hr:=jj (i:=i) (m:=left) h hl
 by_cases hc:(dA i left).2.e=0∧(dA i left).1=0
 ·unfold pg at e0
  rw [if_pos hc] at e0
  exact absurd e0 (by decide)
 ·have e00:=e0
  unfold pg at e0
  rw [if_neg hc] at e0
  refine ⟨(lB e0 h).1,?_,hr.2,e0,by unfold pg; rw [if_neg hc]⟩
  have:(dA i left).1≠0:=fun hh=>hc ⟨e0,hh⟩
  omega
theorem Cd (l:List aG) (c:aG) (h:l.length≤1000000):((bif (decide ((l.length:Int) > 0)) then (Option.bind (idx l (IntKind.i64.wrap ((l.length:Int) - 1))) fun a=>some ((a.rune == c.rune) && ((a.aP == c.aP) && ((a.part == c.part) && true)))) else some false):Option Bool)=some (decide (l.getLast?=some c)):=by
 by_cases hl:l.length=0
 ·rw [decide_eq_false (by omega),cond_false]
  have:l=[]:=List.eq_nil_of_length_eq_zero hl
  subst this
  rfl
 ·have hlt:l.length - 1 < l.length:=by omega
  have e1:IntKind.i64.wrap ((l.length:Int) - 1)=((l.length - 1:Nat):Int):=by rw [w64 (by omega) (by omega)]; omega
  rw [decide_eq_true (by omega),cond_true,e1,dO _ _ hlt,aA,nG,List.getLast?_eq_getElem?,List.getElem?_eq_getElem hlt]
  simp
theorem Ce (p:Prop) [Decidable p] (e:Int):((bif (decide p) then some (e == 0) else some false):Option Bool)=some (decide (p∧e=0)):=by
 by_cases h1:p
 ·by_cases h2:e=0
  ·have:(e == 0)=true:=by simpa using h2
   rw [decide_eq_true h1,cond_true,this,decide_eq_true ⟨h1,h2⟩]
  ·have:(e == 0)=false:=by simpa using h2
   rw [decide_eq_true h1,cond_true,this,decide_eq_false (fun h=>h2 h.2)]
 ·rw [decide_eq_false h1,cond_false,decide_eq_false (fun h=>h1 h.1)]
theorem yn: ∀ (k:Nat) (w:Int) (i:aU) (l:List aG),VI i→(l.length:Int)≤max w 0→((rrS k w i l).1.length:Int)≤max w 0∧VI (rrS k w i l).2:=by
 intro k
 induction k with
 | zero=>intro w i l h hl; exact ⟨hl,h⟩
 | succ k ih =>
  intro w i l h hl
  unfold rrS
  by_cases hc:(l.length:Int) < w∧i.e=0
  ·rw [if_pos hc]
   by_cases he:(mM i (w - l.length)).2.e=0
   ·rw [if_pos he]
    obtain ⟨_,h1,h2,_⟩:=vf h (by omega) he
    split
    ·exact ih w _ l so hl
    ·exact ih w _ _ (n5 _ h) (by rw [List.length_append,List.length_replicate]; omega)
   ·rw [if_neg he]
    exact ih w _ l (n5 _ h) hl
  ·rw [if_neg hc]
   exact ⟨hl,h⟩
theorem DH (w:Int) (hw:w≤1000): ∀ (k:Nat) (i:aU) (l:List aG),VI i→(l.length:Int)≤max w 0→(if i.e=0 then (w - l.length).toNat+1 else 1)≤k →
  iter (σ:=aU×(List aG)) (ρ:=(List aG)×aU) (fun a=>(Option.bind ((bif (decide ((a.2.length:Int) < w)) then (Option.bind (cM a.1) fun f=>some (f == 0)) else some false):Option Bool) fun g=>(bif g then (Option.bind (mK a.1 (IntKind.i64.wrap (w - (a.2.length:Int)))) fun b=>(bif (!b.2.2.1) then some (.inl (b.2.2.2,a.2)) else (Option.bind ((bif (decide ((a.2.length:Int) > 0)) then (Option.bind (idx a.2 (IntKind.i64.wrap ((a.2.length:Int) - 1))) fun c=>some ((c.rune == b.2.1.rune) && ((c.aP == b.2.1.aP) && ((c.part == b.2.1.part) && true)))) else some false):Option Bool) fun j=>(bif j then (Option.bind (bV b.2.2.2 1) fun m=>some (.inl (m,a.2))) else (Option.bind (dR [b.2.1] b.1) fun d=>(Option.bind (chk (eL a.2.length d.length 24)) fun _=>some (.inl (b.2.2.2,(a.2++d))))))))) else some (.inr (a.2,a.1))))) (i,l)=some (rrS k w i l):=by
 intro k
 induction k with
 | zero=>intro i l h hl hk; split at hk <;> omega
 | succ k ih =>
  intro i l h hl hk
  unfold rrS
  by_cases hc:(l.length:Int) < w∧i.e=0
  ·rw [if_pos hc]
   rw [if_pos hc.2] at hk
   have hwr:IntKind.i64.wrap (w - (l.length:Int))=w - l.length:=w64 (by omega) (by omega)
   by_cases he:(mM i (w - l.length)).2.e=0
   ·rw [if_pos he]
    obtain ⟨_,h1,h2,_⟩:=vf h (by omega) he
    by_cases hlast:l.getLast?=some (jO i (w - l.length))
    ·rw [if_pos hlast,cY (s':=(wZ,l))]
     ·exact ih wZ l so hl (by rw [if_neg (by decide)]; omega)
     ·dsimp only
      unfold cM
      rw [aA,Ce,decide_eq_true hc,aA,cond_true,hwr,run_eq i _ h (by omega),if_pos he,aA]
      dsimp only
      rw [Bool.not_true,cond_false,Cd _ _ (by omega),aA,decide_eq_true hlast,cond_true,uN (n5 _ h),if_pos he,aA]
    ·rw [if_neg hlast,cY (s':=((mM i (w - l.length)).2,l++List.replicate (dA i (w - l.length)).1.toNat (jO i (w - l.length))))]
     ·refine ih _ _ (n5 _ h) (by rw [List.length_append,List.length_replicate]; omega) ?_
      rw [if_pos he,List.length_append,List.length_replicate]
      omega
     ·dsimp only
      unfold cM
      rw [aA,Ce,decide_eq_true hc,aA,cond_true,hwr,run_eq i _ h (by omega),if_pos he,aA]
      dsimp only
      rw [Bool.not_true,cond_false,Cd _ _ (by omega),aA,decide_eq_false hlast,cond_false,xq _ _ (by omega) (by omega),aA,bR (by rw [List.length_replicate]; omega),aA]
   ·rw [if_neg he,cY (s':=((mM i (w - l.length)).2,l))]
    ·exact ih _ l (n5 _ h) hl (by rw [if_neg he]; omega)
    ·dsimp only
     unfold cM
     rw [aA,Ce,decide_eq_true hc,aA,cond_true,hwr,run_eq i _ h (by omega),if_neg he,aA]
     dsimp only
     rw [Bool.not_false,cond_true]
  ·rw [if_neg hc]
   refine cJ ?_
   dsimp only
   unfold cM
   rw [aA,Ce,decide_eq_false hc,aA,cond_false]
def kT (i:aU) (w:Int):aE×aU :=
 if (rrS (w.toNat+1) w (dA i 1).2 []).2.e=0 then (⟨(rrS (w.toNat+1) w (dA i 1).2 []).1,decide ((dA i 1).1=1)⟩,(rrS (w.toNat+1) w (dA i 1).2 []).2)
 else (yi,(rrS (w.toNat+1) w (dA i 1).2 []).2)
theorem zo: ∀ (k:Nat) (w:Int) (i:aU) (l:List aG),(rrS k w i l).2.e=0→i.e=0:=by
 intro k
 induction k with
 | zero=>intro w i l h; exact h
 | succ k ih =>
  intro w i l h
  unfold rrS at h
  by_cases hc:(l.length:Int) < w∧i.e=0
  ·exact hc.2
  ·rw [if_neg hc] at h
   exact h
theorem wk (i:aU) (w:Int) (h:VI i) (hw:w≤1000):fO i w=some (kT i w):=by
 unfold fO
 rw [ku i h,aA]
 have hst:((bif (decide ((rdS i).1 > 1)) then (Option.bind (bV (rdS i).2 1) fun a=>some a) else some (rdS i).2):Option aU)=some (dA i 1).2:=by
  unfold dA
  by_cases hb:(rdS i).1 > 1
  ·rw [decide_eq_true hb,cond_true,uN (ik h),if_pos (wh h (by omega) hb),aA,if_pos hb]
  ·rw [decide_eq_false hb,cond_false,if_neg hb]
 rw [hst,aA]
 have hV:=gm 1 h
 rw [DH w hw (w.toNat+1) _ [] hV (by simp; omega) (by simp only [List.length_nil]; split <;> omega),aA]
 unfold cM kT
 rw [aA]
 by_cases he:(rrS (w.toNat+1) w (dA i 1).2 []).2.e=0
 ·have hb:((rrS (w.toNat+1) w (dA i 1).2 []).2.e != 0)=false:=by simpa using he
  rw [hb,cond_false,if_pos he]
  have h0:=zo _ _ _ _ he
  have hn:(rdS i).1=(dA i 1).1:=by
   unfold dA at *
   split
   ·rename_i hb2
    rw [if_pos hb2] at h0
    exact absurd h0 (by decide)
   ·rfl
  rw [hn]
  congr 3
 ·have hb:((rrS (w.toNat+1) w (dA i 1).2 []).2.e != 0)=true:=by simpa using he
  rw [hb,cond_true,if_neg he]
  rfl
end Go.Tw.X
set_option linter.unusedVariables false
set_option linter.unusedSimpArgs false
namespace Go.Tw.X
open Go Go.Tw
def jM:List aG→List (Nat×aG)
 | []=>[]
 | c::r=>match jM r with
  | (n,d)::t=>if c=d then (n+1,d)::t else (1,c)::(n,d)::t
  | []=>[(1,c)]
def gO (p:Nat×aG):List Int:=[(p.1:Int),p.2.rune,p.2.aP,p.2.part].flatMap cD
def eT (r:aE):List Int:=cD (if r.wrapped then 1 else 0)++(jM r.cells).flatMap gO
theorem A8 (c:aG) (r:List aG): ∃ n t,jM (c::r)=(n+1,c)::t:=by
 unfold jM
 split
 ·rename_i n d t h
  split
  ·rename_i e
   exact ⟨n,t,by rw [e]⟩
  ·exact ⟨0,_,rfl⟩
 ·exact ⟨0,[],rfl⟩
theorem xy: ∀ l:List aG,(jM l).length≤l.length
 | []=>Nat.le_refl _
 | c::r=>by
  have ih:=xy r
  unfold jM
  split
  ·rename_i n d t h
   rw [h] at ih
   split <;> (simp at ih ⊢; omega)
  ·simp
theorem wm (p:Nat×aG):(gO p).length≤36:=by
 unfold gO
 simp only [List.flatMap_cons,List.flatMap_nil,List.length_append,List.length_nil]
 have h1:=dW (p.1:Int)
 have h2:=dW p.2.rune
 have h3:=dW p.2.aP
 have h4:=dW p.2.part
 omega
theorem zp (t:List (Nat×aG)):(t.flatMap gO).length≤36*t.length:=by
 induction t with
 | nil=>simp
 | cons a t ih =>
  rw [List.flatMap_cons,List.length_append,List.length_cons]
  have:=wm a
  omega
def more (c:aG):List aG→Nat
 | []=>0
 | d::r=>if d=c then more c r+1 else 0
theorem yo (c:aG): ∀ l,more c l≤l.length
 | []=>Nat.le_refl _
 | d::r=>by
  have:=yo c r
  unfold more
  split <;> simp <;> omega
theorem sr (c:aG): ∀ r:List aG,jM (c::r)=(more c r+1,c)::jM (r.drop (more c r))
 | []=>rfl
 | d::r=>by
  have ih:=sr d r
  have hu:jM (c::d::r)=(match jM (d::r) with
   | (n,e)::t=>if c=e then (n+1,e)::t else (1,c)::(n,e)::t
   | []=>[(1,c)]):=rfl
  rw [hu,ih]
  try dsimp only
  by_cases h:c=d
  ·subst h
   rw [if_pos rfl]
   have hm:more c (c::r)=more c r+1:=by
    show (if c=c then more c r+1 else 0)=_
    rw [if_pos rfl]
   rw [hm,List.drop_succ_cons]
  ·rw [if_neg h]
   have hm:more c (d::r)=0:=by
    show (if d=c then more c r+1 else 0)=_
    rw [if_neg (fun e=>h e.symm)]
   rw [hm,List.drop_zero,ih]
theorem zq (c:aG): ∀ (l:List aG) (k:Nat),k < more c l→l[k]?=some c
 | [],k,h=>by simp [more] at h
 | d::r,k,h=>by
  unfold more at h
  split at h
  ·rename_i e
   cases k with
   | zero=>rw [e]; rfl
   | succ k=>exact zq c r k (by omega)
  ·omega
theorem ud (c:aG): ∀ (l:List aG),more c l < l.length→l[more c l]?≠some c
 | [],h=>by simp at h
 | d::r,h=>by
  have hu:more c (d::r)=if d=c then more c r+1 else 0:=rfl
  rw [hu] at h ⊢
  by_cases e:d=c
  ·rw [if_pos e] at h ⊢
   exact ud c r (by simpa using h)
  ·rw [if_neg e]
   simpa using e
theorem HE: ∀ (m:Nat) (l:List aG) (b:List Int),l.length≤m→b.length+36*l.length≤9000000→okR l → ∃ q,iter (σ:=(List aG)×cE) (ρ:=((List aG)×cE) ⊕ (cE×(List aG))) (fun a=>(bif (decide ((a.1.length:Int) > 0)) then (Option.bind (iter (σ:=Int) (ρ:=Int) (fun f=>(Option.bind ((bif (decide (f < (a.1.length:Int))) then (Option.bind (idx a.1 f) fun g=>(Option.bind (idx a.1 0) fun h=>some ((g.rune == h.rune) && ((g.aP == h.aP) && ((g.part == h.part) && true))))) else some false):Option Bool) fun j=>(bif j then some (.inl (IntKind.i64.wrap (f+1))) else some (.inr f)))) 1) fun i=>(Option.bind (idx a.1 0) fun n=>(Option.bind ((fun (s51:cE) (x21:Int×aG)=>(Option.bind (cQ s51 [x21.1,(IntKind.i64.wrap x21.2.rune),x21.2.aP,x21.2.part]) fun o=>some (o,true))) a.2 (i,n)) fun z1399=>(bif (!z1399.2) then (kO (some (z1399.1,a.1))) else (Option.bind (chk (dB i (a.1.length:Int) a.1.length)) fun _=>some (.inl ((cut a.1 i (a.1.length:Int)),z1399.1))))))) else some (.inr (.inl (a.1,a.2))))) (l,⟨b⟩)=some (.inl (q,⟨b++(jM l).flatMap gO⟩)):=by
 intro m
 induction m with
 | zero =>
  intro l b hl hb hok
  have:l=[]:=List.eq_nil_of_length_eq_zero (by omega)
  subst this
  refine ⟨[],?_⟩
  refine cJ ?_
  try dsimp only
  rw [decide_eq_false (by simp),cond_false]
  simp [jM]
 | succ m ih =>
  intro l b hl hb hok
  cases l with
  | nil =>
   refine ⟨[],?_⟩
   refine cJ ?_
   try dsimp only
   rw [decide_eq_false (by simp),cond_false]
   simp [jM]
  | cons c r =>
   have hmr:=yo c r
   have hcok:rok c.rune:=hok c (List.mem_cons_self ..)
   simp only [List.length_cons] at hl hb
   have hon:=mv b [((more c r+1:Nat):Int),c.rune,c.aP,c.part] (by first | (simp; omega) | simp)
   have hd:(r.drop (more c r)).length≤m:=by rw [List.length_drop]; omega
   have hel:=wm (more c r+1,c)
   obtain ⟨q,hq⟩:=ih (r.drop (more c r)) (b++gO (more c r+1,c)) hd (by rw [List.length_append,List.length_drop]; omega) (vV (fun d hd'=>hok d (List.mem_cons_of_mem _ hd')) _)
   refine ⟨q,?_⟩
   rw [cY (s':=(r.drop (more c r),(⟨b++gO (more c r+1,c)⟩:cE)))]
   ·rw [hq,sr,List.flatMap_cons,List.append_assoc]
   ·try dsimp only
    rw [decide_eq_true (by first | (simp; omega) | simp),cond_true]
    refine iP (fun k=>((k+1:Nat):Int)) (more c r) ((more c r+1:Nat):Int) rfl ?_ ?_ ?_
    ·intro k hk
     have hg:=zq c r k hk
     have hgi:idx (c::r) ((k+1:Nat):Int)=some c:=by rw [fE,List.getElem?_cons_succ,hg]
     have hg0:idx (c::r) 0=some c:=rfl
     try dsimp only
     rw [decide_eq_true (by first | (simp; omega) | simp),cond_true,hgi,aA,hg0,aA,nG,decide_eq_true rfl,aA,cond_true,w64 (by omega) (by omega)]
     rfl
    ·try dsimp only
     by_cases hlt:more c r < r.length
     ·have hs:=ud c r hlt
      have hgi:idx (c::r) ((more c r+1:Nat):Int)=some r[more c r]:=by rw [fE,List.getElem?_cons_succ,List.getElem?_eq_getElem hlt]
      have hg0:idx (c::r) 0=some c:=rfl
      have hne: ¬ r[more c r]=c:=fun e=>hs (by rw [List.getElem?_eq_getElem hlt,e])
      rw [decide_eq_true (by first | (simp; omega) | simp),cond_true,hgi,aA,hg0,aA,nG,decide_eq_false hne,aA,cond_false]
     ·rw [decide_eq_false (by first | (simp; omega) | simp),cond_false,aA,cond_false]
    ·have hg0:idx (c::r) 0=some c:=rfl
     have hce:gO (more c r+1,c)=[((more c r+1:Nat):Int),c.rune,c.aP,c.part].flatMap cD:=rfl
     rw [hg0,aA,w32 hcok,hon,aA,aA]
     try dsimp only
     rw [Bool.not_true,cond_false,bY (by omega) (by first | (simp; omega) | simp) (by simp),aA,sV,List.take_length,List.drop_succ_cons,hce]
theorem wo (r:aE) (h:r.cells.length≤1000) (hok:okR r.cells):jb r=some (fR (eT r)):=by
 unfold jb o7 nX mS gC
 have hbit:((bif r.wrapped then some 1 else some 0):Option Int)=some (if r.wrapped then 1 else 0):=by cases r.wrapped <;> rfl
 rw [hbit,aA,mv [] _ (by simp),aA,aA]
 have hb:=dW (if r.wrapped then 1 else 0)
 obtain ⟨q,hq⟩:=HE r.cells.length r.cells (cD (if r.wrapped then 1 else 0)) (Nat.le_refl _) (by omega) hok
 have e0:([]++[(if r.wrapped then (1:Int) else 0)].flatMap cD)=cD (if r.wrapped then 1 else 0):=by simp
 rw [e0,hq,aA,aA,aA]
 rfl
end Go.Tw.X
set_option linter.unusedVariables false
set_option linter.unusedSimpArgs false
namespace Go.Tw.X
open Go Go.Tw
theorem HF {w:Nat} (h:w≤most):clN (w:Int)=w:=by unfold clN; unfold most at h; omega
theorem k6 {w:Nat} (h:w≤most):cD (w:Int)=kr w:=by unfold cD; rw [HF h]
theorem ss (c:aG) (n:Nat): ∀ l:List aG,l.getLast?≠some c→jM (l++List.replicate (n+1) c)=jM l++[(n+1,c)]
 | [],_=>by
  rw [List.nil_append]
  induction n with
  | zero=>rfl
  | succ n ih =>
   rw [List.replicate_succ]
   show (match jM (List.replicate (n+1) c) with
    | (m,e)::t=>if c=e then (m+1,e)::t else (1,c)::(m,e)::t
    | []=>[(1,c)])=_
   rw [ih]
   show (if c=c then [(n+1+1,c)] else _)=_
   rw [if_pos rfl]
   rfl
 | x::r,h=>by
  cases r with
  | nil =>
   have hx: ¬ x=c:=fun e=>h (by rw [e]; rfl)
   have ih:=ss c n [] (by simp)
   show (match jM ([]++List.replicate (n+1) c) with
    | (m,e)::t=>if x=e then (m+1,e)::t else (1,x)::(m,e)::t
    | []=>[(1,x)])=_
   rw [ih]
   show (if x=c then _ else (1,x)::(n+1,c)::[])=_
   rw [if_neg hx]
   rfl
  | cons y s =>
   have ih:=ss c n (y::s) (by simpa using h)
   show (match jM ((y::s)++List.replicate (n+1) c) with
    | (m,e)::t=>if x=e then (m+1,e)::t else (1,x)::(m,e)::t
    | []=>[(1,x)])=(match jM (y::s) with
    | (m,e)::t=>if x=e then (m+1,e)::t else (1,x)::(m,e)::t
    | []=>[(1,x)])++[(n+1,c)]
   rw [ih]
   obtain ⟨m,t,hm⟩:=A8 y s
   rw [hm]
   show (if x=y then _ else _)=(if x=y then _ else _)++_
   split <;> rfl
theorem xz {i:aU} {left:Int} (h:VI i) (hl:0≤left) (he:(mM i left).2.e=0):sbs i.s=gO ((dA i left).1.toNat,jO i left)++sbs (mM i left).2.s∧0≤(jO i left).rune∧(jO i left).rune≤1114111:=by
 obtain ⟨_,h1,h2,h3,h4⟩:=vf h hl he
 obtain ⟨eB,c3,q3,_,m3,b3⟩:=lB (i:=(sq i left).2) (m:=3) he (qV left h)
 obtain ⟨eA,c2,q2,_,m2,b2⟩:=lB (i:=(ry i left).2) (m:=647) eB (qU left h)
 obtain ⟨e0,c1,q1,l1,m1,b1⟩:=lB (i:=pg i left) (m:=1114111) eA (ph left h)
 obtain ⟨_,c0,q0,_,m0,b0⟩:=lB (i:=i) (m:=left) h3 h
 have qa:(jO i left).rune=(c1:Int):=q1
 have qb:(jO i left).aP=(c2:Int):=q2
 have qc:(jO i left).part=(c3:Int):=q3
 refine ⟨?_,by omega,by omega⟩
 have hE:gO ((dA i left).1.toNat,jO i left)=kr c0++kr c1++kr c2++kr c3:=by
  unfold gO
  dsimp only
  rw [qa,qb,qc,q0,Int.toNat_natCast]
  simp only [List.flatMap_cons,List.flatMap_nil,List.append_nil,k6 m0,k6 m1,k6 m2,k6 m3,List.append_assoc]
 have b1':sbs (dA i left).2.s=kr c1++sbs (ry i left).2.s:=by rw [← h4]; exact b1
 have b2':sbs (ry i left).2.s=kr c2++sbs (sq i left).2.s:=b2
 have b3':sbs (sq i left).2.s=kr c3++sbs (mM i left).2.s:=b3
 rw [hE,b0,b1',b2',b3']
 simp only [List.append_assoc]
theorem DJ: ∀ (k:Nat) (w:Int) (i:aU) (l:List aG),VI i→okR l→(rrS k w i l).2.e=0 → ∃ D,(jM (rrS k w i l).1).flatMap gO=(jM l).flatMap gO++D∧sbs i.s=D++sbs (rrS k w i l).2.s∧okR (rrS k w i l).1:=by
 intro k
 induction k with
 | zero=>intro w i l h hok he; exact ⟨[],by simp [rrS],by simp [rrS],hok⟩
 | succ k ih =>
  intro w i l h hok he
  unfold rrS at he ⊢
  by_cases hc:(l.length:Int) < w∧i.e=0
  ·rw [if_pos hc] at he ⊢
   by_cases h2:(mM i (w - l.length)).2.e=0
   ·rw [if_pos h2] at he ⊢
    by_cases h3:l.getLast?=some (jO i (w - l.length))
    ·rw [if_pos h3] at he
     exact absurd (zo _ _ _ _ he) (by decide)
    ·rw [if_neg h3] at he ⊢
     obtain ⟨b1,b2,b3⟩:=xz h (by omega) h2
     obtain ⟨_,p1,_⟩:=vf h (by omega) h2
     obtain ⟨n,hn⟩: ∃ n,(dA i (w - l.length)).1.toNat=n+1:=⟨(dA i (w - l.length)).1.toNat - 1,by omega⟩
     rw [hn] at he b1 ⊢
     obtain ⟨D,d1,d2,d3⟩:=ih w _ _ (n5 _ h) (pf hok (fun c hc=>by rw [List.eq_of_mem_replicate hc]; unfold rok; omega)) he
     refine ⟨gO (n+1,jO i (w - l.length))++D,?_,?_,d3⟩
     ·rw [d1,ss _ _ _ h3,List.flatMap_append,List.flatMap_singleton,List.append_assoc]
     ·rw [b1,d2,List.append_assoc]
   ·rw [if_neg h2] at he
    exact absurd (zo _ _ _ _ he) h2
  ·rw [if_neg hc] at he ⊢
   exact ⟨[],by simp,by simp,hok⟩
theorem A9 {i:aU} {w:Int} (h:VI i) (he:(kT i w).2.e=0):sbs i.s=eT (kT i w).1++sbs (kT i w).2.s:=by
 unfold kT at *
 by_cases h0:(rrS (w.toNat+1) w (dA i 1).2 []).2.e=0
 ·rw [if_pos h0]
  obtain ⟨D,d1,d2,_⟩:=DJ _ w _ [] (gm 1 h) (fun c hc=>by cases hc) h0
  obtain ⟨_,c,q,hc,hm,hb⟩:=lB (i:=i) (m:=1) (zo _ _ _ _ h0) h
  unfold eT
  dsimp only
  rw [d1,hb,d2,q]
  have:(if decide ((c:Int)=1)=true then (1:Int) else 0)=(c:Int):=by
   by_cases hc1:(c:Int)=1
   ·simp [hc1]
   ·rw [decide_eq_false hc1]
    simp
    omega
  rw [this,k6 hm]
  simp [jM]
 ·rw [if_neg h0] at he
  exact absurd he h0
theorem s6 {i:aU} {w:Int} (h:VI i):VI (kT i w).2:=by
 unfold kT
 split
 ·exact (yn _ w _ [] (gm 1 h) (by simp; omega)).2
 ·exact (yn _ w _ [] (gm 1 h) (by simp; omega)).2
theorem JT: ∀ (k:Nat) (w:Int) (i:aU) (l:List aG),VI i→okR l→okR (rrS k w i l).1:=by
 intro k
 induction k with
 | zero=>intro w i l h hok; exact hok
 | succ k ih =>
  intro w i l h hok
  unfold rrS
  by_cases hc:(l.length:Int) < w∧i.e=0
  ·rw [if_pos hc]
   by_cases h2:(mM i (w - l.length)).2.e=0
   ·rw [if_pos h2]
    obtain ⟨b1,b2,b3⟩:=xz h (by omega) h2
    split
    ·exact ih w _ l so hok
    ·exact ih w _ _ (n5 _ h) (pf hok (fun c hc=>by rw [List.eq_of_mem_replicate hc]; unfold rok; omega))
   ·rw [if_neg h2]
    exact ih w _ l (n5 _ h) hok
  ·rw [if_neg hc]
   exact hok
theorem HG {i:aU} {w:Int} (h:VI i) (hw:w≤1000):okR (kT i w).1.cells∧(kT i w).1.cells.length≤1000:=by
 unfold kT
 split
 ·refine ⟨JT _ w _ [] (gm 1 h) (fun c hc=>by cases hc),?_⟩
  have:=(yn (w.toNat+1) w _ [] (gm 1 h) (by simp; omega)).1
  show (rrS (w.toNat+1) w (dA i 1).2 []).1.length≤1000
  omega
 ·exact ⟨fun c hc=>(by cases hc),Nat.zero_le _⟩
end Go.Tw.X
set_option linter.unusedVariables false
set_option linter.unusedSimpArgs false
namespace Go.Tw.X
open Go Go.Tw
theorem zr (a b:Bool):((bif a then some b else some false):Option Bool)=some (a && b):=by cases a <;> rfl
theorem bor (a b:Bool):((bif a then some true else some b):Option Bool)=some (a || b):=by cases a <;> rfl
def okG (r s:Int):Bool:=(decide (r≥0) && decide (r≤1114111)) && (decide (s≥0) && decide (s≤647))
def okC (c:aG):Bool:=okG c.rune c.aP && (decide (c.part≥0) && decide (c.part≤3))
def fV (s:aM):Bool:=(s.k == 0) && ((s.w == 0) && ((s.h == 0) && ((s.x == 0) && ((s.y == 0) && ((s.title.toList == (ByteArray.mk #[]).toList) && (((s.rows.length:Int) == 0) && ((s.len == 0) && ((s.chain == 0) && ((s.begun.length:Int) == 0)))))))))
def wi (n lo hi:Int):Bool:=decide (n≥lo) && decide (n≤hi)
def su (s:aM):Bool:=wi s.k 1 1152921504606846976 && (wi s.w 1 1000 && (wi s.h 1 1000 && (wi s.x 0 (s.w - 1) && (wi s.y 0 (s.h - 1) && (((s.rows.length:Int) == s.h) && (decide ((s.title.size:Int)≤200) && (wi s.len 0 1152921504606846976 && (wi s.chain 0 281474976710656 && decide ((s.begun.length:Int)≤1024)))))))))
def qi (w:Int) (r:aE):Bool:=((r.cells.length:Int) == w) && r.cells.all okC
def mN (s:aM):Bool:=fV s || (su s && ((s.begun.all fun g=>okG g.rune g.aP) && s.rows.all (qi s.w)))
theorem empty_eq (s:aM):fH s=some (fV s):=by
 unfold fH fV
 simp only [zr,aA]
theorem sA (n lo hi:Int):eI n lo hi=some (wi n lo hi):=by
 unfold eI wi
 rw [zr,aA]
structure SW (s:aM):Prop where
 w1: -9223372036854775808≤s.w∧s.w≤9223372036854775807
 h1: -9223372036854775808≤s.h∧s.h≤9223372036854775807
 gl: ∀ g∈s.begun,rok g.rune
 ro: ∀ r∈s.rows,okR r.cells∧r.cells.length≤1000
 rl:s.rows.length≤1000
 bl:s.begun.length≤2000
 tl:s.title.size≤1000
theorem Fp (s:aM) (h:SW s):jB s=some (su s):=by
 unfold jB su
 simp only [sA,aA]
 by_cases hw:s.w≥1
 ·have e1:IntKind.i64.wrap (s.w - 1)=s.w - 1:=w64 (by omega) (by have:=h.w1; omega)
  by_cases hh:s.h≥1
  ·have e2:IntKind.i64.wrap (s.h - 1)=s.h - 1:=w64 (by omega) (by have:=h.h1; omega)
   simp only [e1,e2,zr,aA]
  ·have e2:wi s.h 1 1000=false:=by unfold wi; rw [decide_eq_false hh]; rfl
   simp only [e2,e1,cond_false,zr,Bool.false_and,Bool.and_false,aA]
 ·have e2:wi s.w 1 1000=false:=by unfold wi; rw [decide_eq_false hw]; rfl
  simp only [e2,cond_false,zr,Bool.false_and,Bool.and_false,aA]
theorem zt (r s:Int) (h:rok r):ln r s=some (okG r s):=by
 unfold ln okG
 simp only [sA,aA,w32 h,zr,wi]
theorem DK (c:aG) (h:rok c.rune):mY c=some (okC c):=by
 unfold mY okC
 rw [zt _ _ h]
 simp only [sA,aA,zr,wi]
theorem find_eq {α:Type} (l:List α) (p:α→Bool) (hl:l.length≤1000000) (f:Int→Option (Int ⊕ (Unit ⊕ Int))) (hf: ∀ (n:Nat) (hn:n < l.length),f (n:Int)=if p l[n] then some (.inr (.inr (n:Int))) else some (.inl ((n+1:Nat):Int))) (he:f (l.length:Int)=some (.inr (.inl ()))): ∃ q,iter f 0=some q∧((q = .inl ()∧l.any p=false) ∨ ∃ w:Int,q = .inr w∧0≤w∧l.any p=true):=by
 obtain ⟨q,h1,h2⟩:=sU (f:=f) (fun i:Int=> ∃ n:Nat,i=n∧n≤l.length∧(l.take n).any p=false) (fun i=>(l.length - i).toNat) (fun q=>(q = .inl ()∧l.any p=false) ∨ ∃ w:Int,q = .inr w∧0≤w∧l.any p=true) (by
  rintro i ⟨n,rfl,hn,ht⟩
  by_cases hlt:n < l.length
  ·by_cases hp:p l[n]=true
   ·refine .inr ⟨.inr (n:Int),by rw [hf n hlt,if_pos hp],.inr ⟨_,rfl,by omega,List.any_eq_true.2 ⟨l[n],List.getElem_mem hlt,hp⟩⟩⟩
   ·refine .inl ⟨((n+1:Nat):Int),by rw [hf n hlt,if_neg hp],⟨n+1,rfl,hlt,?_⟩,by omega⟩
    rw [List.take_succ_eq_append_getElem hlt,List.any_append,ht]
    simpa using hp
  ·have hnl:n=l.length:=by omega
   subst hnl
   refine .inr ⟨.inl (),he,.inl ⟨rfl,?_⟩⟩
   rwa [List.take_length] at ht) 0 ⟨0,rfl,by omega,rfl⟩
 exact ⟨q,h1,h2⟩
theorem HH (l:List aN) (hl:l.length≤1000000) (h: ∀ g∈l,rok g.rune):cK l=some (l.any fun g=> !okG g.rune g.aP):=by
 unfold cK dG
 have hlen:l.length=l.length:=rfl
 obtain ⟨q,h1,h2⟩:=find_eq l (fun g=> !okG g.rune g.aP) hl (fun a=>(bif (decide (a < (l.length:Int))) then (Option.bind (idx l a) fun b=>(Option.bind (iF b) fun c=>(bif c then (kO (some a)) else some (.inl (IntKind.i64.wrap (a+1)))))) else some (.inr (.inl ())))) (by
  intro n hn
  unfold iF
  rw [decide_eq_true (by omega),cond_true,dO l n hn,aA,zt _ _ (h _ (List.getElem_mem hn)),aA,aA,w64 (by omega) (by omega)]
  cases okG l[n].rune l[n].aP <;> rfl) (by
  rw [decide_eq_false (by omega),cond_false])
 rw [h1,aA]
 rcases h2 with ⟨rfl,h3⟩ | ⟨w,rfl,h4,h3⟩
 ·rw [h3]
  rfl
 ·rw [h3]
  show some (decide (w≥0))=some true
  rw [decide_eq_true h4]
theorem HI (l:List aG) (hl:l.length≤1000000) (h:okR l):cB l=some (l.any fun c=> !okC c):=by
 unfold cB dH
 obtain ⟨q,h1,h2⟩:=find_eq l (fun c=> !okC c) hl (fun a=>(bif (decide (a < (l.length:Int))) then (Option.bind (idx l a) fun b=>(Option.bind (iG b) fun d=>(bif d then (kO (some a)) else some (.inl (IntKind.i64.wrap (a+1)))))) else some (.inr (.inl ())))) (by
  intro n hn
  unfold iG
  rw [decide_eq_true (by omega),cond_true,dO l n hn,aA,DK _ (h _ (List.getElem_mem hn)),aA,aA,w64 (by omega) (by omega)]
  cases okC l[n] <;> rfl) (by
  rw [decide_eq_false (by omega),cond_false])
 rw [h1,aA]
 rcases h2 with ⟨rfl,h3⟩ | ⟨w,rfl,h4,h3⟩
 ·rw [h3]
  rfl
 ·rw [h3]
  show some (decide (w≥0))=some true
  rw [decide_eq_true h4]
theorem Cg {α:Type} (l:List α) (p:α→Bool):(l.any fun x=> !p x) = !(l.all p):=by
 induction l with
 | nil=>rfl
 | cons a l ih=>rw [List.any_cons,List.all_cons,ih,Bool.not_and]
theorem s7 (s:aM) (h:SW s):eJ s=some (if mN s then 0 else 1):=by
 unfold eJ mN
 rw [empty_eq,aA]
 cases he:fV s with
 | true =>
  rw [cond_true]
  rfl
 | false =>
  rw [cond_false,Fp s h,aA,HH _ (by have:=h.bl; omega) h.gl,aA,bor,aA,Cg]
  cases hs:su s with
  | false=>rfl
  | true =>
   cases hg:(s.begun.all fun g=>okG g.rune g.aP) with
   | false=>rfl
   | true =>
    show Option.bind (iter _ 0) _=some (if s.rows.all (qi s.w)=true then 0 else 1)
    have hrl:=h.rl
    refine nH (fun i:Int=> ∃ n:Nat,i=n∧n≤s.rows.length∧(s.rows.take n).all (qi s.w)=true) (fun i=>(s.rows.length - i).toNat) (fun q=>q=if s.rows.all (qi s.w)=true then .inl () else .inr 1) ⟨0,rfl,by omega,rfl⟩ ?_ ?_
    ·rintro i ⟨n,rfl,hn,ht⟩
     by_cases hlt:n < s.rows.length
     ·have hro:=h.ro _ (List.getElem_mem hlt)
      have hcond:((bif ((s.rows[n].cells.length:Int) != s.w) then some true else (Option.bind (cB s.rows[n].cells) fun a=>some a)):Option Bool)=some (!qi s.w s.rows[n]):=by
       rw [HI _ (by omega) hro.1,aA,bor,Cg]
       unfold qi
       rw [Bool.not_and]
       rfl
      try dsimp only
      rw [decide_eq_true (by omega),cond_true,dO _ _ hlt,aA,hcond,aA,w64 (by omega) (by omega)]
      cases hb:qi s.w s.rows[n] with
      | true =>
       refine .inl ⟨((n+1:Nat):Int),rfl,⟨n+1,rfl,hlt,?_⟩,by omega⟩
       rw [List.take_succ_eq_append_getElem hlt,List.all_append,ht]
       simp [hb]
      | false =>
       refine .inr ⟨.inr 1,rfl,?_⟩
       rw [if_neg]
       intro hall
       have:=List.all_eq_true.1 hall _ (List.getElem_mem hlt)
       rw [hb] at this
       cases this
     ·refine .inr ⟨.inl (),?_,?_⟩
      ·try dsimp only
       rw [decide_eq_false (by omega),cond_false]
      ·have hnl:n=s.rows.length:=by omega
       subst hnl
       rw [List.take_length] at ht
       rw [if_pos ht]
    ·rintro q rfl
     by_cases hall:s.rows.all (qi s.w)=true
     ·rw [if_pos hall,if_pos hall]
     ·rw [if_neg hall,if_neg hall]
end Go.Tw.X
set_option linter.unusedVariables false
set_option linter.unusedSimpArgs false
namespace Go.Tw.X
open Go Go.Tw
def tg (g:aN):rZ:=⟨g.rune,g.aP⟩
end Go.Tw.X
set_option linter.unusedVariables false
set_option linter.unusedSimpArgs false
namespace Go.Tw.X
open Go Go.Tw
theorem s8 (b:List Int) (s:ByteArray) (hb:b.length+s.size≤10000000):gn ⟨b⟩ [s]=some ⟨b++sbs s⟩:=by
 unfold gn
 rw [cY (s':=((⟨b++sbs s⟩:cE),(1:Int)))]
 ·rw [cJ (r:=(⟨b++sbs s⟩:cE))]
  ·rfl
  ·dsimp only
   rw [decide_eq_false (by simp),cond_false]
 ·dsimp only
  have h0:idx [s] 0=some s:=rfl
  rw [decide_eq_true (by simp),cond_true,h0,aA,bR (by omega),aA]
  rfl
theorem zu (b:List Int) (s:ByteArray) (hb:b.length+s.size≤1000000):jS ⟨b⟩ [s]=some ⟨b++(cD s.size++sbs s)⟩:=by
 unfold jS
 have he:=dW (s.size:Int)
 rw [cY (s':=((⟨b++(cD s.size++sbs s)⟩:cE),(1:Int)))]
 ·rw [cJ (r:=(⟨b++(cD s.size++sbs s)⟩:cE))]
  ·rfl
  ·dsimp only
   rw [decide_eq_false (by simp),cond_false]
 ·dsimp only
  have h0:idx [s] 0=some s:=rfl
  rw [decide_eq_true (by simp),cond_true,h0,aA,mv _ _ (by simp; omega),aA]
  simp only [List.flatMap_cons,List.flatMap_nil,List.append_nil]
  rw [s8 _ _ (by rw [List.length_append]; omega),aA,List.append_assoc]
  rfl
def pL (g:aN):List Int:=[g.rune,g.aP].flatMap cD
def gP (l:List aN):List Int:=cD l.length++l.flatMap pL
theorem Fq (g:aN):(pL g).length≤18:=by
 unfold pL
 simp only [List.flatMap_cons,List.flatMap_nil,List.length_append,List.length_nil]
 have h1:=dW g.rune
 have h2:=dW g.aP
 omega
theorem qW (l:List aN):(l.flatMap pL).length≤18*l.length:=by
 induction l with
 | nil=>simp
 | cons a t ih =>
  rw [List.flatMap_cons,List.length_append,List.length_cons]
  have:=Fq a
  omega
theorem wq (l:List aN) (h:l.length≤2000) (hr: ∀ g∈l,rok g.rune):kY l=some (fR (gP l)):=by
 unfold kY gC gP
 have he:=dW (l.length:Int)
 rw [mv [] _ (by simp),aA]
 have e0:([]++[(l.length:Int)].flatMap cD)=cD l.length:=by simp
 rw [e0]
 refine iP (fun i=>((⟨cD l.length++(l.take i).flatMap pL⟩:cE),(i:Int))) l.length (⟨cD l.length++l.flatMap pL⟩:cE) (by simp) ?_ ?_ rfl
 ·intro i hi
  dsimp only
  have h2:=qW (l.take i)
  rw [List.length_take] at h2
  rw [decide_eq_true (by omega),cond_true,dO _ _ hi,aA,w32 (hr _ (List.getElem_mem hi)),mv _ _ (by simp only [List.length_append,List.length_cons,List.length_nil]; omega),aA,w64 (by omega) (by omega),List.take_succ_eq_append_getElem hi,List.flatMap_append,List.flatMap_singleton,List.append_assoc]
  rfl
 ·dsimp only
  rw [decide_eq_false (by omega),cond_false,List.take_length]
def qj (s:aM):List Int:=[s.k,s.w,s.h,s.x,s.y].flatMap cD++(cD s.title.size++sbs s.title)++[s.len,s.chain].flatMap cD++gP s.begun
def kj (s:aM):List Int:=qj s++s.rows.flatMap eT
theorem xA (s:aM) (h:SW s):(qj s).length≤40000:=by
 unfold qj gP
 simp only [List.flatMap_cons,List.flatMap_nil,List.length_append,List.length_nil,bL]
 have a1:=dW s.k
 have a2:=dW s.w
 have a3:=dW s.h
 have a4:=dW s.x
 have a5:=dW s.y
 have a6:=dW (s.title.size:Int)
 have a7:=dW s.len
 have a8:=dW s.chain
 have a9:=dW (s.begun.length:Int)
 have b1:=qW s.begun
 have b2:=h.bl
 have b3:=h.tl
 omega
theorem yp (l:List aE) (i:Nat):((l.take i).flatMap eT).length≤(l.flatMap eT).length:=by
 have:l.flatMap eT=(l.take i).flatMap eT++(l.drop i).flatMap eT:=by rw [← List.flatMap_append,List.take_append_drop]
 rw [this,List.length_append]
 omega
def jg (s:aM):ByteArray:=if fV s=true∨mN s=false then noS else fR (kj s)
theorem yq (s:aM) (h:SW s) (hp:(s.rows.flatMap eT).length≤1000000):gL s=some (jg s):=by
 unfold gL jg
 have hc:((Option.bind (fH s) fun a=>(bif a then some true else (Option.bind (eJ s) fun c=>some (c != 0)))):Option Bool)=some (fV s || !mN s):=by
  rw [empty_eq,aA,s7 s h,aA]
  cases fV s <;> cases mN s <;> rfl
 rw [hc,aA]
 by_cases hb:fV s=true∨mN s=false
 ·rw [if_pos hb]
  have:(fV s || !mN s)=true:=by
   rcases hb with hb | hb <;> simp [hb]
  rw [this,cond_true]
  rfl
 ·rw [if_neg hb]
  have hne:fV s=false:=by cases he:fV s with | true=>exact absurd (.inl he) hb | false=>rfl
  have hm:mN s=true:=by cases he:mN s with | false=>exact absurd (.inr he) hb | true=>rfl
  rw [hne,hm]
  show Option.bind (cQ ⟨[]⟩ [s.k,s.w,s.h,s.x,s.y]) _=_
  have hpl:=xA s h
  have htl:=h.tl
  have hph:(qj s).length=([s.k,s.w,s.h,s.x,s.y].flatMap cD).length+((cD s.title.size++sbs s.title).length+(([s.len,s.chain].flatMap cD).length+(gP s.begun).length)):=by
   unfold qj
   rw [List.length_append,List.length_append,List.length_append]
   omega
  have hts:(cD s.title.size++sbs s.title).length=(cD s.title.size).length+s.title.size:=by rw [List.length_append,bL]
  have hbs: ∀ b∈gP s.begun,0≤b∧b < 256:=by
   intro b hb
   unfold gP at hb
   rcases List.mem_append.1 hb with hb | hb
   ·exact oE _ b hb
   ·obtain ⟨g,_,hg⟩:=List.mem_flatMap.1 hb
    unfold pL at hg
    obtain ⟨x,_,hx⟩:=List.mem_flatMap.1 hg
    exact oE _ b hx
  rw [mv _ _ (by simp),aA,List.nil_append,zu _ _ (by omega),aA,mv _ _ (by rw [List.length_append]; simp only [List.length_cons,List.length_nil]; omega),aA,wq _ h.bl h.gl,aA,s8 _ _ (by rw [lu,List.length_append,List.length_append]; omega),aA,mw _ hbs]
  have hhead:[s.k,s.w,s.h,s.x,s.y].flatMap cD++(cD s.title.size++sbs s.title)++[s.len,s.chain].flatMap cD++gP s.begun=qj s:=rfl
  rw [hhead]
  refine iP (fun i=>((⟨qj s++(s.rows.take i).flatMap eT⟩:cE),(i:Int))) s.rows.length (⟨kj s⟩:cE) (by simp) ?_ ?_ rfl
  ·intro i hi
   have hro:=h.ro _ (List.getElem_mem hi)
   have hl1:=yp s.rows (i+1)
   rw [List.take_succ_eq_append_getElem hi,List.flatMap_append,List.flatMap_singleton,List.length_append] at hl1
   have hrl:=h.rl
   have hbr: ∀ b∈eT s.rows[i],0≤b∧b < 256:=by
    intro b hb
    unfold eT at hb
    rcases List.mem_append.1 hb with hb | hb
    ·exact oE _ b hb
    ·obtain ⟨g,_,hg⟩:=List.mem_flatMap.1 hb
     unfold gO at hg
     obtain ⟨x,_,hx⟩:=List.mem_flatMap.1 hg
     exact oE _ b hx
   dsimp only
   rw [decide_eq_true (by omega),cond_true,dO _ _ hi,aA,wo _ hro.2 hro.1,aA,s8 _ _ (by rw [lu,List.length_append]; omega),aA,mw _ hbr,w64 (by omega) (by omega),List.take_succ_eq_append_getElem hi,List.flatMap_append,List.flatMap_singleton,List.append_assoc]
   rfl
  ·have hrl:=h.rl
   dsimp only
   rw [decide_eq_false (by omega),cond_false,List.take_length]
   rfl
end Go.Tw.X
set_option linter.unusedVariables false
set_option linter.unusedSimpArgs false
namespace Go.Tw.X
open Go Go.Tw
def DL (j:aU) (n:Int):ByteArray×aU:=if j.e≠0 then (noS,j) else if n > j.s.size then (noS,⟨noS,2⟩) else (lE j.s 0 n,⟨lE j.s n j.s.size,0⟩)
def sB (i:aU):ByteArray×aU:=DL (rdS i).2 (rdS i).1
theorem Ci:lE noS 0 0=noS:=by
 apply ve
 have:=k5 noS 0 0
 exact this
theorem JU (j:aU) (n:Int) (h:VI j) (h0:0≤n) (he:j.e≠0→n=0):mb j n=some (DL j n):=by
 obtain ⟨s,e⟩:=j
 unfold mb DL
 have hm:imax 0 n=n:=by rw [iL]; omega
 have hsz:=h.1
 rw [hm]
 dsimp only at *
 by_cases hz:e=0
 ·subst hz
  rw [if_neg (by simp)]
  by_cases hb:n > s.size
  ·rw [decide_eq_true hb,cond_true,if_pos hb,oF _ _ (by decide),aA]
   rfl
  ·rw [decide_eq_false hb,cond_false,if_neg hb,bY (by omega) (by omega) (by omega),aA,bY (by omega) (by omega) (by omega),aA]
 ·obtain rfl:=he hz
  obtain rfl:s=noS:=h.2.resolve_left hz
  rw [if_pos hz,decide_eq_false (by decide),cond_false,bY (by decide) (by decide) (by decide),aA,bY (by decide) (by decide) (by decide),aA]
  have h2:lE noS 0 (noS.size:Int)=noS:=Ci
  rw [Ci,h2]
theorem Cj (i:aU) (h:VI i):iR i=some (sB i):=by
 unfold iR sB
 rw [ku i h,aA,JU _ _ (ik h) (qh h).1 (fun he=>A7 he),aA]
theorem wu {i:aU} (h:VI i):VI (sB i).2:=by
 unfold sB DL
 have hV:=ik h
 split
 ·exact hV
 ·split
  ·exact ⟨by show noS.size≤1000000; decide,.inr rfl⟩
  ·refine ⟨?_,.inl rfl⟩
   have hr:=qh h
   obtain ⟨n,hn⟩:=Int.eq_ofNat_of_zero_le hr.1
   show (lE (rdS i).2.s (rdS i).1 (rdS i).2.s.size).size≤1000000
   rw [hn,← bL,k5,List.length_drop,List.length_take,bL]
   have:=hV.1
   omega
theorem JV {i:aU} (h:VI i) (he:(sB i).2.e=0):i.e=0∧sbs i.s=cD (sB i).1.size++sbs (sB i).1++sbs (sB i).2.s:=by
 unfold sB DL at *
 by_cases h1:(rdS i).2.e=0
 ·rw [if_neg (by simpa using h1)] at he ⊢
  by_cases h2:(rdS i).1 > (rdS i).2.s.size
  ·rw [if_pos h2] at he
   exact absurd he (by decide)
  ·rw [if_neg h2] at he ⊢
   obtain ⟨e0,w,hw,hm,hb⟩:=zl h1 h
   refine ⟨e0,?_⟩
   rw [hw] at h2 ⊢
   have hs1:sbs (lE (rdS i).2.s 0 (w:Int))=(sbs (rdS i).2.s).take w:=by
    have:=k5 (rdS i).2.s 0 w
    simpa using this
   have hs2:sbs (lE (rdS i).2.s (w:Int) (rdS i).2.s.size)=(sbs (rdS i).2.s).drop w:=by
    rw [k5]
    congr 1
    exact List.take_of_length_le (by rw [bL]; exact Nat.le_refl _)
   have hsz:(lE (rdS i).2.s 0 (w:Int)).size=w:=by
    rw [← bL,hs1,List.length_take,bL]
    omega
   dsimp only
   rw [hsz,hs1,hs2,k6 hm,List.append_assoc,List.take_append_drop]
   exact hb
 ·rw [if_pos h1] at he
  exact absurd he h1
def bkL:Nat→aU→List aN→List aN×aU
 | 0,i,l=>(l,i)
 | k+1,i,l=>bkL k (dA (dA i 1114111).2 647).2 (l++[⟨(dA i 1114111).1,(dA (dA i 1114111).2 647).1⟩])
def bkS (i:aU):List aN×aU:=if (bkL (dA i 1024).1.toNat (dA i 1024).2 []).2.e=0 then bkL (dA i 1024).1.toNat (dA i 1024).2 [] else ([],(bkL (dA i 1024).1.toNat (dA i 1024).2 []).2)
theorem Ba: ∀ (k:Nat) (i:aU) (l:List aN),VI i→VI (bkL k i l).2
 | 0,i,l,h=>h
 | k+1,i,l,h=>Ba k _ _ (gm _ (gm _ h))
theorem wv {i:aU} (h:VI i):VI (bkS i).2:=by
 unfold bkS
 split
 ·exact Ba _ _ _ (gm _ h)
 ·exact Ba _ _ _ (gm _ h)
theorem Ck: ∀ (k:Nat) (i:aU) (l:List aN),i.e≠0→(bkL k i l).2=i
 | 0,i,l,h=>rfl
 | k+1,i,l,h=>by
  unfold bkL
  have h1:=zm h 1114111 (by omega)
  have h2:=zm (i:=(dA i 1114111).2) (by rw [h1]; exact h) 647 (by omega)
  rw [Ck k _ _ (by rw [h2,h1]; exact h),h2,h1]
theorem zv (i:aU) (h:VI i):kf i=some (bkS i):=by
 unfold kf
 rw [ym h (by omega),aA]
 have hr:=jj (m:=1024) h (by omega)
 have hV:=gm 1024 h
 unfold bkS
 generalize (dA i 1024).2=j at hV
 obtain ⟨N,hN⟩:=Int.eq_ofNat_of_zero_le hr.1
 rw [hN] at hr ⊢
 rw [Int.toNat_natCast]
 have key: ∀ (k n:Nat) (j:aU) (l:List aN),n+k=N→VI j→l.length=n→iter (σ:=aU×(List aN)×Int) (ρ:=(List aN)×aU) (fun a=>(bif (decide (a.2.2 < (N:Int))) then (Option.bind (gv a.1 1114111) fun b=>(Option.bind (gv b.2 647) fun c=>(Option.bind (chk (eL a.2.1.length [(aN.mk (IntKind.i32.wrap b.1) c.1)].length 16)) fun _=>some (.inl (c.2,(a.2.1++[(aN.mk (IntKind.i32.wrap b.1) c.1)]),(IntKind.i64.wrap (a.2.2+1))))))) else some (.inr (a.2.1,a.1)))) (j,l,(n:Int))=some (bkL k j l):=by
  intro k
  induction k with
  | zero =>
   intro n j l hn hV hl
   refine cJ ?_
   dsimp only
   rw [decide_eq_false (by omega),cond_false]
   rfl
  | succ k ih =>
   intro n j l hn hV hl
   have hA:=jj (m:=1114111) hV (by omega)
   have hw:IntKind.i32.wrap (dA j 1114111).1=(dA j 1114111).1:=by rw [IntKind.wrap_i32]; omega
   rw [cY (s':=((dA (dA j 1114111).2 647).2,l++[⟨(dA j 1114111).1,(dA (dA j 1114111).2 647).1⟩],((n+1:Nat):Int)))]
   ·rw [ih (n+1) _ _ (by omega) (gm _ (gm _ hV)) (by simp [hl])]
    rfl
   ·dsimp only
    rw [decide_eq_true (by omega),cond_true,ym hV (by omega),aA,ym (gm _ hV) (by omega),aA,hw,bR (by simp; omega),aA,w64 (by omega) (by omega)]
    rfl
 have:=key N 0 j [] (by omega) hV rfl
 rw [show ((0:Nat):Int)=0 from rfl] at this
 rw [this,aA]
 unfold cM
 rw [aA]
 by_cases he:(bkL N j []).2.e=0
 ·have hb:((bkL N j []).2.e != 0)=false:=by simpa using he
  rw [hb,cond_false,if_pos he]
 ·have hb:((bkL N j []).2.e != 0)=true:=by simpa using he
  rw [hb,cond_true,if_neg he]
end Go.Tw.X
set_option linter.unusedVariables false
set_option linter.unusedSimpArgs false
namespace Go.Tw.X
open Go Go.Tw
def rwL:Nat→Int→aU→List aE→List aE×aU
 | 0,_,i,l=>(l,i)
 | k+1,w,i,l=>if i.e=0 then rwL k w (kT i w).2 (l++[(kT i w).1]) else (l,i)
theorem Cl (k:Nat) (w:Int) (i:aU) (l:List aE) (h:i.e≠0):rwL k w i l=(l,i):=by
 cases k with
 | zero=>rfl
 | succ k=>unfold rwL; rw [if_neg h]
def kc (x:aM) (l:List aE):aM:=⟨x.k,x.w,x.h,x.x,x.y,x.title,l,x.len,x.chain,x.begun⟩
theorem Fs (x:aM) (N:Nat) (hN:N≤1000) (hx:x.rows=[]) (hw:x.w≤1000) (i:aU) (h:VI i) :
  iter (σ:=aM×aU×Int) (ρ:=aM×aU) (fun a=>(bif (decide (a.2.2 < (N:Int))) then (Option.bind ((Option.bind (cM a.2.1) fun d=>(bif (d == 0) then (Option.bind (fO a.2.1 a.1.w) fun b=>(Option.bind (chk (eL a.1.rows.length [b.1].length 32)) fun _=>some ((aM.mk a.1.k a.1.w a.1.h a.1.x a.1.y a.1.title (a.1.rows++[b.1]) a.1.len a.1.chain a.1.begun),b.2))) else some (a.1,a.2.1))):Option (aM×aU)) fun c=>some (.inl (c.1,c.2,(IntKind.i64.wrap (a.2.2+1))))) else some (.inr (a.1,a.2.1)))) (x,i,0)=some (kc x (rwL N x.w i []).1,(rwL N x.w i []).2):=by
 have key: ∀ (k n:Nat) (j:aU) (l:List aE) (f:aM×aU×Int→Option ((aM×aU×Int) ⊕ (aM×aU))),f=(fun a=>(bif (decide (a.2.2 < (N:Int))) then (Option.bind ((Option.bind (cM a.2.1) fun d=>(bif (d == 0) then (Option.bind (fO a.2.1 a.1.w) fun b=>(Option.bind (chk (eL a.1.rows.length [b.1].length 32)) fun _=>some ((aM.mk a.1.k a.1.w a.1.h a.1.x a.1.y a.1.title (a.1.rows++[b.1]) a.1.len a.1.chain a.1.begun),b.2))) else some (a.1,a.2.1))):Option (aM×aU)) fun c=>some (.inl (c.1,c.2,(IntKind.i64.wrap (a.2.2+1))))) else some (.inr (a.1,a.2.1))))→n+k=N→VI j→l.length≤n→iter f (kc x l,j,(n:Int))=some (kc x (rwL k x.w j l).1,(rwL k x.w j l).2):=by
  intro k
  induction k with
  | zero =>
   intro n j l f hf hn hV hl
   refine cJ ?_
   subst hf
   dsimp only
   rw [decide_eq_false (by omega),cond_false]
   rfl
  | succ k ih =>
   intro n j l f hf hn hV hl
   by_cases he:j.e=0
   ·rw [cY (s':=(kc x (l++[(kT j x.w).1]),(kT j x.w).2,((n+1:Nat):Int)))]
    ·rw [ih (n+1) _ _ f hf (by omega) (s6 hV) (by simp; omega)]
     have:rwL (k+1) x.w j l=rwL k x.w (kT j x.w).2 (l++[(kT j x.w).1]):=by
      conv=>lhs; unfold rwL
      rw [if_pos he]
     rw [this]
    ·subst hf
     dsimp only
     rw [decide_eq_true (by omega),cond_true]
     have h1:cM j=some j.e:=rfl
     have h2:(j.e == 0)=true:=by simpa using he
     rw [h1,aA,h2,cond_true]
     have h3:fO j (kc x l).w=some (kT j x.w):=wk j x.w hV hw
     rw [h3,aA,bR (by simp [kc]; omega),aA,aA,w64 (by omega) (by omega)]
     rfl
   ·rw [cY (s':=(kc x l,j,((n+1:Nat):Int)))]
    ·rw [ih (n+1) _ _ f hf (by omega) hV (by omega),Cl _ _ _ _ he,Cl _ _ _ _ he]
    ·subst hf
     dsimp only
     rw [decide_eq_true (by omega),cond_true]
     have h1:cM j=some j.e:=rfl
     have h2:(j.e == 0)=false:=by simpa using he
     rw [h1,aA,h2,cond_false,aA,w64 (by omega) (by omega)]
     rfl
 have:=key N 0 i [] _ rfl (by omega) h (Nat.le_refl _)
 have hx':kc x []=x:=by
  obtain ⟨⟩:=x
  dsimp only at hx
  subst hx
  rfl
 rw [hx'] at this
 exact this
end Go.Tw.X
set_option linter.unusedVariables false
set_option linter.unusedSimpArgs false
namespace Go.Tw.X
open Go Go.Tw
def mA:aM:=⟨0,0,0,0,0,noS,[],0,0,[]⟩
def pj (i:aU):Int:=if i.s≠noS then 1 else i.e
theorem Ft (i:aU):lf i=some (pj i):=by
 unfold lf pj
 have:(i.s.toList == (ByteArray.mk #[]).toList)=decide (i.s=noS):=qS i.s noS
 rw [this]
 by_cases h:i.s=noS
 ·rw [decide_eq_true h,if_neg (fun hh=>hh h)]; rfl
 ·rw [decide_eq_false h,if_pos h]; rfl
def hA (s:ByteArray):=rdS ⟨s,0⟩
def hB (s:ByteArray):=dA (hA s).2 1000
def hC (s:ByteArray):=dA (hB s).2 1000
def hD (s:ByteArray):=rdS (hC s).2
def hE (s:ByteArray):=rdS (hD s).2
def hT (s:ByteArray):=sB (hE s).2
def hF (s:ByteArray):=rdS (hT s).2
def hG (s:ByteArray):=rdS (hF s).2
def hK (s:ByteArray):=bkS (hG s).2
def hS (s:ByteArray):aM:=⟨(hA s).1,(hB s).1,(hC s).1,(hD s).1,(hE s).1,(hT s).1,[],(hF s).1,(hG s).1,(hK s).1⟩
def hR (s:ByteArray):List aE×aU:=rwL (hC s).1.toNat (hB s).1 (hK s).2 []
def hX (s:ByteArray):aM:=kc (hS s) (hR s).1
def yu (s:ByteArray):aM×Int:=if s=noS then (mA,0) else if pj (hR s).2≠0 then (mA,pj (hR s).2) else if fV (hX s) || !mN (hX s) then (mA,1) else (hX s,0)
def SZ (m:Nat) (i:aU):Prop:=VI i∧i.s.size≤m
theorem uO {i:aU} {m:Nat} (h:SZ m i):SZ m (rdS i).2:=by
 refine ⟨ik h.1,?_⟩
 by_cases he:(rdS i).2.e=0
 ·obtain ⟨-,w, -, -,hw⟩:=zl he h.1
  have:=congrArg List.length hw
  rw [List.length_append,bL,bL] at this
  have:=h.2
  omega
 ·rcases (ik h.1).2 with h1 | h1
  ·exact absurd h1 he
  ·rw [h1]; exact Nat.zero_le _
theorem Fu {i:aU} {m:Nat} (k:Int) (h:SZ m i):SZ m (dA i k).2:=by
 unfold dA
 split
 ·exact ⟨so,Nat.zero_le _⟩
 ·exact uO h
theorem Bb: ∀ (k:Nat) (i:aU) (l:List aN),VI i→(∀ g∈l,rok g.rune)→(∀ g∈(bkL k i l).1,rok g.rune)∧(bkL k i l).1.length=l.length+k
 | 0,i,l,h,hl=>⟨hl,rfl⟩
 | k+1,i,l,h,hl=>by
  unfold bkL
  have:=Bb k (dA (dA i 1114111).2 647).2 (l++[⟨(dA i 1114111).1,(dA (dA i 1114111).2 647).1⟩]) (gm _ (gm _ h)) (by
   intro g hg
   rcases List.mem_append.1 hg with h1 | h1
   ·exact hl g h1
   ·rw [List.mem_singleton.1 h1]
    have:=jj (m:=1114111) h (by omega)
    unfold rok
    dsimp only
    omega)
  refine ⟨this.1,this.2.trans ?_⟩
  simp only [List.length_append,List.length_cons,List.length_nil]
  omega
theorem JW {i:aU} (h:VI i):(∀ g∈(bkS i).1,rok g.rune)∧(bkS i).1.length≤1024:=by
 unfold bkS
 have hr:=jj (m:=1024) h (by omega)
 have:=Bb (dA i 1024).1.toNat (dA i 1024).2 [] (gm _ h) (by intro g hg; cases hg)
 split
 ·refine ⟨this.1,?_⟩
  rw [this.2]
  simp only [List.length_nil]
  omega
 ·exact ⟨fun g hg=>(by cases hg),Nat.zero_le _⟩
theorem DM (s:ByteArray) (h:s.size≤1000000) (SWx:SW (hX s)):lq s=some (yu s):=by
 have v0:VI (⟨s,0⟩:aU):=⟨h,.inl rfl⟩
 have v1:VI (hA s).2:=ik v0
 have v2:VI (hB s).2:=gm _ v1
 have v3:VI (hC s).2:=gm _ v2
 have v4:VI (hD s).2:=ik v3
 have v5:VI (hE s).2:=ik v4
 have v6:VI (hT s).2:=wu v5
 have v7:VI (hF s).2:=ik v6
 have v8:VI (hG s).2:=ik v7
 have v9:VI (hK s).2:=wv v8
 have b1:=jj (m:=1000) v1 (by omega)
 have c1:=jj (m:=1000) v2 (by omega)
 have hw:(hB s).1≤1000:=b1.2
 have hc:0≤(hC s).1∧(hC s).1≤1000:=c1
 obtain ⟨N,hN⟩:=Int.eq_ofNat_of_zero_le hc.1
 unfold lq yu
 have hs:(s.toList == (ByteArray.mk #[]).toList)=decide (s=noS):=qS s noS
 rw [hs]
 by_cases h0:s=noS
 ·rw [decide_eq_true h0,if_pos h0]
  rfl
 rw [decide_eq_false h0,if_neg h0,cond_false]
 have e0:ow s=some ⟨s,0⟩:=rfl
 have e1:bH ⟨s,0⟩=some (hA s):=ku _ v0
 have e2:kg (hA s).2=some (hB s):=size_eq v1
 have e3:kg (hB s).2=some (hC s):=size_eq v2
 have e4:bH (hC s).2=some (hD s):=ku _ v3
 have e5:bH (hD s).2=some (hE s):=ku _ v4
 have e6:iR (hE s).2=some (hT s):=Cj _ v5
 have e7:bH (hT s).2=some (hF s):=ku _ v6
 have e8:bH (hF s).2=some (hG s):=ku _ v7
 have e9:kf (hG s).2=some (hK s):=zv _ v8
 rw [e0,aA,e1,aA,e2,aA,e3,aA,e4,aA,e5,aA,e6,aA,e7,aA,e8,aA,e9,aA]
 have hrw:=Fs (hS s) N (by omega) rfl hw (hK s).2 v9
 rw [hN]
 have hX':hX s=kc (hS s) (rwL N (hS s).w (hK s).2 []).1:=by
  unfold hX hR
  rw [hN,Int.toNat_natCast]
  rfl
 have hR':hR s=rwL N (hS s).w (hK s).2 []:=by
  unfold hR
  rw [hN,Int.toNat_natCast]
  rfl
 rw [← hX',← hR'] at hrw
 have hS':hS s=aM.mk (hA s).1 (hB s).1 ((N:Nat):Int) (hD s).1 (hE s).1 (hT s).1 ([]:List aE) (hF s).1 (hG s).1 (hK s).1:=by
  unfold hS
  rw [hN]
 rw [hS'] at hrw
 rw [hrw,aA]
 dsimp only
 rw [Ft,aA]
 by_cases he:pj (hR s).2=0
 ·rw [if_neg (fun hh=>hh he),he]
  have k1:((0:Int) == 0)=true:=rfl
  rw [k1,cond_true,empty_eq,aA,s7 _ SWx]
  cases fV (hX s) <;> cases mN (hX s) <;> rfl
 ·have k1:(pj (hR s).2 == 0)=false:=by simpa using he
  have k2:(pj (hR s).2 != 0)=true:=by simpa using he
  rw [if_pos he,k1,cond_false,aA]
  dsimp only
  rw [cond_false,aA,k2,cond_true]
  rfl
end Go.Tw.X
set_option linter.unusedVariables false
set_option linter.unusedSimpArgs false
namespace Go.Tw.X
open Go Go.Tw
theorem DN {α:Type} [DecidableEq α] (a b:List α) (hl:a.length=b.length) (f:Int→Option (Int ⊕ (Unit ⊕ Bool))) (hf: ∀ (n:Nat) (h1:n < a.length) (h2:n < b.length),f (n:Int)=if a[n]=b[n] then some (.inl ((n+1:Nat):Int)) else some (.inr (.inr false))) (he:f (a.length:Int)=some (.inr (.inl ()))):iter f 0=some (if a=b then .inl () else .inr false):=by
 obtain ⟨r,h1,h2⟩:=sU (f:=f) (fun i:Int=> ∃ n:Nat,i=n∧n≤a.length∧a.take n=b.take n) (fun i=>(a.length - i).toNat) (fun r=>r=(if a=b then .inl () else .inr false)) (by
  rintro i ⟨n,rfl,hn,ht⟩
  by_cases h1:n < a.length
  ·have h2:n < b.length:=by omega
   by_cases he:a[n]=b[n]
   ·refine .inl ⟨((n+1:Nat):Int),?_,⟨n+1,rfl,by omega,?_⟩,by (try dsimp only); omega⟩
    ·rw [hf n h1 h2,if_pos he]
    ·rw [List.take_succ_eq_append_getElem h1,List.take_succ_eq_append_getElem h2,ht,he]
   ·refine .inr ⟨.inr false,?_,?_⟩
    ·rw [hf n h1 h2,if_neg he]
    ·rw [if_neg]
     intro hab
     subst hab
     exact he rfl
  ·refine .inr ⟨.inl (),?_,?_⟩
   ·have hn2:n=a.length:=by omega
    rw [hn2,he]
   ·rw [if_pos]
    have hn2:n=a.length:=by omega
    subst hn2
    rw [List.take_length] at ht
    rw [ht,hl,List.take_length]) 0 ⟨0,rfl,by omega,rfl⟩
 rw [h1,h2]
theorem DO (a b:List aN) (ha:a.length≤1000000):fM a b=some (decide (a=b)):=by
 unfold fM
 by_cases hl:a.length=b.length
 ·have e0:((a.length:Int) != (b.length:Int))=false:=by simp [hl]
  rw [e0,cond_false,DN a b hl]
  ·by_cases h:a=b
   ·rw [if_pos h,decide_eq_true h]; rfl
   ·rw [if_neg h,decide_eq_false h]; rfl
  ·intro n h1 h2
   try dsimp only
   rw [decide_eq_true (by omega),cond_true,dO a n h1,aA,dO b n h2,aA,w64 (by omega) (by omega)]
   generalize a[n]=x
   generalize b[n]=y
   obtain ⟨x1,x2⟩:=x
   obtain ⟨y1,y2⟩:=y
   by_cases g1:x1=y1 <;> by_cases g2:x2=y2 <;> simp [g1,g2,kO]
   ·have k:(x2 == y2)=false:=by simpa using g2
    simp [k]
   ·have k:(x1 == y1)=false:=by simpa using g1
    simp [k]
   ·have k:(x1 == y1)=false:=by simpa using g1
    simp [k]
  ·try dsimp only
   rw [decide_eq_false (by omega),cond_false]
 ·have e0:((a.length:Int) != (b.length:Int))=true:=by simp; omega
  rw [e0,cond_true,decide_eq_false (fun h=>hl (by rw [h]))]
theorem Fv (s t:aM):decide (s=t)=((s.k == t.k) && ((s.w == t.w) && ((s.h == t.h) && ((s.x == t.x) && ((s.y == t.y) && ((s.title.toList == t.title.toList) && ((s.len == t.len) && ((s.chain == t.chain) && (decide (s.rows=t.rows) && decide (s.begun=t.begun)))))))))):=by
 rw [qS]
 obtain ⟨a1,a2,a3,a4,a5,a6,a7,a8,a9,a10⟩:=s
 obtain ⟨b1,b2,b3,b4,b5,b6,b7,b8,b9,b10⟩:=t
 rw [Bool.eq_iff_iff]
 simp only [decide_eq_true_eq,Bool.and_eq_true,beq_iff_eq,aM.mk.injEq]
 constructor
 ·rintro ⟨h1,h2,h3,h4,h5,h6,h7,h8,h9,h10⟩
  exact ⟨h1,h2,h3,h4,h5,h6,h8,h9,h7,h10⟩
 ·rintro ⟨h1,h2,h3,h4,h5,h6,h8,h9,h7,h10⟩
  exact ⟨h1,h2,h3,h4,h5,h6,h7,h8,h9,h10⟩
theorem Fw (s t:aM) (h:SW s):gj s t=some (decide (s=t)):=by
 unfold gj
 rw [Fb _ _ (by have:=h.rl; omega) (fun r hr=>by have:=(h.ro r hr).2; omega),aA,DO _ _ (by have:=h.bl; omega),aA,Fv]
 simp only [zr,aA]
theorem DP (s:aM) (h:SW s):jC s=some s:=by
 unfold jC
 have hl:=h.rl
 refine iP (fun i=>(s.rows.take i,(i:Int))) s.rows.length s.rows rfl ?_ ?_ ?_
 ·intro i hi
  dsimp only
  have hr:=(h.ro _ (List.getElem_mem hi)).2
  rw [decide_eq_true (by omega),cond_true,dO _ _ hi,aA,vS _ (by omega),aA,bR (by simp; omega),aA,w64 (by omega) (by omega),List.take_succ_eq_append_getElem hi]
  rfl
 ·dsimp only
  rw [decide_eq_false (by omega),cond_false,List.take_length]
 ·have hb:=h.bl
  unfold cC
  rw [bR (by simp; omega),aA,aA]
  rfl
end Go.Tw.X
set_option linter.unusedVariables false
set_option linter.unusedSimpArgs false
namespace Go.Tw.X
open Go Go.Tw
def BB (l:List Int):Prop:= ∀ b∈l,0≤b∧b < 256
theorem dP {a b:List Int} (h:BB a) (h2:BB b):BB (a++b):=by
 intro x hx
 rcases List.mem_append.1 hx with h' | h'
 ·exact h x h'
 ·exact h2 x h'
theorem Fy:BB []:=fun x hx=>by cases hx
theorem fW (n:Int):BB (cD n):=oE _
theorem qk (s:ByteArray):BB (sbs s):=kE s
theorem kv {α:Type} {l:List α} {f:α→List Int} (h: ∀ a∈l,BB (f a)):BB (l.flatMap f):=by
 intro x hx
 obtain ⟨a,ha,hx⟩:=List.mem_flatMap.1 hx
 exact h a ha x hx
theorem Bc (p:Nat×aG):BB (gO p):=kv fun a _=>fW a
theorem wx (r:aE):BB (eT r):=dP (fW _) (kv fun a _=>Bc a)
theorem Fz (g:aN):BB (pL g):=kv fun a _=>fW a
def bI (l:List Int):aU:=⟨fR l,0⟩
theorem Bd {n:Int} (h0:0≤n) (h1:n≤4611686018427387904):cD n=kr n.toNat∧n.toNat≤most∧((n.toNat:Nat):Int)=n:=by
 have:((n.toNat:Nat):Int)=n:=by omega
 refine ⟨?_,by unfold most; omega,this⟩
 conv=>lhs; rw [← this]
 exact k6 (by unfold most; omega)
theorem sC {n:Int} {R:List Int} (hR:BB R) (h0:0≤n) (h1:n≤4611686018427387904):rdS (bI (cD n++R))=(n,bI R):=by
 obtain ⟨e,m,q⟩:=Bd h0 h1
 have:=JS (fR (cD n++R)) n.toNat R m (by rw [mw _ (dP (fW _) hR),e])
 rw [q] at this
 exact this
theorem pE {n m:Int} {R:List Int} (hR:BB R) (h0:0≤n) (h1:n≤4611686018427387904) (hm:n≤m):dA (bI (cD n++R)) m=(n,bI R):=by
 unfold dA
 rw [sC hR h0 h1,if_neg (by dsimp only; omega)]
theorem IZ (t:ByteArray) {R:List Int} (hR:BB R) (ht:t.size≤1000):sB (bI (cD t.size++sbs t++R))=(t,bI R):=by
 unfold sB
 rw [List.append_assoc,sC (dP (qk t) hR) (by omega) (by omega)]
 have hb:sbs (fR (sbs t++R))=sbs t++R:=mw _ (dP (qk t) hR)
 have hsz:(fR (sbs t++R)).size=t.size+R.length:=by rw [← bL,hb,List.length_append,bL]
 unfold DL bI
 dsimp only
 rw [if_neg (by simp),if_neg (by rw [hsz]; omega)]
 have h1:lE (fR (sbs t++R)) 0 (t.size:Int)=t:=by
  apply ve
  have:=k5 (fR (sbs t++R)) 0 t.size
  rw [hb] at this
  refine Eq.trans this ?_
  have e:t.size=(sbs t).length:=(bL t).symm
  rw [e,List.take_left,List.drop_zero]
 have h2:lE (fR (sbs t++R)) (t.size:Int) ((fR (sbs t++R)).size:Int)=fR R:=by
  apply ve
  rw [k5,hb,mw _ hR,hsz,List.take_of_length_le (by rw [List.length_append,bL]; exact Nat.le_refl _)]
  have e:t.size=(sbs t).length:=(bL t).symm
  rw [e,List.drop_left]
 rw [h1,h2]
theorem Cm {r s:Int}:okG r s=true↔(0≤r∧r≤1114111)∧0≤s∧s≤647:=by
 unfold okG
 simp only [Bool.and_eq_true,decide_eq_true_eq,ge_iff_le]
theorem HJ {c:aG}:okC c=true↔((0≤c.rune∧c.rune≤1114111)∧0≤c.aP∧c.aP≤647)∧0≤c.part∧c.part≤3:=by
 unfold okC
 rw [Bool.and_eq_true,Cm]
 simp only [Bool.and_eq_true,decide_eq_true_eq,ge_iff_le]
theorem I3: ∀ (l acc:List aN) {R:List Int},BB R→(∀ g∈l,okG g.rune g.aP=true)→bkL l.length (bI (l.flatMap pL++R)) acc=(acc++l,bI R)
 | [],acc,R,hR,h=>by
  rw [List.append_nil]
  rfl
 | g::l,acc,R,hR,h=>by
  have hg:=Cm.1 (h g List.mem_cons_self)
  have hT:BB (l.flatMap pL++R):=dP (kv fun a _=>Fz a) hR
  have e:(g::l).flatMap pL++R=cD g.rune++(cD g.aP++(l.flatMap pL++R)):=by
   unfold pL
   simp only [List.flatMap_cons,List.flatMap_nil,List.append_nil,List.append_assoc]
  rw [e]
  show bkL (l.length+1) _ _=_
  unfold bkL
  rw [pE (dP (fW _) hT) hg.1.1 (by omega) hg.1.2]
  dsimp only
  rw [pE hT hg.2.1 (by omega) hg.2.2]
  dsimp only
  rw [I3 l _ hR (fun x hx=>h x (List.mem_cons_of_mem _ hx)),List.append_assoc]
  rfl
theorem I4 (l:List aN) {R:List Int} (hR:BB R) (h: ∀ g∈l,okG g.rune g.aP=true) (hl:l.length≤1024):bkS (bI (gP l++R))=(l,bI R):=by
 have hT:BB (l.flatMap pL++R):=dP (kv fun a _=>Fz a) hR
 have e:gP l++R=cD l.length++(l.flatMap pL++R):=by
  unfold gP
  rw [List.append_assoc]
 unfold bkS
 rw [e,pE hT (by omega) (by omega) (by omega)]
 dsimp only
 rw [Int.toNat_natCast,I3 l [] hR h]
 rfl
theorem KO {n:Nat} {c:aG} {left:Int} {R:List Int} (hR:BB R) (h1:1≤n) (h2:(n:Int)≤left) (h3:n≤1000) (hc:okC c=true) :
  dA (bI (gO (n,c)++R)) left=((n:Int),bI (cD c.rune++(cD c.aP++(cD c.part++R))))∧(mM (bI (gO (n,c)++R)) left).2=bI R∧jO (bI (gO (n,c)++R)) left=c:=by
 have hk:=HJ.1 hc
 have e:gO (n,c)++R=cD n++(cD c.rune++(cD c.aP++(cD c.part++R))):=by
  unfold gO
  simp only [List.flatMap_cons,List.flatMap_nil,List.append_nil,List.append_assoc]
 have t1:=dP (fW c.part) hR
 have t2:=dP (fW c.aP) t1
 have t3:=dP (fW c.rune) t2
 rw [e]
 have q0:=pE (m:=left) t3 (n:=(n:Int)) (by omega) (by omega) h2
 have q1:pg (bI (cD n++(cD c.rune++(cD c.aP++(cD c.part++R))))) left=bI (cD c.rune++(cD c.aP++(cD c.part++R))):=by
  unfold pg
  rw [q0,if_neg (by dsimp only; omega)]
 have q2:ry (bI (cD n++(cD c.rune++(cD c.aP++(cD c.part++R))))) left=(c.rune,bI (cD c.aP++(cD c.part++R))):=by
  unfold ry
  rw [q1,pE t2 (by omega) (by omega) (by omega)]
 have q3:sq (bI (cD n++(cD c.rune++(cD c.aP++(cD c.part++R))))) left=(c.aP,bI (cD c.part++R)):=by
  unfold sq
  rw [q2]
  exact pE t1 (by omega) (by omega) (by omega)
 have q4:mM (bI (cD n++(cD c.rune++(cD c.aP++(cD c.part++R))))) left=(c.part,bI R):=by
  unfold mM
  rw [q3]
  exact pE hR (by omega) (by omega) (by omega)
 refine ⟨q0,by rw [q4],?_⟩
 unfold jO
 rw [q2,q3,q4]
theorem wy (c:aG): ∀ r:List aG,List.replicate (more c r) c++r.drop (more c r)=r
 | []=>rfl
 | d::r=>by
  unfold more
  by_cases h:d=c
  ·rw [if_pos h,List.replicate_succ,List.drop_succ_cons,List.cons_append,wy c r,h]
  ·rw [if_neg h]
   rfl
theorem KP: ∀ (k:Nat) (w:Int) (cells acc:List aG) {R:List Int},BB R→w≤1000→(∀ c∈cells,okC c=true)→((acc.length+cells.length:Nat):Int)=w→cells.length < k→(∀ c,cells.head?=some c→acc.getLast?≠some c) →
  rrS k w (bI ((jM cells).flatMap gO++R)) acc=(acc++cells,bI R):=by
 intro k
 induction k with
 | zero=>intro w cells acc R _ _ _ _ hk; omega
 | succ k ih =>
  intro w cells acc R hR hw hok hl hk hd
  unfold rrS
  cases cells with
  | nil =>
   rw [if_neg (by simp at hl; omega),List.append_nil]
   rfl
  | cons c r =>
   rw [List.length_cons] at hl hk
   have hm:=yo c r
   rw [sr,List.flatMap_cons,List.append_assoc]
   have hT:BB ((jM (r.drop (more c r))).flatMap gO++R):=dP (kv fun a _=>Bc a) hR
   obtain ⟨q1,q2,q3⟩:=KO (n:=more c r+1) (c:=c) (left:=w - acc.length) hT (by omega) (by omega) (by omega) (hok c List.mem_cons_self)
   have e0:(bI ((jM (r.drop (more c r))).flatMap gO++R)).e=0:=rfl
   have e1:(acc.length:Int) < w∧(bI (gO (more c r+1,c)++((jM (r.drop (more c r))).flatMap gO++R))).e=0:=⟨by omega,rfl⟩
   rw [if_pos e1,q1,q2,q3,if_pos e0,if_neg (hd c rfl)]
   dsimp only
   rw [Int.toNat_natCast,ih w (r.drop (more c r)) (acc++List.replicate (more c r+1) c) hR hw (fun x hx=>hok x (List.mem_cons_of_mem _ (List.mem_of_mem_drop hx))) (by simp only [List.length_append,List.length_replicate,List.length_drop]; omega) (by rw [List.length_drop]; omega) ?_]
   ·rw [List.append_assoc,List.replicate_succ,List.cons_append,wy]
   ·intro d hd2 hl2
    rw [List.getLast?_append,List.getLast?_replicate] at hl2
    simp at hl2
    subst hl2
    rw [List.head?_drop] at hd2
    by_cases hlt:more c r < r.length
    ·exact ud c r hlt hd2
    ·rw [List.getElem?_eq_none (by omega)] at hd2
     cases hd2
theorem FA (r:aE) (w:Int) {R:List Int} (hR:BB R) (hw:w≤1000) (hl:(r.cells.length:Int)=w) (hok: ∀ c∈r.cells,okC c=true):kT (bI (eT r++R)) w=(r,bI R):=by
 have hT:BB ((jM r.cells).flatMap gO++R):=dP (kv fun a _=>Bc a) hR
 unfold kT eT
 rw [List.append_assoc,pE hT (by split <;> omega) (by split <;> omega) (by split <;> omega)]
 dsimp only
 rw [KP (w.toNat+1) w r.cells [] hR hw hok (by simpa using hl) (by omega) (fun c _ h=>by cases h)]
 have e0:(bI R).e=0:=rfl
 rw [if_pos e0]
 obtain ⟨a,b⟩:=r
 cases b <;> rfl
theorem I5: ∀ (l acc:List aE) (w:Int) {R:List Int},BB R→w≤1000→(∀ r∈l,(r.cells.length:Int)=w ∧ ∀ c∈r.cells,okC c=true)→rwL l.length w (bI (l.flatMap eT++R)) acc=(acc++l,bI R)
 | [],acc,w,R,hR,hw,h=>by
  rw [List.append_nil]
  rfl
 | r::l,acc,w,R,hR,hw,h=>by
  have hr:=h r List.mem_cons_self
  have hT:BB (l.flatMap eT++R):=dP (kv fun a _=>wx a) hR
  rw [List.flatMap_cons,List.append_assoc]
  show rwL (l.length+1) _ _ _=_
  unfold rwL
  have e0:(bI (eT r++(l.flatMap eT++R))).e=0:=rfl
  rw [if_pos e0,FA r w hT hw hr.1 hr.2]
  dsimp only
  rw [I5 l _ w hR hw (fun x hx=>h x (List.mem_cons_of_mem _ hx)),List.append_assoc]
  rfl
end Go.Tw.X
set_option linter.unusedVariables false
set_option linter.unusedSimpArgs false
namespace Go.Tw.X
open Go Go.Tw
theorem Cn (n:Nat):kr n≠[]:=by
 rw [kr]
 split <;> simp
theorem Co:pj (bI [])=0:=by
 unfold pj bI
 rw [Fk,if_neg (fun h=>h rfl)]
theorem FB (s:aM):BB (qj s):=by
 unfold qj gP
 exact dP (dP (dP (kv fun a _=>fW a) (dP (fW _) (qk _))) (kv fun a _=>fW a)) (dP (fW _) (kv fun a _=>Fz a))
theorem Cp (l:List aE):BB (l.flatMap eT):=kv fun a _=>wx a
theorem Cq (s:aM):BB (kj s):=dP (FB s) (Cp _)
structure May (s:aM):Prop where
 k:1≤s.k∧s.k≤1152921504606846976
 w:1≤s.w∧s.w≤1000
 h:1≤s.h∧s.h≤1000
 x:0≤s.x∧s.x≤s.w - 1
 y:0≤s.y∧s.y≤s.h - 1
 r:(s.rows.length:Int)=s.h
 t:s.title.size≤200
 l:0≤s.len∧s.len≤1152921504606846976
 c:0≤s.chain∧s.chain≤281474976710656
 b:s.begun.length≤1024
 g: ∀ g∈s.begun,okG g.rune g.aP=true
 rr: ∀ r∈s.rows,(r.cells.length:Int)=s.w ∧ ∀ c∈r.cells,okC c=true
theorem JX {n lo hi:Int}:wi n lo hi=true↔lo≤n∧n≤hi:=by
 unfold wi
 simp only [Bool.and_eq_true,decide_eq_true_eq,ge_iff_le]
theorem Cr {s:aM} (he:fV s=false):mN s=true↔May s:=by
 unfold mN su
 rw [he,Bool.false_or]
 simp only [Bool.and_eq_true,JX,beq_iff_eq,decide_eq_true_eq,List.all_eq_true,qi]
 constructor
 ·rintro ⟨⟨k,w,h,x,y,r,t,l,c,b⟩,g,rr⟩
  exact ⟨k,w,h,x,y,r,by omega,l,c,by omega,g,rr⟩
 ·rintro ⟨k,w,h,x,y,r,t,l,c,b,g,rr⟩
  exact ⟨⟨k,w,h,x,y,r,by omega,l,c,by omega⟩,g,rr⟩
theorem zw {s:aM} (he:fV s=false) (hm:mN s=true):yu (fR (kj s))=(s,0)∧hX (fR (kj s))=s:=by
 have M:=(Cr he).1 hm
 have aK:=M.k
 have aW:=M.w
 have aH:=M.h
 have aX:=M.x
 have aY:=M.y
 have aL:=M.l
 have aC:=M.c
 have B0:=Cp s.rows
 have B1:BB (gP s.begun++s.rows.flatMap eT):=dP (dP (fW _) (kv fun a _=>Fz a)) B0
 have B2:=dP (fW s.chain) B1
 have B3:=dP (fW s.len) B2
 have B4:BB (cD s.title.size++sbs s.title++(cD s.len++(cD s.chain++(gP s.begun++s.rows.flatMap eT)))):=dP (dP (fW _) (qk _)) B3
 have B5:=dP (fW s.y) B4
 have B6:=dP (fW s.x) B5
 have B7:=dP (fW s.h) B6
 have B8:=dP (fW s.w) B7
 have e:kj s=cD s.k++(cD s.w++(cD s.h++(cD s.x++(cD s.y++(cD s.title.size++sbs s.title++(cD s.len++(cD s.chain++(gP s.begun++s.rows.flatMap eT)))))))):=by
  unfold kj qj
  simp only [List.flatMap_cons,List.flatMap_nil,List.append_nil,List.append_assoc]
 have qA:hA (fR (kj s))=(s.k,bI (cD s.w++(cD s.h++(cD s.x++(cD s.y++(cD s.title.size++sbs s.title++(cD s.len++(cD s.chain++(gP s.begun++s.rows.flatMap eT))))))))):=by
  show rdS (bI (kj s))=_
  rw [e]
  exact sC B8 (by omega) (by omega)
 have qB:hB (fR (kj s))=(s.w,bI (cD s.h++(cD s.x++(cD s.y++(cD s.title.size++sbs s.title++(cD s.len++(cD s.chain++(gP s.begun++s.rows.flatMap eT)))))))):=by
  unfold hB
  rw [qA]
  exact pE B7 (by omega) (by omega) (by omega)
 have qC:hC (fR (kj s))=(s.h,bI (cD s.x++(cD s.y++(cD s.title.size++sbs s.title++(cD s.len++(cD s.chain++(gP s.begun++s.rows.flatMap eT))))))):=by
  unfold hC
  rw [qB]
  exact pE B6 (by omega) (by omega) (by omega)
 have qD:hD (fR (kj s))=(s.x,bI (cD s.y++(cD s.title.size++sbs s.title++(cD s.len++(cD s.chain++(gP s.begun++s.rows.flatMap eT)))))):=by
  unfold hD
  rw [qC]
  exact sC B5 (by omega) (by omega)
 have qE:hE (fR (kj s))=(s.y,bI (cD s.title.size++sbs s.title++(cD s.len++(cD s.chain++(gP s.begun++s.rows.flatMap eT))))):=by
  unfold hE
  rw [qD]
  exact sC B4 (by omega) (by omega)
 have qT:hT (fR (kj s))=(s.title,bI (cD s.len++(cD s.chain++(gP s.begun++s.rows.flatMap eT)))):=by
  unfold hT
  rw [qE]
  exact IZ s.title B3 (by have:=M.t; omega)
 have qF:hF (fR (kj s))=(s.len,bI (cD s.chain++(gP s.begun++s.rows.flatMap eT))):=by
  unfold hF
  rw [qT]
  exact sC B2 (by omega) (by omega)
 have qG:hG (fR (kj s))=(s.chain,bI (gP s.begun++s.rows.flatMap eT)):=by
  unfold hG
  rw [qF]
  exact sC B1 (by omega) (by omega)
 have qK:hK (fR (kj s))=(s.begun,bI (s.rows.flatMap eT)):=by
  unfold hK
  rw [qG]
  exact I4 s.begun B0 M.g M.b
 have qR:hR (fR (kj s))=(s.rows,bI []):=by
  unfold hR
  rw [qK,qC,qB]
  dsimp only
  rw [← M.r,Int.toNat_natCast]
  have:=I5 s.rows [] s.w Fy (by omega) M.rr
  rw [List.append_nil] at this
  exact this
 have qX:hX (fR (kj s))=s:=by
  unfold hX kc hS
  rw [qR,qK,qG,qF,qT,qE,qD,qC,qB,qA]
 refine ⟨?_,qX⟩
 unfold yu
 have hne:fR (kj s)≠noS:=by
  intro h
  have h2:sbs (fR (kj s))=[]:=by rw [h]; rfl
  rw [mw _ (Cq s),e] at h2
  have h3:=(List.append_eq_nil_iff.1 h2).1
  exact Cn _ h3
 rw [if_neg hne,qR,qX]
 dsimp only
 rw [Co,if_neg (fun h=>h rfl),he,hm]
 rfl
theorem I6: ∀ (k:Nat) (i:aU) (l:List aN),(bkL k i l).2.e=0→i.e=0
 | k,i,l,h=>by
  by_cases he:i.e=0
  ·exact he
  ·rw [Ck _ _ _ he] at h
   exact h
theorem xB: ∀ (k:Nat) (i:aU) (l:List aN),VI i→(bkL k i l).2.e=0 → ∃ D,(bkL k i l).1.flatMap pL=l.flatMap pL++D∧sbs i.s=D++sbs (bkL k i l).2.s
 | 0,i,l,h,he=>⟨[],by simp [bkL],by simp [bkL]⟩
 | k+1,i,l,h,he=>by
  unfold bkL at he ⊢
  have v1:=gm 1114111 h
  have v2:=gm 647 v1
  obtain ⟨D,d1,d2⟩:=xB k _ _ v2 he
  obtain ⟨h1,c2,q2,_,m2,b2⟩:=lB (I6 _ _ _ he) v1
  obtain ⟨_,c1,q1,_,m1,b1⟩:=lB h1 h
  refine ⟨kr c1++kr c2++D,?_,?_⟩
  ·rw [d1,List.flatMap_append,List.flatMap_singleton,List.append_assoc]
   congr 2
   unfold pL
   simp only [List.flatMap_cons,List.flatMap_nil,List.append_nil,q1,q2,k6 m1,k6 m2]
  ·rw [b1,b2,d2]
   simp only [List.append_assoc]
theorem DQ {i:aU} (h:VI i) (he:(bkS i).2.e=0):i.e=0∧sbs i.s=gP (bkS i).1++sbs (bkS i).2.s:=by
 unfold bkS at he ⊢
 by_cases h0:(bkL (dA i 1024).1.toNat (dA i 1024).2 []).2.e=0
 ·rw [if_pos h0]
  have v1:=gm 1024 h
  obtain ⟨D,d1,d2⟩:=xB _ _ _ v1 h0
  obtain ⟨e0,c,q,_,m,b⟩:=lB (I6 _ _ _ h0) h
  refine ⟨e0,?_⟩
  have hl:=(Bb (dA i 1024).1.toNat (dA i 1024).2 [] v1 (by intro g hg; cases hg)).2
  unfold gP
  rw [hl,d1,b,d2,q,Int.toNat_natCast]
  simp only [List.length_nil,Nat.zero_add,List.flatMap_nil,List.nil_append,k6 m,List.append_assoc]
 ·rw [if_neg h0] at he
  exact absurd he h0
end Go.Tw.X
set_option linter.unusedVariables false
set_option linter.unusedSimpArgs false
namespace Go.Tw.X
open Go Go.Tw
theorem FC:SW mA:=⟨by decide,by decide,fun g hg=>(by cases hg),fun r hr=>(by cases hr),by decide,by decide,by show noS.size≤1000; decide⟩
end Go.Tw.X
set_option linter.unusedVariables false
set_option linter.unusedSimpArgs false
namespace Go.Tw.X
open Go Go.Tw
theorem FD (r:aE):(eT r).length≤9+36*r.cells.length:=by
 unfold eT
 rw [List.length_append]
 have h1:=dW (if r.wrapped then 1 else 0)
 have h2:=zp (jM r.cells)
 have h3:=xy r.cells
 omega
theorem xC (m:Nat): ∀ l:List aE,(∀ r∈l,r.cells.length≤m)→(l.flatMap eT).length≤l.length*(9+36*m)
 | [],_=>by simp
 | r::l,h=>by
  have h1:=xC m l (fun x hx=>h x (List.mem_cons_of_mem _ hx))
  have h2:=FD r
  have h3:=h r List.mem_cons_self
  rw [List.flatMap_cons,List.length_append,List.length_cons,Nat.succ_mul]
  omega
theorem DR {s:aM}:fV s=true↔s=mA:=by
 unfold fV
 rw [qS]
 obtain ⟨a1,a2,a3,a4,a5,a6,a7,a8,a9,a10⟩:=s
 simp only [Bool.and_eq_true,beq_iff_eq,decide_eq_true_eq,mA,aM.mk.injEq]
 constructor
 ·rintro ⟨h1,h2,h3,h4,h5,h6,h7,h8,h9,h10⟩
  exact ⟨h1,h2,h3,h4,h5,h6,List.eq_nil_of_length_eq_zero (by omega),h8,h9,List.eq_nil_of_length_eq_zero (by omega)⟩
 ·rintro ⟨h1,h2,h3,h4,h5,h6,h7,h8,h9,h10⟩
  exact ⟨h1,h2,h3,h4,h5,h6,by rw [h7]; rfl,h8,h9,by rw [h10]; rfl⟩
theorem FE (s:aM):fR (kj s)≠noS:=by
 intro h
 have h2:sbs (fR (kj s))=[]:=by rw [h]; rfl
 rw [mw _ (Cq s)] at h2
 unfold kj qj at h2
 simp only [List.append_eq_nil_iff,List.flatMap_cons] at h2
 exact Cn _ h2.1.1.1.1.1
end Go.Tw.X
set_option linter.unusedVariables false
set_option linter.unusedSimpArgs false
namespace Go.Tw.X
open Go Go.Tw
def u2 (a:Nat):Nat:=(a >>> 1) ^^^ (if a % 2=1 then 3988292384 else 0)
def ue (a:Nat):Nat:=u2 (u2 (u2 (u2 a)))
theorem wz {a b:Nat} (ha:a < 4294967296) (hb:b < 4294967296):a ^^^ b < 4294967296:=Nat.xor_lt_two_pow (n:=32) ha hb
theorem vg {a:Nat} (h:a < 4294967296):u2 a < 4294967296:=by
 unfold u2
 have:a >>> 1 < 4294967296:=by rw [Nat.shiftRight_eq_div_pow]; omega
 exact wz this (by split <;> omega)
theorem HK (a b:Nat):(a ^^^ b) % 2=(a % 2+b % 2) % 2:=by
 have h:=Nat.testBit_xor a b 0
 rw [Nat.testBit_zero,Nat.testBit_zero,Nat.testBit_zero] at h
 have ha:a % 2=0∨a % 2=1:=by omega
 have hb:b % 2=0∨b % 2=1:=by omega
 have hc:(a ^^^ b) % 2=0∨(a ^^^ b) % 2=1:=by omega
 rcases ha with ha | ha <;> rcases hb with hb | hb <;> rcases hc with hc | hc <;> rw [ha,hb,hc] at h <;> first | (exact absurd h (by decide)) | (rw [ha,hb,hc])
theorem s9 (a b:Nat):u2 (a ^^^ b)=u2 a ^^^ u2 b:=by
 unfold u2
 rw [Nat.shiftRight_xor_distrib,HK]
 have ha:a % 2=0∨a % 2=1:=by omega
 have hb:b % 2=0∨b % 2=1:=by omega
 generalize a >>> 1=x
 generalize b >>> 1=y
 rcases ha with ha | ha <;> rcases hb with hb | hb <;> rw [ha,hb]
 ·simp
 ·simp [Nat.xor_assoc]
 ·simp only [Nat.zero_add,Nat.add_zero]
  simp
  rw [Nat.xor_assoc,Nat.xor_assoc,Nat.xor_comm y]
 ·simp
  have:x ^^^ 3988292384 ^^^ (y ^^^ 3988292384)=x ^^^ y ^^^ (3988292384 ^^^ 3988292384):=by
   rw [Nat.xor_assoc,Nat.xor_assoc,← Nat.xor_assoc 3988292384 y,Nat.xor_comm 3988292384 y,Nat.xor_assoc]
  rw [this,Nat.xor_self,Nat.xor_zero]
theorem FF (a b:Nat):ue (a ^^^ b)=ue a ^^^ ue b:=by
 unfold ue
 rw [s9,s9,s9,s9]
theorem qY (k:Nat):u2 (2*k)=k:=by
 unfold u2
 rw [if_neg (by omega),Nat.xor_zero,Nat.shiftRight_eq_div_pow]
 omega
theorem HL (k:Nat):ue (16*k)=k:=by
 unfold ue
 rw [show 16*k=2*(2*(2*(2*k))) by omega,qY,qY,qY,qY]
theorem xD (x:Nat):ue x=(x / 16) ^^^ ue (x % 16):=by
 have h:x=(16*(x / 16)) ^^^ (x % 16):=by
  have h1:16*(x / 16)+x % 16=x:=Nat.div_add_mod x 16
  have h2:(16*(x / 16)) ^^^ (x % 16)=16*(x / 16)+x % 16:=by
   have h3:2 ^ 4*(x / 16)+x % 16=(2 ^ 4*(x / 16)) ||| (x % 16):=Nat.two_pow_add_eq_or_of_lt (by omega) _
   apply Nat.eq_of_testBit_eq
   intro i
   have h4:(16*(x / 16)+x % 16)=(2 ^ 4*(x / 16)) ||| (x % 16):=h3
   rw [h4,Nat.testBit_xor,Nat.testBit_or]
   show ((2 ^ 4*(x / 16)).testBit i ^^ (x % 16).testBit i)=_
   rw [Nat.testBit_two_pow_mul]
   by_cases hi:i≥4
   ·have:(x % 16).testBit i=false:=by
     apply Nat.testBit_lt_two_pow
     have:2 ^ 4≤2 ^ i:=Nat.pow_le_pow_right (by omega) hi
     omega
    rw [this]
    simp
   ·simp [hi]
  rw [h2,h1]
 conv=>lhs; rw [h]
 rw [FF,HL]
theorem Cs: ∀ n:Nat,n < 16→idx eE (n:Int)=some ((ue n:Nat):Int):=by decide
theorem JY {x:Int} (h0:0≤x) (h1:x < 4294967296):IntKind.u32.wrap x=x:=by
 unfold IntKind.wrap
 simp [IntKind.signed,IntKind.bits]
 omega
theorem Ct {a b:Nat} (ha:a < 4294967296) (hb:b < 4294967296):Go.bits .xor .u32 (a:Int) (b:Int)=((a ^^^ b:Nat):Int):=by
 show IntKind.u32.wrap ((BitVec.ofInt 32 (a:Int) ^^^ BitVec.ofInt 32 (b:Int)).toNat:Int)=_
 rw [BitVec.ofInt_natCast,BitVec.ofInt_natCast,BitVec.toNat_xor,BitVec.toNat_ofNat,BitVec.toNat_ofNat,Nat.mod_eq_of_lt ha,Nat.mod_eq_of_lt hb]
 have:=wz ha hb
 exact JY (by omega) (by omega)
theorem I7 {a:Nat} (ha:a < 4294967296):Go.bits .and .u32 (a:Int) 15=((a % 16:Nat):Int):=by
 show IntKind.u32.wrap ((BitVec.ofInt 32 (a:Int) &&& BitVec.ofInt 32 15).toNat:Int)=_
 rw [BitVec.ofInt_natCast,BitVec.toNat_and,BitVec.toNat_ofNat,Nat.mod_eq_of_lt ha]
 have h:(BitVec.ofInt 32 15).toNat=2 ^ 4 - 1:=by decide
 rw [h,Nat.and_two_pow_sub_one_eq_mod]
 exact JY (by omega) (by omega)
theorem I8 (a:Nat):((a:Int)).fdiv (2 ^ (min 4 32))=((a / 16:Nat):Int):=by
 rw [Int.fdiv_eq_ediv_of_nonneg _ (by decide)]
 rfl
def zx (x b:Nat):Nat:=ue (ue (x ^^^ b))
theorem ta {a:Nat} (h:a < 4294967296):ue a < 4294967296:=vg (vg (vg (vg h)))
theorem FG {x b:Nat} (h:x < 4294967296) (hb:b < 256):zx x b < 4294967296:=ta (ta (wz h (by omega)))
theorem step_eq {x b:Nat} (hx:x < 4294967296) (hb:b < 256):mI (x:Int) (b:Int)=some ((zx x b:Nat):Int):=by
 unfold mI zx
 rw [JY (by omega) (by omega),Ct hx (by omega)]
 have h1:=wz hx (show b < 4294967296 by omega)
 generalize x ^^^ b=y at h1
 rw [I7 h1,Cs _ (by omega),aA,I8,Ct (by omega) (ta (by omega)),← xD]
 have h2:=ta h1
 generalize ue y=z at h2
 rw [I7 h2,Cs _ (by omega),aA,I8,Ct (by omega) (ta (by omega)),← xD]
def w7 (l:List Int):Nat:=l.foldl (fun x b=>zx x b.toNat) 4294967295
theorem wA (l:List Int) (i:Nat) (h:i < l.length):w7 (l.take (i+1))=zx (w7 (l.take i)) (l[i]).toNat:=by
 unfold w7
 rw [List.take_succ_eq_append_getElem h,List.foldl_append]
 rfl
theorem Cu {l:List Int} (h:BB l): ∀ i,w7 (l.take i) < 4294967296:=by
 intro i
 induction i with
 | zero=>rw [List.take_zero]; decide
 | succ i ih =>
  by_cases hi:i < l.length
  ·rw [wA l i hi]
   have:=h _ (List.getElem_mem hi)
   exact FG ih (by omega)
  ·rw [List.take_of_length_le (by omega)]
   rw [List.take_of_length_le (by omega)] at ih
   exact ih
def nW (s:ByteArray):Nat:=4294967295 ^^^ w7 (sbs s)
theorem FH (s:ByteArray) (hs:s.size≤1000000):ox [s]=some ((nW s:Nat):Int):=by
 unfold ox
 have hL:=Cu (qk s)
 have hinner:iter (σ:=Int×Int) (ρ:=Int) (fun a=>(bif (decide (a.1 < (s.size:Int))) then (Option.bind (wX s a.1) fun b642=>(Option.bind (mI a.2 b642) fun b=>some (.inl ((IntKind.i64.wrap (a.1+1)),b)))) else some (.inr a.2))) (0,4294967295)=some ((w7 (sbs s):Nat):Int):=by
  refine B9 (fun i=>((i:Int),((w7 ((sbs s).take i):Nat):Int))) s.size _ ?_ ?_
  ·intro i hi
   have hi2:i < (sbs s).length:=by rw [bL]; exact hi
   have hb:=qk s _ (List.getElem_mem hi2)
   have hn:(sbs s)[i]=(((sbs s)[i].toNat:Nat):Int):=by omega
   dsimp only
   rw [decide_eq_true (by omega),cond_true,wc s i hi2,aA,wA _ _ hi2]
   conv=>lhs; rw [hn]
   rw [step_eq (hL i) (by omega),aA,w64 (by omega) (by omega)]
   rfl
  ·dsimp only
   rw [decide_eq_false (by omega),cond_false,List.take_of_length_le (by rw [bL]; exact Nat.le_refl _)]
 refine iP (fun i=>(if i=0 then (4294967295:Int) else ((w7 (sbs s):Nat):Int),(i:Int))) 1 ((w7 (sbs s):Nat):Int) rfl ?_ ?_ ?_
 ·intro i hi
  have:i=0:=by omega
  subst this
  have h1:idx [s] 0=some s:=rfl
  show (bif (decide ((0:Int) < 1)) then (Option.bind (idx [s] 0) fun c=>_) else _)=_
  rw [decide_eq_true (by omega),cond_true,h1,aA]
  show (Option.bind (iter _ (0,4294967295)) fun d=>_)=_
  rw [hinner,aA]
  rfl
 ·rfl
 ·have h:=hL (sbs s).length
  rw [List.take_length] at h
  show some (Go.bits .xor .u32 ((4294967295:Nat):Int) ((w7 (sbs s):Nat):Int))=_
  rw [Ct (by decide) h]
  rfl
end Go.Tw.X
set_option linter.unusedVariables false
set_option linter.unusedSimpArgs false
namespace Go.Tw.X
open Go Go.Tw
theorem wB {s:aM} (h:SW s) (hp:(s.rows.flatMap eT).length≤12000):(jg s).size≤60000:=by
 unfold jg
 split
 ·exact Nat.zero_le _
 ·have:=xA s h
  rw [lu]
  unfold kj
  rw [List.length_append]
  omega
end Go.Tw.X
set_option linter.unusedVariables false
set_option linter.unusedSimpArgs false
namespace Go.Tw.X
open Go Go.Tw
theorem yv (s:ByteArray):nW s < 4294967296:=by
 unfold nW
 have h:=Cu (qk s) (sbs s).length
 rw [List.take_length] at h
 exact wz (by decide) h
theorem vh (s:aM) (h:SW s) (hp:(s.rows.flatMap eT).length≤12000):eZ s=some ((nW (jg s):Nat):Int):=by
 unfold eZ
 have h1:=wB h hp
 have h2:=yv (jg s)
 rw [yq s h (by omega),aA,FH _ (by omega),aA,w64 (by omega) (by omega)]
end Go.Tw.X
set_option linter.unusedVariables false
set_option linter.unusedSimpArgs false
namespace Go.Tw.X
open Go Go.Tw
def okO {α:Type _} (x:Option α) (P:α→Prop):Prop:= ∃ r,x=some r∧P r
theorem fC {α:Type _} {P:α→Prop} {r:α} (h:P r):okO (some r) P:=⟨r,rfl,h⟩
theorem jP {α β:Type _} {P:α→Prop} {Q:β→Prop} {x:Option α} {f:α→Option β} (h:okO x P) (k: ∀ r,P r→okO (f r) Q):okO (Option.bind x f) Q:=by
 obtain ⟨r,rfl,hp⟩:=h
 exact k r hp
theorem JZ {α:Type _} {P:α→Prop} {b:Bool} {x y:Option α} (h1:b=true→okO x P) (h2:b=false→okO y P):okO (bif b then x else y) P:=by
 cases b
 ·exact h2 rfl
 ·exact h1 rfl
theorem td {α:Type _} {P:α→Prop} {p:Prop} [Decidable p] {x y:Option α} (h1:p→okO x P) (h2: ¬ p→okO y P):okO (bif decide p then x else y) P :=
 JZ (fun h=>h1 (of_decide_eq_true h)) (fun h=>h2 (of_decide_eq_false h))
theorem Be {lo hi n:Int} (h0:0≤lo) (h1:lo≤hi) (h2:hi≤n):okO (chk (dB lo hi n)) (fun _=>True):=⟨(),bY h0 h1 h2,trivial⟩
theorem qZ {σ ρ:Type} {f:σ→Option (σ ⊕ ρ)} {P:ρ→Prop} (Inv:σ→Prop) (m:σ→Nat) {s:σ} (h0:Inv s)
  (h: ∀ s,Inv s→okO (f s) fun | .inl s'=>Inv s'∧m s' < m s | .inr r=>P r):okO (iter f s) P:=by
 refine sU Inv m P (fun s hs=> ?_) s h0
 obtain ⟨z,e,hz⟩:=h s hs
 cases z with
 | inl s'=>exact .inl ⟨s',e,hz⟩
 | inr r=>exact .inr ⟨r,e,hz⟩
end Go.Tw.X
set_option linter.unusedVariables false
set_option linter.unusedSimpArgs false
set_option maxHeartbeats 1000000
namespace Go.Tw.X
open Go Go.Tw
theorem L3 {α:Type _} {x:Option α} {r:α} (h:okO x (fun y=>y=r)):x=some r:=by
 obtain ⟨y,e,rfl⟩:=h
 exact e
def chM:Int:=281474976710597
def tf (x:Int) (l:List aN):Int:=(x*65536 % chM+(nW (fR (gP l)):Nat)) % chM
def po (l:List (List aN)):Int:=l.foldl tf 0
theorem zy (x:Int) (l:List aN):0≤tf x l∧tf x l < chM:=⟨Int.emod_nonneg _ (by decide),Int.emod_lt_of_pos _ (by decide)⟩
theorem zz (l:List (List aN)) (g:List aN):po (l++[g])=tf (po l) g:=List.foldl_append ..
theorem zI: ∀ (l:List (List aN)) (x:Int),0≤x→x < chM→0≤l.foldl tf x∧l.foldl tf x < chM
 | [],x,h0,h1=>⟨h0,h1⟩
 | g::l,x,_,_=>zI l (tf x g) (zy x g).1 (zy x g).2
theorem xE (l:List (List aN)):0≤po l∧po l < chM:=zI l 0 (by decide) (by decide)
def yw (l:List aN):Prop:=l.length≤2000 ∧ ∀ g∈l,rok g.rune
theorem Bf {l:List aN} (h:l.length≤2000):(fR (gP l)).size≤1000000:=by
 have h1:=dW (l.length:Int)
 have h2:=qW l
 rw [lu]
 unfold gP
 rw [List.length_append]
 omega
theorem HM {x:Int} (h0:0≤x) (h1:x < chM) {l:List aN} (hl:yw l):mX x l=some (tf x l):=by
 unfold mX tf
 unfold chM at h1 ⊢
 have hs:=yv (fR (gP l))
 rw [wq l hl.1 hl.2,Option.bind_some,FH _ (Bf hl.1),Option.bind_some]
 generalize nW (fR (gP l))=m at hs
 rw [w64 (x:=x*256) (by omega) (by omega),Int.tmod_eq_emod_of_nonneg (a:=x*256) (by omega)]
 rw [w64 (x:=x*256 % 281474976710597*256) (by omega) (by omega),Int.tmod_eq_emod_of_nonneg (a:=x*256 % 281474976710597*256) (by omega)]
 rw [w64 (x:=((m:Nat):Int)) (by omega) (by omega),w64 (by omega) (by omega),Int.tmod_eq_emod_of_nonneg (a:=x*256 % 281474976710597*256 % 281474976710597+((m:Nat):Int)) (by omega)]
 congr 2
 omega
end Go.Tw.X
set_option linter.unusedVariables false
set_option linter.unusedSimpArgs false
set_option maxHeartbeats 1000000
namespace Go.Tw.X
open Go Go.Tw
def chs (l:List (List aN)):List Int:=(List.range (l.length+1)).map fun k=>po (l.take k)
theorem Cv (l:List (List aN)):(chs l).length=l.length+1:=by simp [chs]
theorem FI (l:List (List aN)) (g:List aN):chs (l++[g])=chs l++[po (l++[g])]:=by
 unfold chs
 rw [List.length_append,List.length_singleton,List.range_succ,List.map_append,List.map_singleton]
 congr 1
 ·refine List.map_congr_left fun k hk=> ?_
  have:=List.mem_range.1 hk
  rw [List.take_append_of_le_length (by omega)]
 ·rw [List.take_of_length_le (by simp)]
theorem Cw (l:List (List aN)) (k:Nat) (h:k≤l.length):idx (chs l) (k:Int)=some (po (l.take k)):=by
 rw [dO _ k (by rw [Cv]; omega)]
 simp [chs]
theorem uf (l:List aN) (h:l.length≤1000000):cC l=some l:=by
 unfold cC
 rw [bR (by simp; omega)]
 simp
theorem zJ {b:cG} (hc:b.bZ=chs b.l) (hn:b.l.length≤200000000) {g:List aN} (hg:yw g):fF b g=some ⟨b.l++[g],chs (b.l++[g]),b.begun⟩:=by
 unfold fF
 have hk:=xE b.l
 rw [uf _ (by have:=hg.1; omega),Option.bind_some,bR (by simp; omega),Option.bind_some,hc,Cv,w64 (by omega) (by omega)]
 rw [show ((b.l.length+1:Nat):Int) - 1=(b.l.length:Int) by omega,Cw _ _ (Nat.le_refl _),List.take_length,Option.bind_some,HM hk.1 hk.2 hg,Option.bind_some,bR (by simp; omega)]
 rw [FI,zz]
 rfl
def nf (g:List aN):List (List aN)×List aN :=
 if h:1024≤g.length then (g.take 1024::(nf (g.drop 1024)).1,(nf (g.drop 1024)).2) else ([],g)
termination_by g.length
decreasing_by all_goals (rw [List.length_drop]; omega)
theorem yx {g:List aN} (h:1024≤g.length):nf g=(g.take 1024::(nf (g.drop 1024)).1,(nf (g.drop 1024)).2):=by
 rw [nf,dif_pos h]
theorem vi {g:List aN} (h: ¬ 1024≤g.length):nf g=([],g):=by
 rw [nf,dif_neg h]
def ug (z:List (List aN)×List aN) (r:aE):List (List aN)×List aN :=
 let c:=nf (z.2++nF r)
 if r.wrapped then (z.1++c.1,c.2) else (z.1++c.1++[c.2],[])
def Bg (z:List (List aN)×List aN):xo:=⟨z.1.map (fun g=>g.map tg),z.2.map tg⟩
end Go.Tw.X

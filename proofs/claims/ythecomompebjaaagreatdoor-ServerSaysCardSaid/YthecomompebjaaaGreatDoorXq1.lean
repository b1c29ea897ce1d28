import Derived.Test.YthecomompebjaaaGreatDoorXp1
import Derived.Test.YthecomompebjaaaGreatDoorFw2
import Derived.Laws.BitsLemmas
import Derived.Laws.Strings
set_option linter.unusedVariables false
set_option linter.unusedSimpArgs false
namespace Go.Tw.X
open Go Go.Tw
def tc (c:aH):aU:=⟨c.rune,c.aO,c.part⟩
def told (r:aG):aX:=⟨r.cells.map tc,r.wrapped⟩
def Gi (r:List aH):Int:=match r with
 | []=>0
 | d::_=>d.part
def yf (p:Int) (c:aH) (r:List aH):Bool :=
 bif c.part == 1 then (Gi r != 2) else bif c.part == 2 then (p != 1) else bif c.part == 3 then !r.isEmpty else false
def u5 (p:Int) (c:aH) (r:List aH):aH:=bif yf p c r then ⟨32,c.aO,0⟩ else c
def iO:Int->List aH->List aH
 | _,[]=>[]
 | p,c::r=>u5 p c r::iO (u5 p c r).part r
theorem kJ: ∀ (l:List aH) (p:Int),(iO p l).length=l.length
 | [],_=>rfl
 | c::r,p=>by simp [iO,kJ r]
def mB (l:List aH):Int:=sR 0 (l.map (·.part))
theorem xd (l:List aH) (c:aH):mB (l++[c])=c.part:=by simp [mB,xc]
theorem u6 {α β:Type} (f:α->β) (d:α): ∀ l:List α,sR (f d) (l.map f)=f (sR d l)
 | []=>rfl
 | [x]=>rfl
 | _::y::l=>u6 f d (y::l)
theorem re (s:Int):ir s=some ⟨32,s,0⟩:=rfl
theorem ET (l r:List aH) (c:aH) (h:(l++c::r).length<=1000000):lI (l++c::r) (l.length:Int)=some (yf (mB l) c r):=by
 have hl:(l++c::r).length=l.length+r.length+1:=by simp; omega
 unfold lI
 rw [lG,aA]
 rw [w64 (x:=(l.length:Int)+1) (by omega) (by omega),w64 (x:=(l.length:Int) - 1) (by omega) (by omega),w64 (x:=((l++c::r).length:Int) - 1) (by omega) (by omega),An,hl]
 unfold yf
 cases h1:(c.part == 1) with
 | true =>
  simp only [cond_true]
  cases r with
  | nil=>simp [Gi]
  | cons d r =>
   have hd:decide ((l.length:Int)+1>=((l.length+(d::r).length+1:Nat):Int))=false:=decide_eq_false (by simp only [List.length_cons]; omega)
   rw [hd]
   simp [Gi]
 | false =>
  simp only [cond_false]
  cases h2:(c.part == 2) with
  | true =>
   simp only [cond_true]
   cases hl0:l with
   | nil=>simp [mB,sR]
   | cons a t =>
    have hne:(((a::t).length:Int) == 0)=false:=by simp; omega
    rw [hne,cond_false,Am (a::t) r ⟨0,0,0⟩ c (by simp)]
    simp only [aA]
    rw [mB,<- u6 (λc:aH=>c.part) ⟨0,0,0⟩]
  | false =>
   simp only [cond_false]
   cases h3:(c.part == 3) with
   | true =>
    simp only [cond_true]
    cases r with
    | nil=>simp
    | cons d r=>simp; omega
   | false=>rfl
theorem n8 (l:List aH) (h:l.length<=1000000):fz l=some ⟨iO 0 l,false⟩:=by
 unfold fz
 have key: ∀ (r d:List aH),(d++r).length=l.length->iter (σ:=(List aH)×Int) (ρ:=(List aH)) (λs=>(bif (decide (s.2 < (l.length:Int))) then (Option.bind ((Option.bind (lI s.1 s.2) λr1=>(bif r1 then (Option.bind (idx s.1 s.2) λx=>(Option.bind (ir x.aO) λr2=>(Option.bind (idx s.1 s.2) λ_=>some (s.1.set s.2.toNat r2)))) else some s.1)):Option (List aH)) λe=>some (.inl (e,(IntKind.i64.wrap (s.2+1))))) else some (.inr s.1))) (d++r,(d.length:Int))=some (d++iO (mB d) r):=by
  intro r
  induction r with
  | nil =>
   intro d hd
   simp at hd
   rw [cO (r:=d)]
   ·simp [iO]
   ·simp [hd]
  | cons c r ih =>
   intro d hd
   have hdl:d.length < l.length:=by rw [<- hd]; simp
   have hlen:(d++u5 (mB d) c r::r).length=l.length:=by rw [<- hd]; simp
   rw [eN (s':=((d++[u5 (mB d) c r])++r,((d++[u5 (mB d) c r]).length:Int)))]
   ·rw [ih (d++[u5 (mB d) c r]) (by simpa using hlen),xd]
    simp [iO]
   ·have hc:decide ((d.length:Int) < (l.length:Int))=true:=by simp; omega
    simp only [hc,cond_true]
    rw [ET d r c (by rw [hd]; exact h),lG]
    simp only [aA,re]
    rw [w64 (by omega) (by omega)]
    unfold u5
    cases yf (mB d) c r with
    | true=>simp
    | false=>simp
 have:=key l [] (by simp)
 simp only [List.nil_append,List.length_nil,Int.ofNat_zero] at this
 rw [this]
 rfl
theorem Gj (n:Int):IntKind.u64.wrap n=n % 18446744073709551616:=by simp [IntKind.wrap,IntKind.bits,IntKind.signed]
theorem IV (n:Int) (h0:0<=n) (h1:n < 2 ^ 63):IntKind.u64.wrap n=n:=by rw [Gj]; omega
theorem BT (y:Int) (h0:0<=y) (h1:y < 4294967296):Go.bits .and .u64 y 4294967295=y:=by
 have h:=bits_mask .u64 63 (by decide) IV 32 (by decide) y h0 (by omega)
 have e:((2:Int) ^ 32 - 1)=4294967295:=by decide
 have e2:((2:Int) ^ 32)=4294967296:=by decide
 rw [e,e2] at h
 rw [h]
 omega
theorem Gk {x:Int} (h0:0<=x) (h1:x < 18446744073709551616):IntKind.u64.wrap x=x:=by rw [Gj]; omega
theorem BU (n:Int) (h0:0<=n) (h1:n<=1000000):oq 1 n=some (0,n):=by
 have e32:(2:Int) ^ (min 32 64)=4294967296:=by decide
 have f1:Int.fdiv 1 4294967296=0:=by decide
 have f2:Int.fdiv n 4294967296=0:=by rw [Int.fdiv_eq_ediv_of_nonneg _ (by decide)]; omega
 have f0:Int.fdiv 0 4294967296=0:=by decide
 have z0:IntKind.u64.wrap 0=0:=by rw [Gj]; rfl
 have m0:Go.bits .and .u64 0 4294967295=0:=BT 0 (by omega) (by omega)
 have m1:Go.bits .and .u64 1 4294967295=1:=BT 1 (by omega) (by omega)
 have mn:=BT n h0 (by omega)
 have un:IntKind.u64.wrap n=n:=Gk h0 (by omega)
 unfold oq nZ
 simp only [e32,f1,f2,m1,mn,Int.zero_mul,Int.mul_zero,Int.one_mul,z0,un,f0,Int.add_zero,Int.zero_add,m0,aA]
theorem EU (c:aH) (n:Int) (h0:0<=n) (h1:n<=1000000):fR [c] n=some (List.replicate n.toNat c):=by
 unfold fR
 have hn:decide (n < 0)=false:=decide_eq_false (by omega)
 have u1:IntKind.u64.wrap (([c].length:Nat):Int)=1:=Gk (by simp) (by simp)
 rw [hn,cond_false,u1,Gk h0 (by omega),BU n h0 h1]
 simp only [aA]
 have g1:decide ((0:Int) > 0)=false:=by decide
 have g2:decide (n > 9223372036854775807)=false:=decide_eq_false (by omega)
 rw [g1,cond_false,aA,g2,cond_false,w64 (by omega) (by omega),yB h0 (by omega) (by omega),aA]
 obtain ⟨k,rfl⟩: ∃ k:Nat,n=k:=⟨n.toNat,by omega⟩
 simp only [Int.toNat_natCast,List.length_cons,List.length_nil,List.length_replicate]
 have key: ∀ m j,k - j=m->j<=k->(1<=j\/k=0)->iter (σ:=(List aH)×Int) (ρ:=(List aH)) (λa=>(bif (decide (a.2 < (a.1.length:Int))) then (Option.bind (chk (cZ a.2 (a.1.length:Int) a.1.length)) λ_=>(Option.bind (chk (cZ 0 a.2 a.1.length)) λ_=>some (.inl ((yb a.1 a.2.toNat),(IntKind.i64.wrap (a.2+((Nat.min a.2.toNat (a.1.length - a.2.toNat):Nat):Int))))))) else some (.inr a.1))) (List.replicate j c++List.replicate (k - j) (aH.mk 0 0 0),(j:Int))=some (List.replicate k c):=by
  intro m
  induction m using Nat.strongRecOn with
  | _ m ih =>
   intro j hm hj h1j
   have hlen:(List.replicate j c++List.replicate (k - j) (aH.mk 0 0 0)).length=k:=by simp; omega
   by_cases hjk:j < k
   ·have hmin:Nat.min j (k - j)=min j (k - j):=rfl
    rw [eN (s':=(List.replicate (j+min j (k - j)) c++List.replicate (k - (j+min j (k - j))) (aH.mk 0 0 0),((j+min j (k - j):Nat):Int)))]
    ·exact ih (k - (j+min j (k - j))) (by omega) _ rfl (by omega) (by omega)
    ·have hc:decide ((j:Int) < ((List.replicate j c++List.replicate (k - j) (aH.mk 0 0 0)).length:Int))=true:=by rw [hlen]; simp; omega
     simp only [hc,cond_true]
     rw [hlen,bQ (by omega) (by omega) (by omega),aA,bQ (by omega) (by omega) (by omega),aA,Int.toNat_natCast,hmin,w64 (by omega) (by omega)]
     congr 2
     refine Prod.ext ?_ ?_
     ·show yb _ _=_
      unfold yb
      rw [hlen]
      have t1:(List.replicate j c++List.replicate (k - j) (aH.mk 0 0 0)).take j=List.replicate j c:=by rw [List.take_left']; simp
      rw [t1,List.take_replicate,List.drop_append,List.drop_of_length_le (by simp),List.nil_append,List.length_replicate,List.drop_replicate,List.replicate_append_replicate,Nat.min_comm (k - j) j]
      congr 2
      omega
     ·show ((j:Int)+((min j (k - j):Nat):Int))=_
      omega
   ·have hjk':j=k:=by omega
    subst hjk'
    rw [cO (r:=List.replicate j c)]
    simp
 have hs:cpy (List.replicate k (aH.mk 0 0 0)) [c]=List.replicate (min 1 k) c++List.replicate (k - min 1 k) (aH.mk 0 0 0):=by
  unfold cpy
  cases k with
  | zero=>simp
  | succ k=>simp [Nat.min_eq_left]
 have hmin:Nat.min (0+1) k=min 1 k:=rfl
 rw [hs,hmin,key _ (min 1 k) rfl (by omega) (by omega),aA]
theorem rU (n s:Int) (h:n<=1000000):jL n s=some (List.replicate n.toNat ⟨32,s,0⟩):=by
 unfold jL
 rw [re,aA]
 rw [gy,EU _ (max 0 n) (by omega) (by omega),aA]
 have:(max 0 n).toNat=n.toNat:=by omega
 rw [this]
theorem rV (n lo hi:Int):kd n lo hi=some (max lo (min n hi)):=by
 unfold kd
 rw [gy,dN]
theorem xe (l:List aH) (h:l.length<=1000000):eJ l=some l:=by
 unfold eJ
 rw [bP (by simp; omega),aA]
 rfl
theorem pC (r:aG) (h:r.cells.length<=1000000):fE r=some r.cells:=by
 unfold fE
 rw [xe _ h,aA]
def dA (l:List aH) (at_ n:Int):Int:=if at_ < 0\/at_>=l.length then 0 else max 0 (min n (l.length - at_))
theorem yD (r:aG) (at_ n:Int) (h:r.cells.length<=1000000) (ha: -9223372036854775808<=at_) (hb:at_<=9223372036854775807):ji r at_ n=some (dA r.cells at_ n):=by
 unfold ji dA
 by_cases h1:at_ < 0
 ·rw [if_pos (.inl h1)]
  simp [h1]
 ·by_cases h2:at_>=r.cells.length
  ·rw [if_pos (.inr h2)]
   simp [h1,h2]
  ·rw [if_neg (by omega)]
   have e1:decide (at_ < 0)=false:=decide_eq_false h1
   have e2:decide (at_>=(r.cells.length:Int))=false:=decide_eq_false h2
   rw [e1,cond_false,e2,aA,cond_false,w64 (by omega) (by omega),rV,aA]
def sF (r:Int):List iq->Nat
 | []=>0
 | s::l=>if s.to < r then sF r l+1 else 0
def inS (l:List iq) (r:Int):Bool:=l.any λs=>decide (s.from_<=r/\r<=s.to)
def rising:List iq->Bool
 | []=>true
 | [s]=>true
 | s::t::l=>decide (s.to < t.from_/\t.from_<=t.to) && rising (t::l)
theorem zo (r:Int): ∀ l:List iq,sF r l<=l.length
 | []=>Nat.le_refl _
 | s::l=>by
  unfold sF
  have:=zo r l
  split <;> simp <;> omega
theorem vK {s:iq} {l:List iq} (h:rising (s::l)=true):rising l=true:=by
 cases l with
 | nil=>rfl
 | cons t l=>simp only [rising,Bool.and_eq_true] at h; exact h.2
theorem tv {s:iq}: ∀ {l:List iq},rising (s::l)=true -> ∀ t∈l,s.to < t.from_/\t.from_<=t.to
 | [],_,t,ht=>by cases ht
 | u::l,h,t,ht=>by
  simp only [rising,Bool.and_eq_true,decide_eq_true_eq] at h
  rcases List.mem_cons.1 ht with rfl | ht
  ·exact h.1
  ·have:=tv h.2 t ht
   have:=h.1
   omega
theorem Dm (r:Int): ∀ {l:List iq},rising l=true -> ∀ (i:Nat) (s:iq),l[i]?=some s->(s.to < r↔i < sF r l)
 | [],_,i,s,h=>by simp at h
 | u::l,hr,i,s,h=>by
  cases i with
  | zero =>
   simp at h
   subst h
   unfold sF
   split <;> simp [*]
  | succ i =>
   simp at h
   have ih:=Dm r (vK hr) i s h
   unfold sF
   split
   ·rw [ih]; omega
   ·have:=tv hr s (List.mem_of_getElem? h)
    constructor
    ·intro; omega
    ·intro; omega
theorem Dr (r:Int): ∀ {l:List iq},rising l=true->inS l r=(match l[sF r l]? with | some s=>decide (s.from_<=r) | none=>false)
 | [],_=>rfl
 | u::l,hr=>by
  have ih:=Dr r (vK hr)
  unfold inS at ih ⊢
  unfold sF
  by_cases hu:u.to < r
  ·rw [if_pos hu,List.any_cons,ih]
   have:decide (u.from_<=r/\r<=u.to)=false:=by simp; omega
   simp [this]
  ·rw [if_neg hu,List.any_cons]
   simp only [List.getElem?_cons_zero]
   by_cases hf:u.from_<=r
   ·have:decide (u.from_<=r/\r<=u.to)=true:=by simp; omega
    rw [this,Bool.true_or]
    simp [hf]
   ·have h1:decide (u.from_<=r/\r<=u.to)=false:=by simp; omega
    have h2:(l.any λs=>decide (s.from_<=r/\r<=s.to))=false:=by
     rw [List.any_eq_false]
     intro t ht
     have:=tv hr t ht
     simp
     omega
    rw [h1,h2]
    simp [hf]
theorem KC (l:List iq) (r:Int) (hr:rising l=true) (hl:l.length<=1000000):oe l r=some (inS l r):=by
 unfold oe
 have key: ∀ m lo hi,hi - lo=m->lo<=sF r l->sF r l<=hi->hi<=l.length->iter (σ:=Int×Int) (ρ:=Int) (λa=>(bif (decide (a.1 < a.2)) then (Option.bind (idx l (IntKind.i64.wrap ((IntKind.i64.wrap (a.1+a.2)).tdiv 2))) λb=>(bif (decide (b.to < r)) then some (.inl ((IntKind.i64.wrap ((IntKind.i64.wrap ((IntKind.i64.wrap (a.1+a.2)).tdiv 2))+1)),a.2)) else some (.inl (a.1,(IntKind.i64.wrap ((IntKind.i64.wrap (a.1+a.2)).tdiv 2)))))) else some (.inr a.1))) ((lo:Int),(hi:Int))=some ((sF r l:Nat):Int):=by
  intro m
  induction m using Nat.strongRecOn with
  | _ m ih =>
   intro lo hi hm h1 h2 h3
   by_cases hlt:lo < hi
   ·have e:(IntKind.i64.wrap ((IntKind.i64.wrap ((lo:Int)+(hi:Int))).tdiv 2))=(((lo+hi) / 2:Nat):Int):=by
     rw [w64 (x:=(lo:Int)+(hi:Int)) (by omega) (by omega)]
     have e1:((lo:Int)+(hi:Int)).tdiv 2=(((lo+hi) / 2:Nat):Int):=by
      rw [Int.tdiv_eq_ediv_of_nonneg (by omega)]
      omega
     rw [e1,w64 (by omega) (by omega)]
    have hmid:(lo+hi) / 2 < l.length:=by omega
    have hc:decide ((lo:Int) < (hi:Int))=true:=by simp; omega
    have hx:idx l (((lo+hi) / 2:Nat):Int)=some l[(lo+hi) / 2]:=by rw [fL]; simp [hmid]
    have hat:=Dm r hr ((lo+hi) / 2) l[(lo+hi) / 2] (by simp [hmid])
    by_cases hto:(l[(lo+hi) / 2]).to < r
    ·rw [eN (s':=((((lo+hi) / 2+1:Nat):Int),(hi:Int)))]
     ·have:=hat.1 hto
      exact ih (hi - ((lo+hi) / 2+1)) (by omega) _ _ rfl (by omega) h2 h3
     ·simp only [hc,cond_true,e,hx,aA,hto,decide_true]
      rw [w64 (by omega) (by omega)]
      rfl
    ·rw [eN (s':=((lo:Int),(((lo+hi) / 2:Nat):Int)))]
     ·have: ¬ (lo+hi) / 2 < sF r l:=λh=>hto (hat.2 h)
      exact ih ((lo+hi) / 2 - lo) (by omega) _ _ rfl h1 (by omega) (by omega)
     ·simp only [hc,cond_true,e,hx,aA,hto,decide_false,cond_false]
   ·have:lo=sF r l:=by omega
    rw [cO (r:=(lo:Int)),this]
    have hc:decide ((lo:Int) < (hi:Int))=false:=by simp; omega
    simp only [hc,cond_false]
 have h0:=key (l.length - 0) 0 l.length rfl (Nat.zero_le _) (zo r l) (Nat.le_refl _)
 have e0:((0:Nat):Int)=0:=rfl
 rw [e0] at h0
 rw [h0,aA,Dr r hr]
 have hle:=zo r l
 by_cases hlt:sF r l < l.length
 ·have hc:decide (((sF r l:Nat):Int) < (l.length:Int))=true:=by simp; omega
  rw [hc,cond_true,fL,List.getElem?_eq_getElem hlt]
  rfl
 ·have hc:decide (((sF r l:Nat):Int) < (l.length:Int))=false:=by simp; omega
  rw [hc,cond_false,List.getElem?_eq_none (by omega)]
  rfl
def ofS (r:Int):Int:=if inS cT r then 0 else if inS dD r then 2 else 1
theorem of_eq (r:Int):og r=some (ofS r):=by
 unfold og
 rw [KC cT r (by decide) (by decide),KC dD r (by decide) (by decide)]
 simp only [aA,ofS]
 cases inS cT r <;> cases inS dD r <;> rfl
theorem pD (r:Int):ofS r=0\/ofS r=1\/ofS r=2:=by
 unfold ofS
 split
 ·exact .inl rfl
 ·split
  ·exact .inr (.inr rfl)
  ·exact .inr (.inl rfl)
theorem IW (n:Int) (h0:0<=n) (h1:n<=1000000):gH n=some []:=by
 unfold gH
 have hn:decide (n < 0)=false:=decide_eq_false (by omega)
 have z:IntKind.i64.wrap (0 - 0)=0:=by decide
 rw [hn,cond_false,z,w64 (by omega) (by omega),Int.sub_zero]
 by_cases hp:n > 0
 ·have:decide (n > 0)=true:=decide_eq_true hp
  rw [this,cond_true,ER hp (by omega) (by omega),aA,bQ (by omega) (by omega) (by omega),aA]
  rfl
 ·have:decide (n > 0)=false:=decide_eq_false hp
  rw [this,cond_false]
  rfl
def total:List (List aH)->Nat
 | []=>0
 | x::r=>x.length+total r
theorem qi (a b:List (List aH)):total (a++b)=total a+total b:=by
 induction a with
 | nil=>simp [total]
 | cons x a ih=>simp only [List.cons_append,total,ih]; omega
theorem xf (a:List (List aH)):a.flatten.length=total a:=by
 induction a with
 | nil=>rfl
 | cons x a ih=>simp only [List.flatten_cons,List.length_append,total,ih]
theorem yE (ls:List (List aH)) (h:total ls<=1000000) (h2:ls.length<=1000000):eT ls=some ls.flatten:=by
 unfold eT
 have k1: ∀ (r d:List (List aH)),d++r=ls->iter (σ:=Int×Int) (ρ:=Int) (λa=>(bif (decide (a.1 < (ls.length:Int))) then (Option.bind (idx ls a.1) λc=>(bif (decide ((IntKind.i64.wrap (a.2+(c.length:Int))) < 0)) then none else some (.inl ((IntKind.i64.wrap (a.1+1)),(IntKind.i64.wrap (a.2+(c.length:Int))))))) else some (.inr a.2))) ((d.length:Int),(total d:Int))=some (total ls:Int):=by
  intro r
  induction r with
  | nil =>
   intro d hd
   simp at hd
   subst hd
   rw [cO (r:=(total d:Int))]
   simp
  | cons x r ih =>
   intro d hd
   have hl:ls.length=d.length+r.length+1:=by rw [<- hd]; simp; omega
   have ht:total ls=total d+(x.length+total r):=by rw [<- hd,qi]; rfl
   rw [eN (s':=(((d++[x]).length:Int),(total (d++[x]):Int)))]
   ·exact ih (d++[x]) (by simpa using hd)
   ·have hc:decide ((d.length:Int) < (ls.length:Int))=true:=by simp; omega
    have hx:idx ls (d.length:Int)=some x:=by rw [<- hd]; exact lG d r x
    simp only [hc,cond_true,hx,aA]
    rw [w64 (by omega) (by omega),w64 (by omega) (by omega)]
    have hp:decide ((total d:Int)+(x.length:Int) < 0)=false:=decide_eq_false (by omega)
    rw [hp,cond_false,qi]
    simp [total]
 have k2: ∀ (r d:List (List aH)),d++r=ls->iter (σ:=Int×(List aH)) (ρ:=(List aH)) (λb=>(bif (decide (b.1 < (ls.length:Int))) then (Option.bind (idx ls b.1) λe=>(Option.bind (chk (eY b.2.length e.length 24)) λ_=>some (.inl ((IntKind.i64.wrap (b.1+1)),(b.2++e))))) else some (.inr b.2))) ((d.length:Int),d.flatten)=some ls.flatten:=by
  intro r
  induction r with
  | nil =>
   intro d hd
   simp at hd
   subst hd
   rw [cO (r:=d.flatten)]
   simp
  | cons x r ih =>
   intro d hd
   have hl:ls.length=d.length+r.length+1:=by rw [<- hd]; simp; omega
   have ht:total ls=total d+(x.length+total r):=by rw [<- hd,qi]; rfl
   rw [eN (s':=(((d++[x]).length:Int),(d++[x]).flatten))]
   ·exact ih (d++[x]) (by simpa using hd)
   ·have hc:decide ((d.length:Int) < (ls.length:Int))=true:=by simp; omega
    have hx:idx ls (d.length:Int)=some x:=by rw [<- hd]; exact lG d r x
    simp only [hc,cond_true,hx,aA]
    rw [w64 (by omega) (by omega),bP (by rw [xf]; omega),aA]
    simp
 have h0:=k1 ls [] rfl
 have h3:=k2 ls [] rfl
 have e0:((([]:List (List aH)).length:Nat):Int)=0:=rfl
 have e1:((total []:Nat):Int)=0:=rfl
 rw [e0,e1] at h0
 rw [e0,List.flatten_nil] at h3
 rw [h0,aA,IW _ (by omega) (by omega),aA,h3,aA]
def blk (s:Int):aH:=⟨32,s,0⟩
def BV (l1:List aH) (at_:Int):List aH :=
 match (if at_ > 0 then l1[at_.toNat - 1]? else none) with
  | some c=>if c.part=1 then l1.set (at_.toNat - 1) (blk c.aO) else l1
  | none=>l1
theorem Ao (l:List aH) (at_:Int):(BV l at_).length=l.length:=by
 unfold BV
 split
 ·split <;> simp
 ·rfl
def u7 (l:List aH) (at_ x s:Int):List aH :=
 if ofS x=0\/at_ < 0\/at_ > l.length - ofS x then l
 else if ofS x=1 then l.set at_.toNat ⟨x,s,0⟩
 else BV ((l.set at_.toNat ⟨x,s,1⟩).set (at_.toNat+1) ⟨x,s,2⟩) at_
theorem vL (l:List aH) (at_ x s:Int):(u7 l at_ x s).length=l.length:=by
 unfold u7
 split
 ·rfl
 ·split
  ·simp
  ·simp [Ao]
theorem put_eq (r:aG) (at_ x s:Int) (h:r.cells.length<=1000000) (ha: -9223372036854775808<=at_) (hb:at_<=9223372036854775807):lW r at_ x s=some ⟨iO 0 (u7 r.cells at_ x s),false⟩:=by
 unfold lW
 rw [pC r h,aA,of_eq,aA]
 have h3:=pD x
 have fin: ∀ l:List aH,l.length=r.cells.length->(Option.bind (fz l) λa=>some a)=some ⟨iO 0 l,false⟩:=λl hl=>by rw [n8 l (by omega),aA]
 rw [w64 (x:=(r.cells.length:Int) - ofS x) (by omega) (by omega)]
 by_cases hc:ofS x=0\/at_ < 0\/at_ > r.cells.length - ofS x
 ·have hb2:((bif (ofS x == 0) then some true else (bif (decide (at_ < 0)) then some true else some (decide (at_ > ((r.cells.length:Int) - ofS x))))):Option Bool)=some true:=by
   rcases hc with hc | hc | hc
   ·simp [hc]
   ·cases h0:(ofS x == 0) <;> simp [hc]
   ·cases h0:(ofS x == 0) <;> cases h1:decide (at_ < 0) <;> simp [hc]
  rw [hb2,aA,cond_true,aA]
  unfold u7
  rw [if_pos hc]
  exact fin _ rfl
 ·have hb2:((bif (ofS x == 0) then some true else (bif (decide (at_ < 0)) then some true else some (decide (at_ > ((r.cells.length:Int) - ofS x))))):Option Bool)=some false:=by
   have e0:(ofS x == 0)=false:=by simp; omega
   have e1:decide (at_ < 0)=false:=decide_eq_false (by omega)
   rw [e0,cond_false,e1,cond_false]
   simp
   omega
  rw [hb2,aA,cond_false]
  obtain ⟨k,rfl⟩: ∃ k:Nat,at_=k:=⟨at_.toNat,by omega⟩
  unfold u7
  rw [if_neg hc]
  by_cases h1:ofS x=1
  ·have e1:(ofS x == 1)=true:=by simp [h1]
   have hk:k < r.cells.length:=by omega
   rw [e1,cond_true,fL,List.getElem?_eq_getElem hk,aA,aA,if_pos h1,Int.toNat_natCast]
   exact fin _ (by simp)
  ·have e1:(ofS x == 1)=false:=by simp [h1]
   have h2:ofS x=2:=by omega
   have hk:k+1 < r.cells.length:=by omega
   have ew:IntKind.i64.wrap ((k:Int)+1)=((k+1:Nat):Int):=by rw [w64 (by omega) (by omega)]; omega
   rw [e1,cond_false,fL,List.getElem?_eq_getElem (by omega:k < r.cells.length),aA,ew,fL,if_neg h1,Int.toNat_natCast,Int.toNat_natCast,List.getElem?_eq_getElem (by simp; omega),aA]
   generalize hl1:(r.cells.set k ⟨x,s,1⟩).set (k+1) ⟨x,s,2⟩=l1
   have hlen:l1.length=r.cells.length:=by rw [<- hl1]; simp
   unfold BV
   rw [show ((k:Int)).toNat=k from Int.toNat_natCast k]
   by_cases h0:(k:Int) > 0
   ·have e2:decide ((k:Int) > 0)=true:=decide_eq_true h0
    have em:IntKind.i64.wrap ((k:Int) - 1)=((k - 1:Nat):Int):=by rw [w64 (by omega) (by omega)]; omega
    have hk1:k - 1 < l1.length:=by omega
    rw [e2,cond_true,em,fL,Int.toNat_natCast,if_pos h0,List.getElem?_eq_getElem hk1,aA,aA]
    by_cases hp:(l1[k - 1]).part=1
    ·have e3:((l1[k - 1]).part == 1)=true:=by simp [hp]
     rw [e3,cond_true]
     simp only [aA,re,if_pos hp,Int.toNat_natCast]
     exact fin _ (by simpa using hlen)
    ·have e3:((l1[k - 1]).part == 1)=false:=by simp [hp]
     rw [e3,cond_false,aA]
     simp only [if_neg hp]
     exact fin _ hlen
   ·have e2:decide ((k:Int) > 0)=false:=decide_eq_false h0
    rw [e2,cond_false,if_neg h0,aA,cond_false,aA]
    exact fin _ hlen
def kK (a b s:Int):Int->List aH->List aH
 | _,[]=>[]
 | i,c::r=>(if a<=i/\i < b then blk s else c)::kK a b s (i+1) r
theorem l4 (a b s:Int): ∀ (l:List aH) (i:Int),(kK a b s i l).length=l.length
 | [],_=>rfl
 | c::r,i=>by simp [kK,l4 a b s r]
theorem nd (a b s:Int): ∀ (l:List aH) (i:Int) (j:Nat),(kK a b s i l)[j]?=(l[j]?).map λc=>if a<=i+j/\i+j < b then blk s else c
 | [],_,_=>by simp [kK]
 | c::r,i,0=>by simp [kK]
 | c::r,i,j+1=>by
  have:=nd a b s r (i+1) j
  simp only [kK,List.getElem?_cons_succ,this]
  have e:i+1+(j:Int)=i+((j+1:Nat):Int):=by omega
  rw [e]
theorem erase_eq (r:aG) (a b s:Int) (h:r.cells.length<=1000000):jF r a b s=some ⟨iO 0 (kK a b s 0 r.cells),false⟩:=by
 unfold jF
 rw [pC r h,aA,rV,aA]
 generalize hA:max 0 (min a (r.cells.length:Int))=A
 generalize hB:max 0 (min b (r.cells.length:Int))=B
 have key: ∀ m (i:Nat) (l:List aH),B.toNat - i=m->l.length=r.cells.length->iter (σ:=Int×(List aH)) (ρ:=(List aH)) (λd=>(Option.bind (kd b 0 (d.2.length:Int)) λe=>(bif (decide (d.1 < e)) then (Option.bind (ir s) λf=>(Option.bind (idx d.2 d.1) λg=>some (.inl ((IntKind.i64.wrap (d.1+1)),(d.2.set d.1.toNat f))))) else some (.inr d.2)))) ((i:Int),l)=some (kK i B s 0 l):=by
  intro m
  induction m with
  | zero =>
   intro i l hm hl
   rw [cO (r:=l)]
   ·congr 1
    apply List.ext_getElem?
    intro j
    rw [nd]
    cases hj:l[j]? with
    | none=>rfl
    | some c =>
     simp
     intro h1 h2
     omega
   ·simp only [rV,aA,hl,hB]
    have:decide ((i:Int) < B)=false:=decide_eq_false (by omega)
    rw [this,cond_false]
  | succ m ih =>
   intro i l hm hl
   have hi:i < l.length:=by omega
   rw [eN (s':=(((i+1:Nat):Int),l.set i (blk s)))]
   ·rw [ih (i+1) (l.set i (blk s)) (by omega) (by simpa using hl)]
    congr 1
    apply List.ext_getElem?
    intro j
    rw [nd,nd,List.getElem?_set]
    by_cases hij:i=j
    ·subst hij
     rw [if_pos rfl,if_pos hi,List.getElem?_eq_getElem hi]
     simp
     omega
    ·rw [if_neg hij]
     cases hj:l[j]? with
     | none=>rfl
     | some c =>
      simp only [Option.map_some,Option.some.injEq]
      by_cases h1:(i:Int)<=0+(j:Int)/\0+(j:Int) < B
      ·rw [if_pos h1,if_pos (by omega)]
      ·rw [if_neg h1,if_neg (by omega)]
   ·simp only [rV,aA,hl,hB]
    have:decide ((i:Int) < B)=true:=decide_eq_true (by omega)
    rw [this,cond_true,fL,List.getElem?_eq_getElem hi,w64 (by omega) (by omega)]
    rfl
 obtain ⟨k,hk⟩: ∃ k:Nat,A=k:=⟨A.toNat,by omega⟩
 rw [hk,key _ k r.cells rfl rfl,aA,n8 _ (by rw [l4]; exact h),aA]
 congr 2
 congr 1
 apply List.ext_getElem?
 intro j
 rw [nd,nd]
 cases hj:r.cells[j]? with
 | none=>rfl
 | some c =>
  have hjl:=(List.getElem?_eq_some_iff.1 hj).1
  simp only [Option.map_some,Option.some.injEq]
  by_cases h1:a<=0+(j:Int)/\0+(j:Int) < b
  ·rw [if_pos h1,if_pos (by omega)]
  ·rw [if_neg h1,if_neg (by omega)]
def nq (l:List aH) (k n:Nat) (s:Int):List aH:=(l.take k++List.replicate n (blk s)++l.drop k).take l.length
def n9 (l:List aH) (k n:Nat) (s:Int):List aH:=l.take k++l.drop (k+n)++List.replicate n (blk s)
def oT (l:List aH) (s:Int):List aH:=l.set (l.length - 1) ⟨32,s,3⟩
theorem insert_eq (r:aG) (at_ n s:Int) (h:r.cells.length<=1000) (ha: -9223372036854775808<=at_) (hb:at_<=9223372036854775807):kq r at_ n s=some ⟨iO 0 (if dA r.cells at_ n=0 then r.cells else nq r.cells at_.toNat (dA r.cells at_ n).toNat s),false⟩:=by
 unfold kq
 rw [yD r at_ n (by omega) ha hb,aA]
 by_cases h0:dA r.cells at_ n=0
 ·have e:(dA r.cells at_ n == 0)=true:=by simp [h0]
  rw [e,cond_true,pC r (by omega),aA,n8 _ (by omega),aA,if_pos h0]
 ·have e:(dA r.cells at_ n == 0)=false:=by simp [h0]
  rw [e,cond_false,if_neg h0]
  have hw:dA r.cells at_ n=max 0 (min n (r.cells.length - at_))/\0<=at_/\at_ < r.cells.length:=by
   unfold dA at h0 ⊢
   by_cases hc:at_ < 0\/at_>=r.cells.length
   ·rw [if_pos hc] at h0; exact absurd rfl h0
   ·rw [if_neg hc]; exact ⟨rfl,by omega,by omega⟩
  obtain ⟨hw,h1,h2⟩:=hw
  generalize dA r.cells at_ n=w at hw h0
  obtain ⟨k,rfl⟩: ∃ k:Nat,at_=k:=⟨at_.toNat,by omega⟩
  obtain ⟨m,rfl⟩: ∃ m:Nat,w=m:=⟨w.toNat,by omega⟩
  have c1:cut r.cells 0 (k:Int)=r.cells.take k:=by simp [cut]
  have c2:cut r.cells (k:Int) (r.cells.length:Int)=r.cells.drop k:=by simp [cut]
  rw [bQ (by omega) (by omega) (by omega),aA,bQ (by omega) (by omega) (by omega),aA,rU _ _ (by omega),aA,c1,c2,yE _ (by simp [total]; omega) (by simp),aA]
  have hl:([r.cells.take k,List.replicate (m:Int).toNat (blk s),r.cells.drop k].flatten).length=r.cells.length+m:=by simp; omega
  change (Option.bind (chk (cZ 0 (r.cells.length:Int) (([r.cells.take k,List.replicate (m:Int).toNat (blk s),r.cells.drop k].flatten).length:Int))) _)=_
  rw [hl,bQ (by omega) (by omega) (by omega),aA]
  have c3:cut ([r.cells.take k,List.replicate (m:Int).toNat (blk s),r.cells.drop k].flatten) 0 (r.cells.length:Int)=nq r.cells (k:Int).toNat (m:Int).toNat s:=by
   unfold cut nq
   simp
  change (Option.bind (fz (cut ([r.cells.take k,List.replicate (m:Int).toNat (blk s),r.cells.drop k].flatten) 0 (r.cells.length:Int))) _)=_
  rw [c3,n8 _ (by unfold nq; simp; omega),aA]
theorem EV (r:aG) (at_ n s:Int) (h:r.cells.length<=1000) (ha: -9223372036854775808<=at_) (hb:at_<=9223372036854775807):kr r at_ n s=some ⟨iO 0 (if dA r.cells at_ n=0 then r.cells else n9 r.cells at_.toNat (dA r.cells at_ n).toNat s),false⟩:=by
 unfold kr
 rw [yD r at_ n (by omega) ha hb,aA]
 by_cases h0:dA r.cells at_ n=0
 ·have e:(dA r.cells at_ n == 0)=true:=by simp [h0]
  rw [e,cond_true,pC r (by omega),aA,n8 _ (by omega),aA,if_pos h0]
 ·have e:(dA r.cells at_ n == 0)=false:=by simp [h0]
  rw [e,cond_false,if_neg h0]
  have hw:dA r.cells at_ n=max 0 (min n (r.cells.length - at_))/\0<=at_/\at_ < r.cells.length:=by
   unfold dA at h0 ⊢
   by_cases hc:at_ < 0\/at_>=r.cells.length
   ·rw [if_pos hc] at h0; exact absurd rfl h0
   ·rw [if_neg hc]; exact ⟨rfl,by omega,by omega⟩
  obtain ⟨hw,h1,h2⟩:=hw
  generalize dA r.cells at_ n=w at hw h0
  obtain ⟨k,rfl⟩: ∃ k:Nat,at_=k:=⟨at_.toNat,by omega⟩
  obtain ⟨m,rfl⟩: ∃ m:Nat,w=m:=⟨w.toNat,by omega⟩
  have c1:cut r.cells 0 (k:Int)=r.cells.take k:=by simp [cut]
  have c2:cut r.cells ((k+m:Nat):Int) (r.cells.length:Int)=r.cells.drop (k+m):=by
   unfold cut
   rw [Int.toNat_natCast,Int.toNat_natCast,List.take_length]
  have ek:((k:Int)+(m:Int))=((k+m:Nat):Int):=by omega
  have hkm:k+m<=r.cells.length:=by omega
  rw [w64 (by omega) (by omega),ek,bQ (by omega) (by omega) (by omega),aA,bQ (by omega) (by omega) (by omega),aA,rU _ _ (by omega),aA,c1,c2,yE _ (by simp [total]; omega) (by simp),aA]
  have c3:[r.cells.take k,r.cells.drop (k+m),List.replicate (m:Int).toNat (blk s)].flatten=n9 r.cells (k:Int).toNat (m:Int).toNat s:=by
   unfold n9
   simp
  change (Option.bind (fz [r.cells.take k,r.cells.drop (k+m),List.replicate (m:Int).toNat (blk s)].flatten) _)=_
  rw [c3,n8 _ (by unfold n9; simp; omega),aA]
theorem fill_eq (r:aG) (s:Int) (h:r.cells.length<=1000000):ln r s=some ⟨iO 0 (oT r.cells s),true⟩:=by
 unfold ln
 rw [pC r h,aA]
 by_cases h0:(r.cells.length:Int) > 0
 ·have e:decide ((r.cells.length:Int) > 0)=true:=decide_eq_true h0
  have ew:IntKind.i64.wrap ((r.cells.length:Int) - 1)=((r.cells.length - 1:Nat):Int):=by rw [w64 (by omega) (by omega)]; omega
  rw [e,cond_true,ew,fL,List.getElem?_eq_getElem (by omega),aA,aA,Int.toNat_natCast]
  change (Option.bind (fz (oT r.cells s)) _)=_
  rw [n8 _ (by simp [oT]; exact h),aA]
 ·have e:decide ((r.cells.length:Int) > 0)=false:=decide_eq_false h0
  have hn:r.cells=[]:=List.eq_nil_of_length_eq_zero (by omega)
  rw [e,cond_false,aA,n8 _ h,aA]
  simp [oT,hn]
def nr (l:List aH) (w:Nat):List aH:=l.take w++List.replicate (w - l.length) (blk 0)
theorem EW (r:aG) (w:Int) (h:r.cells.length<=1000000):jj r w=some (if (max 0 (min w 1000)).toNat=r.cells.length then r else ⟨iO 0 (nr r.cells (max 0 (min w 1000)).toNat),false⟩):=by
 unfold jj
 rw [rV,aA,pC r h,aA]
 generalize hv:max 0 (min w 1000)=v
 obtain ⟨k,rfl⟩: ∃ k:Nat,v=k:=⟨v.toNat,by omega⟩
 rw [Int.toNat_natCast]
 by_cases h0:k=r.cells.length
 ·have e:((k:Int) == (r.cells.length:Int))=true:=by simp [h0]
  rw [e,cond_true,if_pos h0]
 ·have e:((k:Int) == (r.cells.length:Int))=false:=by simp; omega
  have ec:dF (k:Int) (r.cells.length:Int)=((min k r.cells.length:Nat):Int):=by rw [dN]; omega
  have c1:cut r.cells 0 ((min k r.cells.length:Nat):Int)=r.cells.take k:=by
   simp only [cut,Int.toNat_natCast,Int.toNat_zero,List.drop_zero]
   rw [<- List.take_take,List.take_length]
  rw [e,cond_false,if_neg h0,ec,w64 (by omega) (by omega),rU _ _ (by omega),aA,bQ (by omega) (by omega) (by omega),aA,c1,bP (by simp; omega),aA]
  have c2:r.cells.take k++List.replicate ((k:Int) - (r.cells.length:Int)).toNat (blk 0)=nr r.cells k:=by
   unfold nr
   congr 2
   omega
  change (Option.bind (fz (r.cells.take k++List.replicate ((k:Int) - (r.cells.length:Int)).toNat (blk 0))) _)=_
  rw [c2,n8 _ (by unfold nr; simp; omega),aA]
theorem zp (w s:Int):jM w s=some ⟨List.replicate (max 0 (min w 1000)).toNat (blk s),false⟩:=by
 unfold jM
 rw [rV,aA,rU _ _ (by omega),aA]
 rfl
def qC:Nat->List aH->List aH
 | 0,l=>l
 | n+1,l=>if l.getLast?=some (blk 0) then qC n l.dropLast else l
def KD (l:List aH):List aH:=qC l.length l
def isG (c:aH):Bool:=c.part == 0 || c.part == 1
def tw (l:List aH):List aJ:=(l.filter isG).map λc=>⟨c.rune,c.aO⟩
def ou (r:aG):List aJ:=tw (if r.wrapped then r.cells else KD r.cells)
theorem vM (l:List aH):(tw l).length<=l.length:=by
 unfold tw
 rw [List.length_map]
 exact List.length_filter_le _ _
theorem qj: ∀ (n:Nat) (l:List aH),(qC n l).length<=l.length
 | 0,l=>Nat.le_refl _
 | n+1,l=>by
  unfold qC
  split
  ·have:=qj n l.dropLast
   rw [List.length_dropLast] at this
   omega
  ·exact Nat.le_refl _
theorem pE (x y:aH):((x.rune == y.rune) && ((x.aO == y.aO) && ((x.part == y.part) && true)))=decide (x=y):=by
 obtain ⟨a,b,c⟩:=x
 obtain ⟨d,e,f⟩:=y
 by_cases h1:a=d <;> by_cases h2:b=e <;> by_cases h3:c=f <;> simp [h1,h2,h3]
theorem EX (r:aG) (h:r.cells.length<=1000000):jh r=some (ou r):=by
 unfold jh
 have k1: ∀ (n:Nat) (l:List aH),l.length=n->n<=1000000->iter (σ:=(List aH)) (ρ:=(List aH)) (λa=>(Option.bind ((bif (!r.wrapped) then (bif (decide ((a.length:Int) > 0)) then (Option.bind (idx a (IntKind.i64.wrap ((a.length:Int) - 1))) λg=>(Option.bind (ir 0) λi=>some ((g.rune == i.rune) && ((g.aO == i.aO) && ((g.part == i.part) && true))))) else some false) else some false):Option Bool) λj=>(bif j then (Option.bind (chk (cZ 0 (IntKind.i64.wrap ((a.length:Int) - 1)) a.length)) λ_=>some (.inl (cut a 0 (IntKind.i64.wrap ((a.length:Int) - 1))))) else some (.inr a)))) l=some (if r.wrapped then l else qC n l):=by
  intro n
  induction n with
  | zero =>
   intro l hl hn
   rw [cO (r:=l)]
   ·simp [qC]
   ·cases r.wrapped <;> simp [hl]
  | succ n ih =>
   intro l hl hn
   cases hw:r.wrapped with
   | true =>
    rw [cO (r:=l)]
    ·simp
    ·simp [hw]
   | false =>
    have hp:decide ((l.length:Int) > 0)=true:=decide_eq_true (by omega)
    have ew:IntKind.i64.wrap ((l.length:Int) - 1)=((l.length - 1:Nat):Int):=by rw [w64 (by omega) (by omega)]; omega
    have hlt:l.length - 1 < l.length:=by omega
    have hlast:l.getLast?=some l[l.length - 1]:=by rw [List.getLast?_eq_getElem?,List.getElem?_eq_getElem hlt]
    unfold qC
    rw [hlast]
    by_cases hb:l[l.length - 1]=blk 0
    ·rw [eN (s':=l.dropLast)]
     ·have:=ih l.dropLast (by rw [List.length_dropLast]; omega) (by omega)
      rw [hw] at this
      simp only [hw,Bool.not_false,cond_true] at this ⊢
      rw [this,if_neg (by simp),if_neg (by simp),if_pos (by rw [hb])]
     ·simp only [hw,Bool.not_false,cond_true,hp,ew,fL,List.getElem?_eq_getElem hlt,aA,re,pE]
      have:decide (l[l.length - 1]=⟨32,0,0⟩)=true:=decide_eq_true hb
      rw [this,cond_true,bQ (by omega) (by omega) (by omega),aA]
      congr 2
      simp [cut,List.dropLast_eq_take]
    ·rw [cO (r:=l)]
     ·rw [if_neg (by simp),if_neg (by simpa using hb)]
     ·simp only [hw,Bool.not_false,cond_true,hp,ew,fL,List.getElem?_eq_getElem hlt,aA,re,pE]
      have:decide (l[l.length - 1]=⟨32,0,0⟩)=false:=decide_eq_false hb
      rw [this,cond_false]
 rw [k1 r.cells.length r.cells rfl h,aA]
 have hE:(if r.wrapped then r.cells else qC r.cells.length r.cells).length<=1000000:=by
  split
  ·exact h
  ·exact Nat.le_trans (qj _ _) h
 change (Option.bind _ _)=some (tw (if r.wrapped then r.cells else qC r.cells.length r.cells))
 generalize (if r.wrapped then r.cells else qC r.cells.length r.cells)=E at hE
 have k2: ∀ (b d:List aH),d++b=E->iter (σ:=Int×(List aJ)) (ρ:=(List aJ)) (λe=>(bif (decide (e.1 < (E.length:Int))) then (Option.bind ((Option.bind (idx E e.1) λf=>(Option.bind ((bif (f.part == 0) then some true else some (f.part == 1)):Option Bool) λk=>(bif k then (Option.bind (chk (eY e.2.length [(aJ.mk f.rune f.aO)].length 16)) λ_=>some (e.2++[(aJ.mk f.rune f.aO)])) else some e.2))):Option (List aJ)) λm=>some (.inl ((IntKind.i64.wrap (e.1+1)),m))) else some (.inr e.2))) ((d.length:Int),tw d)=some (tw E):=by
  intro b
  induction b with
  | nil =>
   intro d hd
   simp at hd
   subst hd
   rw [cO (r:=tw d)]
   simp
  | cons c b ih =>
   intro d hd
   have hl:E.length=d.length+b.length+1:=by rw [<- hd]; simp; omega
   have hg:tw (d++[c])=bif isG c then tw d++[⟨c.rune,c.aO⟩] else tw d:=by
    unfold tw
    rw [List.filter_append]
    cases hc:isG c <;> simp [hc]
   rw [eN (s':=(((d++[c]).length:Int),tw (d++[c])))]
   ·exact ih (d++[c]) (by simpa using hd)
   ·have hc:decide ((d.length:Int) < (E.length:Int))=true:=by simp; omega
    have hx:idx E (d.length:Int)=some c:=by rw [<- hd]; exact lG d b c
    have hi:((bif (c.part == 0) then some true else some (c.part == 1)):Option Bool)=some (isG c):=by unfold isG; cases c.part == 0 <;> rfl
    have hgl:=vM d
    simp only [hc,cond_true,hx,aA,hi]
    rw [hg,w64 (by omega) (by omega)]
    cases hc2:isG c with
    | true=>rw [cond_true,bP (by simp; omega),aA,aA]; simp
    | false=>simp
 have h0:=k2 E [] rfl
 have e0:((([]:List aH).length:Nat):Int)=0:=rfl
 have e1:tw []=[]:=rfl
 rw [e0,e1] at h0
 rw [h0,aA]
theorem Gl (a b:List aH) (h:a.length<=1000000):gf a b=some (decide (a=b)):=by
 unfold gf
 by_cases hl:a.length=b.length
 ·have e:((a.length:Int) != (b.length:Int))=false:=by simp [hl]
  rw [e,cond_false]
  have key: ∀ (x y d d2:List aH),d++x=a->d2++y=b->d=d2->x.length=y.length->iter (σ:=Int) (ρ:=Unit ⊕ Bool) (λf=>(bif (decide (f < (a.length:Int))) then (Option.bind (idx a f) λg=>(Option.bind (idx b f) λi=>(bif (!((g.rune == i.rune) && ((g.aO == i.aO) && ((g.part == i.part) && true)))) then (k8 (some false)) else some (.inl (IntKind.i64.wrap (f+1)))))) else some (.inr (.inl ())))) (d.length:Int)=some (if x=y then .inl () else .inr false):=by
   intro x
   induction x with
   | nil =>
    intro y d d2 hd hd2 hdd hxy
    have:y=[]:=List.eq_nil_of_length_eq_zero hxy.symm
    subst this
    simp at hd
    subst hd
    rw [cO (r:= .inl ())]
    ·simp
    ·simp
   | cons c x ih =>
    intro y d d2 hd hd2 hdd hxy
    cases y with
    | nil=>simp at hxy
    | cons c2 y =>
     subst hdd
     have hal:a.length=d.length+x.length+1:=by rw [<- hd]; simp; omega
     have hc:decide ((d.length:Int) < (a.length:Int))=true:=by simp; omega
     have hx:idx a (d.length:Int)=some c:=by rw [<- hd]; exact lG d x c
     have hx2:idx b (d.length:Int)=some c2:=by rw [<- hd2]; exact lG d y c2
     by_cases hcc:c=c2
     ·subst hcc
      rw [eN (s':=((d++[c]).length:Int))]
      ·rw [ih y (d++[c]) (d++[c]) (by simpa using hd) (by simpa using hd2) rfl (by simpa using hxy)]
       simp
      ·simp only [hc,cond_true,hx,hx2,aA,pE]
       rw [w64 (by omega) (by omega)]
       simp
     ·rw [cO (r:= .inr false)]
      ·simp [hcc]
      ·simp only [hc,cond_true,hx,hx2,aA,pE]
       have:decide (c=c2)=false:=decide_eq_false hcc
       rw [this]
       rfl
  have h0:=key a b [] [] rfl rfl rfl hl
  have e0:((([]:List aH).length:Nat):Int)=0:=rfl
  rw [e0] at h0
  rw [h0,aA]
  by_cases hab:a=b
  ·rw [if_pos hab]; simp [hab]
  ·rw [if_neg hab]; simp [hab]
 ·have e:((a.length:Int) != (b.length:Int))=true:=by simp; omega
  rw [e,cond_true]
  have:a≠b:=λh=>hl (by rw [h])
  simp [this]
theorem IX (r q:aG) (h:r.cells.length<=1000000):lq r q=some (decide (r=q)):=by
 unfold lq
 obtain ⟨a,x⟩:=r
 obtain ⟨b,y⟩:=q
 rw [Gl a b h]
 cases x <;> cases y <;> simp
theorem mQ (l:List aH) (h:l.length<=1000000):fI (l.map tc)=some ⟨(iO 0 l).map tc,false⟩:=by
 unfold fI
 have hml:(l.map tc).length=l.length:=List.length_map _
 rw [hml]
 have key: ∀ (r d o:List aH),d++r=l->o.length=d.length->iter (σ:=Int×(List aU)) (ρ:=(List aU)) (λb=>(bif (decide (b.1 < (l.length:Int))) then (Option.bind (idx (l.map tc) b.1) λf=>(Option.bind ((bif (f.part == 1) then (bif ((IntKind.i64.wrap (b.1+1)) == (l.length:Int)) then some true else (Option.bind (idx (l.map tc) (IntKind.i64.wrap (b.1+1))) λg=>some (g.part != 2))) else (bif (f.part == 2) then (bif (b.1 == 0) then some true else (Option.bind (idx b.2 (IntKind.i64.wrap (b.1 - 1))) λi=>some (i.part != 1))) else (bif (f.part == 3) then some (decide (b.1 < (IntKind.i64.wrap ((l.length:Int) - 1)))) else some false))):Option Bool) λk=>(Option.bind ((bif k then some (aU.mk 32 f.aO 0) else some f):Option aU) λj=>(Option.bind (chk (eY b.2.length [j].length 24)) λ_=>some (.inl ((IntKind.i64.wrap (b.1+1)),(b.2++[j]))))))) else some (.inr b.2))) ((d.length:Int),o.map tc)=some ((o++iO (mB o) r).map tc):=by
  intro r
  induction r with
  | nil =>
   intro d o hd ho
   simp at hd
   subst hd
   rw [cO (r:=o.map tc)]
   ·simp [iO]
   ·simp
  | cons c r ih =>
   intro d o hd ho
   have hl:l.length=d.length+r.length+1:=by rw [<- hd]; simp; omega
   rw [eN (s':=(((d++[c]).length:Int),(o++[u5 (mB o) c r]).map tc))]
   ·rw [ih (d++[c]) (o++[u5 (mB o) c r]) (by simpa using hd) (by simp [ho]),xd]
    simp [iO]
   ·have hc:decide ((d.length:Int) < (l.length:Int))=true:=by simp; omega
    have em:l.map tc=d.map tc++tc c::r.map tc:=by rw [<- hd]; simp
    have hdl:(d.map tc).length=d.length:=List.length_map _
    have hx:idx (l.map tc) (d.length:Int)=some (tc c):=by rw [em,<- hdl]; exact lG _ _ _
    have hx2:idx (l.map tc) ((d.length:Int)+1)=(r.map tc)[0]?:=by rw [em,<- hdl]; exact An _ _ _
    simp only [hc,cond_true,hx,aA]
    rw [w64 (x:=(d.length:Int)+1) (by omega) (by omega),w64 (x:=(d.length:Int) - 1) (by omega) (by omega),w64 (x:=(l.length:Int) - 1) (by omega) (by omega),hx2]
    have hbad:((bif ((tc c).part == 1) then (bif (((d.length:Int)+1) == (l.length:Int)) then some true else (Option.bind ((r.map tc)[0]?) λg=>some (g.part != 2))) else (bif ((tc c).part == 2) then (bif ((d.length:Int) == 0) then some true else (Option.bind (idx (o.map tc) ((d.length:Int) - 1)) λi=>some (i.part != 1))) else (bif ((tc c).part == 3) then some (decide ((d.length:Int) < (l.length:Int) - 1)) else some false))):Option Bool)=some (yf (mB o) c r):=by
     have htc:(tc c).part=c.part:=rfl
     rw [htc]
     unfold yf
     cases h1:(c.part == 1) with
     | true =>
      simp only [cond_true]
      cases r with
      | nil =>
       have:(((d.length:Int)+1) == (l.length:Int))=true:=by simp at hl ⊢; omega
       rw [this]
       rfl
      | cons e r =>
       have:(((d.length:Int)+1) == (l.length:Int))=false:=by simp at hl ⊢; omega
       rw [this]
       rfl
     | false =>
      simp only [cond_false]
      cases h2:(c.part == 2) with
      | true =>
       simp only [cond_true]
       cases ho0:o with
       | nil =>
        have:d.length=0:=by rw [<- ho,ho0]; rfl
        have:((d.length:Int) == 0)=true:=by simp [this]
        rw [this]
        rfl
       | cons a t =>
        have hpos:0 < d.length:=by rw [<- ho,ho0]; simp
        have hne:((d.length:Int) == 0)=false:=by rw [beq_eq_false_iff_ne]; omega
        have hol:((a::t).map tc).length=d.length:=by rw [List.length_map,<- ho0,ho]
        have hi:=Am ((a::t).map tc) [] ⟨0,0,0⟩ ⟨0,0,0⟩ (by rw [hol]; exact hpos)
        have hlt:d.length - 1 < ((a::t).map tc).length:=by rw [hol]; omega
        have e1:((d.length:Int) - 1)=((d.length - 1:Nat):Int):=by omega
        rw [hol,e1,fL,List.getElem?_append_left hlt] at hi
        rw [hne,cond_false,e1,fL,hi,aA]
        have e2:mB (a::t)=(sR (⟨0,0,0⟩:aU) ((a::t).map tc)).part:=by
         unfold mB
         rw [<- u6 (λc:aU=>c.part) ⟨0,0,0⟩ ((a::t).map tc),List.map_map]
         rfl
        rw [e2]
      | false =>
       simp only [cond_false]
       cases h3:(c.part == 3) with
       | true =>
        simp only [cond_true]
        cases r with
        | nil =>
         have:decide ((d.length:Int) < (l.length:Int) - 1)=false:=decide_eq_false (by simp at hl; omega)
         rw [this]
         rfl
        | cons e r =>
         have:decide ((d.length:Int) < (l.length:Int) - 1)=true:=decide_eq_true (by simp at hl; omega)
         rw [this]
         rfl
       | false=>rfl
    rw [hbad,aA]
    have hfix:((bif yf (mB o) c r then some (aU.mk 32 (tc c).aO 0) else some (tc c)):Option aU)=some (tc (u5 (mB o) c r)):=by
     unfold u5
     cases yf (mB o) c r <;> rfl
    rw [hfix,aA,bP (by simp; omega),aA]
    simp
 have h0:=key l [] [] rfl rfl
 have e0:((([]:List aH).length:Nat):Int)=0:=rfl
 rw [e0] at h0
 simp only [List.map_nil,List.nil_append] at h0
 rw [h0,aA]
 rfl
theorem zq (n lo hi:Int) (h:lo<=hi):mK n lo hi=some (max lo (min n hi)):=by
 unfold mK
 by_cases h1:n < lo
 ·rw [decide_eq_true h1,cond_true]; congr 1; omega
 ·rw [decide_eq_false h1,cond_false]
  by_cases h2:n > hi
  ·rw [decide_eq_true h2,cond_true]; congr 1; omega
  ·rw [decide_eq_false h2,cond_false]; congr 1; omega
theorem rW (w s:Int):jg w s=some ⟨(List.replicate (max 0 (min w 1000)).toNat (blk s)).map tc,false⟩:=by
 unfold jg
 generalize hv:max 0 (min w 1000)=v
 obtain ⟨k,rfl⟩: ∃ k:Nat,v=k:=⟨v.toNat,by omega⟩
 have hk:k<=1000:=by omega
 have key: ∀ m j,k - j=m->j<=k->iter (σ:=(List aU)×Int) (ρ:=(List aU)) (λa=>(Option.bind (mK w 0 1000) λb=>(bif (decide (a.2 < b)) then (Option.bind (chk (eY a.1.length [(aU.mk 32 s 0)].length 24)) λ_=>some (.inl ((a.1++[(aU.mk 32 s 0)]),(IntKind.i64.wrap (a.2+1))))) else some (.inr a.1)))) (List.replicate j (tc (blk s)),(j:Int))=some (List.replicate k (tc (blk s))):=by
  intro m
  induction m with
  | zero =>
   intro j hm hj
   have:j=k:=by omega
   subst this
   rw [cO (r:=List.replicate j (tc (blk s)))]
   simp only [zq w 0 1000 (by omega),hv,aA]
   simp
  | succ m ih =>
   intro j hm hj
   rw [eN (s':=(List.replicate (j+1) (tc (blk s)),((j+1:Nat):Int)))]
   ·exact ih (j+1) (by omega) (by omega)
   ·simp only [zq w 0 1000 (by omega),hv,aA]
    have:decide ((j:Int) < (k:Int))=true:=decide_eq_true (by omega)
    rw [this,cond_true,bP (by simp; omega),aA,w64 (by omega) (by omega),List.replicate_succ']
    rfl
 have h0:=key (k - 0) 0 rfl (Nat.zero_le _)
 have e0:((0:Nat):Int)=0:=rfl
 rw [e0,List.replicate_zero] at h0
 rw [h0,aA,Int.toNat_natCast,List.map_replicate]
theorem Gm (n:Nat) (h:n<=1000000):chk (eY ([]:List aU).length n 24)=some ():=bP (by simp; omega)
theorem ky (l:List aH):(l.map tc).length=l.length:=List.length_map _
theorem Lz (s:Int):tc (blk s)=⟨32,s,0⟩:=rfl
theorem EY (l:List aH) (w:Bool) (a b s:Int) (h:l.length<=1000000):nm ⟨l.map tc,w⟩ a b s=some ⟨(iO 0 (kK a b s 0 l)).map tc,false⟩:=by
 unfold nm
 simp only [ky,List.nil_append]
 rw [Gm _ h,aA]
 have key: ∀ (r d o:List aH),d++r=l->o.length=d.length->iter (σ:=Int×(List aU)) (ρ:=(List aU)) (λe=>(bif (decide (e.1 < (l.length:Int))) then (Option.bind ((Option.bind ((bif (decide (e.1>=a)) then some (decide (e.1 < b)) else some false):Option Bool) λf=>(bif f then (Option.bind (idx e.2 e.1) λi=>some (e.2.set e.1.toNat (aU.mk 32 s 0))) else some e.2)):Option (List aU)) λg=>some (.inl ((IntKind.i64.wrap (e.1+1)),g))) else some (.inr e.2))) ((d.length:Int),(o++r).map tc)=some ((o++kK a b s (d.length:Int) r).map tc):=by
  intro r
  induction r with
  | nil =>
   intro d o hd ho
   simp at hd
   subst hd
   rw [cO (r:=(o++[]).map tc)]
   ·simp [kK]
   ·simp
  | cons c r ih =>
   intro d o hd ho
   have hl:l.length=d.length+r.length+1:=by rw [<- hd]; simp; omega
   have hc:decide ((d.length:Int) < (l.length:Int))=true:=by simp; omega
   generalize hc':(if a<=(d.length:Int)/\(d.length:Int) < b then blk s else c)=c'
   rw [eN (s':=(((d++[c]).length:Int),((o++[c'])++r).map tc))]
   ·rw [ih (d++[c]) (o++[c']) (by simpa using hd) (by simp [ho])]
    simp [kK,hc']
   ·simp only [hc,cond_true]
    rw [w64 (by omega) (by omega)]
    have hx:idx ((o++c::r).map tc) (d.length:Int)=some (tc c):=by
     rw [<- ho,List.map_append,List.map_cons,<- ky o]
     exact lG _ _ _
    by_cases h1:a<=(d.length:Int)
    ·by_cases h2:(d.length:Int) < b
     ·rw [decide_eq_true (show (d.length:Int)>=a from h1),cond_true,decide_eq_true h2,aA,cond_true,hx,aA,aA]
      rw [if_pos ⟨h1,h2⟩] at hc'
      subst hc'
      congr 2
      refine Prod.ext (by simp) ?_
      show ((o++c::r).map tc).set ((d.length:Int).toNat) _=_
      rw [Int.toNat_natCast,<- ho,List.map_append,List.map_cons]
      simp [Lz]
     ·rw [decide_eq_true (show (d.length:Int)>=a from h1),cond_true,decide_eq_false h2,aA,cond_false,aA]
      rw [if_neg (by omega)] at hc'
      subst hc'
      simp
    ·rw [decide_eq_false (show ¬ (d.length:Int)>=a from h1),cond_false,aA,cond_false,aA]
     rw [if_neg (by omega)] at hc'
     subst hc'
     simp
 have h0:=key l [] [] rfl rfl
 have e0:((([]:List aH).length:Nat):Int)=0:=rfl
 rw [e0] at h0
 simp only [List.nil_append] at h0
 rw [h0,aA,mQ _ (by rw [l4]; exact h),aA]
theorem Gn (l:List aH) (w:Bool) (s:Int) (h:l.length<=1000000):mN ⟨l.map tc,w⟩ s=some ⟨(iO 0 (oT l s)).map tc,true⟩:=by
 unfold mN
 simp only [ky,List.nil_append]
 rw [Gm _ h,aA]
 by_cases h0:(l.length:Int) > 0
 ·have ew:IntKind.i64.wrap ((l.length:Int) - 1)=((l.length - 1:Nat):Int):=by rw [w64 (by omega) (by omega)]; omega
  rw [decide_eq_true h0,cond_true,ew,fL,List.getElem?_eq_getElem (by rw [ky]; omega),aA,aA,Int.toNat_natCast]
  have e:(l.map tc).set (l.length - 1) ⟨32,s,3⟩=(oT l s).map tc:=by
   unfold oT
   rw [List.map_set]
   rfl
  rw [e,mQ _ (by simp [oT]; exact h),aA]
 ·have hn:l=[]:=List.eq_nil_of_length_eq_zero (by omega)
  rw [decide_eq_false h0,cond_false,aA,mQ _ h,aA]
  simp [oT,hn]
theorem MT (x y:Int):(if x < y then x else y)=min y x:=by split <;> omega
theorem BW (l:List aH) (w:Bool) (at_ n s:Int) (h:l.length<=1000) (ha: -9223372036854775808<=at_) (hb:at_<=9223372036854775807):mL ⟨l.map tc,w⟩ at_ n s=some ⟨(iO 0 (if dA l at_ n=0 then l else nq l at_.toNat (dA l at_ n).toNat s)).map tc,false⟩:=by
 unfold mL
 simp only [ky,List.nil_append,MT]
 by_cases h0:at_ < 0\/at_>=l.length\/n<=0
 ·have e:((bif (decide (at_ < 0)) then some true else (bif (decide (at_>=(l.length:Int))) then some true else some (decide (n<=0)))):Option Bool)=some true:=by
   rcases h0 with h0 | h0 | h0
   ·simp [h0]
   ·cases h1:decide (at_ < 0) <;> simp [h0]
   ·cases h1:decide (at_ < 0) <;> cases h2:decide (at_>=(l.length:Int)) <;> simp [h0]
  have hw:dA l at_ n=0:=by unfold dA; split <;> omega
  rw [e,aA,cond_true,mQ _ (by omega),aA,if_pos hw]
 ·have e:((bif (decide (at_ < 0)) then some true else (bif (decide (at_>=(l.length:Int))) then some true else some (decide (n<=0)))):Option Bool)=some false:=by
   rw [decide_eq_false (by omega: ¬ at_ < 0),decide_eq_false (by omega: ¬ at_>=(l.length:Int)),decide_eq_false (by omega: ¬ n<=0)]
   rfl
  have hw:dA l at_ n=min n (l.length - at_):=by unfold dA; rw [if_neg (by omega)]; omega
  rw [e,aA,cond_false,w64 (x:=(l.length:Int) - at_) (by omega) (by omega),dN,<- hw]
  have hb2:0 < dA l at_ n/\at_+dA l at_ n<=l.length:=by omega
  rw [if_neg (by omega)]
  generalize dA l at_ n=v at hb2
  clear hw e
  obtain ⟨k,rfl⟩: ∃ k:Nat,at_=k:=⟨at_.toNat,by omega⟩
  obtain ⟨m,rfl⟩: ∃ m:Nat,v=m:=⟨v.toNat,by omega⟩
  have c1:cut (l.map tc) 0 (k:Int)=(l.take k).map tc:=by simp [cut,List.map_take]
  have c2:cut (l.map tc) (k:Int) ((l.length:Int) - (m:Int))=((l.take (l.length - m)).drop k).map tc:=by
   have e:((l.length:Int) - (m:Int)).toNat=l.length - m:=by omega
   unfold cut
   rw [e,Int.toNat_natCast,List.map_drop,List.map_take]
  rw [bQ (by omega) (by omega) (by omega),aA,c1,bP (by simp; omega),aA,rW,aA,w64 (x:=(l.length:Int) - (m:Int)) (by omega) (by omega),bP (by simp; omega),aA,bQ (by omega) (by omega) (by omega),aA,c2,bP (by simp; omega),aA]
  have em:(max 0 (min (m:Int) 1000)).toNat=m:=by omega
  rw [em,<- List.map_append,<- List.map_append,Int.toNat_natCast,Int.toNat_natCast]
  have ei:l.take k++List.replicate m (blk s)++(l.take (l.length - m)).drop k=nq l k m s:=by
   unfold nq
   have hkm:k+m<=l.length:=by omega
   have hA:(l.take k++List.replicate m (blk s)).length=k+m:=by rw [List.length_append,List.length_take,List.length_replicate]; omega
   have hT:=List.take_of_length_le (l:=l.take k++List.replicate m (blk s)) (i:=l.length) (by rw [hA]; exact hkm)
   rw [List.take_append,hA,hT,List.drop_take,Nat.sub_sub,Nat.add_comm m k]
  rw [ei,mQ _ (by unfold nq; simp; omega),aA]
theorem BX (l:List aH) (w:Bool) (at_ n s:Int) (h:l.length<=1000) (ha: -9223372036854775808<=at_) (hb:at_<=9223372036854775807):mM ⟨l.map tc,w⟩ at_ n s=some ⟨(iO 0 (if dA l at_ n=0 then l else n9 l at_.toNat (dA l at_ n).toNat s)).map tc,false⟩:=by
 unfold mM
 simp only [ky,List.nil_append,MT]
 by_cases h0:at_ < 0\/at_>=l.length\/n<=0
 ·have e:((bif (decide (at_ < 0)) then some true else (bif (decide (at_>=(l.length:Int))) then some true else some (decide (n<=0)))):Option Bool)=some true:=by
   rcases h0 with h0 | h0 | h0
   ·simp [h0]
   ·cases h1:decide (at_ < 0) <;> simp [h0]
   ·cases h1:decide (at_ < 0) <;> cases h2:decide (at_>=(l.length:Int)) <;> simp [h0]
  have hw:dA l at_ n=0:=by unfold dA; split <;> omega
  rw [e,aA,cond_true,mQ _ (by omega),aA,if_pos hw]
 ·have e:((bif (decide (at_ < 0)) then some true else (bif (decide (at_>=(l.length:Int))) then some true else some (decide (n<=0)))):Option Bool)=some false:=by
   rw [decide_eq_false (by omega: ¬ at_ < 0),decide_eq_false (by omega: ¬ at_>=(l.length:Int)),decide_eq_false (by omega: ¬ n<=0)]
   rfl
  have hw:dA l at_ n=min n (l.length - at_):=by unfold dA; rw [if_neg (by omega)]; omega
  rw [e,aA,cond_false,w64 (x:=(l.length:Int) - at_) (by omega) (by omega),dN,<- hw]
  have hb2:0 < dA l at_ n/\at_+dA l at_ n<=l.length:=by omega
  rw [if_neg (by omega)]
  generalize dA l at_ n=v at hb2
  clear hw e
  obtain ⟨k,rfl⟩: ∃ k:Nat,at_=k:=⟨at_.toNat,by omega⟩
  obtain ⟨m,rfl⟩: ∃ m:Nat,v=m:=⟨v.toNat,by omega⟩
  have c1:cut (l.map tc) 0 (k:Int)=(l.take k).map tc:=by simp [cut,List.map_take]
  have ek:(k:Int)+(m:Int)=((k+m:Nat):Int):=by omega
  have c2:cut (l.map tc) ((k+m:Nat):Int) (l.length:Int)=(l.drop (k+m)).map tc:=by
   unfold cut
   rw [Int.toNat_natCast,Int.toNat_natCast,List.take_of_length_le (by rw [ky]; exact Nat.le_refl _),List.map_drop]
  rw [bQ (by omega) (by omega) (by omega),aA,c1,bP (by simp; omega),aA,w64 (x:=(k:Int)+(m:Int)) (by omega) (by omega),ek,bQ (by omega) (by omega) (by omega),aA,c2,bP (by simp; omega),aA,rW,aA,bP (by simp; omega),aA]
  have em:(max 0 (min (m:Int) 1000)).toNat=m:=by omega
  rw [em,<- List.map_append,<- List.map_append,Int.toNat_natCast,Int.toNat_natCast]
  change (Option.bind (fI ((n9 l k m s).map tc)) _)=_
  rw [mQ _ (by unfold n9; simp; omega),aA]
theorem BY (l:List aH) (w:Bool) (v:Int) (h:l.length<=1000000):mO ⟨l.map tc,w⟩ v=some (if (max 0 (min v 1000)).toNat=l.length then ⟨l.map tc,w⟩ else ⟨(iO 0 (nr l (max 0 (min v 1000)).toNat)).map tc,false⟩):=by
 unfold mO
 rw [zq _ _ _ (by omega),aA]
 simp only [ky,List.nil_append]
 generalize hv:max 0 (min v 1000)=u
 obtain ⟨k,rfl⟩: ∃ k:Nat,u=k:=⟨u.toNat,by omega⟩
 rw [Int.toNat_natCast]
 by_cases h0:k=l.length
 ·have e:((k:Int) == (l.length:Int))=true:=by simp [h0]
  rw [e,cond_true,if_pos h0]
 ·have e:((k:Int) == (l.length:Int))=false:=by rw [beq_eq_false_iff_ne]; omega
  have ec:dF (k:Int) (l.length:Int)=((min k l.length:Nat):Int):=by rw [dN]; omega
  have c1:cut (l.map tc) 0 ((min k l.length:Nat):Int)=(l.take k).map tc:=by
   simp only [cut,Int.toNat_natCast,Int.toNat_zero,List.drop_zero]
   rw [<- List.take_take,<- ky l,List.take_length,List.map_take]
  rw [e,cond_false,if_neg h0,ec,bQ (by omega) (by omega) (by omega),aA,c1,bP (by simp; omega),aA]
  have e3:(((l.take k).map tc).length:Int)=((min k l.length:Nat):Int):=by simp
  rw [e3,w64 (by omega) (by omega),rW,aA,bP (by simp; omega),aA,<- List.map_append]
  have c2:l.take k++List.replicate (max 0 (min ((k:Int) - ((min k l.length:Nat):Int)) 1000)).toNat (blk 0)=nr l k:=by
   unfold nr
   congr 2
   omega
  rw [c2,mQ _ (by unfold nr; simp; omega),aA]
def u9 (Z:List cK) (r:Int):Bool:=Z.any λx=>decide (x.e0<=r/\r<=x.e1)
theorem Du (Z:List cK) (r v:Int) (h:Z.length<=1000):iter (σ:=Int) (ρ:=Unit ⊕ Int) (λa=>(bif (decide (a < (Z.length:Int))) then (Option.bind (idx Z a) λe=>(Option.bind ((bif (decide (r>=e.e0)) then some (decide (r<=e.e1)) else some false):Option Bool) λf=>(bif f then (k8 (some v)) else some (.inl (IntKind.i64.wrap (a+1)))))) else some (.inr (.inl ())))) 0=some (if u9 Z r then .inr v else .inl ()):=by
 have key: ∀ (b d:List cK),d++b=Z->iter (σ:=Int) (ρ:=Unit ⊕ Int) (λa=>(bif (decide (a < (Z.length:Int))) then (Option.bind (idx Z a) λe=>(Option.bind ((bif (decide (r>=e.e0)) then some (decide (r<=e.e1)) else some false):Option Bool) λf=>(bif f then (k8 (some v)) else some (.inl (IntKind.i64.wrap (a+1)))))) else some (.inr (.inl ())))) (d.length:Int)=some (if u9 b r then .inr v else .inl ()):=by
  intro b
  induction b with
  | nil =>
   intro d hd
   simp at hd
   subst hd
   rw [cO (r:= .inl ())]
   ·rfl
   ·simp
  | cons c b ih =>
   intro d hd
   have hl:Z.length=d.length+b.length+1:=by rw [<- hd]; simp; omega
   have hc:decide ((d.length:Int) < (Z.length:Int))=true:=by simp; omega
   have hx:idx Z (d.length:Int)=some c:=by rw [<- hd]; exact lG d b c
   have hin:((bif (decide (r>=c.e0)) then some (decide (r<=c.e1)) else some false):Option Bool)=some (decide (c.e0<=r/\r<=c.e1)):=by
    by_cases h1:c.e0<=r <;> by_cases h2:r<=c.e1 <;> simp [h1,h2]
   by_cases hh:c.e0<=r/\r<=c.e1
   ·rw [cO (r:= .inr v)]
    ·have:u9 (c::b) r=true:=by unfold u9; rw [List.any_cons,decide_eq_true hh,Bool.true_or]
     rw [this]
     rfl
    ·simp only [hc,cond_true,hx,aA,hin]
     rw [decide_eq_true hh]
     rfl
   ·rw [eN (s':=((d++[c]).length:Int))]
    ·rw [ih (d++[c]) (by simpa using hd)]
     have:u9 (c::b) r=u9 b r:=by unfold u9; rw [List.any_cons,decide_eq_false hh,Bool.false_or]
     rw [this]
    ·simp only [hc,cond_true,hx,aA,hin]
     rw [decide_eq_false hh,cond_false,w64 (by omega) (by omega)]
     simp
 exact key Z [] rfl
theorem Gp (x:Int) (h0: -2147483648<=x) (h1:x<=2147483647):qe x=some (ofS x):=by
 unfold qe
 rw [Du _ x 0 (by decide),Du _ x 2 (by decide)]
 have e8:((bif (decide (x < 32)) then some true else some (decide (x > 1114111))):Option Bool)=some (decide (x < 32\/x > 1114111)):=by
  by_cases h2:x < 32 <;> by_cases h3:x > 1114111 <;> simp [h2,h3]
 rw [e8,aA]
 have en:inS cT x=(decide (x < 32\/x > 1114111) || u9 [⟨127,159⟩,⟨768,879⟩,⟨6832,6911⟩,⟨7616,7679⟩,⟨8203,8207⟩,⟨8400,8447⟩,⟨55296,57343⟩,⟨65024,65039⟩,⟨65056,65071⟩,⟨65279,65279⟩,⟨917760,917999⟩] x):=by
  rw [Bool.eq_iff_iff]
  simp only [inS,cT,u9,List.any_cons,List.any_nil,Bool.or_eq_true,decide_eq_true_eq,Bool.false_eq_true,or_false]
  constructor
  ·rintro (h | h | h | h | h | h | h | h | h | h | h | h | h) <;> omega
  ·omega
 have et:inS dD x=u9 [⟨4352,4447⟩,⟨11904,12350⟩,⟨12353,13311⟩,⟨13312,19903⟩,⟨19968,40959⟩,⟨40960,42191⟩,⟨44032,55203⟩,⟨63744,64255⟩,⟨65072,65135⟩,⟨65280,65376⟩,⟨65504,65510⟩,⟨127744,128591⟩,⟨129280,129535⟩,⟨131072,262141⟩] x:=by
  simp only [inS,dD,u9,List.any_cons,List.any_nil]
 unfold ofS
 rw [en,et]
 cases decide (x < 32\/x > 1114111) with
 | true=>rfl
 | false =>
  rw [cond_false,Bool.false_or]
  cases u9 [⟨127,159⟩,⟨768,879⟩,⟨6832,6911⟩,⟨7616,7679⟩,⟨8203,8207⟩,⟨8400,8447⟩,⟨55296,57343⟩,⟨65024,65039⟩,⟨65056,65071⟩,⟨65279,65279⟩,⟨917760,917999⟩] x with
  | true=>rfl
  | false =>
   cases u9 [⟨4352,4447⟩,⟨11904,12350⟩,⟨12353,13311⟩,⟨13312,19903⟩,⟨19968,40959⟩,⟨40960,42191⟩,⟨44032,55203⟩,⟨63744,64255⟩,⟨65072,65135⟩,⟨65280,65376⟩,⟨65504,65510⟩,⟨127744,128591⟩,⟨129280,129535⟩,⟨131072,262141⟩] x <;> rfl
theorem IY (l:List aH) (w:Bool) (at_ x s:Int) (h:l.length<=1000000) (ha: -9223372036854775808<=at_) (hb:at_<=9223372036854775807) (h0: -2147483648<=x) (h1:x<=2147483647):oQ ⟨l.map tc,w⟩ at_ x s=some ⟨(iO 0 (u7 l at_ x s)).map tc,false⟩:=by
 unfold oQ
 simp only [ky,List.nil_append]
 rw [Gp x h0 h1,aA]
 have h3:=pD x
 have fin: ∀ (q:List aH),q.length=l.length->(Option.bind (fI (q.map tc)) λa=>some a)=some ⟨(iO 0 q).map tc,false⟩:=λq hq=>by rw [mQ q (by omega),aA]
 rw [w64 (x:=(l.length:Int) - ofS x) (by omega) (by omega)]
 by_cases hc:ofS x=0\/at_ < 0\/at_ > l.length - ofS x
 ·have hb2:((bif (ofS x == 0) then some true else (bif (decide (at_ < 0)) then some true else some (decide (at_ > ((l.length:Int) - ofS x))))):Option Bool)=some true:=by
   rcases hc with hc | hc | hc
   ·simp [hc]
   ·cases h0:(ofS x == 0) <;> simp [hc]
   ·cases h0:(ofS x == 0) <;> cases h1:decide (at_ < 0) <;> simp [hc]
  rw [hb2,aA,cond_true]
  unfold u7
  rw [if_pos hc]
  exact fin _ rfl
 ·have hb2:((bif (ofS x == 0) then some true else (bif (decide (at_ < 0)) then some true else some (decide (at_ > ((l.length:Int) - ofS x))))):Option Bool)=some false:=by
   have e0:(ofS x == 0)=false:=by simp; omega
   have e1:decide (at_ < 0)=false:=decide_eq_false (by omega)
   rw [e0,cond_false,e1,cond_false]
   simp
   omega
  rw [hb2,aA,cond_false,Gm _ h,aA]
  obtain ⟨k,rfl⟩: ∃ k:Nat,at_=k:=⟨at_.toNat,by omega⟩
  unfold u7
  rw [if_neg hc]
  have hk:k < (l.map tc).length:=by rw [ky]; omega
  rw [fL,List.getElem?_eq_getElem hk,aA,Int.toNat_natCast]
  by_cases h1:ofS x=1
  ·have e1:(ofS x == 2)=false:=by simp [h1]
   have em:(l.map tc).set k ⟨x,s,0⟩=(l.set k ⟨x,s,0⟩).map tc:=by rw [List.map_set]; rfl
   rw [e1,cond_false,aA,if_pos h1,em]
   exact fin _ (by simp)
  ·have h2:ofS x=2:=by omega
   have e1:(ofS x == 2)=true:=by simp [h2]
   have hk2:k+1 < l.length:=by omega
   have ew:IntKind.i64.wrap ((k:Int)+1)=((k+1:Nat):Int):=by rw [w64 (by omega) (by omega)]; omega
   rw [e1,cond_true,ew,fL,List.getElem?_eq_getElem (by simpa using hk),aA,fL,List.getElem?_eq_getElem (by simp; omega),aA,if_neg h1,Int.toNat_natCast]
   have em:(((l.map tc).set k ⟨x,s,0⟩).set k ⟨x,s,1⟩).set (k+1) ⟨x,s,2⟩=((l.set k ⟨x,s,1⟩).set (k+1) ⟨x,s,2⟩).map tc:=by
    rw [List.set_set,List.map_set,List.map_set]
    rfl
   rw [em]
   generalize hl1:(l.set k ⟨x,s,1⟩).set (k+1) ⟨x,s,2⟩=l1
   have hlen:l1.length=l.length:=by rw [<- hl1]; simp
   unfold BV
   rw [show ((k:Int)).toNat=k from Int.toNat_natCast k]
   by_cases h0:(k:Int) > 0
   ·have em1:IntKind.i64.wrap ((k:Int) - 1)=((k - 1:Nat):Int):=by rw [w64 (by omega) (by omega)]; omega
    have hk1:k - 1 < l1.length:=by omega
    have hg:idx (l1.map tc) ((k - 1:Nat):Int)=some (tc l1[k - 1]):=by rw [fL,List.getElem?_map,List.getElem?_eq_getElem hk1]; rfl
    rw [decide_eq_true h0,cond_true,em1,hg,if_pos h0,List.getElem?_eq_getElem hk1]
    simp only [aA]
    by_cases hp:(l1[k - 1]).part=1
    ·have e3:((tc l1[k - 1]).part == 1)=true:=by simp [tc,hp]
     have es:(l1.map tc).set (k - 1) ⟨32,(tc l1[k - 1]).aO,0⟩=(l1.set (k - 1) (blk (l1[k - 1]).aO)).map tc:=by rw [List.map_set]; rfl
     rw [e3,cond_true,if_pos hp]
     simp only [aA,Int.toNat_natCast,es]
     exact fin _ (by simpa using hlen)
    ·have e3:((tc l1[k - 1]).part == 1)=false:=by simp [tc,hp]
     rw [e3,cond_false,if_neg hp]
     simp only [aA]
     exact fin _ hlen
   ·rw [decide_eq_false h0,cond_false,if_neg h0]
    simp only [aA]
    rw [cond_false,aA]
    exact fin _ hlen
def rok (x:Int):Prop:= -2147483648<=x/\x<=2147483647
def okR (l:List aH):Prop:= ∀ c∈l,rok c.rune
theorem wv (s:Int):rok (blk s).rune:=by unfold rok blk; simp
theorem pF: ∀ (l:List aH) (p:Int),okR l->okR (iO p l)
 | [],_,_=>λc hc=>by cases hc
 | c::r,p,h=>by
  intro d hd
  simp only [iO,List.mem_cons] at hd
  rcases hd with rfl | hd
  ·unfold u5
   cases yf p c r with
   | true=>exact wv c.aO
   | false=>exact h c (by simp)
  ·exact pF r _ (λe he=>h e (by simp [he])) d hd
theorem tW {l:List aH} (h:okR l) (i:Nat) {c:aH} (hc:rok c.rune):okR (l.set i c):=by
 intro d hd
 rcases List.mem_or_eq_of_mem_set hd with hd | rfl
 ·exact h d hd
 ·exact hc
theorem IZ {l:List aH} (h:okR l) (at_ s:Int) {x:Int} (hx:rok x):okR (u7 l at_ x s):=by
 unfold u7
 split
 ·exact h
 ·split
  ·exact tW h _ hx
  ·unfold BV
   have h1:=tW (tW h at_.toNat (c:=⟨x,s,1⟩) hx) (at_.toNat+1) (c:=⟨x,s,2⟩) hx
   split
   ·split
    ·exact tW h1 _ (wv _)
    ·exact h1
   ·exact h1
theorem wx (n:Nat) (s:Int):okR (List.replicate n (blk s)):=λc hc=>by rw [List.eq_of_mem_replicate hc]; exact wv s
theorem tX {a b:List aH} (ha:okR a) (hb:okR b):okR (a++b):=λc hc=>(List.mem_append.1 hc).elim (ha c) (hb c)
theorem tY {a:List aH} (ha:okR a) (n:Nat):okR (a.take n):=λc hc=>ha c (List.mem_of_mem_take hc)
theorem xh {a:List aH} (ha:okR a) (n:Nat):okR (a.drop n):=λc hc=>ha c (List.mem_of_mem_drop hc)
theorem va (a b s:Int): ∀ {l:List aH} (i:Int),okR l->okR (kK a b s i l)
 | [],_,_=>λc hc=>by cases hc
 | c::r,i,h=>by
  intro d hd
  simp only [kK,List.mem_cons] at hd
  rcases hd with rfl | hd
  ·split
   ·exact wv s
   ·exact h c (by simp)
  ·exact va a b s (i+1) (λe he=>h e (by simp [he])) d hd
theorem w32 {x:Int} (h:rok x):IntKind.i64.wrap x=x:=by obtain ⟨h1,h2⟩:=h; exact w64 (by omega) (by omega)
theorem MU (r:aG) (h:r.cells.length<=1000000) (hr:okR r.cells):tt r (told r)=some true:=by
 unfold tt told
 simp only [ky]
 have e6:((bif ((r.cells.length:Int) != (r.cells.length:Int)) then some true else some (!(r.wrapped == r.wrapped))):Option Bool)=some false:=by simp
 rw [e6,aA,cond_false]
 have key: ∀ (b d:List aH),d++b=r.cells->iter (σ:=Int) (ρ:=Unit ⊕ Bool) (λa=>(bif (decide (a < (r.cells.length:Int))) then (Option.bind (idx r.cells a) λe=>(Option.bind ((Option.bind (idx (r.cells.map tc) a) λf=>(bif ((IntKind.i64.wrap e.rune) != f.rune) then some true else (Option.bind (idx (r.cells.map tc) a) λg=>(bif (e.aO != g.aO) then some true else (Option.bind (idx (r.cells.map tc) a) λi=>some (e.part != i.part)))))):Option Bool) λj=>(bif j then (k8 (some false)) else some (.inl (IntKind.i64.wrap (a+1)))))) else some (.inr (.inl ())))) (d.length:Int)=some (.inl ()):=by
  intro b
  induction b with
  | nil =>
   intro d hd
   simp at hd
   subst hd
   rw [cO (r:= .inl ())]
   simp
  | cons c b ih =>
   intro d hd
   have hl:r.cells.length=d.length+b.length+1:=by rw [<- hd]; simp; omega
   have hc:decide ((d.length:Int) < (r.cells.length:Int))=true:=by simp; omega
   have hx:idx r.cells (d.length:Int)=some c:=by rw [<- hd]; exact lG d b c
   have hx2:idx (r.cells.map tc) (d.length:Int)=some (tc c):=by
    rw [<- hd,List.map_append,List.map_cons,<- ky d]
    exact lG _ _ _
   have hcr:rok c.rune:=hr c (by rw [<- hd]; simp)
   rw [eN (s':=((d++[c]).length:Int))]
   ·exact ih (d++[c]) (by simpa using hd)
   ·simp only [hc,cond_true,hx,hx2,aA,w32 hcr,tc,bne_self_eq_false,cond_false]
    rw [w64 (by omega) (by omega)]
    simp
 have h0:=key r.cells [] rfl
 have e0:((([]:List aH).length:Nat):Int)=0:=rfl
 rw [e0] at h0
 rw [h0,aA]
def ins (l:List aH) (at_ n s:Int):List aH:=if dA l at_ n=0 then l else nq l at_.toNat (dA l at_ n).toNat s
def del (l:List aH) (at_ n s:Int):List aH:=if dA l at_ n=0 then l else n9 l at_.toNat (dA l at_ n).toNat s
theorem xi (l:List aH) (at_ n:Int):dA l at_ n=0\/(0 < dA l at_ n/\0<=at_/\at_+dA l at_ n<=l.length):=by
 unfold dA
 split
 ·exact .inl rfl
 ·omega
theorem Dv {σ ρ:Type} {f:σ->Option (σ ⊕ ρ)} (S:Nat->σ) (n:Nat) (r:ρ) (hs: ∀ i,i < n->f (S i)=some (.inl (S (i+1)))) (he:f (S n)=some (.inr r)):iter f (S 0)=some r:=by
 have key: ∀ i,i<=n->iter f (S 0)=iter f (S i):=by
  intro i
  induction i with
  | zero=>intro _; rfl
  | succ i ih =>
   intro hi
   rw [ih (by omega),eN (hs i (by omega))]
 rw [key n (Nat.le_refl n),cO he]
theorem fw {σ ρ β:Type} {f:σ->Option (σ ⊕ ρ)} {s:σ} {g:ρ->Option β} {out:Option β} (S:Nat->σ) (n:Nat) (r:ρ) (h0:s=S 0) (hs: ∀ i,i < n->f (S i)=some (.inl (S (i+1)))) (he:f (S n)=some (.inr r)) (hg:g r=out):Option.bind (iter f s) g=out:=by
 rw [h0,Dv S n r hs he]
 exact hg
theorem xj {σ ρ:Type} {f:σ->Option (σ ⊕ ρ)} (Inv:σ->Prop) (m:σ->Nat) (qW:ρ->Prop)
  (hs: ∀ s,Inv s->(∃ s',f s=some (.inl s')/\Inv s'/\m s' < m s)\/(∃ r,f s=some (.inr r)/\qW r)): ∀ s,Inv s -> ∃ r,iter f s=some r/\qW r:=by
 have key: ∀ (n:Nat) s,m s<=n->Inv s -> ∃ r,iter f s=some r/\qW r:=by
  intro n
  induction n with
  | zero =>
   intro s hm hi
   rcases hs s hi with ⟨s',hf,hi',hlt⟩ | ⟨r,hf,hp⟩
   ·omega
   ·exact ⟨r,cO hf,hp⟩
  | succ n ih =>
   intro s hm hi
   rcases hs s hi with ⟨s',hf,hi',hlt⟩ | ⟨r,hf,hp⟩
   ·rw [eN hf]
    exact ih s' (by omega) hi'
   ·exact ⟨r,cO hf,hp⟩
 intro s hi
 exact key (m s) s (Nat.le_refl _) hi
theorem rh {σ ρ β:Type} {f:σ->Option (σ ⊕ ρ)} {s:σ} {g:ρ->Option β} {out:Option β} (Inv:σ->Prop) (m:σ->Nat) (qW:ρ->Prop) (h0:Inv s)
  (hs: ∀ s,Inv s->(∃ s',f s=some (.inl s')/\Inv s'/\m s' < m s)\/(∃ r,f s=some (.inr r)/\qW r)) (hg: ∀ r,qW r->g r=out):Option.bind (iter f s) g=out:=by
 obtain ⟨r,h1,h2⟩:=xj Inv m qW hs s h0
 rw [h1]
 exact hg r h2
theorem Gq {α:Type} (l:List α) {i:Int} (h0:0<=i) (h1:i < l.length): ∃ a,idx l i=some a/\a∈l:=by
 obtain ⟨n,rfl⟩:=Int.eq_ofNat_of_zero_le h0
 rw [fL]
 have hn:n < l.length:=by omega
 rw [List.getElem?_eq_getElem hn]
 exact ⟨_,rfl,List.getElem_mem hn⟩
theorem zr (p q:Prop) [Decidable p] [Decidable q]:((bif decide p then some (decide q) else some false):Option Bool)=some (decide (p/\q)):=by
 by_cases a1:p <;> by_cases a2:q <;> simp [a1,a2]
theorem or2 (p q:Prop) [Decidable p] [Decidable q]:((bif decide p then some true else some (decide q)):Option Bool)=some (decide (p\/q)):=by
 by_cases a1:p <;> by_cases a2:q <;> simp [a1,a2]
theorem dC {α:Type} (l:List α) (n:Nat) (h:n < l.length):idx l (n:Int)=some l[n]:=by rw [fL,List.getElem?_eq_getElem h]
theorem I3 {α:Type} (l r:List α) (x y:α):(l++x::r).set l.length y=l++y::r:=by simp
theorem Dw {α:Type} (A B C:List α) (hi:Int) (h:hi=((A.length+B.length:Nat):Int)):cut (A++B++C) (A.length:Int) hi=B:=by
 subst h
 simp only [cut,Int.toNat_natCast]
 rw [List.take_left' (by simp),List.drop_left]
theorem qk {α:Type} (l:List α) (a b:Nat):cut l (a:Int) (b:Int)=(l.take b).drop a:=by simp [cut]
theorem xk {α:Type} (l:List α) (b:Nat):cut l 0 (b:Int)=l.take b:=by simp [cut]
def szN (n:Int):Nat:=(max 1 (min n 1000)).toNat
theorem BZ (n:Int):imax 1 (dF n 1000)=(szN n:Int):=by rw [gy,dN]; unfold szN; omega
theorem oU (n:Int):1<=szN n:=by unfold szN; omega
theorem mR (n:Int):szN n<=1000:=by unfold szN; omega
theorem Gr (n:Nat) (h0:1<=n) (h1:n<=1000):szN n=n:=by unfold szN; omega
def iF (W:Nat) (s:Int):aG:=⟨List.replicate W (blk s),false⟩
def ri (g:aZ):hU:=⟨g.w,g.l.map told⟩
def gok (W:Nat) (r:aG):Prop:=r.cells.length=W/\okR r.cells
structure GI (W:Nat) (l:List aG):Prop where
 w1:1<=W
 w2:W<=1000
 l1:1<=l.length
 l2:l.length<=1000
 rs: ∀ r∈l,gok W r
theorem rj (n lo hi:Int):iu n lo hi=some (max lo (min n hi)):=by
 unfold iu
 rw [gy,dN]
theorem rk (n:Int):je n=some (szN n:Int):=by
 unfold je iu
 rw [BZ]
 rfl
theorem xl (n:Int):n6 n=some (szN n:Int):=by
 unfold n6
 rw [BZ]
theorem zt (W:Nat) (s:Int) (h:W<=1000):jM W s=some (iF W s):=by
 rw [zp]
 have:(max 0 (min (W:Int) 1000)).toNat=W:=by omega
 rw [this]
 rfl
theorem zu (W:Nat) (s:Int) (h:W<=1000):jg W s=some (told (iF W s)):=by
 rw [rW]
 have:(max 0 (min (W:Int) 1000)).toNat=W:=by omega
 rw [this]
 rfl
theorem rX (W:Nat) (s:Int):gok W (iF W s):=⟨by simp [iF],wx W s⟩
def vZ (w h:Int):aZ:=⟨(szN w:Int),List.replicate (szN h) (iF (szN w) 0)⟩
theorem LA (w h:Int):GI (szN w) (vZ w h).l:=by
 refine ⟨oU w,mR w,?_,?_,?_⟩
 ·simpa [vZ] using oU h
 ·simpa [vZ] using mR h
 ·intro r hr
  rw [List.eq_of_mem_replicate hr]
  exact rX _ _
theorem LC (w h:Int):ot w h=some (vZ w h):=by
 unfold ot
 rw [rk,aA,rk,aA]
 have hw:=mR w
 have hh:=mR h
 refine fw (λi=>((⟨(szN w:Int),List.replicate i (iF (szN w) 0)⟩:aZ),(i:Int))) (szN h) _ rfl ?_ ?_ rfl
 ·intro i hi
  try dsimp only
  rw [decide_eq_true (by omega),cond_true,zt _ _ hw,aA,bP (by simp; omega),aA,w64 (by omega) (by omega),<- List.replicate_succ']
  rfl
 ·try dsimp only
  rw [decide_eq_false (by omega),cond_false]
  rfl
theorem I4 (w h:Int):qZ w h=some (ri (vZ w h)):=by
 unfold qZ
 rw [xl,aA]
 have hw:=mR w
 have hh:=mR h
 refine fw (λi=>((⟨(szN w:Int),List.replicate i (told (iF (szN w) 0))⟩:hU),(i:Int))) (szN h) (⟨(szN w:Int),List.replicate (szN h) (told (iF (szN w) 0))⟩:hU) rfl ?_ ?_ ?_
 ·intro i hi
  try dsimp only
  rw [xl,aA,decide_eq_true (by omega),cond_true,zu _ _ hw,aA,bP (by simp; omega),aA,w64 (by omega) (by omega),<- List.replicate_succ']
  rfl
 ·try dsimp only
  rw [xl,aA,decide_eq_false (by omega),cond_false]
 ·simp [ri,vZ]
theorem Gs (r:aG) (h:r.cells.length<=1000000):na r=some r:=by
 unfold na
 rw [xe _ h,aA]
def Gt:aG:=⟨[],false⟩
def kU (l:List aG) (y:Int):aG:=if 0<=y/\y < l.length then l[y.toNat]?.getD Gt else Gt
theorem Dx {l:List aG} {n:Nat} (h:n < l.length):kU l n=l[n]:=by
 unfold kU
 rw [if_pos (by omega),Int.toNat_natCast,List.getElem?_eq_getElem h]
 rfl
theorem LD (w:Int) (l:List aG) (y:Int) (h: ∀ r∈l,r.cells.length<=1000000):fF ⟨w,l⟩ y=some (kU l y):=by
 unfold fF kU
 rw [or2,aA]
 by_cases hy:0<=y/\y < l.length
 ·rw [decide_eq_false (by (try dsimp only); omega),cond_false,if_pos hy]
  obtain ⟨n,rfl⟩:=Int.eq_ofNat_of_zero_le hy.1
  have hn:n < l.length:=by omega
  simp only [Int.toNat_natCast]
  rw [dC l n hn,aA,Gs _ (h _ (List.getElem_mem hn)),aA,List.getElem?_eq_getElem hn]
  rfl
 ·rw [decide_eq_true (by (try dsimp only); omega),cond_true,if_neg hy]
  rfl
def rsz (W:Nat) (r:aG):aG:=if W=r.cells.length then r else ⟨iO 0 (nr r.cells W),false⟩
theorem LF (W:Nat) (hW:W<=1000) (r:aG) (h:r.cells.length<=1000000):jj r W=some (rsz W r):=by
 rw [EW _ _ h]
 have:(max 0 (min (W:Int) 1000)).toNat=W:=by omega
 rw [this]
 rfl
theorem I5 (W:Nat) (hW:W<=1000) (r:aG) (h:r.cells.length<=1000000):mO (told r) W=some (told (rsz W r)):=by
 unfold told
 rw [BY _ _ _ h]
 have:(max 0 (min (W:Int) 1000)).toNat=W:=by omega
 rw [this]
 unfold rsz
 split <;> rfl
theorem Dz (W:Nat) (r:aG) (h:okR r.cells):gok W (rsz W r):=by
 unfold rsz
 split
 ·rename_i e
  exact ⟨e.symm,h⟩
 ·refine ⟨?_,pF _ _ (tX (tY h _) (wx _ _))⟩
  simp only [kJ,nr,List.length_append,List.length_take,List.length_replicate]
  omega
def inG (l:List aG) (y:Int):Bool:=decide (0<=y/\y < l.length)
def sG (W:Nat) (l:List aG) (y:Int) (r:aG):List aG:=if 0<=y/\y < l.length then l.set y.toNat (rsz W r) else l
theorem ka (W:Nat) (l:List aG) (y:Int) (r:aG):(sG W l y r).length=l.length:=by
 unfold sG
 split <;> simp
theorem EZ {W:Nat} {l:List aG} (h: ∀ r∈l,gok W r) (y:Int) (r:aG) (hr:okR r.cells): ∀ q∈sG W l y r,gok W q:=by
 unfold sG
 split
 ·intro q hq
  rcases List.mem_or_eq_of_mem_set hq with hq | hq
  ·exact h q hq
  ·rw [hq]
   exact Dz W r hr
 ·exact h
theorem Gu (W:Nat) (hW:W<=1000) (l:List aG) (y:Int) (r:aG) (h:r.cells.length<=1000000):eR ⟨W,l⟩ y r=some (inG l y,⟨W,sG W l y r⟩):=by
 unfold eR sG inG
 rw [or2,aA]
 by_cases hy:0<=y/\y < l.length
 ·rw [decide_eq_false (by (try dsimp only); omega),cond_false,if_pos hy,decide_eq_true hy]
  obtain ⟨n,rfl⟩:=Int.eq_ofNat_of_zero_le hy.1
  have hn:n < l.length:=by omega
  try dsimp only
  rw [LF W hW r h,aA,dC l n hn,aA]
 ·rw [decide_eq_true (by (try dsimp only); omega),cond_true,if_neg hy,decide_eq_false hy]
theorem I6 (W:Nat) (hW:W<=1000) (l:List aG) (y:Int) (r:aG) (h:r.cells.length<=1000000) (hl:l.length<=1000000):nE ⟨W,l.map told⟩ y (told r)=some (⟨W,(sG W l y r).map told⟩,inG l y):=by
 unfold nE sG inG
 rw [or2,aA]
 simp only [List.length_map]
 by_cases hy:0<=y/\y < l.length
 ·rw [decide_eq_false (by (try dsimp only); omega),cond_false,if_pos hy,decide_eq_true hy]
  obtain ⟨n,rfl⟩:=Int.eq_ofNat_of_zero_le hy.1
  have hn:n < l.length:=by omega
  rw [bP (by simp; omega),aA,I5 W hW r h,aA,List.nil_append,dC (l.map told) n (by simpa using hn),aA]
  simp only [Int.toNat_natCast,List.map_set]
 ·rw [decide_eq_true (by (try dsimp only); omega),cond_true,if_neg hy,decide_eq_false hy]
theorem rY (l:List aG) (h:l.length<=1000000):dW l=some l:=by
 unfold dW
 rw [bP (by simp; omega),aA]
 rfl
theorem I7 {σ:Type} (Y:σ->aG->Option (σ×Bool)) (S:Nat->σ) (l:List aG) (hl:l.length<=1000000) (h: ∀ r∈l,r.cells.length<=1000000) (hY: ∀ i (hi:i < l.length),Y (S i) l[i]=some (S (i+1),true)):jk Y (S 0) l=some (S l.length):=by
 unfold jk
 refine fw (λi=>((i:Int),S i)) l.length (.inl (S l.length)) rfl ?_ ?_ rfl
 ·intro i hi
  try dsimp only
  rw [decide_eq_true (by omega),cond_true,dC l i hi,aA,Gs _ (h _ (List.getElem_mem hi)),aA,hY i hi,aA]
  try dsimp only
  rw [Bool.not_true,cond_false,w64 (by omega) (by omega)]
  rfl
 ·try dsimp only
  rw [decide_eq_false (by omega),cond_false]
theorem xm (l:List aG) (hl:l.length<=1000000) (h: ∀ r∈l,r.cells.length<=1000000):jm l=some (l,l):=by
 unfold jm mH
 rw [aA]
 have key:=I7 (λ(s40:List aG) (x9:aG)=>(Option.bind (chk (eY s40.length [x9].length 32)) λ_=>some ((s40++[x9]),true))) (λi=>l.take i) l hl h (by
  intro i hi
  try dsimp only
  rw [bP (by simp; omega),aA,<- List.take_succ_eq_append_getElem hi])
 rw [List.take_length] at key
 change jk _ ([]:List aG) l=some l at key
 rw [key]
 rfl
theorem wu (w:Int) (l:List aG) (hl:l.length<=1000000) (h: ∀ r∈l,r.cells.length<=1000000):ku ⟨w,l⟩=some (l,⟨w,l⟩):=by
 unfold ku
 try dsimp only
 rw [xm l hl h,aA,lU rfl,aA]
theorem B4 (w:Int) (l:List aG) (hl:l.length<=1000000) (h: ∀ r∈l,r.cells.length<=1000000):jQ ⟨w,l⟩=some (⟨w,l⟩,⟨w,l⟩):=by
 unfold jQ
 try dsimp only
 rw [xm l hl h,aA,lU rfl,aA]
theorem mS {α:Type} {l r:List α} {x:α} {k:Int} (h:k=l.length):idx (l++x::r) k=some x:=by rw [h,lG]
theorem ov {α:Type} {l r:List α} {x y:α} {k:Nat} (h:k=l.length):(l++x::r).set k y=l++y::r:=by rw [h,I3]
theorem nX {α:Type} (l:List α) (a b:Nat) (h:a<=b) (h2:b<=l.length):(cut l (a:Int) (b:Int)).length=b - a:=by
 rw [qk,List.length_drop,List.length_take]
 omega
def loS (l:List aG) (t:Int):Nat:=(max 0 (min t ((l.length:Int) - 1))).toNat
theorem vb (l:List aG) (t:Int) (h:1<=l.length):loS l t < l.length:=by unfold loS; omega
theorem ow (l:List aG) (t:Int):max 0 (min t ((l.length:Int) - 1))=(loS l t:Int):=by unfold loS; omega
theorem yF (w:Int) (l:List aG) (top aK:Int) (h1:1<=l.length) (h2:l.length<=1000000):eC ⟨w,l⟩ top aK=some (if loS l aK < loS l top then .inl () else .inr ((loS l top:Int),((loS l aK+1:Nat):Int))):=by
 unfold eC
 dsimp only
 have ht:=vb l top h1
 have hb:=vb l aK h1
 rw [w64 (x:=(l.length:Int) - 1) (by omega) (by omega),rj,aA,rj,aA,ow,ow]
 by_cases h:loS l aK < loS l top
 ·rw [decide_eq_true (by omega),cond_true,if_pos h]
 ·rw [decide_eq_false (by omega),cond_false,if_neg h,w64 (by omega) (by omega),bQ (by omega) (by omega) (by omega),aA]
  rfl
def kN (n:Int) (b:Nat):Nat:=(max 0 (min n (b:Int))).toNat
theorem KE (n:Int) (b:Nat):max 0 (min n (b:Int))=(kN n b:Int):=by unfold kN; omega
theorem DA (n:Int) (b:Nat):kN n b<=b:=by unfold kN; omega
def upB {α:Type} (k:Nat) (B:List α) (x:α):List α:=B.drop k++List.replicate (min k B.length) x
def l5 {α:Type} (k:Nat) (B:List α) (x:α):List α:=List.replicate (min k B.length) x++B.take (B.length - k)
theorem xn {α:Type} (k:Nat) (B:List α) (x:α):(upB k B x).length=B.length:=by
 unfold upB
 rw [List.length_append,List.length_drop,List.length_replicate]
 omega
theorem tZ {α:Type} (k:Nat) (B:List α) (x:α):(l5 k B x).length=B.length:=by
 unfold l5
 rw [List.length_append,List.length_take,List.length_replicate]
 omega
theorem I8 {α β:Type} (f:α->β) (k:Nat) (B:List α) (x:α):(upB k B x).map f=upB k (B.map f) (f x):=by
 simp [upB]
theorem E0 {α β:Type} (f:α->β) (k:Nat) (B:List α) (x:α):(l5 k B x).map f=l5 k (B.map f) (f x):=by
 simp [l5]
theorem Gv {α:Type} (A B C:List α) (n:Nat) (h:n<=B.length):(A++B++C).drop (A.length+n)=B.drop n++C:=by
 rw [List.append_assoc,List.drop_append,List.drop_append]
 have e1:A.drop (A.length+n)=[]:=List.drop_eq_nil_of_le (by omega)
 have e2:A.length+n - A.length=n:=by omega
 have e3:n - B.length=0:=by omega
 rw [e1,e2,e3,List.nil_append,List.drop_zero]
theorem KF {α:Type} (A B C:List α) (n:Nat) (h:n<=B.length):(A++B++C).take (A.length+n)=A++B.take n:=by
 rw [List.append_assoc,List.take_append,List.take_append]
 have e1:A.take (A.length+n)=A:=List.take_of_length_le (by omega)
 have e2:A.length+n - A.length=n:=by omega
 have e3:n - B.length=0:=by omega
 rw [e1,e2,e3,List.take_zero,List.append_nil]
theorem I9 {α:Type} (A B C:List α) (m n:Nat) (h:n<=B.length) (h2:m<=n):cut (A++B++C) ((A.length+m:Nat):Int) ((A.length+n:Nat):Int)=(B.take n).drop m:=by
 rw [qk,KF A B C n h]
 have:=Gv A (B.take n) [] m (by rw [List.length_take]; omega)
 simp
theorem MV (W:Nat) (hW:W<=1000) (A B C:List aG) (top aK n s:Int) (hl:(A++B++C).length<=1000000) (hB:1<=B.length)
  (hreg:eC ⟨W,A++B++C⟩ top aK=some (.inr ((A.length:Int),((A.length+B.length:Nat):Int)))) :
  fU ⟨W,A++B++C⟩ top aK n s=some (B.take (kN n B.length),⟨W,A++upB (kN n B.length) B (iF W s)++C⟩):=by
 unfold fU
 rw [hreg,aA]
 dsimp only
 have hk:=DA n B.length
 simp only [List.length_append] at hl
 rw [bQ (by omega) (by omega) (by simp only [List.length_append]; omega),aA,Dw A B C _ rfl,rj,aA,KE]
 generalize kN n B.length=k at hk
 rw [bQ (by omega) (by omega) (by omega),aA]
 have e1:cut (A++B++C) ((A.length:Int)+0) ((A.length:Int)+(k:Int))=B.take k:=by
  have:=I9 A B C 0 k hk (by omega)
  simpa using this
 have e2:qJ (A++B++C) (A.length:Int) ((A.length+B.length:Nat):Int) ((A.length:Int)+(k:Int)) ((A.length:Int)+(B.length:Int))=A++B.drop k++(B.drop (B.length - k)++C):=by
  have c:=I9 A B C k B.length (Nat.le_refl _) hk
  rw [List.take_length] at c
  have c':cut (A++B++C) ((A.length:Int)+(k:Int)) ((A.length:Int)+(B.length:Int))=B.drop k:=by simpa using c
  unfold qJ
  rw [c',Int.toNat_natCast,Int.toNat_natCast,List.append_assoc A B C,List.take_left,List.take_of_length_le (l:=B.drop k) (by rw [List.length_drop]; omega),List.length_drop,<- List.append_assoc A B C,Gv A B C _ (by omega)]
 rw [e1,rY _ (by rw [List.length_take]; omega),aA,bQ (by omega) (by omega) (by omega),aA,e2]
 have hL:(cut (A++B.drop k++(B.drop (B.length - k)++C)) (A.length:Int) ((A.length+B.length:Nat):Int)).length=B.length:=by
  rw [nX _ _ _ (by omega) (by simp; omega)]
  omega
 rw [hL,w64 (by omega) (by omega)]
 refine fw (λi=>((⟨W,A++(B.drop k++List.replicate i (iF W s))++(B.drop (B.length - k+i)++C)⟩:aZ),((B.length - k+i:Nat):Int))) k (⟨W,A++upB k B (iF W s)++C⟩:aZ) ?_ ?_ ?_ rfl
 ·have:(B.length:Int) - (k:Int)=((B.length - k+0:Nat):Int):=by omega
  rw [this]
  simp
 ·intro i hi
  dsimp only
  have hlen:(A++(B.drop k++List.replicate i (iF W s))++(B.drop (B.length - k+i)++C)).length=A.length+B.length+C.length:=by simp; omega
  have hc:(cut (A++(B.drop k++List.replicate i (iF W s))++(B.drop (B.length - k+i)++C)) (A.length:Int) ((A.length+B.length:Nat):Int)).length=B.length:=by
   rw [nX _ _ _ (by omega) (by rw [hlen]; omega)]
   omega
  rw [hc,decide_eq_true (by omega),cond_true,zt _ _ hW,aA,bQ (by omega) (by omega) (by rw [hlen]; omega),aA]
  obtain ⟨x,hx,_⟩:=Gq (cut (A++(B.drop k++List.replicate i (iF W s))++(B.drop (B.length - k+i)++C)) (A.length:Int) ((A.length+B.length:Nat):Int)) (i:=((B.length - k+i:Nat):Int)) (by omega) (by rw [hc]; omega)
  rw [hx,aA,w64 (by omega) (by omega),List.drop_eq_getElem_cons (l:=B) (i:=B.length - k+i) (by omega),List.cons_append,ov (by simp; omega),List.replicate_succ']
  simp [Nat.add_assoc]
  omega
 ·dsimp only
  have hlen:(A++(B.drop k++List.replicate k (iF W s))++(B.drop (B.length - k+k)++C)).length=A.length+B.length+C.length:=by simp; omega
  have hc:(cut (A++(B.drop k++List.replicate k (iF W s))++(B.drop (B.length - k+k)++C)) (A.length:Int) ((A.length+B.length:Nat):Int)).length=B.length:=by
   rw [nX _ _ _ (by omega) (by rw [hlen]; omega)]
   omega
  rw [hc,decide_eq_false (by omega),cond_false,List.drop_eq_nil_of_le (as:=B) (i:=B.length - k+k) (by omega)]
  unfold upB
  rw [Nat.min_eq_left hk]
  simp
theorem B5 (l:List aG) (h:l.length<=1000000):fS l=some l.reverse:=by
 unfold fS
 refine rh (λs:List aG×Int×Int=> ∃ t:Nat,s.2.1=t/\s.2.2=(l.length:Int) - 1 - t/\2*t<=l.length+1/\s.1.length=l.length /\ ∀ p,p < l.length->s.1[p]?=if p < t\/l.length - 1 - t < p then l[l.length - 1 - p]? else l[p]?) (λs=>(s.2.2 - s.2.1+1).toNat) (λr=>r=l.reverse) ?_ ?_ (λr hr=>by rw [hr])
 ·refine ⟨0,rfl,?_,by omega,rfl,λp hp=> ?_⟩
  ·dsimp only
   rw [w64 (by omega) (by omega)]
   omega
  ·rw [if_neg (by omega)]
 ·rintro ⟨L,i,j⟩ ⟨t,hi,hj,ht,hL,hp⟩
  dsimp only at hi hj hL hp ⊢
  subst hi hj
  by_cases hlt:(t:Int) < (l.length:Int) - 1 - t
  ·have hj:(l.length:Int) - 1 - (t:Int)=((l.length - 1 - t:Nat):Int):=by omega
   have h1:t < L.length:=by omega
   have h2:l.length - 1 - t < L.length:=by omega
   have g1:=hp t (by omega)
   have g2:=hp (l.length - 1 - t) (by omega)
   rw [if_neg (by omega)] at g1 g2
   refine .inl ⟨((L.set t L[l.length - 1 - t]).set (l.length - 1 - t) L[t],((t+1:Nat):Int),(l.length:Int) - 1 - ((t+1:Nat):Int)),?_,⟨t+1,rfl,rfl,by omega,by simp [hL],?_⟩,by dsimp only; omega⟩
   ·rw [decide_eq_true hlt,cond_true,hj,dC L _ h1,dC L _ h2]
    simp only [aA,Int.toNat_natCast]
    rw [w64 (by omega) (by omega),w64 (by omega) (by omega)]
    congr 3
    congr 1
    omega
   ·intro p hpl
    have hg1:L[t]?=some L[t]:=List.getElem?_eq_getElem h1
    have hg2:L[l.length - 1 - t]?=some L[l.length - 1 - t]:=List.getElem?_eq_getElem h2
    dsimp only
    by_cases c1:p=l.length - 1 - t
    ·subst c1
     rw [List.getElem?_set_self (by simpa using h2),if_pos (by omega),<- hg1,g1]
     congr 1
     omega
    ·rw [List.getElem?_set_ne (λe=>c1 e.symm)]
     by_cases c2:p=t
     ·subst c2
      rw [List.getElem?_set_self h1,if_pos (by omega),<- hg2,g2]
     ·rw [List.getElem?_set_ne (λe=>c2 e.symm),hp p hpl]
      by_cases c3:p < t\/l.length - 1 - t < p
      ·rw [if_pos c3,if_pos (by omega)]
      ·rw [if_neg c3,if_neg (by omega)]
  ·refine .inr ⟨L,by rw [decide_eq_false hlt,cond_false],?_⟩
   apply List.ext_getElem?
   intro p
   by_cases hpl:p < l.length
   ·rw [hp p hpl,List.getElem?_reverse hpl]
    by_cases c3:p < t\/l.length - 1 - t < p
    ·rw [if_pos c3]
    ·rw [if_neg c3]
     congr 1
     omega
   ·rw [List.getElem?_eq_none (by omega),List.getElem?_eq_none (by simp; omega)]
theorem Ja (W:Nat) (hW:W<=1000) (A B C:List aG) (top aK n s:Int) (hl:(A++B++C).length<=1000000) (hB:1<=B.length)
  (hreg:eC ⟨W,A++B++C⟩ top aK=some (.inr ((A.length:Int),((A.length+B.length:Nat):Int)))) :
  eK ⟨W,A++B++C⟩ top aK n s=some ((B.drop (B.length - kN n B.length)).reverse,⟨W,A++l5 (kN n B.length) B (iF W s)++C⟩):=by
 unfold eK
 rw [hreg,aA]
 dsimp only
 have hk:=DA n B.length
 simp only [List.length_append] at hl
 rw [bQ (by omega) (by omega) (by simp only [List.length_append]; omega),aA,Dw A B C _ rfl,rj,aA,KE]
 generalize kN n B.length=k at hk
 rw [w64 (x:=(B.length:Int) - (k:Int)) (by omega) (by omega)]
 have hbk:(B.length:Int) - (k:Int)=((B.length - k:Nat):Int):=by omega
 rw [hbk,bQ (by omega) (by omega) (by omega),aA]
 have e1:cut (A++B++C) ((A.length:Int)+((B.length - k:Nat):Int)) ((A.length:Int)+(B.length:Int))=B.drop (B.length - k):=by
  have:=I9 A B C (B.length - k) B.length (Nat.le_refl _) (by omega)
  rw [List.take_length] at this
  simpa using this
 have e2:qJ (A++B++C) ((A.length:Int)+(k:Int)) ((A.length:Int)+(B.length:Int)) ((A.length:Int)+0) ((A.length:Int)+((B.length - k:Nat):Int))=A++B.take k++(B.take (B.length - k)++C):=by
  have c:=I9 A B C 0 (B.length - k) (by omega) (by omega)
  rw [List.drop_zero] at c
  have c':cut (A++B++C) ((A.length:Int)+0) ((A.length:Int)+((B.length - k:Nat):Int))=B.take (B.length - k):=by simpa using c
  have t1:((A.length:Int)+(k:Int)).toNat=A.length+k:=by omega
  have t2:((A.length:Int)+(B.length:Int)).toNat=A.length+B.length:=by omega
  unfold qJ
  rw [c',t1,t2,KF A B C k hk,List.take_of_length_le (l:=B.take (B.length - k)) (by rw [List.length_take]; omega),List.length_take]
  have t3:A.length+k+min (B.length - k) B.length=A.length+B.length:=by omega
  rw [t3,Gv A B C _ (Nat.le_refl _),List.drop_eq_nil_of_le (Nat.le_refl _),List.nil_append,List.append_assoc (A++B.take k)]
 rw [e1,rY _ (by rw [List.length_drop]; omega),aA,B5 _ (by rw [List.length_drop]; omega),aA,lU (by simp),aA,bQ (by omega) (by omega) (by omega),aA,bQ (by omega) (by omega) (by omega),aA,e2]
 refine fw (λi=>((⟨W,A++List.replicate i (iF W s)++((B.take k).drop i++(B.take (B.length - k)++C))⟩:aZ),(i:Int))) k (⟨W,A++l5 k B (iF W s)++C⟩:aZ) ?_ ?_ ?_ rfl
 ·simp
 ·intro i hi
  dsimp only
  have hlen:(A++List.replicate i (iF W s)++((B.take k).drop i++(B.take (B.length - k)++C))).length=A.length+B.length+C.length:=by simp; omega
  have hc:(cut (A++List.replicate i (iF W s)++((B.take k).drop i++(B.take (B.length - k)++C))) (A.length:Int) ((A.length+B.length:Nat):Int)).length=B.length:=by
   rw [nX _ _ _ (by omega) (by rw [hlen]; omega)]
   omega
  rw [decide_eq_true (by omega),cond_true,zt _ _ hW,aA,bQ (by omega) (by omega) (by rw [hlen]; omega),aA]
  obtain ⟨x,hx,_⟩:=Gq (cut (A++List.replicate i (iF W s)++((B.take k).drop i++(B.take (B.length - k)++C))) (A.length:Int) ((A.length+B.length:Nat):Int)) (i:=(i:Int)) (by omega) (by rw [hc]; omega)
  have htl:i < (B.take k).length:=by rw [List.length_take]; omega
  rw [hx,aA,w64 (by omega) (by omega),List.drop_eq_getElem_cons htl,List.cons_append,ov (by simp),List.replicate_succ']
  simp
 ·dsimp only
  rw [decide_eq_false (by omega),cond_false,List.drop_eq_nil_of_le (as:=B.take k) (i:=k) (by rw [List.length_take]; omega)]
  unfold l5
  rw [Nat.min_eq_left hk]
  simp
variable {α : Type}
theorem Gw (B:List α) (x:α):upB 0 B x=B:=by simp [upB]
theorem B6 (B:List α) (x:α):l5 0 B x=B:=by simp [l5]
theorem Gx (B:List α) (x:α) (i:Nat) (h:i < B.length):upB i B x=B[i]::(B.drop (i+1)++List.replicate i x):=by
 unfold upB
 rw [Nat.min_eq_left (by omega),List.drop_eq_getElem_cons h,List.cons_append]
theorem Gy (B:List α) (x:α) (i:Nat) (h:i < B.length):upB (i+1) B x=(B.drop (i+1)++List.replicate i x)++[x]:=by
 unfold upB
 rw [Nat.min_eq_left (by omega),List.replicate_succ',List.append_assoc]
theorem B7 (B:List α) (x:α) (i:Nat) (h:i < B.length):l5 i B x=(List.replicate i x++B.take (B.length - i - 1))++[B[B.length - i - 1]'(by omega)]:=by
 unfold l5
 rw [Nat.min_eq_left (by omega),List.append_assoc,<- List.take_succ_eq_append_getElem]
 congr 2
 omega
theorem B8 (B:List α) (x:α) (i:Nat) (h:i < B.length):l5 (i+1) B x=x::(List.replicate i x++B.take (B.length - i - 1)):=by
 unfold l5
 rw [Nat.min_eq_left (by omega),List.replicate_succ,List.cons_append]
 congr 3
theorem take_one {l:List α} (h:0 < l.length):l.take 1=[l[0]]:=by
 cases l with
 | nil=>simp at h
 | cons a t=>rfl
theorem Oh {ρ β:Type} (lo hi:Int) (A T C:List aX) (y:aX) (g:List aX->Option β) (out:Option β) (hl:(A++(y::T)++C).length<=1000000) (hlo:lo=A.length) (hhi:hi=lo+T.length)
  (hg:g ((A++T)++((y::T).drop T.length++C))=out) :
  Option.bind (iter (σ:=(List aX)×Int) (ρ:=(List aX)) (λa=>(bif (decide (a.2 < hi)) then (Option.bind (idx a.1 (IntKind.i64.wrap (a.2+1))) λb=>(Option.bind (idx a.1 a.2) λc=>some (.inl ((a.1.set a.2.toNat b),(IntKind.i64.wrap (a.2+1)))))) else some (.inr a.1))) (A++(y::T)++C,lo)) g=out:=by
 subst hlo
 simp only [List.length_append,List.length_cons] at hl
 refine fw (λj=>((A++T.take j)++((y::T).drop j++C),((A.length+j:Nat):Int))) T.length _ ?_ ?_ ?_ hg
 ·simp
 ·intro j hj
  dsimp only
  have e1:(y::T).drop j=(y::T)[j]'(by simp; omega)::T[j]::T.drop (j+1):=by
   rw [List.drop_eq_getElem_cons (by simp; omega),List.drop_succ_cons,List.drop_eq_getElem_cons hj]
  have e2:A++T.take j++((y::T).drop j++C)=((A++T.take j)++[(y::T)[j]'(by simp; omega)])++T[j]::(T.drop (j+1)++C):=by rw [e1]; simp only [List.append_assoc,List.cons_append,List.nil_append]
  have e3:A++T.take j++((y::T).drop j++C)=(A++T.take j)++(y::T)[j]'(by simp; omega)::(T[j]::(T.drop (j+1)++C)):=by rw [e1]; simp only [List.append_assoc,List.cons_append,List.nil_append]
  rw [decide_eq_true (by omega),cond_true,w64 (by omega) (by omega)]
  rw [show idx (A++T.take j++((y::T).drop j++C)) (((A.length+j:Nat):Int)+1)=some T[j] by rw [e2]; exact mS (by simp; omega)]
  rw [aA]
  rw [show idx (A++T.take j++((y::T).drop j++C)) ((A.length+j:Nat):Int)=some ((y::T)[j]'(by simp; omega)) by rw [e3]; exact mS (by simp; omega)]
  rw [aA,Int.toNat_natCast,e3,ov (by simp; omega),List.drop_succ_cons,List.drop_eq_getElem_cons hj,List.take_succ_eq_append_getElem hj]
  have t4:((A.length+j:Nat):Int)+1=((A.length+(j+1):Nat):Int):=by omega
  rw [t4]
  simp only [List.append_assoc,List.cons_append,List.nil_append]
 ·dsimp only
  rw [decide_eq_false (by omega),cond_false,List.take_length]
theorem LG {ρ β:Type} (lo hi:Int) (A T C:List aX) (y:aX) (g:List aX->Option β) (out:Option β) (hl:(A++(T++[y])++C).length<=1000000) (hlo:lo=A.length) (hhi:hi=lo+T.length)
  (hg:g (A++(T++[y]).take 1++(T++C))=out) :
  Option.bind (iter (σ:=(List aX)×Int) (ρ:=(List aX)) (λa=>(bif (decide (a.2 > lo)) then (Option.bind (idx a.1 (IntKind.i64.wrap (a.2 - 1))) λb=>(Option.bind (idx a.1 a.2) λc=>some (.inl ((a.1.set a.2.toNat b),(IntKind.i64.wrap (a.2 - 1)))))) else some (.inr a.1))) (A++(T++[y])++C,hi)) g=out:=by
 subst hlo
 simp only [List.length_append,List.length_cons,List.length_nil] at hl
 refine fw (λj=>((A++(T++[y]).take (T.length+1 - j))++(T.drop (T.length - j)++C),((A.length+(T.length - j):Nat):Int))) T.length _ ?_ ?_ ?_ hg
 ·have:(T++[y]).take (T.length+1 - 0)=T++[y]:=List.take_of_length_le (by simp)
  try dsimp only
  rw [hhi,this]
  simp
 ·intro j hj
  dsimp only
  have hz:T.length - 1 - j < T.length:=by omega
  have hzz:T.length - j < (T++[y]).length:=by simp; omega
  have t1:(T++[y]).take (T.length+1 - j)=(T++[y]).take (T.length - 1 - j)++[T[T.length - 1 - j]]++[(T++[y])[T.length - j]]:=by
   have a1:T.length+1 - j=(T.length - j)+1:=by omega
   have a2:T.length - j=(T.length - 1 - j)+1:=by omega
   rw [a1,List.take_succ_eq_append_getElem hzz]
   congr 1
   rw [a2,List.take_succ_eq_append_getElem (by simp; omega)]
   congr 2
   rw [List.getElem_append_left hz]
  have e2:A++(T++[y]).take (T.length+1 - j)++(T.drop (T.length - j)++C)=(A++(T++[y]).take (T.length - 1 - j))++T[T.length - 1 - j]::((T++[y])[T.length - j]::(T.drop (T.length - j)++C)):=by rw [t1]; simp
  have e3:A++(T++[y]).take (T.length+1 - j)++(T.drop (T.length - j)++C)=(A++(T++[y]).take (T.length - 1 - j)++[T[T.length - 1 - j]])++(T++[y])[T.length - j]::(T.drop (T.length - j)++C):=by rw [t1]; simp
  rw [decide_eq_true (by omega),cond_true,w64 (by omega) (by omega)]
  rw [show idx (A++(T++[y]).take (T.length+1 - j)++(T.drop (T.length - j)++C)) (((A.length+(T.length - j):Nat):Int) - 1)=some T[T.length - 1 - j] by rw [e2]; exact mS (by simp; omega)]
  rw [aA]
  rw [show idx (A++(T++[y]).take (T.length+1 - j)++(T.drop (T.length - j)++C)) ((A.length+(T.length - j):Nat):Int)=some ((T++[y])[T.length - j]) by rw [e3]; exact mS (by simp; omega)]
  rw [aA,Int.toNat_natCast,e3,ov (by simp; omega)]
  have t2:(T++[y]).take (T.length+1 - (j+1))=(T++[y]).take (T.length - 1 - j)++[T[T.length - 1 - j]]:=by
   have a2:T.length+1 - (j+1)=(T.length - 1 - j)+1:=by omega
   rw [a2,List.take_succ_eq_append_getElem (by simp; omega)]
   congr 2
   rw [List.getElem_append_left hz]
  have t3:T.drop (T.length - (j+1))=T[T.length - 1 - j]::T.drop (T.length - j):=by
   have a2:T.length - (j+1)=T.length - 1 - j:=by omega
   rw [a2,List.drop_eq_getElem_cons hz]
   congr 2
   omega
  rw [t2,t3]
  have t4:((A.length+(T.length - j):Nat):Int) - 1=((A.length+(T.length - (j+1)):Nat):Int):=by omega
  rw [t4]
  simp
 ·dsimp only
  rw [decide_eq_false (by omega),cond_false]
  have:T.length+1 - T.length=1:=by omega
  rw [this,Nat.sub_self,List.drop_zero]
theorem Gz (W:Nat) (hW:W<=1000) (A B C:List aX) (top aK n s:Int) (hl:(A++B++C).length<=1000000) (hB:1<=B.length)
  (h1:max 0 (min top (((A++B++C).length:Int) - 1))=A.length) (h2:max 0 (min aK (((A++B++C).length:Int) - 1))=A.length+B.length - 1) :
  eI ⟨W,A++B++C⟩ true top aK n s=some (⟨W,A++upB (kN n B.length) B (told (iF W s))++C⟩,B.take (kN n B.length)):=by
 unfold eI
 dsimp only
 have hl':=hl
 simp only [List.length_append] at hl'
 rw [w64 (x:=((A++B++C).length:Int) - 1) (by omega) (by omega)]
 simp only [gy,dN,h1,h2]
 have hk:=DA n B.length
 have hkn: ∀ i:Nat,i < kN n B.length->(i:Int) < n:=λi hi=>by unfold kN at hi; omega
 have hkx: ¬ (((kN n B.length:Nat):Int) < n/\((kN n B.length:Nat):Int)<=(A.length:Int)+(B.length:Int) - 1 - (A.length:Int)):=by unfold kN; omega
 generalize kN n B.length=k at hk hkn hkx
 rw [decide_eq_false (by omega),cond_false,bP (by simp; omega),aA,zu _ _ hW,aA,List.nil_append]
 refine fw (λi=>(B.take i,A++upB i B (told (iF W s))++C,(i:Int))) k (B.take k,A++upB k B (told (iF W s))++C) ?_ ?_ ?_ rfl
 ·rw [Gw]
  rfl
 ·intro i hi
  dsimp only
  have hib:i < B.length:=by omega
  rw [zr,w64 (x:=(A.length:Int)+(B.length:Int) - 1 - (A.length:Int)) (by omega) (by omega),decide_eq_true ⟨hkn i hi,by omega⟩,aA,cond_true,cond_true,Gx _ _ _ hib]
  rw [show idx (A++B[i]::(B.drop (i+1)++List.replicate i (told (iF W s)))++C) (A.length:Int)=some B[i] by rw [List.append_assoc,List.cons_append]; exact mS rfl]
  rw [aA,bP (by simp; omega),aA]
  rw [Oh (ρ:=Unit) (A.length:Int) ((A.length:Int)+(B.length:Int) - 1) A (B.drop (i+1)++List.replicate i (told (iF W s))) C B[i] _ (some (B.take (i+1),A++upB (i+1) B (told (iF W s))++C)) (by simp; omega) rfl (by simp; omega)]
  ·rw [aA,w64 (by omega) (by omega)]
   rfl
  ·generalize hT:B.drop (i+1)++List.replicate i (told (iF W s))=T
   have hTl:A.length+T.length=A.length+B.length - 1:=by rw [<- hT]; simp; omega
   have hd:(B[i]::T).drop T.length=[(B[i]::T)[T.length]]:=by
    rw [List.drop_eq_getElem_cons (by simp),List.drop_eq_nil_of_le (by simp)]
   rw [hd,List.singleton_append]
   rw [mS (by simp; omega),aA,Gy _ _ _ hib,hT,ov (by simp; omega),List.take_succ_eq_append_getElem hib]
   simp
 ·dsimp only
  rw [zr,w64 (x:=(A.length:Int)+(B.length:Int) - 1 - (A.length:Int)) (by omega) (by omega),decide_eq_false hkx,aA,cond_false]
theorem B9 (W:Nat) (hW:W<=1000) (A B C:List aX) (top aK n s:Int) (hl:(A++B++C).length<=1000000) (hB:1<=B.length)
  (h1:max 0 (min top (((A++B++C).length:Int) - 1))=A.length) (h2:max 0 (min aK (((A++B++C).length:Int) - 1))=A.length+B.length - 1) :
  eI ⟨W,A++B++C⟩ false top aK n s=some (⟨W,A++l5 (kN n B.length) B (told (iF W s))++C⟩,(B.drop (B.length - kN n B.length)).reverse):=by
 unfold eI
 dsimp only
 have hl':=hl
 simp only [List.length_append] at hl'
 rw [w64 (x:=((A++B++C).length:Int) - 1) (by omega) (by omega)]
 simp only [gy,dN,h1,h2]
 have hk:=DA n B.length
 have hkn: ∀ i:Nat,i < kN n B.length->(i:Int) < n:=λi hi=>by unfold kN at hi; omega
 have hkx: ¬ (((kN n B.length:Nat):Int) < n/\((kN n B.length:Nat):Int)<=(A.length:Int)+(B.length:Int) - 1 - (A.length:Int)):=by unfold kN; omega
 generalize kN n B.length=k at hk hkn hkx
 rw [decide_eq_false (by omega),cond_false,bP (by simp; omega),aA,zu _ _ hW,aA,List.nil_append]
 refine fw (λi=>((B.drop (B.length - i)).reverse,A++l5 i B (told (iF W s))++C,(i:Int))) k ((B.drop (B.length - k)).reverse,A++l5 k B (told (iF W s))++C) ?_ ?_ ?_ rfl
 ·rw [B6]
  simp
 ·intro i hi
  dsimp only
  have hib:i < B.length:=by omega
  rw [zr,w64 (x:=(A.length:Int)+(B.length:Int) - 1 - (A.length:Int)) (by omega) (by omega),decide_eq_true ⟨hkn i hi,by omega⟩,aA,cond_true,cond_false,B7 _ _ _ hib]
  have hTl:A.length+(List.replicate i (told (iF W s))++B.take (B.length - i - 1)).length=A.length+B.length - 1:=by simp; omega
  rw [show idx (A++((List.replicate i (told (iF W s))++B.take (B.length - i - 1))++[B[B.length - i - 1]'(by omega)])++C) ((A.length:Int)+(B.length:Int) - 1)=some (B[B.length - i - 1]'(by omega)) by
   rw [<- List.append_assoc A,List.append_assoc (A++(List.replicate i (told (iF W s))++B.take (B.length - i - 1))),List.singleton_append]; exact mS (by rw [List.length_append]; omega)]
  rw [aA,bP (by simp; omega),aA]
  rw [LG (ρ:=Unit) (A.length:Int) ((A.length:Int)+(B.length:Int) - 1) A (List.replicate i (told (iF W s))++B.take (B.length - i - 1)) C (B[B.length - i - 1]'(by omega)) _ (some ((B.drop (B.length - (i+1))).reverse,A++l5 (i+1) B (told (iF W s))++C)) (by simp; omega) rfl (by omega)]
  ·rw [aA,w64 (by omega) (by omega)]
   rfl
  ·rw [B8 _ _ _ hib]
   generalize hT:List.replicate i (told (iF W s))++B.take (B.length - i - 1)=T
   have hd:(T++[B[B.length - i - 1]'(by omega)]).take 1=[(T++[B[B.length - i - 1]'(by omega)])[0]'(by simp)]:=by
    exact take_one (by simp)
   rw [hd,List.append_assoc A,List.singleton_append]
   rw [mS rfl,aA,Int.toNat_natCast,ov rfl]
   have a1:B.length - i=(B.length - i - 1)+1:=by omega
   have a2:B.length - (i+1)=B.length - i - 1:=by omega
   rw [a2,List.drop_eq_getElem_cons (i:=B.length - i - 1) (by omega),<- a1]
   simp
 ·dsimp only
  rw [zr,w64 (x:=(A.length:Int)+(B.length:Int) - 1 - (A.length:Int)) (by omega) (by omega),decide_eq_false hkx,aA,cond_false]
end Go.Tw.X
namespace Go.Tw.X
open Go Go.Tw
theorem GI.len {W:Nat} {l:List aG} (h:GI W l): ∀ r∈l,r.cells.length<=1000000:=λr hr=>by
 have:=(h.rs r hr).1
 have:=h.w2
 omega
def rgB (l:List aG) (t b:Int):List aG:=(l.take (loS l b+1)).drop (loS l t)
def upL (W:Nat) (l:List aG) (t b n s:Int):List aG:=if loS l b < loS l t then l else l.take (loS l t)++upB (kN n (rgB l t b).length) (rgB l t b) (iF W s)++l.drop (loS l b+1)
def upO (l:List aG) (t b n:Int):List aG:=if loS l b < loS l t then [] else (rgB l t b).take (kN n (rgB l t b).length)
def rm (W:Nat) (l:List aG) (t b n s:Int):List aG:=if loS l b < loS l t then l else l.take (loS l t)++l5 (kN n (rgB l t b).length) (rgB l t b) (iF W s)++l.drop (loS l b+1)
def sT (l:List aG) (t b n:Int):List aG:=if loS l b < loS l t then [] else ((rgB l t b).drop ((rgB l t b).length - kN n (rgB l t b).length)).reverse
theorem pG (l:List aG) (t b:Int) (h: ¬ loS l b < loS l t) (h1:1<=l.length):l=l.take (loS l t)++rgB l t b++l.drop (loS l b+1)/\(l.take (loS l t)).length=loS l t/\(rgB l t b).length=loS l b+1 - loS l t:=by
 have hb:=vb l b h1
 unfold rgB
 refine ⟨?_,?_,?_⟩
 ·have:l.take (loS l t)=(l.take (loS l b+1)).take (loS l t):=by rw [List.take_take]; congr 1; omega
  rw [this,List.take_append_drop,List.take_append_drop]
 ·rw [List.length_take]; omega
 ·rw [List.length_drop,List.length_take]; omega
theorem zv {W:Nat} {l:List aG} (h:GI W l) (t b n s:Int):fU ⟨W,l⟩ t b n s=some (upO l t b n,⟨W,upL W l t b n s⟩)/\eI ⟨W,l.map told⟩ true t b n s=some (⟨W,(upL W l t b n s).map told⟩,(upO l t b n).map told):=by
 have h1:=h.l1
 have h2:=h.l2
 have hreg:=yF (W:Int) l t b h1 (by omega)
 have hb:=vb l b h1
 by_cases hc:loS l b < loS l t
 ·rw [if_pos hc] at hreg
  unfold upO upL
  rw [if_pos hc,if_pos hc]
  constructor
  ·unfold fU
   rw [hreg,aA]
  ·unfold eI
   dsimp only
   rw [List.length_map,w64 (x:=(l.length:Int) - 1) (by omega) (by omega),gy,gy,dN,dN,ow,ow,decide_eq_true (by omega),cond_true]
   rfl
 ·rw [if_neg hc] at hreg
  obtain ⟨e,ea,eb⟩:=pG l t b hc h1
  have hlo:=ow l t
  have hhi:=ow l b
  unfold upO upL
  rw [if_neg hc,if_neg hc]
  generalize l.take (loS l t)=A at e ea
  generalize rgB l t b=B at e eb
  generalize l.drop (loS l b+1)=C at e
  rw [e] at hlo hhi hreg h2 hc ea eb ⊢
  have e2:((loS (A++B++C) b+1:Nat):Int)=((A.length+B.length:Nat):Int):=by omega
  have e1:((loS (A++B++C) t:Nat):Int)=(A.length:Int):=by omega
  rw [e1,e2] at hreg
  constructor
  ·exact MV W h.w2 A B C t b n s (by omega) (by omega) hreg
  ·have hm:=Gz W h.w2 (A.map told) (B.map told) (C.map told) t b n s (by simpa using (by omega:(A++B++C).length<=1000000)) (by simp; omega)
   have el:((A.map told++B.map told++C.map told).length:Int)=((A++B++C).length:Int):=by simp
   rw [el] at hm
   have:=hm (by rw [hlo,List.length_map]; omega) (by rw [hhi,List.length_map,List.length_map]; omega)
   rw [List.map_append,List.map_append,this,List.length_map,List.map_append,List.map_append,I8,List.map_take]
theorem Ap {W:Nat} {l:List aG} (h:GI W l) (t b n s:Int):eK ⟨W,l⟩ t b n s=some (sT l t b n,⟨W,rm W l t b n s⟩)/\eI ⟨W,l.map told⟩ false t b n s=some (⟨W,(rm W l t b n s).map told⟩,(sT l t b n).map told):=by
 have h1:=h.l1
 have h2:=h.l2
 have hreg:=yF (W:Int) l t b h1 (by omega)
 have hb:=vb l b h1
 by_cases hc:loS l b < loS l t
 ·rw [if_pos hc] at hreg
  unfold sT rm
  rw [if_pos hc,if_pos hc]
  constructor
  ·unfold eK
   rw [hreg,aA]
  ·unfold eI
   dsimp only
   rw [List.length_map,w64 (x:=(l.length:Int) - 1) (by omega) (by omega),gy,gy,dN,dN,ow,ow,decide_eq_true (by omega),cond_true]
   rfl
 ·rw [if_neg hc] at hreg
  obtain ⟨e,ea,eb⟩:=pG l t b hc h1
  have hlo:=ow l t
  have hhi:=ow l b
  unfold sT rm
  rw [if_neg hc,if_neg hc]
  generalize l.take (loS l t)=A at e ea
  generalize rgB l t b=B at e eb
  generalize l.drop (loS l b+1)=C at e
  rw [e] at hlo hhi hreg h2 hc ea eb ⊢
  have e2:((loS (A++B++C) b+1:Nat):Int)=((A.length+B.length:Nat):Int):=by omega
  have e1:((loS (A++B++C) t:Nat):Int)=(A.length:Int):=by omega
  rw [e1,e2] at hreg
  constructor
  ·exact Ja W h.w2 A B C t b n s (by omega) (by omega) hreg
  ·have hm:=B9 W h.w2 (A.map told) (B.map told) (C.map told) t b n s (by simpa using (by omega:(A++B++C).length<=1000000)) (by simp; omega)
   have el:((A.map told++B.map told++C.map told).length:Int)=((A++B++C).length:Int):=by simp
   rw [el] at hm
   have:=hm (by rw [hlo,List.length_map]; omega) (by rw [hhi,List.length_map,List.length_map]; omega)
   rw [List.map_append,List.map_append,this,List.length_map,List.map_append,List.map_append,E0,List.map_reverse,List.map_drop]
theorem Ca {l:List aG} {t b:Int} {r:aG} (h:r∈rgB l t b):r∈l:=List.mem_of_mem_take (List.mem_of_mem_drop h)
theorem KG {W:Nat} {l:List aG} (h:GI W l) (t b n s:Int):GI W (upL W l t b n s):=by
 unfold upL
 by_cases hc:loS l b < loS l t
 ·rw [if_pos hc]
  exact h
 ·rw [if_neg hc]
  obtain ⟨e,ea,eb⟩:=pG l t b hc h.l1
  have hlen:(l.take (loS l t)++upB (kN n (rgB l t b).length) (rgB l t b) (iF W s)++l.drop (loS l b+1)).length=l.length:=by
   conv=>rhs; rw [e]
   simp only [List.length_append,xn]
  refine ⟨h.w1,h.w2,by rw [hlen]; exact h.l1,by rw [hlen]; exact h.l2,?_⟩
  intro r hr
  rw [List.mem_append,List.mem_append] at hr
  rcases hr with (hr | hr) | hr
  ·exact h.rs r (List.mem_of_mem_take hr)
  ·unfold upB at hr
   rw [List.mem_append] at hr
   rcases hr with hr | hr
   ·exact h.rs r (Ca (List.mem_of_mem_drop hr))
   ·rw [List.eq_of_mem_replicate hr]
    exact rX _ _
  ·exact h.rs r (List.mem_of_mem_drop hr)
theorem Jb {W:Nat} {l:List aG} (h:GI W l) (t b n s:Int):GI W (rm W l t b n s):=by
 unfold rm
 by_cases hc:loS l b < loS l t
 ·rw [if_pos hc]
  exact h
 ·rw [if_neg hc]
  obtain ⟨e,ea,eb⟩:=pG l t b hc h.l1
  have hlen:(l.take (loS l t)++l5 (kN n (rgB l t b).length) (rgB l t b) (iF W s)++l.drop (loS l b+1)).length=l.length:=by
   conv=>rhs; rw [e]
   simp only [List.length_append,tZ]
  refine ⟨h.w1,h.w2,by rw [hlen]; exact h.l1,by rw [hlen]; exact h.l2,?_⟩
  intro r hr
  rw [List.mem_append,List.mem_append] at hr
  rcases hr with (hr | hr) | hr
  ·exact h.rs r (List.mem_of_mem_take hr)
  ·unfold l5 at hr
   rw [List.mem_append] at hr
   rcases hr with hr | hr
   ·rw [List.eq_of_mem_replicate hr]
    exact rX _ _
   ·exact h.rs r (Ca (List.mem_of_mem_take hr))
  ·exact h.rs r (List.mem_of_mem_drop hr)
theorem Jc {l:List aG} {t b n:Int} {r:aG} (h:r∈upO l t b n):r∈l:=by
 unfold upO at h
 split at h
 ·cases h
 ·exact Ca (List.mem_of_mem_take h)
theorem Jd (l:List aG) (t b n:Int):(upO l t b n).length<=l.length:=by
 unfold upO
 split
 ·exact Nat.zero_le _
 ·unfold rgB
  rw [List.length_take,List.length_drop,List.length_take]
  omega
def rzL (W:Nat) (l:List aG) (c H:Nat):List aG:=((l.drop c).take H++List.replicate (H - (l.length - c)) (iF W 0)).map (rsz W)
theorem ox (W:Nat) (l:List aG) (c H:Nat):(rzL W l c H).length=H:=by
 unfold rzL
 simp
 omega
theorem Cb (w0:Int) (l:List aG) (w h off:Int) (h1:1<=l.length) (h2:l.length<=1000000) (hr: ∀ r∈l,r.cells.length<=1000000):jr ⟨w0,l⟩ w h off=some (l.take (loS l off),⟨(szN w:Int),rzL (szN w) l (loS l off) (szN h)⟩):=by
 unfold jr
 dsimp only
 have hw:=mR w
 have hh:=mR h
 rw [w64 (x:=(l.length:Int) - 1) (by omega) (by omega),rj,aA,ow]
 have hc:=vb l off h1
 unfold rzL
 generalize loS l off=c at hc
 have c1:cut l (c:Int) (l.length:Int)=l.drop c:=by rw [qk,List.take_length]
 have hm:dF ((l.drop c).length:Int) (szN h:Int)=((min (l.drop c).length (szN h):Nat):Int):=by rw [dN]; omega
 have c2:cut (l.drop c) 0 ((min (l.drop c).length (szN h):Nat):Int)=(l.drop c).take (szN h):=by
  rw [xk,<- List.take_take]
  exact List.take_of_length_le (by rw [List.length_take]; omega)
 rw [bQ (by omega) (by omega) (by omega),aA,xk,rY _ (by rw [List.length_take]; omega),aA,bQ (by omega) (by omega) (by omega),aA,c1,rY _ (by rw [List.length_drop]; omega),aA,rk,aA,hm,bQ (by omega) (by omega) (by omega),aA,c2]
 refine fw (λi=>(l.drop c).take (szN h)++List.replicate i (iF (szN w) 0)) (szN h - (l.length - c)) ((l.drop c).take (szN h)++List.replicate (szN h - (l.length - c)) (iF (szN w) 0)) ?_ ?_ ?_ ?_
 ·simp
 ·intro i hi
  try dsimp only
  rw [aA,decide_eq_true (by simp; omega),cond_true,rk w,aA,zt _ _ hw,aA,bP (by simp; omega),aA,List.append_assoc,<- List.replicate_succ']
 ·try dsimp only
  rw [aA,decide_eq_false (by simp; omega),cond_false]
 ·rw [rk,aA]
  have hL: ∀ r∈(l.drop c).take (szN h)++List.replicate (szN h - (l.length - c)) (iF (szN w) 0),r.cells.length<=1000000:=by
   intro r hrr
   rcases List.mem_append.1 hrr with hrr | hrr
   ·exact hr r (List.mem_of_mem_drop (List.mem_of_mem_take hrr))
   ·rw [List.eq_of_mem_replicate hrr]
    simp [iF]
    omega
  have hLl:((l.drop c).take (szN h)++List.replicate (szN h - (l.length - c)) (iF (szN w) 0)).length=szN h:=by
   simp
   omega
  generalize (l.drop c).take (szN h)++List.replicate (szN h - (l.length - c)) (iF (szN w) 0)=L at hL hLl
  refine fw (λi=>((⟨(szN w:Int),(L.take i).map (rsz (szN w))++L.drop i⟩:aZ),(i:Int))) L.length (⟨(szN w:Int),L.map (rsz (szN w))⟩:aZ) ?_ ?_ ?_ rfl
  ·simp
  ·intro i hi
   dsimp only
   have hd:(L.take i).map (rsz (szN w))++L.drop i=(L.take i).map (rsz (szN w))++L[i]::L.drop (i+1):=by rw [List.drop_eq_getElem_cons hi]
   have hlen:(L.take i).length=i:=by rw [List.length_take]; omega
   rw [decide_eq_true (by omega),cond_true,hd,mS (by simp; omega),aA,Gu _ hw _ _ _ (hL _ (List.getElem_mem hi)),aA,w64 (by omega) (by omega)]
   dsimp only
   unfold sG
   rw [if_pos (by simp; omega),Int.toNat_natCast,ov (by simp; omega),List.take_succ_eq_append_getElem hi,List.map_append,List.append_assoc]
   rfl
  ·dsimp only
   rw [decide_eq_false (by omega),cond_false]
   simp
theorem MW {W:Nat} {l:List aG} (hl: ∀ r∈l,okR r.cells) (W':Nat) (c H:Nat) (h1:1<=W') (h2:W'<=1000) (h3:1<=H) (h4:H<=1000):GI W' (rzL W' l c H):=by
 refine ⟨h1,h2,by rw [ox]; exact h3,by rw [ox]; exact h4,?_⟩
 intro r hr
 unfold rzL at hr
 obtain ⟨q,hq,rfl⟩:=List.mem_map.1 hr
 refine Dz _ _ ?_
 rcases List.mem_append.1 hq with hq | hq
 ·exact hl q (List.mem_of_mem_drop (List.mem_of_mem_take hq))
 ·rw [List.eq_of_mem_replicate hq]
  exact (rX _ _).2
theorem m63 (x:Int) (h0:0<=x) (h1:x < 2147483648):Go.bits .and .i32 x 63=x % 64:=by
 have h:=bits_mask .i32 31 (by decide) wraps_i32 6 (by decide) x h0 (by omega)
 have e:((2:Int) ^ 6 - 1)=63:=by decide
 have e2:((2:Int) ^ 6)=64:=by decide
 rw [e,e2] at h
 exact h
theorem Oi {x:Int} (h0:0<=x) (h1:x < 256):IntKind.u8.wrap x=x:=by rw [IntKind.wrap_u8]; omega
theorem foldl_push (xs:List Int): ∀ l:List UInt8,xs.foldl (λr n=>r.push (UInt8.ofNat n.toNat)) (ByteArray.mk l.toArray)=ByteArray.mk (l++xs.map (λn=>UInt8.ofNat n.toNat)).toArray:=by
 induction xs with
 | nil=>intro l; simp
 | cons a xs ih =>
  intro l
  rw [List.foldl_cons]
  have:(ByteArray.mk l.toArray).push (UInt8.ofNat a.toNat)=ByteArray.mk (l++[UInt8.ofNat a.toNat]).toArray:=by
   show ByteArray.mk (l.toArray.push _)=_
   rw [List.push_toArray]
  rw [this,ih]
  simp
theorem zw (xs:List Int):jD xs=ByteArray.mk (xs.map (λn=>UInt8.ofNat n.toNat)).toArray:=foldl_push xs []
theorem gq (a:List Int):(jD a).size=a.length:=by
 rw [zw]
 simp [ByteArray.size]
theorem Aq (r:aG):(ou r).length<=r.cells.length:=by
 unfold ou KD
 refine Nat.le_trans (vM _) ?_
 split
 ·exact Nat.le_refl _
 ·exact qj _ _
theorem rZ {n m:Nat} (h:n+m<=4611686018427387904):chk (F7 n m)=some ():=lU h
def mT (n:Nat):List Int:=if n < 128 then [(n:Int)] else ((128+n % 128:Nat):Int)::mT (n / 128)
termination_by n
decreasing_by omega
def clN (n:Int):Nat:=(max 0 (min n 4611686018427387904)).toNat
theorem LH (n:Int):imax 0 (dF n 4611686018427387904)=(clN n:Int):=by rw [gy,dN]; unfold clN; omega
theorem GA (n:Int):clN n<=4611686018427387904:=by unfold clN; omega
def dM (n:Int):List Int:=mT (clN n)
theorem jv {n:Nat} (h:n < 128):mT n=[(n:Int)]:=by rw [mT,if_pos h]
theorem pH {n:Nat} (h: ¬ n < 128):mT n=((128+n % 128:Nat):Int)::mT (n / 128):=by rw [mT,if_neg h]
theorem ua: ∀ (k n:Nat),n < 128 ^ (k+1)->(mT n).length<=k+1:=by
 intro k
 induction k with
 | zero =>
  intro n h
  rw [jv (by omega)]
  simp
 | succ k ih =>
  intro n h
  by_cases hn:n < 128
  ·rw [jv hn]
   simp
  ·rw [pH hn,List.length_cons]
   have:n / 128 < 128 ^ (k+1):=by
    rw [Nat.pow_succ] at h
    exact Nat.div_lt_of_lt_mul (by rw [Nat.mul_comm]; exact h)
   have:=ih _ this
   omega
theorem dJ (n:Int):(dM n).length<=9:=ua 8 _ (by have:=GA n; omega)
theorem pI: ∀ (n:Nat),∀ b∈mT n,0<=b/\b < 256:=by
 intro n
 induction n using Nat.strongRecOn with
 | _ n ih =>
  intro b hb
  by_cases hn:n < 128
  ·rw [jv hn,List.mem_singleton] at hb
   omega
  ·rw [pH hn] at hb
   rcases List.mem_cons.1 hb with rfl | hb
   ·omega
   ·exact ih (n / 128) (by omega) b hb
theorem GC (x:Int) (h0:0<=x) (h1:x < 256):Go.bits .and .u8 x 127=x % 128:=by
 have h:=bits_mask .u8 8 (by decide) wraps_u8 7 (by decide) x h0 (by omega)
 have e:((2:Int) ^ 7 - 1)=127:=by decide
 have e2:((2:Int) ^ 7)=128:=by decide
 rw [e,e2] at h
 exact h
theorem or_comm (k:IntKind) (x y:Int):Go.bits .or k x y=Go.bits .or k y x:=by
 show k.wrap ((BitVec.ofInt k.bits x ||| BitVec.ofInt k.bits y).toNat:Int)=k.wrap ((BitVec.ofInt k.bits y ||| BitVec.ofInt k.bits x).toNat:Int)
 rw [BitVec.or_comm]
theorem Je (y:Int) (h0:0<=y) (h1:y < 128):Go.bits .or .u8 y 128=128+y:=by
 rw [or_comm]
 exact bits_join .u8 8 (by decide) wraps_u8 7 128 y (by decide) (by decide) (by decide) h0 (by omega) (by omega)
theorem MY (n:Nat):(n:Int).fdiv (2 ^ (min 7 64))=((n / 128:Nat):Int):=by
 rw [Int.fdiv_eq_ediv_of_nonneg _ (by decide)]
 show (n:Int) / 128=_
 omega
theorem E1 (b:List Int) (x:Int) (hb:b.length<=100000000): ∃ e,ll (λ(s661:cJ) (x619:Int)=>(Option.bind (chk (eY s661.b.length [x619].length 1)) λ_=>some ((cJ.mk (s661.b++[x619])),true))) (⟨b⟩:cJ) x=some ((⟨b++dM x⟩:cJ),e):=by
 unfold ll qb
 rw [LH,aA]
 unfold dM
 have hle:=GA x
 generalize clN x=n at hle
 have key: ∀ (k n:Nat) (b:List Int),n < 128 ^ (k+1)->b.length+(k+1)<=100000010 -> ∃ e,iter (σ:=Int×cJ) (ρ:=(Int×cJ) ⊕ (cJ×Int)) (λa=>(bif (decide (a.1>=128)) then (Option.bind ((λ(s661:cJ) (x619:Int)=>(Option.bind (chk (eY s661.b.length [x619].length 1)) λ_=>some ((cJ.mk (s661.b++[x619])),true))) a.2 (Go.bits .or .u8 (Go.bits .and .u8 (IntKind.u8.wrap a.1) 127) 128)) λz68=>(bif (!z68.2) then (k8 (some (z68.1,a.1))) else some (.inl ((a.1.fdiv (2 ^ (min 7 64))),z68.1)))) else some (.inr (.inl (a.1,a.2))))) ((n:Int),(⟨b⟩:cJ))=some (.inl ((e:Int),(⟨b++(mT n).dropLast⟩:cJ)))/\0<=e/\e < 128/\mT n=(mT n).dropLast++[e]:=by
  intro k
  induction k with
  | zero =>
   intro n b h hb
   refine ⟨n,?_,by omega,by omega,?_⟩
   ·rw [jv (by omega)]
    refine cO ?_
    dsimp only
    rw [decide_eq_false (by omega),cond_false]
    simp
   ·rw [jv (by omega)]
    rfl
  | succ k ih =>
   intro n b h hb
   by_cases hn:n < 128
   ·refine ⟨n,?_,by omega,by omega,?_⟩
    ·rw [jv hn]
     refine cO ?_
     dsimp only
     rw [decide_eq_false (by omega),cond_false]
     simp
    ·rw [jv hn]
     rfl
   ·have hlt:n / 128 < 128 ^ (k+1):=by
     rw [Nat.pow_succ] at h
     exact Nat.div_lt_of_lt_mul (by rw [Nat.mul_comm]; exact h)
    obtain ⟨e,h1,h2,h3,h4⟩:=ih (n / 128) (b++[((128+n % 128:Nat):Int)]) hlt (by simp; omega)
    refine ⟨e,?_,h2,h3,?_⟩
    ·rw [eN (s':=(((n / 128:Nat):Int),(⟨b++[((128+n % 128:Nat):Int)]⟩:cJ)))]
     ·rw [h1,pH hn]
      have hne:mT (n / 128)≠[]:=by rw [h4]; simp
      rw [List.dropLast_cons_of_ne_nil hne]
      simp
     ·dsimp only
      have hw:IntKind.u8.wrap (n:Int)=((n % 256:Nat):Int):=by rw [IntKind.wrap_u8]; omega
      have hv:Go.bits .or .u8 (Go.bits .and .u8 (IntKind.u8.wrap (n:Int)) 127) 128=((128+n % 128:Nat):Int):=by
       rw [hw,GC _ (by omega) (by omega),Je _ (by omega) (by omega)]
       omega
      rw [decide_eq_true (by omega),cond_true,hv,bP (by simp; omega),aA,aA]
      dsimp only
      rw [Bool.not_true,cond_false,MY]
    ·rw [pH hn]
     have hne:mT (n / 128)≠[]:=by rw [h4]; simp
     rw [List.dropLast_cons_of_ne_nil hne,List.cons_append,<- h4]
 obtain ⟨e,h1,h2,h3,h4⟩:=key 8 n b (by omega) (by omega)
 have hl:=ua 8 n (by omega)
 have hd:(mT n).dropLast.length<=9:=by rw [List.length_dropLast]; omega
 refine ⟨e,?_⟩
 rw [h1,aA]
 dsimp only
 have hu:IntKind.u8.wrap e=e:=by rw [IntKind.wrap_u8]; omega
 rw [hu,bP (by simp only [List.length_append,List.length_singleton]; omega),aA,aA,List.append_assoc,<- h4]
theorem lL (b:List Int) (l:List Int) (hb:b.length+9*l.length<=10000000):cP ⟨b⟩ l=some ⟨b++l.flatMap dM⟩:=by
 unfold cP nY
 have hfl: ∀ l:List Int,(l.flatMap dM).length<=9*l.length:=by
  intro l
  induction l with
  | nil=>simp
  | cons a l ih =>
   rw [List.flatMap_cons,List.length_append,List.length_cons]
   have:=dJ a
   omega
 refine fw (λi=>((⟨b++(l.take i).flatMap dM⟩:cJ),(i:Int))) l.length (⟨b++l.flatMap dM⟩:cJ) ?_ ?_ ?_ rfl
 ·simp
 ·intro i hi
  dsimp only
  have h4:=hfl (l.take i)
  rw [List.length_take] at h4
  obtain ⟨e,he⟩:=E1 (b++(l.take i).flatMap dM) l[i] (by rw [List.length_append]; omega)
  rw [decide_eq_true (by omega),cond_true,dC l i hi,aA,aA,he,aA,w64 (by omega) (by omega),List.take_succ_eq_append_getElem hi,List.flatMap_append,List.flatMap_singleton,List.append_assoc]
  rfl
 ·dsimp only
  rw [decide_eq_false (by omega),cond_false,List.take_length]
def most:Nat:=4611686018427387904
def rdp:Nat->Nat->Nat->List Int->Int ⊕ (Nat×Nat)
 | 0,_,_,_=> .inl 1
 | _+1,_,_,[]=> .inl 2
 | k+1,i,acc,b::r=>if b < 128 then (if (i > 0/\b=0)\/acc+b.toNat % 128*128 ^ i > most then .inl 1 else .inr (acc+b.toNat % 128*128 ^ i,i+1)) else rdp k (i+1) (acc+b.toNat % 128*128 ^ i) r
def noS:ByteArray:=ByteArray.mk #[]
theorem kz (s:ByteArray): ∀ b∈sbs s,0<=b/\b < 256:=by
 intro b hb
 unfold sbs at hb
 obtain ⟨c,_,rfl⟩:=List.mem_map.1 hb
 have:=c.toNat_lt
 omega
theorem ub (s:ByteArray) (i:Nat) (h:i < (sbs s).length):w7 s (i:Int)=some (sbs s)[i]:=by
 unfold w7
 rw [decide_eq_true (by omega),cond_true,Int.toNat_natCast]
 have h2:i < s.data.size:=by rw [bG] at h; exact h
 rw [Array.getElem?_eq_getElem h2]
 simp only [sbs,Option.map_some,List.getElem_map,Array.getElem_toList]
theorem p2 (i:Nat):2 ^ (7*i)=128 ^ i:=by rw [Nat.pow_mul]
theorem pw8 {i:Nat} (h:i<=8):128 ^ i<=72057594037927936:=Nat.le_trans (Nat.pow_le_pow_right (by omega) h) (by decide)
theorem Jf (i acc b:Nat) (hi:i<=8) (ha:acc < 128 ^ i) (hb:b < 256) :
  Go.bits .or .i64 (acc:Int) (IntKind.i64.wrap ((IntKind.i64.wrap (Go.bits .and .u8 (b:Int) 127))*2 ^ (min (IntKind.i64.wrap (7*(i:Int))).toNat 64)))=((acc+b % 128*128 ^ i:Nat):Int)/\acc+b % 128*128 ^ i < 128 ^ (i+1):=by
 have hP:=pw8 hi
 have h7:(IntKind.i64.wrap (7*(i:Int))).toNat=7*i:=by rw [w64 (by omega) (by omega)]; omega
 have hm:min (7*i) 64=7*i:=by omega
 have hp:(2:Int) ^ (7*i)=((128 ^ i:Nat):Int):=by rw [<- p2]; simp
 rw [h7,hm,hp,GC _ (by omega) (by omega)]
 have hlt:b % 128*128 ^ i<=127*128 ^ i:=Nat.mul_le_mul_right _ (by omega)
 have hP1:128 ^ (i+1)=128*128 ^ i:=by rw [Nat.pow_succ,Nat.mul_comm]
 have e1:IntKind.i64.wrap ((b:Int) % 128)=((b % 128:Nat):Int):=by rw [w64 (by omega) (by omega)]; omega
 have e2:((b % 128:Nat):Int)*((128 ^ i:Nat):Int)=((b % 128*128 ^ i:Nat):Int):=by simp
 rw [e1,e2]
 generalize hw:b % 128*128 ^ i=w at hlt
 rw [w64 (by omega) (by omega),or_comm]
 have hmod:(w:Int) % 2 ^ (7*i)=0:=by
  rw [hp,<- hw]
  rw [<- Int.natCast_emod,Nat.mul_mod_left]
  rfl
 have:=bits_join .i64 63 (by decide) (λn h0 h1=>w64 (by omega) (by omega)) (7*i) (w:Int) (acc:Int) (by omega) hmod (by omega) (by omega) (by rw [hp]; omega) (by omega)
 rw [this]
 constructor
 ·omega
 ·omega
def Jg (s:ByteArray):Int ⊕ (Nat×Nat)->Int×cI
 | .inl e=>(0,⟨noS,e⟩)
 | .inr (v,j)=>(v,⟨gB s j s.size,0⟩)
theorem pJ (s:ByteArray) (e:Int) (h:e≠0):dR ⟨s,0⟩ e=some ⟨noS,e⟩:=by
 unfold dR
 have:(e != 0)=true:=by simpa using h
 simp [this,noS]
theorem vd (s:ByteArray) (e f:Int) (h:e≠0):dR ⟨s,e⟩ f=some ⟨s,e⟩:=by
 unfold dR
 have:(e == 0)=false:=by simpa using h
 simp [this]
theorem Jh (s:ByteArray) (hs:s.size<=1000000):gG ⟨s,0⟩=some (Jg s (rdp 9 0 0 (sbs s))):=by
 unfold gG
 have hl:(sbs s).length=s.size:=bG s
 refine Eq.trans ?_ (congrArg (λl=>some (Jg s (rdp 9 0 0 l))) (List.drop_zero (l:=sbs s)))
 have key: ∀ (k i acc:Nat),i+k=9->acc < 128 ^ i->i<=(sbs s).length->Option.bind (iter (σ:=Int×Int) (ρ:=Unit ⊕ (Int×cI)) (λa=>(bif (decide (a.1 < (dF ((⟨s,0⟩:cI).s.size:Int) 9))) then (Option.bind (w7 (⟨s,0⟩:cI).s a.1) λb213=>(Option.bind (chk (shk (IntKind.i64.wrap (7*a.1)))) λ_=>(bif (decide (b213>=128)) then some (.inl ((IntKind.i64.wrap (a.1+1)),(Go.bits .or .i64 a.2 (IntKind.i64.wrap ((IntKind.i64.wrap (Go.bits .and .u8 b213 127))*2 ^ (min (IntKind.i64.wrap (7*a.1)).toNat 64)))))) else (Option.bind ((bif (decide (a.1 > 0)) then (bif (b213 == 0) then some true else some (decide ((Go.bits .or .i64 a.2 (IntKind.i64.wrap ((IntKind.i64.wrap (Go.bits .and .u8 b213 127))*2 ^ (min (IntKind.i64.wrap (7*a.1)).toNat 64)))) > 4611686018427387904))) else some (decide ((Go.bits .or .i64 a.2 (IntKind.i64.wrap ((IntKind.i64.wrap (Go.bits .and .u8 b213 127))*2 ^ (min (IntKind.i64.wrap (7*a.1)).toNat 64)))) > 4611686018427387904))):Option Bool) λc=>(bif c then (Option.bind (dR (⟨s,0⟩:cI) 1) λd=>(k8 (some (0,d)))) else (Option.bind (chk (cZ (IntKind.i64.wrap (a.1+1)) ((⟨s,0⟩:cI).s.size:Int) (⟨s,0⟩:cI).s.size)) λ_=>(k8 (some ((Go.bits .or .i64 a.2 (IntKind.i64.wrap ((IntKind.i64.wrap (Go.bits .and .u8 b213 127))*2 ^ (min (IntKind.i64.wrap (7*a.1)).toNat 64)))),(cI.mk (gB (⟨s,0⟩:cI).s (IntKind.i64.wrap (a.1+1)) ((⟨s,0⟩:cI).s.size:Int)) (⟨s,0⟩:cI).e)))))))))) else some (.inr (.inl ())))) ((i:Int),(acc:Int))) (λ | .inl e176=>(Option.bind ((bif (decide (((⟨s,0⟩:cI).s.size:Int)>=9)) then (Option.bind (dR (⟨s,0⟩:cI) 1) λf=>some f) else some (⟨s,0⟩:cI)):Option cI) λg=>(Option.bind (dR g 2) λj=>some (0,j))) | .inr w=>some w)=some (Jg s (rdp k i acc ((sbs s).drop i))):=by
  intro k
  induction k with
  | zero =>
   intro i acc hi ha hil
   rw [cO (r:= .inl ())]
   ·rw [aA]
    dsimp only
    rw [decide_eq_true (by omega),cond_true,pJ _ _ (by decide),aA,aA,vd _ _ _ (by decide),aA]
    rfl
   ·dsimp only
    rw [dN,decide_eq_false (by omega),cond_false]
  | succ k ih =>
   intro i acc hi ha hil
   by_cases hlt:i < (sbs s).length
   ·obtain ⟨hb0,hb1⟩:=kz s _ (List.getElem_mem hlt)
    have hx:=ub s i hlt
    rw [List.drop_eq_getElem_cons hlt]
    generalize (sbs s)[i]=b at hb0 hb1 hx
    obtain ⟨B,rfl⟩:=Int.eq_ofNat_of_zero_le hb0
    obtain ⟨hor,hbd⟩:=Jf i acc B (by omega) ha (by omega)
    have hshk:chk (shk (IntKind.i64.wrap (7*(i:Int))))=some ():=by
     rw [w64 (by omega) (by omega)]
     exact lU (by omega)
    unfold rdp
    rw [Int.toNat_natCast]
    by_cases hbig:(B:Int)>=128
    ·rw [eN (s':=(((i+1:Nat):Int),((acc+B % 128*128 ^ i:Nat):Int)))]
     ·rw [ih (i+1) (acc+B % 128*128 ^ i) (by omega) hbd (by omega),if_neg (by omega)]
     ·dsimp only
      rw [dN,decide_eq_true (by omega),cond_true,hx,aA,hshk,aA,decide_eq_true hbig,cond_true,hor,w64 (by omega) (by omega)]
      rfl
    ·rw [if_pos (by omega)]
     have hc:((bif (decide ((i:Int) > 0)) then (bif ((B:Int) == 0) then some true else some (decide (((acc+B % 128*128 ^ i:Nat):Int) > 4611686018427387904))) else some (decide (((acc+B % 128*128 ^ i:Nat):Int) > 4611686018427387904))):Option Bool)=some (decide ((i > 0/\(B:Int)=0)\/acc+B % 128*128 ^ i > most)):=by
      have hd: ∀ v:Nat,decide ((v:Int) > 4611686018427387904)=decide (v > most):=λv=>by
       unfold most
       congr 1
       apply propext
       omega
      rw [hd]
      by_cases c1:i > 0
      ·have c1':(i:Int) > 0:=by omega
       rw [decide_eq_true c1',cond_true]
       by_cases c2:(B:Int)=0
       ·have:((B:Int) == 0)=true:=by simpa using c2
        rw [this,cond_true,decide_eq_true (.inl ⟨c1,c2⟩)]
       ·have:((B:Int) == 0)=false:=by simpa using c2
        rw [this,cond_false]
        congr 1
        by_cases c3:acc+B % 128*128 ^ i > most
        ·rw [decide_eq_true c3,decide_eq_true (.inr c3)]
        ·rw [decide_eq_false c3,decide_eq_false (by rintro (h | h); exact c2 h.2; exact c3 h)]
      ·rw [decide_eq_false (by omega),cond_false]
       congr 1
       by_cases c3:acc+B % 128*128 ^ i > most
       ·rw [decide_eq_true c3,decide_eq_true (.inr c3)]
       ·rw [decide_eq_false c3,decide_eq_false (by rintro (h | h); exact c1 h.1; exact c3 h)]
     by_cases hf:(i > 0/\(B:Int)=0)\/acc+B % 128*128 ^ i > most
     ·rw [if_pos hf,cO (r:= .inr (0,⟨noS,1⟩))]
      ·rfl
      ·dsimp only
       rw [dN,decide_eq_true (by omega),cond_true,hx,aA,hshk,aA,decide_eq_false hbig,cond_false,hor,hc,aA,decide_eq_true hf,cond_true,pJ _ _ (by decide),aA]
       rfl
     ·rw [if_neg hf,cO (r:= .inr (((acc+B % 128*128 ^ i:Nat):Int),⟨gB s ((i+1:Nat):Int) s.size,0⟩))]
      ·rfl
      ·dsimp only
       rw [dN,decide_eq_true (by omega),cond_true,hx,aA,hshk,aA,decide_eq_false hbig,cond_false,hor,hc,aA,decide_eq_false hf,cond_false,w64 (by omega) (by omega),bQ (by omega) (by omega) (by omega),aA]
       rfl
   ·have hd:(sbs s).drop i=[]:=List.drop_eq_nil_of_le (by omega)
    rw [hd,cO (r:= .inl ())]
    ·rw [aA]
     dsimp only
     rw [decide_eq_false (by omega),cond_false,aA,pJ _ _ (by decide),aA]
     rfl
    ·dsimp only
     rw [dN,decide_eq_false (by omega),cond_false]
 exact key 9 0 0 (by omega) (by omega) (by omega)
theorem uc (a b:ByteArray):(a.toList == b.toList)=decide (a=b):=by
 rw [ByteArray.toList_eq,ByteArray.toList_eq]
 by_cases h:a=b
 ·subst h
  rw [decide_eq_true rfl,beq_self_eq_true]
 ·rw [decide_eq_false h]
  have: ¬ a.data.toList=b.data.toList:=λe=>h (ByteArray.ext (Array.ext' e))
  simpa using this
theorem gZ (s:ByteArray) (lo hi:Nat):sbs (gB s lo hi)=((sbs s).take hi).drop lo:=by
 unfold sbs gB
 rw [ByteArray.data_extract,Int.toNat_natCast,Int.toNat_natCast]
 rw [Array.toList_extract]
 rw [List.extract_eq_take_drop,List.map_take,List.map_drop,List.drop_take]
theorem xo (s:ByteArray):jD (sbs s)=s:=by
 rw [zw]
 unfold sbs
 rw [List.map_map]
 have:((λn:Int=>UInt8.ofNat n.toNat) ∘ λb:UInt8=>(b.toNat:Int))=id:=by
  funext b
  simp
 rw [this,List.map_id]
theorem lu (l:List Int) (h: ∀ b∈l,0<=b/\b < 256):sbs (jD l)=l:=by
 rw [zw]
 unfold sbs
 simp only [List.map_map]
 induction l with
 | nil=>rfl
 | cons a l ih =>
  have ha:=h a (List.mem_cons_self ..)
  rw [List.map_cons,ih λb hb=>h b (List.mem_cons_of_mem _ hb)]
  congr 1
  show ((UInt8.ofNat a.toNat).toNat:Int)=a
  rw [UInt8.toNat_ofNat']
  omega
theorem ns {a b:ByteArray} (h:sbs a=sbs b):a=b:=by rw [<- xo a,h,xo]
theorem oy (a b:ByteArray):sbs (a++b)=sbs a++sbs b:=by
 unfold sbs
 rw [ByteArray.data_append]
 simp
def VI (i:cI):Prop:=i.s.size<=1000000/\(i.e=0\/i.s=noS)
def rdS (i:cI):Int×cI:=if i.e=0 then Jg i.s (rdp 9 0 0 (sbs i.s)) else (0,i)
theorem xp (i:cI) (h:VI i):gG i=some (rdS i):=by
 obtain ⟨s,e⟩:=i
 obtain ⟨h1,h2⟩:=h
 unfold rdS
 by_cases he:e=0
 ·subst he
  rw [if_pos rfl]
  exact Jh s h1
 ·rw [if_neg he]
  obtain rfl:s=noS:=h2.resolve_left he
  unfold gG
  rw [cO (r:= .inl ())]
  ·rw [aA]
   have hz:(noS.size:Int)=0:=rfl
   dsimp only
   rw [hz,decide_eq_false (by omega),cond_false,aA,vd _ _ _ he,aA]
  ·dsimp only
   have hz:(noS.size:Int)=0:=rfl
   rw [dN,hz,decide_eq_false (by omega),cond_false]
theorem GD: ∀ (k i acc:Nat) (l:List Int) (v j:Nat),(∀ b∈l,0<=b/\b < 256)->rdp k i acc l = .inr (v,j) -> ∃ w,v=acc+w*128 ^ i/\v<=most/\i < j/\j<=i+l.length/\mT w=l.take (j - i)/\(i > 0->w > 0):=by
 intro k
 induction k with
 | zero=>intro i acc l v j hb h; cases h
 | succ k ih =>
  intro i acc l v j hb h
  cases l with
  | nil=>cases h
  | cons b r =>
   unfold rdp at h
   have hb0:=hb b (List.mem_cons_self ..)
   obtain ⟨B,rfl⟩:=Int.eq_ofNat_of_zero_le hb0.1
   rw [Int.toNat_natCast] at h
   by_cases hbig:(B:Int) < 128
   ·rw [if_pos hbig] at h
    by_cases hf:(i > 0/\(B:Int)=0)\/acc+B % 128*128 ^ i > most
    ·rw [if_pos hf] at h
     cases h
    ·rw [if_neg hf] at h
     injection h with h
     injection h with hv hj
     have hm:B % 128=B:=Nat.mod_eq_of_lt (by omega)
     rw [hm] at hv hf
     refine ⟨B,hv.symm,?_,by omega,by simp; omega,?_,?_⟩
     ·rw [<- hv]
      exact Nat.le_of_not_lt λhh=>hf (.inr hh)
     ·rw [jv (by omega),<- hj]
      have:i+1 - i=1:=by omega
      rw [this]
      rfl
     ·intro hi
      exact Nat.pos_of_ne_zero λh0=>hf (.inl ⟨hi,by omega⟩)
   ·rw [if_neg hbig] at h
    obtain ⟨w,h1,h2,h3,h4,h5,h6⟩:=ih (i+1) _ r v j (λc hc=>hb c (List.mem_cons_of_mem _ hc)) h
    have hw:=h6 (by omega)
    refine ⟨B % 128+128*w,?_,h2,by omega,by simp; omega,?_,λ_=>by omega⟩
    ·rw [h1,Nat.pow_succ,Nat.add_mul,Nat.add_assoc]
     congr 2
     rw [Nat.mul_comm 128 w,Nat.mul_assoc,Nat.mul_comm 128]
    ·rw [pH (by omega)]
     have e1:(B % 128+128*w) / 128=w:=by omega
     have e2:128+(B % 128+128*w) % 128=B:=by omega
     have e3:j - i=(j - (i+1))+1:=by omega
     rw [e1,e2,h5,e3,List.take_succ_cons]
theorem Ji: ∀ (k i acc w:Nat) (R:List Int),w < 128 ^ (k+1)->k+1+i<=9->(i > 0->w > 0)->acc+w*128 ^ i<=most->rdp (k+1) i acc (mT w++R) = .inr (acc+w*128 ^ i,i+(mT w).length):=by
 intro k
 induction k with
 | zero =>
  intro i acc w R hw hk hi hm
  have hs:w < 128:=by simpa using hw
  rw [jv hs]
  show rdp (0+1) i acc ((w:Int)::R)=_
  unfold rdp
  have hmod:w % 128=w:=Nat.mod_eq_of_lt hs
  rw [if_pos (by omega),Int.toNat_natCast,hmod,if_neg]
  ·simp
  ·rintro (⟨h1,h2⟩ | h)
   ·have:=hi h1
    omega
   ·omega
 | succ k ih =>
  intro i acc w R hw hk hi hm
  by_cases hs:w < 128
  ·rw [jv hs]
   show rdp (k+1+1) i acc ((w:Int)::R)=_
   unfold rdp
   have hmod:w % 128=w:=Nat.mod_eq_of_lt hs
   rw [if_pos (by omega),Int.toNat_natCast,hmod,if_neg]
   ·simp
   ·rintro (⟨h1,h2⟩ | h)
    ·have:=hi h1
     omega
    ·omega
  ·rw [pH hs]
   have hq:w / 128 < 128 ^ (k+1):=by
    rw [Nat.pow_succ] at hw
    exact Nat.div_lt_of_lt_mul (by rw [Nat.mul_comm]; exact hw)
   have he:(128+w % 128) % 128=w % 128:=by omega
   have hsum:acc+w % 128*128 ^ i+w / 128*128 ^ (i+1)=acc+w*128 ^ i:=by
    rw [Nat.pow_succ,Nat.add_assoc]
    congr 1
    rw [Nat.mul_comm (128 ^ i) 128,<- Nat.mul_assoc,<- Nat.add_mul]
    congr 1
    omega
   show rdp (k+1+1) i acc (((128+w % 128:Nat):Int)::(mT (w / 128)++R))=_
   rw [rdp,if_neg (by omega),Int.toNat_natCast,he,ih (i+1) _ (w / 128) R hq (by omega) (λ_=>by omega) (by rw [hsum]; exact hm),hsum]
   simp only [List.length_cons]
   congr 2
   omega
theorem vN {i:cI} (h:VI i):VI (rdS i).2:=by
 obtain ⟨s,e⟩:=i
 obtain ⟨h1,h2⟩:=h
 unfold rdS
 by_cases he:e=0
 ·rw [if_pos he]
  cases hr:rdp 9 0 0 (sbs (⟨s,e⟩:cI).s) with
  | inl f=>exact ⟨by show noS.size<=1000000; decide,.inr rfl⟩
  | inr p =>
   refine ⟨?_,.inl rfl⟩
   show (gB s p.2 s.size).size<=1000000
   rw [<- bG,gZ,List.length_drop,List.length_take,bG]
   simp only at h1
   omega
 ·rw [if_neg he]
  exact ⟨h1,h2⟩
theorem Cc {i:cI} (h:(rdS i).2.e≠0):(rdS i).1=0:=by
 unfold rdS at *
 split at h
 ·rename_i he
  rw [if_pos he]
  cases hr:rdp 9 0 0 (sbs i.s) with
  | inl f=>rfl
  | inr p =>
   rw [hr] at h
   exact absurd rfl h
 ·rename_i he
  rw [if_neg he]
theorem GF {i:cI} (h:(rdS i).2.e=0) (hV:VI i):i.e=0 /\ ∃ w:Nat,(rdS i).1=w/\w<=most/\sbs i.s=mT w++sbs (rdS i).2.s:=by
 unfold rdS at *
 by_cases he:i.e=0
 ·rw [if_pos he] at h ⊢
  refine ⟨he,?_⟩
  cases hr:rdp 9 0 0 (sbs i.s) with
  | inl f =>
   rw [hr] at h
   -- an error is never nought
   exfalso
   have key: ∀ (k i acc:Nat) (l:List Int) (e:Int),rdp k i acc l = .inl e->e≠0:=by
    intro k
    induction k with
    | zero=>intro i acc l e hh; injection hh with hh; omega
    | succ k ih =>
     intro i acc l e hh
     cases l with
     | nil=>injection hh with hh; omega
     | cons b r =>
      unfold rdp at hh
      split at hh
      ·split at hh
       ·injection hh with hh
        omega
       ·cases hh
      ·exact ih _ _ _ _ hh
   exact key _ _ _ _ _ hr h
  | inr p =>
   obtain ⟨v,j⟩:=p
   obtain ⟨w,h1,h2,h3,h4,h5,h6⟩:=GD 9 0 0 (sbs i.s) v j (kz i.s) hr
   refine ⟨v,rfl,h2,?_⟩
   have hvw:v=w:=by rw [h1]; simp
   show sbs i.s=mT v++sbs (gB i.s j i.s.size)
   rw [hvw,h5,gZ,Nat.sub_zero]
   have:(sbs i.s).take i.s.size=sbs i.s:=List.take_of_length_le (by rw [bG]; exact Nat.le_refl _)
   rw [this,List.take_append_drop]
 ·rw [if_neg he] at h
  exact absurd h he
theorem xq {i:cI} (hV:VI i):0<=(rdS i).1/\(rdS i).1<=4611686018427387904:=by
 by_cases h:(rdS i).2.e=0
 ·obtain ⟨_,w,h1,h2,_⟩:=GF h hV
  rw [h1]
  unfold most at h2
  omega
 ·rw [Cc h]
  omega
theorem LI (s:ByteArray) (w:Nat) (R:List Int) (hw:w<=most) (hs:sbs s=mT w++R):rdS ⟨s,0⟩=((w:Int),⟨jD R,0⟩):=by
 unfold rdS
 rw [if_pos rfl]
 have hl:=ua 8 w (by unfold most at hw; omega)
 have h:=Ji 8 0 0 w R (by unfold most at hw; omega) (by omega) (λh=>by omega) (by simpa using hw)
 dsimp only
 rw [hs,h]
 show (((0+w*128 ^ 0:Nat):Int),(⟨gB s ((0+(mT w).length:Nat):Int) s.size,0⟩:cI))=_
 have e1:0+w*128 ^ 0=w:=by simp
 have e2:gB s ((0+(mT w).length:Nat):Int) s.size=jD R:=by
  rw [<- xo (gB s ((0+(mT w).length:Nat):Int) s.size),gZ]
  have:(sbs s).take s.size=sbs s:=List.take_of_length_le (by rw [bG]; exact Nat.le_refl _)
  rw [this,hs,Nat.zero_add,List.drop_left]
 rw [e1,e2]
theorem GG (l:List aG) (hl:l.length<=1000000) (h: ∀ r∈l,r.cells.length<=1000000/\okR r.cells):n7 l (l.map told)=some true:=by
 unfold n7
 have e0:((l.length:Int) != ((l.map told).length:Int))=false:=by simp
 rw [e0,cond_false]
 refine fw (λi=>(i:Int)) l.length (.inl ()) rfl ?_ ?_ rfl
 ·intro i hi
  try dsimp only
  have hr:=h _ (List.getElem_mem hi)
  rw [List.length_map,decide_eq_true (by omega),cond_true,dC l i hi,aA,dC _ _ (by simpa using hi),aA,List.getElem_map,MU _ hr.1 hr.2,aA,Bool.not_true,cond_false,w64 (by omega) (by omega)]
  rfl
 ·try dsimp only
  rw [List.length_map,decide_eq_false (by omega),cond_false]
theorem GH {W:Nat} {l:List aG} (h:GI W l) (y:Int) (r:aG) (hr:okR r.cells):GI W (sG W l y r):=⟨h.w1,h.w2,by rw [ka]; exact h.l1,by rw [ka]; exact h.l2,EZ h.rs y r hr⟩
def Jj:cI:=⟨noS,1⟩
theorem GJ:VI Jj:=⟨by show noS.size<=1000000; decide,.inr rfl⟩
theorem MZ {i:cI} (h:VI i):dR i 1=some (if i.e=0 then Jj else i):=by
 obtain ⟨s,e⟩:=i
 by_cases he:e=0
 ·subst he
  rw [if_pos rfl]
  exact pJ s 1 (by decide)
 ·rw [if_neg he]
  exact vd s e 1 he
def M0 (i:cI) (m:Int):Int×cI:=if (rdS i).1 > m then (0,Jj) else rdS i
theorem LJ {i:cI} (hV:VI i) {m:Int} (hm:0<=m) (h:(rdS i).1 > m):(rdS i).2.e=0:=by
 by_cases he:(rdS i).2.e=0
 ·exact he
 ·have:=Cc he
  omega
def pK:List aH->List (Nat×aH)
 | []=>[]
 | c::r=>match pK r with
  | (n,d)::t=>if c=d then (n+1,d)::t else (1,c)::(n,d)::t
  | []=>[(1,c)]
def oz (p:Nat×aH):List Int:=[(p.1:Int),p.2.rune,p.2.aO,p.2.part].flatMap dM
def mm (r:aG):List Int:=dM (if r.wrapped then 1 else 0)++(pK r.cells).flatMap oz
theorem yG: ∀ l:List aH,(pK l).length<=l.length
 | []=>Nat.le_refl _
 | c::r=>by
  have ih:=yG r
  unfold pK
  split
  ·rename_i n d t h
   rw [h] at ih
   split <;> (simp at ih ⊢; omega)
  ·simp
theorem xu (p:Nat×aH):(oz p).length<=36:=by
 unfold oz
 simp only [List.flatMap_cons,List.flatMap_nil,List.length_append,List.length_nil]
 have h1:=dJ (p.1:Int)
 have h2:=dJ p.2.rune
 have h3:=dJ p.2.aO
 have h4:=dJ p.2.part
 omega
theorem Ar (t:List (Nat×aH)):(t.flatMap oz).length<=36*t.length:=by
 induction t with
 | nil=>simp
 | cons a t ih =>
  rw [List.flatMap_cons,List.length_append,List.length_cons]
  have:=xu a
  omega
def more (c:aH):List aH->Nat
 | []=>0
 | d::r=>if d=c then more c r+1 else 0
theorem DB (c:aH): ∀ l,more c l<=l.length
 | []=>Nat.le_refl _
 | d::r=>by
  have:=DB c r
  unfold more
  split <;> simp <;> omega
theorem xv (c:aH): ∀ r:List aH,pK (c::r)=(more c r+1,c)::pK (r.drop (more c r))
 | []=>rfl
 | d::r=>by
  have ih:=xv d r
  have hu:pK (c::d::r)=(match pK (d::r) with
   | (n,e)::t=>if c=e then (n+1,e)::t else (1,c)::(n,e)::t
   | []=>[(1,c)]):=rfl
  rw [hu,ih]
  try dsimp only
  by_cases h:c=d
  ·subst h
   rw [if_pos rfl]
   have hm:more c (c::r)=more c r+1:=by
    show (if c=c then more c r+1 else 0)=_
    rw [if_pos rfl]
   rw [hm,List.drop_succ_cons]
  ·rw [if_neg h]
   have hm:more c (d::r)=0:=by
    show (if d=c then more c r+1 else 0)=_
    rw [if_neg (λe=>h e.symm)]
   rw [hm,List.drop_zero,ih]
theorem As (c:aH): ∀ (l:List aH) (k:Nat),k < more c l->l[k]?=some c
 | [],k,h=>by simp [more] at h
 | d::r,k,h=>by
  unfold more at h
  split at h
  ·rename_i e
   cases k with
   | zero=>rw [e]; rfl
   | succ k=>exact As c r k (by omega)
  ·omega
theorem yH (c:aH): ∀ (l:List aH),more c l < l.length->l[more c l]?≠some c
 | [],h=>by simp at h
 | d::r,h=>by
  have hu:more c (d::r)=if d=c then more c r+1 else 0:=rfl
  rw [hu] at h ⊢
  by_cases e:d=c
  ·rw [if_pos e] at h ⊢
   exact yH c r (by simpa using h)
  ·rw [if_neg e]
   simpa using e
theorem Jk: ∀ (m:Nat) (l:List aH) (b:List Int),l.length<=m->b.length+36*l.length<=9000000->okR l -> ∃ q,iter (σ:=(List aH)×cJ) (ρ:=((List aH)×cJ) ⊕ (cJ×(List aH))) (λa=>(bif (decide ((a.1.length:Int) > 0)) then (Option.bind (iter (σ:=Int) (ρ:=Int) (λf=>(Option.bind ((bif (decide (f < (a.1.length:Int))) then (Option.bind (idx a.1 f) λg=>(Option.bind (idx a.1 0) λh=>some ((g.rune == h.rune) && ((g.aO == h.aO) && ((g.part == h.part) && true))))) else some false):Option Bool) λj=>(bif j then some (.inl (IntKind.i64.wrap (f+1))) else some (.inr f)))) 1) λi=>(Option.bind (idx a.1 0) λn=>(Option.bind ((λ(s51:cJ) (x21:Int×aH)=>(Option.bind (cP s51 [x21.1,(IntKind.i64.wrap x21.2.rune),x21.2.aO,x21.2.part]) λo=>some (o,true))) a.2 (i,n)) λz1399=>(bif (!z1399.2) then (k8 (some (z1399.1,a.1))) else (Option.bind (chk (cZ i (a.1.length:Int) a.1.length)) λ_=>some (.inl ((cut a.1 i (a.1.length:Int)),z1399.1))))))) else some (.inr (.inl (a.1,a.2))))) (l,⟨b⟩)=some (.inl (q,⟨b++(pK l).flatMap oz⟩)):=by
 intro m
 induction m with
 | zero =>
  intro l b hl hb hok
  have:l=[]:=List.eq_nil_of_length_eq_zero (by omega)
  subst this
  refine ⟨[],?_⟩
  refine cO ?_
  try dsimp only
  rw [decide_eq_false (by simp),cond_false]
  simp [pK]
 | succ m ih =>
  intro l b hl hb hok
  cases l with
  | nil =>
   refine ⟨[],?_⟩
   refine cO ?_
   try dsimp only
   rw [decide_eq_false (by simp),cond_false]
   simp [pK]
  | cons c r =>
   have hmr:=DB c r
   have hcok:rok c.rune:=hok c (List.mem_cons_self ..)
   simp only [List.length_cons] at hl hb
   have hon:=lL b [((more c r+1:Nat):Int),c.rune,c.aO,c.part] (by first | (simp; omega) | simp)
   have hd:(r.drop (more c r)).length<=m:=by rw [List.length_drop]; omega
   have hel:=xu (more c r+1,c)
   obtain ⟨q,hq⟩:=ih (r.drop (more c r)) (b++oz (more c r+1,c)) hd (by rw [List.length_append,List.length_drop]; omega) (xh (λd hd'=>hok d (List.mem_cons_of_mem _ hd')) _)
   refine ⟨q,?_⟩
   rw [eN (s':=(r.drop (more c r),(⟨b++oz (more c r+1,c)⟩:cJ)))]
   ·rw [hq,xv,List.flatMap_cons,List.append_assoc]
   ·try dsimp only
    rw [decide_eq_true (by first | (simp; omega) | simp),cond_true]
    refine fw (λk=>((k+1:Nat):Int)) (more c r) ((more c r+1:Nat):Int) rfl ?_ ?_ ?_
    ·intro k hk
     have hg:=As c r k hk
     have hgi:idx (c::r) ((k+1:Nat):Int)=some c:=by rw [fL,List.getElem?_cons_succ,hg]
     have hg0:idx (c::r) 0=some c:=rfl
     try dsimp only
     rw [decide_eq_true (by first | (simp; omega) | simp),cond_true,hgi,aA,hg0,aA,pE,decide_eq_true rfl,aA,cond_true,w64 (by omega) (by omega)]
     rfl
    ·try dsimp only
     by_cases hlt:more c r < r.length
     ·have hs:=yH c r hlt
      have hgi:idx (c::r) ((more c r+1:Nat):Int)=some r[more c r]:=by rw [fL,List.getElem?_cons_succ,List.getElem?_eq_getElem hlt]
      have hg0:idx (c::r) 0=some c:=rfl
      have hne: ¬ r[more c r]=c:=λe=>hs (by rw [List.getElem?_eq_getElem hlt,e])
      rw [decide_eq_true (by first | (simp; omega) | simp),cond_true,hgi,aA,hg0,aA,pE,decide_eq_false hne,aA,cond_false]
     ·rw [decide_eq_false (by first | (simp; omega) | simp),cond_false,aA,cond_false]
    ·have hg0:idx (c::r) 0=some c:=rfl
     have hce:oz (more c r+1,c)=[((more c r+1:Nat):Int),c.rune,c.aO,c.part].flatMap dM:=rfl
     rw [hg0,aA,w32 hcok,hon,aA,aA]
     try dsimp only
     rw [Bool.not_true,cond_false,bQ (by omega) (by first | (simp; omega) | simp) (by simp),aA,qk,List.take_length,List.drop_succ_cons,hce]
theorem xw (r:aG) (h:r.cells.length<=1000) (hok:okR r.cells):jt r=some (jD (mm r)):=by
 unfold jt qd oP nk fD
 have xT:((bif r.wrapped then some 1 else some 0):Option Int)=some (if r.wrapped then 1 else 0):=by cases r.wrapped <;> rfl
 rw [xT,aA,lL [] _ (by simp),aA,aA]
 have hb:=dJ (if r.wrapped then 1 else 0)
 obtain ⟨q,hq⟩:=Jk r.cells.length r.cells (dM (if r.wrapped then 1 else 0)) (Nat.le_refl _) (by omega) hok
 have e0:([]++[(if r.wrapped then (1:Int) else 0)].flatMap dM)=dM (if r.wrapped then 1 else 0):=by simp
 rw [e0,hq,aA,aA,aA]
 rfl
theorem Jl {w:Nat} (h:w<=most):clN (w:Int)=w:=by unfold clN; unfold most at h; omega
theorem At {w:Nat} (h:w<=most):dM (w:Int)=mT w:=by unfold dM; rw [Jl h]
theorem Cd (a b:Bool):((bif a then some b else some false):Option Bool)=some (a && b):=by cases a <;> rfl
theorem bor (a b:Bool):((bif a then some true else some b):Option Bool)=some (a || b):=by cases a <;> rfl
def okG (r s:Int):Bool:=(decide (r>=0) && decide (r<=1114111)) && (decide (s>=0) && decide (s<=647))
def okC (c:aH):Bool:=okG c.rune c.aO && (decide (c.part>=0) && decide (c.part<=3))
def lQ (s:aL):Bool:=(s.k == 0) && ((s.w == 0) && ((s.h == 0) && ((s.x == 0) && ((s.y == 0) && ((s.title.toList == (ByteArray.mk #[]).toList) && (((s.rows.length:Int) == 0) && ((s.len == 0) && ((s.chain == 0) && ((s.begun.length:Int) == 0)))))))))
def wi (n lo hi:Int):Bool:=decide (n>=lo) && decide (n<=hi)
def ve (s:aL):Bool:=wi s.k 1 1152921504606846976 && (wi s.w 1 1000 && (wi s.h 1 1000 && (wi s.x 0 (s.w - 1) && (wi s.y 0 (s.h - 1) && (((s.rows.length:Int) == s.h) && (decide ((s.title.size:Int)<=200) && (wi s.len 0 1152921504606846976 && (wi s.chain 0 281474976710656 && decide ((s.begun.length:Int)<=1024)))))))))
def sU (w:Int) (r:aG):Bool:=((r.cells.length:Int) == w) && r.cells.all okC
def ql (s:aL):Bool:=lQ s || (ve s && ((s.begun.all λg=>okG g.rune g.aO) && s.rows.all (sU s.w)))
theorem empty_eq (s:aL):gM s=some (lQ s):=by
 unfold gM lQ
 simp only [Cd,aA]
theorem tz (n lo hi:Int):eM n lo hi=some (wi n lo hi):=by
 unfold eM wi
 rw [Cd,aA]
structure SW (s:aL):Prop where
 w1: -9223372036854775808<=s.w/\s.w<=9223372036854775807
 h1: -9223372036854775808<=s.h/\s.h<=9223372036854775807
 gl: ∀ g∈s.begun,rok g.rune
 ro: ∀ r∈s.rows,okR r.cells/\r.cells.length<=1000
 rl:s.rows.length<=1000
 bl:s.begun.length<=2000
 tl:s.title.size<=6000
theorem GK (s:aL) (h:SW s):jW s=some (ve s):=by
 unfold jW ve
 simp only [tz,aA]
 by_cases hw:s.w>=1
 ·have e1:IntKind.i64.wrap (s.w - 1)=s.w - 1:=w64 (by omega) (by have:=h.w1; omega)
  by_cases hh:s.h>=1
  ·have e2:IntKind.i64.wrap (s.h - 1)=s.h - 1:=w64 (by omega) (by have:=h.h1; omega)
   simp only [e1,e2,Cd,aA]
  ·have e2:wi s.h 1 1000=false:=by unfold wi; rw [decide_eq_false hh]; rfl
   simp only [e2,e1,cond_false,Cd,Bool.false_and,Bool.and_false,aA]
 ·have e2:wi s.w 1 1000=false:=by unfold wi; rw [decide_eq_false hw]; rfl
  simp only [e2,cond_false,Cd,Bool.false_and,Bool.and_false,aA]
theorem Au (r s:Int) (h:rok r):lK r s=some (okG r s):=by
 unfold lK okG
 simp only [tz,aA,w32 h,Cd,wi]
theorem E2 (c:aH) (h:rok c.rune):nC c=some (okC c):=by
 unfold nC okC
 rw [Au _ _ h]
 simp only [tz,aA,Cd,wi]
theorem find_eq {α:Type} (l:List α) (p:α->Bool) (hl:l.length<=1000000) (f:Int->Option (Int ⊕ (Unit ⊕ Int))) (hf: ∀ (n:Nat) (hn:n < l.length),f (n:Int)=if p l[n] then some (.inr (.inr (n:Int))) else some (.inl ((n+1:Nat):Int))) (he:f (l.length:Int)=some (.inr (.inl ()))): ∃ q,iter f 0=some q/\((q = .inl ()/\l.any p=false) \/ ∃ w:Int,q = .inr w/\0<=w/\l.any p=true):=by
 obtain ⟨q,h1,h2⟩:=xj (f:=f) (λi:Int=> ∃ n:Nat,i=n/\n<=l.length/\(l.take n).any p=false) (λi=>(l.length - i).toNat) (λq=>(q = .inl ()/\l.any p=false) \/ ∃ w:Int,q = .inr w/\0<=w/\l.any p=true) (by
  rintro i ⟨n,rfl,hn,ht⟩
  by_cases hlt:n < l.length
  ·by_cases hp:p l[n]=true
   ·refine .inr ⟨.inr (n:Int),by rw [hf n hlt,if_pos hp],.inr ⟨_,rfl,by omega,List.any_eq_true.2 ⟨l[n],List.getElem_mem hlt,hp⟩⟩⟩
   ·refine .inl ⟨((n+1:Nat):Int),by rw [hf n hlt,if_neg hp],⟨n+1,rfl,hlt,?_⟩,by omega⟩
    rw [List.take_succ_eq_append_getElem hlt,List.any_append,ht]
    simpa using hp
  ·have hnl:n=l.length:=by omega
   subst hnl
   refine .inr ⟨.inl (),he,.inl ⟨rfl,?_⟩⟩
   rwa [List.take_length] at ht) 0 ⟨0,rfl,by omega,rfl⟩
 exact ⟨q,h1,h2⟩
theorem Jm (l:List aJ) (hl:l.length<=1000000) (h: ∀ g∈l,rok g.rune):cL l=some (l.any λg=> !okG g.rune g.aO):=by
 unfold cL dL
 have hlen:l.length=l.length:=rfl
 obtain ⟨q,h1,h2⟩:=find_eq l (λg=> !okG g.rune g.aO) hl (λa=>(bif (decide (a < (l.length:Int))) then (Option.bind (idx l a) λb=>(Option.bind (iV b) λc=>(bif c then (k8 (some a)) else some (.inl (IntKind.i64.wrap (a+1)))))) else some (.inr (.inl ())))) (by
  intro n hn
  unfold iV
  rw [decide_eq_true (by omega),cond_true,dC l n hn,aA,Au _ _ (h _ (List.getElem_mem hn)),aA,aA,w64 (by omega) (by omega)]
  cases okG l[n].rune l[n].aO <;> rfl) (by
  rw [decide_eq_false (by omega),cond_false])
 rw [h1,aA]
 rcases h2 with ⟨rfl,h3⟩ | ⟨w,rfl,h4,h3⟩
 ·rw [h3]
  rfl
 ·rw [h3]
  show some (decide (w>=0))=some true
  rw [decide_eq_true h4]
theorem Jn (l:List aH) (hl:l.length<=1000000) (h:okR l):cF l=some (l.any λc=> !okC c):=by
 unfold cF dO
 obtain ⟨q,h1,h2⟩:=find_eq l (λc=> !okC c) hl (λa=>(bif (decide (a < (l.length:Int))) then (Option.bind (idx l a) λb=>(Option.bind (iW b) λd=>(bif d then (k8 (some a)) else some (.inl (IntKind.i64.wrap (a+1)))))) else some (.inr (.inl ())))) (by
  intro n hn
  unfold iW
  rw [decide_eq_true (by omega),cond_true,dC l n hn,aA,E2 _ (h _ (List.getElem_mem hn)),aA,aA,w64 (by omega) (by omega)]
  cases okC l[n] <;> rfl) (by
  rw [decide_eq_false (by omega),cond_false])
 rw [h1,aA]
 rcases h2 with ⟨rfl,h3⟩ | ⟨w,rfl,h4,h3⟩
 ·rw [h3]
  rfl
 ·rw [h3]
  show some (decide (w>=0))=some true
  rw [decide_eq_true h4]
theorem DD {α:Type} (l:List α) (p:α->Bool):(l.any λx=> !p x) = !(l.all p):=by
 induction l with
 | nil=>rfl
 | cons a l ih=>rw [List.any_cons,List.all_cons,ih,Bool.not_and]
theorem xx (s:aL) (h:SW s):fv s=some (if ql s then 0 else 1):=by
 unfold fv ql
 rw [empty_eq,aA]
 cases he:lQ s with
 | true =>
  rw [cond_true]
  rfl
 | false =>
  rw [cond_false,GK s h,aA,Jm _ (by have:=h.bl; omega) h.gl,aA,bor,aA,DD]
  cases hs:ve s with
  | false=>rfl
  | true =>
   cases hg:(s.begun.all λg=>okG g.rune g.aO) with
   | false=>rfl
   | true =>
    show Option.bind (iter _ 0) _=some (if s.rows.all (sU s.w)=true then 0 else 1)
    have hrl:=h.rl
    refine rh (λi:Int=> ∃ n:Nat,i=n/\n<=s.rows.length/\(s.rows.take n).all (sU s.w)=true) (λi=>(s.rows.length - i).toNat) (λq=>q=if s.rows.all (sU s.w)=true then .inl () else .inr 1) ⟨0,rfl,by omega,rfl⟩ ?_ ?_
    ·rintro i ⟨n,rfl,hn,ht⟩
     by_cases hlt:n < s.rows.length
     ·have hro:=h.ro _ (List.getElem_mem hlt)
      have hcond:((bif ((s.rows[n].cells.length:Int) != s.w) then some true else (Option.bind (cF s.rows[n].cells) λa=>some a)):Option Bool)=some (!sU s.w s.rows[n]):=by
       rw [Jn _ (by omega) hro.1,aA,bor,DD]
       unfold sU
       rw [Bool.not_and]
       rfl
      try dsimp only
      rw [decide_eq_true (by omega),cond_true,dC _ _ hlt,aA,hcond,aA,w64 (by omega) (by omega)]
      cases hb:sU s.w s.rows[n] with
      | true =>
       refine .inl ⟨((n+1:Nat):Int),rfl,⟨n+1,rfl,hlt,?_⟩,by omega⟩
       rw [List.take_succ_eq_append_getElem hlt,List.all_append,ht]
       simp [hb]
      | false =>
       refine .inr ⟨.inr 1,rfl,?_⟩
       rw [if_neg]
       intro hall
       have:=List.all_eq_true.1 hall _ (List.getElem_mem hlt)
       rw [hb] at this
       cases this
     ·refine .inr ⟨.inl (),?_,?_⟩
      ·try dsimp only
       rw [decide_eq_false (by omega),cond_false]
      ·have hnl:n=s.rows.length:=by omega
       subst hnl
       rw [List.take_length] at ht
       rw [if_pos ht]
    ·rintro q rfl
     by_cases hall:s.rows.all (sU s.w)=true
     ·rw [if_pos hall,if_pos hall]
     ·rw [if_neg hall,if_neg hall]
def tg (g:aJ):tr:=⟨g.rune,g.aO⟩
theorem ud (b:List Int) (s:ByteArray) (hb:b.length+s.size<=10000000):gC ⟨b⟩ [s]=some ⟨b++sbs s⟩:=by
 unfold gC
 rw [eN (s':=((⟨b++sbs s⟩:cJ),(1:Int)))]
 ·rw [cO (r:=(⟨b++sbs s⟩:cJ))]
  ·rfl
  ·dsimp only
   rw [decide_eq_false (by simp),cond_false]
 ·dsimp only
  have h0:idx [s] 0=some s:=rfl
  rw [decide_eq_true (by simp),cond_true,h0,aA,bP (by omega),aA]
  rfl
theorem xy (b:List Int) (s:ByteArray) (hb:b.length+s.size<=1000000):jq ⟨b⟩ [s]=some ⟨b++(dM s.size++sbs s)⟩:=by
 unfold jq
 have he:=dJ (s.size:Int)
 rw [eN (s':=((⟨b++(dM s.size++sbs s)⟩:cJ),(1:Int)))]
 ·rw [cO (r:=(⟨b++(dM s.size++sbs s)⟩:cJ))]
  ·rfl
  ·dsimp only
   rw [decide_eq_false (by simp),cond_false]
 ·dsimp only
  have h0:idx [s] 0=some s:=rfl
  rw [decide_eq_true (by simp),cond_true,h0,aA,lL _ _ (by simp; omega),aA]
  simp only [List.flatMap_cons,List.flatMap_nil,List.append_nil]
  rw [ud _ _ (by rw [List.length_append]; omega),aA,List.append_assoc]
  rfl
def yg (g:aJ):List Int:=[g.rune,g.aO].flatMap dM
def lO (l:List aJ):List Int:=dM l.length++l.flatMap yg
theorem GL (g:aJ):(yg g).length<=18:=by
 unfold yg
 simp only [List.flatMap_cons,List.flatMap_nil,List.length_append,List.length_nil]
 have h1:=dJ g.rune
 have h2:=dJ g.aO
 omega
theorem sb (l:List aJ):(l.flatMap yg).length<=18*l.length:=by
 induction l with
 | nil=>simp
 | cons a t ih =>
  rw [List.flatMap_cons,List.length_append,List.length_cons]
  have:=GL a
  omega
theorem ue (l:List aJ) (h:l.length<=2000) (hr: ∀ g∈l,rok g.rune):jP l=some (jD (lO l)):=by
 unfold jP fD lO
 have he:=dJ (l.length:Int)
 rw [lL [] _ (by simp),aA]
 have e0:([]++[(l.length:Int)].flatMap dM)=dM l.length:=by simp
 rw [e0]
 refine fw (λi=>((⟨dM l.length++(l.take i).flatMap yg⟩:cJ),(i:Int))) l.length (⟨dM l.length++l.flatMap yg⟩:cJ) (by simp) ?_ ?_ rfl
 ·intro i hi
  dsimp only
  have h2:=sb (l.take i)
  rw [List.length_take] at h2
  rw [decide_eq_true (by omega),cond_true,dC _ _ hi,aA,w32 (hr _ (List.getElem_mem hi)),lL _ _ (by simp only [List.length_append,List.length_cons,List.length_nil]; omega),aA,w64 (by omega) (by omega),List.take_succ_eq_append_getElem hi,List.flatMap_append,List.flatMap_singleton,List.append_assoc]
  rfl
 ·dsimp only
  rw [decide_eq_false (by omega),cond_false,List.take_length]
def sV (s:aL):List Int:=[s.k,s.w,s.h,s.x,s.y].flatMap dM++(dM s.title.size++sbs s.title)++[s.len,s.chain].flatMap dM++lO s.begun
def xz (s:aL):List Int:=sV s++s.rows.flatMap mm
theorem yI (s:aL) (h:SW s):(sV s).length<=46000:=by
 unfold sV lO
 simp only [List.flatMap_cons,List.flatMap_nil,List.length_append,List.length_nil,bG]
 have a1:=dJ s.k
 have a2:=dJ s.w
 have a3:=dJ s.h
 have a4:=dJ s.x
 have a5:=dJ s.y
 have a6:=dJ (s.title.size:Int)
 have a7:=dJ s.len
 have a8:=dJ s.chain
 have a9:=dJ (s.begun.length:Int)
 have b1:=sb s.begun
 have b2:=h.bl
 have b3:=h.tl
 omega
theorem zx (l:List aG) (i:Nat):((l.take i).flatMap mm).length<=(l.flatMap mm).length:=by
 have:l.flatMap mm=(l.take i).flatMap mm++(l.drop i).flatMap mm:=by rw [<- List.flatMap_append,List.take_append_drop]
 rw [this,List.length_append]
 omega
def nS (s:aL):ByteArray:=if lQ s=true\/ql s=false then noS else jD (xz s)
theorem DE (s:aL) (h:SW s) (hp:(s.rows.flatMap mm).length<=1000000):jo s=some (nS s):=by
 unfold jo nS
 have hc:((Option.bind (gM s) λa=>(bif a then some true else (Option.bind (fv s) λc=>some (c != 0)))):Option Bool)=some (lQ s || !ql s):=by
  rw [empty_eq,aA,xx s h,aA]
  cases lQ s <;> cases ql s <;> rfl
 rw [hc,aA]
 by_cases hb:lQ s=true\/ql s=false
 ·rw [if_pos hb]
  have:(lQ s || !ql s)=true:=by
   rcases hb with hb | hb <;> simp [hb]
  rw [this,cond_true]
  rfl
 ·rw [if_neg hb]
  have hne:lQ s=false:=by cases he:lQ s with | true=>exact absurd (.inl he) hb | false=>rfl
  have hm:ql s=true:=by cases he:ql s with | false=>exact absurd (.inr he) hb | true=>rfl
  rw [hne,hm]
  show Option.bind (cP ⟨[]⟩ [s.k,s.w,s.h,s.x,s.y]) _=_
  have hpl:=yI s h
  have htl:=h.tl
  have hph:(sV s).length=([s.k,s.w,s.h,s.x,s.y].flatMap dM).length+((dM s.title.size++sbs s.title).length+(([s.len,s.chain].flatMap dM).length+(lO s.begun).length)):=by
   unfold sV
   rw [List.length_append,List.length_append,List.length_append]
   omega
  have hts:(dM s.title.size++sbs s.title).length=(dM s.title.size).length+s.title.size:=by rw [List.length_append,bG]
  have hbs: ∀ b∈lO s.begun,0<=b/\b < 256:=by
   intro b hb
   unfold lO at hb
   rcases List.mem_append.1 hb with hb | hb
   ·exact pI _ b hb
   ·obtain ⟨g,_,hg⟩:=List.mem_flatMap.1 hb
    unfold yg at hg
    obtain ⟨x,_,hx⟩:=List.mem_flatMap.1 hg
    exact pI _ b hx
  rw [lL _ _ (by simp),aA,List.nil_append,xy _ _ (by omega),aA,lL _ _ (by rw [List.length_append]; simp only [List.length_cons,List.length_nil]; omega),aA,ue _ h.bl h.gl,aA,ud _ _ (by rw [gq,List.length_append,List.length_append]; omega),aA,lu _ hbs]
  have hhead:[s.k,s.w,s.h,s.x,s.y].flatMap dM++(dM s.title.size++sbs s.title)++[s.len,s.chain].flatMap dM++lO s.begun=sV s:=rfl
  rw [hhead]
  refine fw (λi=>((⟨sV s++(s.rows.take i).flatMap mm⟩:cJ),(i:Int))) s.rows.length (⟨xz s⟩:cJ) (by simp) ?_ ?_ rfl
  ·intro i hi
   have hro:=h.ro _ (List.getElem_mem hi)
   have hl1:=zx s.rows (i+1)
   rw [List.take_succ_eq_append_getElem hi,List.flatMap_append,List.flatMap_singleton,List.length_append] at hl1
   have hrl:=h.rl
   have hbr: ∀ b∈mm s.rows[i],0<=b/\b < 256:=by
    intro b hb
    unfold mm at hb
    rcases List.mem_append.1 hb with hb | hb
    ·exact pI _ b hb
    ·obtain ⟨g,_,hg⟩:=List.mem_flatMap.1 hb
     unfold oz at hg
     obtain ⟨x,_,hx⟩:=List.mem_flatMap.1 hg
     exact pI _ b hx
   dsimp only
   rw [decide_eq_true (by omega),cond_true,dC _ _ hi,aA,xw _ hro.2 hro.1,aA,ud _ _ (by rw [gq,List.length_append]; omega),aA,lu _ hbr,w64 (by omega) (by omega),List.take_succ_eq_append_getElem hi,List.flatMap_append,List.flatMap_singleton,List.append_assoc]
   rfl
  ·have hrl:=h.rl
   dsimp only
   rw [decide_eq_false (by omega),cond_false,List.take_length]
   rfl
def Ce (j:cI) (n:Int):ByteArray×cI:=if j.e≠0 then (noS,j) else if n > j.s.size then (noS,⟨noS,2⟩) else (gB j.s 0 n,⟨gB j.s n j.s.size,0⟩)
def v7 (i:cI):ByteArray×cI:=Ce (rdS i).2 (rdS i).1
theorem DG:gB noS 0 0=noS:=by
 apply ns
 have:=gZ noS 0 0
 exact this
theorem LK (j:cI) (n:Int) (h:VI j) (h0:0<=n) (he:j.e≠0->n=0):mF j n=some (Ce j n):=by
 obtain ⟨s,e⟩:=j
 unfold mF Ce
 have hm:imax 0 n=n:=by rw [gy]; omega
 have hsz:=h.1
 rw [hm]
 dsimp only at *
 by_cases hz:e=0
 ·subst hz
  rw [if_neg (by simp)]
  by_cases hb:n > s.size
  ·rw [decide_eq_true hb,cond_true,if_pos hb,pJ _ _ (by decide),aA]
   rfl
  ·rw [decide_eq_false hb,cond_false,if_neg hb,bQ (by omega) (by omega) (by omega),aA,bQ (by omega) (by omega) (by omega),aA]
 ·obtain rfl:=he hz
  obtain rfl:s=noS:=h.2.resolve_left hz
  rw [if_pos hz,decide_eq_false (by decide),cond_false,bQ (by decide) (by decide) (by decide),aA,bQ (by decide) (by decide) (by decide),aA]
  have h2:gB noS 0 (noS.size:Int)=noS:=DG
  rw [DG,h2]
theorem Jo (i:cI) (h:VI i):lV i=some (v7 i):=by
 unfold lV v7
 rw [xp i h,aA,LK _ _ (vN h) (xq h).1 (λhe=>Cc he),aA]
theorem LL {i:cI} (h:VI i):VI (v7 i).2:=by
 unfold v7 Ce
 have hV:=vN h
 split
 ·exact hV
 ·split
  ·exact ⟨by show noS.size<=1000000; decide,.inr rfl⟩
  ·refine ⟨?_,.inl rfl⟩
   have hr:=xq h
   obtain ⟨n,hn⟩:=Int.eq_ofNat_of_zero_le hr.1
   show (gB (rdS i).2.s (rdS i).1 (rdS i).2.s.size).size<=1000000
   rw [hn,<- bG,gZ,List.length_drop,List.length_take,bG]
   have:=hV.1
   omega
theorem GM {i:cI} (h:VI i) {m:Nat} (hm:i.s.size<=m):(v7 i).1.size<=m/\(i.e=0\/i.s=noS):=by
 refine ⟨?_,h.2⟩
 unfold v7 Ce
 split
 ·exact Nat.zero_le _
 ·split
  ·exact Nat.zero_le _
  ·rename_i he hn
   have he':(rdS i).2.e=0:=by simpa using he
   obtain ⟨_,w,hw,_,hb⟩:=GF he' h
   have hl:=congrArg List.length hb
   rw [List.length_append,bG,bG] at hl
   show (gB (rdS i).2.s 0 (rdS i).1).size<=m
   rw [hw,show (0:Int)=((0:Nat):Int) from rfl,<- bG,gZ,List.length_drop,List.length_take,bG]
   omega
def mC:aL:=⟨0,0,0,0,0,noS,[],0,0,[]⟩
def yh (i:cI):Int:=if i.s≠noS then 1 else i.e
theorem LM (i:cI):mG i=some (yh i):=by
 unfold mG yh
 have:(i.s.toList == (ByteArray.mk #[]).toList)=decide (i.s=noS):=uc i.s noS
 rw [this]
 by_cases h:i.s=noS
 ·rw [decide_eq_true h,if_neg (λhh=>hh h)]; rfl
 ·rw [decide_eq_false h,if_pos h]; rfl
def hA (s:ByteArray):=rdS ⟨s,0⟩
def hB (s:ByteArray):=M0 (hA s).2 1000
def hC (s:ByteArray):=M0 (hB s).2 1000
def hD (s:ByteArray):=rdS (hC s).2
def hE (s:ByteArray):=rdS (hD s).2
def hT (s:ByteArray):=v7 (hE s).2
def SZ (m:Nat) (i:cI):Prop:=VI i/\i.s.size<=m
theorem DH {i:cI} {m:Nat} (h:SZ m i):SZ m (rdS i).2:=by
 refine ⟨vN h.1,?_⟩
 by_cases he:(rdS i).2.e=0
 ·obtain ⟨-,w, -, -,hw⟩:=GF he h.1
  have:=congrArg List.length hw
  rw [List.length_append,bG,bG] at this
  have:=h.2
  omega
 ·rcases (vN h.1).2 with h1 | h1
  ·exact absurd h1 he
  ·rw [h1]; exact Nat.zero_le _
theorem E4 (s:aL) (h:SW s):jX s=some s:=by
 unfold jX
 have hl:=h.rl
 refine fw (λi=>(s.rows.take i,(i:Int))) s.rows.length s.rows rfl ?_ ?_ ?_
 ·intro i hi
  dsimp only
  have hr:=(h.ro _ (List.getElem_mem hi)).2
  rw [decide_eq_true (by omega),cond_true,dC _ _ hi,aA,xe _ (by omega),aA,bP (by simp; omega),aA,w64 (by omega) (by omega),List.take_succ_eq_append_getElem hi]
  rfl
 ·dsimp only
  rw [decide_eq_false (by omega),cond_false,List.take_length]
 ·have hb:=h.bl
  unfold cA
  rw [bP (by simp; omega),aA,aA]
  rfl
def BB (l:List Int):Prop:= ∀ b∈l,0<=b/\b < 256
theorem lx {a b:List Int} (h:BB a) (h2:BB b):BB (a++b):=by
 intro x hx
 rcases List.mem_append.1 hx with h' | h'
 ·exact h x h'
 ·exact h2 x h'
theorem mU (n:Int):BB (dM n):=pI _
theorem tB (s:ByteArray):BB (sbs s):=kz s
theorem nt {α:Type} {l:List α} {f:α->List Int} (h: ∀ a∈l,BB (f a)):BB (l.flatMap f):=by
 intro x hx
 obtain ⟨a,ha,hx⟩:=List.mem_flatMap.1 hx
 exact h a ha x hx
theorem LN (p:Nat×aH):BB (oz p):=nt λa _=>mU a
theorem GN (r:aG):BB (mm r):=lx (mU _) (nt λa _=>LN a)
theorem M1 (g:aJ):BB (yg g):=nt λa _=>mU a
def bI (l:List Int):cI:=⟨jD l,0⟩
theorem Cg {n:Int} (h0:0<=n) (h1:n<=4611686018427387904):dM n=mT n.toNat/\n.toNat<=most/\((n.toNat:Nat):Int)=n:=by
 have:((n.toNat:Nat):Int)=n:=by omega
 refine ⟨?_,by unfold most; omega,this⟩
 conv=>lhs; rw [<- this]
 exact At (by unfold most; omega)
theorem GO {n:Int} {R:List Int} (hR:BB R) (h0:0<=n) (h1:n<=4611686018427387904):rdS (bI (dM n++R))=(n,bI R):=by
 obtain ⟨e,m,q⟩:=Cg h0 h1
 have:=LI (jD (dM n++R)) n.toNat R m (by rw [lu _ (lx (mU _) hR),e])
 rw [q] at this
 exact this
theorem M3 (t:ByteArray) {R:List Int} (hR:BB R) (ht:t.size<=100000):v7 (bI (dM t.size++sbs t++R))=(t,bI R):=by
 unfold v7
 rw [List.append_assoc,GO (lx (tB t) hR) (by omega) (by omega)]
 have hb:sbs (jD (sbs t++R))=sbs t++R:=lu _ (lx (tB t) hR)
 have hsz:(jD (sbs t++R)).size=t.size+R.length:=by rw [<- bG,hb,List.length_append,bG]
 unfold Ce bI
 dsimp only
 rw [if_neg (by simp),if_neg (by rw [hsz]; omega)]
 have h1:gB (jD (sbs t++R)) 0 (t.size:Int)=t:=by
  apply ns
  have:=gZ (jD (sbs t++R)) 0 t.size
  rw [hb] at this
  refine Eq.trans this ?_
  have e:t.size=(sbs t).length:=(bG t).symm
  rw [e,List.take_left,List.drop_zero]
 have h2:gB (jD (sbs t++R)) (t.size:Int) ((jD (sbs t++R)).size:Int)=jD R:=by
  apply ns
  rw [gZ,hb,lu _ hR,hsz,List.take_of_length_le (by rw [List.length_append,bG]; exact Nat.le_refl _)]
  have e:t.size=(sbs t).length:=(bG t).symm
  rw [e,List.drop_left]
 rw [h1,h2]
theorem Jp (n:Nat):mT n≠[]:=by
 rw [mT]
 split <;> simp
theorem GP (s:aL):BB (sV s):=by
 unfold sV lO
 exact lx (lx (lx (nt λa _=>mU a) (lx (mU _) (tB _))) (nt λa _=>mU a)) (lx (mU _) (nt λa _=>M1 a))
theorem Jq (l:List aG):BB (l.flatMap mm):=nt λa _=>GN a
theorem Jr (s:aL):BB (xz s):=lx (GP s) (Jq _)
theorem nf {n:Nat} (h:n < 128):dM (n:Int)=[(n:Int)]:=by
 rw [At (by unfold most; omega),jv h]
def Js (s:ByteArray) (n:Nat):ByteArray:=if s.size > n then gB s 0 n else s
theorem GQ (s:ByteArray) (n:Nat):jf s n=some (Js s n):=by
 unfold jf Js
 by_cases h:s.size > n
 ·rw [decide_eq_true (by omega),cond_true,if_pos h,bQ (by omega) (by omega) (by omega),aA]
 ·rw [decide_eq_false (by omega),cond_false,if_neg h]
theorem GR:SW mC:=⟨by decide,by decide,λg hg=>(by cases hg),λr hr=>(by cases hr),by decide,by decide,by show noS.size<=6000; decide⟩
theorem GS (r:aG):(mm r).length<=9+36*r.cells.length:=by
 unfold mm
 rw [List.length_append]
 have h1:=dJ (if r.wrapped then 1 else 0)
 have h2:=Ar (pK r.cells)
 have h3:=yG r.cells
 omega
theorem vf (m:Nat): ∀ l:List aG,(∀ r∈l,r.cells.length<=m)->(l.flatMap mm).length<=l.length*(9+36*m)
 | [],_=>by simp
 | r::l,h=>by
  have h1:=vf m l (λx hx=>h x (List.mem_cons_of_mem _ hx))
  have h2:=GS r
  have h3:=h r List.mem_cons_self
  rw [List.flatMap_cons,List.length_append,List.length_cons,Nat.succ_mul]
  omega
theorem E5 {s:aL}:lQ s=true↔s=mC:=by
 unfold lQ
 rw [uc]
 obtain ⟨a1,a2,a3,a4,a5,a6,a7,a8,a9,a10⟩:=s
 simp only [Bool.and_eq_true,beq_iff_eq,decide_eq_true_eq,mC,aL.mk.injEq]
 constructor
 ·rintro ⟨h1,h2,h3,h4,h5,h6,h7,h8,h9,h10⟩
  exact ⟨h1,h2,h3,h4,h5,h6,List.eq_nil_of_length_eq_zero (by omega),h8,h9,List.eq_nil_of_length_eq_zero (by omega)⟩
 ·rintro ⟨h1,h2,h3,h4,h5,h6,h7,h8,h9,h10⟩
  exact ⟨h1,h2,h3,h4,h5,h6,by rw [h7]; rfl,h8,h9,by rw [h10]; rfl⟩
theorem GU (s:aL):jD (xz s)≠noS:=by
 intro h
 have h2:sbs (jD (xz s))=[]:=by rw [h]; rfl
 rw [lu _ (Jr s)] at h2
 unfold xz sV at h2
 simp only [List.append_eq_nil_iff,List.flatMap_cons] at h2
 exact Jp _ h2.1.1.1.1.1
def v8 (a:Nat):Nat:=(a >>> 1) ^^^ (if a % 2=1 then 3988292384 else 0)
def vg (a:Nat):Nat:=v8 (v8 (v8 (v8 a)))
theorem xA {a b:Nat} (ha:a < 4294967296) (hb:b < 4294967296):a ^^^ b < 4294967296:=Nat.xor_lt_two_pow (n:=32) ha hb
theorem wy {a:Nat} (h:a < 4294967296):v8 a < 4294967296:=by
 unfold v8
 have:a >>> 1 < 4294967296:=by rw [Nat.shiftRight_eq_div_pow]; omega
 exact xA this (by split <;> omega)
theorem Jt (a b:Nat):(a ^^^ b) % 2=(a % 2+b % 2) % 2:=by
 have h:=Nat.testBit_xor a b 0
 rw [Nat.testBit_zero,Nat.testBit_zero,Nat.testBit_zero] at h
 have ha:a % 2=0\/a % 2=1:=by omega
 have hb:b % 2=0\/b % 2=1:=by omega
 have hc:(a ^^^ b) % 2=0\/(a ^^^ b) % 2=1:=by omega
 rcases ha with ha | ha <;> rcases hb with hb | hb <;> rcases hc with hc | hc <;> rw [ha,hb,hc] at h <;> first | (exact absurd h (by decide)) | (rw [ha,hb,hc])
theorem uf (a b:Nat):v8 (a ^^^ b)=v8 a ^^^ v8 b:=by
 unfold v8
 rw [Nat.shiftRight_xor_distrib,Jt]
 have ha:a % 2=0\/a % 2=1:=by omega
 have hb:b % 2=0\/b % 2=1:=by omega
 generalize a >>> 1=x
 generalize b >>> 1=y
 rcases ha with ha | ha <;> rcases hb with hb | hb <;> rw [ha,hb]
 ·simp
 ·simp [Nat.xor_assoc]
 ·simp only [Nat.zero_add,Nat.add_zero]
  simp
  rw [Nat.xor_assoc,Nat.xor_assoc,Nat.xor_comm y]
 ·simp
  have:x ^^^ 3988292384 ^^^ (y ^^^ 3988292384)=x ^^^ y ^^^ (3988292384 ^^^ 3988292384):=by
   rw [Nat.xor_assoc,Nat.xor_assoc,<- Nat.xor_assoc 3988292384 y,Nat.xor_comm 3988292384 y,Nat.xor_assoc]
  rw [this,Nat.xor_self,Nat.xor_zero]
theorem GV (a b:Nat):vg (a ^^^ b)=vg a ^^^ vg b:=by
 unfold vg
 rw [uf,uf,uf,uf]
theorem sd (k:Nat):v8 (2*k)=k:=by
 unfold v8
 rw [if_neg (by omega),Nat.xor_zero,Nat.shiftRight_eq_div_pow]
 omega
theorem Ju (k:Nat):vg (16*k)=k:=by
 unfold vg
 rw [show 16*k=2*(2*(2*(2*k))) by omega,sd,sd,sd,sd]
theorem yJ (x:Nat):vg x=(x / 16) ^^^ vg (x % 16):=by
 have h:x=(16*(x / 16)) ^^^ (x % 16):=by
  have h1:16*(x / 16)+x % 16=x:=Nat.div_add_mod x 16
  have h2:(16*(x / 16)) ^^^ (x % 16)=16*(x / 16)+x % 16:=by
   have h3:2 ^ 4*(x / 16)+x % 16=(2 ^ 4*(x / 16)) ||| (x % 16):=Nat.two_pow_add_eq_or_of_lt (by omega) _
   apply Nat.eq_of_testBit_eq
   intro i
   have h4:(16*(x / 16)+x % 16)=(2 ^ 4*(x / 16)) ||| (x % 16):=h3
   rw [h4,Nat.testBit_xor,Nat.testBit_or]
   show ((2 ^ 4*(x / 16)).testBit i ^^ (x % 16).testBit i)=_
   rw [Nat.testBit_two_pow_mul]
   by_cases hi:i>=4
   ·have:(x % 16).testBit i=false:=by
     apply Nat.testBit_lt_two_pow
     have:2 ^ 4<=2 ^ i:=Nat.pow_le_pow_right (by omega) hi
     omega
    rw [this]
    simp
   ·simp [hi]
  rw [h2,h1]
 conv=>lhs; rw [h]
 rw [GV,Ju]
theorem DJ: ∀ n:Nat,n < 16->idx cB (n:Int)=some ((vg n:Nat):Int):=by decide
theorem LO {x:Int} (h0:0<=x) (h1:x < 4294967296):IntKind.u32.wrap x=x:=by
 unfold IntKind.wrap
 simp [IntKind.signed,IntKind.bits]
 omega
theorem DK {a b:Nat} (ha:a < 4294967296) (hb:b < 4294967296):Go.bits .xor .u32 (a:Int) (b:Int)=((a ^^^ b:Nat):Int):=by
 show IntKind.u32.wrap ((BitVec.ofInt 32 (a:Int) ^^^ BitVec.ofInt 32 (b:Int)).toNat:Int)=_
 rw [BitVec.ofInt_natCast,BitVec.ofInt_natCast,BitVec.toNat_xor,BitVec.toNat_ofNat,BitVec.toNat_ofNat,Nat.mod_eq_of_lt ha,Nat.mod_eq_of_lt hb]
 have:=xA ha hb
 exact LO (by omega) (by omega)
theorem KH {a:Nat} (ha:a < 4294967296):Go.bits .and .u32 (a:Int) 15=((a % 16:Nat):Int):=by
 show IntKind.u32.wrap ((BitVec.ofInt 32 (a:Int) &&& BitVec.ofInt 32 15).toNat:Int)=_
 rw [BitVec.ofInt_natCast,BitVec.toNat_and,BitVec.toNat_ofNat,Nat.mod_eq_of_lt ha]
 have h:(BitVec.ofInt 32 15).toNat=2 ^ 4 - 1:=by decide
 rw [h,Nat.and_two_pow_sub_one_eq_mod]
 exact LO (by omega) (by omega)
theorem KI (a:Nat):((a:Int)).fdiv (2 ^ (min 4 32))=((a / 16:Nat):Int):=by
 rw [Int.fdiv_eq_ediv_of_nonneg _ (by decide)]
 rfl
def Av (x b:Nat):Nat:=vg (vg (x ^^^ b))
theorem ug {a:Nat} (h:a < 4294967296):vg a < 4294967296:=wy (wy (wy (wy h)))
theorem GW {x b:Nat} (h:x < 4294967296) (hb:b < 256):Av x b < 4294967296:=ug (ug (xA h (by omega)))
theorem step_eq {x b:Nat} (hx:x < 4294967296) (hb:b < 256):m7 (x:Int) (b:Int)=some ((Av x b:Nat):Int):=by
 unfold m7 Av
 rw [LO (by omega) (by omega),DK hx (by omega)]
 have h1:=xA hx (show b < 4294967296 by omega)
 generalize x ^^^ b=y at h1
 rw [KH h1,DJ _ (by omega),aA,KI,DK (by omega) (ug (by omega)),<- yJ]
 have h2:=ug h1
 generalize vg y=z at h2
 rw [KH h2,DJ _ (by omega),aA,KI,DK (by omega) (ug (by omega)),<- yJ]
def yi (l:List Int):Nat:=l.foldl (λx b=>Av x b.toNat) 4294967295
theorem xB (l:List Int) (i:Nat) (h:i < l.length):yi (l.take (i+1))=Av (yi (l.take i)) (l[i]).toNat:=by
 unfold yi
 rw [List.take_succ_eq_append_getElem h,List.foldl_append]
 rfl
theorem DL {l:List Int} (h:BB l): ∀ i,yi (l.take i) < 4294967296:=by
 intro i
 induction i with
 | zero=>rw [List.take_zero]; decide
 | succ i ih =>
  by_cases hi:i < l.length
  ·rw [xB l i hi]
   have:=h _ (List.getElem_mem hi)
   exact GW ih (by omega)
  ·rw [List.take_of_length_le (by omega)]
   rw [List.take_of_length_le (by omega)] at ih
   exact ih
def tC (s:ByteArray):Nat:=4294967295 ^^^ yi (sbs s)
theorem zy (s:ByteArray) (hs:s.size<=1000000):nz [s]=some ((tC s:Nat):Int):=by
 unfold nz
 have hL:=DL (tB s)
 have hinner:iter (σ:=Int×Int) (ρ:=Int) (λa=>(bif (decide (a.1 < (s.size:Int))) then (Option.bind (w7 s a.1) λb642=>(Option.bind (m7 a.2 b642) λb=>some (.inl ((IntKind.i64.wrap (a.1+1)),b)))) else some (.inr a.2))) (0,4294967295)=some ((yi (sbs s):Nat):Int):=by
  refine Dv (λi=>((i:Int),((yi ((sbs s).take i):Nat):Int))) s.size _ ?_ ?_
  ·intro i hi
   have hi2:i < (sbs s).length:=by rw [bG]; exact hi
   have hb:=tB s _ (List.getElem_mem hi2)
   have hn:(sbs s)[i]=(((sbs s)[i].toNat:Nat):Int):=by omega
   dsimp only
   rw [decide_eq_true (by omega),cond_true,ub s i hi2,aA,xB _ _ hi2]
   conv=>lhs; rw [hn]
   rw [step_eq (hL i) (by omega),aA,w64 (by omega) (by omega)]
   rfl
  ·dsimp only
   rw [decide_eq_false (by omega),cond_false,List.take_of_length_le (by rw [bG]; exact Nat.le_refl _)]
 refine fw (λi=>(if i=0 then (4294967295:Int) else ((yi (sbs s):Nat):Int),(i:Int))) 1 ((yi (sbs s):Nat):Int) rfl ?_ ?_ ?_
 ·intro i hi
  have:i=0:=by omega
  subst this
  have h1:idx [s] 0=some s:=rfl
  show (bif (decide ((0:Int) < 1)) then (Option.bind (idx [s] 0) λc=>_) else _)=_
  rw [decide_eq_true (by omega),cond_true,h1,aA]
  show (Option.bind (iter _ (0,4294967295)) λd=>_)=_
  rw [hinner,aA]
  rfl
 ·rfl
 ·have h:=hL (sbs s).length
  rw [List.take_length] at h
  show some (Go.bits .xor .u32 ((4294967295:Nat):Int) ((yi (sbs s):Nat):Int))=_
  rw [DK (by decide) h]
  rfl
theorem Ci {s:aL} (h:SW s) (hp:(s.rows.flatMap mm).length<=12000):(nS s).size<=66000:=by
 unfold nS
 split
 ·exact Nat.zero_le _
 ·have:=yI s h
  rw [gq]
  unfold xz
  rw [List.length_append]
  omega
theorem wz (s:ByteArray):tC s < 4294967296:=by
 unfold tC
 have h:=DL (tB s) (sbs s).length
 rw [List.take_length] at h
 exact xA (by decide) h
theorem Jv (s:aL) (h:SW s) (hp:(s.rows.flatMap mm).length<=12000):kR s=some ((tC (nS s):Nat):Int):=by
 unfold kR
 have h1:=Ci h hp
 have h2:=wz (nS s)
 rw [DE s h (by omega),aA,zy _ (by omega),aA,w64 (by omega) (by omega)]
end Go.Tw.X
set_option maxHeartbeats 1000000
namespace Go.Tw.X
open Go Go.Tw
def vO (n:Nat):List Int:=[((n % 256:Nat):Int),((n / 256 % 256:Nat):Int),((n / 65536 % 256:Nat):Int),((n / 16777216 % 256:Nat):Int)]
theorem zz (n:Nat):BB (vO n):=λb hb=>by
 simp only [vO,List.mem_cons,List.not_mem_nil,or_false] at hb
 rcases hb with rfl | rfl | rfl | rfl <;> omega
theorem w8 (n:Nat):IntKind.u8.wrap (n:Int)=((n % 256:Nat):Int):=by
 show (n:Int) % 256=_
 omega
theorem fdN (n k:Nat):((n:Int)).fdiv ((k:Int))=((n / k:Nat):Int):=by
 rw [Int.fdiv_eq_ediv_of_nonneg _ (by omega)]
 rfl
theorem DM {n:Nat} (h:n < 4294967296):m8 (n:Int)=some (jD (vO n)):=by
 unfold m8 vO
 rw [show ((2:Int) ^ (min 8 32))=((256:Nat):Int) from rfl,show ((2:Int) ^ (min 16 32))=((65536:Nat):Int) from rfl,show ((2:Int) ^ (min 24 32))=((16777216:Nat):Int) from rfl,fdN,fdN,fdN,w8,w8,w8,w8]
def rn (s:ByteArray):ByteArray:=s++jD (vO (tC s))
theorem uh (s:ByteArray):sbs (rn s)=sbs s++vO (tC s):=by
 unfold rn
 rw [oy,lu _ (zz _)]
theorem sf (s:ByteArray):(rn s).size=s.size+4:=by
 rw [<- bG,uh,List.length_append,bG]
 rfl
theorem Jw {s:ByteArray} (h:s.size<=900000):m9 s=some (rn s):=by
 unfold m9
 rw [zy s (by omega),aA,DM (wz s),aA,rZ (by rw [gq]; simp [vO]; omega),aA]
 rfl
def oa (s:ByteArray):ByteArray:=gB s 0 ((s.size - 4:Nat):Int)
def ui (s:ByteArray):Bool:=decide (4<=s.size/\rn (oa s)=s)
def yK (s:ByteArray):ByteArray×Bool:=if ui s=true then (oa s,true) else (noS,false)
theorem wA (s:ByteArray):sbs (oa s)=(sbs s).take (s.size - 4):=by
 unfold oa
 have:=gZ s 0 (s.size - 4)
 simpa using this
theorem rp {s:ByteArray} (h:4<=s.size):(oa s).size=s.size - 4:=by
 rw [<- bG,wA,List.length_take,bG]
 omega
theorem Jx {s:ByteArray} (h:s.size<=800000):oo s=some (yK s):=by
 unfold oo yK ui
 by_cases c:(s.size:Int) < 4
 ·have e:IntKind.i64.wrap ((s.size:Int) - 4)=(s.size:Int) - 4:=w64 (by omega) (by omega)
  rw [e,decide_eq_true (by omega),cond_true,aA,cond_true,decide_eq_false (by omega),if_neg (by simp)]
  rfl
 ·have e:IntKind.i64.wrap ((s.size:Int) - 4)=((s.size - 4:Nat):Int):=by rw [w64 (by omega) (by omega)]; omega
  have hf:=rp (s:=s) (by omega)
  rw [e,decide_eq_false (by omega),cond_false,bQ (by omega) (by omega) (by omega),aA,bQ (by omega) (by omega) (by omega),aA,show gB s 0 ((s.size - 4:Nat):Int)=oa s from rfl,zy _ (by omega),aA,DM (wz _),aA,uc,aA]
  have hd:sbs (gB s ((s.size - 4:Nat):Int) (s.size:Int))=(sbs s).drop (s.size - 4):=by
   rw [gZ,List.take_of_length_le (by rw [bG]; omega)]
  have key:(gB s ((s.size - 4:Nat):Int) (s.size:Int)=jD (vO (tC (oa s))))↔rn (oa s)=s:=by
   constructor
   ·intro q
    apply ns
    rw [uh,wA]
    have q2:=congrArg sbs q
    rw [hd,lu _ (zz _)] at q2
    rw [<- q2,List.take_append_drop]
   ·intro q
    apply ns
    have q2:=congrArg sbs q
    rw [uh,wA] at q2
    rw [hd,lu _ (zz _)]
    exact (List.append_cancel_left (q2.trans (List.take_append_drop (s.size - 4) (sbs s)).symm)).symm
  by_cases d:rn (oa s)=s
  ·rw [decide_eq_true (key.2 d),Bool.not_true,cond_false,aA,decide_eq_true ⟨by omega,d⟩,if_pos rfl]
  ·rw [decide_eq_false (λh=>d (key.1 h)),Bool.not_false,cond_true,decide_eq_false (λh=>d h.2),if_neg (by simp)]
   rfl
theorem E6 (s:ByteArray):yK (rn s)=(s,true):=by
 have h1:=sf s
 have h2:oa (rn s)=s:=by
  apply ns
  rw [wA,uh,h1,Nat.add_sub_cancel,<- bG]
  simp
 unfold yK ui
 rw [decide_eq_true ⟨by omega,by rw [h2]⟩,if_pos rfl,h2]
theorem GX (s:aL) (y:Nat) (h:y < s.rows.length):kf s (y:Int)=some (s.rows[y],true):=by
 unfold kf
 rw [decide_eq_false (show ¬ ((y:Int) < 0) by omega),cond_false,aA,decide_eq_false (show ¬ ((y:Int)>=(s.rows.length:Int)) by omega),cond_false,dC _ _ h,aA]
theorem E7 (s:aL) (y:Nat) (h: ¬ y < s.rows.length):kf s (y:Int)=some (Gt,false):=by
 unfold kf
 rw [decide_eq_false (show ¬ ((y:Int) < 0) by omega),cond_false,aA,decide_eq_true (show ((y:Int)>=(s.rows.length:Int)) by omega),cond_true]
 rfl
theorem uj {σ:Type} (Y:σ->(Int×aG)->Option (σ×Bool)) (S:Nat->σ) (a b:aL) (hl:b.rows.length<=1000000) (hr: ∀ r∈a.rows,r.cells.length<=1000000)
  (h: ∀ i (hi:i < b.rows.length),if a.rows[i]?=some b.rows[i] then S (i+1)=S i else Y (S i) ((i:Int),b.rows[i])=some (S (i+1),true)) :
  gN Y (S 0) b a=some (S b.rows.length):=by
 unfold gN
 refine fw (S:=λi=>((i:Int),S i)) (n:=b.rows.length) (r:= .inl (S b.rows.length)) rfl ?_ ?_ rfl
 ·intro i hi
  dsimp only
  have hi2:=h i hi
  rw [decide_eq_true (show (i:Int) < (b.rows.length:Int) by omega),cond_true,dC _ _ hi,aA]
  by_cases ha:i < a.rows.length
  ·rw [GX a i ha,aA]
   dsimp only
   rw [cond_true,IX _ _ (hr _ (List.getElem_mem ha)),aA,aA]
   have e1:a.rows[i]?=some a.rows[i]:=List.getElem?_eq_getElem ha
   rw [e1] at hi2
   by_cases he:a.rows[i]=b.rows[i]
   ·rw [if_pos (by rw [he])] at hi2
    rw [decide_eq_true he,cond_true,aA,w64 (by omega) (by omega),hi2]
    rfl
   ·rw [if_neg (λhh=>he (Option.some.inj hh))] at hi2
    rw [decide_eq_false he,cond_false,hi2,aA]
    dsimp only
    rw [Bool.not_true,cond_false,aA,w64 (by omega) (by omega)]
    rfl
  ·rw [E7 a i ha,aA]
   dsimp only
   rw [cond_false,aA,cond_false]
   have e1:a.rows[i]?=none:=List.getElem?_eq_none (by omega)
   rw [e1,if_neg (by simp)] at hi2
   rw [hi2,aA]
   dsimp only
   rw [Bool.not_true,cond_false,aA,w64 (by omega) (by omega)]
   rfl
 ·dsimp only
  rw [decide_eq_false (by omega),cond_false]
def chN (a b:List aG):Nat->List Nat
 | 0=>[]
 | i+1=>if a[i]?=b[i]? then chN a b i else chN a b i++[i]
theorem rq (a b:List aG) (i:Nat):chN a b (i+1)=if a[i]?=b[i]? then chN a b i else chN a b i++[i]:=rfl
def ints (l:List Nat):List Int:=l.map λy:Nat=>(y:Int)
theorem Aw (l:List Nat):(ints l).length=l.length:=List.length_map ..
theorem E8 (l:List Nat) (i:Nat):ints (l++[i])=ints l++[(i:Int)]:=by simp [ints]
def chg (a b:List aG):List Nat:=chN a b b.length
theorem DN (a b:List aG): ∀ i,(chN a b i).length<=i
 | 0=>Nat.le_refl _
 | i+1=>by
  have:=DN a b i
  unfold chN
  split
  ·omega
  ·simp; omega
theorem Cj (a b:aL) (hl:b.rows.length<=1000) (hr: ∀ r∈a.rows,r.cells.length<=1000000):kS a b=some (ints (chg a.rows b.rows)):=by
 unfold kS
 have e0:jG a b=some (b,a):=rfl
 rw [e0,aA]
 have h:=uj (σ:=List Int) (λ(s44:List Int) (x15:Int×aG)=>(Option.bind (chk (eY s44.length [x15.1].length 8)) λ_=>some ((s44++[x15.1]),true))) (λi=>ints (chN a.rows b.rows i)) a b (by omega) hr (by
  intro i hi
  have e1:b.rows[i]?=some b.rows[i]:=List.getElem?_eq_getElem hi
  split
  ·rename_i he
   rw [rq,if_pos (he.trans e1.symm)]
  ·rename_i he
   have:=DN a.rows b.rows i
   rw [bP (by rw [Aw]; simp; omega),aA]
   rw [rq,if_neg (λhh=>he (Eq.trans hh e1)),E8])
 show Option.bind (gN _ (ints (chN a.rows b.rows 0)) b a) _=_
 rw [h,aA]
 rfl
def yL (s:aL):Bool:=lQ s || !ql s
theorem yM {s:aL}:(nS s=noS)↔yL s=true:=by
 unfold nS yL
 constructor
 ·intro h
  split at h
  ·rename_i hb
   rcases hb with hb | hb <;> simp [hb]
  ·exact absurd h (GU s)
 ·intro h
  rw [if_pos]
  simpa using h
theorem GY (s:aL) (h:SW s) (hp:(s.rows.flatMap mm).length<=1000000):mw s=some (!yL s):=by
 unfold mw
 rw [DE s h hp,aA]
 have e:((nS s).toList == (ByteArray.mk #[]).toList)=decide (nS s=noS):=uc _ noS
 rw [e]
 cases hb:yL s with
 | true=>rw [decide_eq_true (yM.2 hb)]
 | false=>rw [decide_eq_false (λhh=>by rw [yM.1 hh] at hb; cases hb)]
def pch (b:List aG) (l:List Nat):List Int:=l.flatMap λy:Nat=>dM (y:Int)++mm (b[y]?.getD Gt)
def sW (a b:aL):List Int:=[((tC (nS a):Nat):Int),b.k,b.w,b.h,b.x,b.y].flatMap dM++(dM b.title.size++sbs b.title)++[b.len,b.chain].flatMap dM++lO b.begun++dM ((chg a.rows b.rows).length:Int)
def Jy (a b:aL):List Int:=sW a b++pch b.rows (chg a.rows b.rows)
def Jz (a b:aL):Bool:= !ql a || yL b
def nT (a b:aL):ByteArray:=if Jz a b then noS else jD (Jy a b)
theorem Ax (b:List aG) (l:List Nat) (i:Nat) (hi:i < b.length):pch b (l++[i])=pch b l++(dM (i:Int)++mm b[i]):=by
 unfold pch
 rw [List.flatMap_append,List.flatMap_singleton,List.getElem?_eq_getElem hi]
 rfl
theorem DO (a b:List aG): ∀ i,i<=b.length->(pch b (chN a b i)).length<=9*i+((b.take i).flatMap mm).length
 | 0,_=>by simp [chN,pch]
 | i+1,hi=>by
  have ih:=DO a b i (by omega)
  have h9:=dJ (i:Int)
  rw [List.take_succ_eq_append_getElem (show i < b.length by omega),List.flatMap_append,List.flatMap_singleton,List.length_append,rq]
  split
  ·omega
  ·rw [Ax _ _ _ (by omega),List.length_append,List.length_append]
   omega
theorem GZ (a b:List aG) (hb:(b.flatMap mm).length<=12000) (hl:b.length<=1000) (i:Nat) (hi:i<=b.length):(pch b (chN a b i)).length<=21000:=by
 have h1:=DO a b i hi
 have h2:=zx b i
 omega
theorem uk (L:List Int):(L.flatMap dM).length<=9*L.length:=by
 induction L with
 | nil=>simp
 | cons a M ih =>
  rw [List.flatMap_cons,List.length_append,List.length_cons]
  have:=dJ a
  omega
theorem vh (l:List aJ):(lO l).length<=9+18*l.length:=by
 unfold lO
 have h1:=dJ (l.length:Int)
 have h2:=sb l
 rw [List.length_append]
 omega
theorem yN (a b:aL) (h:SW b):(sW a b).length<=46000:=by
 unfold sW
 have h1:=uk [((tC (nS a):Nat):Int),b.k,b.w,b.h,b.x,b.y]
 have h2:=uk [b.len,b.chain]
 have h3:=dJ (b.title.size:Int)
 have h4:=dJ ((chg a.rows b.rows).length:Int)
 have h5:=vh b.begun
 have h6:=h.bl
 have h7:=h.tl
 have h8:=bG b.title
 simp only [List.length_append,List.length_cons,List.length_nil] at h1 h2 ⊢
 omega
theorem JA (l:List aJ):BB (lO l):=lx (mU _) (nt λg _=>M1 g)
theorem diff_eq (a b:aL) (ha:SW a) (hb:SW b) (pa:(a.rows.flatMap mm).length<=12000) (pb:(b.rows.flatMap mm).length<=12000):mJ a b=some (nT a b):=by
 unfold mJ nT
 have hc:((Option.bind (fv a) λc=>(bif (c != 0) then some true else (Option.bind (mw b) λd=>some (!d)))):Option Bool)=some (Jz a b):=by
  rw [xx a ha,aA,GY b hb (by omega),aA]
  unfold Jz
  cases ql a <;> cases yL b <;> rfl
 rw [hc,aA]
 cases hd:Jz a b with
 | true=>rw [cond_true,if_pos rfl]; rfl
 | false =>
  rw [cond_false,if_neg (by simp),Jv a ha pa,aA]
  have har: ∀ r∈a.rows,r.cells.length<=1000000:=λr hr=>by have:=(ha.ro r hr).2; omega
  have hrl:=hb.rl
  have htl:=hb.tl
  have hbl:=hb.bl
  have h1:=uk [((tC (nS a):Nat):Int),b.k,b.w,b.h,b.x,b.y]
  have h2:=uk [b.len,b.chain]
  have h3:=dJ (b.title.size:Int)
  have h5:=vh b.begun
  have h8:=bG b.title
  have hdl:=yN a b hb
  simp only [List.length_cons,List.length_nil] at h1 h2
  show Option.bind (cP ⟨[]⟩ _) _=_
  rw [lL _ _ (by simp),aA,List.nil_append,xy _ _ (by omega),aA,lL _ _ (by simp only [List.length_append,List.length_cons,List.length_nil]; omega),aA,ue _ hbl hb.gl,aA,ud _ _ (by rw [gq]; simp only [List.length_append]; omega),aA,lu _ (JA _),Cj a b hrl har,aA,lL _ _ (by simp only [List.length_append,List.length_cons,List.length_nil]; omega),aA]
  have e0:jG a b=some (b,a):=rfl
  rw [e0,aA]
  have hh:([((tC (nS a):Nat):Int),b.k,b.w,b.h,b.x,b.y].flatMap dM++(dM b.title.size++sbs b.title)++[b.len,b.chain].flatMap dM++lO b.begun++[((ints (chg a.rows b.rows)).length:Int)].flatMap dM)=sW a b:=by
   unfold sW
   rw [Aw,List.flatMap_singleton]
  rw [hh]
  have h:=uj (σ:=cJ) (λ(s376:cJ) (x278:Int×aG)=>(Option.bind (cP s376 [x278.1]) λe=>(Option.bind (jt x278.2) λf=>(Option.bind (gC e [f]) λg=>some (g,true))))) (λi=>⟨sW a b++pch b.rows (chN a.rows b.rows i)⟩) a b (by omega) har (by
   intro i hi
   have e1:b.rows[i]?=some b.rows[i]:=List.getElem?_eq_getElem hi
   split
   ·rename_i he
    rw [rq,if_pos (he.trans e1.symm)]
   ·rename_i he
    have hp1:=GZ a.rows b.rows pb hrl i (by omega)
    have hro:=hb.ro _ (List.getElem_mem hi)
    have h9:=dJ (i:Int)
    have hl1:=zx b.rows (i+1)
    rw [List.take_succ_eq_append_getElem hi,List.flatMap_append,List.flatMap_singleton,List.length_append] at hl1
    rw [lL _ _ (by simp only [List.length_append,List.length_cons,List.length_nil]; omega),aA,xw _ hro.2 hro.1,aA,List.flatMap_singleton,ud _ _ (by rw [gq]; simp only [List.length_append]; omega),aA,lu _ (GN _),rq,if_neg (λhh=>he (Eq.trans hh e1)),Ax _ _ _ hi]
    simp only [List.append_assoc])
  have e1:(⟨sW a b++pch b.rows (chN a.rows b.rows 0)⟩:cJ)=⟨sW a b⟩:=by
   show (⟨sW a b++[]⟩:cJ)=_
   rw [List.append_nil]
  rw [e1] at h
  rw [h,aA]
  rfl
theorem zA {α β:Type} {x:Option α} {y:α} {g:α->Option β} {out:Option β} (h:x=some y) (h2:g y=out):Option.bind x g=out:=by rw [h]; exact h2
def zGr:aV:=⟨0,0,[],noS⟩
def okN (n:Int):Bool:=decide (0<=n/\n<=4611686018427387904)
def ly (g:aV):Bool:=decide (1<=g.bH/\g.bH<=4294967296) && (decide (1<=g.kind/\g.kind<=4) && (decide (g.aW.length<=64) && g.aW.all okN))
def pL (g:aV):List Int:=[g.bH,g.kind,(g.aW.length:Int)].flatMap dM++g.aW.flatMap dM++(dM g.data.size++sbs g.data)
def iC (g:aV):ByteArray:=rn (jD (pL g))
def kA (g:aV):Int:=if ly g=false then 6 else if (iC g).size > 8192 then 3 else 0
def um (g:aV):ByteArray:=if kA g=0 then iC g else noS
theorem pM (l:List Int):(l.flatMap dM).length<=9*l.length:=by
 induction l with
 | nil=>simp
 | cons a l ih =>
  have:=dJ a
  simp only [List.flatMap_cons,List.length_append,List.length_cons]
  omega
theorem Ay {g:aV} (h:g.aW.length<=64):(pL g).length<=700+g.data.size:=by
 have h1:=pM [g.bH,g.kind,(g.aW.length:Int)]
 have h2:=pM g.aW
 have h3:=dJ (g.data.size:Int)
 unfold pL
 simp only [List.length_append,bG]
 simp only [List.length_cons,List.length_nil] at h1
 omega
theorem wB (n lo hi:Int):jd n lo hi=some (decide (lo<=n/\n<=hi)):=by
 unfold jd
 by_cases a:n>=lo
 ·rw [decide_eq_true a,cond_true,aA]
  by_cases b:n<=hi
  ·rw [decide_eq_true b,decide_eq_true ⟨a,b⟩]
  ·rw [decide_eq_false b,decide_eq_false λh=>b h.2]
 ·rw [decide_eq_false a,cond_false,aA,decide_eq_false λh=>a h.1]
theorem LP {α ρ:Type} (l:List α) (hl:l.length<=1000000) (p:α->Bool) (bad:ρ) (f:Int->Option (Int ⊕ (Unit ⊕ ρ))) (hf: ∀ (i:Nat) (h:i < l.length),f i=if p l[i]=true then some (.inl ((i:Int)+1)) else some (.inr (.inr bad))) (he:f l.length=some (.inr (.inl ()))):iter f 0=some (if l.all p=true then .inl () else .inr bad):=by
 have key: ∀ k i:Nat,i+k=l.length->iter f (i:Int)=some (if (l.drop i).all p=true then .inl () else .inr bad):=by
  intro k
  induction k with
  | zero =>
   intro i h
   rw [show i=l.length by omega,List.drop_length]
   exact cO he
  | succ k ih =>
   intro i h
   have hi:i < l.length:=by omega
   rw [List.drop_eq_getElem_cons hi,List.all_cons]
   have e:=hf i hi
   cases hp:p l[i] with
   | true =>
    rw [hp,if_pos rfl] at e
    rw [eN e,show ((i:Int)+1)=((i+1:Nat):Int) by omega,ih (i+1) (by omega),Bool.true_and]
   | false =>
    rw [hp,if_neg (by simp)] at e
    rw [cO e,Bool.false_and,if_neg (by simp)]
 exact key l.length 0 (by omega)
theorem E9 {g:aV} (h:g.aW.length<=1000000):jJ g=some (ly g):=by
 unfold jJ ly
 rw [wB,wB,aA,aA]
 by_cases a:1<=g.bH/\g.bH<=4294967296
 ·rw [decide_eq_true a,Bool.not_true,cond_false,Bool.true_and]
  by_cases b:1<=g.kind/\g.kind<=4
  ·rw [decide_eq_true b,Bool.not_true,cond_false,aA,Bool.true_and]
   by_cases c:g.aW.length<=64
   ·rw [decide_eq_false (by omega),cond_false,decide_eq_true c,Bool.true_and]
    rw [LP g.aW (by omega) okN false _ ?hf ?he]
    case hf =>
     intro i hi
     show (bif (decide ((i:Int) < (g.aW.length:Int))) then _ else _)=_
     rw [decide_eq_true (by omega),cond_true,dC _ i hi,aA,wB,aA,w64 (by omega) (by omega)]
     unfold okN
     cases decide (0<=g.aW[i]/\g.aW[i]<=4611686018427387904) <;> rfl
    case he =>
     show (bif (decide ((g.aW.length:Int) < (g.aW.length:Int))) then _ else _)=_
     rw [decide_eq_false (by omega),cond_false]
    rw [aA]
    cases hh:g.aW.all okN <;> rfl
   ·rw [decide_eq_true (by omega),cond_true,decide_eq_false c]
    rfl
  ·rw [decide_eq_false b,Bool.not_false,cond_true,aA,cond_true]
   rfl
 ·rw [decide_eq_false a,Bool.not_false,cond_true,aA,cond_true]
  rfl
theorem yO {g:aV} (h:g.aW.length<=64) (hd:g.data.size<=100000):iH g=some (iC g):=by
 have h1:=pM [g.bH,g.kind,(g.aW.length:Int)]
 have h2:=pM g.aW
 have hb:=Ay h
 simp only [List.length_cons,List.length_nil] at h1
 unfold iH iC
 rw [lL [] _ (by simp),aA,List.nil_append,lL _ _ (by omega),aA,xy _ _ (by rw [List.length_append]; omega),aA,show ∀ b,fD ⟨b⟩=some (jD b) from λb=>rfl,aA]
 show Option.bind (m9 (jD (pL g))) _=_
 rw [Jw (by rw [gq]; omega),aA]
theorem yP {g:aV} (h:g.aW.length<=1000000) (hd:g.data.size<=100000):iI g=some (kA g):=by
 unfold iI kA
 rw [E9 h,aA]
 cases hr:ly g with
 | false=>rfl
 | true =>
  have hn:g.aW.length<=64:=by
   unfold ly at hr
   simp only [Bool.and_eq_true,decide_eq_true_eq] at hr
   exact hr.2.2.1
  rw [Bool.not_true,cond_false,yO hn hd,aA,if_neg (by simp)]
  by_cases c:(iC g).size > 8192
  ·rw [decide_eq_true (by omega),cond_true,if_pos c]
  ·rw [decide_eq_false (by omega),cond_false,if_neg c]
theorem Az {g:aV} (h:g.aW.length<=1000000) (hd:g.data.size<=100000):ga g=some (um g):=by
 unfold ga um
 rw [yP h hd,aA]
 by_cases c:kA g=0
 ·have hn:g.aW.length<=64:=by
   unfold kA at c
   cases hr:ly g with
   | false=>rw [hr] at c; simp at c
   | true =>
    unfold ly at hr
    simp only [Bool.and_eq_true,decide_eq_true_eq] at hr
    exact hr.2.2.1
  rw [c,show ((0:Int) != 0)=false from rfl,cond_false,yO hn hd,aA,if_pos rfl]
 ·rw [show (kA g != 0)=true by simpa using c,cond_true,if_neg c]
  rfl
def rdN:Nat->cI->List Int->List Int×cI
 | 0,i,l=>(l,i)
 | k+1,i,l=>rdN k (rdS i).2 (l++[(rdS i).1])
theorem Ck: ∀ (k:Nat) {i:cI} (l:List Int),VI i->VI (rdN k i l).2
 | 0,_,_,h=>h
 | k+1,_,l,h=>Ck k _ (vN h)
theorem zB: ∀ (k:Nat) (i:cI) (l:List Int),(rdN k i l).1.length=l.length+k
 | 0,_,_=>rfl
 | k+1,i,l=>by rw [rdN,zB k]; simp; omega
theorem AA: ∀ (k:Nat) (i:cI) (l:List Int),rdN (k+1) i l=((rdN k i l).1++[(rdS (rdN k i l).2).1],(rdS (rdN k i l).2).2)
 | 0,_,_=>rfl
 | k+1,i,l=>by rw [rdN,AA k]; rfl
theorem G0: ∀ (k:Nat) {i:cI} (l:List Int) {m:Nat},SZ m i->SZ m (rdN k i l).2
 | 0,_,_,_,h=>h
 | k+1,_,l,_,h=>G0 k _ (DH h)
def qgA (s:ByteArray):=rdS ⟨oa s,0⟩
def qgB (s:ByteArray):=rdS (qgA s).2
def qgC (s:ByteArray):=rdS (qgB s).2
def qgI (s:ByteArray):cI:=if (qgC s).1 > 64 then Jj else (qgC s).2
def qgN (s:ByteArray):=rdN (min (qgC s).1 64).toNat (qgI s) []
def qgT (s:ByteArray):=v7 (qgN s).2
def qgR (s:ByteArray):aV:=⟨(qgA s).1,(qgB s).1,(qgN s).1,(qgT s).1⟩
def lz (s:ByteArray):aV×Int :=
 if s.size > 8192 then (zGr,3) else if ui s=false then (zGr,4) else if yh (qgT s).2≠0 then (zGr,yh (qgT s).2) else if kA (qgR s)≠0 then (zGr,kA (qgR s)) else (qgR s,0)
theorem M4 {s:ByteArray} (h:s.size<=8192) (h4:4<=s.size):VI (qgA s).2/\VI (qgB s).2/\VI (qgC s).2/\VI (qgI s)/\VI (qgN s).2/\VI (qgT s).2:=by
 have v0:VI (⟨oa s,0⟩:cI):=⟨by show (oa s).size<=1000000; rw [rp h4]; omega,.inl rfl⟩
 have v1:=vN v0
 have v2:=vN v1
 have v3:=vN v2
 have v4:VI (qgI s):=by
  unfold qgI
  split
  ·exact GJ
  ·exact v3
 have v5:=Ck (min (qgC s).1 64).toNat (i:=qgI s) [] v4
 exact ⟨v1,v2,v3,v4,v5,LL v5⟩
theorem G1 {s:ByteArray} (h:s.size<=8192) (h4:4<=s.size):(qgR s).data.size<=8192:=by
 have z0:SZ s.size (⟨oa s,0⟩:cI):=⟨⟨by show (oa s).size<=1000000; rw [rp h4]; omega,.inl rfl⟩,by show (oa s).size<=_; rw [rp h4]; omega⟩
 have z3:SZ s.size (qgC s).2:=DH (DH (DH z0))
 have z4:SZ s.size (qgI s):=by
  unfold qgI
  split
  ·exact ⟨GJ,Nat.zero_le _⟩
  ·exact z3
 have z5:SZ s.size (qgN s).2:=G0 _ [] z4
 have:=(GM z5.1 z5.2).1
 show (qgT s).1.size<=_
 exact Nat.le_trans this h
theorem LQ (s:ByteArray):(qgR s).aW.length<=64:=by
 show (qgN s).1.length<=64
 rw [qgN,zB]
 simp
 omega
theorem Oj {s:ByteArray} (h:s.size<=8192) (h4:4<=s.size):0<=(qgC s).1:=(xq (M4 h h4).2.1).1
theorem Fa {s:ByteArray} (h:s.size<=8192) (h4:4<=s.size):nA ⟨oa s,0⟩=some (qgR s,(qgT s).2):=by
 obtain ⟨v1,v2,v3,v4,v5,v6⟩:=M4 h h4
 have v0:VI (⟨oa s,0⟩:cI):=⟨by show (oa s).size<=1000000; rw [rp h4]; omega,.inl rfl⟩
 have hc0:=Oj h h4
 unfold nA
 rw [xp _ v0,aA,show (rdS ⟨oa s,0⟩)=qgA s from rfl,xp _ v1,aA,show (rdS (qgA s).2)=qgB s from rfl,xp _ v2,aA,show (rdS (qgB s).2)=qgC s from rfl]
 have hi:((bif (decide ((qgC s).1 > 64)) then (Option.bind (dR (qgC s).2 1) λa=>some a) else some (qgC s).2):Option cI)=some (qgI s):=by
  unfold qgI
  by_cases c:(qgC s).1 > 64
  ·rw [decide_eq_true c,cond_true,if_pos c,MZ v3,aA,if_pos (show (qgC s).2.e=0 from LJ v2 (by decide) c)]
  ·rw [decide_eq_false c,cond_false,if_neg c]
 rw [hi,aA]
 have hm:dF (qgC s).1 64=((min (qgC s).1 64).toNat:Int):=by unfold dF; split <;> omega
 rw [hm]
 have hk:(min (qgC s).1 64).toNat<=64:=by omega
 refine fw (λj:Nat=>(aV.mk (qgA s).1 (qgB s).1 (rdN j (qgI s) []).1 (ByteArray.mk #[]),(rdN j (qgI s) []).2,(j:Int))) (min (qgC s).1 64).toNat ((qgN s).2,aV.mk (qgA s).1 (qgB s).1 (qgN s).1 (ByteArray.mk #[])) rfl ?_ ?_ ?_
 ·intro j hj
  have hl:=zB j (qgI s) []
  have hs:rdN (j+1) (qgI s) []=((rdN j (qgI s) []).1++[(rdS (rdN j (qgI s) []).2).1],(rdS (rdN j (qgI s) []).2).2):=AA j (qgI s) []
  dsimp only
  rw [decide_eq_true (by omega),cond_true,xp _ (Ck j [] v4),aA,bP (by simp [hl]; omega),aA,w64 (by omega) (by omega),hs]
  rfl
 ·dsimp only
  rw [decide_eq_false (by omega),cond_false]
  rfl
 ·dsimp only
  rw [Jo _ v5,aA]
  rfl
theorem vi {s:ByteArray} (h:s.size<=100000):jK s=some (lz s):=by
 unfold jK lz
 by_cases c:s.size > 8192
 ·rw [decide_eq_true (by omega),cond_true,if_pos c]
  rfl
 ·rw [decide_eq_false (by omega),cond_false,if_neg c,Jx (by omega),aA]
  unfold yK
  cases ho:ui s with
  | false=>rfl
  | true =>
   have h4:4<=s.size:=by
    unfold ui at ho
    exact (of_decide_eq_true ho).1
   rw [if_pos rfl]
   dsimp only
   rw [Bool.not_true,cond_false,show tV (oa s)=some ⟨oa s,0⟩ from rfl,aA,Fa (by omega) h4,aA,LM,aA,if_neg (by simp)]
   dsimp only
   by_cases e:yh (qgT s).2=0
   ·rw [e,show ((0:Int) == 0)=true from rfl,cond_true,yP (by have:=LQ s; omega) (by have:=G1 (s:=s) (by omega) h4; omega),aA,aA,if_neg (λh=>h rfl)]
    by_cases f:kA (qgR s)=0
    ·rw [f,show ((0:Int) != 0)=false from rfl,cond_false,if_neg (λh=>h rfl)]
    ·rw [show (kA (qgR s) != 0)=true by simpa using f,cond_true,if_pos f]
     rfl
   ·rw [show (yh (qgT s).2 == 0)=false by simpa using e,cond_false,aA,show (yh (qgT s).2 != 0)=true by simpa using e,cond_true,if_pos e]
    rfl
theorem DP {R:List Int} (hR:BB R): ∀ (L l:List Int),(∀ n∈L,okN n=true)->rdN L.length (bI (L.flatMap dM++R)) l=(l++L,bI R)
 | [],l,_=>by simp [rdN]
 | n::L,l,h=>by
  have hn:=of_decide_eq_true (h n List.mem_cons_self)
  have hR2:BB (L.flatMap dM++R):=lx (nt λx _=>mU x) hR
  rw [List.length_cons,rdN,List.flatMap_cons,List.append_assoc,GO hR2 hn.1 hn.2]
  dsimp only
  rw [DP hR L _ λx hx=>h x (List.mem_cons_of_mem _ hx)]
  simp
theorem wC {g:aV} (h:kA g=0):ly g=true/\(iC g).size<=8192:=by
 unfold kA at h
 cases hr:ly g with
 | false=>rw [hr] at h; simp at h
 | true =>
  rw [hr,if_neg (by simp)] at h
  refine ⟨rfl,?_⟩
  split at h
  ·cases h
  ·omega
theorem vP {g:aV} (h:kA g=0):lz (iC g)=(g,0):=by
 obtain ⟨hr,hs⟩:=wC h
 have hr2:=hr
 unfold ly at hr2
 simp only [Bool.and_eq_true,decide_eq_true_eq,List.all_eq_true] at hr2
 obtain ⟨⟨a1,a2⟩,⟨b1,b2⟩,c1,d1⟩:=hr2
 have hsz:=sf (jD (pL g))
 have ho:=E6 (jD (pL g))
 rw [show rn (jD (pL g))=iC g from rfl] at hsz ho
 have hd:g.data.size<=8192:=by
  rw [gq] at hsz
  have:g.data.size<=(pL g).length:=by unfold pL; simp only [List.length_append,bG]; omega
  omega
 unfold yK at ho
 cases hb:ui (iC g) with
 | false=>rw [hb,if_neg (by simp)] at ho; exact absurd (congrArg Prod.snd ho) (by simp)
 | true =>
  rw [hb,if_pos rfl] at ho
  have hf:oa (iC g)=jD (pL g):=(Prod.mk.inj ho).1
  have B0:BB (dM g.data.size++sbs g.data++[]):=lx (lx (mU _) (tB _)) (λb hb=>by cases hb)
  have B1:BB (g.aW.flatMap dM++(dM g.data.size++sbs g.data++[])):=lx (nt λx _=>mU x) B0
  have B2:BB (dM (g.aW.length:Int)++(g.aW.flatMap dM++(dM g.data.size++sbs g.data++[]))):=lx (mU _) B1
  have B3:BB (dM g.kind++(dM (g.aW.length:Int)++(g.aW.flatMap dM++(dM g.data.size++sbs g.data++[])))):=lx (mU _) B2
  have e0:pL g=dM g.bH++(dM g.kind++(dM (g.aW.length:Int)++(g.aW.flatMap dM++(dM g.data.size++sbs g.data++[])))):=by
   unfold pL
   simp
  have hA:qgA (iC g)=(g.bH,bI (dM g.kind++(dM (g.aW.length:Int)++(g.aW.flatMap dM++(dM g.data.size++sbs g.data++[]))))):=by
   unfold qgA
   rw [hf,e0]
   exact GO B3 (by omega) (by omega)
  have hB:qgB (iC g)=(g.kind,bI (dM (g.aW.length:Int)++(g.aW.flatMap dM++(dM g.data.size++sbs g.data++[])))):=by
   unfold qgB
   rw [hA]
   exact GO B2 (by omega) (by omega)
  have hC:qgC (iC g)=((g.aW.length:Int),bI (g.aW.flatMap dM++(dM g.data.size++sbs g.data++[]))):=by
   unfold qgC
   rw [hB]
   exact GO B1 (by omega) (by omega)
  have hI:qgI (iC g)=bI (g.aW.flatMap dM++(dM g.data.size++sbs g.data++[])):=by
   unfold qgI
   rw [hC,if_neg (by dsimp only; omega)]
  have hN:qgN (iC g)=(g.aW,bI (dM g.data.size++sbs g.data++[])):=by
   unfold qgN
   rw [hC,hI]
   have:(min ((g.aW.length:Int)) 64).toNat=g.aW.length:=by omega
   dsimp only
   rw [this,DP B0 g.aW [] d1,List.nil_append]
  have hT:qgT (iC g)=(g.data,bI []):=by
   unfold qgT
   rw [hN]
   exact M3 g.data (λb hb=>by cases hb) (by omega)
  have hR:qgR (iC g)=g:=by
   unfold qgR
   rw [hA,hB,hN,hT]
  unfold lz
  rw [if_neg (by omega),hb,if_neg (by simp),hT,show yh (bI [])=0 from rfl,if_neg (λh=>h rfl),hR,h,if_neg (λh=>h rfl)]
def okO {α:Type _} (x:Option α) (P:α->Prop):Prop:= ∃ r,x=some r/\P r
theorem cG {α:Type _} {P:α->Prop} {r:α} (h:P r):okO (some r) P:=⟨r,rfl,h⟩
theorem dP {α β:Type _} {P:α->Prop} {Q:β->Prop} {x:Option α} {f:α->Option β} (h:okO x P) (k: ∀ r,P r->okO (f r) Q):okO (Option.bind x f) Q:=by
 obtain ⟨r,rfl,hp⟩:=h
 exact k r hp
theorem LR {α:Type _} {P:α->Prop} {b:Bool} {x y:Option α} (h1:b=true->okO x P) (h2:b=false->okO y P):okO (bif b then x else y) P:=by
 cases b
 ·exact h2 rfl
 ·exact h1 rfl
theorem uo {α:Type _} {P:α->Prop} {p:Prop} [Decidable p] {x y:Option α} (h1:p->okO x P) (h2: ¬ p->okO y P):okO (bif decide p then x else y) P :=
 LR (λh=>h1 (of_decide_eq_true h)) (λh=>h2 (of_decide_eq_false h))
theorem Cl {lo hi n:Int} (h0:0<=lo) (h1:lo<=hi) (h2:hi<=n):okO (chk (cZ lo hi n)) (λ_=>True):=⟨(),bQ h0 h1 h2,trivial⟩
theorem sg {σ ρ:Type} {f:σ->Option (σ ⊕ ρ)} {P:ρ->Prop} (Inv:σ->Prop) (m:σ->Nat) {s:σ} (h0:Inv s)
  (h: ∀ s,Inv s->okO (f s) λ | .inl s'=>Inv s'/\m s' < m s | .inr r=>P r):okO (iter f s) P:=by
 refine xj Inv m P (λs hs=> ?_) s h0
 obtain ⟨z,e,hz⟩:=h s hs
 cases z with
 | inl s'=>exact .inl ⟨s',e,hz⟩
 | inr r=>exact .inr ⟨r,e,hz⟩
theorem Ok {α:Type _} {x:Option α} {r:α} (h:okO x (λy=>y=r)):x=some r:=by
 obtain ⟨y,e,rfl⟩:=h
 exact e
def chM:Int:=281474976710597
def uq (x:Int) (l:List aJ):Int:=(x*65536 % chM+(tC (jD (lO l)):Nat)) % chM
def qm (l:List (List aJ)):Int:=l.foldl uq 0
theorem AB (x:Int) (l:List aJ):0<=uq x l/\uq x l < chM:=⟨Int.emod_nonneg _ (by decide),Int.emod_lt_of_pos _ (by decide)⟩
theorem AD (l:List (List aJ)) (g:List aJ):qm (l++[g])=uq (qm l) g:=List.foldl_append ..
theorem AE: ∀ (l:List (List aJ)) (x:Int),0<=x->x < chM->0<=l.foldl uq x/\l.foldl uq x < chM
 | [],x,h0,h1=>⟨h0,h1⟩
 | g::l,x,_,_=>AE l (uq x g) (AB x g).1 (AB x g).2
theorem yQ (l:List (List aJ)):0<=qm l/\qm l < chM:=AE l 0 (by decide) (by decide)
def zC (l:List aJ):Prop:=l.length<=1024 /\ ∀ g∈l,rok g.rune
theorem Cm {l:List aJ} (h:l.length<=2000):(jD (lO l)).size<=1000000:=by
 have h1:=dJ (l.length:Int)
 have h2:=sb l
 rw [gq]
 unfold lO
 rw [List.length_append]
 omega
theorem JB {x:Int} (h0:0<=x) (h1:x < chM) {l:List aJ} (hl:zC l):nB x l=some (uq x l):=by
 unfold nB uq
 unfold chM at h1 ⊢
 have hs:=wz (jD (lO l))
 rw [ue l (Nat.le_trans hl.1 (by decide)) hl.2,Option.bind_some,zy _ (Cm (Nat.le_trans hl.1 (by decide))),Option.bind_some]
 generalize tC (jD (lO l))=m at hs
 rw [w64 (x:=x*256) (by omega) (by omega),Int.tmod_eq_emod_of_nonneg (a:=x*256) (by omega)]
 rw [w64 (x:=x*256 % 281474976710597*256) (by omega) (by omega),Int.tmod_eq_emod_of_nonneg (a:=x*256 % 281474976710597*256) (by omega)]
 rw [w64 (x:=((m:Nat):Int)) (by omega) (by omega),w64 (by omega) (by omega),Int.tmod_eq_emod_of_nonneg (a:=x*256 % 281474976710597*256 % 281474976710597+((m:Nat):Int)) (by omega)]
 congr 2
 omega
def chs (l:List (List aJ)):List Int:=(List.range (l.length+1)).map λk=>qm (l.take k)
theorem DQ (l:List (List aJ)):(chs l).length=l.length+1:=by simp [chs]
theorem G2 (l:List (List aJ)) (g:List aJ):chs (l++[g])=chs l++[qm (l++[g])]:=by
 unfold chs
 rw [List.length_append,List.length_singleton,List.range_succ,List.map_append,List.map_singleton]
 congr 1
 ·refine List.map_congr_left λk hk=> ?_
  have:=List.mem_range.1 hk
  rw [List.take_append_of_le_length (by omega)]
 ·rw [List.take_of_length_le (by simp)]
theorem DR (l:List (List aJ)) (k:Nat) (h:k<=l.length):idx (chs l) (k:Int)=some (qm (l.take k)):=by
 rw [dC _ k (by rw [DQ]; omega)]
 simp [chs]
theorem sj (l:List aJ) (h:l.length<=1000000):cA l=some l:=by
 unfold cA
 rw [bP (by simp; omega)]
 simp
theorem AF {b:bT} (hc:b.bA=chs b.l) (hn:b.l.length<=200000000) {g:List aJ} (hg:zC g):fM b g=some ⟨b.l++[g],chs (b.l++[g]),b.begun⟩:=by
 unfold fM
 have hk:=yQ b.l
 rw [sj _ (by have:=hg.1; omega),Option.bind_some,bP (by simp; omega),Option.bind_some,hc,DQ,w64 (by omega) (by omega)]
 rw [show ((b.l.length+1:Nat):Int) - 1=(b.l.length:Int) by omega,DR _ _ (Nat.le_refl _),List.take_length,Option.bind_some,JB hk.1 hk.2 hg,Option.bind_some,bP (by simp; omega)]
 rw [G2,AD]
 rfl
def nQ (g:List aJ):List (List aJ)×List aJ :=
 if h:1024<=g.length then (g.take 1024::(nQ (g.drop 1024)).1,(nQ (g.drop 1024)).2) else ([],g)
termination_by g.length
decreasing_by all_goals (rw [List.length_drop]; omega)
theorem zD {g:List aJ} (h:1024<=g.length):nQ g=(g.take 1024::(nQ (g.drop 1024)).1,(nQ (g.drop 1024)).2):=by
 rw [nQ,dif_pos h]
theorem wD {g:List aJ} (h: ¬ 1024<=g.length):nQ g=([],g):=by
 rw [nQ,dif_neg h]
def qK (z:List (List aJ)×List aJ) (r:aG):List (List aJ)×List aJ :=
 let c:=nQ (z.2++ou r)
 if r.wrapped then (z.1++c.1,c.2) else (z.1++c.1++[c.2],[])
def zE (z:List (List aJ)×List aJ):yC:=⟨z.1.map (λg=>g.map tg),z.2.map tg⟩
def lnS (l:List aJ):ByteArray:=jD (lO l)
def full (b:bZ) (s:ByteArray):Bool:=decide (b.count > 0/\(b.data.size:Int)+(s.size:Int) > 4000)
def inB (L:List (List aJ)) (to:Int):Nat->Int->bZ->List bZ×bZ
 | 0,_,b=>([],b)
 | k+1,i,b =>
  if i < to/\0<=i/\i < L.length then
   let s:=lnS (L[i.toNat]?.getD [])
   if full b s=true then
    let r:=inB L to k (i+1) ⟨i,1,s⟩
    (b::r.1,r.2)
   else inB L to k (i+1) ⟨b.first,b.count+1,b.data++s⟩
  else ([],b)
def xC (L:List (List aJ)) (x:dK):List bZ :=
 let r:=inB L x.to (L.length+1) x.from_ ⟨x.from_,0,noS⟩
 r.1++if r.2.count > 0 then [r.2] else []
def AG (L:List (List aJ)) (l:List dK):List bZ:=l.flatMap (xC L)
def oM (bH:Int) (b:bZ):aV:=⟨bH,4,[b.first,b.count],b.data⟩
def Fb (bH:Int) (L:List (List aJ)) (l:List dK):List aV:=((AG L l).map (oM bH)).take 16
structure LB (L:List (List aJ)):Prop where
 n:L.length<=100000000
 g: ∀ l∈L,l.length<=1024 /\ ∀ g∈l,rok g.rune
theorem JC (s:ByteArray):noS++s=s:=by
 apply ns
 rw [oy]
 rfl
theorem AH {l:List aJ} (h:l.length<=1024):(lnS l).size<=18441:=by
 unfold lnS
 rw [gq]
 have:=vh l
 omega
theorem LB.line {L:List (List aJ)} (h:LB L) (b:bT) (hb:b.l=L) (i:Int):kt b i=some (if 0<=i/\i < L.length then (L[i.toNat]?.getD [],true) else ([],false)):=by
 unfold kt
 rw [hb]
 by_cases c:i < 0
 ·rw [decide_eq_true c,cond_true,aA,cond_true,if_neg (by omega)]
 ·rw [decide_eq_false c,cond_false,aA]
  by_cases d:i>=(L.length:Int)
  ·rw [decide_eq_true d,cond_true,if_neg (by omega)]
  ·obtain ⟨j,rfl⟩: ∃ j:Nat,i=(j:Int):=⟨i.toNat,by omega⟩
   have hj:j < L.length:=by omega
   rw [decide_eq_false d,cond_false,dC _ j hj,aA,sj _ (by have:=(h.g _ (List.getElem_mem hj)).1; omega),aA,if_pos (by omega),Int.toNat_natCast,List.getElem?_eq_getElem hj]
   rfl
def stY (bH:Int) (acc:List aV) (E:List bZ):(List aV) ⊕ (List aV):=if acc.length+E.length < 16 then .inl (acc++E.map (oM bH)) else .inr ((acc++E.map (oM bH)).take 16)
theorem AI {L:List (List aJ)} {to i:Int} (h: ¬ (i < to/\0<=i/\i < L.length)) (b:bZ): ∀ k,inB L to k i b=([],b)
 | 0=>rfl
 | k+1=>by rw [inB,if_neg h]
structure SBt (b:bZ) (i:Int):Prop where
 c:0<=b.count
 ci:0 < b.count->b.count<=i
 d:b.data.size<=18441
 z:b.count=0->b.data.size=0
abbrev RG:=(List aV) ⊕ (List aV)
theorem Cn {L:List (List aJ)} (hL:LB L) (bH to:Int) {ρ:Type} (f:bZ×Int×RG->Option ((bZ×Int×RG) ⊕ ρ)) (stop:bZ×RG->ρ) (out:RG->ρ)
  (h0: ∀ b i acc,¬ (i < to/\0<=i/\i < L.length)->f (b,i,.inl acc)=some (.inr (stop (b,.inl acc))))
  (h1: ∀ b (j:Nat) (hj:j < L.length) acc,(j:Int) < to->SBt b j->full b (lnS L[j])=false->f (b,(j:Int),.inl acc)=some (.inl (⟨b.first,b.count+1,b.data++lnS L[j]⟩,(j:Int)+1,.inl acc)))
  (h2: ∀ b (j:Nat) (hj:j < L.length) acc,(j:Int) < to->SBt b j->full b (lnS L[j])=true->acc.length+1 < 16->f (b,(j:Int),.inl acc)=some (.inl (⟨(j:Int),1,lnS L[j]⟩,(j:Int)+1,.inl (acc++[oM bH b]))))
  (h3: ∀ b (j:Nat) (hj:j < L.length) acc,(j:Int) < to->SBt b j->full b (lnS L[j])=true->acc.length=15->f (b,(j:Int),.inl acc)=some (.inr (out (.inr (acc++[oM bH b]))))) :
  ∀ (k:Nat) (i:Int) (b:bZ) (acc:List aV),L.length < i+k\/i < 0\/to<=i->acc.length < 16->SBt b i ->
  iter f (b,i,.inl acc)=some (if acc.length+(inB L to k i b).1.length < 16 then stop ((inB L to k i b).2,.inl (acc++(inB L to k i b).1.map (oM bH))) else out (.inr ((acc++(inB L to k i b).1.map (oM bH)).take 16)))
 | 0,i,b,acc,hk,ha,hs=>by
  rw [inB,if_pos (by simpa using ha)]
  simpa using cO (h0 b i acc (by omega))
 | k+1,i,b,acc,hk,ha,hs=>by
  by_cases hst:i < to/\0<=i/\i < L.length
  ·obtain ⟨j,rfl⟩: ∃ j:Nat,i=(j:Int):=⟨i.toNat,by omega⟩
   have hj:j < L.length:=by omega
   have hsz:=AH (hL.g _ (List.getElem_mem hj)).1
   have hge:L[((j:Int)).toNat]?.getD []=L[j]:=by rw [Int.toNat_natCast,List.getElem?_eq_getElem hj]; rfl
   rw [inB,if_pos hst,hge]
   dsimp only
   obtain ⟨s1,s2,s3,s4⟩:=hs
   by_cases hfu:full b (lnS L[j])=true
   ·rw [if_pos hfu]
    by_cases h16:acc.length+1 < 16
    ·have ih:=Cn hL bH to f stop out h0 h1 h2 h3 k ((j:Int)+1) ⟨(j:Int),1,lnS L[j]⟩ (acc++[oM bH b]) (by omega) (by simp; omega) ⟨by dsimp only; omega,by dsimp only; omega,hsz,λe=>by dsimp only at e; omega⟩
     have e1: ∀ E:List bZ,acc++(b::E).map (oM bH)=(acc++[oM bH b])++E.map (oM bH):=λE=>by simp
     have e2: ∀ E:List bZ,acc.length+(b::E).length=(acc++[oM bH b]).length+E.length:=λE=>by simp; omega
     rw [e1,e2,<- ih]
     exact eN (h2 b j hj acc hst.1 ⟨s1,s2,s3,s4⟩ hfu h16)
    ·rw [if_neg (by simp; omega)]
     have hl15:acc.length=15:=by omega
     have:(acc++(b::(inB L to k ((j:Int)+1) ⟨(j:Int),1,lnS L[j]⟩).1).map (oM bH)).take 16=acc++[oM bH b]:=by
      rw [List.take_append,List.take_of_length_le (by omega),hl15]
      rfl
     rw [this]
     exact cO (h3 b j hj acc hst.1 ⟨s1,s2,s3,s4⟩ hfu hl15)
   ·have hf2:full b (lnS L[j])=false:=by simpa using hfu
    have hnf: ¬ (b.count > 0/\(b.data.size:Int)+((lnS L[j]).size:Int) > 4000):=by unfold full at hf2; exact of_decide_eq_false hf2
    have ih:=Cn hL bH to f stop out h0 h1 h2 h3 k ((j:Int)+1) ⟨b.first,b.count+1,b.data++lnS L[j]⟩ acc (by omega) ha ⟨by dsimp only; omega,by dsimp only; omega,by
     dsimp only
     rw [ByteArray.size_append]
     by_cases q:b.count > 0
     ·omega
     ·have:=s4 (by omega); omega,λe=>by dsimp only at e; omega⟩
    rw [if_neg hfu,<- ih]
    exact eN (h1 b j hj acc hst.1 ⟨s1,s2,s3,s4⟩ hf2)
  ·rw [AI hst,if_pos (by simpa using ha)]
   simpa using cO (h0 b i acc hst)
theorem AJ {bH:Int} {acc:List aV} {E:List bZ} (h: ¬ acc.length+E.length < 16) (F:List bZ):stY bH acc (E++F) = .inr ((acc++E.map (oM bH)).take 16):=by
 unfold stY
 rw [if_neg (by simp; omega),List.map_append,<- List.append_assoc,List.take_append_of_le_length (by simp; omega)]
theorem JD {bH:Int} {acc:List aV} {E:List bZ} (F:List bZ):stY bH (acc++E.map (oM bH)) F=stY bH acc (E++F):=by
 unfold stY
 simp only [List.length_append,List.length_map,List.map_append,List.append_assoc,Nat.add_assoc]
def LS (j:Int):RG->(Int×RG) ⊕ RG
 | .inl a=> .inl (j+1,.inl a)
 | .inr a=> .inr (.inr a)
theorem G3 {L:List (List aJ)} (bH:Int) (l:List dK) (F:Int×RG->Option ((Int×RG) ⊕ RG)) (hF: ∀ (j:Nat) (hj:j < l.length) acc,acc.length < 16->F ((j:Int),.inl acc)=some (LS j (stY bH acc (xC L l[j])))) (hE: ∀ y,F ((l.length:Int),y)=some (.inr y)) :
  ∀ (k j:Nat) (acc:List aV),j+k=l.length->acc.length < 16->iter F ((j:Int),.inl acc)=some (stY bH acc (AG L (l.drop j)))
 | 0,j,acc,hk,ha=>by
  rw [show l.drop j=[] from List.drop_eq_nil_of_le (by omega),show AG L []=[] from rfl,stY,if_pos (by simpa using ha)]
  have:=hE (.inl acc)
  rw [show j=l.length by omega]
  simpa using cO this
 | k+1,j,acc,hk,ha=>by
  have hj:j < l.length:=by omega
  have hc:AG L (l.drop j)=xC L l[j]++AG L (l.drop (j+1)):=by
   unfold AG
   rw [List.drop_eq_getElem_cons hj,List.flatMap_cons]
  have h:=hF j hj acc ha
  rw [hc]
  by_cases c:acc.length+(xC L l[j]).length < 16
  ·rw [stY,if_pos c] at h
   have ih:=G3 bH l F hF hE k (j+1) (acc++(xC L l[j]).map (oM bH)) (by omega) (by simp; omega)
   rw [JD] at ih
   rw [<- ih]
   exact eN h
  ·rw [AJ c]
   rw [stY,if_neg c] at h
   exact cO h
theorem Fc {L:List (List aJ)} (hL:LB L) (bk:bT) (hb:bk.l=L) (bH:Int) (l:List dK) (hl:l.length<=1000000) (hx: ∀ x∈l,x.from_<=4611686018427387904):fT bH bk l=some (Fb bH L l):=by
 unfold fT ld
 rw [show jE bk l=some () from rfl,aA]
 have hLn:=hL.n
 refine zA (y:=stY bH [] (AG L (l.drop 0))) (zA (G3 (L:=L) bH l _ ?hF ?hE l.length 0 [] (by omega) (by decide)) rfl) ?_
 case hE =>
  intro y
  dsimp only
  rw [decide_eq_false (by omega),cond_false]
 case hF =>
  intro j hj acc ha
  dsimp only
  rw [decide_eq_true (by omega),cond_true,dC _ j hj,aA]
  have hxj:=hx _ (List.getElem_mem hj)
  have hp: ∀ (q:Nat) (hq:q < L.length),jP L[q]=some (lnS L[q]):=λq hq=>ue _ (by have:=(hL.g _ (List.getElem_mem hq)).1; omega) (hL.g _ (List.getElem_mem hq)).2
  have hge: ∀ (q:Nat) (hq:q < L.length),L[((q:Int)).toNat]?.getD []=L[q]:=λq hq=>by rw [Int.toNat_natCast,List.getElem?_eq_getElem hq]; rfl
  have hsz: ∀ (q:Nat) (hq:q < L.length),(lnS L[q]).size<=18441:=λq hq=>AH (hL.g _ (List.getElem_mem hq)).1
  have hfu: ∀ (b:bZ) (s:ByteArray),b.data.size<=18441->s.size<=18441->((bif (decide (b.count > 0)) then some (decide ((IntKind.i64.wrap ((b.data.size:Int)+(s.size:Int))) > 4000)) else some false):Option Bool)=some (full b s):=λb s h1 h2=>by
   rw [w64 (by omega) (by omega)]
   unfold full
   by_cases q:b.count > 0
   ·rw [decide_eq_true q,cond_true]; simp [q]
   ·rw [decide_eq_false q,cond_false]; simp [q]
  refine zA (Cn hL bH l[j].to _ (λz=> .inl z) (λz=> .inr (.inr z)) ?h0 ?h1 ?h2 ?h3 (L.length+1) l[j].from_ ⟨l[j].from_,0,ByteArray.mk #[]⟩ acc (by omega) ha ⟨Int.le_refl _,(λh=>by cases h),Nat.zero_le _,λ_=>rfl⟩) ?_
  case h0 =>
   intro b i acc h
   dsimp only
   by_cases c:i < l[j].to
   ·rw [decide_eq_true c,cond_true,hL.line bk hb,aA,if_neg (by omega)]
    rfl
   ·rw [decide_eq_false c,cond_false]
  case h1 =>
   intro b q hq acc ht hs hf
   have:=hs.ci
   have:=hs.d
   have:=hsz q hq
   dsimp only
   rw [decide_eq_true ht,cond_true,hL.line bk hb,aA,if_pos (by omega),hge q hq]
   dsimp only
   rw [Bool.not_true,cond_false,hp q hq,aA,hfu _ _ hs.d (hsz q hq),hf,aA,cond_false,aA]
   dsimp only
   rw [rZ (by omega),aA,w64 (by have:=hs.c; omega) (by omega),w64 (by omega) (by omega)]
  case h2 =>
   intro b q hq acc ht hs hf h16
   have:=hsz q hq
   dsimp only
   rw [decide_eq_true ht,cond_true,hL.line bk hb,aA,if_pos (by omega),hge q hq]
   dsimp only
   rw [Bool.not_true,cond_false,hp q hq,aA,hfu _ _ hs.d (hsz q hq),hf,aA,cond_true,bP (by simp; omega),aA,show (((acc++[(aV.mk bH 4 [b.first,b.count] b.data)]).length:Int) == 16)=false by simp; omega,cond_false,aA]
   dsimp only
   rw [Bool.not_true,cond_false,aA]
   dsimp only
   rw [rZ (by show 0+_<=_; omega),aA,w64 (by omega) (by omega),w64 (by omega) (by omega),show (ByteArray.mk #[])++lnS L[q]=lnS L[q] from JC _]
   rfl
  case h3 =>
   intro b q hq acc ht hs hf h15
   dsimp only
   rw [decide_eq_true ht,cond_true,hL.line bk hb,aA,if_pos (by omega),hge q hq]
   dsimp only
   rw [Bool.not_true,cond_false,hp q hq,aA,hfu _ _ hs.d (hsz q hq),hf,aA,cond_true,bP (by simp; omega),aA,show (((acc++[(aV.mk bH 4 [b.first,b.count] b.data)]).length:Int) == 16)=true by simp; omega,cond_true,aA]
   rfl
  unfold xC
  rw [show (⟨l[j].from_,0,noS⟩:bZ)=⟨l[j].from_,0,ByteArray.mk #[]⟩ from rfl]
  generalize inB L l[j].to (L.length+1) l[j].from_ ⟨l[j].from_,0,ByteArray.mk #[]⟩=r
  dsimp only
  by_cases c:acc.length+r.1.length < 16
  ·rw [if_pos c]
   dsimp only
   by_cases d:r.2.count > 0
   ·rw [if_pos d,decide_eq_true d,cond_true,bP (by simp; omega),aA]
    by_cases e:acc.length+r.1.length+1 < 16
    ·rw [show (((acc++r.1.map (oM bH)++[(aV.mk bH 4 [r.2.first,r.2.count] r.2.data)]).length:Int) == 16)=false by simp; omega,cond_false,aA,aA]
     dsimp only
     rw [Bool.not_true,cond_false,w64 (by omega) (by omega),stY,if_pos (by simp; omega)]
     simp [LS,oM]
    ·rw [show (((acc++r.1.map (oM bH)++[(aV.mk bH 4 [r.2.first,r.2.count] r.2.data)]).length:Int) == 16)=true by simp; omega,cond_true,aA,aA]
     dsimp only
     rw [Bool.not_false,cond_true,stY,if_neg (by simp; omega),List.take_of_length_le (by simp; omega)]
     simp [LS,oM]
   ·rw [if_neg d,List.append_nil,decide_eq_false d,cond_false,aA]
    dsimp only
    rw [cond_false,w64 (by omega) (by omega),stY,if_pos c]
    rfl
  ·rw [if_neg c,AJ c]
   rfl
 rw [List.drop_zero]
 unfold stY Fb
 by_cases c:([]:List aV).length+(AG L l).length < 16
 ·rw [if_pos c]
  dsimp only
  rw [List.nil_append,List.take_of_length_le (by simp at c ⊢; omega)]
 ·rw [if_neg c]
  dsimp only
  rw [List.nil_append]
theorem Co (s:bD) (to:Int) (l:List aV) (hl:l.length<=1000000) (h: ∀ g∈l,g.aW.length<=1000000/\g.data.size<=100000):eX s to l=some (l.map λg=>⟨to,um ⟨s.bH,g.kind,g.aW,g.data⟩⟩):=by
 unfold eX
 refine fw (λi:Nat=>((i:Int),(l.take i).map λg=>(⟨to,um ⟨s.bH,g.kind,g.aW,g.data⟩⟩:fH))) l.length _ rfl ?_ ?_ rfl
 ·intro i hi
  have hg:=h _ (List.getElem_mem hi)
  dsimp only
  rw [decide_eq_true (by omega),cond_true,dC _ i hi,aA,Az (g:=⟨s.bH,l[i].kind,l[i].aW,l[i].data⟩) hg.1 hg.2,aA,bP (by simp; omega),aA,w64 (by omega) (by omega),List.take_succ_eq_append_getElem hi,List.map_append]
  rfl
 ·dsimp only
  rw [decide_eq_false (by omega),cond_false,List.take_length]
def prL:List Int->List dK
 | a::b::r=>⟨a,b⟩::prL r
 | _=>[]
theorem zF: ∀ l:List Int,(prL l).length=l.length / 2
 | []=>rfl
 | [_]=>by simp [prL]
 | a::b::r=>by
  have:=zF r
  simp only [prL,List.length_cons,this]
  omega
theorem AK: ∀ (i:Nat) (l:List Int),(prL l).drop i=prL (l.drop (2*i))
 | 0,l=>by simp
 | i+1,[]=>by simp [prL]
 | i+1,[a]=>by
  have e:[a].drop (2*(i+1))=[]:=List.drop_eq_nil_of_le (by simp only [List.length_cons,List.length_nil]; omega)
  rw [e]
  simp [prL]
 | i+1,a::b::r=>by
  rw [prL,List.drop_succ_cons,AK i r,show 2*(i+1)=2*i+1+1 by omega,List.drop_succ_cons,List.drop_succ_cons]
theorem DS: ∀ {l:List Int} {x:dK},x∈prL l->x.from_∈l/\x.to∈l
 | [],_,h=>by cases h
 | [_],_,h=>by cases h
 | a::b::r,x,h=>by
  rcases List.mem_cons.1 h with rfl | h
  ·exact ⟨List.mem_cons_self,List.mem_cons_of_mem _ List.mem_cons_self⟩
  ·have:=DS h
   exact ⟨List.mem_cons_of_mem _ (List.mem_cons_of_mem _ this.1),List.mem_cons_of_mem _ (List.mem_cons_of_mem _ this.2)⟩
def sZ (l:List Int):Bool:=decide (l.length≠0/\l.length % 2=0)
theorem AL (l:List Int) (hl:l.length<=1000000):kx l=some (if sZ l=true then (prL l,true) else ([],false)):=by
 unfold kx sZ
 have hc:((bif ((l.length:Int) == 0) then some true else some (((l.length:Int).tmod 2) != 0)):Option Bool)=some (!decide (l.length≠0/\l.length % 2=0)):=by
  by_cases c:l.length=0
  ·rw [show ((l.length:Int) == 0)=true by simp [c],cond_true,decide_eq_false (λh=>h.1 c)]
   rfl
  ·rw [show ((l.length:Int) == 0)=false by simp; intro h; exact c (by simp [h]),cond_false,show ((l.length:Int)).tmod 2=((l.length % 2:Nat):Int) from rfl]
   by_cases d:l.length % 2=0
   ·rw [decide_eq_true ⟨c,d⟩,d]; rfl
   ·rw [decide_eq_false (λh=>d h.2),show l.length % 2=1 by omega]; rfl
 rw [hc,aA]
 by_cases c:l.length≠0/\l.length % 2=0
 ·rw [decide_eq_true c,Bool.not_true,cond_false,if_pos rfl]
  have hpl:=zF l
  refine fw (λi:Nat=>((prL l).take i,((2*i:Nat):Int))) (l.length / 2) (prL l) rfl ?_ ?_ rfl
  ·intro i hi
   have h1:2*i < l.length:=by omega
   have h2:2*i+1 < l.length:=by omega
   have hd:=AK i l
   rw [List.drop_eq_getElem_cons (show i < (prL l).length by omega),List.drop_eq_getElem_cons h1,List.drop_eq_getElem_cons h2,prL] at hd
   have hg:=(List.cons.inj hd).1
   dsimp only
   rw [decide_eq_true (by omega),cond_true,dC _ (2*i) h1,aA,w64 (by omega) (by omega),show (((2*i:Nat):Int)+1)=((2*i+1:Nat):Int) by omega,dC _ (2*i+1) h2,aA,bP (by simp; omega),aA,w64 (by omega) (by omega),List.take_succ_eq_append_getElem (show i < (prL l).length by omega),hg]
   congr 3
  ·dsimp only
   rw [decide_eq_false (by omega),cond_false,List.take_of_length_le (by omega)]
 ·rw [decide_eq_false c,Bool.not_false,cond_true,if_neg (by simp)]
end Go.Tw.X

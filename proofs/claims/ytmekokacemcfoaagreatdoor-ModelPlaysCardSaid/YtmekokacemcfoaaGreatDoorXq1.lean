import Derived.Test.YtmekokacemcfoaaGreatDoorXp1
import Derived.Test.YtmekokacemcfoaaGreatDoorFw2
import Derived.Laws.BitsLemmas
import Derived.Laws.Strings
set_option linter.unusedVariables false
set_option linter.unusedSimpArgs false
namespace Go.Tw.X
open Go Go.Tw
def tc (c:aI):aO:=⟨c.rune,c.aL,c.part⟩
def told (r:aE):aQ:=⟨r.cells.map tc,r.wrapped⟩
def BK (r:List aI):Int:=match r with
 | []=>0
 | d::_=>d.part
def uQ (p:Int) (c:aI) (r:List aI):Bool :=
 bif c.part == 1 then (BK r != 2) else bif c.part == 2 then (p != 1) else bif c.part == 3 then !r.isEmpty else false
def rM (p:Int) (c:aI) (r:List aI):aI:=bif uQ p c r then ⟨32,c.aL,0⟩ else c
def gv:Int→List aI→List aI
 | _,[]=>[]
 | p,c::r=>rM p c r::gv (rM p c r).part r
theorem jd: ∀ (l:List aI) (p:Int),(gv p l).length=l.length
 | [],_=>rfl
 | c::r,p=>by simp [gv,jd r]
def kQ (l:List aI):Int:=p6 0 (l.map (·.part))
theorem tQ (l:List aI) (c:aI):kQ (l++[c])=c.part:=by simp [kQ,tP]
theorem rN {α β:Type} (f:α→β) (d:α): ∀ l:List α,p6 (f d) (l.map f)=f (p6 d l)
 | []=>rfl
 | [x]=>rfl
 | _::y::l=>rN f d (y::l)
theorem oV (s:Int):fV s=some ⟨32,s,0⟩:=rfl
theorem As (l r:List aI) (c:aI) (h:(l++c::r).length≤1000000):ka (l++c::r) (l.length:Int)=some (uQ (kQ l) c r):=by
 have hl:(l++c::r).length=l.length+r.length+1:=by simp; omega
 unfold ka
 rw [kW,aA]
 rw [w64 (x:=(l.length:Int)+1) (by omega) (by omega),w64 (x:=(l.length:Int) - 1) (by omega) (by omega),w64 (x:=((l++c::r).length:Int) - 1) (by omega) (by omega),wT,hl]
 unfold uQ
 cases h1:(c.part == 1) with
 | true =>
  simp only [cond_true]
  cases r with
  | nil=>simp [BK]
  | cons d r =>
   have hd:decide ((l.length:Int)+1≥((l.length+(d::r).length+1:Nat):Int))=false:=decide_eq_false (by simp only [List.length_cons]; omega)
   rw [hd]
   simp [BK]
 | false =>
  simp only [cond_false]
  cases h2:(c.part == 2) with
  | true =>
   simp only [cond_true]
   cases hl0:l with
   | nil=>simp [kQ,p6]
   | cons a t =>
    have hne:(((a::t).length:Int) == 0)=false:=by simp; omega
    rw [hne,cond_false,wS (a::t) r ⟨0,0,0⟩ c (by simp)]
    simp only [aA]
    rw [kQ,← rN (fun c:aI=>c.part) ⟨0,0,0⟩]
  | false =>
   simp only [cond_false]
   cases h3:(c.part == 3) with
   | true =>
    simp only [cond_true]
    cases r with
    | nil=>simp
    | cons d r=>simp; omega
   | false=>rfl
theorem mB (l:List aI) (h:l.length≤1000000):eC l=some ⟨gv 0 l,false⟩:=by
 unfold eC
 have key: ∀ (r d:List aI),(d++r).length=l.length→iter (σ:=(List aI)×Int) (ρ:=(List aI)) (fun s=>(bif (decide (s.2 < (l.length:Int))) then (Option.bind ((Option.bind (ka s.1 s.2) fun r1=>(bif r1 then (Option.bind (idx s.1 s.2) fun x=>(Option.bind (fV x.aL) fun r2=>(Option.bind (idx s.1 s.2) fun _=>some (s.1.set s.2.toNat r2)))) else some s.1)):Option (List aI)) fun e=>some (.inl (e,(IntKind.i64.wrap (s.2+1))))) else some (.inr s.1))) (d++r,(d.length:Int))=some (d++gv (kQ d) r):=by
  intro r
  induction r with
  | nil =>
   intro d hd
   simp at hd
   rw [dS (r:=d)]
   ·simp [gv]
   ·simp [hd]
  | cons c r ih =>
   intro d hd
   have hdl:d.length < l.length:=by rw [← hd]; simp
   have hlen:(d++rM (kQ d) c r::r).length=l.length:=by rw [← hd]; simp
   rw [fm (s':=((d++[rM (kQ d) c r])++r,((d++[rM (kQ d) c r]).length:Int)))]
   ·rw [ih (d++[rM (kQ d) c r]) (by simpa using hlen),tQ]
    simp [gv]
   ·have hc:decide ((d.length:Int) < (l.length:Int))=true:=by simp; omega
    simp only [hc,cond_true]
    rw [As d r c (by rw [hd]; exact h),kW]
    simp only [aA,oV]
    rw [w64 (by omega) (by omega)]
    unfold rM
    cases uQ (kQ d) c r with
    | true=>simp
    | false=>simp
 have:=key l [] (by simp)
 simp only [List.nil_append,List.length_nil,Int.ofNat_zero] at this
 rw [this]
 rfl
end Go.Tw.X
set_option linter.unusedVariables false
set_option linter.unusedSimpArgs false
namespace Go.Tw.X
open Go Go.Tw
theorem BL (n:Int):IntKind.u64.wrap n=n % 18446744073709551616:=by simp [IntKind.wrap,IntKind.bits,IntKind.signed]
theorem D4 (n:Int) (h0:0≤n) (h1:n < 2 ^ 63):IntKind.u64.wrap n=n:=by rw [BL]; omega
theorem yi (y:Int) (h0:0≤y) (h1:y < 4294967296):Go.bits .and .u64 y 4294967295=y:=by
 have h:=bits_mask .u64 63 (by decide) D4 32 (by decide) y h0 (by omega)
 have e:((2:Int) ^ 32 - 1)=4294967295:=by decide
 have e2:((2:Int) ^ 32)=4294967296:=by decide
 rw [e,e2] at h
 rw [h]
 omega
theorem BM {x:Int} (h0:0≤x) (h1:x < 18446744073709551616):IntKind.u64.wrap x=x:=by rw [BL]; omega
theorem yj (n:Int) (h0:0≤n) (h1:n≤1000000):mP 1 n=some (0,n):=by
 have e32:(2:Int) ^ (min 32 64)=4294967296:=by decide
 have f1:Int.fdiv 1 4294967296=0:=by decide
 have f2:Int.fdiv n 4294967296=0:=by rw [Int.fdiv_eq_ediv_of_nonneg _ (by decide)]; omega
 have f0:Int.fdiv 0 4294967296=0:=by decide
 have z0:IntKind.u64.wrap 0=0:=by rw [BL]; rfl
 have m0:Go.bits .and .u64 0 4294967295=0:=yi 0 (by omega) (by omega)
 have m1:Go.bits .and .u64 1 4294967295=1:=yi 1 (by omega) (by omega)
 have mn:=yi n h0 (by omega)
 have un:IntKind.u64.wrap n=n:=BM h0 (by omega)
 unfold mP mz
 simp only [e32,f1,f2,m1,mn,Int.zero_mul,Int.mul_zero,Int.one_mul,z0,un,f0,Int.add_zero,Int.zero_add,m0,aA]
theorem At (c:aI) (n:Int) (h0:0≤n) (h1:n≤1000000):eO [c] n=some (List.replicate n.toNat c):=by
 unfold eO
 have hn:decide (n < 0)=false:=decide_eq_false (by omega)
 have u1:IntKind.u64.wrap (([c].length:Nat):Int)=1:=BM (by simp) (by simp)
 rw [hn,cond_false,u1,BM h0 (by omega),yj n h0 h1]
 simp only [aA]
 have g1:decide ((0:Int) > 0)=false:=by decide
 have g2:decide (n > 9223372036854775807)=false:=decide_eq_false (by omega)
 rw [g1,cond_false,aA,g2,cond_false,w64 (by omega) (by omega),Aq h0 (by omega) (by omega),aA]
 obtain ⟨k,rfl⟩: ∃ k:Nat,n=k:=⟨n.toNat,by omega⟩
 simp only [Int.toNat_natCast,List.length_cons,List.length_nil,List.length_replicate]
 have key: ∀ m j,k - j=m→j≤k→(1≤j∨k=0)→iter (σ:=(List aI)×Int) (ρ:=(List aI)) (fun a=>(bif (decide (a.2 < (a.1.length:Int))) then (Option.bind (chk (cX a.2 (a.1.length:Int) a.1.length)) fun _=>(Option.bind (chk (cX 0 a.2 a.1.length)) fun _=>some (.inl ((uO a.1 a.2.toNat),(IntKind.i64.wrap (a.2+((Nat.min a.2.toNat (a.1.length - a.2.toNat):Nat):Int))))))) else some (.inr a.1))) (List.replicate j c++List.replicate (k - j) (aI.mk 0 0 0),(j:Int))=some (List.replicate k c):=by
  intro m
  induction m using Nat.strongRecOn with
  | _ m ih =>
   intro j hm hj h1j
   have hlen:(List.replicate j c++List.replicate (k - j) (aI.mk 0 0 0)).length=k:=by simp; omega
   by_cases hjk:j < k
   ·have hmin:Nat.min j (k - j)=min j (k - j):=rfl
    rw [fm (s':=(List.replicate (j+min j (k - j)) c++List.replicate (k - (j+min j (k - j))) (aI.mk 0 0 0),((j+min j (k - j):Nat):Int)))]
    ·exact ih (k - (j+min j (k - j))) (by omega) _ rfl (by omega) (by omega)
    ·have hc:decide ((j:Int) < ((List.replicate j c++List.replicate (k - j) (aI.mk 0 0 0)).length:Int))=true:=by rw [hlen]; simp; omega
     simp only [hc,cond_true]
     rw [hlen,bV (by omega) (by omega) (by omega),aA,bV (by omega) (by omega) (by omega),aA,Int.toNat_natCast,hmin,w64 (by omega) (by omega)]
     congr 2
     refine Prod.ext ?_ ?_
     ·show uO _ _=_
      unfold uO
      rw [hlen]
      have t1:(List.replicate j c++List.replicate (k - j) (aI.mk 0 0 0)).take j=List.replicate j c:=by rw [List.take_left']; simp
      rw [t1,List.take_replicate,List.drop_append,List.drop_of_length_le (by simp),List.nil_append,List.length_replicate,List.drop_replicate,List.replicate_append_replicate,Nat.min_comm (k - j) j]
      congr 2
      omega
     ·show ((j:Int)+((min j (k - j):Nat):Int))=_
      omega
   ·have hjk':j=k:=by omega
    subst hjk'
    rw [dS (r:=List.replicate j c)]
    simp
 have hs:cpy (List.replicate k (aI.mk 0 0 0)) [c]=List.replicate (min 1 k) c++List.replicate (k - min 1 k) (aI.mk 0 0 0):=by
  unfold cpy
  cases k with
  | zero=>simp
  | succ k=>simp [Nat.min_eq_left]
 have hmin:Nat.min (0+1) k=min 1 k:=rfl
 rw [hs,hmin,key _ (min 1 k) rfl (by omega) (by omega),aA]
theorem pG (n s:Int) (h:n≤1000000):ie n s=some (List.replicate n.toNat ⟨32,s,0⟩):=by
 unfold ie
 rw [oV,aA]
 rw [fg,At _ (max 0 n) (by omega) (by omega),aA]
 have:(max 0 n).toNat=n.toNat:=by omega
 rw [this]
theorem pH (n lo hi:Int):iG n lo hi=some (max lo (min n hi)):=by
 unfold iG
 rw [fg,dY]
theorem wU (l:List aI) (h:l.length≤1000000):ey l=some l:=by
 unfold ey
 rw [bK (by simp; omega),aA]
 rfl
theorem nA (r:aE) (h:r.cells.length≤1000000):eE r=some r.cells:=by
 unfold eE
 rw [wU _ h,aA]
def cP (l:List aI) (at_ n:Int):Int:=if at_ < 0∨at_≥l.length then 0 else max 0 (min n (l.length - at_))
theorem vb (r:aE) (at_ n:Int) (h:r.cells.length≤1000000) (ha: -9223372036854775808≤at_) (hb:at_≤9223372036854775807):gK r at_ n=some (cP r.cells at_ n):=by
 unfold gK cP
 by_cases h1:at_ < 0
 ·rw [if_pos (.inl h1)]
  simp [h1]
 ·by_cases h2:at_≥r.cells.length
  ·rw [if_pos (.inr h2)]
   simp [h1,h2]
  ·rw [if_neg (by omega)]
   have e1:decide (at_ < 0)=false:=decide_eq_false h1
   have e2:decide (at_≥(r.cells.length:Int))=false:=decide_eq_false h2
   rw [e1,cond_false,e2,aA,cond_false,w64 (by omega) (by omega),pH,aA]
end Go.Tw.X
set_option linter.unusedVariables false
set_option linter.unusedSimpArgs false
namespace Go.Tw.X
open Go Go.Tw
def pV (r:Int):List fU→Nat
 | []=>0
 | s::l=>if s.to < r then pV r l+1 else 0
def inS (l:List fU) (r:Int):Bool:=l.any fun s=>decide (s.from_≤r∧r≤s.to)
def rising:List fU→Bool
 | []=>true
 | [s]=>true
 | s::t::l=>decide (s.to < t.from_∧t.from_≤t.to) && rising (t::l)
theorem vN (r:Int): ∀ l:List fU,pV r l≤l.length
 | []=>Nat.le_refl _
 | s::l=>by
  unfold pV
  have:=vN r l
  split <;> simp <;> omega
theorem sD {s:fU} {l:List fU} (h:rising (s::l)=true):rising l=true:=by
 cases l with
 | nil=>rfl
 | cons t l=>simp only [rising,Bool.and_eq_true] at h; exact h.2
theorem ql {s:fU}: ∀ {l:List fU},rising (s::l)=true → ∀ t∈l,s.to < t.from_∧t.from_≤t.to
 | [],_,t,ht=>by cases ht
 | u::l,h,t,ht=>by
  simp only [rising,Bool.and_eq_true,decide_eq_true_eq] at h
  rcases List.mem_cons.1 ht with rfl | ht
  ·exact h.1
  ·have:=ql h.2 t ht
   have:=h.1
   omega
theorem zm (r:Int): ∀ {l:List fU},rising l=true → ∀ (i:Nat) (s:fU),l[i]?=some s→(s.to < r↔i < pV r l)
 | [],_,i,s,h=>by simp at h
 | u::l,hr,i,s,h=>by
  cases i with
  | zero =>
   simp at h
   subst h
   unfold pV
   split <;> simp [*]
  | succ i =>
   simp at h
   have ih:=zm r (sD hr) i s h
   unfold pV
   split
   ·rw [ih]; omega
   ·have:=ql hr s (List.mem_of_getElem? h)
    constructor
    ·intro; omega
    ·intro; omega
theorem zo (r:Int): ∀ {l:List fU},rising l=true→inS l r=(match l[pV r l]? with | some s=>decide (s.from_≤r) | none=>false)
 | [],_=>rfl
 | u::l,hr=>by
  have ih:=zo r (sD hr)
  unfold inS at ih ⊢
  unfold pV
  by_cases hu:u.to < r
  ·rw [if_pos hu,List.any_cons,ih]
   have:decide (u.from_≤r∧r≤u.to)=false:=by simp; omega
   simp [this]
  ·rw [if_neg hu,List.any_cons]
   simp only [List.getElem?_cons_zero]
   by_cases hf:u.from_≤r
   ·have:decide (u.from_≤r∧r≤u.to)=true:=by simp; omega
    rw [this,Bool.true_or]
    simp [hf]
   ·have h1:decide (u.from_≤r∧r≤u.to)=false:=by simp; omega
    have h2:(l.any fun s=>decide (s.from_≤r∧r≤s.to))=false:=by
     rw [List.any_eq_false]
     intro t ht
     have:=ql hr t ht
     simp
     omega
    rw [h1,h2]
    simp [hf]
theorem Fl (l:List fU) (r:Int) (hr:rising l=true) (hl:l.length≤1000000):mJ l r=some (inS l r):=by
 unfold mJ
 have key: ∀ m lo hi,hi - lo=m→lo≤pV r l→pV r l≤hi→hi≤l.length→iter (σ:=Int×Int) (ρ:=Int) (fun a=>(bif (decide (a.1 < a.2)) then (Option.bind (idx l (IntKind.i64.wrap ((IntKind.i64.wrap (a.1+a.2)).tdiv 2))) fun b=>(bif (decide (b.to < r)) then some (.inl ((IntKind.i64.wrap ((IntKind.i64.wrap ((IntKind.i64.wrap (a.1+a.2)).tdiv 2))+1)),a.2)) else some (.inl (a.1,(IntKind.i64.wrap ((IntKind.i64.wrap (a.1+a.2)).tdiv 2)))))) else some (.inr a.1))) ((lo:Int),(hi:Int))=some ((pV r l:Nat):Int):=by
  intro m
  induction m using Nat.strongRecOn with
  | _ m ih =>
   intro lo hi hm h1 h2 h3
   by_cases hlt:lo < hi
   ·have e:(IntKind.i64.wrap ((IntKind.i64.wrap ((lo:Int)+(hi:Int))).tdiv 2))=(((lo+hi) / 2:Nat):Int):=by
     rw [w64 (x:=(lo:Int)+(hi:Int)) (by omega) (by omega)]
     have e1:((lo:Int)+(hi:Int)).tdiv 2=(((lo+hi) / 2:Nat):Int):=by
      rw [Int.tdiv_eq_ediv_of_nonneg (by omega)]
      omega
     rw [e1,w64 (by omega) (by omega)]
    have hmid:(lo+hi) / 2 < l.length:=by omega
    have hc:decide ((lo:Int) < (hi:Int))=true:=by simp; omega
    have hx:idx l (((lo+hi) / 2:Nat):Int)=some l[(lo+hi) / 2]:=by rw [fh]; simp [hmid]
    have hat:=zm r hr ((lo+hi) / 2) l[(lo+hi) / 2] (by simp [hmid])
    by_cases hto:(l[(lo+hi) / 2]).to < r
    ·rw [fm (s':=((((lo+hi) / 2+1:Nat):Int),(hi:Int)))]
     ·have:=hat.1 hto
      exact ih (hi - ((lo+hi) / 2+1)) (by omega) _ _ rfl (by omega) h2 h3
     ·simp only [hc,cond_true,e,hx,aA,hto,decide_true]
      rw [w64 (by omega) (by omega)]
      rfl
    ·rw [fm (s':=((lo:Int),(((lo+hi) / 2:Nat):Int)))]
     ·have: ¬ (lo+hi) / 2 < pV r l:=fun h=>hto (hat.2 h)
      exact ih ((lo+hi) / 2 - lo) (by omega) _ _ rfl h1 (by omega) (by omega)
     ·simp only [hc,cond_true,e,hx,aA,hto,decide_false,cond_false]
   ·have:lo=pV r l:=by omega
    rw [dS (r:=(lo:Int)),this]
    have hc:decide ((lo:Int) < (hi:Int))=false:=by simp; omega
    simp only [hc,cond_false]
 have h0:=key (l.length - 0) 0 l.length rfl (Nat.zero_le _) (vN r l) (Nat.le_refl _)
 have e0:((0:Nat):Int)=0:=rfl
 rw [e0] at h0
 rw [h0,aA,zo r hr]
 have hle:=vN r l
 by_cases hlt:pV r l < l.length
 ·have hc:decide (((pV r l:Nat):Int) < (l.length:Int))=true:=by simp; omega
  rw [hc,cond_true,fh,List.getElem?_eq_getElem hlt]
  rfl
 ·have hc:decide (((pV r l:Nat):Int) < (l.length:Int))=false:=by simp; omega
  rw [hc,cond_false,List.getElem?_eq_none (by omega)]
  rfl
def ofS (r:Int):Int:=if inS cJ r then 0 else if inS cT r then 2 else 1
theorem of_eq (r:Int):mK r=some (ofS r):=by
 unfold mK
 rw [Fl cJ r (by decide) (by decide),Fl cT r (by decide) (by decide)]
 simp only [aA,ofS]
 cases inS cJ r <;> cases inS cT r <;> rfl
theorem nB (r:Int):ofS r=0∨ofS r=1∨ofS r=2:=by
 unfold ofS
 split
 ·exact .inl rfl
 ·split
  ·exact .inr (.inr rfl)
  ·exact .inr (.inl rfl)
end Go.Tw.X
set_option linter.unusedVariables false
set_option linter.unusedSimpArgs false
namespace Go.Tw.X
open Go Go.Tw
theorem D5 (n:Int) (h0:0≤n) (h1:n≤1000000):fp n=some []:=by
 unfold fp
 have hn:decide (n < 0)=false:=decide_eq_false (by omega)
 have z:IntKind.i64.wrap (0 - 0)=0:=by decide
 rw [hn,cond_false,z,w64 (by omega) (by omega),Int.sub_zero]
 by_cases hp:n > 0
 ·have:decide (n > 0)=true:=decide_eq_true hp
  rw [this,cond_true,Ar hp (by omega) (by omega),aA,bV (by omega) (by omega) (by omega),aA]
  rfl
 ·have:decide (n > 0)=false:=decide_eq_false hp
  rw [this,cond_false]
  rfl
def total:List (List aI)→Nat
 | []=>0
 | x::r=>x.length+total r
theorem om (a b:List (List aI)):total (a++b)=total a+total b:=by
 induction a with
 | nil=>simp [total]
 | cons x a ih=>simp only [List.cons_append,total,ih]; omega
theorem tR (a:List (List aI)):a.flatten.length=total a:=by
 induction a with
 | nil=>rfl
 | cons x a ih=>simp only [List.flatten_cons,List.length_append,total,ih]
theorem vd (ls:List (List aI)) (h:total ls≤1000000) (h2:ls.length≤1000000):eg ls=some ls.flatten:=by
 unfold eg
 have k1: ∀ (r d:List (List aI)),d++r=ls→iter (σ:=Int×Int) (ρ:=Int) (fun a=>(bif (decide (a.1 < (ls.length:Int))) then (Option.bind (idx ls a.1) fun c=>(bif (decide ((IntKind.i64.wrap (a.2+(c.length:Int))) < 0)) then none else some (.inl ((IntKind.i64.wrap (a.1+1)),(IntKind.i64.wrap (a.2+(c.length:Int))))))) else some (.inr a.2))) ((d.length:Int),(total d:Int))=some (total ls:Int):=by
  intro r
  induction r with
  | nil =>
   intro d hd
   simp at hd
   subst hd
   rw [dS (r:=(total d:Int))]
   simp
  | cons x r ih =>
   intro d hd
   have hl:ls.length=d.length+r.length+1:=by rw [← hd]; simp; omega
   have ht:total ls=total d+(x.length+total r):=by rw [← hd,om]; rfl
   rw [fm (s':=(((d++[x]).length:Int),(total (d++[x]):Int)))]
   ·exact ih (d++[x]) (by simpa using hd)
   ·have hc:decide ((d.length:Int) < (ls.length:Int))=true:=by simp; omega
    have hx:idx ls (d.length:Int)=some x:=by rw [← hd]; exact kW d r x
    simp only [hc,cond_true,hx,aA]
    rw [w64 (by omega) (by omega),w64 (by omega) (by omega)]
    have hp:decide ((total d:Int)+(x.length:Int) < 0)=false:=decide_eq_false (by omega)
    rw [hp,cond_false,om]
    simp [total]
 have k2: ∀ (r d:List (List aI)),d++r=ls→iter (σ:=Int×(List aI)) (ρ:=(List aI)) (fun b=>(bif (decide (b.1 < (ls.length:Int))) then (Option.bind (idx ls b.1) fun e=>(Option.bind (chk (dC b.2.length e.length 24)) fun _=>some (.inl ((IntKind.i64.wrap (b.1+1)),(b.2++e))))) else some (.inr b.2))) ((d.length:Int),d.flatten)=some ls.flatten:=by
  intro r
  induction r with
  | nil =>
   intro d hd
   simp at hd
   subst hd
   rw [dS (r:=d.flatten)]
   simp
  | cons x r ih =>
   intro d hd
   have hl:ls.length=d.length+r.length+1:=by rw [← hd]; simp; omega
   have ht:total ls=total d+(x.length+total r):=by rw [← hd,om]; rfl
   rw [fm (s':=(((d++[x]).length:Int),(d++[x]).flatten))]
   ·exact ih (d++[x]) (by simpa using hd)
   ·have hc:decide ((d.length:Int) < (ls.length:Int))=true:=by simp; omega
    have hx:idx ls (d.length:Int)=some x:=by rw [← hd]; exact kW d r x
    simp only [hc,cond_true,hx,aA]
    rw [w64 (by omega) (by omega),bK (by rw [tR]; omega),aA]
    simp
 have h0:=k1 ls [] rfl
 have h3:=k2 ls [] rfl
 have e0:((([]:List (List aI)).length:Nat):Int)=0:=rfl
 have e1:((total []:Nat):Int)=0:=rfl
 rw [e0,e1] at h0
 rw [e0,List.flatten_nil] at h3
 rw [h0,aA,D5 _ (by omega) (by omega),aA,h3,aA]
def blk (s:Int):aI:=⟨32,s,0⟩
def yk (l1:List aI) (at_:Int):List aI :=
 match (if at_ > 0 then l1[at_.toNat - 1]? else none) with
  | some c=>if c.part=1 then l1.set (at_.toNat - 1) (blk c.aL) else l1
  | none=>l1
theorem wV (l:List aI) (at_:Int):(yk l at_).length=l.length:=by
 unfold yk
 split
 ·split <;> simp
 ·rfl
def rO (l:List aI) (at_ x s:Int):List aI :=
 if ofS x=0∨at_ < 0∨at_ > l.length - ofS x then l
 else if ofS x=1 then l.set at_.toNat ⟨x,s,0⟩
 else yk ((l.set at_.toNat ⟨x,s,1⟩).set (at_.toNat+1) ⟨x,s,2⟩) at_
theorem sE (l:List aI) (at_ x s:Int):(rO l at_ x s).length=l.length:=by
 unfold rO
 split
 ·rfl
 ·split
  ·simp
  ·simp [wV]
theorem put_eq (r:aE) (at_ x s:Int) (h:r.cells.length≤1000000) (ha: -9223372036854775808≤at_) (hb:at_≤9223372036854775807):kj r at_ x s=some ⟨gv 0 (rO r.cells at_ x s),false⟩:=by
 unfold kj
 rw [nA r h,aA,of_eq,aA]
 have h3:=nB x
 have fin: ∀ l:List aI,l.length=r.cells.length→(Option.bind (eC l) fun a=>some a)=some ⟨gv 0 l,false⟩:=fun l hl=>by rw [mB l (by omega),aA]
 rw [w64 (x:=(r.cells.length:Int) - ofS x) (by omega) (by omega)]
 by_cases hc:ofS x=0∨at_ < 0∨at_ > r.cells.length - ofS x
 ·have hb2:((bif (ofS x == 0) then some true else (bif (decide (at_ < 0)) then some true else some (decide (at_ > ((r.cells.length:Int) - ofS x))))):Option Bool)=some true:=by
   rcases hc with hc | hc | hc
   ·simp [hc]
   ·cases h0:(ofS x == 0) <;> simp [hc]
   ·cases h0:(ofS x == 0) <;> cases h1:decide (at_ < 0) <;> simp [hc]
  rw [hb2,aA,cond_true,aA]
  unfold rO
  rw [if_pos hc]
  exact fin _ rfl
 ·have hb2:((bif (ofS x == 0) then some true else (bif (decide (at_ < 0)) then some true else some (decide (at_ > ((r.cells.length:Int) - ofS x))))):Option Bool)=some false:=by
   have e0:(ofS x == 0)=false:=by simp; omega
   have e1:decide (at_ < 0)=false:=decide_eq_false (by omega)
   rw [e0,cond_false,e1,cond_false]
   simp
   omega
  rw [hb2,aA,cond_false]
  obtain ⟨k,rfl⟩: ∃ k:Nat,at_=k:=⟨at_.toNat,by omega⟩
  unfold rO
  rw [if_neg hc]
  by_cases h1:ofS x=1
  ·have e1:(ofS x == 1)=true:=by simp [h1]
   have hk:k < r.cells.length:=by omega
   rw [e1,cond_true,fh,List.getElem?_eq_getElem hk,aA,aA,if_pos h1,Int.toNat_natCast]
   exact fin _ (by simp)
  ·have e1:(ofS x == 1)=false:=by simp [h1]
   have h2:ofS x=2:=by omega
   have hk:k+1 < r.cells.length:=by omega
   have ew:IntKind.i64.wrap ((k:Int)+1)=((k+1:Nat):Int):=by rw [w64 (by omega) (by omega)]; omega
   rw [e1,cond_false,fh,List.getElem?_eq_getElem (by omega:k < r.cells.length),aA,ew,fh,if_neg h1,Int.toNat_natCast,Int.toNat_natCast,List.getElem?_eq_getElem (by simp; omega),aA]
   generalize hl1:(r.cells.set k ⟨x,s,1⟩).set (k+1) ⟨x,s,2⟩=l1
   have hlen:l1.length=r.cells.length:=by rw [← hl1]; simp
   unfold yk
   rw [show ((k:Int)).toNat=k from Int.toNat_natCast k]
   by_cases h0:(k:Int) > 0
   ·have e2:decide ((k:Int) > 0)=true:=decide_eq_true h0
    have em:IntKind.i64.wrap ((k:Int) - 1)=((k - 1:Nat):Int):=by rw [w64 (by omega) (by omega)]; omega
    have hk1:k - 1 < l1.length:=by omega
    rw [e2,cond_true,em,fh,Int.toNat_natCast,if_pos h0,List.getElem?_eq_getElem hk1,aA,aA]
    by_cases hp:(l1[k - 1]).part=1
    ·have e3:((l1[k - 1]).part == 1)=true:=by simp [hp]
     rw [e3,cond_true]
     simp only [aA,oV,if_pos hp,Int.toNat_natCast]
     exact fin _ (by simpa using hlen)
    ·have e3:((l1[k - 1]).part == 1)=false:=by simp [hp]
     rw [e3,cond_false,aA]
     simp only [if_neg hp]
     exact fin _ hlen
   ·have e2:decide ((k:Int) > 0)=false:=decide_eq_false h0
    rw [e2,cond_false,if_neg h0,aA,cond_false,aA]
    exact fin _ hlen
end Go.Tw.X
set_option linter.unusedVariables false
set_option linter.unusedSimpArgs false
namespace Go.Tw.X
open Go Go.Tw
def je (a b s:Int):Int→List aI→List aI
 | _,[]=>[]
 | i,c::r=>(if a≤i∧i < b then blk s else c)::je a b s (i+1) r
theorem kr (a b s:Int): ∀ (l:List aI) (i:Int),(je a b s i l).length=l.length
 | [],_=>rfl
 | c::r,i=>by simp [je,kr a b s r]
theorem lL (a b s:Int): ∀ (l:List aI) (i:Int) (j:Nat),(je a b s i l)[j]?=(l[j]?).map fun c=>if a≤i+j∧i+j < b then blk s else c
 | [],_,_=>by simp [je]
 | c::r,i,0=>by simp [je]
 | c::r,i,j+1=>by
  have:=lL a b s r (i+1) j
  simp only [je,List.getElem?_cons_succ,this]
  have e:i+1+(j:Int)=i+((j+1:Nat):Int):=by omega
  rw [e]
theorem erase_eq (r:aE) (a b s:Int) (h:r.cells.length≤1000000):hP r a b s=some ⟨gv 0 (je a b s 0 r.cells),false⟩:=by
 unfold hP
 rw [nA r h,aA,pH,aA]
 generalize hA:max 0 (min a (r.cells.length:Int))=A
 generalize hB:max 0 (min b (r.cells.length:Int))=B
 have key: ∀ m (i:Nat) (l:List aI),B.toNat - i=m→l.length=r.cells.length→iter (σ:=Int×(List aI)) (ρ:=(List aI)) (fun d=>(Option.bind (iG b 0 (d.2.length:Int)) fun e=>(bif (decide (d.1 < e)) then (Option.bind (fV s) fun f=>(Option.bind (idx d.2 d.1) fun g=>some (.inl ((IntKind.i64.wrap (d.1+1)),(d.2.set d.1.toNat f))))) else some (.inr d.2)))) ((i:Int),l)=some (je i B s 0 l):=by
  intro m
  induction m with
  | zero =>
   intro i l hm hl
   rw [dS (r:=l)]
   ·congr 1
    apply List.ext_getElem?
    intro j
    rw [lL]
    cases hj:l[j]? with
    | none=>rfl
    | some c =>
     simp
     intro h1 h2
     omega
   ·simp only [pH,aA,hl,hB]
    have:decide ((i:Int) < B)=false:=decide_eq_false (by omega)
    rw [this,cond_false]
  | succ m ih =>
   intro i l hm hl
   have hi:i < l.length:=by omega
   rw [fm (s':=(((i+1:Nat):Int),l.set i (blk s)))]
   ·rw [ih (i+1) (l.set i (blk s)) (by omega) (by simpa using hl)]
    congr 1
    apply List.ext_getElem?
    intro j
    rw [lL,lL,List.getElem?_set]
    by_cases hij:i=j
    ·subst hij
     rw [if_pos rfl,if_pos hi,List.getElem?_eq_getElem hi]
     simp
     omega
    ·rw [if_neg hij]
     cases hj:l[j]? with
     | none=>rfl
     | some c =>
      simp only [Option.map_some,Option.some.injEq]
      by_cases h1:(i:Int)≤0+(j:Int)∧0+(j:Int) < B
      ·rw [if_pos h1,if_pos (by omega)]
      ·rw [if_neg h1,if_neg (by omega)]
   ·simp only [pH,aA,hl,hB]
    have:decide ((i:Int) < B)=true:=decide_eq_true (by omega)
    rw [this,cond_true,fh,List.getElem?_eq_getElem hi,w64 (by omega) (by omega)]
    rfl
 obtain ⟨k,hk⟩: ∃ k:Nat,A=k:=⟨A.toNat,by omega⟩
 rw [hk,key _ k r.cells rfl rfl,aA,mB _ (by rw [kr]; exact h),aA]
 congr 2
 congr 1
 apply List.ext_getElem?
 intro j
 rw [lL,lL]
 cases hj:r.cells[j]? with
 | none=>rfl
 | some c =>
  have hjl:=(List.getElem?_eq_some_iff.1 hj).1
  simp only [Option.map_some,Option.some.injEq]
  by_cases h1:a≤0+(j:Int)∧0+(j:Int) < b
  ·rw [if_pos h1,if_pos (by omega)]
  ·rw [if_neg h1,if_neg (by omega)]
def lQ (l:List aI) (k n:Nat) (s:Int):List aI:=(l.take k++List.replicate n (blk s)++l.drop k).take l.length
def mC (l:List aI) (k n:Nat) (s:Int):List aI:=l.take k++l.drop (k+n)++List.replicate n (blk s)
def m9 (l:List aI) (s:Int):List aI:=l.set (l.length - 1) ⟨32,s,3⟩
theorem insert_eq (r:aE) (at_ n s:Int) (h:r.cells.length≤1000) (ha: -9223372036854775808≤at_) (hb:at_≤9223372036854775807):iO r at_ n s=some ⟨gv 0 (if cP r.cells at_ n=0 then r.cells else lQ r.cells at_.toNat (cP r.cells at_ n).toNat s),false⟩:=by
 unfold iO
 rw [vb r at_ n (by omega) ha hb,aA]
 by_cases h0:cP r.cells at_ n=0
 ·have e:(cP r.cells at_ n == 0)=true:=by simp [h0]
  rw [e,cond_true,nA r (by omega),aA,mB _ (by omega),aA,if_pos h0]
 ·have e:(cP r.cells at_ n == 0)=false:=by simp [h0]
  rw [e,cond_false,if_neg h0]
  have hw:cP r.cells at_ n=max 0 (min n (r.cells.length - at_))∧0≤at_∧at_ < r.cells.length:=by
   unfold cP at h0 ⊢
   by_cases hc:at_ < 0∨at_≥r.cells.length
   ·rw [if_pos hc] at h0; exact absurd rfl h0
   ·rw [if_neg hc]; exact ⟨rfl,by omega,by omega⟩
  obtain ⟨hw,h1,h2⟩:=hw
  generalize cP r.cells at_ n=w at hw h0
  obtain ⟨k,rfl⟩: ∃ k:Nat,at_=k:=⟨at_.toNat,by omega⟩
  obtain ⟨m,rfl⟩: ∃ m:Nat,w=m:=⟨w.toNat,by omega⟩
  have c1:cut r.cells 0 (k:Int)=r.cells.take k:=by simp [cut]
  have c2:cut r.cells (k:Int) (r.cells.length:Int)=r.cells.drop k:=by simp [cut]
  rw [bV (by omega) (by omega) (by omega),aA,bV (by omega) (by omega) (by omega),aA,pG _ _ (by omega),aA,c1,c2,vd _ (by simp [total]; omega) (by simp),aA]
  have hl:([r.cells.take k,List.replicate (m:Int).toNat (blk s),r.cells.drop k].flatten).length=r.cells.length+m:=by simp; omega
  change (Option.bind (chk (cX 0 (r.cells.length:Int) (([r.cells.take k,List.replicate (m:Int).toNat (blk s),r.cells.drop k].flatten).length:Int))) _)=_
  rw [hl,bV (by omega) (by omega) (by omega),aA]
  have c3:cut ([r.cells.take k,List.replicate (m:Int).toNat (blk s),r.cells.drop k].flatten) 0 (r.cells.length:Int)=lQ r.cells (k:Int).toNat (m:Int).toNat s:=by
   unfold cut lQ
   simp
  change (Option.bind (eC (cut ([r.cells.take k,List.replicate (m:Int).toNat (blk s),r.cells.drop k].flatten) 0 (r.cells.length:Int))) _)=_
  rw [c3,mB _ (by unfold lQ; simp; omega),aA]
theorem Au (r:aE) (at_ n s:Int) (h:r.cells.length≤1000) (ha: -9223372036854775808≤at_) (hb:at_≤9223372036854775807):iP r at_ n s=some ⟨gv 0 (if cP r.cells at_ n=0 then r.cells else mC r.cells at_.toNat (cP r.cells at_ n).toNat s),false⟩:=by
 unfold iP
 rw [vb r at_ n (by omega) ha hb,aA]
 by_cases h0:cP r.cells at_ n=0
 ·have e:(cP r.cells at_ n == 0)=true:=by simp [h0]
  rw [e,cond_true,nA r (by omega),aA,mB _ (by omega),aA,if_pos h0]
 ·have e:(cP r.cells at_ n == 0)=false:=by simp [h0]
  rw [e,cond_false,if_neg h0]
  have hw:cP r.cells at_ n=max 0 (min n (r.cells.length - at_))∧0≤at_∧at_ < r.cells.length:=by
   unfold cP at h0 ⊢
   by_cases hc:at_ < 0∨at_≥r.cells.length
   ·rw [if_pos hc] at h0; exact absurd rfl h0
   ·rw [if_neg hc]; exact ⟨rfl,by omega,by omega⟩
  obtain ⟨hw,h1,h2⟩:=hw
  generalize cP r.cells at_ n=w at hw h0
  obtain ⟨k,rfl⟩: ∃ k:Nat,at_=k:=⟨at_.toNat,by omega⟩
  obtain ⟨m,rfl⟩: ∃ m:Nat,w=m:=⟨w.toNat,by omega⟩
  have c1:cut r.cells 0 (k:Int)=r.cells.take k:=by simp [cut]
  have c2:cut r.cells ((k+m:Nat):Int) (r.cells.length:Int)=r.cells.drop (k+m):=by
   unfold cut
   rw [Int.toNat_natCast,Int.toNat_natCast,List.take_length]
  have ek:((k:Int)+(m:Int))=((k+m:Nat):Int):=by omega
  have hkm:k+m≤r.cells.length:=by omega
  rw [w64 (by omega) (by omega),ek,bV (by omega) (by omega) (by omega),aA,bV (by omega) (by omega) (by omega),aA,pG _ _ (by omega),aA,c1,c2,vd _ (by simp [total]; omega) (by simp),aA]
  have c3:[r.cells.take k,r.cells.drop (k+m),List.replicate (m:Int).toNat (blk s)].flatten=mC r.cells (k:Int).toNat (m:Int).toNat s:=by
   unfold mC
   simp
  change (Option.bind (eC [r.cells.take k,r.cells.drop (k+m),List.replicate (m:Int).toNat (blk s)].flatten) _)=_
  rw [c3,mB _ (by unfold mC; simp; omega),aA]
theorem fill_eq (r:aE) (s:Int) (h:r.cells.length≤1000000):jG r s=some ⟨gv 0 (m9 r.cells s),true⟩:=by
 unfold jG
 rw [nA r h,aA]
 by_cases h0:(r.cells.length:Int) > 0
 ·have e:decide ((r.cells.length:Int) > 0)=true:=decide_eq_true h0
  have ew:IntKind.i64.wrap ((r.cells.length:Int) - 1)=((r.cells.length - 1:Nat):Int):=by rw [w64 (by omega) (by omega)]; omega
  rw [e,cond_true,ew,fh,List.getElem?_eq_getElem (by omega),aA,aA,Int.toNat_natCast]
  change (Option.bind (eC (m9 r.cells s)) _)=_
  rw [mB _ (by simp [m9]; exact h),aA]
 ·have e:decide ((r.cells.length:Int) > 0)=false:=decide_eq_false h0
  have hn:r.cells=[]:=List.eq_nil_of_length_eq_zero (by omega)
  rw [e,cond_false,aA,mB _ h,aA]
  simp [m9,hn]
def lR (l:List aI) (w:Nat):List aI:=l.take w++List.replicate (w - l.length) (blk 0)
theorem Av (r:aE) (w:Int) (h:r.cells.length≤1000000):gL r w=some (if (max 0 (min w 1000)).toNat=r.cells.length then r else ⟨gv 0 (lR r.cells (max 0 (min w 1000)).toNat),false⟩):=by
 unfold gL
 rw [pH,aA,nA r h,aA]
 generalize hv:max 0 (min w 1000)=v
 obtain ⟨k,rfl⟩: ∃ k:Nat,v=k:=⟨v.toNat,by omega⟩
 rw [Int.toNat_natCast]
 by_cases h0:k=r.cells.length
 ·have e:((k:Int) == (r.cells.length:Int))=true:=by simp [h0]
  rw [e,cond_true,if_pos h0]
 ·have e:((k:Int) == (r.cells.length:Int))=false:=by simp; omega
  have ec:dF (k:Int) (r.cells.length:Int)=((min k r.cells.length:Nat):Int):=by rw [dY]; omega
  have c1:cut r.cells 0 ((min k r.cells.length:Nat):Int)=r.cells.take k:=by
   simp only [cut,Int.toNat_natCast,Int.toNat_zero,List.drop_zero]
   rw [← List.take_take,List.take_length]
  rw [e,cond_false,if_neg h0,ec,w64 (by omega) (by omega),pG _ _ (by omega),aA,bV (by omega) (by omega) (by omega),aA,c1,bK (by simp; omega),aA]
  have c2:r.cells.take k++List.replicate ((k:Int) - (r.cells.length:Int)).toNat (blk 0)=lR r.cells k:=by
   unfold lR
   congr 2
   omega
  change (Option.bind (eC (r.cells.take k++List.replicate ((k:Int) - (r.cells.length:Int)).toNat (blk 0))) _)=_
  rw [c2,mB _ (by unfold lR; simp; omega),aA]
end Go.Tw.X
set_option linter.unusedVariables false
set_option linter.unusedSimpArgs false
namespace Go.Tw.X
open Go Go.Tw
theorem vO (w s:Int):ig w s=some ⟨List.replicate (max 0 (min w 1000)).toNat (blk s),false⟩:=by
 unfold ig
 rw [pH,aA,pG _ _ (by omega),aA]
 rfl
def l7:Nat→List aI→List aI
 | 0,l=>l
 | n+1,l=>if l.getLast?=some (blk 0) then l7 n l.dropLast else l
def BN (l:List aI):List aI:=l7 l.length l
def isG (c:aI):Bool:=c.part == 0 || c.part == 1
def oo (l:List aI):List aH:=(l.filter isG).map fun c=>⟨c.rune,c.aL⟩
def jn (r:aE):List aH:=oo (if r.wrapped then r.cells else BN r.cells)
theorem oW (l:List aI):(oo l).length≤l.length:=by
 unfold oo
 rw [List.length_map]
 exact List.length_filter_le _ _
theorem mD: ∀ (n:Nat) (l:List aI),(l7 n l).length≤l.length
 | 0,l=>Nat.le_refl _
 | n+1,l=>by
  unfold l7
  split
  ·have:=mD n l.dropLast
   rw [List.length_dropLast] at this
   omega
  ·exact Nat.le_refl _
theorem tS (x y:aI):((x.rune == y.rune) && ((x.aL == y.aL) && ((x.part == y.part) && true)))=decide (x=y):=by
 obtain ⟨a,b,c⟩:=x
 obtain ⟨d,e,f⟩:=y
 by_cases h1:a=d <;> by_cases h2:b=e <;> by_cases h3:c=f <;> simp [h1,h2,h3]
theorem ve (r:aE) (h:r.cells.length≤1000000):fK r=some (jn r):=by
 unfold fK
 have k1: ∀ (n:Nat) (l:List aI),l.length=n→n≤1000000→iter (σ:=(List aI)) (ρ:=(List aI)) (fun a=>(Option.bind ((bif (!r.wrapped) then (bif (decide ((a.length:Int) > 0)) then (Option.bind (idx a (IntKind.i64.wrap ((a.length:Int) - 1))) fun g=>(Option.bind (fV 0) fun i=>some ((g.rune == i.rune) && ((g.aL == i.aL) && ((g.part == i.part) && true))))) else some false) else some false):Option Bool) fun j=>(bif j then (Option.bind (chk (cX 0 (IntKind.i64.wrap ((a.length:Int) - 1)) a.length)) fun _=>some (.inl (cut a 0 (IntKind.i64.wrap ((a.length:Int) - 1))))) else some (.inr a)))) l=some (if r.wrapped then l else l7 n l):=by
  intro n
  induction n with
  | zero =>
   intro l hl hn
   rw [dS (r:=l)]
   ·simp [l7]
   ·cases r.wrapped <;> simp [hl]
  | succ n ih =>
   intro l hl hn
   cases hw:r.wrapped with
   | true =>
    rw [dS (r:=l)]
    ·simp
    ·simp [hw]
   | false =>
    have hp:decide ((l.length:Int) > 0)=true:=decide_eq_true (by omega)
    have ew:IntKind.i64.wrap ((l.length:Int) - 1)=((l.length - 1:Nat):Int):=by rw [w64 (by omega) (by omega)]; omega
    have hlt:l.length - 1 < l.length:=by omega
    have hlast:l.getLast?=some l[l.length - 1]:=by rw [List.getLast?_eq_getElem?,List.getElem?_eq_getElem hlt]
    unfold l7
    rw [hlast]
    by_cases hb:l[l.length - 1]=blk 0
    ·rw [fm (s':=l.dropLast)]
     ·have:=ih l.dropLast (by rw [List.length_dropLast]; omega) (by omega)
      rw [hw] at this
      simp only [hw,Bool.not_false,cond_true] at this ⊢
      rw [this,if_neg (by simp),if_neg (by simp),if_pos (by rw [hb])]
     ·simp only [hw,Bool.not_false,cond_true,hp,ew,fh,List.getElem?_eq_getElem hlt,aA,oV,tS]
      have:decide (l[l.length - 1]=⟨32,0,0⟩)=true:=decide_eq_true hb
      rw [this,cond_true,bV (by omega) (by omega) (by omega),aA]
      congr 2
      simp [cut,List.dropLast_eq_take]
    ·rw [dS (r:=l)]
     ·rw [if_neg (by simp),if_neg (by simpa using hb)]
     ·simp only [hw,Bool.not_false,cond_true,hp,ew,fh,List.getElem?_eq_getElem hlt,aA,oV,tS]
      have:decide (l[l.length - 1]=⟨32,0,0⟩)=false:=decide_eq_false hb
      rw [this,cond_false]
 rw [k1 r.cells.length r.cells rfl h,aA]
 have hE:(if r.wrapped then r.cells else l7 r.cells.length r.cells).length≤1000000:=by
  split
  ·exact h
  ·exact Nat.le_trans (mD _ _) h
 change (Option.bind _ _)=some (oo (if r.wrapped then r.cells else l7 r.cells.length r.cells))
 generalize (if r.wrapped then r.cells else l7 r.cells.length r.cells)=E at hE
 have k2: ∀ (b d:List aI),d++b=E→iter (σ:=Int×(List aH)) (ρ:=(List aH)) (fun e=>(bif (decide (e.1 < (E.length:Int))) then (Option.bind ((Option.bind (idx E e.1) fun f=>(Option.bind ((bif (f.part == 0) then some true else some (f.part == 1)):Option Bool) fun k=>(bif k then (Option.bind (chk (dC e.2.length [(aH.mk f.rune f.aL)].length 16)) fun _=>some (e.2++[(aH.mk f.rune f.aL)])) else some e.2))):Option (List aH)) fun m=>some (.inl ((IntKind.i64.wrap (e.1+1)),m))) else some (.inr e.2))) ((d.length:Int),oo d)=some (oo E):=by
  intro b
  induction b with
  | nil =>
   intro d hd
   simp at hd
   subst hd
   rw [dS (r:=oo d)]
   simp
  | cons c b ih =>
   intro d hd
   have hl:E.length=d.length+b.length+1:=by rw [← hd]; simp; omega
   have hg:oo (d++[c])=bif isG c then oo d++[⟨c.rune,c.aL⟩] else oo d:=by
    unfold oo
    rw [List.filter_append]
    cases hc:isG c <;> simp [hc]
   rw [fm (s':=(((d++[c]).length:Int),oo (d++[c])))]
   ·exact ih (d++[c]) (by simpa using hd)
   ·have hc:decide ((d.length:Int) < (E.length:Int))=true:=by simp; omega
    have hx:idx E (d.length:Int)=some c:=by rw [← hd]; exact kW d b c
    have hi:((bif (c.part == 0) then some true else some (c.part == 1)):Option Bool)=some (isG c):=by unfold isG; cases c.part == 0 <;> rfl
    have hgl:=oW d
    simp only [hc,cond_true,hx,aA,hi]
    rw [hg,w64 (by omega) (by omega)]
    cases hc2:isG c with
    | true=>rw [cond_true,bK (by simp; omega),aA,aA]; simp
    | false=>simp
 have h0:=k2 E [] rfl
 have e0:((([]:List aI).length:Nat):Int)=0:=rfl
 have e1:oo []=[]:=rfl
 rw [e0,e1] at h0
 rw [h0,aA]
end Go.Tw.X
set_option linter.unusedVariables false
set_option linter.unusedSimpArgs false
namespace Go.Tw.X
open Go Go.Tw
theorem lg (l:List aI) (h:l.length≤1000000):dZ (l.map tc)=some ⟨(gv 0 l).map tc,false⟩:=by
 unfold dZ
 have hml:(l.map tc).length=l.length:=List.length_map _
 rw [hml]
 have key: ∀ (r d o:List aI),d++r=l→o.length=d.length→iter (σ:=Int×(List aO)) (ρ:=(List aO)) (fun b=>(bif (decide (b.1 < (l.length:Int))) then (Option.bind (idx (l.map tc) b.1) fun f=>(Option.bind ((bif (f.part == 1) then (bif ((IntKind.i64.wrap (b.1+1)) == (l.length:Int)) then some true else (Option.bind (idx (l.map tc) (IntKind.i64.wrap (b.1+1))) fun g=>some (g.part != 2))) else (bif (f.part == 2) then (bif (b.1 == 0) then some true else (Option.bind (idx b.2 (IntKind.i64.wrap (b.1 - 1))) fun i=>some (i.part != 1))) else (bif (f.part == 3) then some (decide (b.1 < (IntKind.i64.wrap ((l.length:Int) - 1)))) else some false))):Option Bool) fun k=>(Option.bind ((bif k then some (aO.mk 32 f.aL 0) else some f):Option aO) fun j=>(Option.bind (chk (dC b.2.length [j].length 24)) fun _=>some (.inl ((IntKind.i64.wrap (b.1+1)),(b.2++[j]))))))) else some (.inr b.2))) ((d.length:Int),o.map tc)=some ((o++gv (kQ o) r).map tc):=by
  intro r
  induction r with
  | nil =>
   intro d o hd ho
   simp at hd
   subst hd
   rw [dS (r:=o.map tc)]
   ·simp [gv]
   ·simp
  | cons c r ih =>
   intro d o hd ho
   have hl:l.length=d.length+r.length+1:=by rw [← hd]; simp; omega
   rw [fm (s':=(((d++[c]).length:Int),(o++[rM (kQ o) c r]).map tc))]
   ·rw [ih (d++[c]) (o++[rM (kQ o) c r]) (by simpa using hd) (by simp [ho]),tQ]
    simp [gv]
   ·have hc:decide ((d.length:Int) < (l.length:Int))=true:=by simp; omega
    have em:l.map tc=d.map tc++tc c::r.map tc:=by rw [← hd]; simp
    have hdl:(d.map tc).length=d.length:=List.length_map _
    have hx:idx (l.map tc) (d.length:Int)=some (tc c):=by rw [em,← hdl]; exact kW _ _ _
    have hx2:idx (l.map tc) ((d.length:Int)+1)=(r.map tc)[0]?:=by rw [em,← hdl]; exact wT _ _ _
    simp only [hc,cond_true,hx,aA]
    rw [w64 (x:=(d.length:Int)+1) (by omega) (by omega),w64 (x:=(d.length:Int) - 1) (by omega) (by omega),w64 (x:=(l.length:Int) - 1) (by omega) (by omega),hx2]
    have hbad:((bif ((tc c).part == 1) then (bif (((d.length:Int)+1) == (l.length:Int)) then some true else (Option.bind ((r.map tc)[0]?) fun g=>some (g.part != 2))) else (bif ((tc c).part == 2) then (bif ((d.length:Int) == 0) then some true else (Option.bind (idx (o.map tc) ((d.length:Int) - 1)) fun i=>some (i.part != 1))) else (bif ((tc c).part == 3) then some (decide ((d.length:Int) < (l.length:Int) - 1)) else some false))):Option Bool)=some (uQ (kQ o) c r):=by
     have htc:(tc c).part=c.part:=rfl
     rw [htc]
     unfold uQ
     cases h1:(c.part == 1) with
     | true =>
      simp only [cond_true]
      cases r with
      | nil =>
       have:(((d.length:Int)+1) == (l.length:Int))=true:=by simp at hl ⊢; omega
       rw [this]
       rfl
      | cons e r =>
       have:(((d.length:Int)+1) == (l.length:Int))=false:=by simp at hl ⊢; omega
       rw [this]
       rfl
     | false =>
      simp only [cond_false]
      cases h2:(c.part == 2) with
      | true =>
       simp only [cond_true]
       cases ho0:o with
       | nil =>
        have:d.length=0:=by rw [← ho,ho0]; rfl
        have:((d.length:Int) == 0)=true:=by simp [this]
        rw [this]
        rfl
       | cons a t =>
        have hpos:0 < d.length:=by rw [← ho,ho0]; simp
        have hne:((d.length:Int) == 0)=false:=by rw [beq_eq_false_iff_ne]; omega
        have hol:((a::t).map tc).length=d.length:=by rw [List.length_map,← ho0,ho]
        have hi:=wS ((a::t).map tc) [] ⟨0,0,0⟩ ⟨0,0,0⟩ (by rw [hol]; exact hpos)
        have hlt:d.length - 1 < ((a::t).map tc).length:=by rw [hol]; omega
        have e1:((d.length:Int) - 1)=((d.length - 1:Nat):Int):=by omega
        rw [hol,e1,fh,List.getElem?_append_left hlt] at hi
        rw [hne,cond_false,e1,fh,hi,aA]
        have e2:kQ (a::t)=(p6 (⟨0,0,0⟩:aO) ((a::t).map tc)).part:=by
         unfold kQ
         rw [← rN (fun c:aO=>c.part) ⟨0,0,0⟩ ((a::t).map tc),List.map_map]
         rfl
        rw [e2]
      | false =>
       simp only [cond_false]
       cases h3:(c.part == 3) with
       | true =>
        simp only [cond_true]
        cases r with
        | nil =>
         have:decide ((d.length:Int) < (l.length:Int) - 1)=false:=decide_eq_false (by simp at hl; omega)
         rw [this]
         rfl
        | cons e r =>
         have:decide ((d.length:Int) < (l.length:Int) - 1)=true:=decide_eq_true (by simp at hl; omega)
         rw [this]
         rfl
       | false=>rfl
    rw [hbad,aA]
    have hfix:((bif uQ (kQ o) c r then some (aO.mk 32 (tc c).aL 0) else some (tc c)):Option aO)=some (tc (rM (kQ o) c r)):=by
     unfold rM
     cases uQ (kQ o) c r <;> rfl
    rw [hfix,aA,bK (by simp; omega),aA]
    simp
 have h0:=key l [] [] rfl rfl
 have e0:((([]:List aI).length:Nat):Int)=0:=rfl
 rw [e0] at h0
 simp only [List.map_nil,List.nil_append] at h0
 rw [h0,aA]
 rfl
theorem vP (n lo hi:Int) (h:lo≤hi):ja n lo hi=some (max lo (min n hi)):=by
 unfold ja
 by_cases h1:n < lo
 ·rw [decide_eq_true h1,cond_true]; congr 1; omega
 ·rw [decide_eq_false h1,cond_false]
  by_cases h2:n > hi
  ·rw [decide_eq_true h2,cond_true]; congr 1; omega
  ·rw [decide_eq_false h2,cond_false]; congr 1; omega
theorem pI (w s:Int):eR w s=some ⟨(List.replicate (max 0 (min w 1000)).toNat (blk s)).map tc,false⟩:=by
 unfold eR
 generalize hv:max 0 (min w 1000)=v
 obtain ⟨k,rfl⟩: ∃ k:Nat,v=k:=⟨v.toNat,by omega⟩
 have hk:k≤1000:=by omega
 have key: ∀ m j,k - j=m→j≤k→iter (σ:=(List aO)×Int) (ρ:=(List aO)) (fun a=>(Option.bind (ja w 0 1000) fun b=>(bif (decide (a.2 < b)) then (Option.bind (chk (dC a.1.length [(aO.mk 32 s 0)].length 24)) fun _=>some (.inl ((a.1++[(aO.mk 32 s 0)]),(IntKind.i64.wrap (a.2+1))))) else some (.inr a.1)))) (List.replicate j (tc (blk s)),(j:Int))=some (List.replicate k (tc (blk s))):=by
  intro m
  induction m with
  | zero =>
   intro j hm hj
   have:j=k:=by omega
   subst this
   rw [dS (r:=List.replicate j (tc (blk s)))]
   simp only [vP w 0 1000 (by omega),hv,aA]
   simp
  | succ m ih =>
   intro j hm hj
   rw [fm (s':=(List.replicate (j+1) (tc (blk s)),((j+1:Nat):Int)))]
   ·exact ih (j+1) (by omega) (by omega)
   ·simp only [vP w 0 1000 (by omega),hv,aA]
    have:decide ((j:Int) < (k:Int))=true:=decide_eq_true (by omega)
    rw [this,cond_true,bK (by simp; omega),aA,w64 (by omega) (by omega),List.replicate_succ']
    rfl
 have h0:=key (k - 0) 0 rfl (Nat.zero_le _)
 have e0:((0:Nat):Int)=0:=rfl
 rw [e0,List.replicate_zero] at h0
 rw [h0,aA,Int.toNat_natCast,List.map_replicate]
end Go.Tw.X
set_option linter.unusedVariables false
set_option linter.unusedSimpArgs false
namespace Go.Tw.X
open Go Go.Tw
theorem BO (n:Nat) (h:n≤1000000):chk (dC ([]:List aO).length n 24)=some ():=bK (by simp; omega)
theorem gW (l:List aI):(l.map tc).length=l.length:=List.length_map _
theorem F1 (s:Int):tc (blk s)=⟨32,s,0⟩:=rfl
theorem Aw (l:List aI) (w:Bool) (a b s:Int) (h:l.length≤1000000):jt ⟨l.map tc,w⟩ a b s=some ⟨(gv 0 (je a b s 0 l)).map tc,false⟩:=by
 unfold jt
 simp only [gW,List.nil_append]
 rw [BO _ h,aA]
 have key: ∀ (r d o:List aI),d++r=l→o.length=d.length→iter (σ:=Int×(List aO)) (ρ:=(List aO)) (fun e=>(bif (decide (e.1 < (l.length:Int))) then (Option.bind ((Option.bind ((bif (decide (e.1≥a)) then some (decide (e.1 < b)) else some false):Option Bool) fun f=>(bif f then (Option.bind (idx e.2 e.1) fun i=>some (e.2.set e.1.toNat (aO.mk 32 s 0))) else some e.2)):Option (List aO)) fun g=>some (.inl ((IntKind.i64.wrap (e.1+1)),g))) else some (.inr e.2))) ((d.length:Int),(o++r).map tc)=some ((o++je a b s (d.length:Int) r).map tc):=by
  intro r
  induction r with
  | nil =>
   intro d o hd ho
   simp at hd
   subst hd
   rw [dS (r:=(o++[]).map tc)]
   ·simp [je]
   ·simp
  | cons c r ih =>
   intro d o hd ho
   have hl:l.length=d.length+r.length+1:=by rw [← hd]; simp; omega
   have hc:decide ((d.length:Int) < (l.length:Int))=true:=by simp; omega
   generalize hc':(if a≤(d.length:Int)∧(d.length:Int) < b then blk s else c)=c'
   rw [fm (s':=(((d++[c]).length:Int),((o++[c'])++r).map tc))]
   ·rw [ih (d++[c]) (o++[c']) (by simpa using hd) (by simp [ho])]
    simp [je,hc']
   ·simp only [hc,cond_true]
    rw [w64 (by omega) (by omega)]
    have hx:idx ((o++c::r).map tc) (d.length:Int)=some (tc c):=by
     rw [← ho,List.map_append,List.map_cons,← gW o]
     exact kW _ _ _
    by_cases h1:a≤(d.length:Int)
    ·by_cases h2:(d.length:Int) < b
     ·rw [decide_eq_true (show (d.length:Int)≥a from h1),cond_true,decide_eq_true h2,aA,cond_true,hx,aA,aA]
      rw [if_pos ⟨h1,h2⟩] at hc'
      subst hc'
      congr 2
      refine Prod.ext (by simp) ?_
      show ((o++c::r).map tc).set ((d.length:Int).toNat) _=_
      rw [Int.toNat_natCast,← ho,List.map_append,List.map_cons]
      simp [F1]
     ·rw [decide_eq_true (show (d.length:Int)≥a from h1),cond_true,decide_eq_false h2,aA,cond_false,aA]
      rw [if_neg (by omega)] at hc'
      subst hc'
      simp
    ·rw [decide_eq_false (show ¬ (d.length:Int)≥a from h1),cond_false,aA,cond_false,aA]
     rw [if_neg (by omega)] at hc'
     subst hc'
     simp
 have h0:=key l [] [] rfl rfl
 have e0:((([]:List aI).length:Nat):Int)=0:=rfl
 rw [e0] at h0
 simp only [List.nil_append] at h0
 rw [h0,aA,lg _ (by rw [kr]; exact h),aA]
theorem BP (l:List aI) (w:Bool) (s:Int) (h:l.length≤1000000):jb ⟨l.map tc,w⟩ s=some ⟨(gv 0 (m9 l s)).map tc,true⟩:=by
 unfold jb
 simp only [gW,List.nil_append]
 rw [BO _ h,aA]
 by_cases h0:(l.length:Int) > 0
 ·have ew:IntKind.i64.wrap ((l.length:Int) - 1)=((l.length - 1:Nat):Int):=by rw [w64 (by omega) (by omega)]; omega
  rw [decide_eq_true h0,cond_true,ew,fh,List.getElem?_eq_getElem (by rw [gW]; omega),aA,aA,Int.toNat_natCast]
  have e:(l.map tc).set (l.length - 1) ⟨32,s,3⟩=(m9 l s).map tc:=by
   unfold m9
   rw [List.map_set]
   rfl
  rw [e,lg _ (by simp [m9]; exact h),aA]
 ·have hn:l=[]:=List.eq_nil_of_length_eq_zero (by omega)
  rw [decide_eq_false h0,cond_false,aA,lg _ h,aA]
  simp [m9,hn]
theorem G0 (x y:Int):(if x < y then x else y)=min y x:=by split <;> omega
theorem ym (l:List aI) (w:Bool) (at_ n s:Int) (h:l.length≤1000) (ha: -9223372036854775808≤at_) (hb:at_≤9223372036854775807):iS ⟨l.map tc,w⟩ at_ n s=some ⟨(gv 0 (if cP l at_ n=0 then l else lQ l at_.toNat (cP l at_ n).toNat s)).map tc,false⟩:=by
 unfold iS
 simp only [gW,List.nil_append,G0]
 by_cases h0:at_ < 0∨at_≥l.length∨n≤0
 ·have e:((bif (decide (at_ < 0)) then some true else (bif (decide (at_≥(l.length:Int))) then some true else some (decide (n≤0)))):Option Bool)=some true:=by
   rcases h0 with h0 | h0 | h0
   ·simp [h0]
   ·cases h1:decide (at_ < 0) <;> simp [h0]
   ·cases h1:decide (at_ < 0) <;> cases h2:decide (at_≥(l.length:Int)) <;> simp [h0]
  have hw:cP l at_ n=0:=by unfold cP; split <;> omega
  rw [e,aA,cond_true,lg _ (by omega),aA,if_pos hw]
 ·have e:((bif (decide (at_ < 0)) then some true else (bif (decide (at_≥(l.length:Int))) then some true else some (decide (n≤0)))):Option Bool)=some false:=by
   rw [decide_eq_false (by omega: ¬ at_ < 0),decide_eq_false (by omega: ¬ at_≥(l.length:Int)),decide_eq_false (by omega: ¬ n≤0)]
   rfl
  have hw:cP l at_ n=min n (l.length - at_):=by unfold cP; rw [if_neg (by omega)]; omega
  rw [e,aA,cond_false,w64 (x:=(l.length:Int) - at_) (by omega) (by omega),dY,← hw]
  have hb2:0 < cP l at_ n∧at_+cP l at_ n≤l.length:=by omega
  rw [if_neg (by omega)]
  generalize cP l at_ n=v at hb2
  clear hw e
  obtain ⟨k,rfl⟩: ∃ k:Nat,at_=k:=⟨at_.toNat,by omega⟩
  obtain ⟨m,rfl⟩: ∃ m:Nat,v=m:=⟨v.toNat,by omega⟩
  have c1:cut (l.map tc) 0 (k:Int)=(l.take k).map tc:=by simp [cut,List.map_take]
  have c2:cut (l.map tc) (k:Int) ((l.length:Int) - (m:Int))=((l.take (l.length - m)).drop k).map tc:=by
   have e:((l.length:Int) - (m:Int)).toNat=l.length - m:=by omega
   unfold cut
   rw [e,Int.toNat_natCast,List.map_drop,List.map_take]
  rw [bV (by omega) (by omega) (by omega),aA,c1,bK (by simp; omega),aA,pI,aA,w64 (x:=(l.length:Int) - (m:Int)) (by omega) (by omega),bK (by simp; omega),aA,bV (by omega) (by omega) (by omega),aA,c2,bK (by simp; omega),aA]
  have em:(max 0 (min (m:Int) 1000)).toNat=m:=by omega
  rw [em,← List.map_append,← List.map_append,Int.toNat_natCast,Int.toNat_natCast]
  have ei:l.take k++List.replicate m (blk s)++(l.take (l.length - m)).drop k=lQ l k m s:=by
   unfold lQ
   have hkm:k+m≤l.length:=by omega
   have hA:(l.take k++List.replicate m (blk s)).length=k+m:=by rw [List.length_append,List.length_take,List.length_replicate]; omega
   have hT:=List.take_of_length_le (l:=l.take k++List.replicate m (blk s)) (i:=l.length) (by rw [hA]; exact hkm)
   rw [List.take_append,hA,hT,List.drop_take,Nat.sub_sub,Nat.add_comm m k]
  rw [ei,lg _ (by unfold lQ; simp; omega),aA]
theorem yn (l:List aI) (w:Bool) (at_ n s:Int) (h:l.length≤1000) (ha: -9223372036854775808≤at_) (hb:at_≤9223372036854775807):iT ⟨l.map tc,w⟩ at_ n s=some ⟨(gv 0 (if cP l at_ n=0 then l else mC l at_.toNat (cP l at_ n).toNat s)).map tc,false⟩:=by
 unfold iT
 simp only [gW,List.nil_append,G0]
 by_cases h0:at_ < 0∨at_≥l.length∨n≤0
 ·have e:((bif (decide (at_ < 0)) then some true else (bif (decide (at_≥(l.length:Int))) then some true else some (decide (n≤0)))):Option Bool)=some true:=by
   rcases h0 with h0 | h0 | h0
   ·simp [h0]
   ·cases h1:decide (at_ < 0) <;> simp [h0]
   ·cases h1:decide (at_ < 0) <;> cases h2:decide (at_≥(l.length:Int)) <;> simp [h0]
  have hw:cP l at_ n=0:=by unfold cP; split <;> omega
  rw [e,aA,cond_true,lg _ (by omega),aA,if_pos hw]
 ·have e:((bif (decide (at_ < 0)) then some true else (bif (decide (at_≥(l.length:Int))) then some true else some (decide (n≤0)))):Option Bool)=some false:=by
   rw [decide_eq_false (by omega: ¬ at_ < 0),decide_eq_false (by omega: ¬ at_≥(l.length:Int)),decide_eq_false (by omega: ¬ n≤0)]
   rfl
  have hw:cP l at_ n=min n (l.length - at_):=by unfold cP; rw [if_neg (by omega)]; omega
  rw [e,aA,cond_false,w64 (x:=(l.length:Int) - at_) (by omega) (by omega),dY,← hw]
  have hb2:0 < cP l at_ n∧at_+cP l at_ n≤l.length:=by omega
  rw [if_neg (by omega)]
  generalize cP l at_ n=v at hb2
  clear hw e
  obtain ⟨k,rfl⟩: ∃ k:Nat,at_=k:=⟨at_.toNat,by omega⟩
  obtain ⟨m,rfl⟩: ∃ m:Nat,v=m:=⟨v.toNat,by omega⟩
  have c1:cut (l.map tc) 0 (k:Int)=(l.take k).map tc:=by simp [cut,List.map_take]
  have ek:(k:Int)+(m:Int)=((k+m:Nat):Int):=by omega
  have c2:cut (l.map tc) ((k+m:Nat):Int) (l.length:Int)=(l.drop (k+m)).map tc:=by
   unfold cut
   rw [Int.toNat_natCast,Int.toNat_natCast,List.take_of_length_le (by rw [gW]; exact Nat.le_refl _),List.map_drop]
  rw [bV (by omega) (by omega) (by omega),aA,c1,bK (by simp; omega),aA,w64 (x:=(k:Int)+(m:Int)) (by omega) (by omega),ek,bV (by omega) (by omega) (by omega),aA,c2,bK (by simp; omega),aA,pI,aA,bK (by simp; omega),aA]
  have em:(max 0 (min (m:Int) 1000)).toNat=m:=by omega
  rw [em,← List.map_append,← List.map_append,Int.toNat_natCast,Int.toNat_natCast]
  change (Option.bind (dZ ((mC l k m s).map tc)) _)=_
  rw [lg _ (by unfold mC; simp; omega),aA]
theorem yo (l:List aI) (w:Bool) (v:Int) (h:l.length≤1000000):gU ⟨l.map tc,w⟩ v=some (if (max 0 (min v 1000)).toNat=l.length then ⟨l.map tc,w⟩ else ⟨(gv 0 (lR l (max 0 (min v 1000)).toNat)).map tc,false⟩):=by
 unfold gU
 rw [vP _ _ _ (by omega),aA]
 simp only [gW,List.nil_append]
 generalize hv:max 0 (min v 1000)=u
 obtain ⟨k,rfl⟩: ∃ k:Nat,u=k:=⟨u.toNat,by omega⟩
 rw [Int.toNat_natCast]
 by_cases h0:k=l.length
 ·have e:((k:Int) == (l.length:Int))=true:=by simp [h0]
  rw [e,cond_true,if_pos h0]
 ·have e:((k:Int) == (l.length:Int))=false:=by rw [beq_eq_false_iff_ne]; omega
  have ec:dF (k:Int) (l.length:Int)=((min k l.length:Nat):Int):=by rw [dY]; omega
  have c1:cut (l.map tc) 0 ((min k l.length:Nat):Int)=(l.take k).map tc:=by
   simp only [cut,Int.toNat_natCast,Int.toNat_zero,List.drop_zero]
   rw [← List.take_take,← gW l,List.take_length,List.map_take]
  rw [e,cond_false,if_neg h0,ec,bV (by omega) (by omega) (by omega),aA,c1,bK (by simp; omega),aA]
  have e3:(((l.take k).map tc).length:Int)=((min k l.length:Nat):Int):=by simp
  rw [e3,w64 (by omega) (by omega),pI,aA,bK (by simp; omega),aA,← List.map_append]
  have c2:l.take k++List.replicate (max 0 (min ((k:Int) - ((min k l.length:Nat):Int)) 1000)).toNat (blk 0)=lR l k:=by
   unfold lR
   congr 2
   omega
  rw [c2,lg _ (by unfold lR; simp; omega),aA]
end Go.Tw.X
set_option linter.unusedVariables false
set_option linter.unusedSimpArgs false
namespace Go.Tw.X
open Go Go.Tw
def rP (Z:List bH) (r:Int):Bool:=Z.any fun x=>decide (x.e0≤r∧r≤x.e1)
theorem zp (Z:List bH) (r v:Int) (h:Z.length≤1000):iter (σ:=Int) (ρ:=Unit ⊕ Int) (fun a=>(bif (decide (a < (Z.length:Int))) then (Option.bind (idx Z a) fun e=>(Option.bind ((bif (decide (r≥e.e0)) then some (decide (r≤e.e1)) else some false):Option Bool) fun f=>(bif f then (lT (some v)) else some (.inl (IntKind.i64.wrap (a+1)))))) else some (.inr (.inl ())))) 0=some (if rP Z r then .inr v else .inl ()):=by
 have key: ∀ (b d:List bH),d++b=Z→iter (σ:=Int) (ρ:=Unit ⊕ Int) (fun a=>(bif (decide (a < (Z.length:Int))) then (Option.bind (idx Z a) fun e=>(Option.bind ((bif (decide (r≥e.e0)) then some (decide (r≤e.e1)) else some false):Option Bool) fun f=>(bif f then (lT (some v)) else some (.inl (IntKind.i64.wrap (a+1)))))) else some (.inr (.inl ())))) (d.length:Int)=some (if rP b r then .inr v else .inl ()):=by
  intro b
  induction b with
  | nil =>
   intro d hd
   simp at hd
   subst hd
   rw [dS (r:= .inl ())]
   ·rfl
   ·simp
  | cons c b ih =>
   intro d hd
   have hl:Z.length=d.length+b.length+1:=by rw [← hd]; simp; omega
   have hc:decide ((d.length:Int) < (Z.length:Int))=true:=by simp; omega
   have hx:idx Z (d.length:Int)=some c:=by rw [← hd]; exact kW d b c
   have hin:((bif (decide (r≥c.e0)) then some (decide (r≤c.e1)) else some false):Option Bool)=some (decide (c.e0≤r∧r≤c.e1)):=by
    by_cases h1:c.e0≤r <;> by_cases h2:r≤c.e1 <;> simp [h1,h2]
   by_cases hh:c.e0≤r∧r≤c.e1
   ·rw [dS (r:= .inr v)]
    ·have:rP (c::b) r=true:=by unfold rP; rw [List.any_cons,decide_eq_true hh,Bool.true_or]
     rw [this]
     rfl
    ·simp only [hc,cond_true,hx,aA,hin]
     rw [decide_eq_true hh]
     rfl
   ·rw [fm (s':=((d++[c]).length:Int))]
    ·rw [ih (d++[c]) (by simpa using hd)]
     have:rP (c::b) r=rP b r:=by unfold rP; rw [List.any_cons,decide_eq_false hh,Bool.false_or]
     rw [this]
    ·simp only [hc,cond_true,hx,aA,hin]
     rw [decide_eq_false hh,cond_false,w64 (by omega) (by omega)]
     simp
 exact key Z [] rfl
theorem BQ (x:Int) (h0: -2147483648≤x) (h1:x≤2147483647):lI x=some (ofS x):=by
 unfold lI
 rw [zp _ x 0 (by decide),zp _ x 2 (by decide)]
 have e8:((bif (decide (x < 32)) then some true else some (decide (x > 1114111))):Option Bool)=some (decide (x < 32∨x > 1114111)):=by
  by_cases h2:x < 32 <;> by_cases h3:x > 1114111 <;> simp [h2,h3]
 rw [e8,aA]
 have en:inS cJ x=(decide (x < 32∨x > 1114111) || rP [⟨127,159⟩,⟨768,879⟩,⟨6832,6911⟩,⟨7616,7679⟩,⟨8203,8207⟩,⟨8400,8447⟩,⟨55296,57343⟩,⟨65024,65039⟩,⟨65056,65071⟩,⟨65279,65279⟩,⟨917760,917999⟩] x):=by
  rw [Bool.eq_iff_iff]
  simp only [inS,cJ,rP,List.any_cons,List.any_nil,Bool.or_eq_true,decide_eq_true_eq,Bool.false_eq_true,or_false]
  constructor
  ·rintro (h | h | h | h | h | h | h | h | h | h | h | h | h) <;> omega
  ·omega
 have et:inS cT x=rP [⟨4352,4447⟩,⟨11904,12350⟩,⟨12353,13311⟩,⟨13312,19903⟩,⟨19968,40959⟩,⟨40960,42191⟩,⟨44032,55203⟩,⟨63744,64255⟩,⟨65072,65135⟩,⟨65280,65376⟩,⟨65504,65510⟩,⟨127744,128591⟩,⟨129280,129535⟩,⟨131072,262141⟩] x:=by
  simp only [inS,cT,rP,List.any_cons,List.any_nil]
 unfold ofS
 rw [en,et]
 cases decide (x < 32∨x > 1114111) with
 | true=>rfl
 | false =>
  rw [cond_false,Bool.false_or]
  cases rP [⟨127,159⟩,⟨768,879⟩,⟨6832,6911⟩,⟨7616,7679⟩,⟨8203,8207⟩,⟨8400,8447⟩,⟨55296,57343⟩,⟨65024,65039⟩,⟨65056,65071⟩,⟨65279,65279⟩,⟨917760,917999⟩] x with
  | true=>rfl
  | false =>
   cases rP [⟨4352,4447⟩,⟨11904,12350⟩,⟨12353,13311⟩,⟨13312,19903⟩,⟨19968,40959⟩,⟨40960,42191⟩,⟨44032,55203⟩,⟨63744,64255⟩,⟨65072,65135⟩,⟨65280,65376⟩,⟨65504,65510⟩,⟨127744,128591⟩,⟨129280,129535⟩,⟨131072,262141⟩] x <;> rfl
theorem D6 (l:List aI) (w:Bool) (at_ x s:Int) (h:l.length≤1000000) (ha: -9223372036854775808≤at_) (hb:at_≤9223372036854775807) (h0: -2147483648≤x) (h1:x≤2147483647):kO ⟨l.map tc,w⟩ at_ x s=some ⟨(gv 0 (rO l at_ x s)).map tc,false⟩:=by
 unfold kO
 simp only [gW,List.nil_append]
 rw [BQ x h0 h1,aA]
 have h3:=nB x
 have fin: ∀ (q:List aI),q.length=l.length→(Option.bind (dZ (q.map tc)) fun a=>some a)=some ⟨(gv 0 q).map tc,false⟩:=fun q hq=>by rw [lg q (by omega),aA]
 rw [w64 (x:=(l.length:Int) - ofS x) (by omega) (by omega)]
 by_cases hc:ofS x=0∨at_ < 0∨at_ > l.length - ofS x
 ·have hb2:((bif (ofS x == 0) then some true else (bif (decide (at_ < 0)) then some true else some (decide (at_ > ((l.length:Int) - ofS x))))):Option Bool)=some true:=by
   rcases hc with hc | hc | hc
   ·simp [hc]
   ·cases h0:(ofS x == 0) <;> simp [hc]
   ·cases h0:(ofS x == 0) <;> cases h1:decide (at_ < 0) <;> simp [hc]
  rw [hb2,aA,cond_true]
  unfold rO
  rw [if_pos hc]
  exact fin _ rfl
 ·have hb2:((bif (ofS x == 0) then some true else (bif (decide (at_ < 0)) then some true else some (decide (at_ > ((l.length:Int) - ofS x))))):Option Bool)=some false:=by
   have e0:(ofS x == 0)=false:=by simp; omega
   have e1:decide (at_ < 0)=false:=decide_eq_false (by omega)
   rw [e0,cond_false,e1,cond_false]
   simp
   omega
  rw [hb2,aA,cond_false,BO _ h,aA]
  obtain ⟨k,rfl⟩: ∃ k:Nat,at_=k:=⟨at_.toNat,by omega⟩
  unfold rO
  rw [if_neg hc]
  have hk:k < (l.map tc).length:=by rw [gW]; omega
  rw [fh,List.getElem?_eq_getElem hk,aA,Int.toNat_natCast]
  by_cases h1:ofS x=1
  ·have e1:(ofS x == 2)=false:=by simp [h1]
   have em:(l.map tc).set k ⟨x,s,0⟩=(l.set k ⟨x,s,0⟩).map tc:=by rw [List.map_set]; rfl
   rw [e1,cond_false,aA,if_pos h1,em]
   exact fin _ (by simp)
  ·have h2:ofS x=2:=by omega
   have e1:(ofS x == 2)=true:=by simp [h2]
   have hk2:k+1 < l.length:=by omega
   have ew:IntKind.i64.wrap ((k:Int)+1)=((k+1:Nat):Int):=by rw [w64 (by omega) (by omega)]; omega
   rw [e1,cond_true,ew,fh,List.getElem?_eq_getElem (by simpa using hk),aA,fh,List.getElem?_eq_getElem (by simp; omega),aA,if_neg h1,Int.toNat_natCast]
   have em:(((l.map tc).set k ⟨x,s,0⟩).set k ⟨x,s,1⟩).set (k+1) ⟨x,s,2⟩=((l.set k ⟨x,s,1⟩).set (k+1) ⟨x,s,2⟩).map tc:=by
    rw [List.set_set,List.map_set,List.map_set]
    rfl
   rw [em]
   generalize hl1:(l.set k ⟨x,s,1⟩).set (k+1) ⟨x,s,2⟩=l1
   have hlen:l1.length=l.length:=by rw [← hl1]; simp
   unfold yk
   rw [show ((k:Int)).toNat=k from Int.toNat_natCast k]
   by_cases h0:(k:Int) > 0
   ·have em1:IntKind.i64.wrap ((k:Int) - 1)=((k - 1:Nat):Int):=by rw [w64 (by omega) (by omega)]; omega
    have hk1:k - 1 < l1.length:=by omega
    have hg:idx (l1.map tc) ((k - 1:Nat):Int)=some (tc l1[k - 1]):=by rw [fh,List.getElem?_map,List.getElem?_eq_getElem hk1]; rfl
    rw [decide_eq_true h0,cond_true,em1,hg,if_pos h0,List.getElem?_eq_getElem hk1]
    simp only [aA]
    by_cases hp:(l1[k - 1]).part=1
    ·have e3:((tc l1[k - 1]).part == 1)=true:=by simp [tc,hp]
     have es:(l1.map tc).set (k - 1) ⟨32,(tc l1[k - 1]).aL,0⟩=(l1.set (k - 1) (blk (l1[k - 1]).aL)).map tc:=by rw [List.map_set]; rfl
     rw [e3,cond_true,if_pos hp]
     simp only [aA,Int.toNat_natCast,es]
     exact fin _ (by simpa using hlen)
    ·have e3:((tc l1[k - 1]).part == 1)=false:=by simp [tc,hp]
     rw [e3,cond_false,if_neg hp]
     simp only [aA]
     exact fin _ hlen
   ·rw [decide_eq_false h0,cond_false,if_neg h0]
    simp only [aA]
    rw [cond_false,aA]
    exact fin _ hlen
end Go.Tw.X
set_option linter.unusedVariables false
set_option linter.unusedSimpArgs false
namespace Go.Tw.X
open Go Go.Tw
def rok (x:Int):Prop:= -2147483648≤x∧x≤2147483647
def okR (l:List aI):Prop:= ∀ c∈l,rok c.rune
theorem s7 (s:Int):rok (blk s).rune:=by unfold rok blk; simp
theorem nC: ∀ (l:List aI) (p:Int),okR l→okR (gv p l)
 | [],_,_=>fun c hc=>by cases hc
 | c::r,p,h=>by
  intro d hd
  simp only [gv,List.mem_cons] at hd
  rcases hd with rfl | hd
  ·unfold rM
   cases uQ p c r with
   | true=>exact s7 c.aL
   | false=>exact h c (by simp)
  ·exact nC r _ (fun e he=>h e (by simp [he])) d hd
theorem qL {l:List aI} (h:okR l) (i:Nat) {c:aI} (hc:rok c.rune):okR (l.set i c):=by
 intro d hd
 rcases List.mem_or_eq_of_mem_set hd with hd | rfl
 ·exact h d hd
 ·exact hc
theorem D7 {l:List aI} (h:okR l) (at_ s:Int) {x:Int} (hx:rok x):okR (rO l at_ x s):=by
 unfold rO
 split
 ·exact h
 ·split
  ·exact qL h _ hx
  ·unfold yk
   have h1:=qL (qL h at_.toNat (c:=⟨x,s,1⟩) hx) (at_.toNat+1) (c:=⟨x,s,2⟩) hx
   split
   ·split
    ·exact qL h1 _ (s7 _)
    ·exact h1
   ·exact h1
theorem s8 (n:Nat) (s:Int):okR (List.replicate n (blk s)):=fun c hc=>by rw [List.eq_of_mem_replicate hc]; exact s7 s
theorem qM {a b:List aI} (ha:okR a) (hb:okR b):okR (a++b):=fun c hc=>(List.mem_append.1 hc).elim (ha c) (hb c)
theorem qN {a:List aI} (ha:okR a) (n:Nat):okR (a.take n):=fun c hc=>ha c (List.mem_of_mem_take hc)
theorem wW {a:List aI} (ha:okR a) (n:Nat):okR (a.drop n):=fun c hc=>ha c (List.mem_of_mem_drop hc)
theorem rQ (a b s:Int): ∀ {l:List aI} (i:Int),okR l→okR (je a b s i l)
 | [],_,_=>fun c hc=>by cases hc
 | c::r,i,h=>by
  intro d hd
  simp only [je,List.mem_cons] at hd
  rcases hd with rfl | hd
  ·split
   ·exact s7 s
   ·exact h c (by simp)
  ·exact rQ a b s (i+1) (fun e he=>h e (by simp [he])) d hd
theorem w32 {x:Int} (h:rok x):IntKind.i64.wrap x=x:=by obtain ⟨h1,h2⟩:=h; exact w64 (by omega) (by omega)
theorem BR (r:aE) (h:r.cells.length≤1000000) (hr:okR r.cells):jH r (told r)=some true:=by
 unfold jH told
 simp only [gW]
 have e6:((bif ((r.cells.length:Int) != (r.cells.length:Int)) then some true else some (!(r.wrapped == r.wrapped))):Option Bool)=some false:=by simp
 rw [e6,aA,cond_false]
 have key: ∀ (b d:List aI),d++b=r.cells→iter (σ:=Int) (ρ:=Unit ⊕ Bool) (fun a=>(bif (decide (a < (r.cells.length:Int))) then (Option.bind (idx r.cells a) fun e=>(Option.bind ((Option.bind (idx (r.cells.map tc) a) fun f=>(bif ((IntKind.i64.wrap e.rune) != f.rune) then some true else (Option.bind (idx (r.cells.map tc) a) fun g=>(bif (e.aL != g.aL) then some true else (Option.bind (idx (r.cells.map tc) a) fun i=>some (e.part != i.part)))))):Option Bool) fun j=>(bif j then (lT (some false)) else some (.inl (IntKind.i64.wrap (a+1)))))) else some (.inr (.inl ())))) (d.length:Int)=some (.inl ()):=by
  intro b
  induction b with
  | nil =>
   intro d hd
   simp at hd
   subst hd
   rw [dS (r:= .inl ())]
   simp
  | cons c b ih =>
   intro d hd
   have hl:r.cells.length=d.length+b.length+1:=by rw [← hd]; simp; omega
   have hc:decide ((d.length:Int) < (r.cells.length:Int))=true:=by simp; omega
   have hx:idx r.cells (d.length:Int)=some c:=by rw [← hd]; exact kW d b c
   have hx2:idx (r.cells.map tc) (d.length:Int)=some (tc c):=by
    rw [← hd,List.map_append,List.map_cons,← gW d]
    exact kW _ _ _
   have hcr:rok c.rune:=hr c (by rw [← hd]; simp)
   rw [fm (s':=((d++[c]).length:Int))]
   ·exact ih (d++[c]) (by simpa using hd)
   ·simp only [hc,cond_true,hx,hx2,aA,w32 hcr,tc,bne_self_eq_false,cond_false]
    rw [w64 (by omega) (by omega)]
    simp
 have h0:=key r.cells [] rfl
 have e0:((([]:List aI).length:Nat):Int)=0:=rfl
 rw [e0] at h0
 rw [h0,aA]
def ins (l:List aI) (at_ n s:Int):List aI:=if cP l at_ n=0 then l else lQ l at_.toNat (cP l at_ n).toNat s
def del (l:List aI) (at_ n s:Int):List aI:=if cP l at_ n=0 then l else mC l at_.toNat (cP l at_ n).toNat s
theorem tT (l:List aI) (at_ n:Int):cP l at_ n=0∨(0 < cP l at_ n∧0≤at_∧at_+cP l at_ n≤l.length):=by
 unfold cP
 split
 ·exact .inl rfl
 ·omega
end Go.Tw.X
set_option linter.unusedVariables false
set_option linter.unusedSimpArgs false
namespace Go.Tw.X
open Go Go.Tw
theorem vQ {σ ρ:Type} {f:σ→Option (σ ⊕ ρ)} (S:Nat→σ) (n:Nat) (r:ρ) (hs: ∀ i,i < n→f (S i)=some (.inl (S (i+1)))) (he:f (S n)=some (.inr r)):iter f (S 0)=some r:=by
 have key: ∀ i,i≤n→iter f (S 0)=iter f (S i):=by
  intro i
  induction i with
  | zero=>intro _; rfl
  | succ i ih =>
   intro hi
   rw [ih (by omega),fm (hs i (by omega))]
 rw [key n (Nat.le_refl n),dS he]
theorem eH {σ ρ β:Type} {f:σ→Option (σ ⊕ ρ)} {s:σ} {g:ρ→Option β} {out:Option β} (S:Nat→σ) (n:Nat) (r:ρ) (h0:s=S 0) (hs: ∀ i,i < n→f (S i)=some (.inl (S (i+1)))) (he:f (S n)=some (.inr r)) (hg:g r=out):Option.bind (iter f s) g=out:=by
 rw [h0,vQ S n r hs he]
 exact hg
theorem tU {σ ρ:Type} {f:σ→Option (σ ⊕ ρ)} (Inv:σ→Prop) (m:σ→Nat) (oQ:ρ→Prop)
  (hs: ∀ s,Inv s→(∃ s',f s=some (.inl s')∧Inv s'∧m s' < m s)∨(∃ r,f s=some (.inr r)∧oQ r)): ∀ s,Inv s → ∃ r,iter f s=some r∧oQ r:=by
 have key: ∀ (n:Nat) s,m s≤n→Inv s → ∃ r,iter f s=some r∧oQ r:=by
  intro n
  induction n with
  | zero =>
   intro s hm hi
   rcases hs s hi with ⟨s',hf,hi',hlt⟩ | ⟨r,hf,hp⟩
   ·omega
   ·exact ⟨r,dS hf,hp⟩
  | succ n ih =>
   intro s hm hi
   rcases hs s hi with ⟨s',hf,hi',hlt⟩ | ⟨r,hf,hp⟩
   ·rw [fm hf]
    exact ih s' (by omega) hi'
   ·exact ⟨r,dS hf,hp⟩
 intro s hi
 exact key (m s) s (Nat.le_refl _) hi
theorem nD {σ ρ β:Type} {f:σ→Option (σ ⊕ ρ)} {s:σ} {g:ρ→Option β} {out:Option β} (Inv:σ→Prop) (m:σ→Nat) (oQ:ρ→Prop) (h0:Inv s)
  (hs: ∀ s,Inv s→(∃ s',f s=some (.inl s')∧Inv s'∧m s' < m s)∨(∃ r,f s=some (.inr r)∧oQ r)) (hg: ∀ r,oQ r→g r=out):Option.bind (iter f s) g=out:=by
 obtain ⟨r,h1,h2⟩:=tU Inv m oQ hs s h0
 rw [h1]
 exact hg r h2
theorem BS {α:Type} (l:List α) {i:Int} (h0:0≤i) (h1:i < l.length): ∃ a,idx l i=some a∧a∈l:=by
 obtain ⟨n,rfl⟩:=Int.eq_ofNat_of_zero_le h0
 rw [fh]
 have hn:n < l.length:=by omega
 rw [List.getElem?_eq_getElem hn]
 exact ⟨_,rfl,List.getElem_mem hn⟩
theorem uR (p q:Prop) [Decidable p] [Decidable q]:((bif decide p then some (decide q) else some false):Option Bool)=some (decide (p∧q)):=by
 by_cases a1:p <;> by_cases a2:q <;> simp [a1,a2]
theorem or2 (p q:Prop) [Decidable p] [Decidable q]:((bif decide p then some true else some (decide q)):Option Bool)=some (decide (p∨q)):=by
 by_cases a1:p <;> by_cases a2:q <;> simp [a1,a2]
theorem cO {α:Type} (l:List α) (n:Nat) (h:n < l.length):idx l (n:Int)=some l[n]:=by rw [fh,List.getElem?_eq_getElem h]
theorem D8 {α:Type} (l r:List α) (x y:α):(l++x::r).set l.length y=l++y::r:=by simp
theorem zq {α:Type} (A B C:List α) (hi:Int) (h:hi=((A.length+B.length:Nat):Int)):cut (A++B++C) (A.length:Int) hi=B:=by
 subst h
 simp only [cut,Int.toNat_natCast]
 rw [List.take_left' (by simp),List.drop_left]
theorem na {α:Type} (l:List α) (a b:Nat):cut l (a:Int) (b:Int)=(l.take b).drop a:=by simp [cut]
theorem nE {α:Type} (l:List α) (b:Nat):cut l 0 (b:Int)=l.take b:=by simp [cut]
def szN (n:Int):Nat:=(max 1 (min n 1000)).toNat
theorem vR (n:Int):imax 1 (dF n 1000)=(szN n:Int):=by rw [fg,dY]; unfold szN; omega
theorem lS (n:Int):1≤szN n:=by unfold szN; omega
theorem jz (n:Int):szN n≤1000:=by unfold szN; omega
theorem F2 (n:Nat) (h0:1≤n) (h1:n≤1000):szN n=n:=by unfold szN; omega
def fP (W:Nat) (s:Int):aE:=⟨List.replicate W (blk s),false⟩
def nF (g:aX):cH:=⟨g.w,g.l.map told⟩
def gok (W:Nat) (r:aE):Prop:=r.cells.length=W∧okR r.cells
structure GI (W:Nat) (l:List aE):Prop where
 w1:1≤W
 w2:W≤1000
 l1:1≤l.length
 l2:l.length≤1000
 rs: ∀ r∈l,gok W r
theorem oX (n lo hi:Int):fW n lo hi=some (max lo (min n hi)):=by
 unfold fW
 rw [fg,dY]
theorem oY (n:Int):gH n=some (szN n:Int):=by
 unfold gH fW
 rw [vR]
 rfl
theorem nG (n:Int):iA n=some (szN n:Int):=by
 unfold iA
 rw [vR]
theorem vS (W:Nat) (s:Int) (h:W≤1000):ig W s=some (fP W s):=by
 rw [vO]
 have:(max 0 (min (W:Int) 1000)).toNat=W:=by omega
 rw [this]
 rfl
theorem s9 (W:Nat) (s:Int) (h:W≤1000):eR W s=some (told (fP W s)):=by
 rw [pI]
 have:(max 0 (min (W:Int) 1000)).toNat=W:=by omega
 rw [this]
 rfl
theorem pJ (W:Nat) (s:Int):gok W (fP W s):=⟨by simp [fP],s8 W s⟩
def sR (w h:Int):aX:=⟨(szN w:Int),List.replicate (szN h) (fP (szN w) 0)⟩
theorem F3 (w h:Int):GI (szN w) (sR w h).l:=by
 refine ⟨lS w,jz w,?_,?_,?_⟩
 ·simpa [sR] using lS h
 ·simpa [sR] using jz h
 ·intro r hr
  rw [List.eq_of_mem_replicate hr]
  exact pJ _ _
theorem F4 (w h:Int):mQ w h=some (sR w h):=by
 unfold mQ
 rw [oY,aA,oY,aA]
 have hw:=jz w
 have hh:=jz h
 refine eH (fun i=>((⟨(szN w:Int),List.replicate i (fP (szN w) 0)⟩:aX),(i:Int))) (szN h) _ rfl ?_ ?_ rfl
 ·intro i hi
  try dsimp only
  rw [decide_eq_true (by omega),cond_true,vS _ _ hw,aA,bK (by simp; omega),aA,w64 (by omega) (by omega),← List.replicate_succ']
  rfl
 ·try dsimp only
  rw [decide_eq_false (by omega),cond_false]
  rfl
theorem D9 (w h:Int):lX w h=some (nF (sR w h)):=by
 unfold lX
 rw [nG,aA]
 have hw:=jz w
 have hh:=jz h
 refine eH (fun i=>((⟨(szN w:Int),List.replicate i (told (fP (szN w) 0))⟩:cH),(i:Int))) (szN h) (⟨(szN w:Int),List.replicate (szN h) (told (fP (szN w) 0))⟩:cH) rfl ?_ ?_ ?_
 ·intro i hi
  try dsimp only
  rw [nG,aA,decide_eq_true (by omega),cond_true,s9 _ _ hw,aA,bK (by simp; omega),aA,w64 (by omega) (by omega),← List.replicate_succ']
  rfl
 ·try dsimp only
  rw [nG,aA,decide_eq_false (by omega),cond_false]
 ·simp [nF,sR]
theorem BT (r:aE) (h:r.cells.length≤1000000):lH r=some r:=by
 unfold lH
 rw [wU _ h,aA]
def BU:aE:=⟨[],false⟩
def iK (l:List aE) (y:Int):aE:=if 0≤y∧y < l.length then l[y.toNat]?.getD BU else BU
theorem vT {l:List aE} {n:Nat} (h:n < l.length):iK l n=l[n]:=by
 unfold iK
 rw [if_pos (by omega),Int.toNat_natCast,List.getElem?_eq_getElem h]
 rfl
theorem vU (w:Int) (l:List aE) (y:Int) (h: ∀ r∈l,r.cells.length≤1000000):dI ⟨w,l⟩ y=some (iK l y):=by
 unfold dI iK
 rw [or2,aA]
 by_cases hy:0≤y∧y < l.length
 ·rw [decide_eq_false (by (try dsimp only); omega),cond_false,if_pos hy]
  obtain ⟨n,rfl⟩:=Int.eq_ofNat_of_zero_le hy.1
  have hn:n < l.length:=by omega
  simp only [Int.toNat_natCast]
  rw [cO l n hn,aA,BT _ (h _ (List.getElem_mem hn)),aA,List.getElem?_eq_getElem hn]
  rfl
 ·rw [decide_eq_true (by (try dsimp only); omega),cond_true,if_neg hy]
  rfl
def rsz (W:Nat) (r:aE):aE:=if W=r.cells.length then r else ⟨gv 0 (lR r.cells W),false⟩
theorem F5 (W:Nat) (hW:W≤1000) (r:aE) (h:r.cells.length≤1000000):gL r W=some (rsz W r):=by
 rw [Av _ _ h]
 have:(max 0 (min (W:Int) 1000)).toNat=W:=by omega
 rw [this]
 rfl
theorem zr (W:Nat) (hW:W≤1000) (r:aE) (h:r.cells.length≤1000000):gU (told r) W=some (told (rsz W r)):=by
 unfold told
 rw [yo _ _ _ h]
 have:(max 0 (min (W:Int) 1000)).toNat=W:=by omega
 rw [this]
 unfold rsz
 split <;> rfl
theorem F6 {W:Nat} {r:aE} (h:r.cells.length=W):rsz W r=r:=by
 unfold rsz
 rw [if_pos h.symm]
theorem zt (W:Nat) (r:aE) (h:okR r.cells):gok W (rsz W r):=by
 unfold rsz
 split
 ·rename_i e
  exact ⟨e.symm,h⟩
 ·refine ⟨?_,nC _ _ (qM (qN h _) (s8 _ _))⟩
  simp only [jd,lR,List.length_append,List.length_take,List.length_replicate]
  omega
def inG (l:List aE) (y:Int):Bool:=decide (0≤y∧y < l.length)
def pW (W:Nat) (l:List aE) (y:Int) (r:aE):List aE:=if 0≤y∧y < l.length then l.set y.toNat (rsz W r) else l
theorem jP (W:Nat) (l:List aE) (y:Int) (r:aE):(pW W l y r).length=l.length:=by
 unfold pW
 split <;> simp
theorem Ax {W:Nat} {l:List aE} (h: ∀ r∈l,gok W r) (y:Int) (r:aE) (hr:okR r.cells): ∀ q∈pW W l y r,gok W q:=by
 unfold pW
 split
 ·intro q hq
  rcases List.mem_or_eq_of_mem_set hq with hq | hq
  ·exact h q hq
  ·rw [hq]
   exact zt W r hr
 ·exact h
theorem BV (W:Nat) (hW:W≤1000) (l:List aE) (y:Int) (r:aE) (h:r.cells.length≤1000000):ef ⟨W,l⟩ y r=some (inG l y,⟨W,pW W l y r⟩):=by
 unfold ef pW inG
 rw [or2,aA]
 by_cases hy:0≤y∧y < l.length
 ·rw [decide_eq_false (by (try dsimp only); omega),cond_false,if_pos hy,decide_eq_true hy]
  obtain ⟨n,rfl⟩:=Int.eq_ofNat_of_zero_le hy.1
  have hn:n < l.length:=by omega
  try dsimp only
  rw [F5 W hW r h,aA,cO l n hn,aA]
 ·rw [decide_eq_true (by (try dsimp only); omega),cond_true,if_neg hy,decide_eq_false hy]
theorem Ea (W:Nat) (hW:W≤1000) (l:List aE) (y:Int) (r:aE) (h:r.cells.length≤1000000) (hl:l.length≤1000000):jJ ⟨W,l.map told⟩ y (told r)=some (⟨W,(pW W l y r).map told⟩,inG l y):=by
 unfold jJ pW inG
 rw [or2,aA]
 simp only [List.length_map]
 by_cases hy:0≤y∧y < l.length
 ·rw [decide_eq_false (by (try dsimp only); omega),cond_false,if_pos hy,decide_eq_true hy]
  obtain ⟨n,rfl⟩:=Int.eq_ofNat_of_zero_le hy.1
  have hn:n < l.length:=by omega
  rw [bK (by simp; omega),aA,zr W hW r h,aA,List.nil_append,cO (l.map told) n (by simpa using hn),aA]
  simp only [Int.toNat_natCast,List.map_set]
 ·rw [decide_eq_true (by (try dsimp only); omega),cond_true,if_neg hy,decide_eq_false hy]
theorem pK (l:List aE) (h:l.length≤1000000):dJ l=some l:=by
 unfold dJ
 rw [bK (by simp; omega),aA]
 rfl
theorem Ec {σ:Type} (Y:σ→aE→Option (σ×Bool)) (S:Nat→σ) (l:List aE) (hl:l.length≤1000000) (h: ∀ r∈l,r.cells.length≤1000000) (hY: ∀ i (hi:i < l.length),Y (S i) l[i]=some (S (i+1),true)):gN Y (S 0) l=some (S l.length):=by
 unfold gN
 refine eH (fun i=>((i:Int),S i)) l.length (.inl (S l.length)) rfl ?_ ?_ rfl
 ·intro i hi
  try dsimp only
  rw [decide_eq_true (by omega),cond_true,cO l i hi,aA,BT _ (h _ (List.getElem_mem hi)),aA,hY i hi,aA]
  try dsimp only
  rw [Bool.not_true,cond_false,w64 (by omega) (by omega)]
  rfl
 ·try dsimp only
  rw [decide_eq_false (by omega),cond_false]
theorem tV (l:List aE) (hl:l.length≤1000000) (h: ∀ r∈l,r.cells.length≤1000000):gO l=some (l,l):=by
 unfold gO kY
 rw [aA]
 have key:=Ec (fun (s40:List aE) (x9:aE)=>(Option.bind (chk (dC s40.length [x9].length 32)) fun _=>some ((s40++[x9]),true))) (fun i=>l.take i) l hl h (by
  intro i hi
  try dsimp only
  rw [bK (by simp; omega),aA,← List.take_succ_eq_append_getElem hi])
 rw [List.take_length] at key
 change gN _ ([]:List aE) l=some l at key
 rw [key]
 rfl
theorem qK (w:Int) (l:List aE) (hl:l.length≤1000000) (h: ∀ r∈l,r.cells.length≤1000000):gP ⟨w,l⟩=some (l,⟨w,l⟩):=by
 unfold gP
 try dsimp only
 rw [tV l hl h,aA,kX rfl,aA]
theorem tW (w:Int) (l:List aE) (hl:l.length≤1000000) (h: ∀ r∈l,r.cells.length≤1000000):gk ⟨w,l⟩=some (⟨w,l⟩,⟨w,l⟩):=by
 unfold gk
 try dsimp only
 rw [tV l hl h,aA,kX rfl,aA]
end Go.Tw.X
set_option linter.unusedVariables false
set_option linter.unusedSimpArgs false
namespace Go.Tw.X
open Go Go.Tw
theorem lh {α:Type} {l r:List α} {x:α} {k:Int} (h:k=l.length):idx (l++x::r) k=some x:=by rw [h,kW]
theorem mT {α:Type} {l r:List α} {x y:α} {k:Nat} (h:k=l.length):(l++x::r).set k y=l++y::r:=by rw [h,D8]
theorem mw {α:Type} (l:List α) (a b:Nat) (h:a≤b) (h2:b≤l.length):(cut l (a:Int) (b:Int)).length=b - a:=by
 rw [na,List.length_drop,List.length_take]
 omega
def loS (l:List aE) (t:Int):Nat:=(max 0 (min t ((l.length:Int) - 1))).toNat
theorem qm (l:List aE) (t:Int) (h:1≤l.length):loS l t < l.length:=by unfold loS; omega
theorem mj (l:List aE) (t:Int):max 0 (min t ((l.length:Int) - 1))=(loS l t:Int):=by unfold loS; omega
theorem vf (w:Int) (l:List aE) (top aG:Int) (h1:1≤l.length) (h2:l.length≤1000000):dM ⟨w,l⟩ top aG=some (if loS l aG < loS l top then .inl () else .inr ((loS l top:Int),((loS l aG+1:Nat):Int))):=by
 unfold dM
 dsimp only
 have ht:=qm l top h1
 have hb:=qm l aG h1
 rw [w64 (x:=(l.length:Int) - 1) (by omega) (by omega),oX,aA,oX,aA,mj,mj]
 by_cases h:loS l aG < loS l top
 ·rw [decide_eq_true (by omega),cond_true,if_pos h]
 ·rw [decide_eq_false (by omega),cond_false,if_neg h,w64 (by omega) (by omega),bV (by omega) (by omega) (by omega),aA]
  rfl
def kN (n:Int) (b:Nat):Nat:=(max 0 (min n (b:Int))).toNat
theorem Fm (n:Int) (b:Nat):max 0 (min n (b:Int))=(kN n b:Int):=by unfold kN; omega
theorem zu (n:Int) (b:Nat):kN n b≤b:=by unfold kN; omega
def upB {α:Type} (k:Nat) (B:List α) (x:α):List α:=B.drop k++List.replicate (min k B.length) x
def kt {α:Type} (k:Nat) (B:List α) (x:α):List α:=List.replicate (min k B.length) x++B.take (B.length - k)
theorem tX {α:Type} (k:Nat) (B:List α) (x:α):(upB k B x).length=B.length:=by
 unfold upB
 rw [List.length_append,List.length_drop,List.length_replicate]
 omega
theorem qO {α:Type} (k:Nat) (B:List α) (x:α):(kt k B x).length=B.length:=by
 unfold kt
 rw [List.length_append,List.length_take,List.length_replicate]
 omega
theorem Ed {α β:Type} (f:α→β) (k:Nat) (B:List α) (x:α):(upB k B x).map f=upB k (B.map f) (f x):=by
 simp [upB]
theorem Ay {α β:Type} (f:α→β) (k:Nat) (B:List α) (x:α):(kt k B x).map f=kt k (B.map f) (f x):=by
 simp [kt]
theorem BW {α:Type} (A B C:List α) (n:Nat) (h:n≤B.length):(A++B++C).drop (A.length+n)=B.drop n++C:=by
 rw [List.append_assoc,List.drop_append,List.drop_append]
 have e1:A.drop (A.length+n)=[]:=List.drop_eq_nil_of_le (by omega)
 have e2:A.length+n - A.length=n:=by omega
 have e3:n - B.length=0:=by omega
 rw [e1,e2,e3,List.nil_append,List.drop_zero]
theorem Fo {α:Type} (A B C:List α) (n:Nat) (h:n≤B.length):(A++B++C).take (A.length+n)=A++B.take n:=by
 rw [List.append_assoc,List.take_append,List.take_append]
 have e1:A.take (A.length+n)=A:=List.take_of_length_le (by omega)
 have e2:A.length+n - A.length=n:=by omega
 have e3:n - B.length=0:=by omega
 rw [e1,e2,e3,List.take_zero,List.append_nil]
theorem Ee {α:Type} (A B C:List α) (m n:Nat) (h:n≤B.length) (h2:m≤n):cut (A++B++C) ((A.length+m:Nat):Int) ((A.length+n:Nat):Int)=(B.take n).drop m:=by
 rw [na,Fo A B C n h]
 have:=BW A (B.take n) [] m (by rw [List.length_take]; omega)
 simp
theorem G1 (W:Nat) (hW:W≤1000) (A B C:List aE) (top aG n s:Int) (hl:(A++B++C).length≤1000000) (hB:1≤B.length)
  (hreg:dM ⟨W,A++B++C⟩ top aG=some (.inr ((A.length:Int),((A.length+B.length:Nat):Int)))) :
  eQ ⟨W,A++B++C⟩ top aG n s=some (B.take (kN n B.length),⟨W,A++upB (kN n B.length) B (fP W s)++C⟩):=by
 unfold eQ
 rw [hreg,aA]
 dsimp only
 have hk:=zu n B.length
 simp only [List.length_append] at hl
 rw [bV (by omega) (by omega) (by simp only [List.length_append]; omega),aA,zq A B C _ rfl,oX,aA,Fm]
 generalize kN n B.length=k at hk
 rw [bV (by omega) (by omega) (by omega),aA]
 have e1:cut (A++B++C) ((A.length:Int)+0) ((A.length:Int)+(k:Int))=B.take k:=by
  have:=Ee A B C 0 k hk (by omega)
  simpa using this
 have e2:oF (A++B++C) (A.length:Int) ((A.length+B.length:Nat):Int) ((A.length:Int)+(k:Int)) ((A.length:Int)+(B.length:Int))=A++B.drop k++(B.drop (B.length - k)++C):=by
  have c:=Ee A B C k B.length (Nat.le_refl _) hk
  rw [List.take_length] at c
  have c':cut (A++B++C) ((A.length:Int)+(k:Int)) ((A.length:Int)+(B.length:Int))=B.drop k:=by simpa using c
  unfold oF
  rw [c',Int.toNat_natCast,Int.toNat_natCast,List.append_assoc A B C,List.take_left,List.take_of_length_le (l:=B.drop k) (by rw [List.length_drop]; omega),List.length_drop,← List.append_assoc A B C,BW A B C _ (by omega)]
 rw [e1,pK _ (by rw [List.length_take]; omega),aA,bV (by omega) (by omega) (by omega),aA,e2]
 have hL:(cut (A++B.drop k++(B.drop (B.length - k)++C)) (A.length:Int) ((A.length+B.length:Nat):Int)).length=B.length:=by
  rw [mw _ _ _ (by omega) (by simp; omega)]
  omega
 rw [hL,w64 (by omega) (by omega)]
 refine eH (fun i=>((⟨W,A++(B.drop k++List.replicate i (fP W s))++(B.drop (B.length - k+i)++C)⟩:aX),((B.length - k+i:Nat):Int))) k (⟨W,A++upB k B (fP W s)++C⟩:aX) ?_ ?_ ?_ rfl
 ·have:(B.length:Int) - (k:Int)=((B.length - k+0:Nat):Int):=by omega
  rw [this]
  simp
 ·intro i hi
  dsimp only
  have hlen:(A++(B.drop k++List.replicate i (fP W s))++(B.drop (B.length - k+i)++C)).length=A.length+B.length+C.length:=by simp; omega
  have hc:(cut (A++(B.drop k++List.replicate i (fP W s))++(B.drop (B.length - k+i)++C)) (A.length:Int) ((A.length+B.length:Nat):Int)).length=B.length:=by
   rw [mw _ _ _ (by omega) (by rw [hlen]; omega)]
   omega
  rw [hc,decide_eq_true (by omega),cond_true,vS _ _ hW,aA,bV (by omega) (by omega) (by rw [hlen]; omega),aA]
  obtain ⟨x,hx,_⟩:=BS (cut (A++(B.drop k++List.replicate i (fP W s))++(B.drop (B.length - k+i)++C)) (A.length:Int) ((A.length+B.length:Nat):Int)) (i:=((B.length - k+i:Nat):Int)) (by omega) (by rw [hc]; omega)
  rw [hx,aA,w64 (by omega) (by omega),List.drop_eq_getElem_cons (l:=B) (i:=B.length - k+i) (by omega),List.cons_append,mT (by simp; omega),List.replicate_succ']
  simp [Nat.add_assoc]
  omega
 ·dsimp only
  have hlen:(A++(B.drop k++List.replicate k (fP W s))++(B.drop (B.length - k+k)++C)).length=A.length+B.length+C.length:=by simp; omega
  have hc:(cut (A++(B.drop k++List.replicate k (fP W s))++(B.drop (B.length - k+k)++C)) (A.length:Int) ((A.length+B.length:Nat):Int)).length=B.length:=by
   rw [mw _ _ _ (by omega) (by rw [hlen]; omega)]
   omega
  rw [hc,decide_eq_false (by omega),cond_false,List.drop_eq_nil_of_le (as:=B) (i:=B.length - k+k) (by omega)]
  unfold upB
  rw [Nat.min_eq_left hk]
  simp
end Go.Tw.X
set_option linter.unusedVariables false
set_option linter.unusedSimpArgs false
namespace Go.Tw.X
open Go Go.Tw
theorem yp (l:List aE) (h:l.length≤1000000):eP l=some l.reverse:=by
 unfold eP
 refine nD (fun s:List aE×Int×Int=> ∃ t:Nat,s.2.1=t∧s.2.2=(l.length:Int) - 1 - t∧2*t≤l.length+1∧s.1.length=l.length ∧ ∀ p,p < l.length→s.1[p]?=if p < t∨l.length - 1 - t < p then l[l.length - 1 - p]? else l[p]?) (fun s=>(s.2.2 - s.2.1+1).toNat) (fun r=>r=l.reverse) ?_ ?_ (fun r hr=>by rw [hr])
 ·refine ⟨0,rfl,?_,by omega,rfl,fun p hp=> ?_⟩
  ·dsimp only
   rw [w64 (by omega) (by omega)]
   omega
  ·rw [if_neg (by omega)]
 ·rintro ⟨L,i,j⟩ ⟨t,hi,hj,ht,hL,hp⟩
  dsimp only at hi hj hL hp ⊢
  subst hi hj
  by_cases hlt:(t:Int) < (l.length:Int) - 1 - t
  ·have hj:(l.length:Int) - 1 - (t:Int)=((l.length - 1 - t:Nat):Int):=by omega
   have h1:t < L.length:=by omega
   have h2:l.length - 1 - t < L.length:=by omega
   have g1:=hp t (by omega)
   have g2:=hp (l.length - 1 - t) (by omega)
   rw [if_neg (by omega)] at g1 g2
   refine .inl ⟨((L.set t L[l.length - 1 - t]).set (l.length - 1 - t) L[t],((t+1:Nat):Int),(l.length:Int) - 1 - ((t+1:Nat):Int)),?_,⟨t+1,rfl,rfl,by omega,by simp [hL],?_⟩,by dsimp only; omega⟩
   ·rw [decide_eq_true hlt,cond_true,hj,cO L _ h1,cO L _ h2]
    simp only [aA,Int.toNat_natCast]
    rw [w64 (by omega) (by omega),w64 (by omega) (by omega)]
    congr 3
    congr 1
    omega
   ·intro p hpl
    have hg1:L[t]?=some L[t]:=List.getElem?_eq_getElem h1
    have hg2:L[l.length - 1 - t]?=some L[l.length - 1 - t]:=List.getElem?_eq_getElem h2
    dsimp only
    by_cases c1:p=l.length - 1 - t
    ·subst c1
     rw [List.getElem?_set_self (by simpa using h2),if_pos (by omega),← hg1,g1]
     congr 1
     omega
    ·rw [List.getElem?_set_ne (fun e=>c1 e.symm)]
     by_cases c2:p=t
     ·subst c2
      rw [List.getElem?_set_self h1,if_pos (by omega),← hg2,g2]
     ·rw [List.getElem?_set_ne (fun e=>c2 e.symm),hp p hpl]
      by_cases c3:p < t∨l.length - 1 - t < p
      ·rw [if_pos c3,if_pos (by omega)]
      ·rw [if_neg c3,if_neg (by omega)]
  ·refine .inr ⟨L,by rw [decide_eq_false hlt,cond_false],?_⟩
   apply List.ext_getElem?
   intro p
   by_cases hpl:p < l.length
   ·rw [hp p hpl,List.getElem?_reverse hpl]
    by_cases c3:p < t∨l.length - 1 - t < p
    ·rw [if_pos c3]
    ·rw [if_neg c3]
     congr 1
     omega
   ·rw [List.getElem?_eq_none (by omega),List.getElem?_eq_none (by simp; omega)]
theorem Ef (W:Nat) (hW:W≤1000) (A B C:List aE) (top aG n s:Int) (hl:(A++B++C).length≤1000000) (hB:1≤B.length)
  (hreg:dM ⟨W,A++B++C⟩ top aG=some (.inr ((A.length:Int),((A.length+B.length:Nat):Int)))) :
  dT ⟨W,A++B++C⟩ top aG n s=some ((B.drop (B.length - kN n B.length)).reverse,⟨W,A++kt (kN n B.length) B (fP W s)++C⟩):=by
 unfold dT
 rw [hreg,aA]
 dsimp only
 have hk:=zu n B.length
 simp only [List.length_append] at hl
 rw [bV (by omega) (by omega) (by simp only [List.length_append]; omega),aA,zq A B C _ rfl,oX,aA,Fm]
 generalize kN n B.length=k at hk
 rw [w64 (x:=(B.length:Int) - (k:Int)) (by omega) (by omega)]
 have hbk:(B.length:Int) - (k:Int)=((B.length - k:Nat):Int):=by omega
 rw [hbk,bV (by omega) (by omega) (by omega),aA]
 have e1:cut (A++B++C) ((A.length:Int)+((B.length - k:Nat):Int)) ((A.length:Int)+(B.length:Int))=B.drop (B.length - k):=by
  have:=Ee A B C (B.length - k) B.length (Nat.le_refl _) (by omega)
  rw [List.take_length] at this
  simpa using this
 have e2:oF (A++B++C) ((A.length:Int)+(k:Int)) ((A.length:Int)+(B.length:Int)) ((A.length:Int)+0) ((A.length:Int)+((B.length - k:Nat):Int))=A++B.take k++(B.take (B.length - k)++C):=by
  have c:=Ee A B C 0 (B.length - k) (by omega) (by omega)
  rw [List.drop_zero] at c
  have c':cut (A++B++C) ((A.length:Int)+0) ((A.length:Int)+((B.length - k:Nat):Int))=B.take (B.length - k):=by simpa using c
  have t1:((A.length:Int)+(k:Int)).toNat=A.length+k:=by omega
  have t2:((A.length:Int)+(B.length:Int)).toNat=A.length+B.length:=by omega
  unfold oF
  rw [c',t1,t2,Fo A B C k hk,List.take_of_length_le (l:=B.take (B.length - k)) (by rw [List.length_take]; omega),List.length_take]
  have t3:A.length+k+min (B.length - k) B.length=A.length+B.length:=by omega
  rw [t3,BW A B C _ (Nat.le_refl _),List.drop_eq_nil_of_le (Nat.le_refl _),List.nil_append,List.append_assoc (A++B.take k)]
 rw [e1,pK _ (by rw [List.length_drop]; omega),aA,yp _ (by rw [List.length_drop]; omega),aA,kX (by simp),aA,bV (by omega) (by omega) (by omega),aA,bV (by omega) (by omega) (by omega),aA,e2]
 refine eH (fun i=>((⟨W,A++List.replicate i (fP W s)++((B.take k).drop i++(B.take (B.length - k)++C))⟩:aX),(i:Int))) k (⟨W,A++kt k B (fP W s)++C⟩:aX) ?_ ?_ ?_ rfl
 ·simp
 ·intro i hi
  dsimp only
  have hlen:(A++List.replicate i (fP W s)++((B.take k).drop i++(B.take (B.length - k)++C))).length=A.length+B.length+C.length:=by simp; omega
  have hc:(cut (A++List.replicate i (fP W s)++((B.take k).drop i++(B.take (B.length - k)++C))) (A.length:Int) ((A.length+B.length:Nat):Int)).length=B.length:=by
   rw [mw _ _ _ (by omega) (by rw [hlen]; omega)]
   omega
  rw [decide_eq_true (by omega),cond_true,vS _ _ hW,aA,bV (by omega) (by omega) (by rw [hlen]; omega),aA]
  obtain ⟨x,hx,_⟩:=BS (cut (A++List.replicate i (fP W s)++((B.take k).drop i++(B.take (B.length - k)++C))) (A.length:Int) ((A.length+B.length:Nat):Int)) (i:=(i:Int)) (by omega) (by rw [hc]; omega)
  have htl:i < (B.take k).length:=by rw [List.length_take]; omega
  rw [hx,aA,w64 (by omega) (by omega),List.drop_eq_getElem_cons htl,List.cons_append,mT (by simp),List.replicate_succ']
  simp
 ·dsimp only
  rw [decide_eq_false (by omega),cond_false,List.drop_eq_nil_of_le (as:=B.take k) (i:=k) (by rw [List.length_take]; omega)]
  unfold kt
  rw [Nat.min_eq_left hk]
  simp
end Go.Tw.X
set_option linter.unusedVariables false
set_option linter.unusedSimpArgs false
namespace Go.Tw.X
open Go Go.Tw
variable {α : Type}
theorem BX (B:List α) (x:α):upB 0 B x=B:=by simp [upB]
theorem yq (B:List α) (x:α):kt 0 B x=B:=by simp [kt]
theorem BY (B:List α) (x:α) (i:Nat) (h:i < B.length):upB i B x=B[i]::(B.drop (i+1)++List.replicate i x):=by
 unfold upB
 rw [Nat.min_eq_left (by omega),List.drop_eq_getElem_cons h,List.cons_append]
theorem BZ (B:List α) (x:α) (i:Nat) (h:i < B.length):upB (i+1) B x=(B.drop (i+1)++List.replicate i x)++[x]:=by
 unfold upB
 rw [Nat.min_eq_left (by omega),List.replicate_succ',List.append_assoc]
theorem yu (B:List α) (x:α) (i:Nat) (h:i < B.length):kt i B x=(List.replicate i x++B.take (B.length - i - 1))++[B[B.length - i - 1]'(by omega)]:=by
 unfold kt
 rw [Nat.min_eq_left (by omega),List.append_assoc,← List.take_succ_eq_append_getElem]
 congr 2
 omega
theorem yv (B:List α) (x:α) (i:Nat) (h:i < B.length):kt (i+1) B x=x::(List.replicate i x++B.take (B.length - i - 1)):=by
 unfold kt
 rw [Nat.min_eq_left (by omega),List.replicate_succ,List.cons_append]
 congr 3
theorem take_one {l:List α} (h:0 < l.length):l.take 1=[l[0]]:=by
 cases l with
 | nil=>simp at h
 | cons a t=>rfl
theorem HX {ρ β:Type} (lo hi:Int) (A T C:List aQ) (y:aQ) (g:List aQ→Option β) (out:Option β) (hl:(A++(y::T)++C).length≤1000000) (hlo:lo=A.length) (hhi:hi=lo+T.length)
  (hg:g ((A++T)++((y::T).drop T.length++C))=out) :
  Option.bind (iter (σ:=(List aQ)×Int) (ρ:=(List aQ)) (fun a=>(bif (decide (a.2 < hi)) then (Option.bind (idx a.1 (IntKind.i64.wrap (a.2+1))) fun b=>(Option.bind (idx a.1 a.2) fun c=>some (.inl ((a.1.set a.2.toNat b),(IntKind.i64.wrap (a.2+1)))))) else some (.inr a.1))) (A++(y::T)++C,lo)) g=out:=by
 subst hlo
 simp only [List.length_append,List.length_cons] at hl
 refine eH (fun j=>((A++T.take j)++((y::T).drop j++C),((A.length+j:Nat):Int))) T.length _ ?_ ?_ ?_ hg
 ·simp
 ·intro j hj
  dsimp only
  have e1:(y::T).drop j=(y::T)[j]'(by simp; omega)::T[j]::T.drop (j+1):=by
   rw [List.drop_eq_getElem_cons (by simp; omega),List.drop_succ_cons,List.drop_eq_getElem_cons hj]
  have e2:A++T.take j++((y::T).drop j++C)=((A++T.take j)++[(y::T)[j]'(by simp; omega)])++T[j]::(T.drop (j+1)++C):=by rw [e1]; simp only [List.append_assoc,List.cons_append,List.nil_append]
  have e3:A++T.take j++((y::T).drop j++C)=(A++T.take j)++(y::T)[j]'(by simp; omega)::(T[j]::(T.drop (j+1)++C)):=by rw [e1]; simp only [List.append_assoc,List.cons_append,List.nil_append]
  rw [decide_eq_true (by omega),cond_true,w64 (by omega) (by omega)]
  rw [show idx (A++T.take j++((y::T).drop j++C)) (((A.length+j:Nat):Int)+1)=some T[j] by rw [e2]; exact lh (by simp; omega)]
  rw [aA]
  rw [show idx (A++T.take j++((y::T).drop j++C)) ((A.length+j:Nat):Int)=some ((y::T)[j]'(by simp; omega)) by rw [e3]; exact lh (by simp; omega)]
  rw [aA,Int.toNat_natCast,e3,mT (by simp; omega),List.drop_succ_cons,List.drop_eq_getElem_cons hj,List.take_succ_eq_append_getElem hj]
  have t4:((A.length+j:Nat):Int)+1=((A.length+(j+1):Nat):Int):=by omega
  rw [t4]
  simp only [List.append_assoc,List.cons_append,List.nil_append]
 ·dsimp only
  rw [decide_eq_false (by omega),cond_false,List.take_length]
theorem F7 {ρ β:Type} (lo hi:Int) (A T C:List aQ) (y:aQ) (g:List aQ→Option β) (out:Option β) (hl:(A++(T++[y])++C).length≤1000000) (hlo:lo=A.length) (hhi:hi=lo+T.length)
  (hg:g (A++(T++[y]).take 1++(T++C))=out) :
  Option.bind (iter (σ:=(List aQ)×Int) (ρ:=(List aQ)) (fun a=>(bif (decide (a.2 > lo)) then (Option.bind (idx a.1 (IntKind.i64.wrap (a.2 - 1))) fun b=>(Option.bind (idx a.1 a.2) fun c=>some (.inl ((a.1.set a.2.toNat b),(IntKind.i64.wrap (a.2 - 1)))))) else some (.inr a.1))) (A++(T++[y])++C,hi)) g=out:=by
 subst hlo
 simp only [List.length_append,List.length_cons,List.length_nil] at hl
 refine eH (fun j=>((A++(T++[y]).take (T.length+1 - j))++(T.drop (T.length - j)++C),((A.length+(T.length - j):Nat):Int))) T.length _ ?_ ?_ ?_ hg
 ·have:(T++[y]).take (T.length+1 - 0)=T++[y]:=List.take_of_length_le (by simp)
  try dsimp only
  rw [hhi,this]
  simp
 ·intro j hj
  dsimp only
  have hz:T.length - 1 - j < T.length:=by omega
  have hzz:T.length - j < (T++[y]).length:=by simp; omega
  have t1:(T++[y]).take (T.length+1 - j)=(T++[y]).take (T.length - 1 - j)++[T[T.length - 1 - j]]++[(T++[y])[T.length - j]]:=by
   have a1:T.length+1 - j=(T.length - j)+1:=by omega
   have a2:T.length - j=(T.length - 1 - j)+1:=by omega
   rw [a1,List.take_succ_eq_append_getElem hzz]
   congr 1
   rw [a2,List.take_succ_eq_append_getElem (by simp; omega)]
   congr 2
   rw [List.getElem_append_left hz]
  have e2:A++(T++[y]).take (T.length+1 - j)++(T.drop (T.length - j)++C)=(A++(T++[y]).take (T.length - 1 - j))++T[T.length - 1 - j]::((T++[y])[T.length - j]::(T.drop (T.length - j)++C)):=by rw [t1]; simp
  have e3:A++(T++[y]).take (T.length+1 - j)++(T.drop (T.length - j)++C)=(A++(T++[y]).take (T.length - 1 - j)++[T[T.length - 1 - j]])++(T++[y])[T.length - j]::(T.drop (T.length - j)++C):=by rw [t1]; simp
  rw [decide_eq_true (by omega),cond_true,w64 (by omega) (by omega)]
  rw [show idx (A++(T++[y]).take (T.length+1 - j)++(T.drop (T.length - j)++C)) (((A.length+(T.length - j):Nat):Int) - 1)=some T[T.length - 1 - j] by rw [e2]; exact lh (by simp; omega)]
  rw [aA]
  rw [show idx (A++(T++[y]).take (T.length+1 - j)++(T.drop (T.length - j)++C)) ((A.length+(T.length - j):Nat):Int)=some ((T++[y])[T.length - j]) by rw [e3]; exact lh (by simp; omega)]
  rw [aA,Int.toNat_natCast,e3,mT (by simp; omega)]
  have t2:(T++[y]).take (T.length+1 - (j+1))=(T++[y]).take (T.length - 1 - j)++[T[T.length - 1 - j]]:=by
   have a2:T.length+1 - (j+1)=(T.length - 1 - j)+1:=by omega
   rw [a2,List.take_succ_eq_append_getElem (by simp; omega)]
   congr 2
   rw [List.getElem_append_left hz]
  have t3:T.drop (T.length - (j+1))=T[T.length - 1 - j]::T.drop (T.length - j):=by
   have a2:T.length - (j+1)=T.length - 1 - j:=by omega
   rw [a2,List.drop_eq_getElem_cons hz]
   congr 2
   omega
  rw [t2,t3]
  have t4:((A.length+(T.length - j):Nat):Int) - 1=((A.length+(T.length - (j+1)):Nat):Int):=by omega
  rw [t4]
  simp
 ·dsimp only
  rw [decide_eq_false (by omega),cond_false]
  have:T.length+1 - T.length=1:=by omega
  rw [this,Nat.sub_self,List.drop_zero]
theorem B0 (W:Nat) (hW:W≤1000) (A B C:List aQ) (top aG n s:Int) (hl:(A++B++C).length≤1000000) (hB:1≤B.length)
  (h1:max 0 (min top (((A++B++C).length:Int) - 1))=A.length) (h2:max 0 (min aG (((A++B++C).length:Int) - 1))=A.length+B.length - 1) :
  dD ⟨W,A++B++C⟩ true top aG n s=some (⟨W,A++upB (kN n B.length) B (told (fP W s))++C⟩,B.take (kN n B.length)):=by
 unfold dD
 dsimp only
 have hl':=hl
 simp only [List.length_append] at hl'
 rw [w64 (x:=((A++B++C).length:Int) - 1) (by omega) (by omega)]
 simp only [fg,dY,h1,h2]
 have hk:=zu n B.length
 have hkn: ∀ i:Nat,i < kN n B.length→(i:Int) < n:=fun i hi=>by unfold kN at hi; omega
 have hkx: ¬ (((kN n B.length:Nat):Int) < n∧((kN n B.length:Nat):Int)≤(A.length:Int)+(B.length:Int) - 1 - (A.length:Int)):=by unfold kN; omega
 generalize kN n B.length=k at hk hkn hkx
 rw [decide_eq_false (by omega),cond_false,bK (by simp; omega),aA,s9 _ _ hW,aA,List.nil_append]
 refine eH (fun i=>(B.take i,A++upB i B (told (fP W s))++C,(i:Int))) k (B.take k,A++upB k B (told (fP W s))++C) ?_ ?_ ?_ rfl
 ·rw [BX]
  rfl
 ·intro i hi
  dsimp only
  have hib:i < B.length:=by omega
  rw [uR,w64 (x:=(A.length:Int)+(B.length:Int) - 1 - (A.length:Int)) (by omega) (by omega),decide_eq_true ⟨hkn i hi,by omega⟩,aA,cond_true,cond_true,BY _ _ _ hib]
  rw [show idx (A++B[i]::(B.drop (i+1)++List.replicate i (told (fP W s)))++C) (A.length:Int)=some B[i] by rw [List.append_assoc,List.cons_append]; exact lh rfl]
  rw [aA,bK (by simp; omega),aA]
  rw [HX (ρ:=Unit) (A.length:Int) ((A.length:Int)+(B.length:Int) - 1) A (B.drop (i+1)++List.replicate i (told (fP W s))) C B[i] _ (some (B.take (i+1),A++upB (i+1) B (told (fP W s))++C)) (by simp; omega) rfl (by simp; omega)]
  ·rw [aA,w64 (by omega) (by omega)]
   rfl
  ·generalize hT:B.drop (i+1)++List.replicate i (told (fP W s))=T
   have hTl:A.length+T.length=A.length+B.length - 1:=by rw [← hT]; simp; omega
   have hd:(B[i]::T).drop T.length=[(B[i]::T)[T.length]]:=by
    rw [List.drop_eq_getElem_cons (by simp),List.drop_eq_nil_of_le (by simp)]
   rw [hd,List.singleton_append]
   rw [lh (by simp; omega),aA,BZ _ _ _ hib,hT,mT (by simp; omega),List.take_succ_eq_append_getElem hib]
   simp
 ·dsimp only
  rw [uR,w64 (x:=(A.length:Int)+(B.length:Int) - 1 - (A.length:Int)) (by omega) (by omega),decide_eq_false hkx,aA,cond_false]
theorem yw (W:Nat) (hW:W≤1000) (A B C:List aQ) (top aG n s:Int) (hl:(A++B++C).length≤1000000) (hB:1≤B.length)
  (h1:max 0 (min top (((A++B++C).length:Int) - 1))=A.length) (h2:max 0 (min aG (((A++B++C).length:Int) - 1))=A.length+B.length - 1) :
  dD ⟨W,A++B++C⟩ false top aG n s=some (⟨W,A++kt (kN n B.length) B (told (fP W s))++C⟩,(B.drop (B.length - kN n B.length)).reverse):=by
 unfold dD
 dsimp only
 have hl':=hl
 simp only [List.length_append] at hl'
 rw [w64 (x:=((A++B++C).length:Int) - 1) (by omega) (by omega)]
 simp only [fg,dY,h1,h2]
 have hk:=zu n B.length
 have hkn: ∀ i:Nat,i < kN n B.length→(i:Int) < n:=fun i hi=>by unfold kN at hi; omega
 have hkx: ¬ (((kN n B.length:Nat):Int) < n∧((kN n B.length:Nat):Int)≤(A.length:Int)+(B.length:Int) - 1 - (A.length:Int)):=by unfold kN; omega
 generalize kN n B.length=k at hk hkn hkx
 rw [decide_eq_false (by omega),cond_false,bK (by simp; omega),aA,s9 _ _ hW,aA,List.nil_append]
 refine eH (fun i=>((B.drop (B.length - i)).reverse,A++kt i B (told (fP W s))++C,(i:Int))) k ((B.drop (B.length - k)).reverse,A++kt k B (told (fP W s))++C) ?_ ?_ ?_ rfl
 ·rw [yq]
  simp
 ·intro i hi
  dsimp only
  have hib:i < B.length:=by omega
  rw [uR,w64 (x:=(A.length:Int)+(B.length:Int) - 1 - (A.length:Int)) (by omega) (by omega),decide_eq_true ⟨hkn i hi,by omega⟩,aA,cond_true,cond_false,yu _ _ _ hib]
  have hTl:A.length+(List.replicate i (told (fP W s))++B.take (B.length - i - 1)).length=A.length+B.length - 1:=by simp; omega
  rw [show idx (A++((List.replicate i (told (fP W s))++B.take (B.length - i - 1))++[B[B.length - i - 1]'(by omega)])++C) ((A.length:Int)+(B.length:Int) - 1)=some (B[B.length - i - 1]'(by omega)) by
   rw [← List.append_assoc A,List.append_assoc (A++(List.replicate i (told (fP W s))++B.take (B.length - i - 1))),List.singleton_append]; exact lh (by rw [List.length_append]; omega)]
  rw [aA,bK (by simp; omega),aA]
  rw [F7 (ρ:=Unit) (A.length:Int) ((A.length:Int)+(B.length:Int) - 1) A (List.replicate i (told (fP W s))++B.take (B.length - i - 1)) C (B[B.length - i - 1]'(by omega)) _ (some ((B.drop (B.length - (i+1))).reverse,A++kt (i+1) B (told (fP W s))++C)) (by simp; omega) rfl (by omega)]
  ·rw [aA,w64 (by omega) (by omega)]
   rfl
  ·rw [yv _ _ _ hib]
   generalize hT:List.replicate i (told (fP W s))++B.take (B.length - i - 1)=T
   have hd:(T++[B[B.length - i - 1]'(by omega)]).take 1=[(T++[B[B.length - i - 1]'(by omega)])[0]'(by simp)]:=by
    exact take_one (by simp)
   rw [hd,List.append_assoc A,List.singleton_append]
   rw [lh rfl,aA,Int.toNat_natCast,mT rfl]
   have a1:B.length - i=(B.length - i - 1)+1:=by omega
   have a2:B.length - (i+1)=B.length - i - 1:=by omega
   rw [a2,List.drop_eq_getElem_cons (i:=B.length - i - 1) (by omega),← a1]
   simp
 ·dsimp only
  rw [uR,w64 (x:=(A.length:Int)+(B.length:Int) - 1 - (A.length:Int)) (by omega) (by omega),decide_eq_false hkx,aA,cond_false]
end Go.Tw.X
set_option linter.unusedVariables false
set_option linter.unusedSimpArgs false
namespace Go.Tw.X
open Go Go.Tw
theorem GI.len {W:Nat} {l:List aE} (h:GI W l): ∀ r∈l,r.cells.length≤1000000:=fun r hr=>by
 have:=(h.rs r hr).1
 have:=h.w2
 omega
def rgB (l:List aE) (t b:Int):List aE:=(l.take (loS l b+1)).drop (loS l t)
def upL (W:Nat) (l:List aE) (t b n s:Int):List aE:=if loS l b < loS l t then l else l.take (loS l t)++upB (kN n (rgB l t b).length) (rgB l t b) (fP W s)++l.drop (loS l b+1)
def upO (l:List aE) (t b n:Int):List aE:=if loS l b < loS l t then [] else (rgB l t b).take (kN n (rgB l t b).length)
def oZ (W:Nat) (l:List aE) (t b n s:Int):List aE:=if loS l b < loS l t then l else l.take (loS l t)++kt (kN n (rgB l t b).length) (rgB l t b) (fP W s)++l.drop (loS l b+1)
def p8 (l:List aE) (t b n:Int):List aE:=if loS l b < loS l t then [] else ((rgB l t b).drop ((rgB l t b).length - kN n (rgB l t b).length)).reverse
theorem nH (l:List aE) (t b:Int) (h: ¬ loS l b < loS l t) (h1:1≤l.length):l=l.take (loS l t)++rgB l t b++l.drop (loS l b+1)∧(l.take (loS l t)).length=loS l t∧(rgB l t b).length=loS l b+1 - loS l t:=by
 have hb:=qm l b h1
 unfold rgB
 refine ⟨?_,?_,?_⟩
 ·have:l.take (loS l t)=(l.take (loS l b+1)).take (loS l t):=by rw [List.take_take]; congr 1; omega
  rw [this,List.take_append_drop,List.take_append_drop]
 ·rw [List.length_take]; omega
 ·rw [List.length_drop,List.length_take]; omega
theorem vV {W:Nat} {l:List aE} (h:GI W l) (t b n s:Int):eQ ⟨W,l⟩ t b n s=some (upO l t b n,⟨W,upL W l t b n s⟩)∧dD ⟨W,l.map told⟩ true t b n s=some (⟨W,(upL W l t b n s).map told⟩,(upO l t b n).map told):=by
 have h1:=h.l1
 have h2:=h.l2
 have hreg:=vf (W:Int) l t b h1 (by omega)
 have hb:=qm l b h1
 by_cases hc:loS l b < loS l t
 ·rw [if_pos hc] at hreg
  unfold upO upL
  rw [if_pos hc,if_pos hc]
  constructor
  ·unfold eQ
   rw [hreg,aA]
  ·unfold dD
   dsimp only
   rw [List.length_map,w64 (x:=(l.length:Int) - 1) (by omega) (by omega),fg,fg,dY,dY,mj,mj,decide_eq_true (by omega),cond_true]
   rfl
 ·rw [if_neg hc] at hreg
  obtain ⟨e,ea,eb⟩:=nH l t b hc h1
  have hlo:=mj l t
  have hhi:=mj l b
  unfold upO upL
  rw [if_neg hc,if_neg hc]
  generalize l.take (loS l t)=A at e ea
  generalize rgB l t b=B at e eb
  generalize l.drop (loS l b+1)=C at e
  rw [e] at hlo hhi hreg h2 hc ea eb ⊢
  have e2:((loS (A++B++C) b+1:Nat):Int)=((A.length+B.length:Nat):Int):=by omega
  have e1:((loS (A++B++C) t:Nat):Int)=(A.length:Int):=by omega
  rw [e1,e2] at hreg
  constructor
  ·exact G1 W h.w2 A B C t b n s (by omega) (by omega) hreg
  ·have hm:=B0 W h.w2 (A.map told) (B.map told) (C.map told) t b n s (by simpa using (by omega:(A++B++C).length≤1000000)) (by simp; omega)
   have el:((A.map told++B.map told++C.map told).length:Int)=((A++B++C).length:Int):=by simp
   rw [el] at hm
   have:=hm (by rw [hlo,List.length_map]; omega) (by rw [hhi,List.length_map,List.length_map]; omega)
   rw [List.map_append,List.map_append,this,List.length_map,List.map_append,List.map_append,Ed,List.map_take]
theorem wX {W:Nat} {l:List aE} (h:GI W l) (t b n s:Int):dT ⟨W,l⟩ t b n s=some (p8 l t b n,⟨W,oZ W l t b n s⟩)∧dD ⟨W,l.map told⟩ false t b n s=some (⟨W,(oZ W l t b n s).map told⟩,(p8 l t b n).map told):=by
 have h1:=h.l1
 have h2:=h.l2
 have hreg:=vf (W:Int) l t b h1 (by omega)
 have hb:=qm l b h1
 by_cases hc:loS l b < loS l t
 ·rw [if_pos hc] at hreg
  unfold p8 oZ
  rw [if_pos hc,if_pos hc]
  constructor
  ·unfold dT
   rw [hreg,aA]
  ·unfold dD
   dsimp only
   rw [List.length_map,w64 (x:=(l.length:Int) - 1) (by omega) (by omega),fg,fg,dY,dY,mj,mj,decide_eq_true (by omega),cond_true]
   rfl
 ·rw [if_neg hc] at hreg
  obtain ⟨e,ea,eb⟩:=nH l t b hc h1
  have hlo:=mj l t
  have hhi:=mj l b
  unfold p8 oZ
  rw [if_neg hc,if_neg hc]
  generalize l.take (loS l t)=A at e ea
  generalize rgB l t b=B at e eb
  generalize l.drop (loS l b+1)=C at e
  rw [e] at hlo hhi hreg h2 hc ea eb ⊢
  have e2:((loS (A++B++C) b+1:Nat):Int)=((A.length+B.length:Nat):Int):=by omega
  have e1:((loS (A++B++C) t:Nat):Int)=(A.length:Int):=by omega
  rw [e1,e2] at hreg
  constructor
  ·exact Ef W h.w2 A B C t b n s (by omega) (by omega) hreg
  ·have hm:=yw W h.w2 (A.map told) (B.map told) (C.map told) t b n s (by simpa using (by omega:(A++B++C).length≤1000000)) (by simp; omega)
   have el:((A.map told++B.map told++C.map told).length:Int)=((A++B++C).length:Int):=by simp
   rw [el] at hm
   have:=hm (by rw [hlo,List.length_map]; omega) (by rw [hhi,List.length_map,List.length_map]; omega)
   rw [List.map_append,List.map_append,this,List.length_map,List.map_append,List.map_append,Ay,List.map_reverse,List.map_drop]
theorem yx {l:List aE} {t b:Int} {r:aE} (h:r∈rgB l t b):r∈l:=List.mem_of_mem_take (List.mem_of_mem_drop h)
theorem Fp {W:Nat} {l:List aE} (h:GI W l) (t b n s:Int):GI W (upL W l t b n s):=by
 unfold upL
 by_cases hc:loS l b < loS l t
 ·rw [if_pos hc]
  exact h
 ·rw [if_neg hc]
  obtain ⟨e,ea,eb⟩:=nH l t b hc h.l1
  have hlen:(l.take (loS l t)++upB (kN n (rgB l t b).length) (rgB l t b) (fP W s)++l.drop (loS l b+1)).length=l.length:=by
   conv=>rhs; rw [e]
   simp only [List.length_append,tX]
  refine ⟨h.w1,h.w2,by rw [hlen]; exact h.l1,by rw [hlen]; exact h.l2,?_⟩
  intro r hr
  rw [List.mem_append,List.mem_append] at hr
  rcases hr with (hr | hr) | hr
  ·exact h.rs r (List.mem_of_mem_take hr)
  ·unfold upB at hr
   rw [List.mem_append] at hr
   rcases hr with hr | hr
   ·exact h.rs r (yx (List.mem_of_mem_drop hr))
   ·rw [List.eq_of_mem_replicate hr]
    exact pJ _ _
  ·exact h.rs r (List.mem_of_mem_drop hr)
theorem Ei {W:Nat} {l:List aE} (h:GI W l) (t b n s:Int):GI W (oZ W l t b n s):=by
 unfold oZ
 by_cases hc:loS l b < loS l t
 ·rw [if_pos hc]
  exact h
 ·rw [if_neg hc]
  obtain ⟨e,ea,eb⟩:=nH l t b hc h.l1
  have hlen:(l.take (loS l t)++kt (kN n (rgB l t b).length) (rgB l t b) (fP W s)++l.drop (loS l b+1)).length=l.length:=by
   conv=>rhs; rw [e]
   simp only [List.length_append,qO]
  refine ⟨h.w1,h.w2,by rw [hlen]; exact h.l1,by rw [hlen]; exact h.l2,?_⟩
  intro r hr
  rw [List.mem_append,List.mem_append] at hr
  rcases hr with (hr | hr) | hr
  ·exact h.rs r (List.mem_of_mem_take hr)
  ·unfold kt at hr
   rw [List.mem_append] at hr
   rcases hr with hr | hr
   ·rw [List.eq_of_mem_replicate hr]
    exact pJ _ _
   ·exact h.rs r (yx (List.mem_of_mem_take hr))
  ·exact h.rs r (List.mem_of_mem_drop hr)
theorem Ej {l:List aE} {t b n:Int} {r:aE} (h:r∈upO l t b n):r∈l:=by
 unfold upO at h
 split at h
 ·cases h
 ·exact yx (List.mem_of_mem_take h)
theorem Ek (l:List aE) (t b n:Int):(upO l t b n).length≤l.length:=by
 unfold upO
 split
 ·exact Nat.zero_le _
 ·unfold rgB
  rw [List.length_take,List.length_drop,List.length_take]
  omega
def rzL (W:Nat) (l:List aE) (c H:Nat):List aE:=((l.drop c).take H++List.replicate (H - (l.length - c)) (fP W 0)).map (rsz W)
theorem jQ (W:Nat) (l:List aE) (c H:Nat):(rzL W l c H).length=H:=by
 unfold rzL
 simp
 omega
theorem Az (W:Nat):rsz W (fP W 0)=fP W 0:=F6 (by simp [fP])
theorem yy (w0:Int) (l:List aE) (w h off:Int) (h1:1≤l.length) (h2:l.length≤1000000) (hr: ∀ r∈l,r.cells.length≤1000000):gT ⟨w0,l⟩ w h off=some (l.take (loS l off),⟨(szN w:Int),rzL (szN w) l (loS l off) (szN h)⟩):=by
 unfold gT
 dsimp only
 have hw:=jz w
 have hh:=jz h
 rw [w64 (x:=(l.length:Int) - 1) (by omega) (by omega),oX,aA,mj]
 have hc:=qm l off h1
 unfold rzL
 generalize loS l off=c at hc
 have c1:cut l (c:Int) (l.length:Int)=l.drop c:=by rw [na,List.take_length]
 have hm:dF ((l.drop c).length:Int) (szN h:Int)=((min (l.drop c).length (szN h):Nat):Int):=by rw [dY]; omega
 have c2:cut (l.drop c) 0 ((min (l.drop c).length (szN h):Nat):Int)=(l.drop c).take (szN h):=by
  rw [nE,← List.take_take]
  exact List.take_of_length_le (by rw [List.length_take]; omega)
 rw [bV (by omega) (by omega) (by omega),aA,nE,pK _ (by rw [List.length_take]; omega),aA,bV (by omega) (by omega) (by omega),aA,c1,pK _ (by rw [List.length_drop]; omega),aA,oY,aA,hm,bV (by omega) (by omega) (by omega),aA,c2]
 refine eH (fun i=>(l.drop c).take (szN h)++List.replicate i (fP (szN w) 0)) (szN h - (l.length - c)) ((l.drop c).take (szN h)++List.replicate (szN h - (l.length - c)) (fP (szN w) 0)) ?_ ?_ ?_ ?_
 ·simp
 ·intro i hi
  try dsimp only
  rw [aA,decide_eq_true (by simp; omega),cond_true,oY w,aA,vS _ _ hw,aA,bK (by simp; omega),aA,List.append_assoc,← List.replicate_succ']
 ·try dsimp only
  rw [aA,decide_eq_false (by simp; omega),cond_false]
 ·rw [oY,aA]
  have hL: ∀ r∈(l.drop c).take (szN h)++List.replicate (szN h - (l.length - c)) (fP (szN w) 0),r.cells.length≤1000000:=by
   intro r hrr
   rcases List.mem_append.1 hrr with hrr | hrr
   ·exact hr r (List.mem_of_mem_drop (List.mem_of_mem_take hrr))
   ·rw [List.eq_of_mem_replicate hrr]
    simp [fP]
    omega
  have hLl:((l.drop c).take (szN h)++List.replicate (szN h - (l.length - c)) (fP (szN w) 0)).length=szN h:=by
   simp
   omega
  generalize (l.drop c).take (szN h)++List.replicate (szN h - (l.length - c)) (fP (szN w) 0)=L at hL hLl
  refine eH (fun i=>((⟨(szN w:Int),(L.take i).map (rsz (szN w))++L.drop i⟩:aX),(i:Int))) L.length (⟨(szN w:Int),L.map (rsz (szN w))⟩:aX) ?_ ?_ ?_ rfl
  ·simp
  ·intro i hi
   dsimp only
   have hd:(L.take i).map (rsz (szN w))++L.drop i=(L.take i).map (rsz (szN w))++L[i]::L.drop (i+1):=by rw [List.drop_eq_getElem_cons hi]
   have hlen:(L.take i).length=i:=by rw [List.length_take]; omega
   rw [decide_eq_true (by omega),cond_true,hd,lh (by simp; omega),aA,BV _ hw _ _ _ (hL _ (List.getElem_mem hi)),aA,w64 (by omega) (by omega)]
   dsimp only
   unfold pW
   rw [if_pos (by simp; omega),Int.toNat_natCast,mT (by simp; omega),List.take_succ_eq_append_getElem hi,List.map_append,List.append_assoc]
   rfl
  ·dsimp only
   rw [decide_eq_false (by omega),cond_false]
   simp
theorem wY (w0:Int) (l:List aE) (w h off:Int) (h1:1≤l.length) (h2:l.length≤1000000) (hr: ∀ r∈l,r.cells.length≤1000000):jK ⟨w0,l.map told⟩ w h off=some (⟨(szN w:Int),(rzL (szN w) l (loS l off) (szN h)).map told⟩,(l.take (loS l off)).map told):=by
 unfold jK
 dsimp only
 have hw:=jz w
 have hh:=jz h
 rw [List.length_map,w64 (x:=(l.length:Int) - 1) (by omega) (by omega),fg,dY,mj]
 have hc:=qm l off h1
 generalize loS l off=c at hc
 rw [nG,aA]
 refine eH (fun i=>((⟨(szN w:Int),((rzL (szN w) l c (szN h)).take i).map told⟩:cH),(i:Int))) (szN h) (⟨(szN w:Int),(rzL (szN w) l c (szN h)).map told⟩:cH) rfl ?_ ?_ ?_
 ·intro i hi
  dsimp only
  have hrl:=jQ (szN w) l c (szN h)
  have hil:i < (rzL (szN w) l c (szN h)).length:=by omega
  rw [nG,aA,decide_eq_true (by omega),cond_true,w64 (x:=(c:Int)+(i:Int)) (by omega) (by omega),w64 (x:=(i:Int)+1) (by omega) (by omega),List.take_succ_eq_append_getElem hil,List.map_append]
  by_cases hci:c+i < l.length
  ·have hg:(rzL (szN w) l c (szN h))[i]=rsz (szN w) l[c+i]:=by
    simp only [rzL,List.getElem_map]
    rw [List.getElem_append_left (by simp; omega)]
    simp
   rw [decide_eq_true (by omega),cond_true,show (c:Int)+(i:Int)=((c+i:Nat):Int) by omega,cO _ _ (by simpa using hci),aA,List.getElem_map,zr _ hw _ (hr _ (List.getElem_mem hci)),aA,bK (by simp; omega),aA,aA,hg]
   rfl
  ·have hg:(rzL (szN w) l c (szN h))[i]=fP (szN w) 0:=by
    simp only [rzL,List.getElem_map]
    rw [List.getElem_append_right (by simp; omega)]
    simp [Az]
   rw [decide_eq_false (by omega),cond_false,s9 _ _ hw,aA,bK (by simp; omega),aA,aA,hg]
   rfl
 ·dsimp only
  rw [nG,aA,decide_eq_false (by omega),cond_false,List.take_of_length_le (by rw [jQ]; omega)]
 ·rw [bV (by omega) (by omega) (by omega),aA,nE,List.map_take]
theorem G2 {W:Nat} {l:List aE} (hl: ∀ r∈l,okR r.cells) (W':Nat) (c H:Nat) (h1:1≤W') (h2:W'≤1000) (h3:1≤H) (h4:H≤1000):GI W' (rzL W' l c H):=by
 refine ⟨h1,h2,by rw [jQ]; exact h3,by rw [jQ]; exact h4,?_⟩
 intro r hr
 unfold rzL at hr
 obtain ⟨q,hq,rfl⟩:=List.mem_map.1 hr
 refine zt _ _ ?_
 rcases List.mem_append.1 hq with hq | hq
 ·exact hl q (List.mem_of_mem_drop (List.mem_of_mem_take hq))
 ·rw [List.eq_of_mem_replicate hq]
  exact (pJ _ _).2
end Go.Tw.X
set_option linter.unusedVariables false
set_option linter.unusedSimpArgs false
namespace Go.Tw.X
open Go Go.Tw
def B1 (e:Int):List Int:=if e < 128 then [e] else if e < 2048 then [192+e / 64,128+e % 64] else if e < 65536 then [224+e / 4096,128+e / 64 % 64,128+e % 64] else [240+e / 262144,128+e / 4096 % 64,128+e / 64 % 64,128+e % 64]
def uS (r:Int):Int:=if r < 0∨r > 1114111∨(r≥55296∧r≤57343) then 65533 else r
def qn (r:Int):List Int:=B1 (uS r)
theorem zv (r:Int):0≤uS r∧uS r≤1114111:=by unfold uS; split <;> omega
theorem G3 (r:Int):((bif (decide (r < 0)) then some true else (bif (decide (r > 1114111)) then some true else (bif (decide (r≥55296)) then some (decide (r≤57343)) else some false))):Option Bool)=some (decide (r < 0∨r > 1114111∨(r≥55296∧r≤57343))):=by
 rw [uR]
 by_cases a:r < 0
 ·simp [a]
 ·by_cases b:r > 1114111
  ·simp [a,b]
  ·simp [a,b]
theorem zw (r:Int):((bif (decide (r < 0∨r > 1114111∨(r≥55296∧r≤57343))) then some 65533 else some r):Option Int)=some (uS r):=by
 unfold uS
 by_cases h:r < 0∨r > 1114111∨(r≥55296∧r≤57343)
 ·rw [if_pos h,decide_eq_true h,cond_true]
 ·rw [if_neg h,decide_eq_false h,cond_false]
theorem wZ (e:Int):(B1 e).length≤4:=by
 unfold B1
 split
 ·simp
 ·split
  ·simp
  ·split <;> simp
theorem m63 (x:Int) (h0:0≤x) (h1:x < 2147483648):Go.bits .and .i32 x 63=x % 64:=by
 have h:=bits_mask .i32 31 (by decide) wraps_i32 6 (by decide) x h0 (by omega)
 have e:((2:Int) ^ 6 - 1)=63:=by decide
 have e2:((2:Int) ^ 6)=64:=by decide
 rw [e,e2] at h
 exact h
theorem F8 (y:Int) (h0:0≤y) (h1:y < 64):Go.bits .or .i32 128 y=128+y:=bits_join .i32 31 (by decide) wraps_i32 6 128 y (by decide) (by decide) (by decide) h0 (by omega) (by omega)
theorem HY (y:Int) (h0:0≤y) (h1:y < 32):Go.bits .or .i32 192 y=192+y:=bits_join .i32 31 (by decide) wraps_i32 5 192 y (by decide) (by decide) (by decide) h0 (by omega) (by omega)
theorem HZ (y:Int) (h0:0≤y) (h1:y < 16):Go.bits .or .i32 224 y=224+y:=bits_join .i32 31 (by decide) wraps_i32 4 224 y (by decide) (by decide) (by decide) h0 (by omega) (by omega)
theorem H0 (y:Int) (h0:0≤y) (h1:y < 8):Go.bits .or .i32 240 y=240+y:=bits_join .i32 31 (by decide) wraps_i32 3 240 y (by decide) (by decide) (by decide) h0 (by omega) (by omega)
theorem sh6 (e:Int):e.fdiv (2 ^ (min 6 32))=e / 64:=by rw [Int.fdiv_eq_ediv_of_nonneg _ (by decide)]; rfl
theorem Ia (e:Int):e.fdiv (2 ^ (min 12 32))=e / 4096:=by rw [Int.fdiv_eq_ediv_of_nonneg _ (by decide)]; rfl
theorem Ib (e:Int):e.fdiv (2 ^ (min 18 32))=e / 262144:=by rw [Int.fdiv_eq_ediv_of_nonneg _ (by decide)]; rfl
theorem o3 {x:Int} (h0:0≤x) (h1:x < 256):IntKind.u8.wrap x=x:=by rw [IntKind.wrap_u8]; omega
theorem El (r:Int):jI r=some (gS (qn r)):=by
 unfold jI qn
 rw [G3,aA,zw,aA]
 obtain ⟨h0,h1⟩:=zv r
 generalize uS r=e at h0 h1
 have d1:e.tdiv 64=e / 64:=Int.tdiv_eq_ediv_of_nonneg h0
 have d2:e.tdiv 4096=e / 4096:=Int.tdiv_eq_ediv_of_nonneg h0
 have d3:e.tdiv 262144=e / 262144:=Int.tdiv_eq_ediv_of_nonneg h0
 have m1:e.tmod 64=e % 64:=Int.tmod_eq_emod_of_nonneg h0
 have m2:(e / 64).tmod 64=e / 64 % 64:=Int.tmod_eq_emod_of_nonneg (by omega)
 have m3:(e / 4096).tmod 64=e / 4096 % 64:=Int.tmod_eq_emod_of_nonneg (by omega)
 have w1:IntKind.i64.wrap (e / 64)=e / 64:=w64 (by omega) (by omega)
 have w2:IntKind.i64.wrap (e / 4096)=e / 4096:=w64 (by omega) (by omega)
 have w3:IntKind.i64.wrap (e / 262144)=e / 262144:=w64 (by omega) (by omega)
 rw [d1,d2,d3,w1,w2,w3,m1,m2,m3]
 unfold B1
 by_cases c1:e < 128
 ·rw [decide_eq_true c1,cond_true,if_pos c1,o3 h0 (by omega)]
 ·rw [decide_eq_false c1,cond_false,if_neg c1]
  rw [w64 (x:=128+e % 64) (by omega) (by omega),o3 (x:=128+e % 64) (by omega) (by omega)]
  by_cases c2:e < 2048
  ·rw [decide_eq_true c2,cond_true,if_pos c2,w64 (by omega) (by omega),o3 (by omega) (by omega)]
  ·rw [decide_eq_false c2,cond_false,if_neg c2]
   rw [w64 (x:=128+e / 64 % 64) (by omega) (by omega),o3 (x:=128+e / 64 % 64) (by omega) (by omega)]
   by_cases c3:e < 65536
   ·rw [decide_eq_true c3,cond_true,if_pos c3,w64 (by omega) (by omega),o3 (by omega) (by omega)]
   ·rw [decide_eq_false c3,cond_false,if_neg c3]
    rw [w64 (x:=128+e / 4096 % 64) (by omega) (by omega),o3 (x:=128+e / 4096 % 64) (by omega) (by omega),w64 (by omega) (by omega),o3 (by omega) (by omega)]
theorem vg (l:List Int):(l.flatMap qn).length≤4*l.length:=by
 induction l with
 | nil=>simp
 | cons a l ih =>
  rw [List.flatMap_cons,List.length_append,List.length_cons]
  have:=wZ (uS a)
  unfold qn at *
  omega
theorem Em (l:List Int) (h:l.length≤1000000):jF l=some (gS (l.flatMap qn)):=by
 unfold jF
 refine eH (fun i=>((l.take i).flatMap qn,(i:Int))) l.length (l.flatMap qn) rfl ?_ ?_ rfl
 ·intro i hi
  dsimp only
  have hfl:=vg (l.take i)
  have htl:(l.take i).length=i:=by rw [List.length_take]; omega
  rw [decide_eq_true (by omega),cond_true,cO l i hi,aA,G3,aA,zw,aA,List.take_succ_eq_append_getElem hi,List.flatMap_append,List.flatMap_singleton,w64 (by omega) (by omega)]
  generalize (l.take i).flatMap qn=D at hfl
  unfold qn
  obtain ⟨h0,h1⟩:=zv l[i]
  generalize uS l[i]=e at h0 h1
  rw [sh6,Ia,Ib,m63 e h0 (by omega),m63 (e / 64) (by omega) (by omega),m63 (e / 4096) (by omega) (by omega),F8 (e % 64) (by omega) (by omega),F8 (e / 64 % 64) (by omega) (by omega),F8 (e / 4096 % 64) (by omega) (by omega)]
  rw [o3 (x:=128+e % 64) (by omega) (by omega),o3 (x:=128+e / 64 % 64) (by omega) (by omega),o3 (x:=128+e / 4096 % 64) (by omega) (by omega)]
  unfold B1
  by_cases c1:e < 128
  ·rw [decide_eq_true c1,cond_true,if_pos c1,o3 h0 (by omega),bK (by simp; omega),aA]
   rfl
  ·rw [decide_eq_false c1,cond_false,if_neg c1]
   by_cases c2:e < 2048
   ·rw [decide_eq_true c2,cond_true,if_pos c2,HY _ (by omega) (by omega),o3 (by omega) (by omega),bK (by simp; omega),aA]
    rfl
   ·rw [decide_eq_false c2,cond_false,if_neg c2]
    by_cases c3:e < 65536
    ·rw [decide_eq_true c3,cond_true,if_pos c3,HZ _ (by omega) (by omega),o3 (by omega) (by omega),bK (by simp; omega),aA]
     rfl
    ·rw [decide_eq_false c3,cond_false,if_neg c3,H0 _ (by omega) (by omega),o3 (by omega) (by omega),bK (by simp; omega),aA]
     rfl
 ·dsimp only
  rw [decide_eq_false (by omega),cond_false,List.take_length]
theorem foldl_push (xs:List Int): ∀ l:List UInt8,xs.foldl (fun r n=>r.push (UInt8.ofNat n.toNat)) (ByteArray.mk l.toArray)=ByteArray.mk (l++xs.map (fun n=>UInt8.ofNat n.toNat)).toArray:=by
 induction xs with
 | nil=>intro l; simp
 | cons a xs ih =>
  intro l
  rw [List.foldl_cons]
  have:(ByteArray.mk l.toArray).push (UInt8.ofNat a.toNat)=ByteArray.mk (l++[UInt8.ofNat a.toNat]).toArray:=by
   show ByteArray.mk (l.toArray.push _)=_
   rw [List.push_toArray]
  rw [this,ih]
  simp
theorem oq (xs:List Int):gS xs=ByteArray.mk (xs.map (fun n=>UInt8.ofNat n.toNat)).toArray:=foldl_push xs []
theorem o4 (a b:List Int):gS (a++b)=gS a++gS b:=by
 rw [oq,oq,oq,ByteArray.mk_append_mk,List.map_append]
theorem jv (a:List Int):(gS a).size=a.length:=by
 rw [oq]
 simp [ByteArray.size]
theorem tY (r:aE) (h:r.cells.length≤1000000):iU (told r)=some ((jn r).map fun g=>⟨g.rune,g.aL⟩):=by
 unfold iU told
 dsimp only
 rw [gW]
 have k1: ∀ (n:Nat),n≤r.cells.length → ∃ m:Nat,m≤r.cells.length∧r.cells.take m=(if r.wrapped then r.cells.take n else l7 n (r.cells.take n))∧iter (σ:=Int) (ρ:=Int) (fun a=>(Option.bind ((bif (decide (a > 0)) then (bif (!r.wrapped) then (Option.bind (idx (r.cells.map tc) (IntKind.i64.wrap (a - 1))) fun b=>some ((b.rune == 32) && ((b.aL == 0) && ((b.part == 0) && true)))) else some false) else some false):Option Bool) fun c=>(bif c then some (.inl (IntKind.i64.wrap (a - 1))) else some (.inr a)))) (n:Int)=some (m:Int):=by
  intro n
  induction n with
  | zero =>
   intro _
   refine ⟨0,by omega,by simp [l7],?_⟩
   exact dS (by simp)
  | succ n ih =>
   intro hn
   cases hw:r.wrapped with
   | true =>
    refine ⟨n+1,hn,by simp,?_⟩
    exact dS (by simp)
   | false =>
    have hp:decide (((n+1:Nat):Int) > 0)=true:=decide_eq_true (by omega)
    have ew:IntKind.i64.wrap (((n+1:Nat):Int) - 1)=(n:Int):=by rw [w64 (by omega) (by omega)]; omega
    have hlt:n < r.cells.length:=by omega
    have hlast:(r.cells.take (n+1)).getLast?=some r.cells[n]:=by
     rw [List.take_succ_eq_append_getElem hlt,List.getLast?_concat]
    have hidx:idx (r.cells.map tc) (n:Int)=some (tc r.cells[n]):=by rw [cO _ _ (by simpa using hlt),List.getElem_map]
    have hcmp:(((tc r.cells[n]).rune == 32) && (((tc r.cells[n]).aL == 0) && (((tc r.cells[n]).part == 0) && true)))=decide (r.cells[n]=blk 0):=by
     show ((r.cells[n].rune == 32) && ((r.cells[n].aL == 0) && ((r.cells[n].part == 0) && true)))=_
     exact tS r.cells[n] (blk 0)
    unfold l7
    rw [hlast]
    by_cases hb:r.cells[n]=blk 0
    ·obtain ⟨m,hm,ht,hi⟩:=ih (by omega)
     refine ⟨m,hm,?_,?_⟩
     ·rw [ht,hw,hb]
      simp only [Bool.false_eq_true,if_false,if_true]
      congr 1
      rw [List.take_succ_eq_append_getElem hlt,List.dropLast_concat]
     ·rw [fm (s':=(n:Int))]
      ·rw [hw] at hi
       exact hi
      ·simp only [hp,Bool.not_false,cond_true,ew,hidx,aA,hcmp,decide_eq_true hb]
    ·refine ⟨n+1,hn,?_,?_⟩
     ·rw [if_neg (by simp),if_neg (by simpa using hb)]
     ·exact dS (by simp only [hp,Bool.not_false,cond_true,ew,hidx,aA,hcmp,decide_eq_false hb,cond_false])
 obtain ⟨m,hm,ht,hi⟩:=k1 r.cells.length (Nat.le_refl _)
 rw [List.take_length] at ht
 rw [hi,aA,bV (by omega) (by omega) (by omega),aA,nE,← List.map_take,ht]
 have hE:(if r.wrapped then r.cells else l7 r.cells.length r.cells).length≤1000000:=by
  split
  ·exact h
  ·exact Nat.le_trans (mD _ _) h
 unfold jn BN
 generalize (if r.wrapped then r.cells else l7 r.cells.length r.cells)=L at hE
 refine eH (fun i=>((i:Int),(oo (L.take i)).map fun g=>(⟨g.rune,g.aL⟩:bW))) L.length ((oo L).map fun g=>(⟨g.rune,g.aL⟩:bW)) rfl ?_ ?_ rfl
 ·intro i hil
  dsimp only
  have hgl:=oW (L.take i)
  rw [List.length_take] at hgl
  rw [List.length_map,decide_eq_true (by omega),cond_true,cO _ _ (by simpa using hil),aA,List.getElem_map,List.take_succ_eq_append_getElem hil]
  have ho:((bif ((tc L[i]).part == 0) then some true else some ((tc L[i]).part == 1)):Option Bool)=some (isG L[i]):=by
   show ((bif (L[i].part == 0) then some true else some (L[i].part == 1)):Option Bool)=some (L[i].part == 0 || L[i].part == 1)
   cases (L[i].part == 0) <;> rfl
  rw [ho,aA,w64 (by omega) (by omega)]
  unfold oo
  rw [List.filter_append,List.map_append,List.map_append]
  cases hg:isG L[i] with
  | true =>
   unfold oo at hgl
   rw [cond_true,bK (by simp at hgl ⊢; omega),aA,aA]
   simp [hg,tc]
  | false =>
   rw [cond_false,aA]
   simp [hg]
 ·dsimp only
  rw [List.length_map,decide_eq_false (by omega),cond_false,List.take_length]
def w7 (r:aE):ByteArray:=gS ((jn r).flatMap fun g=>qn g.rune)
theorem o6 (r:aE):(jn r).length≤r.cells.length:=by
 unfold jn BN
 refine Nat.le_trans (oW _) ?_
 split
 ·exact Nat.le_refl _
 ·exact mD _ _
theorem AA (l:List aH):(l.flatMap fun g=>qn g.rune).length≤4*l.length:=by
 have:=vg (l.map (·.rune))
 rw [List.flatMap_map,List.length_map] at this
 exact this
theorem mL {n m:Nat} (h:n+m≤4611686018427387904):chk (uP n m)=some ():=kX h
theorem B2 (r:aE) (h:r.cells.length≤1000000):k8 (told r)=some (w7 r):=by
 unfold k8 w7
 have hg:=o6 r
 rw [tY r h,aA]
 generalize jn r=L at hg
 refine eH (fun i=>(gS ((L.take i).flatMap fun g=>qn g.rune),(i:Int))) L.length (gS (L.flatMap fun g=>qn g.rune)) ?_ ?_ ?_ ?_
 ·rw [List.take_zero,List.flatMap_nil,oq]
  rfl
 ·intro i hi
  dsimp only
  have h4:=AA (L.take i)
  have h5:=wZ (uS L[i].rune)
  rw [List.length_take] at h4
  rw [List.length_map,decide_eq_true (by omega),cond_true,cO _ _ (by simpa using hi),aA,List.getElem_map]
  dsimp only
  rw [El,aA]
  have h6:(qn L[i].rune).length≤4:=h5
  rw [mL (by rw [jv,jv]; omega),aA,w64 (by omega) (by omega),List.take_succ_eq_append_getElem hi,List.flatMap_append,List.flatMap_singleton,o4]
  have ec:((i:Int)+1)=((i+1:Nat):Int):=by omega
  rw [ec]
 ·dsimp only
  rw [List.length_map,decide_eq_false (by omega),cond_false,List.take_length]
 ·rfl
theorem B3 (w:Int) (l:List aE) (hl:l.length≤1000000) (h: ∀ r∈l,r.cells.length≤1000000):iQ ⟨w,l⟩=some (l.map w7):=by
 unfold iQ
 dsimp only
 refine eH (fun i=>((i:Int),(l.take i).map w7)) l.length (l.map w7) rfl ?_ ?_ rfl
 ·intro i hi
  dsimp only
  have hr:=h _ (List.getElem_mem hi)
  have hg:=o6 l[i]
  rw [decide_eq_true (by omega),cond_true,cO l i hi,aA,ve _ hr,aA]
  rw [show (some (Sum.inl (((i+1:Nat):Int),(l.take (i+1)).map w7)):Option ((Int×List ByteArray) ⊕ List ByteArray))=some (Sum.inl (((i+1:Nat):Int),(l.take i).map w7++[gS (((jn l[i]).map (·.rune)).flatMap qn)])) by
   rw [List.take_succ_eq_append_getElem hi,List.map_append,List.flatMap_map]; rfl]
  generalize jn l[i]=L at hg
  refine eH (fun j=>((j:Int),(L.take j).map (·.rune))) L.length (L.map (·.rune)) rfl ?_ ?_ ?_
  ·intro j hj
   dsimp only
   rw [decide_eq_true (by omega),cond_true,cO L j hj,aA,bK (by simp; omega),aA,w64 (by omega) (by omega),List.take_succ_eq_append_getElem hj,List.map_append]
   rfl
  ·dsimp only
   rw [decide_eq_false (by omega),cond_false,List.take_length]
  ·rw [Em _ (by rw [List.length_map]; omega),aA,bK (by simp; omega),aA,w64 (by omega) (by omega)]
   rfl
 ·dsimp only
  rw [decide_eq_false (by omega),cond_false,List.take_length]
end Go.Tw.X
set_option linter.unusedVariables false
set_option linter.unusedSimpArgs false
namespace Go.Tw.X
open Go Go.Tw
def nI (n:Nat):List Int:=if n < 128 then [(n:Int)] else ((128+n % 128:Nat):Int)::nI (n / 128)
termination_by n
decreasing_by omega
def clN (n:Int):Nat:=(max 0 (min n 4611686018427387904)).toNat
theorem B4 (n:Int):imax 0 (dF n 4611686018427387904)=(clN n:Int):=by rw [fg,dY]; unfold clN; omega
theorem yz (n:Int):clN n≤4611686018427387904:=by unfold clN; omega
def nJ (n:Int):List Int:=nI (clN n)
theorem iH {n:Nat} (h:n < 128):nI n=[(n:Int)]:=by rw [nI,if_pos h]
theorem o7 {n:Nat} (h: ¬ n < 128):nI n=((128+n % 128:Nat):Int)::nI (n / 128):=by rw [nI,if_neg h]
theorem tZ: ∀ (k n:Nat),n < 128 ^ (k+1)→(nI n).length≤k+1:=by
 intro k
 induction k with
 | zero =>
  intro n h
  rw [iH (by omega)]
  simp
 | succ k ih =>
  intro n h
  by_cases hn:n < 128
  ·rw [iH hn]
   simp
  ·rw [o7 hn,List.length_cons]
   have:n / 128 < 128 ^ (k+1):=by
    rw [Nat.pow_succ] at h
    exact Nat.div_lt_of_lt_mul (by rw [Nat.mul_comm]; exact h)
   have:=ih _ this
   omega
theorem l8 (n:Int):(nJ n).length≤9:=tZ 8 _ (by have:=yz n; omega)
theorem F9 (x:Int) (h0:0≤x) (h1:x < 256):Go.bits .and .u8 x 127=x % 128:=by
 have h:=bits_mask .u8 8 (by decide) wraps_u8 7 (by decide) x h0 (by omega)
 have e:((2:Int) ^ 7 - 1)=127:=by decide
 have e2:((2:Int) ^ 7)=128:=by decide
 rw [e,e2] at h
 exact h
theorem or_comm (k:IntKind) (x y:Int):Go.bits .or k x y=Go.bits .or k y x:=by
 show k.wrap ((BitVec.ofInt k.bits x ||| BitVec.ofInt k.bits y).toNat:Int)=k.wrap ((BitVec.ofInt k.bits y ||| BitVec.ofInt k.bits x).toNat:Int)
 rw [BitVec.or_comm]
theorem En (y:Int) (h0:0≤y) (h1:y < 128):Go.bits .or .u8 y 128=128+y:=by
 rw [or_comm]
 exact bits_join .u8 8 (by decide) wraps_u8 7 128 y (by decide) (by decide) (by decide) h0 (by omega) (by omega)
theorem G4 (n:Nat):(n:Int).fdiv (2 ^ (min 7 64))=((n / 128:Nat):Int):=by
 rw [Int.fdiv_eq_ediv_of_nonneg _ (by decide)]
 show (n:Int) / 128=_
 omega
theorem AB (b:List Int) (x:Int) (hb:b.length≤100000000): ∃ e,jE (fun (s661:fj) (x619:Int)=>(Option.bind (chk (dC s661.b.length [x619].length 1)) fun _=>some ((fj.mk (s661.b++[x619])),true))) (⟨b⟩:fj) x=some ((⟨b++nJ x⟩:fj),e):=by
 unfold jE oe
 rw [B4,aA]
 unfold nJ
 have hle:=yz x
 generalize clN x=n at hle
 have key: ∀ (k n:Nat) (b:List Int),n < 128 ^ (k+1)→b.length+(k+1)≤100000010 → ∃ e,iter (σ:=Int×fj) (ρ:=(Int×fj) ⊕ (fj×Int)) (fun a=>(bif (decide (a.1≥128)) then (Option.bind ((fun (s661:fj) (x619:Int)=>(Option.bind (chk (dC s661.b.length [x619].length 1)) fun _=>some ((fj.mk (s661.b++[x619])),true))) a.2 (Go.bits .or .u8 (Go.bits .and .u8 (IntKind.u8.wrap a.1) 127) 128)) fun z68=>(bif (!z68.2) then (lT (some (z68.1,a.1))) else some (.inl ((a.1.fdiv (2 ^ (min 7 64))),z68.1)))) else some (.inr (.inl (a.1,a.2))))) ((n:Int),(⟨b⟩:fj))=some (.inl ((e:Int),(⟨b++(nI n).dropLast⟩:fj)))∧0≤e∧e < 128∧nI n=(nI n).dropLast++[e]:=by
  intro k
  induction k with
  | zero =>
   intro n b h hb
   refine ⟨n,?_,by omega,by omega,?_⟩
   ·rw [iH (by omega)]
    refine dS ?_
    dsimp only
    rw [decide_eq_false (by omega),cond_false]
    simp
   ·rw [iH (by omega)]
    rfl
  | succ k ih =>
   intro n b h hb
   by_cases hn:n < 128
   ·refine ⟨n,?_,by omega,by omega,?_⟩
    ·rw [iH hn]
     refine dS ?_
     dsimp only
     rw [decide_eq_false (by omega),cond_false]
     simp
    ·rw [iH hn]
     rfl
   ·have hlt:n / 128 < 128 ^ (k+1):=by
     rw [Nat.pow_succ] at h
     exact Nat.div_lt_of_lt_mul (by rw [Nat.mul_comm]; exact h)
    obtain ⟨e,h1,h2,h3,h4⟩:=ih (n / 128) (b++[((128+n % 128:Nat):Int)]) hlt (by simp; omega)
    refine ⟨e,?_,h2,h3,?_⟩
    ·rw [fm (s':=(((n / 128:Nat):Int),(⟨b++[((128+n % 128:Nat):Int)]⟩:fj)))]
     ·rw [h1,o7 hn]
      have hne:nI (n / 128)≠[]:=by rw [h4]; simp
      rw [List.dropLast_cons_of_ne_nil hne]
      simp
     ·dsimp only
      have hw:IntKind.u8.wrap (n:Int)=((n % 256:Nat):Int):=by rw [IntKind.wrap_u8]; omega
      have hv:Go.bits .or .u8 (Go.bits .and .u8 (IntKind.u8.wrap (n:Int)) 127) 128=((128+n % 128:Nat):Int):=by
       rw [hw,F9 _ (by omega) (by omega),En _ (by omega) (by omega)]
       omega
      rw [decide_eq_true (by omega),cond_true,hv,bK (by simp; omega),aA,aA]
      dsimp only
      rw [Bool.not_true,cond_false,G4]
    ·rw [o7 hn]
     have hne:nI (n / 128)≠[]:=by rw [h4]; simp
     rw [List.dropLast_cons_of_ne_nil hne,List.cons_append,← h4]
 obtain ⟨e,h1,h2,h3,h4⟩:=key 8 n b (by omega) (by omega)
 have hl:=tZ 8 n (by omega)
 have hd:(nI n).dropLast.length≤9:=by rw [List.length_dropLast]; omega
 refine ⟨e,?_⟩
 rw [h1,aA]
 dsimp only
 have hu:IntKind.u8.wrap e=e:=by rw [IntKind.wrap_u8]; omega
 rw [hu,bK (by simp only [List.length_append,List.length_singleton]; omega),aA,aA,List.append_assoc,← h4]
theorem zx (b:List Int) (l:List Int) (hb:b.length+9*l.length≤10000000):jq ⟨b⟩ l=some ⟨b++l.flatMap nJ⟩:=by
 unfold jq my
 have hfl: ∀ l:List Int,(l.flatMap nJ).length≤9*l.length:=by
  intro l
  induction l with
  | nil=>simp
  | cons a l ih =>
   rw [List.flatMap_cons,List.length_append,List.length_cons]
   have:=l8 a
   omega
 refine eH (fun i=>((⟨b++(l.take i).flatMap nJ⟩:fj),(i:Int))) l.length (⟨b++l.flatMap nJ⟩:fj) ?_ ?_ ?_ rfl
 ·simp
 ·intro i hi
  dsimp only
  have h4:=hfl (l.take i)
  rw [List.length_take] at h4
  obtain ⟨e,he⟩:=AB (b++(l.take i).flatMap nJ) l[i] (by rw [List.length_append]; omega)
  rw [decide_eq_true (by omega),cond_true,cO l i hi,aA,aA,he,aA,w64 (by omega) (by omega),List.take_succ_eq_append_getElem hi,List.flatMap_append,List.flatMap_singleton,List.append_assoc]
  rfl
 ·dsimp only
  rw [decide_eq_false (by omega),cond_false,List.take_length]
theorem vW (x:Int):iB x=some (gS (nJ x)):=by
 unfold iB
 rw [B4]
 unfold nJ
 have hle:=yz x
 generalize clN x=n at hle
 have key: ∀ (k n:Nat) (b:List Int),n < 128 ^ (k+1)→n≤4611686018427387904→b.length+(k+1)≤1000 → ∃ e,iter (σ:=Int×(List Int)) (ρ:=Int×(List Int)) (fun a=>(bif (decide (a.1≥128)) then (Option.bind (chk (dC a.2.length [(IntKind.u8.wrap (IntKind.i64.wrap (128+(a.1.tmod 128))))].length 1)) fun _=>some (.inl ((IntKind.i64.wrap (a.1.tdiv 128)),(a.2++[(IntKind.u8.wrap (IntKind.i64.wrap (128+(a.1.tmod 128))))])))) else some (.inr (a.1,a.2)))) ((n:Int),b)=some ((e:Int),b++(nI n).dropLast)∧0≤e∧e < 128∧nI n=(nI n).dropLast++[e]:=by
  intro k
  induction k with
  | zero =>
   intro n b h hmx hb
   refine ⟨n,?_,by omega,by omega,?_⟩
   ·rw [iH (by omega)]
    refine dS ?_
    dsimp only
    rw [decide_eq_false (by omega),cond_false]
    simp
   ·rw [iH (by omega)]
    rfl
  | succ k ih =>
   intro n b h hmx hb
   by_cases hn:n < 128
   ·refine ⟨n,?_,by omega,by omega,?_⟩
    ·rw [iH hn]
     refine dS ?_
     dsimp only
     rw [decide_eq_false (by omega),cond_false]
     simp
    ·rw [iH hn]
     rfl
   ·have hlt:n / 128 < 128 ^ (k+1):=by
     rw [Nat.pow_succ] at h
     exact Nat.div_lt_of_lt_mul (by rw [Nat.mul_comm]; exact h)
    obtain ⟨e,h1,h2,h3,h4⟩:=ih (n / 128) (b++[((128+n % 128:Nat):Int)]) hlt (by omega) (by simp; omega)
    refine ⟨e,?_,h2,h3,?_⟩
    ·have hbig:n < 9223372036854775808:=by omega
     ·rw [fm (s':=(((n / 128:Nat):Int),b++[((128+n % 128:Nat):Int)]))]
      ·rw [h1,o7 hn]
       have hne:nI (n / 128)≠[]:=by rw [h4]; simp
       rw [List.dropLast_cons_of_ne_nil hne]
       simp
      ·dsimp only
       have m1:(n:Int).tmod 128=((n % 128:Nat):Int):=by rw [Int.tmod_eq_emod_of_nonneg (by omega)]; omega
       have d1:(n:Int).tdiv 128=((n / 128:Nat):Int):=by rw [Int.tdiv_eq_ediv_of_nonneg (by omega)]; omega
       rw [decide_eq_true (by omega),cond_true,m1,d1,w64 (by omega) (by omega),w64 (by omega) (by omega),o3 (by omega) (by omega),bK (by simp; omega),aA]
       have:(128:Int)+((n % 128:Nat):Int)=((128+n % 128:Nat):Int):=by omega
       rw [this]
    ·rw [o7 hn]
     have hne:nI (n / 128)≠[]:=by rw [h4]; simp
     rw [List.dropLast_cons_of_ne_nil hne,List.cons_append,← h4]
 obtain ⟨e,h1,h2,h3,h4⟩:=key 8 n [] (by omega) hle (by simp)
 have hl:=tZ 8 n (by omega)
 have hd:(nI n).dropLast.length≤9:=by rw [List.length_dropLast]; omega
 rw [h1,aA]
 dsimp only
 rw [o3 h2 (by omega),bK (by simp only [List.length_append,List.length_singleton,List.length_nil]; omega),aA,List.nil_append,← h4]
end Go.Tw.X
set_option linter.unusedVariables false
set_option linter.unusedSimpArgs false
namespace Go.Tw.X
open Go Go.Tw
def most:Nat:=4611686018427387904
def rdp:Nat→Nat→Nat→List Int→Int ⊕ (Nat×Nat)
 | 0,_,_,_=> .inl 1
 | _+1,_,_,[]=> .inl 2
 | k+1,i,acc,b::r=>if b < 128 then (if (i > 0∧b=0)∨acc+b.toNat % 128*128 ^ i > most then .inl 1 else .inr (acc+b.toNat % 128*128 ^ i,i+1)) else rdp k (i+1) (acc+b.toNat % 128*128 ^ i) r
def noS:ByteArray:=ByteArray.mk #[]
theorem gX (s:ByteArray): ∀ b∈sbs s,0≤b∧b < 256:=by
 intro b hb
 unfold sbs at hb
 obtain ⟨c,_,rfl⟩:=List.mem_map.1 hb
 have:=c.toNat_lt
 omega
theorem qP (s:ByteArray) (i:Nat) (h:i < (sbs s).length):jY s (i:Int)=some (sbs s)[i]:=by
 unfold jY
 rw [decide_eq_true (by omega),cond_true,Int.toNat_natCast]
 have h2:i < s.data.size:=by rw [cF] at h; exact h
 rw [Array.getElem?_eq_getElem h2]
 simp only [sbs,Option.map_some,List.getElem_map,Array.getElem_toList]
def Ic (s:ByteArray):Int ⊕ (Nat×Nat)→Int×p7
 | .inl e=>(0,⟨noS,e⟩)
 | .inr (v,j)=>(v,⟨lF s j s.size,0⟩)
end Go.Tw.X
set_option linter.unusedVariables false
set_option linter.unusedSimpArgs false
namespace Go.Tw.X
open Go Go.Tw
theorem vX (a b:ByteArray):(a.toList == b.toList)=decide (a=b):=by
 rw [ByteArray.toList_eq,ByteArray.toList_eq]
 by_cases h:a=b
 ·subst h
  rw [decide_eq_true rfl,beq_self_eq_true]
 ·rw [decide_eq_false h]
  have: ¬ a.data.toList=b.data.toList:=fun e=>h (ByteArray.ext (Array.ext' e))
  simpa using this
theorem o8 (s:ByteArray) (lo hi:Nat):sbs (lF s lo hi)=((sbs s).take hi).drop lo:=by
 unfold sbs lF
 rw [ByteArray.data_extract,Int.toNat_natCast,Int.toNat_natCast]
 rw [Array.toList_extract]
 rw [List.extract_eq_take_drop,List.map_take,List.map_drop,List.drop_take]
theorem w9 (s:ByteArray):gS (sbs s)=s:=by
 rw [oq]
 unfold sbs
 rw [List.map_map]
 have:((fun n:Int=>UInt8.ofNat n.toNat) ∘ fun b:UInt8=>(b.toNat:Int))=id:=by
  funext b
  simp
 rw [this,List.map_id]
theorem xa (l:List Int) (h: ∀ b∈l,0≤b∧b < 256):sbs (gS l)=l:=by
 rw [oq]
 unfold sbs
 simp only [List.map_map]
 induction l with
 | nil=>rfl
 | cons a l ih =>
  have ha:=h a (List.mem_cons_self ..)
  rw [List.map_cons,ih fun b hb=>h b (List.mem_cons_of_mem _ hb)]
  congr 1
  show ((UInt8.ofNat a.toNat).toNat:Int)=a
  rw [UInt8.toNat_ofNat']
  omega
theorem vY {a b:ByteArray} (h:sbs a=sbs b):a=b:=by rw [← w9 a,h,w9]
theorem kG (a b:ByteArray):sbs (a++b)=sbs a++sbs b:=by
 unfold sbs
 rw [ByteArray.data_append]
 simp
theorem td (s:ByteArray):s=noS↔sbs s=[]:=⟨fun h=>by rw [h]; rfl,fun h=>vY (by rw [h]; rfl)⟩
def rdS (i:p7):Int×p7:=if i.e=0 then Ic i.s (rdp 9 0 0 (sbs i.s)) else (0,i)
end Go.Tw.X
set_option linter.unusedVariables false
set_option linter.unusedSimpArgs false
namespace Go.Tw.X
open Go Go.Tw
theorem Ga (r q:aE) (h:r.cells.length≤1000000) (hr:okR r.cells) (hq:okR q.cells):jH r (told q)=some (decide (r=q)):=by
 by_cases he:r=q
 ·subst he
  rw [BR r h hr,decide_eq_true rfl]
 rw [decide_eq_false he]
 unfold jH told
 simp only [gW]
 by_cases h1:r.cells.length=q.cells.length
 ·by_cases h2:r.wrapped=q.wrapped
  ·have e6:((bif ((r.cells.length:Int) != (q.cells.length:Int)) then some true else some (!(r.wrapped == q.wrapped))):Option Bool)=some false:=by simp [h1,h2]
   rw [e6,aA,cond_false]
   refine nD (fun i:Int=> ∃ n:Nat,i=n∧n≤r.cells.length∧r.cells.take n=q.cells.take n) (fun i=>(r.cells.length - i).toNat) (fun v=>v = .inr false) ⟨0,rfl,by omega,rfl⟩ ?_ (fun v hv=>by rw [hv])
   rintro i ⟨n,rfl,hn,ht⟩
   by_cases hlt:n < r.cells.length
   ·have hlq:n < q.cells.length:=by omega
    have hi2:idx (q.cells.map tc) (n:Int)=some (tc q.cells[n]):=by rw [cO _ _ (by simpa using hlq),List.getElem_map]
    have k1:=hr _ (List.getElem_mem hlt)
    have k2:=hq _ (List.getElem_mem hlq)
    have hcmp:(Option.bind (some (tc q.cells[n])) fun e=>(bif ((IntKind.i64.wrap r.cells[n].rune) != e.rune) then some true else (Option.bind (some (tc q.cells[n])) fun f=>(bif (r.cells[n].aL != f.aL) then some true else (Option.bind (some (tc q.cells[n])) fun g=>some (r.cells[n].part != g.part))))))=some (decide (r.cells[n]≠q.cells[n])):=by
     simp only [aA,tc,w32 k1]
     generalize r.cells[n]=a
     generalize q.cells[n]=b
     obtain ⟨a1,a2,a3⟩:=a
     obtain ⟨b1,b2,b3⟩:=b
     by_cases g1:a1=b1 <;> by_cases g2:a2=b2 <;> by_cases g3:a3=b3 <;> simp [g1,g2,g3]
     all_goals first | (have:(a1 != b1)=true:=by simpa using g1); simp [this] | (have:(a2 != b2)=true:=by simpa using g2); simp [this] | skip
    by_cases hc:r.cells[n]=q.cells[n]
    ·refine .inl ⟨((n+1:Nat):Int),?_,⟨n+1,rfl,hlt,?_⟩,by (try dsimp only); omega⟩
     ·rw [decide_eq_true (by omega),cond_true,cO _ _ hlt,aA,hi2,hcmp,aA,decide_eq_false (by simpa using hc),cond_false,w64 (by omega) (by omega)]
      rfl
     ·rw [List.take_succ_eq_append_getElem hlt,List.take_succ_eq_append_getElem hlq,ht,hc]
    ·refine .inr ⟨.inr false,?_,rfl⟩
     rw [decide_eq_true (by omega),cond_true,cO _ _ hlt,aA,hi2,hcmp,aA,decide_eq_true (by simpa using hc),cond_true]
     rfl
   ·exfalso
    have hn2:n=r.cells.length:=by omega
    subst hn2
    rw [List.take_length,h1,List.take_length] at ht
    apply he
    obtain ⟨a,b⟩:=r
    obtain ⟨c,d⟩:=q
    simp_all
  ·have e6:((bif ((r.cells.length:Int) != (q.cells.length:Int)) then some true else some (!(r.wrapped == q.wrapped))):Option Bool)=some true:=by simp [h1,h2]
   rw [e6,aA,cond_true]
 ·have e7:((r.cells.length:Int) != (q.cells.length:Int))=true:=by simp; omega
  rw [e7,cond_true,aA,cond_true]
theorem xc (l:List aE) (hl:l.length≤1000000) (h: ∀ r∈l,r.cells.length≤1000000∧okR r.cells):fO l (l.map told)=some true:=by
 unfold fO
 have e0:((l.length:Int) != ((l.map told).length:Int))=false:=by simp
 rw [e0,cond_false]
 refine eH (fun i=>(i:Int)) l.length (.inl ()) rfl ?_ ?_ rfl
 ·intro i hi
  try dsimp only
  have hr:=h _ (List.getElem_mem hi)
  rw [List.length_map,decide_eq_true (by omega),cond_true,cO l i hi,aA,cO _ _ (by simpa using hi),aA,List.getElem_map,BR _ hr.1 hr.2,aA,Bool.not_true,cond_false,w64 (by omega) (by omega)]
  rfl
 ·try dsimp only
  rw [List.length_map,decide_eq_false (by omega),cond_false]
theorem GI.both {W:Nat} {l:List aE} (h:GI W l): ∀ r∈l,r.cells.length≤1000000∧okR r.cells:=fun r hr=>⟨h.len r hr,(h.rs r hr).2⟩
theorem Gb {W:Nat} {l:List aE} (h:GI W l):lJ ⟨W,l⟩ ⟨W,l.map told⟩=some (true,⟨W,l⟩):=by
 have hl:l.length≤1000000:=by have:=h.l2; omega
 unfold lJ cY
 rw [aA,B3 _ _ hl h.len,aA]
 try dsimp only
 have n1:iK l (-1)=BU:=by unfold iK; rw [if_neg (by omega)]
 have n2:iK l (l.length:Int)=BU:=by unfold iK; rw [if_neg (by omega)]
 have e1:((W:Int) != (W:Int))=false:=by simp
 have e2:((l.length:Int) != ((l.map told).length:Int))=false:=by simp
 have e3:(((l.map w7).length:Int) != (l.length:Int))=false:=by simp
 have e4:((BU.cells.length:Int) != 0)=false:=rfl
 rw [e1,cond_false,e2,cond_false,qK _ _ hl h.len,aA,xc _ hl h.both,aA,Bool.not_true,cond_false,e3,cond_false,vU _ _ _ h.len,aA,n1,e4,cond_false,vU _ _ _ h.len,aA,n2,e4,aA]
 try dsimp only
 rw [cond_false]
 refine eH (fun i=>(i:Int)) l.length (.inl ()) rfl ?_ ?_ rfl
 ·intro i hi
  try dsimp only
  have hr:=h.both _ (List.getElem_mem hi)
  rw [List.length_map,decide_eq_true (by omega),cond_true,cO _ _ (by simpa using hi),aA,List.getElem_map,vU _ _ _ h.len,aA,vT hi,BR _ hr.1 hr.2,aA,Bool.not_true,cond_false,cO _ _ (by simpa using hi),aA,List.getElem_map,B2 _ hr.1,aA,beq_self_eq_true,Bool.not_true,aA,cond_false,w64 (by omega) (by omega)]
  rfl
 ·try dsimp only
  rw [List.length_map,decide_eq_false (by omega),cond_false]
theorem B5 {W:Nat} {l:List aE} (h:GI W l) (y:Int) (r:aE) (hr:okR r.cells):GI W (pW W l y r):=⟨h.w1,h.w2,by rw [jP]; exact h.l1,by rw [jP]; exact h.l2,Ax h.rs y r hr⟩
end Go.Tw.X
set_option linter.unusedVariables false
set_option linter.unusedSimpArgs false
namespace Go.Tw.X
open Go Go.Tw
def Ie:p7:=⟨noS,1⟩
def G5 (i:p7) (m:Int):Int×p7:=if (rdS i).1 > m then (0,Ie) else rdS i
end Go.Tw.X
set_option linter.unusedVariables false
set_option linter.unusedSimpArgs false
namespace Go.Tw.X
open Go Go.Tw
theorem Ig (a b:Bool):((bif a then some b else some false):Option Bool)=some (a && b):=by cases a <;> rfl
structure SW (s:iy):Prop where
 w1: -9223372036854775808≤s.w∧s.w≤9223372036854775807
 h1: -9223372036854775808≤s.h∧s.h≤9223372036854775807
 gl: ∀ g∈s.begun,rok g.rune
 ro: ∀ r∈s.rows,okR r.cells∧r.cells.length≤1000
 rl:s.rows.length≤1000
 bl:s.begun.length≤2000
 tl:s.title.size≤1000
end Go.Tw.X
set_option linter.unusedVariables false
set_option linter.unusedSimpArgs false
namespace Go.Tw.X
open Go Go.Tw
def tg (g:aH):bW:=⟨g.rune,g.aL⟩
@[reducible] def zy (s:iy):kc:=⟨s.k,s.w,s.h,s.x,s.y,s.title,s.rows.map told,s.len,s.chain,s.begun.map tg⟩
end Go.Tw.X
set_option linter.unusedVariables false
set_option linter.unusedSimpArgs false
namespace Go.Tw.X
open Go Go.Tw
def uT (g:aH):List Int:=[g.rune,g.aL].flatMap nJ
def p9 (l:List aH):List Int:=nJ l.length++l.flatMap uT
theorem B6 (g:aH):(uT g).length≤18:=by
 unfold uT
 simp only [List.flatMap_cons,List.flatMap_nil,List.length_append,List.length_nil]
 have h1:=l8 g.rune
 have h2:=l8 g.aL
 omega
theorem rR (l:List aH):(l.flatMap uT).length≤18*l.length:=by
 induction l with
 | nil=>simp
 | cons a t ih =>
  rw [List.flatMap_cons,List.length_append,List.length_cons]
  have:=B6 a
  omega
theorem B7 (l:List aH) (h:l.length≤2000) (hr: ∀ g∈l,rok g.rune):lU l=some (gS (p9 l)):=by
 unfold lU kB p9
 have he:=l8 (l.length:Int)
 rw [zx [] _ (by simp),aA]
 have e0:([]++[(l.length:Int)].flatMap nJ)=nJ l.length:=by simp
 rw [e0]
 refine eH (fun i=>((⟨nJ l.length++(l.take i).flatMap uT⟩:fj),(i:Int))) l.length (⟨nJ l.length++l.flatMap uT⟩:fj) (by simp) ?_ ?_ rfl
 ·intro i hi
  dsimp only
  have h2:=rR (l.take i)
  rw [List.length_take] at h2
  rw [decide_eq_true (by omega),cond_true,cO _ _ hi,aA,w32 (hr _ (List.getElem_mem hi)),zx _ _ (by simp only [List.length_append,List.length_cons,List.length_nil]; omega),aA,w64 (by omega) (by omega),List.take_succ_eq_append_getElem hi,List.flatMap_append,List.flatMap_singleton,List.append_assoc]
  rfl
 ·dsimp only
  rw [decide_eq_false (by omega),cond_false,List.take_length]
theorem AD (l:List aH) (h:l.length≤2000):ld (l.map tg)=some (gS (p9 l)):=by
 unfold ld p9
 have he:=l8 (l.length:Int)
 rw [List.length_map,vW,aA]
 refine eH (fun i=>((i:Int),gS (nJ l.length++(l.take i).flatMap uT))) l.length (gS (nJ l.length++l.flatMap uT)) (by simp) ?_ ?_ rfl
 ·intro i hi
  dsimp only
  have h2:=rR (l.take i)
  rw [List.length_take] at h2
  have h3:=l8 l[i].rune
  have h4:=l8 l[i].aL
  rw [decide_eq_true (by omega),cond_true,cO _ _ (by simpa using hi),aA,List.getElem_map]
  show Option.bind (iB l[i].rune) _=_
  rw [vW,aA]
  show Option.bind (iB l[i].aL) _=_
  rw [vW,aA,mL (by rw [jv,jv]; omega),aA,← o4,mL (by rw [jv,jv,List.length_append,List.length_append]; omega),aA,← o4,w64 (by omega) (by omega),List.take_succ_eq_append_getElem hi,List.flatMap_append,List.flatMap_singleton,List.append_assoc]
  have hE:uT l[i]=nJ l[i].rune++nJ l[i].aL:=by unfold uT; simp
  rw [hE]
  rfl
 ·dsimp only
  rw [decide_eq_false (by omega),cond_false,List.take_length]
end Go.Tw.X
set_option linter.unusedVariables false
set_option linter.unusedSimpArgs false
namespace Go.Tw.X
open Go Go.Tw
def Ih (j:p7) (n:Int):ByteArray×p7:=if j.e≠0 then (noS,j) else if n > j.s.size then (noS,⟨noS,2⟩) else (lF j.s 0 n,⟨lF j.s n j.s.size,0⟩)
def Ii (i:p7):ByteArray×p7:=Ih (rdS i).2 (rdS i).1
end Go.Tw.X
set_option linter.unusedVariables false
set_option linter.unusedSimpArgs false
namespace Go.Tw.X
open Go Go.Tw
def hA (s:ByteArray):=rdS ⟨s,0⟩
def hB (s:ByteArray):=G5 (hA s).2 1000
def hC (s:ByteArray):=G5 (hB s).2 1000
def hD (s:ByteArray):=rdS (hC s).2
def hE (s:ByteArray):=rdS (hD s).2
def hT (s:ByteArray):=Ii (hE s).2
end Go.Tw.X
set_option linter.unusedVariables false
set_option linter.unusedSimpArgs false
namespace Go.Tw.X
open Go Go.Tw
theorem vh {α:Type} [DecidableEq α] (a b:List α) (hl:a.length=b.length) (f:Int→Option (Int ⊕ (Unit ⊕ Bool))) (hf: ∀ (n:Nat) (h1:n < a.length) (h2:n < b.length),f (n:Int)=if a[n]=b[n] then some (.inl ((n+1:Nat):Int)) else some (.inr (.inr false))) (he:f (a.length:Int)=some (.inr (.inl ()))):iter f 0=some (if a=b then .inl () else .inr false):=by
 obtain ⟨r,h1,h2⟩:=tU (f:=f) (fun i:Int=> ∃ n:Nat,i=n∧n≤a.length∧a.take n=b.take n) (fun i=>(a.length - i).toNat) (fun r=>r=(if a=b then .inl () else .inr false)) (by
  rintro i ⟨n,rfl,hn,ht⟩
  by_cases h1:n < a.length
  ·have h2:n < b.length:=by omega
   by_cases he:a[n]=b[n]
   ·refine .inl ⟨((n+1:Nat):Int),?_,⟨n+1,rfl,by omega,?_⟩,by (try dsimp only); omega⟩
    ·rw [hf n h1 h2,if_pos he]
    ·rw [List.take_succ_eq_append_getElem h1,List.take_succ_eq_append_getElem h2,ht,he]
   ·refine .inr ⟨.inr false,?_,?_⟩
    ·rw [hf n h1 h2,if_neg he]
    ·rw [if_neg]
     intro hab
     subst hab
     exact he rfl
  ·refine .inr ⟨.inl (),?_,?_⟩
   ·have hn2:n=a.length:=by omega
    rw [hn2,he]
   ·rw [if_pos]
    have hn2:n=a.length:=by omega
    subst hn2
    rw [List.take_length] at ht
    rw [ht,hl,List.take_length]) 0 ⟨0,rfl,by omega,rfl⟩
 rw [h1,h2]
theorem ua (a b:List aH) (ha:a.length≤1000000) (hr: ∀ g∈a,rok g.rune):iV a (b.map tg)=some (decide (a=b)):=by
 unfold iV
 rw [List.length_map]
 by_cases hl:a.length=b.length
 ·have e0:((a.length:Int) != (b.length:Int))=false:=by simp [hl]
  rw [e0,cond_false,vh a b hl]
  ·by_cases h:a=b
   ·rw [if_pos h,decide_eq_true h]; rfl
   ·rw [if_neg h,decide_eq_false h]; rfl
  ·intro n h1 h2
   have hi2:idx (b.map tg) (n:Int)=some (tg b[n]):=by rw [cO _ _ (by simpa using h2),List.getElem_map]
   try dsimp only
   have k1:=hr _ (List.getElem_mem h1)
   rw [decide_eq_true (by omega),cond_true,cO a n h1,aA,hi2,w64 (x:=(n:Int)+1) (by omega) (by omega)]
   simp only [aA,w32 k1]
   generalize a[n]=x
   generalize b[n]=y
   obtain ⟨x1,x2⟩:=x
   obtain ⟨y1,y2⟩:=y
   unfold tg
   by_cases g1:x1=y1 <;> by_cases g2:x2=y2 <;> simp [g1,g2,lT]
   all_goals first | (have:(x1 != y1)=true:=by simpa using g1); simp [this] | (have:(x2 != y2)=true:=by simpa using g2); simp [this] | skip
  ·try dsimp only
   rw [decide_eq_false (by omega),cond_false]
 ·have e0:((a.length:Int) != (b.length:Int))=true:=by simp; omega
  rw [e0,cond_true,decide_eq_false (fun h=>hl (by rw [h]))]
theorem B8 (a b:List aE) (ha:a.length≤1000000) (hr: ∀ r∈a,okR r.cells∧r.cells.length≤1000) (hq: ∀ r∈b,okR r.cells∧r.cells.length≤1000):fO a (b.map told)=some (decide (a=b)):=by
 unfold fO
 rw [List.length_map]
 by_cases hl:a.length=b.length
 ·have e0:((a.length:Int) != (b.length:Int))=false:=by simp [hl]
  rw [e0,cond_false,vh a b hl]
  ·by_cases h:a=b
   ·rw [if_pos h,decide_eq_true h]; rfl
   ·rw [if_neg h,decide_eq_false h]; rfl
  ·intro n h1 h2
   have hi2:idx (b.map told) (n:Int)=some (told b[n]):=by rw [cO _ _ (by simpa using h2),List.getElem_map]
   try dsimp only
   have k1:=hr _ (List.getElem_mem h1)
   have k2:=hq _ (List.getElem_mem h2)
   rw [decide_eq_true (by omega),cond_true,cO a n h1,aA,hi2,aA,Ga _ _ (by omega) k1.1 k2.1,aA,w64 (by omega) (by omega)]
   by_cases he:a[n]=b[n]
   ·rw [if_pos he,decide_eq_true he]; rfl
   ·rw [if_neg he,decide_eq_false he]; rfl
  ·try dsimp only
   rw [decide_eq_false (by omega),cond_false]
 ·have e0:((a.length:Int) != (b.length:Int))=true:=by simp; omega
  rw [e0,cond_true,decide_eq_false (fun h=>hl (by rw [h]))]
theorem B9 (s t:iy):decide (s=t)=((s.k == t.k) && ((s.w == t.w) && ((s.h == t.h) && ((s.x == t.x) && ((s.y == t.y) && ((s.title.toList == t.title.toList) && ((s.len == t.len) && ((s.chain == t.chain) && (decide (s.rows=t.rows) && decide (s.begun=t.begun)))))))))):=by
 rw [vX]
 obtain ⟨a1,a2,a3,a4,a5,a6,a7,a8,a9,a10⟩:=s
 obtain ⟨b1,b2,b3,b4,b5,b6,b7,b8,b9,b10⟩:=t
 rw [Bool.eq_iff_iff]
 simp only [decide_eq_true_eq,Bool.and_eq_true,beq_iff_eq,iy.mk.injEq]
 constructor
 ·rintro ⟨h1,h2,h3,h4,h5,h6,h7,h8,h9,h10⟩
  exact ⟨h1,h2,h3,h4,h5,h6,h8,h9,h7,h10⟩
 ·rintro ⟨h1,h2,h3,h4,h5,h6,h8,h9,h7,h10⟩
  exact ⟨h1,h2,h3,h4,h5,h6,h7,h8,h9,h10⟩
theorem Ep (s t:iy) (h:SW s) (h2:SW t):lK s (zy t)=some (decide (s=t)):=by
 unfold lK
 rw [B8 _ _ (by have:=h.rl; omega) h.ro h2.ro,aA,ua _ _ (by have:=h.bl; omega) h.gl,aA,B9]
 simp only [Ig,aA]
end Go.Tw.X
set_option linter.unusedVariables false
set_option linter.unusedSimpArgs false
namespace Go.Tw.X
open Go Go.Tw
def BB (l:List Int):Prop:= ∀ b∈l,0≤b∧b < 256
theorem ub (s:ByteArray):BB (sbs s):=gX s
end Go.Tw.X
set_option linter.unusedVariables false
set_option linter.unusedSimpArgs false
namespace Go.Tw.X
open Go Go.Tw
def qo (a:Nat):Nat:=(a >>> 1) ^^^ (if a % 2=1 then 3988292384 else 0)
def o9 (a:Nat):Nat:=qo (qo (qo (qo a)))
theorem qp {a b:Nat} (ha:a < 4294967296) (hb:b < 4294967296):a ^^^ b < 4294967296:=Nat.xor_lt_two_pow (n:=32) ha hb
theorem qQ {a:Nat} (h:a < 4294967296):qo a < 4294967296:=by
 unfold qo
 have:a >>> 1 < 4294967296:=by rw [Nat.shiftRight_eq_div_pow]; omega
 exact qp this (by split <;> omega)
theorem Es (a b:Nat):(a ^^^ b) % 2=(a % 2+b % 2) % 2:=by
 have h:=Nat.testBit_xor a b 0
 rw [Nat.testBit_zero,Nat.testBit_zero,Nat.testBit_zero] at h
 have ha:a % 2=0∨a % 2=1:=by omega
 have hb:b % 2=0∨b % 2=1:=by omega
 have hc:(a ^^^ b) % 2=0∨(a ^^^ b) % 2=1:=by omega
 rcases ha with ha | ha <;> rcases hb with hb | hb <;> rcases hc with hc | hc <;> rw [ha,hb,hc] at h <;> first | (exact absurd h (by decide)) | (rw [ha,hb,hc])
theorem qR (a b:Nat):qo (a ^^^ b)=qo a ^^^ qo b:=by
 unfold qo
 rw [Nat.shiftRight_xor_distrib,Es]
 have ha:a % 2=0∨a % 2=1:=by omega
 have hb:b % 2=0∨b % 2=1:=by omega
 generalize a >>> 1=x
 generalize b >>> 1=y
 rcases ha with ha | ha <;> rcases hb with hb | hb <;> rw [ha,hb]
 ·simp
 ·simp [Nat.xor_assoc]
 ·simp only [Nat.zero_add,Nat.add_zero]
  simp
  rw [Nat.xor_assoc,Nat.xor_assoc,Nat.xor_comm y]
 ·simp
  have:x ^^^ 3988292384 ^^^ (y ^^^ 3988292384)=x ^^^ y ^^^ (3988292384 ^^^ 3988292384):=by
   rw [Nat.xor_assoc,Nat.xor_assoc,← Nat.xor_assoc 3988292384 y,Nat.xor_comm 3988292384 y,Nat.xor_assoc]
  rw [this,Nat.xor_self,Nat.xor_zero]
theorem Ca (a b:Nat):o9 (a ^^^ b)=o9 a ^^^ o9 b:=by
 unfold o9
 rw [qR,qR,qR,qR]
theorem pL (k:Nat):qo (2*k)=k:=by
 unfold qo
 rw [if_neg (by omega),Nat.xor_zero,Nat.shiftRight_eq_div_pow]
 omega
theorem Eu (k:Nat):o9 (16*k)=k:=by
 unfold o9
 rw [show 16*k=2*(2*(2*(2*k))) by omega,pL,pL,pL,pL]
theorem vi (x:Nat):o9 x=(x / 16) ^^^ o9 (x % 16):=by
 have h:x=(16*(x / 16)) ^^^ (x % 16):=by
  have h1:16*(x / 16)+x % 16=x:=Nat.div_add_mod x 16
  have h2:(16*(x / 16)) ^^^ (x % 16)=16*(x / 16)+x % 16:=by
   have h3:2 ^ 4*(x / 16)+x % 16=(2 ^ 4*(x / 16)) ||| (x % 16):=Nat.two_pow_add_eq_or_of_lt (by omega) _
   apply Nat.eq_of_testBit_eq
   intro i
   have h4:(16*(x / 16)+x % 16)=(2 ^ 4*(x / 16)) ||| (x % 16):=h3
   rw [h4,Nat.testBit_xor,Nat.testBit_or]
   show ((2 ^ 4*(x / 16)).testBit i ^^ (x % 16).testBit i)=_
   rw [Nat.testBit_two_pow_mul]
   by_cases hi:i≥4
   ·have:(x % 16).testBit i=false:=by
     apply Nat.testBit_lt_two_pow
     have:2 ^ 4≤2 ^ i:=Nat.pow_le_pow_right (by omega) hi
     omega
    rw [this]
    simp
   ·simp [hi]
  rw [h2,h1]
 conv=>lhs; rw [h]
 rw [Ca,Eu]
theorem zz: ∀ n:Nat,n < 16→idx eD (n:Int)=some ((o9 n:Nat):Int):=by decide
theorem Gc {x:Int} (h0:0≤x) (h1:x < 4294967296):IntKind.u32.wrap x=x:=by
 unfold IntKind.wrap
 simp [IntKind.signed,IntKind.bits]
 omega
theorem zA {a b:Nat} (ha:a < 4294967296) (hb:b < 4294967296):Go.bits .xor .u32 (a:Int) (b:Int)=((a ^^^ b:Nat):Int):=by
 show IntKind.u32.wrap ((BitVec.ofInt 32 (a:Int) ^^^ BitVec.ofInt 32 (b:Int)).toNat:Int)=_
 rw [BitVec.ofInt_natCast,BitVec.ofInt_natCast,BitVec.toNat_xor,BitVec.toNat_ofNat,BitVec.toNat_ofNat,Nat.mod_eq_of_lt ha,Nat.mod_eq_of_lt hb]
 have:=qp ha hb
 exact Gc (by omega) (by omega)
theorem Fq {a b:Nat} (ha:a < 4294967296) (hb:b < 4294967296):Go.bits .xor .i64 (a:Int) (b:Int)=((a ^^^ b:Nat):Int):=by
 show IntKind.i64.wrap ((BitVec.ofInt 64 (a:Int) ^^^ BitVec.ofInt 64 (b:Int)).toNat:Int)=_
 rw [BitVec.ofInt_natCast,BitVec.ofInt_natCast,BitVec.toNat_xor,BitVec.toNat_ofNat,BitVec.toNat_ofNat,Nat.mod_eq_of_lt (by omega),Nat.mod_eq_of_lt (by omega)]
 have:=qp ha hb
 exact w64 (by omega) (by omega)
theorem Fs {a:Nat} (ha:a < 4294967296):Go.bits .and .u32 (a:Int) 15=((a % 16:Nat):Int):=by
 show IntKind.u32.wrap ((BitVec.ofInt 32 (a:Int) &&& BitVec.ofInt 32 15).toNat:Int)=_
 rw [BitVec.ofInt_natCast,BitVec.toNat_and,BitVec.toNat_ofNat,Nat.mod_eq_of_lt ha]
 have h:(BitVec.ofInt 32 15).toNat=2 ^ 4 - 1:=by decide
 rw [h,Nat.and_two_pow_sub_one_eq_mod]
 exact Gc (by omega) (by omega)
theorem Ft (a:Nat):((a:Int)).fdiv (2 ^ (min 4 32))=((a / 16:Nat):Int):=by
 rw [Int.fdiv_eq_ediv_of_nonneg _ (by decide)]
 rfl
def xd (x b:Nat):Nat:=o9 (o9 (x ^^^ b))
theorem qS {a:Nat} (h:a < 4294967296):o9 a < 4294967296:=qQ (qQ (qQ (qQ h)))
theorem Cb {x b:Nat} (h:x < 4294967296) (hb:b < 256):xd x b < 4294967296:=qS (qS (qp h (by omega)))
theorem step_eq {x b:Nat} (hx:x < 4294967296) (hb:b < 256):lG (x:Int) (b:Int)=some ((xd x b:Nat):Int):=by
 unfold lG xd
 rw [Gc (by omega) (by omega),zA hx (by omega)]
 have h1:=qp hx (show b < 4294967296 by omega)
 generalize x ^^^ b=y at h1
 rw [Fs h1,zz _ (by omega),aA,Ft,zA (by omega) (qS (by omega)),← vi]
 have h2:=qS h1
 generalize o9 y=z at h2
 rw [Fs h2,zz _ (by omega),aA,Ft,zA (by omega) (qS (by omega)),← vi]
def Cc (y:Nat):Nat→Nat
 | 0=>y
 | i+1=>qo (Cc y i)
theorem G6 {y:Nat} (hy:y < 4294967296):iter (σ:=Int×Int) (ρ:=Int) (fun a=>(bif (decide (a.2 < 8)) then (Option.bind ((bif ((a.1.tmod 2) == 1) then some (Go.bits .xor .i64 (IntKind.i64.wrap (a.1.tdiv 2)) 3988292384) else some (IntKind.i64.wrap (a.1.tdiv 2))):Option Int) fun c=>some (.inl (c,(IntKind.i64.wrap (a.2+1))))) else some (.inr a.1))) ((y:Int),0)=some ((o9 (o9 y):Nat):Int):=by
 have st: ∀ (z n:Nat),z < 4294967296→n < 8→(bif (decide ((n:Int) < 8)) then (Option.bind ((bif (((z:Int).tmod 2) == 1) then some (Go.bits .xor .i64 (IntKind.i64.wrap ((z:Int).tdiv 2)) 3988292384) else some (IntKind.i64.wrap ((z:Int).tdiv 2))):Option Int) fun c=>some (.inl (c,(IntKind.i64.wrap ((n:Int)+1))))) else some (.inr (z:Int)):Option ((Int×Int) ⊕ Int))=some (.inl (((qo z:Nat):Int),((n+1:Nat):Int))):=by
  intro z n hz hn
  have h1:(z:Int).tdiv 2=((z >>> 1:Nat):Int):=by
   rw [Int.tdiv_eq_ediv_of_nonneg (by omega),Nat.shiftRight_eq_div_pow]
   rfl
  have h2:(z:Int).tmod 2=((z % 2:Nat):Int):=by
   rw [Int.tmod_eq_emod_of_nonneg (by omega)]
   rfl
  have h3:z >>> 1 < 4294967296:=by rw [Nat.shiftRight_eq_div_pow]; omega
  rw [decide_eq_true (by omega),cond_true,h1,h2,w64 (by omega) (by omega),w64 (by omega) (by omega)]
  have hx:Go.bits .xor .i64 ((z >>> 1:Nat):Int) 3988292384=((z >>> 1 ^^^ 3988292384:Nat):Int):=Fq h3 (b:=3988292384) (by decide)
  rw [hx]
  unfold qo
  by_cases ho:z % 2=1
  ·have:(((z % 2:Nat):Int) == 1)=true:=by rw [ho]; rfl
   rw [this,cond_true,if_pos ho]
   rfl
  ·have:(((z % 2:Nat):Int) == 1)=false:=by rw [show z % 2=0 by omega]; rfl
   rw [this,cond_false,if_neg ho,Nat.xor_zero]
   rfl
 have hB: ∀ i,Cc y i < 4294967296:=by
  intro i
  induction i with
  | zero=>exact hy
  | succ i ih=>exact qQ ih
 have h8:o9 (o9 y)=Cc y 8:=rfl
 rw [h8]
 refine vQ (fun i=>(((Cc y i:Nat):Int),(i:Int))) 8 _ ?_ ?_
 ·intro i hi
  exact st (Cc y i) i (hB i) hi
 ·dsimp only
  rw [decide_eq_false (by omega),cond_false]
def qT (l:List Int):Nat:=l.foldl (fun x b=>xd x b.toNat) 4294967295
theorem qq (l:List Int) (i:Nat) (h:i < l.length):qT (l.take (i+1))=xd (qT (l.take i)) (l[i]).toNat:=by
 unfold qT
 rw [List.take_succ_eq_append_getElem h,List.foldl_append]
 rfl
theorem vZ {l:List Int} (h:BB l): ∀ i,qT (l.take i) < 4294967296:=by
 intro i
 induction i with
 | zero=>rw [List.take_zero]; decide
 | succ i ih =>
  by_cases hi:i < l.length
  ·rw [qq l i hi]
   have:=h _ (List.getElem_mem hi)
   exact Cb ih (by omega)
  ·rw [List.take_of_length_le (by omega)]
   rw [List.take_of_length_le (by omega)] at ih
   exact ih
def yA (s:ByteArray):Nat:=4294967295 ^^^ qT (sbs s)
theorem Gd (s:ByteArray) (hs:s.size≤1000000):oT [s]=some ((yA s:Nat):Int):=by
 unfold oT
 have hL:=vZ (ub s)
 have hinner:iter (σ:=Int×Int) (ρ:=Int) (fun a=>(bif (decide (a.1 < (s.size:Int))) then (Option.bind (jY s a.1) fun b642=>(Option.bind (lG a.2 b642) fun b=>some (.inl ((IntKind.i64.wrap (a.1+1)),b)))) else some (.inr a.2))) (0,4294967295)=some ((qT (sbs s):Nat):Int):=by
  refine vQ (fun i=>((i:Int),((qT ((sbs s).take i):Nat):Int))) s.size _ ?_ ?_
  ·intro i hi
   have hi2:i < (sbs s).length:=by rw [cF]; exact hi
   have hb:=ub s _ (List.getElem_mem hi2)
   have hn:(sbs s)[i]=(((sbs s)[i].toNat:Nat):Int):=by omega
   dsimp only
   rw [decide_eq_true (by omega),cond_true,qP s i hi2,aA,qq _ _ hi2]
   conv=>lhs; rw [hn]
   rw [step_eq (hL i) (by omega),aA,w64 (by omega) (by omega)]
   rfl
  ·dsimp only
   rw [decide_eq_false (by omega),cond_false,List.take_of_length_le (by rw [cF]; exact Nat.le_refl _)]
 refine eH (fun i=>(if i=0 then (4294967295:Int) else ((qT (sbs s):Nat):Int),(i:Int))) 1 ((qT (sbs s):Nat):Int) rfl ?_ ?_ ?_
 ·intro i hi
  have:i=0:=by omega
  subst this
  have h1:idx [s] 0=some s:=rfl
  show (bif (decide ((0:Int) < 1)) then (Option.bind (idx [s] 0) fun c=>_) else _)=_
  rw [decide_eq_true (by omega),cond_true,h1,aA]
  show (Option.bind (iter _ (0,4294967295)) fun d=>_)=_
  rw [hinner,aA]
  rfl
 ·rfl
 ·have h:=hL (sbs s).length
  rw [List.take_length] at h
  show some (Go.bits .xor .u32 ((4294967295:Nat):Int) ((qT (sbs s):Nat):Int))=_
  rw [zA (by decide) h]
  rfl
theorem Cd {x:Nat} (h:x < 4294967296):4294967295 ^^^ x=4294967295 - x:=by
 have h1:(2 ^ 32 - 1) - x=2 ^ 32 - (x+1):=by omega
 show 4294967295 ^^^ x=_
 apply Nat.eq_of_testBit_eq
 intro i
 have h2:4294967295 - x=2 ^ 32 - (x+1):=by omega
 rw [h2,Nat.testBit_two_pow_sub_succ h,Nat.testBit_xor]
 have h3:(4294967295:Nat).testBit i=decide (i < 32):=by
  show (2 ^ 32 - 1).testBit i=_
  rw [Nat.testBit_two_pow_sub_one]
 rw [h3]
 by_cases hi:i < 32
 ·simp [hi]
 ·have:x.testBit i=false:=by
   apply Nat.testBit_lt_two_pow
   have:2 ^ 32≤2 ^ i:=Nat.pow_le_pow_right (by omega) (by omega)
   omega
  simp [hi,this]
theorem Ew (s:ByteArray) (hs:s.size≤1000000):mS s=some ((yA s:Nat):Int):=by
 unfold mS
 have hL:=vZ (ub s)
 refine eH (fun i=>(((qT ((sbs s).take i):Nat):Int),(i:Int))) s.size ((qT (sbs s):Nat):Int) rfl ?_ ?_ ?_
 ·intro i hi
  have hi2:i < (sbs s).length:=by rw [cF]; exact hi
  have hb:=ub s _ (List.getElem_mem hi2)
  have hn:(sbs s)[i]=(((sbs s)[i].toNat:Nat):Int):=by omega
  dsimp only
  rw [decide_eq_true (by omega),cond_true,qP s i hi2,aA,qq _ _ hi2]
  have hx:Go.bits .xor .i64 ((qT ((sbs s).take i):Nat):Int) (IntKind.i64.wrap (sbs s)[i])=((qT ((sbs s).take i) ^^^ (sbs s)[i].toNat:Nat):Int):=by
   rw [w64 (by omega) (by omega)]
   conv=>lhs; rw [hn]
   exact Fq (hL i) (by omega)
  rw [hx,G6 (qp (hL i) (by omega)),aA,w64 (by omega) (by omega)]
  rfl
 ·dsimp only
  rw [decide_eq_false (by omega),cond_false,List.take_of_length_le (by rw [cF]; exact Nat.le_refl _)]
 ·have h:=hL (sbs s).length
  rw [List.take_length] at h
  unfold yA
  rw [Cd h,w64 (by omega) (by omega)]
  congr 1
  omega
end Go.Tw.X
set_option linter.unusedVariables false
set_option linter.unusedSimpArgs false
namespace Go.Tw.X
open Go Go.Tw
theorem zB (s:ByteArray):yA s < 4294967296:=by
 unfold yA
 have h:=vZ (ub s) (sbs s).length
 rw [List.take_length] at h
 exact qp (by decide) h
end Go.Tw.X
set_option linter.unusedVariables false
set_option linter.unusedSimpArgs false
namespace Go.Tw.X
open Go Go.Tw
def okO {α:Type _} (x:Option α) (P:α→Prop):Prop:= ∃ r,x=some r∧P r
theorem aW {α:Type _} {P:α→Prop} {r:α} (h:P r):okO (some r) P:=⟨r,rfl,h⟩
theorem bO {α β:Type _} {P:α→Prop} {Q:β→Prop} {x:Option α} {f:α→Option β} (h:okO x P) (k: ∀ r,P r→okO (f r) Q):okO (Option.bind x f) Q:=by
 obtain ⟨r,rfl,hp⟩:=h
 exact k r hp
theorem ml {α:Type _} {P:α→Prop} {b:Bool} {x y:Option α} (h1:b=true→okO x P) (h2:b=false→okO y P):okO (bif b then x else y) P:=by
 cases b
 ·exact h2 rfl
 ·exact h1 rfl
theorem iC {α:Type _} {P:α→Prop} {p:Prop} [Decidable p] {x y:Option α} (h1:p→okO x P) (h2: ¬ p→okO y P):okO (bif decide p then x else y) P :=
 ml (fun h=>h1 (of_decide_eq_true h)) (fun h=>h2 (of_decide_eq_false h))
theorem ok_eq {α:Type _} {P:α→Prop} {a b:Int} {x y:Option α} (h1:a=b→okO x P) (h2: ¬ a=b→okO y P):okO (bif a == b then x else y) P :=
 ml (fun h=>h1 (by simpa using h)) (fun h=>h2 (by simpa using h))
theorem G7 {α:Type _} {P:α→Prop} {a b:Int} {x y:Option α} (h1: ¬ a=b→okO x P) (h2:a=b→okO y P):okO (bif a != b then x else y) P :=
 ml (fun h=>h1 (by simpa using h)) (fun h=>h2 (by simpa using h))
theorem Ey {α:Type _} {P Q:α→Prop} {x:Option α} (h:okO x P) (k: ∀ r,P r→Q r):okO x Q:=by
 obtain ⟨r,e,hp⟩:=h
 exact ⟨r,e,k r hp⟩
theorem Ge {p:Prop} [Decidable p] (h:p):okO (chk (decide p)) (fun _=>True):=⟨(),kX h,trivial⟩
theorem rS {lo hi n:Int} (h0:0≤lo) (h1:lo≤hi) (h2:hi≤n):okO (chk (cX lo hi n)) (fun _=>True):=⟨(),bV h0 h1 h2,trivial⟩
theorem qa {n m b:Nat} (h:(n+m)*b≤140737488355328):okO (chk (dC n m b)) (fun _=>True):=⟨(),bK h,trivial⟩
theorem zC {n m:Nat} (h:n+m≤4611686018427387904):okO (chk (uP n m)) (fun _=>True):=⟨(),mL h,trivial⟩
theorem v3 {α β:Type} {P:α ⊕ β→Prop} {x:Option β} (h:okO x (fun w=>P (.inr w))):okO (iM x) P:=by
 obtain ⟨r,rfl,hp⟩:=h
 exact ⟨.inr r,rfl,hp⟩
theorem v5 {α β γ:Type} {P:α ⊕ (β ⊕ γ)→Prop} {x:Option γ} (h:okO x (fun w=>P (.inr (.inr w)))):okO (lT x) P:=by
 obtain ⟨r,rfl,hp⟩:=h
 exact ⟨.inr (.inr r),rfl,hp⟩
theorem iD {σ ρ:Type} {f:σ→Option (σ ⊕ ρ)} {P:ρ→Prop} (Inv:σ→Prop) (m:σ→Nat) {s:σ} (h0:Inv s)
  (h: ∀ s,Inv s→okO (f s) fun | .inl s'=>Inv s'∧m s' < m s | .inr r=>P r):okO (iter f s) P:=by
 refine tU Inv m P (fun s hs=> ?_) s h0
 obtain ⟨z,e,hz⟩:=h s hs
 cases z with
 | inl s'=>exact .inl ⟨s',e,hz⟩
 | inr r=>exact .inr ⟨r,e,hz⟩
end Go.Tw.X
set_option linter.unusedVariables false
set_option linter.unusedSimpArgs false
set_option maxHeartbeats 1000000
namespace Go.Tw.X
open Go Go.Tw
theorem Ez {α:Type _} {x:Option α} {r:α} (h:okO x (fun y=>y=r)):x=some r:=by
 obtain ⟨y,e,rfl⟩:=h
 exact e
theorem AE (a b m:Int):a % m*b % m=a*b % m:=by rw [Int.mul_emod,Int.emod_emod_of_dvd _ (Int.dvd_refl m),← Int.mul_emod]
def chM:Int:=281474976710597
def qb (x:Int) (l:List aH):Int:=(x*65536 % chM+(yA (gS (p9 l)):Nat)) % chM
def kg (l:List (List aH)):Int:=l.foldl qb 0
theorem xe (x:Int) (l:List aH):0≤qb x l∧qb x l < chM:=⟨Int.emod_nonneg _ (by decide),Int.emod_lt_of_pos _ (by decide)⟩
theorem sF (l:List (List aH)) (g:List aH):kg (l++[g])=qb (kg l) g:=List.foldl_append ..
theorem xf: ∀ (l:List (List aH)) (x:Int),0≤x→x < chM→0≤l.foldl qb x∧l.foldl qb x < chM
 | [],x,h0,h1=>⟨h0,h1⟩
 | g::l,x,_,_=>xf l (qb x g) (xe x g).1 (xe x g).2
theorem vj (l:List (List aH)):0≤kg l∧kg l < chM:=xf l 0 (by decide) (by decide)
def rT (l:List aH):Prop:=l.length≤2000 ∧ ∀ g∈l,rok g.rune
theorem uc {l:List aH} (h:l.length≤2000):(gS (p9 l)).size≤1000000:=by
 have h1:=l8 (l.length:Int)
 have h2:=rR l
 rw [jv]
 unfold p9
 rw [List.length_append]
 omega
theorem EA {x:Int} (h0:0≤x) (h1:x < chM) {l:List aH} (hl:rT l):lV x l=some (qb x l):=by
 unfold lV qb
 unfold chM at h1 ⊢
 have hs:=zB (gS (p9 l))
 rw [B7 l hl.1 hl.2,Option.bind_some,Gd _ (uc hl.1),Option.bind_some]
 generalize yA (gS (p9 l))=m at hs
 rw [w64 (x:=x*256) (by omega) (by omega),Int.tmod_eq_emod_of_nonneg (a:=x*256) (by omega)]
 rw [w64 (x:=x*256 % 281474976710597*256) (by omega) (by omega),Int.tmod_eq_emod_of_nonneg (a:=x*256 % 281474976710597*256) (by omega)]
 rw [w64 (x:=((m:Nat):Int)) (by omega) (by omega),w64 (by omega) (by omega),Int.tmod_eq_emod_of_nonneg (a:=x*256 % 281474976710597*256 % 281474976710597+((m:Nat):Int)) (by omega)]
 congr 2
 omega
theorem Gf {x:Int} (h0:0≤x) (h1:x < chM):iter (σ:=Int×Int) (ρ:=Int) (fun b=>(bif (decide (b.2 < 16)) then some (.inl (((IntKind.i64.wrap (2*b.1)).tmod 281474976710597),(IntKind.i64.wrap (b.2+1)))) else some (.inr b.1))) (x,0)=some (x*65536 % chM):=by
 unfold chM at h1 ⊢
 refine Ez ?_
 refine iD (fun z:Int×Int=>0≤z.2∧z.2≤16∧0≤z.1∧z.1 < 281474976710597∧z.1*2 ^ (16 - z.2.toNat) % 281474976710597=x*65536 % 281474976710597) (fun z=>16 - z.2.toNat) ⟨Int.le_refl 0,show (0:Int)≤16 from by decide,h0,h1,rfl⟩ ?_
 rintro ⟨y,i⟩ ⟨g0,g1,g2,g3,g4⟩
 dsimp only at g0 g1 g2 g3 g4 ⊢
 refine iC (fun hi=> ?_) fun hi=> ?_
 ·rw [w64 (x:=2*y) (by omega) (by omega),w64 (x:=i+1) (by omega) (by omega),Int.tmod_eq_emod_of_nonneg (a:=2*y) (by omega)]
  refine aW ⟨⟨by dsimp only; omega,by dsimp only; omega,by dsimp only; omega,by dsimp only; omega,?_⟩,by dsimp only; omega⟩
  dsimp only
  rw [← g4,show 16 - i.toNat=(16 - (i+1).toNat)+1 by omega,Int.pow_succ,AE,show 2*y*2 ^ (16 - (i+1).toNat)=y*(2 ^ (16 - (i+1).toNat)*2) from by rw [Int.mul_comm 2 y,Int.mul_assoc,Int.mul_comm 2]]
 ·have:i=16:=by omega
  subst this
  refine aW ?_
  have e:y*2 ^ (16 - (16:Int).toNat)=y:=Int.mul_one y
  rw [e] at g4
  rw [← g4]
  exact (Int.emod_eq_of_lt g2 g3).symm
end Go.Tw.X
set_option linter.unusedVariables false
set_option linter.unusedSimpArgs false
set_option maxHeartbeats 1000000
namespace Go.Tw.X
open Go Go.Tw
def chs (l:List (List aH)):List Int:=(List.range (l.length+1)).map fun k=>kg (l.take k)
theorem zD (l:List (List aH)):(chs l).length=l.length+1:=by simp [chs]
theorem Ce (l:List (List aH)) (g:List aH):chs (l++[g])=chs l++[kg (l++[g])]:=by
 unfold chs
 rw [List.length_append,List.length_singleton,List.range_succ,List.map_append,List.map_singleton]
 congr 1
 ·refine List.map_congr_left fun k hk=> ?_
  have:=List.mem_range.1 hk
  rw [List.take_append_of_le_length (by omega)]
 ·rw [List.take_of_length_le (by simp)]
theorem zE (l:List (List aH)) (k:Nat) (h:k≤l.length):idx (chs l) (k:Int)=some (kg (l.take k)):=by
 rw [cO _ k (by rw [zD]; omega)]
 simp [chs]
theorem pM (l:List aH) (h:l.length≤1000000):cE l=some l:=by
 unfold cE
 rw [bK (by simp; omega)]
 simp
theorem xh {b:bZ} (hc:b.bL=chs b.l) (hn:b.l.length≤200000000) {g:List aH} (hg:rT g):eJ b g=some ⟨b.l++[g],chs (b.l++[g]),b.begun⟩:=by
 unfold eJ
 have hk:=vj b.l
 rw [pM _ (by have:=hg.1; omega),Option.bind_some,bK (by simp; omega),Option.bind_some,hc,zD,w64 (by omega) (by omega)]
 rw [show ((b.l.length+1:Nat):Int) - 1=(b.l.length:Int) by omega,zE _ _ (Nat.le_refl _),List.take_length,Option.bind_some,EA hk.1 hk.2 hg,Option.bind_some,bK (by simp; omega)]
 rw [Ce,sF]
 rfl
def ku (g:List aH):List (List aH)×List aH :=
 if h:1024≤g.length then (g.take 1024::(ku (g.drop 1024)).1,(ku (g.drop 1024)).2) else ([],g)
termination_by g.length
decreasing_by all_goals (rw [List.length_drop]; omega)
theorem qU {g:List aH} (h:1024≤g.length):ku g=(g.take 1024::(ku (g.drop 1024)).1,(ku (g.drop 1024)).2):=by
 rw [ku,dif_pos h]
theorem ot {g:List aH} (h: ¬ 1024≤g.length):ku g=([],g):=by
 rw [ku,dif_neg h]
def kH (z:List (List aH)×List aH) (r:aE):List (List aH)×List aH :=
 let c:=ku (z.2++jn r)
 if r.wrapped then (z.1++c.1,c.2) else (z.1++c.1++[c.2],[])
def fk (z:List (List aH)×List aH):gR:=⟨z.1.map (fun g=>g.map tg),z.2.map tg⟩
theorem EB {z:List (List aH)×List aH} (h1:z.1.length≤100000000) (h2:z.2.length≤1024) {r:aE} (hr:r.cells.length≤1000):l4 (fk z) (told r)=some (fk (kH z r)):=by
 have hg:=o6 r
 unfold l4
 rw [bK (by simp [fk]; omega),Option.bind_some,tY r (by omega),Option.bind_some,bK (by simp [fk]; omega),Option.bind_some,bK (by simp [fk]; omega),Option.bind_some]
 have e0:(([]:List bW)++(fk z).begun)++(jn r).map (fun g=>(⟨g.rune,g.aL⟩:bW))=(z.2++jn r).map tg:=by
  simp only [fk,List.nil_append,List.map_append]
  rfl
 rw [e0]
 refine Ez (bO (P:=fun y:(List bW)×(List (List bW))=>y=((ku (z.2++jn r)).2.map tg,(z.1++(ku (z.2++jn r)).1).map fun g=>g.map tg)) ?_ fun y hy=> ?_)
 ·refine iD (fun y:(List bW)×(List (List bW))=> ∃ g l,y=(g.map tg,l.map fun g=>g.map tg)∧g.length≤2024∧l.length≤200000000 - g.length∧(ku g).2=(ku (z.2++jn r)).2∧l++(ku g).1=z.1++(ku (z.2++jn r)).1) (fun y=>y.1.length) ⟨z.2++jn r,z.1,by simp [fk],by simp; omega,by simp; omega,rfl,rfl⟩ ?_
  rintro _ ⟨g,l,rfl,g1,g2,g3,g4⟩
  dsimp only
  rw [List.length_map]
  refine iC (fun h=> ?_) fun h=> ?_
  ·have hge:1024≤g.length:=by omega
   rw [qU hge] at g3 g4
   refine bO (rS (by omega) (by omega) (by omega)) fun _ _=> ?_
   refine bO (qa (by simp; omega)) fun _ _=> ?_
   refine bO (rS (by omega) (by omega) (by omega)) fun _ _=>aW ⟨⟨g.drop 1024,l++[g.take 1024],?_,by rw [List.length_drop]; omega,by rw [List.length_append,List.length_drop]; simp; omega,g3,by rw [← g4]; simp⟩,?_⟩
   ·rw [show (1024:Int)=((1024:Nat):Int) from rfl,nE,na,List.take_of_length_le (by rw [List.length_map]; exact Nat.le_refl _)]
    simp
   ·dsimp only
    rw [show (1024:Int)=((1024:Nat):Int) from rfl,na,List.length_drop,List.length_take,List.length_map]
    omega
  ·rw [ot (by omega)] at g3 g4
   refine aW ?_
   rw [← g3,← g4]
   simp
 ·subst hy
  have hcl: ∀ n (g:List aH),g.length=n→(ku g).1.length≤n:=by
   intro n
   induction n using Nat.strongRecOn with
   | _ n ih =>
    intro g hg
    by_cases h:1024≤g.length
    ·rw [qU h]
     have:=ih (g.drop 1024).length (by rw [List.length_drop]; omega) _ rfl
     rw [List.length_drop] at this
     simp
     omega
    ·rw [ot h]; simp
  have hc:=hcl _ (z.2++jn r) rfl
  rw [List.length_append] at hc
  unfold kH
  cases hw:r.wrapped with
  | true =>
   rw [show (told r).wrapped=true from hw]
   exact aW rfl
  | false =>
   rw [show (told r).wrapped=false from hw]
   simp only [Bool.not_false,cond_true]
   refine bO (qa (by simp; omega)) fun _ _=>aW (by simp [fk])
end Go.Tw.X
set_option linter.unusedVariables false
set_option linter.unusedSimpArgs false
set_option maxHeartbeats 1000000
namespace Go.Tw.X
open Go Go.Tw
def ed (z:List (List aH)×List aH):bZ:=⟨z.1,chs z.1,z.2⟩
def AF (g:List aH):Prop:= ∀ x∈g,rok x.rune
theorem zF: ∀ n (g:List aH),g.length=n→AF g→(ku g).1.length*1024≤n∧(ku g).2.length < 1024∧AF (ku g).2 ∧ ∀ x∈(ku g).1,rT x:=by
 intro n
 induction n using Nat.strongRecOn with
 | _ n ih =>
  intro g hg ho
  by_cases h:1024≤g.length
  ·rw [qU h]
   obtain ⟨a,b,c,d⟩:=ih (g.drop 1024).length (by rw [List.length_drop]; omega) _ rfl (fun x hx=>ho x (List.mem_of_mem_drop hx))
   rw [List.length_drop] at a
   refine ⟨by rw [List.length_cons,Nat.succ_mul,← hg]; exact Nat.add_le_of_le_sub h a,b,c,fun x hx=> ?_⟩
   rcases List.mem_cons.1 hx with rfl | hx
   ·exact ⟨by rw [List.length_take]; omega,fun y hy=>ho y (List.mem_of_mem_take hy)⟩
   ·exact d x hx
  ·rw [ot h]
   exact ⟨by rw [List.length_nil]; omega,by dsimp only; omega,ho,fun x hx=>by cases hx⟩
def vk (r:aE):Prop:=r.cells.length≤1000∧AF (jn r)
structure ZI (k:Nat) (z:List (List aH)×List aH):Prop where
 n:z.1.length≤k
 b:z.2.length < 1024
 g:AF z.2
 ls: ∀ x∈z.1,rT x
theorem EC {k:Nat} {z:List (List aH)×List aH} (h:ZI k z) {r:aE} (hr:vk r):ZI (k+2) (kH z r):=by
 have hl:=o6 r
 obtain ⟨a,b,c,d⟩:=zF _ (z.2++jn r) rfl (fun x hx=>(List.mem_append.1 hx).elim (h.g x) (hr.2 x))
 rw [List.length_append] at a
 have h1:=h.n
 have h2:=h.b
 have h3:=hr.1
 unfold kH
 dsimp only
 split
 ·exact ⟨by rw [List.length_append]; omega,b,c,fun x hx=>(List.mem_append.1 hx).elim (h.ls x) (d x)⟩
 ·refine ⟨by simp; omega,by show 0 < 1024; decide,fun x hx=>(by cases hx),fun x hx=> ?_⟩
  rcases List.mem_append.1 hx with hx | hx
  ·exact (List.mem_append.1 hx).elim (h.ls x) (d x)
  ·rw [List.mem_singleton.1 hx]
   exact ⟨by omega,c⟩
theorem add_one {k:Nat} (hk:k≤100000000) {z:List (List aH)×List aH} (h:ZI k z) {r:aE} (hr:vk r):(Option.bind (fK r) fun f=>(Option.bind (chk (dC (ed z).begun.length f.length 16)) fun _=>(Option.bind (iter (σ:=bZ) (ρ:=bZ) (fun d=>(bif (decide ((d.begun.length:Int)≥1024)) then (Option.bind (chk (cX 0 1024 d.begun.length)) fun _=>(Option.bind (eJ d (cut d.begun 0 1024)) fun c=>(Option.bind (chk (cX 1024 (c.begun.length:Int) c.begun.length)) fun _=>(Option.bind (cE (cut c.begun 1024 (c.begun.length:Int))) fun j=>some (.inl (bZ.mk c.l c.bL j)))))) else some (.inr d))) (bZ.mk (ed z).l (ed z).bL ((ed z).begun++f))) fun e=>(bif (!r.wrapped) then (Option.bind (eJ e e.begun) fun i=>some (bZ.mk i.l i.bL ([]:List aH))) else some e))))=some (ed (kH z r)):=by
 have hl:=o6 r
 have h1:=h.n
 have h2:=h.b
 have h3:=hr.1
 have hgo:AF (z.2++jn r):=fun x hx=>(List.mem_append.1 hx).elim (h.g x) (hr.2 x)
 obtain ⟨ca,cb,cc,_⟩:=zF _ (z.2++jn r) rfl hgo
 rw [List.length_append] at ca
 rw [ve r (by omega),Option.bind_some,bK (by show (z.2.length+(jn r).length)*16≤_; omega),Option.bind_some]
 refine Ez (bO (P:=fun y=>y=ed (z.1++(ku (z.2++jn r)).1,(ku (z.2++jn r)).2)) ?_ fun y hy=> ?_)
 ·refine iD (fun y:bZ=> ∃ l g,y=ed (l,g)∧g.length≤2024∧AF g∧l.length+g.length≤200000000∧(ku g).2=(ku (z.2++jn r)).2∧l++(ku g).1=z.1++(ku (z.2++jn r)).1) (fun y=>y.begun.length) ⟨z.1,z.2++jn r,rfl,by simp; omega,hgo,by simp; omega,rfl,rfl⟩ ?_
  rintro _ ⟨l,g,rfl,g1,g2,g3,g4,g5⟩
  show okO (bif (decide ((g.length:Int)≥1024)) then _ else _) _
  refine iC (fun hh=> ?_) fun hh=> ?_
  ·have hge:1024≤g.length:=by omega
   rw [qU hge] at g4 g5
   have hcut:cut g 0 1024=g.take 1024:=by rw [show (1024:Int)=((1024:Nat):Int) from rfl,nE]
   have hcut2:cut g 1024 (g.length:Int)=g.drop 1024:=by rw [show (1024:Int)=((1024:Nat):Int) from rfl,na,List.take_length]
   refine bO (rS (by omega) (by omega) (by show (1024:Int)≤g.length; omega)) fun _ _=> ?_
   rw [show (ed (l,g)).begun=g from rfl,hcut,xh (b:=ed (l,g)) rfl (by show l.length≤_; omega) ⟨by rw [List.length_take]; omega,fun x hx=>g2 x (List.mem_of_mem_take hx)⟩,Option.bind_some]
   dsimp only
   refine bO (rS (by omega) (by show (1024:Int)≤g.length; omega) (by show (g.length:Int)≤g.length; omega)) fun _ _=> ?_
   rw [show (ed (l,g)).begun=g from rfl,show (ed (l,g)).l=l from rfl,hcut2,pM _ (by rw [List.length_drop]; omega),Option.bind_some]
   refine aW ⟨⟨l++[g.take 1024],g.drop 1024,rfl,by rw [List.length_drop]; omega,fun x hx=>g2 x (List.mem_of_mem_drop hx),by simp; omega,g4,by rw [← g5]; simp⟩,?_⟩
   show (g.drop 1024).length < g.length
   rw [List.length_drop]
   omega
  ·rw [ot (by omega)] at g4 g5
   refine aW ?_
   rw [← g4,← g5]
   simp
 ·subst hy
  unfold kH
  cases hw:r.wrapped with
  | true=>exact aW rfl
  | false =>
   simp only [Bool.not_false,cond_true]
   rw [show ∀ a b,(ed (a,b)).begun=b from fun _ _=>rfl,xh (b:=ed (z.1++(ku (z.2++jn r)).1,(ku (z.2++jn r)).2)) rfl (by show (z.1++(ku (z.2++jn r)).1).length≤_; rw [List.length_append]; omega) ⟨by show (ku (z.2++jn r)).2.length≤2000; omega,cc⟩]
   exact aW rfl
theorem nK {k:Nat}: ∀ (rows:List aE) {z:List (List aH)×List aH},ZI k z→(∀ r∈rows,vk r)→ZI (k+2*rows.length) (rows.foldl kH z)
 | [],z,h,_=>h
 | r::rows,z,h,hr=>by
  have h1:=EC h (hr r List.mem_cons_self)
  have h2:=nK (k:=k+2) rows h1 fun x hx=>hr x (List.mem_cons_of_mem _ hx)
  rw [show k+2*(r::rows).length=k+2+2*rows.length by simp; omega]
  exact h2
theorem add_eq {k:Nat} {z:List (List aH)×List aH} (h:ZI k z) {rows:List aE} (hr: ∀ r∈rows,vk r) (hk:k+2*rows.length≤100000000):okO (gx (ed z) rows) (fun y=>y.2=ed (rows.foldl kH z)):=by
 unfold gx
 refine bO (P:=fun y=>y=ed (rows.foldl kH z)) ?_ fun y hy=>aW hy
 refine iD (fun y:bZ×Int=>0≤y.2∧y.2≤rows.length∧y.1=ed ((rows.take y.2.toNat).foldl kH z)) (fun y=>rows.length - y.2.toNat) ⟨Int.le_refl 0,by dsimp only; omega,rfl⟩ ?_
 rintro ⟨b,i⟩ ⟨h0,h1,h2⟩
 dsimp only at h0 h1 h2 ⊢
 subst h2
 refine iC (fun hi=> ?_) fun hi=>aW (by rw [List.take_of_length_le (by omega)])
 obtain ⟨j,rfl⟩: ∃ j:Nat,i=j:=⟨i.toNat,by omega⟩
 have hj:j < rows.length:=by omega
 have hZ:=nK (rows.take j) h fun x hx=>hr x (List.mem_of_mem_take hx)
 rw [List.length_take] at hZ
 rw [cO rows j hj,Option.bind_some]
 have:=add_one (by omega) hZ (hr rows[j] (List.getElem_mem hj))
 rw [show ((j:Int)).toNat=j from rfl]
 rw [this,Option.bind_some,w64 (by omega) (by omega)]
 refine aW ⟨⟨by dsimp only; omega,by dsimp only; omega,?_⟩,by dsimp only; omega⟩
 dsimp only
 rw [show ((j:Int)+1).toNat=j+1 by omega,List.take_add_one,List.getElem?_eq_getElem hj,Option.toList_some,List.foldl_append]
 rfl
theorem AG {l:List (List aH)} (hl: ∀ x∈l,rT x) (hn:l.length≤100000000) (g:List aH):ko (fk (l,g)) (l.length:Int)=some (kg l):=by
 unfold ko
 refine Ez (bO (P:=fun y=>y=kg l) ?_ fun y hy=>aW hy)
 refine iD (fun y:Int×Int=>0≤y.2∧y.2≤l.length∧y.1=kg (l.take y.2.toNat)) (fun y=>l.length - y.2.toNat) ⟨Int.le_refl 0,by dsimp only; omega,rfl⟩ ?_
 rintro ⟨x,i⟩ ⟨h0,h1,h2⟩
 dsimp only at h0 h1 h2 ⊢
 subst h2
 rw [show (fk (l,g)).l=l.map (fun g=>g.map tg) from rfl,List.length_map]
 refine bO (P:=fun e=>e=true↔i < l.length) (iC (fun h=>aW (by simp)) fun h=>aW (by simp; omega)) fun e he=> ?_
 refine ml (fun h=> ?_) fun h=> ?_
 ·have hi:=he.1 h
  obtain ⟨j,rfl⟩: ∃ j:Nat,i=j:=⟨i.toNat,by omega⟩
  have hj:j < l.length:=by omega
  have hc:=vj (l.take (j:Int).toNat)
  have hlo:=hl l[j] (List.getElem_mem hj)
  rw [Gf hc.1 hc.2,Option.bind_some,cO _ j (by rw [List.length_map]; exact hj),Option.bind_some,List.getElem_map,AD _ hlo.1,Option.bind_some,Ew _ (uc hlo.1),Option.bind_some]
  have hs:=zB (gS (p9 l[j]))
  have hm:0≤kg (l.take (j:Int).toNat)*65536 % chM∧kg (l.take (j:Int).toNat)*65536 % chM < chM:=⟨Int.emod_nonneg _ (by decide),Int.emod_lt_of_pos _ (by decide)⟩
  have hM:chM=281474976710597:=rfl
  have e1:kg (l.take (j+1))=qb (kg (l.take (j:Int).toNat)) l[j]:=by
   rw [List.take_add_one,List.getElem?_eq_getElem hj,Option.toList_some,sF]
   rfl
  rw [w64 (x:=(j:Int)+1) (by omega) (by omega)]
  rw [w64 (by omega) (by omega),Int.tmod_eq_emod_of_nonneg (by omega)]
  refine aW ⟨⟨by dsimp only; omega,by dsimp only; omega,?_⟩,by dsimp only; omega⟩
  dsimp only
  rw [show ((j:Int)+1).toNat=j+1 by omega,e1]
  rfl
 ·have: ¬ i < l.length:=fun hh=>by rw [he.2 hh] at h; cases h
  exact aW (by rw [List.take_of_length_le (by omega)])
end Go.Tw.X
set_option linter.unusedVariables false
set_option linter.unusedSimpArgs false
namespace Go.Tw.X
open Go Go.Tw
def tst (s:bE):bI:=⟨s.eT,s.back,s.bold,s.under,s.cN⟩
def bN (b:Bool) (n:Int):Int:=if b then n else 0
def jR (s:bE):Int:=if 0≤s.eT∧s.eT < 9∧0≤s.back∧s.back < 9 then s.eT+9*s.back+bN s.bold 81+bN s.under 162+bN s.cN 324 else 0
theorem Gg (b:Bool) (n:Int):kK b n=some (bN b n):=by cases b <;> rfl
theorem AH (s:bE):iq s=some (decide (0≤s.eT∧s.eT < 9∧0≤s.back∧s.back < 9)):=by
 unfold iq
 by_cases a:0≤s.eT <;> by_cases b:s.eT < 9 <;> by_cases c:0≤s.back <;> by_cases d:s.back < 9 <;> simp [a,b,c,d,ge_iff_le]
theorem ED (s:bE):lY (tst s)=some (decide (0≤s.eT∧s.eT < 9∧0≤s.back∧s.back < 9)):=by
 unfold lY
 have e1:(s.eT≤8)=(s.eT < 9):=propext (by omega)
 have e2:(s.back≤8)=(s.back < 9):=propext (by omega)
 simp only [tst,e1,e2]
 by_cases a:0≤s.eT <;> by_cases b:s.eT < 9 <;> by_cases c:0≤s.back <;> by_cases d:s.back < 9 <;> simp [a,b,c,d,ge_iff_le]
theorem Cg (b:Bool) (n:Int) (h:0≤n):0≤bN b n∧bN b n≤n:=by cases b <;> simp [bN,h]
theorem Ci (s:bE):ir s=some (jR s):=by
 unfold ir jR
 rw [AH,aA]
 by_cases h:0≤s.eT∧s.eT < 9∧0≤s.back∧s.back < 9
 ·have h1:=Cg s.bold 81 (by omega)
  have h2:=Cg s.under 162 (by omega)
  have h3:=Cg s.cN 324 (by omega)
  rw [decide_eq_true h,if_pos h]
  simp only [Bool.not_true,cond_false,Gg,aA]
  rw [w64 (x:=9*s.back) (by omega) (by omega),w64 (x:=s.eT+9*s.back) (by omega) (by omega),w64 (x:=s.eT+9*s.back+bN s.bold 81) (by omega) (by omega),w64 (x:=s.eT+9*s.back+bN s.bold 81+bN s.under 162) (by omega) (by omega),w64 (by omega) (by omega)]
 ·rw [decide_eq_false h,if_neg h]
  rfl
theorem xi (s:bE):gI (tst s)=some (jR s):=by
 unfold gI jR
 rw [ED,aA]
 by_cases h:0≤s.eT∧s.eT < 9∧0≤s.back∧s.back < 9
 ·rw [decide_eq_true h,if_pos h]
  simp only [Bool.not_true,cond_false,tst]
  rw [w64 (x:=9*s.back) (by omega) (by omega),w64 (x:=s.eT+9*s.back) (by omega) (by omega)]
  cases s.bold <;> cases s.under <;> cases s.cN <;> simp only [cond_true,cond_false,aA,bN] <;> simp <;> (try simp only [IntKind.wrap_i64]) <;> (try omega)
 ·rw [decide_eq_false h,if_neg h]
  rfl
def rU (s:bE) (n:Int):bE:=if n=0 then ⟨0,0,false,false,false⟩ else if n=1∨n=22 then ⟨s.eT,s.back,n == 1,s.under,s.cN⟩ else if n=4∨n=24 then ⟨s.eT,s.back,s.bold,n == 4,s.cN⟩ else if n=7∨n=27 then ⟨s.eT,s.back,s.bold,s.under,n == 7⟩ else if 30≤n∧n < 38 then ⟨n - 29,s.back,s.bold,s.under,s.cN⟩ else if n=39 then ⟨0,s.back,s.bold,s.under,s.cN⟩ else if 40≤n∧n < 48 then ⟨s.eT,n - 39,s.bold,s.under,s.cN⟩ else if n=49 then ⟨s.eT,0,s.bold,s.under,s.cN⟩ else s
theorem dP {a b:Int} (h: ¬ a=b):(a == b)=false:=by simpa using h
theorem kh {a b:Int} (h:a=b):(a == b)=true:=by simpa using h
theorem qs (n a b:Int):((bif (n == a) then some true else some (n == b)):Option Bool)=some (decide (n=a∨n=b)):=by
 by_cases h:n=a
 ·simp [h]
 ·rw [dP h,cond_false]
  by_cases h2:n=b
  ·simp [h2]
  ·rw [dP h2,decide_eq_false (by omega)]
theorem EE (n a b:Int):((bif (decide (n≥a)) then some (decide (n < b)) else some false):Option Bool)=some (decide (a≤n∧n < b)):=uR (a≤n) (n < b)
theorem EF (n a b:Int):((bif (decide (n≥a)) then some (decide (n≤b)) else some false):Option Bool)=some (decide (a≤n∧n≤b)):=uR (a≤n) (n≤b)
theorem Gh (s:bE) (n:Int):iu s n=some (rU s n):=by
 unfold iu rU
 simp only [qs,EE,aA]
 by_cases h0:n=0
 ·simp [h0,iM]
 ·have b0:(n == 0)=false:=by simpa using h0
  rw [b0,cond_false,if_neg h0]
  by_cases h1:n=1∨n=22
  ·rw [decide_eq_true h1,if_pos h1]; rfl
  ·rw [decide_eq_false h1,cond_false,if_neg h1]
   by_cases h2:n=4∨n=24
   ·rw [decide_eq_true h2,if_pos h2]; rfl
   ·rw [decide_eq_false h2,cond_false,if_neg h2]
    by_cases h3:n=7∨n=27
    ·rw [decide_eq_true h3,if_pos h3]; rfl
    ·rw [decide_eq_false h3,cond_false,if_neg h3]
     by_cases h4:30≤n∧n < 38
     ·rw [decide_eq_true h4,cond_true,if_pos h4,w64 (x:=n - 30) (by omega) (by omega),w64 (by omega) (by omega),show n - 30+1=n - 29 by omega]; rfl
     ·rw [decide_eq_false h4,cond_false,if_neg h4]
      by_cases h5:n=39
      ·simp [h5]
      ·have b5:(n == 39)=false:=by simpa using h5
       rw [b5,cond_false,if_neg h5]
       by_cases h6:40≤n∧n < 48
       ·rw [decide_eq_true h6,cond_true,if_pos h6,w64 (x:=n - 40) (by omega) (by omega),w64 (by omega) (by omega),show n - 40+1=n - 39 by omega]; rfl
       ·rw [decide_eq_false h6,cond_false,if_neg h6]
        by_cases h7:n=49
        ·simp [h7]
        ·rw [dP h7,if_neg h7]; rfl
theorem EG (s:bE) (n k:Int):((Option.bind ((bif (n == 0) then some (bI.mk 0 0 false false false) else some (tst s)):Option bI) fun a=>(Option.bind ((bif (n == 1) then some true else some (n == 22)):Option Bool) fun h=>(Option.bind ((bif h then some (bI.mk a.eT a.back (decide (n < 10)) a.under a.cN) else some a):Option bI) fun b=>(Option.bind ((bif (n == 4) then some true else some (n == 24)):Option Bool) fun i=>(Option.bind ((bif i then some (bI.mk b.eT b.back b.bold (decide (n < 10)) b.cN) else some b):Option bI) fun c=>(Option.bind ((bif (n == 7) then some true else some (n == 27)):Option Bool) fun j=>(Option.bind ((bif j then some (bI.mk c.eT c.back c.bold c.under (decide (n < 10))) else some c):Option bI) fun d=>(Option.bind ((bif (decide (n≥30)) then some (decide (n≤37)) else some false):Option Bool) fun l=>(Option.bind ((bif l then some (bI.mk (IntKind.i64.wrap (n - 29)) d.back d.bold d.under d.cN) else some d):Option bI) fun e=>(Option.bind ((bif (n == 39) then some (bI.mk 0 e.back e.bold e.under e.cN) else some e):Option bI) fun f=>(Option.bind ((bif (decide (n≥40)) then some (decide (n≤47)) else some false):Option Bool) fun m=>(Option.bind ((bif m then some (bI.mk f.eT (IntKind.i64.wrap (n - 39)) f.bold f.under f.cN) else some f):Option bI) fun g=>(bif (n == 49) then some (k,(bI.mk g.eT 0 g.bold g.under g.cN)) else some (k,g)))))))))))))):Option (Int×bI))=some (k,tst (rU s n)):=by
 simp only [qs,EF,aA]
 unfold rU
 by_cases h0:n=0
 ·subst h0; simp [tst,aA]
 ·have b0:(n == 0)=false:=by simpa using h0
  rw [b0,cond_false,if_neg h0,aA]
  by_cases h1:n=1∨n=22
  ·rcases h1 with rfl | rfl <;> simp [tst,aA]
  ·rw [decide_eq_false h1,cond_false,if_neg h1,aA]
   by_cases h2:n=4∨n=24
   ·rcases h2 with rfl | rfl <;> simp [tst,aA]
   ·rw [decide_eq_false h2,cond_false,if_neg h2,aA]
    by_cases h3:n=7∨n=27
    ·rcases h3 with rfl | rfl <;> simp [tst,aA]
    ·rw [decide_eq_false h3,cond_false,if_neg h3,aA]
     by_cases h4:30≤n∧n < 38
     ·have e4:decide (30≤n∧n≤37)=true:=decide_eq_true (by omega)
      have e5:(n == 39)=false:=by simp; omega
      have e6:decide (40≤n∧n≤47)=false:=decide_eq_false (by omega)
      have e7:(n == 49)=false:=by simp; omega
      rw [e4,e5,e6,e7,if_pos h4,w64 (x:=n - 29) (by omega) (by omega)]
      rfl
     ·have e4:decide (30≤n∧n≤37)=false:=decide_eq_false (by omega)
      rw [e4,if_neg h4,cond_false,aA]
      by_cases h5:n=39
      ·subst h5; simp [tst,aA]
      ·have b5:(n == 39)=false:=by simpa using h5
       rw [b5,cond_false,if_neg h5,aA]
       by_cases h6:40≤n∧n < 48
       ·have e6:decide (40≤n∧n≤47)=true:=decide_eq_true (by omega)
        have e7:(n == 49)=false:=by simp; omega
        rw [e6,e7,if_pos h6,w64 (x:=n - 39) (by omega) (by omega)]
        rfl
       ·have e6:decide (40≤n∧n≤47)=false:=decide_eq_false (by omega)
        rw [e6,if_neg h6,cond_false,aA]
        by_cases h7:n=49
        ·simp [h7,tst]
        ·rw [dP h7,if_neg h7]; rfl
def mq:List Int→Nat
 | 5::l=>min 2 (l.length+1)
 | 2::l=>min 4 (l.length+1)
 | _=>0
theorem Cj (l:List Int):mq l≤l.length:=by
 unfold mq
 split <;> simp <;> omega
theorem EH (l:List Int):kZ l=some (mq l:Int):=by
 unfold kZ
 cases l with
 | nil=>rfl
 | cons a l =>
  have h0:decide (((a::l).length:Int) > 0)=true:=by simp
  have h1:idx (a::l) 0=some a:=BJ _
  simp only [h0,cond_true,h1,aA]
  by_cases h5:a=5
  ·subst h5
   simp only [beq_self_eq_true,cond_true,aA,mq,dY,List.length_cons]
   first | done | (congr 1; omega)
  ·have e5:(a == 5)=false:=by simpa using h5
   simp only [e5,cond_false,aA]
   by_cases h2:a=2
   ·subst h2
    simp only [beq_self_eq_true,cond_true,aA,mq,dY,List.length_cons]
    first | done | (congr 1; omega)
   ·have e2:(a == 2)=false:=by simpa using h2
    simp only [e2,cond_false]
    unfold mq
    split
    ·rename_i heq; injection heq with h; exact absurd h h5
    ·rename_i heq; injection heq with h; exact absurd h h2
    ·rfl
def qt (s:bE) (l:List Int):bE :=
 match l with
 | []=>s
 | n::l=>if n=38∨n=48 then qt s (l.drop (mq l)) else qt (rU s n) l
termination_by l.length
decreasing_by all_goals simp_wf <;> omega
theorem xj (s:bE):qt s []=s:=by unfold qt; rfl
theorem vl (s:bE) (n:Int) (l:List Int):qt s (n::l)=if n=38∨n=48 then qt s (l.drop (mq l)) else qt (rU s n) l:=by rw [qt]
def AI (s:bE) (l:List Int):bE:=if l.length=0 then ⟨0,0,false,false,false⟩ else qt s l
theorem G8 (l:List Int):((l.length:Int) == 0)=decide (l.length=0):=by
 by_cases h:l.length=0
 ·simp [h]
 ·rw [decide_eq_false h,dP (by omega)]
theorem EJ (s:bE) (l:List Int) (hl:l.length≤1000000):iw s l=some (AI s l):=by
 unfold iw AI
 rw [G8]
 by_cases h0:l.length=0
 ·rw [decide_eq_true h0,if_pos h0]; rfl
 ·rw [decide_eq_false h0,if_neg h0,cond_false]
  refine nD (fun x=>0≤x.2∧x.2≤l.length∧qt x.1 (l.drop x.2.toNat)=qt s l) (fun x=>l.length - x.2.toNat) (fun r=>r=qt s l) ⟨Int.le_refl 0,by dsimp only; omega,by simp⟩ ?_ ?_
  ·rintro ⟨q,i⟩ ⟨h1,h2,h3⟩
   dsimp only at h1 h2 h3 ⊢
   obtain ⟨i,rfl⟩:=Int.eq_ofNat_of_zero_le h1
   rw [Int.toNat_natCast] at h3
   by_cases hi:i < l.length
   ·left
    rw [decide_eq_true (by omega:(i:Int) < l.length),cond_true,cO _ _ hi,aA,qs,aA]
    rw [List.drop_eq_getElem_cons hi,vl] at h3
    by_cases hn:l[i]=38∨l[i]=48
    ·rw [if_pos hn] at h3
     have hsk:=Cj (l.drop (i+1))
     rw [List.length_drop] at hsk
     rw [decide_eq_true hn,cond_true,w64 (x:=(i:Int)+1) (by omega) (by omega),show (i:Int)+1=((i+1:Nat):Int) by omega,bV (by omega) (by omega) (by omega),aA,na,List.take_length,EH,aA,aA]
     dsimp only
     refine ⟨_,rfl,⟨?_,?_,?_⟩,?_⟩
     ·dsimp only; rw [w64 (x:=(i:Int)+(mq (l.drop (i+1)):Int)) (by omega) (by omega),w64 (by omega) (by omega)]; omega
     ·dsimp only; rw [w64 (x:=(i:Int)+(mq (l.drop (i+1)):Int)) (by omega) (by omega),w64 (by omega) (by omega)]; omega
     ·dsimp only; rw [w64 (x:=(i:Int)+(mq (l.drop (i+1)):Int)) (by omega) (by omega),w64 (by omega) (by omega),← h3,List.drop_drop]
      congr 2
      omega
     ·dsimp only; rw [w64 (x:=(i:Int)+(mq (l.drop (i+1)):Int)) (by omega) (by omega),w64 (by omega) (by omega)]; omega
    ·rw [if_neg hn] at h3
     rw [decide_eq_false hn,cond_false,aA,Gh,aA,aA]
     dsimp only
     rw [w64 (x:=(i:Int)+1) (by omega) (by omega)]
     refine ⟨_,rfl,⟨by dsimp only; omega,by dsimp only; omega,?_⟩,by dsimp only; omega⟩
     dsimp only
     rw [show ((i:Int)+1).toNat=i+1 by omega,h3]
   ·right
    rw [decide_eq_false (by omega: ¬ (i:Int) < l.length),cond_false]
    rw [List.drop_eq_nil_of_le (by omega),xj] at h3
    exact ⟨q,rfl,h3⟩
  ·rintro r rfl
   rfl
theorem xk (l:List Int):(∃ r,l=5::r∧mq l=min 2 (r.length+1))∨(∃ r,l=2::r∧mq l=min 4 (r.length+1))∨(mq l=0∧(∀ a r,l=a::r→a≠5∧a≠2)):=by
 cases l with
 | nil=>exact .inr (.inr ⟨rfl,fun a r h=>by cases h⟩)
 | cons a l =>
  by_cases h5:a=5
  ·subst h5; exact .inl ⟨l,rfl,rfl⟩
  ·by_cases h2:a=2
   ·subst h2; exact .inr (.inl ⟨l,rfl,rfl⟩)
   ·refine .inr (.inr ⟨?_,fun b r h=>by injection h with h1 _; subst h1; exact ⟨h5,h2⟩⟩)
    unfold mq
    split
    ·rename_i heq; injection heq with h; exact absurd h h5
    ·rename_i heq; injection heq with h; exact absurd h h2
    ·rfl
theorem xl (l:List Int) (k n:Nat) (h:l.length≤n):l.drop (min k n)=l.drop k:=by
 by_cases hk:k≤n
 ·rw [Nat.min_eq_left hk]
 ·rw [List.drop_eq_nil_of_le (by omega),List.drop_eq_nil_of_le (by omega)]
end Go.Tw.X
set_option linter.unusedVariables false
set_option linter.unusedSimpArgs false
namespace Go.Tw.X
open Go Go.Tw
theorem Ck (s:bE) (l:List Int) (hl:l.length≤1000000):lZ (tst s) l=some (tst (AI s l)):=by
 unfold lZ AI
 rw [G8]
 by_cases h0:l.length=0
 ·rw [decide_eq_true h0,if_pos h0]; rfl
 ·rw [decide_eq_false h0,if_neg h0,cond_false]
  refine nD (fun x=> ∃ q,x.1=tst q∧0≤x.2.1∧x.2.1≤l.length∧0≤x.2.2∧x.2.2≤4∧qt q (l.drop (x.2.1.toNat+x.2.2.toNat))=qt s l) (fun x=>l.length - x.2.1.toNat) (fun r=>r=tst (qt s l)) ⟨s,rfl,Int.le_refl 0,by dsimp only; omega,Int.le_refl 0,by dsimp only; omega,by simp⟩ ?_ ?_
  ·rintro ⟨q',i,k⟩ ⟨q,e,h1,h2,h4,h5,h3⟩
   dsimp only at e h1 h2 h3 h4 h5 ⊢
   subst e
   obtain ⟨i,rfl⟩:=Int.eq_ofNat_of_zero_le h1
   obtain ⟨k,rfl⟩:=Int.eq_ofNat_of_zero_le h4
   rw [Int.toNat_natCast,Int.toNat_natCast] at h3
   by_cases hi:i < l.length
   ·left
    rw [decide_eq_true (by omega:(i:Int) < l.length),cond_true,cO _ _ hi,aA,w64 (x:=(i:Int)+1) (by omega) (by omega)]
    by_cases hk:0 < k
    ·rw [decide_eq_true (by omega:(k:Int) > 0),cond_true,aA,w64 (x:=(k:Int) - 1) (by omega) (by omega)]
     dsimp only
     refine ⟨_,rfl,⟨q,rfl,by dsimp only; omega,by dsimp only; omega,by dsimp only; omega,by dsimp only; omega,?_⟩,by dsimp only; omega⟩
     dsimp only
     rw [← h3]
     congr 2
     omega
    ·obtain rfl:k=0:=by omega
     rw [Nat.add_zero,List.drop_eq_getElem_cons hi,vl] at h3
     rw [decide_eq_false (by omega: ¬ ((0:Nat):Int) > 0),cond_false,qs,aA]
     by_cases hn:l[i]=38∨l[i]=48
     ·rw [if_pos hn] at h3
      rw [decide_eq_true hn,cond_true,show (i:Int)+1=((i+1:Nat):Int) by omega]
      have hd:(l.drop (i+1)).length≤l.length:=by simp
      by_cases hi1:i+1 < l.length
      ·rw [decide_eq_true (by omega:((i+1:Nat):Int) < l.length)]
       simp only [cond_true,cO _ _ hi1,aA]
       have hc:=xk (l.drop (i+1))
       rw [List.drop_eq_getElem_cons hi1] at hc
       by_cases a5:l[i+1]=5
       ·rw [a5]
        simp only [beq_self_eq_true,cond_true,aA]
        refine ⟨_,rfl,⟨q,rfl,by dsimp only; omega,by dsimp only; omega,by dsimp only; decide,by dsimp only; decide,?_⟩,by dsimp only; omega⟩
        dsimp only
        rcases hc with ⟨r,e1,e2⟩ | ⟨r,e1,_⟩ | ⟨_,e1⟩
        ·injection e1 with _ er
         rw [← h3,List.drop_eq_getElem_cons hi1,e2,← er]
         rw [xl _ _ _ (by simp; omega),← List.drop_eq_getElem_cons hi1,List.drop_drop]
         congr 2
        ·injection e1 with er _
         omega
        ·exact absurd a5 (e1 _ _ rfl).1
       ·rw [dP a5]
        simp only [cond_false,aA]
        by_cases a2:l[i+1]=2
        ·rw [a2]
         simp only [beq_self_eq_true,cond_true,aA]
         refine ⟨_,rfl,⟨q,rfl,by dsimp only; omega,by dsimp only; omega,by dsimp only; decide,by dsimp only; decide,?_⟩,by dsimp only; omega⟩
         dsimp only
         rcases hc with ⟨r,e1,e2⟩ | ⟨r,e1,e2⟩ | ⟨_,e1⟩
         ·injection e1 with er _
          omega
         ·injection e1 with _ er
          rw [← h3,List.drop_eq_getElem_cons hi1,e2,← er]
          rw [xl _ _ _ (by simp; omega),← List.drop_eq_getElem_cons hi1,List.drop_drop]
          congr 2
         ·exact absurd a2 (e1 _ _ rfl).2
        ·rw [dP a2]
         simp only [cond_false,aA]
         refine ⟨_,rfl,⟨q,rfl,by dsimp only; omega,by dsimp only; omega,by dsimp only; omega,by dsimp only; omega,?_⟩,by dsimp only; omega⟩
         dsimp only
         rcases hc with ⟨r,e1,e2⟩ | ⟨r,e1,e2⟩ | ⟨e2,_⟩
         ·injection e1 with er _
          exact absurd er a5
         ·injection e1 with er _
          exact absurd er a2
         ·rw [← h3,List.drop_eq_getElem_cons hi1,e2,← List.drop_eq_getElem_cons hi1,List.drop_drop]
          congr 2
      ·rw [decide_eq_false (by omega: ¬ ((i+1:Nat):Int) < l.length)]
       simp only [cond_false,aA]
       rw [List.drop_eq_nil_of_le (i:=i+1) (by omega),List.drop_nil] at h3
       refine ⟨_,rfl,⟨q,rfl,by dsimp only; omega,by dsimp only; omega,by dsimp only; omega,by dsimp only; omega,?_⟩,by dsimp only; omega⟩
       dsimp only
       rw [List.drop_eq_nil_of_le (by omega)]
       exact h3
     ·rw [if_neg hn] at h3
      rw [decide_eq_false hn,cond_false]
      rw [EG,aA]
      dsimp only
      refine ⟨_,rfl,⟨_,rfl,by dsimp only; omega,by dsimp only; omega,by dsimp only; omega,by dsimp only; omega,?_⟩,by dsimp only; omega⟩
      dsimp only
      rw [show ((i:Int)+1).toNat+((0:Nat):Int).toNat=i+1 by omega,h3]
   ·right
    rw [decide_eq_false (by omega: ¬ (i:Int) < l.length),cond_false]
    rw [List.drop_eq_nil_of_le (by omega),xj] at h3
    exact ⟨_,rfl,by rw [h3]⟩
  ·rintro r rfl
   rfl
end Go.Tw.X
set_option linter.unusedVariables false
set_option linter.unusedSimpArgs false
namespace Go.Tw.X
open Go Go.Tw
def aP (s:aB):aJ:=⟨nF s.g,s.spot.x,s.spot.y,tst s.spot.aL,s.saved.x,s.saved.y,tst s.saved.aL,s.waiting,s.top,s.aG,s.aY,s.title⟩
structure SJ (W:Nat) (s:aB):Prop where
 gw:s.g.w=W
 gi:GI W s.g.l
 x0:0≤s.spot.x
 x1:s.spot.x < W
 y0:0≤s.spot.y
 y1:s.spot.y < s.g.l.length
 t0:0≤s.top
 tb:s.top≤s.aG
 b1:s.aG < s.g.l.length
structure SI (W:Nat) (s:aB):Prop extends SJ W s where
 wt:s.waiting=true→s.spot.x=W - 1
theorem SJ.ge {W:Nat} {s:aB} (h:SJ W s):s.g=⟨W,s.g.l⟩:=by
 have:=h.gw
 cases hg:s.g
 rw [hg] at this
 simp at this
 rw [this]
def qV (W:Nat) (off:List aE):Prop:=off.length≤1000 ∧ ∀ r∈off,gok W r
theorem mM (W:Nat):qV W []:=⟨by simp,fun r hr=>by cases hr⟩
structure Sim (W:Nat) (p:Option (List aE×aB)) (q:Option (aJ×List aQ)) (off:List aE) (s':aB):Prop where
 p:p=some (off,s')
 q:q=some (aP s',off.map told)
 i:SI W s'
 o:qV W off
theorem lj (s:aB):bY s=some (jR s.spot.aL):=by unfold bY; rw [Ci]; rfl
theorem qW (s:aB):gI (aP s).s=some (jR s.spot.aL):=xi _
theorem ou (g:aX):cY g=some (g.w,(g.l.length:Int)):=rfl
def mvS (s:aB) (x y:Int):aB:=⟨s.g,⟨max 0 (min x (s.g.w - 1)),max 0 (min y ((s.g.l.length:Int) - 1)),s.spot.aL⟩,s.saved,false,s.top,s.aG,s.aY,s.title⟩
theorem l9 (n lo hi:Int):fl n lo hi=some (max lo (min n hi)):=by
 unfold fl
 rw [fg,dY]
section
variable {W : Nat} {s : aB}
theorem ud (h:SJ W s):dL s=some (s.g.w - 1,(s.g.l.length:Int) - 1):=by
 have h1:=h.gi.w2
 have h2:=h.gi.l2
 have h3:=h.gw
 unfold dL
 rw [ou,aA]
 dsimp only
 rw [w64 (by omega) (by omega),w64 (by omega) (by omega)]
theorem jf (h:SJ W s) (x y:Int):bJ s x y=some (mvS s x y):=by
 unfold bJ
 rw [ud h,aA,l9,aA,l9,aA]
 rfl
theorem gE (h:SJ W s) (x y:Int):cI (aP s) x y=some (aP (mvS s x y)):=by
 have h1:=h.gi.w2
 have h2:=h.gi.l2
 have h3:=h.gw
 have e:((aP s).g.l.length:Int)=s.g.l.length:=by simp [aP,nF]
 unfold cI
 rw [e,show (aP s).g.w=s.g.w from rfl,w64 (by omega) (by omega),w64 (by omega) (by omega),fg,fg,dY,dY]
 rfl
theorem ma (h:SJ W s) (x y:Int):SI W (mvS s x y):=by
 have h1:=h.gi.w1
 have h2:=h.gi.l1
 have h3:=h.gw
 exact ⟨⟨h3,h.gi,by simp only [mvS]; omega,by simp only [mvS]; omega,by simp only [mvS]; omega,by simp only [mvS]; omega,h.t0,h.tb,h.b1⟩,fun e=>by cases e⟩
theorem SJ.get (h:SJ W s) {y:Int} (h0:0≤y) (h1:y < s.g.l.length):idx (aP s).g.l y=some (told (iK s.g.l y))∧gok W (iK s.g.l y):=by
 obtain ⟨n,rfl⟩:=Int.eq_ofNat_of_zero_le h0
 have hn:n < s.g.l.length:=by omega
 rw [show (aP s).g.l=s.g.l.map told from rfl,fh,List.getElem?_map,List.getElem?_eq_getElem hn]
 exact ⟨by rw [vT hn]; rfl,by rw [vT hn]; exact h.gi.rs _ (List.getElem_mem hn)⟩
theorem SJ.Cl (h:SJ W s) (y:Int):dI s.g y=some (iK s.g.l y):=by
 rw [h.ge]
 exact vU _ _ _ h.gi.len
def seS (W:Nat) (s:aB) (y:Int) (r:aE):aB:=⟨⟨W,pW W s.g.l y r⟩,s.spot,s.saved,s.waiting,s.top,s.aG,s.aY,s.title⟩
theorem zG (h:SJ W s) (y:Int) {r:aE} (hr:okR r.cells):SJ W (seS W s y r) :=
 ⟨rfl,B5 h.gi y r hr,h.x0,h.x1,h.y0,by simp only [seS,jP]; exact h.y1,h.t0,h.tb,by simp only [seS,jP]; exact h.b1⟩
theorem SJ.Cm (h:SJ W s) (y:Int) {r:aE} (hr:r.cells.length≤1000000):ef s.g y r=some (inG s.g.l y,⟨W,pW W s.g.l y r⟩):=by
 rw [h.ge]
 exact BV W h.gi.w2 _ _ _ hr
theorem SJ.G9 (h:SJ W s) (y:Int) {r:aE} (hr:r.cells.length≤1000000):jJ (aP s).g y (told r)=some (⟨W,(pW W s.g.l y r).map told⟩,inG s.g.l y):=by
 rw [show (aP s).g=⟨W,s.g.l.map told⟩ by show nF s.g=_; rw [nF,h.gw]]
 exact Ea W h.gi.w2 _ _ _ hr (by have:=h.gi.l2; omega)
theorem pb (h:SJ W s) {r:aE} (hr:r.cells.length≤1000000):gb (aP s) (told r)=some (aP (seS W s s.spot.y r)):=by
 unfold gb
 rw [show (aP s).y=s.spot.y from rfl,h.G9 _ hr,aA]
 rfl
def upS (W:Nat) (s:aB) (n:Int):aB:=⟨⟨W,upL W s.g.l s.top s.aG n (jR s.spot.aL)⟩,s.spot,s.saved,s.waiting,s.top,s.aG,s.aY,s.title⟩
def upF (s:aB) (n:Int):List aE:=if s.top > 0 then [] else upO s.g.l s.top s.aG n
theorem tf (W:Nat) (l:List aE) (t b n q:Int) (h1:1≤l.length):(upL W l t b n q).length=l.length:=by
 unfold upL
 split
 ·rfl
 ·rename_i h
  obtain ⟨e,e1,e2⟩:=nH l t b h h1
  have e3:l.length=(l.take (loS l t)).length+(rgB l t b).length+(l.drop (loS l b+1)).length:=by rw [← List.length_append,← List.length_append,← e]
  rw [List.length_append,List.length_append,tX]
  omega
theorem vm (W:Nat) (l:List aE) (t b n q:Int) (h1:1≤l.length):(oZ W l t b n q).length=l.length:=by
 unfold oZ
 split
 ·rfl
 ·rename_i h
  obtain ⟨e,e1,e2⟩:=nH l t b h h1
  have e3:l.length=(l.take (loS l t)).length+(rgB l t b).length+(l.drop (loS l b+1)).length:=by rw [← List.length_append,← List.length_append,← e]
  rw [List.length_append,List.length_append,qO]
  omega
theorem Fu (h:SJ W s) (n:Int):SJ W (upS W s n) :=
 ⟨rfl,Fp h.gi _ _ _ _,h.x0,h.x1,h.y0,by simp only [upS,tf _ _ _ _ _ _ h.gi.l1]; exact h.y1,h.t0,h.tb,by simp only [upS,tf _ _ _ _ _ _ h.gi.l1]; exact h.b1⟩
theorem Cn (h:SJ W s) (n:Int):qV W (upF s n):=by
 unfold upF
 split
 ·exact mM W
 ·exact ⟨Nat.le_trans (Ek _ _ _ _) h.gi.l2,fun r hr=>h.gi.rs r (Ej hr)⟩
theorem Co (h:SJ W s) (n:Int):fM s n=some (upF s n,upS W s n):=by
 unfold fM upF
 rw [lj,aA]
 have e:eQ s.g s.top s.aG n (jR s.spot.aL)=some (upO s.g.l s.top s.aG n,⟨W,upL W s.g.l s.top s.aG n (jR s.spot.aL)⟩):=by
  rw [h.ge]; exact (vV h.gi _ _ _ _).1
 rw [e,aA]
 by_cases ht:s.top > 0
 ·rw [decide_eq_true ht,if_pos ht]; rfl
 ·rw [decide_eq_false ht,if_neg ht]; rfl
theorem qX (h:SJ W s):(aP s).g=⟨W,s.g.l.map told⟩:=by show nF s.g=_; rw [nF,h.gw]
theorem vn (h:SJ W s) (n:Int):iX (aP s) n=some (aP (upS W s n),(upF s n).map told):=by
 unfold iX upF
 rw [qW,aA,qX h,show (aP s).top=s.top from rfl,show (aP s).aG=s.aG from rfl,(vV h.gi _ _ _ _).2,aA]
 by_cases ht:s.top > 0
 ·rw [decide_eq_true ht,if_pos ht]; rfl
 ·rw [decide_eq_false ht,if_neg ht]; rfl
def nwS (s:aB):aB:=⟨s.g,s.spot,s.saved,false,s.top,s.aG,s.aY,s.title⟩
theorem kf (h:SJ W s):SJ W (nwS s):=⟨h.gw,h.gi,h.x0,h.x1,h.y0,h.y1,h.t0,h.tb,h.b1⟩
def liS (W:Nat) (s:aB):aB:=if s.spot.y=s.aG then upS W (nwS s) 1 else mvS (nwS s) s.spot.x (s.spot.y+1)
def liF (s:aB):List aE:=if s.spot.y=s.aG then upF (nwS s) 1 else []
theorem fI (h:SJ W s):Sim W (cU s) (eS (aP s)) (liF s) (liS W s):=by
 have h1:=h.y1
 have h2:=h.gi.l2
 have h3:=h.y0
 by_cases hy:s.spot.y=s.aG
 ·refine ⟨?_,?_,?_,?_⟩
  ·unfold cU liF liS
   rw [kh hy,cond_true,if_pos hy,if_pos hy,← nwS,Co (kf h)]; rfl
  ·unfold eS liF liS
   rw [show ((aP s).y == (aP s).aG)=true from kh hy,cond_true,if_pos hy,if_pos hy]
   have e:=vn (kf h) 1
   rw [show (aJ.mk (aP s).g (aP s).x (aP s).y (aP s).s (aP s).sX (aP s).sY (aP s).sS false (aP s).top (aP s).aG (aP s).aY (aP s).title)=aP (nwS s) from rfl,e]; rfl
  ·unfold liS; rw [if_pos hy]; exact ⟨Fu (kf h) 1,fun e=>by cases e⟩
  ·unfold liF; rw [if_pos hy]; exact Cn (kf h) 1
 ·refine ⟨?_,?_,?_,?_⟩
  ·unfold cU liF liS
   rw [dP hy,cond_false,if_neg hy,if_neg hy,w64 (by omega) (by omega),← nwS,jf (kf h)]; rfl
  ·unfold eS liF liS
   rw [show ((aP s).y == (aP s).aG)=false from dP hy,cond_false,if_neg hy,if_neg hy,show (aP s).y=s.spot.y from rfl,w64 (by omega) (by omega)]
   rw [show (aJ.mk (aP s).g (aP s).x s.spot.y (aP s).s (aP s).sX (aP s).sY (aP s).sS false (aP s).top (aP s).aG (aP s).aY (aP s).title)=aP (nwS s) from rfl,show (aP s).x=s.spot.x from rfl,gE (kf h)]; rfl
  ·unfold liS; rw [if_neg hy]; exact ma (kf h) _ _
  ·unfold liF; rw [if_neg hy]; exact mM W
end
end Go.Tw.X
set_option linter.unusedVariables false
set_option linter.unusedSimpArgs false
namespace Go.Tw.X
open Go Go.Tw
section
variable {W : Nat} {s : aB}
theorem gok.le {W:Nat} {r:aE} (h:gok W r) (hW:W≤1000):r.cells.length≤1000:=by rw [h.1]; exact hW
theorem Cp {l:List aI} (h:okR l) (q:Int):okR (m9 l q):=qL h _ (show rok 32 from ⟨by decide,by decide⟩)
theorem AJ (l:List aI) (q:Int):(m9 l q).length=l.length:=by simp [m9]
def r1S (s:aB):aE:=⟨(iK s.g.l s.spot.y).cells,true⟩
def r2S (s:aB):aE:=⟨gv 0 (m9 (iK s.g.l s.spot.y).cells (jR s.spot.aL)),true⟩
def r3S (s:aB) (r:Int):aE:=⟨gv 0 (rO (iK s.g.l s.spot.y).cells s.spot.x r (jR s.spot.aL)),false⟩
theorem SJ.row (h:SJ W s):gok W (iK s.g.l s.spot.y):=(h.get h.y0 h.y1).2
theorem Fv (h:SJ W s):gok W (r1S s):=⟨h.row.1,h.row.2⟩
theorem Fw (h:SJ W s):gok W (r2S s):=⟨by simp only [r2S,jd,AJ]; exact h.row.1,nC _ _ (Cp h.row.2 _)⟩
theorem Ha (h:SJ W s) {r:Int} (hr:rok r):gok W (r3S s r):=⟨by simp only [r3S,jd,sE]; exact h.row.1,nC _ _ (D7 h.row.2 _ _ hr)⟩
theorem Cq (h:SJ W s):(r1S s).cells.length≤1000000:=by have:=(Fv h).le h.gi.w2; omega
theorem Cr (h:SJ W s):(r2S s).cells.length≤1000000:=by have:=(Fw h).le h.gi.w2; omega
theorem nd (h:SJ W s):(iK s.g.l s.spot.y).cells.length≤1000:=h.row.le h.gi.w2
theorem Cs (h:SJ W s) (r:Int):(r3S s r).cells.length≤1000000:=by have:=nd h; simp only [r3S,jd,sE]; omega
theorem Ct (h:SJ W s):cL s=some (seS W s s.spot.y (r1S s)):=by
 unfold cL
 rw [h.Cl,aA,show gn (iK s.g.l s.spot.y)=some (r1S s) from rfl,aA,h.Cm _ (Cq h),aA]
 rfl
theorem Cu (h:SJ W s):cM s=some (seS W s s.spot.y (r2S s)):=by
 unfold cM gp
 have hl:=nd h
 rw [h.Cl,aA,lj,aA,fill_eq _ _ (by omega),aA,aA]
 rw [← r2S,h.Cm _ (Cr h),aA]
 rfl
theorem SJ.xr (h:SJ W s): -9223372036854775808≤s.spot.x∧s.spot.x≤9223372036854775807:=by
 have h1:=h.x0
 have h2:=h.x1
 have h3:=h.gi.w2
 omega
theorem Cv (h:SJ W s) (r:Int):dA s r=some (seS W s s.spot.y (r3S s r)):=by
 unfold dA gq
 have hl:=nd h
 rw [h.Cl,aA,lj,aA,put_eq _ _ _ _ (by omega) h.xr.1 h.xr.2,aA,aA]
 rw [← r3S,h.Cm _ (Cs h r),aA]
 rfl
theorem Gi (h:SJ W s):jb (told (iK s.g.l s.spot.y)) (jR s.spot.aL)=some (told (r2S s)):=by
 have hl:=nd h
 have:=BP (iK s.g.l s.spot.y).cells (iK s.g.l s.spot.y).wrapped (jR s.spot.aL) (by omega)
 rw [told,this]
 rfl
theorem Gj (h:SJ W s) {r:Int} (hr:rok r):kO (told (iK s.g.l s.spot.y)) s.spot.x r (jR s.spot.aL)=some (told (r3S s r)):=by
 have hl:=nd h
 have:=D6 (iK s.g.l s.spot.y).cells (iK s.g.l s.spot.y).wrapped s.spot.x r (jR s.spot.aL) (by omega) h.xr.1 h.xr.2 hr.1 hr.2
 rw [told,this]
 rfl
def xS (s:aB) (x:Int):aB:=⟨s.g,⟨x,s.spot.y,s.spot.aL⟩,s.saved,s.waiting,s.top,s.aG,s.aY,s.title⟩
theorem xm (h:SJ W s) {x:Int} (h0:0≤x) (h1:x < W):SJ W (xS s x):=⟨h.gw,h.gi,h0,h1,h.y0,h.y1,h.t0,h.tb,h.b1⟩
theorem w0 (h:SJ W s):(0:Int) < W:=by have:=h.gi.w1; omega
theorem xn (s:aB):(liS W s).spot.aL=s.spot.aL:=by unfold liS; split <;> rfl
theorem Ij (h:SJ W s) (hx:s.spot.x=0):(liS W s).spot.x=0:=by
 have h1:=h.gi.w1
 have h2:=h.gw
 unfold liS
 split
 ·exact hx
 ·simp only [mvS,nwS,hx]
  omega
def aS (W:Nat) (s:aB):aB:=if s.waiting=true∧s.aY=true then liS W (xS (seS W s s.spot.y (r1S s)) 0) else s
def aF (W:Nat) (s:aB):List aE:=if s.waiting=true∧s.aY=true then liF (xS (seS W s s.spot.y (r1S s)) 0) else []
theorem zH (h:SJ W s):SJ W (xS (seS W s s.spot.y (r1S s)) 0):=xm (zG h _ (Fv h).2) (Int.le_refl 0) (w0 h)
theorem EK (h:SJ W s):SJ W (aS W s):=by
 unfold aS
 split
 ·exact (fI (zH h)).i.toSJ
 ·exact h
theorem Cw (h:SJ W s):qV W (aF W s):=by
 unfold aF
 split
 ·exact (fI (zH h)).o
 ·exact mM W
theorem EL (s:aB):(aS W s).spot.aL=s.spot.aL:=by
 unfold aS
 split
 ·rw [xn]; rfl
 ·rfl
def bS (W:Nat) (s:aB) (n:Int):aB:=if s.spot.x+n > W then (if s.aY=true then liS W (xS (seS W s s.spot.y (r2S s)) 0) else xS s (s.spot.x - 1)) else s
def bF (W:Nat) (s:aB) (n:Int):List aE:=if s.spot.x+n > W then (if s.aY=true then liF (xS (seS W s s.spot.y (r2S s)) 0) else []) else []
theorem xo (h:SJ W s):SJ W (xS (seS W s s.spot.y (r2S s)) 0):=xm (zG h _ (Fw h).2) (Int.le_refl 0) (w0 h)
theorem Gk (h:SJ W s) {n:Int} (hn:n=1∨n=2) (hw:n≤W):SJ W (bS W s n)∧(bS W s n).spot.x+n≤W∧(bS W s n).spot.aL=s.spot.aL:=by
 have h1:=h.x1
 unfold bS
 split
 ·rename_i hx
  split
  ·refine ⟨(fI (xo h)).i.toSJ,?_,by rw [xn]; rfl⟩
   rw [Ij (xo h) rfl]
   omega
  ·refine ⟨xm h (by omega) (by omega),?_,rfl⟩
   simp only [xS]
   omega
 ·exact ⟨h,by omega,rfl⟩
theorem Hb (h:SJ W s) (n:Int):qV W (bF W s n):=by
 unfold bF
 split
 ·split
  ·exact (fI (xo h)).o
  ·exact mM W
 ·exact mM W
def cS (W:Nat) (s:aB) (r n:Int):aB:=⟨⟨W,pW W s.g.l s.spot.y (r3S s r)⟩,⟨min (s.spot.x+n) (W - 1),s.spot.y,s.spot.aL⟩,s.saved,s.spot.x+n == W,s.top,s.aG,s.aY,s.title⟩
def prS (W:Nat) (s:aB) (r:Int):aB:=if ofS r=0∨ofS r > W then s else cS W (bS W (aS W s) (ofS r)) r (ofS r)
def prF (W:Nat) (s:aB) (r:Int):List aE:=if ofS r=0∨ofS r > W then [] else aF W s++bF W (aS W s) (ofS r)
theorem v7 {a b:Nat} (ha:a≤1000000) (hb:b≤1000000):chk (dC a b 32)=some ():=bK (by omega)
theorem qV.l {off:List aE} (h:qV W off):off.length≤1000000:=by have:=h.1; omega
theorem Ik (h:SJ W s) {n r:Int} (hn:n=1∨n=2) (hx:s.spot.x+n≤W) (hr:rok r):SI W (cS W s r n):=by
 have h1:=h.x0
 have h2:=h.gi.w1
 refine ⟨⟨rfl,B5 h.gi _ _ (Ha h hr).2,?_,?_,h.y0,?_,h.t0,h.tb,?_⟩,?_⟩
 ·simp only [cS]; omega
 ·simp only [cS]; omega
 ·simp only [cS,jP]; exact h.y1
 ·simp only [cS,jP]; exact h.b1
 ·intro e
  simp only [cS,beq_iff_eq] at e ⊢
  omega
theorem EN (h:SJ W s) (r:Int):fD s r=some (prF W s r,prS W s r):=by
 have hw2:=h.gi.w2
 unfold fD prF prS
 rw [of_eq,aA,ou,aA,h.gw]
 dsimp only
 have e0:((bif (ofS r == 0) then some true else some (decide (ofS r > (W:Int)))):Option Bool)=some (decide (ofS r=0∨ofS r > W)):=by
  by_cases h1:ofS r=0
  ·rw [kh h1,cond_true,decide_eq_true (.inl h1)]
  ·rw [dP h1,cond_false]
   congr 1
   exact decide_eq_decide.2 ⟨.inr,fun h=>h.resolve_left h1⟩
 rw [e0,aA]
 by_cases hc:ofS r=0∨ofS r > W
 ·rw [decide_eq_true hc,cond_true,if_pos hc,if_pos hc]
 ·rw [decide_eq_false hc,cond_false,if_neg hc,if_neg hc]
  have hn:ofS r=1∨ofS r=2:=by rcases nB r with h | h | h <;> omega
  generalize hnn:ofS r=n at hc hn ⊢
  have ea:((bif s.waiting then some s.aY else some false):Option Bool)=some (decide (s.waiting=true∧s.aY=true)):=by cases s.waiting <;> cases s.aY <;> rfl
  rw [ea,aA]
  have eA:((bif decide (s.waiting=true∧s.aY=true) then (Option.bind (cL s) fun a=>(Option.bind (cU (aB.mk a.g (dN.mk 0 a.spot.y a.spot.aL) a.saved a.waiting a.top a.aG a.aY a.title)) fun c=>(Option.bind (chk (dC ([]:List aE).length c.1.length 32)) fun _=>some ((([]:List aE)++c.1),c.2.g,c.2)))) else some ([],s.g,s)):Option ((List aE)×aX×aB))=some (aF W s,(aS W s).g,aS W s):=by
   unfold aF aS
   by_cases hb:s.waiting=true∧s.aY=true
   ·rw [decide_eq_true hb,cond_true,if_pos hb,if_pos hb,Ct h,aA]
    have e1:=fI (zH h)
    rw [show (aB.mk (seS W s s.spot.y (r1S s)).g (dN.mk 0 (seS W s s.spot.y (r1S s)).spot.y (seS W s s.spot.y (r1S s)).spot.aL) (seS W s s.spot.y (r1S s)).saved (seS W s s.spot.y (r1S s)).waiting (seS W s s.spot.y (r1S s)).top (seS W s s.spot.y (r1S s)).aG (seS W s s.spot.y (r1S s)).aY (seS W s s.spot.y (r1S s)).title)=xS (seS W s s.spot.y (r1S s)) 0 from rfl,e1.p,aA]
    dsimp only
    rw [v7 (by simp) e1.o.l,aA,List.nil_append]
   ·rw [decide_eq_false hb,cond_false,if_neg hb,if_neg hb]
  rw [eA,aA]
  dsimp only
  have hA:=EK h
  have hAx:=hA.x1
  have hA0:=hA.x0
  have hFo:=(Cw h).l
  generalize hs1:aS W s=s1 at *
  generalize aF W s=o1 at *
  rw [w64 (x:=s1.spot.x+n) (by omega) (by omega)]
  have hB:=Gk hA hn (by omega:n≤W)
  have eB: ∀ g:aX,g=s1.g→((bif (decide (s1.spot.x+n > (W:Int))) then (bif s1.aY then (Option.bind (cM (aB.mk g s1.spot s1.saved s1.waiting s1.top s1.aG s1.aY s1.title)) fun b=>(Option.bind (cU (aB.mk b.g (dN.mk 0 b.spot.y b.spot.aL) b.saved b.waiting b.top b.aG b.aY b.title)) fun d=>(Option.bind (chk (dC o1.length d.1.length 32)) fun _=>some ((o1++d.1),d.2.g,d.2)))) else some (o1,g,(aB.mk g (dN.mk (IntKind.i64.wrap (s1.spot.x - 1)) s1.spot.y s1.spot.aL) s1.saved s1.waiting s1.top s1.aG s1.aY s1.title))) else some (o1,g,(aB.mk g s1.spot s1.saved s1.waiting s1.top s1.aG s1.aY s1.title))):Option ((List aE)×aX×aB))=some (o1++bF W s1 n,(bS W s1 n).g,bS W s1 n):=by
   rintro g rfl
   unfold bF bS
   by_cases hx:s1.spot.x+n > W
   ·rw [decide_eq_true hx,cond_true,if_pos hx,if_pos hx]
    cases hwr:s1.aY with
    | true =>
     rw [cond_true,if_pos rfl,if_pos rfl]
     have e2:(aB.mk s1.g s1.spot s1.saved s1.waiting s1.top s1.aG true s1.title)=s1:=by rw [← hwr]
     rw [e2,Cu hA,aA]
     have e1:=fI (xo hA)
     rw [show (aB.mk (seS W s1 s1.spot.y (r2S s1)).g (dN.mk 0 (seS W s1 s1.spot.y (r2S s1)).spot.y (seS W s1 s1.spot.y (r2S s1)).spot.aL) (seS W s1 s1.spot.y (r2S s1)).saved (seS W s1 s1.spot.y (r2S s1)).waiting (seS W s1 s1.spot.y (r2S s1)).top (seS W s1 s1.spot.y (r2S s1)).aG (seS W s1 s1.spot.y (r2S s1)).aY (seS W s1 s1.spot.y (r2S s1)).title)=xS (seS W s1 s1.spot.y (r2S s1)) 0 from rfl,e1.p,aA]
     dsimp only
     rw [v7 hFo e1.o.l,aA]
    | false =>
     rw [cond_false,if_neg (by simp),if_neg (by simp),w64 (by omega) (by omega),List.append_nil]
     simp only [xS,hwr]
   ·rw [decide_eq_false hx,cond_false,if_neg hx,if_neg hx,List.append_nil]
  rw [eB _ rfl,aA]
  dsimp only
  obtain ⟨hB1,hB2,hB3⟩:=hB
  have hBx:=hB1.x0
  generalize bS W s1 n=s2 at *
  generalize o1++bF W s1 n=o2
  rw [show (aB.mk s2.g s2.spot s2.saved s2.waiting s2.top s2.aG s2.aY s2.title)=s2 from rfl,Cv hB1,aA]
  unfold cS
  simp only [seS]
  rw [w64 (by omega) (by omega),w64 (by omega) (by omega),dY]
end
end Go.Tw.X
set_option linter.unusedVariables false
set_option linter.unusedSimpArgs false
namespace Go.Tw.X
open Go Go.Tw
section
variable {W : Nat} {s : aB}
theorem SJ.EO (h:SJ W s):idx (aP s).g.l (aP s).y=some (told (iK s.g.l s.spot.y)):=(h.get h.y0 h.y1).1
theorem Gl (h:SJ W s) {r:Int} (hr:rok r):lb (aP s) r=some (aP (prS W s r),(prF W s r).map told):=by
 have hw2:=h.gi.w2
 unfold lb prF prS
 rw [BQ r hr.1 hr.2,aA,show (aP s).g.w=(W:Int) from h.gw]
 have e0:((bif (ofS r == 0) then some true else some (decide (ofS r > (W:Int)))):Option Bool)=some (decide (ofS r=0∨ofS r > W)):=by
  by_cases h1:ofS r=0
  ·rw [kh h1,cond_true,decide_eq_true (.inl h1)]
  ·rw [dP h1,cond_false]
   congr 1
   exact decide_eq_decide.2 ⟨.inr,fun h=>h.resolve_left h1⟩
 rw [e0,aA]
 by_cases hc:ofS r=0∨ofS r > W
 ·rw [decide_eq_true hc,cond_true,if_pos hc,if_pos hc]; rfl
 ·rw [decide_eq_false hc,cond_false,if_neg hc,if_neg hc,qW,aA]
  have hn:ofS r=1∨ofS r=2:=by rcases nB r with h | h | h <;> omega
  generalize hnn:ofS r=n at hc hn ⊢
  have ea:((bif (aP s).waiting then some (aP s).aY else some false):Option Bool)=some (decide (s.waiting=true∧s.aY=true)):=by
   show ((bif s.waiting then some s.aY else some false):Option Bool)=_
   cases s.waiting <;> cases s.aY <;> rfl
  rw [ea,aA]
  have eA:((bif decide (s.waiting=true∧s.aY=true) then (Option.bind (idx (aP s).g.l (aP s).y) fun e=>(Option.bind (gb (aP s) (aQ.mk e.l true)) fun a=>(Option.bind (eS (aJ.mk a.g 0 a.y a.s a.sX a.sY a.sS a.waiting a.top a.aG a.aY a.title)) fun c=>(Option.bind (chk (dC ([]:List aQ).length c.2.length 32)) fun _=>some ((([]:List aQ)++c.2),c.1))))) else some (([]:List aQ),aP s)):Option ((List aQ)×aJ))=some ((aF W s).map told,aP (aS W s)):=by
   unfold aF aS
   by_cases hb:s.waiting=true∧s.aY=true
   ·rw [decide_eq_true hb,cond_true,if_pos hb,if_pos hb,h.EO,aA]
    rw [show (aQ.mk (told (iK s.g.l s.spot.y)).l true)=told (r1S s) from rfl,pb h (Cq h),aA]
    have e1:=fI (zH h)
    have e2:=e1.q
    rw [show aP (xS (seS W s s.spot.y (r1S s)) 0)=(aJ.mk (aP (seS W s s.spot.y (r1S s))).g 0 (aP (seS W s s.spot.y (r1S s))).y (aP (seS W s s.spot.y (r1S s))).s (aP (seS W s s.spot.y (r1S s))).sX (aP (seS W s s.spot.y (r1S s))).sY (aP (seS W s s.spot.y (r1S s))).sS (aP (seS W s s.spot.y (r1S s))).waiting (aP (seS W s s.spot.y (r1S s))).top (aP (seS W s s.spot.y (r1S s))).aG (aP (seS W s s.spot.y (r1S s))).aY (aP (seS W s s.spot.y (r1S s))).title) from rfl] at e2
    rw [e2,aA]
    dsimp only
    rw [v7 (by simp) (by rw [List.length_map]; exact e1.o.l),aA,List.nil_append]
   ·rw [decide_eq_false hb,cond_false,if_neg hb,if_neg hb]; rfl
  rw [eA,aA]
  dsimp only
  have hA:=EK h
  have hst:(aS W s).spot.aL=s.spot.aL:=EL s
  have hAx:=hA.x1
  have hA0:=hA.x0
  have hFo:=(Cw h).l
  generalize hs1:aS W s=s1 at *
  generalize aF W s=o1 at *
  have hB:=Gk hA hn (by omega:n≤W)
  have eb:((bif (n == 2) then some ((aP s1).x == (IntKind.i64.wrap ((aP s1).g.w - 1))) else some false):Option Bool)=some (decide (s1.spot.x+n > W)):=by
   rw [show (aP s1).g.w=(W:Int) from hA.gw,show (aP s1).x=s1.spot.x from rfl,w64 (by omega) (by omega)]
   by_cases h2:n=2
   ·rw [kh h2,cond_true]
    by_cases hx:s1.spot.x=(W:Int) - 1
    ·rw [kh hx,decide_eq_true (by omega)]
    ·rw [dP hx,decide_eq_false (by omega)]
   ·rw [dP h2,cond_false,decide_eq_false (by omega)]
  rw [eb,aA]
  have eB:((bif decide (s1.spot.x+n > (W:Int)) then (bif (aP s1).aY then (Option.bind (idx (aP s1).g.l (aP s1).y) fun f=>(Option.bind (jb f (jR s.spot.aL)) fun i=>(Option.bind (gb (aP s1) i) fun b=>(Option.bind (eS (aJ.mk b.g 0 b.y b.s b.sX b.sY b.sS b.waiting b.top b.aG b.aY b.title)) fun d=>(Option.bind (chk (dC (o1.map told).length d.2.length 32)) fun _=>some ((o1.map told++d.2),d.1)))))) else some (o1.map told,(aJ.mk (aP s1).g (IntKind.i64.wrap ((aP s1).x - 1)) (aP s1).y (aP s1).s (aP s1).sX (aP s1).sY (aP s1).sS (aP s1).waiting (aP s1).top (aP s1).aG (aP s1).aY (aP s1).title))) else some (o1.map told,aP s1)):Option ((List aQ)×aJ))=some ((o1++bF W s1 n).map told,aP (bS W s1 n)):=by
   unfold bF bS
   by_cases hx:s1.spot.x+n > W
   ·rw [decide_eq_true hx,cond_true,if_pos hx,if_pos hx,show (aP s1).aY=s1.aY from rfl]
    cases hwr:s1.aY with
    | true =>
     rw [cond_true,if_pos rfl,if_pos rfl,hA.EO,aA,← hst,Gi hA,aA,pb hA (Cr hA),aA]
     have e1:=fI (xo hA)
     have e2:=e1.q
     rw [show aP (xS (seS W s1 s1.spot.y (r2S s1)) 0)=(aJ.mk (aP (seS W s1 s1.spot.y (r2S s1))).g 0 (aP (seS W s1 s1.spot.y (r2S s1))).y (aP (seS W s1 s1.spot.y (r2S s1))).s (aP (seS W s1 s1.spot.y (r2S s1))).sX (aP (seS W s1 s1.spot.y (r2S s1))).sY (aP (seS W s1 s1.spot.y (r2S s1))).sS (aP (seS W s1 s1.spot.y (r2S s1))).waiting (aP (seS W s1 s1.spot.y (r2S s1))).top (aP (seS W s1 s1.spot.y (r2S s1))).aG (aP (seS W s1 s1.spot.y (r2S s1))).aY (aP (seS W s1 s1.spot.y (r2S s1))).title) from rfl] at e2
     rw [e2,aA]
     dsimp only
     rw [v7 (by rw [List.length_map]; exact hFo) (by rw [List.length_map]; exact e1.o.l),aA,List.map_append]
    | false =>
     rw [cond_false,if_neg (by simp),if_neg (by simp),show (aP s1).x=s1.spot.x from rfl,w64 (by omega) (by omega),List.append_nil]
     simp only [xS,hwr,aP]
   ·rw [decide_eq_false hx,cond_false,if_neg hx,if_neg hx,List.append_nil]
  rw [eB,aA]
  dsimp only
  obtain ⟨hB1,hB2,hB3⟩:=hB
  have hBx:=hB1.x0
  have hst2:(bS W s1 n).spot.aL=s.spot.aL:=by rw [hB3,hst]
  generalize bS W s1 n=s2 at *
  generalize o1++bF W s1 n=o2
  rw [hB1.EO,aA,show (aP s2).x=s2.spot.x from rfl,← hst2,Gj hB1 hr,aA,pb hB1 (Cs hB1 r),aA]
  rw [show (aP (seS W s2 s2.spot.y (r3S s2 r))).x=s2.spot.x from rfl,show (aP (seS W s2 s2.spot.y (r3S s2 r))).g.w=(W:Int) from rfl,w64 (by omega) (by omega),w64 (by omega) (by omega)]
  unfold cS
  by_cases hx:s2.spot.x+n=W
  ·rw [kh hx,cond_true,aA,show min (s2.spot.x+n) ((W:Int) - 1)=s2.spot.x+n - 1 by omega]; rfl
  ·rw [dP hx,cond_false,aA,show min (s2.spot.x+n) ((W:Int) - 1)=s2.spot.x+n by omega]; rfl
theorem Hc (h:SI W s) {r:Int} (hr:rok r):SI W (prS W s r):=by
 unfold prS
 split
 ·exact h
 ·rename_i hc
  have hn:ofS r=1∨ofS r=2:=by rcases nB r with h | h | h <;> omega
  have hB:=Gk (EK h.toSJ) hn (by omega)
  exact Ik hB.1 hn hB.2.1 hr
theorem Gm (h:SJ W s) {r:Int}:(prF W s r).length≤2000 ∧ ∀ q∈prF W s r,gok W q:=by
 unfold prF
 split
 ·exact ⟨by simp,fun r hr=>by cases hr⟩
 ·have h1:=Cw h
  have h2:=Hb (EK h) (ofS r)
  refine ⟨by rw [List.length_append]; have:=h1.1; have:=h2.1; omega,fun q hq=> ?_⟩
  rcases List.mem_append.1 hq with hq | hq
  ·exact h1.2 q hq
  ·exact h2.2 q hq
end
end Go.Tw.X

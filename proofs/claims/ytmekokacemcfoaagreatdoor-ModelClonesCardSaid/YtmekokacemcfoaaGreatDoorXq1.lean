import Derived.Test.YtmekokacemcfoaaGreatDoorXp1
import Derived.Test.YtmekokacemcfoaaGreatDoorFw2
import Derived.Laws.BitsLemmas
import Derived.Laws.Strings
set_option linter.unusedVariables false
set_option linter.unusedSimpArgs false
namespace Go.Tw.X
open Go Go.Tw
def tc (c:aJ):aP:=⟨c.rune,c.aM,c.part⟩
def told (r:aE):aR:=⟨r.cells.map tc,r.wrapped⟩
def CB (r:List aJ):Int:=match r with
 | []=>0
 | d::_=>d.part
def vJ (p:Int) (c:aJ) (r:List aJ):Bool :=
 bif c.part == 1 then (CB r != 2) else bif c.part == 2 then (p != 1) else bif c.part == 3 then !r.isEmpty else false
def sZ (p:Int) (c:aJ) (r:List aJ):aJ:=bif vJ p c r then ⟨32,c.aM,0⟩ else c
def ij:Int→List aJ→List aJ
 | _,[]=>[]
 | p,c::r=>sZ p c r::ij (sZ p c r).part r
theorem jX: ∀ (l:List aJ) (p:Int),(ij p l).length=l.length
 | [],_=>rfl
 | c::r,p=>by simp [ij,jX r]
def lQ (l:List aJ):Int:=qT 0 (l.map (·.part))
theorem uS (l:List aJ) (c:aJ):lQ (l++[c])=c.part:=by simp [lQ,uR]
theorem s5 {α β:Type} (f:α→β) (d:α): ∀ l:List α,qT (f d) (l.map f)=f (qT d l)
 | []=>rfl
 | [x]=>rfl
 | _::y::l=>s5 f d (y::l)
theorem pS (s:Int):gU s=some ⟨32,s,0⟩:=rfl
theorem Bp (l r:List aJ) (c:aJ) (h:(l++c::r).length≤1000000):kY (l++c::r) (l.length:Int)=some (vJ (lQ l) c r):=by
 have hl:(l++c::r).length=l.length+r.length+1:=by simp; omega
 unfold kY
 rw [lW,aA]
 rw [w64 (x:=(l.length:Int)+1) (by omega) (by omega),w64 (x:=(l.length:Int) - 1) (by omega) (by omega),w64 (x:=((l++c::r).length:Int) - 1) (by omega) (by omega),xV,hl]
 unfold vJ
 cases h1:(c.part == 1) with
 | true =>
  simp only [cond_true]
  cases r with
  | nil=>simp [CB]
  | cons d r =>
   have hd:decide ((l.length:Int)+1≥((l.length+(d::r).length+1:Nat):Int))=false:=decide_eq_false (by simp only [List.length_cons]; omega)
   rw [hd]
   simp [CB]
 | false =>
  simp only [cond_false]
  cases h2:(c.part == 2) with
  | true =>
   simp only [cond_true]
   cases hl0:l with
   | nil=>simp [lQ,qT]
   | cons a t =>
    have hne:(((a::t).length:Int) == 0)=false:=by simp; omega
    rw [hne,cond_false,xU (a::t) r ⟨0,0,0⟩ c (by simp)]
    simp only [aA]
    rw [lQ,← s5 (fun c:aJ=>c.part) ⟨0,0,0⟩]
  | false =>
   simp only [cond_false]
   cases h3:(c.part == 3) with
   | true =>
    simp only [cond_true]
    cases r with
    | nil=>simp
    | cons d r=>simp; omega
   | false=>rfl
theorem ny (l:List aJ) (h:l.length≤1000000):eK l=some ⟨ij 0 l,false⟩:=by
 unfold eK
 have key: ∀ (r d:List aJ),(d++r).length=l.length→iter (σ:=(List aJ)×Int) (ρ:=(List aJ)) (fun s=>(bif (decide (s.2 < (l.length:Int))) then (Option.bind ((Option.bind (kY s.1 s.2) fun r1=>(bif r1 then (Option.bind (idx s.1 s.2) fun x=>(Option.bind (gU x.aM) fun r2=>(Option.bind (idx s.1 s.2) fun _=>some (s.1.set s.2.toNat r2)))) else some s.1)):Option (List aJ)) fun e=>some (.inl (e,(IntKind.i64.wrap (s.2+1))))) else some (.inr s.1))) (d++r,(d.length:Int))=some (d++ij (lQ d) r):=by
  intro r
  induction r with
  | nil =>
   intro d hd
   simp at hd
   rw [dS (r:=d)]
   ·simp [ij]
   ·simp [hd]
  | cons c r ih =>
   intro d hd
   have hdl:d.length < l.length:=by rw [← hd]; simp
   have hlen:(d++sZ (lQ d) c r::r).length=l.length:=by rw [← hd]; simp
   rw [fT (s':=((d++[sZ (lQ d) c r])++r,((d++[sZ (lQ d) c r]).length:Int)))]
   ·rw [ih (d++[sZ (lQ d) c r]) (by simpa using hlen),uS]
    simp [ij]
   ·have hc:decide ((d.length:Int) < (l.length:Int))=true:=by simp; omega
    simp only [hc,cond_true]
    rw [Bp d r c (by rw [hd]; exact h),lW]
    simp only [aA,pS]
    rw [w64 (by omega) (by omega)]
    unfold sZ
    cases vJ (lQ d) c r with
    | true=>simp
    | false=>simp
 have:=key l [] (by simp)
 simp only [List.nil_append,List.length_nil,Int.ofNat_zero] at this
 rw [this]
 rfl
end Go.Tw.X
set_option linter.unusedVariables false
set_option linter.unusedSimpArgs false
namespace Go.Tw.X
open Go Go.Tw
theorem CC (n:Int):IntKind.u64.wrap n=n % 18446744073709551616:=by simp [IntKind.wrap,IntKind.bits,IntKind.signed]
theorem E7 (n:Int) (h0:0≤n) (h1:n < 2 ^ 63):IntKind.u64.wrap n=n:=by rw [CC]; omega
theorem zf (y:Int) (h0:0≤y) (h1:y < 4294967296):Go.bits .and .u64 y 4294967295=y:=by
 have h:=bits_mask .u64 63 (by decide) E7 32 (by decide) y h0 (by omega)
 have e:((2:Int) ^ 32 - 1)=4294967295:=by decide
 have e2:((2:Int) ^ 32)=4294967296:=by decide
 rw [e,e2] at h
 rw [h]
 omega
theorem CD {x:Int} (h0:0≤x) (h1:x < 18446744073709551616):IntKind.u64.wrap x=x:=by rw [CC]; omega
theorem zh (n:Int) (h0:0≤n) (h1:n≤1000000):nM 1 n=some (0,n):=by
 have e32:(2:Int) ^ (min 32 64)=4294967296:=by decide
 have f1:Int.fdiv 1 4294967296=0:=by decide
 have f2:Int.fdiv n 4294967296=0:=by rw [Int.fdiv_eq_ediv_of_nonneg _ (by decide)]; omega
 have f0:Int.fdiv 0 4294967296=0:=by decide
 have z0:IntKind.u64.wrap 0=0:=by rw [CC]; rfl
 have m0:Go.bits .and .u64 0 4294967295=0:=zf 0 (by omega) (by omega)
 have m1:Go.bits .and .u64 1 4294967295=1:=zf 1 (by omega) (by omega)
 have mn:=zf n h0 (by omega)
 have un:IntKind.u64.wrap n=n:=CD h0 (by omega)
 unfold nM nw
 simp only [e32,f1,f2,m1,mn,Int.zero_mul,Int.mul_zero,Int.one_mul,z0,un,f0,Int.add_zero,Int.zero_add,m0,aA]
theorem Bq (c:aJ) (n:Int) (h0:0≤n) (h1:n≤1000000):eX [c] n=some (List.replicate n.toNat c):=by
 unfold eX
 have hn:decide (n < 0)=false:=decide_eq_false (by omega)
 have u1:IntKind.u64.wrap (([c].length:Nat):Int)=1:=CD (by simp) (by simp)
 rw [hn,cond_false,u1,CD h0 (by omega),zh n h0 h1]
 simp only [aA]
 have g1:decide ((0:Int) > 0)=false:=by decide
 have g2:decide (n > 9223372036854775807)=false:=decide_eq_false (by omega)
 rw [g1,cond_false,aA,g2,cond_false,w64 (by omega) (by omega),Bn h0 (by omega) (by omega),aA]
 obtain ⟨k,rfl⟩: ∃ k:Nat,n=k:=⟨n.toNat,by omega⟩
 simp only [Int.toNat_natCast,List.length_cons,List.length_nil,List.length_replicate]
 have key: ∀ m j,k - j=m→j≤k→(1≤j∨k=0)→iter (σ:=(List aJ)×Int) (ρ:=(List aJ)) (fun a=>(bif (decide (a.2 < (a.1.length:Int))) then (Option.bind (chk (cW a.2 (a.1.length:Int) a.1.length)) fun _=>(Option.bind (chk (cW 0 a.2 a.1.length)) fun _=>some (.inl ((vH a.1 a.2.toNat),(IntKind.i64.wrap (a.2+((Nat.min a.2.toNat (a.1.length - a.2.toNat):Nat):Int))))))) else some (.inr a.1))) (List.replicate j c++List.replicate (k - j) (aJ.mk 0 0 0),(j:Int))=some (List.replicate k c):=by
  intro m
  induction m using Nat.strongRecOn with
  | _ m ih =>
   intro j hm hj h1j
   have hlen:(List.replicate j c++List.replicate (k - j) (aJ.mk 0 0 0)).length=k:=by simp; omega
   by_cases hjk:j < k
   ·have hmin:Nat.min j (k - j)=min j (k - j):=rfl
    rw [fT (s':=(List.replicate (j+min j (k - j)) c++List.replicate (k - (j+min j (k - j))) (aJ.mk 0 0 0),((j+min j (k - j):Nat):Int)))]
    ·exact ih (k - (j+min j (k - j))) (by omega) _ rfl (by omega) (by omega)
    ·have hc:decide ((j:Int) < ((List.replicate j c++List.replicate (k - j) (aJ.mk 0 0 0)).length:Int))=true:=by rw [hlen]; simp; omega
     simp only [hc,cond_true]
     rw [hlen,bV (by omega) (by omega) (by omega),aA,bV (by omega) (by omega) (by omega),aA,Int.toNat_natCast,hmin,w64 (by omega) (by omega)]
     congr 2
     refine Prod.ext ?_ ?_
     ·show vH _ _=_
      unfold vH
      rw [hlen]
      have t1:(List.replicate j c++List.replicate (k - j) (aJ.mk 0 0 0)).take j=List.replicate j c:=by rw [List.take_left']; simp
      rw [t1,List.take_replicate,List.drop_append,List.drop_of_length_le (by simp),List.nil_append,List.length_replicate,List.drop_replicate,List.replicate_append_replicate,Nat.min_comm (k - j) j]
      congr 2
      omega
     ·show ((j:Int)+((min j (k - j):Nat):Int))=_
      omega
   ·have hjk':j=k:=by omega
    subst hjk'
    rw [dS (r:=List.replicate j c)]
    simp
 have hs:cpy (List.replicate k (aJ.mk 0 0 0)) [c]=List.replicate (min 1 k) c++List.replicate (k - min 1 k) (aJ.mk 0 0 0):=by
  unfold cpy
  cases k with
  | zero=>simp
  | succ k=>simp [Nat.min_eq_left]
 have hmin:Nat.min (0+1) k=min 1 k:=rfl
 rw [hs,hmin,key _ (min 1 k) rfl (by omega) (by omega),aA]
theorem qt (n s:Int) (h:n≤1000000):je n s=some (List.replicate n.toNat ⟨32,s,0⟩):=by
 unfold je
 rw [pS,aA]
 rw [fM,Bq _ (max 0 n) (by omega) (by omega),aA]
 have:(max 0 n).toNat=n.toNat:=by omega
 rw [this]
theorem qu (n lo hi:Int):jB n lo hi=some (max lo (min n hi)):=by
 unfold jB
 rw [fM,dZ]
theorem xW (l:List aJ) (h:l.length≤1000000):eI l=some l:=by
 unfold eI
 rw [bH (by simp; omega),aA]
 rfl
theorem oA (r:aE) (h:r.cells.length≤1000000):eM r=some r.cells:=by
 unfold eM
 rw [xW _ h,aA]
def cP (l:List aJ) (at_ n:Int):Int:=if at_ < 0∨at_≥l.length then 0 else max 0 (min n (l.length - at_))
theorem v7 (r:aE) (at_ n:Int) (h:r.cells.length≤1000000) (ha: -9223372036854775808≤at_) (hb:at_≤9223372036854775807):iH r at_ n=some (cP r.cells at_ n):=by
 unfold iH cP
 by_cases h1:at_ < 0
 ·rw [if_pos (.inl h1)]
  simp [h1]
 ·by_cases h2:at_≥r.cells.length
  ·rw [if_pos (.inr h2)]
   simp [h1,h2]
  ·rw [if_neg (by omega)]
   have e1:decide (at_ < 0)=false:=decide_eq_false h1
   have e2:decide (at_≥(r.cells.length:Int))=false:=decide_eq_false h2
   rw [e1,cond_false,e2,aA,cond_false,w64 (by omega) (by omega),qu,aA]
end Go.Tw.X
set_option linter.unusedVariables false
set_option linter.unusedSimpArgs false
namespace Go.Tw.X
open Go Go.Tw
def qJ (r:Int):List gT→Nat
 | []=>0
 | s::l=>if s.to < r then qJ r l+1 else 0
def inS (l:List gT) (r:Int):Bool:=l.any fun s=>decide (s.from_≤r∧r≤s.to)
def rising:List gT→Bool
 | []=>true
 | [s]=>true
 | s::t::l=>decide (s.to < t.from_∧t.from_≤t.to) && rising (t::l)
theorem wS (r:Int): ∀ l:List gT,qJ r l≤l.length
 | []=>Nat.le_refl _
 | s::l=>by
  unfold qJ
  have:=wS r l
  split <;> simp <;> omega
theorem tN {s:gT} {l:List gT} (h:rising (s::l)=true):rising l=true:=by
 cases l with
 | nil=>rfl
 | cons t l=>simp only [rising,Bool.and_eq_true] at h; exact h.2
theorem rq {s:gT}: ∀ {l:List gT},rising (s::l)=true → ∀ t∈l,s.to < t.from_∧t.from_≤t.to
 | [],_,t,ht=>by cases ht
 | u::l,h,t,ht=>by
  simp only [rising,Bool.and_eq_true,decide_eq_true_eq] at h
  rcases List.mem_cons.1 ht with rfl | ht
  ·exact h.1
  ·have:=rq h.2 t ht
   have:=h.1
   omega
theorem Af (r:Int): ∀ {l:List gT},rising l=true → ∀ (i:Nat) (s:gT),l[i]?=some s→(s.to < r↔i < qJ r l)
 | [],_,i,s,h=>by simp at h
 | u::l,hr,i,s,h=>by
  cases i with
  | zero =>
   simp at h
   subst h
   unfold qJ
   split <;> simp [*]
  | succ i =>
   simp at h
   have ih:=Af r (tN hr) i s h
   unfold qJ
   split
   ·rw [ih]; omega
   ·have:=rq hr s (List.mem_of_getElem? h)
    constructor
    ·intro; omega
    ·intro; omega
theorem Ag (r:Int): ∀ {l:List gT},rising l=true→inS l r=(match l[qJ r l]? with | some s=>decide (s.from_≤r) | none=>false)
 | [],_=>rfl
 | u::l,hr=>by
  have ih:=Ag r (tN hr)
  unfold inS at ih ⊢
  unfold qJ
  by_cases hu:u.to < r
  ·rw [if_pos hu,List.any_cons,ih]
   have:decide (u.from_≤r∧r≤u.to)=false:=by simp; omega
   simp [this]
  ·rw [if_neg hu,List.any_cons]
   simp only [List.getElem?_cons_zero]
   by_cases hf:u.from_≤r
   ·have:decide (u.from_≤r∧r≤u.to)=true:=by simp; omega
    rw [this,Bool.true_or]
    simp [hf]
   ·have h1:decide (u.from_≤r∧r≤u.to)=false:=by simp; omega
    have h2:(l.any fun s=>decide (s.from_≤r∧r≤s.to))=false:=by
     rw [List.any_eq_false]
     intro t ht
     have:=rq hr t ht
     simp
     omega
    rw [h1,h2]
    simp [hf]
theorem Gf (l:List gT) (r:Int) (hr:rising l=true) (hl:l.length≤1000000):nG l r=some (inS l r):=by
 unfold nG
 have key: ∀ m lo hi,hi - lo=m→lo≤qJ r l→qJ r l≤hi→hi≤l.length→iter (σ:=Int×Int) (ρ:=Int) (fun a=>(bif (decide (a.1 < a.2)) then (Option.bind (idx l (IntKind.i64.wrap ((IntKind.i64.wrap (a.1+a.2)).tdiv 2))) fun b=>(bif (decide (b.to < r)) then some (.inl ((IntKind.i64.wrap ((IntKind.i64.wrap ((IntKind.i64.wrap (a.1+a.2)).tdiv 2))+1)),a.2)) else some (.inl (a.1,(IntKind.i64.wrap ((IntKind.i64.wrap (a.1+a.2)).tdiv 2)))))) else some (.inr a.1))) ((lo:Int),(hi:Int))=some ((qJ r l:Nat):Int):=by
  intro m
  induction m using Nat.strongRecOn with
  | _ m ih =>
   intro lo hi hm h1 h2 h3
   by_cases hlt:lo < hi
   ·have e:(IntKind.i64.wrap ((IntKind.i64.wrap ((lo:Int)+(hi:Int))).tdiv 2))=(((lo+hi) / 2:Nat):Int):=by
     rw [w64 (x:=(lo:Int)+(hi:Int)) (by omega) (by omega)]
     have e1:((lo:Int)+(hi:Int)).tdiv 2=(((lo+hi) / 2:Nat):Int):=by
      rw [Int.tdiv_eq_ediv_of_nonneg (by omega)]
      omega
     rw [e1,w64 (by omega) (by omega)]
    have hmid:(lo+hi) / 2 < l.length:=by omega
    have hc:decide ((lo:Int) < (hi:Int))=true:=by simp; omega
    have hx:idx l (((lo+hi) / 2:Nat):Int)=some l[(lo+hi) / 2]:=by rw [fN]; simp [hmid]
    have hat:=Af r hr ((lo+hi) / 2) l[(lo+hi) / 2] (by simp [hmid])
    by_cases hto:(l[(lo+hi) / 2]).to < r
    ·rw [fT (s':=((((lo+hi) / 2+1:Nat):Int),(hi:Int)))]
     ·have:=hat.1 hto
      exact ih (hi - ((lo+hi) / 2+1)) (by omega) _ _ rfl (by omega) h2 h3
     ·simp only [hc,cond_true,e,hx,aA,hto,decide_true]
      rw [w64 (by omega) (by omega)]
      rfl
    ·rw [fT (s':=((lo:Int),(((lo+hi) / 2:Nat):Int)))]
     ·have: ¬ (lo+hi) / 2 < qJ r l:=fun h=>hto (hat.2 h)
      exact ih ((lo+hi) / 2 - lo) (by omega) _ _ rfl h1 (by omega) (by omega)
     ·simp only [hc,cond_true,e,hx,aA,hto,decide_false,cond_false]
   ·have:lo=qJ r l:=by omega
    rw [dS (r:=(lo:Int)),this]
    have hc:decide ((lo:Int) < (hi:Int))=false:=by simp; omega
    simp only [hc,cond_false]
 have h0:=key (l.length - 0) 0 l.length rfl (Nat.zero_le _) (wS r l) (Nat.le_refl _)
 have e0:((0:Nat):Int)=0:=rfl
 rw [e0] at h0
 rw [h0,aA,Ag r hr]
 have hle:=wS r l
 by_cases hlt:qJ r l < l.length
 ·have hc:decide (((qJ r l:Nat):Int) < (l.length:Int))=true:=by simp; omega
  rw [hc,cond_true,fN,List.getElem?_eq_getElem hlt]
  rfl
 ·have hc:decide (((qJ r l:Nat):Int) < (l.length:Int))=false:=by simp; omega
  rw [hc,cond_false,List.getElem?_eq_none (by omega)]
  rfl
def ofS (r:Int):Int:=if inS cJ r then 0 else if inS cT r then 2 else 1
theorem of_eq (r:Int):nH r=some (ofS r):=by
 unfold nH
 rw [Gf cJ r (by decide) (by decide),Gf cT r (by decide) (by decide)]
 simp only [aA,ofS]
 cases inS cJ r <;> cases inS cT r <;> rfl
theorem oB (r:Int):ofS r=0∨ofS r=1∨ofS r=2:=by
 unfold ofS
 split
 ·exact .inl rfl
 ·split
  ·exact .inr (.inr rfl)
  ·exact .inr (.inl rfl)
end Go.Tw.X
set_option linter.unusedVariables false
set_option linter.unusedSimpArgs false
namespace Go.Tw.X
open Go Go.Tw
theorem E8 (n:Int) (h0:0≤n) (h1:n≤1000000):fU n=some []:=by
 unfold fU
 have hn:decide (n < 0)=false:=decide_eq_false (by omega)
 have z:IntKind.i64.wrap (0 - 0)=0:=by decide
 rw [hn,cond_false,z,w64 (by omega) (by omega),Int.sub_zero]
 by_cases hp:n > 0
 ·have:decide (n > 0)=true:=decide_eq_true hp
  rw [this,cond_true,Bo hp (by omega) (by omega),aA,bV (by omega) (by omega) (by omega),aA]
  rfl
 ·have:decide (n > 0)=false:=decide_eq_false hp
  rw [this,cond_false]
  rfl
def total:List (List aJ)→Nat
 | []=>0
 | x::r=>x.length+total r
theorem pf (a b:List (List aJ)):total (a++b)=total a+total b:=by
 induction a with
 | nil=>simp [total]
 | cons x a ih=>simp only [List.cons_append,total,ih]; omega
theorem uT (a:List (List aJ)):a.flatten.length=total a:=by
 induction a with
 | nil=>rfl
 | cons x a ih=>simp only [List.flatten_cons,List.length_append,total,ih]
theorem v8 (ls:List (List aJ)) (h:total ls≤1000000) (h2:ls.length≤1000000):eE ls=some ls.flatten:=by
 unfold eE
 have k1: ∀ (r d:List (List aJ)),d++r=ls→iter (σ:=Int×Int) (ρ:=Int) (fun a=>(bif (decide (a.1 < (ls.length:Int))) then (Option.bind (idx ls a.1) fun c=>(bif (decide ((IntKind.i64.wrap (a.2+(c.length:Int))) < 0)) then none else some (.inl ((IntKind.i64.wrap (a.1+1)),(IntKind.i64.wrap (a.2+(c.length:Int))))))) else some (.inr a.2))) ((d.length:Int),(total d:Int))=some (total ls:Int):=by
  intro r
  induction r with
  | nil =>
   intro d hd
   simp at hd
   subst hd
   rw [dS (r:=(total d:Int))]
   simp
  | cons x r ih =>
   intro d hd
   have hl:ls.length=d.length+r.length+1:=by rw [← hd]; simp; omega
   have ht:total ls=total d+(x.length+total r):=by rw [← hd,pf]; rfl
   rw [fT (s':=(((d++[x]).length:Int),(total (d++[x]):Int)))]
   ·exact ih (d++[x]) (by simpa using hd)
   ·have hc:decide ((d.length:Int) < (ls.length:Int))=true:=by simp; omega
    have hx:idx ls (d.length:Int)=some x:=by rw [← hd]; exact lW d r x
    simp only [hc,cond_true,hx,aA]
    rw [w64 (by omega) (by omega),w64 (by omega) (by omega)]
    have hp:decide ((total d:Int)+(x.length:Int) < 0)=false:=decide_eq_false (by omega)
    rw [hp,cond_false,pf]
    simp [total]
 have k2: ∀ (r d:List (List aJ)),d++r=ls→iter (σ:=Int×(List aJ)) (ρ:=(List aJ)) (fun b=>(bif (decide (b.1 < (ls.length:Int))) then (Option.bind (idx ls b.1) fun e=>(Option.bind (chk (dB b.2.length e.length 24)) fun _=>some (.inl ((IntKind.i64.wrap (b.1+1)),(b.2++e))))) else some (.inr b.2))) ((d.length:Int),d.flatten)=some ls.flatten:=by
  intro r
  induction r with
  | nil =>
   intro d hd
   simp at hd
   subst hd
   rw [dS (r:=d.flatten)]
   simp
  | cons x r ih =>
   intro d hd
   have hl:ls.length=d.length+r.length+1:=by rw [← hd]; simp; omega
   have ht:total ls=total d+(x.length+total r):=by rw [← hd,pf]; rfl
   rw [fT (s':=(((d++[x]).length:Int),(d++[x]).flatten))]
   ·exact ih (d++[x]) (by simpa using hd)
   ·have hc:decide ((d.length:Int) < (ls.length:Int))=true:=by simp; omega
    have hx:idx ls (d.length:Int)=some x:=by rw [← hd]; exact lW d r x
    simp only [hc,cond_true,hx,aA]
    rw [w64 (by omega) (by omega),bH (by rw [uT]; omega),aA]
    simp
 have h0:=k1 ls [] rfl
 have h3:=k2 ls [] rfl
 have e0:((([]:List (List aJ)).length:Nat):Int)=0:=rfl
 have e1:((total []:Nat):Int)=0:=rfl
 rw [e0,e1] at h0
 rw [e0,List.flatten_nil] at h3
 rw [h0,aA,E8 _ (by omega) (by omega),aA,h3,aA]
def blk (s:Int):aJ:=⟨32,s,0⟩
def zj (l1:List aJ) (at_:Int):List aJ :=
 match (if at_ > 0 then l1[at_.toNat - 1]? else none) with
  | some c=>if c.part=1 then l1.set (at_.toNat - 1) (blk c.aM) else l1
  | none=>l1
theorem xX (l:List aJ) (at_:Int):(zj l at_).length=l.length:=by
 unfold zj
 split
 ·split <;> simp
 ·rfl
def s6 (l:List aJ) (at_ x s:Int):List aJ :=
 if ofS x=0∨at_ < 0∨at_ > l.length - ofS x then l
 else if ofS x=1 then l.set at_.toNat ⟨x,s,0⟩
 else zj ((l.set at_.toNat ⟨x,s,1⟩).set (at_.toNat+1) ⟨x,s,2⟩) at_
theorem tO (l:List aJ) (at_ x s:Int):(s6 l at_ x s).length=l.length:=by
 unfold s6
 split
 ·rfl
 ·split
  ·simp
  ·simp [xX]
theorem put_eq (r:aE) (at_ x s:Int) (h:r.cells.length≤1000000) (ha: -9223372036854775808≤at_) (hb:at_≤9223372036854775807):lg r at_ x s=some ⟨ij 0 (s6 r.cells at_ x s),false⟩:=by
 unfold lg
 rw [oA r h,aA,of_eq,aA]
 have h3:=oB x
 have fin: ∀ l:List aJ,l.length=r.cells.length→(Option.bind (eK l) fun a=>some a)=some ⟨ij 0 l,false⟩:=fun l hl=>by rw [ny l (by omega),aA]
 rw [w64 (x:=(r.cells.length:Int) - ofS x) (by omega) (by omega)]
 by_cases hc:ofS x=0∨at_ < 0∨at_ > r.cells.length - ofS x
 ·have hb2:((bif (ofS x == 0) then some true else (bif (decide (at_ < 0)) then some true else some (decide (at_ > ((r.cells.length:Int) - ofS x))))):Option Bool)=some true:=by
   rcases hc with hc | hc | hc
   ·simp [hc]
   ·cases h0:(ofS x == 0) <;> simp [hc]
   ·cases h0:(ofS x == 0) <;> cases h1:decide (at_ < 0) <;> simp [hc]
  rw [hb2,aA,cond_true,aA]
  unfold s6
  rw [if_pos hc]
  exact fin _ rfl
 ·have hb2:((bif (ofS x == 0) then some true else (bif (decide (at_ < 0)) then some true else some (decide (at_ > ((r.cells.length:Int) - ofS x))))):Option Bool)=some false:=by
   have e0:(ofS x == 0)=false:=by simp; omega
   have e1:decide (at_ < 0)=false:=decide_eq_false (by omega)
   rw [e0,cond_false,e1,cond_false]
   simp
   omega
  rw [hb2,aA,cond_false]
  obtain ⟨k,rfl⟩: ∃ k:Nat,at_=k:=⟨at_.toNat,by omega⟩
  unfold s6
  rw [if_neg hc]
  by_cases h1:ofS x=1
  ·have e1:(ofS x == 1)=true:=by simp [h1]
   have hk:k < r.cells.length:=by omega
   rw [e1,cond_true,fN,List.getElem?_eq_getElem hk,aA,aA,if_pos h1,Int.toNat_natCast]
   exact fin _ (by simp)
  ·have e1:(ofS x == 1)=false:=by simp [h1]
   have h2:ofS x=2:=by omega
   have hk:k+1 < r.cells.length:=by omega
   have ew:IntKind.i64.wrap ((k:Int)+1)=((k+1:Nat):Int):=by rw [w64 (by omega) (by omega)]; omega
   rw [e1,cond_false,fN,List.getElem?_eq_getElem (by omega:k < r.cells.length),aA,ew,fN,if_neg h1,Int.toNat_natCast,Int.toNat_natCast,List.getElem?_eq_getElem (by simp; omega),aA]
   generalize hl1:(r.cells.set k ⟨x,s,1⟩).set (k+1) ⟨x,s,2⟩=l1
   have hlen:l1.length=r.cells.length:=by rw [← hl1]; simp
   unfold zj
   rw [show ((k:Int)).toNat=k from Int.toNat_natCast k]
   by_cases h0:(k:Int) > 0
   ·have e2:decide ((k:Int) > 0)=true:=decide_eq_true h0
    have em:IntKind.i64.wrap ((k:Int) - 1)=((k - 1:Nat):Int):=by rw [w64 (by omega) (by omega)]; omega
    have hk1:k - 1 < l1.length:=by omega
    rw [e2,cond_true,em,fN,Int.toNat_natCast,if_pos h0,List.getElem?_eq_getElem hk1,aA,aA]
    by_cases hp:(l1[k - 1]).part=1
    ·have e3:((l1[k - 1]).part == 1)=true:=by simp [hp]
     rw [e3,cond_true]
     simp only [aA,pS,if_pos hp,Int.toNat_natCast]
     exact fin _ (by simpa using hlen)
    ·have e3:((l1[k - 1]).part == 1)=false:=by simp [hp]
     rw [e3,cond_false,aA]
     simp only [if_neg hp]
     exact fin _ hlen
   ·have e2:decide ((k:Int) > 0)=false:=decide_eq_false h0
    rw [e2,cond_false,if_neg h0,aA,cond_false,aA]
    exact fin _ hlen
end Go.Tw.X
set_option linter.unusedVariables false
set_option linter.unusedSimpArgs false
namespace Go.Tw.X
open Go Go.Tw
def jY (a b s:Int):Int→List aJ→List aJ
 | _,[]=>[]
 | i,c::r=>(if a≤i∧i < b then blk s else c)::jY a b s (i+1) r
theorem lq (a b s:Int): ∀ (l:List aJ) (i:Int),(jY a b s i l).length=l.length
 | [],_=>rfl
 | c::r,i=>by simp [jY,lq a b s r]
theorem mH (a b s:Int): ∀ (l:List aJ) (i:Int) (j:Nat),(jY a b s i l)[j]?=(l[j]?).map fun c=>if a≤i+j∧i+j < b then blk s else c
 | [],_,_=>by simp [jY]
 | c::r,i,0=>by simp [jY]
 | c::r,i,j+1=>by
  have:=mH a b s r (i+1) j
  simp only [jY,List.getElem?_cons_succ,this]
  have e:i+1+(j:Int)=i+((j+1:Nat):Int):=by omega
  rw [e]
theorem erase_eq (r:aE) (a b s:Int) (h:r.cells.length≤1000000):ja r a b s=some ⟨ij 0 (jY a b s 0 r.cells),false⟩:=by
 unfold ja
 rw [oA r h,aA,qu,aA]
 generalize hA:max 0 (min a (r.cells.length:Int))=A
 generalize hB:max 0 (min b (r.cells.length:Int))=B
 have key: ∀ m (i:Nat) (l:List aJ),B.toNat - i=m→l.length=r.cells.length→iter (σ:=Int×(List aJ)) (ρ:=(List aJ)) (fun d=>(Option.bind (jB b 0 (d.2.length:Int)) fun e=>(bif (decide (d.1 < e)) then (Option.bind (gU s) fun f=>(Option.bind (idx d.2 d.1) fun g=>some (.inl ((IntKind.i64.wrap (d.1+1)),(d.2.set d.1.toNat f))))) else some (.inr d.2)))) ((i:Int),l)=some (jY i B s 0 l):=by
  intro m
  induction m with
  | zero =>
   intro i l hm hl
   rw [dS (r:=l)]
   ·congr 1
    apply List.ext_getElem?
    intro j
    rw [mH]
    cases hj:l[j]? with
    | none=>rfl
    | some c =>
     simp
     intro h1 h2
     omega
   ·simp only [qu,aA,hl,hB]
    have:decide ((i:Int) < B)=false:=decide_eq_false (by omega)
    rw [this,cond_false]
  | succ m ih =>
   intro i l hm hl
   have hi:i < l.length:=by omega
   rw [fT (s':=(((i+1:Nat):Int),l.set i (blk s)))]
   ·rw [ih (i+1) (l.set i (blk s)) (by omega) (by simpa using hl)]
    congr 1
    apply List.ext_getElem?
    intro j
    rw [mH,mH,List.getElem?_set]
    by_cases hij:i=j
    ·subst hij
     rw [if_pos rfl,if_pos hi,List.getElem?_eq_getElem hi]
     simp
     omega
    ·rw [if_neg hij]
     cases hj:l[j]? with
     | none=>rfl
     | some c =>
      simp only [Option.map_some,Option.some.injEq]
      by_cases h1:(i:Int)≤0+(j:Int)∧0+(j:Int) < B
      ·rw [if_pos h1,if_pos (by omega)]
      ·rw [if_neg h1,if_neg (by omega)]
   ·simp only [qu,aA,hl,hB]
    have:decide ((i:Int) < B)=true:=decide_eq_true (by omega)
    rw [this,cond_true,fN,List.getElem?_eq_getElem hi,w64 (by omega) (by omega)]
    rfl
 obtain ⟨k,hk⟩: ∃ k:Nat,A=k:=⟨A.toNat,by omega⟩
 rw [hk,key _ k r.cells rfl rfl,aA,ny _ (by rw [lq]; exact h),aA]
 congr 2
 congr 1
 apply List.ext_getElem?
 intro j
 rw [mH,mH]
 cases hj:r.cells[j]? with
 | none=>rfl
 | some c =>
  have hjl:=(List.getElem?_eq_some_iff.1 hj).1
  simp only [Option.map_some,Option.some.injEq]
  by_cases h1:a≤0+(j:Int)∧0+(j:Int) < b
  ·rw [if_pos h1,if_pos (by omega)]
  ·rw [if_neg h1,if_neg (by omega)]
def mM (l:List aJ) (k n:Nat) (s:Int):List aJ:=(l.take k++List.replicate n (blk s)++l.drop k).take l.length
def nz (l:List aJ) (k n:Nat) (s:Int):List aJ:=l.take k++l.drop (k+n)++List.replicate n (blk s)
def n7 (l:List aJ) (s:Int):List aJ:=l.set (l.length - 1) ⟨32,s,3⟩
theorem insert_eq (r:aE) (at_ n s:Int) (h:r.cells.length≤1000) (ha: -9223372036854775808≤at_) (hb:at_≤9223372036854775807):jJ r at_ n s=some ⟨ij 0 (if cP r.cells at_ n=0 then r.cells else mM r.cells at_.toNat (cP r.cells at_ n).toNat s),false⟩:=by
 unfold jJ
 rw [v7 r at_ n (by omega) ha hb,aA]
 by_cases h0:cP r.cells at_ n=0
 ·have e:(cP r.cells at_ n == 0)=true:=by simp [h0]
  rw [e,cond_true,oA r (by omega),aA,ny _ (by omega),aA,if_pos h0]
 ·have e:(cP r.cells at_ n == 0)=false:=by simp [h0]
  rw [e,cond_false,if_neg h0]
  have hw:cP r.cells at_ n=max 0 (min n (r.cells.length - at_))∧0≤at_∧at_ < r.cells.length:=by
   unfold cP at h0 ⊢
   by_cases hc:at_ < 0∨at_≥r.cells.length
   ·rw [if_pos hc] at h0; exact absurd rfl h0
   ·rw [if_neg hc]; exact ⟨rfl,by omega,by omega⟩
  obtain ⟨hw,h1,h2⟩:=hw
  generalize cP r.cells at_ n=w at hw h0
  obtain ⟨k,rfl⟩: ∃ k:Nat,at_=k:=⟨at_.toNat,by omega⟩
  obtain ⟨m,rfl⟩: ∃ m:Nat,w=m:=⟨w.toNat,by omega⟩
  have c1:cut r.cells 0 (k:Int)=r.cells.take k:=by simp [cut]
  have c2:cut r.cells (k:Int) (r.cells.length:Int)=r.cells.drop k:=by simp [cut]
  rw [bV (by omega) (by omega) (by omega),aA,bV (by omega) (by omega) (by omega),aA,qt _ _ (by omega),aA,c1,c2,v8 _ (by simp [total]; omega) (by simp),aA]
  have hl:([r.cells.take k,List.replicate (m:Int).toNat (blk s),r.cells.drop k].flatten).length=r.cells.length+m:=by simp; omega
  change (Option.bind (chk (cW 0 (r.cells.length:Int) (([r.cells.take k,List.replicate (m:Int).toNat (blk s),r.cells.drop k].flatten).length:Int))) _)=_
  rw [hl,bV (by omega) (by omega) (by omega),aA]
  have c3:cut ([r.cells.take k,List.replicate (m:Int).toNat (blk s),r.cells.drop k].flatten) 0 (r.cells.length:Int)=mM r.cells (k:Int).toNat (m:Int).toNat s:=by
   unfold cut mM
   simp
  change (Option.bind (eK (cut ([r.cells.take k,List.replicate (m:Int).toNat (blk s),r.cells.drop k].flatten) 0 (r.cells.length:Int))) _)=_
  rw [c3,ny _ (by unfold mM; simp; omega),aA]
theorem Br (r:aE) (at_ n s:Int) (h:r.cells.length≤1000) (ha: -9223372036854775808≤at_) (hb:at_≤9223372036854775807):jK r at_ n s=some ⟨ij 0 (if cP r.cells at_ n=0 then r.cells else nz r.cells at_.toNat (cP r.cells at_ n).toNat s),false⟩:=by
 unfold jK
 rw [v7 r at_ n (by omega) ha hb,aA]
 by_cases h0:cP r.cells at_ n=0
 ·have e:(cP r.cells at_ n == 0)=true:=by simp [h0]
  rw [e,cond_true,oA r (by omega),aA,ny _ (by omega),aA,if_pos h0]
 ·have e:(cP r.cells at_ n == 0)=false:=by simp [h0]
  rw [e,cond_false,if_neg h0]
  have hw:cP r.cells at_ n=max 0 (min n (r.cells.length - at_))∧0≤at_∧at_ < r.cells.length:=by
   unfold cP at h0 ⊢
   by_cases hc:at_ < 0∨at_≥r.cells.length
   ·rw [if_pos hc] at h0; exact absurd rfl h0
   ·rw [if_neg hc]; exact ⟨rfl,by omega,by omega⟩
  obtain ⟨hw,h1,h2⟩:=hw
  generalize cP r.cells at_ n=w at hw h0
  obtain ⟨k,rfl⟩: ∃ k:Nat,at_=k:=⟨at_.toNat,by omega⟩
  obtain ⟨m,rfl⟩: ∃ m:Nat,w=m:=⟨w.toNat,by omega⟩
  have c1:cut r.cells 0 (k:Int)=r.cells.take k:=by simp [cut]
  have c2:cut r.cells ((k+m:Nat):Int) (r.cells.length:Int)=r.cells.drop (k+m):=by
   unfold cut
   rw [Int.toNat_natCast,Int.toNat_natCast,List.take_length]
  have ek:((k:Int)+(m:Int))=((k+m:Nat):Int):=by omega
  have hkm:k+m≤r.cells.length:=by omega
  rw [w64 (by omega) (by omega),ek,bV (by omega) (by omega) (by omega),aA,bV (by omega) (by omega) (by omega),aA,qt _ _ (by omega),aA,c1,c2,v8 _ (by simp [total]; omega) (by simp),aA]
  have c3:[r.cells.take k,r.cells.drop (k+m),List.replicate (m:Int).toNat (blk s)].flatten=nz r.cells (k:Int).toNat (m:Int).toNat s:=by
   unfold nz
   simp
  change (Option.bind (eK [r.cells.take k,r.cells.drop (k+m),List.replicate (m:Int).toNat (blk s)].flatten) _)=_
  rw [c3,ny _ (by unfold nz; simp; omega),aA]
theorem fill_eq (r:aE) (s:Int) (h:r.cells.length≤1000000):kB r s=some ⟨ij 0 (n7 r.cells s),true⟩:=by
 unfold kB
 rw [oA r h,aA]
 by_cases h0:(r.cells.length:Int) > 0
 ·have e:decide ((r.cells.length:Int) > 0)=true:=decide_eq_true h0
  have ew:IntKind.i64.wrap ((r.cells.length:Int) - 1)=((r.cells.length - 1:Nat):Int):=by rw [w64 (by omega) (by omega)]; omega
  rw [e,cond_true,ew,fN,List.getElem?_eq_getElem (by omega),aA,aA,Int.toNat_natCast]
  change (Option.bind (eK (n7 r.cells s)) _)=_
  rw [ny _ (by simp [n7]; exact h),aA]
 ·have e:decide ((r.cells.length:Int) > 0)=false:=decide_eq_false h0
  have hn:r.cells=[]:=List.eq_nil_of_length_eq_zero (by omega)
  rw [e,cond_false,aA,ny _ h,aA]
  simp [n7,hn]
def mN (l:List aJ) (w:Nat):List aJ:=l.take w++List.replicate (w - l.length) (blk 0)
theorem Bs (r:aE) (w:Int) (h:r.cells.length≤1000000):iI r w=some (if (max 0 (min w 1000)).toNat=r.cells.length then r else ⟨ij 0 (mN r.cells (max 0 (min w 1000)).toNat),false⟩):=by
 unfold iI
 rw [qu,aA,oA r h,aA]
 generalize hv:max 0 (min w 1000)=v
 obtain ⟨k,rfl⟩: ∃ k:Nat,v=k:=⟨v.toNat,by omega⟩
 rw [Int.toNat_natCast]
 by_cases h0:k=r.cells.length
 ·have e:((k:Int) == (r.cells.length:Int))=true:=by simp [h0]
  rw [e,cond_true,if_pos h0]
 ·have e:((k:Int) == (r.cells.length:Int))=false:=by simp; omega
  have ec:dQ (k:Int) (r.cells.length:Int)=((min k r.cells.length:Nat):Int):=by rw [dZ]; omega
  have c1:cut r.cells 0 ((min k r.cells.length:Nat):Int)=r.cells.take k:=by
   simp only [cut,Int.toNat_natCast,Int.toNat_zero,List.drop_zero]
   rw [← List.take_take,List.take_length]
  rw [e,cond_false,if_neg h0,ec,w64 (by omega) (by omega),qt _ _ (by omega),aA,bV (by omega) (by omega) (by omega),aA,c1,bH (by simp; omega),aA]
  have c2:r.cells.take k++List.replicate ((k:Int) - (r.cells.length:Int)).toNat (blk 0)=mN r.cells k:=by
   unfold mN
   congr 2
   omega
  change (Option.bind (eK (r.cells.take k++List.replicate ((k:Int) - (r.cells.length:Int)).toNat (blk 0))) _)=_
  rw [c2,ny _ (by unfold mN; simp; omega),aA]
end Go.Tw.X
set_option linter.unusedVariables false
set_option linter.unusedSimpArgs false
namespace Go.Tw.X
open Go Go.Tw
theorem wT (w s:Int):jf w s=some ⟨List.replicate (max 0 (min w 1000)).toNat (blk s),false⟩:=by
 unfold jf
 rw [qu,aA,qt _ _ (by omega),aA]
 rfl
def mZ:Nat→List aJ→List aJ
 | 0,l=>l
 | n+1,l=>if l.getLast?=some (blk 0) then mZ n l.dropLast else l
def CE (l:List aJ):List aJ:=mZ l.length l
def isG (c:aJ):Bool:=c.part == 0 || c.part == 1
def pg (l:List aJ):List aH:=(l.filter isG).map fun c=>⟨c.rune,c.aM⟩
def kh (r:aE):List aH:=pg (if r.wrapped then r.cells else CE r.cells)
theorem pT (l:List aJ):(pg l).length≤l.length:=by
 unfold pg
 rw [List.length_map]
 exact List.length_filter_le _ _
theorem nA: ∀ (n:Nat) (l:List aJ),(mZ n l).length≤l.length
 | 0,l=>Nat.le_refl _
 | n+1,l=>by
  unfold mZ
  split
  ·have:=nA n l.dropLast
   rw [List.length_dropLast] at this
   omega
  ·exact Nat.le_refl _
theorem uU (x y:aJ):((x.rune == y.rune) && ((x.aM == y.aM) && ((x.part == y.part) && true)))=decide (x=y):=by
 obtain ⟨a,b,c⟩:=x
 obtain ⟨d,e,f⟩:=y
 by_cases h1:a=d <;> by_cases h2:b=e <;> by_cases h3:c=f <;> simp [h1,h2,h3]
theorem v9 (r:aE) (h:r.cells.length≤1000000):gJ r=some (kh r):=by
 unfold gJ
 have k1: ∀ (n:Nat) (l:List aJ),l.length=n→n≤1000000→iter (σ:=(List aJ)) (ρ:=(List aJ)) (fun a=>(Option.bind ((bif (!r.wrapped) then (bif (decide ((a.length:Int) > 0)) then (Option.bind (idx a (IntKind.i64.wrap ((a.length:Int) - 1))) fun g=>(Option.bind (gU 0) fun i=>some ((g.rune == i.rune) && ((g.aM == i.aM) && ((g.part == i.part) && true))))) else some false) else some false):Option Bool) fun j=>(bif j then (Option.bind (chk (cW 0 (IntKind.i64.wrap ((a.length:Int) - 1)) a.length)) fun _=>some (.inl (cut a 0 (IntKind.i64.wrap ((a.length:Int) - 1))))) else some (.inr a)))) l=some (if r.wrapped then l else mZ n l):=by
  intro n
  induction n with
  | zero =>
   intro l hl hn
   rw [dS (r:=l)]
   ·simp [mZ]
   ·cases r.wrapped <;> simp [hl]
  | succ n ih =>
   intro l hl hn
   cases hw:r.wrapped with
   | true =>
    rw [dS (r:=l)]
    ·simp
    ·simp [hw]
   | false =>
    have hp:decide ((l.length:Int) > 0)=true:=decide_eq_true (by omega)
    have ew:IntKind.i64.wrap ((l.length:Int) - 1)=((l.length - 1:Nat):Int):=by rw [w64 (by omega) (by omega)]; omega
    have hlt:l.length - 1 < l.length:=by omega
    have hlast:l.getLast?=some l[l.length - 1]:=by rw [List.getLast?_eq_getElem?,List.getElem?_eq_getElem hlt]
    unfold mZ
    rw [hlast]
    by_cases hb:l[l.length - 1]=blk 0
    ·rw [fT (s':=l.dropLast)]
     ·have:=ih l.dropLast (by rw [List.length_dropLast]; omega) (by omega)
      rw [hw] at this
      simp only [hw,Bool.not_false,cond_true] at this ⊢
      rw [this,if_neg (by simp),if_neg (by simp),if_pos (by rw [hb])]
     ·simp only [hw,Bool.not_false,cond_true,hp,ew,fN,List.getElem?_eq_getElem hlt,aA,pS,uU]
      have:decide (l[l.length - 1]=⟨32,0,0⟩)=true:=decide_eq_true hb
      rw [this,cond_true,bV (by omega) (by omega) (by omega),aA]
      congr 2
      simp [cut,List.dropLast_eq_take]
    ·rw [dS (r:=l)]
     ·rw [if_neg (by simp),if_neg (by simpa using hb)]
     ·simp only [hw,Bool.not_false,cond_true,hp,ew,fN,List.getElem?_eq_getElem hlt,aA,pS,uU]
      have:decide (l[l.length - 1]=⟨32,0,0⟩)=false:=decide_eq_false hb
      rw [this,cond_false]
 rw [k1 r.cells.length r.cells rfl h,aA]
 have hE:(if r.wrapped then r.cells else mZ r.cells.length r.cells).length≤1000000:=by
  split
  ·exact h
  ·exact Nat.le_trans (nA _ _) h
 change (Option.bind _ _)=some (pg (if r.wrapped then r.cells else mZ r.cells.length r.cells))
 generalize (if r.wrapped then r.cells else mZ r.cells.length r.cells)=E at hE
 have k2: ∀ (b d:List aJ),d++b=E→iter (σ:=Int×(List aH)) (ρ:=(List aH)) (fun e=>(bif (decide (e.1 < (E.length:Int))) then (Option.bind ((Option.bind (idx E e.1) fun f=>(Option.bind ((bif (f.part == 0) then some true else some (f.part == 1)):Option Bool) fun k=>(bif k then (Option.bind (chk (dB e.2.length [(aH.mk f.rune f.aM)].length 16)) fun _=>some (e.2++[(aH.mk f.rune f.aM)])) else some e.2))):Option (List aH)) fun m=>some (.inl ((IntKind.i64.wrap (e.1+1)),m))) else some (.inr e.2))) ((d.length:Int),pg d)=some (pg E):=by
  intro b
  induction b with
  | nil =>
   intro d hd
   simp at hd
   subst hd
   rw [dS (r:=pg d)]
   simp
  | cons c b ih =>
   intro d hd
   have hl:E.length=d.length+b.length+1:=by rw [← hd]; simp; omega
   have hg:pg (d++[c])=bif isG c then pg d++[⟨c.rune,c.aM⟩] else pg d:=by
    unfold pg
    rw [List.filter_append]
    cases hc:isG c <;> simp [hc]
   rw [fT (s':=(((d++[c]).length:Int),pg (d++[c])))]
   ·exact ih (d++[c]) (by simpa using hd)
   ·have hc:decide ((d.length:Int) < (E.length:Int))=true:=by simp; omega
    have hx:idx E (d.length:Int)=some c:=by rw [← hd]; exact lW d b c
    have hi:((bif (c.part == 0) then some true else some (c.part == 1)):Option Bool)=some (isG c):=by unfold isG; cases c.part == 0 <;> rfl
    have hgl:=pT d
    simp only [hc,cond_true,hx,aA,hi]
    rw [hg,w64 (by omega) (by omega)]
    cases hc2:isG c with
    | true=>rw [cond_true,bH (by simp; omega),aA,aA]; simp
    | false=>simp
 have h0:=k2 E [] rfl
 have e0:((([]:List aJ).length:Nat):Int)=0:=rfl
 have e1:pg []=[]:=rfl
 rw [e0,e1] at h0
 rw [h0,aA]
end Go.Tw.X
set_option linter.unusedVariables false
set_option linter.unusedSimpArgs false
namespace Go.Tw.X
open Go Go.Tw
theorem mb (l:List aJ) (h:l.length≤1000000):eC (l.map tc)=some ⟨(ij 0 l).map tc,false⟩:=by
 unfold eC
 have hml:(l.map tc).length=l.length:=List.length_map _
 rw [hml]
 have key: ∀ (r d o:List aJ),d++r=l→o.length=d.length→iter (σ:=Int×(List aP)) (ρ:=(List aP)) (fun b=>(bif (decide (b.1 < (l.length:Int))) then (Option.bind (idx (l.map tc) b.1) fun f=>(Option.bind ((bif (f.part == 1) then (bif ((IntKind.i64.wrap (b.1+1)) == (l.length:Int)) then some true else (Option.bind (idx (l.map tc) (IntKind.i64.wrap (b.1+1))) fun g=>some (g.part != 2))) else (bif (f.part == 2) then (bif (b.1 == 0) then some true else (Option.bind (idx b.2 (IntKind.i64.wrap (b.1 - 1))) fun i=>some (i.part != 1))) else (bif (f.part == 3) then some (decide (b.1 < (IntKind.i64.wrap ((l.length:Int) - 1)))) else some false))):Option Bool) fun k=>(Option.bind ((bif k then some (aP.mk 32 f.aM 0) else some f):Option aP) fun j=>(Option.bind (chk (dB b.2.length [j].length 24)) fun _=>some (.inl ((IntKind.i64.wrap (b.1+1)),(b.2++[j]))))))) else some (.inr b.2))) ((d.length:Int),o.map tc)=some ((o++ij (lQ o) r).map tc):=by
  intro r
  induction r with
  | nil =>
   intro d o hd ho
   simp at hd
   subst hd
   rw [dS (r:=o.map tc)]
   ·simp [ij]
   ·simp
  | cons c r ih =>
   intro d o hd ho
   have hl:l.length=d.length+r.length+1:=by rw [← hd]; simp; omega
   rw [fT (s':=(((d++[c]).length:Int),(o++[sZ (lQ o) c r]).map tc))]
   ·rw [ih (d++[c]) (o++[sZ (lQ o) c r]) (by simpa using hd) (by simp [ho]),uS]
    simp [ij]
   ·have hc:decide ((d.length:Int) < (l.length:Int))=true:=by simp; omega
    have em:l.map tc=d.map tc++tc c::r.map tc:=by rw [← hd]; simp
    have hdl:(d.map tc).length=d.length:=List.length_map _
    have hx:idx (l.map tc) (d.length:Int)=some (tc c):=by rw [em,← hdl]; exact lW _ _ _
    have hx2:idx (l.map tc) ((d.length:Int)+1)=(r.map tc)[0]?:=by rw [em,← hdl]; exact xV _ _ _
    simp only [hc,cond_true,hx,aA]
    rw [w64 (x:=(d.length:Int)+1) (by omega) (by omega),w64 (x:=(d.length:Int) - 1) (by omega) (by omega),w64 (x:=(l.length:Int) - 1) (by omega) (by omega),hx2]
    have hbad:((bif ((tc c).part == 1) then (bif (((d.length:Int)+1) == (l.length:Int)) then some true else (Option.bind ((r.map tc)[0]?) fun g=>some (g.part != 2))) else (bif ((tc c).part == 2) then (bif ((d.length:Int) == 0) then some true else (Option.bind (idx (o.map tc) ((d.length:Int) - 1)) fun i=>some (i.part != 1))) else (bif ((tc c).part == 3) then some (decide ((d.length:Int) < (l.length:Int) - 1)) else some false))):Option Bool)=some (vJ (lQ o) c r):=by
     have htc:(tc c).part=c.part:=rfl
     rw [htc]
     unfold vJ
     cases h1:(c.part == 1) with
     | true =>
      simp only [cond_true]
      cases r with
      | nil =>
       have:(((d.length:Int)+1) == (l.length:Int))=true:=by simp at hl ⊢; omega
       rw [this]
       rfl
      | cons e r =>
       have:(((d.length:Int)+1) == (l.length:Int))=false:=by simp at hl ⊢; omega
       rw [this]
       rfl
     | false =>
      simp only [cond_false]
      cases h2:(c.part == 2) with
      | true =>
       simp only [cond_true]
       cases ho0:o with
       | nil =>
        have:d.length=0:=by rw [← ho,ho0]; rfl
        have:((d.length:Int) == 0)=true:=by simp [this]
        rw [this]
        rfl
       | cons a t =>
        have hpos:0 < d.length:=by rw [← ho,ho0]; simp
        have hne:((d.length:Int) == 0)=false:=by rw [beq_eq_false_iff_ne]; omega
        have hol:((a::t).map tc).length=d.length:=by rw [List.length_map,← ho0,ho]
        have hi:=xU ((a::t).map tc) [] ⟨0,0,0⟩ ⟨0,0,0⟩ (by rw [hol]; exact hpos)
        have hlt:d.length - 1 < ((a::t).map tc).length:=by rw [hol]; omega
        have e1:((d.length:Int) - 1)=((d.length - 1:Nat):Int):=by omega
        rw [hol,e1,fN,List.getElem?_append_left hlt] at hi
        rw [hne,cond_false,e1,fN,hi,aA]
        have e2:lQ (a::t)=(qT (⟨0,0,0⟩:aP) ((a::t).map tc)).part:=by
         unfold lQ
         rw [← s5 (fun c:aP=>c.part) ⟨0,0,0⟩ ((a::t).map tc),List.map_map]
         rfl
        rw [e2]
      | false =>
       simp only [cond_false]
       cases h3:(c.part == 3) with
       | true =>
        simp only [cond_true]
        cases r with
        | nil =>
         have:decide ((d.length:Int) < (l.length:Int) - 1)=false:=decide_eq_false (by simp at hl; omega)
         rw [this]
         rfl
        | cons e r =>
         have:decide ((d.length:Int) < (l.length:Int) - 1)=true:=decide_eq_true (by simp at hl; omega)
         rw [this]
         rfl
       | false=>rfl
    rw [hbad,aA]
    have hfix:((bif vJ (lQ o) c r then some (aP.mk 32 (tc c).aM 0) else some (tc c)):Option aP)=some (tc (sZ (lQ o) c r)):=by
     unfold sZ
     cases vJ (lQ o) c r <;> rfl
    rw [hfix,aA,bH (by simp; omega),aA]
    simp
 have h0:=key l [] [] rfl rfl
 have e0:((([]:List aJ).length:Nat):Int)=0:=rfl
 rw [e0] at h0
 simp only [List.map_nil,List.nil_append] at h0
 rw [h0,aA]
 rfl
theorem wU (n lo hi:Int) (h:lo≤hi):jV n lo hi=some (max lo (min n hi)):=by
 unfold jV
 by_cases h1:n < lo
 ·rw [decide_eq_true h1,cond_true]; congr 1; omega
 ·rw [decide_eq_false h1,cond_false]
  by_cases h2:n > hi
  ·rw [decide_eq_true h2,cond_true]; congr 1; omega
  ·rw [decide_eq_false h2,cond_false]; congr 1; omega
theorem qv (w s:Int):fA w s=some ⟨(List.replicate (max 0 (min w 1000)).toNat (blk s)).map tc,false⟩:=by
 unfold fA
 generalize hv:max 0 (min w 1000)=v
 obtain ⟨k,rfl⟩: ∃ k:Nat,v=k:=⟨v.toNat,by omega⟩
 have hk:k≤1000:=by omega
 have key: ∀ m j,k - j=m→j≤k→iter (σ:=(List aP)×Int) (ρ:=(List aP)) (fun a=>(Option.bind (jV w 0 1000) fun b=>(bif (decide (a.2 < b)) then (Option.bind (chk (dB a.1.length [(aP.mk 32 s 0)].length 24)) fun _=>some (.inl ((a.1++[(aP.mk 32 s 0)]),(IntKind.i64.wrap (a.2+1))))) else some (.inr a.1)))) (List.replicate j (tc (blk s)),(j:Int))=some (List.replicate k (tc (blk s))):=by
  intro m
  induction m with
  | zero =>
   intro j hm hj
   have:j=k:=by omega
   subst this
   rw [dS (r:=List.replicate j (tc (blk s)))]
   simp only [wU w 0 1000 (by omega),hv,aA]
   simp
  | succ m ih =>
   intro j hm hj
   rw [fT (s':=(List.replicate (j+1) (tc (blk s)),((j+1:Nat):Int)))]
   ·exact ih (j+1) (by omega) (by omega)
   ·simp only [wU w 0 1000 (by omega),hv,aA]
    have:decide ((j:Int) < (k:Int))=true:=decide_eq_true (by omega)
    rw [this,cond_true,bH (by simp; omega),aA,w64 (by omega) (by omega),List.replicate_succ']
    rfl
 have h0:=key (k - 0) 0 rfl (Nat.zero_le _)
 have e0:((0:Nat):Int)=0:=rfl
 rw [e0,List.replicate_zero] at h0
 rw [h0,aA,Int.toNat_natCast,List.map_replicate]
end Go.Tw.X
set_option linter.unusedVariables false
set_option linter.unusedSimpArgs false
namespace Go.Tw.X
open Go Go.Tw
theorem CF (n:Nat) (h:n≤1000000):chk (dB ([]:List aP).length n 24)=some ():=bH (by simp; omega)
theorem iT (l:List aJ):(l.map tc).length=l.length:=List.length_map _
theorem GW (s:Int):tc (blk s)=⟨32,s,0⟩:=rfl
theorem Bt (l:List aJ) (w:Bool) (a b s:Int) (h:l.length≤1000000):km ⟨l.map tc,w⟩ a b s=some ⟨(ij 0 (jY a b s 0 l)).map tc,false⟩:=by
 unfold km
 simp only [iT,List.nil_append]
 rw [CF _ h,aA]
 have key: ∀ (r d o:List aJ),d++r=l→o.length=d.length→iter (σ:=Int×(List aP)) (ρ:=(List aP)) (fun e=>(bif (decide (e.1 < (l.length:Int))) then (Option.bind ((Option.bind ((bif (decide (e.1≥a)) then some (decide (e.1 < b)) else some false):Option Bool) fun f=>(bif f then (Option.bind (idx e.2 e.1) fun i=>some (e.2.set e.1.toNat (aP.mk 32 s 0))) else some e.2)):Option (List aP)) fun g=>some (.inl ((IntKind.i64.wrap (e.1+1)),g))) else some (.inr e.2))) ((d.length:Int),(o++r).map tc)=some ((o++jY a b s (d.length:Int) r).map tc):=by
  intro r
  induction r with
  | nil =>
   intro d o hd ho
   simp at hd
   subst hd
   rw [dS (r:=(o++[]).map tc)]
   ·simp [jY]
   ·simp
  | cons c r ih =>
   intro d o hd ho
   have hl:l.length=d.length+r.length+1:=by rw [← hd]; simp; omega
   have hc:decide ((d.length:Int) < (l.length:Int))=true:=by simp; omega
   generalize hc':(if a≤(d.length:Int)∧(d.length:Int) < b then blk s else c)=c'
   rw [fT (s':=(((d++[c]).length:Int),((o++[c'])++r).map tc))]
   ·rw [ih (d++[c]) (o++[c']) (by simpa using hd) (by simp [ho])]
    simp [jY,hc']
   ·simp only [hc,cond_true]
    rw [w64 (by omega) (by omega)]
    have hx:idx ((o++c::r).map tc) (d.length:Int)=some (tc c):=by
     rw [← ho,List.map_append,List.map_cons,← iT o]
     exact lW _ _ _
    by_cases h1:a≤(d.length:Int)
    ·by_cases h2:(d.length:Int) < b
     ·rw [decide_eq_true (show (d.length:Int)≥a from h1),cond_true,decide_eq_true h2,aA,cond_true,hx,aA,aA]
      rw [if_pos ⟨h1,h2⟩] at hc'
      subst hc'
      congr 2
      refine Prod.ext (by simp) ?_
      show ((o++c::r).map tc).set ((d.length:Int).toNat) _=_
      rw [Int.toNat_natCast,← ho,List.map_append,List.map_cons]
      simp [GW]
     ·rw [decide_eq_true (show (d.length:Int)≥a from h1),cond_true,decide_eq_false h2,aA,cond_false,aA]
      rw [if_neg (by omega)] at hc'
      subst hc'
      simp
    ·rw [decide_eq_false (show ¬ (d.length:Int)≥a from h1),cond_false,aA,cond_false,aA]
     rw [if_neg (by omega)] at hc'
     subst hc'
     simp
 have h0:=key l [] [] rfl rfl
 have e0:((([]:List aJ).length:Nat):Int)=0:=rfl
 rw [e0] at h0
 simp only [List.nil_append] at h0
 rw [h0,aA,mb _ (by rw [lq]; exact h),aA]
theorem CG (l:List aJ) (w:Bool) (s:Int) (h:l.length≤1000000):jW ⟨l.map tc,w⟩ s=some ⟨(ij 0 (n7 l s)).map tc,true⟩:=by
 unfold jW
 simp only [iT,List.nil_append]
 rw [CF _ h,aA]
 by_cases h0:(l.length:Int) > 0
 ·have ew:IntKind.i64.wrap ((l.length:Int) - 1)=((l.length - 1:Nat):Int):=by rw [w64 (by omega) (by omega)]; omega
  rw [decide_eq_true h0,cond_true,ew,fN,List.getElem?_eq_getElem (by rw [iT]; omega),aA,aA,Int.toNat_natCast]
  have e:(l.map tc).set (l.length - 1) ⟨32,s,3⟩=(n7 l s).map tc:=by
   unfold n7
   rw [List.map_set]
   rfl
  rw [e,mb _ (by simp [n7]; exact h),aA]
 ·have hn:l=[]:=List.eq_nil_of_length_eq_zero (by omega)
  rw [decide_eq_false h0,cond_false,aA,mb _ h,aA]
  simp [n7,hn]
theorem HR (x y:Int):(if x < y then x else y)=min y x:=by split <;> omega
theorem zk (l:List aJ) (w:Bool) (at_ n s:Int) (h:l.length≤1000) (ha: -9223372036854775808≤at_) (hb:at_≤9223372036854775807):jN ⟨l.map tc,w⟩ at_ n s=some ⟨(ij 0 (if cP l at_ n=0 then l else mM l at_.toNat (cP l at_ n).toNat s)).map tc,false⟩:=by
 unfold jN
 simp only [iT,List.nil_append,HR]
 by_cases h0:at_ < 0∨at_≥l.length∨n≤0
 ·have e:((bif (decide (at_ < 0)) then some true else (bif (decide (at_≥(l.length:Int))) then some true else some (decide (n≤0)))):Option Bool)=some true:=by
   rcases h0 with h0 | h0 | h0
   ·simp [h0]
   ·cases h1:decide (at_ < 0) <;> simp [h0]
   ·cases h1:decide (at_ < 0) <;> cases h2:decide (at_≥(l.length:Int)) <;> simp [h0]
  have hw:cP l at_ n=0:=by unfold cP; split <;> omega
  rw [e,aA,cond_true,mb _ (by omega),aA,if_pos hw]
 ·have e:((bif (decide (at_ < 0)) then some true else (bif (decide (at_≥(l.length:Int))) then some true else some (decide (n≤0)))):Option Bool)=some false:=by
   rw [decide_eq_false (by omega: ¬ at_ < 0),decide_eq_false (by omega: ¬ at_≥(l.length:Int)),decide_eq_false (by omega: ¬ n≤0)]
   rfl
  have hw:cP l at_ n=min n (l.length - at_):=by unfold cP; rw [if_neg (by omega)]; omega
  rw [e,aA,cond_false,w64 (x:=(l.length:Int) - at_) (by omega) (by omega),dZ,← hw]
  have hb2:0 < cP l at_ n∧at_+cP l at_ n≤l.length:=by omega
  rw [if_neg (by omega)]
  generalize cP l at_ n=v at hb2
  clear hw e
  obtain ⟨k,rfl⟩: ∃ k:Nat,at_=k:=⟨at_.toNat,by omega⟩
  obtain ⟨m,rfl⟩: ∃ m:Nat,v=m:=⟨v.toNat,by omega⟩
  have c1:cut (l.map tc) 0 (k:Int)=(l.take k).map tc:=by simp [cut,List.map_take]
  have c2:cut (l.map tc) (k:Int) ((l.length:Int) - (m:Int))=((l.take (l.length - m)).drop k).map tc:=by
   have e:((l.length:Int) - (m:Int)).toNat=l.length - m:=by omega
   unfold cut
   rw [e,Int.toNat_natCast,List.map_drop,List.map_take]
  rw [bV (by omega) (by omega) (by omega),aA,c1,bH (by simp; omega),aA,qv,aA,w64 (x:=(l.length:Int) - (m:Int)) (by omega) (by omega),bH (by simp; omega),aA,bV (by omega) (by omega) (by omega),aA,c2,bH (by simp; omega),aA]
  have em:(max 0 (min (m:Int) 1000)).toNat=m:=by omega
  rw [em,← List.map_append,← List.map_append,Int.toNat_natCast,Int.toNat_natCast]
  have ei:l.take k++List.replicate m (blk s)++(l.take (l.length - m)).drop k=mM l k m s:=by
   unfold mM
   have hkm:k+m≤l.length:=by omega
   have hA:(l.take k++List.replicate m (blk s)).length=k+m:=by rw [List.length_append,List.length_take,List.length_replicate]; omega
   have hT:=List.take_of_length_le (l:=l.take k++List.replicate m (blk s)) (i:=l.length) (by rw [hA]; exact hkm)
   rw [List.take_append,hA,hT,List.drop_take,Nat.sub_sub,Nat.add_comm m k]
  rw [ei,mb _ (by unfold mM; simp; omega),aA]
theorem zl (l:List aJ) (w:Bool) (at_ n s:Int) (h:l.length≤1000) (ha: -9223372036854775808≤at_) (hb:at_≤9223372036854775807):jO ⟨l.map tc,w⟩ at_ n s=some ⟨(ij 0 (if cP l at_ n=0 then l else nz l at_.toNat (cP l at_ n).toNat s)).map tc,false⟩:=by
 unfold jO
 simp only [iT,List.nil_append,HR]
 by_cases h0:at_ < 0∨at_≥l.length∨n≤0
 ·have e:((bif (decide (at_ < 0)) then some true else (bif (decide (at_≥(l.length:Int))) then some true else some (decide (n≤0)))):Option Bool)=some true:=by
   rcases h0 with h0 | h0 | h0
   ·simp [h0]
   ·cases h1:decide (at_ < 0) <;> simp [h0]
   ·cases h1:decide (at_ < 0) <;> cases h2:decide (at_≥(l.length:Int)) <;> simp [h0]
  have hw:cP l at_ n=0:=by unfold cP; split <;> omega
  rw [e,aA,cond_true,mb _ (by omega),aA,if_pos hw]
 ·have e:((bif (decide (at_ < 0)) then some true else (bif (decide (at_≥(l.length:Int))) then some true else some (decide (n≤0)))):Option Bool)=some false:=by
   rw [decide_eq_false (by omega: ¬ at_ < 0),decide_eq_false (by omega: ¬ at_≥(l.length:Int)),decide_eq_false (by omega: ¬ n≤0)]
   rfl
  have hw:cP l at_ n=min n (l.length - at_):=by unfold cP; rw [if_neg (by omega)]; omega
  rw [e,aA,cond_false,w64 (x:=(l.length:Int) - at_) (by omega) (by omega),dZ,← hw]
  have hb2:0 < cP l at_ n∧at_+cP l at_ n≤l.length:=by omega
  rw [if_neg (by omega)]
  generalize cP l at_ n=v at hb2
  clear hw e
  obtain ⟨k,rfl⟩: ∃ k:Nat,at_=k:=⟨at_.toNat,by omega⟩
  obtain ⟨m,rfl⟩: ∃ m:Nat,v=m:=⟨v.toNat,by omega⟩
  have c1:cut (l.map tc) 0 (k:Int)=(l.take k).map tc:=by simp [cut,List.map_take]
  have ek:(k:Int)+(m:Int)=((k+m:Nat):Int):=by omega
  have c2:cut (l.map tc) ((k+m:Nat):Int) (l.length:Int)=(l.drop (k+m)).map tc:=by
   unfold cut
   rw [Int.toNat_natCast,Int.toNat_natCast,List.take_of_length_le (by rw [iT]; exact Nat.le_refl _),List.map_drop]
  rw [bV (by omega) (by omega) (by omega),aA,c1,bH (by simp; omega),aA,w64 (x:=(k:Int)+(m:Int)) (by omega) (by omega),ek,bV (by omega) (by omega) (by omega),aA,c2,bH (by simp; omega),aA,qv,aA,bH (by simp; omega),aA]
  have em:(max 0 (min (m:Int) 1000)).toNat=m:=by omega
  rw [em,← List.map_append,← List.map_append,Int.toNat_natCast,Int.toNat_natCast]
  change (Option.bind (eC ((nz l k m s).map tc)) _)=_
  rw [mb _ (by unfold nz; simp; omega),aA]
theorem zm (l:List aJ) (w:Bool) (v:Int) (h:l.length≤1000000):iS ⟨l.map tc,w⟩ v=some (if (max 0 (min v 1000)).toNat=l.length then ⟨l.map tc,w⟩ else ⟨(ij 0 (mN l (max 0 (min v 1000)).toNat)).map tc,false⟩):=by
 unfold iS
 rw [wU _ _ _ (by omega),aA]
 simp only [iT,List.nil_append]
 generalize hv:max 0 (min v 1000)=u
 obtain ⟨k,rfl⟩: ∃ k:Nat,u=k:=⟨u.toNat,by omega⟩
 rw [Int.toNat_natCast]
 by_cases h0:k=l.length
 ·have e:((k:Int) == (l.length:Int))=true:=by simp [h0]
  rw [e,cond_true,if_pos h0]
 ·have e:((k:Int) == (l.length:Int))=false:=by rw [beq_eq_false_iff_ne]; omega
  have ec:dQ (k:Int) (l.length:Int)=((min k l.length:Nat):Int):=by rw [dZ]; omega
  have c1:cut (l.map tc) 0 ((min k l.length:Nat):Int)=(l.take k).map tc:=by
   simp only [cut,Int.toNat_natCast,Int.toNat_zero,List.drop_zero]
   rw [← List.take_take,← iT l,List.take_length,List.map_take]
  rw [e,cond_false,if_neg h0,ec,bV (by omega) (by omega) (by omega),aA,c1,bH (by simp; omega),aA]
  have e3:(((l.take k).map tc).length:Int)=((min k l.length:Nat):Int):=by simp
  rw [e3,w64 (by omega) (by omega),qv,aA,bH (by simp; omega),aA,← List.map_append]
  have c2:l.take k++List.replicate (max 0 (min ((k:Int) - ((min k l.length:Nat):Int)) 1000)).toNat (blk 0)=mN l k:=by
   unfold mN
   congr 2
   omega
  rw [c2,mb _ (by unfold mN; simp; omega),aA]
end Go.Tw.X
set_option linter.unusedVariables false
set_option linter.unusedSimpArgs false
namespace Go.Tw.X
open Go Go.Tw
def s7 (Z:List bJ) (r:Int):Bool:=Z.any fun x=>decide (x.e0≤r∧r≤x.e1)
theorem Ah (Z:List bJ) (r v:Int) (h:Z.length≤1000):iter (σ:=Int) (ρ:=Unit ⊕ Int) (fun a=>(bif (decide (a < (Z.length:Int))) then (Option.bind (idx Z a) fun e=>(Option.bind ((bif (decide (r≥e.e0)) then some (decide (r≤e.e1)) else some false):Option Bool) fun f=>(bif f then (nj (some v)) else some (.inl (IntKind.i64.wrap (a+1)))))) else some (.inr (.inl ())))) 0=some (if s7 Z r then .inr v else .inl ()):=by
 have key: ∀ (b d:List bJ),d++b=Z→iter (σ:=Int) (ρ:=Unit ⊕ Int) (fun a=>(bif (decide (a < (Z.length:Int))) then (Option.bind (idx Z a) fun e=>(Option.bind ((bif (decide (r≥e.e0)) then some (decide (r≤e.e1)) else some false):Option Bool) fun f=>(bif f then (nj (some v)) else some (.inl (IntKind.i64.wrap (a+1)))))) else some (.inr (.inl ())))) (d.length:Int)=some (if s7 b r then .inr v else .inl ()):=by
  intro b
  induction b with
  | nil =>
   intro d hd
   simp at hd
   subst hd
   rw [dS (r:= .inl ())]
   ·rfl
   ·simp
  | cons c b ih =>
   intro d hd
   have hl:Z.length=d.length+b.length+1:=by rw [← hd]; simp; omega
   have hc:decide ((d.length:Int) < (Z.length:Int))=true:=by simp; omega
   have hx:idx Z (d.length:Int)=some c:=by rw [← hd]; exact lW d b c
   have hin:((bif (decide (r≥c.e0)) then some (decide (r≤c.e1)) else some false):Option Bool)=some (decide (c.e0≤r∧r≤c.e1)):=by
    by_cases h1:c.e0≤r <;> by_cases h2:r≤c.e1 <;> simp [h1,h2]
   by_cases hh:c.e0≤r∧r≤c.e1
   ·rw [dS (r:= .inr v)]
    ·have:s7 (c::b) r=true:=by unfold s7; rw [List.any_cons,decide_eq_true hh,Bool.true_or]
     rw [this]
     rfl
    ·simp only [hc,cond_true,hx,aA,hin]
     rw [decide_eq_true hh]
     rfl
   ·rw [fT (s':=((d++[c]).length:Int))]
    ·rw [ih (d++[c]) (by simpa using hd)]
     have:s7 (c::b) r=s7 b r:=by unfold s7; rw [List.any_cons,decide_eq_false hh,Bool.false_or]
     rw [this]
    ·simp only [hc,cond_true,hx,aA,hin]
     rw [decide_eq_false hh,cond_false,w64 (by omega) (by omega)]
     simp
 exact key Z [] rfl
theorem CH (x:Int) (h0: -2147483648≤x) (h1:x≤2147483647):mE x=some (ofS x):=by
 unfold mE
 rw [Ah _ x 0 (by decide),Ah _ x 2 (by decide)]
 have e8:((bif (decide (x < 32)) then some true else some (decide (x > 1114111))):Option Bool)=some (decide (x < 32∨x > 1114111)):=by
  by_cases h2:x < 32 <;> by_cases h3:x > 1114111 <;> simp [h2,h3]
 rw [e8,aA]
 have en:inS cJ x=(decide (x < 32∨x > 1114111) || s7 [⟨127,159⟩,⟨768,879⟩,⟨6832,6911⟩,⟨7616,7679⟩,⟨8203,8207⟩,⟨8400,8447⟩,⟨55296,57343⟩,⟨65024,65039⟩,⟨65056,65071⟩,⟨65279,65279⟩,⟨917760,917999⟩] x):=by
  rw [Bool.eq_iff_iff]
  simp only [inS,cJ,s7,List.any_cons,List.any_nil,Bool.or_eq_true,decide_eq_true_eq,Bool.false_eq_true,or_false]
  constructor
  ·rintro (h | h | h | h | h | h | h | h | h | h | h | h | h) <;> omega
  ·omega
 have et:inS cT x=s7 [⟨4352,4447⟩,⟨11904,12350⟩,⟨12353,13311⟩,⟨13312,19903⟩,⟨19968,40959⟩,⟨40960,42191⟩,⟨44032,55203⟩,⟨63744,64255⟩,⟨65072,65135⟩,⟨65280,65376⟩,⟨65504,65510⟩,⟨127744,128591⟩,⟨129280,129535⟩,⟨131072,262141⟩] x:=by
  simp only [inS,cT,s7,List.any_cons,List.any_nil]
 unfold ofS
 rw [en,et]
 cases decide (x < 32∨x > 1114111) with
 | true=>rfl
 | false =>
  rw [cond_false,Bool.false_or]
  cases s7 [⟨127,159⟩,⟨768,879⟩,⟨6832,6911⟩,⟨7616,7679⟩,⟨8203,8207⟩,⟨8400,8447⟩,⟨55296,57343⟩,⟨65024,65039⟩,⟨65056,65071⟩,⟨65279,65279⟩,⟨917760,917999⟩] x with
  | true=>rfl
  | false =>
   cases s7 [⟨4352,4447⟩,⟨11904,12350⟩,⟨12353,13311⟩,⟨13312,19903⟩,⟨19968,40959⟩,⟨40960,42191⟩,⟨44032,55203⟩,⟨63744,64255⟩,⟨65072,65135⟩,⟨65280,65376⟩,⟨65504,65510⟩,⟨127744,128591⟩,⟨129280,129535⟩,⟨131072,262141⟩] x <;> rfl
theorem E9 (l:List aJ) (w:Bool) (at_ x s:Int) (h:l.length≤1000000) (ha: -9223372036854775808≤at_) (hb:at_≤9223372036854775807) (h0: -2147483648≤x) (h1:x≤2147483647):lN ⟨l.map tc,w⟩ at_ x s=some ⟨(ij 0 (s6 l at_ x s)).map tc,false⟩:=by
 unfold lN
 simp only [iT,List.nil_append]
 rw [CH x h0 h1,aA]
 have h3:=oB x
 have fin: ∀ (q:List aJ),q.length=l.length→(Option.bind (eC (q.map tc)) fun a=>some a)=some ⟨(ij 0 q).map tc,false⟩:=fun q hq=>by rw [mb q (by omega),aA]
 rw [w64 (x:=(l.length:Int) - ofS x) (by omega) (by omega)]
 by_cases hc:ofS x=0∨at_ < 0∨at_ > l.length - ofS x
 ·have hb2:((bif (ofS x == 0) then some true else (bif (decide (at_ < 0)) then some true else some (decide (at_ > ((l.length:Int) - ofS x))))):Option Bool)=some true:=by
   rcases hc with hc | hc | hc
   ·simp [hc]
   ·cases h0:(ofS x == 0) <;> simp [hc]
   ·cases h0:(ofS x == 0) <;> cases h1:decide (at_ < 0) <;> simp [hc]
  rw [hb2,aA,cond_true]
  unfold s6
  rw [if_pos hc]
  exact fin _ rfl
 ·have hb2:((bif (ofS x == 0) then some true else (bif (decide (at_ < 0)) then some true else some (decide (at_ > ((l.length:Int) - ofS x))))):Option Bool)=some false:=by
   have e0:(ofS x == 0)=false:=by simp; omega
   have e1:decide (at_ < 0)=false:=decide_eq_false (by omega)
   rw [e0,cond_false,e1,cond_false]
   simp
   omega
  rw [hb2,aA,cond_false,CF _ h,aA]
  obtain ⟨k,rfl⟩: ∃ k:Nat,at_=k:=⟨at_.toNat,by omega⟩
  unfold s6
  rw [if_neg hc]
  have hk:k < (l.map tc).length:=by rw [iT]; omega
  rw [fN,List.getElem?_eq_getElem hk,aA,Int.toNat_natCast]
  by_cases h1:ofS x=1
  ·have e1:(ofS x == 2)=false:=by simp [h1]
   have em:(l.map tc).set k ⟨x,s,0⟩=(l.set k ⟨x,s,0⟩).map tc:=by rw [List.map_set]; rfl
   rw [e1,cond_false,aA,if_pos h1,em]
   exact fin _ (by simp)
  ·have h2:ofS x=2:=by omega
   have e1:(ofS x == 2)=true:=by simp [h2]
   have hk2:k+1 < l.length:=by omega
   have ew:IntKind.i64.wrap ((k:Int)+1)=((k+1:Nat):Int):=by rw [w64 (by omega) (by omega)]; omega
   rw [e1,cond_true,ew,fN,List.getElem?_eq_getElem (by simpa using hk),aA,fN,List.getElem?_eq_getElem (by simp; omega),aA,if_neg h1,Int.toNat_natCast]
   have em:(((l.map tc).set k ⟨x,s,0⟩).set k ⟨x,s,1⟩).set (k+1) ⟨x,s,2⟩=((l.set k ⟨x,s,1⟩).set (k+1) ⟨x,s,2⟩).map tc:=by
    rw [List.set_set,List.map_set,List.map_set]
    rfl
   rw [em]
   generalize hl1:(l.set k ⟨x,s,1⟩).set (k+1) ⟨x,s,2⟩=l1
   have hlen:l1.length=l.length:=by rw [← hl1]; simp
   unfold zj
   rw [show ((k:Int)).toNat=k from Int.toNat_natCast k]
   by_cases h0:(k:Int) > 0
   ·have em1:IntKind.i64.wrap ((k:Int) - 1)=((k - 1:Nat):Int):=by rw [w64 (by omega) (by omega)]; omega
    have hk1:k - 1 < l1.length:=by omega
    have hg:idx (l1.map tc) ((k - 1:Nat):Int)=some (tc l1[k - 1]):=by rw [fN,List.getElem?_map,List.getElem?_eq_getElem hk1]; rfl
    rw [decide_eq_true h0,cond_true,em1,hg,if_pos h0,List.getElem?_eq_getElem hk1]
    simp only [aA]
    by_cases hp:(l1[k - 1]).part=1
    ·have e3:((tc l1[k - 1]).part == 1)=true:=by simp [tc,hp]
     have es:(l1.map tc).set (k - 1) ⟨32,(tc l1[k - 1]).aM,0⟩=(l1.set (k - 1) (blk (l1[k - 1]).aM)).map tc:=by rw [List.map_set]; rfl
     rw [e3,cond_true,if_pos hp]
     simp only [aA,Int.toNat_natCast,es]
     exact fin _ (by simpa using hlen)
    ·have e3:((tc l1[k - 1]).part == 1)=false:=by simp [tc,hp]
     rw [e3,cond_false,if_neg hp]
     simp only [aA]
     exact fin _ hlen
   ·rw [decide_eq_false h0,cond_false,if_neg h0]
    simp only [aA]
    rw [cond_false,aA]
    exact fin _ hlen
end Go.Tw.X
set_option linter.unusedVariables false
set_option linter.unusedSimpArgs false
namespace Go.Tw.X
open Go Go.Tw
def rok (x:Int):Prop:= -2147483648≤x∧x≤2147483647
def okR (l:List aJ):Prop:= ∀ c∈l,rok c.rune
theorem ui (s:Int):rok (blk s).rune:=by unfold rok blk; simp
theorem oC: ∀ (l:List aJ) (p:Int),okR l→okR (ij p l)
 | [],_,_=>fun c hc=>by cases hc
 | c::r,p,h=>by
  intro d hd
  simp only [ij,List.mem_cons] at hd
  rcases hd with rfl | hd
  ·unfold sZ
   cases vJ p c r with
   | true=>exact ui c.aM
   | false=>exact h c (by simp)
  ·exact oC r _ (fun e he=>h e (by simp [he])) d hd
theorem rW {l:List aJ} (h:okR l) (i:Nat) {c:aJ} (hc:rok c.rune):okR (l.set i c):=by
 intro d hd
 rcases List.mem_or_eq_of_mem_set hd with hd | rfl
 ·exact h d hd
 ·exact hc
theorem Fa {l:List aJ} (h:okR l) (at_ s:Int) {x:Int} (hx:rok x):okR (s6 l at_ x s):=by
 unfold s6
 split
 ·exact h
 ·split
  ·exact rW h _ hx
  ·unfold zj
   have h1:=rW (rW h at_.toNat (c:=⟨x,s,1⟩) hx) (at_.toNat+1) (c:=⟨x,s,2⟩) hx
   split
   ·split
    ·exact rW h1 _ (ui _)
    ·exact h1
   ·exact h1
theorem uj (n:Nat) (s:Int):okR (List.replicate n (blk s)):=fun c hc=>by rw [List.eq_of_mem_replicate hc]; exact ui s
theorem rX {a b:List aJ} (ha:okR a) (hb:okR b):okR (a++b):=fun c hc=>(List.mem_append.1 hc).elim (ha c) (hb c)
theorem rY {a:List aJ} (ha:okR a) (n:Nat):okR (a.take n):=fun c hc=>ha c (List.mem_of_mem_take hc)
theorem xY {a:List aJ} (ha:okR a) (n:Nat):okR (a.drop n):=fun c hc=>ha c (List.mem_of_mem_drop hc)
theorem s8 (a b s:Int): ∀ {l:List aJ} (i:Int),okR l→okR (jY a b s i l)
 | [],_,_=>fun c hc=>by cases hc
 | c::r,i,h=>by
  intro d hd
  simp only [jY,List.mem_cons] at hd
  rcases hd with rfl | hd
  ·split
   ·exact ui s
   ·exact h c (by simp)
  ·exact s8 a b s (i+1) (fun e he=>h e (by simp [he])) d hd
theorem w32 {x:Int} (h:rok x):IntKind.i64.wrap x=x:=by obtain ⟨h1,h2⟩:=h; exact w64 (by omega) (by omega)
theorem CI (r:aE) (h:r.cells.length≤1000000) (hr:okR r.cells):kC r (told r)=some true:=by
 unfold kC told
 simp only [iT]
 have e6:((bif ((r.cells.length:Int) != (r.cells.length:Int)) then some true else some (!(r.wrapped == r.wrapped))):Option Bool)=some false:=by simp
 rw [e6,aA,cond_false]
 have key: ∀ (b d:List aJ),d++b=r.cells→iter (σ:=Int) (ρ:=Unit ⊕ Bool) (fun a=>(bif (decide (a < (r.cells.length:Int))) then (Option.bind (idx r.cells a) fun e=>(Option.bind ((Option.bind (idx (r.cells.map tc) a) fun f=>(bif ((IntKind.i64.wrap e.rune) != f.rune) then some true else (Option.bind (idx (r.cells.map tc) a) fun g=>(bif (e.aM != g.aM) then some true else (Option.bind (idx (r.cells.map tc) a) fun i=>some (e.part != i.part)))))):Option Bool) fun j=>(bif j then (nj (some false)) else some (.inl (IntKind.i64.wrap (a+1)))))) else some (.inr (.inl ())))) (d.length:Int)=some (.inl ()):=by
  intro b
  induction b with
  | nil =>
   intro d hd
   simp at hd
   subst hd
   rw [dS (r:= .inl ())]
   simp
  | cons c b ih =>
   intro d hd
   have hl:r.cells.length=d.length+b.length+1:=by rw [← hd]; simp; omega
   have hc:decide ((d.length:Int) < (r.cells.length:Int))=true:=by simp; omega
   have hx:idx r.cells (d.length:Int)=some c:=by rw [← hd]; exact lW d b c
   have hx2:idx (r.cells.map tc) (d.length:Int)=some (tc c):=by
    rw [← hd,List.map_append,List.map_cons,← iT d]
    exact lW _ _ _
   have hcr:rok c.rune:=hr c (by rw [← hd]; simp)
   rw [fT (s':=((d++[c]).length:Int))]
   ·exact ih (d++[c]) (by simpa using hd)
   ·simp only [hc,cond_true,hx,hx2,aA,w32 hcr,tc,bne_self_eq_false,cond_false]
    rw [w64 (by omega) (by omega)]
    simp
 have h0:=key r.cells [] rfl
 have e0:((([]:List aJ).length:Nat):Int)=0:=rfl
 rw [e0] at h0
 rw [h0,aA]
def ins (l:List aJ) (at_ n s:Int):List aJ:=if cP l at_ n=0 then l else mM l at_.toNat (cP l at_ n).toNat s
def del (l:List aJ) (at_ n s:Int):List aJ:=if cP l at_ n=0 then l else nz l at_.toNat (cP l at_ n).toNat s
theorem uV (l:List aJ) (at_ n:Int):cP l at_ n=0∨(0 < cP l at_ n∧0≤at_∧at_+cP l at_ n≤l.length):=by
 unfold cP
 split
 ·exact .inl rfl
 ·omega
end Go.Tw.X
set_option linter.unusedVariables false
set_option linter.unusedSimpArgs false
namespace Go.Tw.X
open Go Go.Tw
theorem wV {σ ρ:Type} {f:σ→Option (σ ⊕ ρ)} (S:Nat→σ) (n:Nat) (r:ρ) (hs: ∀ i,i < n→f (S i)=some (.inl (S (i+1)))) (he:f (S n)=some (.inr r)):iter f (S 0)=some r:=by
 have key: ∀ i,i≤n→iter f (S 0)=iter f (S i):=by
  intro i
  induction i with
  | zero=>intro _; rfl
  | succ i ih =>
   intro hi
   rw [ih (by omega),fT (hs i (by omega))]
 rw [key n (Nat.le_refl n),dS he]
theorem eP {σ ρ β:Type} {f:σ→Option (σ ⊕ ρ)} {s:σ} {g:ρ→Option β} {out:Option β} (S:Nat→σ) (n:Nat) (r:ρ) (h0:s=S 0) (hs: ∀ i,i < n→f (S i)=some (.inl (S (i+1)))) (he:f (S n)=some (.inr r)) (hg:g r=out):Option.bind (iter f s) g=out:=by
 rw [h0,wV S n r hs he]
 exact hg
theorem uW {σ ρ:Type} {f:σ→Option (σ ⊕ ρ)} (Inv:σ→Prop) (m:σ→Nat) (pN:ρ→Prop)
  (hs: ∀ s,Inv s→(∃ s',f s=some (.inl s')∧Inv s'∧m s' < m s)∨(∃ r,f s=some (.inr r)∧pN r)): ∀ s,Inv s → ∃ r,iter f s=some r∧pN r:=by
 have key: ∀ (n:Nat) s,m s≤n→Inv s → ∃ r,iter f s=some r∧pN r:=by
  intro n
  induction n with
  | zero =>
   intro s hm hi
   rcases hs s hi with ⟨s',hf,hi',hlt⟩ | ⟨r,hf,hp⟩
   ·omega
   ·exact ⟨r,dS hf,hp⟩
  | succ n ih =>
   intro s hm hi
   rcases hs s hi with ⟨s',hf,hi',hlt⟩ | ⟨r,hf,hp⟩
   ·rw [fT hf]
    exact ih s' (by omega) hi'
   ·exact ⟨r,dS hf,hp⟩
 intro s hi
 exact key (m s) s (Nat.le_refl _) hi
theorem nQ {σ ρ β:Type} {f:σ→Option (σ ⊕ ρ)} {s:σ} {g:ρ→Option β} {out:Option β} (Inv:σ→Prop) (m:σ→Nat) (pN:ρ→Prop) (h0:Inv s)
  (hs: ∀ s,Inv s→(∃ s',f s=some (.inl s')∧Inv s'∧m s' < m s)∨(∃ r,f s=some (.inr r)∧pN r)) (hg: ∀ r,pN r→g r=out):Option.bind (iter f s) g=out:=by
 obtain ⟨r,h1,h2⟩:=uW Inv m pN hs s h0
 rw [h1]
 exact hg r h2
theorem CJ {α:Type} (l:List α) {i:Int} (h0:0≤i) (h1:i < l.length): ∃ a,idx l i=some a∧a∈l:=by
 obtain ⟨n,rfl⟩:=Int.eq_ofNat_of_zero_le h0
 rw [fN]
 have hn:n < l.length:=by omega
 rw [List.getElem?_eq_getElem hn]
 exact ⟨_,rfl,List.getElem_mem hn⟩
theorem vK (p q:Prop) [Decidable p] [Decidable q]:((bif decide p then some (decide q) else some false):Option Bool)=some (decide (p∧q)):=by
 by_cases a1:p <;> by_cases a2:q <;> simp [a1,a2]
theorem or2 (p q:Prop) [Decidable p] [Decidable q]:((bif decide p then some true else some (decide q)):Option Bool)=some (decide (p∨q)):=by
 by_cases a1:p <;> by_cases a2:q <;> simp [a1,a2]
theorem cK {α:Type} (l:List α) (n:Nat) (h:n < l.length):idx l (n:Int)=some l[n]:=by rw [fN,List.getElem?_eq_getElem h]
theorem Fb {α:Type} (l r:List α) (x y:α):(l++x::r).set l.length y=l++y::r:=by simp
theorem Ai {α:Type} (A B C:List α) (hi:Int) (h:hi=((A.length+B.length:Nat):Int)):cut (A++B++C) (A.length:Int) hi=B:=by
 subst h
 simp only [cut,Int.toNat_natCast]
 rw [List.take_left' (by simp),List.drop_left]
theorem n8 {α:Type} (l:List α) (a b:Nat):cut l (a:Int) (b:Int)=(l.take b).drop a:=by simp [cut]
theorem oD {α:Type} (l:List α) (b:Nat):cut l 0 (b:Int)=l.take b:=by simp [cut]
def szN (n:Int):Nat:=(max 1 (min n 1000)).toNat
theorem wW (n:Int):imax 1 (dQ n 1000)=(szN n:Int):=by rw [fM,dZ]; unfold szN; omega
theorem mO (n:Int):1≤szN n:=by unfold szN; omega
theorem kt (n:Int):szN n≤1000:=by unfold szN; omega
theorem GX (n:Nat) (h0:1≤n) (h1:n≤1000):szN n=n:=by unfold szN; omega
def gO (W:Nat) (s:Int):aE:=⟨List.replicate W (blk s),false⟩
def oE (g:aX):cH:=⟨g.w,g.l.map told⟩
def gok (W:Nat) (r:aE):Prop:=r.cells.length=W∧okR r.cells
structure GI (W:Nat) (l:List aE):Prop where
 w1:1≤W
 w2:W≤1000
 l1:1≤l.length
 l2:l.length≤1000
 rs: ∀ r∈l,gok W r
theorem pU (n lo hi:Int):gV n lo hi=some (max lo (min n hi)):=by
 unfold gV
 rw [fM,dZ]
theorem pV (n:Int):iE n=some (szN n:Int):=by
 unfold iE gV
 rw [wW]
 rfl
theorem oF (n:Int):jt n=some (szN n:Int):=by
 unfold jt
 rw [wW]
theorem wX (W:Nat) (s:Int) (h:W≤1000):jf W s=some (gO W s):=by
 rw [wT]
 have:(max 0 (min (W:Int) 1000)).toNat=W:=by omega
 rw [this]
 rfl
theorem uk (W:Nat) (s:Int) (h:W≤1000):fA W s=some (told (gO W s)):=by
 rw [qv]
 have:(max 0 (min (W:Int) 1000)).toNat=W:=by omega
 rw [this]
 rfl
theorem qw (W:Nat) (s:Int):gok W (gO W s):=⟨by simp [gO],uj W s⟩
def uc (w h:Int):aX:=⟨(szN w:Int),List.replicate (szN h) (gO (szN w) 0)⟩
theorem GY (w h:Int):GI (szN w) (uc w h).l:=by
 refine ⟨mO w,kt w,?_,?_,?_⟩
 ·simpa [uc] using mO h
 ·simpa [uc] using kt h
 ·intro r hr
  rw [List.eq_of_mem_replicate hr]
  exact qw _ _
theorem GZ (w h:Int):nN w h=some (uc w h):=by
 unfold nN
 rw [pV,aA,pV,aA]
 have hw:=kt w
 have hh:=kt h
 refine eP (fun i=>((⟨(szN w:Int),List.replicate i (gO (szN w) 0)⟩:aX),(i:Int))) (szN h) _ rfl ?_ ?_ rfl
 ·intro i hi
  try dsimp only
  rw [decide_eq_true (by omega),cond_true,wX _ _ hw,aA,bH (by simp; omega),aA,w64 (by omega) (by omega),← List.replicate_succ']
  rfl
 ·try dsimp only
  rw [decide_eq_false (by omega),cond_false]
  rfl
theorem Fc (w h:Int):mU w h=some (oE (uc w h)):=by
 unfold mU
 rw [oF,aA]
 have hw:=kt w
 have hh:=kt h
 refine eP (fun i=>((⟨(szN w:Int),List.replicate i (told (gO (szN w) 0))⟩:cH),(i:Int))) (szN h) (⟨(szN w:Int),List.replicate (szN h) (told (gO (szN w) 0))⟩:cH) rfl ?_ ?_ ?_
 ·intro i hi
  try dsimp only
  rw [oF,aA,decide_eq_true (by omega),cond_true,uk _ _ hw,aA,bH (by simp; omega),aA,w64 (by omega) (by omega),← List.replicate_succ']
  rfl
 ·try dsimp only
  rw [oF,aA,decide_eq_false (by omega),cond_false]
 ·simp [oE,uc]
theorem CK (r:aE) (h:r.cells.length≤1000000):mD r=some r:=by
 unfold mD
 rw [xW _ h,aA]
def CL:aE:=⟨[],false⟩
def jE (l:List aE) (y:Int):aE:=if 0≤y∧y < l.length then l[y.toNat]?.getD CL else CL
theorem wY {l:List aE} {n:Nat} (h:n < l.length):jE l n=l[n]:=by
 unfold jE
 rw [if_pos (by omega),Int.toNat_natCast,List.getElem?_eq_getElem h]
 rfl
theorem wZ (w:Int) (l:List aE) (y:Int) (h: ∀ r∈l,r.cells.length≤1000000):dH ⟨w,l⟩ y=some (jE l y):=by
 unfold dH jE
 rw [or2,aA]
 by_cases hy:0≤y∧y < l.length
 ·rw [decide_eq_false (by (try dsimp only); omega),cond_false,if_pos hy]
  obtain ⟨n,rfl⟩:=Int.eq_ofNat_of_zero_le hy.1
  have hn:n < l.length:=by omega
  simp only [Int.toNat_natCast]
  rw [cK l n hn,aA,CK _ (h _ (List.getElem_mem hn)),aA,List.getElem?_eq_getElem hn]
  rfl
 ·rw [decide_eq_true (by (try dsimp only); omega),cond_true,if_neg hy]
  rfl
def rsz (W:Nat) (r:aE):aE:=if W=r.cells.length then r else ⟨ij 0 (mN r.cells W),false⟩
theorem G0 (W:Nat) (hW:W≤1000) (r:aE) (h:r.cells.length≤1000000):iI r W=some (rsz W r):=by
 rw [Bs _ _ h]
 have:(max 0 (min (W:Int) 1000)).toNat=W:=by omega
 rw [this]
 rfl
theorem Aj (W:Nat) (hW:W≤1000) (r:aE) (h:r.cells.length≤1000000):iS (told r) W=some (told (rsz W r)):=by
 unfold told
 rw [zm _ _ _ h]
 have:(max 0 (min (W:Int) 1000)).toNat=W:=by omega
 rw [this]
 unfold rsz
 split <;> rfl
theorem G1 {W:Nat} {r:aE} (h:r.cells.length=W):rsz W r=r:=by
 unfold rsz
 rw [if_pos h.symm]
theorem Ak (W:Nat) (r:aE) (h:okR r.cells):gok W (rsz W r):=by
 unfold rsz
 split
 ·rename_i e
  exact ⟨e.symm,h⟩
 ·refine ⟨?_,oC _ _ (rX (rY h _) (uj _ _))⟩
  simp only [jX,mN,List.length_append,List.length_take,List.length_replicate]
  omega
def inG (l:List aE) (y:Int):Bool:=decide (0≤y∧y < l.length)
def qK (W:Nat) (l:List aE) (y:Int) (r:aE):List aE:=if 0≤y∧y < l.length then l.set y.toNat (rsz W r) else l
theorem kK (W:Nat) (l:List aE) (y:Int) (r:aE):(qK W l y r).length=l.length:=by
 unfold qK
 split <;> simp
theorem Bu {W:Nat} {l:List aE} (h: ∀ r∈l,gok W r) (y:Int) (r:aE) (hr:okR r.cells): ∀ q∈qK W l y r,gok W q:=by
 unfold qK
 split
 ·intro q hq
  rcases List.mem_or_eq_of_mem_set hq with hq | hq
  ·exact h q hq
  ·rw [hq]
   exact Ak W r hr
 ·exact h
theorem CM (W:Nat) (hW:W≤1000) (l:List aE) (y:Int) (r:aE) (h:r.cells.length≤1000000):eD ⟨W,l⟩ y r=some (inG l y,⟨W,qK W l y r⟩):=by
 unfold eD qK inG
 rw [or2,aA]
 by_cases hy:0≤y∧y < l.length
 ·rw [decide_eq_false (by (try dsimp only); omega),cond_false,if_pos hy,decide_eq_true hy]
  obtain ⟨n,rfl⟩:=Int.eq_ofNat_of_zero_le hy.1
  have hn:n < l.length:=by omega
  try dsimp only
  rw [G0 W hW r h,aA,cK l n hn,aA]
 ·rw [decide_eq_true (by (try dsimp only); omega),cond_true,if_neg hy,decide_eq_false hy]
theorem Fe (W:Nat) (hW:W≤1000) (l:List aE) (y:Int) (r:aE) (h:r.cells.length≤1000000) (hl:l.length≤1000000):kE ⟨W,l.map told⟩ y (told r)=some (⟨W,(qK W l y r).map told⟩,inG l y):=by
 unfold kE qK inG
 rw [or2,aA]
 simp only [List.length_map]
 by_cases hy:0≤y∧y < l.length
 ·rw [decide_eq_false (by (try dsimp only); omega),cond_false,if_pos hy,decide_eq_true hy]
  obtain ⟨n,rfl⟩:=Int.eq_ofNat_of_zero_le hy.1
  have hn:n < l.length:=by omega
  rw [bH (by simp; omega),aA,Aj W hW r h,aA,List.nil_append,cK (l.map told) n (by simpa using hn),aA]
  simp only [Int.toNat_natCast,List.map_set]
 ·rw [decide_eq_true (by (try dsimp only); omega),cond_true,if_neg hy,decide_eq_false hy]
theorem qy (l:List aE) (h:l.length≤1000000):dI l=some l:=by
 unfold dI
 rw [bH (by simp; omega),aA]
 rfl
theorem Ff {σ:Type} (Y:σ→aE→Option (σ×Bool)) (S:Nat→σ) (l:List aE) (hl:l.length≤1000000) (h: ∀ r∈l,r.cells.length≤1000000) (hY: ∀ i (hi:i < l.length),Y (S i) l[i]=some (S (i+1),true)):iK Y (S 0) l=some (S l.length):=by
 unfold iK
 refine eP (fun i=>((i:Int),S i)) l.length (.inl (S l.length)) rfl ?_ ?_ rfl
 ·intro i hi
  try dsimp only
  rw [decide_eq_true (by omega),cond_true,cK l i hi,aA,CK _ (h _ (List.getElem_mem hi)),aA,hY i hi,aA]
  try dsimp only
  rw [Bool.not_true,cond_false,w64 (by omega) (by omega)]
  rfl
 ·try dsimp only
  rw [decide_eq_false (by omega),cond_false]
theorem uX (l:List aE) (hl:l.length≤1000000) (h: ∀ r∈l,r.cells.length≤1000000):iL l=some (l,l):=by
 unfold iL lY
 rw [aA]
 have key:=Ff (fun (s40:List aE) (x9:aE)=>(Option.bind (chk (dB s40.length [x9].length 32)) fun _=>some ((s40++[x9]),true))) (fun i=>l.take i) l hl h (by
  intro i hi
  try dsimp only
  rw [bH (by simp; omega),aA,← List.take_succ_eq_append_getElem hi])
 rw [List.take_length] at key
 change iK _ ([]:List aE) l=some l at key
 rw [key]
 rfl
theorem rV (w:Int) (l:List aE) (hl:l.length≤1000000) (h: ∀ r∈l,r.cells.length≤1000000):iM ⟨w,l⟩=some (l,⟨w,l⟩):=by
 unfold iM
 try dsimp only
 rw [uX l hl h,aA,lX rfl,aA]
theorem uY (w:Int) (l:List aE) (hl:l.length≤1000000) (h: ∀ r∈l,r.cells.length≤1000000):hP ⟨w,l⟩=some (⟨w,l⟩,⟨w,l⟩):=by
 unfold hP
 try dsimp only
 rw [uX l hl h,aA,lX rfl,aA]
end Go.Tw.X
set_option linter.unusedVariables false
set_option linter.unusedSimpArgs false
namespace Go.Tw.X
open Go Go.Tw
theorem mc {α:Type} {l r:List α} {x:α} {k:Int} (h:k=l.length):idx (l++x::r) k=some x:=by rw [h,lW]
theorem nR {α:Type} {l r:List α} {x y:α} {k:Nat} (h:k=l.length):(l++x::r).set k y=l++y::r:=by rw [h,Fb]
theorem nt {α:Type} (l:List α) (a b:Nat) (h:a≤b) (h2:b≤l.length):(cut l (a:Int) (b:Int)).length=b - a:=by
 rw [n8,List.length_drop,List.length_take]
 omega
def loS (l:List aE) (t:Int):Nat:=(max 0 (min t ((l.length:Int) - 1))).toNat
theorem rr (l:List aE) (t:Int) (h:1≤l.length):loS l t < l.length:=by unfold loS; omega
theorem nk (l:List aE) (t:Int):max 0 (min t ((l.length:Int) - 1))=(loS l t:Int):=by unfold loS; omega
theorem wc (w:Int) (l:List aE) (top aI:Int) (h1:1≤l.length) (h2:l.length≤1000000):dK ⟨w,l⟩ top aI=some (if loS l aI < loS l top then .inl () else .inr ((loS l top:Int),((loS l aI+1:Nat):Int))):=by
 unfold dK
 dsimp only
 have ht:=rr l top h1
 have hb:=rr l aI h1
 rw [w64 (x:=(l.length:Int) - 1) (by omega) (by omega),pU,aA,pU,aA,nk,nk]
 by_cases h:loS l aI < loS l top
 ·rw [decide_eq_true (by omega),cond_true,if_pos h]
 ·rw [decide_eq_false (by omega),cond_false,if_neg h,w64 (by omega) (by omega),bV (by omega) (by omega) (by omega),aA]
  rfl
def kN (n:Int) (b:Nat):Nat:=(max 0 (min n (b:Int))).toNat
theorem Gg (n:Int) (b:Nat):max 0 (min n (b:Int))=(kN n b:Int):=by unfold kN; omega
theorem Al (n:Int) (b:Nat):kN n b≤b:=by unfold kN; omega
def upB {α:Type} (k:Nat) (B:List α) (x:α):List α:=B.drop k++List.replicate (min k B.length) x
def lr {α:Type} (k:Nat) (B:List α) (x:α):List α:=List.replicate (min k B.length) x++B.take (B.length - k)
theorem uZ {α:Type} (k:Nat) (B:List α) (x:α):(upB k B x).length=B.length:=by
 unfold upB
 rw [List.length_append,List.length_drop,List.length_replicate]
 omega
theorem rZ {α:Type} (k:Nat) (B:List α) (x:α):(lr k B x).length=B.length:=by
 unfold lr
 rw [List.length_append,List.length_take,List.length_replicate]
 omega
theorem Fg {α β:Type} (f:α→β) (k:Nat) (B:List α) (x:α):(upB k B x).map f=upB k (B.map f) (f x):=by
 simp [upB]
theorem Bv {α β:Type} (f:α→β) (k:Nat) (B:List α) (x:α):(lr k B x).map f=lr k (B.map f) (f x):=by
 simp [lr]
theorem CN {α:Type} (A B C:List α) (n:Nat) (h:n≤B.length):(A++B++C).drop (A.length+n)=B.drop n++C:=by
 rw [List.append_assoc,List.drop_append,List.drop_append]
 have e1:A.drop (A.length+n)=[]:=List.drop_eq_nil_of_le (by omega)
 have e2:A.length+n - A.length=n:=by omega
 have e3:n - B.length=0:=by omega
 rw [e1,e2,e3,List.nil_append,List.drop_zero]
theorem Gh {α:Type} (A B C:List α) (n:Nat) (h:n≤B.length):(A++B++C).take (A.length+n)=A++B.take n:=by
 rw [List.append_assoc,List.take_append,List.take_append]
 have e1:A.take (A.length+n)=A:=List.take_of_length_le (by omega)
 have e2:A.length+n - A.length=n:=by omega
 have e3:n - B.length=0:=by omega
 rw [e1,e2,e3,List.take_zero,List.append_nil]
theorem Fh {α:Type} (A B C:List α) (m n:Nat) (h:n≤B.length) (h2:m≤n):cut (A++B++C) ((A.length+m:Nat):Int) ((A.length+n:Nat):Int)=(B.take n).drop m:=by
 rw [n8,Gh A B C n h]
 have:=CN A (B.take n) [] m (by rw [List.length_take]; omega)
 simp
theorem HS (W:Nat) (hW:W≤1000) (A B C:List aE) (top aI n s:Int) (hl:(A++B++C).length≤1000000) (hB:1≤B.length)
  (hreg:dK ⟨W,A++B++C⟩ top aI=some (.inr ((A.length:Int),((A.length+B.length:Nat):Int)))) :
  eZ ⟨W,A++B++C⟩ top aI n s=some (B.take (kN n B.length),⟨W,A++upB (kN n B.length) B (gO W s)++C⟩):=by
 unfold eZ
 rw [hreg,aA]
 dsimp only
 have hk:=Al n B.length
 simp only [List.length_append] at hl
 rw [bV (by omega) (by omega) (by simp only [List.length_append]; omega),aA,Ai A B C _ rfl,pU,aA,Gg]
 generalize kN n B.length=k at hk
 rw [bV (by omega) (by omega) (by omega),aA]
 have e1:cut (A++B++C) ((A.length:Int)+0) ((A.length:Int)+(k:Int))=B.take k:=by
  have:=Fh A B C 0 k hk (by omega)
  simpa using this
 have e2:pE (A++B++C) (A.length:Int) ((A.length+B.length:Nat):Int) ((A.length:Int)+(k:Int)) ((A.length:Int)+(B.length:Int))=A++B.drop k++(B.drop (B.length - k)++C):=by
  have c:=Fh A B C k B.length (Nat.le_refl _) hk
  rw [List.take_length] at c
  have c':cut (A++B++C) ((A.length:Int)+(k:Int)) ((A.length:Int)+(B.length:Int))=B.drop k:=by simpa using c
  unfold pE
  rw [c',Int.toNat_natCast,Int.toNat_natCast,List.append_assoc A B C,List.take_left,List.take_of_length_le (l:=B.drop k) (by rw [List.length_drop]; omega),List.length_drop,← List.append_assoc A B C,CN A B C _ (by omega)]
 rw [e1,qy _ (by rw [List.length_take]; omega),aA,bV (by omega) (by omega) (by omega),aA,e2]
 have hL:(cut (A++B.drop k++(B.drop (B.length - k)++C)) (A.length:Int) ((A.length+B.length:Nat):Int)).length=B.length:=by
  rw [nt _ _ _ (by omega) (by simp; omega)]
  omega
 rw [hL,w64 (by omega) (by omega)]
 refine eP (fun i=>((⟨W,A++(B.drop k++List.replicate i (gO W s))++(B.drop (B.length - k+i)++C)⟩:aX),((B.length - k+i:Nat):Int))) k (⟨W,A++upB k B (gO W s)++C⟩:aX) ?_ ?_ ?_ rfl
 ·have:(B.length:Int) - (k:Int)=((B.length - k+0:Nat):Int):=by omega
  rw [this]
  simp
 ·intro i hi
  dsimp only
  have hlen:(A++(B.drop k++List.replicate i (gO W s))++(B.drop (B.length - k+i)++C)).length=A.length+B.length+C.length:=by simp; omega
  have hc:(cut (A++(B.drop k++List.replicate i (gO W s))++(B.drop (B.length - k+i)++C)) (A.length:Int) ((A.length+B.length:Nat):Int)).length=B.length:=by
   rw [nt _ _ _ (by omega) (by rw [hlen]; omega)]
   omega
  rw [hc,decide_eq_true (by omega),cond_true,wX _ _ hW,aA,bV (by omega) (by omega) (by rw [hlen]; omega),aA]
  obtain ⟨x,hx,_⟩:=CJ (cut (A++(B.drop k++List.replicate i (gO W s))++(B.drop (B.length - k+i)++C)) (A.length:Int) ((A.length+B.length:Nat):Int)) (i:=((B.length - k+i:Nat):Int)) (by omega) (by rw [hc]; omega)
  rw [hx,aA,w64 (by omega) (by omega),List.drop_eq_getElem_cons (l:=B) (i:=B.length - k+i) (by omega),List.cons_append,nR (by simp; omega),List.replicate_succ']
  simp [Nat.add_assoc]
  omega
 ·dsimp only
  have hlen:(A++(B.drop k++List.replicate k (gO W s))++(B.drop (B.length - k+k)++C)).length=A.length+B.length+C.length:=by simp; omega
  have hc:(cut (A++(B.drop k++List.replicate k (gO W s))++(B.drop (B.length - k+k)++C)) (A.length:Int) ((A.length+B.length:Nat):Int)).length=B.length:=by
   rw [nt _ _ _ (by omega) (by rw [hlen]; omega)]
   omega
  rw [hc,decide_eq_false (by omega),cond_false,List.drop_eq_nil_of_le (as:=B) (i:=B.length - k+k) (by omega)]
  unfold upB
  rw [Nat.min_eq_left hk]
  simp
end Go.Tw.X
set_option linter.unusedVariables false
set_option linter.unusedSimpArgs false
namespace Go.Tw.X
open Go Go.Tw
theorem zo (l:List aE) (h:l.length≤1000000):eY l=some l.reverse:=by
 unfold eY
 refine nQ (fun s:List aE×Int×Int=> ∃ t:Nat,s.2.1=t∧s.2.2=(l.length:Int) - 1 - t∧2*t≤l.length+1∧s.1.length=l.length ∧ ∀ p,p < l.length→s.1[p]?=if p < t∨l.length - 1 - t < p then l[l.length - 1 - p]? else l[p]?) (fun s=>(s.2.2 - s.2.1+1).toNat) (fun r=>r=l.reverse) ?_ ?_ (fun r hr=>by rw [hr])
 ·refine ⟨0,rfl,?_,by omega,rfl,fun p hp=> ?_⟩
  ·dsimp only
   rw [w64 (by omega) (by omega)]
   omega
  ·rw [if_neg (by omega)]
 ·rintro ⟨L,i,j⟩ ⟨t,hi,hj,ht,hL,hp⟩
  dsimp only at hi hj hL hp ⊢
  subst hi hj
  by_cases hlt:(t:Int) < (l.length:Int) - 1 - t
  ·have hj:(l.length:Int) - 1 - (t:Int)=((l.length - 1 - t:Nat):Int):=by omega
   have h1:t < L.length:=by omega
   have h2:l.length - 1 - t < L.length:=by omega
   have g1:=hp t (by omega)
   have g2:=hp (l.length - 1 - t) (by omega)
   rw [if_neg (by omega)] at g1 g2
   refine .inl ⟨((L.set t L[l.length - 1 - t]).set (l.length - 1 - t) L[t],((t+1:Nat):Int),(l.length:Int) - 1 - ((t+1:Nat):Int)),?_,⟨t+1,rfl,rfl,by omega,by simp [hL],?_⟩,by dsimp only; omega⟩
   ·rw [decide_eq_true hlt,cond_true,hj,cK L _ h1,cK L _ h2]
    simp only [aA,Int.toNat_natCast]
    rw [w64 (by omega) (by omega),w64 (by omega) (by omega)]
    congr 3
    congr 1
    omega
   ·intro p hpl
    have hg1:L[t]?=some L[t]:=List.getElem?_eq_getElem h1
    have hg2:L[l.length - 1 - t]?=some L[l.length - 1 - t]:=List.getElem?_eq_getElem h2
    dsimp only
    by_cases c1:p=l.length - 1 - t
    ·subst c1
     rw [List.getElem?_set_self (by simpa using h2),if_pos (by omega),← hg1,g1]
     congr 1
     omega
    ·rw [List.getElem?_set_ne (fun e=>c1 e.symm)]
     by_cases c2:p=t
     ·subst c2
      rw [List.getElem?_set_self h1,if_pos (by omega),← hg2,g2]
     ·rw [List.getElem?_set_ne (fun e=>c2 e.symm),hp p hpl]
      by_cases c3:p < t∨l.length - 1 - t < p
      ·rw [if_pos c3,if_pos (by omega)]
      ·rw [if_neg c3,if_neg (by omega)]
  ·refine .inr ⟨L,by rw [decide_eq_false hlt,cond_false],?_⟩
   apply List.ext_getElem?
   intro p
   by_cases hpl:p < l.length
   ·rw [hp p hpl,List.getElem?_reverse hpl]
    by_cases c3:p < t∨l.length - 1 - t < p
    ·rw [if_pos c3]
    ·rw [if_neg c3]
     congr 1
     omega
   ·rw [List.getElem?_eq_none (by omega),List.getElem?_eq_none (by simp; omega)]
theorem Fi (W:Nat) (hW:W≤1000) (A B C:List aE) (top aI n s:Int) (hl:(A++B++C).length≤1000000) (hB:1≤B.length)
  (hreg:dK ⟨W,A++B++C⟩ top aI=some (.inr ((A.length:Int),((A.length+B.length:Nat):Int)))) :
  dT ⟨W,A++B++C⟩ top aI n s=some ((B.drop (B.length - kN n B.length)).reverse,⟨W,A++lr (kN n B.length) B (gO W s)++C⟩):=by
 unfold dT
 rw [hreg,aA]
 dsimp only
 have hk:=Al n B.length
 simp only [List.length_append] at hl
 rw [bV (by omega) (by omega) (by simp only [List.length_append]; omega),aA,Ai A B C _ rfl,pU,aA,Gg]
 generalize kN n B.length=k at hk
 rw [w64 (x:=(B.length:Int) - (k:Int)) (by omega) (by omega)]
 have hbk:(B.length:Int) - (k:Int)=((B.length - k:Nat):Int):=by omega
 rw [hbk,bV (by omega) (by omega) (by omega),aA]
 have e1:cut (A++B++C) ((A.length:Int)+((B.length - k:Nat):Int)) ((A.length:Int)+(B.length:Int))=B.drop (B.length - k):=by
  have:=Fh A B C (B.length - k) B.length (Nat.le_refl _) (by omega)
  rw [List.take_length] at this
  simpa using this
 have e2:pE (A++B++C) ((A.length:Int)+(k:Int)) ((A.length:Int)+(B.length:Int)) ((A.length:Int)+0) ((A.length:Int)+((B.length - k:Nat):Int))=A++B.take k++(B.take (B.length - k)++C):=by
  have c:=Fh A B C 0 (B.length - k) (by omega) (by omega)
  rw [List.drop_zero] at c
  have c':cut (A++B++C) ((A.length:Int)+0) ((A.length:Int)+((B.length - k:Nat):Int))=B.take (B.length - k):=by simpa using c
  have t1:((A.length:Int)+(k:Int)).toNat=A.length+k:=by omega
  have t2:((A.length:Int)+(B.length:Int)).toNat=A.length+B.length:=by omega
  unfold pE
  rw [c',t1,t2,Gh A B C k hk,List.take_of_length_le (l:=B.take (B.length - k)) (by rw [List.length_take]; omega),List.length_take]
  have t3:A.length+k+min (B.length - k) B.length=A.length+B.length:=by omega
  rw [t3,CN A B C _ (Nat.le_refl _),List.drop_eq_nil_of_le (Nat.le_refl _),List.nil_append,List.append_assoc (A++B.take k)]
 rw [e1,qy _ (by rw [List.length_drop]; omega),aA,zo _ (by rw [List.length_drop]; omega),aA,lX (by simp),aA,bV (by omega) (by omega) (by omega),aA,bV (by omega) (by omega) (by omega),aA,e2]
 refine eP (fun i=>((⟨W,A++List.replicate i (gO W s)++((B.take k).drop i++(B.take (B.length - k)++C))⟩:aX),(i:Int))) k (⟨W,A++lr k B (gO W s)++C⟩:aX) ?_ ?_ ?_ rfl
 ·simp
 ·intro i hi
  dsimp only
  have hlen:(A++List.replicate i (gO W s)++((B.take k).drop i++(B.take (B.length - k)++C))).length=A.length+B.length+C.length:=by simp; omega
  have hc:(cut (A++List.replicate i (gO W s)++((B.take k).drop i++(B.take (B.length - k)++C))) (A.length:Int) ((A.length+B.length:Nat):Int)).length=B.length:=by
   rw [nt _ _ _ (by omega) (by rw [hlen]; omega)]
   omega
  rw [decide_eq_true (by omega),cond_true,wX _ _ hW,aA,bV (by omega) (by omega) (by rw [hlen]; omega),aA]
  obtain ⟨x,hx,_⟩:=CJ (cut (A++List.replicate i (gO W s)++((B.take k).drop i++(B.take (B.length - k)++C))) (A.length:Int) ((A.length+B.length:Nat):Int)) (i:=(i:Int)) (by omega) (by rw [hc]; omega)
  have htl:i < (B.take k).length:=by rw [List.length_take]; omega
  rw [hx,aA,w64 (by omega) (by omega),List.drop_eq_getElem_cons htl,List.cons_append,nR (by simp),List.replicate_succ']
  simp
 ·dsimp only
  rw [decide_eq_false (by omega),cond_false,List.drop_eq_nil_of_le (as:=B.take k) (i:=k) (by rw [List.length_take]; omega)]
  unfold lr
  rw [Nat.min_eq_left hk]
  simp
end Go.Tw.X
set_option linter.unusedVariables false
set_option linter.unusedSimpArgs false
namespace Go.Tw.X
open Go Go.Tw
variable {α : Type}
theorem CO (B:List α) (x:α):upB 0 B x=B:=by simp [upB]
theorem zp (B:List α) (x:α):lr 0 B x=B:=by simp [lr]
theorem CP (B:List α) (x:α) (i:Nat) (h:i < B.length):upB i B x=B[i]::(B.drop (i+1)++List.replicate i x):=by
 unfold upB
 rw [Nat.min_eq_left (by omega),List.drop_eq_getElem_cons h,List.cons_append]
theorem CQ (B:List α) (x:α) (i:Nat) (h:i < B.length):upB (i+1) B x=(B.drop (i+1)++List.replicate i x)++[x]:=by
 unfold upB
 rw [Nat.min_eq_left (by omega),List.replicate_succ',List.append_assoc]
theorem zq (B:List α) (x:α) (i:Nat) (h:i < B.length):lr i B x=(List.replicate i x++B.take (B.length - i - 1))++[B[B.length - i - 1]'(by omega)]:=by
 unfold lr
 rw [Nat.min_eq_left (by omega),List.append_assoc,← List.take_succ_eq_append_getElem]
 congr 2
 omega
theorem zr (B:List α) (x:α) (i:Nat) (h:i < B.length):lr (i+1) B x=x::(List.replicate i x++B.take (B.length - i - 1)):=by
 unfold lr
 rw [Nat.min_eq_left (by omega),List.replicate_succ,List.cons_append]
 congr 3
theorem take_one {l:List α} (h:0 < l.length):l.take 1=[l[0]]:=by
 cases l with
 | nil=>simp at h
 | cons a t=>rfl
theorem IZ {ρ β:Type} (lo hi:Int) (A T C:List aR) (y:aR) (g:List aR→Option β) (out:Option β) (hl:(A++(y::T)++C).length≤1000000) (hlo:lo=A.length) (hhi:hi=lo+T.length)
  (hg:g ((A++T)++((y::T).drop T.length++C))=out) :
  Option.bind (iter (σ:=(List aR)×Int) (ρ:=(List aR)) (fun a=>(bif (decide (a.2 < hi)) then (Option.bind (idx a.1 (IntKind.i64.wrap (a.2+1))) fun b=>(Option.bind (idx a.1 a.2) fun c=>some (.inl ((a.1.set a.2.toNat b),(IntKind.i64.wrap (a.2+1)))))) else some (.inr a.1))) (A++(y::T)++C,lo)) g=out:=by
 subst hlo
 simp only [List.length_append,List.length_cons] at hl
 refine eP (fun j=>((A++T.take j)++((y::T).drop j++C),((A.length+j:Nat):Int))) T.length _ ?_ ?_ ?_ hg
 ·simp
 ·intro j hj
  dsimp only
  have e1:(y::T).drop j=(y::T)[j]'(by simp; omega)::T[j]::T.drop (j+1):=by
   rw [List.drop_eq_getElem_cons (by simp; omega),List.drop_succ_cons,List.drop_eq_getElem_cons hj]
  have e2:A++T.take j++((y::T).drop j++C)=((A++T.take j)++[(y::T)[j]'(by simp; omega)])++T[j]::(T.drop (j+1)++C):=by rw [e1]; simp only [List.append_assoc,List.cons_append,List.nil_append]
  have e3:A++T.take j++((y::T).drop j++C)=(A++T.take j)++(y::T)[j]'(by simp; omega)::(T[j]::(T.drop (j+1)++C)):=by rw [e1]; simp only [List.append_assoc,List.cons_append,List.nil_append]
  rw [decide_eq_true (by omega),cond_true,w64 (by omega) (by omega)]
  rw [show idx (A++T.take j++((y::T).drop j++C)) (((A.length+j:Nat):Int)+1)=some T[j] by rw [e2]; exact mc (by simp; omega)]
  rw [aA]
  rw [show idx (A++T.take j++((y::T).drop j++C)) ((A.length+j:Nat):Int)=some ((y::T)[j]'(by simp; omega)) by rw [e3]; exact mc (by simp; omega)]
  rw [aA,Int.toNat_natCast,e3,nR (by simp; omega),List.drop_succ_cons,List.drop_eq_getElem_cons hj,List.take_succ_eq_append_getElem hj]
  have t4:((A.length+j:Nat):Int)+1=((A.length+(j+1):Nat):Int):=by omega
  rw [t4]
  simp only [List.append_assoc,List.cons_append,List.nil_append]
 ·dsimp only
  rw [decide_eq_false (by omega),cond_false,List.take_length]
theorem G2 {ρ β:Type} (lo hi:Int) (A T C:List aR) (y:aR) (g:List aR→Option β) (out:Option β) (hl:(A++(T++[y])++C).length≤1000000) (hlo:lo=A.length) (hhi:hi=lo+T.length)
  (hg:g (A++(T++[y]).take 1++(T++C))=out) :
  Option.bind (iter (σ:=(List aR)×Int) (ρ:=(List aR)) (fun a=>(bif (decide (a.2 > lo)) then (Option.bind (idx a.1 (IntKind.i64.wrap (a.2 - 1))) fun b=>(Option.bind (idx a.1 a.2) fun c=>some (.inl ((a.1.set a.2.toNat b),(IntKind.i64.wrap (a.2 - 1)))))) else some (.inr a.1))) (A++(T++[y])++C,hi)) g=out:=by
 subst hlo
 simp only [List.length_append,List.length_cons,List.length_nil] at hl
 refine eP (fun j=>((A++(T++[y]).take (T.length+1 - j))++(T.drop (T.length - j)++C),((A.length+(T.length - j):Nat):Int))) T.length _ ?_ ?_ ?_ hg
 ·have:(T++[y]).take (T.length+1 - 0)=T++[y]:=List.take_of_length_le (by simp)
  try dsimp only
  rw [hhi,this]
  simp
 ·intro j hj
  dsimp only
  have hz:T.length - 1 - j < T.length:=by omega
  have hzz:T.length - j < (T++[y]).length:=by simp; omega
  have t1:(T++[y]).take (T.length+1 - j)=(T++[y]).take (T.length - 1 - j)++[T[T.length - 1 - j]]++[(T++[y])[T.length - j]]:=by
   have a1:T.length+1 - j=(T.length - j)+1:=by omega
   have a2:T.length - j=(T.length - 1 - j)+1:=by omega
   rw [a1,List.take_succ_eq_append_getElem hzz]
   congr 1
   rw [a2,List.take_succ_eq_append_getElem (by simp; omega)]
   congr 2
   rw [List.getElem_append_left hz]
  have e2:A++(T++[y]).take (T.length+1 - j)++(T.drop (T.length - j)++C)=(A++(T++[y]).take (T.length - 1 - j))++T[T.length - 1 - j]::((T++[y])[T.length - j]::(T.drop (T.length - j)++C)):=by rw [t1]; simp
  have e3:A++(T++[y]).take (T.length+1 - j)++(T.drop (T.length - j)++C)=(A++(T++[y]).take (T.length - 1 - j)++[T[T.length - 1 - j]])++(T++[y])[T.length - j]::(T.drop (T.length - j)++C):=by rw [t1]; simp
  rw [decide_eq_true (by omega),cond_true,w64 (by omega) (by omega)]
  rw [show idx (A++(T++[y]).take (T.length+1 - j)++(T.drop (T.length - j)++C)) (((A.length+(T.length - j):Nat):Int) - 1)=some T[T.length - 1 - j] by rw [e2]; exact mc (by simp; omega)]
  rw [aA]
  rw [show idx (A++(T++[y]).take (T.length+1 - j)++(T.drop (T.length - j)++C)) ((A.length+(T.length - j):Nat):Int)=some ((T++[y])[T.length - j]) by rw [e3]; exact mc (by simp; omega)]
  rw [aA,Int.toNat_natCast,e3,nR (by simp; omega)]
  have t2:(T++[y]).take (T.length+1 - (j+1))=(T++[y]).take (T.length - 1 - j)++[T[T.length - 1 - j]]:=by
   have a2:T.length+1 - (j+1)=(T.length - 1 - j)+1:=by omega
   rw [a2,List.take_succ_eq_append_getElem (by simp; omega)]
   congr 2
   rw [List.getElem_append_left hz]
  have t3:T.drop (T.length - (j+1))=T[T.length - 1 - j]::T.drop (T.length - j):=by
   have a2:T.length - (j+1)=T.length - 1 - j:=by omega
   rw [a2,List.drop_eq_getElem_cons hz]
   congr 2
   omega
  rw [t2,t3]
  have t4:((A.length+(T.length - j):Nat):Int) - 1=((A.length+(T.length - (j+1)):Nat):Int):=by omega
  rw [t4]
  simp
 ·dsimp only
  rw [decide_eq_false (by omega),cond_false]
  have:T.length+1 - T.length=1:=by omega
  rw [this,Nat.sub_self,List.drop_zero]
theorem CR (W:Nat) (hW:W≤1000) (A B C:List aR) (top aI n s:Int) (hl:(A++B++C).length≤1000000) (hB:1≤B.length)
  (h1:max 0 (min top (((A++B++C).length:Int) - 1))=A.length) (h2:max 0 (min aI (((A++B++C).length:Int) - 1))=A.length+B.length - 1) :
  dC ⟨W,A++B++C⟩ true top aI n s=some (⟨W,A++upB (kN n B.length) B (told (gO W s))++C⟩,B.take (kN n B.length)):=by
 unfold dC
 dsimp only
 have hl':=hl
 simp only [List.length_append] at hl'
 rw [w64 (x:=((A++B++C).length:Int) - 1) (by omega) (by omega)]
 simp only [fM,dZ,h1,h2]
 have hk:=Al n B.length
 have hkn: ∀ i:Nat,i < kN n B.length→(i:Int) < n:=fun i hi=>by unfold kN at hi; omega
 have hkx: ¬ (((kN n B.length:Nat):Int) < n∧((kN n B.length:Nat):Int)≤(A.length:Int)+(B.length:Int) - 1 - (A.length:Int)):=by unfold kN; omega
 generalize kN n B.length=k at hk hkn hkx
 rw [decide_eq_false (by omega),cond_false,bH (by simp; omega),aA,uk _ _ hW,aA,List.nil_append]
 refine eP (fun i=>(B.take i,A++upB i B (told (gO W s))++C,(i:Int))) k (B.take k,A++upB k B (told (gO W s))++C) ?_ ?_ ?_ rfl
 ·rw [CO]
  rfl
 ·intro i hi
  dsimp only
  have hib:i < B.length:=by omega
  rw [vK,w64 (x:=(A.length:Int)+(B.length:Int) - 1 - (A.length:Int)) (by omega) (by omega),decide_eq_true ⟨hkn i hi,by omega⟩,aA,cond_true,cond_true,CP _ _ _ hib]
  rw [show idx (A++B[i]::(B.drop (i+1)++List.replicate i (told (gO W s)))++C) (A.length:Int)=some B[i] by rw [List.append_assoc,List.cons_append]; exact mc rfl]
  rw [aA,bH (by simp; omega),aA]
  rw [IZ (ρ:=Unit) (A.length:Int) ((A.length:Int)+(B.length:Int) - 1) A (B.drop (i+1)++List.replicate i (told (gO W s))) C B[i] _ (some (B.take (i+1),A++upB (i+1) B (told (gO W s))++C)) (by simp; omega) rfl (by simp; omega)]
  ·rw [aA,w64 (by omega) (by omega)]
   rfl
  ·generalize hT:B.drop (i+1)++List.replicate i (told (gO W s))=T
   have hTl:A.length+T.length=A.length+B.length - 1:=by rw [← hT]; simp; omega
   have hd:(B[i]::T).drop T.length=[(B[i]::T)[T.length]]:=by
    rw [List.drop_eq_getElem_cons (by simp),List.drop_eq_nil_of_le (by simp)]
   rw [hd,List.singleton_append]
   rw [mc (by simp; omega),aA,CQ _ _ _ hib,hT,nR (by simp; omega),List.take_succ_eq_append_getElem hib]
   simp
 ·dsimp only
  rw [vK,w64 (x:=(A.length:Int)+(B.length:Int) - 1 - (A.length:Int)) (by omega) (by omega),decide_eq_false hkx,aA,cond_false]
theorem zt (W:Nat) (hW:W≤1000) (A B C:List aR) (top aI n s:Int) (hl:(A++B++C).length≤1000000) (hB:1≤B.length)
  (h1:max 0 (min top (((A++B++C).length:Int) - 1))=A.length) (h2:max 0 (min aI (((A++B++C).length:Int) - 1))=A.length+B.length - 1) :
  dC ⟨W,A++B++C⟩ false top aI n s=some (⟨W,A++lr (kN n B.length) B (told (gO W s))++C⟩,(B.drop (B.length - kN n B.length)).reverse):=by
 unfold dC
 dsimp only
 have hl':=hl
 simp only [List.length_append] at hl'
 rw [w64 (x:=((A++B++C).length:Int) - 1) (by omega) (by omega)]
 simp only [fM,dZ,h1,h2]
 have hk:=Al n B.length
 have hkn: ∀ i:Nat,i < kN n B.length→(i:Int) < n:=fun i hi=>by unfold kN at hi; omega
 have hkx: ¬ (((kN n B.length:Nat):Int) < n∧((kN n B.length:Nat):Int)≤(A.length:Int)+(B.length:Int) - 1 - (A.length:Int)):=by unfold kN; omega
 generalize kN n B.length=k at hk hkn hkx
 rw [decide_eq_false (by omega),cond_false,bH (by simp; omega),aA,uk _ _ hW,aA,List.nil_append]
 refine eP (fun i=>((B.drop (B.length - i)).reverse,A++lr i B (told (gO W s))++C,(i:Int))) k ((B.drop (B.length - k)).reverse,A++lr k B (told (gO W s))++C) ?_ ?_ ?_ rfl
 ·rw [zp]
  simp
 ·intro i hi
  dsimp only
  have hib:i < B.length:=by omega
  rw [vK,w64 (x:=(A.length:Int)+(B.length:Int) - 1 - (A.length:Int)) (by omega) (by omega),decide_eq_true ⟨hkn i hi,by omega⟩,aA,cond_true,cond_false,zq _ _ _ hib]
  have hTl:A.length+(List.replicate i (told (gO W s))++B.take (B.length - i - 1)).length=A.length+B.length - 1:=by simp; omega
  rw [show idx (A++((List.replicate i (told (gO W s))++B.take (B.length - i - 1))++[B[B.length - i - 1]'(by omega)])++C) ((A.length:Int)+(B.length:Int) - 1)=some (B[B.length - i - 1]'(by omega)) by
   rw [← List.append_assoc A,List.append_assoc (A++(List.replicate i (told (gO W s))++B.take (B.length - i - 1))),List.singleton_append]; exact mc (by rw [List.length_append]; omega)]
  rw [aA,bH (by simp; omega),aA]
  rw [G2 (ρ:=Unit) (A.length:Int) ((A.length:Int)+(B.length:Int) - 1) A (List.replicate i (told (gO W s))++B.take (B.length - i - 1)) C (B[B.length - i - 1]'(by omega)) _ (some ((B.drop (B.length - (i+1))).reverse,A++lr (i+1) B (told (gO W s))++C)) (by simp; omega) rfl (by omega)]
  ·rw [aA,w64 (by omega) (by omega)]
   rfl
  ·rw [zr _ _ _ hib]
   generalize hT:List.replicate i (told (gO W s))++B.take (B.length - i - 1)=T
   have hd:(T++[B[B.length - i - 1]'(by omega)]).take 1=[(T++[B[B.length - i - 1]'(by omega)])[0]'(by simp)]:=by
    exact take_one (by simp)
   rw [hd,List.append_assoc A,List.singleton_append]
   rw [mc rfl,aA,Int.toNat_natCast,nR rfl]
   have a1:B.length - i=(B.length - i - 1)+1:=by omega
   have a2:B.length - (i+1)=B.length - i - 1:=by omega
   rw [a2,List.drop_eq_getElem_cons (i:=B.length - i - 1) (by omega),← a1]
   simp
 ·dsimp only
  rw [vK,w64 (x:=(A.length:Int)+(B.length:Int) - 1 - (A.length:Int)) (by omega) (by omega),decide_eq_false hkx,aA,cond_false]
end Go.Tw.X
set_option linter.unusedVariables false
set_option linter.unusedSimpArgs false
namespace Go.Tw.X
open Go Go.Tw
theorem GI.len {W:Nat} {l:List aE} (h:GI W l): ∀ r∈l,r.cells.length≤1000000:=fun r hr=>by
 have:=(h.rs r hr).1
 have:=h.w2
 omega
def rgB (l:List aE) (t b:Int):List aE:=(l.take (loS l b+1)).drop (loS l t)
def upL (W:Nat) (l:List aE) (t b n s:Int):List aE:=if loS l b < loS l t then l else l.take (loS l t)++upB (kN n (rgB l t b).length) (rgB l t b) (gO W s)++l.drop (loS l b+1)
def upO (l:List aE) (t b n:Int):List aE:=if loS l b < loS l t then [] else (rgB l t b).take (kN n (rgB l t b).length)
def pW (W:Nat) (l:List aE) (t b n s:Int):List aE:=if loS l b < loS l t then l else l.take (loS l t)++lr (kN n (rgB l t b).length) (rgB l t b) (gO W s)++l.drop (loS l b+1)
def qV (l:List aE) (t b n:Int):List aE:=if loS l b < loS l t then [] else ((rgB l t b).drop ((rgB l t b).length - kN n (rgB l t b).length)).reverse
theorem oG (l:List aE) (t b:Int) (h: ¬ loS l b < loS l t) (h1:1≤l.length):l=l.take (loS l t)++rgB l t b++l.drop (loS l b+1)∧(l.take (loS l t)).length=loS l t∧(rgB l t b).length=loS l b+1 - loS l t:=by
 have hb:=rr l b h1
 unfold rgB
 refine ⟨?_,?_,?_⟩
 ·have:l.take (loS l t)=(l.take (loS l b+1)).take (loS l t):=by rw [List.take_take]; congr 1; omega
  rw [this,List.take_append_drop,List.take_append_drop]
 ·rw [List.length_take]; omega
 ·rw [List.length_drop,List.length_take]; omega
theorem w7 {W:Nat} {l:List aE} (h:GI W l) (t b n s:Int):eZ ⟨W,l⟩ t b n s=some (upO l t b n,⟨W,upL W l t b n s⟩)∧dC ⟨W,l.map told⟩ true t b n s=some (⟨W,(upL W l t b n s).map told⟩,(upO l t b n).map told):=by
 have h1:=h.l1
 have h2:=h.l2
 have hreg:=wc (W:Int) l t b h1 (by omega)
 have hb:=rr l b h1
 by_cases hc:loS l b < loS l t
 ·rw [if_pos hc] at hreg
  unfold upO upL
  rw [if_pos hc,if_pos hc]
  constructor
  ·unfold eZ
   rw [hreg,aA]
  ·unfold dC
   dsimp only
   rw [List.length_map,w64 (x:=(l.length:Int) - 1) (by omega) (by omega),fM,fM,dZ,dZ,nk,nk,decide_eq_true (by omega),cond_true]
   rfl
 ·rw [if_neg hc] at hreg
  obtain ⟨e,ea,eb⟩:=oG l t b hc h1
  have hlo:=nk l t
  have hhi:=nk l b
  unfold upO upL
  rw [if_neg hc,if_neg hc]
  generalize l.take (loS l t)=A at e ea
  generalize rgB l t b=B at e eb
  generalize l.drop (loS l b+1)=C at e
  rw [e] at hlo hhi hreg h2 hc ea eb ⊢
  have e2:((loS (A++B++C) b+1:Nat):Int)=((A.length+B.length:Nat):Int):=by omega
  have e1:((loS (A++B++C) t:Nat):Int)=(A.length:Int):=by omega
  rw [e1,e2] at hreg
  constructor
  ·exact HS W h.w2 A B C t b n s (by omega) (by omega) hreg
  ·have hm:=CR W h.w2 (A.map told) (B.map told) (C.map told) t b n s (by simpa using (by omega:(A++B++C).length≤1000000)) (by simp; omega)
   have el:((A.map told++B.map told++C.map told).length:Int)=((A++B++C).length:Int):=by simp
   rw [el] at hm
   have:=hm (by rw [hlo,List.length_map]; omega) (by rw [hhi,List.length_map,List.length_map]; omega)
   rw [List.map_append,List.map_append,this,List.length_map,List.map_append,List.map_append,Fg,List.map_take]
theorem xZ {W:Nat} {l:List aE} (h:GI W l) (t b n s:Int):dT ⟨W,l⟩ t b n s=some (qV l t b n,⟨W,pW W l t b n s⟩)∧dC ⟨W,l.map told⟩ false t b n s=some (⟨W,(pW W l t b n s).map told⟩,(qV l t b n).map told):=by
 have h1:=h.l1
 have h2:=h.l2
 have hreg:=wc (W:Int) l t b h1 (by omega)
 have hb:=rr l b h1
 by_cases hc:loS l b < loS l t
 ·rw [if_pos hc] at hreg
  unfold qV pW
  rw [if_pos hc,if_pos hc]
  constructor
  ·unfold dT
   rw [hreg,aA]
  ·unfold dC
   dsimp only
   rw [List.length_map,w64 (x:=(l.length:Int) - 1) (by omega) (by omega),fM,fM,dZ,dZ,nk,nk,decide_eq_true (by omega),cond_true]
   rfl
 ·rw [if_neg hc] at hreg
  obtain ⟨e,ea,eb⟩:=oG l t b hc h1
  have hlo:=nk l t
  have hhi:=nk l b
  unfold qV pW
  rw [if_neg hc,if_neg hc]
  generalize l.take (loS l t)=A at e ea
  generalize rgB l t b=B at e eb
  generalize l.drop (loS l b+1)=C at e
  rw [e] at hlo hhi hreg h2 hc ea eb ⊢
  have e2:((loS (A++B++C) b+1:Nat):Int)=((A.length+B.length:Nat):Int):=by omega
  have e1:((loS (A++B++C) t:Nat):Int)=(A.length:Int):=by omega
  rw [e1,e2] at hreg
  constructor
  ·exact Fi W h.w2 A B C t b n s (by omega) (by omega) hreg
  ·have hm:=zt W h.w2 (A.map told) (B.map told) (C.map told) t b n s (by simpa using (by omega:(A++B++C).length≤1000000)) (by simp; omega)
   have el:((A.map told++B.map told++C.map told).length:Int)=((A++B++C).length:Int):=by simp
   rw [el] at hm
   have:=hm (by rw [hlo,List.length_map]; omega) (by rw [hhi,List.length_map,List.length_map]; omega)
   rw [List.map_append,List.map_append,this,List.length_map,List.map_append,List.map_append,Bv,List.map_reverse,List.map_drop]
theorem zu {l:List aE} {t b:Int} {r:aE} (h:r∈rgB l t b):r∈l:=List.mem_of_mem_take (List.mem_of_mem_drop h)
theorem Gi {W:Nat} {l:List aE} (h:GI W l) (t b n s:Int):GI W (upL W l t b n s):=by
 unfold upL
 by_cases hc:loS l b < loS l t
 ·rw [if_pos hc]
  exact h
 ·rw [if_neg hc]
  obtain ⟨e,ea,eb⟩:=oG l t b hc h.l1
  have hlen:(l.take (loS l t)++upB (kN n (rgB l t b).length) (rgB l t b) (gO W s)++l.drop (loS l b+1)).length=l.length:=by
   conv=>rhs; rw [e]
   simp only [List.length_append,uZ]
  refine ⟨h.w1,h.w2,by rw [hlen]; exact h.l1,by rw [hlen]; exact h.l2,?_⟩
  intro r hr
  rw [List.mem_append,List.mem_append] at hr
  rcases hr with (hr | hr) | hr
  ·exact h.rs r (List.mem_of_mem_take hr)
  ·unfold upB at hr
   rw [List.mem_append] at hr
   rcases hr with hr | hr
   ·exact h.rs r (zu (List.mem_of_mem_drop hr))
   ·rw [List.eq_of_mem_replicate hr]
    exact qw _ _
  ·exact h.rs r (List.mem_of_mem_drop hr)
theorem Fj {W:Nat} {l:List aE} (h:GI W l) (t b n s:Int):GI W (pW W l t b n s):=by
 unfold pW
 by_cases hc:loS l b < loS l t
 ·rw [if_pos hc]
  exact h
 ·rw [if_neg hc]
  obtain ⟨e,ea,eb⟩:=oG l t b hc h.l1
  have hlen:(l.take (loS l t)++lr (kN n (rgB l t b).length) (rgB l t b) (gO W s)++l.drop (loS l b+1)).length=l.length:=by
   conv=>rhs; rw [e]
   simp only [List.length_append,rZ]
  refine ⟨h.w1,h.w2,by rw [hlen]; exact h.l1,by rw [hlen]; exact h.l2,?_⟩
  intro r hr
  rw [List.mem_append,List.mem_append] at hr
  rcases hr with (hr | hr) | hr
  ·exact h.rs r (List.mem_of_mem_take hr)
  ·unfold lr at hr
   rw [List.mem_append] at hr
   rcases hr with hr | hr
   ·rw [List.eq_of_mem_replicate hr]
    exact qw _ _
   ·exact h.rs r (zu (List.mem_of_mem_take hr))
  ·exact h.rs r (List.mem_of_mem_drop hr)
theorem Fk {l:List aE} {t b n:Int} {r:aE} (h:r∈upO l t b n):r∈l:=by
 unfold upO at h
 split at h
 ·cases h
 ·exact zu (List.mem_of_mem_take h)
theorem Fl (l:List aE) (t b n:Int):(upO l t b n).length≤l.length:=by
 unfold upO
 split
 ·exact Nat.zero_le _
 ·unfold rgB
  rw [List.length_take,List.length_drop,List.length_take]
  omega
def rzL (W:Nat) (l:List aE) (c H:Nat):List aE:=((l.drop c).take H++List.replicate (H - (l.length - c)) (gO W 0)).map (rsz W)
theorem kL (W:Nat) (l:List aE) (c H:Nat):(rzL W l c H).length=H:=by
 unfold rzL
 simp
 omega
theorem Bx (W:Nat):rsz W (gO W 0)=gO W 0:=G1 (by simp [gO])
theorem zv (w0:Int) (l:List aE) (w h off:Int) (h1:1≤l.length) (h2:l.length≤1000000) (hr: ∀ r∈l,r.cells.length≤1000000):iQ ⟨w0,l⟩ w h off=some (l.take (loS l off),⟨(szN w:Int),rzL (szN w) l (loS l off) (szN h)⟩):=by
 unfold iQ
 dsimp only
 have hw:=kt w
 have hh:=kt h
 rw [w64 (x:=(l.length:Int) - 1) (by omega) (by omega),pU,aA,nk]
 have hc:=rr l off h1
 unfold rzL
 generalize loS l off=c at hc
 have c1:cut l (c:Int) (l.length:Int)=l.drop c:=by rw [n8,List.take_length]
 have hm:dQ ((l.drop c).length:Int) (szN h:Int)=((min (l.drop c).length (szN h):Nat):Int):=by rw [dZ]; omega
 have c2:cut (l.drop c) 0 ((min (l.drop c).length (szN h):Nat):Int)=(l.drop c).take (szN h):=by
  rw [oD,← List.take_take]
  exact List.take_of_length_le (by rw [List.length_take]; omega)
 rw [bV (by omega) (by omega) (by omega),aA,oD,qy _ (by rw [List.length_take]; omega),aA,bV (by omega) (by omega) (by omega),aA,c1,qy _ (by rw [List.length_drop]; omega),aA,pV,aA,hm,bV (by omega) (by omega) (by omega),aA,c2]
 refine eP (fun i=>(l.drop c).take (szN h)++List.replicate i (gO (szN w) 0)) (szN h - (l.length - c)) ((l.drop c).take (szN h)++List.replicate (szN h - (l.length - c)) (gO (szN w) 0)) ?_ ?_ ?_ ?_
 ·simp
 ·intro i hi
  try dsimp only
  rw [aA,decide_eq_true (by simp; omega),cond_true,pV w,aA,wX _ _ hw,aA,bH (by simp; omega),aA,List.append_assoc,← List.replicate_succ']
 ·try dsimp only
  rw [aA,decide_eq_false (by simp; omega),cond_false]
 ·rw [pV,aA]
  have hL: ∀ r∈(l.drop c).take (szN h)++List.replicate (szN h - (l.length - c)) (gO (szN w) 0),r.cells.length≤1000000:=by
   intro r hrr
   rcases List.mem_append.1 hrr with hrr | hrr
   ·exact hr r (List.mem_of_mem_drop (List.mem_of_mem_take hrr))
   ·rw [List.eq_of_mem_replicate hrr]
    simp [gO]
    omega
  have hLl:((l.drop c).take (szN h)++List.replicate (szN h - (l.length - c)) (gO (szN w) 0)).length=szN h:=by
   simp
   omega
  generalize (l.drop c).take (szN h)++List.replicate (szN h - (l.length - c)) (gO (szN w) 0)=L at hL hLl
  refine eP (fun i=>((⟨(szN w:Int),(L.take i).map (rsz (szN w))++L.drop i⟩:aX),(i:Int))) L.length (⟨(szN w:Int),L.map (rsz (szN w))⟩:aX) ?_ ?_ ?_ rfl
  ·simp
  ·intro i hi
   dsimp only
   have hd:(L.take i).map (rsz (szN w))++L.drop i=(L.take i).map (rsz (szN w))++L[i]::L.drop (i+1):=by rw [List.drop_eq_getElem_cons hi]
   have hlen:(L.take i).length=i:=by rw [List.length_take]; omega
   rw [decide_eq_true (by omega),cond_true,hd,mc (by simp; omega),aA,CM _ hw _ _ _ (hL _ (List.getElem_mem hi)),aA,w64 (by omega) (by omega)]
   dsimp only
   unfold qK
   rw [if_pos (by simp; omega),Int.toNat_natCast,nR (by simp; omega),List.take_succ_eq_append_getElem hi,List.map_append,List.append_assoc]
   rfl
  ·dsimp only
   rw [decide_eq_false (by omega),cond_false]
   simp
theorem x4 (w0:Int) (l:List aE) (w h off:Int) (h1:1≤l.length) (h2:l.length≤1000000) (hr: ∀ r∈l,r.cells.length≤1000000):kF ⟨w0,l.map told⟩ w h off=some (⟨(szN w:Int),(rzL (szN w) l (loS l off) (szN h)).map told⟩,(l.take (loS l off)).map told):=by
 unfold kF
 dsimp only
 have hw:=kt w
 have hh:=kt h
 rw [List.length_map,w64 (x:=(l.length:Int) - 1) (by omega) (by omega),fM,dZ,nk]
 have hc:=rr l off h1
 generalize loS l off=c at hc
 rw [oF,aA]
 refine eP (fun i=>((⟨(szN w:Int),((rzL (szN w) l c (szN h)).take i).map told⟩:cH),(i:Int))) (szN h) (⟨(szN w:Int),(rzL (szN w) l c (szN h)).map told⟩:cH) rfl ?_ ?_ ?_
 ·intro i hi
  dsimp only
  have hrl:=kL (szN w) l c (szN h)
  have hil:i < (rzL (szN w) l c (szN h)).length:=by omega
  rw [oF,aA,decide_eq_true (by omega),cond_true,w64 (x:=(c:Int)+(i:Int)) (by omega) (by omega),w64 (x:=(i:Int)+1) (by omega) (by omega),List.take_succ_eq_append_getElem hil,List.map_append]
  by_cases hci:c+i < l.length
  ·have hg:(rzL (szN w) l c (szN h))[i]=rsz (szN w) l[c+i]:=by
    simp only [rzL,List.getElem_map]
    rw [List.getElem_append_left (by simp; omega)]
    simp
   rw [decide_eq_true (by omega),cond_true,show (c:Int)+(i:Int)=((c+i:Nat):Int) by omega,cK _ _ (by simpa using hci),aA,List.getElem_map,Aj _ hw _ (hr _ (List.getElem_mem hci)),aA,bH (by simp; omega),aA,aA,hg]
   rfl
  ·have hg:(rzL (szN w) l c (szN h))[i]=gO (szN w) 0:=by
    simp only [rzL,List.getElem_map]
    rw [List.getElem_append_right (by simp; omega)]
    simp [Bx]
   rw [decide_eq_false (by omega),cond_false,uk _ _ hw,aA,bH (by simp; omega),aA,aA,hg]
   rfl
 ·dsimp only
  rw [oF,aA,decide_eq_false (by omega),cond_false,List.take_of_length_le (by rw [kL]; omega)]
 ·rw [bV (by omega) (by omega) (by omega),aA,oD,List.map_take]
theorem HT {W:Nat} {l:List aE} (hl: ∀ r∈l,okR r.cells) (W':Nat) (c H:Nat) (h1:1≤W') (h2:W'≤1000) (h3:1≤H) (h4:H≤1000):GI W' (rzL W' l c H):=by
 refine ⟨h1,h2,by rw [kL]; exact h3,by rw [kL]; exact h4,?_⟩
 intro r hr
 unfold rzL at hr
 obtain ⟨q,hq,rfl⟩:=List.mem_map.1 hr
 refine Ak _ _ ?_
 rcases List.mem_append.1 hq with hq | hq
 ·exact hl q (List.mem_of_mem_drop (List.mem_of_mem_take hq))
 ·rw [List.eq_of_mem_replicate hq]
  exact (qw _ _).2
end Go.Tw.X
set_option linter.unusedVariables false
set_option linter.unusedSimpArgs false
namespace Go.Tw.X
open Go Go.Tw
def CS (e:Int):List Int:=if e < 128 then [e] else if e < 2048 then [192+e / 64,128+e % 64] else if e < 65536 then [224+e / 4096,128+e / 64 % 64,128+e % 64] else [240+e / 262144,128+e / 4096 % 64,128+e / 64 % 64,128+e % 64]
def vL (r:Int):Int:=if r < 0∨r > 1114111∨(r≥55296∧r≤57343) then 65533 else r
def ry (r:Int):List Int:=CS (vL r)
theorem Am (r:Int):0≤vL r∧vL r≤1114111:=by unfold vL; split <;> omega
theorem HU (r:Int):((bif (decide (r < 0)) then some true else (bif (decide (r > 1114111)) then some true else (bif (decide (r≥55296)) then some (decide (r≤57343)) else some false))):Option Bool)=some (decide (r < 0∨r > 1114111∨(r≥55296∧r≤57343))):=by
 rw [vK]
 by_cases a:r < 0
 ·simp [a]
 ·by_cases b:r > 1114111
  ·simp [a,b]
  ·simp [a,b]
theorem An (r:Int):((bif (decide (r < 0∨r > 1114111∨(r≥55296∧r≤57343))) then some 65533 else some r):Option Int)=some (vL r):=by
 unfold vL
 by_cases h:r < 0∨r > 1114111∨(r≥55296∧r≤57343)
 ·rw [if_pos h,decide_eq_true h,cond_true]
 ·rw [if_neg h,decide_eq_false h,cond_false]
theorem x6 (e:Int):(CS e).length≤4:=by
 unfold CS
 split
 ·simp
 ·split
  ·simp
  ·split <;> simp
theorem m63 (x:Int) (h0:0≤x) (h1:x < 2147483648):Go.bits .and .i32 x 63=x % 64:=by
 have h:=bits_mask .i32 31 (by decide) wraps_i32 6 (by decide) x h0 (by omega)
 have e:((2:Int) ^ 6 - 1)=63:=by decide
 have e2:((2:Int) ^ 6)=64:=by decide
 rw [e,e2] at h
 exact h
theorem G3 (y:Int) (h0:0≤y) (h1:y < 64):Go.bits .or .i32 128 y=128+y:=bits_join .i32 31 (by decide) wraps_i32 6 128 y (by decide) (by decide) (by decide) h0 (by omega) (by omega)
theorem I3 (y:Int) (h0:0≤y) (h1:y < 32):Go.bits .or .i32 192 y=192+y:=bits_join .i32 31 (by decide) wraps_i32 5 192 y (by decide) (by decide) (by decide) h0 (by omega) (by omega)
theorem I4 (y:Int) (h0:0≤y) (h1:y < 16):Go.bits .or .i32 224 y=224+y:=bits_join .i32 31 (by decide) wraps_i32 4 224 y (by decide) (by decide) (by decide) h0 (by omega) (by omega)
theorem I5 (y:Int) (h0:0≤y) (h1:y < 8):Go.bits .or .i32 240 y=240+y:=bits_join .i32 31 (by decide) wraps_i32 3 240 y (by decide) (by decide) (by decide) h0 (by omega) (by omega)
theorem sh6 (e:Int):e.fdiv (2 ^ (min 6 32))=e / 64:=by rw [Int.fdiv_eq_ediv_of_nonneg _ (by decide)]; rfl
theorem I6 (e:Int):e.fdiv (2 ^ (min 12 32))=e / 4096:=by rw [Int.fdiv_eq_ediv_of_nonneg _ (by decide)]; rfl
theorem I7 (e:Int):e.fdiv (2 ^ (min 18 32))=e / 262144:=by rw [Int.fdiv_eq_ediv_of_nonneg _ (by decide)]; rfl
theorem pX {x:Int} (h0:0≤x) (h1:x < 256):IntKind.u8.wrap x=x:=by rw [IntKind.wrap_u8]; omega
theorem Fm (r:Int):kD r=some (iP (ry r)):=by
 unfold kD ry
 rw [HU,aA,An,aA]
 obtain ⟨h0,h1⟩:=Am r
 generalize vL r=e at h0 h1
 have d1:e.tdiv 64=e / 64:=Int.tdiv_eq_ediv_of_nonneg h0
 have d2:e.tdiv 4096=e / 4096:=Int.tdiv_eq_ediv_of_nonneg h0
 have d3:e.tdiv 262144=e / 262144:=Int.tdiv_eq_ediv_of_nonneg h0
 have m1:e.tmod 64=e % 64:=Int.tmod_eq_emod_of_nonneg h0
 have m2:(e / 64).tmod 64=e / 64 % 64:=Int.tmod_eq_emod_of_nonneg (by omega)
 have m3:(e / 4096).tmod 64=e / 4096 % 64:=Int.tmod_eq_emod_of_nonneg (by omega)
 have w1:IntKind.i64.wrap (e / 64)=e / 64:=w64 (by omega) (by omega)
 have w2:IntKind.i64.wrap (e / 4096)=e / 4096:=w64 (by omega) (by omega)
 have w3:IntKind.i64.wrap (e / 262144)=e / 262144:=w64 (by omega) (by omega)
 rw [d1,d2,d3,w1,w2,w3,m1,m2,m3]
 unfold CS
 by_cases c1:e < 128
 ·rw [decide_eq_true c1,cond_true,if_pos c1,pX h0 (by omega)]
 ·rw [decide_eq_false c1,cond_false,if_neg c1]
  rw [w64 (x:=128+e % 64) (by omega) (by omega),pX (x:=128+e % 64) (by omega) (by omega)]
  by_cases c2:e < 2048
  ·rw [decide_eq_true c2,cond_true,if_pos c2,w64 (by omega) (by omega),pX (by omega) (by omega)]
  ·rw [decide_eq_false c2,cond_false,if_neg c2]
   rw [w64 (x:=128+e / 64 % 64) (by omega) (by omega),pX (x:=128+e / 64 % 64) (by omega) (by omega)]
   by_cases c3:e < 65536
   ·rw [decide_eq_true c3,cond_true,if_pos c3,w64 (by omega) (by omega),pX (by omega) (by omega)]
   ·rw [decide_eq_false c3,cond_false,if_neg c3]
    rw [w64 (x:=128+e / 4096 % 64) (by omega) (by omega),pX (x:=128+e / 4096 % 64) (by omega) (by omega),w64 (by omega) (by omega),pX (by omega) (by omega)]
theorem we (l:List Int):(l.flatMap ry).length≤4*l.length:=by
 induction l with
 | nil=>simp
 | cons a l ih =>
  rw [List.flatMap_cons,List.length_append,List.length_cons]
  have:=x6 (vL a)
  unfold ry at *
  omega
theorem Fo (l:List Int) (h:l.length≤1000000):kA l=some (iP (l.flatMap ry)):=by
 unfold kA
 refine eP (fun i=>((l.take i).flatMap ry,(i:Int))) l.length (l.flatMap ry) rfl ?_ ?_ rfl
 ·intro i hi
  dsimp only
  have hfl:=we (l.take i)
  have htl:(l.take i).length=i:=by rw [List.length_take]; omega
  rw [decide_eq_true (by omega),cond_true,cK l i hi,aA,HU,aA,An,aA,List.take_succ_eq_append_getElem hi,List.flatMap_append,List.flatMap_singleton,w64 (by omega) (by omega)]
  generalize (l.take i).flatMap ry=D at hfl
  unfold ry
  obtain ⟨h0,h1⟩:=Am l[i]
  generalize vL l[i]=e at h0 h1
  rw [sh6,I6,I7,m63 e h0 (by omega),m63 (e / 64) (by omega) (by omega),m63 (e / 4096) (by omega) (by omega),G3 (e % 64) (by omega) (by omega),G3 (e / 64 % 64) (by omega) (by omega),G3 (e / 4096 % 64) (by omega) (by omega)]
  rw [pX (x:=128+e % 64) (by omega) (by omega),pX (x:=128+e / 64 % 64) (by omega) (by omega),pX (x:=128+e / 4096 % 64) (by omega) (by omega)]
  unfold CS
  by_cases c1:e < 128
  ·rw [decide_eq_true c1,cond_true,if_pos c1,pX h0 (by omega),bH (by simp; omega),aA]
   rfl
  ·rw [decide_eq_false c1,cond_false,if_neg c1]
   by_cases c2:e < 2048
   ·rw [decide_eq_true c2,cond_true,if_pos c2,I3 _ (by omega) (by omega),pX (by omega) (by omega),bH (by simp; omega),aA]
    rfl
   ·rw [decide_eq_false c2,cond_false,if_neg c2]
    by_cases c3:e < 65536
    ·rw [decide_eq_true c3,cond_true,if_pos c3,I4 _ (by omega) (by omega),pX (by omega) (by omega),bH (by simp; omega),aA]
     rfl
    ·rw [decide_eq_false c3,cond_false,if_neg c3,I5 _ (by omega) (by omega),pX (by omega) (by omega),bH (by simp; omega),aA]
     rfl
 ·dsimp only
  rw [decide_eq_false (by omega),cond_false,List.take_length]
theorem foldl_push (xs:List Int): ∀ l:List UInt8,xs.foldl (fun r n=>r.push (UInt8.ofNat n.toNat)) (ByteArray.mk l.toArray)=ByteArray.mk (l++xs.map (fun n=>UInt8.ofNat n.toNat)).toArray:=by
 induction xs with
 | nil=>intro l; simp
 | cons a xs ih =>
  intro l
  rw [List.foldl_cons]
  have:(ByteArray.mk l.toArray).push (UInt8.ofNat a.toNat)=ByteArray.mk (l++[UInt8.ofNat a.toNat]).toArray:=by
   show ByteArray.mk (l.toArray.push _)=_
   rw [List.push_toArray]
  rw [this,ih]
  simp
theorem ph (xs:List Int):iP xs=ByteArray.mk (xs.map (fun n=>UInt8.ofNat n.toNat)).toArray:=foldl_push xs []
theorem pY (a b:List Int):iP (a++b)=iP a++iP b:=by
 rw [ph,ph,ph,ByteArray.mk_append_mk,List.map_append]
theorem kp (a:List Int):(iP a).size=a.length:=by
 rw [ph]
 simp [ByteArray.size]
theorem u0 (r:aE) (h:r.cells.length≤1000000):jP (told r)=some ((kh r).map fun g=>⟨g.rune,g.aM⟩):=by
 unfold jP told
 dsimp only
 rw [iT]
 have k1: ∀ (n:Nat),n≤r.cells.length → ∃ m:Nat,m≤r.cells.length∧r.cells.take m=(if r.wrapped then r.cells.take n else mZ n (r.cells.take n))∧iter (σ:=Int) (ρ:=Int) (fun a=>(Option.bind ((bif (decide (a > 0)) then (bif (!r.wrapped) then (Option.bind (idx (r.cells.map tc) (IntKind.i64.wrap (a - 1))) fun b=>some ((b.rune == 32) && ((b.aM == 0) && ((b.part == 0) && true)))) else some false) else some false):Option Bool) fun c=>(bif c then some (.inl (IntKind.i64.wrap (a - 1))) else some (.inr a)))) (n:Int)=some (m:Int):=by
  intro n
  induction n with
  | zero =>
   intro _
   refine ⟨0,by omega,by simp [mZ],?_⟩
   exact dS (by simp)
  | succ n ih =>
   intro hn
   cases hw:r.wrapped with
   | true =>
    refine ⟨n+1,hn,by simp,?_⟩
    exact dS (by simp)
   | false =>
    have hp:decide (((n+1:Nat):Int) > 0)=true:=decide_eq_true (by omega)
    have ew:IntKind.i64.wrap (((n+1:Nat):Int) - 1)=(n:Int):=by rw [w64 (by omega) (by omega)]; omega
    have hlt:n < r.cells.length:=by omega
    have hlast:(r.cells.take (n+1)).getLast?=some r.cells[n]:=by
     rw [List.take_succ_eq_append_getElem hlt,List.getLast?_concat]
    have hidx:idx (r.cells.map tc) (n:Int)=some (tc r.cells[n]):=by rw [cK _ _ (by simpa using hlt),List.getElem_map]
    have hcmp:(((tc r.cells[n]).rune == 32) && (((tc r.cells[n]).aM == 0) && (((tc r.cells[n]).part == 0) && true)))=decide (r.cells[n]=blk 0):=by
     show ((r.cells[n].rune == 32) && ((r.cells[n].aM == 0) && ((r.cells[n].part == 0) && true)))=_
     exact uU r.cells[n] (blk 0)
    unfold mZ
    rw [hlast]
    by_cases hb:r.cells[n]=blk 0
    ·obtain ⟨m,hm,ht,hi⟩:=ih (by omega)
     refine ⟨m,hm,?_,?_⟩
     ·rw [ht,hw,hb]
      simp only [Bool.false_eq_true,if_false,if_true]
      congr 1
      rw [List.take_succ_eq_append_getElem hlt,List.dropLast_concat]
     ·rw [fT (s':=(n:Int))]
      ·rw [hw] at hi
       exact hi
      ·simp only [hp,Bool.not_false,cond_true,ew,hidx,aA,hcmp,decide_eq_true hb]
    ·refine ⟨n+1,hn,?_,?_⟩
     ·rw [if_neg (by simp),if_neg (by simpa using hb)]
     ·exact dS (by simp only [hp,Bool.not_false,cond_true,ew,hidx,aA,hcmp,decide_eq_false hb,cond_false])
 obtain ⟨m,hm,ht,hi⟩:=k1 r.cells.length (Nat.le_refl _)
 rw [List.take_length] at ht
 rw [hi,aA,bV (by omega) (by omega) (by omega),aA,oD,← List.map_take,ht]
 have hE:(if r.wrapped then r.cells else mZ r.cells.length r.cells).length≤1000000:=by
  split
  ·exact h
  ·exact Nat.le_trans (nA _ _) h
 unfold kh CE
 generalize (if r.wrapped then r.cells else mZ r.cells.length r.cells)=L at hE
 refine eP (fun i=>((i:Int),(pg (L.take i)).map fun g=>(⟨g.rune,g.aM⟩:bW))) L.length ((pg L).map fun g=>(⟨g.rune,g.aM⟩:bW)) rfl ?_ ?_ rfl
 ·intro i hil
  dsimp only
  have hgl:=pT (L.take i)
  rw [List.length_take] at hgl
  rw [List.length_map,decide_eq_true (by omega),cond_true,cK _ _ (by simpa using hil),aA,List.getElem_map,List.take_succ_eq_append_getElem hil]
  have ho:((bif ((tc L[i]).part == 0) then some true else some ((tc L[i]).part == 1)):Option Bool)=some (isG L[i]):=by
   show ((bif (L[i].part == 0) then some true else some (L[i].part == 1)):Option Bool)=some (L[i].part == 0 || L[i].part == 1)
   cases (L[i].part == 0) <;> rfl
  rw [ho,aA,w64 (by omega) (by omega)]
  unfold pg
  rw [List.filter_append,List.map_append,List.map_append]
  cases hg:isG L[i] with
  | true =>
   unfold pg at hgl
   rw [cond_true,bH (by simp at hgl ⊢; omega),aA,aA]
   simp [hg,tc]
  | false =>
   rw [cond_false,aA]
   simp [hg]
 ·dsimp only
  rw [List.length_map,decide_eq_false (by omega),cond_false,List.take_length]
def x7 (r:aE):ByteArray:=iP ((kh r).flatMap fun g=>ry g.rune)
theorem pZ (r:aE):(kh r).length≤r.cells.length:=by
 unfold kh CE
 refine Nat.le_trans (pT _) ?_
 split
 ·exact Nat.le_refl _
 ·exact nA _ _
theorem By (l:List aH):(l.flatMap fun g=>ry g.rune).length≤4*l.length:=by
 have:=we (l.map (·.rune))
 rw [List.flatMap_map,List.length_map] at this
 exact this
theorem nI {n m:Nat} (h:n+m≤4611686018427387904):chk (vI n m)=some ():=lX h
theorem CU (r:aE) (h:r.cells.length≤1000000):l5 (told r)=some (x7 r):=by
 unfold l5 x7
 have hg:=pZ r
 rw [u0 r h,aA]
 generalize kh r=L at hg
 refine eP (fun i=>(iP ((L.take i).flatMap fun g=>ry g.rune),(i:Int))) L.length (iP (L.flatMap fun g=>ry g.rune)) ?_ ?_ ?_ ?_
 ·rw [List.take_zero,List.flatMap_nil,ph]
  rfl
 ·intro i hi
  dsimp only
  have h4:=By (L.take i)
  have h5:=x6 (vL L[i].rune)
  rw [List.length_take] at h4
  rw [List.length_map,decide_eq_true (by omega),cond_true,cK _ _ (by simpa using hi),aA,List.getElem_map]
  dsimp only
  rw [Fm,aA]
  have h6:(ry L[i].rune).length≤4:=h5
  rw [nI (by rw [kp,kp]; omega),aA,w64 (by omega) (by omega),List.take_succ_eq_append_getElem hi,List.flatMap_append,List.flatMap_singleton,pY]
  have ec:((i:Int)+1)=((i+1:Nat):Int):=by omega
  rw [ec]
 ·dsimp only
  rw [List.length_map,decide_eq_false (by omega),cond_false,List.take_length]
 ·rfl
theorem CV (w:Int) (l:List aE) (hl:l.length≤1000000) (h: ∀ r∈l,r.cells.length≤1000000):jL ⟨w,l⟩=some (l.map x7):=by
 unfold jL
 dsimp only
 refine eP (fun i=>((i:Int),(l.take i).map x7)) l.length (l.map x7) rfl ?_ ?_ rfl
 ·intro i hi
  dsimp only
  have hr:=h _ (List.getElem_mem hi)
  have hg:=pZ l[i]
  rw [decide_eq_true (by omega),cond_true,cK l i hi,aA,v9 _ hr,aA]
  rw [show (some (Sum.inl (((i+1:Nat):Int),(l.take (i+1)).map x7)):Option ((Int×List ByteArray) ⊕ List ByteArray))=some (Sum.inl (((i+1:Nat):Int),(l.take i).map x7++[iP (((kh l[i]).map (·.rune)).flatMap ry)])) by
   rw [List.take_succ_eq_append_getElem hi,List.map_append,List.flatMap_map]; rfl]
  generalize kh l[i]=L at hg
  refine eP (fun j=>((j:Int),(L.take j).map (·.rune))) L.length (L.map (·.rune)) rfl ?_ ?_ ?_
  ·intro j hj
   dsimp only
   rw [decide_eq_true (by omega),cond_true,cK L j hj,aA,bH (by simp; omega),aA,w64 (by omega) (by omega),List.take_succ_eq_append_getElem hj,List.map_append]
   rfl
  ·dsimp only
   rw [decide_eq_false (by omega),cond_false,List.take_length]
  ·rw [Fo _ (by rw [List.length_map]; omega),aA,bH (by simp; omega),aA,w64 (by omega) (by omega)]
   rfl
 ·dsimp only
  rw [decide_eq_false (by omega),cond_false,List.take_length]
end Go.Tw.X
set_option linter.unusedVariables false
set_option linter.unusedSimpArgs false
namespace Go.Tw.X
open Go Go.Tw
def oH (n:Nat):List Int:=if n < 128 then [(n:Int)] else ((128+n % 128:Nat):Int)::oH (n / 128)
termination_by n
decreasing_by omega
def clN (n:Int):Nat:=(max 0 (min n 4611686018427387904)).toNat
theorem CW (n:Int):imax 0 (dQ n 4611686018427387904)=(clN n:Int):=by rw [fM,dZ]; unfold clN; omega
theorem zw (n:Int):clN n≤4611686018427387904:=by unfold clN; omega
def oI (n:Int):List Int:=oH (clN n)
theorem jC {n:Nat} (h:n < 128):oH n=[(n:Int)]:=by rw [oH,if_pos h]
theorem p3 {n:Nat} (h: ¬ n < 128):oH n=((128+n % 128:Nat):Int)::oH (n / 128):=by rw [oH,if_neg h]
theorem u2: ∀ (k n:Nat),n < 128 ^ (k+1)→(oH n).length≤k+1:=by
 intro k
 induction k with
 | zero =>
  intro n h
  rw [jC (by omega)]
  simp
 | succ k ih =>
  intro n h
  by_cases hn:n < 128
  ·rw [jC hn]
   simp
  ·rw [p3 hn,List.length_cons]
   have:n / 128 < 128 ^ (k+1):=by
    rw [Nat.pow_succ] at h
    exact Nat.div_lt_of_lt_mul (by rw [Nat.mul_comm]; exact h)
   have:=ih _ this
   omega
theorem m4 (n:Int):(oI n).length≤9:=u2 8 _ (by have:=zw n; omega)
theorem G4 (x:Int) (h0:0≤x) (h1:x < 256):Go.bits .and .u8 x 127=x % 128:=by
 have h:=bits_mask .u8 8 (by decide) wraps_u8 7 (by decide) x h0 (by omega)
 have e:((2:Int) ^ 7 - 1)=127:=by decide
 have e2:((2:Int) ^ 7)=128:=by decide
 rw [e,e2] at h
 exact h
theorem or_comm (k:IntKind) (x y:Int):Go.bits .or k x y=Go.bits .or k y x:=by
 show k.wrap ((BitVec.ofInt k.bits x ||| BitVec.ofInt k.bits y).toNat:Int)=k.wrap ((BitVec.ofInt k.bits y ||| BitVec.ofInt k.bits x).toNat:Int)
 rw [BitVec.or_comm]
theorem Fp (y:Int) (h0:0≤y) (h1:y < 128):Go.bits .or .u8 y 128=128+y:=by
 rw [or_comm]
 exact bits_join .u8 8 (by decide) wraps_u8 7 128 y (by decide) (by decide) (by decide) h0 (by omega) (by omega)
theorem HV (n:Nat):(n:Int).fdiv (2 ^ (min 7 64))=((n / 128:Nat):Int):=by
 rw [Int.fdiv_eq_ediv_of_nonneg _ (by decide)]
 show (n:Int) / 128=_
 omega
theorem Bz (b:List Int) (x:Int) (hb:b.length≤100000000): ∃ e,kz (fun (s661:fP) (x619:Int)=>(Option.bind (chk (dB s661.b.length [x619].length 1)) fun _=>some ((fP.mk (s661.b++[x619])),true))) (⟨b⟩:fP) x=some ((⟨b++oI x⟩:fP),e):=by
 unfold kz pb
 rw [CW,aA]
 unfold oI
 have hle:=zw x
 generalize clN x=n at hle
 have key: ∀ (k n:Nat) (b:List Int),n < 128 ^ (k+1)→b.length+(k+1)≤100000010 → ∃ e,iter (σ:=Int×fP) (ρ:=(Int×fP) ⊕ (fP×Int)) (fun a=>(bif (decide (a.1≥128)) then (Option.bind ((fun (s661:fP) (x619:Int)=>(Option.bind (chk (dB s661.b.length [x619].length 1)) fun _=>some ((fP.mk (s661.b++[x619])),true))) a.2 (Go.bits .or .u8 (Go.bits .and .u8 (IntKind.u8.wrap a.1) 127) 128)) fun z68=>(bif (!z68.2) then (nj (some (z68.1,a.1))) else some (.inl ((a.1.fdiv (2 ^ (min 7 64))),z68.1)))) else some (.inr (.inl (a.1,a.2))))) ((n:Int),(⟨b⟩:fP))=some (.inl ((e:Int),(⟨b++(oH n).dropLast⟩:fP)))∧0≤e∧e < 128∧oH n=(oH n).dropLast++[e]:=by
  intro k
  induction k with
  | zero =>
   intro n b h hb
   refine ⟨n,?_,by omega,by omega,?_⟩
   ·rw [jC (by omega)]
    refine dS ?_
    dsimp only
    rw [decide_eq_false (by omega),cond_false]
    simp
   ·rw [jC (by omega)]
    rfl
  | succ k ih =>
   intro n b h hb
   by_cases hn:n < 128
   ·refine ⟨n,?_,by omega,by omega,?_⟩
    ·rw [jC hn]
     refine dS ?_
     dsimp only
     rw [decide_eq_false (by omega),cond_false]
     simp
    ·rw [jC hn]
     rfl
   ·have hlt:n / 128 < 128 ^ (k+1):=by
     rw [Nat.pow_succ] at h
     exact Nat.div_lt_of_lt_mul (by rw [Nat.mul_comm]; exact h)
    obtain ⟨e,h1,h2,h3,h4⟩:=ih (n / 128) (b++[((128+n % 128:Nat):Int)]) hlt (by simp; omega)
    refine ⟨e,?_,h2,h3,?_⟩
    ·rw [fT (s':=(((n / 128:Nat):Int),(⟨b++[((128+n % 128:Nat):Int)]⟩:fP)))]
     ·rw [h1,p3 hn]
      have hne:oH (n / 128)≠[]:=by rw [h4]; simp
      rw [List.dropLast_cons_of_ne_nil hne]
      simp
     ·dsimp only
      have hw:IntKind.u8.wrap (n:Int)=((n % 256:Nat):Int):=by rw [IntKind.wrap_u8]; omega
      have hv:Go.bits .or .u8 (Go.bits .and .u8 (IntKind.u8.wrap (n:Int)) 127) 128=((128+n % 128:Nat):Int):=by
       rw [hw,G4 _ (by omega) (by omega),Fp _ (by omega) (by omega)]
       omega
      rw [decide_eq_true (by omega),cond_true,hv,bH (by simp; omega),aA,aA]
      dsimp only
      rw [Bool.not_true,cond_false,HV]
    ·rw [p3 hn]
     have hne:oH (n / 128)≠[]:=by rw [h4]; simp
     rw [List.dropLast_cons_of_ne_nil hne,List.cons_append,← h4]
 obtain ⟨e,h1,h2,h3,h4⟩:=key 8 n b (by omega) (by omega)
 have hl:=u2 8 n (by omega)
 have hd:(oH n).dropLast.length≤9:=by rw [List.length_dropLast]; omega
 refine ⟨e,?_⟩
 rw [h1,aA]
 dsimp only
 have hu:IntKind.u8.wrap e=e:=by rw [IntKind.wrap_u8]; omega
 rw [hu,bH (by simp only [List.length_append,List.length_singleton]; omega),aA,aA,List.append_assoc,← h4]
theorem Ao (b:List Int) (l:List Int) (hb:b.length+9*l.length≤10000000):kj ⟨b⟩ l=some ⟨b++l.flatMap oI⟩:=by
 unfold kj nv
 have hfl: ∀ l:List Int,(l.flatMap oI).length≤9*l.length:=by
  intro l
  induction l with
  | nil=>simp
  | cons a l ih =>
   rw [List.flatMap_cons,List.length_append,List.length_cons]
   have:=m4 a
   omega
 refine eP (fun i=>((⟨b++(l.take i).flatMap oI⟩:fP),(i:Int))) l.length (⟨b++l.flatMap oI⟩:fP) ?_ ?_ ?_ rfl
 ·simp
 ·intro i hi
  dsimp only
  have h4:=hfl (l.take i)
  rw [List.length_take] at h4
  obtain ⟨e,he⟩:=Bz (b++(l.take i).flatMap oI) l[i] (by rw [List.length_append]; omega)
  rw [decide_eq_true (by omega),cond_true,cK l i hi,aA,aA,he,aA,w64 (by omega) (by omega),List.take_succ_eq_append_getElem hi,List.flatMap_append,List.flatMap_singleton,List.append_assoc]
  rfl
 ·dsimp only
  rw [decide_eq_false (by omega),cond_false,List.take_length]
theorem w9 (x:Int):ju x=some (iP (oI x)):=by
 unfold ju
 rw [CW]
 unfold oI
 have hle:=zw x
 generalize clN x=n at hle
 have key: ∀ (k n:Nat) (b:List Int),n < 128 ^ (k+1)→n≤4611686018427387904→b.length+(k+1)≤1000 → ∃ e,iter (σ:=Int×(List Int)) (ρ:=Int×(List Int)) (fun a=>(bif (decide (a.1≥128)) then (Option.bind (chk (dB a.2.length [(IntKind.u8.wrap (IntKind.i64.wrap (128+(a.1.tmod 128))))].length 1)) fun _=>some (.inl ((IntKind.i64.wrap (a.1.tdiv 128)),(a.2++[(IntKind.u8.wrap (IntKind.i64.wrap (128+(a.1.tmod 128))))])))) else some (.inr (a.1,a.2)))) ((n:Int),b)=some ((e:Int),b++(oH n).dropLast)∧0≤e∧e < 128∧oH n=(oH n).dropLast++[e]:=by
  intro k
  induction k with
  | zero =>
   intro n b h hmx hb
   refine ⟨n,?_,by omega,by omega,?_⟩
   ·rw [jC (by omega)]
    refine dS ?_
    dsimp only
    rw [decide_eq_false (by omega),cond_false]
    simp
   ·rw [jC (by omega)]
    rfl
  | succ k ih =>
   intro n b h hmx hb
   by_cases hn:n < 128
   ·refine ⟨n,?_,by omega,by omega,?_⟩
    ·rw [jC hn]
     refine dS ?_
     dsimp only
     rw [decide_eq_false (by omega),cond_false]
     simp
    ·rw [jC hn]
     rfl
   ·have hlt:n / 128 < 128 ^ (k+1):=by
     rw [Nat.pow_succ] at h
     exact Nat.div_lt_of_lt_mul (by rw [Nat.mul_comm]; exact h)
    obtain ⟨e,h1,h2,h3,h4⟩:=ih (n / 128) (b++[((128+n % 128:Nat):Int)]) hlt (by omega) (by simp; omega)
    refine ⟨e,?_,h2,h3,?_⟩
    ·have hbig:n < 9223372036854775808:=by omega
     ·rw [fT (s':=(((n / 128:Nat):Int),b++[((128+n % 128:Nat):Int)]))]
      ·rw [h1,p3 hn]
       have hne:oH (n / 128)≠[]:=by rw [h4]; simp
       rw [List.dropLast_cons_of_ne_nil hne]
       simp
      ·dsimp only
       have m1:(n:Int).tmod 128=((n % 128:Nat):Int):=by rw [Int.tmod_eq_emod_of_nonneg (by omega)]; omega
       have d1:(n:Int).tdiv 128=((n / 128:Nat):Int):=by rw [Int.tdiv_eq_ediv_of_nonneg (by omega)]; omega
       rw [decide_eq_true (by omega),cond_true,m1,d1,w64 (by omega) (by omega),w64 (by omega) (by omega),pX (by omega) (by omega),bH (by simp; omega),aA]
       have:(128:Int)+((n % 128:Nat):Int)=((128+n % 128:Nat):Int):=by omega
       rw [this]
    ·rw [p3 hn]
     have hne:oH (n / 128)≠[]:=by rw [h4]; simp
     rw [List.dropLast_cons_of_ne_nil hne,List.cons_append,← h4]
 obtain ⟨e,h1,h2,h3,h4⟩:=key 8 n [] (by omega) hle (by simp)
 have hl:=u2 8 n (by omega)
 have hd:(oH n).dropLast.length≤9:=by rw [List.length_dropLast]; omega
 rw [h1,aA]
 dsimp only
 rw [pX h2 (by omega),bH (by simp only [List.length_append,List.length_singleton,List.length_nil]; omega),aA,List.nil_append,← h4]
end Go.Tw.X
set_option linter.unusedVariables false
set_option linter.unusedSimpArgs false
namespace Go.Tw.X
open Go Go.Tw
def most:Nat:=4611686018427387904
def rdp:Nat→Nat→Nat→List Int→Int ⊕ (Nat×Nat)
 | 0,_,_,_=> .inl 1
 | _+1,_,_,[]=> .inl 2
 | k+1,i,acc,b::r=>if b < 128 then (if (i > 0∧b=0)∨acc+b.toNat % 128*128 ^ i > most then .inl 1 else .inr (acc+b.toNat % 128*128 ^ i,i+1)) else rdp k (i+1) (acc+b.toNat % 128*128 ^ i) r
def noS:ByteArray:=ByteArray.mk #[]
theorem iU (s:ByteArray): ∀ b∈sbs s,0≤b∧b < 256:=by
 intro b hb
 unfold sbs at hb
 obtain ⟨c,_,rfl⟩:=List.mem_map.1 hb
 have:=c.toNat_lt
 omega
theorem sb (s:ByteArray) (i:Nat) (h:i < (sbs s).length):kW s (i:Int)=some (sbs s)[i]:=by
 unfold kW
 rw [decide_eq_true (by omega),cond_true,Int.toNat_natCast]
 have h2:i < s.data.size:=by rw [cG] at h; exact h
 rw [Array.getElem?_eq_getElem h2]
 simp only [sbs,Option.map_some,List.getElem_map,Array.getElem_toList]
def I8 (s:ByteArray):Int ⊕ (Nat×Nat)→Int×qU
 | .inl e=>(0,⟨noS,e⟩)
 | .inr (v,j)=>(v,⟨mB s j s.size,0⟩)
end Go.Tw.X
set_option linter.unusedVariables false
set_option linter.unusedSimpArgs false
namespace Go.Tw.X
open Go Go.Tw
theorem xa (a b:ByteArray):(a.toList == b.toList)=decide (a=b):=by
 rw [ByteArray.toList_eq,ByteArray.toList_eq]
 by_cases h:a=b
 ·subst h
  rw [decide_eq_true rfl,beq_self_eq_true]
 ·rw [decide_eq_false h]
  have: ¬ a.data.toList=b.data.toList:=fun e=>h (ByteArray.ext (Array.ext' e))
  simpa using this
theorem p4 (s:ByteArray) (lo hi:Nat):sbs (mB s lo hi)=((sbs s).take hi).drop lo:=by
 unfold sbs mB
 rw [ByteArray.data_extract,Int.toNat_natCast,Int.toNat_natCast]
 rw [Array.toList_extract]
 rw [List.extract_eq_take_drop,List.map_take,List.map_drop,List.drop_take]
theorem x8 (s:ByteArray):iP (sbs s)=s:=by
 rw [ph]
 unfold sbs
 rw [List.map_map]
 have:((fun n:Int=>UInt8.ofNat n.toNat) ∘ fun b:UInt8=>(b.toNat:Int))=id:=by
  funext b
  simp
 rw [this,List.map_id]
theorem ya (l:List Int) (h: ∀ b∈l,0≤b∧b < 256):sbs (iP l)=l:=by
 rw [ph]
 unfold sbs
 simp only [List.map_map]
 induction l with
 | nil=>rfl
 | cons a l ih =>
  have ha:=h a (List.mem_cons_self ..)
  rw [List.map_cons,ih fun b hb=>h b (List.mem_cons_of_mem _ hb)]
  congr 1
  show ((UInt8.ofNat a.toNat).toNat:Int)=a
  rw [UInt8.toNat_ofNat']
  omega
theorem xc {a b:ByteArray} (h:sbs a=sbs b):a=b:=by rw [← x8 a,h,x8]
theorem lH (a b:ByteArray):sbs (a++b)=sbs a++sbs b:=by
 unfold sbs
 rw [ByteArray.data_append]
 simp
theorem um (s:ByteArray):s=noS↔sbs s=[]:=⟨fun h=>by rw [h]; rfl,fun h=>xc (by rw [h]; rfl)⟩
def rdS (i:qU):Int×qU:=if i.e=0 then I8 i.s (rdp 9 0 0 (sbs i.s)) else (0,i)
end Go.Tw.X
set_option linter.unusedVariables false
set_option linter.unusedSimpArgs false
namespace Go.Tw.X
open Go Go.Tw
theorem G5 (r q:aE) (h:r.cells.length≤1000000) (hr:okR r.cells) (hq:okR q.cells):kC r (told q)=some (decide (r=q)):=by
 by_cases he:r=q
 ·subst he
  rw [CI r h hr,decide_eq_true rfl]
 rw [decide_eq_false he]
 unfold kC told
 simp only [iT]
 by_cases h1:r.cells.length=q.cells.length
 ·by_cases h2:r.wrapped=q.wrapped
  ·have e6:((bif ((r.cells.length:Int) != (q.cells.length:Int)) then some true else some (!(r.wrapped == q.wrapped))):Option Bool)=some false:=by simp [h1,h2]
   rw [e6,aA,cond_false]
   refine nQ (fun i:Int=> ∃ n:Nat,i=n∧n≤r.cells.length∧r.cells.take n=q.cells.take n) (fun i=>(r.cells.length - i).toNat) (fun v=>v = .inr false) ⟨0,rfl,by omega,rfl⟩ ?_ (fun v hv=>by rw [hv])
   rintro i ⟨n,rfl,hn,ht⟩
   by_cases hlt:n < r.cells.length
   ·have hlq:n < q.cells.length:=by omega
    have hi2:idx (q.cells.map tc) (n:Int)=some (tc q.cells[n]):=by rw [cK _ _ (by simpa using hlq),List.getElem_map]
    have k1:=hr _ (List.getElem_mem hlt)
    have k2:=hq _ (List.getElem_mem hlq)
    have hcmp:(Option.bind (some (tc q.cells[n])) fun e=>(bif ((IntKind.i64.wrap r.cells[n].rune) != e.rune) then some true else (Option.bind (some (tc q.cells[n])) fun f=>(bif (r.cells[n].aM != f.aM) then some true else (Option.bind (some (tc q.cells[n])) fun g=>some (r.cells[n].part != g.part))))))=some (decide (r.cells[n]≠q.cells[n])):=by
     simp only [aA,tc,w32 k1]
     generalize r.cells[n]=a
     generalize q.cells[n]=b
     obtain ⟨a1,a2,a3⟩:=a
     obtain ⟨b1,b2,b3⟩:=b
     by_cases g1:a1=b1 <;> by_cases g2:a2=b2 <;> by_cases g3:a3=b3 <;> simp [g1,g2,g3]
     all_goals first | (have:(a1 != b1)=true:=by simpa using g1); simp [this] | (have:(a2 != b2)=true:=by simpa using g2); simp [this] | skip
    by_cases hc:r.cells[n]=q.cells[n]
    ·refine .inl ⟨((n+1:Nat):Int),?_,⟨n+1,rfl,hlt,?_⟩,by (try dsimp only); omega⟩
     ·rw [decide_eq_true (by omega),cond_true,cK _ _ hlt,aA,hi2,hcmp,aA,decide_eq_false (by simpa using hc),cond_false,w64 (by omega) (by omega)]
      rfl
     ·rw [List.take_succ_eq_append_getElem hlt,List.take_succ_eq_append_getElem hlq,ht,hc]
    ·refine .inr ⟨.inr false,?_,rfl⟩
     rw [decide_eq_true (by omega),cond_true,cK _ _ hlt,aA,hi2,hcmp,aA,decide_eq_true (by simpa using hc),cond_true]
     rfl
   ·exfalso
    have hn2:n=r.cells.length:=by omega
    subst hn2
    rw [List.take_length,h1,List.take_length] at ht
    apply he
    obtain ⟨a,b⟩:=r
    obtain ⟨c,d⟩:=q
    simp_all
  ·have e6:((bif ((r.cells.length:Int) != (q.cells.length:Int)) then some true else some (!(r.wrapped == q.wrapped))):Option Bool)=some true:=by simp [h1,h2]
   rw [e6,aA,cond_true]
 ·have e7:((r.cells.length:Int) != (q.cells.length:Int))=true:=by simp; omega
  rw [e7,cond_true,aA,cond_true]
theorem yb (l:List aE) (hl:l.length≤1000000) (h: ∀ r∈l,r.cells.length≤1000000∧okR r.cells):gN l (l.map told)=some true:=by
 unfold gN
 have e0:((l.length:Int) != ((l.map told).length:Int))=false:=by simp
 rw [e0,cond_false]
 refine eP (fun i=>(i:Int)) l.length (.inl ()) rfl ?_ ?_ rfl
 ·intro i hi
  try dsimp only
  have hr:=h _ (List.getElem_mem hi)
  rw [List.length_map,decide_eq_true (by omega),cond_true,cK l i hi,aA,cK _ _ (by simpa using hi),aA,List.getElem_map,CI _ hr.1 hr.2,aA,Bool.not_true,cond_false,w64 (by omega) (by omega)]
  rfl
 ·try dsimp only
  rw [List.length_map,decide_eq_false (by omega),cond_false]
theorem GI.both {W:Nat} {l:List aE} (h:GI W l): ∀ r∈l,r.cells.length≤1000000∧okR r.cells:=fun r hr=>⟨h.len r hr,(h.rs r hr).2⟩
theorem G6 {W:Nat} {l:List aE} (h:GI W l):mF ⟨W,l⟩ ⟨W,l.map told⟩=some (true,⟨W,l⟩):=by
 have hl:l.length≤1000000:=by have:=h.l2; omega
 unfold mF cX
 rw [aA,CV _ _ hl h.len,aA]
 try dsimp only
 have n1:jE l (-1)=CL:=by unfold jE; rw [if_neg (by omega)]
 have n2:jE l (l.length:Int)=CL:=by unfold jE; rw [if_neg (by omega)]
 have e1:((W:Int) != (W:Int))=false:=by simp
 have e2:((l.length:Int) != ((l.map told).length:Int))=false:=by simp
 have e3:(((l.map x7).length:Int) != (l.length:Int))=false:=by simp
 have e4:((CL.cells.length:Int) != 0)=false:=rfl
 rw [e1,cond_false,e2,cond_false,rV _ _ hl h.len,aA,yb _ hl h.both,aA,Bool.not_true,cond_false,e3,cond_false,wZ _ _ _ h.len,aA,n1,e4,cond_false,wZ _ _ _ h.len,aA,n2,e4,aA]
 try dsimp only
 rw [cond_false]
 refine eP (fun i=>(i:Int)) l.length (.inl ()) rfl ?_ ?_ rfl
 ·intro i hi
  try dsimp only
  have hr:=h.both _ (List.getElem_mem hi)
  rw [List.length_map,decide_eq_true (by omega),cond_true,cK _ _ (by simpa using hi),aA,List.getElem_map,wZ _ _ _ h.len,aA,wY hi,CI _ hr.1 hr.2,aA,Bool.not_true,cond_false,cK _ _ (by simpa using hi),aA,List.getElem_map,CU _ hr.1,aA,beq_self_eq_true,Bool.not_true,aA,cond_false,w64 (by omega) (by omega)]
  rfl
 ·try dsimp only
  rw [List.length_map,decide_eq_false (by omega),cond_false]
theorem CX {W:Nat} {l:List aE} (h:GI W l) (y:Int) (r:aE) (hr:okR r.cells):GI W (qK W l y r):=⟨h.w1,h.w2,by rw [kK]; exact h.l1,by rw [kK]; exact h.l2,Bu h.rs y r hr⟩
end Go.Tw.X
set_option linter.unusedVariables false
set_option linter.unusedSimpArgs false
namespace Go.Tw.X
open Go Go.Tw
def I9:qU:=⟨noS,1⟩
def HW (i:qU) (m:Int):Int×qU:=if (rdS i).1 > m then (0,I9) else rdS i
end Go.Tw.X
set_option linter.unusedVariables false
set_option linter.unusedSimpArgs false
namespace Go.Tw.X
open Go Go.Tw
theorem Ja (a b:Bool):((bif a then some b else some false):Option Bool)=some (a && b):=by cases a <;> rfl
structure SW (s:jq):Prop where
 w1: -9223372036854775808≤s.w∧s.w≤9223372036854775807
 h1: -9223372036854775808≤s.h∧s.h≤9223372036854775807
 gl: ∀ g∈s.begun,rok g.rune
 ro: ∀ r∈s.rows,okR r.cells∧r.cells.length≤1000
 rl:s.rows.length≤1000
 bl:s.begun.length≤2000
 tl:s.title.size≤1000
end Go.Tw.X
set_option linter.unusedVariables false
set_option linter.unusedSimpArgs false
namespace Go.Tw.X
open Go Go.Tw
def tg (g:aH):bW:=⟨g.rune,g.aM⟩
@[reducible] def Ap (s:jq):k7:=⟨s.k,s.w,s.h,s.x,s.y,s.title,s.rows.map told,s.len,s.chain,s.begun.map tg⟩
end Go.Tw.X
set_option linter.unusedVariables false
set_option linter.unusedSimpArgs false
namespace Go.Tw.X
open Go Go.Tw
def vM (g:aH):List Int:=[g.rune,g.aM].flatMap oI
def qW (l:List aH):List Int:=oI l.length++l.flatMap vM
theorem CY (g:aH):(vM g).length≤18:=by
 unfold vM
 simp only [List.flatMap_cons,List.flatMap_nil,List.length_append,List.length_nil]
 have h1:=m4 g.rune
 have h2:=m4 g.aM
 omega
theorem s9 (l:List aH):(l.flatMap vM).length≤18*l.length:=by
 induction l with
 | nil=>simp
 | cons a t ih =>
  rw [List.flatMap_cons,List.length_append,List.length_cons]
  have:=CY a
  omega
theorem CZ (l:List aH) (h:l.length≤2000) (hr: ∀ g∈l,rok g.rune):mQ l=some (iP (qW l)):=by
 unfold mQ lC qW
 have he:=m4 (l.length:Int)
 rw [Ao [] _ (by simp),aA]
 have e0:([]++[(l.length:Int)].flatMap oI)=oI l.length:=by simp
 rw [e0]
 refine eP (fun i=>((⟨oI l.length++(l.take i).flatMap vM⟩:fP),(i:Int))) l.length (⟨oI l.length++l.flatMap vM⟩:fP) (by simp) ?_ ?_ rfl
 ·intro i hi
  dsimp only
  have h2:=s9 (l.take i)
  rw [List.length_take] at h2
  rw [decide_eq_true (by omega),cond_true,cK _ _ hi,aA,w32 (hr _ (List.getElem_mem hi)),Ao _ _ (by simp only [List.length_append,List.length_cons,List.length_nil]; omega),aA,w64 (by omega) (by omega),List.take_succ_eq_append_getElem hi,List.flatMap_append,List.flatMap_singleton,List.append_assoc]
  rfl
 ·dsimp only
  rw [decide_eq_false (by omega),cond_false,List.take_length]
theorem BA (l:List aH) (h:l.length≤2000):l8 (l.map tg)=some (iP (qW l)):=by
 unfold l8 qW
 have he:=m4 (l.length:Int)
 rw [List.length_map,w9,aA]
 refine eP (fun i=>((i:Int),iP (oI l.length++(l.take i).flatMap vM))) l.length (iP (oI l.length++l.flatMap vM)) (by simp) ?_ ?_ rfl
 ·intro i hi
  dsimp only
  have h2:=s9 (l.take i)
  rw [List.length_take] at h2
  have h3:=m4 l[i].rune
  have h4:=m4 l[i].aM
  rw [decide_eq_true (by omega),cond_true,cK _ _ (by simpa using hi),aA,List.getElem_map]
  show Option.bind (ju l[i].rune) _=_
  rw [w9,aA]
  show Option.bind (ju l[i].aM) _=_
  rw [w9,aA,nI (by rw [kp,kp]; omega),aA,← pY,nI (by rw [kp,kp,List.length_append,List.length_append]; omega),aA,← pY,w64 (by omega) (by omega),List.take_succ_eq_append_getElem hi,List.flatMap_append,List.flatMap_singleton,List.append_assoc]
  have hE:vM l[i]=oI l[i].rune++oI l[i].aM:=by unfold vM; simp
  rw [hE]
  rfl
 ·dsimp only
  rw [decide_eq_false (by omega),cond_false,List.take_length]
end Go.Tw.X
set_option linter.unusedVariables false
set_option linter.unusedSimpArgs false
namespace Go.Tw.X
open Go Go.Tw
def Jb (j:qU) (n:Int):ByteArray×qU:=if j.e≠0 then (noS,j) else if n > j.s.size then (noS,⟨noS,2⟩) else (mB j.s 0 n,⟨mB j.s n j.s.size,0⟩)
def Jc (i:qU):ByteArray×qU:=Jb (rdS i).2 (rdS i).1
end Go.Tw.X
set_option linter.unusedVariables false
set_option linter.unusedSimpArgs false
namespace Go.Tw.X
open Go Go.Tw
def hA (s:ByteArray):=rdS ⟨s,0⟩
def hB (s:ByteArray):=HW (hA s).2 1000
def hC (s:ByteArray):=HW (hB s).2 1000
def hD (s:ByteArray):=rdS (hC s).2
def hE (s:ByteArray):=rdS (hD s).2
def hT (s:ByteArray):=Jc (hE s).2
end Go.Tw.X
set_option linter.unusedVariables false
set_option linter.unusedSimpArgs false
namespace Go.Tw.X
open Go Go.Tw
theorem wh {α:Type} [DecidableEq α] (a b:List α) (hl:a.length=b.length) (f:Int→Option (Int ⊕ (Unit ⊕ Bool))) (hf: ∀ (n:Nat) (h1:n < a.length) (h2:n < b.length),f (n:Int)=if a[n]=b[n] then some (.inl ((n+1:Nat):Int)) else some (.inr (.inr false))) (he:f (a.length:Int)=some (.inr (.inl ()))):iter f 0=some (if a=b then .inl () else .inr false):=by
 obtain ⟨r,h1,h2⟩:=uW (f:=f) (fun i:Int=> ∃ n:Nat,i=n∧n≤a.length∧a.take n=b.take n) (fun i=>(a.length - i).toNat) (fun r=>r=(if a=b then .inl () else .inr false)) (by
  rintro i ⟨n,rfl,hn,ht⟩
  by_cases h1:n < a.length
  ·have h2:n < b.length:=by omega
   by_cases he:a[n]=b[n]
   ·refine .inl ⟨((n+1:Nat):Int),?_,⟨n+1,rfl,by omega,?_⟩,by (try dsimp only); omega⟩
    ·rw [hf n h1 h2,if_pos he]
    ·rw [List.take_succ_eq_append_getElem h1,List.take_succ_eq_append_getElem h2,ht,he]
   ·refine .inr ⟨.inr false,?_,?_⟩
    ·rw [hf n h1 h2,if_neg he]
    ·rw [if_neg]
     intro hab
     subst hab
     exact he rfl
  ·refine .inr ⟨.inl (),?_,?_⟩
   ·have hn2:n=a.length:=by omega
    rw [hn2,he]
   ·rw [if_pos]
    have hn2:n=a.length:=by omega
    subst hn2
    rw [List.take_length] at ht
    rw [ht,hl,List.take_length]) 0 ⟨0,rfl,by omega,rfl⟩
 rw [h1,h2]
theorem u3 (a b:List aH) (ha:a.length≤1000000) (hr: ∀ g∈a,rok g.rune):jQ a (b.map tg)=some (decide (a=b)):=by
 unfold jQ
 rw [List.length_map]
 by_cases hl:a.length=b.length
 ·have e0:((a.length:Int) != (b.length:Int))=false:=by simp [hl]
  rw [e0,cond_false,wh a b hl]
  ·by_cases h:a=b
   ·rw [if_pos h,decide_eq_true h]; rfl
   ·rw [if_neg h,decide_eq_false h]; rfl
  ·intro n h1 h2
   have hi2:idx (b.map tg) (n:Int)=some (tg b[n]):=by rw [cK _ _ (by simpa using h2),List.getElem_map]
   try dsimp only
   have k1:=hr _ (List.getElem_mem h1)
   rw [decide_eq_true (by omega),cond_true,cK a n h1,aA,hi2,w64 (x:=(n:Int)+1) (by omega) (by omega)]
   simp only [aA,w32 k1]
   generalize a[n]=x
   generalize b[n]=y
   obtain ⟨x1,x2⟩:=x
   obtain ⟨y1,y2⟩:=y
   unfold tg
   by_cases g1:x1=y1 <;> by_cases g2:x2=y2 <;> simp [g1,g2,nj]
   all_goals first | (have:(x1 != y1)=true:=by simpa using g1); simp [this] | (have:(x2 != y2)=true:=by simpa using g2); simp [this] | skip
  ·try dsimp only
   rw [decide_eq_false (by omega),cond_false]
 ·have e0:((a.length:Int) != (b.length:Int))=true:=by simp; omega
  rw [e0,cond_true,decide_eq_false (fun h=>hl (by rw [h]))]
theorem C9 (a b:List aE) (ha:a.length≤1000000) (hr: ∀ r∈a,okR r.cells∧r.cells.length≤1000) (hq: ∀ r∈b,okR r.cells∧r.cells.length≤1000):gN a (b.map told)=some (decide (a=b)):=by
 unfold gN
 rw [List.length_map]
 by_cases hl:a.length=b.length
 ·have e0:((a.length:Int) != (b.length:Int))=false:=by simp [hl]
  rw [e0,cond_false,wh a b hl]
  ·by_cases h:a=b
   ·rw [if_pos h,decide_eq_true h]; rfl
   ·rw [if_neg h,decide_eq_false h]; rfl
  ·intro n h1 h2
   have hi2:idx (b.map told) (n:Int)=some (told b[n]):=by rw [cK _ _ (by simpa using h2),List.getElem_map]
   try dsimp only
   have k1:=hr _ (List.getElem_mem h1)
   have k2:=hq _ (List.getElem_mem h2)
   rw [decide_eq_true (by omega),cond_true,cK a n h1,aA,hi2,aA,G5 _ _ (by omega) k1.1 k2.1,aA,w64 (by omega) (by omega)]
   by_cases he:a[n]=b[n]
   ·rw [if_pos he,decide_eq_true he]; rfl
   ·rw [if_neg he,decide_eq_false he]; rfl
  ·try dsimp only
   rw [decide_eq_false (by omega),cond_false]
 ·have e0:((a.length:Int) != (b.length:Int))=true:=by simp; omega
  rw [e0,cond_true,decide_eq_false (fun h=>hl (by rw [h]))]
theorem Dc (s t:jq):decide (s=t)=((s.k == t.k) && ((s.w == t.w) && ((s.h == t.h) && ((s.x == t.x) && ((s.y == t.y) && ((s.title.toList == t.title.toList) && ((s.len == t.len) && ((s.chain == t.chain) && (decide (s.rows=t.rows) && decide (s.begun=t.begun)))))))))):=by
 rw [xa]
 obtain ⟨a1,a2,a3,a4,a5,a6,a7,a8,a9,a10⟩:=s
 obtain ⟨b1,b2,b3,b4,b5,b6,b7,b8,b9,b10⟩:=t
 rw [Bool.eq_iff_iff]
 simp only [decide_eq_true_eq,Bool.and_eq_true,beq_iff_eq,jq.mk.injEq]
 constructor
 ·rintro ⟨h1,h2,h3,h4,h5,h6,h7,h8,h9,h10⟩
  exact ⟨h1,h2,h3,h4,h5,h6,h8,h9,h7,h10⟩
 ·rintro ⟨h1,h2,h3,h4,h5,h6,h8,h9,h7,h10⟩
  exact ⟨h1,h2,h3,h4,h5,h6,h7,h8,h9,h10⟩
theorem Fq (s t:jq) (h:SW s) (h2:SW t):mG s (Ap t)=some (decide (s=t)):=by
 unfold mG
 rw [C9 _ _ (by have:=h.rl; omega) h.ro h2.ro,aA,u3 _ _ (by have:=h.bl; omega) h.gl,aA,Dc]
 simp only [Ja,aA]
end Go.Tw.X
set_option linter.unusedVariables false
set_option linter.unusedSimpArgs false
namespace Go.Tw.X
open Go Go.Tw
def BB (l:List Int):Prop:= ∀ b∈l,0≤b∧b < 256
theorem u4 (s:ByteArray):BB (sbs s):=iU s
end Go.Tw.X
set_option linter.unusedVariables false
set_option linter.unusedSimpArgs false
namespace Go.Tw.X
open Go Go.Tw
def rz (a:Nat):Nat:=(a >>> 1) ^^^ (if a % 2=1 then 3988292384 else 0)
def p5 (a:Nat):Nat:=rz (rz (rz (rz a)))
theorem rB {a b:Nat} (ha:a < 4294967296) (hb:b < 4294967296):a ^^^ b < 4294967296:=Nat.xor_lt_two_pow (n:=32) ha hb
theorem sd {a:Nat} (h:a < 4294967296):rz a < 4294967296:=by
 unfold rz
 have:a >>> 1 < 4294967296:=by rw [Nat.shiftRight_eq_div_pow]; omega
 exact rB this (by split <;> omega)
theorem Fs (a b:Nat):(a ^^^ b) % 2=(a % 2+b % 2) % 2:=by
 have h:=Nat.testBit_xor a b 0
 rw [Nat.testBit_zero,Nat.testBit_zero,Nat.testBit_zero] at h
 have ha:a % 2=0∨a % 2=1:=by omega
 have hb:b % 2=0∨b % 2=1:=by omega
 have hc:(a ^^^ b) % 2=0∨(a ^^^ b) % 2=1:=by omega
 rcases ha with ha | ha <;> rcases hb with hb | hb <;> rcases hc with hc | hc <;> rw [ha,hb,hc] at h <;> first | (exact absurd h (by decide)) | (rw [ha,hb,hc])
theorem sf (a b:Nat):rz (a ^^^ b)=rz a ^^^ rz b:=by
 unfold rz
 rw [Nat.shiftRight_xor_distrib,Fs]
 have ha:a % 2=0∨a % 2=1:=by omega
 have hb:b % 2=0∨b % 2=1:=by omega
 generalize a >>> 1=x
 generalize b >>> 1=y
 rcases ha with ha | ha <;> rcases hb with hb | hb <;> rw [ha,hb]
 ·simp
 ·simp [Nat.xor_assoc]
 ·simp only [Nat.zero_add,Nat.add_zero]
  simp
  rw [Nat.xor_assoc,Nat.xor_assoc,Nat.xor_comm y]
 ·simp
  have:x ^^^ 3988292384 ^^^ (y ^^^ 3988292384)=x ^^^ y ^^^ (3988292384 ^^^ 3988292384):=by
   rw [Nat.xor_assoc,Nat.xor_assoc,← Nat.xor_assoc 3988292384 y,Nat.xor_comm 3988292384 y,Nat.xor_assoc]
  rw [this,Nat.xor_self,Nat.xor_zero]
theorem Dd (a b:Nat):p5 (a ^^^ b)=p5 a ^^^ p5 b:=by
 unfold p5
 rw [sf,sf,sf,sf]
theorem qz (k:Nat):rz (2*k)=k:=by
 unfold rz
 rw [if_neg (by omega),Nat.xor_zero,Nat.shiftRight_eq_div_pow]
 omega
theorem Ft (k:Nat):p5 (16*k)=k:=by
 unfold p5
 rw [show 16*k=2*(2*(2*(2*k))) by omega,qz,qz,qz,qz]
theorem wi (x:Nat):p5 x=(x / 16) ^^^ p5 (x % 16):=by
 have h:x=(16*(x / 16)) ^^^ (x % 16):=by
  have h1:16*(x / 16)+x % 16=x:=Nat.div_add_mod x 16
  have h2:(16*(x / 16)) ^^^ (x % 16)=16*(x / 16)+x % 16:=by
   have h3:2 ^ 4*(x / 16)+x % 16=(2 ^ 4*(x / 16)) ||| (x % 16):=Nat.two_pow_add_eq_or_of_lt (by omega) _
   apply Nat.eq_of_testBit_eq
   intro i
   have h4:(16*(x / 16)+x % 16)=(2 ^ 4*(x / 16)) ||| (x % 16):=h3
   rw [h4,Nat.testBit_xor,Nat.testBit_or]
   show ((2 ^ 4*(x / 16)).testBit i ^^ (x % 16).testBit i)=_
   rw [Nat.testBit_two_pow_mul]
   by_cases hi:i≥4
   ·have:(x % 16).testBit i=false:=by
     apply Nat.testBit_lt_two_pow
     have:2 ^ 4≤2 ^ i:=Nat.pow_le_pow_right (by omega) hi
     omega
    rw [this]
    simp
   ·simp [hi]
  rw [h2,h1]
 conv=>lhs; rw [h]
 rw [Dd,Ft]
theorem Aq: ∀ n:Nat,n < 16→idx eL (n:Int)=some ((p5 n:Nat):Int):=by decide
theorem G7 {x:Int} (h0:0≤x) (h1:x < 4294967296):IntKind.u32.wrap x=x:=by
 unfold IntKind.wrap
 simp [IntKind.signed,IntKind.bits]
 omega
theorem Ar {a b:Nat} (ha:a < 4294967296) (hb:b < 4294967296):Go.bits .xor .u32 (a:Int) (b:Int)=((a ^^^ b:Nat):Int):=by
 show IntKind.u32.wrap ((BitVec.ofInt 32 (a:Int) ^^^ BitVec.ofInt 32 (b:Int)).toNat:Int)=_
 rw [BitVec.ofInt_natCast,BitVec.ofInt_natCast,BitVec.toNat_xor,BitVec.toNat_ofNat,BitVec.toNat_ofNat,Nat.mod_eq_of_lt ha,Nat.mod_eq_of_lt hb]
 have:=rB ha hb
 exact G7 (by omega) (by omega)
theorem Gj {a b:Nat} (ha:a < 4294967296) (hb:b < 4294967296):Go.bits .xor .i64 (a:Int) (b:Int)=((a ^^^ b:Nat):Int):=by
 show IntKind.i64.wrap ((BitVec.ofInt 64 (a:Int) ^^^ BitVec.ofInt 64 (b:Int)).toNat:Int)=_
 rw [BitVec.ofInt_natCast,BitVec.ofInt_natCast,BitVec.toNat_xor,BitVec.toNat_ofNat,BitVec.toNat_ofNat,Nat.mod_eq_of_lt (by omega),Nat.mod_eq_of_lt (by omega)]
 have:=rB ha hb
 exact w64 (by omega) (by omega)
theorem Gk {a:Nat} (ha:a < 4294967296):Go.bits .and .u32 (a:Int) 15=((a % 16:Nat):Int):=by
 show IntKind.u32.wrap ((BitVec.ofInt 32 (a:Int) &&& BitVec.ofInt 32 15).toNat:Int)=_
 rw [BitVec.ofInt_natCast,BitVec.toNat_and,BitVec.toNat_ofNat,Nat.mod_eq_of_lt ha]
 have h:(BitVec.ofInt 32 15).toNat=2 ^ 4 - 1:=by decide
 rw [h,Nat.and_two_pow_sub_one_eq_mod]
 exact G7 (by omega) (by omega)
theorem Gl (a:Nat):((a:Int)).fdiv (2 ^ (min 4 32))=((a / 16:Nat):Int):=by
 rw [Int.fdiv_eq_ediv_of_nonneg _ (by decide)]
 rfl
def yc (x b:Nat):Nat:=p5 (p5 (x ^^^ b))
theorem sg {a:Nat} (h:a < 4294967296):p5 a < 4294967296:=sd (sd (sd (sd h)))
theorem De {x b:Nat} (h:x < 4294967296) (hb:b < 256):yc x b < 4294967296:=sg (sg (rB h (by omega)))
theorem step_eq {x b:Nat} (hx:x < 4294967296) (hb:b < 256):mC (x:Int) (b:Int)=some ((yc x b:Nat):Int):=by
 unfold mC yc
 rw [G7 (by omega) (by omega),Ar hx (by omega)]
 have h1:=rB hx (show b < 4294967296 by omega)
 generalize x ^^^ b=y at h1
 rw [Gk h1,Aq _ (by omega),aA,Gl,Ar (by omega) (sg (by omega)),← wi]
 have h2:=sg h1
 generalize p5 y=z at h2
 rw [Gk h2,Aq _ (by omega),aA,Gl,Ar (by omega) (sg (by omega)),← wi]
def Df (y:Nat):Nat→Nat
 | 0=>y
 | i+1=>rz (Df y i)
theorem HX {y:Nat} (hy:y < 4294967296):iter (σ:=Int×Int) (ρ:=Int) (fun a=>(bif (decide (a.2 < 8)) then (Option.bind ((bif ((a.1.tmod 2) == 1) then some (Go.bits .xor .i64 (IntKind.i64.wrap (a.1.tdiv 2)) 3988292384) else some (IntKind.i64.wrap (a.1.tdiv 2))):Option Int) fun c=>some (.inl (c,(IntKind.i64.wrap (a.2+1))))) else some (.inr a.1))) ((y:Int),0)=some ((p5 (p5 y):Nat):Int):=by
 have st: ∀ (z n:Nat),z < 4294967296→n < 8→(bif (decide ((n:Int) < 8)) then (Option.bind ((bif (((z:Int).tmod 2) == 1) then some (Go.bits .xor .i64 (IntKind.i64.wrap ((z:Int).tdiv 2)) 3988292384) else some (IntKind.i64.wrap ((z:Int).tdiv 2))):Option Int) fun c=>some (.inl (c,(IntKind.i64.wrap ((n:Int)+1))))) else some (.inr (z:Int)):Option ((Int×Int) ⊕ Int))=some (.inl (((rz z:Nat):Int),((n+1:Nat):Int))):=by
  intro z n hz hn
  have h1:(z:Int).tdiv 2=((z >>> 1:Nat):Int):=by
   rw [Int.tdiv_eq_ediv_of_nonneg (by omega),Nat.shiftRight_eq_div_pow]
   rfl
  have h2:(z:Int).tmod 2=((z % 2:Nat):Int):=by
   rw [Int.tmod_eq_emod_of_nonneg (by omega)]
   rfl
  have h3:z >>> 1 < 4294967296:=by rw [Nat.shiftRight_eq_div_pow]; omega
  rw [decide_eq_true (by omega),cond_true,h1,h2,w64 (by omega) (by omega),w64 (by omega) (by omega)]
  have hx:Go.bits .xor .i64 ((z >>> 1:Nat):Int) 3988292384=((z >>> 1 ^^^ 3988292384:Nat):Int):=Gj h3 (b:=3988292384) (by decide)
  rw [hx]
  unfold rz
  by_cases ho:z % 2=1
  ·have:(((z % 2:Nat):Int) == 1)=true:=by rw [ho]; rfl
   rw [this,cond_true,if_pos ho]
   rfl
  ·have:(((z % 2:Nat):Int) == 1)=false:=by rw [show z % 2=0 by omega]; rfl
   rw [this,cond_false,if_neg ho,Nat.xor_zero]
   rfl
 have hB: ∀ i,Df y i < 4294967296:=by
  intro i
  induction i with
  | zero=>exact hy
  | succ i ih=>exact sd ih
 have h8:p5 (p5 y)=Df y 8:=rfl
 rw [h8]
 refine wV (fun i=>(((Df y i:Nat):Int),(i:Int))) 8 _ ?_ ?_
 ·intro i hi
  exact st (Df y i) i (hB i) hi
 ·dsimp only
  rw [decide_eq_false (by omega),cond_false]
def sj (l:List Int):Nat:=l.foldl (fun x b=>yc x b.toNat) 4294967295
theorem rC (l:List Int) (i:Nat) (h:i < l.length):sj (l.take (i+1))=yc (sj (l.take i)) (l[i]).toNat:=by
 unfold sj
 rw [List.take_succ_eq_append_getElem h,List.foldl_append]
 rfl
theorem xd {l:List Int} (h:BB l): ∀ i,sj (l.take i) < 4294967296:=by
 intro i
 induction i with
 | zero=>rw [List.take_zero]; decide
 | succ i ih =>
  by_cases hi:i < l.length
  ·rw [rC l i hi]
   have:=h _ (List.getElem_mem hi)
   exact De ih (by omega)
  ·rw [List.take_of_length_le (by omega)]
   rw [List.take_of_length_le (by omega)] at ih
   exact ih
def zx (s:ByteArray):Nat:=4294967295 ^^^ sj (sbs s)
theorem G8 (s:ByteArray) (hs:s.size≤1000000):pQ [s]=some ((zx s:Nat):Int):=by
 unfold pQ
 have hL:=xd (u4 s)
 have hinner:iter (σ:=Int×Int) (ρ:=Int) (fun a=>(bif (decide (a.1 < (s.size:Int))) then (Option.bind (kW s a.1) fun b642=>(Option.bind (mC a.2 b642) fun b=>some (.inl ((IntKind.i64.wrap (a.1+1)),b)))) else some (.inr a.2))) (0,4294967295)=some ((sj (sbs s):Nat):Int):=by
  refine wV (fun i=>((i:Int),((sj ((sbs s).take i):Nat):Int))) s.size _ ?_ ?_
  ·intro i hi
   have hi2:i < (sbs s).length:=by rw [cG]; exact hi
   have hb:=u4 s _ (List.getElem_mem hi2)
   have hn:(sbs s)[i]=(((sbs s)[i].toNat:Nat):Int):=by omega
   dsimp only
   rw [decide_eq_true (by omega),cond_true,sb s i hi2,aA,rC _ _ hi2]
   conv=>lhs; rw [hn]
   rw [step_eq (hL i) (by omega),aA,w64 (by omega) (by omega)]
   rfl
  ·dsimp only
   rw [decide_eq_false (by omega),cond_false,List.take_of_length_le (by rw [cG]; exact Nat.le_refl _)]
 refine eP (fun i=>(if i=0 then (4294967295:Int) else ((sj (sbs s):Nat):Int),(i:Int))) 1 ((sj (sbs s):Nat):Int) rfl ?_ ?_ ?_
 ·intro i hi
  have:i=0:=by omega
  subst this
  have h1:idx [s] 0=some s:=rfl
  show (bif (decide ((0:Int) < 1)) then (Option.bind (idx [s] 0) fun c=>_) else _)=_
  rw [decide_eq_true (by omega),cond_true,h1,aA]
  show (Option.bind (iter _ (0,4294967295)) fun d=>_)=_
  rw [hinner,aA]
  rfl
 ·rfl
 ·have h:=hL (sbs s).length
  rw [List.take_length] at h
  show some (Go.bits .xor .u32 ((4294967295:Nat):Int) ((sj (sbs s):Nat):Int))=_
  rw [Ar (by decide) h]
  rfl
theorem Dg {x:Nat} (h:x < 4294967296):4294967295 ^^^ x=4294967295 - x:=by
 have h1:(2 ^ 32 - 1) - x=2 ^ 32 - (x+1):=by omega
 show 4294967295 ^^^ x=_
 apply Nat.eq_of_testBit_eq
 intro i
 have h2:4294967295 - x=2 ^ 32 - (x+1):=by omega
 rw [h2,Nat.testBit_two_pow_sub_succ h,Nat.testBit_xor]
 have h3:(4294967295:Nat).testBit i=decide (i < 32):=by
  show (2 ^ 32 - 1).testBit i=_
  rw [Nat.testBit_two_pow_sub_one]
 rw [h3]
 by_cases hi:i < 32
 ·simp [hi]
 ·have:x.testBit i=false:=by
   apply Nat.testBit_lt_two_pow
   have:2 ^ 32≤2 ^ i:=Nat.pow_le_pow_right (by omega) (by omega)
   omega
  simp [hi,this]
theorem Fu (s:ByteArray) (hs:s.size≤1000000):nP s=some ((zx s:Nat):Int):=by
 unfold nP
 have hL:=xd (u4 s)
 refine eP (fun i=>(((sj ((sbs s).take i):Nat):Int),(i:Int))) s.size ((sj (sbs s):Nat):Int) rfl ?_ ?_ ?_
 ·intro i hi
  have hi2:i < (sbs s).length:=by rw [cG]; exact hi
  have hb:=u4 s _ (List.getElem_mem hi2)
  have hn:(sbs s)[i]=(((sbs s)[i].toNat:Nat):Int):=by omega
  dsimp only
  rw [decide_eq_true (by omega),cond_true,sb s i hi2,aA,rC _ _ hi2]
  have hx:Go.bits .xor .i64 ((sj ((sbs s).take i):Nat):Int) (IntKind.i64.wrap (sbs s)[i])=((sj ((sbs s).take i) ^^^ (sbs s)[i].toNat:Nat):Int):=by
   rw [w64 (by omega) (by omega)]
   conv=>lhs; rw [hn]
   exact Gj (hL i) (by omega)
  rw [hx,HX (rB (hL i) (by omega)),aA,w64 (by omega) (by omega)]
  rfl
 ·dsimp only
  rw [decide_eq_false (by omega),cond_false,List.take_of_length_le (by rw [cG]; exact Nat.le_refl _)]
 ·have h:=hL (sbs s).length
  rw [List.take_length] at h
  unfold zx
  rw [Dg h,w64 (by omega) (by omega)]
  congr 1
  omega
end Go.Tw.X
set_option linter.unusedVariables false
set_option linter.unusedSimpArgs false
namespace Go.Tw.X
open Go Go.Tw
theorem As (s:ByteArray):zx s < 4294967296:=by
 unfold zx
 have h:=xd (u4 s) (sbs s).length
 rw [List.take_length] at h
 exact rB (by decide) h
end Go.Tw.X
set_option linter.unusedVariables false
set_option linter.unusedSimpArgs false
namespace Go.Tw.X
open Go Go.Tw
def okO {α:Type _} (x:Option α) (P:α→Prop):Prop:= ∃ r,x=some r∧P r
theorem aW {α:Type _} {P:α→Prop} {r:α} (h:P r):okO (some r) P:=⟨r,rfl,h⟩
theorem bP {α β:Type _} {P:α→Prop} {Q:β→Prop} {x:Option α} {f:α→Option β} (h:okO x P) (k: ∀ r,P r→okO (f r) Q):okO (Option.bind x f) Q:=by
 obtain ⟨r,rfl,hp⟩:=h
 exact k r hp
theorem nm {α:Type _} {P:α→Prop} {b:Bool} {x y:Option α} (h1:b=true→okO x P) (h2:b=false→okO y P):okO (bif b then x else y) P:=by
 cases b
 ·exact h2 rfl
 ·exact h1 rfl
theorem jw {α:Type _} {P:α→Prop} {p:Prop} [Decidable p] {x y:Option α} (h1:p→okO x P) (h2: ¬ p→okO y P):okO (bif decide p then x else y) P :=
 nm (fun h=>h1 (of_decide_eq_true h)) (fun h=>h2 (of_decide_eq_false h))
theorem ok_eq {α:Type _} {P:α→Prop} {a b:Int} {x y:Option α} (h1:a=b→okO x P) (h2: ¬ a=b→okO y P):okO (bif a == b then x else y) P :=
 nm (fun h=>h1 (by simpa using h)) (fun h=>h2 (by simpa using h))
theorem HY {α:Type _} {P:α→Prop} {a b:Int} {x y:Option α} (h1: ¬ a=b→okO x P) (h2:a=b→okO y P):okO (bif a != b then x else y) P :=
 nm (fun h=>h1 (by simpa using h)) (fun h=>h2 (by simpa using h))
theorem Fv {α:Type _} {P Q:α→Prop} {x:Option α} (h:okO x P) (k: ∀ r,P r→Q r):okO x Q:=by
 obtain ⟨r,e,hp⟩:=h
 exact ⟨r,e,k r hp⟩
theorem G9 {p:Prop} [Decidable p] (h:p):okO (chk (decide p)) (fun _=>True):=⟨(),lX h,trivial⟩
theorem td {lo hi n:Int} (h0:0≤lo) (h1:lo≤hi) (h2:hi≤n):okO (chk (cW lo hi n)) (fun _=>True):=⟨(),bV h0 h1 h2,trivial⟩
theorem qX {n m b:Nat} (h:(n+m)*b≤140737488355328):okO (chk (dB n m b)) (fun _=>True):=⟨(),bH h,trivial⟩
theorem At {n m:Nat} (h:n+m≤4611686018427387904):okO (chk (vI n m)) (fun _=>True):=⟨(),nI h,trivial⟩
theorem xe {α β:Type} {P:α ⊕ β→Prop} {x:Option β} (h:okO x (fun w=>P (.inr w))):okO (jH x) P:=by
 obtain ⟨r,rfl,hp⟩:=h
 exact ⟨.inr r,rfl,hp⟩
theorem xf {α β γ:Type} {P:α ⊕ (β ⊕ γ)→Prop} {x:Option γ} (h:okO x (fun w=>P (.inr (.inr w)))):okO (nj x) P:=by
 obtain ⟨r,rfl,hp⟩:=h
 exact ⟨.inr (.inr r),rfl,hp⟩
theorem jy {σ ρ:Type} {f:σ→Option (σ ⊕ ρ)} {P:ρ→Prop} (Inv:σ→Prop) (m:σ→Nat) {s:σ} (h0:Inv s)
  (h: ∀ s,Inv s→okO (f s) fun | .inl s'=>Inv s'∧m s' < m s | .inr r=>P r):okO (iter f s) P:=by
 refine uW Inv m P (fun s hs=> ?_) s h0
 obtain ⟨z,e,hz⟩:=h s hs
 cases z with
 | inl s'=>exact .inl ⟨s',e,hz⟩
 | inr r=>exact .inr ⟨r,e,hz⟩
end Go.Tw.X
set_option linter.unusedVariables false
set_option linter.unusedSimpArgs false
set_option maxHeartbeats 1000000
namespace Go.Tw.X
open Go Go.Tw
theorem Fw {α:Type _} {x:Option α} {r:α} (h:okO x (fun y=>y=r)):x=some r:=by
 obtain ⟨y,e,rfl⟩:=h
 exact e
theorem BC (a b m:Int):a % m*b % m=a*b % m:=by rw [Int.mul_emod,Int.emod_emod_of_dvd _ (Int.dvd_refl m),← Int.mul_emod]
def chM:Int:=281474976710597
def qY (x:Int) (l:List aH):Int:=(x*65536 % chM+(zx (iP (qW l)):Nat)) % chM
def lb (l:List (List aH)):Int:=l.foldl qY 0
theorem ye (x:Int) (l:List aH):0≤qY x l∧qY x l < chM:=⟨Int.emod_nonneg _ (by decide),Int.emod_lt_of_pos _ (by decide)⟩
theorem tP (l:List (List aH)) (g:List aH):lb (l++[g])=qY (lb l) g:=List.foldl_append ..
theorem yf: ∀ (l:List (List aH)) (x:Int),0≤x→x < chM→0≤l.foldl qY x∧l.foldl qY x < chM
 | [],x,h0,h1=>⟨h0,h1⟩
 | g::l,x,_,_=>yf l (qY x g) (ye x g).1 (ye x g).2
theorem wj (l:List (List aH)):0≤lb l∧lb l < chM:=yf l 0 (by decide) (by decide)
def tf (l:List aH):Prop:=l.length≤2000 ∧ ∀ g∈l,rok g.rune
theorem u5 {l:List aH} (h:l.length≤2000):(iP (qW l)).size≤1000000:=by
 have h1:=m4 (l.length:Int)
 have h2:=s9 l
 rw [kp]
 unfold qW
 rw [List.length_append]
 omega
theorem Fy {x:Int} (h0:0≤x) (h1:x < chM) {l:List aH} (hl:tf l):mR x l=some (qY x l):=by
 unfold mR qY
 unfold chM at h1 ⊢
 have hs:=As (iP (qW l))
 rw [CZ l hl.1 hl.2,Option.bind_some,G8 _ (u5 hl.1),Option.bind_some]
 generalize zx (iP (qW l))=m at hs
 rw [w64 (x:=x*256) (by omega) (by omega),Int.tmod_eq_emod_of_nonneg (a:=x*256) (by omega)]
 rw [w64 (x:=x*256 % 281474976710597*256) (by omega) (by omega),Int.tmod_eq_emod_of_nonneg (a:=x*256 % 281474976710597*256) (by omega)]
 rw [w64 (x:=((m:Nat):Int)) (by omega) (by omega),w64 (by omega) (by omega),Int.tmod_eq_emod_of_nonneg (a:=x*256 % 281474976710597*256 % 281474976710597+((m:Nat):Int)) (by omega)]
 congr 2
 omega
theorem Ha {x:Int} (h0:0≤x) (h1:x < chM):iter (σ:=Int×Int) (ρ:=Int) (fun b=>(bif (decide (b.2 < 16)) then some (.inl (((IntKind.i64.wrap (2*b.1)).tmod 281474976710597),(IntKind.i64.wrap (b.2+1)))) else some (.inr b.1))) (x,0)=some (x*65536 % chM):=by
 unfold chM at h1 ⊢
 refine Fw ?_
 refine jy (fun z:Int×Int=>0≤z.2∧z.2≤16∧0≤z.1∧z.1 < 281474976710597∧z.1*2 ^ (16 - z.2.toNat) % 281474976710597=x*65536 % 281474976710597) (fun z=>16 - z.2.toNat) ⟨Int.le_refl 0,show (0:Int)≤16 from by decide,h0,h1,rfl⟩ ?_
 rintro ⟨y,i⟩ ⟨g0,g1,g2,g3,g4⟩
 dsimp only at g0 g1 g2 g3 g4 ⊢
 refine jw (fun hi=> ?_) fun hi=> ?_
 ·rw [w64 (x:=2*y) (by omega) (by omega),w64 (x:=i+1) (by omega) (by omega),Int.tmod_eq_emod_of_nonneg (a:=2*y) (by omega)]
  refine aW ⟨⟨by dsimp only; omega,by dsimp only; omega,by dsimp only; omega,by dsimp only; omega,?_⟩,by dsimp only; omega⟩
  dsimp only
  rw [← g4,show 16 - i.toNat=(16 - (i+1).toNat)+1 by omega,Int.pow_succ,BC,show 2*y*2 ^ (16 - (i+1).toNat)=y*(2 ^ (16 - (i+1).toNat)*2) from by rw [Int.mul_comm 2 y,Int.mul_assoc,Int.mul_comm 2]]
 ·have:i=16:=by omega
  subst this
  refine aW ?_
  have e:y*2 ^ (16 - (16:Int).toNat)=y:=Int.mul_one y
  rw [e] at g4
  rw [← g4]
  exact (Int.emod_eq_of_lt g2 g3).symm
end Go.Tw.X
set_option linter.unusedVariables false
set_option linter.unusedSimpArgs false
set_option maxHeartbeats 1000000
namespace Go.Tw.X
open Go Go.Tw
def chs (l:List (List aH)):List Int:=(List.range (l.length+1)).map fun k=>lb (l.take k)
theorem xh (l:List (List aH)):(chs l).length=l.length+1:=by simp [chs]
theorem Dh (l:List (List aH)) (g:List aH):chs (l++[g])=chs l++[lb (l++[g])]:=by
 unfold chs
 rw [List.length_append,List.length_singleton,List.range_succ,List.map_append,List.map_singleton]
 congr 1
 ·refine List.map_congr_left fun k hk=> ?_
  have:=List.mem_range.1 hk
  rw [List.take_append_of_le_length (by omega)]
 ·rw [List.take_of_length_le (by simp)]
theorem Au (l:List (List aH)) (k:Nat) (h:k≤l.length):idx (chs l) (k:Int)=some (lb (l.take k)):=by
 rw [cK _ k (by rw [xh]; omega)]
 simp [chs]
theorem oJ (l:List aH) (h:l.length≤1000000):cB l=some l:=by
 unfold cB
 rw [bH (by simp; omega)]
 simp
theorem yg {b:bU} (hc:b.bE=chs b.l) (hn:b.l.length≤200000000) {g:List aH} (hg:tf g):eR b g=some ⟨b.l++[g],chs (b.l++[g]),b.begun⟩:=by
 unfold eR
 have hk:=wj b.l
 rw [oJ _ (by have:=hg.1; omega),Option.bind_some,bH (by simp; omega),Option.bind_some,hc,xh,w64 (by omega) (by omega)]
 rw [show ((b.l.length+1:Nat):Int) - 1=(b.l.length:Int) by omega,Au _ _ (Nat.le_refl _),List.take_length,Option.bind_some,Fy hk.1 hk.2 hg,Option.bind_some,bH (by simp; omega)]
 rw [Dh,tP]
 rfl
def lu (g:List aH):List (List aH)×List aH :=
 if h:1024≤g.length then (g.take 1024::(lu (g.drop 1024)).1,(lu (g.drop 1024)).2) else ([],g)
termination_by g.length
decreasing_by all_goals (rw [List.length_drop]; omega)
theorem sn {g:List aH} (h:1024≤g.length):lu g=(g.take 1024::(lu (g.drop 1024)).1,(lu (g.drop 1024)).2):=by
 rw [lu,dif_pos h]
theorem pj {g:List aH} (h: ¬ 1024≤g.length):lu g=([],g):=by
 rw [lu,dif_neg h]
def lI (z:List (List aH)×List aH) (r:aE):List (List aH)×List aH :=
 let c:=lu (z.2++kh r)
 if r.wrapped then (z.1++c.1,c.2) else (z.1++c.1++[c.2],[])
def fQ (z:List (List aH)×List aH):iO:=⟨z.1.map (fun g=>g.map tg),z.2.map tg⟩
theorem Fz {z:List (List aH)×List aH} (h1:z.1.length≤100000000) (h2:z.2.length≤1024) {r:aE} (hr:r.cells.length≤1000):mX (fQ z) (told r)=some (fQ (lI z r)):=by
 have hg:=pZ r
 unfold mX
 rw [bH (by simp [fQ]; omega),Option.bind_some,u0 r (by omega),Option.bind_some,bH (by simp [fQ]; omega),Option.bind_some,bH (by simp [fQ]; omega),Option.bind_some]
 have e0:(([]:List bW)++(fQ z).begun)++(kh r).map (fun g=>(⟨g.rune,g.aM⟩:bW))=(z.2++kh r).map tg:=by
  simp only [fQ,List.nil_append,List.map_append]
  rfl
 rw [e0]
 refine Fw (bP (P:=fun y:(List bW)×(List (List bW))=>y=((lu (z.2++kh r)).2.map tg,(z.1++(lu (z.2++kh r)).1).map fun g=>g.map tg)) ?_ fun y hy=> ?_)
 ·refine jy (fun y:(List bW)×(List (List bW))=> ∃ g l,y=(g.map tg,l.map fun g=>g.map tg)∧g.length≤2024∧l.length≤200000000 - g.length∧(lu g).2=(lu (z.2++kh r)).2∧l++(lu g).1=z.1++(lu (z.2++kh r)).1) (fun y=>y.1.length) ⟨z.2++kh r,z.1,by simp [fQ],by simp; omega,by simp; omega,rfl,rfl⟩ ?_
  rintro _ ⟨g,l,rfl,g1,g2,g3,g4⟩
  dsimp only
  rw [List.length_map]
  refine jw (fun h=> ?_) fun h=> ?_
  ·have hge:1024≤g.length:=by omega
   rw [sn hge] at g3 g4
   refine bP (td (by omega) (by omega) (by omega)) fun _ _=> ?_
   refine bP (qX (by simp; omega)) fun _ _=> ?_
   refine bP (td (by omega) (by omega) (by omega)) fun _ _=>aW ⟨⟨g.drop 1024,l++[g.take 1024],?_,by rw [List.length_drop]; omega,by rw [List.length_append,List.length_drop]; simp; omega,g3,by rw [← g4]; simp⟩,?_⟩
   ·rw [show (1024:Int)=((1024:Nat):Int) from rfl,oD,n8,List.take_of_length_le (by rw [List.length_map]; exact Nat.le_refl _)]
    simp
   ·dsimp only
    rw [show (1024:Int)=((1024:Nat):Int) from rfl,n8,List.length_drop,List.length_take,List.length_map]
    omega
  ·rw [pj (by omega)] at g3 g4
   refine aW ?_
   rw [← g3,← g4]
   simp
 ·subst hy
  have hcl: ∀ n (g:List aH),g.length=n→(lu g).1.length≤n:=by
   intro n
   induction n using Nat.strongRecOn with
   | _ n ih =>
    intro g hg
    by_cases h:1024≤g.length
    ·rw [sn h]
     have:=ih (g.drop 1024).length (by rw [List.length_drop]; omega) _ rfl
     rw [List.length_drop] at this
     simp
     omega
    ·rw [pj h]; simp
  have hc:=hcl _ (z.2++kh r) rfl
  rw [List.length_append] at hc
  unfold lI
  cases hw:r.wrapped with
  | true =>
   rw [show (told r).wrapped=true from hw]
   exact aW rfl
  | false =>
   rw [show (told r).wrapped=false from hw]
   simp only [Bool.not_false,cond_true]
   refine bP (qX (by simp; omega)) fun _ _=>aW (by simp [fQ])
end Go.Tw.X
set_option linter.unusedVariables false
set_option linter.unusedSimpArgs false
set_option maxHeartbeats 1000000
namespace Go.Tw.X
open Go Go.Tw
def dM (z:List (List aH)×List aH):bU:=⟨z.1,chs z.1,z.2⟩
def BD (g:List aH):Prop:= ∀ x∈g,rok x.rune
theorem Av: ∀ n (g:List aH),g.length=n→BD g→(lu g).1.length*1024≤n∧(lu g).2.length < 1024∧BD (lu g).2 ∧ ∀ x∈(lu g).1,tf x:=by
 intro n
 induction n using Nat.strongRecOn with
 | _ n ih =>
  intro g hg ho
  by_cases h:1024≤g.length
  ·rw [sn h]
   obtain ⟨a,b,c,d⟩:=ih (g.drop 1024).length (by rw [List.length_drop]; omega) _ rfl (fun x hx=>ho x (List.mem_of_mem_drop hx))
   rw [List.length_drop] at a
   refine ⟨by rw [List.length_cons,Nat.succ_mul,← hg]; exact Nat.add_le_of_le_sub h a,b,c,fun x hx=> ?_⟩
   rcases List.mem_cons.1 hx with rfl | hx
   ·exact ⟨by rw [List.length_take]; omega,fun y hy=>ho y (List.mem_of_mem_take hy)⟩
   ·exact d x hx
  ·rw [pj h]
   exact ⟨by rw [List.length_nil]; omega,by dsimp only; omega,ho,fun x hx=>by cases hx⟩
def wk (r:aE):Prop:=r.cells.length≤1000∧BD (kh r)
structure ZI (k:Nat) (z:List (List aH)×List aH):Prop where
 n:z.1.length≤k
 b:z.2.length < 1024
 g:BD z.2
 ls: ∀ x∈z.1,tf x
theorem FA {k:Nat} {z:List (List aH)×List aH} (h:ZI k z) {r:aE} (hr:wk r):ZI (k+2) (lI z r):=by
 have hl:=pZ r
 obtain ⟨a,b,c,d⟩:=Av _ (z.2++kh r) rfl (fun x hx=>(List.mem_append.1 hx).elim (h.g x) (hr.2 x))
 rw [List.length_append] at a
 have h1:=h.n
 have h2:=h.b
 have h3:=hr.1
 unfold lI
 dsimp only
 split
 ·exact ⟨by rw [List.length_append]; omega,b,c,fun x hx=>(List.mem_append.1 hx).elim (h.ls x) (d x)⟩
 ·refine ⟨by simp; omega,by show 0 < 1024; decide,fun x hx=>(by cases hx),fun x hx=> ?_⟩
  rcases List.mem_append.1 hx with hx | hx
  ·exact (List.mem_append.1 hx).elim (h.ls x) (d x)
  ·rw [List.mem_singleton.1 hx]
   exact ⟨by omega,c⟩
theorem add_one {k:Nat} (hk:k≤100000000) {z:List (List aH)×List aH} (h:ZI k z) {r:aE} (hr:wk r):(Option.bind (gJ r) fun f=>(Option.bind (chk (dB (dM z).begun.length f.length 16)) fun _=>(Option.bind (iter (σ:=bU) (ρ:=bU) (fun d=>(bif (decide ((d.begun.length:Int)≥1024)) then (Option.bind (chk (cW 0 1024 d.begun.length)) fun _=>(Option.bind (eR d (cut d.begun 0 1024)) fun c=>(Option.bind (chk (cW 1024 (c.begun.length:Int) c.begun.length)) fun _=>(Option.bind (cB (cut c.begun 1024 (c.begun.length:Int))) fun j=>some (.inl (bU.mk c.l c.bE j)))))) else some (.inr d))) (bU.mk (dM z).l (dM z).bE ((dM z).begun++f))) fun e=>(bif (!r.wrapped) then (Option.bind (eR e e.begun) fun i=>some (bU.mk i.l i.bE ([]:List aH))) else some e))))=some (dM (lI z r)):=by
 have hl:=pZ r
 have h1:=h.n
 have h2:=h.b
 have h3:=hr.1
 have hgo:BD (z.2++kh r):=fun x hx=>(List.mem_append.1 hx).elim (h.g x) (hr.2 x)
 obtain ⟨ca,cb,cc,_⟩:=Av _ (z.2++kh r) rfl hgo
 rw [List.length_append] at ca
 rw [v9 r (by omega),Option.bind_some,bH (by show (z.2.length+(kh r).length)*16≤_; omega),Option.bind_some]
 refine Fw (bP (P:=fun y=>y=dM (z.1++(lu (z.2++kh r)).1,(lu (z.2++kh r)).2)) ?_ fun y hy=> ?_)
 ·refine jy (fun y:bU=> ∃ l g,y=dM (l,g)∧g.length≤2024∧BD g∧l.length+g.length≤200000000∧(lu g).2=(lu (z.2++kh r)).2∧l++(lu g).1=z.1++(lu (z.2++kh r)).1) (fun y=>y.begun.length) ⟨z.1,z.2++kh r,rfl,by simp; omega,hgo,by simp; omega,rfl,rfl⟩ ?_
  rintro _ ⟨l,g,rfl,g1,g2,g3,g4,g5⟩
  show okO (bif (decide ((g.length:Int)≥1024)) then _ else _) _
  refine jw (fun hh=> ?_) fun hh=> ?_
  ·have hge:1024≤g.length:=by omega
   rw [sn hge] at g4 g5
   have hcut:cut g 0 1024=g.take 1024:=by rw [show (1024:Int)=((1024:Nat):Int) from rfl,oD]
   have hcut2:cut g 1024 (g.length:Int)=g.drop 1024:=by rw [show (1024:Int)=((1024:Nat):Int) from rfl,n8,List.take_length]
   refine bP (td (by omega) (by omega) (by show (1024:Int)≤g.length; omega)) fun _ _=> ?_
   rw [show (dM (l,g)).begun=g from rfl,hcut,yg (b:=dM (l,g)) rfl (by show l.length≤_; omega) ⟨by rw [List.length_take]; omega,fun x hx=>g2 x (List.mem_of_mem_take hx)⟩,Option.bind_some]
   dsimp only
   refine bP (td (by omega) (by show (1024:Int)≤g.length; omega) (by show (g.length:Int)≤g.length; omega)) fun _ _=> ?_
   rw [show (dM (l,g)).begun=g from rfl,show (dM (l,g)).l=l from rfl,hcut2,oJ _ (by rw [List.length_drop]; omega),Option.bind_some]
   refine aW ⟨⟨l++[g.take 1024],g.drop 1024,rfl,by rw [List.length_drop]; omega,fun x hx=>g2 x (List.mem_of_mem_drop hx),by simp; omega,g4,by rw [← g5]; simp⟩,?_⟩
   show (g.drop 1024).length < g.length
   rw [List.length_drop]
   omega
  ·rw [pj (by omega)] at g4 g5
   refine aW ?_
   rw [← g4,← g5]
   simp
 ·subst hy
  unfold lI
  cases hw:r.wrapped with
  | true=>exact aW rfl
  | false =>
   simp only [Bool.not_false,cond_true]
   rw [show ∀ a b,(dM (a,b)).begun=b from fun _ _=>rfl,yg (b:=dM (z.1++(lu (z.2++kh r)).1,(lu (z.2++kh r)).2)) rfl (by show (z.1++(lu (z.2++kh r)).1).length≤_; rw [List.length_append]; omega) ⟨by show (lu (z.2++kh r)).2.length≤2000; omega,cc⟩]
   exact aW rfl
theorem oK {k:Nat}: ∀ (rows:List aE) {z:List (List aH)×List aH},ZI k z→(∀ r∈rows,wk r)→ZI (k+2*rows.length) (rows.foldl lI z)
 | [],z,h,_=>h
 | r::rows,z,h,hr=>by
  have h1:=FA h (hr r List.mem_cons_self)
  have h2:=oK (k:=k+2) rows h1 fun x hx=>hr x (List.mem_cons_of_mem _ hx)
  rw [show k+2*(r::rows).length=k+2+2*rows.length by simp; omega]
  exact h2
theorem add_eq {k:Nat} {z:List (List aH)×List aH} (h:ZI k z) {rows:List aE} (hr: ∀ r∈rows,wk r) (hk:k+2*rows.length≤100000000):okO (ik (dM z) rows) (fun y=>y.2=dM (rows.foldl lI z)):=by
 unfold ik
 refine bP (P:=fun y=>y=dM (rows.foldl lI z)) ?_ fun y hy=>aW hy
 refine jy (fun y:bU×Int=>0≤y.2∧y.2≤rows.length∧y.1=dM ((rows.take y.2.toNat).foldl lI z)) (fun y=>rows.length - y.2.toNat) ⟨Int.le_refl 0,by dsimp only; omega,rfl⟩ ?_
 rintro ⟨b,i⟩ ⟨h0,h1,h2⟩
 dsimp only at h0 h1 h2 ⊢
 subst h2
 refine jw (fun hi=> ?_) fun hi=>aW (by rw [List.take_of_length_le (by omega)])
 obtain ⟨j,rfl⟩: ∃ j:Nat,i=j:=⟨i.toNat,by omega⟩
 have hj:j < rows.length:=by omega
 have hZ:=oK (rows.take j) h fun x hx=>hr x (List.mem_of_mem_take hx)
 rw [List.length_take] at hZ
 rw [cK rows j hj,Option.bind_some]
 have:=add_one (by omega) hZ (hr rows[j] (List.getElem_mem hj))
 rw [show ((j:Int)).toNat=j from rfl]
 rw [this,Option.bind_some,w64 (by omega) (by omega)]
 refine aW ⟨⟨by dsimp only; omega,by dsimp only; omega,?_⟩,by dsimp only; omega⟩
 dsimp only
 rw [show ((j:Int)+1).toNat=j+1 by omega,List.take_add_one,List.getElem?_eq_getElem hj,Option.toList_some,List.foldl_append]
 rfl
theorem BE {l:List (List aH)} (hl: ∀ x∈l,tf x) (hn:l.length≤100000000) (g:List aH):lk (fQ (l,g)) (l.length:Int)=some (lb l):=by
 unfold lk
 refine Fw (bP (P:=fun y=>y=lb l) ?_ fun y hy=>aW hy)
 refine jy (fun y:Int×Int=>0≤y.2∧y.2≤l.length∧y.1=lb (l.take y.2.toNat)) (fun y=>l.length - y.2.toNat) ⟨Int.le_refl 0,by dsimp only; omega,rfl⟩ ?_
 rintro ⟨x,i⟩ ⟨h0,h1,h2⟩
 dsimp only at h0 h1 h2 ⊢
 subst h2
 rw [show (fQ (l,g)).l=l.map (fun g=>g.map tg) from rfl,List.length_map]
 refine bP (P:=fun e=>e=true↔i < l.length) (jw (fun h=>aW (by simp)) fun h=>aW (by simp; omega)) fun e he=> ?_
 refine nm (fun h=> ?_) fun h=> ?_
 ·have hi:=he.1 h
  obtain ⟨j,rfl⟩: ∃ j:Nat,i=j:=⟨i.toNat,by omega⟩
  have hj:j < l.length:=by omega
  have hc:=wj (l.take (j:Int).toNat)
  have hlo:=hl l[j] (List.getElem_mem hj)
  rw [Ha hc.1 hc.2,Option.bind_some,cK _ j (by rw [List.length_map]; exact hj),Option.bind_some,List.getElem_map,BA _ hlo.1,Option.bind_some,Fu _ (u5 hlo.1),Option.bind_some]
  have hs:=As (iP (qW l[j]))
  have hm:0≤lb (l.take (j:Int).toNat)*65536 % chM∧lb (l.take (j:Int).toNat)*65536 % chM < chM:=⟨Int.emod_nonneg _ (by decide),Int.emod_lt_of_pos _ (by decide)⟩
  have hM:chM=281474976710597:=rfl
  have e1:lb (l.take (j+1))=qY (lb (l.take (j:Int).toNat)) l[j]:=by
   rw [List.take_add_one,List.getElem?_eq_getElem hj,Option.toList_some,tP]
   rfl
  rw [w64 (x:=(j:Int)+1) (by omega) (by omega)]
  rw [w64 (by omega) (by omega),Int.tmod_eq_emod_of_nonneg (by omega)]
  refine aW ⟨⟨by dsimp only; omega,by dsimp only; omega,?_⟩,by dsimp only; omega⟩
  dsimp only
  rw [show ((j:Int)+1).toNat=j+1 by omega,e1]
  rfl
 ·have: ¬ i < l.length:=fun hh=>by rw [he.2 hh] at h; cases h
  exact aW (by rw [List.take_of_length_le (by omega)])
end Go.Tw.X
set_option linter.unusedVariables false
set_option linter.unusedSimpArgs false
namespace Go.Tw.X
open Go Go.Tw
def tst (s:bG):bK:=⟨s.fC,s.back,s.bold,s.under,s.cO⟩
def bN (b:Bool) (n:Int):Int:=if b then n else 0
def kM (s:bG):Int:=if 0≤s.fC∧s.fC < 9∧0≤s.back∧s.back < 9 then s.fC+9*s.back+bN s.bold 81+bN s.under 162+bN s.cO 324 else 0
theorem Hb (b:Bool) (n:Int):lL b n=some (bN b n):=by cases b <;> rfl
theorem BF (s:bG):jk s=some (decide (0≤s.fC∧s.fC < 9∧0≤s.back∧s.back < 9)):=by
 unfold jk
 by_cases a:0≤s.fC <;> by_cases b:s.fC < 9 <;> by_cases c:0≤s.back <;> by_cases d:s.back < 9 <;> simp [a,b,c,d,ge_iff_le]
theorem FB (s:bG):mV (tst s)=some (decide (0≤s.fC∧s.fC < 9∧0≤s.back∧s.back < 9)):=by
 unfold mV
 have e1:(s.fC≤8)=(s.fC < 9):=propext (by omega)
 have e2:(s.back≤8)=(s.back < 9):=propext (by omega)
 simp only [tst,e1,e2]
 by_cases a:0≤s.fC <;> by_cases b:s.fC < 9 <;> by_cases c:0≤s.back <;> by_cases d:s.back < 9 <;> simp [a,b,c,d,ge_iff_le]
theorem Di (b:Bool) (n:Int) (h:0≤n):0≤bN b n∧bN b n≤n:=by cases b <;> simp [bN,h]
theorem Dj (s:bG):jm s=some (kM s):=by
 unfold jm kM
 rw [BF,aA]
 by_cases h:0≤s.fC∧s.fC < 9∧0≤s.back∧s.back < 9
 ·have h1:=Di s.bold 81 (by omega)
  have h2:=Di s.under 162 (by omega)
  have h3:=Di s.cO 324 (by omega)
  rw [decide_eq_true h,if_pos h]
  simp only [Bool.not_true,cond_false,Hb,aA]
  rw [w64 (x:=9*s.back) (by omega) (by omega),w64 (x:=s.fC+9*s.back) (by omega) (by omega),w64 (x:=s.fC+9*s.back+bN s.bold 81) (by omega) (by omega),w64 (x:=s.fC+9*s.back+bN s.bold 81+bN s.under 162) (by omega) (by omega),w64 (by omega) (by omega)]
 ·rw [decide_eq_false h,if_neg h]
  rfl
theorem yh (s:bG):iF (tst s)=some (kM s):=by
 unfold iF kM
 rw [FB,aA]
 by_cases h:0≤s.fC∧s.fC < 9∧0≤s.back∧s.back < 9
 ·rw [decide_eq_true h,if_pos h]
  simp only [Bool.not_true,cond_false,tst]
  rw [w64 (x:=9*s.back) (by omega) (by omega),w64 (x:=s.fC+9*s.back) (by omega) (by omega)]
  cases s.bold <;> cases s.under <;> cases s.cO <;> simp only [cond_true,cond_false,aA,bN] <;> simp <;> (try simp only [IntKind.wrap_i64]) <;> (try omega)
 ·rw [decide_eq_false h,if_neg h]
  rfl
def th (s:bG) (n:Int):bG:=if n=0 then ⟨0,0,false,false,false⟩ else if n=1∨n=22 then ⟨s.fC,s.back,n == 1,s.under,s.cO⟩ else if n=4∨n=24 then ⟨s.fC,s.back,s.bold,n == 4,s.cO⟩ else if n=7∨n=27 then ⟨s.fC,s.back,s.bold,s.under,n == 7⟩ else if 30≤n∧n < 38 then ⟨n - 29,s.back,s.bold,s.under,s.cO⟩ else if n=39 then ⟨0,s.back,s.bold,s.under,s.cO⟩ else if 40≤n∧n < 48 then ⟨s.fC,n - 39,s.bold,s.under,s.cO⟩ else if n=49 then ⟨s.fC,0,s.bold,s.under,s.cO⟩ else s
theorem dO {a b:Int} (h: ¬ a=b):(a == b)=false:=by simpa using h
theorem ld {a b:Int} (h:a=b):(a == b)=true:=by simpa using h
theorem rD (n a b:Int):((bif (n == a) then some true else some (n == b)):Option Bool)=some (decide (n=a∨n=b)):=by
 by_cases h:n=a
 ·simp [h]
 ·rw [dO h,cond_false]
  by_cases h2:n=b
  ·simp [h2]
  ·rw [dO h2,decide_eq_false (by omega)]
theorem FC (n a b:Int):((bif (decide (n≥a)) then some (decide (n < b)) else some false):Option Bool)=some (decide (a≤n∧n < b)):=vK (a≤n) (n < b)
theorem FD (n a b:Int):((bif (decide (n≥a)) then some (decide (n≤b)) else some false):Option Bool)=some (decide (a≤n∧n≤b)):=vK (a≤n) (n≤b)
theorem Hc (s:bG) (n:Int):jn s n=some (th s n):=by
 unfold jn th
 simp only [rD,FC,aA]
 by_cases h0:n=0
 ·simp [h0,jH]
 ·have b0:(n == 0)=false:=by simpa using h0
  rw [b0,cond_false,if_neg h0]
  by_cases h1:n=1∨n=22
  ·rw [decide_eq_true h1,if_pos h1]; rfl
  ·rw [decide_eq_false h1,cond_false,if_neg h1]
   by_cases h2:n=4∨n=24
   ·rw [decide_eq_true h2,if_pos h2]; rfl
   ·rw [decide_eq_false h2,cond_false,if_neg h2]
    by_cases h3:n=7∨n=27
    ·rw [decide_eq_true h3,if_pos h3]; rfl
    ·rw [decide_eq_false h3,cond_false,if_neg h3]
     by_cases h4:30≤n∧n < 38
     ·rw [decide_eq_true h4,cond_true,if_pos h4,w64 (x:=n - 30) (by omega) (by omega),w64 (by omega) (by omega),show n - 30+1=n - 29 by omega]; rfl
     ·rw [decide_eq_false h4,cond_false,if_neg h4]
      by_cases h5:n=39
      ·simp [h5]
      ·have b5:(n == 39)=false:=by simpa using h5
       rw [b5,cond_false,if_neg h5]
       by_cases h6:40≤n∧n < 48
       ·rw [decide_eq_true h6,cond_true,if_pos h6,w64 (x:=n - 40) (by omega) (by omega),w64 (by omega) (by omega),show n - 40+1=n - 39 by omega]; rfl
       ·rw [decide_eq_false h6,cond_false,if_neg h6]
        by_cases h7:n=49
        ·simp [h7]
        ·rw [dO h7,if_neg h7]; rfl
theorem FE (s:bG) (n k:Int):((Option.bind ((bif (n == 0) then some (bK.mk 0 0 false false false) else some (tst s)):Option bK) fun a=>(Option.bind ((bif (n == 1) then some true else some (n == 22)):Option Bool) fun h=>(Option.bind ((bif h then some (bK.mk a.fC a.back (decide (n < 10)) a.under a.cO) else some a):Option bK) fun b=>(Option.bind ((bif (n == 4) then some true else some (n == 24)):Option Bool) fun i=>(Option.bind ((bif i then some (bK.mk b.fC b.back b.bold (decide (n < 10)) b.cO) else some b):Option bK) fun c=>(Option.bind ((bif (n == 7) then some true else some (n == 27)):Option Bool) fun j=>(Option.bind ((bif j then some (bK.mk c.fC c.back c.bold c.under (decide (n < 10))) else some c):Option bK) fun d=>(Option.bind ((bif (decide (n≥30)) then some (decide (n≤37)) else some false):Option Bool) fun l=>(Option.bind ((bif l then some (bK.mk (IntKind.i64.wrap (n - 29)) d.back d.bold d.under d.cO) else some d):Option bK) fun e=>(Option.bind ((bif (n == 39) then some (bK.mk 0 e.back e.bold e.under e.cO) else some e):Option bK) fun f=>(Option.bind ((bif (decide (n≥40)) then some (decide (n≤47)) else some false):Option Bool) fun m=>(Option.bind ((bif m then some (bK.mk f.fC (IntKind.i64.wrap (n - 39)) f.bold f.under f.cO) else some f):Option bK) fun g=>(bif (n == 49) then some (k,(bK.mk g.fC 0 g.bold g.under g.cO)) else some (k,g)))))))))))))):Option (Int×bK))=some (k,tst (th s n)):=by
 simp only [rD,FD,aA]
 unfold th
 by_cases h0:n=0
 ·subst h0; simp [tst,aA]
 ·have b0:(n == 0)=false:=by simpa using h0
  rw [b0,cond_false,if_neg h0,aA]
  by_cases h1:n=1∨n=22
  ·rcases h1 with rfl | rfl <;> simp [tst,aA]
  ·rw [decide_eq_false h1,cond_false,if_neg h1,aA]
   by_cases h2:n=4∨n=24
   ·rcases h2 with rfl | rfl <;> simp [tst,aA]
   ·rw [decide_eq_false h2,cond_false,if_neg h2,aA]
    by_cases h3:n=7∨n=27
    ·rcases h3 with rfl | rfl <;> simp [tst,aA]
    ·rw [decide_eq_false h3,cond_false,if_neg h3,aA]
     by_cases h4:30≤n∧n < 38
     ·have e4:decide (30≤n∧n≤37)=true:=decide_eq_true (by omega)
      have e5:(n == 39)=false:=by simp; omega
      have e6:decide (40≤n∧n≤47)=false:=decide_eq_false (by omega)
      have e7:(n == 49)=false:=by simp; omega
      rw [e4,e5,e6,e7,if_pos h4,w64 (x:=n - 29) (by omega) (by omega)]
      rfl
     ·have e4:decide (30≤n∧n≤37)=false:=decide_eq_false (by omega)
      rw [e4,if_neg h4,cond_false,aA]
      by_cases h5:n=39
      ·subst h5; simp [tst,aA]
      ·have b5:(n == 39)=false:=by simpa using h5
       rw [b5,cond_false,if_neg h5,aA]
       by_cases h6:40≤n∧n < 48
       ·have e6:decide (40≤n∧n≤47)=true:=decide_eq_true (by omega)
        have e7:(n == 49)=false:=by simp; omega
        rw [e6,e7,if_pos h6,w64 (x:=n - 39) (by omega) (by omega)]
        rfl
       ·have e6:decide (40≤n∧n≤47)=false:=decide_eq_false (by omega)
        rw [e6,if_neg h6,cond_false,aA]
        by_cases h7:n=49
        ·simp [h7,tst]
        ·rw [dO h7,if_neg h7]; rfl
def nq:List Int→Nat
 | 5::l=>min 2 (l.length+1)
 | 2::l=>min 4 (l.length+1)
 | _=>0
theorem Dl (l:List Int):nq l≤l.length:=by
 unfold nq
 split <;> simp <;> omega
theorem FF (l:List Int):lZ l=some (nq l:Int):=by
 unfold lZ
 cases l with
 | nil=>rfl
 | cons a l =>
  have h0:decide (((a::l).length:Int) > 0)=true:=by simp
  have h1:idx (a::l) 0=some a:=CA _
  simp only [h0,cond_true,h1,aA]
  by_cases h5:a=5
  ·subst h5
   simp only [beq_self_eq_true,cond_true,aA,nq,dZ,List.length_cons]
   first | done | (congr 1; omega)
  ·have e5:(a == 5)=false:=by simpa using h5
   simp only [e5,cond_false,aA]
   by_cases h2:a=2
   ·subst h2
    simp only [beq_self_eq_true,cond_true,aA,nq,dZ,List.length_cons]
    first | done | (congr 1; omega)
   ·have e2:(a == 2)=false:=by simpa using h2
    simp only [e2,cond_false]
    unfold nq
    split
    ·rename_i heq; injection heq with h; exact absurd h h5
    ·rename_i heq; injection heq with h; exact absurd h h2
    ·rfl
def rE (s:bG) (l:List Int):bG :=
 match l with
 | []=>s
 | n::l=>if n=38∨n=48 then rE s (l.drop (nq l)) else rE (th s n) l
termination_by l.length
decreasing_by all_goals simp_wf <;> omega
theorem yi (s:bG):rE s []=s:=by unfold rE; rfl
theorem wm (s:bG) (n:Int) (l:List Int):rE s (n::l)=if n=38∨n=48 then rE s (l.drop (nq l)) else rE (th s n) l:=by rw [rE]
def BH (s:bG) (l:List Int):bG:=if l.length=0 then ⟨0,0,false,false,false⟩ else rE s l
theorem FG (l:List Int):((l.length:Int) == 0)=decide (l.length=0):=by
 by_cases h:l.length=0
 ·simp [h]
 ·rw [decide_eq_false h,dO (by omega)]
theorem FH (s:bG) (l:List Int) (hl:l.length≤1000000):jo s l=some (BH s l):=by
 unfold jo BH
 rw [FG]
 by_cases h0:l.length=0
 ·rw [decide_eq_true h0,if_pos h0]; rfl
 ·rw [decide_eq_false h0,if_neg h0,cond_false]
  refine nQ (fun x=>0≤x.2∧x.2≤l.length∧rE x.1 (l.drop x.2.toNat)=rE s l) (fun x=>l.length - x.2.toNat) (fun r=>r=rE s l) ⟨Int.le_refl 0,by dsimp only; omega,by simp⟩ ?_ ?_
  ·rintro ⟨q,i⟩ ⟨h1,h2,h3⟩
   dsimp only at h1 h2 h3 ⊢
   obtain ⟨i,rfl⟩:=Int.eq_ofNat_of_zero_le h1
   rw [Int.toNat_natCast] at h3
   by_cases hi:i < l.length
   ·left
    rw [decide_eq_true (by omega:(i:Int) < l.length),cond_true,cK _ _ hi,aA,rD,aA]
    rw [List.drop_eq_getElem_cons hi,wm] at h3
    by_cases hn:l[i]=38∨l[i]=48
    ·rw [if_pos hn] at h3
     have hsk:=Dl (l.drop (i+1))
     rw [List.length_drop] at hsk
     rw [decide_eq_true hn,cond_true,w64 (x:=(i:Int)+1) (by omega) (by omega),show (i:Int)+1=((i+1:Nat):Int) by omega,bV (by omega) (by omega) (by omega),aA,n8,List.take_length,FF,aA,aA]
     dsimp only
     refine ⟨_,rfl,⟨?_,?_,?_⟩,?_⟩
     ·dsimp only; rw [w64 (x:=(i:Int)+(nq (l.drop (i+1)):Int)) (by omega) (by omega),w64 (by omega) (by omega)]; omega
     ·dsimp only; rw [w64 (x:=(i:Int)+(nq (l.drop (i+1)):Int)) (by omega) (by omega),w64 (by omega) (by omega)]; omega
     ·dsimp only; rw [w64 (x:=(i:Int)+(nq (l.drop (i+1)):Int)) (by omega) (by omega),w64 (by omega) (by omega),← h3,List.drop_drop]
      congr 2
      omega
     ·dsimp only; rw [w64 (x:=(i:Int)+(nq (l.drop (i+1)):Int)) (by omega) (by omega),w64 (by omega) (by omega)]; omega
    ·rw [if_neg hn] at h3
     rw [decide_eq_false hn,cond_false,aA,Hc,aA,aA]
     dsimp only
     rw [w64 (x:=(i:Int)+1) (by omega) (by omega)]
     refine ⟨_,rfl,⟨by dsimp only; omega,by dsimp only; omega,?_⟩,by dsimp only; omega⟩
     dsimp only
     rw [show ((i:Int)+1).toNat=i+1 by omega,h3]
   ·right
    rw [decide_eq_false (by omega: ¬ (i:Int) < l.length),cond_false]
    rw [List.drop_eq_nil_of_le (by omega),yi] at h3
    exact ⟨q,rfl,h3⟩
  ·rintro r rfl
   rfl
theorem yj (l:List Int):(∃ r,l=5::r∧nq l=min 2 (r.length+1))∨(∃ r,l=2::r∧nq l=min 4 (r.length+1))∨(nq l=0∧(∀ a r,l=a::r→a≠5∧a≠2)):=by
 cases l with
 | nil=>exact .inr (.inr ⟨rfl,fun a r h=>by cases h⟩)
 | cons a l =>
  by_cases h5:a=5
  ·subst h5; exact .inl ⟨l,rfl,rfl⟩
  ·by_cases h2:a=2
   ·subst h2; exact .inr (.inl ⟨l,rfl,rfl⟩)
   ·refine .inr (.inr ⟨?_,fun b r h=>by injection h with h1 _; subst h1; exact ⟨h5,h2⟩⟩)
    unfold nq
    split
    ·rename_i heq; injection heq with h; exact absurd h h5
    ·rename_i heq; injection heq with h; exact absurd h h2
    ·rfl
theorem yk (l:List Int) (k n:Nat) (h:l.length≤n):l.drop (min k n)=l.drop k:=by
 by_cases hk:k≤n
 ·rw [Nat.min_eq_left hk]
 ·rw [List.drop_eq_nil_of_le (by omega),List.drop_eq_nil_of_le (by omega)]
end Go.Tw.X
set_option linter.unusedVariables false
set_option linter.unusedSimpArgs false
namespace Go.Tw.X
open Go Go.Tw
theorem Dm (s:bG) (l:List Int) (hl:l.length≤1000000):mW (tst s) l=some (tst (BH s l)):=by
 unfold mW BH
 rw [FG]
 by_cases h0:l.length=0
 ·rw [decide_eq_true h0,if_pos h0]; rfl
 ·rw [decide_eq_false h0,if_neg h0,cond_false]
  refine nQ (fun x=> ∃ q,x.1=tst q∧0≤x.2.1∧x.2.1≤l.length∧0≤x.2.2∧x.2.2≤4∧rE q (l.drop (x.2.1.toNat+x.2.2.toNat))=rE s l) (fun x=>l.length - x.2.1.toNat) (fun r=>r=tst (rE s l)) ⟨s,rfl,Int.le_refl 0,by dsimp only; omega,Int.le_refl 0,by dsimp only; omega,by simp⟩ ?_ ?_
  ·rintro ⟨q',i,k⟩ ⟨q,e,h1,h2,h4,h5,h3⟩
   dsimp only at e h1 h2 h3 h4 h5 ⊢
   subst e
   obtain ⟨i,rfl⟩:=Int.eq_ofNat_of_zero_le h1
   obtain ⟨k,rfl⟩:=Int.eq_ofNat_of_zero_le h4
   rw [Int.toNat_natCast,Int.toNat_natCast] at h3
   by_cases hi:i < l.length
   ·left
    rw [decide_eq_true (by omega:(i:Int) < l.length),cond_true,cK _ _ hi,aA,w64 (x:=(i:Int)+1) (by omega) (by omega)]
    by_cases hk:0 < k
    ·rw [decide_eq_true (by omega:(k:Int) > 0),cond_true,aA,w64 (x:=(k:Int) - 1) (by omega) (by omega)]
     dsimp only
     refine ⟨_,rfl,⟨q,rfl,by dsimp only; omega,by dsimp only; omega,by dsimp only; omega,by dsimp only; omega,?_⟩,by dsimp only; omega⟩
     dsimp only
     rw [← h3]
     congr 2
     omega
    ·obtain rfl:k=0:=by omega
     rw [Nat.add_zero,List.drop_eq_getElem_cons hi,wm] at h3
     rw [decide_eq_false (by omega: ¬ ((0:Nat):Int) > 0),cond_false,rD,aA]
     by_cases hn:l[i]=38∨l[i]=48
     ·rw [if_pos hn] at h3
      rw [decide_eq_true hn,cond_true,show (i:Int)+1=((i+1:Nat):Int) by omega]
      have hd:(l.drop (i+1)).length≤l.length:=by simp
      by_cases hi1:i+1 < l.length
      ·rw [decide_eq_true (by omega:((i+1:Nat):Int) < l.length)]
       simp only [cond_true,cK _ _ hi1,aA]
       have hc:=yj (l.drop (i+1))
       rw [List.drop_eq_getElem_cons hi1] at hc
       by_cases a5:l[i+1]=5
       ·rw [a5]
        simp only [beq_self_eq_true,cond_true,aA]
        refine ⟨_,rfl,⟨q,rfl,by dsimp only; omega,by dsimp only; omega,by dsimp only; decide,by dsimp only; decide,?_⟩,by dsimp only; omega⟩
        dsimp only
        rcases hc with ⟨r,e1,e2⟩ | ⟨r,e1,_⟩ | ⟨_,e1⟩
        ·injection e1 with _ er
         rw [← h3,List.drop_eq_getElem_cons hi1,e2,← er]
         rw [yk _ _ _ (by simp; omega),← List.drop_eq_getElem_cons hi1,List.drop_drop]
         congr 2
        ·injection e1 with er _
         omega
        ·exact absurd a5 (e1 _ _ rfl).1
       ·rw [dO a5]
        simp only [cond_false,aA]
        by_cases a2:l[i+1]=2
        ·rw [a2]
         simp only [beq_self_eq_true,cond_true,aA]
         refine ⟨_,rfl,⟨q,rfl,by dsimp only; omega,by dsimp only; omega,by dsimp only; decide,by dsimp only; decide,?_⟩,by dsimp only; omega⟩
         dsimp only
         rcases hc with ⟨r,e1,e2⟩ | ⟨r,e1,e2⟩ | ⟨_,e1⟩
         ·injection e1 with er _
          omega
         ·injection e1 with _ er
          rw [← h3,List.drop_eq_getElem_cons hi1,e2,← er]
          rw [yk _ _ _ (by simp; omega),← List.drop_eq_getElem_cons hi1,List.drop_drop]
          congr 2
         ·exact absurd a2 (e1 _ _ rfl).2
        ·rw [dO a2]
         simp only [cond_false,aA]
         refine ⟨_,rfl,⟨q,rfl,by dsimp only; omega,by dsimp only; omega,by dsimp only; omega,by dsimp only; omega,?_⟩,by dsimp only; omega⟩
         dsimp only
         rcases hc with ⟨r,e1,e2⟩ | ⟨r,e1,e2⟩ | ⟨e2,_⟩
         ·injection e1 with er _
          exact absurd er a5
         ·injection e1 with er _
          exact absurd er a2
         ·rw [← h3,List.drop_eq_getElem_cons hi1,e2,← List.drop_eq_getElem_cons hi1,List.drop_drop]
          congr 2
      ·rw [decide_eq_false (by omega: ¬ ((i+1:Nat):Int) < l.length)]
       simp only [cond_false,aA]
       rw [List.drop_eq_nil_of_le (i:=i+1) (by omega),List.drop_nil] at h3
       refine ⟨_,rfl,⟨q,rfl,by dsimp only; omega,by dsimp only; omega,by dsimp only; omega,by dsimp only; omega,?_⟩,by dsimp only; omega⟩
       dsimp only
       rw [List.drop_eq_nil_of_le (by omega)]
       exact h3
     ·rw [if_neg hn] at h3
      rw [decide_eq_false hn,cond_false]
      rw [FE,aA]
      dsimp only
      refine ⟨_,rfl,⟨_,rfl,by dsimp only; omega,by dsimp only; omega,by dsimp only; omega,by dsimp only; omega,?_⟩,by dsimp only; omega⟩
      dsimp only
      rw [show ((i:Int)+1).toNat+((0:Nat):Int).toNat=i+1 by omega,h3]
   ·right
    rw [decide_eq_false (by omega: ¬ (i:Int) < l.length),cond_false]
    rw [List.drop_eq_nil_of_le (by omega),yi] at h3
    exact ⟨_,rfl,by rw [h3]⟩
  ·rintro r rfl
   rfl
end Go.Tw.X
set_option linter.unusedVariables false
set_option linter.unusedSimpArgs false
namespace Go.Tw.X
open Go Go.Tw
def aQ (s:aB):aK:=⟨oE s.g,s.spot.x,s.spot.y,tst s.spot.aM,s.saved.x,s.saved.y,tst s.saved.aM,s.waiting,s.top,s.aI,s.aY,s.title⟩
structure SJ (W:Nat) (s:aB):Prop where
 gw:s.g.w=W
 gi:GI W s.g.l
 x0:0≤s.spot.x
 x1:s.spot.x < W
 y0:0≤s.spot.y
 y1:s.spot.y < s.g.l.length
 t0:0≤s.top
 tb:s.top≤s.aI
 b1:s.aI < s.g.l.length
structure SI (W:Nat) (s:aB):Prop extends SJ W s where
 wt:s.waiting=true→s.spot.x=W - 1
theorem SJ.ge {W:Nat} {s:aB} (h:SJ W s):s.g=⟨W,s.g.l⟩:=by
 have:=h.gw
 cases hg:s.g
 rw [hg] at this
 simp at this
 rw [this]
def so (W:Nat) (off:List aE):Prop:=off.length≤1000 ∧ ∀ r∈off,gok W r
theorem nJ (W:Nat):so W []:=⟨by simp,fun r hr=>by cases hr⟩
structure Sim (W:Nat) (p:Option (List aE×aB)) (q:Option (aK×List aR)) (off:List aE) (s':aB):Prop where
 p:p=some (off,s')
 q:q=some (aQ s',off.map told)
 i:SI W s'
 o:so W off
theorem me (s:aB):bY s=some (kM s.spot.aM):=by unfold bY; rw [Dj]; rfl
theorem sq (s:aB):iF (aQ s).s=some (kM s.spot.aM):=yh _
theorem po (g:aX):cX g=some (g.w,(g.l.length:Int)):=rfl
def mvS (s:aB) (x y:Int):aB:=⟨s.g,⟨max 0 (min x (s.g.w - 1)),max 0 (min y ((s.g.l.length:Int) - 1)),s.spot.aM⟩,s.saved,false,s.top,s.aI,s.aY,s.title⟩
theorem m5 (n lo hi:Int):fS n lo hi=some (max lo (min n hi)):=by
 unfold fS
 rw [fM,dZ]
section
variable {W : Nat} {s : aB}
theorem u6 (h:SJ W s):dJ s=some (s.g.w - 1,(s.g.l.length:Int) - 1):=by
 have h1:=h.gi.w2
 have h2:=h.gi.l2
 have h3:=h.gw
 unfold dJ
 rw [po,aA]
 dsimp only
 rw [w64 (by omega) (by omega),w64 (by omega) (by omega)]
theorem jZ (h:SJ W s) (x y:Int):bL s x y=some (mvS s x y):=by
 unfold bL
 rw [u6 h,aA,m5,aA,m5,aA]
 rfl
theorem iB (h:SJ W s) (x y:Int):cI (aQ s) x y=some (aQ (mvS s x y)):=by
 have h1:=h.gi.w2
 have h2:=h.gi.l2
 have h3:=h.gw
 have e:((aQ s).g.l.length:Int)=s.g.l.length:=by simp [aQ,oE]
 unfold cI
 rw [e,show (aQ s).g.w=s.g.w from rfl,w64 (by omega) (by omega),w64 (by omega) (by omega),fM,fM,dZ,dZ]
 rfl
theorem m6 (h:SJ W s) (x y:Int):SI W (mvS s x y):=by
 have h1:=h.gi.w1
 have h2:=h.gi.l1
 have h3:=h.gw
 exact ⟨⟨h3,h.gi,by simp only [mvS]; omega,by simp only [mvS]; omega,by simp only [mvS]; omega,by simp only [mvS]; omega,h.t0,h.tb,h.b1⟩,fun e=>by cases e⟩
theorem SJ.get (h:SJ W s) {y:Int} (h0:0≤y) (h1:y < s.g.l.length):idx (aQ s).g.l y=some (told (jE s.g.l y))∧gok W (jE s.g.l y):=by
 obtain ⟨n,rfl⟩:=Int.eq_ofNat_of_zero_le h0
 have hn:n < s.g.l.length:=by omega
 rw [show (aQ s).g.l=s.g.l.map told from rfl,fN,List.getElem?_map,List.getElem?_eq_getElem hn]
 exact ⟨by rw [wY hn]; rfl,by rw [wY hn]; exact h.gi.rs _ (List.getElem_mem hn)⟩
theorem SJ.Dr (h:SJ W s) (y:Int):dH s.g y=some (jE s.g.l y):=by
 rw [h.ge]
 exact wZ _ _ _ h.gi.len
def seS (W:Nat) (s:aB) (y:Int) (r:aE):aB:=⟨⟨W,qK W s.g.l y r⟩,s.spot,s.saved,s.waiting,s.top,s.aI,s.aY,s.title⟩
theorem Aw (h:SJ W s) (y:Int) {r:aE} (hr:okR r.cells):SJ W (seS W s y r) :=
 ⟨rfl,CX h.gi y r hr,h.x0,h.x1,h.y0,by simp only [seS,kK]; exact h.y1,h.t0,h.tb,by simp only [seS,kK]; exact h.b1⟩
theorem SJ.Du (h:SJ W s) (y:Int) {r:aE} (hr:r.cells.length≤1000000):eD s.g y r=some (inG s.g.l y,⟨W,qK W s.g.l y r⟩):=by
 rw [h.ge]
 exact CM W h.gi.w2 _ _ _ hr
theorem SJ.HZ (h:SJ W s) (y:Int) {r:aE} (hr:r.cells.length≤1000000):kE (aQ s).g y (told r)=some (⟨W,(qK W s.g.l y r).map told⟩,inG s.g.l y):=by
 rw [show (aQ s).g=⟨W,s.g.l.map told⟩ by show oE s.g=_; rw [oE,h.gw]]
 exact Fe W h.gi.w2 _ _ _ hr (by have:=h.gi.l2; omega)
theorem p6 (h:SJ W s) {r:aE} (hr:r.cells.length≤1000000):hG (aQ s) (told r)=some (aQ (seS W s s.spot.y r)):=by
 unfold hG
 rw [show (aQ s).y=s.spot.y from rfl,h.HZ _ hr,aA]
 rfl
def upS (W:Nat) (s:aB) (n:Int):aB:=⟨⟨W,upL W s.g.l s.top s.aI n (kM s.spot.aM)⟩,s.spot,s.saved,s.waiting,s.top,s.aI,s.aY,s.title⟩
def upF (s:aB) (n:Int):List aE:=if s.top > 0 then [] else upO s.g.l s.top s.aI n
theorem uo (W:Nat) (l:List aE) (t b n q:Int) (h1:1≤l.length):(upL W l t b n q).length=l.length:=by
 unfold upL
 split
 ·rfl
 ·rename_i h
  obtain ⟨e,e1,e2⟩:=oG l t b h h1
  have e3:l.length=(l.take (loS l t)).length+(rgB l t b).length+(l.drop (loS l b+1)).length:=by rw [← List.length_append,← List.length_append,← e]
  rw [List.length_append,List.length_append,uZ]
  omega
theorem wo (W:Nat) (l:List aE) (t b n q:Int) (h1:1≤l.length):(pW W l t b n q).length=l.length:=by
 unfold pW
 split
 ·rfl
 ·rename_i h
  obtain ⟨e,e1,e2⟩:=oG l t b h h1
  have e3:l.length=(l.take (loS l t)).length+(rgB l t b).length+(l.drop (loS l b+1)).length:=by rw [← List.length_append,← List.length_append,← e]
  rw [List.length_append,List.length_append,rZ]
  omega
theorem Gm (h:SJ W s) (n:Int):SJ W (upS W s n) :=
 ⟨rfl,Gi h.gi _ _ _ _,h.x0,h.x1,h.y0,by simp only [upS,uo _ _ _ _ _ _ h.gi.l1]; exact h.y1,h.t0,h.tb,by simp only [upS,uo _ _ _ _ _ _ h.gi.l1]; exact h.b1⟩
theorem Dv (h:SJ W s) (n:Int):so W (upF s n):=by
 unfold upF
 split
 ·exact nJ W
 ·exact ⟨Nat.le_trans (Fl _ _ _ _) h.gi.l2,fun r hr=>h.gi.rs r (Fk hr)⟩
theorem Dw (h:SJ W s) (n:Int):gL s n=some (upF s n,upS W s n):=by
 unfold gL upF
 rw [me,aA]
 have e:eZ s.g s.top s.aI n (kM s.spot.aM)=some (upO s.g.l s.top s.aI n,⟨W,upL W s.g.l s.top s.aI n (kM s.spot.aM)⟩):=by
  rw [h.ge]; exact (w7 h.gi _ _ _ _).1
 rw [e,aA]
 by_cases ht:s.top > 0
 ·rw [decide_eq_true ht,if_pos ht]; rfl
 ·rw [decide_eq_false ht,if_neg ht]; rfl
theorem sr (h:SJ W s):(aQ s).g=⟨W,s.g.l.map told⟩:=by show oE s.g=_; rw [oE,h.gw]
theorem wq (h:SJ W s) (n:Int):jS (aQ s) n=some (aQ (upS W s n),(upF s n).map told):=by
 unfold jS upF
 rw [sq,aA,sr h,show (aQ s).top=s.top from rfl,show (aQ s).aI=s.aI from rfl,(w7 h.gi _ _ _ _).2,aA]
 by_cases ht:s.top > 0
 ·rw [decide_eq_true ht,if_pos ht]; rfl
 ·rw [decide_eq_false ht,if_neg ht]; rfl
def nwS (s:aB):aB:=⟨s.g,s.spot,s.saved,false,s.top,s.aI,s.aY,s.title⟩
theorem k9 (h:SJ W s):SJ W (nwS s):=⟨h.gw,h.gi,h.x0,h.x1,h.y0,h.y1,h.t0,h.tb,h.b1⟩
def liS (W:Nat) (s:aB):aB:=if s.spot.y=s.aI then upS W (nwS s) 1 else mvS (nwS s) s.spot.x (s.spot.y+1)
def liF (s:aB):List aE:=if s.spot.y=s.aI then upF (nwS s) 1 else []
theorem gG (h:SJ W s):Sim W (cU s) (fB (aQ s)) (liF s) (liS W s):=by
 have h1:=h.y1
 have h2:=h.gi.l2
 have h3:=h.y0
 by_cases hy:s.spot.y=s.aI
 ·refine ⟨?_,?_,?_,?_⟩
  ·unfold cU liF liS
   rw [ld hy,cond_true,if_pos hy,if_pos hy,← nwS,Dw (k9 h)]; rfl
  ·unfold fB liF liS
   rw [show ((aQ s).y == (aQ s).aI)=true from ld hy,cond_true,if_pos hy,if_pos hy]
   have e:=wq (k9 h) 1
   rw [show (aK.mk (aQ s).g (aQ s).x (aQ s).y (aQ s).s (aQ s).sX (aQ s).sY (aQ s).sS false (aQ s).top (aQ s).aI (aQ s).aY (aQ s).title)=aQ (nwS s) from rfl,e]; rfl
  ·unfold liS; rw [if_pos hy]; exact ⟨Gm (k9 h) 1,fun e=>by cases e⟩
  ·unfold liF; rw [if_pos hy]; exact Dv (k9 h) 1
 ·refine ⟨?_,?_,?_,?_⟩
  ·unfold cU liF liS
   rw [dO hy,cond_false,if_neg hy,if_neg hy,w64 (by omega) (by omega),← nwS,jZ (k9 h)]; rfl
  ·unfold fB liF liS
   rw [show ((aQ s).y == (aQ s).aI)=false from dO hy,cond_false,if_neg hy,if_neg hy,show (aQ s).y=s.spot.y from rfl,w64 (by omega) (by omega)]
   rw [show (aK.mk (aQ s).g (aQ s).x s.spot.y (aQ s).s (aQ s).sX (aQ s).sY (aQ s).sS false (aQ s).top (aQ s).aI (aQ s).aY (aQ s).title)=aQ (nwS s) from rfl,show (aQ s).x=s.spot.x from rfl,iB (k9 h)]; rfl
  ·unfold liS; rw [if_neg hy]; exact m6 (k9 h) _ _
  ·unfold liF; rw [if_neg hy]; exact nJ W
end
end Go.Tw.X
set_option linter.unusedVariables false
set_option linter.unusedSimpArgs false
namespace Go.Tw.X
open Go Go.Tw
section
variable {W : Nat} {s : aB}
theorem gok.le {W:Nat} {r:aE} (h:gok W r) (hW:W≤1000):r.cells.length≤1000:=by rw [h.1]; exact hW
theorem Dx {l:List aJ} (h:okR l) (q:Int):okR (n7 l q):=rW h _ (show rok 32 from ⟨by decide,by decide⟩)
theorem BI (l:List aJ) (q:Int):(n7 l q).length=l.length:=by simp [n7]
def r1S (s:aB):aE:=⟨(jE s.g.l s.spot.y).cells,true⟩
def r2S (s:aB):aE:=⟨ij 0 (n7 (jE s.g.l s.spot.y).cells (kM s.spot.aM)),true⟩
def r3S (s:aB) (r:Int):aE:=⟨ij 0 (s6 (jE s.g.l s.spot.y).cells s.spot.x r (kM s.spot.aM)),false⟩
theorem SJ.row (h:SJ W s):gok W (jE s.g.l s.spot.y):=(h.get h.y0 h.y1).2
theorem Gn (h:SJ W s):gok W (r1S s):=⟨h.row.1,h.row.2⟩
theorem Gp (h:SJ W s):gok W (r2S s):=⟨by simp only [r2S,jX,BI]; exact h.row.1,oC _ _ (Dx h.row.2 _)⟩
theorem H0 (h:SJ W s) {r:Int} (hr:rok r):gok W (r3S s r):=⟨by simp only [r3S,jX,tO]; exact h.row.1,oC _ _ (Fa h.row.2 _ _ hr)⟩
theorem Dz (h:SJ W s):(r1S s).cells.length≤1000000:=by have:=(Gn h).le h.gi.w2; omega
theorem DA (h:SJ W s):(r2S s).cells.length≤1000000:=by have:=(Gp h).le h.gi.w2; omega
theorem n9 (h:SJ W s):(jE s.g.l s.spot.y).cells.length≤1000:=h.row.le h.gi.w2
theorem DB (h:SJ W s) (r:Int):(r3S s r).cells.length≤1000000:=by have:=n9 h; simp only [r3S,jX,tO]; omega
theorem DD (h:SJ W s):cM s=some (seS W s s.spot.y (r1S s)):=by
 unfold cM
 rw [h.Dr,aA,show ib (jE s.g.l s.spot.y)=some (r1S s) from rfl,aA,h.Du _ (Dz h),aA]
 rfl
theorem DE (h:SJ W s):cN s=some (seS W s s.spot.y (r2S s)):=by
 unfold cN ic
 have hl:=n9 h
 rw [h.Dr,aA,me,aA,fill_eq _ _ (by omega),aA,aA]
 rw [← r2S,h.Du _ (DA h),aA]
 rfl
theorem SJ.xr (h:SJ W s): -9223372036854775808≤s.spot.x∧s.spot.x≤9223372036854775807:=by
 have h1:=h.x0
 have h2:=h.x1
 have h3:=h.gi.w2
 omega
theorem DG (h:SJ W s) (r:Int):cZ s r=some (seS W s s.spot.y (r3S s r)):=by
 unfold cZ ie
 have hl:=n9 h
 rw [h.Dr,aA,me,aA,put_eq _ _ _ _ (by omega) h.xr.1 h.xr.2,aA,aA]
 rw [← r3S,h.Du _ (DB h r),aA]
 rfl
theorem Hd (h:SJ W s):jW (told (jE s.g.l s.spot.y)) (kM s.spot.aM)=some (told (r2S s)):=by
 have hl:=n9 h
 have:=CG (jE s.g.l s.spot.y).cells (jE s.g.l s.spot.y).wrapped (kM s.spot.aM) (by omega)
 rw [told,this]
 rfl
theorem He (h:SJ W s) {r:Int} (hr:rok r):lN (told (jE s.g.l s.spot.y)) s.spot.x r (kM s.spot.aM)=some (told (r3S s r)):=by
 have hl:=n9 h
 have:=E9 (jE s.g.l s.spot.y).cells (jE s.g.l s.spot.y).wrapped s.spot.x r (kM s.spot.aM) (by omega) h.xr.1 h.xr.2 hr.1 hr.2
 rw [told,this]
 rfl
def xS (s:aB) (x:Int):aB:=⟨s.g,⟨x,s.spot.y,s.spot.aM⟩,s.saved,s.waiting,s.top,s.aI,s.aY,s.title⟩
theorem ym (h:SJ W s) {x:Int} (h0:0≤x) (h1:x < W):SJ W (xS s x):=⟨h.gw,h.gi,h0,h1,h.y0,h.y1,h.t0,h.tb,h.b1⟩
theorem w0 (h:SJ W s):(0:Int) < W:=by have:=h.gi.w1; omega
theorem yn (s:aB):(liS W s).spot.aM=s.spot.aM:=by unfold liS; split <;> rfl
theorem Jd (h:SJ W s) (hx:s.spot.x=0):(liS W s).spot.x=0:=by
 have h1:=h.gi.w1
 have h2:=h.gw
 unfold liS
 split
 ·exact hx
 ·simp only [mvS,nwS,hx]
  omega
def aS (W:Nat) (s:aB):aB:=if s.waiting=true∧s.aY=true then liS W (xS (seS W s s.spot.y (r1S s)) 0) else s
def aF (W:Nat) (s:aB):List aE:=if s.waiting=true∧s.aY=true then liF (xS (seS W s s.spot.y (r1S s)) 0) else []
theorem Ax (h:SJ W s):SJ W (xS (seS W s s.spot.y (r1S s)) 0):=ym (Aw h _ (Gn h).2) (Int.le_refl 0) (w0 h)
theorem FI (h:SJ W s):SJ W (aS W s):=by
 unfold aS
 split
 ·exact (gG (Ax h)).i.toSJ
 ·exact h
theorem DH (h:SJ W s):so W (aF W s):=by
 unfold aF
 split
 ·exact (gG (Ax h)).o
 ·exact nJ W
theorem FJ (s:aB):(aS W s).spot.aM=s.spot.aM:=by
 unfold aS
 split
 ·rw [yn]; rfl
 ·rfl
def bS (W:Nat) (s:aB) (n:Int):aB:=if s.spot.x+n > W then (if s.aY=true then liS W (xS (seS W s s.spot.y (r2S s)) 0) else xS s (s.spot.x - 1)) else s
def bF (W:Nat) (s:aB) (n:Int):List aE:=if s.spot.x+n > W then (if s.aY=true then liF (xS (seS W s s.spot.y (r2S s)) 0) else []) else []
theorem yo (h:SJ W s):SJ W (xS (seS W s s.spot.y (r2S s)) 0):=ym (Aw h _ (Gp h).2) (Int.le_refl 0) (w0 h)
theorem Hf (h:SJ W s) {n:Int} (hn:n=1∨n=2) (hw:n≤W):SJ W (bS W s n)∧(bS W s n).spot.x+n≤W∧(bS W s n).spot.aM=s.spot.aM:=by
 have h1:=h.x1
 unfold bS
 split
 ·rename_i hx
  split
  ·refine ⟨(gG (yo h)).i.toSJ,?_,by rw [yn]; rfl⟩
   rw [Jd (yo h) rfl]
   omega
  ·refine ⟨ym h (by omega) (by omega),?_,rfl⟩
   simp only [xS]
   omega
 ·exact ⟨h,by omega,rfl⟩
theorem Ia (h:SJ W s) (n:Int):so W (bF W s n):=by
 unfold bF
 split
 ·split
  ·exact (gG (yo h)).o
  ·exact nJ W
 ·exact nJ W
def cS (W:Nat) (s:aB) (r n:Int):aB:=⟨⟨W,qK W s.g.l s.spot.y (r3S s r)⟩,⟨min (s.spot.x+n) (W - 1),s.spot.y,s.spot.aM⟩,s.saved,s.spot.x+n == W,s.top,s.aI,s.aY,s.title⟩
def prS (W:Nat) (s:aB) (r:Int):aB:=if ofS r=0∨ofS r > W then s else cS W (bS W (aS W s) (ofS r)) r (ofS r)
def prF (W:Nat) (s:aB) (r:Int):List aE:=if ofS r=0∨ofS r > W then [] else aF W s++bF W (aS W s) (ofS r)
theorem xi {a b:Nat} (ha:a≤1000000) (hb:b≤1000000):chk (dB a b 32)=some ():=bH (by omega)
theorem so.l {off:List aE} (h:so W off):off.length≤1000000:=by have:=h.1; omega
theorem Je (h:SJ W s) {n r:Int} (hn:n=1∨n=2) (hx:s.spot.x+n≤W) (hr:rok r):SI W (cS W s r n):=by
 have h1:=h.x0
 have h2:=h.gi.w1
 refine ⟨⟨rfl,CX h.gi _ _ (H0 h hr).2,?_,?_,h.y0,?_,h.t0,h.tb,?_⟩,?_⟩
 ·simp only [cS]; omega
 ·simp only [cS]; omega
 ·simp only [cS,kK]; exact h.y1
 ·simp only [cS,kK]; exact h.b1
 ·intro e
  simp only [cS,beq_iff_eq] at e ⊢
  omega
theorem FK (h:SJ W s) (r:Int):gC s r=some (prF W s r,prS W s r):=by
 have hw2:=h.gi.w2
 unfold gC prF prS
 rw [of_eq,aA,po,aA,h.gw]
 dsimp only
 have e0:((bif (ofS r == 0) then some true else some (decide (ofS r > (W:Int)))):Option Bool)=some (decide (ofS r=0∨ofS r > W)):=by
  by_cases h1:ofS r=0
  ·rw [ld h1,cond_true,decide_eq_true (.inl h1)]
  ·rw [dO h1,cond_false]
   congr 1
   exact decide_eq_decide.2 ⟨.inr,fun h=>h.resolve_left h1⟩
 rw [e0,aA]
 by_cases hc:ofS r=0∨ofS r > W
 ·rw [decide_eq_true hc,cond_true,if_pos hc,if_pos hc]
 ·rw [decide_eq_false hc,cond_false,if_neg hc,if_neg hc]
  have hn:ofS r=1∨ofS r=2:=by rcases oB r with h | h | h <;> omega
  generalize hnn:ofS r=n at hc hn ⊢
  have ea:((bif s.waiting then some s.aY else some false):Option Bool)=some (decide (s.waiting=true∧s.aY=true)):=by cases s.waiting <;> cases s.aY <;> rfl
  rw [ea,aA]
  have eA:((bif decide (s.waiting=true∧s.aY=true) then (Option.bind (cM s) fun a=>(Option.bind (cU (aB.mk a.g (dL.mk 0 a.spot.y a.spot.aM) a.saved a.waiting a.top a.aI a.aY a.title)) fun c=>(Option.bind (chk (dB ([]:List aE).length c.1.length 32)) fun _=>some ((([]:List aE)++c.1),c.2.g,c.2)))) else some ([],s.g,s)):Option ((List aE)×aX×aB))=some (aF W s,(aS W s).g,aS W s):=by
   unfold aF aS
   by_cases hb:s.waiting=true∧s.aY=true
   ·rw [decide_eq_true hb,cond_true,if_pos hb,if_pos hb,DD h,aA]
    have e1:=gG (Ax h)
    rw [show (aB.mk (seS W s s.spot.y (r1S s)).g (dL.mk 0 (seS W s s.spot.y (r1S s)).spot.y (seS W s s.spot.y (r1S s)).spot.aM) (seS W s s.spot.y (r1S s)).saved (seS W s s.spot.y (r1S s)).waiting (seS W s s.spot.y (r1S s)).top (seS W s s.spot.y (r1S s)).aI (seS W s s.spot.y (r1S s)).aY (seS W s s.spot.y (r1S s)).title)=xS (seS W s s.spot.y (r1S s)) 0 from rfl,e1.p,aA]
    dsimp only
    rw [xi (by simp) e1.o.l,aA,List.nil_append]
   ·rw [decide_eq_false hb,cond_false,if_neg hb,if_neg hb]
  rw [eA,aA]
  dsimp only
  have hA:=FI h
  have hAx:=hA.x1
  have hA0:=hA.x0
  have hFo:=(DH h).l
  generalize hs1:aS W s=s1 at *
  generalize aF W s=o1 at *
  rw [w64 (x:=s1.spot.x+n) (by omega) (by omega)]
  have hB:=Hf hA hn (by omega:n≤W)
  have eB: ∀ g:aX,g=s1.g→((bif (decide (s1.spot.x+n > (W:Int))) then (bif s1.aY then (Option.bind (cN (aB.mk g s1.spot s1.saved s1.waiting s1.top s1.aI s1.aY s1.title)) fun b=>(Option.bind (cU (aB.mk b.g (dL.mk 0 b.spot.y b.spot.aM) b.saved b.waiting b.top b.aI b.aY b.title)) fun d=>(Option.bind (chk (dB o1.length d.1.length 32)) fun _=>some ((o1++d.1),d.2.g,d.2)))) else some (o1,g,(aB.mk g (dL.mk (IntKind.i64.wrap (s1.spot.x - 1)) s1.spot.y s1.spot.aM) s1.saved s1.waiting s1.top s1.aI s1.aY s1.title))) else some (o1,g,(aB.mk g s1.spot s1.saved s1.waiting s1.top s1.aI s1.aY s1.title))):Option ((List aE)×aX×aB))=some (o1++bF W s1 n,(bS W s1 n).g,bS W s1 n):=by
   rintro g rfl
   unfold bF bS
   by_cases hx:s1.spot.x+n > W
   ·rw [decide_eq_true hx,cond_true,if_pos hx,if_pos hx]
    cases hwr:s1.aY with
    | true =>
     rw [cond_true,if_pos rfl,if_pos rfl]
     have e2:(aB.mk s1.g s1.spot s1.saved s1.waiting s1.top s1.aI true s1.title)=s1:=by rw [← hwr]
     rw [e2,DE hA,aA]
     have e1:=gG (yo hA)
     rw [show (aB.mk (seS W s1 s1.spot.y (r2S s1)).g (dL.mk 0 (seS W s1 s1.spot.y (r2S s1)).spot.y (seS W s1 s1.spot.y (r2S s1)).spot.aM) (seS W s1 s1.spot.y (r2S s1)).saved (seS W s1 s1.spot.y (r2S s1)).waiting (seS W s1 s1.spot.y (r2S s1)).top (seS W s1 s1.spot.y (r2S s1)).aI (seS W s1 s1.spot.y (r2S s1)).aY (seS W s1 s1.spot.y (r2S s1)).title)=xS (seS W s1 s1.spot.y (r2S s1)) 0 from rfl,e1.p,aA]
     dsimp only
     rw [xi hFo e1.o.l,aA]
    | false =>
     rw [cond_false,if_neg (by simp),if_neg (by simp),w64 (by omega) (by omega),List.append_nil]
     simp only [xS,hwr]
   ·rw [decide_eq_false hx,cond_false,if_neg hx,if_neg hx,List.append_nil]
  rw [eB _ rfl,aA]
  dsimp only
  obtain ⟨hB1,hB2,hB3⟩:=hB
  have hBx:=hB1.x0
  generalize bS W s1 n=s2 at *
  generalize o1++bF W s1 n=o2
  rw [show (aB.mk s2.g s2.spot s2.saved s2.waiting s2.top s2.aI s2.aY s2.title)=s2 from rfl,DG hB1,aA]
  unfold cS
  simp only [seS]
  rw [w64 (by omega) (by omega),w64 (by omega) (by omega),dZ]
end
end Go.Tw.X
set_option linter.unusedVariables false
set_option linter.unusedSimpArgs false
namespace Go.Tw.X
open Go Go.Tw
section
variable {W : Nat} {s : aB}
theorem SJ.FL (h:SJ W s):idx (aQ s).g.l (aQ s).y=some (told (jE s.g.l s.spot.y)):=(h.get h.y0 h.y1).1
theorem Hg (h:SJ W s) {r:Int} (hr:rok r):l7 (aQ s) r=some (aQ (prS W s r),(prF W s r).map told):=by
 have hw2:=h.gi.w2
 unfold l7 prF prS
 rw [CH r hr.1 hr.2,aA,show (aQ s).g.w=(W:Int) from h.gw]
 have e0:((bif (ofS r == 0) then some true else some (decide (ofS r > (W:Int)))):Option Bool)=some (decide (ofS r=0∨ofS r > W)):=by
  by_cases h1:ofS r=0
  ·rw [ld h1,cond_true,decide_eq_true (.inl h1)]
  ·rw [dO h1,cond_false]
   congr 1
   exact decide_eq_decide.2 ⟨.inr,fun h=>h.resolve_left h1⟩
 rw [e0,aA]
 by_cases hc:ofS r=0∨ofS r > W
 ·rw [decide_eq_true hc,cond_true,if_pos hc,if_pos hc]; rfl
 ·rw [decide_eq_false hc,cond_false,if_neg hc,if_neg hc,sq,aA]
  have hn:ofS r=1∨ofS r=2:=by rcases oB r with h | h | h <;> omega
  generalize hnn:ofS r=n at hc hn ⊢
  have ea:((bif (aQ s).waiting then some (aQ s).aY else some false):Option Bool)=some (decide (s.waiting=true∧s.aY=true)):=by
   show ((bif s.waiting then some s.aY else some false):Option Bool)=_
   cases s.waiting <;> cases s.aY <;> rfl
  rw [ea,aA]
  have eA:((bif decide (s.waiting=true∧s.aY=true) then (Option.bind (idx (aQ s).g.l (aQ s).y) fun e=>(Option.bind (hG (aQ s) (aR.mk e.l true)) fun a=>(Option.bind (fB (aK.mk a.g 0 a.y a.s a.sX a.sY a.sS a.waiting a.top a.aI a.aY a.title)) fun c=>(Option.bind (chk (dB ([]:List aR).length c.2.length 32)) fun _=>some ((([]:List aR)++c.2),c.1))))) else some (([]:List aR),aQ s)):Option ((List aR)×aK))=some ((aF W s).map told,aQ (aS W s)):=by
   unfold aF aS
   by_cases hb:s.waiting=true∧s.aY=true
   ·rw [decide_eq_true hb,cond_true,if_pos hb,if_pos hb,h.FL,aA]
    rw [show (aR.mk (told (jE s.g.l s.spot.y)).l true)=told (r1S s) from rfl,p6 h (Dz h),aA]
    have e1:=gG (Ax h)
    have e2:=e1.q
    rw [show aQ (xS (seS W s s.spot.y (r1S s)) 0)=(aK.mk (aQ (seS W s s.spot.y (r1S s))).g 0 (aQ (seS W s s.spot.y (r1S s))).y (aQ (seS W s s.spot.y (r1S s))).s (aQ (seS W s s.spot.y (r1S s))).sX (aQ (seS W s s.spot.y (r1S s))).sY (aQ (seS W s s.spot.y (r1S s))).sS (aQ (seS W s s.spot.y (r1S s))).waiting (aQ (seS W s s.spot.y (r1S s))).top (aQ (seS W s s.spot.y (r1S s))).aI (aQ (seS W s s.spot.y (r1S s))).aY (aQ (seS W s s.spot.y (r1S s))).title) from rfl] at e2
    rw [e2,aA]
    dsimp only
    rw [xi (by simp) (by rw [List.length_map]; exact e1.o.l),aA,List.nil_append]
   ·rw [decide_eq_false hb,cond_false,if_neg hb,if_neg hb]; rfl
  rw [eA,aA]
  dsimp only
  have hA:=FI h
  have hst:(aS W s).spot.aM=s.spot.aM:=FJ s
  have hAx:=hA.x1
  have hA0:=hA.x0
  have hFo:=(DH h).l
  generalize hs1:aS W s=s1 at *
  generalize aF W s=o1 at *
  have hB:=Hf hA hn (by omega:n≤W)
  have eb:((bif (n == 2) then some ((aQ s1).x == (IntKind.i64.wrap ((aQ s1).g.w - 1))) else some false):Option Bool)=some (decide (s1.spot.x+n > W)):=by
   rw [show (aQ s1).g.w=(W:Int) from hA.gw,show (aQ s1).x=s1.spot.x from rfl,w64 (by omega) (by omega)]
   by_cases h2:n=2
   ·rw [ld h2,cond_true]
    by_cases hx:s1.spot.x=(W:Int) - 1
    ·rw [ld hx,decide_eq_true (by omega)]
    ·rw [dO hx,decide_eq_false (by omega)]
   ·rw [dO h2,cond_false,decide_eq_false (by omega)]
  rw [eb,aA]
  have eB:((bif decide (s1.spot.x+n > (W:Int)) then (bif (aQ s1).aY then (Option.bind (idx (aQ s1).g.l (aQ s1).y) fun f=>(Option.bind (jW f (kM s.spot.aM)) fun i=>(Option.bind (hG (aQ s1) i) fun b=>(Option.bind (fB (aK.mk b.g 0 b.y b.s b.sX b.sY b.sS b.waiting b.top b.aI b.aY b.title)) fun d=>(Option.bind (chk (dB (o1.map told).length d.2.length 32)) fun _=>some ((o1.map told++d.2),d.1)))))) else some (o1.map told,(aK.mk (aQ s1).g (IntKind.i64.wrap ((aQ s1).x - 1)) (aQ s1).y (aQ s1).s (aQ s1).sX (aQ s1).sY (aQ s1).sS (aQ s1).waiting (aQ s1).top (aQ s1).aI (aQ s1).aY (aQ s1).title))) else some (o1.map told,aQ s1)):Option ((List aR)×aK))=some ((o1++bF W s1 n).map told,aQ (bS W s1 n)):=by
   unfold bF bS
   by_cases hx:s1.spot.x+n > W
   ·rw [decide_eq_true hx,cond_true,if_pos hx,if_pos hx,show (aQ s1).aY=s1.aY from rfl]
    cases hwr:s1.aY with
    | true =>
     rw [cond_true,if_pos rfl,if_pos rfl,hA.FL,aA,← hst,Hd hA,aA,p6 hA (DA hA),aA]
     have e1:=gG (yo hA)
     have e2:=e1.q
     rw [show aQ (xS (seS W s1 s1.spot.y (r2S s1)) 0)=(aK.mk (aQ (seS W s1 s1.spot.y (r2S s1))).g 0 (aQ (seS W s1 s1.spot.y (r2S s1))).y (aQ (seS W s1 s1.spot.y (r2S s1))).s (aQ (seS W s1 s1.spot.y (r2S s1))).sX (aQ (seS W s1 s1.spot.y (r2S s1))).sY (aQ (seS W s1 s1.spot.y (r2S s1))).sS (aQ (seS W s1 s1.spot.y (r2S s1))).waiting (aQ (seS W s1 s1.spot.y (r2S s1))).top (aQ (seS W s1 s1.spot.y (r2S s1))).aI (aQ (seS W s1 s1.spot.y (r2S s1))).aY (aQ (seS W s1 s1.spot.y (r2S s1))).title) from rfl] at e2
     rw [e2,aA]
     dsimp only
     rw [xi (by rw [List.length_map]; exact hFo) (by rw [List.length_map]; exact e1.o.l),aA,List.map_append]
    | false =>
     rw [cond_false,if_neg (by simp),if_neg (by simp),show (aQ s1).x=s1.spot.x from rfl,w64 (by omega) (by omega),List.append_nil]
     simp only [xS,hwr,aQ]
   ·rw [decide_eq_false hx,cond_false,if_neg hx,if_neg hx,List.append_nil]
  rw [eB,aA]
  dsimp only
  obtain ⟨hB1,hB2,hB3⟩:=hB
  have hBx:=hB1.x0
  have hst2:(bS W s1 n).spot.aM=s.spot.aM:=by rw [hB3,hst]
  generalize bS W s1 n=s2 at *
  generalize o1++bF W s1 n=o2
  rw [hB1.FL,aA,show (aQ s2).x=s2.spot.x from rfl,← hst2,He hB1 hr,aA,p6 hB1 (DB hB1 r),aA]
  rw [show (aQ (seS W s2 s2.spot.y (r3S s2 r))).x=s2.spot.x from rfl,show (aQ (seS W s2 s2.spot.y (r3S s2 r))).g.w=(W:Int) from rfl,w64 (by omega) (by omega),w64 (by omega) (by omega)]
  unfold cS
  by_cases hx:s2.spot.x+n=W
  ·rw [ld hx,cond_true,aA,show min (s2.spot.x+n) ((W:Int) - 1)=s2.spot.x+n - 1 by omega]; rfl
  ·rw [dO hx,cond_false,aA,show min (s2.spot.x+n) ((W:Int) - 1)=s2.spot.x+n by omega]; rfl
theorem Ib (h:SI W s) {r:Int} (hr:rok r):SI W (prS W s r):=by
 unfold prS
 split
 ·exact h
 ·rename_i hc
  have hn:ofS r=1∨ofS r=2:=by rcases oB r with h | h | h <;> omega
  have hB:=Hf (FI h.toSJ) hn (by omega)
  exact Je hB.1 hn hB.2.1 hr
theorem Hh (h:SJ W s) {r:Int}:(prF W s r).length≤2000 ∧ ∀ q∈prF W s r,gok W q:=by
 unfold prF
 split
 ·exact ⟨by simp,fun r hr=>by cases hr⟩
 ·have h1:=DH h
  have h2:=Ia (FI h) (ofS r)
  refine ⟨by rw [List.length_append]; have:=h1.1; have:=h2.1; omega,fun q hq=> ?_⟩
  rcases List.mem_append.1 hq with hq | hq
  ·exact h1.2 q hq
  ·exact h2.2 q hq
end
end Go.Tw.X

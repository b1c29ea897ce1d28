import Derived.Test.YtmekokacemcfoaaGreatDoorXp1
import Derived.Test.YtmekokacemcfoaaGreatDoorFw2
import Derived.Laws.BitsLemmas
import Derived.Laws.Strings
set_option linter.unusedVariables false
set_option linter.unusedSimpArgs false
namespace Go.Tw.X
open Go Go.Tw
def tc (c:aG):aP:=⟨c.rune,c.aK,c.part⟩
def told (r:aE):aQ:=⟨r.cells.map tc,r.wrapped⟩
def zB (r:List aG):Int:=match r with
 | []=>0
 | d::_=>d.part
def sU (p:Int) (c:aG) (r:List aG):Bool :=
 bif c.part == 1 then (zB r != 2) else bif c.part == 2 then (p != 1) else bif c.part == 3 then !r.isEmpty else false
def qd (p:Int) (c:aG) (r:List aG):aG:=bif sU p c r then ⟨32,c.aK,0⟩ else c
def fD:Int→List aG→List aG
 | _,[]=>[]
 | p,c::r=>qd p c r::fD (qd p c r).part r
theorem ic: ∀ (l:List aG) (p:Int),(fD p l).length=l.length
 | [],_=>rfl
 | c::r,p=>by simp [fD,ic r]
def jF (l:List aG):Int:=oL 0 (l.map (·.part))
theorem rU (l:List aG) (c:aG):jF (l++[c])=c.part:=by simp [jF,rT]
theorem qe {α β:Type} (f:α→β) (d:α): ∀ l:List α,oL (f d) (l.map f)=f (oL d l)
 | []=>rfl
 | [x]=>rfl
 | _::y::l=>qe f d (y::l)
theorem nF (s:Int):fj s=some ⟨32,s,0⟩:=rfl
theorem yj (l r:List aG) (c:aG) (h:(l++c::r).length≤1000000):ja (l++c::r) (l.length:Int)=some (sU (jF l) c r):=by
 have hl:(l++c::r).length=l.length+r.length+1:=by simp; omega
 unfold ja
 rw [jK,aB]
 rw [w64 (x:=(l.length:Int)+1) (by omega) (by omega),w64 (x:=(l.length:Int) - 1) (by omega) (by omega),w64 (x:=((l++c::r).length:Int) - 1) (by omega) (by omega),uM,hl]
 unfold sU
 cases h1:(c.part == 1) with
 | true =>
  simp only [cond_true]
  cases r with
  | nil=>simp [zB]
  | cons d r =>
   have hd:decide ((l.length:Int)+1≥((l.length+(d::r).length+1:Nat):Int))=false:=decide_eq_false (by simp only [List.length_cons]; omega)
   rw [hd]
   simp [zB]
 | false =>
  simp only [cond_false]
  cases h2:(c.part == 2) with
  | true =>
   simp only [cond_true]
   cases hl0:l with
   | nil=>simp [jF,oL]
   | cons a t =>
    have hne:(((a::t).length:Int) == 0)=false:=by simp; omega
    rw [hne,cond_false,uL (a::t) r ⟨0,0,0⟩ c (by simp)]
    simp only [aB]
    rw [jF,← qe (fun c:aG=>c.part) ⟨0,0,0⟩]
  | false =>
   simp only [cond_false]
   cases h3:(c.part == 3) with
   | true =>
    simp only [cond_true]
    cases r with
    | nil=>simp
    | cons d r=>simp; omega
   | false=>rfl
theorem k9 (l:List aG) (h:l.length≤1000000):dH l=some ⟨fD 0 l,false⟩:=by
 unfold dH
 have key: ∀ (r d:List aG),(d++r).length=l.length→iter (σ:=(List aG)×Int) (ρ:=(List aG)) (fun s=>(bif (decide (s.2 < (l.length:Int))) then (Option.bind ((Option.bind (ja s.1 s.2) fun r1=>(bif r1 then (Option.bind (idx s.1 s.2) fun x=>(Option.bind (fj x.aK) fun r2=>(Option.bind (idx s.1 s.2) fun _=>some (s.1.set s.2.toNat r2)))) else some s.1)):Option (List aG)) fun e=>some (.inl (e,(IntKind.i64.wrap (s.2+1))))) else some (.inr s.1))) (d++r,(d.length:Int))=some (d++fD (jF d) r):=by
  intro r
  induction r with
  | nil =>
   intro d hd
   simp at hd
   rw [dx (r:=d)]
   ·simp [fD]
   ·simp [hd]
  | cons c r ih =>
   intro d hd
   have hdl:d.length < l.length:=by rw [← hd]; simp
   have hlen:(d++qd (jF d) c r::r).length=l.length:=by rw [← hd]; simp
   rw [eL (s':=((d++[qd (jF d) c r])++r,((d++[qd (jF d) c r]).length:Int)))]
   ·rw [ih (d++[qd (jF d) c r]) (by simpa using hlen),rU]
    simp [fD]
   ·have hc:decide ((d.length:Int) < (l.length:Int))=true:=by simp; omega
    simp only [hc,cond_true]
    rw [yj d r c (by rw [hd]; exact h),jK]
    simp only [aB,nF]
    rw [w64 (by omega) (by omega)]
    unfold qd
    cases sU (jF d) c r with
    | true=>simp
    | false=>simp
 have:=key l [] (by simp)
 simp only [List.nil_append,List.length_nil,Int.ofNat_zero] at this
 rw [this]
 rfl
end Go.Tw.X
set_option linter.unusedVariables false
set_option linter.unusedSimpArgs false
namespace Go.Tw.X
open Go Go.Tw
theorem zC (n:Int):IntKind.u64.wrap n=n % 18446744073709551616:=by simp [IntKind.wrap,IntKind.bits,IntKind.signed]
theorem BC (n:Int) (h0:0≤n) (h1:n < 2 ^ 63):IntKind.u64.wrap n=n:=by rw [zC]; omega
theorem vQ (y:Int) (h0:0≤y) (h1:y < 4294967296):Go.bits .and .u64 y 4294967295=y:=by
 have h:=bits_mask .u64 63 (by decide) BC 32 (by decide) y h0 (by omega)
 have e:((2:Int) ^ 32 - 1)=4294967295:=by decide
 have e2:((2:Int) ^ 32)=4294967296:=by decide
 rw [e,e2] at h
 rw [h]
 omega
theorem zD {x:Int} (h0:0≤x) (h1:x < 18446744073709551616):IntKind.u64.wrap x=x:=by rw [zC]; omega
theorem vR (n:Int) (h0:0≤n) (h1:n≤1000000):lu 1 n=some (0,n):=by
 have e32:(2:Int) ^ (min 32 64)=4294967296:=by decide
 have f1:Int.fdiv 1 4294967296=0:=by decide
 have f2:Int.fdiv n 4294967296=0:=by rw [Int.fdiv_eq_ediv_of_nonneg _ (by decide)]; omega
 have f0:Int.fdiv 0 4294967296=0:=by decide
 have z0:IntKind.u64.wrap 0=0:=by rw [zC]; rfl
 have m0:Go.bits .and .u64 0 4294967295=0:=vQ 0 (by omega) (by omega)
 have m1:Go.bits .and .u64 1 4294967295=1:=vQ 1 (by omega) (by omega)
 have mn:=vQ n h0 (by omega)
 have un:IntKind.u64.wrap n=n:=zD h0 (by omega)
 unfold lu kZ
 simp only [e32,f1,f2,m1,mn,Int.zero_mul,Int.mul_zero,Int.one_mul,z0,un,f0,Int.add_zero,Int.zero_add,m0,aB]
theorem yk (c:aG) (n:Int) (h0:0≤n) (h1:n≤1000000):dT [c] n=some (List.replicate n.toNat c):=by
 unfold dT
 have hn:decide (n < 0)=false:=decide_eq_false (by omega)
 have u1:IntKind.u64.wrap (([c].length:Nat):Int)=1:=zD (by simp) (by simp)
 rw [hn,cond_false,u1,zD h0 (by omega),vR n h0 h1]
 simp only [aB]
 have g1:decide ((0:Int) > 0)=false:=by decide
 have g2:decide (n > 9223372036854775807)=false:=decide_eq_false (by omega)
 rw [g1,cond_false,aB,g2,cond_false,w64 (by omega) (by omega),yh h0 (by omega) (by omega),aB]
 obtain ⟨k,rfl⟩: ∃ k:Nat,n=k:=⟨n.toNat,by omega⟩
 simp only [Int.toNat_natCast,List.length_cons,List.length_nil,List.length_replicate]
 have key: ∀ m j,k - j=m→j≤k→(1≤j∨k=0)→iter (σ:=(List aG)×Int) (ρ:=(List aG)) (fun a=>(bif (decide (a.2 < (a.1.length:Int))) then (Option.bind (chk (cF a.2 (a.1.length:Int) a.1.length)) fun _=>(Option.bind (chk (cF 0 a.2 a.1.length)) fun _=>some (.inl ((sT a.1 a.2.toNat),(IntKind.i64.wrap (a.2+((Nat.min a.2.toNat (a.1.length - a.2.toNat):Nat):Int))))))) else some (.inr a.1))) (List.replicate j c++List.replicate (k - j) (aG.mk 0 0 0),(j:Int))=some (List.replicate k c):=by
  intro m
  induction m using Nat.strongRecOn with
  | _ m ih =>
   intro j hm hj h1j
   have hlen:(List.replicate j c++List.replicate (k - j) (aG.mk 0 0 0)).length=k:=by simp; omega
   by_cases hjk:j < k
   ·have hmin:Nat.min j (k - j)=min j (k - j):=rfl
    rw [eL (s':=(List.replicate (j+min j (k - j)) c++List.replicate (k - (j+min j (k - j))) (aG.mk 0 0 0),((j+min j (k - j):Nat):Int)))]
    ·exact ih (k - (j+min j (k - j))) (by omega) _ rfl (by omega) (by omega)
    ·have hc:decide ((j:Int) < ((List.replicate j c++List.replicate (k - j) (aG.mk 0 0 0)).length:Int))=true:=by rw [hlen]; simp; omega
     simp only [hc,cond_true]
     rw [hlen,bK (by omega) (by omega) (by omega),aB,bK (by omega) (by omega) (by omega),aB,Int.toNat_natCast,hmin,w64 (by omega) (by omega)]
     congr 2
     refine Prod.ext ?_ ?_
     ·show sT _ _=_
      unfold sT
      rw [hlen]
      have t1:(List.replicate j c++List.replicate (k - j) (aG.mk 0 0 0)).take j=List.replicate j c:=by rw [List.take_left']; simp
      rw [t1,List.take_replicate,List.drop_append,List.drop_of_length_le (by simp),List.nil_append,List.length_replicate,List.drop_replicate,List.replicate_append_replicate,Nat.min_comm (k - j) j]
      congr 2
      omega
     ·show ((j:Int)+((min j (k - j):Nat):Int))=_
      omega
   ·have hjk':j=k:=by omega
    subst hjk'
    rw [dx (r:=List.replicate j c)]
    simp
 have hs:cpy (List.replicate k (aG.mk 0 0 0)) [c]=List.replicate (min 1 k) c++List.replicate (k - min 1 k) (aG.mk 0 0 0):=by
  unfold cpy
  cases k with
  | zero=>simp
  | succ k=>simp [Nat.min_eq_left]
 have hmin:Nat.min (0+1) k=min 1 k:=rfl
 rw [hs,hmin,key _ (min 1 k) rfl (by omega) (by omega),aB]
theorem n6 (n s:Int) (h:n≤1000000):gv n s=some (List.replicate n.toNat ⟨32,s,0⟩):=by
 unfold gv
 rw [nF,aB]
 rw [ey,yk _ (max 0 n) (by omega) (by omega),aB]
 have:(max 0 n).toNat=n.toNat:=by omega
 rw [this]
theorem n7 (n lo hi:Int):gO n lo hi=some (max lo (min n hi)):=by
 unfold gO
 rw [ey,dv]
theorem uN (l:List aG) (h:l.length≤1000000):dF l=some l:=by
 unfold dF
 rw [bI (by simp; omega),aB]
 rfl
theorem mh (r:aE) (h:r.cells.length≤1000000):dK r=some r.cells:=by
 unfold dK
 rw [uN _ h,aB]
def cA (l:List aG) (at_ n:Int):Int:=if at_ < 0∨at_≥l.length then 0 else max 0 (min n (l.length - at_))
theorem tj (r:aE) (at_ n:Int) (h:r.cells.length≤1000000) (ha: -9223372036854775808≤at_) (hb:at_≤9223372036854775807):fT r at_ n=some (cA r.cells at_ n):=by
 unfold fT cA
 by_cases h1:at_ < 0
 ·rw [if_pos (.inl h1)]
  simp [h1]
 ·by_cases h2:at_≥r.cells.length
  ·rw [if_pos (.inr h2)]
   simp [h1,h2]
  ·rw [if_neg (by omega)]
   have e1:decide (at_ < 0)=false:=decide_eq_false h1
   have e2:decide (at_≥(r.cells.length:Int))=false:=decide_eq_false h2
   rw [e1,cond_false,e2,aB,cond_false,w64 (by omega) (by omega),n7,aB]
end Go.Tw.X
set_option linter.unusedVariables false
set_option linter.unusedSimpArgs false
namespace Go.Tw.X
open Go Go.Tw
def oz (r:Int):List fh→Nat
 | []=>0
 | s::l=>if s.to < r then oz r l+1 else 0
def inS (l:List fh) (r:Int):Bool:=l.any fun s=>decide (s.from_≤r∧r≤s.to)
def rising:List fh→Bool
 | []=>true
 | [s]=>true
 | s::t::l=>decide (s.to < t.from_∧t.from_≤t.to) && rising (t::l)
theorem tU (r:Int): ∀ l:List fh,oz r l≤l.length
 | []=>Nat.le_refl _
 | s::l=>by
  unfold oz
  have:=tU r l
  split <;> simp <;> omega
theorem qL {s:fh} {l:List fh} (h:rising (s::l)=true):rising l=true:=by
 cases l with
 | nil=>rfl
 | cons t l=>simp only [rising,Bool.and_eq_true] at h; exact h.2
theorem oY {s:fh}: ∀ {l:List fh},rising (s::l)=true → ∀ t∈l,s.to < t.from_∧t.from_≤t.to
 | [],_,t,ht=>by cases ht
 | u::l,h,t,ht=>by
  simp only [rising,Bool.and_eq_true,decide_eq_true_eq] at h
  rcases List.mem_cons.1 ht with rfl | ht
  ·exact h.1
  ·have:=oY h.2 t ht
   have:=h.1
   omega
theorem wZ (r:Int): ∀ {l:List fh},rising l=true → ∀ (i:Nat) (s:fh),l[i]?=some s→(s.to < r↔i < oz r l)
 | [],_,i,s,h=>by simp at h
 | u::l,hr,i,s,h=>by
  cases i with
  | zero =>
   simp at h
   subst h
   unfold oz
   split <;> simp [*]
  | succ i =>
   simp at h
   have ih:=wZ r (qL hr) i s h
   unfold oz
   split
   ·rw [ih]; omega
   ·have:=oY hr s (List.mem_of_getElem? h)
    constructor
    ·intro; omega
    ·intro; omega
theorem w7 (r:Int): ∀ {l:List fh},rising l=true→inS l r=(match l[oz r l]? with | some s=>decide (s.from_≤r) | none=>false)
 | [],_=>rfl
 | u::l,hr=>by
  have ih:=w7 r (qL hr)
  unfold inS at ih ⊢
  unfold oz
  by_cases hu:u.to < r
  ·rw [if_pos hu,List.any_cons,ih]
   have:decide (u.from_≤r∧r≤u.to)=false:=by simp; omega
   simp [this]
  ·rw [if_neg hu,List.any_cons]
   simp only [List.getElem?_cons_zero]
   by_cases hf:u.from_≤r
   ·have:decide (u.from_≤r∧r≤u.to)=true:=by simp; omega
    rw [this,Bool.true_or]
    simp [hf]
   ·have h1:decide (u.from_≤r∧r≤u.to)=false:=by simp; omega
    have h2:(l.any fun s=>decide (s.from_≤r∧r≤s.to))=false:=by
     rw [List.any_eq_false]
     intro t ht
     have:=oY hr t ht
     simp
     omega
    rw [h1,h2]
    simp [hf]
theorem CK (l:List fh) (r:Int) (hr:rising l=true) (hl:l.length≤1000000):lj l r=some (inS l r):=by
 unfold lj
 have key: ∀ m lo hi,hi - lo=m→lo≤oz r l→oz r l≤hi→hi≤l.length→iter (σ:=Int×Int) (ρ:=Int) (fun a=>(bif (decide (a.1 < a.2)) then (Option.bind (idx l (IntKind.i64.wrap ((IntKind.i64.wrap (a.1+a.2)).tdiv 2))) fun b=>(bif (decide (b.to < r)) then some (.inl ((IntKind.i64.wrap ((IntKind.i64.wrap ((IntKind.i64.wrap (a.1+a.2)).tdiv 2))+1)),a.2)) else some (.inl (a.1,(IntKind.i64.wrap ((IntKind.i64.wrap (a.1+a.2)).tdiv 2)))))) else some (.inr a.1))) ((lo:Int),(hi:Int))=some ((oz r l:Nat):Int):=by
  intro m
  induction m using Nat.strongRecOn with
  | _ m ih =>
   intro lo hi hm h1 h2 h3
   by_cases hlt:lo < hi
   ·have e:(IntKind.i64.wrap ((IntKind.i64.wrap ((lo:Int)+(hi:Int))).tdiv 2))=(((lo+hi) / 2:Nat):Int):=by
     rw [w64 (x:=(lo:Int)+(hi:Int)) (by omega) (by omega)]
     have e1:((lo:Int)+(hi:Int)).tdiv 2=(((lo+hi) / 2:Nat):Int):=by
      rw [Int.tdiv_eq_ediv_of_nonneg (by omega)]
      omega
     rw [e1,w64 (by omega) (by omega)]
    have hmid:(lo+hi) / 2 < l.length:=by omega
    have hc:decide ((lo:Int) < (hi:Int))=true:=by simp; omega
    have hx:idx l (((lo+hi) / 2:Nat):Int)=some l[(lo+hi) / 2]:=by rw [eC]; simp [hmid]
    have hat:=wZ r hr ((lo+hi) / 2) l[(lo+hi) / 2] (by simp [hmid])
    by_cases hto:(l[(lo+hi) / 2]).to < r
    ·rw [eL (s':=((((lo+hi) / 2+1:Nat):Int),(hi:Int)))]
     ·have:=hat.1 hto
      exact ih (hi - ((lo+hi) / 2+1)) (by omega) _ _ rfl (by omega) h2 h3
     ·simp only [hc,cond_true,e,hx,aB,hto,decide_true]
      rw [w64 (by omega) (by omega)]
      rfl
    ·rw [eL (s':=((lo:Int),(((lo+hi) / 2:Nat):Int)))]
     ·have: ¬ (lo+hi) / 2 < oz r l:=fun h=>hto (hat.2 h)
      exact ih ((lo+hi) / 2 - lo) (by omega) _ _ rfl h1 (by omega) (by omega)
     ·simp only [hc,cond_true,e,hx,aB,hto,decide_false,cond_false]
   ·have:lo=oz r l:=by omega
    rw [dx (r:=(lo:Int)),this]
    have hc:decide ((lo:Int) < (hi:Int))=false:=by simp; omega
    simp only [hc,cond_false]
 have h0:=key (l.length - 0) 0 l.length rfl (Nat.zero_le _) (tU r l) (Nat.le_refl _)
 have e0:((0:Nat):Int)=0:=rfl
 rw [e0] at h0
 rw [h0,aB,w7 r hr]
 have hle:=tU r l
 by_cases hlt:oz r l < l.length
 ·have hc:decide (((oz r l:Nat):Int) < (l.length:Int))=true:=by simp; omega
  rw [hc,cond_true,eC,List.getElem?_eq_getElem hlt]
  rfl
 ·have hc:decide (((oz r l:Nat):Int) < (l.length:Int))=false:=by simp; omega
  rw [hc,cond_false,List.getElem?_eq_none (by omega)]
  rfl
def ofS (r:Int):Int:=if inS bZ r then 0 else if inS cC r then 2 else 1
theorem of_eq (r:Int):lk r=some (ofS r):=by
 unfold lk
 rw [CK bZ r (by decide) (by decide),CK cC r (by decide) (by decide)]
 simp only [aB,ofS]
 cases inS bZ r <;> cases inS cC r <;> rfl
theorem mi (r:Int):ofS r=0∨ofS r=1∨ofS r=2:=by
 unfold ofS
 split
 ·exact .inl rfl
 ·split
  ·exact .inr (.inr rfl)
  ·exact .inr (.inl rfl)
end Go.Tw.X
set_option linter.unusedVariables false
set_option linter.unusedSimpArgs false
namespace Go.Tw.X
open Go Go.Tw
theorem BD (n:Int) (h0:0≤n) (h1:n≤1000000):eG n=some []:=by
 unfold eG
 have hn:decide (n < 0)=false:=decide_eq_false (by omega)
 have z:IntKind.i64.wrap (0 - 0)=0:=by decide
 rw [hn,cond_false,z,w64 (by omega) (by omega),Int.sub_zero]
 by_cases hp:n > 0
 ·have:decide (n > 0)=true:=decide_eq_true hp
  rw [this,cond_true,yi hp (by omega) (by omega),aB,bK (by omega) (by omega) (by omega),aB]
  rfl
 ·have:decide (n > 0)=false:=decide_eq_false hp
  rw [this,cond_false]
  rfl
def total:List (List aG)→Nat
 | []=>0
 | x::r=>x.length+total r
theorem mW (a b:List (List aG)):total (a++b)=total a+total b:=by
 induction a with
 | nil=>simp [total]
 | cons x a ih=>simp only [List.cons_append,total,ih]; omega
theorem rV (a:List (List aG)):a.flatten.length=total a:=by
 induction a with
 | nil=>rfl
 | cons x a ih=>simp only [List.flatten_cons,List.length_append,total,ih]
theorem tk (ls:List (List aG)) (h:total ls≤1000000) (h2:ls.length≤1000000):dA ls=some ls.flatten:=by
 unfold dA
 have k1: ∀ (r d:List (List aG)),d++r=ls→iter (σ:=Int×Int) (ρ:=Int) (fun a=>(bif (decide (a.1 < (ls.length:Int))) then (Option.bind (idx ls a.1) fun c=>(bif (decide ((IntKind.i64.wrap (a.2+(c.length:Int))) < 0)) then none else some (.inl ((IntKind.i64.wrap (a.1+1)),(IntKind.i64.wrap (a.2+(c.length:Int))))))) else some (.inr a.2))) ((d.length:Int),(total d:Int))=some (total ls:Int):=by
  intro r
  induction r with
  | nil =>
   intro d hd
   simp at hd
   subst hd
   rw [dx (r:=(total d:Int))]
   simp
  | cons x r ih =>
   intro d hd
   have hl:ls.length=d.length+r.length+1:=by rw [← hd]; simp; omega
   have ht:total ls=total d+(x.length+total r):=by rw [← hd,mW]; rfl
   rw [eL (s':=(((d++[x]).length:Int),(total (d++[x]):Int)))]
   ·exact ih (d++[x]) (by simpa using hd)
   ·have hc:decide ((d.length:Int) < (ls.length:Int))=true:=by simp; omega
    have hx:idx ls (d.length:Int)=some x:=by rw [← hd]; exact jK d r x
    simp only [hc,cond_true,hx,aB]
    rw [w64 (by omega) (by omega),w64 (by omega) (by omega)]
    have hp:decide ((total d:Int)+(x.length:Int) < 0)=false:=decide_eq_false (by omega)
    rw [hp,cond_false,mW]
    simp [total]
 have k2: ∀ (r d:List (List aG)),d++r=ls→iter (σ:=Int×(List aG)) (ρ:=(List aG)) (fun b=>(bif (decide (b.1 < (ls.length:Int))) then (Option.bind (idx ls b.1) fun e=>(Option.bind (chk (dg b.2.length e.length 24)) fun _=>some (.inl ((IntKind.i64.wrap (b.1+1)),(b.2++e))))) else some (.inr b.2))) ((d.length:Int),d.flatten)=some ls.flatten:=by
  intro r
  induction r with
  | nil =>
   intro d hd
   simp at hd
   subst hd
   rw [dx (r:=d.flatten)]
   simp
  | cons x r ih =>
   intro d hd
   have hl:ls.length=d.length+r.length+1:=by rw [← hd]; simp; omega
   have ht:total ls=total d+(x.length+total r):=by rw [← hd,mW]; rfl
   rw [eL (s':=(((d++[x]).length:Int),(d++[x]).flatten))]
   ·exact ih (d++[x]) (by simpa using hd)
   ·have hc:decide ((d.length:Int) < (ls.length:Int))=true:=by simp; omega
    have hx:idx ls (d.length:Int)=some x:=by rw [← hd]; exact jK d r x
    simp only [hc,cond_true,hx,aB]
    rw [w64 (by omega) (by omega),bI (by rw [rV]; omega),aB]
    simp
 have h0:=k1 ls [] rfl
 have h3:=k2 ls [] rfl
 have e0:((([]:List (List aG)).length:Nat):Int)=0:=rfl
 have e1:((total []:Nat):Int)=0:=rfl
 rw [e0,e1] at h0
 rw [e0,List.flatten_nil] at h3
 rw [h0,aB,BD _ (by omega) (by omega),aB,h3,aB]
def blk (s:Int):aG:=⟨32,s,0⟩
def vS (l1:List aG) (at_:Int):List aG :=
 match (if at_ > 0 then l1[at_.toNat - 1]? else none) with
  | some c=>if c.part=1 then l1.set (at_.toNat - 1) (blk c.aK) else l1
  | none=>l1
theorem uO (l:List aG) (at_:Int):(vS l at_).length=l.length:=by
 unfold vS
 split
 ·split <;> simp
 ·rfl
def qf (l:List aG) (at_ x s:Int):List aG :=
 if ofS x=0∨at_ < 0∨at_ > l.length - ofS x then l
 else if ofS x=1 then l.set at_.toNat ⟨x,s,0⟩
 else vS ((l.set at_.toNat ⟨x,s,1⟩).set (at_.toNat+1) ⟨x,s,2⟩) at_
theorem qM (l:List aG) (at_ x s:Int):(qf l at_ x s).length=l.length:=by
 unfold qf
 split
 ·rfl
 ·split
  ·simp
  ·simp [uO]
theorem put_eq (r:aE) (at_ x s:Int) (h:r.cells.length≤1000000) (ha: -9223372036854775808≤at_) (hb:at_≤9223372036854775807):ji r at_ x s=some ⟨fD 0 (qf r.cells at_ x s),false⟩:=by
 unfold ji
 rw [mh r h,aB,of_eq,aB]
 have h3:=mi x
 have fin: ∀ l:List aG,l.length=r.cells.length→(Option.bind (dH l) fun a=>some a)=some ⟨fD 0 l,false⟩:=fun l hl=>by rw [k9 l (by omega),aB]
 rw [w64 (x:=(r.cells.length:Int) - ofS x) (by omega) (by omega)]
 by_cases hc:ofS x=0∨at_ < 0∨at_ > r.cells.length - ofS x
 ·have hb2:((bif (ofS x == 0) then some true else (bif (decide (at_ < 0)) then some true else some (decide (at_ > ((r.cells.length:Int) - ofS x))))):Option Bool)=some true:=by
   rcases hc with hc | hc | hc
   ·simp [hc]
   ·cases h0:(ofS x == 0) <;> simp [hc]
   ·cases h0:(ofS x == 0) <;> cases h1:decide (at_ < 0) <;> simp [hc]
  rw [hb2,aB,cond_true,aB]
  unfold qf
  rw [if_pos hc]
  exact fin _ rfl
 ·have hb2:((bif (ofS x == 0) then some true else (bif (decide (at_ < 0)) then some true else some (decide (at_ > ((r.cells.length:Int) - ofS x))))):Option Bool)=some false:=by
   have e0:(ofS x == 0)=false:=by simp; omega
   have e1:decide (at_ < 0)=false:=decide_eq_false (by omega)
   rw [e0,cond_false,e1,cond_false]
   simp
   omega
  rw [hb2,aB,cond_false]
  obtain ⟨k,rfl⟩: ∃ k:Nat,at_=k:=⟨at_.toNat,by omega⟩
  unfold qf
  rw [if_neg hc]
  by_cases h1:ofS x=1
  ·have e1:(ofS x == 1)=true:=by simp [h1]
   have hk:k < r.cells.length:=by omega
   rw [e1,cond_true,eC,List.getElem?_eq_getElem hk,aB,aB,if_pos h1,Int.toNat_natCast]
   exact fin _ (by simp)
  ·have e1:(ofS x == 1)=false:=by simp [h1]
   have h2:ofS x=2:=by omega
   have hk:k+1 < r.cells.length:=by omega
   have ew:IntKind.i64.wrap ((k:Int)+1)=((k+1:Nat):Int):=by rw [w64 (by omega) (by omega)]; omega
   rw [e1,cond_false,eC,List.getElem?_eq_getElem (by omega:k < r.cells.length),aB,ew,eC,if_neg h1,Int.toNat_natCast,Int.toNat_natCast,List.getElem?_eq_getElem (by simp; omega),aB]
   generalize hl1:(r.cells.set k ⟨x,s,1⟩).set (k+1) ⟨x,s,2⟩=l1
   have hlen:l1.length=r.cells.length:=by rw [← hl1]; simp
   unfold vS
   rw [show ((k:Int)).toNat=k from Int.toNat_natCast k]
   by_cases h0:(k:Int) > 0
   ·have e2:decide ((k:Int) > 0)=true:=decide_eq_true h0
    have em:IntKind.i64.wrap ((k:Int) - 1)=((k - 1:Nat):Int):=by rw [w64 (by omega) (by omega)]; omega
    have hk1:k - 1 < l1.length:=by omega
    rw [e2,cond_true,em,eC,Int.toNat_natCast,if_pos h0,List.getElem?_eq_getElem hk1,aB,aB]
    by_cases hp:(l1[k - 1]).part=1
    ·have e3:((l1[k - 1]).part == 1)=true:=by simp [hp]
     rw [e3,cond_true]
     simp only [aB,nF,if_pos hp,Int.toNat_natCast]
     exact fin _ (by simpa using hlen)
    ·have e3:((l1[k - 1]).part == 1)=false:=by simp [hp]
     rw [e3,cond_false,aB]
     simp only [if_neg hp]
     exact fin _ hlen
   ·have e2:decide ((k:Int) > 0)=false:=decide_eq_false h0
    rw [e2,cond_false,if_neg h0,aB,cond_false,aB]
    exact fin _ hlen
end Go.Tw.X
set_option linter.unusedVariables false
set_option linter.unusedSimpArgs false
namespace Go.Tw.X
open Go Go.Tw
def ie (a b s:Int):Int→List aG→List aG
 | _,[]=>[]
 | i,c::r=>(if a≤i∧i < b then blk s else c)::ie a b s (i+1) r
theorem jk (a b s:Int): ∀ (l:List aG) (i:Int),(ie a b s i l).length=l.length
 | [],_=>rfl
 | c::r,i=>by simp [ie,jk a b s r]
theorem kr (a b s:Int): ∀ (l:List aG) (i:Int) (j:Nat),(ie a b s i l)[j]?=(l[j]?).map fun c=>if a≤i+j∧i+j < b then blk s else c
 | [],_,_=>by simp [ie]
 | c::r,i,0=>by simp [ie]
 | c::r,i,j+1=>by
  have:=kr a b s r (i+1) j
  simp only [ie,List.getElem?_cons_succ,this]
  have e:i+1+(j:Int)=i+((j+1:Nat):Int):=by omega
  rw [e]
theorem erase_eq (r:aE) (a b s:Int) (h:r.cells.length≤1000000):gn r a b s=some ⟨fD 0 (ie a b s 0 r.cells),false⟩:=by
 unfold gn
 rw [mh r h,aB,n7,aB]
 generalize hA:max 0 (min a (r.cells.length:Int))=A
 generalize hB:max 0 (min b (r.cells.length:Int))=B
 have key: ∀ m (i:Nat) (l:List aG),B.toNat - i=m→l.length=r.cells.length→iter (σ:=Int×(List aG)) (ρ:=(List aG)) (fun d=>(Option.bind (gO b 0 (d.2.length:Int)) fun e=>(bif (decide (d.1 < e)) then (Option.bind (fj s) fun f=>(Option.bind (idx d.2 d.1) fun g=>some (.inl ((IntKind.i64.wrap (d.1+1)),(d.2.set d.1.toNat f))))) else some (.inr d.2)))) ((i:Int),l)=some (ie i B s 0 l):=by
  intro m
  induction m with
  | zero =>
   intro i l hm hl
   rw [dx (r:=l)]
   ·congr 1
    apply List.ext_getElem?
    intro j
    rw [kr]
    cases hj:l[j]? with
    | none=>rfl
    | some c =>
     simp
     intro h1 h2
     omega
   ·simp only [n7,aB,hl,hB]
    have:decide ((i:Int) < B)=false:=decide_eq_false (by omega)
    rw [this,cond_false]
  | succ m ih =>
   intro i l hm hl
   have hi:i < l.length:=by omega
   rw [eL (s':=(((i+1:Nat):Int),l.set i (blk s)))]
   ·rw [ih (i+1) (l.set i (blk s)) (by omega) (by simpa using hl)]
    congr 1
    apply List.ext_getElem?
    intro j
    rw [kr,kr,List.getElem?_set]
    by_cases hij:i=j
    ·subst hij
     rw [if_pos rfl,if_pos hi,List.getElem?_eq_getElem hi]
     simp
     omega
    ·rw [if_neg hij]
     cases hj:l[j]? with
     | none=>rfl
     | some c =>
      simp only [Option.map_some,Option.some.injEq]
      by_cases h1:(i:Int)≤0+(j:Int)∧0+(j:Int) < B
      ·rw [if_pos h1,if_pos (by omega)]
      ·rw [if_neg h1,if_neg (by omega)]
   ·simp only [n7,aB,hl,hB]
    have:decide ((i:Int) < B)=true:=decide_eq_true (by omega)
    rw [this,cond_true,eC,List.getElem?_eq_getElem hi,w64 (by omega) (by omega)]
    rfl
 obtain ⟨k,hk⟩: ∃ k:Nat,A=k:=⟨A.toNat,by omega⟩
 rw [hk,key _ k r.cells rfl rfl,aB,k9 _ (by rw [jk]; exact h),aB]
 congr 2
 congr 1
 apply List.ext_getElem?
 intro j
 rw [kr,kr]
 cases hj:r.cells[j]? with
 | none=>rfl
 | some c =>
  have hjl:=(List.getElem?_eq_some_iff.1 hj).1
  simp only [Option.map_some,Option.some.injEq]
  by_cases h1:a≤0+(j:Int)∧0+(j:Int) < b
  ·rw [if_pos h1,if_pos (by omega)]
  ·rw [if_neg h1,if_neg (by omega)]
def kA (l:List aG) (k n:Nat) (s:Int):List aG:=(l.take k++List.replicate n (blk s)++l.drop k).take l.length
def lb (l:List aG) (k n:Nat) (s:Int):List aG:=l.take k++l.drop (k+n)++List.replicate n (blk s)
def lR (l:List aG) (s:Int):List aG:=l.set (l.length - 1) ⟨32,s,3⟩
theorem insert_eq (r:aE) (at_ n s:Int) (h:r.cells.length≤1000) (ha: -9223372036854775808≤at_) (hb:at_≤9223372036854775807):gV r at_ n s=some ⟨fD 0 (if cA r.cells at_ n=0 then r.cells else kA r.cells at_.toNat (cA r.cells at_ n).toNat s),false⟩:=by
 unfold gV
 rw [tj r at_ n (by omega) ha hb,aB]
 by_cases h0:cA r.cells at_ n=0
 ·have e:(cA r.cells at_ n == 0)=true:=by simp [h0]
  rw [e,cond_true,mh r (by omega),aB,k9 _ (by omega),aB,if_pos h0]
 ·have e:(cA r.cells at_ n == 0)=false:=by simp [h0]
  rw [e,cond_false,if_neg h0]
  have hw:cA r.cells at_ n=max 0 (min n (r.cells.length - at_))∧0≤at_∧at_ < r.cells.length:=by
   unfold cA at h0 ⊢
   by_cases hc:at_ < 0∨at_≥r.cells.length
   ·rw [if_pos hc] at h0; exact absurd rfl h0
   ·rw [if_neg hc]; exact ⟨rfl,by omega,by omega⟩
  obtain ⟨hw,h1,h2⟩:=hw
  generalize cA r.cells at_ n=w at hw h0
  obtain ⟨k,rfl⟩: ∃ k:Nat,at_=k:=⟨at_.toNat,by omega⟩
  obtain ⟨m,rfl⟩: ∃ m:Nat,w=m:=⟨w.toNat,by omega⟩
  have c1:cut r.cells 0 (k:Int)=r.cells.take k:=by simp [cut]
  have c2:cut r.cells (k:Int) (r.cells.length:Int)=r.cells.drop k:=by simp [cut]
  rw [bK (by omega) (by omega) (by omega),aB,bK (by omega) (by omega) (by omega),aB,n6 _ _ (by omega),aB,c1,c2,tk _ (by simp [total]; omega) (by simp),aB]
  have hl:([r.cells.take k,List.replicate (m:Int).toNat (blk s),r.cells.drop k].flatten).length=r.cells.length+m:=by simp; omega
  change (Option.bind (chk (cF 0 (r.cells.length:Int) (([r.cells.take k,List.replicate (m:Int).toNat (blk s),r.cells.drop k].flatten).length:Int))) _)=_
  rw [hl,bK (by omega) (by omega) (by omega),aB]
  have c3:cut ([r.cells.take k,List.replicate (m:Int).toNat (blk s),r.cells.drop k].flatten) 0 (r.cells.length:Int)=kA r.cells (k:Int).toNat (m:Int).toNat s:=by
   unfold cut kA
   simp
  change (Option.bind (dH (cut ([r.cells.take k,List.replicate (m:Int).toNat (blk s),r.cells.drop k].flatten) 0 (r.cells.length:Int))) _)=_
  rw [c3,k9 _ (by unfold kA; simp; omega),aB]
theorem ym (r:aE) (at_ n s:Int) (h:r.cells.length≤1000) (ha: -9223372036854775808≤at_) (hb:at_≤9223372036854775807):gW r at_ n s=some ⟨fD 0 (if cA r.cells at_ n=0 then r.cells else lb r.cells at_.toNat (cA r.cells at_ n).toNat s),false⟩:=by
 unfold gW
 rw [tj r at_ n (by omega) ha hb,aB]
 by_cases h0:cA r.cells at_ n=0
 ·have e:(cA r.cells at_ n == 0)=true:=by simp [h0]
  rw [e,cond_true,mh r (by omega),aB,k9 _ (by omega),aB,if_pos h0]
 ·have e:(cA r.cells at_ n == 0)=false:=by simp [h0]
  rw [e,cond_false,if_neg h0]
  have hw:cA r.cells at_ n=max 0 (min n (r.cells.length - at_))∧0≤at_∧at_ < r.cells.length:=by
   unfold cA at h0 ⊢
   by_cases hc:at_ < 0∨at_≥r.cells.length
   ·rw [if_pos hc] at h0; exact absurd rfl h0
   ·rw [if_neg hc]; exact ⟨rfl,by omega,by omega⟩
  obtain ⟨hw,h1,h2⟩:=hw
  generalize cA r.cells at_ n=w at hw h0
  obtain ⟨k,rfl⟩: ∃ k:Nat,at_=k:=⟨at_.toNat,by omega⟩
  obtain ⟨m,rfl⟩: ∃ m:Nat,w=m:=⟨w.toNat,by omega⟩
  have c1:cut r.cells 0 (k:Int)=r.cells.take k:=by simp [cut]
  have c2:cut r.cells ((k+m:Nat):Int) (r.cells.length:Int)=r.cells.drop (k+m):=by
   unfold cut
   rw [Int.toNat_natCast,Int.toNat_natCast,List.take_length]
  have ek:((k:Int)+(m:Int))=((k+m:Nat):Int):=by omega
  have hkm:k+m≤r.cells.length:=by omega
  rw [w64 (by omega) (by omega),ek,bK (by omega) (by omega) (by omega),aB,bK (by omega) (by omega) (by omega),aB,n6 _ _ (by omega),aB,c1,c2,tk _ (by simp [total]; omega) (by simp),aB]
  have c3:[r.cells.take k,r.cells.drop (k+m),List.replicate (m:Int).toNat (blk s)].flatten=lb r.cells (k:Int).toNat (m:Int).toNat s:=by
   unfold lb
   simp
  change (Option.bind (dH [r.cells.take k,r.cells.drop (k+m),List.replicate (m:Int).toNat (blk s)].flatten) _)=_
  rw [c3,k9 _ (by unfold lb; simp; omega),aB]
theorem fill_eq (r:aE) (s:Int) (h:r.cells.length≤1000000):iN r s=some ⟨fD 0 (lR r.cells s),true⟩:=by
 unfold iN
 rw [mh r h,aB]
 by_cases h0:(r.cells.length:Int) > 0
 ·have e:decide ((r.cells.length:Int) > 0)=true:=decide_eq_true h0
  have ew:IntKind.i64.wrap ((r.cells.length:Int) - 1)=((r.cells.length - 1:Nat):Int):=by rw [w64 (by omega) (by omega)]; omega
  rw [e,cond_true,ew,eC,List.getElem?_eq_getElem (by omega),aB,aB,Int.toNat_natCast]
  change (Option.bind (dH (lR r.cells s)) _)=_
  rw [k9 _ (by simp [lR]; exact h),aB]
 ·have e:decide ((r.cells.length:Int) > 0)=false:=decide_eq_false h0
  have hn:r.cells=[]:=List.eq_nil_of_length_eq_zero (by omega)
  rw [e,cond_false,aB,k9 _ h,aB]
  simp [lR,hn]
def kB (l:List aG) (w:Nat):List aG:=l.take w++List.replicate (w - l.length) (blk 0)
theorem yn (r:aE) (w:Int) (h:r.cells.length≤1000000):fU r w=some (if (max 0 (min w 1000)).toNat=r.cells.length then r else ⟨fD 0 (kB r.cells (max 0 (min w 1000)).toNat),false⟩):=by
 unfold fU
 rw [n7,aB,mh r h,aB]
 generalize hv:max 0 (min w 1000)=v
 obtain ⟨k,rfl⟩: ∃ k:Nat,v=k:=⟨v.toNat,by omega⟩
 rw [Int.toNat_natCast]
 by_cases h0:k=r.cells.length
 ·have e:((k:Int) == (r.cells.length:Int))=true:=by simp [h0]
  rw [e,cond_true,if_pos h0]
 ·have e:((k:Int) == (r.cells.length:Int))=false:=by simp; omega
  have ec:dt (k:Int) (r.cells.length:Int)=((min k r.cells.length:Nat):Int):=by rw [dv]; omega
  have c1:cut r.cells 0 ((min k r.cells.length:Nat):Int)=r.cells.take k:=by
   simp only [cut,Int.toNat_natCast,Int.toNat_zero,List.drop_zero]
   rw [← List.take_take,List.take_length]
  rw [e,cond_false,if_neg h0,ec,w64 (by omega) (by omega),n6 _ _ (by omega),aB,bK (by omega) (by omega) (by omega),aB,c1,bI (by simp; omega),aB]
  have c2:r.cells.take k++List.replicate ((k:Int) - (r.cells.length:Int)).toNat (blk 0)=kB r.cells k:=by
   unfold kB
   congr 2
   omega
  change (Option.bind (dH (r.cells.take k++List.replicate ((k:Int) - (r.cells.length:Int)).toNat (blk 0))) _)=_
  rw [c2,k9 _ (by unfold kB; simp; omega),aB]
end Go.Tw.X
set_option linter.unusedVariables false
set_option linter.unusedSimpArgs false
namespace Go.Tw.X
open Go Go.Tw
theorem tV (w s:Int):gx w s=some ⟨List.replicate (max 0 (min w 1000)).toNat (blk s),false⟩:=by
 unfold gx
 rw [n7,aB,n6 _ _ (by omega),aB]
 rfl
def kM:Nat→List aG→List aG
 | 0,l=>l
 | n+1,l=>if l.getLast?=some (blk 0) then kM n l.dropLast else l
def zE (l:List aG):List aG:=kM l.length l
def isG (c:aG):Bool:=c.part == 0 || c.part == 1
def mX (l:List aG):List aI:=(l.filter isG).map fun c=>⟨c.rune,c.aK⟩
def je (r:aE):List aI:=mX (if r.wrapped then r.cells else zE r.cells)
theorem nG (l:List aG):(mX l).length≤l.length:=by
 unfold mX
 rw [List.length_map]
 exact List.length_filter_le _ _
theorem ld: ∀ (n:Nat) (l:List aG),(kM n l).length≤l.length
 | 0,l=>Nat.le_refl _
 | n+1,l=>by
  unfold kM
  split
  ·have:=ld n l.dropLast
   rw [List.length_dropLast] at this
   omega
  ·exact Nat.le_refl _
theorem rW (x y:aG):((x.rune == y.rune) && ((x.aK == y.aK) && ((x.part == y.part) && true)))=decide (x=y):=by
 obtain ⟨a,b,c⟩:=x
 obtain ⟨d,e,f⟩:=y
 by_cases h1:a=d <;> by_cases h2:b=e <;> by_cases h3:c=f <;> simp [h1,h2,h3]
theorem yo (r:aE) (h:r.cells.length≤1000000):fS r=some (je r):=by
 unfold fS
 have k1: ∀ (n:Nat) (l:List aG),l.length=n→n≤1000000→iter (σ:=(List aG)) (ρ:=(List aG)) (fun a=>(Option.bind ((bif (!r.wrapped) then (bif (decide ((a.length:Int) > 0)) then (Option.bind (idx a (IntKind.i64.wrap ((a.length:Int) - 1))) fun g=>(Option.bind (fj 0) fun i=>some ((g.rune == i.rune) && ((g.aK == i.aK) && ((g.part == i.part) && true))))) else some false) else some false):Option Bool) fun j=>(bif j then (Option.bind (chk (cF 0 (IntKind.i64.wrap ((a.length:Int) - 1)) a.length)) fun _=>some (.inl (cut a 0 (IntKind.i64.wrap ((a.length:Int) - 1))))) else some (.inr a)))) l=some (if r.wrapped then l else kM n l):=by
  intro n
  induction n with
  | zero =>
   intro l hl hn
   rw [dx (r:=l)]
   ·simp [kM]
   ·cases r.wrapped <;> simp [hl]
  | succ n ih =>
   intro l hl hn
   cases hw:r.wrapped with
   | true =>
    rw [dx (r:=l)]
    ·simp
    ·simp [hw]
   | false =>
    have hp:decide ((l.length:Int) > 0)=true:=decide_eq_true (by omega)
    have ew:IntKind.i64.wrap ((l.length:Int) - 1)=((l.length - 1:Nat):Int):=by rw [w64 (by omega) (by omega)]; omega
    have hlt:l.length - 1 < l.length:=by omega
    have hlast:l.getLast?=some l[l.length - 1]:=by rw [List.getLast?_eq_getElem?,List.getElem?_eq_getElem hlt]
    unfold kM
    rw [hlast]
    by_cases hb:l[l.length - 1]=blk 0
    ·rw [eL (s':=l.dropLast)]
     ·have:=ih l.dropLast (by rw [List.length_dropLast]; omega) (by omega)
      rw [hw] at this
      simp only [hw,Bool.not_false,cond_true] at this ⊢
      rw [this,if_neg (by simp),if_neg (by simp),if_pos (by rw [hb])]
     ·simp only [hw,Bool.not_false,cond_true,hp,ew,eC,List.getElem?_eq_getElem hlt,aB,nF,rW]
      have:decide (l[l.length - 1]=⟨32,0,0⟩)=true:=decide_eq_true hb
      rw [this,cond_true,bK (by omega) (by omega) (by omega),aB]
      congr 2
      simp [cut,List.dropLast_eq_take]
    ·rw [dx (r:=l)]
     ·rw [if_neg (by simp),if_neg (by simpa using hb)]
     ·simp only [hw,Bool.not_false,cond_true,hp,ew,eC,List.getElem?_eq_getElem hlt,aB,nF,rW]
      have:decide (l[l.length - 1]=⟨32,0,0⟩)=false:=decide_eq_false hb
      rw [this,cond_false]
 rw [k1 r.cells.length r.cells rfl h,aB]
 have hE:(if r.wrapped then r.cells else kM r.cells.length r.cells).length≤1000000:=by
  split
  ·exact h
  ·exact Nat.le_trans (ld _ _) h
 change (Option.bind _ _)=some (mX (if r.wrapped then r.cells else kM r.cells.length r.cells))
 generalize (if r.wrapped then r.cells else kM r.cells.length r.cells)=E at hE
 have k2: ∀ (b d:List aG),d++b=E→iter (σ:=Int×(List aI)) (ρ:=(List aI)) (fun e=>(bif (decide (e.1 < (E.length:Int))) then (Option.bind ((Option.bind (idx E e.1) fun f=>(Option.bind ((bif (f.part == 0) then some true else some (f.part == 1)):Option Bool) fun k=>(bif k then (Option.bind (chk (dg e.2.length [(aI.mk f.rune f.aK)].length 16)) fun _=>some (e.2++[(aI.mk f.rune f.aK)])) else some e.2))):Option (List aI)) fun m=>some (.inl ((IntKind.i64.wrap (e.1+1)),m))) else some (.inr e.2))) ((d.length:Int),mX d)=some (mX E):=by
  intro b
  induction b with
  | nil =>
   intro d hd
   simp at hd
   subst hd
   rw [dx (r:=mX d)]
   simp
  | cons c b ih =>
   intro d hd
   have hl:E.length=d.length+b.length+1:=by rw [← hd]; simp; omega
   have hg:mX (d++[c])=bif isG c then mX d++[⟨c.rune,c.aK⟩] else mX d:=by
    unfold mX
    rw [List.filter_append]
    cases hc:isG c <;> simp [hc]
   rw [eL (s':=(((d++[c]).length:Int),mX (d++[c])))]
   ·exact ih (d++[c]) (by simpa using hd)
   ·have hc:decide ((d.length:Int) < (E.length:Int))=true:=by simp; omega
    have hx:idx E (d.length:Int)=some c:=by rw [← hd]; exact jK d b c
    have hi:((bif (c.part == 0) then some true else some (c.part == 1)):Option Bool)=some (isG c):=by unfold isG; cases c.part == 0 <;> rfl
    have hgl:=nG d
    simp only [hc,cond_true,hx,aB,hi]
    rw [hg,w64 (by omega) (by omega)]
    cases hc2:isG c with
    | true=>rw [cond_true,bI (by simp; omega),aB,aB]; simp
    | false=>simp
 have h0:=k2 E [] rfl
 have e0:((([]:List aG).length:Nat):Int)=0:=rfl
 have e1:mX []=[]:=rfl
 rw [e0,e1] at h0
 rw [h0,aB]
end Go.Tw.X
set_option linter.unusedVariables false
set_option linter.unusedSimpArgs false
namespace Go.Tw.X
open Go Go.Tw
theorem jU (l:List aG) (h:l.length≤1000000):dO (l.map tc)=some ⟨(fD 0 l).map tc,false⟩:=by
 unfold dO
 have hml:(l.map tc).length=l.length:=List.length_map _
 rw [hml]
 have key: ∀ (r d o:List aG),d++r=l→o.length=d.length→iter (σ:=Int×(List aP)) (ρ:=(List aP)) (fun b=>(bif (decide (b.1 < (l.length:Int))) then (Option.bind (idx (l.map tc) b.1) fun f=>(Option.bind ((bif (f.part == 1) then (bif ((IntKind.i64.wrap (b.1+1)) == (l.length:Int)) then some true else (Option.bind (idx (l.map tc) (IntKind.i64.wrap (b.1+1))) fun g=>some (g.part != 2))) else (bif (f.part == 2) then (bif (b.1 == 0) then some true else (Option.bind (idx b.2 (IntKind.i64.wrap (b.1 - 1))) fun i=>some (i.part != 1))) else (bif (f.part == 3) then some (decide (b.1 < (IntKind.i64.wrap ((l.length:Int) - 1)))) else some false))):Option Bool) fun k=>(Option.bind ((bif k then some (aP.mk 32 f.aK 0) else some f):Option aP) fun j=>(Option.bind (chk (dg b.2.length [j].length 24)) fun _=>some (.inl ((IntKind.i64.wrap (b.1+1)),(b.2++[j]))))))) else some (.inr b.2))) ((d.length:Int),o.map tc)=some ((o++fD (jF o) r).map tc):=by
  intro r
  induction r with
  | nil =>
   intro d o hd ho
   simp at hd
   subst hd
   rw [dx (r:=o.map tc)]
   ·simp [fD]
   ·simp
  | cons c r ih =>
   intro d o hd ho
   have hl:l.length=d.length+r.length+1:=by rw [← hd]; simp; omega
   rw [eL (s':=(((d++[c]).length:Int),(o++[qd (jF o) c r]).map tc))]
   ·rw [ih (d++[c]) (o++[qd (jF o) c r]) (by simpa using hd) (by simp [ho]),rU]
    simp [fD]
   ·have hc:decide ((d.length:Int) < (l.length:Int))=true:=by simp; omega
    have em:l.map tc=d.map tc++tc c::r.map tc:=by rw [← hd]; simp
    have hdl:(d.map tc).length=d.length:=List.length_map _
    have hx:idx (l.map tc) (d.length:Int)=some (tc c):=by rw [em,← hdl]; exact jK _ _ _
    have hx2:idx (l.map tc) ((d.length:Int)+1)=(r.map tc)[0]?:=by rw [em,← hdl]; exact uM _ _ _
    simp only [hc,cond_true,hx,aB]
    rw [w64 (x:=(d.length:Int)+1) (by omega) (by omega),w64 (x:=(d.length:Int) - 1) (by omega) (by omega),w64 (x:=(l.length:Int) - 1) (by omega) (by omega),hx2]
    have hbad:((bif ((tc c).part == 1) then (bif (((d.length:Int)+1) == (l.length:Int)) then some true else (Option.bind ((r.map tc)[0]?) fun g=>some (g.part != 2))) else (bif ((tc c).part == 2) then (bif ((d.length:Int) == 0) then some true else (Option.bind (idx (o.map tc) ((d.length:Int) - 1)) fun i=>some (i.part != 1))) else (bif ((tc c).part == 3) then some (decide ((d.length:Int) < (l.length:Int) - 1)) else some false))):Option Bool)=some (sU (jF o) c r):=by
     have htc:(tc c).part=c.part:=rfl
     rw [htc]
     unfold sU
     cases h1:(c.part == 1) with
     | true =>
      simp only [cond_true]
      cases r with
      | nil =>
       have:(((d.length:Int)+1) == (l.length:Int))=true:=by simp at hl ⊢; omega
       rw [this]
       rfl
      | cons e r =>
       have:(((d.length:Int)+1) == (l.length:Int))=false:=by simp at hl ⊢; omega
       rw [this]
       rfl
     | false =>
      simp only [cond_false]
      cases h2:(c.part == 2) with
      | true =>
       simp only [cond_true]
       cases ho0:o with
       | nil =>
        have:d.length=0:=by rw [← ho,ho0]; rfl
        have:((d.length:Int) == 0)=true:=by simp [this]
        rw [this]
        rfl
       | cons a t =>
        have hpos:0 < d.length:=by rw [← ho,ho0]; simp
        have hne:((d.length:Int) == 0)=false:=by rw [beq_eq_false_iff_ne]; omega
        have hol:((a::t).map tc).length=d.length:=by rw [List.length_map,← ho0,ho]
        have hi:=uL ((a::t).map tc) [] ⟨0,0,0⟩ ⟨0,0,0⟩ (by rw [hol]; exact hpos)
        have hlt:d.length - 1 < ((a::t).map tc).length:=by rw [hol]; omega
        have e1:((d.length:Int) - 1)=((d.length - 1:Nat):Int):=by omega
        rw [hol,e1,eC,List.getElem?_append_left hlt] at hi
        rw [hne,cond_false,e1,eC,hi,aB]
        have e2:jF (a::t)=(oL (⟨0,0,0⟩:aP) ((a::t).map tc)).part:=by
         unfold jF
         rw [← qe (fun c:aP=>c.part) ⟨0,0,0⟩ ((a::t).map tc),List.map_map]
         rfl
        rw [e2]
      | false =>
       simp only [cond_false]
       cases h3:(c.part == 3) with
       | true =>
        simp only [cond_true]
        cases r with
        | nil =>
         have:decide ((d.length:Int) < (l.length:Int) - 1)=false:=decide_eq_false (by simp at hl; omega)
         rw [this]
         rfl
        | cons e r =>
         have:decide ((d.length:Int) < (l.length:Int) - 1)=true:=decide_eq_true (by simp at hl; omega)
         rw [this]
         rfl
       | false=>rfl
    rw [hbad,aB]
    have hfix:((bif sU (jF o) c r then some (aP.mk 32 (tc c).aK 0) else some (tc c)):Option aP)=some (tc (qd (jF o) c r)):=by
     unfold qd
     cases sU (jF o) c r <;> rfl
    rw [hfix,aB,bI (by simp; omega),aB]
    simp
 have h0:=key l [] [] rfl rfl
 have e0:((([]:List aG).length:Nat):Int)=0:=rfl
 rw [e0] at h0
 simp only [List.map_nil,List.nil_append] at h0
 rw [h0,aB]
 rfl
theorem tW (n lo hi:Int) (h:lo≤hi):jO n lo hi=some (max lo (min n hi)):=by
 unfold jO
 by_cases h1:n < lo
 ·rw [decide_eq_true h1,cond_true]; congr 1; omega
 ·rw [decide_eq_false h1,cond_false]
  by_cases h2:n > hi
  ·rw [decide_eq_true h2,cond_true]; congr 1; omega
  ·rw [decide_eq_false h2,cond_false]; congr 1; omega
theorem n8 (w s:Int):eX w s=some ⟨(List.replicate (max 0 (min w 1000)).toNat (blk s)).map tc,false⟩:=by
 unfold eX
 generalize hv:max 0 (min w 1000)=v
 obtain ⟨k,rfl⟩: ∃ k:Nat,v=k:=⟨v.toNat,by omega⟩
 have hk:k≤1000:=by omega
 have key: ∀ m j,k - j=m→j≤k→iter (σ:=(List aP)×Int) (ρ:=(List aP)) (fun a=>(Option.bind (jO w 0 1000) fun b=>(bif (decide (a.2 < b)) then (Option.bind (chk (dg a.1.length [(aP.mk 32 s 0)].length 24)) fun _=>some (.inl ((a.1++[(aP.mk 32 s 0)]),(IntKind.i64.wrap (a.2+1))))) else some (.inr a.1)))) (List.replicate j (tc (blk s)),(j:Int))=some (List.replicate k (tc (blk s))):=by
  intro m
  induction m with
  | zero =>
   intro j hm hj
   have:j=k:=by omega
   subst this
   rw [dx (r:=List.replicate j (tc (blk s)))]
   simp only [tW w 0 1000 (by omega),hv,aB]
   simp
  | succ m ih =>
   intro j hm hj
   rw [eL (s':=(List.replicate (j+1) (tc (blk s)),((j+1:Nat):Int)))]
   ·exact ih (j+1) (by omega) (by omega)
   ·simp only [tW w 0 1000 (by omega),hv,aB]
    have:decide ((j:Int) < (k:Int))=true:=decide_eq_true (by omega)
    rw [this,cond_true,bI (by simp; omega),aB,w64 (by omega) (by omega),List.replicate_succ']
    rfl
 have h0:=key (k - 0) 0 rfl (Nat.zero_le _)
 have e0:((0:Nat):Int)=0:=rfl
 rw [e0,List.replicate_zero] at h0
 rw [h0,aB,Int.toNat_natCast,List.map_replicate]
end Go.Tw.X
set_option linter.unusedVariables false
set_option linter.unusedSimpArgs false
namespace Go.Tw.X
open Go Go.Tw
theorem zF (n:Nat) (h:n≤1000000):chk (dg ([]:List aP).length n 24)=some ():=bI (by simp; omega)
theorem gL (l:List aG):(l.map tc).length=l.length:=List.length_map _
theorem DD (s:Int):tc (blk s)=⟨32,s,0⟩:=rfl
theorem yp (l:List aG) (w:Bool) (a b s:Int) (h:l.length≤1000000):ky ⟨l.map tc,w⟩ a b s=some ⟨(fD 0 (ie a b s 0 l)).map tc,false⟩:=by
 unfold ky
 simp only [gL,List.nil_append]
 rw [zF _ h,aB]
 have key: ∀ (r d o:List aG),d++r=l→o.length=d.length→iter (σ:=Int×(List aP)) (ρ:=(List aP)) (fun e=>(bif (decide (e.1 < (l.length:Int))) then (Option.bind ((Option.bind ((bif (decide (e.1≥a)) then some (decide (e.1 < b)) else some false):Option Bool) fun f=>(bif f then (Option.bind (idx e.2 e.1) fun i=>some (e.2.set e.1.toNat (aP.mk 32 s 0))) else some e.2)):Option (List aP)) fun g=>some (.inl ((IntKind.i64.wrap (e.1+1)),g))) else some (.inr e.2))) ((d.length:Int),(o++r).map tc)=some ((o++ie a b s (d.length:Int) r).map tc):=by
  intro r
  induction r with
  | nil =>
   intro d o hd ho
   simp at hd
   subst hd
   rw [dx (r:=(o++[]).map tc)]
   ·simp [ie]
   ·simp
  | cons c r ih =>
   intro d o hd ho
   have hl:l.length=d.length+r.length+1:=by rw [← hd]; simp; omega
   have hc:decide ((d.length:Int) < (l.length:Int))=true:=by simp; omega
   generalize hc':(if a≤(d.length:Int)∧(d.length:Int) < b then blk s else c)=c'
   rw [eL (s':=(((d++[c]).length:Int),((o++[c'])++r).map tc))]
   ·rw [ih (d++[c]) (o++[c']) (by simpa using hd) (by simp [ho])]
    simp [ie,hc']
   ·simp only [hc,cond_true]
    rw [w64 (by omega) (by omega)]
    have hx:idx ((o++c::r).map tc) (d.length:Int)=some (tc c):=by
     rw [← ho,List.map_append,List.map_cons,← gL o]
     exact jK _ _ _
    by_cases h1:a≤(d.length:Int)
    ·by_cases h2:(d.length:Int) < b
     ·rw [decide_eq_true (show (d.length:Int)≥a from h1),cond_true,decide_eq_true h2,aB,cond_true,hx,aB,aB]
      rw [if_pos ⟨h1,h2⟩] at hc'
      subst hc'
      congr 2
      refine Prod.ext (by simp) ?_
      show ((o++c::r).map tc).set ((d.length:Int).toNat) _=_
      rw [Int.toNat_natCast,← ho,List.map_append,List.map_cons]
      simp [DD]
     ·rw [decide_eq_true (show (d.length:Int)≥a from h1),cond_true,decide_eq_false h2,aB,cond_false,aB]
      rw [if_neg (by omega)] at hc'
      subst hc'
      simp
    ·rw [decide_eq_false (show ¬ (d.length:Int)≥a from h1),cond_false,aB,cond_false,aB]
     rw [if_neg (by omega)] at hc'
     subst hc'
     simp
 have h0:=key l [] [] rfl rfl
 have e0:((([]:List aG).length:Nat):Int)=0:=rfl
 rw [e0] at h0
 simp only [List.nil_append] at h0
 rw [h0,aB,jU _ (by rw [jk]; exact h),aB]
theorem zG (l:List aG) (w:Bool) (s:Int) (h:l.length≤1000000):jR ⟨l.map tc,w⟩ s=some ⟨(fD 0 (lR l s)).map tc,true⟩:=by
 unfold jR
 simp only [gL,List.nil_append]
 rw [zF _ h,aB]
 by_cases h0:(l.length:Int) > 0
 ·have ew:IntKind.i64.wrap ((l.length:Int) - 1)=((l.length - 1:Nat):Int):=by rw [w64 (by omega) (by omega)]; omega
  rw [decide_eq_true h0,cond_true,ew,eC,List.getElem?_eq_getElem (by rw [gL]; omega),aB,aB,Int.toNat_natCast]
  have e:(l.map tc).set (l.length - 1) ⟨32,s,3⟩=(lR l s).map tc:=by
   unfold lR
   rw [List.map_set]
   rfl
  rw [e,jU _ (by simp [lR]; exact h),aB]
 ·have hn:l=[]:=List.eq_nil_of_length_eq_zero (by omega)
  rw [decide_eq_false h0,cond_false,aB,jU _ h,aB]
  simp [lR,hn]
theorem EJ (x y:Int):(if x < y then x else y)=min y x:=by split <;> omega
theorem vT (l:List aG) (w:Bool) (at_ n s:Int) (h:l.length≤1000) (ha: -9223372036854775808≤at_) (hb:at_≤9223372036854775807):jP ⟨l.map tc,w⟩ at_ n s=some ⟨(fD 0 (if cA l at_ n=0 then l else kA l at_.toNat (cA l at_ n).toNat s)).map tc,false⟩:=by
 unfold jP
 simp only [gL,List.nil_append,EJ]
 by_cases h0:at_ < 0∨at_≥l.length∨n≤0
 ·have e:((bif (decide (at_ < 0)) then some true else (bif (decide (at_≥(l.length:Int))) then some true else some (decide (n≤0)))):Option Bool)=some true:=by
   rcases h0 with h0 | h0 | h0
   ·simp [h0]
   ·cases h1:decide (at_ < 0) <;> simp [h0]
   ·cases h1:decide (at_ < 0) <;> cases h2:decide (at_≥(l.length:Int)) <;> simp [h0]
  have hw:cA l at_ n=0:=by unfold cA; split <;> omega
  rw [e,aB,cond_true,jU _ (by omega),aB,if_pos hw]
 ·have e:((bif (decide (at_ < 0)) then some true else (bif (decide (at_≥(l.length:Int))) then some true else some (decide (n≤0)))):Option Bool)=some false:=by
   rw [decide_eq_false (by omega: ¬ at_ < 0),decide_eq_false (by omega: ¬ at_≥(l.length:Int)),decide_eq_false (by omega: ¬ n≤0)]
   rfl
  have hw:cA l at_ n=min n (l.length - at_):=by unfold cA; rw [if_neg (by omega)]; omega
  rw [e,aB,cond_false,w64 (x:=(l.length:Int) - at_) (by omega) (by omega),dv,← hw]
  have hb2:0 < cA l at_ n∧at_+cA l at_ n≤l.length:=by omega
  rw [if_neg (by omega)]
  generalize cA l at_ n=v at hb2
  clear hw e
  obtain ⟨k,rfl⟩: ∃ k:Nat,at_=k:=⟨at_.toNat,by omega⟩
  obtain ⟨m,rfl⟩: ∃ m:Nat,v=m:=⟨v.toNat,by omega⟩
  have c1:cut (l.map tc) 0 (k:Int)=(l.take k).map tc:=by simp [cut,List.map_take]
  have c2:cut (l.map tc) (k:Int) ((l.length:Int) - (m:Int))=((l.take (l.length - m)).drop k).map tc:=by
   have e:((l.length:Int) - (m:Int)).toNat=l.length - m:=by omega
   unfold cut
   rw [e,Int.toNat_natCast,List.map_drop,List.map_take]
  rw [bK (by omega) (by omega) (by omega),aB,c1,bI (by simp; omega),aB,n8,aB,w64 (x:=(l.length:Int) - (m:Int)) (by omega) (by omega),bI (by simp; omega),aB,bK (by omega) (by omega) (by omega),aB,c2,bI (by simp; omega),aB]
  have em:(max 0 (min (m:Int) 1000)).toNat=m:=by omega
  rw [em,← List.map_append,← List.map_append,Int.toNat_natCast,Int.toNat_natCast]
  have ei:l.take k++List.replicate m (blk s)++(l.take (l.length - m)).drop k=kA l k m s:=by
   unfold kA
   have hkm:k+m≤l.length:=by omega
   have hA:(l.take k++List.replicate m (blk s)).length=k+m:=by rw [List.length_append,List.length_take,List.length_replicate]; omega
   have hT:=List.take_of_length_le (l:=l.take k++List.replicate m (blk s)) (i:=l.length) (by rw [hA]; exact hkm)
   rw [List.take_append,hA,hT,List.drop_take,Nat.sub_sub,Nat.add_comm m k]
  rw [ei,jU _ (by unfold kA; simp; omega),aB]
theorem vU (l:List aG) (w:Bool) (at_ n s:Int) (h:l.length≤1000) (ha: -9223372036854775808≤at_) (hb:at_≤9223372036854775807):jQ ⟨l.map tc,w⟩ at_ n s=some ⟨(fD 0 (if cA l at_ n=0 then l else lb l at_.toNat (cA l at_ n).toNat s)).map tc,false⟩:=by
 unfold jQ
 simp only [gL,List.nil_append,EJ]
 by_cases h0:at_ < 0∨at_≥l.length∨n≤0
 ·have e:((bif (decide (at_ < 0)) then some true else (bif (decide (at_≥(l.length:Int))) then some true else some (decide (n≤0)))):Option Bool)=some true:=by
   rcases h0 with h0 | h0 | h0
   ·simp [h0]
   ·cases h1:decide (at_ < 0) <;> simp [h0]
   ·cases h1:decide (at_ < 0) <;> cases h2:decide (at_≥(l.length:Int)) <;> simp [h0]
  have hw:cA l at_ n=0:=by unfold cA; split <;> omega
  rw [e,aB,cond_true,jU _ (by omega),aB,if_pos hw]
 ·have e:((bif (decide (at_ < 0)) then some true else (bif (decide (at_≥(l.length:Int))) then some true else some (decide (n≤0)))):Option Bool)=some false:=by
   rw [decide_eq_false (by omega: ¬ at_ < 0),decide_eq_false (by omega: ¬ at_≥(l.length:Int)),decide_eq_false (by omega: ¬ n≤0)]
   rfl
  have hw:cA l at_ n=min n (l.length - at_):=by unfold cA; rw [if_neg (by omega)]; omega
  rw [e,aB,cond_false,w64 (x:=(l.length:Int) - at_) (by omega) (by omega),dv,← hw]
  have hb2:0 < cA l at_ n∧at_+cA l at_ n≤l.length:=by omega
  rw [if_neg (by omega)]
  generalize cA l at_ n=v at hb2
  clear hw e
  obtain ⟨k,rfl⟩: ∃ k:Nat,at_=k:=⟨at_.toNat,by omega⟩
  obtain ⟨m,rfl⟩: ∃ m:Nat,v=m:=⟨v.toNat,by omega⟩
  have c1:cut (l.map tc) 0 (k:Int)=(l.take k).map tc:=by simp [cut,List.map_take]
  have ek:(k:Int)+(m:Int)=((k+m:Nat):Int):=by omega
  have c2:cut (l.map tc) ((k+m:Nat):Int) (l.length:Int)=(l.drop (k+m)).map tc:=by
   unfold cut
   rw [Int.toNat_natCast,Int.toNat_natCast,List.take_of_length_le (by rw [gL]; exact Nat.le_refl _),List.map_drop]
  rw [bK (by omega) (by omega) (by omega),aB,c1,bI (by simp; omega),aB,w64 (x:=(k:Int)+(m:Int)) (by omega) (by omega),ek,bK (by omega) (by omega) (by omega),aB,c2,bI (by simp; omega),aB,n8,aB,bI (by simp; omega),aB]
  have em:(max 0 (min (m:Int) 1000)).toNat=m:=by omega
  rw [em,← List.map_append,← List.map_append,Int.toNat_natCast,Int.toNat_natCast]
  change (Option.bind (dO ((lb l k m s).map tc)) _)=_
  rw [jU _ (by unfold lb; simp; omega),aB]
theorem vV (l:List aG) (w:Bool) (v:Int) (h:l.length≤1000000):iO ⟨l.map tc,w⟩ v=some (if (max 0 (min v 1000)).toNat=l.length then ⟨l.map tc,w⟩ else ⟨(fD 0 (kB l (max 0 (min v 1000)).toNat)).map tc,false⟩):=by
 unfold iO
 rw [tW _ _ _ (by omega),aB]
 simp only [gL,List.nil_append]
 generalize hv:max 0 (min v 1000)=u
 obtain ⟨k,rfl⟩: ∃ k:Nat,u=k:=⟨u.toNat,by omega⟩
 rw [Int.toNat_natCast]
 by_cases h0:k=l.length
 ·have e:((k:Int) == (l.length:Int))=true:=by simp [h0]
  rw [e,cond_true,if_pos h0]
 ·have e:((k:Int) == (l.length:Int))=false:=by rw [beq_eq_false_iff_ne]; omega
  have ec:dt (k:Int) (l.length:Int)=((min k l.length:Nat):Int):=by rw [dv]; omega
  have c1:cut (l.map tc) 0 ((min k l.length:Nat):Int)=(l.take k).map tc:=by
   simp only [cut,Int.toNat_natCast,Int.toNat_zero,List.drop_zero]
   rw [← List.take_take,← gL l,List.take_length,List.map_take]
  rw [e,cond_false,if_neg h0,ec,bK (by omega) (by omega) (by omega),aB,c1,bI (by simp; omega),aB]
  have e3:(((l.take k).map tc).length:Int)=((min k l.length:Nat):Int):=by simp
  rw [e3,w64 (by omega) (by omega),n8,aB,bI (by simp; omega),aB,← List.map_append]
  have c2:l.take k++List.replicate (max 0 (min ((k:Int) - ((min k l.length:Nat):Int)) 1000)).toNat (blk 0)=kB l k:=by
   unfold kB
   congr 2
   omega
  rw [c2,jU _ (by unfold kB; simp; omega),aB]
end Go.Tw.X
set_option linter.unusedVariables false
set_option linter.unusedSimpArgs false
namespace Go.Tw.X
open Go Go.Tw
def qg (Z:List bW) (r:Int):Bool:=Z.any fun x=>decide (x.e0≤r∧r≤x.e1)
theorem w9 (Z:List bW) (r v:Int) (h:Z.length≤1000):iter (σ:=Int) (ρ:=Unit ⊕ Int) (fun a=>(bif (decide (a < (Z.length:Int))) then (Option.bind (idx Z a) fun e=>(Option.bind ((bif (decide (r≥e.e0)) then some (decide (r≤e.e1)) else some false):Option Bool) fun f=>(bif f then (ka (some v)) else some (.inl (IntKind.i64.wrap (a+1)))))) else some (.inr (.inl ())))) 0=some (if qg Z r then .inr v else .inl ()):=by
 have key: ∀ (b d:List bW),d++b=Z→iter (σ:=Int) (ρ:=Unit ⊕ Int) (fun a=>(bif (decide (a < (Z.length:Int))) then (Option.bind (idx Z a) fun e=>(Option.bind ((bif (decide (r≥e.e0)) then some (decide (r≤e.e1)) else some false):Option Bool) fun f=>(bif f then (ka (some v)) else some (.inl (IntKind.i64.wrap (a+1)))))) else some (.inr (.inl ())))) (d.length:Int)=some (if qg b r then .inr v else .inl ()):=by
  intro b
  induction b with
  | nil =>
   intro d hd
   simp at hd
   subst hd
   rw [dx (r:= .inl ())]
   ·rfl
   ·simp
  | cons c b ih =>
   intro d hd
   have hl:Z.length=d.length+b.length+1:=by rw [← hd]; simp; omega
   have hc:decide ((d.length:Int) < (Z.length:Int))=true:=by simp; omega
   have hx:idx Z (d.length:Int)=some c:=by rw [← hd]; exact jK d b c
   have hin:((bif (decide (r≥c.e0)) then some (decide (r≤c.e1)) else some false):Option Bool)=some (decide (c.e0≤r∧r≤c.e1)):=by
    by_cases h1:c.e0≤r <;> by_cases h2:r≤c.e1 <;> simp [h1,h2]
   by_cases hh:c.e0≤r∧r≤c.e1
   ·rw [dx (r:= .inr v)]
    ·have:qg (c::b) r=true:=by unfold qg; rw [List.any_cons,decide_eq_true hh,Bool.true_or]
     rw [this]
     rfl
    ·simp only [hc,cond_true,hx,aB,hin]
     rw [decide_eq_true hh]
     rfl
   ·rw [eL (s':=((d++[c]).length:Int))]
    ·rw [ih (d++[c]) (by simpa using hd)]
     have:qg (c::b) r=qg b r:=by unfold qg; rw [List.any_cons,decide_eq_false hh,Bool.false_or]
     rw [this]
    ·simp only [hc,cond_true,hx,aB,hin]
     rw [decide_eq_false hh,cond_false,w64 (by omega) (by omega)]
     simp
 exact key Z [] rfl
theorem zH (x:Int) (h0: -2147483648≤x) (h1:x≤2147483647):mS x=some (ofS x):=by
 unfold mS
 rw [w9 _ x 0 (by decide),w9 _ x 2 (by decide)]
 have e8:((bif (decide (x < 32)) then some true else some (decide (x > 1114111))):Option Bool)=some (decide (x < 32∨x > 1114111)):=by
  by_cases h2:x < 32 <;> by_cases h3:x > 1114111 <;> simp [h2,h3]
 rw [e8,aB]
 have en:inS bZ x=(decide (x < 32∨x > 1114111) || qg [⟨127,159⟩,⟨768,879⟩,⟨6832,6911⟩,⟨7616,7679⟩,⟨8203,8207⟩,⟨8400,8447⟩,⟨55296,57343⟩,⟨65024,65039⟩,⟨65056,65071⟩,⟨65279,65279⟩,⟨917760,917999⟩] x):=by
  rw [Bool.eq_iff_iff]
  simp only [inS,bZ,qg,List.any_cons,List.any_nil,Bool.or_eq_true,decide_eq_true_eq,Bool.false_eq_true,or_false]
  constructor
  ·rintro (h | h | h | h | h | h | h | h | h | h | h | h | h) <;> omega
  ·omega
 have et:inS cC x=qg [⟨4352,4447⟩,⟨11904,12350⟩,⟨12353,13311⟩,⟨13312,19903⟩,⟨19968,40959⟩,⟨40960,42191⟩,⟨44032,55203⟩,⟨63744,64255⟩,⟨65072,65135⟩,⟨65280,65376⟩,⟨65504,65510⟩,⟨127744,128591⟩,⟨129280,129535⟩,⟨131072,262141⟩] x:=by
  simp only [inS,cC,qg,List.any_cons,List.any_nil]
 unfold ofS
 rw [en,et]
 cases decide (x < 32∨x > 1114111) with
 | true=>rfl
 | false =>
  rw [cond_false,Bool.false_or]
  cases qg [⟨127,159⟩,⟨768,879⟩,⟨6832,6911⟩,⟨7616,7679⟩,⟨8203,8207⟩,⟨8400,8447⟩,⟨55296,57343⟩,⟨65024,65039⟩,⟨65056,65071⟩,⟨65279,65279⟩,⟨917760,917999⟩] x with
  | true=>rfl
  | false =>
   cases qg [⟨4352,4447⟩,⟨11904,12350⟩,⟨12353,13311⟩,⟨13312,19903⟩,⟨19968,40959⟩,⟨40960,42191⟩,⟨44032,55203⟩,⟨63744,64255⟩,⟨65072,65135⟩,⟨65280,65376⟩,⟨65504,65510⟩,⟨127744,128591⟩,⟨129280,129535⟩,⟨131072,262141⟩] x <;> rfl
theorem BE (l:List aG) (w:Bool) (at_ x s:Int) (h:l.length≤1000000) (ha: -9223372036854775808≤at_) (hb:at_≤9223372036854775807) (h0: -2147483648≤x) (h1:x≤2147483647):lQ ⟨l.map tc,w⟩ at_ x s=some ⟨(fD 0 (qf l at_ x s)).map tc,false⟩:=by
 unfold lQ
 simp only [gL,List.nil_append]
 rw [zH x h0 h1,aB]
 have h3:=mi x
 have fin: ∀ (q:List aG),q.length=l.length→(Option.bind (dO (q.map tc)) fun a=>some a)=some ⟨(fD 0 q).map tc,false⟩:=fun q hq=>by rw [jU q (by omega),aB]
 rw [w64 (x:=(l.length:Int) - ofS x) (by omega) (by omega)]
 by_cases hc:ofS x=0∨at_ < 0∨at_ > l.length - ofS x
 ·have hb2:((bif (ofS x == 0) then some true else (bif (decide (at_ < 0)) then some true else some (decide (at_ > ((l.length:Int) - ofS x))))):Option Bool)=some true:=by
   rcases hc with hc | hc | hc
   ·simp [hc]
   ·cases h0:(ofS x == 0) <;> simp [hc]
   ·cases h0:(ofS x == 0) <;> cases h1:decide (at_ < 0) <;> simp [hc]
  rw [hb2,aB,cond_true]
  unfold qf
  rw [if_pos hc]
  exact fin _ rfl
 ·have hb2:((bif (ofS x == 0) then some true else (bif (decide (at_ < 0)) then some true else some (decide (at_ > ((l.length:Int) - ofS x))))):Option Bool)=some false:=by
   have e0:(ofS x == 0)=false:=by simp; omega
   have e1:decide (at_ < 0)=false:=decide_eq_false (by omega)
   rw [e0,cond_false,e1,cond_false]
   simp
   omega
  rw [hb2,aB,cond_false,zF _ h,aB]
  obtain ⟨k,rfl⟩: ∃ k:Nat,at_=k:=⟨at_.toNat,by omega⟩
  unfold qf
  rw [if_neg hc]
  have hk:k < (l.map tc).length:=by rw [gL]; omega
  rw [eC,List.getElem?_eq_getElem hk,aB,Int.toNat_natCast]
  by_cases h1:ofS x=1
  ·have e1:(ofS x == 2)=false:=by simp [h1]
   have em:(l.map tc).set k ⟨x,s,0⟩=(l.set k ⟨x,s,0⟩).map tc:=by rw [List.map_set]; rfl
   rw [e1,cond_false,aB,if_pos h1,em]
   exact fin _ (by simp)
  ·have h2:ofS x=2:=by omega
   have e1:(ofS x == 2)=true:=by simp [h2]
   have hk2:k+1 < l.length:=by omega
   have ew:IntKind.i64.wrap ((k:Int)+1)=((k+1:Nat):Int):=by rw [w64 (by omega) (by omega)]; omega
   rw [e1,cond_true,ew,eC,List.getElem?_eq_getElem (by simpa using hk),aB,eC,List.getElem?_eq_getElem (by simp; omega),aB,if_neg h1,Int.toNat_natCast]
   have em:(((l.map tc).set k ⟨x,s,0⟩).set k ⟨x,s,1⟩).set (k+1) ⟨x,s,2⟩=((l.set k ⟨x,s,1⟩).set (k+1) ⟨x,s,2⟩).map tc:=by
    rw [List.set_set,List.map_set,List.map_set]
    rfl
   rw [em]
   generalize hl1:(l.set k ⟨x,s,1⟩).set (k+1) ⟨x,s,2⟩=l1
   have hlen:l1.length=l.length:=by rw [← hl1]; simp
   unfold vS
   rw [show ((k:Int)).toNat=k from Int.toNat_natCast k]
   by_cases h0:(k:Int) > 0
   ·have em1:IntKind.i64.wrap ((k:Int) - 1)=((k - 1:Nat):Int):=by rw [w64 (by omega) (by omega)]; omega
    have hk1:k - 1 < l1.length:=by omega
    have hg:idx (l1.map tc) ((k - 1:Nat):Int)=some (tc l1[k - 1]):=by rw [eC,List.getElem?_map,List.getElem?_eq_getElem hk1]; rfl
    rw [decide_eq_true h0,cond_true,em1,hg,if_pos h0,List.getElem?_eq_getElem hk1]
    simp only [aB]
    by_cases hp:(l1[k - 1]).part=1
    ·have e3:((tc l1[k - 1]).part == 1)=true:=by simp [tc,hp]
     have es:(l1.map tc).set (k - 1) ⟨32,(tc l1[k - 1]).aK,0⟩=(l1.set (k - 1) (blk (l1[k - 1]).aK)).map tc:=by rw [List.map_set]; rfl
     rw [e3,cond_true,if_pos hp]
     simp only [aB,Int.toNat_natCast,es]
     exact fin _ (by simpa using hlen)
    ·have e3:((tc l1[k - 1]).part == 1)=false:=by simp [tc,hp]
     rw [e3,cond_false,if_neg hp]
     simp only [aB]
     exact fin _ hlen
   ·rw [decide_eq_false h0,cond_false,if_neg h0]
    simp only [aB]
    rw [cond_false,aB]
    exact fin _ hlen
end Go.Tw.X
set_option linter.unusedVariables false
set_option linter.unusedSimpArgs false
namespace Go.Tw.X
open Go Go.Tw
def rok (x:Int):Prop:= -2147483648≤x∧x≤2147483647
def okR (l:List aG):Prop:= ∀ c∈l,rok c.rune
theorem re (s:Int):rok (blk s).rune:=by unfold rok blk; simp
theorem mj: ∀ (l:List aG) (p:Int),okR l→okR (fD p l)
 | [],_,_=>fun c hc=>by cases hc
 | c::r,p,h=>by
  intro d hd
  simp only [fD,List.mem_cons] at hd
  rcases hd with rfl | hd
  ·unfold qd
   cases sU p c r with
   | true=>exact re c.aK
   | false=>exact h c (by simp)
  ·exact mj r _ (fun e he=>h e (by simp [he])) d hd
theorem px {l:List aG} (h:okR l) (i:Nat) {c:aG} (hc:rok c.rune):okR (l.set i c):=by
 intro d hd
 rcases List.mem_or_eq_of_mem_set hd with hd | rfl
 ·exact h d hd
 ·exact hc
theorem BF {l:List aG} (h:okR l) (at_ s:Int) {x:Int} (hx:rok x):okR (qf l at_ x s):=by
 unfold qf
 split
 ·exact h
 ·split
  ·exact px h _ hx
  ·unfold vS
   have h1:=px (px h at_.toNat (c:=⟨x,s,1⟩) hx) (at_.toNat+1) (c:=⟨x,s,2⟩) hx
   split
   ·split
    ·exact px h1 _ (re _)
    ·exact h1
   ·exact h1
theorem rh (n:Nat) (s:Int):okR (List.replicate n (blk s)):=fun c hc=>by rw [List.eq_of_mem_replicate hc]; exact re s
theorem py {a b:List aG} (ha:okR a) (hb:okR b):okR (a++b):=fun c hc=>(List.mem_append.1 hc).elim (ha c) (hb c)
theorem pz {a:List aG} (ha:okR a) (n:Nat):okR (a.take n):=fun c hc=>ha c (List.mem_of_mem_take hc)
theorem uP {a:List aG} (ha:okR a) (n:Nat):okR (a.drop n):=fun c hc=>ha c (List.mem_of_mem_drop hc)
theorem qh (a b s:Int): ∀ {l:List aG} (i:Int),okR l→okR (ie a b s i l)
 | [],_,_=>fun c hc=>by cases hc
 | c::r,i,h=>by
  intro d hd
  simp only [ie,List.mem_cons] at hd
  rcases hd with rfl | hd
  ·split
   ·exact re s
   ·exact h c (by simp)
  ·exact qh a b s (i+1) (fun e he=>h e (by simp [he])) d hd
theorem w32 {x:Int} (h:rok x):IntKind.i64.wrap x=x:=by obtain ⟨h1,h2⟩:=h; exact w64 (by omega) (by omega)
theorem EK (r:aE) (h:r.cells.length≤1000000) (hr:okR r.cells):oX r (told r)=some true:=by
 unfold oX told
 simp only [gL]
 have e6:((bif ((r.cells.length:Int) != (r.cells.length:Int)) then some true else some (!(r.wrapped == r.wrapped))):Option Bool)=some false:=by simp
 rw [e6,aB,cond_false]
 have key: ∀ (b d:List aG),d++b=r.cells→iter (σ:=Int) (ρ:=Unit ⊕ Bool) (fun a=>(bif (decide (a < (r.cells.length:Int))) then (Option.bind (idx r.cells a) fun e=>(Option.bind ((Option.bind (idx (r.cells.map tc) a) fun f=>(bif ((IntKind.i64.wrap e.rune) != f.rune) then some true else (Option.bind (idx (r.cells.map tc) a) fun g=>(bif (e.aK != g.aK) then some true else (Option.bind (idx (r.cells.map tc) a) fun i=>some (e.part != i.part)))))):Option Bool) fun j=>(bif j then (ka (some false)) else some (.inl (IntKind.i64.wrap (a+1)))))) else some (.inr (.inl ())))) (d.length:Int)=some (.inl ()):=by
  intro b
  induction b with
  | nil =>
   intro d hd
   simp at hd
   subst hd
   rw [dx (r:= .inl ())]
   simp
  | cons c b ih =>
   intro d hd
   have hl:r.cells.length=d.length+b.length+1:=by rw [← hd]; simp; omega
   have hc:decide ((d.length:Int) < (r.cells.length:Int))=true:=by simp; omega
   have hx:idx r.cells (d.length:Int)=some c:=by rw [← hd]; exact jK d b c
   have hx2:idx (r.cells.map tc) (d.length:Int)=some (tc c):=by
    rw [← hd,List.map_append,List.map_cons,← gL d]
    exact jK _ _ _
   have hcr:rok c.rune:=hr c (by rw [← hd]; simp)
   rw [eL (s':=((d++[c]).length:Int))]
   ·exact ih (d++[c]) (by simpa using hd)
   ·simp only [hc,cond_true,hx,hx2,aB,w32 hcr,tc,bne_self_eq_false,cond_false]
    rw [w64 (by omega) (by omega)]
    simp
 have h0:=key r.cells [] rfl
 have e0:((([]:List aG).length:Nat):Int)=0:=rfl
 rw [e0] at h0
 rw [h0,aB]
def ins (l:List aG) (at_ n s:Int):List aG:=if cA l at_ n=0 then l else kA l at_.toNat (cA l at_ n).toNat s
def del (l:List aG) (at_ n s:Int):List aG:=if cA l at_ n=0 then l else lb l at_.toNat (cA l at_ n).toNat s
theorem rX (l:List aG) (at_ n:Int):cA l at_ n=0∨(0 < cA l at_ n∧0≤at_∧at_+cA l at_ n≤l.length):=by
 unfold cA
 split
 ·exact .inl rfl
 ·omega
end Go.Tw.X
set_option linter.unusedVariables false
set_option linter.unusedSimpArgs false
namespace Go.Tw.X
open Go Go.Tw
theorem xa {σ ρ:Type} {f:σ→Option (σ ⊕ ρ)} (S:Nat→σ) (n:Nat) (r:ρ) (hs: ∀ i,i < n→f (S i)=some (.inl (S (i+1)))) (he:f (S n)=some (.inr r)):iter f (S 0)=some r:=by
 have key: ∀ i,i≤n→iter f (S 0)=iter f (S i):=by
  intro i
  induction i with
  | zero=>intro _; rfl
  | succ i ih =>
   intro hi
   rw [ih (by omega),eL (hs i (by omega))]
 rw [key n (Nat.le_refl n),dx he]
theorem fQ {σ ρ β:Type} {f:σ→Option (σ ⊕ ρ)} {s:σ} {g:ρ→Option β} {out:Option β} (S:Nat→σ) (n:Nat) (r:ρ) (h0:s=S 0) (hs: ∀ i,i < n→f (S i)=some (.inl (S (i+1)))) (he:f (S n)=some (.inr r)) (hg:g r=out):Option.bind (iter f s) g=out:=by
 rw [h0,xa S n r hs he]
 exact hg
theorem rY {σ ρ:Type} {f:σ→Option (σ ⊕ ρ)} (Inv:σ→Prop) (m:σ→Nat) (nw:ρ→Prop)
  (hs: ∀ s,Inv s→(∃ s',f s=some (.inl s')∧Inv s'∧m s' < m s)∨(∃ r,f s=some (.inr r)∧nw r)): ∀ s,Inv s → ∃ r,iter f s=some r∧nw r:=by
 have key: ∀ (n:Nat) s,m s≤n→Inv s → ∃ r,iter f s=some r∧nw r:=by
  intro n
  induction n with
  | zero =>
   intro s hm hi
   rcases hs s hi with ⟨s',hf,hi',hlt⟩ | ⟨r,hf,hp⟩
   ·omega
   ·exact ⟨r,dx hf,hp⟩
  | succ n ih =>
   intro s hm hi
   rcases hs s hi with ⟨s',hf,hi',hlt⟩ | ⟨r,hf,hp⟩
   ·rw [eL hf]
    exact ih s' (by omega) hi'
   ·exact ⟨r,dx hf,hp⟩
 intro s hi
 exact key (m s) s (Nat.le_refl _) hi
theorem ml {σ ρ β:Type} {f:σ→Option (σ ⊕ ρ)} {s:σ} {g:ρ→Option β} {out:Option β} (Inv:σ→Prop) (m:σ→Nat) (nw:ρ→Prop) (h0:Inv s)
  (hs: ∀ s,Inv s→(∃ s',f s=some (.inl s')∧Inv s'∧m s' < m s)∨(∃ r,f s=some (.inr r)∧nw r)) (hg: ∀ r,nw r→g r=out):Option.bind (iter f s) g=out:=by
 obtain ⟨r,h1,h2⟩:=rY Inv m nw hs s h0
 rw [h1]
 exact hg r h2
theorem zI {α:Type} (l:List α) {i:Int} (h0:0≤i) (h1:i < l.length): ∃ a,idx l i=some a∧a∈l:=by
 obtain ⟨n,rfl⟩:=Int.eq_ofNat_of_zero_le h0
 rw [eC]
 have hn:n < l.length:=by omega
 rw [List.getElem?_eq_getElem hn]
 exact ⟨_,rfl,List.getElem_mem hn⟩
theorem tX (p q:Prop) [Decidable p] [Decidable q]:((bif decide p then some (decide q) else some false):Option Bool)=some (decide (p∧q)):=by
 by_cases a1:p <;> by_cases a2:q <;> simp [a1,a2]
theorem or2 (p q:Prop) [Decidable p] [Decidable q]:((bif decide p then some true else some (decide q)):Option Bool)=some (decide (p∨q)):=by
 by_cases a1:p <;> by_cases a2:q <;> simp [a1,a2]
theorem dr {α:Type} (l:List α) (n:Nat) (h:n < l.length):idx l (n:Int)=some l[n]:=by rw [eC,List.getElem?_eq_getElem h]
theorem BH {α:Type} (l r:List α) (x y:α):(l++x::r).set l.length y=l++y::r:=by simp
theorem xc {α:Type} (A B C:List α) (hi:Int) (h:hi=((A.length+B.length:Nat):Int)):cut (A++B++C) (A.length:Int) hi=B:=by
 subst h
 simp only [cut,Int.toNat_natCast]
 rw [List.take_left' (by simp),List.drop_left]
theorem lS {α:Type} (l:List α) (a b:Nat):cut l (a:Int) (b:Int)=(l.take b).drop a:=by simp [cut]
theorem mm {α:Type} (l:List α) (b:Nat):cut l 0 (b:Int)=l.take b:=by simp [cut]
def szN (n:Int):Nat:=(max 1 (min n 1000)).toNat
theorem tY (n:Int):imax 1 (dt n 1000)=(szN n:Int):=by rw [ey,dv]; unfold szN; omega
theorem kC (n:Int):1≤szN n:=by unfold szN; omega
theorem iF (n:Int):szN n≤1000:=by unfold szN; omega
theorem DE (n:Nat) (h0:1≤n) (h1:n≤1000):szN n=n:=by unfold szN; omega
def eZ (W:Nat) (s:Int):aE:=⟨List.replicate W (blk s),false⟩
def na (g:aU):cT:=⟨g.w,g.l.map told⟩
def gok (W:Nat) (r:aE):Prop:=r.cells.length=W∧okR r.cells
structure GI (W:Nat) (l:List aE):Prop where
 w1:1≤W
 w2:W≤1000
 l1:1≤l.length
 l2:l.length≤1000
 rs: ∀ r∈l,gok W r
theorem nH (n lo hi:Int):fk n lo hi=some (max lo (min n hi)):=by
 unfold fk
 rw [ey,dv]
theorem nI (n:Int):fR n=some (szN n:Int):=by
 unfold fR fk
 rw [tY]
 rfl
theorem mq (n:Int):jd n=some (szN n:Int):=by
 unfold jd
 rw [tY]
theorem tZ (W:Nat) (s:Int) (h:W≤1000):gx W s=some (eZ W s):=by
 rw [tV]
 have:(max 0 (min (W:Int) 1000)).toNat=W:=by omega
 rw [this]
 rfl
theorem ri (W:Nat) (s:Int) (h:W≤1000):eX W s=some (told (eZ W s)):=by
 rw [n8]
 have:(max 0 (min (W:Int) 1000)).toNat=W:=by omega
 rw [this]
 rfl
theorem n9 (W:Nat) (s:Int):gok W (eZ W s):=⟨by simp [eZ],rh W s⟩
def qU (w h:Int):aU:=⟨(szN w:Int),List.replicate (szN h) (eZ (szN w) 0)⟩
theorem DG (w h:Int):GI (szN w) (qU w h).l:=by
 refine ⟨kC w,iF w,?_,?_,?_⟩
 ·simpa [qU] using kC h
 ·simpa [qU] using iF h
 ·intro r hr
  rw [List.eq_of_mem_replicate hr]
  exact n9 _ _
theorem DH (w h:Int):lx w h=some (qU w h):=by
 unfold lx
 rw [nI,aB,nI,aB]
 have hw:=iF w
 have hh:=iF h
 refine fQ (fun i=>((⟨(szN w:Int),List.replicate i (eZ (szN w) 0)⟩:aU),(i:Int))) (szN h) _ rfl ?_ ?_ rfl
 ·intro i hi
  try dsimp only
  rw [decide_eq_true (by omega),cond_true,tZ _ _ hw,aB,bI (by simp; omega),aB,w64 (by omega) (by omega),← List.replicate_succ']
  rfl
 ·try dsimp only
  rw [decide_eq_false (by omega),cond_false]
  rfl
theorem BI (w h:Int):nz w h=some (na (qU w h)):=by
 unfold nz
 rw [mq,aB]
 have hw:=iF w
 have hh:=iF h
 refine fQ (fun i=>((⟨(szN w:Int),List.replicate i (told (eZ (szN w) 0))⟩:cT),(i:Int))) (szN h) (⟨(szN w:Int),List.replicate (szN h) (told (eZ (szN w) 0))⟩:cT) rfl ?_ ?_ ?_
 ·intro i hi
  try dsimp only
  rw [mq,aB,decide_eq_true (by omega),cond_true,ri _ _ hw,aB,bI (by simp; omega),aB,w64 (by omega) (by omega),← List.replicate_succ']
  rfl
 ·try dsimp only
  rw [mq,aB,decide_eq_false (by omega),cond_false]
 ·simp [na,qU]
theorem zJ (r:aE) (h:r.cells.length≤1000000):kp r=some r:=by
 unfold kp
 rw [uN _ h,aB]
def EL:aE:=⟨[],false⟩
def iu (l:List aE) (y:Int):aE:=if 0≤y∧y < l.length then l[y.toNat]?.getD EL else EL
theorem xd {l:List aE} {n:Nat} (h:n < l.length):iu l n=l[n]:=by
 unfold iu
 rw [if_pos (by omega),Int.toNat_natCast,List.getElem?_eq_getElem h]
 rfl
theorem DJ (w:Int) (l:List aE) (y:Int) (h: ∀ r∈l,r.cells.length≤1000000):dM ⟨w,l⟩ y=some (iu l y):=by
 unfold dM iu
 rw [or2,aB]
 by_cases hy:0≤y∧y < l.length
 ·rw [decide_eq_false (by (try dsimp only); omega),cond_false,if_pos hy]
  obtain ⟨n,rfl⟩:=Int.eq_ofNat_of_zero_le hy.1
  have hn:n < l.length:=by omega
  simp only [Int.toNat_natCast]
  rw [dr l n hn,aB,zJ _ (h _ (List.getElem_mem hn)),aB,List.getElem?_eq_getElem hn]
  rfl
 ·rw [decide_eq_true (by (try dsimp only); omega),cond_true,if_neg hy]
  rfl
def rsz (W:Nat) (r:aE):aE:=if W=r.cells.length then r else ⟨fD 0 (kB r.cells W),false⟩
theorem DK (W:Nat) (hW:W≤1000) (r:aE) (h:r.cells.length≤1000000):fU r W=some (rsz W r):=by
 rw [yn _ _ h]
 have:(max 0 (min (W:Int) 1000)).toNat=W:=by omega
 rw [this]
 rfl
theorem xe (W:Nat) (hW:W≤1000) (r:aE) (h:r.cells.length≤1000000):iO (told r) W=some (told (rsz W r)):=by
 unfold told
 rw [vV _ _ _ h]
 have:(max 0 (min (W:Int) 1000)).toNat=W:=by omega
 rw [this]
 unfold rsz
 split <;> rfl
theorem DL {W:Nat} {r:aE} (h:r.cells.length=W):rsz W r=r:=by
 unfold rsz
 rw [if_pos h.symm]
theorem xf (W:Nat) (r:aE) (h:okR r.cells):gok W (rsz W r):=by
 unfold rsz
 split
 ·rename_i e
  exact ⟨e.symm,h⟩
 ·refine ⟨?_,mj _ _ (py (pz h _) (rh _ _))⟩
  simp only [ic,kB,List.length_append,List.length_take,List.length_replicate]
  omega
def inG (l:List aE) (y:Int):Bool:=decide (0≤y∧y < l.length)
def oA (W:Nat) (l:List aE) (y:Int) (r:aE):List aE:=if 0≤y∧y < l.length then l.set y.toNat (rsz W r) else l
theorem iP (W:Nat) (l:List aE) (y:Int) (r:aE):(oA W l y r).length=l.length:=by
 unfold oA
 split <;> simp
theorem yq {W:Nat} {l:List aE} (h: ∀ r∈l,gok W r) (y:Int) (r:aE) (hr:okR r.cells): ∀ q∈oA W l y r,gok W q:=by
 unfold oA
 split
 ·intro q hq
  rcases List.mem_or_eq_of_mem_set hq with hq | hq
  ·exact h q hq
  ·rw [hq]
   exact xf W r hr
 ·exact h
theorem zK (W:Nat) (hW:W≤1000) (l:List aE) (y:Int) (r:aE) (h:r.cells.length≤1000000):dy ⟨W,l⟩ y r=some (inG l y,⟨W,oA W l y r⟩):=by
 unfold dy oA inG
 rw [or2,aB]
 by_cases hy:0≤y∧y < l.length
 ·rw [decide_eq_false (by (try dsimp only); omega),cond_false,if_pos hy,decide_eq_true hy]
  obtain ⟨n,rfl⟩:=Int.eq_ofNat_of_zero_le hy.1
  have hn:n < l.length:=by omega
  try dsimp only
  rw [DK W hW r h,aB,dr l n hn,aB]
 ·rw [decide_eq_true (by (try dsimp only); omega),cond_true,if_neg hy,decide_eq_false hy]
theorem BJ (W:Nat) (hW:W≤1000) (l:List aE) (y:Int) (r:aE) (h:r.cells.length≤1000000) (hl:l.length≤1000000):kJ ⟨W,l.map told⟩ y (told r)=some (⟨W,(oA W l y r).map told⟩,inG l y):=by
 unfold kJ oA inG
 rw [or2,aB]
 simp only [List.length_map]
 by_cases hy:0≤y∧y < l.length
 ·rw [decide_eq_false (by (try dsimp only); omega),cond_false,if_pos hy,decide_eq_true hy]
  obtain ⟨n,rfl⟩:=Int.eq_ofNat_of_zero_le hy.1
  have hn:n < l.length:=by omega
  rw [bI (by simp; omega),aB,xe W hW r h,aB,List.nil_append,dr (l.map told) n (by simpa using hn),aB]
  simp only [Int.toNat_natCast,List.map_set]
 ·rw [decide_eq_true (by (try dsimp only); omega),cond_true,if_neg hy,decide_eq_false hy]
theorem oa (l:List aE) (h:l.length≤1000000):cU l=some l:=by
 unfold cU
 rw [bI (by simp; omega),aB]
 rfl
theorem BK {σ:Type} (Y:σ→aE→Option (σ×Bool)) (S:Nat→σ) (l:List aE) (hl:l.length≤1000000) (h: ∀ r∈l,r.cells.length≤1000000) (hY: ∀ i (hi:i < l.length),Y (S i) l[i]=some (S (i+1),true)):fV Y (S 0) l=some (S l.length):=by
 unfold fV
 refine fQ (fun i=>((i:Int),S i)) l.length (.inl (S l.length)) rfl ?_ ?_ rfl
 ·intro i hi
  try dsimp only
  rw [decide_eq_true (by omega),cond_true,dr l i hi,aB,zJ _ (h _ (List.getElem_mem hi)),aB,hY i hi,aB]
  try dsimp only
  rw [Bool.not_true,cond_false,w64 (by omega) (by omega)]
  rfl
 ·try dsimp only
  rw [decide_eq_false (by omega),cond_false]
theorem rZ (l:List aE) (hl:l.length≤1000000) (h: ∀ r∈l,r.cells.length≤1000000):fW l=some (l,l):=by
 unfold fW jM
 rw [aB]
 have key:=BK (fun (s40:List aE) (x9:aE)=>(Option.bind (chk (dg s40.length [x9].length 32)) fun _=>some ((s40++[x9]),true))) (fun i=>l.take i) l hl h (by
  intro i hi
  try dsimp only
  rw [bI (by simp; omega),aB,← List.take_succ_eq_append_getElem hi])
 rw [List.take_length] at key
 change fV _ ([]:List aE) l=some l at key
 rw [key]
 rfl
theorem qZ (w:Int) (l:List aE) (hl:l.length≤1000000) (h: ∀ r∈l,r.cells.length≤1000000):gY ⟨w,l⟩=some (l,⟨w,l⟩):=by
 unfold gY
 try dsimp only
 rw [rZ l hl h,aB,jL rfl,aB]
theorem sb (w:Int) (l:List aE) (hl:l.length≤1000000) (h: ∀ r∈l,r.cells.length≤1000000):fy ⟨w,l⟩=some (⟨w,l⟩,⟨w,l⟩):=by
 unfold fy
 try dsimp only
 rw [rZ l hl h,aB,jL rfl,aB]
end Go.Tw.X
set_option linter.unusedVariables false
set_option linter.unusedSimpArgs false
namespace Go.Tw.X
open Go Go.Tw
theorem jV {α:Type} {l r:List α} {x:α} {k:Int} (h:k=l.length):idx (l++x::r) k=some x:=by rw [h,jK]
theorem lC {α:Type} {l r:List α} {x y:α} {k:Nat} (h:k=l.length):(l++x::r).set k y=l++y::r:=by rw [h,BH]
theorem kX {α:Type} (l:List α) (a b:Nat) (h:a≤b) (h2:b≤l.length):(cut l (a:Int) (b:Int)).length=b - a:=by
 rw [lS,List.length_drop,List.length_take]
 omega
def loS (l:List aE) (t:Int):Nat:=(max 0 (min t ((l.length:Int) - 1))).toNat
theorem oZ (l:List aE) (t:Int) (h:1≤l.length):loS l t < l.length:=by unfold loS; omega
theorem kT (l:List aE) (t:Int):max 0 (min t ((l.length:Int) - 1))=(loS l t:Int):=by unfold loS; omega
theorem tp (w:Int) (l:List aE) (top aH:Int) (h1:1≤l.length) (h2:l.length≤1000000):cY ⟨w,l⟩ top aH=some (if loS l aH < loS l top then .inl () else .inr ((loS l top:Int),((loS l aH+1:Nat):Int))):=by
 unfold cY
 dsimp only
 have ht:=oZ l top h1
 have hb:=oZ l aH h1
 rw [w64 (x:=(l.length:Int) - 1) (by omega) (by omega),nH,aB,nH,aB,kT,kT]
 by_cases h:loS l aH < loS l top
 ·rw [decide_eq_true (by omega),cond_true,if_pos h]
 ·rw [decide_eq_false (by omega),cond_false,if_neg h,w64 (by omega) (by omega),bK (by omega) (by omega) (by omega),aB]
  rfl
def kN (n:Int) (b:Nat):Nat:=(max 0 (min n (b:Int))).toNat
theorem CL (n:Int) (b:Nat):max 0 (min n (b:Int))=(kN n b:Int):=by unfold kN; omega
theorem xh (n:Int) (b:Nat):kN n b≤b:=by unfold kN; omega
def upB {α:Type} (k:Nat) (B:List α) (x:α):List α:=B.drop k++List.replicate (min k B.length) x
def jm {α:Type} (k:Nat) (B:List α) (x:α):List α:=List.replicate (min k B.length) x++B.take (B.length - k)
theorem sd {α:Type} (k:Nat) (B:List α) (x:α):(upB k B x).length=B.length:=by
 unfold upB
 rw [List.length_append,List.length_drop,List.length_replicate]
 omega
theorem pA {α:Type} (k:Nat) (B:List α) (x:α):(jm k B x).length=B.length:=by
 unfold jm
 rw [List.length_append,List.length_take,List.length_replicate]
 omega
theorem BL {α β:Type} (f:α→β) (k:Nat) (B:List α) (x:α):(upB k B x).map f=upB k (B.map f) (f x):=by
 simp [upB]
theorem yu {α β:Type} (f:α→β) (k:Nat) (B:List α) (x:α):(jm k B x).map f=jm k (B.map f) (f x):=by
 simp [jm]
theorem zL {α:Type} (A B C:List α) (n:Nat) (h:n≤B.length):(A++B++C).drop (A.length+n)=B.drop n++C:=by
 rw [List.append_assoc,List.drop_append,List.drop_append]
 have e1:A.drop (A.length+n)=[]:=List.drop_eq_nil_of_le (by omega)
 have e2:A.length+n - A.length=n:=by omega
 have e3:n - B.length=0:=by omega
 rw [e1,e2,e3,List.nil_append,List.drop_zero]
theorem CM {α:Type} (A B C:List α) (n:Nat) (h:n≤B.length):(A++B++C).take (A.length+n)=A++B.take n:=by
 rw [List.append_assoc,List.take_append,List.take_append]
 have e1:A.take (A.length+n)=A:=List.take_of_length_le (by omega)
 have e2:A.length+n - A.length=n:=by omega
 have e3:n - B.length=0:=by omega
 rw [e1,e2,e3,List.take_zero,List.append_nil]
theorem BM {α:Type} (A B C:List α) (m n:Nat) (h:n≤B.length) (h2:m≤n):cut (A++B++C) ((A.length+m:Nat):Int) ((A.length+n:Nat):Int)=(B.take n).drop m:=by
 rw [lS,CM A B C n h]
 have:=zL A (B.take n) [] m (by rw [List.length_take]; omega)
 simp
theorem EN (W:Nat) (hW:W≤1000) (A B C:List aE) (top aH n s:Int) (hl:(A++B++C).length≤1000000) (hB:1≤B.length)
  (hreg:cY ⟨W,A++B++C⟩ top aH=some (.inr ((A.length:Int),((A.length+B.length:Nat):Int)))) :
  dV ⟨W,A++B++C⟩ top aH n s=some (B.take (kN n B.length),⟨W,A++upB (kN n B.length) B (eZ W s)++C⟩):=by
 unfold dV
 rw [hreg,aB]
 dsimp only
 have hk:=xh n B.length
 simp only [List.length_append] at hl
 rw [bK (by omega) (by omega) (by simp only [List.length_append]; omega),aB,xc A B C _ rfl,nH,aB,CL]
 generalize kN n B.length=k at hk
 rw [bK (by omega) (by omega) (by omega),aB]
 have e1:cut (A++B++C) ((A.length:Int)+0) ((A.length:Int)+(k:Int))=B.take k:=by
  have:=BM A B C 0 k hk (by omega)
  simpa using this
 have e2:nh (A++B++C) (A.length:Int) ((A.length+B.length:Nat):Int) ((A.length:Int)+(k:Int)) ((A.length:Int)+(B.length:Int))=A++B.drop k++(B.drop (B.length - k)++C):=by
  have c:=BM A B C k B.length (Nat.le_refl _) hk
  rw [List.take_length] at c
  have c':cut (A++B++C) ((A.length:Int)+(k:Int)) ((A.length:Int)+(B.length:Int))=B.drop k:=by simpa using c
  unfold nh
  rw [c',Int.toNat_natCast,Int.toNat_natCast,List.append_assoc A B C,List.take_left,List.take_of_length_le (l:=B.drop k) (by rw [List.length_drop]; omega),List.length_drop,← List.append_assoc A B C,zL A B C _ (by omega)]
 rw [e1,oa _ (by rw [List.length_take]; omega),aB,bK (by omega) (by omega) (by omega),aB,e2]
 have hL:(cut (A++B.drop k++(B.drop (B.length - k)++C)) (A.length:Int) ((A.length+B.length:Nat):Int)).length=B.length:=by
  rw [kX _ _ _ (by omega) (by simp; omega)]
  omega
 rw [hL,w64 (by omega) (by omega)]
 refine fQ (fun i=>((⟨W,A++(B.drop k++List.replicate i (eZ W s))++(B.drop (B.length - k+i)++C)⟩:aU),((B.length - k+i:Nat):Int))) k (⟨W,A++upB k B (eZ W s)++C⟩:aU) ?_ ?_ ?_ rfl
 ·have:(B.length:Int) - (k:Int)=((B.length - k+0:Nat):Int):=by omega
  rw [this]
  simp
 ·intro i hi
  dsimp only
  have hlen:(A++(B.drop k++List.replicate i (eZ W s))++(B.drop (B.length - k+i)++C)).length=A.length+B.length+C.length:=by simp; omega
  have hc:(cut (A++(B.drop k++List.replicate i (eZ W s))++(B.drop (B.length - k+i)++C)) (A.length:Int) ((A.length+B.length:Nat):Int)).length=B.length:=by
   rw [kX _ _ _ (by omega) (by rw [hlen]; omega)]
   omega
  rw [hc,decide_eq_true (by omega),cond_true,tZ _ _ hW,aB,bK (by omega) (by omega) (by rw [hlen]; omega),aB]
  obtain ⟨x,hx,_⟩:=zI (cut (A++(B.drop k++List.replicate i (eZ W s))++(B.drop (B.length - k+i)++C)) (A.length:Int) ((A.length+B.length:Nat):Int)) (i:=((B.length - k+i:Nat):Int)) (by omega) (by rw [hc]; omega)
  rw [hx,aB,w64 (by omega) (by omega),List.drop_eq_getElem_cons (l:=B) (i:=B.length - k+i) (by omega),List.cons_append,lC (by simp; omega),List.replicate_succ']
  simp [Nat.add_assoc]
  omega
 ·dsimp only
  have hlen:(A++(B.drop k++List.replicate k (eZ W s))++(B.drop (B.length - k+k)++C)).length=A.length+B.length+C.length:=by simp; omega
  have hc:(cut (A++(B.drop k++List.replicate k (eZ W s))++(B.drop (B.length - k+k)++C)) (A.length:Int) ((A.length+B.length:Nat):Int)).length=B.length:=by
   rw [kX _ _ _ (by omega) (by rw [hlen]; omega)]
   omega
  rw [hc,decide_eq_false (by omega),cond_false,List.drop_eq_nil_of_le (as:=B) (i:=B.length - k+k) (by omega)]
  unfold upB
  rw [Nat.min_eq_left hk]
  simp
end Go.Tw.X
set_option linter.unusedVariables false
set_option linter.unusedSimpArgs false
namespace Go.Tw.X
open Go Go.Tw
theorem vW (l:List aE) (h:l.length≤1000000):dU l=some l.reverse:=by
 unfold dU
 refine ml (fun s:List aE×Int×Int=> ∃ t:Nat,s.2.1=t∧s.2.2=(l.length:Int) - 1 - t∧2*t≤l.length+1∧s.1.length=l.length ∧ ∀ p,p < l.length→s.1[p]?=if p < t∨l.length - 1 - t < p then l[l.length - 1 - p]? else l[p]?) (fun s=>(s.2.2 - s.2.1+1).toNat) (fun r=>r=l.reverse) ?_ ?_ (fun r hr=>by rw [hr])
 ·refine ⟨0,rfl,?_,by omega,rfl,fun p hp=> ?_⟩
  ·dsimp only
   rw [w64 (by omega) (by omega)]
   omega
  ·rw [if_neg (by omega)]
 ·rintro ⟨L,i,j⟩ ⟨t,hi,hj,ht,hL,hp⟩
  dsimp only at hi hj hL hp ⊢
  subst hi hj
  by_cases hlt:(t:Int) < (l.length:Int) - 1 - t
  ·have hj:(l.length:Int) - 1 - (t:Int)=((l.length - 1 - t:Nat):Int):=by omega
   have h1:t < L.length:=by omega
   have h2:l.length - 1 - t < L.length:=by omega
   have g1:=hp t (by omega)
   have g2:=hp (l.length - 1 - t) (by omega)
   rw [if_neg (by omega)] at g1 g2
   refine .inl ⟨((L.set t L[l.length - 1 - t]).set (l.length - 1 - t) L[t],((t+1:Nat):Int),(l.length:Int) - 1 - ((t+1:Nat):Int)),?_,⟨t+1,rfl,rfl,by omega,by simp [hL],?_⟩,by dsimp only; omega⟩
   ·rw [decide_eq_true hlt,cond_true,hj,dr L _ h1,dr L _ h2]
    simp only [aB,Int.toNat_natCast]
    rw [w64 (by omega) (by omega),w64 (by omega) (by omega)]
    congr 3
    congr 1
    omega
   ·intro p hpl
    have hg1:L[t]?=some L[t]:=List.getElem?_eq_getElem h1
    have hg2:L[l.length - 1 - t]?=some L[l.length - 1 - t]:=List.getElem?_eq_getElem h2
    dsimp only
    by_cases c1:p=l.length - 1 - t
    ·subst c1
     rw [List.getElem?_set_self (by simpa using h2),if_pos (by omega),← hg1,g1]
     congr 1
     omega
    ·rw [List.getElem?_set_ne (fun e=>c1 e.symm)]
     by_cases c2:p=t
     ·subst c2
      rw [List.getElem?_set_self h1,if_pos (by omega),← hg2,g2]
     ·rw [List.getElem?_set_ne (fun e=>c2 e.symm),hp p hpl]
      by_cases c3:p < t∨l.length - 1 - t < p
      ·rw [if_pos c3,if_pos (by omega)]
      ·rw [if_neg c3,if_neg (by omega)]
  ·refine .inr ⟨L,by rw [decide_eq_false hlt,cond_false],?_⟩
   apply List.ext_getElem?
   intro p
   by_cases hpl:p < l.length
   ·rw [hp p hpl,List.getElem?_reverse hpl]
    by_cases c3:p < t∨l.length - 1 - t < p
    ·rw [if_pos c3]
    ·rw [if_neg c3]
     congr 1
     omega
   ·rw [List.getElem?_eq_none (by omega),List.getElem?_eq_none (by simp; omega)]
theorem BN (W:Nat) (hW:W≤1000) (A B C:List aE) (top aH n s:Int) (hl:(A++B++C).length≤1000000) (hB:1≤B.length)
  (hreg:cY ⟨W,A++B++C⟩ top aH=some (.inr ((A.length:Int),((A.length+B.length:Nat):Int)))) :
  dk ⟨W,A++B++C⟩ top aH n s=some ((B.drop (B.length - kN n B.length)).reverse,⟨W,A++jm (kN n B.length) B (eZ W s)++C⟩):=by
 unfold dk
 rw [hreg,aB]
 dsimp only
 have hk:=xh n B.length
 simp only [List.length_append] at hl
 rw [bK (by omega) (by omega) (by simp only [List.length_append]; omega),aB,xc A B C _ rfl,nH,aB,CL]
 generalize kN n B.length=k at hk
 rw [w64 (x:=(B.length:Int) - (k:Int)) (by omega) (by omega)]
 have hbk:(B.length:Int) - (k:Int)=((B.length - k:Nat):Int):=by omega
 rw [hbk,bK (by omega) (by omega) (by omega),aB]
 have e1:cut (A++B++C) ((A.length:Int)+((B.length - k:Nat):Int)) ((A.length:Int)+(B.length:Int))=B.drop (B.length - k):=by
  have:=BM A B C (B.length - k) B.length (Nat.le_refl _) (by omega)
  rw [List.take_length] at this
  simpa using this
 have e2:nh (A++B++C) ((A.length:Int)+(k:Int)) ((A.length:Int)+(B.length:Int)) ((A.length:Int)+0) ((A.length:Int)+((B.length - k:Nat):Int))=A++B.take k++(B.take (B.length - k)++C):=by
  have c:=BM A B C 0 (B.length - k) (by omega) (by omega)
  rw [List.drop_zero] at c
  have c':cut (A++B++C) ((A.length:Int)+0) ((A.length:Int)+((B.length - k:Nat):Int))=B.take (B.length - k):=by simpa using c
  have t1:((A.length:Int)+(k:Int)).toNat=A.length+k:=by omega
  have t2:((A.length:Int)+(B.length:Int)).toNat=A.length+B.length:=by omega
  unfold nh
  rw [c',t1,t2,CM A B C k hk,List.take_of_length_le (l:=B.take (B.length - k)) (by rw [List.length_take]; omega),List.length_take]
  have t3:A.length+k+min (B.length - k) B.length=A.length+B.length:=by omega
  rw [t3,zL A B C _ (Nat.le_refl _),List.drop_eq_nil_of_le (Nat.le_refl _),List.nil_append,List.append_assoc (A++B.take k)]
 rw [e1,oa _ (by rw [List.length_drop]; omega),aB,vW _ (by rw [List.length_drop]; omega),aB,jL (by simp),aB,bK (by omega) (by omega) (by omega),aB,bK (by omega) (by omega) (by omega),aB,e2]
 refine fQ (fun i=>((⟨W,A++List.replicate i (eZ W s)++((B.take k).drop i++(B.take (B.length - k)++C))⟩:aU),(i:Int))) k (⟨W,A++jm k B (eZ W s)++C⟩:aU) ?_ ?_ ?_ rfl
 ·simp
 ·intro i hi
  dsimp only
  have hlen:(A++List.replicate i (eZ W s)++((B.take k).drop i++(B.take (B.length - k)++C))).length=A.length+B.length+C.length:=by simp; omega
  have hc:(cut (A++List.replicate i (eZ W s)++((B.take k).drop i++(B.take (B.length - k)++C))) (A.length:Int) ((A.length+B.length:Nat):Int)).length=B.length:=by
   rw [kX _ _ _ (by omega) (by rw [hlen]; omega)]
   omega
  rw [decide_eq_true (by omega),cond_true,tZ _ _ hW,aB,bK (by omega) (by omega) (by rw [hlen]; omega),aB]
  obtain ⟨x,hx,_⟩:=zI (cut (A++List.replicate i (eZ W s)++((B.take k).drop i++(B.take (B.length - k)++C))) (A.length:Int) ((A.length+B.length:Nat):Int)) (i:=(i:Int)) (by omega) (by rw [hc]; omega)
  have htl:i < (B.take k).length:=by rw [List.length_take]; omega
  rw [hx,aB,w64 (by omega) (by omega),List.drop_eq_getElem_cons htl,List.cons_append,lC (by simp),List.replicate_succ']
  simp
 ·dsimp only
  rw [decide_eq_false (by omega),cond_false,List.drop_eq_nil_of_le (as:=B.take k) (i:=k) (by rw [List.length_take]; omega)]
  unfold jm
  rw [Nat.min_eq_left hk]
  simp
end Go.Tw.X
set_option linter.unusedVariables false
set_option linter.unusedSimpArgs false
namespace Go.Tw.X
open Go Go.Tw
variable {α : Type}
theorem zM (B:List α) (x:α):upB 0 B x=B:=by simp [upB]
theorem vX (B:List α) (x:α):jm 0 B x=B:=by simp [jm]
theorem zN (B:List α) (x:α) (i:Nat) (h:i < B.length):upB i B x=B[i]::(B.drop (i+1)++List.replicate i x):=by
 unfold upB
 rw [Nat.min_eq_left (by omega),List.drop_eq_getElem_cons h,List.cons_append]
theorem zO (B:List α) (x:α) (i:Nat) (h:i < B.length):upB (i+1) B x=(B.drop (i+1)++List.replicate i x)++[x]:=by
 unfold upB
 rw [Nat.min_eq_left (by omega),List.replicate_succ',List.append_assoc]
theorem vY (B:List α) (x:α) (i:Nat) (h:i < B.length):jm i B x=(List.replicate i x++B.take (B.length - i - 1))++[B[B.length - i - 1]'(by omega)]:=by
 unfold jm
 rw [Nat.min_eq_left (by omega),List.append_assoc,← List.take_succ_eq_append_getElem]
 congr 2
 omega
theorem vZ (B:List α) (x:α) (i:Nat) (h:i < B.length):jm (i+1) B x=x::(List.replicate i x++B.take (B.length - i - 1)):=by
 unfold jm
 rw [Nat.min_eq_left (by omega),List.replicate_succ,List.cons_append]
 congr 3
theorem take_one {l:List α} (h:0 < l.length):l.take 1=[l[0]]:=by
 cases l with
 | nil=>simp at h
 | cons a t=>rfl
theorem FL {ρ β:Type} (lo hi:Int) (A T C:List aQ) (y:aQ) (g:List aQ→Option β) (out:Option β) (hl:(A++(y::T)++C).length≤1000000) (hlo:lo=A.length) (hhi:hi=lo+T.length)
  (hg:g ((A++T)++((y::T).drop T.length++C))=out) :
  Option.bind (iter (σ:=(List aQ)×Int) (ρ:=(List aQ)) (fun a=>(bif (decide (a.2 < hi)) then (Option.bind (idx a.1 (IntKind.i64.wrap (a.2+1))) fun b=>(Option.bind (idx a.1 a.2) fun c=>some (.inl ((a.1.set a.2.toNat b),(IntKind.i64.wrap (a.2+1)))))) else some (.inr a.1))) (A++(y::T)++C,lo)) g=out:=by
 subst hlo
 simp only [List.length_append,List.length_cons] at hl
 refine fQ (fun j=>((A++T.take j)++((y::T).drop j++C),((A.length+j:Nat):Int))) T.length _ ?_ ?_ ?_ hg
 ·simp
 ·intro j hj
  dsimp only
  have e1:(y::T).drop j=(y::T)[j]'(by simp; omega)::T[j]::T.drop (j+1):=by
   rw [List.drop_eq_getElem_cons (by simp; omega),List.drop_succ_cons,List.drop_eq_getElem_cons hj]
  have e2:A++T.take j++((y::T).drop j++C)=((A++T.take j)++[(y::T)[j]'(by simp; omega)])++T[j]::(T.drop (j+1)++C):=by rw [e1]; simp only [List.append_assoc,List.cons_append,List.nil_append]
  have e3:A++T.take j++((y::T).drop j++C)=(A++T.take j)++(y::T)[j]'(by simp; omega)::(T[j]::(T.drop (j+1)++C)):=by rw [e1]; simp only [List.append_assoc,List.cons_append,List.nil_append]
  rw [decide_eq_true (by omega),cond_true,w64 (by omega) (by omega)]
  rw [show idx (A++T.take j++((y::T).drop j++C)) (((A.length+j:Nat):Int)+1)=some T[j] by rw [e2]; exact jV (by simp; omega)]
  rw [aB]
  rw [show idx (A++T.take j++((y::T).drop j++C)) ((A.length+j:Nat):Int)=some ((y::T)[j]'(by simp; omega)) by rw [e3]; exact jV (by simp; omega)]
  rw [aB,Int.toNat_natCast,e3,lC (by simp; omega),List.drop_succ_cons,List.drop_eq_getElem_cons hj,List.take_succ_eq_append_getElem hj]
  have t4:((A.length+j:Nat):Int)+1=((A.length+(j+1):Nat):Int):=by omega
  rw [t4]
  simp only [List.append_assoc,List.cons_append,List.nil_append]
 ·dsimp only
  rw [decide_eq_false (by omega),cond_false,List.take_length]
theorem DM {ρ β:Type} (lo hi:Int) (A T C:List aQ) (y:aQ) (g:List aQ→Option β) (out:Option β) (hl:(A++(T++[y])++C).length≤1000000) (hlo:lo=A.length) (hhi:hi=lo+T.length)
  (hg:g (A++(T++[y]).take 1++(T++C))=out) :
  Option.bind (iter (σ:=(List aQ)×Int) (ρ:=(List aQ)) (fun a=>(bif (decide (a.2 > lo)) then (Option.bind (idx a.1 (IntKind.i64.wrap (a.2 - 1))) fun b=>(Option.bind (idx a.1 a.2) fun c=>some (.inl ((a.1.set a.2.toNat b),(IntKind.i64.wrap (a.2 - 1)))))) else some (.inr a.1))) (A++(T++[y])++C,hi)) g=out:=by
 subst hlo
 simp only [List.length_append,List.length_cons,List.length_nil] at hl
 refine fQ (fun j=>((A++(T++[y]).take (T.length+1 - j))++(T.drop (T.length - j)++C),((A.length+(T.length - j):Nat):Int))) T.length _ ?_ ?_ ?_ hg
 ·have:(T++[y]).take (T.length+1 - 0)=T++[y]:=List.take_of_length_le (by simp)
  try dsimp only
  rw [hhi,this]
  simp
 ·intro j hj
  dsimp only
  have hz:T.length - 1 - j < T.length:=by omega
  have hzz:T.length - j < (T++[y]).length:=by simp; omega
  have t1:(T++[y]).take (T.length+1 - j)=(T++[y]).take (T.length - 1 - j)++[T[T.length - 1 - j]]++[(T++[y])[T.length - j]]:=by
   have a1:T.length+1 - j=(T.length - j)+1:=by omega
   have a2:T.length - j=(T.length - 1 - j)+1:=by omega
   rw [a1,List.take_succ_eq_append_getElem hzz]
   congr 1
   rw [a2,List.take_succ_eq_append_getElem (by simp; omega)]
   congr 2
   rw [List.getElem_append_left hz]
  have e2:A++(T++[y]).take (T.length+1 - j)++(T.drop (T.length - j)++C)=(A++(T++[y]).take (T.length - 1 - j))++T[T.length - 1 - j]::((T++[y])[T.length - j]::(T.drop (T.length - j)++C)):=by rw [t1]; simp
  have e3:A++(T++[y]).take (T.length+1 - j)++(T.drop (T.length - j)++C)=(A++(T++[y]).take (T.length - 1 - j)++[T[T.length - 1 - j]])++(T++[y])[T.length - j]::(T.drop (T.length - j)++C):=by rw [t1]; simp
  rw [decide_eq_true (by omega),cond_true,w64 (by omega) (by omega)]
  rw [show idx (A++(T++[y]).take (T.length+1 - j)++(T.drop (T.length - j)++C)) (((A.length+(T.length - j):Nat):Int) - 1)=some T[T.length - 1 - j] by rw [e2]; exact jV (by simp; omega)]
  rw [aB]
  rw [show idx (A++(T++[y]).take (T.length+1 - j)++(T.drop (T.length - j)++C)) ((A.length+(T.length - j):Nat):Int)=some ((T++[y])[T.length - j]) by rw [e3]; exact jV (by simp; omega)]
  rw [aB,Int.toNat_natCast,e3,lC (by simp; omega)]
  have t2:(T++[y]).take (T.length+1 - (j+1))=(T++[y]).take (T.length - 1 - j)++[T[T.length - 1 - j]]:=by
   have a2:T.length+1 - (j+1)=(T.length - 1 - j)+1:=by omega
   rw [a2,List.take_succ_eq_append_getElem (by simp; omega)]
   congr 2
   rw [List.getElem_append_left hz]
  have t3:T.drop (T.length - (j+1))=T[T.length - 1 - j]::T.drop (T.length - j):=by
   have a2:T.length - (j+1)=T.length - 1 - j:=by omega
   rw [a2,List.drop_eq_getElem_cons hz]
   congr 2
   omega
  rw [t2,t3]
  have t4:((A.length+(T.length - j):Nat):Int) - 1=((A.length+(T.length - (j+1)):Nat):Int):=by omega
  rw [t4]
  simp
 ·dsimp only
  rw [decide_eq_false (by omega),cond_false]
  have:T.length+1 - T.length=1:=by omega
  rw [this,Nat.sub_self,List.drop_zero]
theorem zP (W:Nat) (hW:W≤1000) (A B C:List aQ) (top aH n s:Int) (hl:(A++B++C).length≤1000000) (hB:1≤B.length)
  (h1:max 0 (min top (((A++B++C).length:Int) - 1))=A.length) (h2:max 0 (min aH (((A++B++C).length:Int) - 1))=A.length+B.length - 1) :
  dh ⟨W,A++B++C⟩ true top aH n s=some (⟨W,A++upB (kN n B.length) B (told (eZ W s))++C⟩,B.take (kN n B.length)):=by
 unfold dh
 dsimp only
 have hl':=hl
 simp only [List.length_append] at hl'
 rw [w64 (x:=((A++B++C).length:Int) - 1) (by omega) (by omega)]
 simp only [ey,dv,h1,h2]
 have hk:=xh n B.length
 have hkn: ∀ i:Nat,i < kN n B.length→(i:Int) < n:=fun i hi=>by unfold kN at hi; omega
 have hkx: ¬ (((kN n B.length:Nat):Int) < n∧((kN n B.length:Nat):Int)≤(A.length:Int)+(B.length:Int) - 1 - (A.length:Int)):=by unfold kN; omega
 generalize kN n B.length=k at hk hkn hkx
 rw [decide_eq_false (by omega),cond_false,bI (by simp; omega),aB,ri _ _ hW,aB,List.nil_append]
 refine fQ (fun i=>(B.take i,A++upB i B (told (eZ W s))++C,(i:Int))) k (B.take k,A++upB k B (told (eZ W s))++C) ?_ ?_ ?_ rfl
 ·rw [zM]
  rfl
 ·intro i hi
  dsimp only
  have hib:i < B.length:=by omega
  rw [tX,w64 (x:=(A.length:Int)+(B.length:Int) - 1 - (A.length:Int)) (by omega) (by omega),decide_eq_true ⟨hkn i hi,by omega⟩,aB,cond_true,cond_true,zN _ _ _ hib]
  rw [show idx (A++B[i]::(B.drop (i+1)++List.replicate i (told (eZ W s)))++C) (A.length:Int)=some B[i] by rw [List.append_assoc,List.cons_append]; exact jV rfl]
  rw [aB,bI (by simp; omega),aB]
  rw [FL (ρ:=Unit) (A.length:Int) ((A.length:Int)+(B.length:Int) - 1) A (B.drop (i+1)++List.replicate i (told (eZ W s))) C B[i] _ (some (B.take (i+1),A++upB (i+1) B (told (eZ W s))++C)) (by simp; omega) rfl (by simp; omega)]
  ·rw [aB,w64 (by omega) (by omega)]
   rfl
  ·generalize hT:B.drop (i+1)++List.replicate i (told (eZ W s))=T
   have hTl:A.length+T.length=A.length+B.length - 1:=by rw [← hT]; simp; omega
   have hd:(B[i]::T).drop T.length=[(B[i]::T)[T.length]]:=by
    rw [List.drop_eq_getElem_cons (by simp),List.drop_eq_nil_of_le (by simp)]
   rw [hd,List.singleton_append]
   rw [jV (by simp; omega),aB,zO _ _ _ hib,hT,lC (by simp; omega),List.take_succ_eq_append_getElem hib]
   simp
 ·dsimp only
  rw [tX,w64 (x:=(A.length:Int)+(B.length:Int) - 1 - (A.length:Int)) (by omega) (by omega),decide_eq_false hkx,aB,cond_false]
theorem v3 (W:Nat) (hW:W≤1000) (A B C:List aQ) (top aH n s:Int) (hl:(A++B++C).length≤1000000) (hB:1≤B.length)
  (h1:max 0 (min top (((A++B++C).length:Int) - 1))=A.length) (h2:max 0 (min aH (((A++B++C).length:Int) - 1))=A.length+B.length - 1) :
  dh ⟨W,A++B++C⟩ false top aH n s=some (⟨W,A++jm (kN n B.length) B (told (eZ W s))++C⟩,(B.drop (B.length - kN n B.length)).reverse):=by
 unfold dh
 dsimp only
 have hl':=hl
 simp only [List.length_append] at hl'
 rw [w64 (x:=((A++B++C).length:Int) - 1) (by omega) (by omega)]
 simp only [ey,dv,h1,h2]
 have hk:=xh n B.length
 have hkn: ∀ i:Nat,i < kN n B.length→(i:Int) < n:=fun i hi=>by unfold kN at hi; omega
 have hkx: ¬ (((kN n B.length:Nat):Int) < n∧((kN n B.length:Nat):Int)≤(A.length:Int)+(B.length:Int) - 1 - (A.length:Int)):=by unfold kN; omega
 generalize kN n B.length=k at hk hkn hkx
 rw [decide_eq_false (by omega),cond_false,bI (by simp; omega),aB,ri _ _ hW,aB,List.nil_append]
 refine fQ (fun i=>((B.drop (B.length - i)).reverse,A++jm i B (told (eZ W s))++C,(i:Int))) k ((B.drop (B.length - k)).reverse,A++jm k B (told (eZ W s))++C) ?_ ?_ ?_ rfl
 ·rw [vX]
  simp
 ·intro i hi
  dsimp only
  have hib:i < B.length:=by omega
  rw [tX,w64 (x:=(A.length:Int)+(B.length:Int) - 1 - (A.length:Int)) (by omega) (by omega),decide_eq_true ⟨hkn i hi,by omega⟩,aB,cond_true,cond_false,vY _ _ _ hib]
  have hTl:A.length+(List.replicate i (told (eZ W s))++B.take (B.length - i - 1)).length=A.length+B.length - 1:=by simp; omega
  rw [show idx (A++((List.replicate i (told (eZ W s))++B.take (B.length - i - 1))++[B[B.length - i - 1]'(by omega)])++C) ((A.length:Int)+(B.length:Int) - 1)=some (B[B.length - i - 1]'(by omega)) by
   rw [← List.append_assoc A,List.append_assoc (A++(List.replicate i (told (eZ W s))++B.take (B.length - i - 1))),List.singleton_append]; exact jV (by rw [List.length_append]; omega)]
  rw [aB,bI (by simp; omega),aB]
  rw [DM (ρ:=Unit) (A.length:Int) ((A.length:Int)+(B.length:Int) - 1) A (List.replicate i (told (eZ W s))++B.take (B.length - i - 1)) C (B[B.length - i - 1]'(by omega)) _ (some ((B.drop (B.length - (i+1))).reverse,A++jm (i+1) B (told (eZ W s))++C)) (by simp; omega) rfl (by omega)]
  ·rw [aB,w64 (by omega) (by omega)]
   rfl
  ·rw [vZ _ _ _ hib]
   generalize hT:List.replicate i (told (eZ W s))++B.take (B.length - i - 1)=T
   have hd:(T++[B[B.length - i - 1]'(by omega)]).take 1=[(T++[B[B.length - i - 1]'(by omega)])[0]'(by simp)]:=by
    exact take_one (by simp)
   rw [hd,List.append_assoc A,List.singleton_append]
   rw [jV rfl,aB,Int.toNat_natCast,lC rfl]
   have a1:B.length - i=(B.length - i - 1)+1:=by omega
   have a2:B.length - (i+1)=B.length - i - 1:=by omega
   rw [a2,List.drop_eq_getElem_cons (i:=B.length - i - 1) (by omega),← a1]
   simp
 ·dsimp only
  rw [tX,w64 (x:=(A.length:Int)+(B.length:Int) - 1 - (A.length:Int)) (by omega) (by omega),decide_eq_false hkx,aB,cond_false]
end Go.Tw.X
set_option linter.unusedVariables false
set_option linter.unusedSimpArgs false
namespace Go.Tw.X
open Go Go.Tw
theorem GI.len {W:Nat} {l:List aE} (h:GI W l): ∀ r∈l,r.cells.length≤1000000:=fun r hr=>by
 have:=(h.rs r hr).1
 have:=h.w2
 omega
def rgB (l:List aE) (t b:Int):List aE:=(l.take (loS l b+1)).drop (loS l t)
def upL (W:Nat) (l:List aE) (t b n s:Int):List aE:=if loS l b < loS l t then l else l.take (loS l t)++upB (kN n (rgB l t b).length) (rgB l t b) (eZ W s)++l.drop (loS l b+1)
def upO (l:List aE) (t b n:Int):List aE:=if loS l b < loS l t then [] else (rgB l t b).take (kN n (rgB l t b).length)
def nJ (W:Nat) (l:List aE) (t b n s:Int):List aE:=if loS l b < loS l t then l else l.take (loS l t)++jm (kN n (rgB l t b).length) (rgB l t b) (eZ W s)++l.drop (loS l b+1)
def oN (l:List aE) (t b n:Int):List aE:=if loS l b < loS l t then [] else ((rgB l t b).drop ((rgB l t b).length - kN n (rgB l t b).length)).reverse
theorem mr (l:List aE) (t b:Int) (h: ¬ loS l b < loS l t) (h1:1≤l.length):l=l.take (loS l t)++rgB l t b++l.drop (loS l b+1)∧(l.take (loS l t)).length=loS l t∧(rgB l t b).length=loS l b+1 - loS l t:=by
 have hb:=oZ l b h1
 unfold rgB
 refine ⟨?_,?_,?_⟩
 ·have:l.take (loS l t)=(l.take (loS l b+1)).take (loS l t):=by rw [List.take_take]; congr 1; omega
  rw [this,List.take_append_drop,List.take_append_drop]
 ·rw [List.length_take]; omega
 ·rw [List.length_drop,List.length_take]; omega
theorem ua {W:Nat} {l:List aE} (h:GI W l) (t b n s:Int):dV ⟨W,l⟩ t b n s=some (upO l t b n,⟨W,upL W l t b n s⟩)∧dh ⟨W,l.map told⟩ true t b n s=some (⟨W,(upL W l t b n s).map told⟩,(upO l t b n).map told):=by
 have h1:=h.l1
 have h2:=h.l2
 have hreg:=tp (W:Int) l t b h1 (by omega)
 have hb:=oZ l b h1
 by_cases hc:loS l b < loS l t
 ·rw [if_pos hc] at hreg
  unfold upO upL
  rw [if_pos hc,if_pos hc]
  constructor
  ·unfold dV
   rw [hreg,aB]
  ·unfold dh
   dsimp only
   rw [List.length_map,w64 (x:=(l.length:Int) - 1) (by omega) (by omega),ey,ey,dv,dv,kT,kT,decide_eq_true (by omega),cond_true]
   rfl
 ·rw [if_neg hc] at hreg
  obtain ⟨e,ea,eb⟩:=mr l t b hc h1
  have hlo:=kT l t
  have hhi:=kT l b
  unfold upO upL
  rw [if_neg hc,if_neg hc]
  generalize l.take (loS l t)=A at e ea
  generalize rgB l t b=B at e eb
  generalize l.drop (loS l b+1)=C at e
  rw [e] at hlo hhi hreg h2 hc ea eb ⊢
  have e2:((loS (A++B++C) b+1:Nat):Int)=((A.length+B.length:Nat):Int):=by omega
  have e1:((loS (A++B++C) t:Nat):Int)=(A.length:Int):=by omega
  rw [e1,e2] at hreg
  constructor
  ·exact EN W h.w2 A B C t b n s (by omega) (by omega) hreg
  ·have hm:=zP W h.w2 (A.map told) (B.map told) (C.map told) t b n s (by simpa using (by omega:(A++B++C).length≤1000000)) (by simp; omega)
   have el:((A.map told++B.map told++C.map told).length:Int)=((A++B++C).length:Int):=by simp
   rw [el] at hm
   have:=hm (by rw [hlo,List.length_map]; omega) (by rw [hhi,List.length_map,List.length_map]; omega)
   rw [List.map_append,List.map_append,this,List.length_map,List.map_append,List.map_append,BL,List.map_take]
theorem uQ {W:Nat} {l:List aE} (h:GI W l) (t b n s:Int):dk ⟨W,l⟩ t b n s=some (oN l t b n,⟨W,nJ W l t b n s⟩)∧dh ⟨W,l.map told⟩ false t b n s=some (⟨W,(nJ W l t b n s).map told⟩,(oN l t b n).map told):=by
 have h1:=h.l1
 have h2:=h.l2
 have hreg:=tp (W:Int) l t b h1 (by omega)
 have hb:=oZ l b h1
 by_cases hc:loS l b < loS l t
 ·rw [if_pos hc] at hreg
  unfold oN nJ
  rw [if_pos hc,if_pos hc]
  constructor
  ·unfold dk
   rw [hreg,aB]
  ·unfold dh
   dsimp only
   rw [List.length_map,w64 (x:=(l.length:Int) - 1) (by omega) (by omega),ey,ey,dv,dv,kT,kT,decide_eq_true (by omega),cond_true]
   rfl
 ·rw [if_neg hc] at hreg
  obtain ⟨e,ea,eb⟩:=mr l t b hc h1
  have hlo:=kT l t
  have hhi:=kT l b
  unfold oN nJ
  rw [if_neg hc,if_neg hc]
  generalize l.take (loS l t)=A at e ea
  generalize rgB l t b=B at e eb
  generalize l.drop (loS l b+1)=C at e
  rw [e] at hlo hhi hreg h2 hc ea eb ⊢
  have e2:((loS (A++B++C) b+1:Nat):Int)=((A.length+B.length:Nat):Int):=by omega
  have e1:((loS (A++B++C) t:Nat):Int)=(A.length:Int):=by omega
  rw [e1,e2] at hreg
  constructor
  ·exact BN W h.w2 A B C t b n s (by omega) (by omega) hreg
  ·have hm:=v3 W h.w2 (A.map told) (B.map told) (C.map told) t b n s (by simpa using (by omega:(A++B++C).length≤1000000)) (by simp; omega)
   have el:((A.map told++B.map told++C.map told).length:Int)=((A++B++C).length:Int):=by simp
   rw [el] at hm
   have:=hm (by rw [hlo,List.length_map]; omega) (by rw [hhi,List.length_map,List.length_map]; omega)
   rw [List.map_append,List.map_append,this,List.length_map,List.map_append,List.map_append,yu,List.map_reverse,List.map_drop]
theorem v5 {l:List aE} {t b:Int} {r:aE} (h:r∈rgB l t b):r∈l:=List.mem_of_mem_take (List.mem_of_mem_drop h)
theorem CN {W:Nat} {l:List aE} (h:GI W l) (t b n s:Int):GI W (upL W l t b n s):=by
 unfold upL
 by_cases hc:loS l b < loS l t
 ·rw [if_pos hc]
  exact h
 ·rw [if_neg hc]
  obtain ⟨e,ea,eb⟩:=mr l t b hc h.l1
  have hlen:(l.take (loS l t)++upB (kN n (rgB l t b).length) (rgB l t b) (eZ W s)++l.drop (loS l b+1)).length=l.length:=by
   conv=>rhs; rw [e]
   simp only [List.length_append,sd]
  refine ⟨h.w1,h.w2,by rw [hlen]; exact h.l1,by rw [hlen]; exact h.l2,?_⟩
  intro r hr
  rw [List.mem_append,List.mem_append] at hr
  rcases hr with (hr | hr) | hr
  ·exact h.rs r (List.mem_of_mem_take hr)
  ·unfold upB at hr
   rw [List.mem_append] at hr
   rcases hr with hr | hr
   ·exact h.rs r (v5 (List.mem_of_mem_drop hr))
   ·rw [List.eq_of_mem_replicate hr]
    exact n9 _ _
  ·exact h.rs r (List.mem_of_mem_drop hr)
theorem BO {W:Nat} {l:List aE} (h:GI W l) (t b n s:Int):GI W (nJ W l t b n s):=by
 unfold nJ
 by_cases hc:loS l b < loS l t
 ·rw [if_pos hc]
  exact h
 ·rw [if_neg hc]
  obtain ⟨e,ea,eb⟩:=mr l t b hc h.l1
  have hlen:(l.take (loS l t)++jm (kN n (rgB l t b).length) (rgB l t b) (eZ W s)++l.drop (loS l b+1)).length=l.length:=by
   conv=>rhs; rw [e]
   simp only [List.length_append,pA]
  refine ⟨h.w1,h.w2,by rw [hlen]; exact h.l1,by rw [hlen]; exact h.l2,?_⟩
  intro r hr
  rw [List.mem_append,List.mem_append] at hr
  rcases hr with (hr | hr) | hr
  ·exact h.rs r (List.mem_of_mem_take hr)
  ·unfold jm at hr
   rw [List.mem_append] at hr
   rcases hr with hr | hr
   ·rw [List.eq_of_mem_replicate hr]
    exact n9 _ _
   ·exact h.rs r (v5 (List.mem_of_mem_take hr))
  ·exact h.rs r (List.mem_of_mem_drop hr)
theorem BP {l:List aE} {t b n:Int} {r:aE} (h:r∈upO l t b n):r∈l:=by
 unfold upO at h
 split at h
 ·cases h
 ·exact v5 (List.mem_of_mem_take h)
theorem BQ (l:List aE) (t b n:Int):(upO l t b n).length≤l.length:=by
 unfold upO
 split
 ·exact Nat.zero_le _
 ·unfold rgB
  rw [List.length_take,List.length_drop,List.length_take]
  omega
def rzL (W:Nat) (l:List aE) (c H:Nat):List aE:=((l.drop c).take H++List.replicate (H - (l.length - c)) (eZ W 0)).map (rsz W)
theorem iQ (W:Nat) (l:List aE) (c H:Nat):(rzL W l c H).length=H:=by
 unfold rzL
 simp
 omega
theorem yv (W:Nat):rsz W (eZ W 0)=eZ W 0:=DL (by simp [eZ])
theorem v7 (w0:Int) (l:List aE) (w h off:Int) (h1:1≤l.length) (h2:l.length≤1000000) (hr: ∀ r∈l,r.cells.length≤1000000):fY ⟨w0,l⟩ w h off=some (l.take (loS l off),⟨(szN w:Int),rzL (szN w) l (loS l off) (szN h)⟩):=by
 unfold fY
 dsimp only
 have hw:=iF w
 have hh:=iF h
 rw [w64 (x:=(l.length:Int) - 1) (by omega) (by omega),nH,aB,kT]
 have hc:=oZ l off h1
 unfold rzL
 generalize loS l off=c at hc
 have c1:cut l (c:Int) (l.length:Int)=l.drop c:=by rw [lS,List.take_length]
 have hm:dt ((l.drop c).length:Int) (szN h:Int)=((min (l.drop c).length (szN h):Nat):Int):=by rw [dv]; omega
 have c2:cut (l.drop c) 0 ((min (l.drop c).length (szN h):Nat):Int)=(l.drop c).take (szN h):=by
  rw [mm,← List.take_take]
  exact List.take_of_length_le (by rw [List.length_take]; omega)
 rw [bK (by omega) (by omega) (by omega),aB,mm,oa _ (by rw [List.length_take]; omega),aB,bK (by omega) (by omega) (by omega),aB,c1,oa _ (by rw [List.length_drop]; omega),aB,nI,aB,hm,bK (by omega) (by omega) (by omega),aB,c2]
 refine fQ (fun i=>(l.drop c).take (szN h)++List.replicate i (eZ (szN w) 0)) (szN h - (l.length - c)) ((l.drop c).take (szN h)++List.replicate (szN h - (l.length - c)) (eZ (szN w) 0)) ?_ ?_ ?_ ?_
 ·simp
 ·intro i hi
  try dsimp only
  rw [aB,decide_eq_true (by simp; omega),cond_true,nI w,aB,tZ _ _ hw,aB,bI (by simp; omega),aB,List.append_assoc,← List.replicate_succ']
 ·try dsimp only
  rw [aB,decide_eq_false (by simp; omega),cond_false]
 ·rw [nI,aB]
  have hL: ∀ r∈(l.drop c).take (szN h)++List.replicate (szN h - (l.length - c)) (eZ (szN w) 0),r.cells.length≤1000000:=by
   intro r hrr
   rcases List.mem_append.1 hrr with hrr | hrr
   ·exact hr r (List.mem_of_mem_drop (List.mem_of_mem_take hrr))
   ·rw [List.eq_of_mem_replicate hrr]
    simp [eZ]
    omega
  have hLl:((l.drop c).take (szN h)++List.replicate (szN h - (l.length - c)) (eZ (szN w) 0)).length=szN h:=by
   simp
   omega
  generalize (l.drop c).take (szN h)++List.replicate (szN h - (l.length - c)) (eZ (szN w) 0)=L at hL hLl
  refine fQ (fun i=>((⟨(szN w:Int),(L.take i).map (rsz (szN w))++L.drop i⟩:aU),(i:Int))) L.length (⟨(szN w:Int),L.map (rsz (szN w))⟩:aU) ?_ ?_ ?_ rfl
  ·simp
  ·intro i hi
   dsimp only
   have hd:(L.take i).map (rsz (szN w))++L.drop i=(L.take i).map (rsz (szN w))++L[i]::L.drop (i+1):=by rw [List.drop_eq_getElem_cons hi]
   have hlen:(L.take i).length=i:=by rw [List.length_take]; omega
   rw [decide_eq_true (by omega),cond_true,hd,jV (by simp; omega),aB,zK _ hw _ _ _ (hL _ (List.getElem_mem hi)),aB,w64 (by omega) (by omega)]
   dsimp only
   unfold oA
   rw [if_pos (by simp; omega),Int.toNat_natCast,lC (by simp; omega),List.take_succ_eq_append_getElem hi,List.map_append,List.append_assoc]
   rfl
  ·dsimp only
   rw [decide_eq_false (by omega),cond_false]
   simp
theorem uR (w0:Int) (l:List aE) (w h off:Int) (h1:1≤l.length) (h2:l.length≤1000000) (hr: ∀ r∈l,r.cells.length≤1000000):lz ⟨w0,l.map told⟩ w h off=some (⟨(szN w:Int),(rzL (szN w) l (loS l off) (szN h)).map told⟩,(l.take (loS l off)).map told):=by
 unfold lz
 dsimp only
 have hw:=iF w
 have hh:=iF h
 rw [List.length_map,w64 (x:=(l.length:Int) - 1) (by omega) (by omega),ey,dv,kT]
 have hc:=oZ l off h1
 generalize loS l off=c at hc
 rw [mq,aB]
 refine fQ (fun i=>((⟨(szN w:Int),((rzL (szN w) l c (szN h)).take i).map told⟩:cT),(i:Int))) (szN h) (⟨(szN w:Int),(rzL (szN w) l c (szN h)).map told⟩:cT) rfl ?_ ?_ ?_
 ·intro i hi
  dsimp only
  have hrl:=iQ (szN w) l c (szN h)
  have hil:i < (rzL (szN w) l c (szN h)).length:=by omega
  rw [mq,aB,decide_eq_true (by omega),cond_true,w64 (x:=(c:Int)+(i:Int)) (by omega) (by omega),w64 (x:=(i:Int)+1) (by omega) (by omega),List.take_succ_eq_append_getElem hil,List.map_append]
  by_cases hci:c+i < l.length
  ·have hg:(rzL (szN w) l c (szN h))[i]=rsz (szN w) l[c+i]:=by
    simp only [rzL,List.getElem_map]
    rw [List.getElem_append_left (by simp; omega)]
    simp
   rw [decide_eq_true (by omega),cond_true,show (c:Int)+(i:Int)=((c+i:Nat):Int) by omega,dr _ _ (by simpa using hci),aB,List.getElem_map,xe _ hw _ (hr _ (List.getElem_mem hci)),aB,bI (by simp; omega),aB,aB,hg]
   rfl
  ·have hg:(rzL (szN w) l c (szN h))[i]=eZ (szN w) 0:=by
    simp only [rzL,List.getElem_map]
    rw [List.getElem_append_right (by simp; omega)]
    simp [yv]
   rw [decide_eq_false (by omega),cond_false,ri _ _ hw,aB,bI (by simp; omega),aB,aB,hg]
   rfl
 ·dsimp only
  rw [mq,aB,decide_eq_false (by omega),cond_false,List.take_of_length_le (by rw [iQ]; omega)]
 ·rw [bK (by omega) (by omega) (by omega),aB,mm,List.map_take]
theorem EO {W:Nat} {l:List aE} (hl: ∀ r∈l,okR r.cells) (W':Nat) (c H:Nat) (h1:1≤W') (h2:W'≤1000) (h3:1≤H) (h4:H≤1000):GI W' (rzL W' l c H):=by
 refine ⟨h1,h2,by rw [iQ]; exact h3,by rw [iQ]; exact h4,?_⟩
 intro r hr
 unfold rzL at hr
 obtain ⟨q,hq,rfl⟩:=List.mem_map.1 hr
 refine xf _ _ ?_
 rcases List.mem_append.1 hq with hq | hq
 ·exact hl q (List.mem_of_mem_drop (List.mem_of_mem_take hq))
 ·rw [List.eq_of_mem_replicate hq]
  exact (n9 _ _).2
end Go.Tw.X
set_option linter.unusedVariables false
set_option linter.unusedSimpArgs false
namespace Go.Tw.X
open Go Go.Tw
theorem m63 (x:Int) (h0:0≤x) (h1:x < 2147483648):Go.bits .and .i32 x 63=x % 64:=by
 have h:=bits_mask .i32 31 (by decide) wraps_i32 6 (by decide) x h0 (by omega)
 have e:((2:Int) ^ 6 - 1)=63:=by decide
 have e2:((2:Int) ^ 6)=64:=by decide
 rw [e,e2] at h
 exact h
theorem FM {x:Int} (h0:0≤x) (h1:x < 256):IntKind.u8.wrap x=x:=by rw [IntKind.wrap_u8]; omega
theorem foldl_push (xs:List Int): ∀ l:List UInt8,xs.foldl (fun r n=>r.push (UInt8.ofNat n.toNat)) (ByteArray.mk l.toArray)=ByteArray.mk (l++xs.map (fun n=>UInt8.ofNat n.toNat)).toArray:=by
 induction xs with
 | nil=>intro l; simp
 | cons a xs ih =>
  intro l
  rw [List.foldl_cons]
  have:(ByteArray.mk l.toArray).push (UInt8.ofNat a.toNat)=ByteArray.mk (l++[UInt8.ofNat a.toNat]).toArray:=by
   show ByteArray.mk (l.toArray.push _)=_
   rw [List.push_toArray]
  rw [this,ih]
  simp
theorem ub (xs:List Int):km xs=ByteArray.mk (xs.map (fun n=>UInt8.ofNat n.toNat)).toArray:=foldl_push xs []
theorem oc (a:List Int):(km a).size=a.length:=by
 rw [ub]
 simp [ByteArray.size]
theorem v8 (r:aE) (h:r.cells.length≤1000000):ly (told r)=some ((je r).map fun g=>⟨g.rune,g.aK⟩):=by
 unfold ly told
 dsimp only
 rw [gL]
 have k1: ∀ (n:Nat),n≤r.cells.length → ∃ m:Nat,m≤r.cells.length∧r.cells.take m=(if r.wrapped then r.cells.take n else kM n (r.cells.take n))∧iter (σ:=Int) (ρ:=Int) (fun a=>(Option.bind ((bif (decide (a > 0)) then (bif (!r.wrapped) then (Option.bind (idx (r.cells.map tc) (IntKind.i64.wrap (a - 1))) fun b=>some ((b.rune == 32) && ((b.aK == 0) && ((b.part == 0) && true)))) else some false) else some false):Option Bool) fun c=>(bif c then some (.inl (IntKind.i64.wrap (a - 1))) else some (.inr a)))) (n:Int)=some (m:Int):=by
  intro n
  induction n with
  | zero =>
   intro _
   refine ⟨0,by omega,by simp [kM],?_⟩
   exact dx (by simp)
  | succ n ih =>
   intro hn
   cases hw:r.wrapped with
   | true =>
    refine ⟨n+1,hn,by simp,?_⟩
    exact dx (by simp)
   | false =>
    have hp:decide (((n+1:Nat):Int) > 0)=true:=decide_eq_true (by omega)
    have ew:IntKind.i64.wrap (((n+1:Nat):Int) - 1)=(n:Int):=by rw [w64 (by omega) (by omega)]; omega
    have hlt:n < r.cells.length:=by omega
    have hlast:(r.cells.take (n+1)).getLast?=some r.cells[n]:=by
     rw [List.take_succ_eq_append_getElem hlt,List.getLast?_concat]
    have hidx:idx (r.cells.map tc) (n:Int)=some (tc r.cells[n]):=by rw [dr _ _ (by simpa using hlt),List.getElem_map]
    have hcmp:(((tc r.cells[n]).rune == 32) && (((tc r.cells[n]).aK == 0) && (((tc r.cells[n]).part == 0) && true)))=decide (r.cells[n]=blk 0):=by
     show ((r.cells[n].rune == 32) && ((r.cells[n].aK == 0) && ((r.cells[n].part == 0) && true)))=_
     exact rW r.cells[n] (blk 0)
    unfold kM
    rw [hlast]
    by_cases hb:r.cells[n]=blk 0
    ·obtain ⟨m,hm,ht,hi⟩:=ih (by omega)
     refine ⟨m,hm,?_,?_⟩
     ·rw [ht,hw,hb]
      simp only [Bool.false_eq_true,if_false,if_true]
      congr 1
      rw [List.take_succ_eq_append_getElem hlt,List.dropLast_concat]
     ·rw [eL (s':=(n:Int))]
      ·rw [hw] at hi
       exact hi
      ·simp only [hp,Bool.not_false,cond_true,ew,hidx,aB,hcmp,decide_eq_true hb]
    ·refine ⟨n+1,hn,?_,?_⟩
     ·rw [if_neg (by simp),if_neg (by simpa using hb)]
     ·exact dx (by simp only [hp,Bool.not_false,cond_true,ew,hidx,aB,hcmp,decide_eq_false hb,cond_false])
 obtain ⟨m,hm,ht,hi⟩:=k1 r.cells.length (Nat.le_refl _)
 rw [List.take_length] at ht
 rw [hi,aB,bK (by omega) (by omega) (by omega),aB,mm,← List.map_take,ht]
 have hE:(if r.wrapped then r.cells else kM r.cells.length r.cells).length≤1000000:=by
  split
  ·exact h
  ·exact Nat.le_trans (ld _ _) h
 unfold je zE
 generalize (if r.wrapped then r.cells else kM r.cells.length r.cells)=L at hE
 refine fQ (fun i=>((i:Int),(mX (L.take i)).map fun g=>(⟨g.rune,g.aK⟩:cx))) L.length ((mX L).map fun g=>(⟨g.rune,g.aK⟩:cx)) rfl ?_ ?_ rfl
 ·intro i hil
  dsimp only
  have hgl:=nG (L.take i)
  rw [List.length_take] at hgl
  rw [List.length_map,decide_eq_true (by omega),cond_true,dr _ _ (by simpa using hil),aB,List.getElem_map,List.take_succ_eq_append_getElem hil]
  have ho:((bif ((tc L[i]).part == 0) then some true else some ((tc L[i]).part == 1)):Option Bool)=some (isG L[i]):=by
   show ((bif (L[i].part == 0) then some true else some (L[i].part == 1)):Option Bool)=some (L[i].part == 0 || L[i].part == 1)
   cases (L[i].part == 0) <;> rfl
  rw [ho,aB,w64 (by omega) (by omega)]
  unfold mX
  rw [List.filter_append,List.map_append,List.map_append]
  cases hg:isG L[i] with
  | true =>
   unfold mX at hgl
   rw [cond_true,bI (by simp at hgl ⊢; omega),aB,aB]
   simp [hg,tc]
  | false =>
   rw [cond_false,aB]
   simp [hg]
 ·dsimp only
  rw [List.length_map,decide_eq_false (by omega),cond_false,List.take_length]
theorem sf (r:aE):(je r).length≤r.cells.length:=by
 unfold je zE
 refine Nat.le_trans (nG _) ?_
 split
 ·exact Nat.le_refl _
 ·exact ld _ _
theorem qi {n m:Nat} (h:n+m≤4611686018427387904):chk (vO n m)=some ():=jL h
end Go.Tw.X
set_option linter.unusedVariables false
set_option linter.unusedSimpArgs false
namespace Go.Tw.X
open Go Go.Tw
def pB (n:Nat):List Int:=if n < 128 then [(n:Int)] else ((128+n % 128:Nat):Int)::pB (n / 128)
termination_by n
decreasing_by omega
def clN (n:Int):Nat:=(max 0 (min n 4611686018427387904)).toNat
theorem DN (n:Int):imax 0 (dt n 4611686018427387904)=(clN n:Int):=by rw [ey,dv]; unfold clN; omega
theorem zQ (n:Int):clN n≤4611686018427387904:=by unfold clN; omega
def pC (n:Int):List Int:=pB (clN n)
theorem kt {n:Nat} (h:n < 128):pB n=[(n:Int)]:=by rw [pB,if_pos h]
theorem sg {n:Nat} (h: ¬ n < 128):pB n=((128+n % 128:Nat):Int)::pB (n / 128):=by rw [pB,if_neg h]
theorem uS: ∀ (k n:Nat),n < 128 ^ (k+1)→(pB n).length≤k+1:=by
 intro k
 induction k with
 | zero =>
  intro n h
  rw [kt (by omega)]
  simp
 | succ k ih =>
  intro n h
  by_cases hn:n < 128
  ·rw [kt hn]
   simp
  ·rw [sg hn,List.length_cons]
   have:n / 128 < 128 ^ (k+1):=by
    rw [Nat.pow_succ] at h
    exact Nat.div_lt_of_lt_mul (by rw [Nat.mul_comm]; exact h)
   have:=ih _ this
   omega
theorem nK (n:Int):(pC n).length≤9:=uS 8 _ (by have:=zQ n; omega)
theorem DO (x:Int) (h0:0≤x) (h1:x < 256):Go.bits .and .u8 x 127=x % 128:=by
 have h:=bits_mask .u8 8 (by decide) wraps_u8 7 (by decide) x h0 (by omega)
 have e:((2:Int) ^ 7 - 1)=127:=by decide
 have e2:((2:Int) ^ 7)=128:=by decide
 rw [e,e2] at h
 exact h
theorem or_comm (k:IntKind) (x y:Int):Go.bits .or k x y=Go.bits .or k y x:=by
 show k.wrap ((BitVec.ofInt k.bits x ||| BitVec.ofInt k.bits y).toNat:Int)=k.wrap ((BitVec.ofInt k.bits y ||| BitVec.ofInt k.bits x).toNat:Int)
 rw [BitVec.or_comm]
theorem BR (y:Int) (h0:0≤y) (h1:y < 128):Go.bits .or .u8 y 128=128+y:=by
 rw [or_comm]
 exact bits_join .u8 8 (by decide) wraps_u8 7 128 y (by decide) (by decide) (by decide) h0 (by omega) (by omega)
theorem EP (n:Nat):(n:Int).fdiv (2 ^ (min 7 64))=((n / 128:Nat):Int):=by
 rw [Int.fdiv_eq_ediv_of_nonneg _ (by decide)]
 show (n:Int) / 128=_
 omega
theorem yw (b:List Int) (x:Int) (hb:b.length≤100000000): ∃ e,iM (fun (s661:eD) (x619:Int)=>(Option.bind (chk (dg s661.b.length [x619].length 1)) fun _=>some ((eD.mk (s661.b++[x619])),true))) (⟨b⟩:eD) x=some ((⟨b++pC x⟩:eD),e):=by
 unfold iM mQ
 rw [DN,aB]
 unfold pC
 have hle:=zQ x
 generalize clN x=n at hle
 have key: ∀ (k n:Nat) (b:List Int),n < 128 ^ (k+1)→b.length+(k+1)≤100000010 → ∃ e,iter (σ:=Int×eD) (ρ:=(Int×eD) ⊕ (eD×Int)) (fun a=>(bif (decide (a.1≥128)) then (Option.bind ((fun (s661:eD) (x619:Int)=>(Option.bind (chk (dg s661.b.length [x619].length 1)) fun _=>some ((eD.mk (s661.b++[x619])),true))) a.2 (Go.bits .or .u8 (Go.bits .and .u8 (IntKind.u8.wrap a.1) 127) 128)) fun z68=>(bif (!z68.2) then (ka (some (z68.1,a.1))) else some (.inl ((a.1.fdiv (2 ^ (min 7 64))),z68.1)))) else some (.inr (.inl (a.1,a.2))))) ((n:Int),(⟨b⟩:eD))=some (.inl ((e:Int),(⟨b++(pB n).dropLast⟩:eD)))∧0≤e∧e < 128∧pB n=(pB n).dropLast++[e]:=by
  intro k
  induction k with
  | zero =>
   intro n b h hb
   refine ⟨n,?_,by omega,by omega,?_⟩
   ·rw [kt (by omega)]
    refine dx ?_
    dsimp only
    rw [decide_eq_false (by omega),cond_false]
    simp
   ·rw [kt (by omega)]
    rfl
  | succ k ih =>
   intro n b h hb
   by_cases hn:n < 128
   ·refine ⟨n,?_,by omega,by omega,?_⟩
    ·rw [kt hn]
     refine dx ?_
     dsimp only
     rw [decide_eq_false (by omega),cond_false]
     simp
    ·rw [kt hn]
     rfl
   ·have hlt:n / 128 < 128 ^ (k+1):=by
     rw [Nat.pow_succ] at h
     exact Nat.div_lt_of_lt_mul (by rw [Nat.mul_comm]; exact h)
    obtain ⟨e,h1,h2,h3,h4⟩:=ih (n / 128) (b++[((128+n % 128:Nat):Int)]) hlt (by simp; omega)
    refine ⟨e,?_,h2,h3,?_⟩
    ·rw [eL (s':=(((n / 128:Nat):Int),(⟨b++[((128+n % 128:Nat):Int)]⟩:eD)))]
     ·rw [h1,sg hn]
      have hne:pB (n / 128)≠[]:=by rw [h4]; simp
      rw [List.dropLast_cons_of_ne_nil hne]
      simp
     ·dsimp only
      have hw:IntKind.u8.wrap (n:Int)=((n % 256:Nat):Int):=by rw [IntKind.wrap_u8]; omega
      have hv:Go.bits .or .u8 (Go.bits .and .u8 (IntKind.u8.wrap (n:Int)) 127) 128=((128+n % 128:Nat):Int):=by
       rw [hw,DO _ (by omega) (by omega),BR _ (by omega) (by omega)]
       omega
      rw [decide_eq_true (by omega),cond_true,hv,bI (by simp; omega),aB,aB]
      dsimp only
      rw [Bool.not_true,cond_false,EP]
    ·rw [sg hn]
     have hne:pB (n / 128)≠[]:=by rw [h4]; simp
     rw [List.dropLast_cons_of_ne_nil hne,List.cons_append,← h4]
 obtain ⟨e,h1,h2,h3,h4⟩:=key 8 n b (by omega) (by omega)
 have hl:=uS 8 n (by omega)
 have hd:(pB n).dropLast.length≤9:=by rw [List.length_dropLast]; omega
 refine ⟨e,?_⟩
 rw [h1,aB]
 dsimp only
 have hu:IntKind.u8.wrap e=e:=by rw [IntKind.wrap_u8]; omega
 rw [hu,bI (by simp only [List.length_append,List.length_singleton]; omega),aB,aB,List.append_assoc,← h4]
theorem xi (b:List Int) (l:List Int) (hb:b.length+9*l.length≤10000000):iA ⟨b⟩ l=some ⟨b++l.flatMap pC⟩:=by
 unfold iA kY
 have hfl: ∀ l:List Int,(l.flatMap pC).length≤9*l.length:=by
  intro l
  induction l with
  | nil=>simp
  | cons a l ih =>
   rw [List.flatMap_cons,List.length_append,List.length_cons]
   have:=nK a
   omega
 refine fQ (fun i=>((⟨b++(l.take i).flatMap pC⟩:eD),(i:Int))) l.length (⟨b++l.flatMap pC⟩:eD) ?_ ?_ ?_ rfl
 ·simp
 ·intro i hi
  dsimp only
  have h4:=hfl (l.take i)
  rw [List.length_take] at h4
  obtain ⟨e,he⟩:=yw (b++(l.take i).flatMap pC) l[i] (by rw [List.length_append]; omega)
  rw [decide_eq_true (by omega),cond_true,dr l i hi,aB,aB,he,aB,w64 (by omega) (by omega),List.take_succ_eq_append_getElem hi,List.flatMap_append,List.flatMap_singleton,List.append_assoc]
  rfl
 ·dsimp only
  rw [decide_eq_false (by omega),cond_false,List.take_length]
end Go.Tw.X
set_option linter.unusedVariables false
set_option linter.unusedSimpArgs false
namespace Go.Tw.X
open Go Go.Tw
def most:Nat:=4611686018427387904
def rdp:Nat→Nat→Nat→List Int→Int ⊕ (Nat×Nat)
 | 0,_,_,_=> .inl 1
 | _+1,_,_,[]=> .inl 2
 | k+1,i,acc,b::r=>if b < 128 then (if (i > 0∧b=0)∨acc+b.toNat % 128*128 ^ i > most then .inl 1 else .inr (acc+b.toNat % 128*128 ^ i,i+1)) else rdp k (i+1) (acc+b.toNat % 128*128 ^ i) r
def noS:ByteArray:=ByteArray.mk #[]
theorem fZ (s:ByteArray): ∀ b∈sbs s,0≤b∧b < 256:=by
 intro b hb
 unfold sbs at hb
 obtain ⟨c,_,rfl⟩:=List.mem_map.1 hb
 have:=c.toNat_lt
 omega
theorem sj (s:ByteArray) (i:Nat) (h:i < (sbs s).length):jh s (i:Int)=some (sbs s)[i]:=by
 unfold jh
 rw [decide_eq_true (by omega),cond_true,Int.toNat_natCast]
 have h2:i < s.data.size:=by rw [cw] at h; exact h
 rw [Array.getElem?_eq_getElem h2]
 simp only [sbs,Option.map_some,List.getElem_map,Array.getElem_toList]
def FN (s:ByteArray):Int ⊕ (Nat×Nat)→Int×oM
 | .inl e=>(0,⟨noS,e⟩)
 | .inr (v,j)=>(v,⟨kD s j s.size,0⟩)
end Go.Tw.X
set_option linter.unusedVariables false
set_option linter.unusedSimpArgs false
namespace Go.Tw.X
open Go Go.Tw
theorem xj (a b:ByteArray):(a.toList == b.toList)=decide (a=b):=by
 rw [ByteArray.toList_eq,ByteArray.toList_eq]
 by_cases h:a=b
 ·subst h
  rw [decide_eq_true rfl,beq_self_eq_true]
 ·rw [decide_eq_false h]
  have: ¬ a.data.toList=b.data.toList:=fun e=>h (ByteArray.ext (Array.ext' e))
  simpa using this
theorem nL (s:ByteArray) (lo hi:Nat):sbs (kD s lo hi)=((sbs s).take hi).drop lo:=by
 unfold sbs kD
 rw [ByteArray.data_extract,Int.toNat_natCast,Int.toNat_natCast]
 rw [Array.toList_extract]
 rw [List.extract_eq_take_drop,List.map_take,List.map_drop,List.drop_take]
theorem uT (s:ByteArray):km (sbs s)=s:=by
 rw [ub]
 unfold sbs
 rw [List.map_map]
 have:((fun n:Int=>UInt8.ofNat n.toNat) ∘ fun b:UInt8=>(b.toNat:Int))=id:=by
  funext b
  simp
 rw [this,List.map_id]
theorem uU (l:List Int) (h: ∀ b∈l,0≤b∧b < 256):sbs (km l)=l:=by
 rw [ub]
 unfold sbs
 simp only [List.map_map]
 induction l with
 | nil=>rfl
 | cons a l ih =>
  have ha:=h a (List.mem_cons_self ..)
  rw [List.map_cons,ih fun b hb=>h b (List.mem_cons_of_mem _ hb)]
  congr 1
  show ((UInt8.ofNat a.toNat).toNat:Int)=a
  rw [UInt8.toNat_ofNat']
  omega
theorem uc {a b:ByteArray} (h:sbs a=sbs b):a=b:=by rw [← uT a,h,uT]
theorem jA (a b:ByteArray):sbs (a++b)=sbs a++sbs b:=by
 unfold sbs
 rw [ByteArray.data_append]
 simp
theorem rj (s:ByteArray):s=noS↔sbs s=[]:=⟨fun h=>by rw [h]; rfl,fun h=>uc (by rw [h]; rfl)⟩
def rdS (i:oM):Int×oM:=if i.e=0 then FN i.s (rdp 9 0 0 (sbs i.s)) else (0,i)
end Go.Tw.X
set_option linter.unusedVariables false
set_option linter.unusedSimpArgs false
namespace Go.Tw.X
open Go Go.Tw
theorem zR (l:List aE) (hl:l.length≤1000000) (h: ∀ r∈l,r.cells.length≤1000000∧okR r.cells):k7 l (l.map told)=some true:=by
 unfold k7
 have e0:((l.length:Int) != ((l.map told).length:Int))=false:=by simp
 rw [e0,cond_false]
 refine fQ (fun i=>(i:Int)) l.length (.inl ()) rfl ?_ ?_ rfl
 ·intro i hi
  try dsimp only
  have hr:=h _ (List.getElem_mem hi)
  rw [List.length_map,decide_eq_true (by omega),cond_true,dr l i hi,aB,dr _ _ (by simpa using hi),aB,List.getElem_map,EK _ hr.1 hr.2,aB,Bool.not_true,cond_false,w64 (by omega) (by omega)]
  rfl
 ·try dsimp only
  rw [List.length_map,decide_eq_false (by omega),cond_false]
theorem zS {W:Nat} {l:List aE} (h:GI W l) (y:Int) (r:aE) (hr:okR r.cells):GI W (oA W l y r):=⟨h.w1,h.w2,by rw [iP]; exact h.l1,by rw [iP]; exact h.l2,yq h.rs y r hr⟩
end Go.Tw.X
set_option linter.unusedVariables false
set_option linter.unusedSimpArgs false
namespace Go.Tw.X
open Go Go.Tw
def FP:oM:=⟨noS,1⟩
def ER (i:oM) (m:Int):Int×oM:=if (rdS i).1 > m then (0,FP) else rdS i
end Go.Tw.X
set_option linter.unusedVariables false
set_option linter.unusedSimpArgs false
namespace Go.Tw.X
open Go Go.Tw
theorem v9 (a b:Bool):((bif a then some b else some false):Option Bool)=some (a && b):=by cases a <;> rfl
theorem bor (a b:Bool):((bif a then some true else some b):Option Bool)=some (a || b):=by cases a <;> rfl
def okG (r s:Int):Bool:=(decide (r≥0) && decide (r≤1114111)) && (decide (s≥0) && decide (s≤647))
def okC (c:aG):Bool:=okG c.rune c.aK && (decide (c.part≥0) && decide (c.part≤3))
def ud (s:ej):Bool:=(s.k == 0) && ((s.w == 0) && ((s.h == 0) && ((s.x == 0) && ((s.y == 0) && ((s.title.toList == (ByteArray.mk #[]).toList) && (((s.rows.length:Int) == 0) && ((s.len == 0) && ((s.chain == 0) && ((s.begun.length:Int) == 0)))))))))
def wi (n lo hi:Int):Bool:=decide (n≥lo) && decide (n≤hi)
def qj (s:ej):Bool:=wi s.k 1 1152921504606846976 && (wi s.w 1 1000 && (wi s.h 1 1000 && (wi s.x 0 (s.w - 1) && (wi s.y 0 (s.h - 1) && (((s.rows.length:Int) == s.h) && (decide ((s.title.size:Int)≤200) && (wi s.len 0 1152921504606846976 && (wi s.chain 0 281474976710656 && decide ((s.begun.length:Int)≤1024)))))))))
def oO (w:Int) (r:aE):Bool:=((r.cells.length:Int) == w) && r.cells.all okC
def BS (s:ej):Bool:=ud s || (qj s && ((s.begun.all fun g=>okG g.rune g.aK) && s.rows.all (oO s.w)))
theorem empty_eq (s:ej):gG s=some (ud s):=by
 unfold gG ud
 simp only [v9,aB]
theorem o3 (n lo hi:Int):dq n lo hi=some (wi n lo hi):=by
 unfold dq wi
 rw [v9,aB]
structure SW (s:ej):Prop where
 w1: -9223372036854775808≤s.w∧s.w≤9223372036854775807
 h1: -9223372036854775808≤s.h∧s.h≤9223372036854775807
 gl: ∀ g∈s.begun,rok g.rune
 ro: ∀ r∈s.rows,okR r.cells∧r.cells.length≤1000
 rl:s.rows.length≤1000
 bl:s.begun.length≤2000
 tl:s.title.size≤1000
theorem zT (s:ej) (h:SW s):gH s=some (qj s):=by
 unfold gH qj
 simp only [o3,aB]
 by_cases hw:s.w≥1
 ·have e1:IntKind.i64.wrap (s.w - 1)=s.w - 1:=w64 (by omega) (by have:=h.w1; omega)
  by_cases hh:s.h≥1
  ·have e2:IntKind.i64.wrap (s.h - 1)=s.h - 1:=w64 (by omega) (by have:=h.h1; omega)
   simp only [e1,e2,v9,aB]
  ·have e2:wi s.h 1 1000=false:=by unfold wi; rw [decide_eq_false hh]; rfl
   simp only [e2,e1,cond_false,v9,Bool.false_and,Bool.and_false,aB]
 ·have e2:wi s.w 1 1000=false:=by unfold wi; rw [decide_eq_false hw]; rfl
  simp only [e2,cond_false,v9,Bool.false_and,Bool.and_false,aB]
theorem uV (r s:Int) (h:rok r):jc r s=some (okG r s):=by
 unfold jc okG
 simp only [o3,aB,w32 h,v9,wi]
theorem yx (c:aG) (h:rok c.rune):kG c=some (okC c):=by
 unfold kG okC
 rw [uV _ _ h]
 simp only [o3,aB,v9,wi]
theorem find_eq {α:Type} (l:List α) (p:α→Bool) (hl:l.length≤1000000) (f:Int→Option (Int ⊕ (Unit ⊕ Int))) (hf: ∀ (n:Nat) (hn:n < l.length),f (n:Int)=if p l[n] then some (.inr (.inr (n:Int))) else some (.inl ((n+1:Nat):Int))) (he:f (l.length:Int)=some (.inr (.inl ()))): ∃ q,iter f 0=some q∧((q = .inl ()∧l.any p=false) ∨ ∃ w:Int,q = .inr w∧0≤w∧l.any p=true):=by
 obtain ⟨q,h1,h2⟩:=rY (f:=f) (fun i:Int=> ∃ n:Nat,i=n∧n≤l.length∧(l.take n).any p=false) (fun i=>(l.length - i).toNat) (fun q=>(q = .inl ()∧l.any p=false) ∨ ∃ w:Int,q = .inr w∧0≤w∧l.any p=true) (by
  rintro i ⟨n,rfl,hn,ht⟩
  by_cases hlt:n < l.length
  ·by_cases hp:p l[n]=true
   ·refine .inr ⟨.inr (n:Int),by rw [hf n hlt,if_pos hp],.inr ⟨_,rfl,by omega,List.any_eq_true.2 ⟨l[n],List.getElem_mem hlt,hp⟩⟩⟩
   ·refine .inl ⟨((n+1:Nat):Int),by rw [hf n hlt,if_neg hp],⟨n+1,rfl,hlt,?_⟩,by omega⟩
    rw [List.take_succ_eq_append_getElem hlt,List.any_append,ht]
    simpa using hp
  ·have hnl:n=l.length:=by omega
   subst hnl
   refine .inr ⟨.inl (),he,.inl ⟨rfl,?_⟩⟩
   rwa [List.take_length] at ht) 0 ⟨0,rfl,by omega,rfl⟩
 exact ⟨q,h1,h2⟩
theorem BT (l:List aI) (hl:l.length≤1000000) (h: ∀ g∈l,rok g.rune):bY l=some (l.any fun g=> !okG g.rune g.aK):=by
 unfold bY cL
 have hlen:l.length=l.length:=rfl
 obtain ⟨q,h1,h2⟩:=find_eq l (fun g=> !okG g.rune g.aK) hl (fun a=>(bif (decide (a < (l.length:Int))) then (Option.bind (idx l a) fun b=>(Option.bind (fK b) fun c=>(bif c then (ka (some a)) else some (.inl (IntKind.i64.wrap (a+1)))))) else some (.inr (.inl ())))) (by
  intro n hn
  unfold fK
  rw [decide_eq_true (by omega),cond_true,dr l n hn,aB,uV _ _ (h _ (List.getElem_mem hn)),aB,aB,w64 (by omega) (by omega)]
  cases okG l[n].rune l[n].aK <;> rfl) (by
  rw [decide_eq_false (by omega),cond_false])
 rw [h1,aB]
 rcases h2 with ⟨rfl,h3⟩ | ⟨w,rfl,h4,h3⟩
 ·rw [h3]
  rfl
 ·rw [h3]
  show some (decide (w≥0))=some true
  rw [decide_eq_true h4]
theorem BU (l:List aG) (hl:l.length≤1000000) (h:okR l):bU l=some (l.any fun c=> !okC c):=by
 unfold bU cM
 obtain ⟨q,h1,h2⟩:=find_eq l (fun c=> !okC c) hl (fun a=>(bif (decide (a < (l.length:Int))) then (Option.bind (idx l a) fun b=>(Option.bind (fL b) fun d=>(bif d then (ka (some a)) else some (.inl (IntKind.i64.wrap (a+1)))))) else some (.inr (.inl ())))) (by
  intro n hn
  unfold fL
  rw [decide_eq_true (by omega),cond_true,dr l n hn,aB,yx _ (h _ (List.getElem_mem hn)),aB,aB,w64 (by omega) (by omega)]
  cases okC l[n] <;> rfl) (by
  rw [decide_eq_false (by omega),cond_false])
 rw [h1,aB]
 rcases h2 with ⟨rfl,h3⟩ | ⟨w,rfl,h4,h3⟩
 ·rw [h3]
  rfl
 ·rw [h3]
  show some (decide (w≥0))=some true
  rw [decide_eq_true h4]
theorem xk {α:Type} (l:List α) (p:α→Bool):(l.any fun x=> !p x) = !(l.all p):=by
 induction l with
 | nil=>rfl
 | cons a l ih=>rw [List.any_cons,List.all_cons,ih,Bool.not_and]
theorem zU (s:ej) (h:SW s):gI s=some (if BS s then 0 else 1):=by
 unfold gI BS
 rw [empty_eq,aB]
 cases he:ud s with
 | true =>
  rw [cond_true]
  rfl
 | false =>
  rw [cond_false,zT s h,aB,BT _ (by have:=h.bl; omega) h.gl,aB,bor,aB,xk]
  cases hs:qj s with
  | false=>rfl
  | true =>
   cases hg:(s.begun.all fun g=>okG g.rune g.aK) with
   | false=>rfl
   | true =>
    show Option.bind (iter _ 0) _=some (if s.rows.all (oO s.w)=true then 0 else 1)
    have hrl:=h.rl
    refine ml (fun i:Int=> ∃ n:Nat,i=n∧n≤s.rows.length∧(s.rows.take n).all (oO s.w)=true) (fun i=>(s.rows.length - i).toNat) (fun q=>q=if s.rows.all (oO s.w)=true then .inl () else .inr 1) ⟨0,rfl,by omega,rfl⟩ ?_ ?_
    ·rintro i ⟨n,rfl,hn,ht⟩
     by_cases hlt:n < s.rows.length
     ·have hro:=h.ro _ (List.getElem_mem hlt)
      have hcond:((bif ((s.rows[n].cells.length:Int) != s.w) then some true else (Option.bind (bU s.rows[n].cells) fun a=>some a)):Option Bool)=some (!oO s.w s.rows[n]):=by
       rw [BU _ (by omega) hro.1,aB,bor,xk]
       unfold oO
       rw [Bool.not_and]
       rfl
      try dsimp only
      rw [decide_eq_true (by omega),cond_true,dr _ _ hlt,aB,hcond,aB,w64 (by omega) (by omega)]
      cases hb:oO s.w s.rows[n] with
      | true =>
       refine .inl ⟨((n+1:Nat):Int),rfl,⟨n+1,rfl,hlt,?_⟩,by omega⟩
       rw [List.take_succ_eq_append_getElem hlt,List.all_append,ht]
       simp [hb]
      | false =>
       refine .inr ⟨.inr 1,rfl,?_⟩
       rw [if_neg]
       intro hall
       have:=List.all_eq_true.1 hall _ (List.getElem_mem hlt)
       rw [hb] at this
       cases this
     ·refine .inr ⟨.inl (),?_,?_⟩
      ·try dsimp only
       rw [decide_eq_false (by omega),cond_false]
      ·have hnl:n=s.rows.length:=by omega
       subst hnl
       rw [List.take_length] at ht
       rw [if_pos ht]
    ·rintro q rfl
     by_cases hall:s.rows.all (oO s.w)=true
     ·rw [if_pos hall,if_pos hall]
     ·rw [if_neg hall,if_neg hall]
end Go.Tw.X
set_option linter.unusedVariables false
set_option linter.unusedSimpArgs false
namespace Go.Tw.X
open Go Go.Tw
def tg (g:aI):cx:=⟨g.rune,g.aK⟩
end Go.Tw.X
set_option linter.unusedVariables false
set_option linter.unusedSimpArgs false
namespace Go.Tw.X
open Go Go.Tw
def yy (g:aI):List Int:=[g.rune,g.aK].flatMap pC
def sn (l:List aI):List Int:=pC l.length++l.flatMap yy
theorem zV (g:aI):(yy g).length≤18:=by
 unfold yy
 simp only [List.flatMap_cons,List.flatMap_nil,List.length_append,List.length_nil]
 have h1:=nK g.rune
 have h2:=nK g.aK
 omega
theorem tq (l:List aI):(l.flatMap yy).length≤18*l.length:=by
 induction l with
 | nil=>simp
 | cons a t ih =>
  rw [List.flatMap_cons,List.length_append,List.length_cons]
  have:=zV a
  omega
theorem zW (l:List aI) (h:l.length≤2000) (hr: ∀ g∈l,rok g.rune):kE l=some (km (sn l)):=by
 unfold kE jv sn
 have he:=nK (l.length:Int)
 rw [xi [] _ (by simp),aB]
 have e0:([]++[(l.length:Int)].flatMap pC)=pC l.length:=by simp
 rw [e0]
 refine fQ (fun i=>((⟨pC l.length++(l.take i).flatMap yy⟩:eD),(i:Int))) l.length (⟨pC l.length++l.flatMap yy⟩:eD) (by simp) ?_ ?_ rfl
 ·intro i hi
  dsimp only
  have h2:=tq (l.take i)
  rw [List.length_take] at h2
  rw [decide_eq_true (by omega),cond_true,dr _ _ hi,aB,w32 (hr _ (List.getElem_mem hi)),xi _ _ (by simp only [List.length_append,List.length_cons,List.length_nil]; omega),aB,w64 (by omega) (by omega),List.take_succ_eq_append_getElem hi,List.flatMap_append,List.flatMap_singleton,List.append_assoc]
  rfl
 ·dsimp only
  rw [decide_eq_false (by omega),cond_false,List.take_length]
end Go.Tw.X
set_option linter.unusedVariables false
set_option linter.unusedSimpArgs false
namespace Go.Tw.X
open Go Go.Tw
def FQ (j:oM) (n:Int):ByteArray×oM:=if j.e≠0 then (noS,j) else if n > j.s.size then (noS,⟨noS,2⟩) else (kD j.s 0 n,⟨kD j.s n j.s.size,0⟩)
def FR (i:oM):ByteArray×oM:=FQ (rdS i).2 (rdS i).1
end Go.Tw.X
set_option linter.unusedVariables false
set_option linter.unusedSimpArgs false
namespace Go.Tw.X
open Go Go.Tw
def hA (s:ByteArray):=rdS ⟨s,0⟩
def hB (s:ByteArray):=ER (hA s).2 1000
def hC (s:ByteArray):=ER (hB s).2 1000
def hD (s:ByteArray):=rdS (hC s).2
def hE (s:ByteArray):=rdS (hD s).2
def hT (s:ByteArray):=FR (hE s).2
end Go.Tw.X
set_option linter.unusedVariables false
set_option linter.unusedSimpArgs false
namespace Go.Tw.X
open Go Go.Tw
def BB (l:List Int):Prop:= ∀ b∈l,0≤b∧b < 256
theorem wc (s:ByteArray):BB (sbs s):=fZ s
end Go.Tw.X
set_option linter.unusedVariables false
set_option linter.unusedSimpArgs false
namespace Go.Tw.X
open Go Go.Tw
def qV (a:Nat):Nat:=(a >>> 1) ^^^ (if a % 2=1 then 3988292384 else 0)
def qk (a:Nat):Nat:=qV (qV (qV (qV a)))
theorem so {a b:Nat} (ha:a < 4294967296) (hb:b < 4294967296):a ^^^ b < 4294967296:=Nat.xor_lt_two_pow (n:=32) ha hb
theorem rk {a:Nat} (h:a < 4294967296):qV a < 4294967296:=by
 unfold qV
 have:a >>> 1 < 4294967296:=by rw [Nat.shiftRight_eq_div_pow]; omega
 exact so this (by split <;> omega)
theorem BV (a b:Nat):(a ^^^ b) % 2=(a % 2+b % 2) % 2:=by
 have h:=Nat.testBit_xor a b 0
 rw [Nat.testBit_zero,Nat.testBit_zero,Nat.testBit_zero] at h
 have ha:a % 2=0∨a % 2=1:=by omega
 have hb:b % 2=0∨b % 2=1:=by omega
 have hc:(a ^^^ b) % 2=0∨(a ^^^ b) % 2=1:=by omega
 rcases ha with ha | ha <;> rcases hb with hb | hb <;> rcases hc with hc | hc <;> rw [ha,hb,hc] at h <;> first | (exact absurd h (by decide)) | (rw [ha,hb,hc])
theorem pD (a b:Nat):qV (a ^^^ b)=qV a ^^^ qV b:=by
 unfold qV
 rw [Nat.shiftRight_xor_distrib,BV]
 have ha:a % 2=0∨a % 2=1:=by omega
 have hb:b % 2=0∨b % 2=1:=by omega
 generalize a >>> 1=x
 generalize b >>> 1=y
 rcases ha with ha | ha <;> rcases hb with hb | hb <;> rw [ha,hb]
 ·simp
 ·simp [Nat.xor_assoc]
 ·simp only [Nat.zero_add,Nat.add_zero]
  simp
  rw [Nat.xor_assoc,Nat.xor_assoc,Nat.xor_comm y]
 ·simp
  have:x ^^^ 3988292384 ^^^ (y ^^^ 3988292384)=x ^^^ y ^^^ (3988292384 ^^^ 3988292384):=by
   rw [Nat.xor_assoc,Nat.xor_assoc,← Nat.xor_assoc 3988292384 y,Nat.xor_comm 3988292384 y,Nat.xor_assoc]
  rw [this,Nat.xor_self,Nat.xor_zero]
theorem zX (a b:Nat):qk (a ^^^ b)=qk a ^^^ qk b:=by
 unfold qk
 rw [pD,pD,pD,pD]
theorem od (k:Nat):qV (2*k)=k:=by
 unfold qV
 rw [if_neg (by omega),Nat.xor_zero,Nat.shiftRight_eq_div_pow]
 omega
theorem BW (k:Nat):qk (16*k)=k:=by
 unfold qk
 rw [show 16*k=2*(2*(2*(2*k))) by omega,od,od,od,od]
theorem tr (x:Nat):qk x=(x / 16) ^^^ qk (x % 16):=by
 have h:x=(16*(x / 16)) ^^^ (x % 16):=by
  have h1:16*(x / 16)+x % 16=x:=Nat.div_add_mod x 16
  have h2:(16*(x / 16)) ^^^ (x % 16)=16*(x / 16)+x % 16:=by
   have h3:2 ^ 4*(x / 16)+x % 16=(2 ^ 4*(x / 16)) ||| (x % 16):=Nat.two_pow_add_eq_or_of_lt (by omega) _
   apply Nat.eq_of_testBit_eq
   intro i
   have h4:(16*(x / 16)+x % 16)=(2 ^ 4*(x / 16)) ||| (x % 16):=h3
   rw [h4,Nat.testBit_xor,Nat.testBit_or]
   show ((2 ^ 4*(x / 16)).testBit i ^^ (x % 16).testBit i)=_
   rw [Nat.testBit_two_pow_mul]
   by_cases hi:i≥4
   ·have:(x % 16).testBit i=false:=by
     apply Nat.testBit_lt_two_pow
     have:2 ^ 4≤2 ^ i:=Nat.pow_le_pow_right (by omega) hi
     omega
    rw [this]
    simp
   ·simp [hi]
  rw [h2,h1]
 conv=>lhs; rw [h]
 rw [zX,BW]
theorem xl: ∀ n:Nat,n < 16→idx dI (n:Int)=some ((qk n:Nat):Int):=by decide
theorem DP {x:Int} (h0:0≤x) (h1:x < 4294967296):IntKind.u32.wrap x=x:=by
 unfold IntKind.wrap
 simp [IntKind.signed,IntKind.bits]
 omega
theorem xm {a b:Nat} (ha:a < 4294967296) (hb:b < 4294967296):Go.bits .xor .u32 (a:Int) (b:Int)=((a ^^^ b:Nat):Int):=by
 show IntKind.u32.wrap ((BitVec.ofInt 32 (a:Int) ^^^ BitVec.ofInt 32 (b:Int)).toNat:Int)=_
 rw [BitVec.ofInt_natCast,BitVec.ofInt_natCast,BitVec.toNat_xor,BitVec.toNat_ofNat,BitVec.toNat_ofNat,Nat.mod_eq_of_lt ha,Nat.mod_eq_of_lt hb]
 have:=so ha hb
 exact DP (by omega) (by omega)
theorem CO {a:Nat} (ha:a < 4294967296):Go.bits .and .u32 (a:Int) 15=((a % 16:Nat):Int):=by
 show IntKind.u32.wrap ((BitVec.ofInt 32 (a:Int) &&& BitVec.ofInt 32 15).toNat:Int)=_
 rw [BitVec.ofInt_natCast,BitVec.toNat_and,BitVec.toNat_ofNat,Nat.mod_eq_of_lt ha]
 have h:(BitVec.ofInt 32 15).toNat=2 ^ 4 - 1:=by decide
 rw [h,Nat.and_two_pow_sub_one_eq_mod]
 exact DP (by omega) (by omega)
theorem CP (a:Nat):((a:Int)).fdiv (2 ^ (min 4 32))=((a / 16:Nat):Int):=by
 rw [Int.fdiv_eq_ediv_of_nonneg _ (by decide)]
 rfl
def uW (x b:Nat):Nat:=qk (qk (x ^^^ b))
theorem pE {a:Nat} (h:a < 4294967296):qk a < 4294967296:=rk (rk (rk (rk h)))
theorem zY {x b:Nat} (h:x < 4294967296) (hb:b < 256):uW x b < 4294967296:=pE (pE (so h (by omega)))
theorem step_eq {x b:Nat} (hx:x < 4294967296) (hb:b < 256):ko (x:Int) (b:Int)=some ((uW x b:Nat):Int):=by
 unfold ko uW
 rw [DP (by omega) (by omega),xm hx (by omega)]
 have h1:=so hx (show b < 4294967296 by omega)
 generalize x ^^^ b=y at h1
 rw [CO h1,xl _ (by omega),aB,CP,xm (by omega) (pE (by omega)),← tr]
 have h2:=pE h1
 generalize qk y=z at h2
 rw [CO h2,xl _ (by omega),aB,CP,xm (by omega) (pE (by omega)),← tr]
def sV (l:List Int):Nat:=l.foldl (fun x b=>uW x b.toNat) 4294967295
theorem sq (l:List Int) (i:Nat) (h:i < l.length):sV (l.take (i+1))=uW (sV (l.take i)) (l[i]).toNat:=by
 unfold sV
 rw [List.take_succ_eq_append_getElem h,List.foldl_append]
 rfl
theorem xn {l:List Int} (h:BB l): ∀ i,sV (l.take i) < 4294967296:=by
 intro i
 induction i with
 | zero=>rw [List.take_zero]; decide
 | succ i ih =>
  by_cases hi:i < l.length
  ·rw [sq l i hi]
   have:=h _ (List.getElem_mem hi)
   exact zY ih (by omega)
  ·rw [List.take_of_length_le (by omega)]
   rw [List.take_of_length_le (by omega)] at ih
   exact ih
def zZ (s:ByteArray):Nat:=4294967295 ^^^ sV (sbs s)
theorem DQ (s:ByteArray) (hs:s.size≤1000000):ny [s]=some ((zZ s:Nat):Int):=by
 unfold ny
 have hL:=xn (wc s)
 have hinner:iter (σ:=Int×Int) (ρ:=Int) (fun a=>(bif (decide (a.1 < (s.size:Int))) then (Option.bind (jh s a.1) fun b642=>(Option.bind (ko a.2 b642) fun b=>some (.inl ((IntKind.i64.wrap (a.1+1)),b)))) else some (.inr a.2))) (0,4294967295)=some ((sV (sbs s):Nat):Int):=by
  refine xa (fun i=>((i:Int),((sV ((sbs s).take i):Nat):Int))) s.size _ ?_ ?_
  ·intro i hi
   have hi2:i < (sbs s).length:=by rw [cw]; exact hi
   have hb:=wc s _ (List.getElem_mem hi2)
   have hn:(sbs s)[i]=(((sbs s)[i].toNat:Nat):Int):=by omega
   dsimp only
   rw [decide_eq_true (by omega),cond_true,sj s i hi2,aB,sq _ _ hi2]
   conv=>lhs; rw [hn]
   rw [step_eq (hL i) (by omega),aB,w64 (by omega) (by omega)]
   rfl
  ·dsimp only
   rw [decide_eq_false (by omega),cond_false,List.take_of_length_le (by rw [cw]; exact Nat.le_refl _)]
 refine fQ (fun i=>(if i=0 then (4294967295:Int) else ((sV (sbs s):Nat):Int),(i:Int))) 1 ((sV (sbs s):Nat):Int) rfl ?_ ?_ ?_
 ·intro i hi
  have:i=0:=by omega
  subst this
  have h1:idx [s] 0=some s:=rfl
  show (bif (decide ((0:Int) < 1)) then (Option.bind (idx [s] 0) fun c=>_) else _)=_
  rw [decide_eq_true (by omega),cond_true,h1,aB]
  show (Option.bind (iter _ (0,4294967295)) fun d=>_)=_
  rw [hinner,aB]
  rfl
 ·rfl
 ·have h:=hL (sbs s).length
  rw [List.take_length] at h
  show some (Go.bits .xor .u32 ((4294967295:Nat):Int) ((sV (sbs s):Nat):Int))=_
  rw [xm (by decide) h]
  rfl
end Go.Tw.X
set_option linter.unusedVariables false
set_option linter.unusedSimpArgs false
namespace Go.Tw.X
open Go Go.Tw
theorem BX (s:ByteArray):zZ s < 4294967296:=by
 unfold zZ
 have h:=xn (wc s) (sbs s).length
 rw [List.take_length] at h
 exact so (by decide) h
end Go.Tw.X
set_option linter.unusedVariables false
set_option linter.unusedSimpArgs false
namespace Go.Tw.X
open Go Go.Tw
def okO {α:Type _} (x:Option α) (P:α→Prop):Prop:= ∃ r,x=some r∧P r
theorem aR {α:Type _} {P:α→Prop} {r:α} (h:P r):okO (some r) P:=⟨r,rfl,h⟩
theorem bH {α β:Type _} {P:α→Prop} {Q:β→Prop} {x:Option α} {f:α→Option β} (h:okO x P) (k: ∀ r,P r→okO (f r) Q):okO (Option.bind x f) Q:=by
 obtain ⟨r,rfl,hp⟩:=h
 exact k r hp
theorem lD {α:Type _} {P:α→Prop} {b:Bool} {x y:Option α} (h1:b=true→okO x P) (h2:b=false→okO y P):okO (bif b then x else y) P:=by
 cases b
 ·exact h2 rfl
 ·exact h1 rfl
theorem hG {α:Type _} {P:α→Prop} {p:Prop} [Decidable p] {x y:Option α} (h1:p→okO x P) (h2: ¬ p→okO y P):okO (bif decide p then x else y) P :=
 lD (fun h=>h1 (of_decide_eq_true h)) (fun h=>h2 (of_decide_eq_false h))
theorem ok_eq {α:Type _} {P:α→Prop} {a b:Int} {x y:Option α} (h1:a=b→okO x P) (h2: ¬ a=b→okO y P):okO (bif a == b then x else y) P :=
 lD (fun h=>h1 (by simpa using h)) (fun h=>h2 (by simpa using h))
theorem ET {α:Type _} {P:α→Prop} {a b:Int} {x y:Option α} (h1: ¬ a=b→okO x P) (h2:a=b→okO y P):okO (bif a != b then x else y) P :=
 lD (fun h=>h1 (by simpa using h)) (fun h=>h2 (by simpa using h))
theorem BY {α:Type _} {P Q:α→Prop} {x:Option α} (h:okO x P) (k: ∀ r,P r→Q r):okO x Q:=by
 obtain ⟨r,e,hp⟩:=h
 exact ⟨r,e,k r hp⟩
theorem DR {p:Prop} [Decidable p] (h:p):okO (chk (decide p)) (fun _=>True):=⟨(),jL h,trivial⟩
theorem ql {lo hi n:Int} (h0:0≤lo) (h1:lo≤hi) (h2:hi≤n):okO (chk (cF lo hi n)) (fun _=>True):=⟨(),bK h0 h1 h2,trivial⟩
theorem oP {n m b:Nat} (h:(n+m)*b≤140737488355328):okO (chk (dg n m b)) (fun _=>True):=⟨(),bI h,trivial⟩
theorem xo {n m:Nat} (h:n+m≤4611686018427387904):okO (chk (vO n m)) (fun _=>True):=⟨(),qi h,trivial⟩
theorem ue {α β:Type} {P:α ⊕ β→Prop} {x:Option β} (h:okO x (fun w=>P (.inr w))):okO (gT x) P:=by
 obtain ⟨r,rfl,hp⟩:=h
 exact ⟨.inr r,rfl,hp⟩
theorem uf {α β γ:Type} {P:α ⊕ (β ⊕ γ)→Prop} {x:Option γ} (h:okO x (fun w=>P (.inr (.inr w)))):okO (ka x) P:=by
 obtain ⟨r,rfl,hp⟩:=h
 exact ⟨.inr (.inr r),rfl,hp⟩
theorem ig {σ ρ:Type} {f:σ→Option (σ ⊕ ρ)} {P:ρ→Prop} (Inv:σ→Prop) (m:σ→Nat) {s:σ} (h0:Inv s)
  (h: ∀ s,Inv s→okO (f s) fun | .inl s'=>Inv s'∧m s' < m s | .inr r=>P r):okO (iter f s) P:=by
 refine rY Inv m P (fun s hs=> ?_) s h0
 obtain ⟨z,e,hz⟩:=h s hs
 cases z with
 | inl s'=>exact .inl ⟨s',e,hz⟩
 | inr r=>exact .inr ⟨r,e,hz⟩
end Go.Tw.X
set_option linter.unusedVariables false
set_option linter.unusedSimpArgs false
set_option maxHeartbeats 1000000
namespace Go.Tw.X
open Go Go.Tw
theorem EU {α:Type _} {x:Option α} {r:α} (h:okO x (fun y=>y=r)):x=some r:=by
 obtain ⟨y,e,rfl⟩:=h
 exact e
def chM:Int:=281474976710597
def pF (x:Int) (l:List aI):Int:=(x*65536 % chM+(zZ (km (sn l)):Nat)) % chM
def mY (l:List (List aI)):Int:=l.foldl pF 0
theorem uX (x:Int) (l:List aI):0≤pF x l∧pF x l < chM:=⟨Int.emod_nonneg _ (by decide),Int.emod_lt_of_pos _ (by decide)⟩
theorem uY (l:List (List aI)) (g:List aI):mY (l++[g])=pF (mY l) g:=List.foldl_append ..
theorem uZ: ∀ (l:List (List aI)) (x:Int),0≤x→x < chM→0≤l.foldl pF x∧l.foldl pF x < chM
 | [],x,h0,h1=>⟨h0,h1⟩
 | g::l,x,_,_=>uZ l (pF x g) (uX x g).1 (uX x g).2
theorem tt (l:List (List aI)):0≤mY l∧mY l < chM:=uZ l 0 (by decide) (by decide)
def sr (l:List aI):Prop:=l.length≤2000 ∧ ∀ g∈l,rok g.rune
theorem we {l:List aI} (h:l.length≤2000):(km (sn l)).size≤1000000:=by
 have h1:=nK (l.length:Int)
 have h2:=tq l
 rw [oc]
 unfold sn
 rw [List.length_append]
 omega
theorem BZ {x:Int} (h0:0≤x) (h1:x < chM) {l:List aI} (hl:sr l):kF x l=some (pF x l):=by
 unfold kF pF
 unfold chM at h1 ⊢
 have hs:=BX (km (sn l))
 rw [zW l hl.1 hl.2,Option.bind_some,DQ _ (we hl.1),Option.bind_some]
 generalize zZ (km (sn l))=m at hs
 rw [w64 (x:=x*256) (by omega) (by omega),Int.tmod_eq_emod_of_nonneg (a:=x*256) (by omega)]
 rw [w64 (x:=x*256 % 281474976710597*256) (by omega) (by omega),Int.tmod_eq_emod_of_nonneg (a:=x*256 % 281474976710597*256) (by omega)]
 rw [w64 (x:=((m:Nat):Int)) (by omega) (by omega),w64 (by omega) (by omega),Int.tmod_eq_emod_of_nonneg (a:=x*256 % 281474976710597*256 % 281474976710597+((m:Nat):Int)) (by omega)]
 congr 2
 omega
end Go.Tw.X
set_option linter.unusedVariables false
set_option linter.unusedSimpArgs false
set_option maxHeartbeats 1000000
namespace Go.Tw.X
open Go Go.Tw
def chs (l:List (List aI)):List Int:=(List.range (l.length+1)).map fun k=>mY (l.take k)
theorem xp (l:List (List aI)):(chs l).length=l.length+1:=by simp [chs]
theorem z2 (l:List (List aI)) (g:List aI):chs (l++[g])=chs l++[mY (l++[g])]:=by
 unfold chs
 rw [List.length_append,List.length_singleton,List.range_succ,List.map_append,List.map_singleton]
 congr 1
 ·refine List.map_congr_left fun k hk=> ?_
  have:=List.mem_range.1 hk
  rw [List.take_append_of_le_length (by omega)]
 ·rw [List.take_of_length_le (by simp)]
theorem xq (l:List (List aI)) (k:Nat) (h:k≤l.length):idx (chs l) (k:Int)=some (mY (l.take k)):=by
 rw [dr _ k (by rw [xp]; omega)]
 simp [chs]
theorem oe (l:List aI) (h:l.length≤1000000):bX l=some l:=by
 unfold bX
 rw [bI (by simp; omega)]
 simp
theorem u0 {b:bQ} (hc:b.bG=chs b.l) (hn:b.l.length≤200000000) {g:List aI} (hg:sr g):dP b g=some ⟨b.l++[g],chs (b.l++[g]),b.begun⟩:=by
 unfold dP
 have hk:=tt b.l
 rw [oe _ (by have:=hg.1; omega),Option.bind_some,bI (by simp; omega),Option.bind_some,hc,xp,w64 (by omega) (by omega)]
 rw [show ((b.l.length+1:Nat):Int) - 1=(b.l.length:Int) by omega,xq _ _ (Nat.le_refl _),List.take_length,Option.bind_some,BZ hk.1 hk.2 hg,Option.bind_some,bI (by simp; omega)]
 rw [z2,uY]
 rfl
def jn (g:List aI):List (List aI)×List aI :=
 if h:1024≤g.length then (g.take 1024::(jn (g.drop 1024)).1,(jn (g.drop 1024)).2) else ([],g)
termination_by g.length
decreasing_by all_goals (rw [List.length_drop]; omega)
theorem pG {g:List aI} (h:1024≤g.length):jn g=(g.take 1024::(jn (g.drop 1024)).1,(jn (g.drop 1024)).2):=by
 rw [jn,dif_pos h]
theorem mZ {g:List aI} (h: ¬ 1024≤g.length):jn g=([],g):=by
 rw [jn,dif_neg h]
def jB (z:List (List aI)×List aI) (r:aE):List (List aI)×List aI :=
 let c:=jn (z.2++je r)
 if r.wrapped then (z.1++c.1,c.2) else (z.1++c.1++[c.2],[])
def ga (z:List (List aI)×List aI):ll:=⟨z.1.map (fun g=>g.map tg),z.2.map tg⟩
theorem B0 {z:List (List aI)×List aI} (h1:z.1.length≤100000000) (h2:z.2.length≤1024) {r:aE} (hr:r.cells.length≤1000):nE (ga z) (told r)=some (ga (jB z r)):=by
 have hg:=sf r
 unfold nE
 rw [bI (by simp [ga]; omega),Option.bind_some,v8 r (by omega),Option.bind_some,bI (by simp [ga]; omega),Option.bind_some,bI (by simp [ga]; omega),Option.bind_some]
 have e0:(([]:List cx)++(ga z).begun)++(je r).map (fun g=>(⟨g.rune,g.aK⟩:cx))=(z.2++je r).map tg:=by
  simp only [ga,List.nil_append,List.map_append]
  rfl
 rw [e0]
 refine EU (bH (P:=fun y:(List cx)×(List (List cx))=>y=((jn (z.2++je r)).2.map tg,(z.1++(jn (z.2++je r)).1).map fun g=>g.map tg)) ?_ fun y hy=> ?_)
 ·refine ig (fun y:(List cx)×(List (List cx))=> ∃ g l,y=(g.map tg,l.map fun g=>g.map tg)∧g.length≤2024∧l.length≤200000000 - g.length∧(jn g).2=(jn (z.2++je r)).2∧l++(jn g).1=z.1++(jn (z.2++je r)).1) (fun y=>y.1.length) ⟨z.2++je r,z.1,by simp [ga],by simp; omega,by simp; omega,rfl,rfl⟩ ?_
  rintro _ ⟨g,l,rfl,g1,g2,g3,g4⟩
  dsimp only
  rw [List.length_map]
  refine hG (fun h=> ?_) fun h=> ?_
  ·have hge:1024≤g.length:=by omega
   rw [pG hge] at g3 g4
   refine bH (ql (by omega) (by omega) (by omega)) fun _ _=> ?_
   refine bH (oP (by simp; omega)) fun _ _=> ?_
   refine bH (ql (by omega) (by omega) (by omega)) fun _ _=>aR ⟨⟨g.drop 1024,l++[g.take 1024],?_,by rw [List.length_drop]; omega,by rw [List.length_append,List.length_drop]; simp; omega,g3,by rw [← g4]; simp⟩,?_⟩
   ·rw [show (1024:Int)=((1024:Nat):Int) from rfl,mm,lS,List.take_of_length_le (by rw [List.length_map]; exact Nat.le_refl _)]
    simp
   ·dsimp only
    rw [show (1024:Int)=((1024:Nat):Int) from rfl,lS,List.length_drop,List.length_take,List.length_map]
    omega
  ·rw [mZ (by omega)] at g3 g4
   refine aR ?_
   rw [← g3,← g4]
   simp
 ·subst hy
  have hcl: ∀ n (g:List aI),g.length=n→(jn g).1.length≤n:=by
   intro n
   induction n using Nat.strongRecOn with
   | _ n ih =>
    intro g hg
    by_cases h:1024≤g.length
    ·rw [pG h]
     have:=ih (g.drop 1024).length (by rw [List.length_drop]; omega) _ rfl
     rw [List.length_drop] at this
     simp
     omega
    ·rw [mZ h]; simp
  have hc:=hcl _ (z.2++je r) rfl
  rw [List.length_append] at hc
  unfold jB
  cases hw:r.wrapped with
  | true =>
   rw [show (told r).wrapped=true from hw]
   exact aR rfl
  | false =>
   rw [show (told r).wrapped=false from hw]
   simp only [Bool.not_false,cond_true]
   refine bH (oP (by simp; omega)) fun _ _=>aR (by simp [ga])
end Go.Tw.X
set_option linter.unusedVariables false
set_option linter.unusedSimpArgs false
set_option maxHeartbeats 1000000
namespace Go.Tw.X
open Go Go.Tw
def dz (z:List (List aI)×List aI):bQ:=⟨z.1,chs z.1,z.2⟩
def yz (g:List aI):Prop:= ∀ x∈g,rok x.rune
theorem xu: ∀ n (g:List aI),g.length=n→yz g→(jn g).1.length*1024≤n∧(jn g).2.length < 1024∧yz (jn g).2 ∧ ∀ x∈(jn g).1,sr x:=by
 intro n
 induction n using Nat.strongRecOn with
 | _ n ih =>
  intro g hg ho
  by_cases h:1024≤g.length
  ·rw [pG h]
   obtain ⟨a,b,c,d⟩:=ih (g.drop 1024).length (by rw [List.length_drop]; omega) _ rfl (fun x hx=>ho x (List.mem_of_mem_drop hx))
   rw [List.length_drop] at a
   refine ⟨by rw [List.length_cons,Nat.succ_mul,← hg]; exact Nat.add_le_of_le_sub h a,b,c,fun x hx=> ?_⟩
   rcases List.mem_cons.1 hx with rfl | hx
   ·exact ⟨by rw [List.length_take]; omega,fun y hy=>ho y (List.mem_of_mem_take hy)⟩
   ·exact d x hx
  ·rw [mZ h]
   exact ⟨by rw [List.length_nil]; omega,by dsimp only; omega,ho,fun x hx=>by cases hx⟩
def tu (r:aE):Prop:=r.cells.length≤1000∧yz (je r)
structure ZI (k:Nat) (z:List (List aI)×List aI):Prop where
 n:z.1.length≤k
 b:z.2.length < 1024
 g:yz z.2
 ls: ∀ x∈z.1,sr x
theorem B1 {k:Nat} {z:List (List aI)×List aI} (h:ZI k z) {r:aE} (hr:tu r):ZI (k+2) (jB z r):=by
 have hl:=sf r
 obtain ⟨a,b,c,d⟩:=xu _ (z.2++je r) rfl (fun x hx=>(List.mem_append.1 hx).elim (h.g x) (hr.2 x))
 rw [List.length_append] at a
 have h1:=h.n
 have h2:=h.b
 have h3:=hr.1
 unfold jB
 dsimp only
 split
 ·exact ⟨by rw [List.length_append]; omega,b,c,fun x hx=>(List.mem_append.1 hx).elim (h.ls x) (d x)⟩
 ·refine ⟨by simp; omega,by show 0 < 1024; decide,fun x hx=>(by cases hx),fun x hx=> ?_⟩
  rcases List.mem_append.1 hx with hx | hx
  ·exact (List.mem_append.1 hx).elim (h.ls x) (d x)
  ·rw [List.mem_singleton.1 hx]
   exact ⟨by omega,c⟩
theorem add_one {k:Nat} (hk:k≤100000000) {z:List (List aI)×List aI} (h:ZI k z) {r:aE} (hr:tu r):(Option.bind (fS r) fun f=>(Option.bind (chk (dg (dz z).begun.length f.length 16)) fun _=>(Option.bind (iter (σ:=bQ) (ρ:=bQ) (fun d=>(bif (decide ((d.begun.length:Int)≥1024)) then (Option.bind (chk (cF 0 1024 d.begun.length)) fun _=>(Option.bind (dP d (cut d.begun 0 1024)) fun c=>(Option.bind (chk (cF 1024 (c.begun.length:Int) c.begun.length)) fun _=>(Option.bind (bX (cut c.begun 1024 (c.begun.length:Int))) fun j=>some (.inl (bQ.mk c.l c.bG j)))))) else some (.inr d))) (bQ.mk (dz z).l (dz z).bG ((dz z).begun++f))) fun e=>(bif (!r.wrapped) then (Option.bind (dP e e.begun) fun i=>some (bQ.mk i.l i.bG ([]:List aI))) else some e))))=some (dz (jB z r)):=by
 have hl:=sf r
 have h1:=h.n
 have h2:=h.b
 have h3:=hr.1
 have hgo:yz (z.2++je r):=fun x hx=>(List.mem_append.1 hx).elim (h.g x) (hr.2 x)
 obtain ⟨ca,cb,cc,_⟩:=xu _ (z.2++je r) rfl hgo
 rw [List.length_append] at ca
 rw [yo r (by omega),Option.bind_some,bI (by show (z.2.length+(je r).length)*16≤_; omega),Option.bind_some]
 refine EU (bH (P:=fun y=>y=dz (z.1++(jn (z.2++je r)).1,(jn (z.2++je r)).2)) ?_ fun y hy=> ?_)
 ·refine ig (fun y:bQ=> ∃ l g,y=dz (l,g)∧g.length≤2024∧yz g∧l.length+g.length≤200000000∧(jn g).2=(jn (z.2++je r)).2∧l++(jn g).1=z.1++(jn (z.2++je r)).1) (fun y=>y.begun.length) ⟨z.1,z.2++je r,rfl,by simp; omega,hgo,by simp; omega,rfl,rfl⟩ ?_
  rintro _ ⟨l,g,rfl,g1,g2,g3,g4,g5⟩
  show okO (bif (decide ((g.length:Int)≥1024)) then _ else _) _
  refine hG (fun hh=> ?_) fun hh=> ?_
  ·have hge:1024≤g.length:=by omega
   rw [pG hge] at g4 g5
   have hcut:cut g 0 1024=g.take 1024:=by rw [show (1024:Int)=((1024:Nat):Int) from rfl,mm]
   have hcut2:cut g 1024 (g.length:Int)=g.drop 1024:=by rw [show (1024:Int)=((1024:Nat):Int) from rfl,lS,List.take_length]
   refine bH (ql (by omega) (by omega) (by show (1024:Int)≤g.length; omega)) fun _ _=> ?_
   rw [show (dz (l,g)).begun=g from rfl,hcut,u0 (b:=dz (l,g)) rfl (by show l.length≤_; omega) ⟨by rw [List.length_take]; omega,fun x hx=>g2 x (List.mem_of_mem_take hx)⟩,Option.bind_some]
   dsimp only
   refine bH (ql (by omega) (by show (1024:Int)≤g.length; omega) (by show (g.length:Int)≤g.length; omega)) fun _ _=> ?_
   rw [show (dz (l,g)).begun=g from rfl,show (dz (l,g)).l=l from rfl,hcut2,oe _ (by rw [List.length_drop]; omega),Option.bind_some]
   refine aR ⟨⟨l++[g.take 1024],g.drop 1024,rfl,by rw [List.length_drop]; omega,fun x hx=>g2 x (List.mem_of_mem_drop hx),by simp; omega,g4,by rw [← g5]; simp⟩,?_⟩
   show (g.drop 1024).length < g.length
   rw [List.length_drop]
   omega
  ·rw [mZ (by omega)] at g4 g5
   refine aR ?_
   rw [← g4,← g5]
   simp
 ·subst hy
  unfold jB
  cases hw:r.wrapped with
  | true=>exact aR rfl
  | false =>
   simp only [Bool.not_false,cond_true]
   rw [show ∀ a b,(dz (a,b)).begun=b from fun _ _=>rfl,u0 (b:=dz (z.1++(jn (z.2++je r)).1,(jn (z.2++je r)).2)) rfl (by show (z.1++(jn (z.2++je r)).1).length≤_; rw [List.length_append]; omega) ⟨by show (jn (z.2++je r)).2.length≤2000; omega,cc⟩]
   exact aR rfl
theorem mv {k:Nat}: ∀ (rows:List aE) {z:List (List aI)×List aI},ZI k z→(∀ r∈rows,tu r)→ZI (k+2*rows.length) (rows.foldl jB z)
 | [],z,h,_=>h
 | r::rows,z,h,hr=>by
  have h1:=B1 h (hr r List.mem_cons_self)
  have h2:=mv (k:=k+2) rows h1 fun x hx=>hr x (List.mem_cons_of_mem _ hx)
  rw [show k+2*(r::rows).length=k+2+2*rows.length by simp; omega]
  exact h2
theorem add_eq {k:Nat} {z:List (List aI)×List aI} (h:ZI k z) {rows:List aE} (hr: ∀ r∈rows,tu r) (hk:k+2*rows.length≤100000000):okO (fF (dz z) rows) (fun y=>y.2=dz (rows.foldl jB z)):=by
 unfold fF
 refine bH (P:=fun y=>y=dz (rows.foldl jB z)) ?_ fun y hy=>aR hy
 refine ig (fun y:bQ×Int=>0≤y.2∧y.2≤rows.length∧y.1=dz ((rows.take y.2.toNat).foldl jB z)) (fun y=>rows.length - y.2.toNat) ⟨Int.le_refl 0,by dsimp only; omega,rfl⟩ ?_
 rintro ⟨b,i⟩ ⟨h0,h1,h2⟩
 dsimp only at h0 h1 h2 ⊢
 subst h2
 refine hG (fun hi=> ?_) fun hi=>aR (by rw [List.take_of_length_le (by omega)])
 obtain ⟨j,rfl⟩: ∃ j:Nat,i=j:=⟨i.toNat,by omega⟩
 have hj:j < rows.length:=by omega
 have hZ:=mv (rows.take j) h fun x hx=>hr x (List.mem_of_mem_take hx)
 rw [List.length_take] at hZ
 rw [dr rows j hj,Option.bind_some]
 have:=add_one (by omega) hZ (hr rows[j] (List.getElem_mem hj))
 rw [show ((j:Int)).toNat=j from rfl]
 rw [this,Option.bind_some,w64 (by omega) (by omega)]
 refine aR ⟨⟨by dsimp only; omega,by dsimp only; omega,?_⟩,by dsimp only; omega⟩
 dsimp only
 rw [show ((j:Int)+1).toNat=j+1 by omega,List.take_add_one,List.getElem?_eq_getElem hj,Option.toList_some,List.foldl_append]
 rfl
end Go.Tw.X
set_option linter.unusedVariables false
set_option linter.unusedSimpArgs false
namespace Go.Tw.X
open Go Go.Tw
def tst (s:aZ):bE:=⟨s.eW,s.back,s.bold,s.under,s.cO⟩
def bN (b:Bool) (n:Int):Int:=if b then n else 0
def iR (s:aZ):Int:=if 0≤s.eW∧s.eW < 9∧0≤s.back∧s.back < 9 then s.eW+9*s.back+bN s.bold 81+bN s.under 162+bN s.cO 324 else 0
theorem DS (b:Bool) (n:Int):jD b n=some (bN b n):=by cases b <;> rfl
theorem yA (s:aZ):gC s=some (decide (0≤s.eW∧s.eW < 9∧0≤s.back∧s.back < 9)):=by
 unfold gC
 by_cases a:0≤s.eW <;> by_cases b:s.eW < 9 <;> by_cases c:0≤s.back <;> by_cases d:s.back < 9 <;> simp [a,b,c,d,ge_iff_le]
theorem B2 (s:aZ):nA (tst s)=some (decide (0≤s.eW∧s.eW < 9∧0≤s.back∧s.back < 9)):=by
 unfold nA
 have e1:(s.eW≤8)=(s.eW < 9):=propext (by omega)
 have e2:(s.back≤8)=(s.back < 9):=propext (by omega)
 simp only [tst,e1,e2]
 by_cases a:0≤s.eW <;> by_cases b:s.eW < 9 <;> by_cases c:0≤s.back <;> by_cases d:s.back < 9 <;> simp [a,b,c,d,ge_iff_le]
theorem z3 (b:Bool) (n:Int) (h:0≤n):0≤bN b n∧bN b n≤n:=by cases b <;> simp [bN,h]
theorem z4 (s:aZ):gD s=some (iR s):=by
 unfold gD iR
 rw [yA,aB]
 by_cases h:0≤s.eW∧s.eW < 9∧0≤s.back∧s.back < 9
 ·have h1:=z3 s.bold 81 (by omega)
  have h2:=z3 s.under 162 (by omega)
  have h3:=z3 s.cO 324 (by omega)
  rw [decide_eq_true h,if_pos h]
  simp only [Bool.not_true,cond_false,DS,aB]
  rw [w64 (x:=9*s.back) (by omega) (by omega),w64 (x:=s.eW+9*s.back) (by omega) (by omega),w64 (x:=s.eW+9*s.back+bN s.bold 81) (by omega) (by omega),w64 (x:=s.eW+9*s.back+bN s.bold 81+bN s.under 162) (by omega) (by omega),w64 (by omega) (by omega)]
 ·rw [decide_eq_false h,if_neg h]
  rfl
theorem u2 (s:aZ):hU (tst s)=some (iR s):=by
 unfold hU iR
 rw [B2,aB]
 by_cases h:0≤s.eW∧s.eW < 9∧0≤s.back∧s.back < 9
 ·rw [decide_eq_true h,if_pos h]
  simp only [Bool.not_true,cond_false,tst]
  rw [w64 (x:=9*s.back) (by omega) (by omega),w64 (x:=s.eW+9*s.back) (by omega) (by omega)]
  cases s.bold <;> cases s.under <;> cases s.cO <;> simp only [cond_true,cond_false,aB,bN] <;> simp <;> (try simp only [IntKind.wrap_i64]) <;> (try omega)
 ·rw [decide_eq_false h,if_neg h]
  rfl
def qm (s:aZ) (n:Int):aZ:=if n=0 then ⟨0,0,false,false,false⟩ else if n=1∨n=22 then ⟨s.eW,s.back,n == 1,s.under,s.cO⟩ else if n=4∨n=24 then ⟨s.eW,s.back,s.bold,n == 4,s.cO⟩ else if n=7∨n=27 then ⟨s.eW,s.back,s.bold,s.under,n == 7⟩ else if 30≤n∧n < 38 then ⟨n - 29,s.back,s.bold,s.under,s.cO⟩ else if n=39 then ⟨0,s.back,s.bold,s.under,s.cO⟩ else if 40≤n∧n < 48 then ⟨s.eW,n - 39,s.bold,s.under,s.cO⟩ else if n=49 then ⟨s.eW,0,s.bold,s.under,s.cO⟩ else s
theorem cX {a b:Int} (h: ¬ a=b):(a == b)=false:=by simpa using h
theorem iS {a b:Int} (h:a=b):(a == b)=true:=by simpa using h
theorem o4 (n a b:Int):((bif (n == a) then some true else some (n == b)):Option Bool)=some (decide (n=a∨n=b)):=by
 by_cases h:n=a
 ·simp [h]
 ·rw [cX h,cond_false]
  by_cases h2:n=b
  ·simp [h2]
  ·rw [cX h2,decide_eq_false (by omega)]
theorem B3 (n a b:Int):((bif (decide (n≥a)) then some (decide (n < b)) else some false):Option Bool)=some (decide (a≤n∧n < b)):=tX (a≤n) (n < b)
theorem B4 (n a b:Int):((bif (decide (n≥a)) then some (decide (n≤b)) else some false):Option Bool)=some (decide (a≤n∧n≤b)):=tX (a≤n) (n≤b)
theorem DT (s:aZ) (n:Int):gE s n=some (qm s n):=by
 unfold gE qm
 simp only [o4,B3,aB]
 by_cases h0:n=0
 ·simp [h0,gT]
 ·have b0:(n == 0)=false:=by simpa using h0
  rw [b0,cond_false,if_neg h0]
  by_cases h1:n=1∨n=22
  ·rw [decide_eq_true h1,if_pos h1]; rfl
  ·rw [decide_eq_false h1,cond_false,if_neg h1]
   by_cases h2:n=4∨n=24
   ·rw [decide_eq_true h2,if_pos h2]; rfl
   ·rw [decide_eq_false h2,cond_false,if_neg h2]
    by_cases h3:n=7∨n=27
    ·rw [decide_eq_true h3,if_pos h3]; rfl
    ·rw [decide_eq_false h3,cond_false,if_neg h3]
     by_cases h4:30≤n∧n < 38
     ·rw [decide_eq_true h4,cond_true,if_pos h4,w64 (x:=n - 30) (by omega) (by omega),w64 (by omega) (by omega),show n - 30+1=n - 29 by omega]; rfl
     ·rw [decide_eq_false h4,cond_false,if_neg h4]
      by_cases h5:n=39
      ·simp [h5]
      ·have b5:(n == 39)=false:=by simpa using h5
       rw [b5,cond_false,if_neg h5]
       by_cases h6:40≤n∧n < 48
       ·rw [decide_eq_true h6,cond_true,if_pos h6,w64 (x:=n - 40) (by omega) (by omega),w64 (by omega) (by omega),show n - 40+1=n - 39 by omega]; rfl
       ·rw [decide_eq_false h6,cond_false,if_neg h6]
        by_cases h7:n=49
        ·simp [h7]
        ·rw [cX h7,if_neg h7]; rfl
theorem B5 (s:aZ) (n k:Int):((Option.bind ((bif (n == 0) then some (bE.mk 0 0 false false false) else some (tst s)):Option bE) fun a=>(Option.bind ((bif (n == 1) then some true else some (n == 22)):Option Bool) fun h=>(Option.bind ((bif h then some (bE.mk a.eW a.back (decide (n < 10)) a.under a.cO) else some a):Option bE) fun b=>(Option.bind ((bif (n == 4) then some true else some (n == 24)):Option Bool) fun i=>(Option.bind ((bif i then some (bE.mk b.eW b.back b.bold (decide (n < 10)) b.cO) else some b):Option bE) fun c=>(Option.bind ((bif (n == 7) then some true else some (n == 27)):Option Bool) fun j=>(Option.bind ((bif j then some (bE.mk c.eW c.back c.bold c.under (decide (n < 10))) else some c):Option bE) fun d=>(Option.bind ((bif (decide (n≥30)) then some (decide (n≤37)) else some false):Option Bool) fun l=>(Option.bind ((bif l then some (bE.mk (IntKind.i64.wrap (n - 29)) d.back d.bold d.under d.cO) else some d):Option bE) fun e=>(Option.bind ((bif (n == 39) then some (bE.mk 0 e.back e.bold e.under e.cO) else some e):Option bE) fun f=>(Option.bind ((bif (decide (n≥40)) then some (decide (n≤47)) else some false):Option Bool) fun m=>(Option.bind ((bif m then some (bE.mk f.eW (IntKind.i64.wrap (n - 39)) f.bold f.under f.cO) else some f):Option bE) fun g=>(bif (n == 49) then some (k,(bE.mk g.eW 0 g.bold g.under g.cO)) else some (k,g)))))))))))))):Option (Int×bE))=some (k,tst (qm s n)):=by
 simp only [o4,B4,aB]
 unfold qm
 by_cases h0:n=0
 ·subst h0; simp [tst,aB]
 ·have b0:(n == 0)=false:=by simpa using h0
  rw [b0,cond_false,if_neg h0,aB]
  by_cases h1:n=1∨n=22
  ·rcases h1 with rfl | rfl <;> simp [tst,aB]
  ·rw [decide_eq_false h1,cond_false,if_neg h1,aB]
   by_cases h2:n=4∨n=24
   ·rcases h2 with rfl | rfl <;> simp [tst,aB]
   ·rw [decide_eq_false h2,cond_false,if_neg h2,aB]
    by_cases h3:n=7∨n=27
    ·rcases h3 with rfl | rfl <;> simp [tst,aB]
    ·rw [decide_eq_false h3,cond_false,if_neg h3,aB]
     by_cases h4:30≤n∧n < 38
     ·have e4:decide (30≤n∧n≤37)=true:=decide_eq_true (by omega)
      have e5:(n == 39)=false:=by simp; omega
      have e6:decide (40≤n∧n≤47)=false:=decide_eq_false (by omega)
      have e7:(n == 49)=false:=by simp; omega
      rw [e4,e5,e6,e7,if_pos h4,w64 (x:=n - 29) (by omega) (by omega)]
      rfl
     ·have e4:decide (30≤n∧n≤37)=false:=decide_eq_false (by omega)
      rw [e4,if_neg h4,cond_false,aB]
      by_cases h5:n=39
      ·subst h5; simp [tst,aB]
      ·have b5:(n == 39)=false:=by simpa using h5
       rw [b5,cond_false,if_neg h5,aB]
       by_cases h6:40≤n∧n < 48
       ·have e6:decide (40≤n∧n≤47)=true:=decide_eq_true (by omega)
        have e7:(n == 49)=false:=by simp; omega
        rw [e6,e7,if_pos h6,w64 (x:=n - 39) (by omega) (by omega)]
        rfl
       ·have e6:decide (40≤n∧n≤47)=false:=decide_eq_false (by omega)
        rw [e6,if_neg h6,cond_false,aB]
        by_cases h7:n=49
        ·simp [h7,tst]
        ·rw [cX h7,if_neg h7]; rfl
def kV:List Int→Nat
 | 5::l=>min 2 (l.length+1)
 | 2::l=>min 4 (l.length+1)
 | _=>0
theorem z5 (l:List Int):kV l≤l.length:=by
 unfold kV
 split <;> simp <;> omega
theorem B6 (l:List Int):jN l=some (kV l:Int):=by
 unfold jN
 cases l with
 | nil=>rfl
 | cons a l =>
  have h0:decide (((a::l).length:Int) > 0)=true:=by simp
  have h1:idx (a::l) 0=some a:=zA _
  simp only [h0,cond_true,h1,aB]
  by_cases h5:a=5
  ·subst h5
   simp only [beq_self_eq_true,cond_true,aB,kV,dv,List.length_cons]
   first | done | (congr 1; omega)
  ·have e5:(a == 5)=false:=by simpa using h5
   simp only [e5,cond_false,aB]
   by_cases h2:a=2
   ·subst h2
    simp only [beq_self_eq_true,cond_true,aB,kV,dv,List.length_cons]
    first | done | (congr 1; omega)
   ·have e2:(a == 2)=false:=by simpa using h2
    simp only [e2,cond_false]
    unfold kV
    split
    ·rename_i heq; injection heq with h; exact absurd h h5
    ·rename_i heq; injection heq with h; exact absurd h h2
    ·rfl
def o6 (s:aZ) (l:List Int):aZ :=
 match l with
 | []=>s
 | n::l=>if n=38∨n=48 then o6 s (l.drop (kV l)) else o6 (qm s n) l
termination_by l.length
decreasing_by all_goals simp_wf <;> omega
theorem u3 (s:aZ):o6 s []=s:=by unfold o6; rfl
theorem tv (s:aZ) (n:Int) (l:List Int):o6 s (n::l)=if n=38∨n=48 then o6 s (l.drop (kV l)) else o6 (qm s n) l:=by rw [o6]
def yB (s:aZ) (l:List Int):aZ:=if l.length=0 then ⟨0,0,false,false,false⟩ else o6 s l
theorem B7 (l:List Int):((l.length:Int) == 0)=decide (l.length=0):=by
 by_cases h:l.length=0
 ·simp [h]
 ·rw [decide_eq_false h,cX (by omega)]
theorem B8 (s:aZ) (l:List Int) (hl:l.length≤1000000):gF s l=some (yB s l):=by
 unfold gF yB
 rw [B7]
 by_cases h0:l.length=0
 ·rw [decide_eq_true h0,if_pos h0]; rfl
 ·rw [decide_eq_false h0,if_neg h0,cond_false]
  refine ml (fun x=>0≤x.2∧x.2≤l.length∧o6 x.1 (l.drop x.2.toNat)=o6 s l) (fun x=>l.length - x.2.toNat) (fun r=>r=o6 s l) ⟨Int.le_refl 0,by dsimp only; omega,by simp⟩ ?_ ?_
  ·rintro ⟨q,i⟩ ⟨h1,h2,h3⟩
   dsimp only at h1 h2 h3 ⊢
   obtain ⟨i,rfl⟩:=Int.eq_ofNat_of_zero_le h1
   rw [Int.toNat_natCast] at h3
   by_cases hi:i < l.length
   ·left
    rw [decide_eq_true (by omega:(i:Int) < l.length),cond_true,dr _ _ hi,aB,o4,aB]
    rw [List.drop_eq_getElem_cons hi,tv] at h3
    by_cases hn:l[i]=38∨l[i]=48
    ·rw [if_pos hn] at h3
     have hsk:=z5 (l.drop (i+1))
     rw [List.length_drop] at hsk
     rw [decide_eq_true hn,cond_true,w64 (x:=(i:Int)+1) (by omega) (by omega),show (i:Int)+1=((i+1:Nat):Int) by omega,bK (by omega) (by omega) (by omega),aB,lS,List.take_length,B6,aB,aB]
     dsimp only
     refine ⟨_,rfl,⟨?_,?_,?_⟩,?_⟩
     ·dsimp only; rw [w64 (x:=(i:Int)+(kV (l.drop (i+1)):Int)) (by omega) (by omega),w64 (by omega) (by omega)]; omega
     ·dsimp only; rw [w64 (x:=(i:Int)+(kV (l.drop (i+1)):Int)) (by omega) (by omega),w64 (by omega) (by omega)]; omega
     ·dsimp only; rw [w64 (x:=(i:Int)+(kV (l.drop (i+1)):Int)) (by omega) (by omega),w64 (by omega) (by omega),← h3,List.drop_drop]
      congr 2
      omega
     ·dsimp only; rw [w64 (x:=(i:Int)+(kV (l.drop (i+1)):Int)) (by omega) (by omega),w64 (by omega) (by omega)]; omega
    ·rw [if_neg hn] at h3
     rw [decide_eq_false hn,cond_false,aB,DT,aB,aB]
     dsimp only
     rw [w64 (x:=(i:Int)+1) (by omega) (by omega)]
     refine ⟨_,rfl,⟨by dsimp only; omega,by dsimp only; omega,?_⟩,by dsimp only; omega⟩
     dsimp only
     rw [show ((i:Int)+1).toNat=i+1 by omega,h3]
   ·right
    rw [decide_eq_false (by omega: ¬ (i:Int) < l.length),cond_false]
    rw [List.drop_eq_nil_of_le (by omega),u3] at h3
    exact ⟨q,rfl,h3⟩
  ·rintro r rfl
   rfl
theorem u4 (l:List Int):(∃ r,l=5::r∧kV l=min 2 (r.length+1))∨(∃ r,l=2::r∧kV l=min 4 (r.length+1))∨(kV l=0∧(∀ a r,l=a::r→a≠5∧a≠2)):=by
 cases l with
 | nil=>exact .inr (.inr ⟨rfl,fun a r h=>by cases h⟩)
 | cons a l =>
  by_cases h5:a=5
  ·subst h5; exact .inl ⟨l,rfl,rfl⟩
  ·by_cases h2:a=2
   ·subst h2; exact .inr (.inl ⟨l,rfl,rfl⟩)
   ·refine .inr (.inr ⟨?_,fun b r h=>by injection h with h1 _; subst h1; exact ⟨h5,h2⟩⟩)
    unfold kV
    split
    ·rename_i heq; injection heq with h; exact absurd h h5
    ·rename_i heq; injection heq with h; exact absurd h h2
    ·rfl
theorem u5 (l:List Int) (k n:Nat) (h:l.length≤n):l.drop (min k n)=l.drop k:=by
 by_cases hk:k≤n
 ·rw [Nat.min_eq_left hk]
 ·rw [List.drop_eq_nil_of_le (by omega),List.drop_eq_nil_of_le (by omega)]
end Go.Tw.X
set_option linter.unusedVariables false
set_option linter.unusedSimpArgs false
namespace Go.Tw.X
open Go Go.Tw
theorem z6 (s:aZ) (l:List Int) (hl:l.length≤1000000):nB (tst s) l=some (tst (yB s l)):=by
 unfold nB yB
 rw [B7]
 by_cases h0:l.length=0
 ·rw [decide_eq_true h0,if_pos h0]; rfl
 ·rw [decide_eq_false h0,if_neg h0,cond_false]
  refine ml (fun x=> ∃ q,x.1=tst q∧0≤x.2.1∧x.2.1≤l.length∧0≤x.2.2∧x.2.2≤4∧o6 q (l.drop (x.2.1.toNat+x.2.2.toNat))=o6 s l) (fun x=>l.length - x.2.1.toNat) (fun r=>r=tst (o6 s l)) ⟨s,rfl,Int.le_refl 0,by dsimp only; omega,Int.le_refl 0,by dsimp only; omega,by simp⟩ ?_ ?_
  ·rintro ⟨q',i,k⟩ ⟨q,e,h1,h2,h4,h5,h3⟩
   dsimp only at e h1 h2 h3 h4 h5 ⊢
   subst e
   obtain ⟨i,rfl⟩:=Int.eq_ofNat_of_zero_le h1
   obtain ⟨k,rfl⟩:=Int.eq_ofNat_of_zero_le h4
   rw [Int.toNat_natCast,Int.toNat_natCast] at h3
   by_cases hi:i < l.length
   ·left
    rw [decide_eq_true (by omega:(i:Int) < l.length),cond_true,dr _ _ hi,aB,w64 (x:=(i:Int)+1) (by omega) (by omega)]
    by_cases hk:0 < k
    ·rw [decide_eq_true (by omega:(k:Int) > 0),cond_true,aB,w64 (x:=(k:Int) - 1) (by omega) (by omega)]
     dsimp only
     refine ⟨_,rfl,⟨q,rfl,by dsimp only; omega,by dsimp only; omega,by dsimp only; omega,by dsimp only; omega,?_⟩,by dsimp only; omega⟩
     dsimp only
     rw [← h3]
     congr 2
     omega
    ·obtain rfl:k=0:=by omega
     rw [Nat.add_zero,List.drop_eq_getElem_cons hi,tv] at h3
     rw [decide_eq_false (by omega: ¬ ((0:Nat):Int) > 0),cond_false,o4,aB]
     by_cases hn:l[i]=38∨l[i]=48
     ·rw [if_pos hn] at h3
      rw [decide_eq_true hn,cond_true,show (i:Int)+1=((i+1:Nat):Int) by omega]
      have hd:(l.drop (i+1)).length≤l.length:=by simp
      by_cases hi1:i+1 < l.length
      ·rw [decide_eq_true (by omega:((i+1:Nat):Int) < l.length)]
       simp only [cond_true,dr _ _ hi1,aB]
       have hc:=u4 (l.drop (i+1))
       rw [List.drop_eq_getElem_cons hi1] at hc
       by_cases a5:l[i+1]=5
       ·rw [a5]
        simp only [beq_self_eq_true,cond_true,aB]
        refine ⟨_,rfl,⟨q,rfl,by dsimp only; omega,by dsimp only; omega,by dsimp only; decide,by dsimp only; decide,?_⟩,by dsimp only; omega⟩
        dsimp only
        rcases hc with ⟨r,e1,e2⟩ | ⟨r,e1,_⟩ | ⟨_,e1⟩
        ·injection e1 with _ er
         rw [← h3,List.drop_eq_getElem_cons hi1,e2,← er]
         rw [u5 _ _ _ (by simp; omega),← List.drop_eq_getElem_cons hi1,List.drop_drop]
         congr 2
        ·injection e1 with er _
         omega
        ·exact absurd a5 (e1 _ _ rfl).1
       ·rw [cX a5]
        simp only [cond_false,aB]
        by_cases a2:l[i+1]=2
        ·rw [a2]
         simp only [beq_self_eq_true,cond_true,aB]
         refine ⟨_,rfl,⟨q,rfl,by dsimp only; omega,by dsimp only; omega,by dsimp only; decide,by dsimp only; decide,?_⟩,by dsimp only; omega⟩
         dsimp only
         rcases hc with ⟨r,e1,e2⟩ | ⟨r,e1,e2⟩ | ⟨_,e1⟩
         ·injection e1 with er _
          omega
         ·injection e1 with _ er
          rw [← h3,List.drop_eq_getElem_cons hi1,e2,← er]
          rw [u5 _ _ _ (by simp; omega),← List.drop_eq_getElem_cons hi1,List.drop_drop]
          congr 2
         ·exact absurd a2 (e1 _ _ rfl).2
        ·rw [cX a2]
         simp only [cond_false,aB]
         refine ⟨_,rfl,⟨q,rfl,by dsimp only; omega,by dsimp only; omega,by dsimp only; omega,by dsimp only; omega,?_⟩,by dsimp only; omega⟩
         dsimp only
         rcases hc with ⟨r,e1,e2⟩ | ⟨r,e1,e2⟩ | ⟨e2,_⟩
         ·injection e1 with er _
          exact absurd er a5
         ·injection e1 with er _
          exact absurd er a2
         ·rw [← h3,List.drop_eq_getElem_cons hi1,e2,← List.drop_eq_getElem_cons hi1,List.drop_drop]
          congr 2
      ·rw [decide_eq_false (by omega: ¬ ((i+1:Nat):Int) < l.length)]
       simp only [cond_false,aB]
       rw [List.drop_eq_nil_of_le (i:=i+1) (by omega),List.drop_nil] at h3
       refine ⟨_,rfl,⟨q,rfl,by dsimp only; omega,by dsimp only; omega,by dsimp only; omega,by dsimp only; omega,?_⟩,by dsimp only; omega⟩
       dsimp only
       rw [List.drop_eq_nil_of_le (by omega)]
       exact h3
     ·rw [if_neg hn] at h3
      rw [decide_eq_false hn,cond_false]
      rw [B5,aB]
      dsimp only
      refine ⟨_,rfl,⟨_,rfl,by dsimp only; omega,by dsimp only; omega,by dsimp only; omega,by dsimp only; omega,?_⟩,by dsimp only; omega⟩
      dsimp only
      rw [show ((i:Int)+1).toNat+((0:Nat):Int).toNat=i+1 by omega,h3]
   ·right
    rw [decide_eq_false (by omega: ¬ (i:Int) < l.length),cond_false]
    rw [List.drop_eq_nil_of_le (by omega),u3] at h3
    exact ⟨_,rfl,by rw [h3]⟩
  ·rintro r rfl
   rfl
end Go.Tw.X
set_option linter.unusedVariables false
set_option linter.unusedSimpArgs false
namespace Go.Tw.X
open Go Go.Tw
def aL (s:aA):aM:=⟨na s.g,s.spot.x,s.spot.y,tst s.spot.aK,s.saved.x,s.saved.y,tst s.saved.aK,s.waiting,s.top,s.aH,s.aW,s.title⟩
structure SJ (W:Nat) (s:aA):Prop where
 gw:s.g.w=W
 gi:GI W s.g.l
 x0:0≤s.spot.x
 x1:s.spot.x < W
 y0:0≤s.spot.y
 y1:s.spot.y < s.g.l.length
 t0:0≤s.top
 tb:s.top≤s.aH
 b1:s.aH < s.g.l.length
structure SI (W:Nat) (s:aA):Prop extends SJ W s where
 wt:s.waiting=true→s.spot.x=W - 1
theorem SJ.ge {W:Nat} {s:aA} (h:SJ W s):s.g=⟨W,s.g.l⟩:=by
 have:=h.gw
 cases hg:s.g
 rw [hg] at this
 simp at this
 rw [this]
def pH (W:Nat) (off:List aE):Prop:=off.length≤1000 ∧ ∀ r∈off,gok W r
theorem ln (W:Nat):pH W []:=⟨by simp,fun r hr=>by cases hr⟩
structure Sim (W:Nat) (p:Option (List aE×aA)) (q:Option (aM×List aQ)) (off:List aE) (s':aA):Prop where
 p:p=some (off,s')
 q:q=some (aL s',off.map told)
 i:SI W s'
 o:pH W off
theorem jW (s:aA):bP s=some (iR s.spot.aK):=by unfold bP; rw [z4]; rfl
theorem pI (s:aA):hU (aL s).s=some (iR s.spot.aK):=u2 _
theorem m2 (g:aU):cQ g=some (g.w,(g.l.length:Int)):=rfl
def mvS (s:aA) (x y:Int):aA:=⟨s.g,⟨max 0 (min x (s.g.w - 1)),max 0 (min y ((s.g.l.length:Int) - 1)),s.spot.aK⟩,s.saved,false,s.top,s.aH,s.aW,s.title⟩
theorem kO (n lo hi:Int):eE n lo hi=some (max lo (min n hi)):=by
 unfold eE
 rw [ey,dv]
section
variable {W : Nat} {s : aA}
theorem ss (h:SJ W s):cW s=some (s.g.w - 1,(s.g.l.length:Int) - 1):=by
 have h1:=h.gi.w2
 have h2:=h.gi.l2
 have h3:=h.gw
 unfold cW
 rw [m2,aB]
 dsimp only
 rw [w64 (by omega) (by omega),w64 (by omega) (by omega)]
theorem ij (h:SJ W s) (x y:Int):bB s x y=some (mvS s x y):=by
 unfold bB
 rw [ss h,aB,kO,aB,kO,aB]
 rfl
theorem fO (h:SJ W s) (x y:Int):cB (aL s) x y=some (aL (mvS s x y)):=by
 have h1:=h.gi.w2
 have h2:=h.gi.l2
 have h3:=h.gw
 have e:((aL s).g.l.length:Int)=s.g.l.length:=by simp [aL,na]
 unfold cB
 rw [e,show (aL s).g.w=s.g.w from rfl,w64 (by omega) (by omega),w64 (by omega) (by omega),ey,ey,dv,dv]
 rfl
theorem kP (h:SJ W s) (x y:Int):SI W (mvS s x y):=by
 have h1:=h.gi.w1
 have h2:=h.gi.l1
 have h3:=h.gw
 exact ⟨⟨h3,h.gi,by simp only [mvS]; omega,by simp only [mvS]; omega,by simp only [mvS]; omega,by simp only [mvS]; omega,h.t0,h.tb,h.b1⟩,fun e=>by cases e⟩
theorem SJ.get (h:SJ W s) {y:Int} (h0:0≤y) (h1:y < s.g.l.length):idx (aL s).g.l y=some (told (iu s.g.l y))∧gok W (iu s.g.l y):=by
 obtain ⟨n,rfl⟩:=Int.eq_ofNat_of_zero_le h0
 have hn:n < s.g.l.length:=by omega
 rw [show (aL s).g.l=s.g.l.map told from rfl,eC,List.getElem?_map,List.getElem?_eq_getElem hn]
 exact ⟨by rw [xd hn]; rfl,by rw [xd hn]; exact h.gi.rs _ (List.getElem_mem hn)⟩
theorem SJ.z7 (h:SJ W s) (y:Int):dM s.g y=some (iu s.g.l y):=by
 rw [h.ge]
 exact DJ _ _ _ h.gi.len
def seS (W:Nat) (s:aA) (y:Int) (r:aE):aA:=⟨⟨W,oA W s.g.l y r⟩,s.spot,s.saved,s.waiting,s.top,s.aH,s.aW,s.title⟩
theorem xv (h:SJ W s) (y:Int) {r:aE} (hr:okR r.cells):SJ W (seS W s y r) :=
 ⟨rfl,zS h.gi y r hr,h.x0,h.x1,h.y0,by simp only [seS,iP]; exact h.y1,h.t0,h.tb,by simp only [seS,iP]; exact h.b1⟩
theorem SJ.z8 (h:SJ W s) (y:Int) {r:aE} (hr:r.cells.length≤1000000):dy s.g y r=some (inG s.g.l y,⟨W,oA W s.g.l y r⟩):=by
 rw [h.ge]
 exact zK W h.gi.w2 _ _ _ hr
theorem SJ.EV (h:SJ W s) (y:Int) {r:aE} (hr:r.cells.length≤1000000):kJ (aL s).g y (told r)=some (⟨W,(oA W s.g.l y r).map told⟩,inG s.g.l y):=by
 rw [show (aL s).g=⟨W,s.g.l.map told⟩ by show na s.g=_; rw [na,h.gw]]
 exact BJ W h.gi.w2 _ _ _ hr (by have:=h.gi.l2; omega)
theorem nM (h:SJ W s) {r:aE} (hr:r.cells.length≤1000000):gK (aL s) (told r)=some (aL (seS W s s.spot.y r)):=by
 unfold gK
 rw [show (aL s).y=s.spot.y from rfl,h.EV _ hr,aB]
 rfl
def upS (W:Nat) (s:aA) (n:Int):aA:=⟨⟨W,upL W s.g.l s.top s.aH n (iR s.spot.aK)⟩,s.spot,s.saved,s.waiting,s.top,s.aH,s.aW,s.title⟩
def upF (s:aA) (n:Int):List aE:=if s.top > 0 then [] else upO s.g.l s.top s.aH n
theorem rm (W:Nat) (l:List aE) (t b n q:Int) (h1:1≤l.length):(upL W l t b n q).length=l.length:=by
 unfold upL
 split
 ·rfl
 ·rename_i h
  obtain ⟨e,e1,e2⟩:=mr l t b h h1
  have e3:l.length=(l.take (loS l t)).length+(rgB l t b).length+(l.drop (loS l b+1)).length:=by rw [← List.length_append,← List.length_append,← e]
  rw [List.length_append,List.length_append,sd]
  omega
theorem tw (W:Nat) (l:List aE) (t b n q:Int) (h1:1≤l.length):(nJ W l t b n q).length=l.length:=by
 unfold nJ
 split
 ·rfl
 ·rename_i h
  obtain ⟨e,e1,e2⟩:=mr l t b h h1
  have e3:l.length=(l.take (loS l t)).length+(rgB l t b).length+(l.drop (loS l b+1)).length:=by rw [← List.length_append,← List.length_append,← e]
  rw [List.length_append,List.length_append,pA]
  omega
theorem CQ (h:SJ W s) (n:Int):SJ W (upS W s n) :=
 ⟨rfl,CN h.gi _ _ _ _,h.x0,h.x1,h.y0,by simp only [upS,rm _ _ _ _ _ _ h.gi.l1]; exact h.y1,h.t0,h.tb,by simp only [upS,rm _ _ _ _ _ _ h.gi.l1]; exact h.b1⟩
theorem z9 (h:SJ W s) (n:Int):pH W (upF s n):=by
 unfold upF
 split
 ·exact ln W
 ·exact ⟨Nat.le_trans (BQ _ _ _ _) h.gi.l2,fun r hr=>h.gi.rs r (BP hr)⟩
theorem Aa (h:SJ W s) (n:Int):eU s n=some (upF s n,upS W s n):=by
 unfold eU upF
 rw [jW,aB]
 have e:dV s.g s.top s.aH n (iR s.spot.aK)=some (upO s.g.l s.top s.aH n,⟨W,upL W s.g.l s.top s.aH n (iR s.spot.aK)⟩):=by
  rw [h.ge]; exact (ua h.gi _ _ _ _).1
 rw [e,aB]
 by_cases ht:s.top > 0
 ·rw [decide_eq_true ht,if_pos ht]; rfl
 ·rw [decide_eq_false ht,if_neg ht]; rfl
theorem su (h:SJ W s):(aL s).g=⟨W,s.g.l.map told⟩:=by show na s.g=_; rw [na,h.gw]
theorem tz (h:SJ W s) (n:Int):jT (aL s) n=some (aL (upS W s n),(upF s n).map told):=by
 unfold jT upF
 rw [pI,aB,su h,show (aL s).top=s.top from rfl,show (aL s).aH=s.aH from rfl,(ua h.gi _ _ _ _).2,aB]
 by_cases ht:s.top > 0
 ·rw [decide_eq_true ht,if_pos ht]; rfl
 ·rw [decide_eq_false ht,if_neg ht]; rfl
def nwS (s:aA):aA:=⟨s.g,s.spot,s.saved,false,s.top,s.aH,s.aW,s.title⟩
theorem jg (h:SJ W s):SJ W (nwS s):=⟨h.gw,h.gi,h.x0,h.x1,h.y0,h.y1,h.t0,h.tb,h.b1⟩
def liS (W:Nat) (s:aA):aA:=if s.spot.y=s.aH then upS W (nwS s) 1 else mvS (nwS s) s.spot.x (s.spot.y+1)
def liF (s:aA):List aE:=if s.spot.y=s.aH then upF (nwS s) 1 else []
theorem eS (h:SJ W s):Sim W (cD s) (eY (aL s)) (liF s) (liS W s):=by
 have h1:=h.y1
 have h2:=h.gi.l2
 have h3:=h.y0
 by_cases hy:s.spot.y=s.aH
 ·refine ⟨?_,?_,?_,?_⟩
  ·unfold cD liF liS
   rw [iS hy,cond_true,if_pos hy,if_pos hy,← nwS,Aa (jg h)]; rfl
  ·unfold eY liF liS
   rw [show ((aL s).y == (aL s).aH)=true from iS hy,cond_true,if_pos hy,if_pos hy]
   have e:=tz (jg h) 1
   rw [show (aM.mk (aL s).g (aL s).x (aL s).y (aL s).s (aL s).sX (aL s).sY (aL s).sS false (aL s).top (aL s).aH (aL s).aW (aL s).title)=aL (nwS s) from rfl,e]; rfl
  ·unfold liS; rw [if_pos hy]; exact ⟨CQ (jg h) 1,fun e=>by cases e⟩
  ·unfold liF; rw [if_pos hy]; exact z9 (jg h) 1
 ·refine ⟨?_,?_,?_,?_⟩
  ·unfold cD liF liS
   rw [cX hy,cond_false,if_neg hy,if_neg hy,w64 (by omega) (by omega),← nwS,ij (jg h)]; rfl
  ·unfold eY liF liS
   rw [show ((aL s).y == (aL s).aH)=false from cX hy,cond_false,if_neg hy,if_neg hy,show (aL s).y=s.spot.y from rfl,w64 (by omega) (by omega)]
   rw [show (aM.mk (aL s).g (aL s).x s.spot.y (aL s).s (aL s).sX (aL s).sY (aL s).sS false (aL s).top (aL s).aH (aL s).aW (aL s).title)=aL (nwS s) from rfl,show (aL s).x=s.spot.x from rfl,fO (jg h)]; rfl
  ·unfold liS; rw [if_neg hy]; exact kP (jg h) _ _
  ·unfold liF; rw [if_neg hy]; exact ln W
end
end Go.Tw.X
set_option linter.unusedVariables false
set_option linter.unusedSimpArgs false
namespace Go.Tw.X
open Go Go.Tw
section
variable {W : Nat} {s : aA}
theorem gok.le {W:Nat} {r:aE} (h:gok W r) (hW:W≤1000):r.cells.length≤1000:=by rw [h.1]; exact hW
theorem Ab {l:List aG} (h:okR l) (q:Int):okR (lR l q):=px h _ (show rok 32 from ⟨by decide,by decide⟩)
theorem yC (l:List aG) (q:Int):(lR l q).length=l.length:=by simp [lR]
def r1S (s:aA):aE:=⟨(iu s.g.l s.spot.y).cells,true⟩
def r2S (s:aA):aE:=⟨fD 0 (lR (iu s.g.l s.spot.y).cells (iR s.spot.aK)),true⟩
def r3S (s:aA) (r:Int):aE:=⟨fD 0 (qf (iu s.g.l s.spot.y).cells s.spot.x r (iR s.spot.aK)),false⟩
theorem SJ.row (h:SJ W s):gok W (iu s.g.l s.spot.y):=(h.get h.y0 h.y1).2
theorem CR (h:SJ W s):gok W (r1S s):=⟨h.row.1,h.row.2⟩
theorem CS (h:SJ W s):gok W (r2S s):=⟨by simp only [r2S,ic,yC]; exact h.row.1,mj _ _ (Ab h.row.2 _)⟩
theorem EW (h:SJ W s) {r:Int} (hr:rok r):gok W (r3S s r):=⟨by simp only [r3S,ic,qM]; exact h.row.1,mj _ _ (BF h.row.2 _ _ hr)⟩
theorem Ad (h:SJ W s):(r1S s).cells.length≤1000000:=by have:=(CR h).le h.gi.w2; omega
theorem Ae (h:SJ W s):(r2S s).cells.length≤1000000:=by have:=(CS h).le h.gi.w2; omega
theorem lT (h:SJ W s):(iu s.g.l s.spot.y).cells.length≤1000:=h.row.le h.gi.w2
theorem Af (h:SJ W s) (r:Int):(r3S s r).cells.length≤1000000:=by have:=lT h; simp only [r3S,ic,qM]; omega
theorem Ag (h:SJ W s):cy s=some (seS W s s.spot.y (r1S s)):=by
 unfold cy
 rw [h.z7,aB,show fA (iu s.g.l s.spot.y)=some (r1S s) from rfl,aB,h.z8 _ (Ad h),aB]
 rfl
theorem Ah (h:SJ W s):cz s=some (seS W s s.spot.y (r2S s)):=by
 unfold cz fB
 have hl:=lT h
 rw [h.z7,aB,jW,aB,fill_eq _ _ (by omega),aB,aB]
 rw [← r2S,h.z8 _ (Ae h),aB]
 rfl
theorem SJ.xr (h:SJ W s): -9223372036854775808≤s.spot.x∧s.spot.x≤9223372036854775807:=by
 have h1:=h.x0
 have h2:=h.x1
 have h3:=h.gi.w2
 omega
theorem Ai (h:SJ W s) (r:Int):cJ s r=some (seS W s s.spot.y (r3S s r)):=by
 unfold cJ fC
 have hl:=lT h
 rw [h.z7,aB,jW,aB,put_eq _ _ _ _ (by omega) h.xr.1 h.xr.2,aB,aB]
 rw [← r3S,h.z8 _ (Af h r),aB]
 rfl
theorem DU (h:SJ W s):jR (told (iu s.g.l s.spot.y)) (iR s.spot.aK)=some (told (r2S s)):=by
 have hl:=lT h
 have:=zG (iu s.g.l s.spot.y).cells (iu s.g.l s.spot.y).wrapped (iR s.spot.aK) (by omega)
 rw [told,this]
 rfl
theorem DV (h:SJ W s) {r:Int} (hr:rok r):lQ (told (iu s.g.l s.spot.y)) s.spot.x r (iR s.spot.aK)=some (told (r3S s r)):=by
 have hl:=lT h
 have:=BE (iu s.g.l s.spot.y).cells (iu s.g.l s.spot.y).wrapped s.spot.x r (iR s.spot.aK) (by omega) h.xr.1 h.xr.2 hr.1 hr.2
 rw [told,this]
 rfl
def xS (s:aA) (x:Int):aA:=⟨s.g,⟨x,s.spot.y,s.spot.aK⟩,s.saved,s.waiting,s.top,s.aH,s.aW,s.title⟩
theorem u6 (h:SJ W s) {x:Int} (h0:0≤x) (h1:x < W):SJ W (xS s x):=⟨h.gw,h.gi,h0,h1,h.y0,h.y1,h.t0,h.tb,h.b1⟩
theorem w0 (h:SJ W s):(0:Int) < W:=by have:=h.gi.w1; omega
theorem u7 (s:aA):(liS W s).spot.aK=s.spot.aK:=by unfold liS; split <;> rfl
theorem FT (h:SJ W s) (hx:s.spot.x=0):(liS W s).spot.x=0:=by
 have h1:=h.gi.w1
 have h2:=h.gw
 unfold liS
 split
 ·exact hx
 ·simp only [mvS,nwS,hx]
  omega
def aS (W:Nat) (s:aA):aA:=if s.waiting=true∧s.aW=true then liS W (xS (seS W s s.spot.y (r1S s)) 0) else s
def aF (W:Nat) (s:aA):List aE:=if s.waiting=true∧s.aW=true then liF (xS (seS W s s.spot.y (r1S s)) 0) else []
theorem xw (h:SJ W s):SJ W (xS (seS W s s.spot.y (r1S s)) 0):=u6 (xv h _ (CR h).2) (Int.le_refl 0) (w0 h)
theorem B9 (h:SJ W s):SJ W (aS W s):=by
 unfold aS
 split
 ·exact (eS (xw h)).i.toSJ
 ·exact h
theorem Aj (h:SJ W s):pH W (aF W s):=by
 unfold aF
 split
 ·exact (eS (xw h)).o
 ·exact ln W
theorem Ca (s:aA):(aS W s).spot.aK=s.spot.aK:=by
 unfold aS
 split
 ·rw [u7]; rfl
 ·rfl
def bS (W:Nat) (s:aA) (n:Int):aA:=if s.spot.x+n > W then (if s.aW=true then liS W (xS (seS W s s.spot.y (r2S s)) 0) else xS s (s.spot.x - 1)) else s
def bF (W:Nat) (s:aA) (n:Int):List aE:=if s.spot.x+n > W then (if s.aW=true then liF (xS (seS W s s.spot.y (r2S s)) 0) else []) else []
theorem u9 (h:SJ W s):SJ W (xS (seS W s s.spot.y (r2S s)) 0):=u6 (xv h _ (CS h).2) (Int.le_refl 0) (w0 h)
theorem DW (h:SJ W s) {n:Int} (hn:n=1∨n=2) (hw:n≤W):SJ W (bS W s n)∧(bS W s n).spot.x+n≤W∧(bS W s n).spot.aK=s.spot.aK:=by
 have h1:=h.x1
 unfold bS
 split
 ·rename_i hx
  split
  ·refine ⟨(eS (u9 h)).i.toSJ,?_,by rw [u7]; rfl⟩
   rw [FT (u9 h) rfl]
   omega
  ·refine ⟨u6 h (by omega) (by omega),?_,rfl⟩
   simp only [xS]
   omega
 ·exact ⟨h,by omega,rfl⟩
theorem EX (h:SJ W s) (n:Int):pH W (bF W s n):=by
 unfold bF
 split
 ·split
  ·exact (eS (u9 h)).o
  ·exact ln W
 ·exact ln W
def cS (W:Nat) (s:aA) (r n:Int):aA:=⟨⟨W,oA W s.g.l s.spot.y (r3S s r)⟩,⟨min (s.spot.x+n) (W - 1),s.spot.y,s.spot.aK⟩,s.saved,s.spot.x+n == W,s.top,s.aH,s.aW,s.title⟩
def prS (W:Nat) (s:aA) (r:Int):aA:=if ofS r=0∨ofS r > W then s else cS W (bS W (aS W s) (ofS r)) r (ofS r)
def prF (W:Nat) (s:aA) (r:Int):List aE:=if ofS r=0∨ofS r > W then [] else aF W s++bF W (aS W s) (ofS r)
theorem ug {a b:Nat} (ha:a≤1000000) (hb:b≤1000000):chk (dg a b 32)=some ():=bI (by omega)
theorem pH.l {off:List aE} (h:pH W off):off.length≤1000000:=by have:=h.1; omega
theorem FU (h:SJ W s) {n r:Int} (hn:n=1∨n=2) (hx:s.spot.x+n≤W) (hr:rok r):SI W (cS W s r n):=by
 have h1:=h.x0
 have h2:=h.gi.w1
 refine ⟨⟨rfl,zS h.gi _ _ (EW h hr).2,?_,?_,h.y0,?_,h.t0,h.tb,?_⟩,?_⟩
 ·simp only [cS]; omega
 ·simp only [cS]; omega
 ·simp only [cS,iP]; exact h.y1
 ·simp only [cS,iP]; exact h.b1
 ·intro e
  simp only [cS,beq_iff_eq] at e ⊢
  omega
theorem Cb (h:SJ W s) (r:Int):eN s r=some (prF W s r,prS W s r):=by
 have hw2:=h.gi.w2
 unfold eN prF prS
 rw [of_eq,aB,m2,aB,h.gw]
 dsimp only
 have e0:((bif (ofS r == 0) then some true else some (decide (ofS r > (W:Int)))):Option Bool)=some (decide (ofS r=0∨ofS r > W)):=by
  by_cases h1:ofS r=0
  ·rw [iS h1,cond_true,decide_eq_true (.inl h1)]
  ·rw [cX h1,cond_false]
   congr 1
   exact decide_eq_decide.2 ⟨.inr,fun h=>h.resolve_left h1⟩
 rw [e0,aB]
 by_cases hc:ofS r=0∨ofS r > W
 ·rw [decide_eq_true hc,cond_true,if_pos hc,if_pos hc]
 ·rw [decide_eq_false hc,cond_false,if_neg hc,if_neg hc]
  have hn:ofS r=1∨ofS r=2:=by rcases mi r with h | h | h <;> omega
  generalize hnn:ofS r=n at hc hn ⊢
  have ea:((bif s.waiting then some s.aW else some false):Option Bool)=some (decide (s.waiting=true∧s.aW=true)):=by cases s.waiting <;> cases s.aW <;> rfl
  rw [ea,aB]
  have eA:((bif decide (s.waiting=true∧s.aW=true) then (Option.bind (cy s) fun a=>(Option.bind (cD (aA.mk a.g (cZ.mk 0 a.spot.y a.spot.aK) a.saved a.waiting a.top a.aH a.aW a.title)) fun c=>(Option.bind (chk (dg ([]:List aE).length c.1.length 32)) fun _=>some ((([]:List aE)++c.1),c.2.g,c.2)))) else some ([],s.g,s)):Option ((List aE)×aU×aA))=some (aF W s,(aS W s).g,aS W s):=by
   unfold aF aS
   by_cases hb:s.waiting=true∧s.aW=true
   ·rw [decide_eq_true hb,cond_true,if_pos hb,if_pos hb,Ag h,aB]
    have e1:=eS (xw h)
    rw [show (aA.mk (seS W s s.spot.y (r1S s)).g (cZ.mk 0 (seS W s s.spot.y (r1S s)).spot.y (seS W s s.spot.y (r1S s)).spot.aK) (seS W s s.spot.y (r1S s)).saved (seS W s s.spot.y (r1S s)).waiting (seS W s s.spot.y (r1S s)).top (seS W s s.spot.y (r1S s)).aH (seS W s s.spot.y (r1S s)).aW (seS W s s.spot.y (r1S s)).title)=xS (seS W s s.spot.y (r1S s)) 0 from rfl,e1.p,aB]
    dsimp only
    rw [ug (by simp) e1.o.l,aB,List.nil_append]
   ·rw [decide_eq_false hb,cond_false,if_neg hb,if_neg hb]
  rw [eA,aB]
  dsimp only
  have hA:=B9 h
  have hAx:=hA.x1
  have hA0:=hA.x0
  have hFo:=(Aj h).l
  generalize hs1:aS W s=s1 at *
  generalize aF W s=o1 at *
  rw [w64 (x:=s1.spot.x+n) (by omega) (by omega)]
  have hB:=DW hA hn (by omega:n≤W)
  have eB: ∀ g:aU,g=s1.g→((bif (decide (s1.spot.x+n > (W:Int))) then (bif s1.aW then (Option.bind (cz (aA.mk g s1.spot s1.saved s1.waiting s1.top s1.aH s1.aW s1.title)) fun b=>(Option.bind (cD (aA.mk b.g (cZ.mk 0 b.spot.y b.spot.aK) b.saved b.waiting b.top b.aH b.aW b.title)) fun d=>(Option.bind (chk (dg o1.length d.1.length 32)) fun _=>some ((o1++d.1),d.2.g,d.2)))) else some (o1,g,(aA.mk g (cZ.mk (IntKind.i64.wrap (s1.spot.x - 1)) s1.spot.y s1.spot.aK) s1.saved s1.waiting s1.top s1.aH s1.aW s1.title))) else some (o1,g,(aA.mk g s1.spot s1.saved s1.waiting s1.top s1.aH s1.aW s1.title))):Option ((List aE)×aU×aA))=some (o1++bF W s1 n,(bS W s1 n).g,bS W s1 n):=by
   rintro g rfl
   unfold bF bS
   by_cases hx:s1.spot.x+n > W
   ·rw [decide_eq_true hx,cond_true,if_pos hx,if_pos hx]
    cases hwr:s1.aW with
    | true =>
     rw [cond_true,if_pos rfl,if_pos rfl]
     have e2:(aA.mk s1.g s1.spot s1.saved s1.waiting s1.top s1.aH true s1.title)=s1:=by rw [← hwr]
     rw [e2,Ah hA,aB]
     have e1:=eS (u9 hA)
     rw [show (aA.mk (seS W s1 s1.spot.y (r2S s1)).g (cZ.mk 0 (seS W s1 s1.spot.y (r2S s1)).spot.y (seS W s1 s1.spot.y (r2S s1)).spot.aK) (seS W s1 s1.spot.y (r2S s1)).saved (seS W s1 s1.spot.y (r2S s1)).waiting (seS W s1 s1.spot.y (r2S s1)).top (seS W s1 s1.spot.y (r2S s1)).aH (seS W s1 s1.spot.y (r2S s1)).aW (seS W s1 s1.spot.y (r2S s1)).title)=xS (seS W s1 s1.spot.y (r2S s1)) 0 from rfl,e1.p,aB]
     dsimp only
     rw [ug hFo e1.o.l,aB]
    | false =>
     rw [cond_false,if_neg (by simp),if_neg (by simp),w64 (by omega) (by omega),List.append_nil]
     simp only [xS,hwr]
   ·rw [decide_eq_false hx,cond_false,if_neg hx,if_neg hx,List.append_nil]
  rw [eB _ rfl,aB]
  dsimp only
  obtain ⟨hB1,hB2,hB3⟩:=hB
  have hBx:=hB1.x0
  generalize bS W s1 n=s2 at *
  generalize o1++bF W s1 n=o2
  rw [show (aA.mk s2.g s2.spot s2.saved s2.waiting s2.top s2.aH s2.aW s2.title)=s2 from rfl,Ai hB1,aB]
  unfold cS
  simp only [seS]
  rw [w64 (by omega) (by omega),w64 (by omega) (by omega),dv]
end
end Go.Tw.X
set_option linter.unusedVariables false
set_option linter.unusedSimpArgs false
namespace Go.Tw.X
open Go Go.Tw
section
variable {W : Nat} {s : aA}
theorem SJ.Cc (h:SJ W s):idx (aL s).g.l (aL s).y=some (told (iu s.g.l s.spot.y)):=(h.get h.y0 h.y1).1
theorem DX (h:SJ W s) {r:Int} (hr:rok r):mV (aL s) r=some (aL (prS W s r),(prF W s r).map told):=by
 have hw2:=h.gi.w2
 unfold mV prF prS
 rw [zH r hr.1 hr.2,aB,show (aL s).g.w=(W:Int) from h.gw]
 have e0:((bif (ofS r == 0) then some true else some (decide (ofS r > (W:Int)))):Option Bool)=some (decide (ofS r=0∨ofS r > W)):=by
  by_cases h1:ofS r=0
  ·rw [iS h1,cond_true,decide_eq_true (.inl h1)]
  ·rw [cX h1,cond_false]
   congr 1
   exact decide_eq_decide.2 ⟨.inr,fun h=>h.resolve_left h1⟩
 rw [e0,aB]
 by_cases hc:ofS r=0∨ofS r > W
 ·rw [decide_eq_true hc,cond_true,if_pos hc,if_pos hc]; rfl
 ·rw [decide_eq_false hc,cond_false,if_neg hc,if_neg hc,pI,aB]
  have hn:ofS r=1∨ofS r=2:=by rcases mi r with h | h | h <;> omega
  generalize hnn:ofS r=n at hc hn ⊢
  have ea:((bif (aL s).waiting then some (aL s).aW else some false):Option Bool)=some (decide (s.waiting=true∧s.aW=true)):=by
   show ((bif s.waiting then some s.aW else some false):Option Bool)=_
   cases s.waiting <;> cases s.aW <;> rfl
  rw [ea,aB]
  have eA:((bif decide (s.waiting=true∧s.aW=true) then (Option.bind (idx (aL s).g.l (aL s).y) fun e=>(Option.bind (gK (aL s) (aQ.mk e.l true)) fun a=>(Option.bind (eY (aM.mk a.g 0 a.y a.s a.sX a.sY a.sS a.waiting a.top a.aH a.aW a.title)) fun c=>(Option.bind (chk (dg ([]:List aQ).length c.2.length 32)) fun _=>some ((([]:List aQ)++c.2),c.1))))) else some (([]:List aQ),aL s)):Option ((List aQ)×aM))=some ((aF W s).map told,aL (aS W s)):=by
   unfold aF aS
   by_cases hb:s.waiting=true∧s.aW=true
   ·rw [decide_eq_true hb,cond_true,if_pos hb,if_pos hb,h.Cc,aB]
    rw [show (aQ.mk (told (iu s.g.l s.spot.y)).l true)=told (r1S s) from rfl,nM h (Ad h),aB]
    have e1:=eS (xw h)
    have e2:=e1.q
    rw [show aL (xS (seS W s s.spot.y (r1S s)) 0)=(aM.mk (aL (seS W s s.spot.y (r1S s))).g 0 (aL (seS W s s.spot.y (r1S s))).y (aL (seS W s s.spot.y (r1S s))).s (aL (seS W s s.spot.y (r1S s))).sX (aL (seS W s s.spot.y (r1S s))).sY (aL (seS W s s.spot.y (r1S s))).sS (aL (seS W s s.spot.y (r1S s))).waiting (aL (seS W s s.spot.y (r1S s))).top (aL (seS W s s.spot.y (r1S s))).aH (aL (seS W s s.spot.y (r1S s))).aW (aL (seS W s s.spot.y (r1S s))).title) from rfl] at e2
    rw [e2,aB]
    dsimp only
    rw [ug (by simp) (by rw [List.length_map]; exact e1.o.l),aB,List.nil_append]
   ·rw [decide_eq_false hb,cond_false,if_neg hb,if_neg hb]; rfl
  rw [eA,aB]
  dsimp only
  have hA:=B9 h
  have hst:(aS W s).spot.aK=s.spot.aK:=Ca s
  have hAx:=hA.x1
  have hA0:=hA.x0
  have hFo:=(Aj h).l
  generalize hs1:aS W s=s1 at *
  generalize aF W s=o1 at *
  have hB:=DW hA hn (by omega:n≤W)
  have eb:((bif (n == 2) then some ((aL s1).x == (IntKind.i64.wrap ((aL s1).g.w - 1))) else some false):Option Bool)=some (decide (s1.spot.x+n > W)):=by
   rw [show (aL s1).g.w=(W:Int) from hA.gw,show (aL s1).x=s1.spot.x from rfl,w64 (by omega) (by omega)]
   by_cases h2:n=2
   ·rw [iS h2,cond_true]
    by_cases hx:s1.spot.x=(W:Int) - 1
    ·rw [iS hx,decide_eq_true (by omega)]
    ·rw [cX hx,decide_eq_false (by omega)]
   ·rw [cX h2,cond_false,decide_eq_false (by omega)]
  rw [eb,aB]
  have eB:((bif decide (s1.spot.x+n > (W:Int)) then (bif (aL s1).aW then (Option.bind (idx (aL s1).g.l (aL s1).y) fun f=>(Option.bind (jR f (iR s.spot.aK)) fun i=>(Option.bind (gK (aL s1) i) fun b=>(Option.bind (eY (aM.mk b.g 0 b.y b.s b.sX b.sY b.sS b.waiting b.top b.aH b.aW b.title)) fun d=>(Option.bind (chk (dg (o1.map told).length d.2.length 32)) fun _=>some ((o1.map told++d.2),d.1)))))) else some (o1.map told,(aM.mk (aL s1).g (IntKind.i64.wrap ((aL s1).x - 1)) (aL s1).y (aL s1).s (aL s1).sX (aL s1).sY (aL s1).sS (aL s1).waiting (aL s1).top (aL s1).aH (aL s1).aW (aL s1).title))) else some (o1.map told,aL s1)):Option ((List aQ)×aM))=some ((o1++bF W s1 n).map told,aL (bS W s1 n)):=by
   unfold bF bS
   by_cases hx:s1.spot.x+n > W
   ·rw [decide_eq_true hx,cond_true,if_pos hx,if_pos hx,show (aL s1).aW=s1.aW from rfl]
    cases hwr:s1.aW with
    | true =>
     rw [cond_true,if_pos rfl,if_pos rfl,hA.Cc,aB,← hst,DU hA,aB,nM hA (Ae hA),aB]
     have e1:=eS (u9 hA)
     have e2:=e1.q
     rw [show aL (xS (seS W s1 s1.spot.y (r2S s1)) 0)=(aM.mk (aL (seS W s1 s1.spot.y (r2S s1))).g 0 (aL (seS W s1 s1.spot.y (r2S s1))).y (aL (seS W s1 s1.spot.y (r2S s1))).s (aL (seS W s1 s1.spot.y (r2S s1))).sX (aL (seS W s1 s1.spot.y (r2S s1))).sY (aL (seS W s1 s1.spot.y (r2S s1))).sS (aL (seS W s1 s1.spot.y (r2S s1))).waiting (aL (seS W s1 s1.spot.y (r2S s1))).top (aL (seS W s1 s1.spot.y (r2S s1))).aH (aL (seS W s1 s1.spot.y (r2S s1))).aW (aL (seS W s1 s1.spot.y (r2S s1))).title) from rfl] at e2
     rw [e2,aB]
     dsimp only
     rw [ug (by rw [List.length_map]; exact hFo) (by rw [List.length_map]; exact e1.o.l),aB,List.map_append]
    | false =>
     rw [cond_false,if_neg (by simp),if_neg (by simp),show (aL s1).x=s1.spot.x from rfl,w64 (by omega) (by omega),List.append_nil]
     simp only [xS,hwr,aL]
   ·rw [decide_eq_false hx,cond_false,if_neg hx,if_neg hx,List.append_nil]
  rw [eB,aB]
  dsimp only
  obtain ⟨hB1,hB2,hB3⟩:=hB
  have hBx:=hB1.x0
  have hst2:(bS W s1 n).spot.aK=s.spot.aK:=by rw [hB3,hst]
  generalize bS W s1 n=s2 at *
  generalize o1++bF W s1 n=o2
  rw [hB1.Cc,aB,show (aL s2).x=s2.spot.x from rfl,← hst2,DV hB1 hr,aB,nM hB1 (Af hB1 r),aB]
  rw [show (aL (seS W s2 s2.spot.y (r3S s2 r))).x=s2.spot.x from rfl,show (aL (seS W s2 s2.spot.y (r3S s2 r))).g.w=(W:Int) from rfl,w64 (by omega) (by omega),w64 (by omega) (by omega)]
  unfold cS
  by_cases hx:s2.spot.x+n=W
  ·rw [iS hx,cond_true,aB,show min (s2.spot.x+n) ((W:Int) - 1)=s2.spot.x+n - 1 by omega]; rfl
  ·rw [cX hx,cond_false,aB,show min (s2.spot.x+n) ((W:Int) - 1)=s2.spot.x+n by omega]; rfl
theorem EY (h:SI W s) {r:Int} (hr:rok r):SI W (prS W s r):=by
 unfold prS
 split
 ·exact h
 ·rename_i hc
  have hn:ofS r=1∨ofS r=2:=by rcases mi r with h | h | h <;> omega
  have hB:=DW (B9 h.toSJ) hn (by omega)
  exact FU hB.1 hn hB.2.1 hr
theorem DY (h:SJ W s) {r:Int}:(prF W s r).length≤2000 ∧ ∀ q∈prF W s r,gok W q:=by
 unfold prF
 split
 ·exact ⟨by simp,fun r hr=>by cases hr⟩
 ·have h1:=Aj h
  have h2:=EX (B9 h) (ofS r)
  refine ⟨by rw [List.length_append]; have:=h1.1; have:=h2.1; omega,fun q hq=> ?_⟩
  rcases List.mem_append.1 hq with hq | hq
  ·exact h1.2 q hq
  ·exact h2.2 q hq
end
end Go.Tw.X
set_option linter.unusedVariables false
set_option linter.unusedSimpArgs false
namespace Go.Tw.X
open Go Go.Tw
def atS (l:List Int) (i:Nat) (d:Int):Int:=match l[i]? with
 | some n=>if n≤0 then d else min n 9999
 | none=>d
theorem tB (a:aX) (i:Nat) (d:Int):du a (i:Int) d=some (atS a.aY i d):=by
 unfold du atS
 by_cases hi:i < a.aY.length
 ·rw [decide_eq_false (by omega: ¬ (i:Int)≥(a.aY.length:Int)),cond_false]
  simp only [dr _ _ hi,aB,List.getElem?_eq_getElem hi]
  by_cases h:a.aY[i]≤0
  ·rw [decide_eq_true h,cond_true,if_pos h]
  ·rw [decide_eq_false h,cond_false,if_neg h,dv]
 ·rw [decide_eq_true (by omega:(i:Int)≥(a.aY.length:Int)),cond_true,aB,cond_true,List.getElem?_eq_none (by omega)]
theorem mw (l:List Int) (i:Nat) (d:Int):dJ l (i:Int) d=some (atS l i d):=by
 unfold dJ atS
 by_cases hi:i < l.length
 ·rw [decide_eq_true (by omega:(i:Int) < (l.length:Int)),cond_true]
  simp only [dr _ _ hi,aB,List.getElem?_eq_getElem hi]
  by_cases h:l[i]≤0
  ·rw [decide_eq_false (by omega),cond_false,if_pos h]
  ·rw [decide_eq_true (by omega),cond_true,if_neg h,dv]
 ·rw [decide_eq_false (by omega: ¬ (i:Int) < (l.length:Int)),cond_false,aB,cond_false,List.getElem?_eq_none (by omega)]
theorem qn (l:List Int) (i:Nat) {d:Int} (h0:0≤d) (h1:d≤9999):0≤atS l i d∧atS l i d≤9999∧(1≤d→1≤atS l i d):=by
 unfold atS
 split
 ·split <;> omega
 ·omega
section
variable {W : Nat} {s : aA}
def dnS (W:Nat) (s:aA) (t b n:Int):aA:=⟨⟨W,nJ W s.g.l t b n (iR s.spot.aK)⟩,s.spot,s.saved,s.waiting,s.top,s.aH,s.aW,s.title⟩
def upT (W:Nat) (s:aA) (t b n:Int):aA:=⟨⟨W,upL W s.g.l t b n (iR s.spot.aK)⟩,s.spot,s.saved,s.waiting,s.top,s.aH,s.aW,s.title⟩
theorem va (h:SJ W s) (t b n:Int):SJ W (dnS W s t b n) :=
 ⟨rfl,BO h.gi _ _ _ _,h.x0,h.x1,h.y0,by simp only [dnS,tw _ _ _ _ _ _ h.gi.l1]; exact h.y1,h.t0,h.tb,by simp only [dnS,tw _ _ _ _ _ _ h.gi.l1]; exact h.b1⟩
theorem wh (h:SJ W s) (t b n:Int):SJ W (upT W s t b n) :=
 ⟨rfl,CN h.gi _ _ _ _,h.x0,h.x1,h.y0,by simp only [upT,rm _ _ _ _ _ _ h.gi.l1]; exact h.y1,h.t0,h.tb,by simp only [upT,rm _ _ _ _ _ _ h.gi.l1]; exact h.b1⟩
theorem sw (h:SJ W s) (t b n:Int):dk s.g t b n (iR s.spot.aK)=some (oN s.g.l t b n,(dnS W s t b n).g):=by
 rw [h.ge]; exact (uQ h.gi _ _ _ _).1
theorem sx (h:SJ W s) (t b n:Int):dh (aL s).g false t b n (iR s.spot.aK)=some ((aL (dnS W s t b n)).g,(oN s.g.l t b n).map told):=by
 rw [su h]; exact (uQ h.gi _ _ _ _).2
theorem DZ (h:SJ W s) (t b n:Int):dV s.g t b n (iR s.spot.aK)=some (upO s.g.l t b n,(upT W s t b n).g):=by
 rw [h.ge]; exact (ua h.gi _ _ _ _).1
theorem Cd (h:SJ W s) (t b n:Int):dh (aL s).g true t b n (iR s.spot.aK)=some ((aL (upT W s t b n)).g,(upO s.g.l t b n).map told):=by
 rw [su h]; exact (ua h.gi _ _ _ _).2
def baS (W:Nat) (s:aA):aA:=if s.spot.y=s.top then dnS W (nwS s) s.top s.aH 1 else mvS (nwS s) s.spot.x (s.spot.y - 1)
theorem EZ (h:SJ W s):SI W (baS W s):=by
 unfold baS
 split
 ·exact ⟨va (jg h) _ _ _,fun e=>by cases e⟩
 ·exact kP (jg h) _ _
theorem yr (h:SJ W s):0≤s.spot.y∧s.spot.y < 1000∧0≤s.spot.x∧s.spot.x < 1000:=by
 have h1:=h.gi.w2
 have h2:=h.gi.l2
 have h3:=h.y1
 have h4:=h.x1
 have h5:=h.y0
 have h6:=h.x0
 omega
theorem back_eq (h:SJ W s):fq s=some (baS W s):=by
 have hy:=yr h
 unfold fq baS
 rw [← nwS]
 by_cases c:s.spot.y=s.top
 ·rw [iS c,cond_true,if_pos c,jW,aB]
  have e:=sw (jg h) s.top s.aH 1
  rw [show (nwS s).g=s.g from rfl] at e
  rw [e,aB]
  rfl
 ·rw [cX c,cond_false,if_neg c,w64 (by omega) (by omega),ij (jg h),aB]
theorem wj (h:SJ W s):((aL s).g.l.length:Int)=s.g.l.length:=by simp [aL,na]
def clS (s:aA) (n:Int):aA:=mvS s s.spot.x (max (if s.spot.y≥s.top∧n < 0 then s.top else 0) (min (s.spot.y+n) (if s.spot.y≤s.aH∧n > 0 then s.aH else (s.g.l.length:Int) - 1)))
theorem rn {α:Type} (p:Prop) [Decidable p] (x y:α):((bif decide p then some x else some y):Option α)=some (if p then x else y):=by
 by_cases h:p <;> simp [h]
theorem Ak (h:SJ W s) {n:Int} (h0: -9999≤n) (h1:n≤9999):dS s n=some (clS s n):=by
 have hy:=yr h
 unfold dS clS
 rw [ss h,aB]
 rw [show ((bif (decide (s.spot.y≥s.top)) then some (decide (n < 0)) else some false):Option Bool)=_ from tX _ _,aB,rn,aB]
 rw [show ((bif (decide (s.spot.y≤s.aH)) then some (decide (n > 0)) else some false):Option Bool)=_ from tX _ _,aB]
 dsimp only
 rw [rn,aB,w64 (by omega) (by omega),kO,aB,ij h,aB]
def erR (s:aA) (y a b:Int):aE:=⟨fD 0 (ie a b (iR s.spot.aK) 0 (iu s.g.l y).cells),false⟩
def erS (W:Nat) (s:aA) (y a b:Int):aA:=seS W s y (erR s y a b)
theorem wk (h:SJ W s) {y:Int} (h0:0≤y) (h1:y < s.g.l.length) (a b:Int):gok W (erR s y a b):=by
 have hg:=(h.get h0 h1).2
 exact ⟨by simp only [erR,ic,jk]; exact hg.1,mj _ _ (qh _ _ _ _ hg.2)⟩
theorem CU (h:SJ W s) {y:Int} (h0:0≤y) (h1:y < s.g.l.length) (a b:Int):SJ W (erS W s y a b):=xv h _ (wk h h0 h1 a b).2
theorem og (h:SJ W s) {y:Int} (h0:0≤y) (h1:y < s.g.l.length) (a b:Int):df s y a b=some (erS W s y a b):=by
 have hg:=(h.get h0 h1).2.le h.gi.w2
 have hr:=(wk h h0 h1 a b).le h.gi.w2
 unfold df
 rw [h.z7,aB,jW,aB,erase_eq _ _ _ _ (by omega),aB,← erR,h.z8 _ (by omega),aB]
 rfl
theorem o7 (h:SJ W s) {y:Int} (h0:0≤y) (h1:y < s.g.l.length) (a b:Int):iC (aL s) y a b=some (aL (erS W s y a b)):=by
 have hg:=(h.get h0 h1).2.le h.gi.w2
 have hr:=(wk h h0 h1 a b).le h.gi.w2
 unfold iC
 have e:ky (told (iu s.g.l y)) a b (iR s.spot.aK)=some (told (erR s y a b)):=by
  rw [told,yp (iu s.g.l y).cells (iu s.g.l y).wrapped a b _ (by omega)]; rfl
 rw [(h.get h0 h1).1,aB,pI,aB,e,aB,h.EV _ (by omega),aB]
 rfl
def paA (s:aA) (n:Int):Int:=if n=0 then s.spot.x else 0
def paB (W:Nat) (s:aA) (n:Int):Int:=if n=1 then s.spot.x+1 else W
def paS (W:Nat) (s:aA) (n:Int):aA:=if n > 2 then s else nwS (erS W s s.spot.y (paA s n) (paB W s n))
theorem xx (h:SJ W s) {n:Int} (hn:0≤n):ef s n=some (paS W s n):=by
 have hy:=yr h
 unfold ef paS paA paB
 rw [m2,aB,h.gw]
 dsimp only
 rw [w64 (x:=s.spot.x+1) (by omega) (by omega)]
 have e: ∀ t:aA,((bif t.waiting then some (aA.mk t.g t.spot t.saved false t.top t.aH t.aW t.title) else some (aA.mk t.g t.spot t.saved false t.top t.aH t.aW t.title)):Option aA)=some (nwS t):=fun t=>by cases t.waiting <;> rfl
 by_cases h0:n=0
 ·subst h0
  rw [iS rfl,cond_true,og h h.y0 h.y1,aB,aB]
  exact e _
 ·rw [cX h0,cond_false]
  by_cases h1:n=1
  ·subst h1
   rw [iS rfl,cond_true,og h h.y0 h.y1,aB,aB]
   exact e _
  ·rw [cX h1,cond_false]
   by_cases h2:n=2
   ·subst h2
    rw [iS rfl,cond_true,og h h.y0 h.y1,aB,aB]
    exact e _
   ·rw [cX h2,cond_false,aB,if_pos (by omega:n > 2),decide_eq_true (by omega:n > 2)]
    dsimp only
    cases hw:s.waiting with
    | true=>rw [cond_true,← hw]
    | false=>rw [cond_false,← hw]
theorem E0 (h:SI W s) {n:Int}:SI W (paS W s n):=by
 unfold paS
 split
 ·exact h
 ·exact ⟨jg (CU h.toSJ h.y0 h.y1 _ _),fun e=>by cases e⟩
def wpc (s:aA) (n:Int) (k:Nat):Bool:=decide ((k:Int) < s.spot.y∧n≠0∧n≤2∨(k:Int) > s.spot.y∧n≠1∧n≤2)
def wpS (W:Nat) (s:aA) (n:Int):Nat→aA
 | 0=>s
 | k+1=>if wpc s n k then erS W (wpS W s n k) k 0 W else wpS W s n k
theorem pJ (n:Int): ∀ k,(wpS W s n k).spot=s.spot∧(wpS W s n k).g.l.length=s.g.l.length∧(wpS W s n k).waiting=s.waiting
 | 0=>⟨rfl,rfl,rfl⟩
 | k+1=>by
  obtain ⟨h1,h2,h3⟩:=pJ n k
  unfold wpS
  split
  ·exact ⟨h1,by simp only [erS,seS,iP]; exact h2,h3⟩
  ·exact ⟨h1,h2,h3⟩
theorem tC (h:SJ W s) (n:Int): ∀ k,k≤s.g.l.length→SJ W (wpS W s n k)
 | 0,_=>h
 | k+1,hk=>by
  have ih:=tC h n k (by omega)
  unfold wpS
  split
  ·exact CU ih (by omega) (by rw [(pJ n k).2.1]; omega) _ _
  ·exact ih
end
end Go.Tw.X
set_option linter.unusedVariables false
set_option linter.unusedSimpArgs false
namespace Go.Tw.X
open Go Go.Tw
section
variable {W : Nat} {s : aA}
theorem uh (n:Int) (k:Nat):wpS W s n (k+1)=if wpc s n k then erS W (wpS W s n k) k 0 W else wpS W s n k:=rfl
theorem Ce (h:SJ W s) {n:Int} (hn:0≤n):fr s n=some (paS W (wpS W s n s.g.l.length) n):=by
 have hl:=h.gi.l2
 unfold fr
 rw [m2,aB,h.gw]
 dsimp only
 refine fQ (fun k=>(wpS W s n k,(wpS W s n k).g,(k:Int))) s.g.l.length ((wpS W s n s.g.l.length).g,wpS W s n s.g.l.length) rfl ?_ ?_ ?_
 ·intro k hk
  have hs:=pJ (W:=W) (s:=s) n k
  have hJ:=tC h n k (by omega)
  dsimp only
  rw [decide_eq_true (by omega:(k:Int) < (s.g.l.length:Int)),cond_true,hs.1,uh,w64 (by omega) (by omega)]
  have ec:((bif (decide ((k:Int) < s.spot.y)) then (bif (n == 1) then some true else (bif (decide ((k:Int) > s.spot.y)) then (bif (n == 0) then some true else (bif ((k:Int) != s.spot.y) then some (n == 2) else some false)) else (bif ((k:Int) != s.spot.y) then some (n == 2) else some false))) else (bif (decide ((k:Int) > s.spot.y)) then (bif (n == 0) then some true else (bif ((k:Int) != s.spot.y) then some (n == 2) else some false)) else (bif ((k:Int) != s.spot.y) then some (n == 2) else some false))):Option Bool)=some (wpc s n k):=by
   unfold wpc
   have hb: ∀ b:Bool,(b=true)=b:=fun b=>rfl
   by_cases a1:(k:Int) < s.spot.y
   ·have a2: ¬ (k:Int) > s.spot.y:=by omega
    have a3:((k:Int) != s.spot.y)=true:=by simp; omega
    rw [decide_eq_true a1,decide_eq_false a2,a3]
    simp only [cond_true,cond_false]
    by_cases c:n=1
    ·rw [iS c,cond_true,decide_eq_true (by omega)]
    ·rw [cX c,cond_false]
     by_cases c2:n=2
     ·rw [iS c2,decide_eq_true (by omega)]
     ·rw [cX c2,decide_eq_false (by omega)]
   ·rw [decide_eq_false a1,cond_false]
    by_cases a2:(k:Int) > s.spot.y
    ·have a3:((k:Int) != s.spot.y)=true:=by simp; omega
     rw [decide_eq_true a2,a3]
     simp only [cond_true,cond_false]
     by_cases c:n=0
     ·rw [iS c,cond_true,decide_eq_true (by omega)]
     ·rw [cX c,cond_false]
      by_cases c2:n=2
      ·rw [iS c2,decide_eq_true (by omega)]
      ·rw [cX c2,decide_eq_false (by omega)]
    ·have a3:((k:Int) != s.spot.y)=false:=by simp; omega
     rw [decide_eq_false a2,a3]
     simp only [cond_false]
     rw [decide_eq_false (by omega)]
  rw [ec,aB]
  cases hc:wpc s n k with
  | true =>
   rw [cond_true,if_pos rfl,show (aA.mk (wpS W s n k).g s.spot (wpS W s n k).saved (wpS W s n k).waiting (wpS W s n k).top (wpS W s n k).aH (wpS W s n k).aW (wpS W s n k).title)=wpS W s n k by rw [← hs.1]]
   rw [og hJ (by omega) (by rw [hs.2.1]; omega),aB,aB]
   rfl
  | false =>
   rw [cond_false,if_neg (by simp),aB]
   dsimp only
   rw [show (aA.mk (wpS W s n k).g s.spot (wpS W s n k).saved (wpS W s n k).waiting (wpS W s n k).top (wpS W s n k).aH (wpS W s n k).aW (wpS W s n k).title)=wpS W s n k by rw [← hs.1]]
   rfl
 ·dsimp only
  rw [decide_eq_false (by omega: ¬ ((s.g.l.length:Nat):Int) < (s.g.l.length:Int)),cond_false]
 ·dsimp only
  rw [show (aA.mk (wpS W s n s.g.l.length).g (wpS W s n s.g.l.length).spot (wpS W s n s.g.l.length).saved (wpS W s n s.g.l.length).waiting (wpS W s n s.g.l.length).top (wpS W s n s.g.l.length).aH (wpS W s n s.g.l.length).aW (wpS W s n s.g.l.length).title)=wpS W s n s.g.l.length from rfl,xx (tC h n _ (Nat.le_refl _)) hn,aB]
theorem xy {n:Int} (hn:n > 2): ∀ k,wpS W s n k=s
 | 0=>rfl
 | k+1=>by
  rw [uh,xy hn k]
  unfold wpc
  rw [decide_eq_false (by omega),if_neg (by simp)]
def wm (W:Nat) (s:aA) (n:Int) (all:Bool):aA:=paS W (if all then wpS W s n s.g.l.length else s) n
theorem vb (h:SJ W s) {n:Int} (hn:0≤n) (all:Bool):kz (aL s) n all=some (aL (wm W s n all)):=by
 have hl:=h.gi.l2
 have hy:=yr h
 unfold kz wm
 by_cases h2:n > 2
 ·rw [decide_eq_true h2,cond_true,xy h2,ite_self]
  unfold paS
  rw [if_pos h2]
 ·rw [decide_eq_false h2,cond_false,wj h]
  refine fQ (fun k=>(aL (if all then wpS W s n k else s),(k:Int))) s.g.l.length (aL (if all then wpS W s n s.g.l.length else s)) (by cases all <;> rfl) ?_ ?_ ?_
  ·intro k hk
   dsimp only
   rw [decide_eq_true (by omega:(k:Int) < (s.g.l.length:Int)),cond_true,w64 (by omega) (by omega)]
   cases all with
   | false =>
    rw [cond_false,aB,cond_false,aB]
    rfl
   | true =>
    have hs:=pJ (W:=W) (s:=s) n k
    have hJ:=tC h n k (by omega)
    simp only [if_true,cond_true]
    rw [show (aL (wpS W s n k)).y=s.spot.y by show (wpS W s n k).spot.y=_; rw [hs.1],uh]
    have ec:((bif (decide ((k:Int) < s.spot.y)) then (bif (n != 0) then some true else (bif (decide ((k:Int) > s.spot.y)) then some (n != 1) else some false)) else (bif (decide ((k:Int) > s.spot.y)) then some (n != 1) else some false)):Option Bool)=some (wpc s n k):=by
     unfold wpc
     by_cases a1:(k:Int) < s.spot.y
     ·have a2: ¬ (k:Int) > s.spot.y:=by omega
      rw [decide_eq_true a1,decide_eq_false a2]
      simp only [cond_true,cond_false]
      by_cases c:n=0
      ·rw [show (n != 0)=false by simp [c],cond_false,decide_eq_false (by omega)]
      ·rw [show (n != 0)=true by simp [c],cond_true,decide_eq_true (by omega)]
     ·rw [decide_eq_false a1,cond_false]
      by_cases a2:(k:Int) > s.spot.y
      ·rw [decide_eq_true a2,cond_true]
       by_cases c:n=1
       ·rw [show (n != 1)=false by simp [c],decide_eq_false (by omega)]
       ·rw [show (n != 1)=true by simp [c],decide_eq_true (by omega)]
      ·rw [decide_eq_false a2,cond_false,decide_eq_false (by omega)]
    rw [ec,aB]
    cases hc:wpc s n k with
    | true =>
     rw [cond_true,if_pos rfl,show (aL (wpS W s n k)).g.w=(W:Int) from hJ.gw,o7 hJ (by omega) (by rw [hs.2.1]; omega),aB,aB]
     rfl
    | false =>
     rw [cond_false,if_neg (by simp),aB]
     rfl
  ·dsimp only
   rw [decide_eq_false (by omega: ¬ ((s.g.l.length:Nat):Int) < (s.g.l.length:Int)),cond_false]
  ·have key: ∀ t:aA,SJ W t→(Option.bind ((bif (n == 0) then some (aL t).x else some 0):Option Int) fun b=>(Option.bind ((bif (n == 1) then some (IntKind.i64.wrap ((aL t).x+1)) else some (aL t).g.w):Option Int) fun d=>(Option.bind (iC (aL t) (aL t).y b d) fun a=>some (aM.mk a.g a.x a.y a.s a.sX a.sY a.sS false a.top a.aH a.aW a.title))))=some (aL (paS W t n)):=by
    intro t ht
    have hy:=yr ht
    rw [show (aL t).x=t.spot.x from rfl,show (aL t).g.w=(W:Int) from ht.gw,show (aL t).y=t.spot.y from rfl,w64 (x:=t.spot.x+1) (by omega) (by omega)]
    have e1:((bif (n == 0) then some t.spot.x else some 0):Option Int)=some (paA t n):=by
     unfold paA
     by_cases c:n=0
     ·rw [iS c,cond_true,if_pos c]
     ·rw [cX c,cond_false,if_neg c]
    have e2:((bif (n == 1) then some (t.spot.x+1) else some (W:Int)):Option Int)=some (paB W t n):=by
     unfold paB
     by_cases c:n=1
     ·rw [iS c,cond_true,if_pos c]
     ·rw [cX c,cond_false,if_neg c]
    rw [e1,aB,e2,aB,o7 ht ht.y0 ht.y1,aB]
    unfold paS
    rw [if_neg h2]
    rfl
   refine key _ ?_
   cases all with
   | true=>exact tC h n _ (Nat.le_refl _)
   | false=>exact h
theorem Al (h:SI W s) (n:Int) (all:Bool):SI W (wm W s n all):=by
 unfold wm
 apply E0
 cases all with
 | false=>exact h
 | true =>
  have hs:=pJ (W:=W) (s:=s) n s.g.l.length
  exact ⟨tC h.toSJ n _ (Nat.le_refl _),fun e=>by rw [if_pos rfl] at e ⊢; rw [hs.1]; rw [hs.2.2] at e; exact h.wt e⟩
def shS (W:Nat) (s:aA) (b n:Int):aA:=if s.spot.y < s.top∨s.spot.y > s.aH then s else if b=76 then mvS (dnS W s s.spot.y s.aH n) 0 s.spot.y else mvS (upT W s s.spot.y s.aH n) 0 s.spot.y
theorem Am (h:SJ W s) (b n:Int):eP s b n=some (shS W s b n):=by
 unfold eP shS
 rw [show ((bif (decide (s.spot.y < s.top)) then some true else some (decide (s.spot.y > s.aH))):Option Bool)=_ from or2 _ _,aB]
 by_cases c:s.spot.y < s.top∨s.spot.y > s.aH
 ·rw [decide_eq_true c,cond_true,if_pos c]
 ·rw [decide_eq_false c,cond_false,if_neg c]
  by_cases cb:b=76
  ·rw [iS cb,cond_true,if_pos cb,jW,aB,sw h,aB,aB]
   rw [show (aA.mk (oN s.g.l s.spot.y s.aH n,(dnS W s s.spot.y s.aH n).g).snd s.spot s.saved s.waiting s.top s.aH s.aW s.title)=dnS W s s.spot.y s.aH n from rfl,ij (va h _ _ _),aB]
  ·rw [cX cb,cond_false,if_neg cb,jW,aB,DZ h,aB,aB]
   rw [show (aA.mk (upO s.g.l s.spot.y s.aH n,(upT W s s.spot.y s.aH n).g).snd s.spot s.saved s.waiting s.top s.aH s.aW s.title)=upT W s s.spot.y s.aH n from rfl,ij (wh h _ _ _),aB]
theorem E1 (h:SI W s) (b n:Int):SI W (shS W s b n):=by
 unfold shS
 split
 ·exact h
 ·split
  ·exact kP (va h.toSJ _ _ _) _ _
  ·exact kP (wh h.toSJ _ _ _) _ _
def rgT (s:aA) (l:List Int):Int:=max 1 (min (atS l 0 1) (s.g.l.length:Int)) - 1
def rgU (s:aA) (l:List Int):Int:=max 1 (min (atS l 1 (s.g.l.length:Int)) (s.g.l.length:Int)) - 1
def rnS (s:aA) (t b:Int):aA:=⟨s.g,s.spot,s.saved,s.waiting,t,b,s.aW,s.title⟩
def reS (s:aA) (l:List Int):aA:=if rgT s l < rgU s l then mvS (rnS s (rgT s l) (rgU s l)) 0 0 else s
theorem E2 (h:SJ W s) (l:List Int):0≤rgT s l∧rgT s l < s.g.l.length∧0≤rgU s l∧rgU s l < s.g.l.length:=by
 have h1:=h.gi.l1
 unfold rgT rgU
 omega
theorem An (h:SJ W s) (l:List Int) (c:rgT s l < rgU s l):SJ W (rnS s (rgT s l) (rgU s l)):=by
 have hr:=E2 h l
 exact ⟨h.gw,h.gi,h.x0,h.x1,h.y0,h.y1,hr.1,by simp only [rnS]; omega,by simp only [rnS]; omega⟩
theorem wo (h:SJ W s) (a:aX):eJ s a=some (reS s a.aY):=by
 have hl:=h.gi.l2
 have hl1:=h.gi.l1
 unfold eJ reS
 rw [m2,aB,show du a 0 1=_ from tB a 0 1,aB,kO,aB]
 dsimp only
 rw [show du a 1 (s.g.l.length:Int)=_ from tB a 1 _,aB,kO,aB,w64 (by omega) (by omega),w64 (by omega) (by omega)]
 rw [← rgT,← rgU]
 by_cases c:rgT s a.aY < rgU s a.aY
 ·rw [decide_eq_true c,cond_true,if_pos c,← rnS,ij (An h _ c),aB]
 ·rw [decide_eq_false c,cond_false,if_neg c]
theorem E3 (h:SI W s) (l:List Int):SI W (reS s l):=by
 unfold reS
 split
 ·exact kP (An h.toSJ l (by assumption)) _ _
 ·exact h
def ceR (s:aA) (b n:Int):aE:=⟨fD 0 (if b=64 then ins (iu s.g.l s.spot.y).cells s.spot.x n (iR s.spot.aK) else if b=80 then del (iu s.g.l s.spot.y).cells s.spot.x n (iR s.spot.aK) else ie s.spot.x (s.spot.x+n) (iR s.spot.aK) 0 (iu s.g.l s.spot.y).cells),false⟩
def ceS (W:Nat) (s:aA) (b n:Int):aA:=nwS (seS W s s.spot.y (ceR s b n))
end
end Go.Tw.X
set_option linter.unusedVariables false
set_option linter.unusedSimpArgs false
namespace Go.Tw.X
open Go Go.Tw
theorem Cg (l:List aG) (a n q:Int):(ins l a n q).length=l.length:=by
 unfold ins
 split
 ·rfl
 ·rcases rX l a n with h | ⟨h1,h2,h3⟩
  ·contradiction
  ·unfold kA
   simp only [List.length_take,List.length_append,List.length_replicate,List.length_drop]
   omega
theorem Ci (l:List aG) (a n q:Int):(del l a n q).length=l.length:=by
 unfold del
 split
 ·rfl
 ·rcases rX l a n with h | ⟨h1,h2,h3⟩
  ·contradiction
  ·unfold lb
   simp only [List.length_take,List.length_append,List.length_replicate,List.length_drop]
   omega
theorem D1 {l:List aG} (h:okR l) (a n q:Int):okR (ins l a n q):=by
 unfold ins
 split
 ·exact h
 ·exact pz (py (py (pz h _) (rh _ _)) (uP h _)) _
theorem D3 {l:List aG} (h:okR l) (a n q:Int):okR (del l a n q):=by
 unfold del
 split
 ·exact h
 ·exact py (py (pz h _) (uP h _)) (rh _ _)
section
variable {W : Nat} {s : aA}
theorem Ao (h:SJ W s) (b n:Int):gok W (ceR s b n):=by
 have hg:=h.row
 refine ⟨?_,mj _ _ ?_⟩
 ·simp only [ceR,ic]
  split
  ·rw [Cg]; exact hg.1
  ·split
   ·rw [Ci]; exact hg.1
   ·rw [jk]; exact hg.1
 ·split
  ·exact D1 hg.2 _ _ _
  ·split
   ·exact D3 hg.2 _ _ _
   ·exact qh _ _ _ _ hg.2
theorem ui (h:SJ W s) (b n:Int):(ceR s b n).cells.length≤1000000:=by have:=(Ao h b n).le h.gi.w2; omega
theorem yD (h:SJ W s) (b:Int) {n:Int} (h0:0≤n) (h1:n≤9999):eg (iu s.g.l s.spot.y) b s n=some (ceR s b n):=by
 have hl:=lT h
 have hy:=yr h
 unfold eg ceR
 by_cases c:b=64
 ·rw [iS c,cond_true,jW,aB,insert_eq _ _ _ _ hl h.xr.1 h.xr.2,aB,if_pos c]; rfl
 ·rw [cX c,cond_false,if_neg c]
  by_cases c2:b=80
  ·rw [iS c2,cond_true,jW,aB,ym _ _ _ _ hl h.xr.1 h.xr.2,aB,if_pos c2]; rfl
  ·rw [cX c2,cond_false,jW,aB,w64 (by omega) (by omega),erase_eq _ _ _ _ (by omega),aB,if_neg c2]
theorem yE (h:SJ W s) (b:Int) {n:Int} (h0:0≤n) (h1:n≤9999):eO s b n=some (ceS W s b n):=by
 unfold eO dm
 rw [h.z7,aB,yD h b h0 h1,aB,h.z8 _ (ui h b n),aB,aB]
 rfl
theorem E4 (h:SJ W s) (b n:Int):SI W (ceS W s b n):=⟨jg (xv h _ (Ao h b n).2),fun e=>by cases e⟩
theorem Cj (h:SJ W s) (n:Int):jP (told (iu s.g.l s.spot.y)) s.spot.x n (iR s.spot.aK)=some (told (ceR s 64 n)):=by
 have hl:=lT h
 rw [told,vT (iu s.g.l s.spot.y).cells (iu s.g.l s.spot.y).wrapped s.spot.x n _ hl h.xr.1 h.xr.2]
 rfl
theorem Ck (h:SJ W s) (n:Int):jQ (told (iu s.g.l s.spot.y)) s.spot.x n (iR s.spot.aK)=some (told (ceR s 80 n)):=by
 have hl:=lT h
 rw [told,vU (iu s.g.l s.spot.y).cells (iu s.g.l s.spot.y).wrapped s.spot.x n _ hl h.xr.1 h.xr.2]
 rfl
def orS (W:Nat) (s:aA) (b:Int) (l:List Int):aA :=
 if b=65 then clS s (0 - atS l 0 1) else if b=70 then xS (clS s (0 - atS l 0 1)) 0 else
 if b=66 then clS s (atS l 0 1) else if b=69 then xS (clS s (atS l 0 1)) 0 else
 if b=67 then mvS s (s.spot.x+atS l 0 1) s.spot.y else if b=68 then mvS s (s.spot.x - atS l 0 1) s.spot.y else
 if b=71 then mvS s (atS l 0 1 - 1) s.spot.y else if b=100 then mvS s s.spot.x (atS l 0 1 - 1) else
 if b=72∨b=102 then mvS s (atS l 1 1 - 1) (atS l 0 1 - 1) else
 if b=74 then wm W s (atS l 0 0) true else if b=75 then wm W s (atS l 0 0) false else
 if b=64∨b=80∨b=88 then ceS W s b (atS l 0 1) else
 if b=76∨b=77 then shS W s b (atS l 0 1) else
 if b=83 then upS W (nwS s) (atS l 0 1) else
 if b=84 then dnS W (nwS s) s.top s.aH (atS l 0 1) else
 if b=109 then ⟨s.g,⟨s.spot.x,s.spot.y,yB s.spot.aK l⟩,s.saved,s.waiting,s.top,s.aH,s.aW,s.title⟩ else
 if b=114 then reS s l else s
def orF (s:aA) (b:Int) (l:List Int):List aE:=if b=83 then upF (nwS s) (atS l 0 1) else []
theorem jf {p:Prop} [Decidable p] {a b:aA} (ha:SI W a) (hb:SI W b):SI W (if p then a else b):=by split <;> assumption
theorem E5 (h:SI W s) (b:Int) (l:List Int):SI W (orS W s b l):=by
 have h0:=w0 h.toSJ
 have hx: ∀ n,SI W (xS (clS s n) 0):=fun n=>⟨u6 (kP h.toSJ _ _).toSJ (Int.le_refl 0) h0,fun e=>by cases e⟩
 unfold orS
 have e4: ∀ q,SI W ⟨s.g,⟨s.spot.x,s.spot.y,q⟩,s.saved,s.waiting,s.top,s.aH,s.aW,s.title⟩:=fun q=>⟨⟨h.gw,h.gi,h.x0,h.x1,h.y0,h.y1,h.t0,h.tb,h.b1⟩,h.wt⟩
 have e5: ∀ n,SI W (upS W (nwS s) n):=fun n=>⟨CQ (jg h.toSJ) _,fun e=>by cases e⟩
 have e6: ∀ t b n,SI W (dnS W (nwS s) t b n):=fun t b n=>⟨va (jg h.toSJ) _ _ _,fun e=>by cases e⟩
 refine jf (kP h.toSJ _ _) (jf (hx _) (jf (kP h.toSJ _ _) (jf (hx _) (jf (kP h.toSJ _ _) (jf (kP h.toSJ _ _) (jf (kP h.toSJ _ _) (jf (kP h.toSJ _ _) (jf (kP h.toSJ _ _) (jf (Al h _ _) (jf (Al h _ _) (jf (E4 h.toSJ _ _) (jf (E1 h _ _) (jf (e5 _) (jf (e6 _ _ _) (jf (e4 _) (jf (E3 h _) h))))))))))))))))
theorem uj (n a b c:Int):((bif (n == a) then some (n == a) else (bif (n == b) then some (n == b) else some (n == c))):Option Bool)=some (decide (n=a∨n=b∨n=c)):=by
 by_cases h:n=a
 ·simp [h]
 ·rw [cX h,cond_false]
  by_cases h2:n=b
  ·simp [h2]
  ·rw [cX h2,cond_false]
   by_cases h3:n=c
   ·simp [h3]
   ·rw [cX h3,decide_eq_false (by omega)]
theorem xz (n a b:Int):((bif (n == a) then some (n == a) else some (n == b)):Option Bool)=some (decide (n=a∨n=b)):=by
 by_cases h:n=a
 ·simp [h]
 ·rw [cX h,cond_false]
  by_cases h2:n=b
  ·simp [h2]
  ·rw [cX h2,decide_eq_false (by omega)]
end
end Go.Tw.X

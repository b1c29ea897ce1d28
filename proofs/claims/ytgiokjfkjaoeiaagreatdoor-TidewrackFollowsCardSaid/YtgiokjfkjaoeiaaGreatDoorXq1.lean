import Derived.Test.YtgiokjfkjaoeiaaGreatDoorXp1
import Derived.Test.YtgiokjfkjaoeiaaGreatDoorFw2
import Derived.Laws.BitsLemmas
import Derived.Laws.Strings
set_option linter.unusedVariables false
set_option linter.unusedSimpArgs false
namespace Go.Tw.X
open Go Go.Tw
def tc (c:aG):aR:=⟨c.rune,c.aM,c.part⟩
def told (r:aE):aX:=⟨r.cells.map tc,r.wrapped⟩
def Js (r:List aG):Int:=match r with
 | []=>0
 | d::_=>d.part
def AX (p:Int) (c:aG) (r:List aG):Bool :=
 bif c.part == 1 then (Js r != 2) else bif c.part == 2 then (p != 1) else bif c.part == 3 then !r.isEmpty else false
def xZ (p:Int) (c:aG) (r:List aG):aG:=bif AX p c r then ⟨32,c.aM,0⟩ else c
def jY:Int->List aG->List aG
 | _,[]=>[]
 | p,c::r=>xZ p c r::jY (xZ p c r).part r
theorem na: ∀ (l:List aG) (p:Int),(jY p l).length=l.length
 | [],_=>rfl
 | c::r,p=>by simp [jY,na r]
def oR (l:List aG):Int:=vO 0 (l.map (·.part))
theorem z9 (l:List aG) (c:aG):oR (l++[c])=c.part:=by simp [oR,z8]
theorem x6 {α β:Type} (f:α->β) (d:α): ∀ l:List α,vO (f d) (l.map f)=f (vO d l)
 | []=>rfl
 | [x]=>rfl
 | _::y::l=>x6 f d (y::l)
theorem uv (s:Int):jH s=some ⟨32,s,0⟩:=rfl
theorem HK (l r:List aG) (c:aG) (h:(l++c::r).length<=1000000):nZ (l++c::r) (l.length:Int)=some (AX (oR l) c r):=by
 have hl:(l++c::r).length=l.length+r.length+1:=by simp; omega
 unfold nZ
 rw [nX,aA]
 rw [w64 (x:=(l.length:Int)+1) (by omega) (by omega),w64 (x:=(l.length:Int) - 1) (by omega) (by omega),w64 (x:=((l++c::r).length:Int) - 1) (by omega) (by omega),Dw,hl]
 unfold AX
 cases h1:(c.part == 1) with
 | true =>
  simp only [cond_true]
  cases r with
  | nil=>simp [Js]
  | cons d r =>
   have hd:decide ((l.length:Int)+1>=((l.length+(d::r).length+1:Nat):Int))=false:=decide_eq_false (by simp only [List.length_cons]; omega)
   rw [hd]
   simp [Js]
 | false =>
  simp only [cond_false]
  cases h2:(c.part == 2) with
  | true =>
   simp only [cond_true]
   cases hl0:l with
   | nil=>simp [oR,vO]
   | cons a t =>
    have hne:(((a::t).length:Int) == 0)=false:=by simp; omega
    rw [hne,cond_false,Dv (a::t) r ⟨0,0,0⟩ c (by simp)]
    simp only [aA]
    rw [oR,<- x6 (λc:aG=>c.part) ⟨0,0,0⟩]
  | false =>
   simp only [cond_false]
   cases h3:(c.part == 3) with
   | true =>
    simp only [cond_true]
    cases r with
    | nil=>simp
    | cons d r=>simp; omega
   | false=>rfl
theorem qB (l:List aG) (h:l.length<=1000000):fD l=some ⟨jY 0 l,false⟩:=by
 unfold fD
 have key: ∀ (r d:List aG),(d++r).length=l.length->iter (σ:=(List aG)×Int) (ρ:=(List aG)) (λs=>(bif (decide (s.2 < (l.length:Int))) then (Option.bind ((Option.bind (nZ s.1 s.2) λr1=>(bif r1 then (Option.bind (idx s.1 s.2) λx=>(Option.bind (jH x.aM) λr2=>(Option.bind (idx s.1 s.2) λ_=>some (s.1.set s.2.toNat r2)))) else some s.1)):Option (List aG)) λe=>some (.inl (e,(IntKind.i64.wrap (s.2+1))))) else some (.inr s.1))) (d++r,(d.length:Int))=some (d++jY (oR d) r):=by
  intro r
  induction r with
  | nil =>
   intro d hd
   simp at hd
   rw [cQ (r:=d)]
   ·simp [jY]
   ·simp [hd]
  | cons c r ih =>
   intro d hd
   have hdl:d.length < l.length:=by rw [<- hd]; simp
   have hlen:(d++xZ (oR d) c r::r).length=l.length:=by rw [<- hd]; simp
   rw [dN (s':=((d++[xZ (oR d) c r])++r,((d++[xZ (oR d) c r]).length:Int)))]
   ·rw [ih (d++[xZ (oR d) c r]) (by simpa using hlen),z9]
    simp [jY]
   ·have hc:decide ((d.length:Int) < (l.length:Int))=true:=by simp; omega
    simp only [hc,cond_true]
    rw [HK d r c (by rw [hd]; exact h),nX]
    simp only [aA,uv]
    rw [w64 (by omega) (by omega)]
    unfold xZ
    cases AX (oR d) c r with
    | true=>simp
    | false=>simp
 have:=key l [] (by simp)
 simp only [List.nil_append,List.length_nil,Int.ofNat_zero] at this
 rw [this]
 rfl
theorem Jt (n:Int):IntKind.u64.wrap n=n % 18446744073709551616:=by simp [IntKind.wrap,IntKind.bits,IntKind.signed]
theorem L7 (n:Int) (h0:0<=n) (h1:n < 2 ^ 63):IntKind.u64.wrap n=n:=by rw [Jt]; omega
theorem Fg (y:Int) (h0:0<=y) (h1:y < 4294967296):Go.bits .and .u64 y 4294967295=y:=by
 have h:=bits_mask .u64 63 (by decide) L7 32 (by decide) y h0 (by omega)
 have e:((2:Int) ^ 32 - 1)=4294967295:=by decide
 have e2:((2:Int) ^ 32)=4294967296:=by decide
 rw [e,e2] at h
 rw [h]
 omega
theorem Ju {x:Int} (h0:0<=x) (h1:x < 18446744073709551616):IntKind.u64.wrap x=x:=by rw [Jt]; omega
theorem Fh (n:Int) (h0:0<=n) (h1:n<=1000000):qL 1 n=some (0,n):=by
 have e32:(2:Int) ^ (min 32 64)=4294967296:=by decide
 have f1:Int.fdiv 1 4294967296=0:=by decide
 have f2:Int.fdiv n 4294967296=0:=by rw [Int.fdiv_eq_ediv_of_nonneg _ (by decide)]; omega
 have f0:Int.fdiv 0 4294967296=0:=by decide
 have z0:IntKind.u64.wrap 0=0:=by rw [Jt]; rfl
 have m0:Go.bits .and .u64 0 4294967295=0:=Fg 0 (by omega) (by omega)
 have m1:Go.bits .and .u64 1 4294967295=1:=Fg 1 (by omega) (by omega)
 have mn:=Fg n h0 (by omega)
 have un:IntKind.u64.wrap n=n:=Ju h0 (by omega)
 unfold qL qw
 simp only [e32,f1,f2,m1,mn,Int.zero_mul,Int.mul_zero,Int.one_mul,z0,un,f0,Int.add_zero,Int.zero_add,m0,aA]
theorem Bs (c:aG) (n:Int) (h0:0<=n) (h1:n<=1000000):eE [c] n=some (List.replicate n.toNat c):=by
 unfold eE
 have hn:decide (n < 0)=false:=decide_eq_false (by omega)
 have u1:IntKind.u64.wrap (([c].length:Nat):Int)=1:=Ju (by simp) (by simp)
 rw [hn,cond_false,u1,Ju h0 (by omega),Fh n h0 h1]
 simp only [aA]
 have g1:decide ((0:Int) > 0)=false:=by decide
 have g2:decide (n > 9223372036854775807)=false:=decide_eq_false (by omega)
 rw [g1,cond_false,aA,g2,cond_false,w64 (by omega) (by omega),Bq h0 (by omega) (by omega),aA]
 obtain ⟨k,rfl⟩: ∃ k:Nat,n=k:=⟨n.toNat,by omega⟩
 simp only [Int.toNat_natCast,List.length_cons,List.length_nil,List.length_replicate]
 have key: ∀ m j,k - j=m->j<=k->(1<=j\/k=0)->iter (σ:=(List aG)×Int) (ρ:=(List aG)) (λa=>(bif (decide (a.2 < (a.1.length:Int))) then (Option.bind (chk (dC a.2 (a.1.length:Int) a.1.length)) λ_=>(Option.bind (chk (dC 0 a.2 a.1.length)) λ_=>some (.inl ((AW a.1 a.2.toNat),(IntKind.i64.wrap (a.2+((Nat.min a.2.toNat (a.1.length - a.2.toNat):Nat):Int))))))) else some (.inr a.1))) (List.replicate j c++List.replicate (k - j) (aG.mk 0 0 0),(j:Int))=some (List.replicate k c):=by
  intro m
  induction m using Nat.strongRecOn with
  | _ m ih =>
   intro j hm hj h1j
   have hlen:(List.replicate j c++List.replicate (k - j) (aG.mk 0 0 0)).length=k:=by simp; omega
   by_cases hjk:j < k
   ·have hmin:Nat.min j (k - j)=min j (k - j):=rfl
    rw [dN (s':=(List.replicate (j+min j (k - j)) c++List.replicate (k - (j+min j (k - j))) (aG.mk 0 0 0),((j+min j (k - j):Nat):Int)))]
    ·exact ih (k - (j+min j (k - j))) (by omega) _ rfl (by omega) (by omega)
    ·have hc:decide ((j:Int) < ((List.replicate j c++List.replicate (k - j) (aG.mk 0 0 0)).length:Int))=true:=by rw [hlen]; simp; omega
     simp only [hc,cond_true]
     rw [hlen,bP (by omega) (by omega) (by omega),aA,bP (by omega) (by omega) (by omega),aA,Int.toNat_natCast,hmin,w64 (by omega) (by omega)]
     congr 2
     refine Prod.ext ?_ ?_
     ·show AW _ _=_
      unfold AW
      rw [hlen]
      have t1:(List.replicate j c++List.replicate (k - j) (aG.mk 0 0 0)).take j=List.replicate j c:=by rw [List.take_left']; simp
      rw [t1,List.take_replicate,List.drop_append,List.drop_of_length_le (by simp),List.nil_append,List.length_replicate,List.drop_replicate,List.replicate_append_replicate,Nat.min_comm (k - j) j]
      congr 2
      omega
     ·show ((j:Int)+((min j (k - j):Nat):Int))=_
      omega
   ·have hjk':j=k:=by omega
    subst hjk'
    rw [cQ (r:=List.replicate j c)]
    simp
 have hs:cpy (List.replicate k (aG.mk 0 0 0)) [c]=List.replicate (min 1 k) c++List.replicate (k - min 1 k) (aG.mk 0 0 0):=by
  unfold cpy
  cases k with
  | zero=>simp
  | succ k=>simp [Nat.min_eq_left]
 have hmin:Nat.min (0+1) k=min 1 k:=rfl
 rw [hs,hmin,key _ (min 1 k) rfl (by omega) (by omega),aA]
theorem uZ (n s:Int) (h:n<=1000000):lQ n s=some (List.replicate n.toNat ⟨32,s,0⟩):=by
 unfold lQ
 rw [uv,aA]
 rw [gQ,Bs _ (max 0 n) (by omega) (by omega),aA]
 have:(max 0 n).toNat=n.toNat:=by omega
 rw [this]
theorem u0 (n lo hi:Int):mq n lo hi=some (max lo (min n hi)):=by
 unfold mq
 rw [gQ,dP]
theorem Aa (l:List aG) (h:l.length<=1000000):eN l=some l:=by
 unfold eN
 rw [bL (by simp; omega),aA]
 rfl
theorem ss (r:aE) (h:r.cells.length<=1000000):fI r=some r.cells:=by
 unfold fI
 rw [Aa _ h,aA]
def cX (l:List aG) (at_ n:Int):Int:=if at_ < 0\/at_>=l.length then 0 else max 0 (min n (l.length - at_))
theorem Bt (r:aE) (at_ n:Int) (h:r.cells.length<=1000000) (ha: -9223372036854775808<=at_) (hb:at_<=9223372036854775807):kT r at_ n=some (cX r.cells at_ n):=by
 unfold kT cX
 by_cases h1:at_ < 0
 ·rw [if_pos (.inl h1)]
  simp [h1]
 ·by_cases h2:at_>=r.cells.length
  ·rw [if_pos (.inr h2)]
   simp [h1,h2]
  ·rw [if_neg (by omega)]
   have e1:decide (at_ < 0)=false:=decide_eq_false h1
   have e2:decide (at_>=(r.cells.length:Int))=false:=decide_eq_false h2
   rw [e1,cond_false,e2,aA,cond_false,w64 (by omega) (by omega),u0,aA]
def vn (r:Int):List jG->Nat
 | []=>0
 | s::l=>if s.to < r then vn r l+1 else 0
def inS (l:List jG) (r:Int):Bool:=l.any λs=>decide (s.from_<=r/\r<=s.to)
def rising:List jG->Bool
 | []=>true
 | [s]=>true
 | s::t::l=>decide (s.to < t.from_/\t.from_<=t.to) && rising (t::l)
theorem Cc (r:Int): ∀ l:List jG,vn r l<=l.length
 | []=>Nat.le_refl _
 | s::l=>by
  unfold vn
  have:=Cc r l
  split <;> simp <;> omega
theorem yT {s:jG} {l:List jG} (h:rising (s::l)=true):rising l=true:=by
 cases l with
 | nil=>rfl
 | cons t l=>simp only [rising,Bool.and_eq_true] at h; exact h.2
theorem wj {s:jG}: ∀ {l:List jG},rising (s::l)=true -> ∀ t∈l,s.to < t.from_/\t.from_<=t.to
 | [],_,t,ht=>by cases ht
 | u::l,h,t,ht=>by
  simp only [rising,Bool.and_eq_true,decide_eq_true_eq] at h
  rcases List.mem_cons.1 ht with rfl | ht
  ·exact h.1
  ·have:=wj h.2 t ht
   have:=h.1
   omega
theorem Gx (r:Int): ∀ {l:List jG},rising l=true -> ∀ (i:Nat) (s:jG),l[i]?=some s->(s.to < r↔i < vn r l)
 | [],_,i,s,h=>by simp at h
 | u::l,hr,i,s,h=>by
  cases i with
  | zero =>
   simp at h
   subst h
   unfold vn
   split <;> simp [*]
  | succ i =>
   simp at h
   have ih:=Gx r (yT hr) i s h
   unfold vn
   split
   ·rw [ih]; omega
   ·have:=wj hr s (List.mem_of_getElem? h)
    constructor
    ·intro; omega
    ·intro; omega
theorem Gy (r:Int): ∀ {l:List jG},rising l=true->inS l r=(match l[vn r l]? with | some s=>decide (s.from_<=r) | none=>false)
 | [],_=>rfl
 | u::l,hr=>by
  have ih:=Gy r (yT hr)
  unfold inS at ih ⊢
  unfold vn
  by_cases hu:u.to < r
  ·rw [if_pos hu,List.any_cons,ih]
   have:decide (u.from_<=r/\r<=u.to)=false:=by simp; omega
   simp [this]
  ·rw [if_neg hu,List.any_cons]
   simp only [List.getElem?_cons_zero]
   by_cases hf:u.from_<=r
   ·have:decide (u.from_<=r/\r<=u.to)=true:=by simp; omega
    rw [this,Bool.true_or]
    simp [hf]
   ·have h1:decide (u.from_<=r/\r<=u.to)=false:=by simp; omega
    have h2:(l.any λs=>decide (s.from_<=r/\r<=s.to))=false:=by
     rw [List.any_eq_false]
     intro t ht
     have:=wj hr t ht
     simp
     omega
    rw [h1,h2]
    simp [hf]
theorem N5 (l:List jG) (r:Int) (hr:rising l=true) (hl:l.length<=1000000):qH l r=some (inS l r):=by
 unfold qH
 have key: ∀ m lo hi,hi - lo=m->lo<=vn r l->vn r l<=hi->hi<=l.length->iter (σ:=Int×Int) (ρ:=Int) (λa=>(bif (decide (a.1 < a.2)) then (Option.bind (idx l (IntKind.i64.wrap ((IntKind.i64.wrap (a.1+a.2)).tdiv 2))) λb=>(bif (decide (b.to < r)) then some (.inl ((IntKind.i64.wrap ((IntKind.i64.wrap ((IntKind.i64.wrap (a.1+a.2)).tdiv 2))+1)),a.2)) else some (.inl (a.1,(IntKind.i64.wrap ((IntKind.i64.wrap (a.1+a.2)).tdiv 2)))))) else some (.inr a.1))) ((lo:Int),(hi:Int))=some ((vn r l:Nat):Int):=by
  intro m
  induction m using Nat.strongRecOn with
  | _ m ih =>
   intro lo hi hm h1 h2 h3
   by_cases hlt:lo < hi
   ·have e:(IntKind.i64.wrap ((IntKind.i64.wrap ((lo:Int)+(hi:Int))).tdiv 2))=(((lo+hi) / 2:Nat):Int):=by
     rw [w64 (x:=(lo:Int)+(hi:Int)) (by omega) (by omega)]
     have e1:((lo:Int)+(hi:Int)).tdiv 2=(((lo+hi) / 2:Nat):Int):=by
      rw [Int.tdiv_eq_ediv_of_nonneg (by omega)]
      omega
     rw [e1,w64 (by omega) (by omega)]
    have hmid:(lo+hi) / 2 < l.length:=by omega
    have hc:decide ((lo:Int) < (hi:Int))=true:=by simp; omega
    have hx:idx l (((lo+hi) / 2:Nat):Int)=some l[(lo+hi) / 2]:=by rw [fT]; simp [hmid]
    have hat:=Gx r hr ((lo+hi) / 2) l[(lo+hi) / 2] (by simp [hmid])
    by_cases hto:(l[(lo+hi) / 2]).to < r
    ·rw [dN (s':=((((lo+hi) / 2+1:Nat):Int),(hi:Int)))]
     ·have:=hat.1 hto
      exact ih (hi - ((lo+hi) / 2+1)) (by omega) _ _ rfl (by omega) h2 h3
     ·simp only [hc,cond_true,e,hx,aA,hto,decide_true]
      rw [w64 (by omega) (by omega)]
      rfl
    ·rw [dN (s':=((lo:Int),(((lo+hi) / 2:Nat):Int)))]
     ·have: ¬ (lo+hi) / 2 < vn r l:=λh=>hto (hat.2 h)
      exact ih ((lo+hi) / 2 - lo) (by omega) _ _ rfl h1 (by omega) (by omega)
     ·simp only [hc,cond_true,e,hx,aA,hto,decide_false,cond_false]
   ·have:lo=vn r l:=by omega
    rw [cQ (r:=(lo:Int)),this]
    have hc:decide ((lo:Int) < (hi:Int))=false:=by simp; omega
    simp only [hc,cond_false]
 have h0:=key (l.length - 0) 0 l.length rfl (Nat.zero_le _) (Cc r l) (Nat.le_refl _)
 have e0:((0:Nat):Int)=0:=rfl
 rw [e0] at h0
 rw [h0,aA,Gy r hr]
 have hle:=Cc r l
 by_cases hlt:vn r l < l.length
 ·have hc:decide (((vn r l:Nat):Int) < (l.length:Int))=true:=by simp; omega
  rw [hc,cond_true,fT,List.getElem?_eq_getElem hlt]
  rfl
 ·have hc:decide (((vn r l:Nat):Int) < (l.length:Int))=false:=by simp; omega
  rw [hc,cond_false,List.getElem?_eq_none (by omega)]
  rfl
def ofS (r:Int):Int:=if inS cZ r then 0 else if inS dI r then 2 else 1
theorem of_eq (r:Int):qI r=some (ofS r):=by
 unfold qI
 rw [N5 cZ r (by decide) (by decide),N5 dI r (by decide) (by decide)]
 simp only [aA,ofS]
 cases inS cZ r <;> cases inS dI r <;> rfl
theorem su (r:Int):ofS r=0\/ofS r=1\/ofS r=2:=by
 unfold ofS
 split
 ·exact .inl rfl
 ·split
  ·exact .inr (.inr rfl)
  ·exact .inr (.inl rfl)
theorem L8 (n:Int) (h0:0<=n) (h1:n<=1000000):gY n=some []:=by
 unfold gY
 have hn:decide (n < 0)=false:=decide_eq_false (by omega)
 have z:IntKind.i64.wrap (0 - 0)=0:=by decide
 rw [hn,cond_false,z,w64 (by omega) (by omega),Int.sub_zero]
 by_cases hp:n > 0
 ·have:decide (n > 0)=true:=decide_eq_true hp
  rw [this,cond_true,HJ hp (by omega) (by omega),aA,bP (by omega) (by omega) (by omega),aA]
  rfl
 ·have:decide (n > 0)=false:=decide_eq_false hp
  rw [this,cond_false]
  rfl
def total:List (List aG)->Nat
 | []=>0
 | x::r=>x.length+total r
theorem tq (a b:List (List aG)):total (a++b)=total a+total b:=by
 induction a with
 | nil=>simp [total]
 | cons x a ih=>simp only [List.cons_append,total,ih]; omega
theorem Ab (a:List (List aG)):a.flatten.length=total a:=by
 induction a with
 | nil=>rfl
 | cons x a ih=>simp only [List.flatten_cons,List.length_append,total,ih]
theorem Bu (ls:List (List aG)) (h:total ls<=1000000) (h2:ls.length<=1000000):eY ls=some ls.flatten:=by
 unfold eY
 have k1: ∀ (r d:List (List aG)),d++r=ls->iter (σ:=Int×Int) (ρ:=Int) (λa=>(bif (decide (a.1 < (ls.length:Int))) then (Option.bind (idx ls a.1) λc=>(bif (decide ((IntKind.i64.wrap (a.2+(c.length:Int))) < 0)) then none else some (.inl ((IntKind.i64.wrap (a.1+1)),(IntKind.i64.wrap (a.2+(c.length:Int))))))) else some (.inr a.2))) ((d.length:Int),(total d:Int))=some (total ls:Int):=by
  intro r
  induction r with
  | nil =>
   intro d hd
   simp at hd
   subst hd
   rw [cQ (r:=(total d:Int))]
   simp
  | cons x r ih =>
   intro d hd
   have hl:ls.length=d.length+r.length+1:=by rw [<- hd]; simp; omega
   have ht:total ls=total d+(x.length+total r):=by rw [<- hd,tq]; rfl
   rw [dN (s':=(((d++[x]).length:Int),(total (d++[x]):Int)))]
   ·exact ih (d++[x]) (by simpa using hd)
   ·have hc:decide ((d.length:Int) < (ls.length:Int))=true:=by simp; omega
    have hx:idx ls (d.length:Int)=some x:=by rw [<- hd]; exact nX d r x
    simp only [hc,cond_true,hx,aA]
    rw [w64 (by omega) (by omega),w64 (by omega) (by omega)]
    have hp:decide ((total d:Int)+(x.length:Int) < 0)=false:=decide_eq_false (by omega)
    rw [hp,cond_false,tq]
    simp [total]
 have k2: ∀ (r d:List (List aG)),d++r=ls->iter (σ:=Int×(List aG)) (ρ:=(List aG)) (λb=>(bif (decide (b.1 < (ls.length:Int))) then (Option.bind (idx ls b.1) λe=>(Option.bind (chk (eH b.2.length e.length 24)) λ_=>some (.inl ((IntKind.i64.wrap (b.1+1)),(b.2++e))))) else some (.inr b.2))) ((d.length:Int),d.flatten)=some ls.flatten:=by
  intro r
  induction r with
  | nil =>
   intro d hd
   simp at hd
   subst hd
   rw [cQ (r:=d.flatten)]
   simp
  | cons x r ih =>
   intro d hd
   have hl:ls.length=d.length+r.length+1:=by rw [<- hd]; simp; omega
   have ht:total ls=total d+(x.length+total r):=by rw [<- hd,tq]; rfl
   rw [dN (s':=(((d++[x]).length:Int),(d++[x]).flatten))]
   ·exact ih (d++[x]) (by simpa using hd)
   ·have hc:decide ((d.length:Int) < (ls.length:Int))=true:=by simp; omega
    have hx:idx ls (d.length:Int)=some x:=by rw [<- hd]; exact nX d r x
    simp only [hc,cond_true,hx,aA]
    rw [w64 (by omega) (by omega),bL (by rw [Ab]; omega),aA]
    simp
 have h0:=k1 ls [] rfl
 have h3:=k2 ls [] rfl
 have e0:((([]:List (List aG)).length:Nat):Int)=0:=rfl
 have e1:((total []:Nat):Int)=0:=rfl
 rw [e0,e1] at h0
 rw [e0,List.flatten_nil] at h3
 rw [h0,aA,L8 _ (by omega) (by omega),aA,h3,aA]
def blk (s:Int):aG:=⟨32,s,0⟩
def Fi (l1:List aG) (at_:Int):List aG :=
 match (if at_ > 0 then l1[at_.toNat - 1]? else none) with
  | some c=>if c.part=1 then l1.set (at_.toNat - 1) (blk c.aM) else l1
  | none=>l1
theorem Dx (l:List aG) (at_:Int):(Fi l at_).length=l.length:=by
 unfold Fi
 split
 ·split <;> simp
 ·rfl
def x8 (l:List aG) (at_ x s:Int):List aG :=
 if ofS x=0\/at_ < 0\/at_ > l.length - ofS x then l
 else if ofS x=1 then l.set at_.toNat ⟨x,s,0⟩
 else Fi ((l.set at_.toNat ⟨x,s,1⟩).set (at_.toNat+1) ⟨x,s,2⟩) at_
theorem yU (l:List aG) (at_ x s:Int):(x8 l at_ x s).length=l.length:=by
 unfold x8
 split
 ·rfl
 ·split
  ·simp
  ·simp [Dx]
theorem put_eq (r:aE) (at_ x s:Int) (h:r.cells.length<=1000000) (ha: -9223372036854775808<=at_) (hb:at_<=9223372036854775807):om r at_ x s=some ⟨jY 0 (x8 r.cells at_ x s),false⟩:=by
 unfold om
 rw [ss r h,aA,of_eq,aA]
 have h3:=su x
 have fin: ∀ l:List aG,l.length=r.cells.length->(Option.bind (fD l) λa=>some a)=some ⟨jY 0 l,false⟩:=λl hl=>by rw [qB l (by omega),aA]
 rw [w64 (x:=(r.cells.length:Int) - ofS x) (by omega) (by omega)]
 by_cases hc:ofS x=0\/at_ < 0\/at_ > r.cells.length - ofS x
 ·have hb2:((bif (ofS x == 0) then some true else (bif (decide (at_ < 0)) then some true else some (decide (at_ > ((r.cells.length:Int) - ofS x))))):Option Bool)=some true:=by
   rcases hc with hc | hc | hc
   ·simp [hc]
   ·cases h0:(ofS x == 0) <;> simp [hc]
   ·cases h0:(ofS x == 0) <;> cases h1:decide (at_ < 0) <;> simp [hc]
  rw [hb2,aA,cond_true,aA]
  unfold x8
  rw [if_pos hc]
  exact fin _ rfl
 ·have hb2:((bif (ofS x == 0) then some true else (bif (decide (at_ < 0)) then some true else some (decide (at_ > ((r.cells.length:Int) - ofS x))))):Option Bool)=some false:=by
   have e0:(ofS x == 0)=false:=by simp; omega
   have e1:decide (at_ < 0)=false:=decide_eq_false (by omega)
   rw [e0,cond_false,e1,cond_false]
   simp
   omega
  rw [hb2,aA,cond_false]
  obtain ⟨k,rfl⟩: ∃ k:Nat,at_=k:=⟨at_.toNat,by omega⟩
  unfold x8
  rw [if_neg hc]
  by_cases h1:ofS x=1
  ·have e1:(ofS x == 1)=true:=by simp [h1]
   have hk:k < r.cells.length:=by omega
   rw [e1,cond_true,fT,List.getElem?_eq_getElem hk,aA,aA,if_pos h1,Int.toNat_natCast]
   exact fin _ (by simp)
  ·have e1:(ofS x == 1)=false:=by simp [h1]
   have h2:ofS x=2:=by omega
   have hk:k+1 < r.cells.length:=by omega
   have ew:IntKind.i64.wrap ((k:Int)+1)=((k+1:Nat):Int):=by rw [w64 (by omega) (by omega)]; omega
   rw [e1,cond_false,fT,List.getElem?_eq_getElem (by omega:k < r.cells.length),aA,ew,fT,if_neg h1,Int.toNat_natCast,Int.toNat_natCast,List.getElem?_eq_getElem (by simp; omega),aA]
   generalize hl1:(r.cells.set k ⟨x,s,1⟩).set (k+1) ⟨x,s,2⟩=l1
   have hlen:l1.length=r.cells.length:=by rw [<- hl1]; simp
   unfold Fi
   rw [show ((k:Int)).toNat=k from Int.toNat_natCast k]
   by_cases h0:(k:Int) > 0
   ·have e2:decide ((k:Int) > 0)=true:=decide_eq_true h0
    have em:IntKind.i64.wrap ((k:Int) - 1)=((k - 1:Nat):Int):=by rw [w64 (by omega) (by omega)]; omega
    have hk1:k - 1 < l1.length:=by omega
    rw [e2,cond_true,em,fT,Int.toNat_natCast,if_pos h0,List.getElem?_eq_getElem hk1,aA,aA]
    by_cases hp:(l1[k - 1]).part=1
    ·have e3:((l1[k - 1]).part == 1)=true:=by simp [hp]
     rw [e3,cond_true]
     simp only [aA,uv,if_pos hp,Int.toNat_natCast]
     exact fin _ (by simpa using hlen)
    ·have e3:((l1[k - 1]).part == 1)=false:=by simp [hp]
     rw [e3,cond_false,aA]
     simp only [if_neg hp]
     exact fin _ hlen
   ·have e2:decide ((k:Int) > 0)=false:=decide_eq_false h0
    rw [e2,cond_false,if_neg h0,aA,cond_false,aA]
    exact fin _ hlen
def nf (a b s:Int):Int->List aG->List aG
 | _,[]=>[]
 | i,c::r=>(if a<=i/\i < b then blk s else c)::nf a b s (i+1) r
theorem ot (a b s:Int): ∀ (l:List aG) (i:Int),(nf a b s i l).length=l.length
 | [],_=>rfl
 | c::r,i=>by simp [nf,ot a b s r]
theorem pL (a b s:Int): ∀ (l:List aG) (i:Int) (j:Nat),(nf a b s i l)[j]?=(l[j]?).map λc=>if a<=i+j/\i+j < b then blk s else c
 | [],_,_=>by simp [nf]
 | c::r,i,0=>by simp [nf]
 | c::r,i,j+1=>by
  have:=pL a b s r (i+1) j
  simp only [nf,List.getElem?_cons_succ,this]
  have e:i+1+(j:Int)=i+((j+1:Nat):Int):=by omega
  rw [e]
theorem erase_eq (r:aE) (a b s:Int) (h:r.cells.length<=1000000):lL r a b s=some ⟨jY 0 (nf a b s 0 r.cells),false⟩:=by
 unfold lL
 rw [ss r h,aA,u0,aA]
 generalize hA:max 0 (min a (r.cells.length:Int))=A
 generalize hB:max 0 (min b (r.cells.length:Int))=B
 have key: ∀ m (i:Nat) (l:List aG),B.toNat - i=m->l.length=r.cells.length->iter (σ:=Int×(List aG)) (ρ:=(List aG)) (λd=>(Option.bind (mq b 0 (d.2.length:Int)) λe=>(bif (decide (d.1 < e)) then (Option.bind (jH s) λf=>(Option.bind (idx d.2 d.1) λg=>some (.inl ((IntKind.i64.wrap (d.1+1)),(d.2.set d.1.toNat f))))) else some (.inr d.2)))) ((i:Int),l)=some (nf i B s 0 l):=by
  intro m
  induction m with
  | zero =>
   intro i l hm hl
   rw [cQ (r:=l)]
   ·congr 1
    apply List.ext_getElem?
    intro j
    rw [pL]
    cases hj:l[j]? with
    | none=>rfl
    | some c =>
     simp
     intro h1 h2
     omega
   ·simp only [u0,aA,hl,hB]
    have:decide ((i:Int) < B)=false:=decide_eq_false (by omega)
    rw [this,cond_false]
  | succ m ih =>
   intro i l hm hl
   have hi:i < l.length:=by omega
   rw [dN (s':=(((i+1:Nat):Int),l.set i (blk s)))]
   ·rw [ih (i+1) (l.set i (blk s)) (by omega) (by simpa using hl)]
    congr 1
    apply List.ext_getElem?
    intro j
    rw [pL,pL,List.getElem?_set]
    by_cases hij:i=j
    ·subst hij
     rw [if_pos rfl,if_pos hi,List.getElem?_eq_getElem hi]
     simp
     omega
    ·rw [if_neg hij]
     cases hj:l[j]? with
     | none=>rfl
     | some c =>
      simp only [Option.map_some,Option.some.injEq]
      by_cases h1:(i:Int)<=0+(j:Int)/\0+(j:Int) < B
      ·rw [if_pos h1,if_pos (by omega)]
      ·rw [if_neg h1,if_neg (by omega)]
   ·simp only [u0,aA,hl,hB]
    have:decide ((i:Int) < B)=true:=decide_eq_true (by omega)
    rw [this,cond_true,fT,List.getElem?_eq_getElem hi,w64 (by omega) (by omega)]
    rfl
 obtain ⟨k,hk⟩: ∃ k:Nat,A=k:=⟨A.toNat,by omega⟩
 rw [hk,key _ k r.cells rfl rfl,aA,qB _ (by rw [ot]; exact h),aA]
 congr 2
 congr 1
 apply List.ext_getElem?
 intro j
 rw [pL,pL]
 cases hj:r.cells[j]? with
 | none=>rfl
 | some c =>
  have hjl:=(List.getElem?_eq_some_iff.1 hj).1
  simp only [Option.map_some,Option.some.injEq]
  by_cases h1:a<=0+(j:Int)/\0+(j:Int) < b
  ·rw [if_pos h1,if_pos (by omega)]
  ·rw [if_neg h1,if_neg (by omega)]
def pT (l:List aG) (k n:Nat) (s:Int):List aG:=(l.take k++List.replicate n (blk s)++l.drop k).take l.length
def qC (l:List aG) (k n:Nat) (s:Int):List aG:=l.take k++l.drop (k+n)++List.replicate n (blk s)
def rC (l:List aG) (s:Int):List aG:=l.set (l.length - 1) ⟨32,s,3⟩
theorem insert_eq (r:aE) (at_ n s:Int) (h:r.cells.length<=1000) (ha: -9223372036854775808<=at_) (hb:at_<=9223372036854775807):mK r at_ n s=some ⟨jY 0 (if cX r.cells at_ n=0 then r.cells else pT r.cells at_.toNat (cX r.cells at_ n).toNat s),false⟩:=by
 unfold mK
 rw [Bt r at_ n (by omega) ha hb,aA]
 by_cases h0:cX r.cells at_ n=0
 ·have e:(cX r.cells at_ n == 0)=true:=by simp [h0]
  rw [e,cond_true,ss r (by omega),aA,qB _ (by omega),aA,if_pos h0]
 ·have e:(cX r.cells at_ n == 0)=false:=by simp [h0]
  rw [e,cond_false,if_neg h0]
  have hw:cX r.cells at_ n=max 0 (min n (r.cells.length - at_))/\0<=at_/\at_ < r.cells.length:=by
   unfold cX at h0 ⊢
   by_cases hc:at_ < 0\/at_>=r.cells.length
   ·rw [if_pos hc] at h0; exact absurd rfl h0
   ·rw [if_neg hc]; exact ⟨rfl,by omega,by omega⟩
  obtain ⟨hw,h1,h2⟩:=hw
  generalize cX r.cells at_ n=w at hw h0
  obtain ⟨k,rfl⟩: ∃ k:Nat,at_=k:=⟨at_.toNat,by omega⟩
  obtain ⟨m,rfl⟩: ∃ m:Nat,w=m:=⟨w.toNat,by omega⟩
  have c1:cut r.cells 0 (k:Int)=r.cells.take k:=by simp [cut]
  have c2:cut r.cells (k:Int) (r.cells.length:Int)=r.cells.drop k:=by simp [cut]
  rw [bP (by omega) (by omega) (by omega),aA,bP (by omega) (by omega) (by omega),aA,uZ _ _ (by omega),aA,c1,c2,Bu _ (by simp [total]; omega) (by simp),aA]
  have hl:([r.cells.take k,List.replicate (m:Int).toNat (blk s),r.cells.drop k].flatten).length=r.cells.length+m:=by simp; omega
  change (Option.bind (chk (dC 0 (r.cells.length:Int) (([r.cells.take k,List.replicate (m:Int).toNat (blk s),r.cells.drop k].flatten).length:Int))) _)=_
  rw [hl,bP (by omega) (by omega) (by omega),aA]
  have c3:cut ([r.cells.take k,List.replicate (m:Int).toNat (blk s),r.cells.drop k].flatten) 0 (r.cells.length:Int)=pT r.cells (k:Int).toNat (m:Int).toNat s:=by
   unfold cut pT
   simp
  change (Option.bind (fD (cut ([r.cells.take k,List.replicate (m:Int).toNat (blk s),r.cells.drop k].flatten) 0 (r.cells.length:Int))) _)=_
  rw [c3,qB _ (by unfold pT; simp; omega),aA]
theorem HL (r:aE) (at_ n s:Int) (h:r.cells.length<=1000) (ha: -9223372036854775808<=at_) (hb:at_<=9223372036854775807):mL r at_ n s=some ⟨jY 0 (if cX r.cells at_ n=0 then r.cells else qC r.cells at_.toNat (cX r.cells at_ n).toNat s),false⟩:=by
 unfold mL
 rw [Bt r at_ n (by omega) ha hb,aA]
 by_cases h0:cX r.cells at_ n=0
 ·have e:(cX r.cells at_ n == 0)=true:=by simp [h0]
  rw [e,cond_true,ss r (by omega),aA,qB _ (by omega),aA,if_pos h0]
 ·have e:(cX r.cells at_ n == 0)=false:=by simp [h0]
  rw [e,cond_false,if_neg h0]
  have hw:cX r.cells at_ n=max 0 (min n (r.cells.length - at_))/\0<=at_/\at_ < r.cells.length:=by
   unfold cX at h0 ⊢
   by_cases hc:at_ < 0\/at_>=r.cells.length
   ·rw [if_pos hc] at h0; exact absurd rfl h0
   ·rw [if_neg hc]; exact ⟨rfl,by omega,by omega⟩
  obtain ⟨hw,h1,h2⟩:=hw
  generalize cX r.cells at_ n=w at hw h0
  obtain ⟨k,rfl⟩: ∃ k:Nat,at_=k:=⟨at_.toNat,by omega⟩
  obtain ⟨m,rfl⟩: ∃ m:Nat,w=m:=⟨w.toNat,by omega⟩
  have c1:cut r.cells 0 (k:Int)=r.cells.take k:=by simp [cut]
  have c2:cut r.cells ((k+m:Nat):Int) (r.cells.length:Int)=r.cells.drop (k+m):=by
   unfold cut
   rw [Int.toNat_natCast,Int.toNat_natCast,List.take_length]
  have ek:((k:Int)+(m:Int))=((k+m:Nat):Int):=by omega
  have hkm:k+m<=r.cells.length:=by omega
  rw [w64 (by omega) (by omega),ek,bP (by omega) (by omega) (by omega),aA,bP (by omega) (by omega) (by omega),aA,uZ _ _ (by omega),aA,c1,c2,Bu _ (by simp [total]; omega) (by simp),aA]
  have c3:[r.cells.take k,r.cells.drop (k+m),List.replicate (m:Int).toNat (blk s)].flatten=qC r.cells (k:Int).toNat (m:Int).toNat s:=by
   unfold qC
   simp
  change (Option.bind (fD [r.cells.take k,r.cells.drop (k+m),List.replicate (m:Int).toNat (blk s)].flatten) _)=_
  rw [c3,qB _ (by unfold qC; simp; omega),aA]
theorem fill_eq (r:aE) (s:Int) (h:r.cells.length<=1000000):nO r s=some ⟨jY 0 (rC r.cells s),true⟩:=by
 unfold nO
 rw [ss r h,aA]
 by_cases h0:(r.cells.length:Int) > 0
 ·have e:decide ((r.cells.length:Int) > 0)=true:=decide_eq_true h0
  have ew:IntKind.i64.wrap ((r.cells.length:Int) - 1)=((r.cells.length - 1:Nat):Int):=by rw [w64 (by omega) (by omega)]; omega
  rw [e,cond_true,ew,fT,List.getElem?_eq_getElem (by omega),aA,aA,Int.toNat_natCast]
  change (Option.bind (fD (rC r.cells s)) _)=_
  rw [qB _ (by simp [rC]; exact h),aA]
 ·have e:decide ((r.cells.length:Int) > 0)=false:=decide_eq_false h0
  have hn:r.cells=[]:=List.eq_nil_of_length_eq_zero (by omega)
  rw [e,cond_false,aA,qB _ h,aA]
  simp [rC,hn]
def pU (l:List aG) (w:Nat):List aG:=l.take w++List.replicate (w - l.length) (blk 0)
theorem HM (r:aE) (w:Int) (h:r.cells.length<=1000000):kU r w=some (if (max 0 (min w 1000)).toNat=r.cells.length then r else ⟨jY 0 (pU r.cells (max 0 (min w 1000)).toNat),false⟩):=by
 unfold kU
 rw [u0,aA,ss r h,aA]
 generalize hv:max 0 (min w 1000)=v
 obtain ⟨k,rfl⟩: ∃ k:Nat,v=k:=⟨v.toNat,by omega⟩
 rw [Int.toNat_natCast]
 by_cases h0:k=r.cells.length
 ·have e:((k:Int) == (r.cells.length:Int))=true:=by simp [h0]
  rw [e,cond_true,if_pos h0]
 ·have e:((k:Int) == (r.cells.length:Int))=false:=by simp; omega
  have ec:eM (k:Int) (r.cells.length:Int)=((min k r.cells.length:Nat):Int):=by rw [dP]; omega
  have c1:cut r.cells 0 ((min k r.cells.length:Nat):Int)=r.cells.take k:=by
   simp only [cut,Int.toNat_natCast,Int.toNat_zero,List.drop_zero]
   rw [<- List.take_take,List.take_length]
  rw [e,cond_false,if_neg h0,ec,w64 (by omega) (by omega),uZ _ _ (by omega),aA,bP (by omega) (by omega) (by omega),aA,c1,bL (by simp; omega),aA]
  have c2:r.cells.take k++List.replicate ((k:Int) - (r.cells.length:Int)).toNat (blk 0)=pU r.cells k:=by
   unfold pU
   congr 2
   omega
  change (Option.bind (fD (r.cells.take k++List.replicate ((k:Int) - (r.cells.length:Int)).toNat (blk 0))) _)=_
  rw [c2,qB _ (by unfold pU; simp; omega),aA]
theorem Cd (w s:Int):lR w s=some ⟨List.replicate (max 0 (min w 1000)).toNat (blk s),false⟩:=by
 unfold lR
 rw [u0,aA,uZ _ _ (by omega),aA]
 rfl
def tP:Nat->List aG->List aG
 | 0,l=>l
 | n+1,l=>if l.getLast?=some (blk 0) then tP n l.dropLast else l
def N6 (l:List aG):List aG:=tP l.length l
def isG (c:aG):Bool:=c.part == 0 || c.part == 1
def wm (l:List aG):List aJ:=(l.filter isG).map λc=>⟨c.rune,c.aM⟩
def qN (r:aE):List aJ:=wm (if r.wrapped then r.cells else N6 r.cells)
theorem yV (l:List aG):(wm l).length<=l.length:=by
 unfold wm
 rw [List.length_map]
 exact List.length_filter_le _ _
theorem tr: ∀ (n:Nat) (l:List aG),(tP n l).length<=l.length
 | 0,l=>Nat.le_refl _
 | n+1,l=>by
  unfold tP
  split
  ·have:=tr n l.dropLast
   rw [List.length_dropLast] at this
   omega
  ·exact Nat.le_refl _
theorem qO (x y:aG):((x.rune == y.rune) && ((x.aM == y.aM) && ((x.part == y.part) && true)))=decide (x=y):=by
 obtain ⟨a,b,c⟩:=x
 obtain ⟨d,e,f⟩:=y
 by_cases h1:a=d <;> by_cases h2:b=e <;> by_cases h3:c=f <;> simp [h1,h2,h3]
theorem HO (r:aE) (h:r.cells.length<=1000000):kS r=some (qN r):=by
 unfold kS
 have k1: ∀ (n:Nat) (l:List aG),l.length=n->n<=1000000->iter (σ:=(List aG)) (ρ:=(List aG)) (λa=>(Option.bind ((bif (!r.wrapped) then (bif (decide ((a.length:Int) > 0)) then (Option.bind (idx a (IntKind.i64.wrap ((a.length:Int) - 1))) λg=>(Option.bind (jH 0) λi=>some ((g.rune == i.rune) && ((g.aM == i.aM) && ((g.part == i.part) && true))))) else some false) else some false):Option Bool) λj=>(bif j then (Option.bind (chk (dC 0 (IntKind.i64.wrap ((a.length:Int) - 1)) a.length)) λ_=>some (.inl (cut a 0 (IntKind.i64.wrap ((a.length:Int) - 1))))) else some (.inr a)))) l=some (if r.wrapped then l else tP n l):=by
  intro n
  induction n with
  | zero =>
   intro l hl hn
   rw [cQ (r:=l)]
   ·simp [tP]
   ·cases r.wrapped <;> simp [hl]
  | succ n ih =>
   intro l hl hn
   cases hw:r.wrapped with
   | true =>
    rw [cQ (r:=l)]
    ·simp
    ·simp [hw]
   | false =>
    have hp:decide ((l.length:Int) > 0)=true:=decide_eq_true (by omega)
    have ew:IntKind.i64.wrap ((l.length:Int) - 1)=((l.length - 1:Nat):Int):=by rw [w64 (by omega) (by omega)]; omega
    have hlt:l.length - 1 < l.length:=by omega
    have hlast:l.getLast?=some l[l.length - 1]:=by rw [List.getLast?_eq_getElem?,List.getElem?_eq_getElem hlt]
    unfold tP
    rw [hlast]
    by_cases hb:l[l.length - 1]=blk 0
    ·rw [dN (s':=l.dropLast)]
     ·have:=ih l.dropLast (by rw [List.length_dropLast]; omega) (by omega)
      rw [hw] at this
      simp only [hw,Bool.not_false,cond_true] at this ⊢
      rw [this,if_neg (by simp),if_neg (by simp),if_pos (by rw [hb])]
     ·simp only [hw,Bool.not_false,cond_true,hp,ew,fT,List.getElem?_eq_getElem hlt,aA,uv,qO]
      have:decide (l[l.length - 1]=⟨32,0,0⟩)=true:=decide_eq_true hb
      rw [this,cond_true,bP (by omega) (by omega) (by omega),aA]
      congr 2
      simp [cut,List.dropLast_eq_take]
    ·rw [cQ (r:=l)]
     ·rw [if_neg (by simp),if_neg (by simpa using hb)]
     ·simp only [hw,Bool.not_false,cond_true,hp,ew,fT,List.getElem?_eq_getElem hlt,aA,uv,qO]
      have:decide (l[l.length - 1]=⟨32,0,0⟩)=false:=decide_eq_false hb
      rw [this,cond_false]
 rw [k1 r.cells.length r.cells rfl h,aA]
 have hE:(if r.wrapped then r.cells else tP r.cells.length r.cells).length<=1000000:=by
  split
  ·exact h
  ·exact Nat.le_trans (tr _ _) h
 change (Option.bind _ _)=some (wm (if r.wrapped then r.cells else tP r.cells.length r.cells))
 generalize (if r.wrapped then r.cells else tP r.cells.length r.cells)=E at hE
 have k2: ∀ (b d:List aG),d++b=E->iter (σ:=Int×(List aJ)) (ρ:=(List aJ)) (λe=>(bif (decide (e.1 < (E.length:Int))) then (Option.bind ((Option.bind (idx E e.1) λf=>(Option.bind ((bif (f.part == 0) then some true else some (f.part == 1)):Option Bool) λk=>(bif k then (Option.bind (chk (eH e.2.length [(aJ.mk f.rune f.aM)].length 16)) λ_=>some (e.2++[(aJ.mk f.rune f.aM)])) else some e.2))):Option (List aJ)) λm=>some (.inl ((IntKind.i64.wrap (e.1+1)),m))) else some (.inr e.2))) ((d.length:Int),wm d)=some (wm E):=by
  intro b
  induction b with
  | nil =>
   intro d hd
   simp at hd
   subst hd
   rw [cQ (r:=wm d)]
   simp
  | cons c b ih =>
   intro d hd
   have hl:E.length=d.length+b.length+1:=by rw [<- hd]; simp; omega
   have hg:wm (d++[c])=bif isG c then wm d++[⟨c.rune,c.aM⟩] else wm d:=by
    unfold wm
    rw [List.filter_append]
    cases hc:isG c <;> simp [hc]
   rw [dN (s':=(((d++[c]).length:Int),wm (d++[c])))]
   ·exact ih (d++[c]) (by simpa using hd)
   ·have hc:decide ((d.length:Int) < (E.length:Int))=true:=by simp; omega
    have hx:idx E (d.length:Int)=some c:=by rw [<- hd]; exact nX d b c
    have hi:((bif (c.part == 0) then some true else some (c.part == 1)):Option Bool)=some (isG c):=by unfold isG; cases c.part == 0 <;> rfl
    have hgl:=yV d
    simp only [hc,cond_true,hx,aA,hi]
    rw [hg,w64 (by omega) (by omega)]
    cases hc2:isG c with
    | true=>rw [cond_true,bL (by simp; omega),aA,aA]; simp
    | false=>simp
 have h0:=k2 E [] rfl
 have e0:((([]:List aG).length:Nat):Int)=0:=rfl
 have e1:wm []=[]:=rfl
 rw [e0,e1] at h0
 rw [h0,aA]
theorem Jv (a b:List aG) (h:a.length<=1000000):gI a b=some (decide (a=b)):=by
 unfold gI
 by_cases hl:a.length=b.length
 ·have e:((a.length:Int) != (b.length:Int))=false:=by simp [hl]
  rw [e,cond_false]
  have key: ∀ (x y d d2:List aG),d++x=a->d2++y=b->d=d2->x.length=y.length->iter (σ:=Int) (ρ:=Unit ⊕ Bool) (λf=>(bif (decide (f < (a.length:Int))) then (Option.bind (idx a f) λg=>(Option.bind (idx b f) λi=>(bif (!((g.rune == i.rune) && ((g.aM == i.aM) && ((g.part == i.part) && true)))) then (m6 (some false)) else some (.inl (IntKind.i64.wrap (f+1)))))) else some (.inr (.inl ())))) (d.length:Int)=some (if x=y then .inl () else .inr false):=by
   intro x
   induction x with
   | nil =>
    intro y d d2 hd hd2 hdd hxy
    have:y=[]:=List.eq_nil_of_length_eq_zero hxy.symm
    subst this
    simp at hd
    subst hd
    rw [cQ (r:= .inl ())]
    ·simp
    ·simp
   | cons c x ih =>
    intro y d d2 hd hd2 hdd hxy
    cases y with
    | nil=>simp at hxy
    | cons c2 y =>
     subst hdd
     have hal:a.length=d.length+x.length+1:=by rw [<- hd]; simp; omega
     have hc:decide ((d.length:Int) < (a.length:Int))=true:=by simp; omega
     have hx:idx a (d.length:Int)=some c:=by rw [<- hd]; exact nX d x c
     have hx2:idx b (d.length:Int)=some c2:=by rw [<- hd2]; exact nX d y c2
     by_cases hcc:c=c2
     ·subst hcc
      rw [dN (s':=((d++[c]).length:Int))]
      ·rw [ih y (d++[c]) (d++[c]) (by simpa using hd) (by simpa using hd2) rfl (by simpa using hxy)]
       simp
      ·simp only [hc,cond_true,hx,hx2,aA,qO]
       rw [w64 (by omega) (by omega)]
       simp
     ·rw [cQ (r:= .inr false)]
      ·simp [hcc]
      ·simp only [hc,cond_true,hx,hx2,aA,qO]
       have:decide (c=c2)=false:=decide_eq_false hcc
       rw [this]
       rfl
  have h0:=key a b [] [] rfl rfl rfl hl
  have e0:((([]:List aG).length:Nat):Int)=0:=rfl
  rw [e0] at h0
  rw [h0,aA]
  by_cases hab:a=b
  ·rw [if_pos hab]; simp [hab]
  ·rw [if_neg hab]; simp [hab]
 ·have e:((a.length:Int) != (b.length:Int))=true:=by simp; omega
  rw [e,cond_true]
  have:a≠b:=λh=>hl (by rw [h])
  simp [this]
theorem zj (r q:aE) (h:r.cells.length<=1000000):jI r q=some (decide (r=q)):=by
 unfold jI
 obtain ⟨a,x⟩:=r
 obtain ⟨b,y⟩:=q
 rw [Jv a b h]
 cases x <;> cases y <;> simp
theorem pd (l:List aG) (h:l.length<=1000000):fL (l.map tc)=some ⟨(jY 0 l).map tc,false⟩:=by
 unfold fL
 have hml:(l.map tc).length=l.length:=List.length_map _
 rw [hml]
 have key: ∀ (r d o:List aG),d++r=l->o.length=d.length->iter (σ:=Int×(List aR)) (ρ:=(List aR)) (λb=>(bif (decide (b.1 < (l.length:Int))) then (Option.bind (idx (l.map tc) b.1) λf=>(Option.bind ((bif (f.part == 1) then (bif ((IntKind.i64.wrap (b.1+1)) == (l.length:Int)) then some true else (Option.bind (idx (l.map tc) (IntKind.i64.wrap (b.1+1))) λg=>some (g.part != 2))) else (bif (f.part == 2) then (bif (b.1 == 0) then some true else (Option.bind (idx b.2 (IntKind.i64.wrap (b.1 - 1))) λi=>some (i.part != 1))) else (bif (f.part == 3) then some (decide (b.1 < (IntKind.i64.wrap ((l.length:Int) - 1)))) else some false))):Option Bool) λk=>(Option.bind ((bif k then some (aR.mk 32 f.aM 0) else some f):Option aR) λj=>(Option.bind (chk (eH b.2.length [j].length 24)) λ_=>some (.inl ((IntKind.i64.wrap (b.1+1)),(b.2++[j]))))))) else some (.inr b.2))) ((d.length:Int),o.map tc)=some ((o++jY (oR o) r).map tc):=by
  intro r
  induction r with
  | nil =>
   intro d o hd ho
   simp at hd
   subst hd
   rw [cQ (r:=o.map tc)]
   ·simp [jY]
   ·simp
  | cons c r ih =>
   intro d o hd ho
   have hl:l.length=d.length+r.length+1:=by rw [<- hd]; simp; omega
   rw [dN (s':=(((d++[c]).length:Int),(o++[xZ (oR o) c r]).map tc))]
   ·rw [ih (d++[c]) (o++[xZ (oR o) c r]) (by simpa using hd) (by simp [ho]),z9]
    simp [jY]
   ·have hc:decide ((d.length:Int) < (l.length:Int))=true:=by simp; omega
    have em:l.map tc=d.map tc++tc c::r.map tc:=by rw [<- hd]; simp
    have hdl:(d.map tc).length=d.length:=List.length_map _
    have hx:idx (l.map tc) (d.length:Int)=some (tc c):=by rw [em,<- hdl]; exact nX _ _ _
    have hx2:idx (l.map tc) ((d.length:Int)+1)=(r.map tc)[0]?:=by rw [em,<- hdl]; exact Dw _ _ _
    simp only [hc,cond_true,hx,aA]
    rw [w64 (x:=(d.length:Int)+1) (by omega) (by omega),w64 (x:=(d.length:Int) - 1) (by omega) (by omega),w64 (x:=(l.length:Int) - 1) (by omega) (by omega),hx2]
    have hbad:((bif ((tc c).part == 1) then (bif (((d.length:Int)+1) == (l.length:Int)) then some true else (Option.bind ((r.map tc)[0]?) λg=>some (g.part != 2))) else (bif ((tc c).part == 2) then (bif ((d.length:Int) == 0) then some true else (Option.bind (idx (o.map tc) ((d.length:Int) - 1)) λi=>some (i.part != 1))) else (bif ((tc c).part == 3) then some (decide ((d.length:Int) < (l.length:Int) - 1)) else some false))):Option Bool)=some (AX (oR o) c r):=by
     have htc:(tc c).part=c.part:=rfl
     rw [htc]
     unfold AX
     cases h1:(c.part == 1) with
     | true =>
      simp only [cond_true]
      cases r with
      | nil =>
       have:(((d.length:Int)+1) == (l.length:Int))=true:=by simp at hl ⊢; omega
       rw [this]
       rfl
      | cons e r =>
       have:(((d.length:Int)+1) == (l.length:Int))=false:=by simp at hl ⊢; omega
       rw [this]
       rfl
     | false =>
      simp only [cond_false]
      cases h2:(c.part == 2) with
      | true =>
       simp only [cond_true]
       cases ho0:o with
       | nil =>
        have:d.length=0:=by rw [<- ho,ho0]; rfl
        have:((d.length:Int) == 0)=true:=by simp [this]
        rw [this]
        rfl
       | cons a t =>
        have hpos:0 < d.length:=by rw [<- ho,ho0]; simp
        have hne:((d.length:Int) == 0)=false:=by rw [beq_eq_false_iff_ne]; omega
        have hol:((a::t).map tc).length=d.length:=by rw [List.length_map,<- ho0,ho]
        have hi:=Dv ((a::t).map tc) [] ⟨0,0,0⟩ ⟨0,0,0⟩ (by rw [hol]; exact hpos)
        have hlt:d.length - 1 < ((a::t).map tc).length:=by rw [hol]; omega
        have e1:((d.length:Int) - 1)=((d.length - 1:Nat):Int):=by omega
        rw [hol,e1,fT,List.getElem?_append_left hlt] at hi
        rw [hne,cond_false,e1,fT,hi,aA]
        have e2:oR (a::t)=(vO (⟨0,0,0⟩:aR) ((a::t).map tc)).part:=by
         unfold oR
         rw [<- x6 (λc:aR=>c.part) ⟨0,0,0⟩ ((a::t).map tc),List.map_map]
         rfl
        rw [e2]
      | false =>
       simp only [cond_false]
       cases h3:(c.part == 3) with
       | true =>
        simp only [cond_true]
        cases r with
        | nil =>
         have:decide ((d.length:Int) < (l.length:Int) - 1)=false:=decide_eq_false (by simp at hl; omega)
         rw [this]
         rfl
        | cons e r =>
         have:decide ((d.length:Int) < (l.length:Int) - 1)=true:=decide_eq_true (by simp at hl; omega)
         rw [this]
         rfl
       | false=>rfl
    rw [hbad,aA]
    have hfix:((bif AX (oR o) c r then some (aR.mk 32 (tc c).aM 0) else some (tc c)):Option aR)=some (tc (xZ (oR o) c r)):=by
     unfold xZ
     cases AX (oR o) c r <;> rfl
    rw [hfix,aA,bL (by simp; omega),aA]
    simp
 have h0:=key l [] [] rfl rfl
 have e0:((([]:List aG).length:Nat):Int)=0:=rfl
 rw [e0] at h0
 simp only [List.map_nil,List.nil_append] at h0
 rw [h0,aA]
 rfl
theorem Ce (n lo hi:Int) (h:lo<=hi):o4 n lo hi=some (max lo (min n hi)):=by
 unfold o4
 by_cases h1:n < lo
 ·rw [decide_eq_true h1,cond_true]; congr 1; omega
 ·rw [decide_eq_false h1,cond_false]
  by_cases h2:n > hi
  ·rw [decide_eq_true h2,cond_true]; congr 1; omega
  ·rw [decide_eq_false h2,cond_false]; congr 1; omega
theorem u2 (w s:Int):kQ w s=some ⟨(List.replicate (max 0 (min w 1000)).toNat (blk s)).map tc,false⟩:=by
 unfold kQ
 generalize hv:max 0 (min w 1000)=v
 obtain ⟨k,rfl⟩: ∃ k:Nat,v=k:=⟨v.toNat,by omega⟩
 have hk:k<=1000:=by omega
 have key: ∀ m j,k - j=m->j<=k->iter (σ:=(List aR)×Int) (ρ:=(List aR)) (λa=>(Option.bind (o4 w 0 1000) λb=>(bif (decide (a.2 < b)) then (Option.bind (chk (eH a.1.length [(aR.mk 32 s 0)].length 24)) λ_=>some (.inl ((a.1++[(aR.mk 32 s 0)]),(IntKind.i64.wrap (a.2+1))))) else some (.inr a.1)))) (List.replicate j (tc (blk s)),(j:Int))=some (List.replicate k (tc (blk s))):=by
  intro m
  induction m with
  | zero =>
   intro j hm hj
   have:j=k:=by omega
   subst this
   rw [cQ (r:=List.replicate j (tc (blk s)))]
   simp only [Ce w 0 1000 (by omega),hv,aA]
   simp
  | succ m ih =>
   intro j hm hj
   rw [dN (s':=(List.replicate (j+1) (tc (blk s)),((j+1:Nat):Int)))]
   ·exact ih (j+1) (by omega) (by omega)
   ·simp only [Ce w 0 1000 (by omega),hv,aA]
    have:decide ((j:Int) < (k:Int))=true:=decide_eq_true (by omega)
    rw [this,cond_true,bL (by simp; omega),aA,w64 (by omega) (by omega),List.replicate_succ']
    rfl
 have h0:=key (k - 0) 0 rfl (Nat.zero_le _)
 have e0:((0:Nat):Int)=0:=rfl
 rw [e0,List.replicate_zero] at h0
 rw [h0,aA,Int.toNat_natCast,List.map_replicate]
theorem Jw (n:Nat) (h:n<=1000000):chk (eH ([]:List aR).length n 24)=some ():=bL (by simp; omega)
theorem mQ (l:List aG):(l.map tc).length=l.length:=List.length_map _
theorem OX (s:Int):tc (blk s)=⟨32,s,0⟩:=rfl
theorem HP (l:List aG) (w:Bool) (a b s:Int) (h:l.length<=1000000):pR ⟨l.map tc,w⟩ a b s=some ⟨(jY 0 (nf a b s 0 l)).map tc,false⟩:=by
 unfold pR
 simp only [mQ,List.nil_append]
 rw [Jw _ h,aA]
 have key: ∀ (r d o:List aG),d++r=l->o.length=d.length->iter (σ:=Int×(List aR)) (ρ:=(List aR)) (λe=>(bif (decide (e.1 < (l.length:Int))) then (Option.bind ((Option.bind ((bif (decide (e.1>=a)) then some (decide (e.1 < b)) else some false):Option Bool) λf=>(bif f then (Option.bind (idx e.2 e.1) λi=>some (e.2.set e.1.toNat (aR.mk 32 s 0))) else some e.2)):Option (List aR)) λg=>some (.inl ((IntKind.i64.wrap (e.1+1)),g))) else some (.inr e.2))) ((d.length:Int),(o++r).map tc)=some ((o++nf a b s (d.length:Int) r).map tc):=by
  intro r
  induction r with
  | nil =>
   intro d o hd ho
   simp at hd
   subst hd
   rw [cQ (r:=(o++[]).map tc)]
   ·simp [nf]
   ·simp
  | cons c r ih =>
   intro d o hd ho
   have hl:l.length=d.length+r.length+1:=by rw [<- hd]; simp; omega
   have hc:decide ((d.length:Int) < (l.length:Int))=true:=by simp; omega
   generalize hc':(if a<=(d.length:Int)/\(d.length:Int) < b then blk s else c)=c'
   rw [dN (s':=(((d++[c]).length:Int),((o++[c'])++r).map tc))]
   ·rw [ih (d++[c]) (o++[c']) (by simpa using hd) (by simp [ho])]
    simp [nf,hc']
   ·simp only [hc,cond_true]
    rw [w64 (by omega) (by omega)]
    have hx:idx ((o++c::r).map tc) (d.length:Int)=some (tc c):=by
     rw [<- ho,List.map_append,List.map_cons,<- mQ o]
     exact nX _ _ _
    by_cases h1:a<=(d.length:Int)
    ·by_cases h2:(d.length:Int) < b
     ·rw [decide_eq_true (show (d.length:Int)>=a from h1),cond_true,decide_eq_true h2,aA,cond_true,hx,aA,aA]
      rw [if_pos ⟨h1,h2⟩] at hc'
      subst hc'
      congr 2
      refine Prod.ext (by simp) ?_
      show ((o++c::r).map tc).set ((d.length:Int).toNat) _=_
      rw [Int.toNat_natCast,<- ho,List.map_append,List.map_cons]
      simp [OX]
     ·rw [decide_eq_true (show (d.length:Int)>=a from h1),cond_true,decide_eq_false h2,aA,cond_false,aA]
      rw [if_neg (by omega)] at hc'
      subst hc'
      simp
    ·rw [decide_eq_false (show ¬ (d.length:Int)>=a from h1),cond_false,aA,cond_false,aA]
     rw [if_neg (by omega)] at hc'
     subst hc'
     simp
 have h0:=key l [] [] rfl rfl
 have e0:((([]:List aG).length:Nat):Int)=0:=rfl
 rw [e0] at h0
 simp only [List.nil_append] at h0
 rw [h0,aA,pd _ (by rw [ot]; exact h),aA]
theorem Jx (l:List aG) (w:Bool) (s:Int) (h:l.length<=1000000):o8 ⟨l.map tc,w⟩ s=some ⟨(jY 0 (rC l s)).map tc,true⟩:=by
 unfold o8
 simp only [mQ,List.nil_append]
 rw [Jw _ h,aA]
 by_cases h0:(l.length:Int) > 0
 ·have ew:IntKind.i64.wrap ((l.length:Int) - 1)=((l.length - 1:Nat):Int):=by rw [w64 (by omega) (by omega)]; omega
  rw [decide_eq_true h0,cond_true,ew,fT,List.getElem?_eq_getElem (by rw [mQ]; omega),aA,aA,Int.toNat_natCast]
  have e:(l.map tc).set (l.length - 1) ⟨32,s,3⟩=(rC l s).map tc:=by
   unfold rC
   rw [List.map_set]
   rfl
  rw [e,pd _ (by simp [rC]; exact h),aA]
 ·have hn:l=[]:=List.eq_nil_of_length_eq_zero (by omega)
  rw [decide_eq_false h0,cond_false,aA,pd _ h,aA]
  simp [rC,hn]
theorem Qo (x y:Int):(if x < y then x else y)=min y x:=by split <;> omega
theorem Fj (l:List aG) (w:Bool) (at_ n s:Int) (h:l.length<=1000) (ha: -9223372036854775808<=at_) (hb:at_<=9223372036854775807):o6 ⟨l.map tc,w⟩ at_ n s=some ⟨(jY 0 (if cX l at_ n=0 then l else pT l at_.toNat (cX l at_ n).toNat s)).map tc,false⟩:=by
 unfold o6
 simp only [mQ,List.nil_append,Qo]
 by_cases h0:at_ < 0\/at_>=l.length\/n<=0
 ·have e:((bif (decide (at_ < 0)) then some true else (bif (decide (at_>=(l.length:Int))) then some true else some (decide (n<=0)))):Option Bool)=some true:=by
   rcases h0 with h0 | h0 | h0
   ·simp [h0]
   ·cases h1:decide (at_ < 0) <;> simp [h0]
   ·cases h1:decide (at_ < 0) <;> cases h2:decide (at_>=(l.length:Int)) <;> simp [h0]
  have hw:cX l at_ n=0:=by unfold cX; split <;> omega
  rw [e,aA,cond_true,pd _ (by omega),aA,if_pos hw]
 ·have e:((bif (decide (at_ < 0)) then some true else (bif (decide (at_>=(l.length:Int))) then some true else some (decide (n<=0)))):Option Bool)=some false:=by
   rw [decide_eq_false (by omega: ¬ at_ < 0),decide_eq_false (by omega: ¬ at_>=(l.length:Int)),decide_eq_false (by omega: ¬ n<=0)]
   rfl
  have hw:cX l at_ n=min n (l.length - at_):=by unfold cX; rw [if_neg (by omega)]; omega
  rw [e,aA,cond_false,w64 (x:=(l.length:Int) - at_) (by omega) (by omega),dP,<- hw]
  have hb2:0 < cX l at_ n/\at_+cX l at_ n<=l.length:=by omega
  rw [if_neg (by omega)]
  generalize cX l at_ n=v at hb2
  clear hw e
  obtain ⟨k,rfl⟩: ∃ k:Nat,at_=k:=⟨at_.toNat,by omega⟩
  obtain ⟨m,rfl⟩: ∃ m:Nat,v=m:=⟨v.toNat,by omega⟩
  have c1:cut (l.map tc) 0 (k:Int)=(l.take k).map tc:=by simp [cut,List.map_take]
  have c2:cut (l.map tc) (k:Int) ((l.length:Int) - (m:Int))=((l.take (l.length - m)).drop k).map tc:=by
   have e:((l.length:Int) - (m:Int)).toNat=l.length - m:=by omega
   unfold cut
   rw [e,Int.toNat_natCast,List.map_drop,List.map_take]
  rw [bP (by omega) (by omega) (by omega),aA,c1,bL (by simp; omega),aA,u2,aA,w64 (x:=(l.length:Int) - (m:Int)) (by omega) (by omega),bL (by simp; omega),aA,bP (by omega) (by omega) (by omega),aA,c2,bL (by simp; omega),aA]
  have em:(max 0 (min (m:Int) 1000)).toNat=m:=by omega
  rw [em,<- List.map_append,<- List.map_append,Int.toNat_natCast,Int.toNat_natCast]
  have ei:l.take k++List.replicate m (blk s)++(l.take (l.length - m)).drop k=pT l k m s:=by
   unfold pT
   have hkm:k+m<=l.length:=by omega
   have hA:(l.take k++List.replicate m (blk s)).length=k+m:=by rw [List.length_append,List.length_take,List.length_replicate]; omega
   have hT:=List.take_of_length_le (l:=l.take k++List.replicate m (blk s)) (i:=l.length) (by rw [hA]; exact hkm)
   rw [List.take_append,hA,hT,List.drop_take,Nat.sub_sub,Nat.add_comm m k]
  rw [ei,pd _ (by unfold pT; simp; omega),aA]
theorem Fk (l:List aG) (w:Bool) (at_ n s:Int) (h:l.length<=1000) (ha: -9223372036854775808<=at_) (hb:at_<=9223372036854775807):o7 ⟨l.map tc,w⟩ at_ n s=some ⟨(jY 0 (if cX l at_ n=0 then l else qC l at_.toNat (cX l at_ n).toNat s)).map tc,false⟩:=by
 unfold o7
 simp only [mQ,List.nil_append,Qo]
 by_cases h0:at_ < 0\/at_>=l.length\/n<=0
 ·have e:((bif (decide (at_ < 0)) then some true else (bif (decide (at_>=(l.length:Int))) then some true else some (decide (n<=0)))):Option Bool)=some true:=by
   rcases h0 with h0 | h0 | h0
   ·simp [h0]
   ·cases h1:decide (at_ < 0) <;> simp [h0]
   ·cases h1:decide (at_ < 0) <;> cases h2:decide (at_>=(l.length:Int)) <;> simp [h0]
  have hw:cX l at_ n=0:=by unfold cX; split <;> omega
  rw [e,aA,cond_true,pd _ (by omega),aA,if_pos hw]
 ·have e:((bif (decide (at_ < 0)) then some true else (bif (decide (at_>=(l.length:Int))) then some true else some (decide (n<=0)))):Option Bool)=some false:=by
   rw [decide_eq_false (by omega: ¬ at_ < 0),decide_eq_false (by omega: ¬ at_>=(l.length:Int)),decide_eq_false (by omega: ¬ n<=0)]
   rfl
  have hw:cX l at_ n=min n (l.length - at_):=by unfold cX; rw [if_neg (by omega)]; omega
  rw [e,aA,cond_false,w64 (x:=(l.length:Int) - at_) (by omega) (by omega),dP,<- hw]
  have hb2:0 < cX l at_ n/\at_+cX l at_ n<=l.length:=by omega
  rw [if_neg (by omega)]
  generalize cX l at_ n=v at hb2
  clear hw e
  obtain ⟨k,rfl⟩: ∃ k:Nat,at_=k:=⟨at_.toNat,by omega⟩
  obtain ⟨m,rfl⟩: ∃ m:Nat,v=m:=⟨v.toNat,by omega⟩
  have c1:cut (l.map tc) 0 (k:Int)=(l.take k).map tc:=by simp [cut,List.map_take]
  have ek:(k:Int)+(m:Int)=((k+m:Nat):Int):=by omega
  have c2:cut (l.map tc) ((k+m:Nat):Int) (l.length:Int)=(l.drop (k+m)).map tc:=by
   unfold cut
   rw [Int.toNat_natCast,Int.toNat_natCast,List.take_of_length_le (by rw [mQ]; exact Nat.le_refl _),List.map_drop]
  rw [bP (by omega) (by omega) (by omega),aA,c1,bL (by simp; omega),aA,w64 (x:=(k:Int)+(m:Int)) (by omega) (by omega),ek,bP (by omega) (by omega) (by omega),aA,c2,bL (by simp; omega),aA,u2,aA,bL (by simp; omega),aA]
  have em:(max 0 (min (m:Int) 1000)).toNat=m:=by omega
  rw [em,<- List.map_append,<- List.map_append,Int.toNat_natCast,Int.toNat_natCast]
  change (Option.bind (fL ((qC l k m s).map tc)) _)=_
  rw [pd _ (by unfold qC; simp; omega),aA]
theorem Fl (l:List aG) (w:Bool) (v:Int) (h:l.length<=1000000):o9 ⟨l.map tc,w⟩ v=some (if (max 0 (min v 1000)).toNat=l.length then ⟨l.map tc,w⟩ else ⟨(jY 0 (pU l (max 0 (min v 1000)).toNat)).map tc,false⟩):=by
 unfold o9
 rw [Ce _ _ _ (by omega),aA]
 simp only [mQ,List.nil_append]
 generalize hv:max 0 (min v 1000)=u
 obtain ⟨k,rfl⟩: ∃ k:Nat,u=k:=⟨u.toNat,by omega⟩
 rw [Int.toNat_natCast]
 by_cases h0:k=l.length
 ·have e:((k:Int) == (l.length:Int))=true:=by simp [h0]
  rw [e,cond_true,if_pos h0]
 ·have e:((k:Int) == (l.length:Int))=false:=by rw [beq_eq_false_iff_ne]; omega
  have ec:eM (k:Int) (l.length:Int)=((min k l.length:Nat):Int):=by rw [dP]; omega
  have c1:cut (l.map tc) 0 ((min k l.length:Nat):Int)=(l.take k).map tc:=by
   simp only [cut,Int.toNat_natCast,Int.toNat_zero,List.drop_zero]
   rw [<- List.take_take,<- mQ l,List.take_length,List.map_take]
  rw [e,cond_false,if_neg h0,ec,bP (by omega) (by omega) (by omega),aA,c1,bL (by simp; omega),aA]
  have e3:(((l.take k).map tc).length:Int)=((min k l.length:Nat):Int):=by simp
  rw [e3,w64 (by omega) (by omega),u2,aA,bL (by simp; omega),aA,<- List.map_append]
  have c2:l.take k++List.replicate (max 0 (min ((k:Int) - ((min k l.length:Nat):Int)) 1000)).toNat (blk 0)=pU l k:=by
   unfold pU
   congr 2
   omega
  rw [c2,pd _ (by unfold pU; simp; omega),aA]
def ya (Z:List cG) (r:Int):Bool:=Z.any λx=>decide (x.e0<=r/\r<=x.e1)
theorem Gz (Z:List cG) (r v:Int) (h:Z.length<=1000):iter (σ:=Int) (ρ:=Unit ⊕ Int) (λa=>(bif (decide (a < (Z.length:Int))) then (Option.bind (idx Z a) λe=>(Option.bind ((bif (decide (r>=e.e0)) then some (decide (r<=e.e1)) else some false):Option Bool) λf=>(bif f then (m6 (some v)) else some (.inl (IntKind.i64.wrap (a+1)))))) else some (.inr (.inl ())))) 0=some (if ya Z r then .inr v else .inl ()):=by
 have key: ∀ (b d:List cG),d++b=Z->iter (σ:=Int) (ρ:=Unit ⊕ Int) (λa=>(bif (decide (a < (Z.length:Int))) then (Option.bind (idx Z a) λe=>(Option.bind ((bif (decide (r>=e.e0)) then some (decide (r<=e.e1)) else some false):Option Bool) λf=>(bif f then (m6 (some v)) else some (.inl (IntKind.i64.wrap (a+1)))))) else some (.inr (.inl ())))) (d.length:Int)=some (if ya b r then .inr v else .inl ()):=by
  intro b
  induction b with
  | nil =>
   intro d hd
   simp at hd
   subst hd
   rw [cQ (r:= .inl ())]
   ·rfl
   ·simp
  | cons c b ih =>
   intro d hd
   have hl:Z.length=d.length+b.length+1:=by rw [<- hd]; simp; omega
   have hc:decide ((d.length:Int) < (Z.length:Int))=true:=by simp; omega
   have hx:idx Z (d.length:Int)=some c:=by rw [<- hd]; exact nX d b c
   have hin:((bif (decide (r>=c.e0)) then some (decide (r<=c.e1)) else some false):Option Bool)=some (decide (c.e0<=r/\r<=c.e1)):=by
    by_cases h1:c.e0<=r <;> by_cases h2:r<=c.e1 <;> simp [h1,h2]
   by_cases hh:c.e0<=r/\r<=c.e1
   ·rw [cQ (r:= .inr v)]
    ·have:ya (c::b) r=true:=by unfold ya; rw [List.any_cons,decide_eq_true hh,Bool.true_or]
     rw [this]
     rfl
    ·simp only [hc,cond_true,hx,aA,hin]
     rw [decide_eq_true hh]
     rfl
   ·rw [dN (s':=((d++[c]).length:Int))]
    ·rw [ih (d++[c]) (by simpa using hd)]
     have:ya (c::b) r=ya b r:=by unfold ya; rw [List.any_cons,decide_eq_false hh,Bool.false_or]
     rw [this]
    ·simp only [hc,cond_true,hx,aA,hin]
     rw [decide_eq_false hh,cond_false,w64 (by omega) (by omega)]
     simp
 exact key Z [] rfl
theorem Jy (x:Int) (h0: -2147483648<=x) (h1:x<=2147483647):tj x=some (ofS x):=by
 unfold tj
 rw [Gz _ x 0 (by decide),Gz _ x 2 (by decide)]
 have e8:((bif (decide (x < 32)) then some true else some (decide (x > 1114111))):Option Bool)=some (decide (x < 32\/x > 1114111)):=by
  by_cases h2:x < 32 <;> by_cases h3:x > 1114111 <;> simp [h2,h3]
 rw [e8,aA]
 have en:inS cZ x=(decide (x < 32\/x > 1114111) || ya [⟨127,159⟩,⟨768,879⟩,⟨6832,6911⟩,⟨7616,7679⟩,⟨8203,8207⟩,⟨8400,8447⟩,⟨55296,57343⟩,⟨65024,65039⟩,⟨65056,65071⟩,⟨65279,65279⟩,⟨917760,917999⟩] x):=by
  rw [Bool.eq_iff_iff]
  simp only [inS,cZ,ya,List.any_cons,List.any_nil,Bool.or_eq_true,decide_eq_true_eq,Bool.false_eq_true,or_false]
  constructor
  ·rintro (h | h | h | h | h | h | h | h | h | h | h | h | h) <;> omega
  ·omega
 have et:inS dI x=ya [⟨4352,4447⟩,⟨11904,12350⟩,⟨12353,13311⟩,⟨13312,19903⟩,⟨19968,40959⟩,⟨40960,42191⟩,⟨44032,55203⟩,⟨63744,64255⟩,⟨65072,65135⟩,⟨65280,65376⟩,⟨65504,65510⟩,⟨127744,128591⟩,⟨129280,129535⟩,⟨131072,262141⟩] x:=by
  simp only [inS,dI,ya,List.any_cons,List.any_nil]
 unfold ofS
 rw [en,et]
 cases decide (x < 32\/x > 1114111) with
 | true=>rfl
 | false =>
  rw [cond_false,Bool.false_or]
  cases ya [⟨127,159⟩,⟨768,879⟩,⟨6832,6911⟩,⟨7616,7679⟩,⟨8203,8207⟩,⟨8400,8447⟩,⟨55296,57343⟩,⟨65024,65039⟩,⟨65056,65071⟩,⟨65279,65279⟩,⟨917760,917999⟩] x with
  | true=>rfl
  | false =>
   cases ya [⟨4352,4447⟩,⟨11904,12350⟩,⟨12353,13311⟩,⟨13312,19903⟩,⟨19968,40959⟩,⟨40960,42191⟩,⟨44032,55203⟩,⟨63744,64255⟩,⟨65072,65135⟩,⟨65280,65376⟩,⟨65504,65510⟩,⟨127744,128591⟩,⟨129280,129535⟩,⟨131072,262141⟩] x <;> rfl
theorem L9 (l:List aG) (w:Bool) (at_ x s:Int) (h:l.length<=1000000) (ha: -9223372036854775808<=at_) (hb:at_<=9223372036854775807) (h0: -2147483648<=x) (h1:x<=2147483647):rB ⟨l.map tc,w⟩ at_ x s=some ⟨(jY 0 (x8 l at_ x s)).map tc,false⟩:=by
 unfold rB
 simp only [mQ,List.nil_append]
 rw [Jy x h0 h1,aA]
 have h3:=su x
 have fin: ∀ (q:List aG),q.length=l.length->(Option.bind (fL (q.map tc)) λa=>some a)=some ⟨(jY 0 q).map tc,false⟩:=λq hq=>by rw [pd q (by omega),aA]
 rw [w64 (x:=(l.length:Int) - ofS x) (by omega) (by omega)]
 by_cases hc:ofS x=0\/at_ < 0\/at_ > l.length - ofS x
 ·have hb2:((bif (ofS x == 0) then some true else (bif (decide (at_ < 0)) then some true else some (decide (at_ > ((l.length:Int) - ofS x))))):Option Bool)=some true:=by
   rcases hc with hc | hc | hc
   ·simp [hc]
   ·cases h0:(ofS x == 0) <;> simp [hc]
   ·cases h0:(ofS x == 0) <;> cases h1:decide (at_ < 0) <;> simp [hc]
  rw [hb2,aA,cond_true]
  unfold x8
  rw [if_pos hc]
  exact fin _ rfl
 ·have hb2:((bif (ofS x == 0) then some true else (bif (decide (at_ < 0)) then some true else some (decide (at_ > ((l.length:Int) - ofS x))))):Option Bool)=some false:=by
   have e0:(ofS x == 0)=false:=by simp; omega
   have e1:decide (at_ < 0)=false:=decide_eq_false (by omega)
   rw [e0,cond_false,e1,cond_false]
   simp
   omega
  rw [hb2,aA,cond_false,Jw _ h,aA]
  obtain ⟨k,rfl⟩: ∃ k:Nat,at_=k:=⟨at_.toNat,by omega⟩
  unfold x8
  rw [if_neg hc]
  have hk:k < (l.map tc).length:=by rw [mQ]; omega
  rw [fT,List.getElem?_eq_getElem hk,aA,Int.toNat_natCast]
  by_cases h1:ofS x=1
  ·have e1:(ofS x == 2)=false:=by simp [h1]
   have em:(l.map tc).set k ⟨x,s,0⟩=(l.set k ⟨x,s,0⟩).map tc:=by rw [List.map_set]; rfl
   rw [e1,cond_false,aA,if_pos h1,em]
   exact fin _ (by simp)
  ·have h2:ofS x=2:=by omega
   have e1:(ofS x == 2)=true:=by simp [h2]
   have hk2:k+1 < l.length:=by omega
   have ew:IntKind.i64.wrap ((k:Int)+1)=((k+1:Nat):Int):=by rw [w64 (by omega) (by omega)]; omega
   rw [e1,cond_true,ew,fT,List.getElem?_eq_getElem (by simpa using hk),aA,fT,List.getElem?_eq_getElem (by simp; omega),aA,if_neg h1,Int.toNat_natCast]
   have em:(((l.map tc).set k ⟨x,s,0⟩).set k ⟨x,s,1⟩).set (k+1) ⟨x,s,2⟩=((l.set k ⟨x,s,1⟩).set (k+1) ⟨x,s,2⟩).map tc:=by
    rw [List.set_set,List.map_set,List.map_set]
    rfl
   rw [em]
   generalize hl1:(l.set k ⟨x,s,1⟩).set (k+1) ⟨x,s,2⟩=l1
   have hlen:l1.length=l.length:=by rw [<- hl1]; simp
   unfold Fi
   rw [show ((k:Int)).toNat=k from Int.toNat_natCast k]
   by_cases h0:(k:Int) > 0
   ·have em1:IntKind.i64.wrap ((k:Int) - 1)=((k - 1:Nat):Int):=by rw [w64 (by omega) (by omega)]; omega
    have hk1:k - 1 < l1.length:=by omega
    have hg:idx (l1.map tc) ((k - 1:Nat):Int)=some (tc l1[k - 1]):=by rw [fT,List.getElem?_map,List.getElem?_eq_getElem hk1]; rfl
    rw [decide_eq_true h0,cond_true,em1,hg,if_pos h0,List.getElem?_eq_getElem hk1]
    simp only [aA]
    by_cases hp:(l1[k - 1]).part=1
    ·have e3:((tc l1[k - 1]).part == 1)=true:=by simp [tc,hp]
     have es:(l1.map tc).set (k - 1) ⟨32,(tc l1[k - 1]).aM,0⟩=(l1.set (k - 1) (blk (l1[k - 1]).aM)).map tc:=by rw [List.map_set]; rfl
     rw [e3,cond_true,if_pos hp]
     simp only [aA,Int.toNat_natCast,es]
     exact fin _ (by simpa using hlen)
    ·have e3:((tc l1[k - 1]).part == 1)=false:=by simp [tc,hp]
     rw [e3,cond_false,if_neg hp]
     simp only [aA]
     exact fin _ hlen
   ·rw [decide_eq_false h0,cond_false,if_neg h0]
    simp only [aA]
    rw [cond_false,aA]
    exact fin _ hlen
def rok (x:Int):Prop:= -2147483648<=x/\x<=2147483647
def okR (l:List aG):Prop:= ∀ c∈l,rok c.rune
theorem zl (s:Int):rok (blk s).rune:=by unfold rok blk; simp
theorem sA: ∀ (l:List aG) (p:Int),okR l->okR (jY p l)
 | [],_,_=>λc hc=>by cases hc
 | c::r,p,h=>by
  intro d hd
  simp only [jY,List.mem_cons] at hd
  rcases hd with rfl | hd
  ·unfold xZ
   cases AX p c r with
   | true=>exact zl c.aM
   | false=>exact h c (by simp)
  ·exact sA r _ (λe he=>h e (by simp [he])) d hd
theorem wW {l:List aG} (h:okR l) (i:Nat) {c:aG} (hc:rok c.rune):okR (l.set i c):=by
 intro d hd
 rcases List.mem_or_eq_of_mem_set hd with hd | rfl
 ·exact h d hd
 ·exact hc
theorem Ma {l:List aG} (h:okR l) (at_ s:Int) {x:Int} (hx:rok x):okR (x8 l at_ x s):=by
 unfold x8
 split
 ·exact h
 ·split
  ·exact wW h _ hx
  ·unfold Fi
   have h1:=wW (wW h at_.toNat (c:=⟨x,s,1⟩) hx) (at_.toNat+1) (c:=⟨x,s,2⟩) hx
   split
   ·split
    ·exact wW h1 _ (zl _)
    ·exact h1
   ·exact h1
theorem zm (n:Nat) (s:Int):okR (List.replicate n (blk s)):=λc hc=>by rw [List.eq_of_mem_replicate hc]; exact zl s
theorem tt {a b:List aG} (ha:okR a) (hb:okR b):okR (a++b):=λc hc=>(List.mem_append.1 hc).elim (ha c) (hb c)
theorem wX {a:List aG} (ha:okR a) (n:Nat):okR (a.take n):=λc hc=>ha c (List.mem_of_mem_take hc)
theorem Ad {a:List aG} (ha:okR a) (n:Nat):okR (a.drop n):=λc hc=>ha c (List.mem_of_mem_drop hc)
theorem yb (a b s:Int): ∀ {l:List aG} (i:Int),okR l->okR (nf a b s i l)
 | [],_,_=>λc hc=>by cases hc
 | c::r,i,h=>by
  intro d hd
  simp only [nf,List.mem_cons] at hd
  rcases hd with rfl | hd
  ·split
   ·exact zl s
   ·exact h c (by simp)
  ·exact yb a b s (i+1) (λe he=>h e (by simp [he])) d hd
theorem w32 {x:Int} (h:rok x):IntKind.i64.wrap x=x:=by obtain ⟨h1,h2⟩:=h; exact w64 (by omega) (by omega)
theorem Qp (r:aE) (h:r.cells.length<=1000000) (hr:okR r.cells):we r (told r)=some true:=by
 unfold we told
 simp only [mQ]
 have e6:((bif ((r.cells.length:Int) != (r.cells.length:Int)) then some true else some (!(r.wrapped == r.wrapped))):Option Bool)=some false:=by simp
 rw [e6,aA,cond_false]
 have key: ∀ (b d:List aG),d++b=r.cells->iter (σ:=Int) (ρ:=Unit ⊕ Bool) (λa=>(bif (decide (a < (r.cells.length:Int))) then (Option.bind (idx r.cells a) λe=>(Option.bind ((Option.bind (idx (r.cells.map tc) a) λf=>(bif ((IntKind.i64.wrap e.rune) != f.rune) then some true else (Option.bind (idx (r.cells.map tc) a) λg=>(bif (e.aM != g.aM) then some true else (Option.bind (idx (r.cells.map tc) a) λi=>some (e.part != i.part)))))):Option Bool) λj=>(bif j then (m6 (some false)) else some (.inl (IntKind.i64.wrap (a+1)))))) else some (.inr (.inl ())))) (d.length:Int)=some (.inl ()):=by
  intro b
  induction b with
  | nil =>
   intro d hd
   simp at hd
   subst hd
   rw [cQ (r:= .inl ())]
   simp
  | cons c b ih =>
   intro d hd
   have hl:r.cells.length=d.length+b.length+1:=by rw [<- hd]; simp; omega
   have hc:decide ((d.length:Int) < (r.cells.length:Int))=true:=by simp; omega
   have hx:idx r.cells (d.length:Int)=some c:=by rw [<- hd]; exact nX d b c
   have hx2:idx (r.cells.map tc) (d.length:Int)=some (tc c):=by
    rw [<- hd,List.map_append,List.map_cons,<- mQ d]
    exact nX _ _ _
   have hcr:rok c.rune:=hr c (by rw [<- hd]; simp)
   rw [dN (s':=((d++[c]).length:Int))]
   ·exact ih (d++[c]) (by simpa using hd)
   ·simp only [hc,cond_true,hx,hx2,aA,w32 hcr,tc,bne_self_eq_false,cond_false]
    rw [w64 (by omega) (by omega)]
    simp
 have h0:=key r.cells [] rfl
 have e0:((([]:List aG).length:Nat):Int)=0:=rfl
 rw [e0] at h0
 rw [h0,aA]
def ins (l:List aG) (at_ n s:Int):List aG:=if cX l at_ n=0 then l else pT l at_.toNat (cX l at_ n).toNat s
def del (l:List aG) (at_ n s:Int):List aG:=if cX l at_ n=0 then l else qC l at_.toNat (cX l at_ n).toNat s
theorem Ae (l:List aG) (at_ n:Int):cX l at_ n=0\/(0 < cX l at_ n/\0<=at_/\at_+cX l at_ n<=l.length):=by
 unfold cX
 split
 ·exact .inl rfl
 ·omega
theorem GA {σ ρ:Type} {f:σ->Option (σ ⊕ ρ)} (S:Nat->σ) (n:Nat) (r:ρ) (hs: ∀ i,i < n->f (S i)=some (.inl (S (i+1)))) (he:f (S n)=some (.inr r)):iter f (S 0)=some r:=by
 have key: ∀ i,i<=n->iter f (S 0)=iter f (S i):=by
  intro i
  induction i with
  | zero=>intro _; rfl
  | succ i ih =>
   intro hi
   rw [ih (by omega),dN (hs i (by omega))]
 rw [key n (Nat.le_refl n),cQ he]
theorem fM {σ ρ β:Type} {f:σ->Option (σ ⊕ ρ)} {s:σ} {g:ρ->Option β} {out:Option β} (S:Nat->σ) (n:Nat) (r:ρ) (h0:s=S 0) (hs: ∀ i,i < n->f (S i)=some (.inl (S (i+1)))) (he:f (S n)=some (.inr r)) (hg:g r=out):Option.bind (iter f s) g=out:=by
 rw [h0,GA S n r hs he]
 exact hg
theorem qP {σ ρ:Type} {f:σ->Option (σ ⊕ ρ)} (Inv:σ->Prop) (m:σ->Nat) (ui:ρ->Prop)
  (hs: ∀ s,Inv s->(∃ s',f s=some (.inl s')/\Inv s'/\m s' < m s)\/(∃ r,f s=some (.inr r)/\ui r)): ∀ s,Inv s -> ∃ r,iter f s=some r/\ui r:=by
 have key: ∀ (n:Nat) s,m s<=n->Inv s -> ∃ r,iter f s=some r/\ui r:=by
  intro n
  induction n with
  | zero =>
   intro s hm hi
   rcases hs s hi with ⟨s',hf,hi',hlt⟩ | ⟨r,hf,hp⟩
   ·omega
   ·exact ⟨r,cQ hf,hp⟩
  | succ n ih =>
   intro s hm hi
   rcases hs s hi with ⟨s',hf,hi',hlt⟩ | ⟨r,hf,hp⟩
   ·rw [dN hf]
    exact ih s' (by omega) hi'
   ·exact ⟨r,cQ hf,hp⟩
 intro s hi
 exact key (m s) s (Nat.le_refl _) hi
theorem qQ {σ ρ β:Type} {f:σ->Option (σ ⊕ ρ)} {s:σ} {g:ρ->Option β} {out:Option β} (Inv:σ->Prop) (m:σ->Nat) (ui:ρ->Prop) (h0:Inv s)
  (hs: ∀ s,Inv s->(∃ s',f s=some (.inl s')/\Inv s'/\m s' < m s)\/(∃ r,f s=some (.inr r)/\ui r)) (hg: ∀ r,ui r->g r=out):Option.bind (iter f s) g=out:=by
 obtain ⟨r,h1,h2⟩:=qP Inv m ui hs s h0
 rw [h1]
 exact hg r h2
theorem Jz {α:Type} (l:List α) {i:Int} (h0:0<=i) (h1:i < l.length): ∃ a,idx l i=some a/\a∈l:=by
 obtain ⟨n,rfl⟩:=Int.eq_ofNat_of_zero_le h0
 rw [fT]
 have hn:n < l.length:=by omega
 rw [List.getElem?_eq_getElem hn]
 exact ⟨_,rfl,List.getElem_mem hn⟩
theorem Cg (p q:Prop) [Decidable p] [Decidable q]:((bif decide p then some (decide q) else some false):Option Bool)=some (decide (p/\q)):=by
 by_cases a1:p <;> by_cases a2:q <;> simp [a1,a2]
theorem or2 (p q:Prop) [Decidable p] [Decidable q]:((bif decide p then some true else some (decide q)):Option Bool)=some (decide (p\/q)):=by
 by_cases a1:p <;> by_cases a2:q <;> simp [a1,a2]
theorem dB {α:Type} (l:List α) (n:Nat) (h:n < l.length):idx l (n:Int)=some l[n]:=by rw [fT,List.getElem?_eq_getElem h]
theorem Mb {α:Type} (l r:List α) (x y:α):(l++x::r).set l.length y=l++y::r:=by simp
theorem GB {α:Type} (A B C:List α) (hi:Int) (h:hi=((A.length+B.length:Nat):Int)):cut (A++B++C) (A.length:Int) hi=B:=by
 subst h
 simp only [cut,Int.toNat_natCast]
 rw [List.take_left' (by simp),List.drop_left]
theorem tu {α:Type} (l:List α) (a b:Nat):cut l (a:Int) (b:Int)=(l.take b).drop a:=by simp [cut]
theorem Af {α:Type} (l:List α) (b:Nat):cut l 0 (b:Int)=l.take b:=by simp [cut]
def szN (n:Int):Nat:=(max 1 (min n 1000)).toNat
theorem Fm (n:Int):imax 1 (eM n 1000)=(szN n:Int):=by rw [gQ,dP]; unfold szN; omega
theorem rD (n:Int):1<=szN n:=by unfold szN; omega
theorem pf (n:Int):szN n<=1000:=by unfold szN; omega
theorem JA (n:Nat) (h0:1<=n) (h1:n<=1000):szN n=n:=by unfold szN; omega
def jQ (W:Nat) (s:Int):aE:=⟨List.replicate W (blk s),false⟩
def uw (g:aY):iX:=⟨g.w,g.l.map told⟩
def gok (W:Nat) (r:aE):Prop:=r.cells.length=W/\okR r.cells
structure GI (W:Nat) (l:List aE):Prop where
 w1:1<=W
 w2:W<=1000
 l1:1<=l.length
 l2:l.length<=1000
 rs: ∀ r∈l,gok W r
theorem ux (n lo hi:Int):jJ n lo hi=some (max lo (min n hi)):=by
 unfold jJ
 rw [gQ,dP]
theorem uy (n:Int):kP n=some (szN n:Int):=by
 unfold kP jJ
 rw [Fm]
 rfl
theorem Ag (n:Int):qz n=some (szN n:Int):=by
 unfold qz
 rw [Fm]
theorem Ci (W:Nat) (s:Int) (h:W<=1000):lR W s=some (jQ W s):=by
 rw [Cd]
 have:(max 0 (min (W:Int) 1000)).toNat=W:=by omega
 rw [this]
 rfl
theorem Cj (W:Nat) (s:Int) (h:W<=1000):kQ W s=some (told (jQ W s)):=by
 rw [u2]
 have:(max 0 (min (W:Int) 1000)).toNat=W:=by omega
 rw [this]
 rfl
theorem u3 (W:Nat) (s:Int):gok W (jQ W s):=⟨by simp [jQ],zm W s⟩
def y9 (w h:Int):aY:=⟨(szN w:Int),List.replicate (szN h) (jQ (szN w) 0)⟩
theorem OY (w h:Int):GI (szN w) (y9 w h).l:=by
 refine ⟨rD w,pf w,?_,?_,?_⟩
 ·simpa [y9] using rD h
 ·simpa [y9] using pf h
 ·intro r hr
  rw [List.eq_of_mem_replicate hr]
  exact u3 _ _
theorem OZ (w h:Int):qM w h=some (y9 w h):=by
 unfold qM
 rw [uy,aA,uy,aA]
 have hw:=pf w
 have hh:=pf h
 refine fM (λi=>((⟨(szN w:Int),List.replicate i (jQ (szN w) 0)⟩:aY),(i:Int))) (szN h) _ rfl ?_ ?_ rfl
 ·intro i hi
  try dsimp only
  rw [decide_eq_true (by omega),cond_true,Ci _ _ hw,aA,bL (by simp; omega),aA,w64 (by omega) (by omega),<- List.replicate_succ']
  rfl
 ·try dsimp only
  rw [decide_eq_false (by omega),cond_false]
  rfl
theorem Mc (w h:Int):um w h=some (uw (y9 w h)):=by
 unfold um
 rw [Ag,aA]
 have hw:=pf w
 have hh:=pf h
 refine fM (λi=>((⟨(szN w:Int),List.replicate i (told (jQ (szN w) 0))⟩:iX),(i:Int))) (szN h) (⟨(szN w:Int),List.replicate (szN h) (told (jQ (szN w) 0))⟩:iX) rfl ?_ ?_ ?_
 ·intro i hi
  try dsimp only
  rw [Ag,aA,decide_eq_true (by omega),cond_true,Cj _ _ hw,aA,bL (by simp; omega),aA,w64 (by omega) (by omega),<- List.replicate_succ']
  rfl
 ·try dsimp only
  rw [Ag,aA,decide_eq_false (by omega),cond_false]
 ·simp [uw,y9]
theorem JB (r:aE) (h:r.cells.length<=1000000):pI r=some r:=by
 unfold pI
 rw [Aa _ h,aA]
def Ck:aE:=⟨[],false⟩
def ns (l:List aE) (y:Int):aE:=if 0<=y/\y < l.length then l[y.toNat]?.getD Ck else Ck
theorem GC {l:List aE} {n:Nat} (h:n < l.length):ns l n=l[n]:=by
 unfold ns
 rw [if_pos (by omega),Int.toNat_natCast,List.getElem?_eq_getElem h]
 rfl
theorem O0 (w:Int) (l:List aE) (y:Int) (h: ∀ r∈l,r.cells.length<=1000000):fJ ⟨w,l⟩ y=some (ns l y):=by
 unfold fJ ns
 rw [or2,aA]
 by_cases hy:0<=y/\y < l.length
 ·rw [decide_eq_false (by (try dsimp only); omega),cond_false,if_pos hy]
  obtain ⟨n,rfl⟩:=Int.eq_ofNat_of_zero_le hy.1
  have hn:n < l.length:=by omega
  simp only [Int.toNat_natCast]
  rw [dB l n hn,aA,JB _ (h _ (List.getElem_mem hn)),aA,List.getElem?_eq_getElem hn]
  rfl
 ·rw [decide_eq_true (by (try dsimp only); omega),cond_true,if_neg hy]
  rfl
def rsz (W:Nat) (r:aE):aE:=if W=r.cells.length then r else ⟨jY 0 (pU r.cells W),false⟩
theorem O1 (W:Nat) (hW:W<=1000) (r:aE) (h:r.cells.length<=1000000):kU r W=some (rsz W r):=by
 rw [HM _ _ h]
 have:(max 0 (min (W:Int) 1000)).toNat=W:=by omega
 rw [this]
 rfl
theorem Md (W:Nat) (hW:W<=1000) (r:aE) (h:r.cells.length<=1000000):o9 (told r) W=some (told (rsz W r)):=by
 unfold told
 rw [Fl _ _ _ h]
 have:(max 0 (min (W:Int) 1000)).toNat=W:=by omega
 rw [this]
 unfold rsz
 split <;> rfl
theorem GD (W:Nat) (r:aE) (h:okR r.cells):gok W (rsz W r):=by
 unfold rsz
 split
 ·rename_i e
  exact ⟨e.symm,h⟩
 ·refine ⟨?_,sA _ _ (tt (wX h _) (zm _ _))⟩
  simp only [na,pU,List.length_append,List.length_take,List.length_replicate]
  omega
def inG (l:List aE) (y:Int):Bool:=decide (0<=y/\y < l.length)
def vo (W:Nat) (l:List aE) (y:Int) (r:aE):List aE:=if 0<=y/\y < l.length then l.set y.toNat (rsz W r) else l
theorem mf (W:Nat) (l:List aE) (y:Int) (r:aE):(vo W l y r).length=l.length:=by
 unfold vo
 split <;> simp
theorem HQ {W:Nat} {l:List aE} (h: ∀ r∈l,gok W r) (y:Int) (r:aE) (hr:okR r.cells): ∀ q∈vo W l y r,gok W q:=by
 unfold vo
 split
 ·intro q hq
  rcases List.mem_or_eq_of_mem_set hq with hq | hq
  ·exact h q hq
  ·rw [hq]
   exact GD W r hr
 ·exact h
theorem JC (W:Nat) (hW:W<=1000) (l:List aE) (y:Int) (r:aE) (h:r.cells.length<=1000000):eW ⟨W,l⟩ y r=some (inG l y,⟨W,vo W l y r⟩):=by
 unfold eW vo inG
 rw [or2,aA]
 by_cases hy:0<=y/\y < l.length
 ·rw [decide_eq_false (by (try dsimp only); omega),cond_false,if_pos hy,decide_eq_true hy]
  obtain ⟨n,rfl⟩:=Int.eq_ofNat_of_zero_le hy.1
  have hn:n < l.length:=by omega
  try dsimp only
  rw [O1 W hW r h,aA,dB l n hn,aA]
 ·rw [decide_eq_true (by (try dsimp only); omega),cond_true,if_neg hy,decide_eq_false hy]
theorem Me (W:Nat) (hW:W<=1000) (l:List aE) (y:Int) (r:aE) (h:r.cells.length<=1000000) (hl:l.length<=1000000):p7 ⟨W,l.map told⟩ y (told r)=some (⟨W,(vo W l y r).map told⟩,inG l y):=by
 unfold p7 vo inG
 rw [or2,aA]
 simp only [List.length_map]
 by_cases hy:0<=y/\y < l.length
 ·rw [decide_eq_false (by (try dsimp only); omega),cond_false,if_pos hy,decide_eq_true hy]
  obtain ⟨n,rfl⟩:=Int.eq_ofNat_of_zero_le hy.1
  have hn:n < l.length:=by omega
  rw [bL (by simp; omega),aA,Md W hW r h,aA,List.nil_append,dB (l.map told) n (by simpa using hn),aA]
  simp only [Int.toNat_natCast,List.map_set]
 ·rw [decide_eq_true (by (try dsimp only); omega),cond_true,if_neg hy,decide_eq_false hy]
theorem u4 (l:List aE) (h:l.length<=1000000):dY l=some l:=by
 unfold dY
 rw [bL (by simp; omega),aA]
 rfl
theorem Mf {σ:Type} (Y:σ->aE->Option (σ×Bool)) (S:Nat->σ) (l:List aE) (hl:l.length<=1000000) (h: ∀ r∈l,r.cells.length<=1000000) (hY: ∀ i (hi:i < l.length),Y (S i) l[i]=some (S (i+1),true)):kV Y (S 0) l=some (S l.length):=by
 unfold kV
 refine fM (λi=>((i:Int),S i)) l.length (.inl (S l.length)) rfl ?_ ?_ rfl
 ·intro i hi
  try dsimp only
  rw [decide_eq_true (by omega),cond_true,dB l i hi,aA,JB _ (h _ (List.getElem_mem hi)),aA,hY i hi,aA]
  try dsimp only
  rw [Bool.not_true,cond_false,w64 (by omega) (by omega)]
  rfl
 ·try dsimp only
  rw [decide_eq_false (by omega),cond_false]
theorem Ah (l:List aE) (hl:l.length<=1000000) (h: ∀ r∈l,r.cells.length<=1000000):kW l=some (l,l):=by
 unfold kW oX
 rw [aA]
 have key:=Mf (λ(s40:List aE) (x9:aE)=>(Option.bind (chk (eH s40.length [x9].length 32)) λ_=>some ((s40++[x9]),true))) (λi=>l.take i) l hl h (by
  intro i hi
  try dsimp only
  rw [bL (by simp; omega),aA,<- List.take_succ_eq_append_getElem hi])
 rw [List.take_length] at key
 change kV _ ([]:List aE) l=some l at key
 rw [key]
 rfl
theorem zh (w:Int) (l:List aE) (hl:l.length<=1000000) (h: ∀ r∈l,r.cells.length<=1000000):mM ⟨w,l⟩=some (l,⟨w,l⟩):=by
 unfold mM
 try dsimp only
 rw [Ah l hl h,aA,nq rfl,aA]
theorem Fo (w:Int) (l:List aE) (hl:l.length<=1000000) (h: ∀ r∈l,r.cells.length<=1000000):lU ⟨w,l⟩=some (⟨w,l⟩,⟨w,l⟩):=by
 unfold lU
 try dsimp only
 rw [Ah l hl h,aA,nq rfl,aA]
theorem JD (a b:List aE) (ha:a.length<=1000000) (h: ∀ r∈a,r.cells.length<=1000000):dJ a b=some (decide (a=b)):=by
 unfold dJ
 by_cases hl:a.length=b.length
 ·have e0:((a.length:Int) != (b.length:Int))=false:=by simp [hl]
  rw [e0,cond_false]
  refine qQ (λi:Int=> ∃ n:Nat,i=n/\n<=a.length/\a.take n=b.take n) (λi=>(a.length - i).toNat) (λr=>r=(if a=b then .inl () else .inr false)) ⟨0,rfl,by omega,rfl⟩ ?_ ?_
  ·rintro i ⟨n,rfl,hn,ht⟩
   by_cases h1:n < a.length
   ·have h2:n < b.length:=by omega
    try dsimp only
    rw [decide_eq_true (by omega),cond_true,dB a n h1,dB b n h2,aA,aA,zj _ _ (h _ (List.getElem_mem h1)),aA]
    by_cases he:a[n]=b[n]
    ·refine .inl ⟨((n+1:Nat):Int),?_,⟨n+1,rfl,by omega,?_⟩,by (try dsimp only); omega⟩
     ·rw [decide_eq_true he,w64 (by omega) (by omega)]
      rfl
     ·rw [List.take_succ_eq_append_getElem h1,List.take_succ_eq_append_getElem h2,ht,he]
    ·refine .inr ⟨.inr false,?_,?_⟩
     ·rw [decide_eq_false he]
      rfl
     ·rw [if_neg]
      intro hab
      subst hab
      exact he rfl
   ·refine .inr ⟨.inl (),?_,?_⟩
    ·try dsimp only
     rw [decide_eq_false (by omega),cond_false]
    ·rw [if_pos]
     have hn2:n=a.length:=by omega
     subst hn2
     rw [List.take_length] at ht
     rw [ht,hl,List.take_length]
  ·intro r hr
   subst hr
   by_cases hab:a=b
   ·rw [if_pos hab,decide_eq_true hab]
   ·rw [if_neg hab,decide_eq_false hab]
 ·have e0:((a.length:Int) != (b.length:Int))=true:=by simp; omega
  rw [e0,cond_true,decide_eq_false]
  intro h
  exact hl (by rw [h])
theorem pg {α:Type} {l r:List α} {x:α} {k:Int} (h:k=l.length):idx (l++x::r) k=some x:=by rw [h,nX]
theorem qR {α:Type} {l r:List α} {x y:α} {k:Nat} (h:k=l.length):(l++x::r).set k y=l++y::r:=by rw [h,Mb]
theorem qu {α:Type} (l:List α) (a b:Nat) (h:a<=b) (h2:b<=l.length):(cut l (a:Int) (b:Int)).length=b - a:=by
 rw [tu,List.length_drop,List.length_take]
 omega
def loS (l:List aE) (t:Int):Nat:=(max 0 (min t ((l.length:Int) - 1))).toNat
theorem yc (l:List aE) (t:Int) (h:1<=l.length):loS l t < l.length:=by unfold loS; omega
theorem qS (l:List aE) (t:Int):max 0 (min t ((l.length:Int) - 1))=(loS l t:Int):=by unfold loS; omega
theorem Bv (w:Int) (l:List aE) (top aL:Int) (h1:1<=l.length) (h2:l.length<=1000000):eF ⟨w,l⟩ top aL=some (if loS l aL < loS l top then .inl () else .inr ((loS l top:Int),((loS l aL+1:Nat):Int))):=by
 unfold eF
 dsimp only
 have ht:=yc l top h1
 have hb:=yc l aL h1
 rw [w64 (x:=(l.length:Int) - 1) (by omega) (by omega),ux,aA,ux,aA,qS,qS]
 by_cases h:loS l aL < loS l top
 ·rw [decide_eq_true (by omega),cond_true,if_pos h]
 ·rw [decide_eq_false (by omega),cond_false,if_neg h,w64 (by omega) (by omega),bP (by omega) (by omega) (by omega),aA]
  rfl
def kN (n:Int) (b:Nat):Nat:=(max 0 (min n (b:Int))).toNat
theorem N7 (n:Int) (b:Nat):max 0 (min n (b:Int))=(kN n b:Int):=by unfold kN; omega
theorem GF (n:Int) (b:Nat):kN n b<=b:=by unfold kN; omega
def upB {α:Type} (k:Nat) (B:List α) (x:α):List α:=B.drop k++List.replicate (min k B.length) x
def ou {α:Type} (k:Nat) (B:List α) (x:α):List α:=List.replicate (min k B.length) x++B.take (B.length - k)
theorem Ai {α:Type} (k:Nat) (B:List α) (x:α):(upB k B x).length=B.length:=by
 unfold upB
 rw [List.length_append,List.length_drop,List.length_replicate]
 omega
theorem wY {α:Type} (k:Nat) (B:List α) (x:α):(ou k B x).length=B.length:=by
 unfold ou
 rw [List.length_append,List.length_take,List.length_replicate]
 omega
theorem Mg {α β:Type} (f:α->β) (k:Nat) (B:List α) (x:α):(upB k B x).map f=upB k (B.map f) (f x):=by
 simp [upB]
theorem HR {α β:Type} (f:α->β) (k:Nat) (B:List α) (x:α):(ou k B x).map f=ou k (B.map f) (f x):=by
 simp [ou]
theorem JE {α:Type} (A B C:List α) (n:Nat) (h:n<=B.length):(A++B++C).drop (A.length+n)=B.drop n++C:=by
 rw [List.append_assoc,List.drop_append,List.drop_append]
 have e1:A.drop (A.length+n)=[]:=List.drop_eq_nil_of_le (by omega)
 have e2:A.length+n - A.length=n:=by omega
 have e3:n - B.length=0:=by omega
 rw [e1,e2,e3,List.nil_append,List.drop_zero]
theorem N8 {α:Type} (A B C:List α) (n:Nat) (h:n<=B.length):(A++B++C).take (A.length+n)=A++B.take n:=by
 rw [List.append_assoc,List.take_append,List.take_append]
 have e1:A.take (A.length+n)=A:=List.take_of_length_le (by omega)
 have e2:A.length+n - A.length=n:=by omega
 have e3:n - B.length=0:=by omega
 rw [e1,e2,e3,List.take_zero,List.append_nil]
theorem Mh {α:Type} (A B C:List α) (m n:Nat) (h:n<=B.length) (h2:m<=n):cut (A++B++C) ((A.length+m:Nat):Int) ((A.length+n:Nat):Int)=(B.take n).drop m:=by
 rw [tu,N8 A B C n h]
 have:=JE A (B.take n) [] m (by rw [List.length_take]; omega)
 simp
theorem Qq (W:Nat) (hW:W<=1000) (A B C:List aE) (top aL n s:Int) (hl:(A++B++C).length<=1000000) (hB:1<=B.length)
  (hreg:eF ⟨W,A++B++C⟩ top aL=some (.inr ((A.length:Int),((A.length+B.length:Nat):Int)))) :
  gB ⟨W,A++B++C⟩ top aL n s=some (B.take (kN n B.length),⟨W,A++upB (kN n B.length) B (jQ W s)++C⟩):=by
 unfold gB
 rw [hreg,aA]
 dsimp only
 have hk:=GF n B.length
 simp only [List.length_append] at hl
 rw [bP (by omega) (by omega) (by simp only [List.length_append]; omega),aA,GB A B C _ rfl,ux,aA,N7]
 generalize kN n B.length=k at hk
 rw [bP (by omega) (by omega) (by omega),aA]
 have e1:cut (A++B++C) ((A.length:Int)+0) ((A.length:Int)+(k:Int))=B.take k:=by
  have:=Mh A B C 0 k hk (by omega)
  simpa using this
 have e2:tV (A++B++C) (A.length:Int) ((A.length+B.length:Nat):Int) ((A.length:Int)+(k:Int)) ((A.length:Int)+(B.length:Int))=A++B.drop k++(B.drop (B.length - k)++C):=by
  have c:=Mh A B C k B.length (Nat.le_refl _) hk
  rw [List.take_length] at c
  have c':cut (A++B++C) ((A.length:Int)+(k:Int)) ((A.length:Int)+(B.length:Int))=B.drop k:=by simpa using c
  unfold tV
  rw [c',Int.toNat_natCast,Int.toNat_natCast,List.append_assoc A B C,List.take_left,List.take_of_length_le (l:=B.drop k) (by rw [List.length_drop]; omega),List.length_drop,<- List.append_assoc A B C,JE A B C _ (by omega)]
 rw [e1,u4 _ (by rw [List.length_take]; omega),aA,bP (by omega) (by omega) (by omega),aA,e2]
 have hL:(cut (A++B.drop k++(B.drop (B.length - k)++C)) (A.length:Int) ((A.length+B.length:Nat):Int)).length=B.length:=by
  rw [qu _ _ _ (by omega) (by simp; omega)]
  omega
 rw [hL,w64 (by omega) (by omega)]
 refine fM (λi=>((⟨W,A++(B.drop k++List.replicate i (jQ W s))++(B.drop (B.length - k+i)++C)⟩:aY),((B.length - k+i:Nat):Int))) k (⟨W,A++upB k B (jQ W s)++C⟩:aY) ?_ ?_ ?_ rfl
 ·have:(B.length:Int) - (k:Int)=((B.length - k+0:Nat):Int):=by omega
  rw [this]
  simp
 ·intro i hi
  dsimp only
  have hlen:(A++(B.drop k++List.replicate i (jQ W s))++(B.drop (B.length - k+i)++C)).length=A.length+B.length+C.length:=by simp; omega
  have hc:(cut (A++(B.drop k++List.replicate i (jQ W s))++(B.drop (B.length - k+i)++C)) (A.length:Int) ((A.length+B.length:Nat):Int)).length=B.length:=by
   rw [qu _ _ _ (by omega) (by rw [hlen]; omega)]
   omega
  rw [hc,decide_eq_true (by omega),cond_true,Ci _ _ hW,aA,bP (by omega) (by omega) (by rw [hlen]; omega),aA]
  obtain ⟨x,hx,_⟩:=Jz (cut (A++(B.drop k++List.replicate i (jQ W s))++(B.drop (B.length - k+i)++C)) (A.length:Int) ((A.length+B.length:Nat):Int)) (i:=((B.length - k+i:Nat):Int)) (by omega) (by rw [hc]; omega)
  rw [hx,aA,w64 (by omega) (by omega),List.drop_eq_getElem_cons (l:=B) (i:=B.length - k+i) (by omega),List.cons_append,qR (by simp; omega),List.replicate_succ']
  simp [Nat.add_assoc]
  omega
 ·dsimp only
  have hlen:(A++(B.drop k++List.replicate k (jQ W s))++(B.drop (B.length - k+k)++C)).length=A.length+B.length+C.length:=by simp; omega
  have hc:(cut (A++(B.drop k++List.replicate k (jQ W s))++(B.drop (B.length - k+k)++C)) (A.length:Int) ((A.length+B.length:Nat):Int)).length=B.length:=by
   rw [qu _ _ _ (by omega) (by rw [hlen]; omega)]
   omega
  rw [hc,decide_eq_false (by omega),cond_false,List.drop_eq_nil_of_le (as:=B) (i:=B.length - k+k) (by omega)]
  unfold upB
  rw [Nat.min_eq_left hk]
  simp
theorem Fp (l:List aE) (h:l.length<=1000000):fZ l=some l.reverse:=by
 unfold fZ
 refine qQ (λs:List aE×Int×Int=> ∃ t:Nat,s.2.1=t/\s.2.2=(l.length:Int) - 1 - t/\2*t<=l.length+1/\s.1.length=l.length /\ ∀ p,p < l.length->s.1[p]?=if p < t\/l.length - 1 - t < p then l[l.length - 1 - p]? else l[p]?) (λs=>(s.2.2 - s.2.1+1).toNat) (λr=>r=l.reverse) ?_ ?_ (λr hr=>by rw [hr])
 ·refine ⟨0,rfl,?_,by omega,rfl,λp hp=> ?_⟩
  ·dsimp only
   rw [w64 (by omega) (by omega)]
   omega
  ·rw [if_neg (by omega)]
 ·rintro ⟨L,i,j⟩ ⟨t,hi,hj,ht,hL,hp⟩
  dsimp only at hi hj hL hp ⊢
  subst hi hj
  by_cases hlt:(t:Int) < (l.length:Int) - 1 - t
  ·have hj:(l.length:Int) - 1 - (t:Int)=((l.length - 1 - t:Nat):Int):=by omega
   have h1:t < L.length:=by omega
   have h2:l.length - 1 - t < L.length:=by omega
   have g1:=hp t (by omega)
   have g2:=hp (l.length - 1 - t) (by omega)
   rw [if_neg (by omega)] at g1 g2
   refine .inl ⟨((L.set t L[l.length - 1 - t]).set (l.length - 1 - t) L[t],((t+1:Nat):Int),(l.length:Int) - 1 - ((t+1:Nat):Int)),?_,⟨t+1,rfl,rfl,by omega,by simp [hL],?_⟩,by dsimp only; omega⟩
   ·rw [decide_eq_true hlt,cond_true,hj,dB L _ h1,dB L _ h2]
    simp only [aA,Int.toNat_natCast]
    rw [w64 (by omega) (by omega),w64 (by omega) (by omega)]
    congr 3
    congr 1
    omega
   ·intro p hpl
    have hg1:L[t]?=some L[t]:=List.getElem?_eq_getElem h1
    have hg2:L[l.length - 1 - t]?=some L[l.length - 1 - t]:=List.getElem?_eq_getElem h2
    dsimp only
    by_cases c1:p=l.length - 1 - t
    ·subst c1
     rw [List.getElem?_set_self (by simpa using h2),if_pos (by omega),<- hg1,g1]
     congr 1
     omega
    ·rw [List.getElem?_set_ne (λe=>c1 e.symm)]
     by_cases c2:p=t
     ·subst c2
      rw [List.getElem?_set_self h1,if_pos (by omega),<- hg2,g2]
     ·rw [List.getElem?_set_ne (λe=>c2 e.symm),hp p hpl]
      by_cases c3:p < t\/l.length - 1 - t < p
      ·rw [if_pos c3,if_pos (by omega)]
      ·rw [if_neg c3,if_neg (by omega)]
  ·refine .inr ⟨L,by rw [decide_eq_false hlt,cond_false],?_⟩
   apply List.ext_getElem?
   intro p
   by_cases hpl:p < l.length
   ·rw [hp p hpl,List.getElem?_reverse hpl]
    by_cases c3:p < t\/l.length - 1 - t < p
    ·rw [if_pos c3]
    ·rw [if_neg c3]
     congr 1
     omega
   ·rw [List.getElem?_eq_none (by omega),List.getElem?_eq_none (by simp; omega)]
theorem Mi (W:Nat) (hW:W<=1000) (A B C:List aE) (top aL n s:Int) (hl:(A++B++C).length<=1000000) (hB:1<=B.length)
  (hreg:eF ⟨W,A++B++C⟩ top aL=some (.inr ((A.length:Int),((A.length+B.length:Nat):Int)))) :
  eO ⟨W,A++B++C⟩ top aL n s=some ((B.drop (B.length - kN n B.length)).reverse,⟨W,A++ou (kN n B.length) B (jQ W s)++C⟩):=by
 unfold eO
 rw [hreg,aA]
 dsimp only
 have hk:=GF n B.length
 simp only [List.length_append] at hl
 rw [bP (by omega) (by omega) (by simp only [List.length_append]; omega),aA,GB A B C _ rfl,ux,aA,N7]
 generalize kN n B.length=k at hk
 rw [w64 (x:=(B.length:Int) - (k:Int)) (by omega) (by omega)]
 have hbk:(B.length:Int) - (k:Int)=((B.length - k:Nat):Int):=by omega
 rw [hbk,bP (by omega) (by omega) (by omega),aA]
 have e1:cut (A++B++C) ((A.length:Int)+((B.length - k:Nat):Int)) ((A.length:Int)+(B.length:Int))=B.drop (B.length - k):=by
  have:=Mh A B C (B.length - k) B.length (Nat.le_refl _) (by omega)
  rw [List.take_length] at this
  simpa using this
 have e2:tV (A++B++C) ((A.length:Int)+(k:Int)) ((A.length:Int)+(B.length:Int)) ((A.length:Int)+0) ((A.length:Int)+((B.length - k:Nat):Int))=A++B.take k++(B.take (B.length - k)++C):=by
  have c:=Mh A B C 0 (B.length - k) (by omega) (by omega)
  rw [List.drop_zero] at c
  have c':cut (A++B++C) ((A.length:Int)+0) ((A.length:Int)+((B.length - k:Nat):Int))=B.take (B.length - k):=by simpa using c
  have t1:((A.length:Int)+(k:Int)).toNat=A.length+k:=by omega
  have t2:((A.length:Int)+(B.length:Int)).toNat=A.length+B.length:=by omega
  unfold tV
  rw [c',t1,t2,N8 A B C k hk,List.take_of_length_le (l:=B.take (B.length - k)) (by rw [List.length_take]; omega),List.length_take]
  have t3:A.length+k+min (B.length - k) B.length=A.length+B.length:=by omega
  rw [t3,JE A B C _ (Nat.le_refl _),List.drop_eq_nil_of_le (Nat.le_refl _),List.nil_append,List.append_assoc (A++B.take k)]
 rw [e1,u4 _ (by rw [List.length_drop]; omega),aA,Fp _ (by rw [List.length_drop]; omega),aA,nq (by simp),aA,bP (by omega) (by omega) (by omega),aA,bP (by omega) (by omega) (by omega),aA,e2]
 refine fM (λi=>((⟨W,A++List.replicate i (jQ W s)++((B.take k).drop i++(B.take (B.length - k)++C))⟩:aY),(i:Int))) k (⟨W,A++ou k B (jQ W s)++C⟩:aY) ?_ ?_ ?_ rfl
 ·simp
 ·intro i hi
  dsimp only
  have hlen:(A++List.replicate i (jQ W s)++((B.take k).drop i++(B.take (B.length - k)++C))).length=A.length+B.length+C.length:=by simp; omega
  have hc:(cut (A++List.replicate i (jQ W s)++((B.take k).drop i++(B.take (B.length - k)++C))) (A.length:Int) ((A.length+B.length:Nat):Int)).length=B.length:=by
   rw [qu _ _ _ (by omega) (by rw [hlen]; omega)]
   omega
  rw [decide_eq_true (by omega),cond_true,Ci _ _ hW,aA,bP (by omega) (by omega) (by rw [hlen]; omega),aA]
  obtain ⟨x,hx,_⟩:=Jz (cut (A++List.replicate i (jQ W s)++((B.take k).drop i++(B.take (B.length - k)++C))) (A.length:Int) ((A.length+B.length:Nat):Int)) (i:=(i:Int)) (by omega) (by rw [hc]; omega)
  have htl:i < (B.take k).length:=by rw [List.length_take]; omega
  rw [hx,aA,w64 (by omega) (by omega),List.drop_eq_getElem_cons htl,List.cons_append,qR (by simp),List.replicate_succ']
  simp
 ·dsimp only
  rw [decide_eq_false (by omega),cond_false,List.drop_eq_nil_of_le (as:=B.take k) (i:=k) (by rw [List.length_take]; omega)]
  unfold ou
  rw [Nat.min_eq_left hk]
  simp
variable {α : Type}
theorem JF (B:List α) (x:α):upB 0 B x=B:=by simp [upB]
theorem Fq (B:List α) (x:α):ou 0 B x=B:=by simp [ou]
theorem JG (B:List α) (x:α) (i:Nat) (h:i < B.length):upB i B x=B[i]::(B.drop (i+1)++List.replicate i x):=by
 unfold upB
 rw [Nat.min_eq_left (by omega),List.drop_eq_getElem_cons h,List.cons_append]
theorem JH (B:List α) (x:α) (i:Nat) (h:i < B.length):upB (i+1) B x=(B.drop (i+1)++List.replicate i x)++[x]:=by
 unfold upB
 rw [Nat.min_eq_left (by omega),List.replicate_succ',List.append_assoc]
theorem Fs (B:List α) (x:α) (i:Nat) (h:i < B.length):ou i B x=(List.replicate i x++B.take (B.length - i - 1))++[B[B.length - i - 1]'(by omega)]:=by
 unfold ou
 rw [Nat.min_eq_left (by omega),List.append_assoc,<- List.take_succ_eq_append_getElem]
 congr 2
 omega
theorem Ft (B:List α) (x:α) (i:Nat) (h:i < B.length):ou (i+1) B x=x::(List.replicate i x++B.take (B.length - i - 1)):=by
 unfold ou
 rw [Nat.min_eq_left (by omega),List.replicate_succ,List.cons_append]
 congr 3
theorem take_one {l:List α} (h:0 < l.length):l.take 1=[l[0]]:=by
 cases l with
 | nil=>simp at h
 | cons a t=>rfl
theorem Rx {ρ β:Type} (lo hi:Int) (A T C:List aX) (y:aX) (g:List aX->Option β) (out:Option β) (hl:(A++(y::T)++C).length<=1000000) (hlo:lo=A.length) (hhi:hi=lo+T.length)
  (hg:g ((A++T)++((y::T).drop T.length++C))=out) :
  Option.bind (iter (σ:=(List aX)×Int) (ρ:=(List aX)) (λa=>(bif (decide (a.2 < hi)) then (Option.bind (idx a.1 (IntKind.i64.wrap (a.2+1))) λb=>(Option.bind (idx a.1 a.2) λc=>some (.inl ((a.1.set a.2.toNat b),(IntKind.i64.wrap (a.2+1)))))) else some (.inr a.1))) (A++(y::T)++C,lo)) g=out:=by
 subst hlo
 simp only [List.length_append,List.length_cons] at hl
 refine fM (λj=>((A++T.take j)++((y::T).drop j++C),((A.length+j:Nat):Int))) T.length _ ?_ ?_ ?_ hg
 ·simp
 ·intro j hj
  dsimp only
  have e1:(y::T).drop j=(y::T)[j]'(by simp; omega)::T[j]::T.drop (j+1):=by
   rw [List.drop_eq_getElem_cons (by simp; omega),List.drop_succ_cons,List.drop_eq_getElem_cons hj]
  have e2:A++T.take j++((y::T).drop j++C)=((A++T.take j)++[(y::T)[j]'(by simp; omega)])++T[j]::(T.drop (j+1)++C):=by rw [e1]; simp only [List.append_assoc,List.cons_append,List.nil_append]
  have e3:A++T.take j++((y::T).drop j++C)=(A++T.take j)++(y::T)[j]'(by simp; omega)::(T[j]::(T.drop (j+1)++C)):=by rw [e1]; simp only [List.append_assoc,List.cons_append,List.nil_append]
  rw [decide_eq_true (by omega),cond_true,w64 (by omega) (by omega)]
  rw [show idx (A++T.take j++((y::T).drop j++C)) (((A.length+j:Nat):Int)+1)=some T[j] by rw [e2]; exact pg (by simp; omega)]
  rw [aA]
  rw [show idx (A++T.take j++((y::T).drop j++C)) ((A.length+j:Nat):Int)=some ((y::T)[j]'(by simp; omega)) by rw [e3]; exact pg (by simp; omega)]
  rw [aA,Int.toNat_natCast,e3,qR (by simp; omega),List.drop_succ_cons,List.drop_eq_getElem_cons hj,List.take_succ_eq_append_getElem hj]
  have t4:((A.length+j:Nat):Int)+1=((A.length+(j+1):Nat):Int):=by omega
  rw [t4]
  simp only [List.append_assoc,List.cons_append,List.nil_append]
 ·dsimp only
  rw [decide_eq_false (by omega),cond_false,List.take_length]
theorem O2 {ρ β:Type} (lo hi:Int) (A T C:List aX) (y:aX) (g:List aX->Option β) (out:Option β) (hl:(A++(T++[y])++C).length<=1000000) (hlo:lo=A.length) (hhi:hi=lo+T.length)
  (hg:g (A++(T++[y]).take 1++(T++C))=out) :
  Option.bind (iter (σ:=(List aX)×Int) (ρ:=(List aX)) (λa=>(bif (decide (a.2 > lo)) then (Option.bind (idx a.1 (IntKind.i64.wrap (a.2 - 1))) λb=>(Option.bind (idx a.1 a.2) λc=>some (.inl ((a.1.set a.2.toNat b),(IntKind.i64.wrap (a.2 - 1)))))) else some (.inr a.1))) (A++(T++[y])++C,hi)) g=out:=by
 subst hlo
 simp only [List.length_append,List.length_cons,List.length_nil] at hl
 refine fM (λj=>((A++(T++[y]).take (T.length+1 - j))++(T.drop (T.length - j)++C),((A.length+(T.length - j):Nat):Int))) T.length _ ?_ ?_ ?_ hg
 ·have:(T++[y]).take (T.length+1 - 0)=T++[y]:=List.take_of_length_le (by simp)
  try dsimp only
  rw [hhi,this]
  simp
 ·intro j hj
  dsimp only
  have hz:T.length - 1 - j < T.length:=by omega
  have hzz:T.length - j < (T++[y]).length:=by simp; omega
  have t1:(T++[y]).take (T.length+1 - j)=(T++[y]).take (T.length - 1 - j)++[T[T.length - 1 - j]]++[(T++[y])[T.length - j]]:=by
   have a1:T.length+1 - j=(T.length - j)+1:=by omega
   have a2:T.length - j=(T.length - 1 - j)+1:=by omega
   rw [a1,List.take_succ_eq_append_getElem hzz]
   congr 1
   rw [a2,List.take_succ_eq_append_getElem (by simp; omega)]
   congr 2
   rw [List.getElem_append_left hz]
  have e2:A++(T++[y]).take (T.length+1 - j)++(T.drop (T.length - j)++C)=(A++(T++[y]).take (T.length - 1 - j))++T[T.length - 1 - j]::((T++[y])[T.length - j]::(T.drop (T.length - j)++C)):=by rw [t1]; simp
  have e3:A++(T++[y]).take (T.length+1 - j)++(T.drop (T.length - j)++C)=(A++(T++[y]).take (T.length - 1 - j)++[T[T.length - 1 - j]])++(T++[y])[T.length - j]::(T.drop (T.length - j)++C):=by rw [t1]; simp
  rw [decide_eq_true (by omega),cond_true,w64 (by omega) (by omega)]
  rw [show idx (A++(T++[y]).take (T.length+1 - j)++(T.drop (T.length - j)++C)) (((A.length+(T.length - j):Nat):Int) - 1)=some T[T.length - 1 - j] by rw [e2]; exact pg (by simp; omega)]
  rw [aA]
  rw [show idx (A++(T++[y]).take (T.length+1 - j)++(T.drop (T.length - j)++C)) ((A.length+(T.length - j):Nat):Int)=some ((T++[y])[T.length - j]) by rw [e3]; exact pg (by simp; omega)]
  rw [aA,Int.toNat_natCast,e3,qR (by simp; omega)]
  have t2:(T++[y]).take (T.length+1 - (j+1))=(T++[y]).take (T.length - 1 - j)++[T[T.length - 1 - j]]:=by
   have a2:T.length+1 - (j+1)=(T.length - 1 - j)+1:=by omega
   rw [a2,List.take_succ_eq_append_getElem (by simp; omega)]
   congr 2
   rw [List.getElem_append_left hz]
  have t3:T.drop (T.length - (j+1))=T[T.length - 1 - j]::T.drop (T.length - j):=by
   have a2:T.length - (j+1)=T.length - 1 - j:=by omega
   rw [a2,List.drop_eq_getElem_cons hz]
   congr 2
   omega
  rw [t2,t3]
  have t4:((A.length+(T.length - j):Nat):Int) - 1=((A.length+(T.length - (j+1)):Nat):Int):=by omega
  rw [t4]
  simp
 ·dsimp only
  rw [decide_eq_false (by omega),cond_false]
  have:T.length+1 - T.length=1:=by omega
  rw [this,Nat.sub_self,List.drop_zero]
theorem JI (W:Nat) (hW:W<=1000) (A B C:List aX) (top aL n s:Int) (hl:(A++B++C).length<=1000000) (hB:1<=B.length)
  (h1:max 0 (min top (((A++B++C).length:Int) - 1))=A.length) (h2:max 0 (min aL (((A++B++C).length:Int) - 1))=A.length+B.length - 1) :
  eK ⟨W,A++B++C⟩ true top aL n s=some (⟨W,A++upB (kN n B.length) B (told (jQ W s))++C⟩,B.take (kN n B.length)):=by
 unfold eK
 dsimp only
 have hl':=hl
 simp only [List.length_append] at hl'
 rw [w64 (x:=((A++B++C).length:Int) - 1) (by omega) (by omega)]
 simp only [gQ,dP,h1,h2]
 have hk:=GF n B.length
 have hkn: ∀ i:Nat,i < kN n B.length->(i:Int) < n:=λi hi=>by unfold kN at hi; omega
 have hkx: ¬ (((kN n B.length:Nat):Int) < n/\((kN n B.length:Nat):Int)<=(A.length:Int)+(B.length:Int) - 1 - (A.length:Int)):=by unfold kN; omega
 generalize kN n B.length=k at hk hkn hkx
 rw [decide_eq_false (by omega),cond_false,bL (by simp; omega),aA,Cj _ _ hW,aA,List.nil_append]
 refine fM (λi=>(B.take i,A++upB i B (told (jQ W s))++C,(i:Int))) k (B.take k,A++upB k B (told (jQ W s))++C) ?_ ?_ ?_ rfl
 ·rw [JF]
  rfl
 ·intro i hi
  dsimp only
  have hib:i < B.length:=by omega
  rw [Cg,w64 (x:=(A.length:Int)+(B.length:Int) - 1 - (A.length:Int)) (by omega) (by omega),decide_eq_true ⟨hkn i hi,by omega⟩,aA,cond_true,cond_true,JG _ _ _ hib]
  rw [show idx (A++B[i]::(B.drop (i+1)++List.replicate i (told (jQ W s)))++C) (A.length:Int)=some B[i] by rw [List.append_assoc,List.cons_append]; exact pg rfl]
  rw [aA,bL (by simp; omega),aA]
  rw [Rx (ρ:=Unit) (A.length:Int) ((A.length:Int)+(B.length:Int) - 1) A (B.drop (i+1)++List.replicate i (told (jQ W s))) C B[i] _ (some (B.take (i+1),A++upB (i+1) B (told (jQ W s))++C)) (by simp; omega) rfl (by simp; omega)]
  ·rw [aA,w64 (by omega) (by omega)]
   rfl
  ·generalize hT:B.drop (i+1)++List.replicate i (told (jQ W s))=T
   have hTl:A.length+T.length=A.length+B.length - 1:=by rw [<- hT]; simp; omega
   have hd:(B[i]::T).drop T.length=[(B[i]::T)[T.length]]:=by
    rw [List.drop_eq_getElem_cons (by simp),List.drop_eq_nil_of_le (by simp)]
   rw [hd,List.singleton_append]
   rw [pg (by simp; omega),aA,JH _ _ _ hib,hT,qR (by simp; omega),List.take_succ_eq_append_getElem hib]
   simp
 ·dsimp only
  rw [Cg,w64 (x:=(A.length:Int)+(B.length:Int) - 1 - (A.length:Int)) (by omega) (by omega),decide_eq_false hkx,aA,cond_false]
theorem Fu (W:Nat) (hW:W<=1000) (A B C:List aX) (top aL n s:Int) (hl:(A++B++C).length<=1000000) (hB:1<=B.length)
  (h1:max 0 (min top (((A++B++C).length:Int) - 1))=A.length) (h2:max 0 (min aL (((A++B++C).length:Int) - 1))=A.length+B.length - 1) :
  eK ⟨W,A++B++C⟩ false top aL n s=some (⟨W,A++ou (kN n B.length) B (told (jQ W s))++C⟩,(B.drop (B.length - kN n B.length)).reverse):=by
 unfold eK
 dsimp only
 have hl':=hl
 simp only [List.length_append] at hl'
 rw [w64 (x:=((A++B++C).length:Int) - 1) (by omega) (by omega)]
 simp only [gQ,dP,h1,h2]
 have hk:=GF n B.length
 have hkn: ∀ i:Nat,i < kN n B.length->(i:Int) < n:=λi hi=>by unfold kN at hi; omega
 have hkx: ¬ (((kN n B.length:Nat):Int) < n/\((kN n B.length:Nat):Int)<=(A.length:Int)+(B.length:Int) - 1 - (A.length:Int)):=by unfold kN; omega
 generalize kN n B.length=k at hk hkn hkx
 rw [decide_eq_false (by omega),cond_false,bL (by simp; omega),aA,Cj _ _ hW,aA,List.nil_append]
 refine fM (λi=>((B.drop (B.length - i)).reverse,A++ou i B (told (jQ W s))++C,(i:Int))) k ((B.drop (B.length - k)).reverse,A++ou k B (told (jQ W s))++C) ?_ ?_ ?_ rfl
 ·rw [Fq]
  simp
 ·intro i hi
  dsimp only
  have hib:i < B.length:=by omega
  rw [Cg,w64 (x:=(A.length:Int)+(B.length:Int) - 1 - (A.length:Int)) (by omega) (by omega),decide_eq_true ⟨hkn i hi,by omega⟩,aA,cond_true,cond_false,Fs _ _ _ hib]
  have hTl:A.length+(List.replicate i (told (jQ W s))++B.take (B.length - i - 1)).length=A.length+B.length - 1:=by simp; omega
  rw [show idx (A++((List.replicate i (told (jQ W s))++B.take (B.length - i - 1))++[B[B.length - i - 1]'(by omega)])++C) ((A.length:Int)+(B.length:Int) - 1)=some (B[B.length - i - 1]'(by omega)) by
   rw [<- List.append_assoc A,List.append_assoc (A++(List.replicate i (told (jQ W s))++B.take (B.length - i - 1))),List.singleton_append]; exact pg (by rw [List.length_append]; omega)]
  rw [aA,bL (by simp; omega),aA]
  rw [O2 (ρ:=Unit) (A.length:Int) ((A.length:Int)+(B.length:Int) - 1) A (List.replicate i (told (jQ W s))++B.take (B.length - i - 1)) C (B[B.length - i - 1]'(by omega)) _ (some ((B.drop (B.length - (i+1))).reverse,A++ou (i+1) B (told (jQ W s))++C)) (by simp; omega) rfl (by omega)]
  ·rw [aA,w64 (by omega) (by omega)]
   rfl
  ·rw [Ft _ _ _ hib]
   generalize hT:List.replicate i (told (jQ W s))++B.take (B.length - i - 1)=T
   have hd:(T++[B[B.length - i - 1]'(by omega)]).take 1=[(T++[B[B.length - i - 1]'(by omega)])[0]'(by simp)]:=by
    exact take_one (by simp)
   rw [hd,List.append_assoc A,List.singleton_append]
   rw [pg rfl,aA,Int.toNat_natCast,qR rfl]
   have a1:B.length - i=(B.length - i - 1)+1:=by omega
   have a2:B.length - (i+1)=B.length - i - 1:=by omega
   rw [a2,List.drop_eq_getElem_cons (i:=B.length - i - 1) (by omega),<- a1]
   simp
 ·dsimp only
  rw [Cg,w64 (x:=(A.length:Int)+(B.length:Int) - 1 - (A.length:Int)) (by omega) (by omega),decide_eq_false hkx,aA,cond_false]
end Go.Tw.X
namespace Go.Tw.X
open Go Go.Tw
theorem GI.len {W:Nat} {l:List aE} (h:GI W l): ∀ r∈l,r.cells.length<=1000000:=λr hr=>by
 have:=(h.rs r hr).1
 have:=h.w2
 omega
def rgB (l:List aE) (t b:Int):List aE:=(l.take (loS l b+1)).drop (loS l t)
def upL (W:Nat) (l:List aE) (t b n s:Int):List aE:=if loS l b < loS l t then l else l.take (loS l t)++upB (kN n (rgB l t b).length) (rgB l t b) (jQ W s)++l.drop (loS l b+1)
def upO (l:List aE) (t b n:Int):List aE:=if loS l b < loS l t then [] else (rgB l t b).take (kN n (rgB l t b).length)
def uz (W:Nat) (l:List aE) (t b n s:Int):List aE:=if loS l b < loS l t then l else l.take (loS l t)++ou (kN n (rgB l t b).length) (rgB l t b) (jQ W s)++l.drop (loS l b+1)
def vP (l:List aE) (t b n:Int):List aE:=if loS l b < loS l t then [] else ((rgB l t b).drop ((rgB l t b).length - kN n (rgB l t b).length)).reverse
theorem sB (l:List aE) (t b:Int) (h: ¬ loS l b < loS l t) (h1:1<=l.length):l=l.take (loS l t)++rgB l t b++l.drop (loS l b+1)/\(l.take (loS l t)).length=loS l t/\(rgB l t b).length=loS l b+1 - loS l t:=by
 have hb:=yc l b h1
 unfold rgB
 refine ⟨?_,?_,?_⟩
 ·have:l.take (loS l t)=(l.take (loS l b+1)).take (loS l t):=by rw [List.take_take]; congr 1; omega
  rw [this,List.take_append_drop,List.take_append_drop]
 ·rw [List.length_take]; omega
 ·rw [List.length_drop,List.length_take]; omega
theorem Cl {W:Nat} {l:List aE} (h:GI W l) (t b n s:Int):gB ⟨W,l⟩ t b n s=some (upO l t b n,⟨W,upL W l t b n s⟩)/\eK ⟨W,l.map told⟩ true t b n s=some (⟨W,(upL W l t b n s).map told⟩,(upO l t b n).map told):=by
 have h1:=h.l1
 have h2:=h.l2
 have hreg:=Bv (W:Int) l t b h1 (by omega)
 have hb:=yc l b h1
 by_cases hc:loS l b < loS l t
 ·rw [if_pos hc] at hreg
  unfold upO upL
  rw [if_pos hc,if_pos hc]
  constructor
  ·unfold gB
   rw [hreg,aA]
  ·unfold eK
   dsimp only
   rw [List.length_map,w64 (x:=(l.length:Int) - 1) (by omega) (by omega),gQ,gQ,dP,dP,qS,qS,decide_eq_true (by omega),cond_true]
   rfl
 ·rw [if_neg hc] at hreg
  obtain ⟨e,ea,eb⟩:=sB l t b hc h1
  have hlo:=qS l t
  have hhi:=qS l b
  unfold upO upL
  rw [if_neg hc,if_neg hc]
  generalize l.take (loS l t)=A at e ea
  generalize rgB l t b=B at e eb
  generalize l.drop (loS l b+1)=C at e
  rw [e] at hlo hhi hreg h2 hc ea eb ⊢
  have e2:((loS (A++B++C) b+1:Nat):Int)=((A.length+B.length:Nat):Int):=by omega
  have e1:((loS (A++B++C) t:Nat):Int)=(A.length:Int):=by omega
  rw [e1,e2] at hreg
  constructor
  ·exact Qq W h.w2 A B C t b n s (by omega) (by omega) hreg
  ·have hm:=JI W h.w2 (A.map told) (B.map told) (C.map told) t b n s (by simpa using (by omega:(A++B++C).length<=1000000)) (by simp; omega)
   have el:((A.map told++B.map told++C.map told).length:Int)=((A++B++C).length:Int):=by simp
   rw [el] at hm
   have:=hm (by rw [hlo,List.length_map]; omega) (by rw [hhi,List.length_map,List.length_map]; omega)
   rw [List.map_append,List.map_append,this,List.length_map,List.map_append,List.map_append,Mg,List.map_take]
theorem Dz {W:Nat} {l:List aE} (h:GI W l) (t b n s:Int):eO ⟨W,l⟩ t b n s=some (vP l t b n,⟨W,uz W l t b n s⟩)/\eK ⟨W,l.map told⟩ false t b n s=some (⟨W,(uz W l t b n s).map told⟩,(vP l t b n).map told):=by
 have h1:=h.l1
 have h2:=h.l2
 have hreg:=Bv (W:Int) l t b h1 (by omega)
 have hb:=yc l b h1
 by_cases hc:loS l b < loS l t
 ·rw [if_pos hc] at hreg
  unfold vP uz
  rw [if_pos hc,if_pos hc]
  constructor
  ·unfold eO
   rw [hreg,aA]
  ·unfold eK
   dsimp only
   rw [List.length_map,w64 (x:=(l.length:Int) - 1) (by omega) (by omega),gQ,gQ,dP,dP,qS,qS,decide_eq_true (by omega),cond_true]
   rfl
 ·rw [if_neg hc] at hreg
  obtain ⟨e,ea,eb⟩:=sB l t b hc h1
  have hlo:=qS l t
  have hhi:=qS l b
  unfold vP uz
  rw [if_neg hc,if_neg hc]
  generalize l.take (loS l t)=A at e ea
  generalize rgB l t b=B at e eb
  generalize l.drop (loS l b+1)=C at e
  rw [e] at hlo hhi hreg h2 hc ea eb ⊢
  have e2:((loS (A++B++C) b+1:Nat):Int)=((A.length+B.length:Nat):Int):=by omega
  have e1:((loS (A++B++C) t:Nat):Int)=(A.length:Int):=by omega
  rw [e1,e2] at hreg
  constructor
  ·exact Mi W h.w2 A B C t b n s (by omega) (by omega) hreg
  ·have hm:=Fu W h.w2 (A.map told) (B.map told) (C.map told) t b n s (by simpa using (by omega:(A++B++C).length<=1000000)) (by simp; omega)
   have el:((A.map told++B.map told++C.map told).length:Int)=((A++B++C).length:Int):=by simp
   rw [el] at hm
   have:=hm (by rw [hlo,List.length_map]; omega) (by rw [hhi,List.length_map,List.length_map]; omega)
   rw [List.map_append,List.map_append,this,List.length_map,List.map_append,List.map_append,HR,List.map_reverse,List.map_drop]
theorem Fv {l:List aE} {t b:Int} {r:aE} (h:r∈rgB l t b):r∈l:=List.mem_of_mem_take (List.mem_of_mem_drop h)
theorem N9 {W:Nat} {l:List aE} (h:GI W l) (t b n s:Int):GI W (upL W l t b n s):=by
 unfold upL
 by_cases hc:loS l b < loS l t
 ·rw [if_pos hc]
  exact h
 ·rw [if_neg hc]
  obtain ⟨e,ea,eb⟩:=sB l t b hc h.l1
  have hlen:(l.take (loS l t)++upB (kN n (rgB l t b).length) (rgB l t b) (jQ W s)++l.drop (loS l b+1)).length=l.length:=by
   conv=>rhs; rw [e]
   simp only [List.length_append,Ai]
  refine ⟨h.w1,h.w2,by rw [hlen]; exact h.l1,by rw [hlen]; exact h.l2,?_⟩
  intro r hr
  rw [List.mem_append,List.mem_append] at hr
  rcases hr with (hr | hr) | hr
  ·exact h.rs r (List.mem_of_mem_take hr)
  ·unfold upB at hr
   rw [List.mem_append] at hr
   rcases hr with hr | hr
   ·exact h.rs r (Fv (List.mem_of_mem_drop hr))
   ·rw [List.eq_of_mem_replicate hr]
    exact u3 _ _
  ·exact h.rs r (List.mem_of_mem_drop hr)
theorem Mj {W:Nat} {l:List aE} (h:GI W l) (t b n s:Int):GI W (uz W l t b n s):=by
 unfold uz
 by_cases hc:loS l b < loS l t
 ·rw [if_pos hc]
  exact h
 ·rw [if_neg hc]
  obtain ⟨e,ea,eb⟩:=sB l t b hc h.l1
  have hlen:(l.take (loS l t)++ou (kN n (rgB l t b).length) (rgB l t b) (jQ W s)++l.drop (loS l b+1)).length=l.length:=by
   conv=>rhs; rw [e]
   simp only [List.length_append,wY]
  refine ⟨h.w1,h.w2,by rw [hlen]; exact h.l1,by rw [hlen]; exact h.l2,?_⟩
  intro r hr
  rw [List.mem_append,List.mem_append] at hr
  rcases hr with (hr | hr) | hr
  ·exact h.rs r (List.mem_of_mem_take hr)
  ·unfold ou at hr
   rw [List.mem_append] at hr
   rcases hr with hr | hr
   ·rw [List.eq_of_mem_replicate hr]
    exact u3 _ _
   ·exact h.rs r (Fv (List.mem_of_mem_take hr))
  ·exact h.rs r (List.mem_of_mem_drop hr)
theorem Mk {l:List aE} {t b n:Int} {r:aE} (h:r∈upO l t b n):r∈l:=by
 unfold upO at h
 split at h
 ·cases h
 ·exact Fv (List.mem_of_mem_take h)
theorem Ml (l:List aE) (t b n:Int):(upO l t b n).length<=l.length:=by
 unfold upO
 split
 ·exact Nat.zero_le _
 ·unfold rgB
  rw [List.length_take,List.length_drop,List.length_take]
  omega
def rzL (W:Nat) (l:List aE) (c H:Nat):List aE:=((l.drop c).take H++List.replicate (H - (l.length - c)) (jQ W 0)).map (rsz W)
theorem qT (W:Nat) (l:List aE) (c H:Nat):(rzL W l c H).length=H:=by
 unfold rzL
 simp
 omega
theorem Fw (w0:Int) (l:List aE) (w h off:Int) (h1:1<=l.length) (h2:l.length<=1000000) (hr: ∀ r∈l,r.cells.length<=1000000):lA ⟨w0,l⟩ w h off=some (l.take (loS l off),⟨(szN w:Int),rzL (szN w) l (loS l off) (szN h)⟩):=by
 unfold lA
 dsimp only
 have hw:=pf w
 have hh:=pf h
 rw [w64 (x:=(l.length:Int) - 1) (by omega) (by omega),ux,aA,qS]
 have hc:=yc l off h1
 unfold rzL
 generalize loS l off=c at hc
 have c1:cut l (c:Int) (l.length:Int)=l.drop c:=by rw [tu,List.take_length]
 have hm:eM ((l.drop c).length:Int) (szN h:Int)=((min (l.drop c).length (szN h):Nat):Int):=by rw [dP]; omega
 have c2:cut (l.drop c) 0 ((min (l.drop c).length (szN h):Nat):Int)=(l.drop c).take (szN h):=by
  rw [Af,<- List.take_take]
  exact List.take_of_length_le (by rw [List.length_take]; omega)
 rw [bP (by omega) (by omega) (by omega),aA,Af,u4 _ (by rw [List.length_take]; omega),aA,bP (by omega) (by omega) (by omega),aA,c1,u4 _ (by rw [List.length_drop]; omega),aA,uy,aA,hm,bP (by omega) (by omega) (by omega),aA,c2]
 refine fM (λi=>(l.drop c).take (szN h)++List.replicate i (jQ (szN w) 0)) (szN h - (l.length - c)) ((l.drop c).take (szN h)++List.replicate (szN h - (l.length - c)) (jQ (szN w) 0)) ?_ ?_ ?_ ?_
 ·simp
 ·intro i hi
  try dsimp only
  rw [aA,decide_eq_true (by simp; omega),cond_true,uy w,aA,Ci _ _ hw,aA,bL (by simp; omega),aA,List.append_assoc,<- List.replicate_succ']
 ·try dsimp only
  rw [aA,decide_eq_false (by simp; omega),cond_false]
 ·rw [uy,aA]
  have hL: ∀ r∈(l.drop c).take (szN h)++List.replicate (szN h - (l.length - c)) (jQ (szN w) 0),r.cells.length<=1000000:=by
   intro r hrr
   rcases List.mem_append.1 hrr with hrr | hrr
   ·exact hr r (List.mem_of_mem_drop (List.mem_of_mem_take hrr))
   ·rw [List.eq_of_mem_replicate hrr]
    simp [jQ]
    omega
  have hLl:((l.drop c).take (szN h)++List.replicate (szN h - (l.length - c)) (jQ (szN w) 0)).length=szN h:=by
   simp
   omega
  generalize (l.drop c).take (szN h)++List.replicate (szN h - (l.length - c)) (jQ (szN w) 0)=L at hL hLl
  refine fM (λi=>((⟨(szN w:Int),(L.take i).map (rsz (szN w))++L.drop i⟩:aY),(i:Int))) L.length (⟨(szN w:Int),L.map (rsz (szN w))⟩:aY) ?_ ?_ ?_ rfl
  ·simp
  ·intro i hi
   dsimp only
   have hd:(L.take i).map (rsz (szN w))++L.drop i=(L.take i).map (rsz (szN w))++L[i]::L.drop (i+1):=by rw [List.drop_eq_getElem_cons hi]
   have hlen:(L.take i).length=i:=by rw [List.length_take]; omega
   rw [decide_eq_true (by omega),cond_true,hd,pg (by simp; omega),aA,JC _ hw _ _ _ (hL _ (List.getElem_mem hi)),aA,w64 (by omega) (by omega)]
   dsimp only
   unfold vo
   rw [if_pos (by simp; omega),Int.toNat_natCast,qR (by simp; omega),List.take_succ_eq_append_getElem hi,List.map_append,List.append_assoc]
   rfl
  ·dsimp only
   rw [decide_eq_false (by omega),cond_false]
   simp
theorem Qr {W:Nat} {l:List aE} (hl: ∀ r∈l,okR r.cells) (W':Nat) (c H:Nat) (h1:1<=W') (h2:W'<=1000) (h3:1<=H) (h4:H<=1000):GI W' (rzL W' l c H):=by
 refine ⟨h1,h2,by rw [qT]; exact h3,by rw [qT]; exact h4,?_⟩
 intro r hr
 unfold rzL at hr
 obtain ⟨q,hq,rfl⟩:=List.mem_map.1 hr
 refine GD _ _ ?_
 rcases List.mem_append.1 hq with hq | hq
 ·exact hl q (List.mem_of_mem_drop (List.mem_of_mem_take hq))
 ·rw [List.eq_of_mem_replicate hq]
  exact (u3 _ _).2
theorem m63 (x:Int) (h0:0<=x) (h1:x < 2147483648):Go.bits .and .i32 x 63=x % 64:=by
 have h:=bits_mask .i32 31 (by decide) wraps_i32 6 (by decide) x h0 (by omega)
 have e:((2:Int) ^ 6 - 1)=63:=by decide
 have e2:((2:Int) ^ 6)=64:=by decide
 rw [e,e2] at h
 exact h
theorem Ry {x:Int} (h0:0<=x) (h1:x < 256):IntKind.u8.wrap x=x:=by rw [IntKind.wrap_u8]; omega
theorem foldl_push (xs:List Int): ∀ l:List UInt8,xs.foldl (λr n=>r.push (UInt8.ofNat n.toNat)) (ByteArray.mk l.toArray)=ByteArray.mk (l++xs.map (λn=>UInt8.ofNat n.toNat)).toArray:=by
 induction xs with
 | nil=>intro l; simp
 | cons a xs ih =>
  intro l
  rw [List.foldl_cons]
  have:(ByteArray.mk l.toArray).push (UInt8.ofNat a.toNat)=ByteArray.mk (l++[UInt8.ofNat a.toNat]).toArray:=by
   show ByteArray.mk (l.toArray.push _)=_
   rw [List.push_toArray]
  rw [this,ih]
  simp
theorem Cm (xs:List Int):gX xs=ByteArray.mk (xs.map (λn=>UInt8.ofNat n.toNat)).toArray:=foldl_push xs []
theorem nD (a:List Int):(gX a).size=a.length:=by
 rw [Cm]
 simp [ByteArray.size]
theorem DA (r:aE):(qN r).length<=r.cells.length:=by
 unfold qN N6
 refine Nat.le_trans (yV _) ?_
 split
 ·exact Nat.le_refl _
 ·exact tr _ _
theorem HS {n m:Nat} (h:n+m<=4611686018427387904):chk (OP n m)=some ():=nq h
def ng (n:Nat):List Int:=if n < 128 then [(n:Int)] else ((128+n % 128:Nat):Int)::ng (n / 128)
termination_by n
decreasing_by omega
def clN (n:Int):Nat:=(max 0 (min n 4611686018427387904)).toNat
theorem O3 (n:Int):imax 0 (eM n 4611686018427387904)=(clN n:Int):=by rw [gQ,dP]; unfold clN; omega
theorem JJ (n:Int):clN n<=4611686018427387904:=by unfold clN; omega
def dF (n:Int):List Int:=ng (clN n)
theorem mv {n:Nat} (h:n < 128):ng n=[(n:Int)]:=by rw [ng,if_pos h]
theorem sC {n:Nat} (h: ¬ n < 128):ng n=((128+n % 128:Nat):Int)::ng (n / 128):=by rw [ng,if_neg h]
theorem wZ: ∀ (k n:Nat),n < 128 ^ (k+1)->(ng n).length<=k+1:=by
 intro k
 induction k with
 | zero =>
  intro n h
  rw [mv (by omega)]
  simp
 | succ k ih =>
  intro n h
  by_cases hn:n < 128
  ·rw [mv hn]
   simp
  ·rw [sC hn,List.length_cons]
   have:n / 128 < 128 ^ (k+1):=by
    rw [Nat.pow_succ] at h
    exact Nat.div_lt_of_lt_mul (by rw [Nat.mul_comm]; exact h)
   have:=ih _ this
   omega
theorem dO (n:Int):(dF n).length<=9:=wZ 8 _ (by have:=JJ n; omega)
theorem sD: ∀ (n:Nat),∀ b∈ng n,0<=b/\b < 256:=by
 intro n
 induction n using Nat.strongRecOn with
 | _ n ih =>
  intro b hb
  by_cases hn:n < 128
  ·rw [mv hn,List.mem_singleton] at hb
   omega
  ·rw [sC hn] at hb
   rcases List.mem_cons.1 hb with rfl | hb
   ·omega
   ·exact ih (n / 128) (by omega) b hb
theorem JK (x:Int) (h0:0<=x) (h1:x < 256):Go.bits .and .u8 x 127=x % 128:=by
 have h:=bits_mask .u8 8 (by decide) wraps_u8 7 (by decide) x h0 (by omega)
 have e:((2:Int) ^ 7 - 1)=127:=by decide
 have e2:((2:Int) ^ 7)=128:=by decide
 rw [e,e2] at h
 exact h
theorem or_comm (k:IntKind) (x y:Int):Go.bits .or k x y=Go.bits .or k y x:=by
 show k.wrap ((BitVec.ofInt k.bits x ||| BitVec.ofInt k.bits y).toNat:Int)=k.wrap ((BitVec.ofInt k.bits y ||| BitVec.ofInt k.bits x).toNat:Int)
 rw [BitVec.or_comm]
theorem Mm (y:Int) (h0:0<=y) (h1:y < 128):Go.bits .or .u8 y 128=128+y:=by
 rw [or_comm]
 exact bits_join .u8 8 (by decide) wraps_u8 7 128 y (by decide) (by decide) (by decide) h0 (by omega) (by omega)
theorem Qs (n:Nat):(n:Int).fdiv (2 ^ (min 7 64))=((n / 128:Nat):Int):=by
 rw [Int.fdiv_eq_ediv_of_nonneg _ (by decide)]
 show (n:Int) / 128=_
 omega
theorem HT (b:List Int) (x:Int) (hb:b.length<=100000000): ∃ e,nM (λ(s661:cF) (x619:Int)=>(Option.bind (chk (eH s661.b.length [x619].length 1)) λ_=>some ((cF.mk (s661.b++[x619])),true))) (⟨b⟩:cF) x=some ((⟨b++dF x⟩:cF),e):=by
 unfold nM td
 rw [O3,aA]
 unfold dF
 have hle:=JJ x
 generalize clN x=n at hle
 have key: ∀ (k n:Nat) (b:List Int),n < 128 ^ (k+1)->b.length+(k+1)<=100000010 -> ∃ e,iter (σ:=Int×cF) (ρ:=(Int×cF) ⊕ (cF×Int)) (λa=>(bif (decide (a.1>=128)) then (Option.bind ((λ(s661:cF) (x619:Int)=>(Option.bind (chk (eH s661.b.length [x619].length 1)) λ_=>some ((cF.mk (s661.b++[x619])),true))) a.2 (Go.bits .or .u8 (Go.bits .and .u8 (IntKind.u8.wrap a.1) 127) 128)) λz68=>(bif (!z68.2) then (m6 (some (z68.1,a.1))) else some (.inl ((a.1.fdiv (2 ^ (min 7 64))),z68.1)))) else some (.inr (.inl (a.1,a.2))))) ((n:Int),(⟨b⟩:cF))=some (.inl ((e:Int),(⟨b++(ng n).dropLast⟩:cF)))/\0<=e/\e < 128/\ng n=(ng n).dropLast++[e]:=by
  intro k
  induction k with
  | zero =>
   intro n b h hb
   refine ⟨n,?_,by omega,by omega,?_⟩
   ·rw [mv (by omega)]
    refine cQ ?_
    dsimp only
    rw [decide_eq_false (by omega),cond_false]
    simp
   ·rw [mv (by omega)]
    rfl
  | succ k ih =>
   intro n b h hb
   by_cases hn:n < 128
   ·refine ⟨n,?_,by omega,by omega,?_⟩
    ·rw [mv hn]
     refine cQ ?_
     dsimp only
     rw [decide_eq_false (by omega),cond_false]
     simp
    ·rw [mv hn]
     rfl
   ·have hlt:n / 128 < 128 ^ (k+1):=by
     rw [Nat.pow_succ] at h
     exact Nat.div_lt_of_lt_mul (by rw [Nat.mul_comm]; exact h)
    obtain ⟨e,h1,h2,h3,h4⟩:=ih (n / 128) (b++[((128+n % 128:Nat):Int)]) hlt (by simp; omega)
    refine ⟨e,?_,h2,h3,?_⟩
    ·rw [dN (s':=(((n / 128:Nat):Int),(⟨b++[((128+n % 128:Nat):Int)]⟩:cF)))]
     ·rw [h1,sC hn]
      have hne:ng (n / 128)≠[]:=by rw [h4]; simp
      rw [List.dropLast_cons_of_ne_nil hne]
      simp
     ·dsimp only
      have hw:IntKind.u8.wrap (n:Int)=((n % 256:Nat):Int):=by rw [IntKind.wrap_u8]; omega
      have hv:Go.bits .or .u8 (Go.bits .and .u8 (IntKind.u8.wrap (n:Int)) 127) 128=((128+n % 128:Nat):Int):=by
       rw [hw,JK _ (by omega) (by omega),Mm _ (by omega) (by omega)]
       omega
      rw [decide_eq_true (by omega),cond_true,hv,bL (by simp; omega),aA,aA]
      dsimp only
      rw [Bool.not_true,cond_false,Qs]
    ·rw [sC hn]
     have hne:ng (n / 128)≠[]:=by rw [h4]; simp
     rw [List.dropLast_cons_of_ne_nil hne,List.cons_append,<- h4]
 obtain ⟨e,h1,h2,h3,h4⟩:=key 8 n b (by omega) (by omega)
 have hl:=wZ 8 n (by omega)
 have hd:(ng n).dropLast.length<=9:=by rw [List.length_dropLast]; omega
 refine ⟨e,?_⟩
 rw [h1,aA]
 dsimp only
 have hu:IntKind.u8.wrap e=e:=by rw [IntKind.wrap_u8]; omega
 rw [hu,bL (by simp only [List.length_append,List.length_singleton]; omega),aA,aA,List.append_assoc,<- h4]
theorem ph (b:List Int) (l:List Int) (hb:b.length+9*l.length<=10000000):cY ⟨b⟩ l=some ⟨b++l.flatMap dF⟩:=by
 unfold cY qv
 have hfl: ∀ l:List Int,(l.flatMap dF).length<=9*l.length:=by
  intro l
  induction l with
  | nil=>simp
  | cons a l ih =>
   rw [List.flatMap_cons,List.length_append,List.length_cons]
   have:=dO a
   omega
 refine fM (λi=>((⟨b++(l.take i).flatMap dF⟩:cF),(i:Int))) l.length (⟨b++l.flatMap dF⟩:cF) ?_ ?_ ?_ rfl
 ·simp
 ·intro i hi
  dsimp only
  have h4:=hfl (l.take i)
  rw [List.length_take] at h4
  obtain ⟨e,he⟩:=HT (b++(l.take i).flatMap dF) l[i] (by rw [List.length_append]; omega)
  rw [decide_eq_true (by omega),cond_true,dB l i hi,aA,aA,he,aA,w64 (by omega) (by omega),List.take_succ_eq_append_getElem hi,List.flatMap_append,List.flatMap_singleton,List.append_assoc]
  rfl
 ·dsimp only
  rw [decide_eq_false (by omega),cond_false,List.take_length]
def most:Nat:=4611686018427387904
def rdp:Nat->Nat->Nat->List Int->Int ⊕ (Nat×Nat)
 | 0,_,_,_=> .inl 1
 | _+1,_,_,[]=> .inl 2
 | k+1,i,acc,b::r=>if b < 128 then (if (i > 0/\b=0)\/acc+b.toNat % 128*128 ^ i > most then .inl 1 else .inr (acc+b.toNat % 128*128 ^ i,i+1)) else rdp k (i+1) (acc+b.toNat % 128*128 ^ i) r
def noS:ByteArray:=ByteArray.mk #[]
theorem mR (s:ByteArray): ∀ b∈sbs s,0<=b/\b < 256:=by
 intro b hb
 unfold sbs at hb
 obtain ⟨c,_,rfl⟩:=List.mem_map.1 hb
 have:=c.toNat_lt
 omega
theorem w7 (s:ByteArray) (i:Nat) (h:i < (sbs s).length):z6 s (i:Int)=some (sbs s)[i]:=by
 unfold z6
 rw [decide_eq_true (by omega),cond_true,Int.toNat_natCast]
 have h2:i < s.data.size:=by rw [bB] at h; exact h
 rw [Array.getElem?_eq_getElem h2]
 simp only [sbs,Option.map_some,List.getElem_map,Array.getElem_toList]
theorem p2 (i:Nat):2 ^ (7*i)=128 ^ i:=by rw [Nat.pow_mul]
theorem pw8 {i:Nat} (h:i<=8):128 ^ i<=72057594037927936:=Nat.le_trans (Nat.pow_le_pow_right (by omega) h) (by decide)
theorem Mn (i acc b:Nat) (hi:i<=8) (ha:acc < 128 ^ i) (hb:b < 256) :
  Go.bits .or .i64 (acc:Int) (IntKind.i64.wrap ((IntKind.i64.wrap (Go.bits .and .u8 (b:Int) 127))*2 ^ (min (IntKind.i64.wrap (7*(i:Int))).toNat 64)))=((acc+b % 128*128 ^ i:Nat):Int)/\acc+b % 128*128 ^ i < 128 ^ (i+1):=by
 have hP:=pw8 hi
 have h7:(IntKind.i64.wrap (7*(i:Int))).toNat=7*i:=by rw [w64 (by omega) (by omega)]; omega
 have hm:min (7*i) 64=7*i:=by omega
 have hp:(2:Int) ^ (7*i)=((128 ^ i:Nat):Int):=by rw [<- p2]; simp
 rw [h7,hm,hp,JK _ (by omega) (by omega)]
 have hlt:b % 128*128 ^ i<=127*128 ^ i:=Nat.mul_le_mul_right _ (by omega)
 have hP1:128 ^ (i+1)=128*128 ^ i:=by rw [Nat.pow_succ,Nat.mul_comm]
 have e1:IntKind.i64.wrap ((b:Int) % 128)=((b % 128:Nat):Int):=by rw [w64 (by omega) (by omega)]; omega
 have e2:((b % 128:Nat):Int)*((128 ^ i:Nat):Int)=((b % 128*128 ^ i:Nat):Int):=by simp
 rw [e1,e2]
 generalize hw:b % 128*128 ^ i=w at hlt
 rw [w64 (by omega) (by omega),or_comm]
 have hmod:(w:Int) % 2 ^ (7*i)=0:=by
  rw [hp,<- hw]
  rw [<- Int.natCast_emod,Nat.mul_mod_left]
  rfl
 have:=bits_join .i64 63 (by decide) (λn h0 h1=>w64 (by omega) (by omega)) (7*i) (w:Int) (acc:Int) (by omega) hmod (by omega) (by omega) (by rw [hp]; omega) (by omega)
 rw [this]
 constructor
 ·omega
 ·omega
def Mo (s:ByteArray):Int ⊕ (Nat×Nat)->Int×aT
 | .inl e=>(0,⟨noS,e⟩)
 | .inr (v,j)=>(v,⟨iN s j s.size,0⟩)
theorem sE (s:ByteArray) (e:Int) (h:e≠0):bU ⟨s,0⟩ e=some ⟨noS,e⟩:=by
 unfold bU
 have:(e != 0)=true:=by simpa using h
 simp [this,noS]
theorem ye (s:ByteArray) (e f:Int) (h:e≠0):bU ⟨s,e⟩ f=some ⟨s,e⟩:=by
 unfold bU
 have:(e == 0)=false:=by simpa using h
 simp [this]
theorem Mq (s:ByteArray) (hs:s.size<=1000000):bV ⟨s,0⟩=some (Mo s (rdp 9 0 0 (sbs s))):=by
 unfold bV
 have hl:(sbs s).length=s.size:=bB s
 refine Eq.trans ?_ (congrArg (λl=>some (Mo s (rdp 9 0 0 l))) (List.drop_zero (l:=sbs s)))
 have key: ∀ (k i acc:Nat),i+k=9->acc < 128 ^ i->i<=(sbs s).length->Option.bind (iter (σ:=Int×Int) (ρ:=Unit ⊕ (Int×aT)) (λa=>(bif (decide (a.1 < (eM ((⟨s,0⟩:aT).s.size:Int) 9))) then (Option.bind (z6 (⟨s,0⟩:aT).s a.1) λb213=>(Option.bind (chk (shk (IntKind.i64.wrap (7*a.1)))) λ_=>(bif (decide (b213>=128)) then some (.inl ((IntKind.i64.wrap (a.1+1)),(Go.bits .or .i64 a.2 (IntKind.i64.wrap ((IntKind.i64.wrap (Go.bits .and .u8 b213 127))*2 ^ (min (IntKind.i64.wrap (7*a.1)).toNat 64)))))) else (Option.bind ((bif (decide (a.1 > 0)) then (bif (b213 == 0) then some true else some (decide ((Go.bits .or .i64 a.2 (IntKind.i64.wrap ((IntKind.i64.wrap (Go.bits .and .u8 b213 127))*2 ^ (min (IntKind.i64.wrap (7*a.1)).toNat 64)))) > 4611686018427387904))) else some (decide ((Go.bits .or .i64 a.2 (IntKind.i64.wrap ((IntKind.i64.wrap (Go.bits .and .u8 b213 127))*2 ^ (min (IntKind.i64.wrap (7*a.1)).toNat 64)))) > 4611686018427387904))):Option Bool) λc=>(bif c then (Option.bind (bU (⟨s,0⟩:aT) 1) λd=>(m6 (some (0,d)))) else (Option.bind (chk (dC (IntKind.i64.wrap (a.1+1)) ((⟨s,0⟩:aT).s.size:Int) (⟨s,0⟩:aT).s.size)) λ_=>(m6 (some ((Go.bits .or .i64 a.2 (IntKind.i64.wrap ((IntKind.i64.wrap (Go.bits .and .u8 b213 127))*2 ^ (min (IntKind.i64.wrap (7*a.1)).toNat 64)))),(aT.mk (iN (⟨s,0⟩:aT).s (IntKind.i64.wrap (a.1+1)) ((⟨s,0⟩:aT).s.size:Int)) (⟨s,0⟩:aT).e)))))))))) else some (.inr (.inl ())))) ((i:Int),(acc:Int))) (λ | .inl e176=>(Option.bind ((bif (decide (((⟨s,0⟩:aT).s.size:Int)>=9)) then (Option.bind (bU (⟨s,0⟩:aT) 1) λf=>some f) else some (⟨s,0⟩:aT)):Option aT) λg=>(Option.bind (bU g 2) λj=>some (0,j))) | .inr w=>some w)=some (Mo s (rdp k i acc ((sbs s).drop i))):=by
  intro k
  induction k with
  | zero =>
   intro i acc hi ha hil
   rw [cQ (r:= .inl ())]
   ·rw [aA]
    dsimp only
    rw [decide_eq_true (by omega),cond_true,sE _ _ (by decide),aA,aA,ye _ _ _ (by decide),aA]
    rfl
   ·dsimp only
    rw [dP,decide_eq_false (by omega),cond_false]
  | succ k ih =>
   intro i acc hi ha hil
   by_cases hlt:i < (sbs s).length
   ·obtain ⟨hb0,hb1⟩:=mR s _ (List.getElem_mem hlt)
    have hx:=w7 s i hlt
    rw [List.drop_eq_getElem_cons hlt]
    generalize (sbs s)[i]=b at hb0 hb1 hx
    obtain ⟨B,rfl⟩:=Int.eq_ofNat_of_zero_le hb0
    obtain ⟨hor,hbd⟩:=Mn i acc B (by omega) ha (by omega)
    have hshk:chk (shk (IntKind.i64.wrap (7*(i:Int))))=some ():=by
     rw [w64 (by omega) (by omega)]
     exact nq (by omega)
    unfold rdp
    rw [Int.toNat_natCast]
    by_cases hbig:(B:Int)>=128
    ·rw [dN (s':=(((i+1:Nat):Int),((acc+B % 128*128 ^ i:Nat):Int)))]
     ·rw [ih (i+1) (acc+B % 128*128 ^ i) (by omega) hbd (by omega),if_neg (by omega)]
     ·dsimp only
      rw [dP,decide_eq_true (by omega),cond_true,hx,aA,hshk,aA,decide_eq_true hbig,cond_true,hor,w64 (by omega) (by omega)]
      rfl
    ·rw [if_pos (by omega)]
     have hc:((bif (decide ((i:Int) > 0)) then (bif ((B:Int) == 0) then some true else some (decide (((acc+B % 128*128 ^ i:Nat):Int) > 4611686018427387904))) else some (decide (((acc+B % 128*128 ^ i:Nat):Int) > 4611686018427387904))):Option Bool)=some (decide ((i > 0/\(B:Int)=0)\/acc+B % 128*128 ^ i > most)):=by
      have hd: ∀ v:Nat,decide ((v:Int) > 4611686018427387904)=decide (v > most):=λv=>by
       unfold most
       congr 1
       apply propext
       omega
      rw [hd]
      by_cases c1:i > 0
      ·have c1':(i:Int) > 0:=by omega
       rw [decide_eq_true c1',cond_true]
       by_cases c2:(B:Int)=0
       ·have:((B:Int) == 0)=true:=by simpa using c2
        rw [this,cond_true,decide_eq_true (.inl ⟨c1,c2⟩)]
       ·have:((B:Int) == 0)=false:=by simpa using c2
        rw [this,cond_false]
        congr 1
        by_cases c3:acc+B % 128*128 ^ i > most
        ·rw [decide_eq_true c3,decide_eq_true (.inr c3)]
        ·rw [decide_eq_false c3,decide_eq_false (by rintro (h | h); exact c2 h.2; exact c3 h)]
      ·rw [decide_eq_false (by omega),cond_false]
       congr 1
       by_cases c3:acc+B % 128*128 ^ i > most
       ·rw [decide_eq_true c3,decide_eq_true (.inr c3)]
       ·rw [decide_eq_false c3,decide_eq_false (by rintro (h | h); exact c1 h.1; exact c3 h)]
     by_cases hf:(i > 0/\(B:Int)=0)\/acc+B % 128*128 ^ i > most
     ·rw [if_pos hf,cQ (r:= .inr (0,⟨noS,1⟩))]
      ·rfl
      ·dsimp only
       rw [dP,decide_eq_true (by omega),cond_true,hx,aA,hshk,aA,decide_eq_false hbig,cond_false,hor,hc,aA,decide_eq_true hf,cond_true,sE _ _ (by decide),aA]
       rfl
     ·rw [if_neg hf,cQ (r:= .inr (((acc+B % 128*128 ^ i:Nat):Int),⟨iN s ((i+1:Nat):Int) s.size,0⟩))]
      ·rfl
      ·dsimp only
       rw [dP,decide_eq_true (by omega),cond_true,hx,aA,hshk,aA,decide_eq_false hbig,cond_false,hor,hc,aA,decide_eq_false hf,cond_false,w64 (by omega) (by omega),bP (by omega) (by omega) (by omega),aA]
       rfl
   ·have hd:(sbs s).drop i=[]:=List.drop_eq_nil_of_le (by omega)
    rw [hd,cQ (r:= .inl ())]
    ·rw [aA]
     dsimp only
     rw [decide_eq_false (by omega),cond_false,aA,sE _ _ (by decide),aA]
     rfl
    ·dsimp only
     rw [dP,decide_eq_false (by omega),cond_false]
 exact key 9 0 0 (by omega) (by omega) (by omega)
theorem w9 (a b:ByteArray):(a.toList == b.toList)=decide (a=b):=by
 rw [ByteArray.toList_eq,ByteArray.toList_eq]
 by_cases h:a=b
 ·subst h
  rw [decide_eq_true rfl,beq_self_eq_true]
 ·rw [decide_eq_false h]
  have: ¬ a.data.toList=b.data.toList:=λe=>h (ByteArray.ext (Array.ext' e))
  simpa using this
theorem gO (s:ByteArray) (lo hi:Nat):sbs (iN s lo hi)=((sbs s).take hi).drop lo:=by
 unfold sbs iN
 rw [ByteArray.data_extract,Int.toNat_natCast,Int.toNat_natCast]
 rw [Array.toList_extract]
 rw [List.extract_eq_take_drop,List.map_take,List.map_drop,List.drop_take]
theorem xc (s:ByteArray):gX (sbs s)=s:=by
 rw [Cm]
 unfold sbs
 rw [List.map_map]
 have:((λn:Int=>UInt8.ofNat n.toNat) ∘ λb:UInt8=>(b.toNat:Int))=id:=by
  funext b
  simp
 rw [this,List.map_id]
theorem p8 (l:List Int) (h: ∀ b∈l,0<=b/\b < 256):sbs (gX l)=l:=by
 rw [Cm]
 unfold sbs
 simp only [List.map_map]
 induction l with
 | nil=>rfl
 | cons a l ih =>
  have ha:=h a (List.mem_cons_self ..)
  rw [List.map_cons,ih λb hb=>h b (List.mem_cons_of_mem _ hb)]
  congr 1
  show ((UInt8.ofNat a.toNat).toNat:Int)=a
  rw [UInt8.toNat_ofNat']
  omega
theorem tv {a b:ByteArray} (h:sbs a=sbs b):a=b:=by rw [<- xc a,h,xc]
theorem qU (a b:ByteArray):sbs (a++b)=sbs a++sbs b:=by
 unfold sbs
 rw [ByteArray.data_append]
 simp
theorem JL:gX []=noS:=rfl
def VI (i:aT):Prop:=i.s.size<=1000000/\(i.e=0\/i.s=noS)
def rdS (i:aT):Int×aT:=if i.e=0 then Mo i.s (rdp 9 0 0 (sbs i.s)) else (0,i)
theorem pj (i:aT) (h:VI i):bV i=some (rdS i):=by
 obtain ⟨s,e⟩:=i
 obtain ⟨h1,h2⟩:=h
 unfold rdS
 by_cases he:e=0
 ·subst he
  rw [if_pos rfl]
  exact Mq s h1
 ·rw [if_neg he]
  obtain rfl:s=noS:=h2.resolve_left he
  unfold bV
  rw [cQ (r:= .inl ())]
  ·rw [aA]
   have hz:(noS.size:Int)=0:=rfl
   dsimp only
   rw [hz,decide_eq_false (by omega),cond_false,aA,ye _ _ _ he,aA]
  ·dsimp only
   have hz:(noS.size:Int)=0:=rfl
   rw [dP,hz,decide_eq_false (by omega),cond_false]
theorem JM: ∀ (k i acc:Nat) (l:List Int) (v j:Nat),(∀ b∈l,0<=b/\b < 256)->rdp k i acc l = .inr (v,j) -> ∃ w,v=acc+w*128 ^ i/\v<=most/\i < j/\j<=i+l.length/\ng w=l.take (j - i)/\(i > 0->w > 0):=by
 intro k
 induction k with
 | zero=>intro i acc l v j hb h; cases h
 | succ k ih =>
  intro i acc l v j hb h
  cases l with
  | nil=>cases h
  | cons b r =>
   unfold rdp at h
   have hb0:=hb b (List.mem_cons_self ..)
   obtain ⟨B,rfl⟩:=Int.eq_ofNat_of_zero_le hb0.1
   rw [Int.toNat_natCast] at h
   by_cases hbig:(B:Int) < 128
   ·rw [if_pos hbig] at h
    by_cases hf:(i > 0/\(B:Int)=0)\/acc+B % 128*128 ^ i > most
    ·rw [if_pos hf] at h
     cases h
    ·rw [if_neg hf] at h
     injection h with h
     injection h with hv hj
     have hm:B % 128=B:=Nat.mod_eq_of_lt (by omega)
     rw [hm] at hv hf
     refine ⟨B,hv.symm,?_,by omega,by simp; omega,?_,?_⟩
     ·rw [<- hv]
      exact Nat.le_of_not_lt λhh=>hf (.inr hh)
     ·rw [mv (by omega),<- hj]
      have:i+1 - i=1:=by omega
      rw [this]
      rfl
     ·intro hi
      exact Nat.pos_of_ne_zero λh0=>hf (.inl ⟨hi,by omega⟩)
   ·rw [if_neg hbig] at h
    obtain ⟨w,h1,h2,h3,h4,h5,h6⟩:=ih (i+1) _ r v j (λc hc=>hb c (List.mem_cons_of_mem _ hc)) h
    have hw:=h6 (by omega)
    refine ⟨B % 128+128*w,?_,h2,by omega,by simp; omega,?_,λ_=>by omega⟩
    ·rw [h1,Nat.pow_succ,Nat.add_mul,Nat.add_assoc]
     congr 2
     rw [Nat.mul_comm 128 w,Nat.mul_assoc,Nat.mul_comm 128]
    ·rw [sC (by omega)]
     have e1:(B % 128+128*w) / 128=w:=by omega
     have e2:128+(B % 128+128*w) % 128=B:=by omega
     have e3:j - i=(j - (i+1))+1:=by omega
     rw [e1,e2,h5,e3,List.take_succ_cons]
theorem Mr: ∀ (k i acc w:Nat) (R:List Int),w < 128 ^ (k+1)->k+1+i<=9->(i > 0->w > 0)->acc+w*128 ^ i<=most->rdp (k+1) i acc (ng w++R) = .inr (acc+w*128 ^ i,i+(ng w).length):=by
 intro k
 induction k with
 | zero =>
  intro i acc w R hw hk hi hm
  have hs:w < 128:=by simpa using hw
  rw [mv hs]
  show rdp (0+1) i acc ((w:Int)::R)=_
  unfold rdp
  have hmod:w % 128=w:=Nat.mod_eq_of_lt hs
  rw [if_pos (by omega),Int.toNat_natCast,hmod,if_neg]
  ·simp
  ·rintro (⟨h1,h2⟩ | h)
   ·have:=hi h1
    omega
   ·omega
 | succ k ih =>
  intro i acc w R hw hk hi hm
  by_cases hs:w < 128
  ·rw [mv hs]
   show rdp (k+1+1) i acc ((w:Int)::R)=_
   unfold rdp
   have hmod:w % 128=w:=Nat.mod_eq_of_lt hs
   rw [if_pos (by omega),Int.toNat_natCast,hmod,if_neg]
   ·simp
   ·rintro (⟨h1,h2⟩ | h)
    ·have:=hi h1
     omega
    ·omega
  ·rw [sC hs]
   have hq:w / 128 < 128 ^ (k+1):=by
    rw [Nat.pow_succ] at hw
    exact Nat.div_lt_of_lt_mul (by rw [Nat.mul_comm]; exact hw)
   have he:(128+w % 128) % 128=w % 128:=by omega
   have hsum:acc+w % 128*128 ^ i+w / 128*128 ^ (i+1)=acc+w*128 ^ i:=by
    rw [Nat.pow_succ,Nat.add_assoc]
    congr 1
    rw [Nat.mul_comm (128 ^ i) 128,<- Nat.mul_assoc,<- Nat.add_mul]
    congr 1
    omega
   show rdp (k+1+1) i acc (((128+w % 128:Nat):Int)::(ng (w / 128)++R))=_
   rw [rdp,if_neg (by omega),Int.toNat_natCast,he,ih (i+1) _ (w / 128) R hq (by omega) (λ_=>by omega) (by rw [hsum]; exact hm),hsum]
   simp only [List.length_cons]
   congr 2
   omega
theorem lK {i:aT} (h:VI i):VI (rdS i).2:=by
 obtain ⟨s,e⟩:=i
 obtain ⟨h1,h2⟩:=h
 unfold rdS
 by_cases he:e=0
 ·rw [if_pos he]
  cases hr:rdp 9 0 0 (sbs (⟨s,e⟩:aT).s) with
  | inl f=>exact ⟨by show noS.size<=1000000; decide,.inr rfl⟩
  | inr p =>
   refine ⟨?_,.inl rfl⟩
   show (iN s p.2 s.size).size<=1000000
   rw [<- bB,gO,List.length_drop,List.length_take,bB]
   simp only at h1
   omega
 ·rw [if_neg he]
  exact ⟨h1,h2⟩
theorem Fy {i:aT} (h:(rdS i).2.e≠0):(rdS i).1=0:=by
 unfold rdS at *
 split at h
 ·rename_i he
  rw [if_pos he]
  cases hr:rdp 9 0 0 (sbs i.s) with
  | inl f=>rfl
  | inr p =>
   rw [hr] at h
   exact absurd rfl h
 ·rename_i he
  rw [if_neg he]
theorem DB {i:aT} (h:(rdS i).2.e=0) (hV:VI i):i.e=0 /\ ∃ w:Nat,(rdS i).1=w/\w<=most/\sbs i.s=ng w++sbs (rdS i).2.s:=by
 unfold rdS at *
 by_cases he:i.e=0
 ·rw [if_pos he] at h ⊢
  refine ⟨he,?_⟩
  cases hr:rdp 9 0 0 (sbs i.s) with
  | inl f =>
   rw [hr] at h
   -- an error is never nought
   exfalso
   have key: ∀ (k i acc:Nat) (l:List Int) (e:Int),rdp k i acc l = .inl e->e≠0:=by
    intro k
    induction k with
    | zero=>intro i acc l e hh; injection hh with hh; omega
    | succ k ih =>
     intro i acc l e hh
     cases l with
     | nil=>injection hh with hh; omega
     | cons b r =>
      unfold rdp at hh
      split at hh
      ·split at hh
       ·injection hh with hh
        omega
       ·cases hh
      ·exact ih _ _ _ _ hh
   exact key _ _ _ _ _ hr h
  | inr p =>
   obtain ⟨v,j⟩:=p
   obtain ⟨w,h1,h2,h3,h4,h5,h6⟩:=JM 9 0 0 (sbs i.s) v j (mR i.s) hr
   refine ⟨v,rfl,h2,?_⟩
   have hvw:v=w:=by rw [h1]; simp
   show sbs i.s=ng v++sbs (iN i.s j i.s.size)
   rw [hvw,h5,gO,Nat.sub_zero]
   have:(sbs i.s).take i.s.size=sbs i.s:=List.take_of_length_le (by rw [bB]; exact Nat.le_refl _)
   rw [this,List.take_append_drop]
 ·rw [if_neg he] at h
  exact absurd h he
theorem uA {i:aT} (hV:VI i):0<=(rdS i).1/\(rdS i).1<=4611686018427387904:=by
 by_cases h:(rdS i).2.e=0
 ·obtain ⟨_,w,h1,h2,_⟩:=DB h hV
  rw [h1]
  unfold most at h2
  omega
 ·rw [Fy h]
  omega
theorem O4 (s:ByteArray) (w:Nat) (R:List Int) (hw:w<=most) (hs:sbs s=ng w++R):rdS ⟨s,0⟩=((w:Int),⟨gX R,0⟩):=by
 unfold rdS
 rw [if_pos rfl]
 have hl:=wZ 8 w (by unfold most at hw; omega)
 have h:=Mr 8 0 0 w R (by unfold most at hw; omega) (by omega) (λh=>by omega) (by simpa using hw)
 dsimp only
 rw [hs,h]
 show (((0+w*128 ^ 0:Nat):Int),(⟨iN s ((0+(ng w).length:Nat):Int) s.size,0⟩:aT))=_
 have e1:0+w*128 ^ 0=w:=by simp
 have e2:iN s ((0+(ng w).length:Nat):Int) s.size=gX R:=by
  rw [<- xc (iN s ((0+(ng w).length:Nat):Int) s.size),gO]
  have:(sbs s).take s.size=sbs s:=List.take_of_length_le (by rw [bB]; exact Nat.le_refl _)
  rw [this,hs,Nat.zero_add,List.drop_left]
 rw [e1,e2]
theorem JN (l:List aE) (hl:l.length<=1000000) (h: ∀ r∈l,r.cells.length<=1000000/\okR r.cells):qA l (l.map told)=some true:=by
 unfold qA
 have e0:((l.length:Int) != ((l.map told).length:Int))=false:=by simp
 rw [e0,cond_false]
 refine fM (λi=>(i:Int)) l.length (.inl ()) rfl ?_ ?_ rfl
 ·intro i hi
  try dsimp only
  have hr:=h _ (List.getElem_mem hi)
  rw [List.length_map,decide_eq_true (by omega),cond_true,dB l i hi,aA,dB _ _ (by simpa using hi),aA,List.getElem_map,Qp _ hr.1 hr.2,aA,Bool.not_true,cond_false,w64 (by omega) (by omega)]
  rfl
 ·try dsimp only
  rw [List.length_map,decide_eq_false (by omega),cond_false]
theorem JO {W:Nat} {l:List aE} (h:GI W l) (y:Int) (r:aE) (hr:okR r.cells):GI W (vo W l y r):=⟨h.w1,h.w2,by rw [mf]; exact h.l1,by rw [mf]; exact h.l2,HQ h.rs y r hr⟩
def AY:aT:=⟨noS,1⟩
theorem wo:VI AY:=⟨by show noS.size<=1000000; decide,.inr rfl⟩
theorem yW {i:aT} (h:VI i):bU i 1=some (if i.e=0 then AY else i):=by
 obtain ⟨s,e⟩:=i
 by_cases he:e=0
 ·subst he
  rw [if_pos rfl]
  exact sE s 1 (by decide)
 ·rw [if_neg he]
  exact ye s e 1 he
def dH (i:aT) (m:Int):Int×aT:=if (rdS i).1 > m then (0,AY) else rdS i
theorem iM {i:aT} (m:Int) (h:VI i):VI (dH i m).2:=by
 unfold dH
 split
 ·exact wo
 ·exact lK h
theorem nE {i:aT} {m:Int} (h:VI i) (hm:0<=m):0<=(dH i m).1/\(dH i m).1<=m:=by
 unfold dH
 split
 ·exact ⟨Int.le_refl _,hm⟩
 ·have:=uA h
  omega
theorem oc {i:aT} {m:Int} (h:(dH i m).2.e=0) (hV:VI i):i.e=0 /\ ∃ w:Nat,(dH i m).1=w/\(w:Int)<=m/\w<=most/\sbs i.s=ng w++sbs (dH i m).2.s:=by
 unfold dH at *
 split at h
 ·exact absurd h (by decide)
 ·rename_i hh
  rw [if_neg hh]
  obtain ⟨h1,w,h2,h3,h4⟩:=DB h hV
  exact ⟨h1,w,h2,by omega,h3,h4⟩
theorem Aj {i:aT} (hV:VI i) {m:Int} (hm:0<=m) (h:(rdS i).1 > m):(rdS i).2.e=0:=by
 by_cases he:(rdS i).2.e=0
 ·exact he
 ·have:=Fy he
  omega
theorem size_eq {i:aT} (h:VI i):yS i=some (dH i 1000):=by
 unfold yS dH
 rw [pj i h,aA]
 by_cases hb:(rdS i).1 > 1000
 ·have he:=Aj h (by omega) hb
  rw [decide_eq_true hb,cond_true,yW (lK h),if_pos he,aA,if_pos hb]
 ·rw [decide_eq_false hb,cond_false,if_neg hb]
theorem Cn {i:aT} (h:VI i) {m:Int} (hm:0<=m):gZ i m=some (dH i m):=by
 unfold gZ dH
 rw [pj i h,aA]
 by_cases hb:(rdS i).1 > m
 ·have he:=Aj h hm hb
  rw [decide_eq_true hb,cond_true,yW (lK h),if_pos he,aA,if_pos hb]
 ·rw [decide_eq_false hb,cond_false,if_neg hb]
def tw (i:aT) (left:Int):aT:=if (dH i left).2.e=0/\(dH i left).1=0 then AY else (dH i left).2
theorem tz {i:aT} (left:Int) (h:VI i):VI (tw i left):=by
 unfold tw
 split
 ·exact wo
 ·exact iM left h
def vp (i:aT) (left:Int):Int×aT:=dH (tw i left) 1114111
def wq (i:aT) (left:Int):Int×aT:=dH (vp i left).2 647
def pM (i:aT) (left:Int):Int×aT:=dH (wq i left).2 3
theorem u5 {i:aT} (left:Int) (h:VI i):VI (vp i left).2:=iM _ (tz left h)
theorem u6 {i:aT} (left:Int) (h:VI i):VI (wq i left).2:=iM _ (u5 left h)
theorem rE {i:aT} (left:Int) (h:VI i):VI (pM i left).2:=iM _ (u6 left h)
def mD (i:aT) (left:Int):aG:=⟨(vp i left).1,(wq i left).1,(pM i left).1⟩
theorem Ak (i:aT) (h:VI i) (m:Int) (hm:0<=m): ∃ v:Int,bV i=some (v,(rdS i).2)/\(if v > m then (if (rdS i).2.e=0 then AY else (rdS i).2) else (rdS i).2)=(dH i m).2/\((dH i m).2.e=0->v=(dH i m).1):=by
 refine ⟨(rdS i).1,pj i h,?_,?_⟩
 ·unfold dH
  by_cases hb:(rdS i).1 > m
  ·rw [if_pos hb,if_pos hb,if_pos (Aj h hm hb)]
  ·rw [if_neg hb,if_neg hb]
 ·unfold dH
  by_cases hb:(rdS i).1 > m
  ·rw [if_pos hb]
   intro hh
   exact absurd hh (by decide)
  ·rw [if_neg hb]
   exact λ_=>rfl
theorem DD {i:aT} (h:i.e≠0) (m:Int) (hm:0<=m):(dH i m).2=i:=by
 unfold dH rdS
 rw [if_neg h]
 dsimp only
 rw [if_neg (by omega)]
theorem run_eq (i:aT) (left:Int) (h:VI i) (hl:0<=left):pJ i left=some (if (pM i left).2.e=0 then ((dH i left).1,mD i left,true,(pM i left).2) else (0,⟨0,0,0⟩,false,(pM i left).2)):=by
 unfold pJ
 rw [pj i h,aA]
 have hor:((bif ((rdS i).1 == 0) then some true else some (decide ((rdS i).1 > left))):Option Bool)=some (decide ((rdS i).1=0\/(rdS i).1 > left)):=by
  by_cases h0:(rdS i).1=0
  ·have:((rdS i).1 == 0)=true:=by simpa using h0
   rw [this,cond_true,decide_eq_true (.inl h0)]
  ·have:((rdS i).1 == 0)=false:=by simpa using h0
   rw [this,cond_false]
   by_cases h1:(rdS i).1 > left
   ·rw [decide_eq_true h1,decide_eq_true (.inr h1)]
   ·rw [decide_eq_false h1,decide_eq_false (by omega)]
 have hst:((bif decide ((rdS i).1=0\/(rdS i).1 > left) then (Option.bind (bU (rdS i).2 1) λb=>some b) else some (rdS i).2):Option aT)=some (tw i left):=by
  unfold tw dH
  by_cases hb:(rdS i).1 > left
  ·rw [decide_eq_true (.inr hb),cond_true,yW (lK h),if_pos (Aj h hl hb),aA,if_pos hb]
   rfl
  ·rw [if_neg hb]
   by_cases h0:(rdS i).1=0
   ·rw [decide_eq_true (.inl h0),cond_true,yW (lK h),aA]
    by_cases he:(rdS i).2.e=0
    ·rw [if_pos he,if_pos ⟨he,h0⟩]
    ·rw [if_neg he,if_neg (λhh=>he hh.1)]
   ·rw [decide_eq_false (by omega),cond_false,if_neg (λhh=>h0 hh.2)]
 rw [hor,aA,hst,aA]
 obtain ⟨v1,n1,f1,g1⟩:=Ak (tw i left) (tz left h) 1114111 (by omega)
 obtain ⟨v2,n2,f2,g2⟩:=Ak (vp i left).2 (u5 left h) 647 (by omega)
 obtain ⟨v3,n3,f3,g3⟩:=Ak (wq i left).2 (u6 left h) 3 (by omega)
 have fl: ∀ (j:aT) (hj:VI j) (v m:Int) (a:oD) (out:aT),(if v > m then (if j.e=0 then AY else j) else j)=out->((bif (decide (v > m)) then (Option.bind (bU j 1) λc=>some (a,c)) else some (a,j)):Option (oD×aT))=some (a,out):=by
  intro j hj v m a out ho
  by_cases hb:v > m
  ·rw [if_pos hb] at ho
   rw [decide_eq_true hb,cond_true,yW hj,aA,ho]
  ·rw [if_neg hb] at ho
   rw [decide_eq_false hb,cond_false,ho]
 have ab: ∀ k:Int,0<=k->k < 3->chk (Jk k 3)=some ():=λk h0 h1=>nq ⟨h0,h1⟩
 rw [dN (s':=((⟨v1,0,0⟩:oD),(vp i left).2,(1:Int)))]
 ·rw [dN (s':=((⟨v1,v2,0⟩:oD),(wq i left).2,(2:Int)))]
  ·rw [dN (s':=((⟨v1,v2,v3⟩:oD),(pM i left).2,(3:Int)))]
   ·rw [cQ (r:=((⟨v1,v2,v3⟩:oD),(pM i left).2))]
    ·rw [aA]
     unfold dQ
     rw [aA]
     dsimp only
     by_cases he:(pM i left).2.e=0
     ·have hb:((pM i left).2.e != 0)=false:=by simpa using he
      rw [hb,cond_false,if_pos he]
      have eB:(wq i left).2.e=0:=(oc (i:=(wq i left).2) (m:=3) he (u6 left h)).1
      have eA:(vp i left).2.e=0:=(oc (i:=(vp i left).2) (m:=647) eB (u5 left h)).1
      have e0:(tw i left).e=0:=(oc (i:=tw i left) (m:=1114111) eA (tz left h)).1
      have q1:v1=(vp i left).1:=g1 eA
      have q2:v2=(wq i left).1:=g2 eB
      have q3:v3=(pM i left).1:=g3 he
      have hr:=nE (i:=tw i left) (m:=1114111) (tz left h) (by omega)
      have hw:IntKind.i32.wrap v1=v1:=by
       rw [q1,IntKind.wrap_i32]
       unfold vp
       omega
      have hn:(rdS i).1=(dH i left).1:=by
       unfold tw at e0
       unfold dH at *
       split
       ·rename_i hb2
        rw [if_pos hb2] at e0
        split at e0
        ·exact absurd e0 (by decide)
        ·exact absurd e0 (by decide)
       ·rfl
      rw [hw,q1,q2,q3,hn]
      rfl
     ·have hb:((pM i left).2.e != 0)=true:=by simpa using he
      rw [hb,cond_true,if_neg he]
    ·rfl
   ·dsimp only
    rw [decide_eq_true (by omega),cond_true,show idx ([1114111,647,3]:List Int) (2:Int)=some 3 from rfl,aA,n3,aA,ab 2 (by omega) (by omega),aA,aA]
    dsimp only
    rw [show idx [sel 2 0 v3 v1,sel 2 1 v3 v2,sel 2 2 v3 0] (2:Int)=some v3 from rfl,aA,fl _ (lK (u6 left h)) _ _ _ _ f3,aA]
    rfl
  ·dsimp only
   rw [decide_eq_true (by omega),cond_true,show idx ([1114111,647,3]:List Int) (1:Int)=some 647 from rfl,aA,n2,aA,ab 1 (by omega) (by omega),aA,aA]
   dsimp only
   rw [show idx [sel 1 0 v2 v1,sel 1 1 v2 0,sel 1 2 v2 0] (1:Int)=some v2 from rfl,aA,fl _ (lK (u5 left h)) _ _ _ _ f2,aA]
   rfl
 ·dsimp only
  rw [decide_eq_true (by omega),cond_true,show idx ([1114111,647,3]:List Int) (0:Int)=some 1114111 from rfl,aA,n1,aA,ab 0 (by omega) (by omega),aA,aA]
  dsimp only
  rw [show idx [sel 0 0 v1 0,sel 0 1 v1 0,sel 0 2 v1 0] (0:Int)=some v1 from rfl,aA,fl _ (lK (tz left h)) _ _ _ _ f1,aA]
  rfl
def rrS:Nat->Int->aT->List aG->List aG×aT
 | 0,_,i,l=>(l,i)
 | k+1,w,i,l=>if (l.length:Int) < w/\i.e=0 then
   (if (pM i (w - l.length)).2.e=0 then (if l.getLast?=some (mD i (w - l.length)) then rrS k w AY l else rrS k w (pM i (w - l.length)).2 (l++List.replicate (dH i (w - l.length)).1.toNat (mD i (w - l.length))))
   else rrS k w (pM i (w - l.length)).2 l)
  else (l,i)
theorem zo {i:aT} {left:Int} (h:VI i) (hl:0<=left) (he:(pM i left).2.e=0):i.e=0/\1<=(dH i left).1/\(dH i left).1<=left/\(dH i left).2.e=0/\tw i left=(dH i left).2:=by
 have eB:(wq i left).2.e=0:=(oc (i:=(wq i left).2) (m:=3) he (u6 left h)).1
 have eA:(vp i left).2.e=0:=(oc (i:=(vp i left).2) (m:=647) eB (u5 left h)).1
 have e0:(tw i left).e=0:=(oc (i:=tw i left) (m:=1114111) eA (tz left h)).1
 have hr:=nE (i:=i) (m:=left) h hl
 by_cases hc:(dH i left).2.e=0/\(dH i left).1=0
 ·unfold tw at e0
  rw [if_pos hc] at e0
  exact absurd e0 (by decide)
 ·have e00:=e0
  unfold tw at e0
  rw [if_neg hc] at e0
  refine ⟨(oc e0 h).1,?_,hr.2,e0,by unfold tw; rw [if_neg hc]⟩
  have:(dH i left).1≠0:=λhh=>hc ⟨e0,hh⟩
  omega
theorem GG (l:List aG) (c:aG) (h:l.length<=1000000):((bif (decide ((l.length:Int) > 0)) then (Option.bind (idx l (IntKind.i64.wrap ((l.length:Int) - 1))) λa=>some ((a.rune == c.rune) && ((a.aM == c.aM) && ((a.part == c.part) && true)))) else some false):Option Bool)=some (decide (l.getLast?=some c)):=by
 by_cases hl:l.length=0
 ·rw [decide_eq_false (by omega),cond_false]
  have:l=[]:=List.eq_nil_of_length_eq_zero hl
  subst this
  rfl
 ·have hlt:l.length - 1 < l.length:=by omega
  have e1:IntKind.i64.wrap ((l.length:Int) - 1)=((l.length - 1:Nat):Int):=by rw [w64 (by omega) (by omega)]; omega
  rw [decide_eq_true (by omega),cond_true,e1,dB _ _ hlt,aA,qO,List.getLast?_eq_getElem?,List.getElem?_eq_getElem hlt]
  simp
theorem GH (p:Prop) [Decidable p] (e:Int):((bif (decide p) then some (e == 0) else some false):Option Bool)=some (decide (p/\e=0)):=by
 by_cases h1:p
 ·by_cases h2:e=0
  ·have:(e == 0)=true:=by simpa using h2
   rw [decide_eq_true h1,cond_true,this,decide_eq_true ⟨h1,h2⟩]
  ·have:(e == 0)=false:=by simpa using h2
   rw [decide_eq_true h1,cond_true,this,decide_eq_false (λh=>h2 h.2)]
 ·rw [decide_eq_false h1,cond_false,decide_eq_false (λh=>h1 h.1)]
theorem Co: ∀ (k:Nat) (w:Int) (i:aT) (l:List aG),VI i->(l.length:Int)<=max w 0->((rrS k w i l).1.length:Int)<=max w 0/\VI (rrS k w i l).2:=by
 intro k
 induction k with
 | zero=>intro w i l h hl; exact ⟨hl,h⟩
 | succ k ih =>
  intro w i l h hl
  unfold rrS
  by_cases hc:(l.length:Int) < w/\i.e=0
  ·rw [if_pos hc]
   by_cases he:(pM i (w - l.length)).2.e=0
   ·rw [if_pos he]
    obtain ⟨_,h1,h2,_⟩:=zo h (by omega) he
    split
    ·exact ih w _ l wo hl
    ·exact ih w _ _ (rE _ h) (by rw [List.length_append,List.length_replicate]; omega)
   ·rw [if_neg he]
    exact ih w _ l (rE _ h) hl
  ·rw [if_neg hc]
   exact ⟨hl,h⟩
theorem HU (w:Int) (hw:w<=1000): ∀ (k:Nat) (i:aT) (l:List aG),VI i->(l.length:Int)<=max w 0->(if i.e=0 then (w - l.length).toNat+1 else 1)<=k ->
  iter (σ:=aT×(List aG)) (ρ:=(List aG)×aT) (λa=>(Option.bind ((bif (decide ((a.2.length:Int) < w)) then (Option.bind (dQ a.1) λf=>some (f == 0)) else some false):Option Bool) λg=>(bif g then (Option.bind (pJ a.1 (IntKind.i64.wrap (w - (a.2.length:Int)))) λb=>(bif (!b.2.2.1) then some (.inl (b.2.2.2,a.2)) else (Option.bind ((bif (decide ((a.2.length:Int) > 0)) then (Option.bind (idx a.2 (IntKind.i64.wrap ((a.2.length:Int) - 1))) λc=>some ((c.rune == b.2.1.rune) && ((c.aM == b.2.1.aM) && ((c.part == b.2.1.part) && true)))) else some false):Option Bool) λj=>(bif j then (Option.bind (bU b.2.2.2 1) λm=>some (.inl (m,a.2))) else (Option.bind (eE [b.2.1] b.1) λd=>(Option.bind (chk (eH a.2.length d.length 24)) λ_=>some (.inl (b.2.2.2,(a.2++d))))))))) else some (.inr (a.2,a.1))))) (i,l)=some (rrS k w i l):=by
 intro k
 induction k with
 | zero=>intro i l h hl hk; split at hk <;> omega
 | succ k ih =>
  intro i l h hl hk
  unfold rrS
  by_cases hc:(l.length:Int) < w/\i.e=0
  ·rw [if_pos hc]
   rw [if_pos hc.2] at hk
   have hwr:IntKind.i64.wrap (w - (l.length:Int))=w - l.length:=w64 (by omega) (by omega)
   by_cases he:(pM i (w - l.length)).2.e=0
   ·rw [if_pos he]
    obtain ⟨_,h1,h2,_⟩:=zo h (by omega) he
    by_cases hlast:l.getLast?=some (mD i (w - l.length))
    ·rw [if_pos hlast,dN (s':=(AY,l))]
     ·exact ih AY l wo hl (by rw [if_neg (by decide)]; omega)
     ·dsimp only
      unfold dQ
      rw [aA,GH,decide_eq_true hc,aA,cond_true,hwr,run_eq i _ h (by omega),if_pos he,aA]
      dsimp only
      rw [Bool.not_true,cond_false,GG _ _ (by omega),aA,decide_eq_true hlast,cond_true,yW (rE _ h),if_pos he,aA]
    ·rw [if_neg hlast,dN (s':=((pM i (w - l.length)).2,l++List.replicate (dH i (w - l.length)).1.toNat (mD i (w - l.length))))]
     ·refine ih _ _ (rE _ h) (by rw [List.length_append,List.length_replicate]; omega) ?_
      rw [if_pos he,List.length_append,List.length_replicate]
      omega
     ·dsimp only
      unfold dQ
      rw [aA,GH,decide_eq_true hc,aA,cond_true,hwr,run_eq i _ h (by omega),if_pos he,aA]
      dsimp only
      rw [Bool.not_true,cond_false,GG _ _ (by omega),aA,decide_eq_false hlast,cond_false,Bs _ _ (by omega) (by omega),aA,bL (by rw [List.length_replicate]; omega),aA]
   ·rw [if_neg he,dN (s':=((pM i (w - l.length)).2,l))]
    ·exact ih _ l (rE _ h) hl (by rw [if_neg he]; omega)
    ·dsimp only
     unfold dQ
     rw [aA,GH,decide_eq_true hc,aA,cond_true,hwr,run_eq i _ h (by omega),if_neg he,aA]
     dsimp only
     rw [Bool.not_false,cond_true]
  ·rw [if_neg hc]
   refine cQ ?_
   dsimp only
   unfold dQ
   rw [aA,GH,decide_eq_false hc,aA,cond_false]
def oK (i:aT) (w:Int):aE×aT :=
 if (rrS (w.toNat+1) w (dH i 1).2 []).2.e=0 then (⟨(rrS (w.toNat+1) w (dH i 1).2 []).1,decide ((dH i 1).1=1)⟩,(rrS (w.toNat+1) w (dH i 1).2 []).2)
 else (Ck,(rrS (w.toNat+1) w (dH i 1).2 []).2)
theorem DE: ∀ (k:Nat) (w:Int) (i:aT) (l:List aG),(rrS k w i l).2.e=0->i.e=0:=by
 intro k
 induction k with
 | zero=>intro w i l h; exact h
 | succ k ih =>
  intro w i l h
  unfold rrS at h
  by_cases hc:(l.length:Int) < w/\i.e=0
  ·exact hc.2
  ·rw [if_neg hc] at h
   exact h
theorem Fz (i:aT) (w:Int) (h:VI i) (hw:w<=1000):mO i w=some (oK i w):=by
 unfold mO
 rw [pj i h,aA]
 have hst:((bif (decide ((rdS i).1 > 1)) then (Option.bind (bU (rdS i).2 1) λa=>some a) else some (rdS i).2):Option aT)=some (dH i 1).2:=by
  unfold dH
  by_cases hb:(rdS i).1 > 1
  ·rw [decide_eq_true hb,cond_true,yW (lK h),if_pos (Aj h (by omega) hb),aA,if_pos hb]
  ·rw [decide_eq_false hb,cond_false,if_neg hb]
 rw [hst,aA]
 have hV:=iM 1 h
 rw [HU w hw (w.toNat+1) _ [] hV (by simp; omega) (by simp only [List.length_nil]; split <;> omega),aA]
 unfold dQ oK
 rw [aA]
 by_cases he:(rrS (w.toNat+1) w (dH i 1).2 []).2.e=0
 ·have hb:((rrS (w.toNat+1) w (dH i 1).2 []).2.e != 0)=false:=by simpa using he
  rw [hb,cond_false,if_pos he]
  have h0:=DE _ _ _ _ he
  have hn:(rdS i).1=(dH i 1).1:=by
   unfold dH at *
   split
   ·rename_i hb2
    rw [if_pos hb2] at h0
    exact absurd h0 (by decide)
   ·rfl
  rw [hn]
  congr 3
 ·have hb:((rrS (w.toNat+1) w (dH i 1).2 []).2.e != 0)=true:=by simpa using he
  rw [hb,cond_true,if_neg he]
  rfl
def mz:List aG->List (Nat×aG)
 | []=>[]
 | c::r=>match mz r with
  | (n,d)::t=>if c=d then (n+1,d)::t else (1,c)::(n,d)::t
  | []=>[(1,c)]
def iZ (p:Nat×aG):List Int:=[(p.1:Int),p.2.rune,p.2.aM,p.2.part].flatMap dF
def gT (r:aE):List Int:=dF (if r.wrapped then 1 else 0)++(mz r.cells).flatMap iZ
theorem FA (c:aG) (r:List aG): ∃ n t,mz (c::r)=(n+1,c)::t:=by
 unfold mz
 split
 ·rename_i n d t h
  split
  ·rename_i e
   exact ⟨n,t,by rw [e]⟩
  ·exact ⟨0,_,rfl⟩
 ·exact ⟨0,[],rfl⟩
theorem Bx: ∀ l:List aG,(mz l).length<=l.length
 | []=>Nat.le_refl _
 | c::r=>by
  have ih:=Bx r
  unfold mz
  split
  ·rename_i n d t h
   rw [h] at ih
   split <;> (simp at ih ⊢; omega)
  ·simp
theorem Al (p:Nat×aG):(iZ p).length<=36:=by
 unfold iZ
 simp only [List.flatMap_cons,List.flatMap_nil,List.length_append,List.length_nil]
 have h1:=dO (p.1:Int)
 have h2:=dO p.2.rune
 have h3:=dO p.2.aM
 have h4:=dO p.2.part
 omega
theorem DG (t:List (Nat×aG)):(t.flatMap iZ).length<=36*t.length:=by
 induction t with
 | nil=>simp
 | cons a t ih =>
  rw [List.flatMap_cons,List.length_append,List.length_cons]
  have:=Al a
  omega
def more (c:aG):List aG->Nat
 | []=>0
 | d::r=>if d=c then more c r+1 else 0
theorem Cp (c:aG): ∀ l,more c l<=l.length
 | []=>Nat.le_refl _
 | d::r=>by
  have:=Cp c r
  unfold more
  split <;> simp <;> omega
theorem wu (c:aG): ∀ r:List aG,mz (c::r)=(more c r+1,c)::mz (r.drop (more c r))
 | []=>rfl
 | d::r=>by
  have ih:=wu d r
  have hu:mz (c::d::r)=(match mz (d::r) with
   | (n,e)::t=>if c=e then (n+1,e)::t else (1,c)::(n,e)::t
   | []=>[(1,c)]):=rfl
  rw [hu,ih]
  try dsimp only
  by_cases h:c=d
  ·subst h
   rw [if_pos rfl]
   have hm:more c (c::r)=more c r+1:=by
    show (if c=c then more c r+1 else 0)=_
    rw [if_pos rfl]
   rw [hm,List.drop_succ_cons]
  ·rw [if_neg h]
   have hm:more c (d::r)=0:=by
    show (if d=c then more c r+1 else 0)=_
    rw [if_neg (λe=>h e.symm)]
   rw [hm,List.drop_zero,ih]
theorem DH (c:aG): ∀ (l:List aG) (k:Nat),k < more c l->l[k]?=some c
 | [],k,h=>by simp [more] at h
 | d::r,k,h=>by
  unfold more at h
  split at h
  ·rename_i e
   cases k with
   | zero=>rw [e]; rfl
   | succ k=>exact DH c r k (by omega)
  ·omega
theorem yf (c:aG): ∀ (l:List aG),more c l < l.length->l[more c l]?≠some c
 | [],h=>by simp at h
 | d::r,h=>by
  have hu:more c (d::r)=if d=c then more c r+1 else 0:=rfl
  rw [hu] at h ⊢
  by_cases e:d=c
  ·rw [if_pos e] at h ⊢
   exact yf c r (by simpa using h)
  ·rw [if_neg e]
   simpa using e
theorem Ms: ∀ (m:Nat) (l:List aG) (b:List Int),l.length<=m->b.length+36*l.length<=9000000->okR l -> ∃ q,iter (σ:=(List aG)×cF) (ρ:=((List aG)×cF) ⊕ (cF×(List aG))) (λa=>(bif (decide ((a.1.length:Int) > 0)) then (Option.bind (iter (σ:=Int) (ρ:=Int) (λf=>(Option.bind ((bif (decide (f < (a.1.length:Int))) then (Option.bind (idx a.1 f) λg=>(Option.bind (idx a.1 0) λh=>some ((g.rune == h.rune) && ((g.aM == h.aM) && ((g.part == h.part) && true))))) else some false):Option Bool) λj=>(bif j then some (.inl (IntKind.i64.wrap (f+1))) else some (.inr f)))) 1) λi=>(Option.bind (idx a.1 0) λn=>(Option.bind ((λ(s51:cF) (x21:Int×aG)=>(Option.bind (cY s51 [x21.1,(IntKind.i64.wrap x21.2.rune),x21.2.aM,x21.2.part]) λo=>some (o,true))) a.2 (i,n)) λz1399=>(bif (!z1399.2) then (m6 (some (z1399.1,a.1))) else (Option.bind (chk (dC i (a.1.length:Int) a.1.length)) λ_=>some (.inl ((cut a.1 i (a.1.length:Int)),z1399.1))))))) else some (.inr (.inl (a.1,a.2))))) (l,⟨b⟩)=some (.inl (q,⟨b++(mz l).flatMap iZ⟩)):=by
 intro m
 induction m with
 | zero =>
  intro l b hl hb hok
  have:l=[]:=List.eq_nil_of_length_eq_zero (by omega)
  subst this
  refine ⟨[],?_⟩
  refine cQ ?_
  try dsimp only
  rw [decide_eq_false (by simp),cond_false]
  simp [mz]
 | succ m ih =>
  intro l b hl hb hok
  cases l with
  | nil =>
   refine ⟨[],?_⟩
   refine cQ ?_
   try dsimp only
   rw [decide_eq_false (by simp),cond_false]
   simp [mz]
  | cons c r =>
   have hmr:=Cp c r
   have hcok:rok c.rune:=hok c (List.mem_cons_self ..)
   simp only [List.length_cons] at hl hb
   have hon:=ph b [((more c r+1:Nat):Int),c.rune,c.aM,c.part] (by first | (simp; omega) | simp)
   have hd:(r.drop (more c r)).length<=m:=by rw [List.length_drop]; omega
   have hel:=Al (more c r+1,c)
   obtain ⟨q,hq⟩:=ih (r.drop (more c r)) (b++iZ (more c r+1,c)) hd (by rw [List.length_append,List.length_drop]; omega) (Ad (λd hd'=>hok d (List.mem_cons_of_mem _ hd')) _)
   refine ⟨q,?_⟩
   rw [dN (s':=(r.drop (more c r),(⟨b++iZ (more c r+1,c)⟩:cF)))]
   ·rw [hq,wu,List.flatMap_cons,List.append_assoc]
   ·try dsimp only
    rw [decide_eq_true (by first | (simp; omega) | simp),cond_true]
    refine fM (λk=>((k+1:Nat):Int)) (more c r) ((more c r+1:Nat):Int) rfl ?_ ?_ ?_
    ·intro k hk
     have hg:=DH c r k hk
     have hgi:idx (c::r) ((k+1:Nat):Int)=some c:=by rw [fT,List.getElem?_cons_succ,hg]
     have hg0:idx (c::r) 0=some c:=rfl
     try dsimp only
     rw [decide_eq_true (by first | (simp; omega) | simp),cond_true,hgi,aA,hg0,aA,qO,decide_eq_true rfl,aA,cond_true,w64 (by omega) (by omega)]
     rfl
    ·try dsimp only
     by_cases hlt:more c r < r.length
     ·have hs:=yf c r hlt
      have hgi:idx (c::r) ((more c r+1:Nat):Int)=some r[more c r]:=by rw [fT,List.getElem?_cons_succ,List.getElem?_eq_getElem hlt]
      have hg0:idx (c::r) 0=some c:=rfl
      have hne: ¬ r[more c r]=c:=λe=>hs (by rw [List.getElem?_eq_getElem hlt,e])
      rw [decide_eq_true (by first | (simp; omega) | simp),cond_true,hgi,aA,hg0,aA,qO,decide_eq_false hne,aA,cond_false]
     ·rw [decide_eq_false (by first | (simp; omega) | simp),cond_false,aA,cond_false]
    ·have hg0:idx (c::r) 0=some c:=rfl
     have hce:iZ (more c r+1,c)=[((more c r+1:Nat):Int),c.rune,c.aM,c.part].flatMap dF:=rfl
     rw [hg0,aA,w32 hcok,hon,aA,aA]
     try dsimp only
     rw [Bool.not_true,cond_false,bP (by omega) (by first | (simp; omega) | simp) (by simp),aA,tu,List.take_length,List.drop_succ_cons,hce]
theorem Am (r:aE) (h:r.cells.length<=1000) (hok:okR r.cells):lB r=some (gX (gT r)):=by
 unfold lB th rz pQ iJ
 have AM:((bif r.wrapped then some 1 else some 0):Option Int)=some (if r.wrapped then 1 else 0):=by cases r.wrapped <;> rfl
 rw [AM,aA,ph [] _ (by simp),aA,aA]
 have hb:=dO (if r.wrapped then 1 else 0)
 obtain ⟨q,hq⟩:=Ms r.cells.length r.cells (dF (if r.wrapped then 1 else 0)) (Nat.le_refl _) (by omega) hok
 have e0:([]++[(if r.wrapped then (1:Int) else 0)].flatMap dF)=dF (if r.wrapped then 1 else 0):=by simp
 rw [e0,hq,aA,aA,aA]
 rfl
theorem Mt {w:Nat} (h:w<=most):clN (w:Int)=w:=by unfold clN; unfold most at h; omega
theorem nS {w:Nat} (h:w<=most):dF (w:Int)=ng w:=by unfold dF; rw [Mt h]
theorem wv (c:aG) (n:Nat): ∀ l:List aG,l.getLast?≠some c->mz (l++List.replicate (n+1) c)=mz l++[(n+1,c)]
 | [],_=>by
  rw [List.nil_append]
  induction n with
  | zero=>rfl
  | succ n ih =>
   rw [List.replicate_succ]
   show (match mz (List.replicate (n+1) c) with
    | (m,e)::t=>if c=e then (m+1,e)::t else (1,c)::(m,e)::t
    | []=>[(1,c)])=_
   rw [ih]
   show (if c=c then [(n+1+1,c)] else _)=_
   rw [if_pos rfl]
   rfl
 | x::r,h=>by
  cases r with
  | nil =>
   have hx: ¬ x=c:=λe=>h (by rw [e]; rfl)
   have ih:=wv c n [] (by simp)
   show (match mz ([]++List.replicate (n+1) c) with
    | (m,e)::t=>if x=e then (m+1,e)::t else (1,x)::(m,e)::t
    | []=>[(1,x)])=_
   rw [ih]
   show (if x=c then _ else (1,x)::(n+1,c)::[])=_
   rw [if_neg hx]
   rfl
  | cons y s =>
   have ih:=wv c n (y::s) (by simpa using h)
   show (match mz ((y::s)++List.replicate (n+1) c) with
    | (m,e)::t=>if x=e then (m+1,e)::t else (1,x)::(m,e)::t
    | []=>[(1,x)])=(match mz (y::s) with
    | (m,e)::t=>if x=e then (m+1,e)::t else (1,x)::(m,e)::t
    | []=>[(1,x)])++[(n+1,c)]
   rw [ih]
   obtain ⟨m,t,hm⟩:=FA y s
   rw [hm]
   show (if x=y then _ else _)=(if x=y then _ else _)++_
   split <;> rfl
theorem By {i:aT} {left:Int} (h:VI i) (hl:0<=left) (he:(pM i left).2.e=0):sbs i.s=iZ ((dH i left).1.toNat,mD i left)++sbs (pM i left).2.s/\0<=(mD i left).rune/\(mD i left).rune<=1114111:=by
 obtain ⟨_,h1,h2,h3,h4⟩:=zo h hl he
 obtain ⟨eB,c3,q3,_,m3,b3⟩:=oc (i:=(wq i left).2) (m:=3) he (u6 left h)
 obtain ⟨eA,c2,q2,_,m2,b2⟩:=oc (i:=(vp i left).2) (m:=647) eB (u5 left h)
 obtain ⟨e0,c1,q1,l1,m1,b1⟩:=oc (i:=tw i left) (m:=1114111) eA (tz left h)
 obtain ⟨_,c0,q0,_,m0,b0⟩:=oc (i:=i) (m:=left) h3 h
 have qa:(mD i left).rune=(c1:Int):=q1
 have qb:(mD i left).aM=(c2:Int):=q2
 have qc:(mD i left).part=(c3:Int):=q3
 refine ⟨?_,by omega,by omega⟩
 have hE:iZ ((dH i left).1.toNat,mD i left)=ng c0++ng c1++ng c2++ng c3:=by
  unfold iZ
  dsimp only
  rw [qa,qb,qc,q0,Int.toNat_natCast]
  simp only [List.flatMap_cons,List.flatMap_nil,List.append_nil,nS m0,nS m1,nS m2,nS m3,List.append_assoc]
 have b1':sbs (dH i left).2.s=ng c1++sbs (vp i left).2.s:=by rw [<- h4]; exact b1
 have b2':sbs (vp i left).2.s=ng c2++sbs (wq i left).2.s:=b2
 have b3':sbs (wq i left).2.s=ng c3++sbs (pM i left).2.s:=b3
 rw [hE,b0,b1',b2',b3']
 simp only [List.append_assoc]
theorem HV: ∀ (k:Nat) (w:Int) (i:aT) (l:List aG),VI i->okR l->(rrS k w i l).2.e=0 -> ∃ D,(mz (rrS k w i l).1).flatMap iZ=(mz l).flatMap iZ++D/\sbs i.s=D++sbs (rrS k w i l).2.s/\okR (rrS k w i l).1:=by
 intro k
 induction k with
 | zero=>intro w i l h hok he; exact ⟨[],by simp [rrS],by simp [rrS],hok⟩
 | succ k ih =>
  intro w i l h hok he
  unfold rrS at he ⊢
  by_cases hc:(l.length:Int) < w/\i.e=0
  ·rw [if_pos hc] at he ⊢
   by_cases h2:(pM i (w - l.length)).2.e=0
   ·rw [if_pos h2] at he ⊢
    by_cases h3:l.getLast?=some (mD i (w - l.length))
    ·rw [if_pos h3] at he
     exact absurd (DE _ _ _ _ he) (by decide)
    ·rw [if_neg h3] at he ⊢
     obtain ⟨b1,b2,b3⟩:=By h (by omega) h2
     obtain ⟨_,p1,_⟩:=zo h (by omega) h2
     obtain ⟨n,hn⟩: ∃ n,(dH i (w - l.length)).1.toNat=n+1:=⟨(dH i (w - l.length)).1.toNat - 1,by omega⟩
     rw [hn] at he b1 ⊢
     obtain ⟨D,d1,d2,d3⟩:=ih w _ _ (rE _ h) (tt hok (λc hc=>by rw [List.eq_of_mem_replicate hc]; unfold rok; omega)) he
     refine ⟨iZ (n+1,mD i (w - l.length))++D,?_,?_,d3⟩
     ·rw [d1,wv _ _ _ h3,List.flatMap_append,List.flatMap_singleton,List.append_assoc]
     ·rw [b1,d2,List.append_assoc]
   ·rw [if_neg h2] at he
    exact absurd (DE _ _ _ _ he) h2
  ·rw [if_neg hc] at he ⊢
   exact ⟨[],by simp,by simp,hok⟩
theorem FB {i:aT} {w:Int} (h:VI i) (he:(oK i w).2.e=0):sbs i.s=gT (oK i w).1++sbs (oK i w).2.s:=by
 unfold oK at *
 by_cases h0:(rrS (w.toNat+1) w (dH i 1).2 []).2.e=0
 ·rw [if_pos h0]
  obtain ⟨D,d1,d2,_⟩:=HV _ w _ [] (iM 1 h) (λc hc=>by cases hc) h0
  obtain ⟨_,c,q,hc,hm,hb⟩:=oc (i:=i) (m:=1) (DE _ _ _ _ h0) h
  unfold gT
  dsimp only
  rw [d1,hb,d2,q]
  have:(if decide ((c:Int)=1)=true then (1:Int) else 0)=(c:Int):=by
   by_cases hc1:(c:Int)=1
   ·simp [hc1]
   ·rw [decide_eq_false hc1]
    simp
    omega
  rw [this,nS hm]
  simp [mz]
 ·rw [if_neg h0] at he
  exact absurd he h0
theorem zp {i:aT} {w:Int} (h:VI i):VI (oK i w).2:=by
 unfold oK
 split
 ·exact (Co _ w _ [] (iM 1 h) (by simp; omega)).2
 ·exact (Co _ w _ [] (iM 1 h) (by simp; omega)).2
theorem O5: ∀ (k:Nat) (w:Int) (i:aT) (l:List aG),VI i->okR l->okR (rrS k w i l).1:=by
 intro k
 induction k with
 | zero=>intro w i l h hok; exact hok
 | succ k ih =>
  intro w i l h hok
  unfold rrS
  by_cases hc:(l.length:Int) < w/\i.e=0
  ·rw [if_pos hc]
   by_cases h2:(pM i (w - l.length)).2.e=0
   ·rw [if_pos h2]
    obtain ⟨b1,b2,b3⟩:=By h (by omega) h2
    split
    ·exact ih w _ l wo hok
    ·exact ih w _ _ (rE _ h) (tt hok (λc hc=>by rw [List.eq_of_mem_replicate hc]; unfold rok; omega))
   ·rw [if_neg h2]
    exact ih w _ l (rE _ h) hok
  ·rw [if_neg hc]
   exact hok
theorem Mu {i:aT} {w:Int} (h:VI i) (hw:w<=1000):okR (oK i w).1.cells/\(oK i w).1.cells.length<=1000:=by
 unfold oK
 split
 ·refine ⟨O5 _ w _ [] (iM 1 h) (λc hc=>by cases hc),?_⟩
  have:=(Co (w.toNat+1) w _ [] (iM 1 h) (by simp; omega)).1
  show (rrS (w.toNat+1) w (dH i 1).2 []).1.length<=1000
  omega
 ·exact ⟨λc hc=>(by cases hc),Nat.zero_le _⟩
theorem DJ (a b:Bool):((bif a then some b else some false):Option Bool)=some (a && b):=by cases a <;> rfl
theorem bor (a b:Bool):((bif a then some true else some b):Option Bool)=some (a || b):=by cases a <;> rfl
def okG (r s:Int):Bool:=(decide (r>=0) && decide (r<=1114111)) && (decide (s>=0) && decide (s<=647))
def okC (c:aG):Bool:=okG c.rune c.aM && (decide (c.part>=0) && decide (c.part<=3))
def kO (s:aH):Bool:=(s.k == 0) && ((s.w == 0) && ((s.h == 0) && ((s.x == 0) && ((s.y == 0) && ((s.title.toList == (ByteArray.mk #[]).toList) && (((s.rows.length:Int) == 0) && ((s.len == 0) && ((s.chain == 0) && ((s.begun.length:Int) == 0)))))))))
def wi (n lo hi:Int):Bool:=decide (n>=lo) && decide (n<=hi)
def wx (s:aH):Bool:=wi s.k 1 1152921504606846976 && (wi s.w 1 1000 && (wi s.h 1 1000 && (wi s.x 0 (s.w - 1) && (wi s.y 0 (s.h - 1) && (((s.rows.length:Int) == s.h) && (decide ((s.title.size:Int)<=200) && (wi s.len 0 1152921504606846976 && (wi s.chain 0 281474976710656 && decide ((s.begun.length:Int)<=1024)))))))))
def uB (w:Int) (r:aE):Bool:=((r.cells.length:Int) == w) && r.cells.all okC
def pA (s:aH):Bool:=kO s || (wx s && ((s.begun.all λg=>okG g.rune g.aM) && s.rows.all (uB s.w)))
theorem empty_eq (s:aH):iD s=some (kO s):=by
 unfold iD kO
 simp only [DJ,aA]
theorem wy (n lo hi:Int):eQ n lo hi=some (wi n lo hi):=by
 unfold eQ wi
 rw [DJ,aA]
structure SW (s:aH):Prop where
 w1: -9223372036854775808<=s.w/\s.w<=9223372036854775807
 h1: -9223372036854775808<=s.h/\s.h<=9223372036854775807
 gl: ∀ g∈s.begun,rok g.rune
 ro: ∀ r∈s.rows,okR r.cells/\r.cells.length<=1000
 rl:s.rows.length<=1000
 bl:s.begun.length<=2000
 tl:s.title.size<=1000
theorem JP (s:aH) (h:SW s):ma s=some (wx s):=by
 unfold ma wx
 simp only [wy,aA]
 by_cases hw:s.w>=1
 ·have e1:IntKind.i64.wrap (s.w - 1)=s.w - 1:=w64 (by omega) (by have:=h.w1; omega)
  by_cases hh:s.h>=1
  ·have e2:IntKind.i64.wrap (s.h - 1)=s.h - 1:=w64 (by omega) (by have:=h.h1; omega)
   simp only [e1,e2,DJ,aA]
  ·have e2:wi s.h 1 1000=false:=by unfold wi; rw [decide_eq_false hh]; rfl
   simp only [e2,e1,cond_false,DJ,Bool.false_and,Bool.and_false,aA]
 ·have e2:wi s.w 1 1000=false:=by unfold wi; rw [decide_eq_false hw]; rfl
  simp only [e2,cond_false,DJ,Bool.false_and,Bool.and_false,aA]
theorem DK (r s:Int) (h:rok r):n6 r s=some (okG r s):=by
 unfold n6 okG
 simp only [wy,aA,w32 h,DJ,wi]
theorem HW (c:aG) (h:rok c.rune):pX c=some (okC c):=by
 unfold pX okC
 rw [DK _ _ h]
 simp only [wy,aA,DJ,wi]
theorem find_eq {α:Type} (l:List α) (p:α->Bool) (hl:l.length<=1000000) (f:Int->Option (Int ⊕ (Unit ⊕ Int))) (hf: ∀ (n:Nat) (hn:n < l.length),f (n:Int)=if p l[n] then some (.inr (.inr (n:Int))) else some (.inl ((n+1:Nat):Int))) (he:f (l.length:Int)=some (.inr (.inl ()))): ∃ q,iter f 0=some q/\((q = .inl ()/\l.any p=false) \/ ∃ w:Int,q = .inr w/\0<=w/\l.any p=true):=by
 obtain ⟨q,h1,h2⟩:=qP (f:=f) (λi:Int=> ∃ n:Nat,i=n/\n<=l.length/\(l.take n).any p=false) (λi=>(l.length - i).toNat) (λq=>(q = .inl ()/\l.any p=false) \/ ∃ w:Int,q = .inr w/\0<=w/\l.any p=true) (by
  rintro i ⟨n,rfl,hn,ht⟩
  by_cases hlt:n < l.length
  ·by_cases hp:p l[n]=true
   ·refine .inr ⟨.inr (n:Int),by rw [hf n hlt,if_pos hp],.inr ⟨_,rfl,by omega,List.any_eq_true.2 ⟨l[n],List.getElem_mem hlt,hp⟩⟩⟩
   ·refine .inl ⟨((n+1:Nat):Int),by rw [hf n hlt,if_neg hp],⟨n+1,rfl,hlt,?_⟩,by omega⟩
    rw [List.take_succ_eq_append_getElem hlt,List.any_append,ht]
    simpa using hp
  ·have hnl:n=l.length:=by omega
   subst hnl
   refine .inr ⟨.inl (),he,.inl ⟨rfl,?_⟩⟩
   rwa [List.take_length] at ht) 0 ⟨0,rfl,by omega,rfl⟩
 exact ⟨q,h1,h2⟩
theorem Mv (l:List aJ) (hl:l.length<=1000000) (h: ∀ g∈l,rok g.rune):cM l=some (l.any λg=> !okG g.rune g.aM):=by
 unfold cM dM
 have hlen:l.length=l.length:=rfl
 obtain ⟨q,h1,h2⟩:=find_eq l (λg=> !okG g.rune g.aM) hl (λa=>(bif (decide (a < (l.length:Int))) then (Option.bind (idx l a) λb=>(Option.bind (kF b) λc=>(bif c then (m6 (some a)) else some (.inl (IntKind.i64.wrap (a+1)))))) else some (.inr (.inl ())))) (by
  intro n hn
  unfold kF
  rw [decide_eq_true (by omega),cond_true,dB l n hn,aA,DK _ _ (h _ (List.getElem_mem hn)),aA,aA,w64 (by omega) (by omega)]
  cases okG l[n].rune l[n].aM <;> rfl) (by
  rw [decide_eq_false (by omega),cond_false])
 rw [h1,aA]
 rcases h2 with ⟨rfl,h3⟩ | ⟨w,rfl,h4,h3⟩
 ·rw [h3]
  rfl
 ·rw [h3]
  show some (decide (w>=0))=some true
  rw [decide_eq_true h4]
theorem Mw (l:List aG) (hl:l.length<=1000000) (h:okR l):cB l=some (l.any λc=> !okC c):=by
 unfold cB dR
 obtain ⟨q,h1,h2⟩:=find_eq l (λc=> !okC c) hl (λa=>(bif (decide (a < (l.length:Int))) then (Option.bind (idx l a) λb=>(Option.bind (kG b) λd=>(bif d then (m6 (some a)) else some (.inl (IntKind.i64.wrap (a+1)))))) else some (.inr (.inl ())))) (by
  intro n hn
  unfold kG
  rw [decide_eq_true (by omega),cond_true,dB l n hn,aA,HW _ (h _ (List.getElem_mem hn)),aA,aA,w64 (by omega) (by omega)]
  cases okC l[n] <;> rfl) (by
  rw [decide_eq_false (by omega),cond_false])
 rw [h1,aA]
 rcases h2 with ⟨rfl,h3⟩ | ⟨w,rfl,h4,h3⟩
 ·rw [h3]
  rfl
 ·rw [h3]
  show some (decide (w>=0))=some true
  rw [decide_eq_true h4]
theorem GJ {α:Type} (l:List α) (p:α->Bool):(l.any λx=> !p x) = !(l.all p):=by
 induction l with
 | nil=>rfl
 | cons a l ih=>rw [List.any_cons,List.all_cons,ih,Bool.not_and]
theorem xd (s:aH) (h:SW s):eR s=some (if pA s then 0 else 1):=by
 unfold eR pA
 rw [empty_eq,aA]
 cases he:kO s with
 | true =>
  rw [cond_true]
  rfl
 | false =>
  rw [cond_false,JP s h,aA,Mv _ (by have:=h.bl; omega) h.gl,aA,bor,aA,GJ]
  cases hs:wx s with
  | false=>rfl
  | true =>
   cases hg:(s.begun.all λg=>okG g.rune g.aM) with
   | false=>rfl
   | true =>
    show Option.bind (iter _ 0) _=some (if s.rows.all (uB s.w)=true then 0 else 1)
    have hrl:=h.rl
    refine qQ (λi:Int=> ∃ n:Nat,i=n/\n<=s.rows.length/\(s.rows.take n).all (uB s.w)=true) (λi=>(s.rows.length - i).toNat) (λq=>q=if s.rows.all (uB s.w)=true then .inl () else .inr 1) ⟨0,rfl,by omega,rfl⟩ ?_ ?_
    ·rintro i ⟨n,rfl,hn,ht⟩
     by_cases hlt:n < s.rows.length
     ·have hro:=h.ro _ (List.getElem_mem hlt)
      have hcond:((bif ((s.rows[n].cells.length:Int) != s.w) then some true else (Option.bind (cB s.rows[n].cells) λa=>some a)):Option Bool)=some (!uB s.w s.rows[n]):=by
       rw [Mw _ (by omega) hro.1,aA,bor,GJ]
       unfold uB
       rw [Bool.not_and]
       rfl
      try dsimp only
      rw [decide_eq_true (by omega),cond_true,dB _ _ hlt,aA,hcond,aA,w64 (by omega) (by omega)]
      cases hb:uB s.w s.rows[n] with
      | true =>
       refine .inl ⟨((n+1:Nat):Int),rfl,⟨n+1,rfl,hlt,?_⟩,by omega⟩
       rw [List.take_succ_eq_append_getElem hlt,List.all_append,ht]
       simp [hb]
      | false =>
       refine .inr ⟨.inr 1,rfl,?_⟩
       rw [if_neg]
       intro hall
       have:=List.all_eq_true.1 hall _ (List.getElem_mem hlt)
       rw [hb] at this
       cases this
     ·refine .inr ⟨.inl (),?_,?_⟩
      ·try dsimp only
       rw [decide_eq_false (by omega),cond_false]
      ·have hnl:n=s.rows.length:=by omega
       subst hnl
       rw [List.take_length] at ht
       rw [if_pos ht]
    ·rintro q rfl
     by_cases hall:s.rows.all (uB s.w)=true
     ·rw [if_pos hall,if_pos hall]
     ·rw [if_neg hall,if_neg hall]
def tg (g:aJ):wc:=⟨g.rune,g.aM⟩
theorem xe (b:List Int) (s:ByteArray) (hb:b.length+s.size<=10000000):gU ⟨b⟩ [s]=some ⟨b++sbs s⟩:=by
 unfold gU
 rw [dN (s':=((⟨b++sbs s⟩:cF),(1:Int)))]
 ·rw [cQ (r:=(⟨b++sbs s⟩:cF))]
  ·rfl
  ·dsimp only
   rw [decide_eq_false (by simp),cond_false]
 ·dsimp only
  have h0:idx [s] 0=some s:=rfl
  rw [decide_eq_true (by simp),cond_true,h0,aA,bL (by omega),aA]
  rfl
theorem DL (b:List Int) (s:ByteArray) (hb:b.length+s.size<=1000000):mI ⟨b⟩ [s]=some ⟨b++(dF s.size++sbs s)⟩:=by
 unfold mI
 have he:=dO (s.size:Int)
 rw [dN (s':=((⟨b++(dF s.size++sbs s)⟩:cF),(1:Int)))]
 ·rw [cQ (r:=(⟨b++(dF s.size++sbs s)⟩:cF))]
  ·rfl
  ·dsimp only
   rw [decide_eq_false (by simp),cond_false]
 ·dsimp only
  have h0:idx [s] 0=some s:=rfl
  rw [decide_eq_true (by simp),cond_true,h0,aA,ph _ _ (by simp; omega),aA]
  simp only [List.flatMap_cons,List.flatMap_nil,List.append_nil]
  rw [xe _ _ (by rw [List.length_append]; omega),aA,List.append_assoc]
  rfl
def sF (g:aJ):List Int:=[g.rune,g.aM].flatMap dF
def mZ (l:List aJ):List Int:=dF l.length++l.flatMap sF
theorem JQ (g:aJ):(sF g).length<=18:=by
 unfold sF
 simp only [List.flatMap_cons,List.flatMap_nil,List.length_append,List.length_nil]
 have h1:=dO g.rune
 have h2:=dO g.aM
 omega
theorem u7 (l:List aJ):(l.flatMap sF).length<=18*l.length:=by
 induction l with
 | nil=>simp
 | cons a t ih =>
  rw [List.flatMap_cons,List.length_append,List.length_cons]
  have:=JQ a
  omega
theorem An (l:List aJ) (h:l.length<=2000) (hr: ∀ g∈l,rok g.rune):nP l=some (gX (mZ l)):=by
 unfold nP iJ mZ
 have he:=dO (l.length:Int)
 rw [ph [] _ (by simp),aA]
 have e0:([]++[(l.length:Int)].flatMap dF)=dF l.length:=by simp
 rw [e0]
 refine fM (λi=>((⟨dF l.length++(l.take i).flatMap sF⟩:cF),(i:Int))) l.length (⟨dF l.length++l.flatMap sF⟩:cF) (by simp) ?_ ?_ rfl
 ·intro i hi
  dsimp only
  have h2:=u7 (l.take i)
  rw [List.length_take] at h2
  rw [decide_eq_true (by omega),cond_true,dB _ _ hi,aA,w32 (hr _ (List.getElem_mem hi)),ph _ _ (by simp only [List.length_append,List.length_cons,List.length_nil]; omega),aA,w64 (by omega) (by omega),List.take_succ_eq_append_getElem hi,List.flatMap_append,List.flatMap_singleton,List.append_assoc]
  rfl
 ·dsimp only
  rw [decide_eq_false (by omega),cond_false,List.take_length]
def vQ (s:aH):List Int:=[s.k,s.w,s.h,s.x,s.y].flatMap dF++(dF s.title.size++sbs s.title)++[s.len,s.chain].flatMap dF++mZ s.begun
def Ao (s:aH):List Int:=vQ s++s.rows.flatMap gT
theorem Bz (s:aH) (h:SW s):(vQ s).length<=40000:=by
 unfold vQ mZ
 simp only [List.flatMap_cons,List.flatMap_nil,List.length_append,List.length_nil,bB]
 have a1:=dO s.k
 have a2:=dO s.w
 have a3:=dO s.h
 have a4:=dO s.x
 have a5:=dO s.y
 have a6:=dO (s.title.size:Int)
 have a7:=dO s.len
 have a8:=dO s.chain
 have a9:=dO (s.begun.length:Int)
 have b1:=u7 s.begun
 have b2:=h.bl
 have b3:=h.tl
 omega
theorem Cq (l:List aE) (i:Nat):((l.take i).flatMap gT).length<=(l.flatMap gT).length:=by
 have:l.flatMap gT=(l.take i).flatMap gT++(l.drop i).flatMap gT:=by rw [<- List.flatMap_append,List.take_append_drop]
 rw [this,List.length_append]
 omega
def n9 (s:aH):ByteArray:=if kO s=true\/pA s=false then noS else gX (Ao s)
theorem GK (s:aH) (h:SW s) (hp:(s.rows.flatMap gT).length<=1000000):kY s=some (n9 s):=by
 unfold kY n9
 have hc:((Option.bind (iD s) λa=>(bif a then some true else (Option.bind (eR s) λc=>some (c != 0)))):Option Bool)=some (kO s || !pA s):=by
  rw [empty_eq,aA,xd s h,aA]
  cases kO s <;> cases pA s <;> rfl
 rw [hc,aA]
 by_cases hb:kO s=true\/pA s=false
 ·rw [if_pos hb]
  have:(kO s || !pA s)=true:=by
   rcases hb with hb | hb <;> simp [hb]
  rw [this,cond_true]
  rfl
 ·rw [if_neg hb]
  have hne:kO s=false:=by cases he:kO s with | true=>exact absurd (.inl he) hb | false=>rfl
  have hm:pA s=true:=by cases he:pA s with | false=>exact absurd (.inr he) hb | true=>rfl
  rw [hne,hm]
  show Option.bind (cY ⟨[]⟩ [s.k,s.w,s.h,s.x,s.y]) _=_
  have hpl:=Bz s h
  have htl:=h.tl
  have hph:(vQ s).length=([s.k,s.w,s.h,s.x,s.y].flatMap dF).length+((dF s.title.size++sbs s.title).length+(([s.len,s.chain].flatMap dF).length+(mZ s.begun).length)):=by
   unfold vQ
   rw [List.length_append,List.length_append,List.length_append]
   omega
  have hts:(dF s.title.size++sbs s.title).length=(dF s.title.size).length+s.title.size:=by rw [List.length_append,bB]
  have hbs: ∀ b∈mZ s.begun,0<=b/\b < 256:=by
   intro b hb
   unfold mZ at hb
   rcases List.mem_append.1 hb with hb | hb
   ·exact sD _ b hb
   ·obtain ⟨g,_,hg⟩:=List.mem_flatMap.1 hb
    unfold sF at hg
    obtain ⟨x,_,hx⟩:=List.mem_flatMap.1 hg
    exact sD _ b hx
  rw [ph _ _ (by simp),aA,List.nil_append,DL _ _ (by omega),aA,ph _ _ (by rw [List.length_append]; simp only [List.length_cons,List.length_nil]; omega),aA,An _ h.bl h.gl,aA,xe _ _ (by rw [nD,List.length_append,List.length_append]; omega),aA,p8 _ hbs]
  have hhead:[s.k,s.w,s.h,s.x,s.y].flatMap dF++(dF s.title.size++sbs s.title)++[s.len,s.chain].flatMap dF++mZ s.begun=vQ s:=rfl
  rw [hhead]
  refine fM (λi=>((⟨vQ s++(s.rows.take i).flatMap gT⟩:cF),(i:Int))) s.rows.length (⟨Ao s⟩:cF) (by simp) ?_ ?_ rfl
  ·intro i hi
   have hro:=h.ro _ (List.getElem_mem hi)
   have hl1:=Cq s.rows (i+1)
   rw [List.take_succ_eq_append_getElem hi,List.flatMap_append,List.flatMap_singleton,List.length_append] at hl1
   have hrl:=h.rl
   have hbr: ∀ b∈gT s.rows[i],0<=b/\b < 256:=by
    intro b hb
    unfold gT at hb
    rcases List.mem_append.1 hb with hb | hb
    ·exact sD _ b hb
    ·obtain ⟨g,_,hg⟩:=List.mem_flatMap.1 hb
     unfold iZ at hg
     obtain ⟨x,_,hx⟩:=List.mem_flatMap.1 hg
     exact sD _ b hx
   dsimp only
   rw [decide_eq_true (by omega),cond_true,dB _ _ hi,aA,Am _ hro.2 hro.1,aA,xe _ _ (by rw [nD,List.length_append]; omega),aA,p8 _ hbr,w64 (by omega) (by omega),List.take_succ_eq_append_getElem hi,List.flatMap_append,List.flatMap_singleton,List.append_assoc]
   rfl
  ·have hrl:=h.rl
   dsimp only
   rw [decide_eq_false (by omega),cond_false,List.take_length]
   rfl
def HX (j:aT) (n:Int):ByteArray×aT:=if j.e≠0 then (noS,j) else if n > j.s.size then (noS,⟨noS,2⟩) else (iN j.s 0 n,⟨iN j.s n j.s.size,0⟩)
def wz (i:aT):ByteArray×aT:=HX (rdS i).2 (rdS i).1
theorem GL:iN noS 0 0=noS:=by
 apply tv
 have:=gO noS 0 0
 exact this
theorem O6 (j:aT) (n:Int) (h:VI j) (h0:0<=n) (he:j.e≠0->n=0):oV j n=some (HX j n):=by
 obtain ⟨s,e⟩:=j
 unfold oV HX
 have hm:imax 0 n=n:=by rw [gQ]; omega
 have hsz:=h.1
 rw [hm]
 dsimp only at *
 by_cases hz:e=0
 ·subst hz
  rw [if_neg (by simp)]
  by_cases hb:n > s.size
  ·rw [decide_eq_true hb,cond_true,if_pos hb,sE _ _ (by decide),aA]
   rfl
  ·rw [decide_eq_false hb,cond_false,if_neg hb,bP (by omega) (by omega) (by omega),aA,bP (by omega) (by omega) (by omega),aA]
 ·obtain rfl:=he hz
  obtain rfl:s=noS:=h.2.resolve_left hz
  rw [if_pos hz,decide_eq_false (by decide),cond_false,bP (by decide) (by decide) (by decide),aA,bP (by decide) (by decide) (by decide),aA]
  have h2:iN noS 0 (noS.size:Int)=noS:=GL
  rw [GL,h2]
theorem Mx (i:aT) (h:VI i):nz i=some (wz i):=by
 unfold nz wz
 rw [pj i h,aA,O6 _ _ (lK h) (uA h).1 (λhe=>Fy he),aA]
theorem Cr {i:aT} (h:VI i):VI (wz i).2:=by
 unfold wz HX
 have hV:=lK h
 split
 ·exact hV
 ·split
  ·exact ⟨by show noS.size<=1000000; decide,.inr rfl⟩
  ·refine ⟨?_,.inl rfl⟩
   have hr:=uA h
   obtain ⟨n,hn⟩:=Int.eq_ofNat_of_zero_le hr.1
   show (iN (rdS i).2.s (rdS i).1 (rdS i).2.s.size).size<=1000000
   rw [hn,<- bB,gO,List.length_drop,List.length_take,bB]
   have:=hV.1
   omega
theorem O7 {i:aT} (h:VI i) (he:(wz i).2.e=0):i.e=0/\sbs i.s=dF (wz i).1.size++sbs (wz i).1++sbs (wz i).2.s:=by
 unfold wz HX at *
 by_cases h1:(rdS i).2.e=0
 ·rw [if_neg (by simpa using h1)] at he ⊢
  by_cases h2:(rdS i).1 > (rdS i).2.s.size
  ·rw [if_pos h2] at he
   exact absurd he (by decide)
  ·rw [if_neg h2] at he ⊢
   obtain ⟨e0,w,hw,hm,hb⟩:=DB h1 h
   refine ⟨e0,?_⟩
   rw [hw] at h2 ⊢
   have hs1:sbs (iN (rdS i).2.s 0 (w:Int))=(sbs (rdS i).2.s).take w:=by
    have:=gO (rdS i).2.s 0 w
    simpa using this
   have hs2:sbs (iN (rdS i).2.s (w:Int) (rdS i).2.s.size)=(sbs (rdS i).2.s).drop w:=by
    rw [gO]
    congr 1
    exact List.take_of_length_le (by rw [bB]; exact Nat.le_refl _)
   have hsz:(iN (rdS i).2.s 0 (w:Int)).size=w:=by
    rw [<- bB,hs1,List.length_take,bB]
    omega
   dsimp only
   rw [hsz,hs1,hs2,nS hm,List.append_assoc,List.take_append_drop]
   exact hb
 ·rw [if_pos h1] at he
  exact absurd he h1
def bkL:Nat->aT->List aJ->List aJ×aT
 | 0,i,l=>(l,i)
 | k+1,i,l=>bkL k (dH (dH i 1114111).2 647).2 (l++[⟨(dH i 1114111).1,(dH (dH i 1114111).2 647).1⟩])
def bkS (i:aT):List aJ×aT:=if (bkL (dH i 1024).1.toNat (dH i 1024).2 []).2.e=0 then bkL (dH i 1024).1.toNat (dH i 1024).2 [] else ([],(bkL (dH i 1024).1.toNat (dH i 1024).2 []).2)
theorem FC: ∀ (k:Nat) (i:aT) (l:List aJ),VI i->VI (bkL k i l).2
 | 0,i,l,h=>h
 | k+1,i,l,h=>FC k _ _ (iM _ (iM _ h))
theorem Cs {i:aT} (h:VI i):VI (bkS i).2:=by
 unfold bkS
 split
 ·exact FC _ _ _ (iM _ h)
 ·exact FC _ _ _ (iM _ h)
theorem GM: ∀ (k:Nat) (i:aT) (l:List aJ),i.e≠0->(bkL k i l).2=i
 | 0,i,l,h=>rfl
 | k+1,i,l,h=>by
  unfold bkL
  have h1:=DD h 1114111 (by omega)
  have h2:=DD (i:=(dH i 1114111).2) (by rw [h1]; exact h) 647 (by omega)
  rw [GM k _ _ (by rw [h2,h1]; exact h),h2,h1]
theorem JR (i:aT) (h:VI i):oO i=some (bkS i):=by
 unfold oO
 rw [Cn h (by omega),aA]
 have hr:=nE (m:=1024) h (by omega)
 have hV:=iM 1024 h
 unfold bkS
 generalize (dH i 1024).2=j at hV
 obtain ⟨N,hN⟩:=Int.eq_ofNat_of_zero_le hr.1
 rw [hN] at hr ⊢
 rw [Int.toNat_natCast]
 have key: ∀ (k n:Nat) (j:aT) (l:List aJ),n+k=N->VI j->l.length=n->iter (σ:=aT×(List aJ)×Int) (ρ:=(List aJ)×aT) (λa=>(bif (decide (a.2.2 < (N:Int))) then (Option.bind (gZ a.1 1114111) λb=>(Option.bind (gZ b.2 647) λc=>(Option.bind (chk (eH a.2.1.length [(aJ.mk (IntKind.i32.wrap b.1) c.1)].length 16)) λ_=>some (.inl (c.2,(a.2.1++[(aJ.mk (IntKind.i32.wrap b.1) c.1)]),(IntKind.i64.wrap (a.2.2+1))))))) else some (.inr (a.2.1,a.1)))) (j,l,(n:Int))=some (bkL k j l):=by
  intro k
  induction k with
  | zero =>
   intro n j l hn hV hl
   refine cQ ?_
   dsimp only
   rw [decide_eq_false (by omega),cond_false]
   rfl
  | succ k ih =>
   intro n j l hn hV hl
   have hA:=nE (m:=1114111) hV (by omega)
   have hw:IntKind.i32.wrap (dH j 1114111).1=(dH j 1114111).1:=by rw [IntKind.wrap_i32]; omega
   rw [dN (s':=((dH (dH j 1114111).2 647).2,l++[⟨(dH j 1114111).1,(dH (dH j 1114111).2 647).1⟩],((n+1:Nat):Int)))]
   ·rw [ih (n+1) _ _ (by omega) (iM _ (iM _ hV)) (by simp [hl])]
    rfl
   ·dsimp only
    rw [decide_eq_true (by omega),cond_true,Cn hV (by omega),aA,Cn (iM _ hV) (by omega),aA,hw,bL (by simp; omega),aA,w64 (by omega) (by omega)]
    rfl
 have:=key N 0 j [] (by omega) hV rfl
 rw [show ((0:Nat):Int)=0 from rfl] at this
 rw [this,aA]
 unfold dQ
 rw [aA]
 by_cases he:(bkL N j []).2.e=0
 ·have hb:((bkL N j []).2.e != 0)=false:=by simpa using he
  rw [hb,cond_false,if_pos he]
 ·have hb:((bkL N j []).2.e != 0)=true:=by simpa using he
  rw [hb,cond_true,if_neg he]
def rwL:Nat->Int->aT->List aE->List aE×aT
 | 0,_,i,l=>(l,i)
 | k+1,w,i,l=>if i.e=0 then rwL k w (oK i w).2 (l++[(oK i w).1]) else (l,i)
def po (x:aH) (l:List aE):aH:=⟨x.k,x.w,x.h,x.x,x.y,x.title,l,x.len,x.chain,x.begun⟩
def kR:aH:=⟨0,0,0,0,0,noS,[],0,0,[]⟩
def yg (i:aT):Int:=if i.s≠noS then 1 else i.e
theorem O8 (i:aT):oW i=some (yg i):=by
 unfold oW yg
 have:(i.s.toList == (ByteArray.mk #[]).toList)=decide (i.s=noS):=w9 i.s noS
 rw [this]
 by_cases h:i.s=noS
 ·rw [decide_eq_true h,if_neg (λhh=>hh h)]; rfl
 ·rw [decide_eq_false h,if_pos h]; rfl
def hA (s:ByteArray):=rdS ⟨s,0⟩
def hB (s:ByteArray):=dH (hA s).2 1000
def hC (s:ByteArray):=dH (hB s).2 1000
def hD (s:ByteArray):=rdS (hC s).2
def hE (s:ByteArray):=rdS (hD s).2
def hT (s:ByteArray):=wz (hE s).2
def hF (s:ByteArray):=rdS (hT s).2
def hG (s:ByteArray):=rdS (hF s).2
def hK (s:ByteArray):=bkS (hG s).2
def hR (s:ByteArray):List aE×aT:=rwL (hC s).1.toNat (hB s).1 (hK s).2 []
def SZ (m:Nat) (i:aT):Prop:=VI i/\i.s.size<=m
theorem yX {i:aT} {m:Nat} (h:SZ m i):SZ m (rdS i).2:=by
 refine ⟨lK h.1,?_⟩
 by_cases he:(rdS i).2.e=0
 ·obtain ⟨-,w, -, -,hw⟩:=DB he h.1
  have:=congrArg List.length hw
  rw [List.length_append,bB,bB] at this
  have:=h.2
  omega
 ·rcases (lK h.1).2 with h1 | h1
  ·exact absurd h1 he
  ·rw [h1]; exact Nat.zero_le _
theorem JS {i:aT} {m:Nat} (k:Int) (h:SZ m i):SZ m (dH i k).2:=by
 unfold dH
 split
 ·exact ⟨wo,Nat.zero_le _⟩
 ·exact yX h
theorem FD: ∀ (k:Nat) (i:aT) (l:List aJ),VI i->(∀ g∈l,rok g.rune)->(∀ g∈(bkL k i l).1,rok g.rune)/\(bkL k i l).1.length=l.length+k
 | 0,i,l,h,hl=>⟨hl,rfl⟩
 | k+1,i,l,h,hl=>by
  unfold bkL
  have:=FD k (dH (dH i 1114111).2 647).2 (l++[⟨(dH i 1114111).1,(dH (dH i 1114111).2 647).1⟩]) (iM _ (iM _ h)) (by
   intro g hg
   rcases List.mem_append.1 hg with h1 | h1
   ·exact hl g h1
   ·rw [List.mem_singleton.1 h1]
    have:=nE (m:=1114111) h (by omega)
    unfold rok
    dsimp only
    omega)
  refine ⟨this.1,this.2.trans ?_⟩
  simp only [List.length_append,List.length_cons,List.length_nil]
  omega
theorem O9 {i:aT} (h:VI i):(∀ g∈(bkS i).1,rok g.rune)/\(bkS i).1.length<=1024:=by
 unfold bkS
 have hr:=nE (m:=1024) h (by omega)
 have:=FD (dH i 1024).1.toNat (dH i 1024).2 [] (iM _ h) (by intro g hg; cases hg)
 split
 ·refine ⟨this.1,?_⟩
  rw [this.2]
  simp only [List.length_nil]
  omega
 ·exact ⟨λg hg=>(by cases hg),Nat.zero_le _⟩
theorem HY {α:Type} [DecidableEq α] (a b:List α) (hl:a.length=b.length) (f:Int->Option (Int ⊕ (Unit ⊕ Bool))) (hf: ∀ (n:Nat) (h1:n < a.length) (h2:n < b.length),f (n:Int)=if a[n]=b[n] then some (.inl ((n+1:Nat):Int)) else some (.inr (.inr false))) (he:f (a.length:Int)=some (.inr (.inl ()))):iter f 0=some (if a=b then .inl () else .inr false):=by
 obtain ⟨r,h1,h2⟩:=qP (f:=f) (λi:Int=> ∃ n:Nat,i=n/\n<=a.length/\a.take n=b.take n) (λi=>(a.length - i).toNat) (λr=>r=(if a=b then .inl () else .inr false)) (by
  rintro i ⟨n,rfl,hn,ht⟩
  by_cases h1:n < a.length
  ·have h2:n < b.length:=by omega
   by_cases he:a[n]=b[n]
   ·refine .inl ⟨((n+1:Nat):Int),?_,⟨n+1,rfl,by omega,?_⟩,by (try dsimp only); omega⟩
    ·rw [hf n h1 h2,if_pos he]
    ·rw [List.take_succ_eq_append_getElem h1,List.take_succ_eq_append_getElem h2,ht,he]
   ·refine .inr ⟨.inr false,?_,?_⟩
    ·rw [hf n h1 h2,if_neg he]
    ·rw [if_neg]
     intro hab
     subst hab
     exact he rfl
  ·refine .inr ⟨.inl (),?_,?_⟩
   ·have hn2:n=a.length:=by omega
    rw [hn2,he]
   ·rw [if_pos]
    have hn2:n=a.length:=by omega
    subst hn2
    rw [List.take_length] at ht
    rw [ht,hl,List.take_length]) 0 ⟨0,rfl,by omega,rfl⟩
 rw [h1,h2]
theorem HZ (a b:List aJ) (ha:a.length<=1000000):gA a b=some (decide (a=b)):=by
 unfold gA
 by_cases hl:a.length=b.length
 ·have e0:((a.length:Int) != (b.length:Int))=false:=by simp [hl]
  rw [e0,cond_false,HY a b hl]
  ·by_cases h:a=b
   ·rw [if_pos h,decide_eq_true h]; rfl
   ·rw [if_neg h,decide_eq_false h]; rfl
  ·intro n h1 h2
   try dsimp only
   rw [decide_eq_true (by omega),cond_true,dB a n h1,aA,dB b n h2,aA,w64 (by omega) (by omega)]
   generalize a[n]=x
   generalize b[n]=y
   obtain ⟨x1,x2⟩:=x
   obtain ⟨y1,y2⟩:=y
   by_cases g1:x1=y1 <;> by_cases g2:x2=y2 <;> simp [g1,g2,m6]
   ·have k:(x2 == y2)=false:=by simpa using g2
    simp [k]
   ·have k:(x1 == y1)=false:=by simpa using g1
    simp [k]
   ·have k:(x1 == y1)=false:=by simpa using g1
    simp [k]
  ·try dsimp only
   rw [decide_eq_false (by omega),cond_false]
 ·have e0:((a.length:Int) != (b.length:Int))=true:=by simp; omega
  rw [e0,cond_true,decide_eq_false (λh=>hl (by rw [h]))]
theorem JT (s t:aH):decide (s=t)=((s.k == t.k) && ((s.w == t.w) && ((s.h == t.h) && ((s.x == t.x) && ((s.y == t.y) && ((s.title.toList == t.title.toList) && ((s.len == t.len) && ((s.chain == t.chain) && (decide (s.rows=t.rows) && decide (s.begun=t.begun)))))))))):=by
 rw [w9]
 obtain ⟨a1,a2,a3,a4,a5,a6,a7,a8,a9,a10⟩:=s
 obtain ⟨b1,b2,b3,b4,b5,b6,b7,b8,b9,b10⟩:=t
 rw [Bool.eq_iff_iff]
 simp only [decide_eq_true_eq,Bool.and_eq_true,beq_iff_eq,aH.mk.injEq]
 constructor
 ·rintro ⟨h1,h2,h3,h4,h5,h6,h7,h8,h9,h10⟩
  exact ⟨h1,h2,h3,h4,h5,h6,h8,h9,h7,h10⟩
 ·rintro ⟨h1,h2,h3,h4,h5,h6,h8,h9,h7,h10⟩
  exact ⟨h1,h2,h3,h4,h5,h6,h7,h8,h9,h10⟩
theorem JU (s t:aH) (h:SW s):kZ s t=some (decide (s=t)):=by
 unfold kZ
 rw [JD _ _ (by have:=h.rl; omega) (λr hr=>by have:=(h.ro r hr).2; omega),aA,HZ _ _ (by have:=h.bl; omega),aA,JT]
 simp only [DJ,aA]
theorem yh (s:aH) (h:SW s):iE s=some s:=by
 unfold iE
 have hl:=h.rl
 refine fM (λi=>(s.rows.take i,(i:Int))) s.rows.length s.rows rfl ?_ ?_ ?_
 ·intro i hi
  dsimp only
  have hr:=(h.ro _ (List.getElem_mem hi)).2
  rw [decide_eq_true (by omega),cond_true,dB _ _ hi,aA,Aa _ (by omega),aA,bL (by simp; omega),aA,w64 (by omega) (by omega),List.take_succ_eq_append_getElem hi]
  rfl
 ·dsimp only
  rw [decide_eq_false (by omega),cond_false,List.take_length]
 ·have hb:=h.bl
  unfold cC
  rw [bL (by simp; omega),aA,aA]
  rfl
def BB (l:List Int):Prop:= ∀ b∈l,0<=b/\b < 256
theorem fR {a b:List Int} (h:BB a) (h2:BB b):BB (a++b):=by
 intro x hx
 rcases List.mem_append.1 hx with h' | h'
 ·exact h x h'
 ·exact h2 x h'
theorem Pa:BB []:=λx hx=>by cases hx
theorem lE (n:Int):BB (dF n):=sD _
theorem wA (s:ByteArray):BB (sbs s):=mR s
theorem n7 {α:Type} {l:List α} {f:α->List Int} (h: ∀ a∈l,BB (f a)):BB (l.flatMap f):=by
 intro x hx
 obtain ⟨a,ha,hx⟩:=List.mem_flatMap.1 hx
 exact h a ha x hx
theorem FE (p:Nat×aG):BB (iZ p):=n7 λa _=>lE a
theorem Ct (r:aE):BB (gT r):=fR (lE _) (n7 λa _=>FE a)
theorem My (g:aJ):BB (sF g):=n7 λa _=>lE a
def bI (l:List Int):aT:=⟨gX l,0⟩
theorem FF {n:Int} (h0:0<=n) (h1:n<=4611686018427387904):dF n=ng n.toNat/\n.toNat<=most/\((n.toNat:Nat):Int)=n:=by
 have:((n.toNat:Nat):Int)=n:=by omega
 refine ⟨?_,by unfold most; omega,this⟩
 conv=>lhs; rw [<- this]
 exact nS (by unfold most; omega)
theorem AZ {n:Int} {R:List Int} (hR:BB R) (h0:0<=n) (h1:n<=4611686018427387904):rdS (bI (dF n++R))=(n,bI R):=by
 obtain ⟨e,m,q⟩:=FF h0 h1
 have:=O4 (gX (dF n++R)) n.toNat R m (by rw [p8 _ (fR (lE _) hR),e])
 rw [q] at this
 exact this
theorem vS {n m:Int} {R:List Int} (hR:BB R) (h0:0<=n) (h1:n<=4611686018427387904) (hm:n<=m):dH (bI (dF n++R)) m=(n,bI R):=by
 unfold dH
 rw [AZ hR h0 h1,if_neg (by dsimp only; omega)]
theorem Qt (t:ByteArray) {R:List Int} (hR:BB R) (ht:t.size<=1000):wz (bI (dF t.size++sbs t++R))=(t,bI R):=by
 unfold wz
 rw [List.append_assoc,AZ (fR (wA t) hR) (by omega) (by omega)]
 have hb:sbs (gX (sbs t++R))=sbs t++R:=p8 _ (fR (wA t) hR)
 have hsz:(gX (sbs t++R)).size=t.size+R.length:=by rw [<- bB,hb,List.length_append,bB]
 unfold HX bI
 dsimp only
 rw [if_neg (by simp),if_neg (by rw [hsz]; omega)]
 have h1:iN (gX (sbs t++R)) 0 (t.size:Int)=t:=by
  apply tv
  have:=gO (gX (sbs t++R)) 0 t.size
  rw [hb] at this
  refine Eq.trans this ?_
  have e:t.size=(sbs t).length:=(bB t).symm
  rw [e,List.take_left,List.drop_zero]
 have h2:iN (gX (sbs t++R)) (t.size:Int) ((gX (sbs t++R)).size:Int)=gX R:=by
  apply tv
  rw [gO,hb,p8 _ hR,hsz,List.take_of_length_le (by rw [List.length_append,bB]; exact Nat.le_refl _)]
  have e:t.size=(sbs t).length:=(bB t).symm
  rw [e,List.drop_left]
 rw [h1,h2]
theorem GN {r s:Int}:okG r s=true↔(0<=r/\r<=1114111)/\0<=s/\s<=647:=by
 unfold okG
 simp only [Bool.and_eq_true,decide_eq_true_eq,ge_iff_le]
theorem Mz {c:aG}:okC c=true↔((0<=c.rune/\c.rune<=1114111)/\0<=c.aM/\c.aM<=647)/\0<=c.part/\c.part<=3:=by
 unfold okC
 rw [Bool.and_eq_true,GN]
 simp only [Bool.and_eq_true,decide_eq_true_eq,ge_iff_le]
theorem Oa: ∀ (l acc:List aJ) {R:List Int},BB R->(∀ g∈l,okG g.rune g.aM=true)->bkL l.length (bI (l.flatMap sF++R)) acc=(acc++l,bI R)
 | [],acc,R,hR,h=>by
  rw [List.append_nil]
  rfl
 | g::l,acc,R,hR,h=>by
  have hg:=GN.1 (h g List.mem_cons_self)
  have hT:BB (l.flatMap sF++R):=fR (n7 λa _=>My a) hR
  have e:(g::l).flatMap sF++R=dF g.rune++(dF g.aM++(l.flatMap sF++R)):=by
   unfold sF
   simp only [List.flatMap_cons,List.flatMap_nil,List.append_nil,List.append_assoc]
  rw [e]
  show bkL (l.length+1) _ _=_
  unfold bkL
  rw [vS (fR (lE _) hT) hg.1.1 (by omega) hg.1.2]
  dsimp only
  rw [vS hT hg.2.1 (by omega) hg.2.2]
  dsimp only
  rw [Oa l _ hR (λx hx=>h x (List.mem_cons_of_mem _ hx)),List.append_assoc]
  rfl
theorem Qu (l:List aJ) {R:List Int} (hR:BB R) (h: ∀ g∈l,okG g.rune g.aM=true) (hl:l.length<=1024):bkS (bI (mZ l++R))=(l,bI R):=by
 have hT:BB (l.flatMap sF++R):=fR (n7 λa _=>My a) hR
 have e:mZ l++R=dF l.length++(l.flatMap sF++R):=by
  unfold mZ
  rw [List.append_assoc]
 unfold bkS
 rw [e,vS hT (by omega) (by omega) (by omega)]
 dsimp only
 rw [Int.toNat_natCast,Oa l [] hR h]
 rfl
theorem Qv {n:Nat} {c:aG} {left:Int} {R:List Int} (hR:BB R) (h1:1<=n) (h2:(n:Int)<=left) (h3:n<=1000) (hc:okC c=true) :
  dH (bI (iZ (n,c)++R)) left=((n:Int),bI (dF c.rune++(dF c.aM++(dF c.part++R))))/\(pM (bI (iZ (n,c)++R)) left).2=bI R/\mD (bI (iZ (n,c)++R)) left=c:=by
 have hk:=Mz.1 hc
 have e:iZ (n,c)++R=dF n++(dF c.rune++(dF c.aM++(dF c.part++R))):=by
  unfold iZ
  simp only [List.flatMap_cons,List.flatMap_nil,List.append_nil,List.append_assoc]
 have t1:=fR (lE c.part) hR
 have t2:=fR (lE c.aM) t1
 have t3:=fR (lE c.rune) t2
 rw [e]
 have q0:=vS (m:=left) t3 (n:=(n:Int)) (by omega) (by omega) h2
 have q1:tw (bI (dF n++(dF c.rune++(dF c.aM++(dF c.part++R))))) left=bI (dF c.rune++(dF c.aM++(dF c.part++R))):=by
  unfold tw
  rw [q0,if_neg (by dsimp only; omega)]
 have q2:vp (bI (dF n++(dF c.rune++(dF c.aM++(dF c.part++R))))) left=(c.rune,bI (dF c.aM++(dF c.part++R))):=by
  unfold vp
  rw [q1,vS t2 (by omega) (by omega) (by omega)]
 have q3:wq (bI (dF n++(dF c.rune++(dF c.aM++(dF c.part++R))))) left=(c.aM,bI (dF c.part++R)):=by
  unfold wq
  rw [q2]
  exact vS t1 (by omega) (by omega) (by omega)
 have q4:pM (bI (dF n++(dF c.rune++(dF c.aM++(dF c.part++R))))) left=(c.part,bI R):=by
  unfold pM
  rw [q3]
  exact vS hR (by omega) (by omega) (by omega)
 refine ⟨q0,by rw [q4],?_⟩
 unfold mD
 rw [q2,q3,q4]
theorem Ap (c:aG): ∀ r:List aG,List.replicate (more c r) c++r.drop (more c r)=r
 | []=>rfl
 | d::r=>by
  unfold more
  by_cases h:d=c
  ·rw [if_pos h,List.replicate_succ,List.drop_succ_cons,List.cons_append,Ap c r,h]
  ·rw [if_neg h]
   rfl
theorem Qw: ∀ (k:Nat) (w:Int) (cells acc:List aG) {R:List Int},BB R->w<=1000->(∀ c∈cells,okC c=true)->((acc.length+cells.length:Nat):Int)=w->cells.length < k->(∀ c,cells.head?=some c->acc.getLast?≠some c) ->
  rrS k w (bI ((mz cells).flatMap iZ++R)) acc=(acc++cells,bI R):=by
 intro k
 induction k with
 | zero=>intro w cells acc R _ _ _ _ hk; omega
 | succ k ih =>
  intro w cells acc R hR hw hok hl hk hd
  unfold rrS
  cases cells with
  | nil =>
   rw [if_neg (by simp at hl; omega),List.append_nil]
   rfl
  | cons c r =>
   rw [List.length_cons] at hl hk
   have hm:=Cp c r
   rw [wu,List.flatMap_cons,List.append_assoc]
   have hT:BB ((mz (r.drop (more c r))).flatMap iZ++R):=fR (n7 λa _=>FE a) hR
   obtain ⟨q1,q2,q3⟩:=Qv (n:=more c r+1) (c:=c) (left:=w - acc.length) hT (by omega) (by omega) (by omega) (hok c List.mem_cons_self)
   have e0:(bI ((mz (r.drop (more c r))).flatMap iZ++R)).e=0:=rfl
   have e1:(acc.length:Int) < w/\(bI (iZ (more c r+1,c)++((mz (r.drop (more c r))).flatMap iZ++R))).e=0:=⟨by omega,rfl⟩
   rw [if_pos e1,q1,q2,q3,if_pos e0,if_neg (hd c rfl)]
   dsimp only
   rw [Int.toNat_natCast,ih w (r.drop (more c r)) (acc++List.replicate (more c r+1) c) hR hw (λx hx=>hok x (List.mem_cons_of_mem _ (List.mem_of_mem_drop hx))) (by simp only [List.length_append,List.length_replicate,List.length_drop]; omega) (by rw [List.length_drop]; omega) ?_]
   ·rw [List.append_assoc,List.replicate_succ,List.cons_append,Ap]
   ·intro d hd2 hl2
    rw [List.getLast?_append,List.getLast?_replicate] at hl2
    simp at hl2
    subst hl2
    rw [List.head?_drop] at hd2
    by_cases hlt:more c r < r.length
    ·exact yf c r hlt hd2
    ·rw [List.getElem?_eq_none (by omega)] at hd2
     cases hd2
theorem Pb (r:aE) (w:Int) {R:List Int} (hR:BB R) (hw:w<=1000) (hl:(r.cells.length:Int)=w) (hok: ∀ c∈r.cells,okC c=true):oK (bI (gT r++R)) w=(r,bI R):=by
 have hT:BB ((mz r.cells).flatMap iZ++R):=fR (n7 λa _=>FE a) hR
 unfold oK gT
 rw [List.append_assoc,vS hT (by split <;> omega) (by split <;> omega) (by split <;> omega)]
 dsimp only
 rw [Qw (w.toNat+1) w r.cells [] hR hw hok (by simpa using hl) (by omega) (λc _ h=>by cases h)]
 have e0:(bI R).e=0:=rfl
 rw [if_pos e0]
 obtain ⟨a,b⟩:=r
 cases b <;> rfl
theorem MA (n:Nat):ng n≠[]:=by
 rw [ng]
 split <;> simp
theorem MB:yg (bI [])=0:=by
 unfold yg bI
 rw [JL,if_neg (λh=>h rfl)]
theorem JV (s:aH):BB (vQ s):=by
 unfold vQ mZ
 exact fR (fR (fR (n7 λa _=>lE a) (fR (lE _) (wA _))) (n7 λa _=>lE a)) (fR (lE _) (n7 λa _=>My a))
theorem MC (l:List aE):BB (l.flatMap gT):=n7 λa _=>Ct a
theorem ME (s:aH):BB (Ao s):=fR (JV s) (MC _)
structure May (s:aH):Prop where
 k:1<=s.k/\s.k<=1152921504606846976
 w:1<=s.w/\s.w<=1000
 h:1<=s.h/\s.h<=1000
 x:0<=s.x/\s.x<=s.w - 1
 y:0<=s.y/\s.y<=s.h - 1
 r:(s.rows.length:Int)=s.h
 t:s.title.size<=200
 l:0<=s.len/\s.len<=1152921504606846976
 c:0<=s.chain/\s.chain<=281474976710656
 b:s.begun.length<=1024
 g: ∀ g∈s.begun,okG g.rune g.aM=true
 rr: ∀ r∈s.rows,(r.cells.length:Int)=s.w /\ ∀ c∈r.cells,okC c=true
theorem Pc {n lo hi:Int}:wi n lo hi=true↔lo<=n/\n<=hi:=by
 unfold wi
 simp only [Bool.and_eq_true,decide_eq_true_eq,ge_iff_le]
theorem MF {s:aH} (he:kO s=false):pA s=true↔May s:=by
 unfold pA wx
 rw [he,Bool.false_or]
 simp only [Bool.and_eq_true,Pc,beq_iff_eq,decide_eq_true_eq,List.all_eq_true,uB]
 constructor
 ·rintro ⟨⟨k,w,h,x,y,r,t,l,c,b⟩,g,rr⟩
  exact ⟨k,w,h,x,y,r,by omega,l,c,by omega,g,rr⟩
 ·rintro ⟨k,w,h,x,y,r,t,l,c,b,g,rr⟩
  exact ⟨⟨k,w,h,x,y,r,by omega,l,c,by omega⟩,g,rr⟩
theorem Ob: ∀ (k:Nat) (i:aT) (l:List aJ),(bkL k i l).2.e=0->i.e=0
 | k,i,l,h=>by
  by_cases he:i.e=0
  ·exact he
  ·rw [GM _ _ _ he] at h
   exact h
theorem BA: ∀ (k:Nat) (i:aT) (l:List aJ),VI i->(bkL k i l).2.e=0 -> ∃ D,(bkL k i l).1.flatMap sF=l.flatMap sF++D/\sbs i.s=D++sbs (bkL k i l).2.s
 | 0,i,l,h,he=>⟨[],by simp [bkL],by simp [bkL]⟩
 | k+1,i,l,h,he=>by
  unfold bkL at he ⊢
  have v1:=iM 1114111 h
  have v2:=iM 647 v1
  obtain ⟨D,d1,d2⟩:=BA k _ _ v2 he
  obtain ⟨h1,c2,q2,_,m2,b2⟩:=oc (Ob _ _ _ he) v1
  obtain ⟨_,c1,q1,_,m1,b1⟩:=oc h1 h
  refine ⟨ng c1++ng c2++D,?_,?_⟩
  ·rw [d1,List.flatMap_append,List.flatMap_singleton,List.append_assoc]
   congr 2
   unfold sF
   simp only [List.flatMap_cons,List.flatMap_nil,List.append_nil,q1,q2,nS m1,nS m2]
  ·rw [b1,b2,d2]
   simp only [List.append_assoc]
theorem H0 {i:aT} (h:VI i) (he:(bkS i).2.e=0):i.e=0/\sbs i.s=mZ (bkS i).1++sbs (bkS i).2.s:=by
 unfold bkS at he ⊢
 by_cases h0:(bkL (dH i 1024).1.toNat (dH i 1024).2 []).2.e=0
 ·rw [if_pos h0]
  have v1:=iM 1024 h
  obtain ⟨D,d1,d2⟩:=BA _ _ _ v1 h0
  obtain ⟨e0,c,q,_,m,b⟩:=oc (Ob _ _ _ h0) h
  refine ⟨e0,?_⟩
  have hl:=(FD (dH i 1024).1.toNat (dH i 1024).2 [] v1 (by intro g hg; cases hg)).2
  unfold mZ
  rw [hl,d1,b,d2,q,Int.toNat_natCast]
  simp only [List.length_nil,Nat.zero_add,List.flatMap_nil,List.nil_append,nS m,List.append_assoc]
 ·rw [if_neg h0] at he
  exact absurd he h0
theorem DM:SW kR:=⟨by decide,by decide,λg hg=>(by cases hg),λr hr=>(by cases hr),by decide,by decide,by show noS.size<=1000; decide⟩
theorem JW (r:aE):(gT r).length<=9+36*r.cells.length:=by
 unfold gT
 rw [List.length_append]
 have h1:=dO (if r.wrapped then 1 else 0)
 have h2:=DG (mz r.cells)
 have h3:=Bx r.cells
 omega
theorem yi (m:Nat): ∀ l:List aE,(∀ r∈l,r.cells.length<=m)->(l.flatMap gT).length<=l.length*(9+36*m)
 | [],_=>by simp
 | r::l,h=>by
  have h1:=yi m l (λx hx=>h x (List.mem_cons_of_mem _ hx))
  have h2:=JW r
  have h3:=h r List.mem_cons_self
  rw [List.flatMap_cons,List.length_append,List.length_cons,Nat.succ_mul]
  omega
theorem Ia {s:aH}:kO s=true↔s=kR:=by
 unfold kO
 rw [w9]
 obtain ⟨a1,a2,a3,a4,a5,a6,a7,a8,a9,a10⟩:=s
 simp only [Bool.and_eq_true,beq_iff_eq,decide_eq_true_eq,kR,aH.mk.injEq]
 constructor
 ·rintro ⟨h1,h2,h3,h4,h5,h6,h7,h8,h9,h10⟩
  exact ⟨h1,h2,h3,h4,h5,h6,List.eq_nil_of_length_eq_zero (by omega),h8,h9,List.eq_nil_of_length_eq_zero (by omega)⟩
 ·rintro ⟨h1,h2,h3,h4,h5,h6,h7,h8,h9,h10⟩
  exact ⟨h1,h2,h3,h4,h5,h6,by rw [h7]; rfl,h8,h9,by rw [h10]; rfl⟩
theorem JX (s:aH):gX (Ao s)≠noS:=by
 intro h
 have h2:sbs (gX (Ao s))=[]:=by rw [h]; rfl
 rw [p8 _ (ME s)] at h2
 unfold Ao vQ at h2
 simp only [List.append_eq_nil_iff,List.flatMap_cons] at h2
 exact MA _ h2.1.1.1.1.1
def za (a:Nat):Nat:=(a >>> 1) ^^^ (if a % 2=1 then 3988292384 else 0)
def yj (a:Nat):Nat:=za (za (za (za a)))
theorem Aq {a b:Nat} (ha:a < 4294967296) (hb:b < 4294967296):a ^^^ b < 4294967296:=Nat.xor_lt_two_pow (n:=32) ha hb
theorem zq {a:Nat} (h:a < 4294967296):za a < 4294967296:=by
 unfold za
 have:a >>> 1 < 4294967296:=by rw [Nat.shiftRight_eq_div_pow]; omega
 exact Aq this (by split <;> omega)
theorem MH (a b:Nat):(a ^^^ b) % 2=(a % 2+b % 2) % 2:=by
 have h:=Nat.testBit_xor a b 0
 rw [Nat.testBit_zero,Nat.testBit_zero,Nat.testBit_zero] at h
 have ha:a % 2=0\/a % 2=1:=by omega
 have hb:b % 2=0\/b % 2=1:=by omega
 have hc:(a ^^^ b) % 2=0\/(a ^^^ b) % 2=1:=by omega
 rcases ha with ha | ha <;> rcases hb with hb | hb <;> rcases hc with hc | hc <;> rw [ha,hb,hc] at h <;> first | (exact absurd h (by decide)) | (rw [ha,hb,hc])
theorem xf (a b:Nat):za (a ^^^ b)=za a ^^^ za b:=by
 unfold za
 rw [Nat.shiftRight_xor_distrib,MH]
 have ha:a % 2=0\/a % 2=1:=by omega
 have hb:b % 2=0\/b % 2=1:=by omega
 generalize a >>> 1=x
 generalize b >>> 1=y
 rcases ha with ha | ha <;> rcases hb with hb | hb <;> rw [ha,hb]
 ·simp
 ·simp [Nat.xor_assoc]
 ·simp only [Nat.zero_add,Nat.add_zero]
  simp
  rw [Nat.xor_assoc,Nat.xor_assoc,Nat.xor_comm y]
 ·simp
  have:x ^^^ 3988292384 ^^^ (y ^^^ 3988292384)=x ^^^ y ^^^ (3988292384 ^^^ 3988292384):=by
   rw [Nat.xor_assoc,Nat.xor_assoc,<- Nat.xor_assoc 3988292384 y,Nat.xor_comm 3988292384 y,Nat.xor_assoc]
  rw [this,Nat.xor_self,Nat.xor_zero]
theorem JY (a b:Nat):yj (a ^^^ b)=yj a ^^^ yj b:=by
 unfold yj
 rw [xf,xf,xf,xf]
theorem u9 (k:Nat):za (2*k)=k:=by
 unfold za
 rw [if_neg (by omega),Nat.xor_zero,Nat.shiftRight_eq_div_pow]
 omega
theorem MI (k:Nat):yj (16*k)=k:=by
 unfold yj
 rw [show 16*k=2*(2*(2*(2*k))) by omega,u9,u9,u9,u9]
theorem BC (x:Nat):yj x=(x / 16) ^^^ yj (x % 16):=by
 have h:x=(16*(x / 16)) ^^^ (x % 16):=by
  have h1:16*(x / 16)+x % 16=x:=Nat.div_add_mod x 16
  have h2:(16*(x / 16)) ^^^ (x % 16)=16*(x / 16)+x % 16:=by
   have h3:2 ^ 4*(x / 16)+x % 16=(2 ^ 4*(x / 16)) ||| (x % 16):=Nat.two_pow_add_eq_or_of_lt (by omega) _
   apply Nat.eq_of_testBit_eq
   intro i
   have h4:(16*(x / 16)+x % 16)=(2 ^ 4*(x / 16)) ||| (x % 16):=h3
   rw [h4,Nat.testBit_xor,Nat.testBit_or]
   show ((2 ^ 4*(x / 16)).testBit i ^^ (x % 16).testBit i)=_
   rw [Nat.testBit_two_pow_mul]
   by_cases hi:i>=4
   ·have:(x % 16).testBit i=false:=by
     apply Nat.testBit_lt_two_pow
     have:2 ^ 4<=2 ^ i:=Nat.pow_le_pow_right (by omega) hi
     omega
    rw [this]
    simp
   ·simp [hi]
  rw [h2,h1]
 conv=>lhs; rw [h]
 rw [JY,MI]
theorem GO: ∀ n:Nat,n < 16->idx dD (n:Int)=some ((yj n:Nat):Int):=by decide
theorem Pd {x:Int} (h0:0<=x) (h1:x < 4294967296):IntKind.u32.wrap x=x:=by
 unfold IntKind.wrap
 simp [IntKind.signed,IntKind.bits]
 omega
theorem GP {a b:Nat} (ha:a < 4294967296) (hb:b < 4294967296):Go.bits .xor .u32 (a:Int) (b:Int)=((a ^^^ b:Nat):Int):=by
 show IntKind.u32.wrap ((BitVec.ofInt 32 (a:Int) ^^^ BitVec.ofInt 32 (b:Int)).toNat:Int)=_
 rw [BitVec.ofInt_natCast,BitVec.ofInt_natCast,BitVec.toNat_xor,BitVec.toNat_ofNat,BitVec.toNat_ofNat,Nat.mod_eq_of_lt ha,Nat.mod_eq_of_lt hb]
 have:=Aq ha hb
 exact Pd (by omega) (by omega)
theorem Oc {a:Nat} (ha:a < 4294967296):Go.bits .and .u32 (a:Int) 15=((a % 16:Nat):Int):=by
 show IntKind.u32.wrap ((BitVec.ofInt 32 (a:Int) &&& BitVec.ofInt 32 15).toNat:Int)=_
 rw [BitVec.ofInt_natCast,BitVec.toNat_and,BitVec.toNat_ofNat,Nat.mod_eq_of_lt ha]
 have h:(BitVec.ofInt 32 15).toNat=2 ^ 4 - 1:=by decide
 rw [h,Nat.and_two_pow_sub_one_eq_mod]
 exact Pd (by omega) (by omega)
theorem Od (a:Nat):((a:Int)).fdiv (2 ^ (min 4 32))=((a / 16:Nat):Int):=by
 rw [Int.fdiv_eq_ediv_of_nonneg _ (by decide)]
 rfl
def DN (x b:Nat):Nat:=yj (yj (x ^^^ b))
theorem xh {a:Nat} (h:a < 4294967296):yj a < 4294967296:=zq (zq (zq (zq h)))
theorem JZ {x b:Nat} (h:x < 4294967296) (hb:b < 256):DN x b < 4294967296:=xh (xh (Aq h (by omega)))
theorem step_eq {x b:Nat} (hx:x < 4294967296) (hb:b < 256):pH (x:Int) (b:Int)=some ((DN x b:Nat):Int):=by
 unfold pH DN
 rw [Pd (by omega) (by omega),GP hx (by omega)]
 have h1:=Aq hx (show b < 4294967296 by omega)
 generalize x ^^^ b=y at h1
 rw [Oc h1,GO _ (by omega),aA,Od,GP (by omega) (xh (by omega)),<- BC]
 have h2:=xh h1
 generalize yj y=z at h2
 rw [Oc h2,GO _ (by omega),aA,Od,GP (by omega) (xh (by omega)),<- BC]
def A9 (l:List Int):Nat:=l.foldl (λx b=>DN x b.toNat) 4294967295
theorem Ar (l:List Int) (i:Nat) (h:i < l.length):A9 (l.take (i+1))=DN (A9 (l.take i)) (l[i]).toNat:=by
 unfold A9
 rw [List.take_succ_eq_append_getElem h,List.foldl_append]
 rfl
theorem GQ {l:List Int} (h:BB l): ∀ i,A9 (l.take i) < 4294967296:=by
 intro i
 induction i with
 | zero=>rw [List.take_zero]; decide
 | succ i ih =>
  by_cases hi:i < l.length
  ·rw [Ar l i hi]
   have:=h _ (List.getElem_mem hi)
   exact JZ ih (by omega)
  ·rw [List.take_of_length_le (by omega)]
   rw [List.take_of_length_le (by omega)] at ih
   exact ih
def uC (s:ByteArray):Nat:=4294967295 ^^^ A9 (sbs s)
theorem J0 (s:ByteArray) (hs:s.size<=1000000):sr [s]=some ((uC s:Nat):Int):=by
 unfold sr
 have hL:=GQ (wA s)
 have hinner:iter (σ:=Int×Int) (ρ:=Int) (λa=>(bif (decide (a.1 < (s.size:Int))) then (Option.bind (z6 s a.1) λb642=>(Option.bind (pH a.2 b642) λb=>some (.inl ((IntKind.i64.wrap (a.1+1)),b)))) else some (.inr a.2))) (0,4294967295)=some ((A9 (sbs s):Nat):Int):=by
  refine GA (λi=>((i:Int),((A9 ((sbs s).take i):Nat):Int))) s.size _ ?_ ?_
  ·intro i hi
   have hi2:i < (sbs s).length:=by rw [bB]; exact hi
   have hb:=wA s _ (List.getElem_mem hi2)
   have hn:(sbs s)[i]=(((sbs s)[i].toNat:Nat):Int):=by omega
   dsimp only
   rw [decide_eq_true (by omega),cond_true,w7 s i hi2,aA,Ar _ _ hi2]
   conv=>lhs; rw [hn]
   rw [step_eq (hL i) (by omega),aA,w64 (by omega) (by omega)]
   rfl
  ·dsimp only
   rw [decide_eq_false (by omega),cond_false,List.take_of_length_le (by rw [bB]; exact Nat.le_refl _)]
 refine fM (λi=>(if i=0 then (4294967295:Int) else ((A9 (sbs s):Nat):Int),(i:Int))) 1 ((A9 (sbs s):Nat):Int) rfl ?_ ?_ ?_
 ·intro i hi
  have:i=0:=by omega
  subst this
  have h1:idx [s] 0=some s:=rfl
  show (bif (decide ((0:Int) < 1)) then (Option.bind (idx [s] 0) λc=>_) else _)=_
  rw [decide_eq_true (by omega),cond_true,h1,aA]
  show (Option.bind (iter _ (0,4294967295)) λd=>_)=_
  rw [hinner,aA]
  rfl
 ·rfl
 ·have h:=hL (sbs s).length
  rw [List.take_length] at h
  show some (Go.bits .xor .u32 ((4294967295:Nat):Int) ((A9 (sbs s):Nat):Int))=_
  rw [GP (by decide) h]
  rfl
theorem FG {s:aH} (h:SW s) (hp:(s.rows.flatMap gT).length<=12000):(n9 s).size<=60000:=by
 unfold n9
 split
 ·exact Nat.zero_le _
 ·have:=Bz s h
  rw [nD]
  unfold Ao
  rw [List.length_append]
  omega
theorem Cu (s:ByteArray):uC s < 4294967296:=by
 unfold uC
 have h:=GQ (wA s) (sbs s).length
 rw [List.take_length] at h
 exact Aq (by decide) h
theorem GR (s:aH) (h:SW s) (hp:(s.rows.flatMap gT).length<=12000):lM s=some ((uC (n9 s):Nat):Int):=by
 unfold lM
 have h1:=FG h hp
 have h2:=Cu (n9 s)
 rw [GK s h (by omega),aA,J0 _ (by omega),aA,w64 (by omega) (by omega)]
def okO {α:Type _} (x:Option α) (P:α->Prop):Prop:= ∃ r,x=some r/\P r
theorem fN {α:Type _} {P:α->Prop} {r:α} (h:P r):okO (some r) P:=⟨r,rfl,h⟩
theorem mE {α β:Type _} {P:α->Prop} {Q:β->Prop} {x:Option α} {f:α->Option β} (h:okO x P) (k: ∀ r,P r->okO (f r) Q):okO (Option.bind x f) Q:=by
 obtain ⟨r,rfl,hp⟩:=h
 exact k r hp
theorem Pe {α:Type _} {P:α->Prop} {b:Bool} {x y:Option α} (h1:b=true->okO x P) (h2:b=false->okO y P):okO (bif b then x else y) P:=by
 cases b
 ·exact h2 rfl
 ·exact h1 rfl
theorem xi {α:Type _} {P:α->Prop} {p:Prop} [Decidable p] {x y:Option α} (h1:p->okO x P) (h2: ¬ p->okO y P):okO (bif decide p then x else y) P :=
 Pe (λh=>h1 (of_decide_eq_true h)) (λh=>h2 (of_decide_eq_false h))
theorem FH {lo hi n:Int} (h0:0<=lo) (h1:lo<=hi) (h2:hi<=n):okO (chk (dC lo hi n)) (λ_=>True):=⟨(),bP h0 h1 h2,trivial⟩
theorem va {σ ρ:Type} {f:σ->Option (σ ⊕ ρ)} {P:ρ->Prop} (Inv:σ->Prop) (m:σ->Nat) {s:σ} (h0:Inv s)
  (h: ∀ s,Inv s->okO (f s) λ | .inl s'=>Inv s'/\m s' < m s | .inr r=>P r):okO (iter f s) P:=by
 refine qP Inv m P (λs hs=> ?_) s h0
 obtain ⟨z,e,hz⟩:=h s hs
 cases z with
 | inl s'=>exact .inl ⟨s',e,hz⟩
 | inr r=>exact .inr ⟨r,e,hz⟩
end Go.Tw.X
set_option maxHeartbeats 1000000
namespace Go.Tw.X
open Go Go.Tw
theorem Rz {α:Type _} {x:Option α} {r:α} (h:okO x (λy=>y=r)):x=some r:=by
 obtain ⟨y,e,rfl⟩:=h
 exact e
def chM:Int:=281474976710597
def xj (x:Int) (l:List aJ):Int:=(x*65536 % chM+(uC (gX (mZ l)):Nat)) % chM
def tB (l:List (List aJ)):Int:=l.foldl xj 0
theorem DO (x:Int) (l:List aJ):0<=xj x l/\xj x l < chM:=⟨Int.emod_nonneg _ (by decide),Int.emod_lt_of_pos _ (by decide)⟩
theorem DP (l:List (List aJ)) (g:List aJ):tB (l++[g])=xj (tB l) g:=List.foldl_append ..
theorem DQ: ∀ (l:List (List aJ)) (x:Int),0<=x->x < chM->0<=l.foldl xj x/\l.foldl xj x < chM
 | [],x,h0,h1=>⟨h0,h1⟩
 | g::l,x,_,_=>DQ l (xj x g) (DO x g).1 (DO x g).2
theorem BD (l:List (List aJ)):0<=tB l/\tB l < chM:=DQ l 0 (by decide) (by decide)
def Cv (l:List aJ):Prop:=l.length<=2000 /\ ∀ g∈l,rok g.rune
theorem FI {l:List aJ} (h:l.length<=2000):(gX (mZ l)).size<=1000000:=by
 have h1:=dO (l.length:Int)
 have h2:=u7 l
 rw [nD]
 unfold mZ
 rw [List.length_append]
 omega
theorem MJ {x:Int} (h0:0<=x) (h1:x < chM) {l:List aJ} (hl:Cv l):pW x l=some (xj x l):=by
 unfold pW xj
 unfold chM at h1 ⊢
 have hs:=Cu (gX (mZ l))
 rw [An l hl.1 hl.2,Option.bind_some,J0 _ (FI hl.1),Option.bind_some]
 generalize uC (gX (mZ l))=m at hs
 rw [w64 (x:=x*256) (by omega) (by omega),Int.tmod_eq_emod_of_nonneg (a:=x*256) (by omega)]
 rw [w64 (x:=x*256 % 281474976710597*256) (by omega) (by omega),Int.tmod_eq_emod_of_nonneg (a:=x*256 % 281474976710597*256) (by omega)]
 rw [w64 (x:=((m:Nat):Int)) (by omega) (by omega),w64 (by omega) (by omega),Int.tmod_eq_emod_of_nonneg (a:=x*256 % 281474976710597*256 % 281474976710597+((m:Nat):Int)) (by omega)]
 congr 2
 omega
def chs (l:List (List aJ)):List Int:=(List.range (l.length+1)).map λk=>tB (l.take k)
theorem GS (l:List (List aJ)):(chs l).length=l.length+1:=by simp [chs]
theorem J1 (l:List (List aJ)) (g:List aJ):chs (l++[g])=chs l++[tB (l++[g])]:=by
 unfold chs
 rw [List.length_append,List.length_singleton,List.range_succ,List.map_append,List.map_singleton]
 congr 1
 ·refine List.map_congr_left λk hk=> ?_
  have:=List.mem_range.1 hk
  rw [List.take_append_of_le_length (by omega)]
 ·rw [List.take_of_length_le (by simp)]
theorem GU (l:List (List aJ)) (k:Nat) (h:k<=l.length):idx (chs l) (k:Int)=some (tB (l.take k)):=by
 rw [dB _ k (by rw [GS]; omega)]
 simp [chs]
theorem yk (l:List aJ) (h:l.length<=1000000):cC l=some l:=by
 unfold cC
 rw [bL (by simp; omega)]
 simp
theorem DR {b:cE} (hc:b.bX=chs b.l) (hn:b.l.length<=200000000) {g:List aJ} (hg:Cv g):fU b g=some ⟨b.l++[g],chs (b.l++[g]),b.begun⟩:=by
 unfold fU
 have hk:=BD b.l
 rw [yk _ (by have:=hg.1; omega),Option.bind_some,bL (by simp; omega),Option.bind_some,hc,GS,w64 (by omega) (by omega)]
 rw [show ((b.l.length+1:Nat):Int) - 1=(b.l.length:Int) by omega,GU _ _ (Nat.le_refl _),List.take_length,Option.bind_some,MJ hk.1 hk.2 hg,Option.bind_some,bL (by simp; omega)]
 rw [J1,DP]
 rfl
def ql (g:List aJ):List (List aJ)×List aJ :=
 if h:1024<=g.length then (g.take 1024::(ql (g.drop 1024)).1,(ql (g.drop 1024)).2) else ([],g)
termination_by g.length
decreasing_by all_goals (rw [List.length_drop]; omega)
theorem Cw {g:List aJ} (h:1024<=g.length):ql g=(g.take 1024::(ql (g.drop 1024)).1,(ql (g.drop 1024)).2):=by
 rw [ql,dif_pos h]
theorem zr {g:List aJ} (h: ¬ 1024<=g.length):ql g=([],g):=by
 rw [ql,dif_neg h]
def tX (z:List (List aJ)×List aJ) (r:aE):List (List aJ)×List aJ :=
 let c:=ql (z.2++qN r)
 if r.wrapped then (z.1++c.1,c.2) else (z.1++c.1++[c.2],[])
def Cx (z:List (List aJ)×List aJ):Br:=⟨z.1.map (λg=>g.map tg),z.2.map tg⟩
def fS (z:List (List aJ)×List aJ):cE:=⟨z.1,chs z.1,z.2⟩
def Ib (g:List aJ):Prop:= ∀ x∈g,rok x.rune
theorem GV: ∀ n (g:List aJ),g.length=n->Ib g->(ql g).1.length*1024<=n/\(ql g).2.length < 1024/\Ib (ql g).2 /\ ∀ x∈(ql g).1,Cv x:=by
 intro n
 induction n using Nat.strongRecOn with
 | _ n ih =>
  intro g hg ho
  by_cases h:1024<=g.length
  ·rw [Cw h]
   obtain ⟨a,b,c,d⟩:=ih (g.drop 1024).length (by rw [List.length_drop]; omega) _ rfl (λx hx=>ho x (List.mem_of_mem_drop hx))
   rw [List.length_drop] at a
   refine ⟨by rw [List.length_cons,Nat.succ_mul,<- hg]; exact Nat.add_le_of_le_sub h a,b,c,λx hx=> ?_⟩
   rcases List.mem_cons.1 hx with rfl | hx
   ·exact ⟨by rw [List.length_take]; omega,λy hy=>ho y (List.mem_of_mem_take hy)⟩
   ·exact d x hx
  ·rw [zr h]
   exact ⟨by rw [List.length_nil]; omega,by dsimp only; omega,ho,λx hx=>by cases hx⟩
def DS (r:aE):Prop:=r.cells.length<=1000/\Ib (qN r)
structure ZI (k:Nat) (z:List (List aJ)×List aJ):Prop where
 n:z.1.length<=k
 b:z.2.length < 1024
 g:Ib z.2
 ls: ∀ x∈z.1,Cv x
theorem MK {k:Nat} {z:List (List aJ)×List aJ} (h:ZI k z) {r:aE} (hr:DS r):ZI (k+2) (tX z r):=by
 have hl:=DA r
 obtain ⟨a,b,c,d⟩:=GV _ (z.2++qN r) rfl (λx hx=>(List.mem_append.1 hx).elim (h.g x) (hr.2 x))
 rw [List.length_append] at a
 have h1:=h.n
 have h2:=h.b
 have h3:=hr.1
 unfold tX
 dsimp only
 split
 ·exact ⟨by rw [List.length_append]; omega,b,c,λx hx=>(List.mem_append.1 hx).elim (h.ls x) (d x)⟩
 ·refine ⟨by simp; omega,by show 0 < 1024; decide,λx hx=>(by cases hx),λx hx=> ?_⟩
  rcases List.mem_append.1 hx with hx | hx
  ·exact (List.mem_append.1 hx).elim (h.ls x) (d x)
  ·rw [List.mem_singleton.1 hx]
   exact ⟨by omega,c⟩
theorem add_one {k:Nat} (hk:k<=100000000) {z:List (List aJ)×List aJ} (h:ZI k z) {r:aE} (hr:DS r):(Option.bind (kS r) λf=>(Option.bind (chk (eH (fS z).begun.length f.length 16)) λ_=>(Option.bind (iter (σ:=cE) (ρ:=cE) (λd=>(bif (decide ((d.begun.length:Int)>=1024)) then (Option.bind (chk (dC 0 1024 d.begun.length)) λ_=>(Option.bind (fU d (cut d.begun 0 1024)) λc=>(Option.bind (chk (dC 1024 (c.begun.length:Int) c.begun.length)) λ_=>(Option.bind (cC (cut c.begun 1024 (c.begun.length:Int))) λj=>some (.inl (cE.mk c.l c.bX j)))))) else some (.inr d))) (cE.mk (fS z).l (fS z).bX ((fS z).begun++f))) λe=>(bif (!r.wrapped) then (Option.bind (fU e e.begun) λi=>some (cE.mk i.l i.bX ([]:List aJ))) else some e))))=some (fS (tX z r)):=by
 have hl:=DA r
 have h1:=h.n
 have h2:=h.b
 have h3:=hr.1
 have hgo:Ib (z.2++qN r):=λx hx=>(List.mem_append.1 hx).elim (h.g x) (hr.2 x)
 obtain ⟨ca,cb,cc,_⟩:=GV _ (z.2++qN r) rfl hgo
 rw [List.length_append] at ca
 rw [HO r (by omega),Option.bind_some,bL (by show (z.2.length+(qN r).length)*16<=_; omega),Option.bind_some]
 refine Rz (mE (P:=λy=>y=fS (z.1++(ql (z.2++qN r)).1,(ql (z.2++qN r)).2)) ?_ λy hy=> ?_)
 ·refine va (λy:cE=> ∃ l g,y=fS (l,g)/\g.length<=2024/\Ib g/\l.length+g.length<=200000000/\(ql g).2=(ql (z.2++qN r)).2/\l++(ql g).1=z.1++(ql (z.2++qN r)).1) (λy=>y.begun.length) ⟨z.1,z.2++qN r,rfl,by simp; omega,hgo,by simp; omega,rfl,rfl⟩ ?_
  rintro _ ⟨l,g,rfl,g1,g2,g3,g4,g5⟩
  show okO (bif (decide ((g.length:Int)>=1024)) then _ else _) _
  refine xi (λhh=> ?_) λhh=> ?_
  ·have hge:1024<=g.length:=by omega
   rw [Cw hge] at g4 g5
   have hcut:cut g 0 1024=g.take 1024:=by rw [show (1024:Int)=((1024:Nat):Int) from rfl,Af]
   have hcut2:cut g 1024 (g.length:Int)=g.drop 1024:=by rw [show (1024:Int)=((1024:Nat):Int) from rfl,tu,List.take_length]
   refine mE (FH (by omega) (by omega) (by show (1024:Int)<=g.length; omega)) λ_ _=> ?_
   rw [show (fS (l,g)).begun=g from rfl,hcut,DR (b:=fS (l,g)) rfl (by show l.length<=_; omega) ⟨by rw [List.length_take]; omega,λx hx=>g2 x (List.mem_of_mem_take hx)⟩,Option.bind_some]
   dsimp only
   refine mE (FH (by omega) (by show (1024:Int)<=g.length; omega) (by show (g.length:Int)<=g.length; omega)) λ_ _=> ?_
   rw [show (fS (l,g)).begun=g from rfl,show (fS (l,g)).l=l from rfl,hcut2,yk _ (by rw [List.length_drop]; omega),Option.bind_some]
   refine fN ⟨⟨l++[g.take 1024],g.drop 1024,rfl,by rw [List.length_drop]; omega,λx hx=>g2 x (List.mem_of_mem_drop hx),by simp; omega,g4,by rw [<- g5]; simp⟩,?_⟩
   show (g.drop 1024).length < g.length
   rw [List.length_drop]
   omega
  ·rw [zr (by omega)] at g4 g5
   refine fN ?_
   rw [<- g4,<- g5]
   simp
 ·subst hy
  unfold tX
  cases hw:r.wrapped with
  | true=>exact fN rfl
  | false =>
   simp only [Bool.not_false,cond_true]
   rw [show ∀ a b,(fS (a,b)).begun=b from λ_ _=>rfl,DR (b:=fS (z.1++(ql (z.2++qN r)).1,(ql (z.2++qN r)).2)) rfl (by show (z.1++(ql (z.2++qN r)).1).length<=_; rw [List.length_append]; omega) ⟨by show (ql (z.2++qN r)).2.length<=2000; omega,cc⟩]
   exact fN rfl
theorem vb {k:Nat}: ∀ (rows:List aE) {z:List (List aJ)×List aJ},ZI k z->(∀ r∈rows,DS r)->ZI (k+2*rows.length) (rows.foldl tX z)
 | [],z,h,_=>h
 | r::rows,z,h,hr=>by
  have h1:=MK h (hr r List.mem_cons_self)
  have h2:=vb (k:=k+2) rows h1 λx hx=>hr x (List.mem_cons_of_mem _ hx)
  rw [show k+2*(r::rows).length=k+2+2*rows.length by simp; omega]
  exact h2
theorem add_eq {k:Nat} {z:List (List aJ)×List aJ} (h:ZI k z) {rows:List aE} (hr: ∀ r∈rows,DS r) (hk:k+2*rows.length<=100000000):okO (kA (fS z) rows) (λy=>y.2=fS (rows.foldl tX z)):=by
 unfold kA
 refine mE (P:=λy=>y=fS (rows.foldl tX z)) ?_ λy hy=>fN hy
 refine va (λy:cE×Int=>0<=y.2/\y.2<=rows.length/\y.1=fS ((rows.take y.2.toNat).foldl tX z)) (λy=>rows.length - y.2.toNat) ⟨Int.le_refl 0,by dsimp only; omega,rfl⟩ ?_
 rintro ⟨b,i⟩ ⟨h0,h1,h2⟩
 dsimp only at h0 h1 h2 ⊢
 subst h2
 refine xi (λhi=> ?_) λhi=>fN (by rw [List.take_of_length_le (by omega)])
 obtain ⟨j,rfl⟩: ∃ j:Nat,i=j:=⟨i.toNat,by omega⟩
 have hj:j < rows.length:=by omega
 have hZ:=vb (rows.take j) h λx hx=>hr x (List.mem_of_mem_take hx)
 rw [List.length_take] at hZ
 rw [dB rows j hj,Option.bind_some]
 have:=add_one (by omega) hZ (hr rows[j] (List.getElem_mem hj))
 rw [show ((j:Int)).toNat=j from rfl]
 rw [this,Option.bind_some,w64 (by omega) (by omega)]
 refine fN ⟨⟨by dsimp only; omega,by dsimp only; omega,?_⟩,by dsimp only; omega⟩
 dsimp only
 rw [show ((j:Int)+1).toNat=j+1 by omega,List.take_add_one,List.getElem?_eq_getElem hj,Option.toList_some,List.foldl_append]
 rfl
end Go.Tw.X

import Derived.Test.YtgiokjfkjaoeiaaGreatDoorXp1
import Derived.Test.YtgiokjfkjaoeiaaGreatDoorFw2
import Derived.Laws.BitsLemmas
import Derived.Laws.Strings
set_option linter.unusedVariables false
set_option linter.unusedSimpArgs false
namespace Go.Tw.X
open Go Go.Tw
def tc (c:aG):aR:=⟨c.rune,c.aM,c.part⟩
def told (r:aE):aW:=⟨r.cells.map tc,r.wrapped⟩
def IE (r:List aG):Int:=match r with
 | []=>0
 | d::_=>d.part
def Ab (p:Int) (c:aG) (r:List aG):Bool :=
 bif c.part == 1 then (IE r != 2) else bif c.part == 2 then (p != 1) else bif c.part == 3 then !r.isEmpty else false
def wT (p:Int) (c:aG) (r:List aG):aG:=bif Ab p c r then ⟨32,c.aM,0⟩ else c
def jL:Int->List aG->List aG
 | _,[]=>[]
 | p,c::r=>wT p c r::jL (wT p c r).part r
theorem lP: ∀ (l:List aG) (p:Int),(jL p l).length=l.length
 | [],_=>rfl
 | c::r,p=>by simp [jL,lP r]
def nC (l:List aG):Int:=uH 0 (l.map (·.part))
theorem yY (l:List aG) (c:aG):nC (l++[c])=c.part:=by simp [nC,yX]
theorem wU {α β:Type} (f:α->β) (d:α): ∀ l:List α,uH (f d) (l.map f)=f (uH d l)
 | []=>rfl
 | [x]=>rfl
 | _::y::l=>wU f d (y::l)
theorem s7 (s:Int):jv s=some ⟨32,s,0⟩:=rfl
theorem G2 (l r:List aG) (c:aG) (h:(l++c::r).length<=1000000):mK (l++c::r) (l.length:Int)=some (Ab (nC l) c r):=by
 have hl:(l++c::r).length=l.length+r.length+1:=by simp; omega
 unfold mK
 rw [mI,aA]
 rw [w64 (x:=(l.length:Int)+1) (by omega) (by omega),w64 (x:=(l.length:Int) - 1) (by omega) (by omega),w64 (x:=((l++c::r).length:Int) - 1) (by omega) (by omega),Cw,hl]
 unfold Ab
 cases h1:(c.part == 1) with
 | true =>
  simp only [cond_true]
  cases r with
  | nil=>simp [IE]
  | cons d r =>
   have hd:decide ((l.length:Int)+1>=((l.length+(d::r).length+1:Nat):Int))=false:=decide_eq_false (by simp only [List.length_cons]; omega)
   rw [hd]
   simp [IE]
 | false =>
  simp only [cond_false]
  cases h2:(c.part == 2) with
  | true =>
   simp only [cond_true]
   cases hl0:l with
   | nil=>simp [nC,uH]
   | cons a t =>
    have hne:(((a::t).length:Int) == 0)=false:=by simp; omega
    rw [hne,cond_false,Cv (a::t) r ⟨0,0,0⟩ c (by simp)]
    simp only [aA]
    rw [nC,<- wU (λc:aG=>c.part) ⟨0,0,0⟩]
  | false =>
   simp only [cond_false]
   cases h3:(c.part == 3) with
   | true =>
    simp only [cond_true]
    cases r with
    | nil=>simp
    | cons d r=>simp; omega
   | false=>rfl
theorem ph (l:List aG) (h:l.length<=1000000):fN l=some ⟨jL 0 l,false⟩:=by
 unfold fN
 have key: ∀ (r d:List aG),(d++r).length=l.length->iter (σ:=(List aG)×Int) (ρ:=(List aG)) (λs=>(bif (decide (s.2 < (l.length:Int))) then (Option.bind ((Option.bind (mK s.1 s.2) λr1=>(bif r1 then (Option.bind (idx s.1 s.2) λx=>(Option.bind (jv x.aM) λr2=>(Option.bind (idx s.1 s.2) λ_=>some (s.1.set s.2.toNat r2)))) else some s.1)):Option (List aG)) λe=>some (.inl (e,(IntKind.i64.wrap (s.2+1))))) else some (.inr s.1))) (d++r,(d.length:Int))=some (d++jL (nC d) r):=by
  intro r
  induction r with
  | nil =>
   intro d hd
   simp at hd
   rw [cP (r:=d)]
   ·simp [jL]
   ·simp [hd]
  | cons c r ih =>
   intro d hd
   have hdl:d.length < l.length:=by rw [<- hd]; simp
   have hlen:(d++wT (nC d) c r::r).length=l.length:=by rw [<- hd]; simp
   rw [dS (s':=((d++[wT (nC d) c r])++r,((d++[wT (nC d) c r]).length:Int)))]
   ·rw [ih (d++[wT (nC d) c r]) (by simpa using hlen),yY]
    simp [jL]
   ·have hc:decide ((d.length:Int) < (l.length:Int))=true:=by simp; omega
    simp only [hc,cond_true]
    rw [G2 d r c (by rw [hd]; exact h),mI]
    simp only [aA,s7]
    rw [w64 (by omega) (by omega)]
    unfold wT
    cases Ab (nC d) c r with
    | true=>simp
    | false=>simp
 have:=key l [] (by simp)
 simp only [List.nil_append,List.length_nil,Int.ofNat_zero] at this
 rw [this]
 rfl
theorem IF (n:Int):IntKind.u64.wrap n=n % 18446744073709551616:=by simp [IntKind.wrap,IntKind.bits,IntKind.signed]
theorem Lo (n:Int) (h0:0<=n) (h1:n < 2 ^ 63):IntKind.u64.wrap n=n:=by rw [IF]; omega
theorem Em (y:Int) (h0:0<=y) (h1:y < 4294967296):Go.bits .and .u64 y 4294967295=y:=by
 have h:=bits_mask .u64 63 (by decide) Lo 32 (by decide) y h0 (by omega)
 have e:((2:Int) ^ 32 - 1)=4294967295:=by decide
 have e2:((2:Int) ^ 32)=4294967296:=by decide
 rw [e,e2] at h
 rw [h]
 omega
theorem IG {x:Int} (h0:0<=x) (h1:x < 18446744073709551616):IntKind.u64.wrap x=x:=by rw [IF]; omega
theorem En (n:Int) (h0:0<=n) (h1:n<=1000000):pB 1 n=some (0,n):=by
 have e32:(2:Int) ^ (min 32 64)=4294967296:=by decide
 have f1:Int.fdiv 1 4294967296=0:=by decide
 have f2:Int.fdiv n 4294967296=0:=by rw [Int.fdiv_eq_ediv_of_nonneg _ (by decide)]; omega
 have f0:Int.fdiv 0 4294967296=0:=by decide
 have z0:IntKind.u64.wrap 0=0:=by rw [IF]; rfl
 have m0:Go.bits .and .u64 0 4294967295=0:=Em 0 (by omega) (by omega)
 have m1:Go.bits .and .u64 1 4294967295=1:=Em 1 (by omega) (by omega)
 have mn:=Em n h0 (by omega)
 have un:IntKind.u64.wrap n=n:=IG h0 (by omega)
 unfold pB pc
 simp only [e32,f1,f2,m1,mn,Int.zero_mul,Int.mul_zero,Int.one_mul,z0,un,f0,Int.add_zero,Int.zero_add,m0,aA]
theorem Az (c:aG) (n:Int) (h0:0<=n) (h1:n<=1000000):eJ [c] n=some (List.replicate n.toNat c):=by
 unfold eJ
 have hn:decide (n < 0)=false:=decide_eq_false (by omega)
 have u1:IntKind.u64.wrap (([c].length:Nat):Int)=1:=IG (by simp) (by simp)
 rw [hn,cond_false,u1,IG h0 (by omega),En n h0 h1]
 simp only [aA]
 have g1:decide ((0:Int) > 0)=false:=by decide
 have g2:decide (n > 9223372036854775807)=false:=decide_eq_false (by omega)
 rw [g1,cond_false,aA,g2,cond_false,w64 (by omega) (by omega),Ax h0 (by omega) (by omega),aA]
 obtain ⟨k,rfl⟩: ∃ k:Nat,n=k:=⟨n.toNat,by omega⟩
 simp only [Int.toNat_natCast,List.length_cons,List.length_nil,List.length_replicate]
 have key: ∀ m j,k - j=m->j<=k->(1<=j\/k=0)->iter (σ:=(List aG)×Int) (ρ:=(List aG)) (λa=>(bif (decide (a.2 < (a.1.length:Int))) then (Option.bind (chk (dE a.2 (a.1.length:Int) a.1.length)) λ_=>(Option.bind (chk (dE 0 a.2 a.1.length)) λ_=>some (.inl ((Aa a.1 a.2.toNat),(IntKind.i64.wrap (a.2+((Nat.min a.2.toNat (a.1.length - a.2.toNat):Nat):Int))))))) else some (.inr a.1))) (List.replicate j c++List.replicate (k - j) (aG.mk 0 0 0),(j:Int))=some (List.replicate k c):=by
  intro m
  induction m using Nat.strongRecOn with
  | _ m ih =>
   intro j hm hj h1j
   have hlen:(List.replicate j c++List.replicate (k - j) (aG.mk 0 0 0)).length=k:=by simp; omega
   by_cases hjk:j < k
   ·have hmin:Nat.min j (k - j)=min j (k - j):=rfl
    rw [dS (s':=(List.replicate (j+min j (k - j)) c++List.replicate (k - (j+min j (k - j))) (aG.mk 0 0 0),((j+min j (k - j):Nat):Int)))]
    ·exact ih (k - (j+min j (k - j))) (by omega) _ rfl (by omega) (by omega)
    ·have hc:decide ((j:Int) < ((List.replicate j c++List.replicate (k - j) (aG.mk 0 0 0)).length:Int))=true:=by rw [hlen]; simp; omega
     simp only [hc,cond_true]
     rw [hlen,bP (by omega) (by omega) (by omega),aA,bP (by omega) (by omega) (by omega),aA,Int.toNat_natCast,hmin,w64 (by omega) (by omega)]
     congr 2
     refine Prod.ext ?_ ?_
     ·show Aa _ _=_
      unfold Aa
      rw [hlen]
      have t1:(List.replicate j c++List.replicate (k - j) (aG.mk 0 0 0)).take j=List.replicate j c:=by rw [List.take_left']; simp
      rw [t1,List.take_replicate,List.drop_append,List.drop_of_length_le (by simp),List.nil_append,List.length_replicate,List.drop_replicate,List.replicate_append_replicate,Nat.min_comm (k - j) j]
      congr 2
      omega
     ·show ((j:Int)+((min j (k - j):Nat):Int))=_
      omega
   ·have hjk':j=k:=by omega
    subst hjk'
    rw [cP (r:=List.replicate j c)]
    simp
 have hs:cpy (List.replicate k (aG.mk 0 0 0)) [c]=List.replicate (min 1 k) c++List.replicate (k - min 1 k) (aG.mk 0 0 0):=by
  unfold cpy
  cases k with
  | zero=>simp
  | succ k=>simp [Nat.min_eq_left]
 have hmin:Nat.min (0+1) k=min 1 k:=rfl
 rw [hs,hmin,key _ (min 1 k) rfl (by omega) (by omega),aA]
theorem tP (n s:Int) (h:n<=1000000):kH n s=some (List.replicate n.toNat ⟨32,s,0⟩):=by
 unfold kH
 rw [s7,aA]
 rw [gN,Az _ (max 0 n) (by omega) (by omega),aA]
 have:(max 0 n).toNat=n.toNat:=by omega
 rw [this]
theorem tQ (n lo hi:Int):kZ n lo hi=some (max lo (min n hi)):=by
 unfold kZ
 rw [gN,dP]
theorem yZ (l:List aG) (h:l.length<=1000000):eT l=some l:=by
 unfold eT
 rw [bL (by simp; omega),aA]
 rfl
theorem qK (r:aE) (h:r.cells.length<=1000000):fR r=some r.cells:=by
 unfold fR
 rw [yZ _ h,aA]
def cZ (l:List aG) (at_ n:Int):Int:=if at_ < 0\/at_>=l.length then 0 else max 0 (min n (l.length - at_))
theorem AA (r:aE) (at_ n:Int) (h:r.cells.length<=1000000) (ha: -9223372036854775808<=at_) (hb:at_<=9223372036854775807):kc r at_ n=some (cZ r.cells at_ n):=by
 unfold kc cZ
 by_cases h1:at_ < 0
 ·rw [if_pos (.inl h1)]
  simp [h1]
 ·by_cases h2:at_>=r.cells.length
  ·rw [if_pos (.inr h2)]
   simp [h1,h2]
  ·rw [if_neg (by omega)]
   have e1:decide (at_ < 0)=false:=decide_eq_false h1
   have e2:decide (at_>=(r.cells.length:Int))=false:=decide_eq_false h2
   rw [e1,cond_false,e2,aA,cond_false,w64 (by omega) (by omega),tQ,aA]
def uo (r:Int):List ju->Nat
 | []=>0
 | s::l=>if s.to < r then uo r l+1 else 0
def inS (l:List ju) (r:Int):Bool:=l.any λs=>decide (s.from_<=r/\r<=s.to)
def rising:List ju->Bool
 | []=>true
 | [s]=>true
 | s::t::l=>decide (s.to < t.from_/\t.from_<=t.to) && rising (t::l)
theorem Bq (r:Int): ∀ l:List ju,uo r l<=l.length
 | []=>Nat.le_refl _
 | s::l=>by
  unfold uo
  have:=Bq r l
  split <;> simp <;> omega
theorem xO {s:ju} {l:List ju} (h:rising (s::l)=true):rising l=true:=by
 cases l with
 | nil=>rfl
 | cons t l=>simp only [rising,Bool.and_eq_true] at h; exact h.2
theorem u0 {s:ju}: ∀ {l:List ju},rising (s::l)=true -> ∀ t∈l,s.to < t.from_/\t.from_<=t.to
 | [],_,t,ht=>by cases ht
 | u::l,h,t,ht=>by
  simp only [rising,Bool.and_eq_true,decide_eq_true_eq] at h
  rcases List.mem_cons.1 ht with rfl | ht
  ·exact h.1
  ·have:=u0 h.2 t ht
   have:=h.1
   omega
theorem FL (r:Int): ∀ {l:List ju},rising l=true -> ∀ (i:Nat) (s:ju),l[i]?=some s->(s.to < r↔i < uo r l)
 | [],_,i,s,h=>by simp at h
 | u::l,hr,i,s,h=>by
  cases i with
  | zero =>
   simp at h
   subst h
   unfold uo
   split <;> simp [*]
  | succ i =>
   simp at h
   have ih:=FL r (xO hr) i s h
   unfold uo
   split
   ·rw [ih]; omega
   ·have:=u0 hr s (List.mem_of_getElem? h)
    constructor
    ·intro; omega
    ·intro; omega
theorem FM (r:Int): ∀ {l:List ju},rising l=true->inS l r=(match l[uo r l]? with | some s=>decide (s.from_<=r) | none=>false)
 | [],_=>rfl
 | u::l,hr=>by
  have ih:=FM r (xO hr)
  unfold inS at ih ⊢
  unfold uo
  by_cases hu:u.to < r
  ·rw [if_pos hu,List.any_cons,ih]
   have:decide (u.from_<=r/\r<=u.to)=false:=by simp; omega
   simp [this]
  ·rw [if_neg hu,List.any_cons]
   simp only [List.getElem?_cons_zero]
   by_cases hf:u.from_<=r
   ·have:decide (u.from_<=r/\r<=u.to)=true:=by simp; omega
    rw [this,Bool.true_or]
    simp [hf]
   ·have h1:decide (u.from_<=r/\r<=u.to)=false:=by simp; omega
    have h2:(l.any λs=>decide (s.from_<=r/\r<=s.to))=false:=by
     rw [List.any_eq_false]
     intro t ht
     have:=u0 hr t ht
     simp
     omega
    rw [h1,h2]
    simp [hf]
theorem Nq (l:List ju) (r:Int) (hr:rising l=true) (hl:l.length<=1000000):pw l r=some (inS l r):=by
 unfold pw
 have key: ∀ m lo hi,hi - lo=m->lo<=uo r l->uo r l<=hi->hi<=l.length->iter (σ:=Int×Int) (ρ:=Int) (λa=>(bif (decide (a.1 < a.2)) then (Option.bind (idx l (IntKind.i64.wrap ((IntKind.i64.wrap (a.1+a.2)).tdiv 2))) λb=>(bif (decide (b.to < r)) then some (.inl ((IntKind.i64.wrap ((IntKind.i64.wrap ((IntKind.i64.wrap (a.1+a.2)).tdiv 2))+1)),a.2)) else some (.inl (a.1,(IntKind.i64.wrap ((IntKind.i64.wrap (a.1+a.2)).tdiv 2)))))) else some (.inr a.1))) ((lo:Int),(hi:Int))=some ((uo r l:Nat):Int):=by
  intro m
  induction m using Nat.strongRecOn with
  | _ m ih =>
   intro lo hi hm h1 h2 h3
   by_cases hlt:lo < hi
   ·have e:(IntKind.i64.wrap ((IntKind.i64.wrap ((lo:Int)+(hi:Int))).tdiv 2))=(((lo+hi) / 2:Nat):Int):=by
     rw [w64 (x:=(lo:Int)+(hi:Int)) (by omega) (by omega)]
     have e1:((lo:Int)+(hi:Int)).tdiv 2=(((lo+hi) / 2:Nat):Int):=by
      rw [Int.tdiv_eq_ediv_of_nonneg (by omega)]
      omega
     rw [e1,w64 (by omega) (by omega)]
    have hmid:(lo+hi) / 2 < l.length:=by omega
    have hc:decide ((lo:Int) < (hi:Int))=true:=by simp; omega
    have hx:idx l (((lo+hi) / 2:Nat):Int)=some l[(lo+hi) / 2]:=by rw [fZ]; simp [hmid]
    have hat:=FL r hr ((lo+hi) / 2) l[(lo+hi) / 2] (by simp [hmid])
    by_cases hto:(l[(lo+hi) / 2]).to < r
    ·rw [dS (s':=((((lo+hi) / 2+1:Nat):Int),(hi:Int)))]
     ·have:=hat.1 hto
      exact ih (hi - ((lo+hi) / 2+1)) (by omega) _ _ rfl (by omega) h2 h3
     ·simp only [hc,cond_true,e,hx,aA,hto,decide_true]
      rw [w64 (by omega) (by omega)]
      rfl
    ·rw [dS (s':=((lo:Int),(((lo+hi) / 2:Nat):Int)))]
     ·have: ¬ (lo+hi) / 2 < uo r l:=λh=>hto (hat.2 h)
      exact ih ((lo+hi) / 2 - lo) (by omega) _ _ rfl h1 (by omega) (by omega)
     ·simp only [hc,cond_true,e,hx,aA,hto,decide_false,cond_false]
   ·have:lo=uo r l:=by omega
    rw [cP (r:=(lo:Int)),this]
    have hc:decide ((lo:Int) < (hi:Int))=false:=by simp; omega
    simp only [hc,cond_false]
 have h0:=key (l.length - 0) 0 l.length rfl (Nat.zero_le _) (Bq r l) (Nat.le_refl _)
 have e0:((0:Nat):Int)=0:=rfl
 rw [e0] at h0
 rw [h0,aA,FM r hr]
 have hle:=Bq r l
 by_cases hlt:uo r l < l.length
 ·have hc:decide (((uo r l:Nat):Int) < (l.length:Int))=true:=by simp; omega
  rw [hc,cond_true,fZ,List.getElem?_eq_getElem hlt]
  rfl
 ·have hc:decide (((uo r l:Nat):Int) < (l.length:Int))=false:=by simp; omega
  rw [hc,cond_false,List.getElem?_eq_none (by omega)]
  rfl
def ofS (r:Int):Int:=if inS dC r then 0 else if inS dK r then 2 else 1
theorem of_eq (r:Int):px r=some (ofS r):=by
 unfold px
 rw [Nq dC r (by decide) (by decide),Nq dK r (by decide) (by decide)]
 simp only [aA,ofS]
 cases inS dC r <;> cases inS dK r <;> rfl
theorem qL (r:Int):ofS r=0\/ofS r=1\/ofS r=2:=by
 unfold ofS
 split
 ·exact .inl rfl
 ·split
  ·exact .inr (.inr rfl)
  ·exact .inr (.inl rfl)
theorem Lp (n:Int) (h0:0<=n) (h1:n<=1000000):iD n=some []:=by
 unfold iD
 have hn:decide (n < 0)=false:=decide_eq_false (by omega)
 have z:IntKind.i64.wrap (0 - 0)=0:=by decide
 rw [hn,cond_false,z,w64 (by omega) (by omega),Int.sub_zero]
 by_cases hp:n > 0
 ·have:decide (n > 0)=true:=decide_eq_true hp
  rw [this,cond_true,G1 hp (by omega) (by omega),aA,bP (by omega) (by omega) (by omega),aA]
  rfl
 ·have:decide (n > 0)=false:=decide_eq_false hp
  rw [this,cond_false]
  rfl
def total:List (List aG)->Nat
 | []=>0
 | x::r=>x.length+total r
theorem rJ (a b:List (List aG)):total (a++b)=total a+total b:=by
 induction a with
 | nil=>simp [total]
 | cons x a ih=>simp only [List.cons_append,total,ih]; omega
theorem y3 (a:List (List aG)):a.flatten.length=total a:=by
 induction a with
 | nil=>rfl
 | cons x a ih=>simp only [List.flatten_cons,List.length_append,total,ih]
theorem AB (ls:List (List aG)) (h:total ls<=1000000) (h2:ls.length<=1000000):fI ls=some ls.flatten:=by
 unfold fI
 have k1: ∀ (r d:List (List aG)),d++r=ls->iter (σ:=Int×Int) (ρ:=Int) (λa=>(bif (decide (a.1 < (ls.length:Int))) then (Option.bind (idx ls a.1) λc=>(bif (decide ((IntKind.i64.wrap (a.2+(c.length:Int))) < 0)) then none else some (.inl ((IntKind.i64.wrap (a.1+1)),(IntKind.i64.wrap (a.2+(c.length:Int))))))) else some (.inr a.2))) ((d.length:Int),(total d:Int))=some (total ls:Int):=by
  intro r
  induction r with
  | nil =>
   intro d hd
   simp at hd
   subst hd
   rw [cP (r:=(total d:Int))]
   simp
  | cons x r ih =>
   intro d hd
   have hl:ls.length=d.length+r.length+1:=by rw [<- hd]; simp; omega
   have ht:total ls=total d+(x.length+total r):=by rw [<- hd,rJ]; rfl
   rw [dS (s':=(((d++[x]).length:Int),(total (d++[x]):Int)))]
   ·exact ih (d++[x]) (by simpa using hd)
   ·have hc:decide ((d.length:Int) < (ls.length:Int))=true:=by simp; omega
    have hx:idx ls (d.length:Int)=some x:=by rw [<- hd]; exact mI d r x
    simp only [hc,cond_true,hx,aA]
    rw [w64 (by omega) (by omega),w64 (by omega) (by omega)]
    have hp:decide ((total d:Int)+(x.length:Int) < 0)=false:=decide_eq_false (by omega)
    rw [hp,cond_false,rJ]
    simp [total]
 have k2: ∀ (r d:List (List aG)),d++r=ls->iter (σ:=Int×(List aG)) (ρ:=(List aG)) (λb=>(bif (decide (b.1 < (ls.length:Int))) then (Option.bind (idx ls b.1) λe=>(Option.bind (chk (eI b.2.length e.length 24)) λ_=>some (.inl ((IntKind.i64.wrap (b.1+1)),(b.2++e))))) else some (.inr b.2))) ((d.length:Int),d.flatten)=some ls.flatten:=by
  intro r
  induction r with
  | nil =>
   intro d hd
   simp at hd
   subst hd
   rw [cP (r:=d.flatten)]
   simp
  | cons x r ih =>
   intro d hd
   have hl:ls.length=d.length+r.length+1:=by rw [<- hd]; simp; omega
   have ht:total ls=total d+(x.length+total r):=by rw [<- hd,rJ]; rfl
   rw [dS (s':=(((d++[x]).length:Int),(d++[x]).flatten))]
   ·exact ih (d++[x]) (by simpa using hd)
   ·have hc:decide ((d.length:Int) < (ls.length:Int))=true:=by simp; omega
    have hx:idx ls (d.length:Int)=some x:=by rw [<- hd]; exact mI d r x
    simp only [hc,cond_true,hx,aA]
    rw [w64 (by omega) (by omega),bL (by rw [y3]; omega),aA]
    simp
 have h0:=k1 ls [] rfl
 have h3:=k2 ls [] rfl
 have e0:((([]:List (List aG)).length:Nat):Int)=0:=rfl
 have e1:((total []:Nat):Int)=0:=rfl
 rw [e0,e1] at h0
 rw [e0,List.flatten_nil] at h3
 rw [h0,aA,Lp _ (by omega) (by omega),aA,h3,aA]
def blk (s:Int):aG:=⟨32,s,0⟩
def Ep (l1:List aG) (at_:Int):List aG :=
 match (if at_ > 0 then l1[at_.toNat - 1]? else none) with
  | some c=>if c.part=1 then l1.set (at_.toNat - 1) (blk c.aM) else l1
  | none=>l1
theorem Cx (l:List aG) (at_:Int):(Ep l at_).length=l.length:=by
 unfold Ep
 split
 ·split <;> simp
 ·rfl
def wV (l:List aG) (at_ x s:Int):List aG :=
 if ofS x=0\/at_ < 0\/at_ > l.length - ofS x then l
 else if ofS x=1 then l.set at_.toNat ⟨x,s,0⟩
 else Ep ((l.set at_.toNat ⟨x,s,1⟩).set (at_.toNat+1) ⟨x,s,2⟩) at_
theorem xP (l:List aG) (at_ x s:Int):(wV l at_ x s).length=l.length:=by
 unfold wV
 split
 ·rfl
 ·split
  ·simp
  ·simp [Cx]
theorem put_eq (r:aE) (at_ x s:Int) (h:r.cells.length<=1000000) (ha: -9223372036854775808<=at_) (hb:at_<=9223372036854775807):mV r at_ x s=some ⟨jL 0 (wV r.cells at_ x s),false⟩:=by
 unfold mV
 rw [qK r h,aA,of_eq,aA]
 have h3:=qL x
 have fin: ∀ l:List aG,l.length=r.cells.length->(Option.bind (fN l) λa=>some a)=some ⟨jL 0 l,false⟩:=λl hl=>by rw [ph l (by omega),aA]
 rw [w64 (x:=(r.cells.length:Int) - ofS x) (by omega) (by omega)]
 by_cases hc:ofS x=0\/at_ < 0\/at_ > r.cells.length - ofS x
 ·have hb2:((bif (ofS x == 0) then some true else (bif (decide (at_ < 0)) then some true else some (decide (at_ > ((r.cells.length:Int) - ofS x))))):Option Bool)=some true:=by
   rcases hc with hc | hc | hc
   ·simp [hc]
   ·cases h0:(ofS x == 0) <;> simp [hc]
   ·cases h0:(ofS x == 0) <;> cases h1:decide (at_ < 0) <;> simp [hc]
  rw [hb2,aA,cond_true,aA]
  unfold wV
  rw [if_pos hc]
  exact fin _ rfl
 ·have hb2:((bif (ofS x == 0) then some true else (bif (decide (at_ < 0)) then some true else some (decide (at_ > ((r.cells.length:Int) - ofS x))))):Option Bool)=some false:=by
   have e0:(ofS x == 0)=false:=by simp; omega
   have e1:decide (at_ < 0)=false:=decide_eq_false (by omega)
   rw [e0,cond_false,e1,cond_false]
   simp
   omega
  rw [hb2,aA,cond_false]
  obtain ⟨k,rfl⟩: ∃ k:Nat,at_=k:=⟨at_.toNat,by omega⟩
  unfold wV
  rw [if_neg hc]
  by_cases h1:ofS x=1
  ·have e1:(ofS x == 1)=true:=by simp [h1]
   have hk:k < r.cells.length:=by omega
   rw [e1,cond_true,fZ,List.getElem?_eq_getElem hk,aA,aA,if_pos h1,Int.toNat_natCast]
   exact fin _ (by simp)
  ·have e1:(ofS x == 1)=false:=by simp [h1]
   have h2:ofS x=2:=by omega
   have hk:k+1 < r.cells.length:=by omega
   have ew:IntKind.i64.wrap ((k:Int)+1)=((k+1:Nat):Int):=by rw [w64 (by omega) (by omega)]; omega
   rw [e1,cond_false,fZ,List.getElem?_eq_getElem (by omega:k < r.cells.length),aA,ew,fZ,if_neg h1,Int.toNat_natCast,Int.toNat_natCast,List.getElem?_eq_getElem (by simp; omega),aA]
   generalize hl1:(r.cells.set k ⟨x,s,1⟩).set (k+1) ⟨x,s,2⟩=l1
   have hlen:l1.length=r.cells.length:=by rw [<- hl1]; simp
   unfold Ep
   rw [show ((k:Int)).toNat=k from Int.toNat_natCast k]
   by_cases h0:(k:Int) > 0
   ·have e2:decide ((k:Int) > 0)=true:=decide_eq_true h0
    have em:IntKind.i64.wrap ((k:Int) - 1)=((k - 1:Nat):Int):=by rw [w64 (by omega) (by omega)]; omega
    have hk1:k - 1 < l1.length:=by omega
    rw [e2,cond_true,em,fZ,Int.toNat_natCast,if_pos h0,List.getElem?_eq_getElem hk1,aA,aA]
    by_cases hp:(l1[k - 1]).part=1
    ·have e3:((l1[k - 1]).part == 1)=true:=by simp [hp]
     rw [e3,cond_true]
     simp only [aA,s7,if_pos hp,Int.toNat_natCast]
     exact fin _ (by simpa using hlen)
    ·have e3:((l1[k - 1]).part == 1)=false:=by simp [hp]
     rw [e3,cond_false,aA]
     simp only [if_neg hp]
     exact fin _ hlen
   ·have e2:decide ((k:Int) > 0)=false:=decide_eq_false h0
    rw [e2,cond_false,if_neg h0,aA,cond_false,aA]
    exact fin _ hlen
def lQ (a b s:Int):Int->List aG->List aG
 | _,[]=>[]
 | i,c::r=>(if a<=i/\i < b then blk s else c)::lQ a b s (i+1) r
theorem mZ (a b s:Int): ∀ (l:List aG) (i:Int),(lQ a b s i l).length=l.length
 | [],_=>rfl
 | c::r,i=>by simp [lQ,mZ a b s r]
theorem ow (a b s:Int): ∀ (l:List aG) (i:Int) (j:Nat),(lQ a b s i l)[j]?=(l[j]?).map λc=>if a<=i+j/\i+j < b then blk s else c
 | [],_,_=>by simp [lQ]
 | c::r,i,0=>by simp [lQ]
 | c::r,i,j+1=>by
  have:=ow a b s r (i+1) j
  simp only [lQ,List.getElem?_cons_succ,this]
  have e:i+1+(j:Int)=i+((j+1:Nat):Int):=by omega
  rw [e]
theorem erase_eq (r:aE) (a b s:Int) (h:r.cells.length<=1000000):kC r a b s=some ⟨jL 0 (lQ a b s 0 r.cells),false⟩:=by
 unfold kC
 rw [qK r h,aA,tQ,aA]
 generalize hA:max 0 (min a (r.cells.length:Int))=A
 generalize hB:max 0 (min b (r.cells.length:Int))=B
 have key: ∀ m (i:Nat) (l:List aG),B.toNat - i=m->l.length=r.cells.length->iter (σ:=Int×(List aG)) (ρ:=(List aG)) (λd=>(Option.bind (kZ b 0 (d.2.length:Int)) λe=>(bif (decide (d.1 < e)) then (Option.bind (jv s) λf=>(Option.bind (idx d.2 d.1) λg=>some (.inl ((IntKind.i64.wrap (d.1+1)),(d.2.set d.1.toNat f))))) else some (.inr d.2)))) ((i:Int),l)=some (lQ i B s 0 l):=by
  intro m
  induction m with
  | zero =>
   intro i l hm hl
   rw [cP (r:=l)]
   ·congr 1
    apply List.ext_getElem?
    intro j
    rw [ow]
    cases hj:l[j]? with
    | none=>rfl
    | some c =>
     simp
     intro h1 h2
     omega
   ·simp only [tQ,aA,hl,hB]
    have:decide ((i:Int) < B)=false:=decide_eq_false (by omega)
    rw [this,cond_false]
  | succ m ih =>
   intro i l hm hl
   have hi:i < l.length:=by omega
   rw [dS (s':=(((i+1:Nat):Int),l.set i (blk s)))]
   ·rw [ih (i+1) (l.set i (blk s)) (by omega) (by simpa using hl)]
    congr 1
    apply List.ext_getElem?
    intro j
    rw [ow,ow,List.getElem?_set]
    by_cases hij:i=j
    ·subst hij
     rw [if_pos rfl,if_pos hi,List.getElem?_eq_getElem hi]
     simp
     omega
    ·rw [if_neg hij]
     cases hj:l[j]? with
     | none=>rfl
     | some c =>
      simp only [Option.map_some,Option.some.injEq]
      by_cases h1:(i:Int)<=0+(j:Int)/\0+(j:Int) < B
      ·rw [if_pos h1,if_pos (by omega)]
      ·rw [if_neg h1,if_neg (by omega)]
   ·simp only [tQ,aA,hl,hB]
    have:decide ((i:Int) < B)=true:=decide_eq_true (by omega)
    rw [this,cond_true,fZ,List.getElem?_eq_getElem hi,w64 (by omega) (by omega)]
    rfl
 obtain ⟨k,hk⟩: ∃ k:Nat,A=k:=⟨A.toNat,by omega⟩
 rw [hk,key _ k r.cells rfl rfl,aA,ph _ (by rw [mZ]; exact h),aA]
 congr 2
 congr 1
 apply List.ext_getElem?
 intro j
 rw [ow,ow]
 cases hj:r.cells[j]? with
 | none=>rfl
 | some c =>
  have hjl:=(List.getElem?_eq_some_iff.1 hj).1
  simp only [Option.map_some,Option.some.injEq]
  by_cases h1:a<=0+(j:Int)/\0+(j:Int) < b
  ·rw [if_pos h1,if_pos (by omega)]
  ·rw [if_neg h1,if_neg (by omega)]
def oD (l:List aG) (k n:Nat) (s:Int):List aG:=(l.take k++List.replicate n (blk s)++l.drop k).take l.length
def pj (l:List aG) (k n:Nat) (s:Int):List aG:=l.take k++l.drop (k+n)++List.replicate n (blk s)
def qd (l:List aG) (s:Int):List aG:=l.set (l.length - 1) ⟨32,s,3⟩
theorem insert_eq (r:aE) (at_ n s:Int) (h:r.cells.length<=1000) (ha: -9223372036854775808<=at_) (hb:at_<=9223372036854775807):lu r at_ n s=some ⟨jL 0 (if cZ r.cells at_ n=0 then r.cells else oD r.cells at_.toNat (cZ r.cells at_ n).toNat s),false⟩:=by
 unfold lu
 rw [AA r at_ n (by omega) ha hb,aA]
 by_cases h0:cZ r.cells at_ n=0
 ·have e:(cZ r.cells at_ n == 0)=true:=by simp [h0]
  rw [e,cond_true,qK r (by omega),aA,ph _ (by omega),aA,if_pos h0]
 ·have e:(cZ r.cells at_ n == 0)=false:=by simp [h0]
  rw [e,cond_false,if_neg h0]
  have hw:cZ r.cells at_ n=max 0 (min n (r.cells.length - at_))/\0<=at_/\at_ < r.cells.length:=by
   unfold cZ at h0 ⊢
   by_cases hc:at_ < 0\/at_>=r.cells.length
   ·rw [if_pos hc] at h0; exact absurd rfl h0
   ·rw [if_neg hc]; exact ⟨rfl,by omega,by omega⟩
  obtain ⟨hw,h1,h2⟩:=hw
  generalize cZ r.cells at_ n=w at hw h0
  obtain ⟨k,rfl⟩: ∃ k:Nat,at_=k:=⟨at_.toNat,by omega⟩
  obtain ⟨m,rfl⟩: ∃ m:Nat,w=m:=⟨w.toNat,by omega⟩
  have c1:cut r.cells 0 (k:Int)=r.cells.take k:=by simp [cut]
  have c2:cut r.cells (k:Int) (r.cells.length:Int)=r.cells.drop k:=by simp [cut]
  rw [bP (by omega) (by omega) (by omega),aA,bP (by omega) (by omega) (by omega),aA,tP _ _ (by omega),aA,c1,c2,AB _ (by simp [total]; omega) (by simp),aA]
  have hl:([r.cells.take k,List.replicate (m:Int).toNat (blk s),r.cells.drop k].flatten).length=r.cells.length+m:=by simp; omega
  change (Option.bind (chk (dE 0 (r.cells.length:Int) (([r.cells.take k,List.replicate (m:Int).toNat (blk s),r.cells.drop k].flatten).length:Int))) _)=_
  rw [hl,bP (by omega) (by omega) (by omega),aA]
  have c3:cut ([r.cells.take k,List.replicate (m:Int).toNat (blk s),r.cells.drop k].flatten) 0 (r.cells.length:Int)=oD r.cells (k:Int).toNat (m:Int).toNat s:=by
   unfold cut oD
   simp
  change (Option.bind (fN (cut ([r.cells.take k,List.replicate (m:Int).toNat (blk s),r.cells.drop k].flatten) 0 (r.cells.length:Int))) _)=_
  rw [c3,ph _ (by unfold oD; simp; omega),aA]
theorem G3 (r:aE) (at_ n s:Int) (h:r.cells.length<=1000) (ha: -9223372036854775808<=at_) (hb:at_<=9223372036854775807):lx r at_ n s=some ⟨jL 0 (if cZ r.cells at_ n=0 then r.cells else pj r.cells at_.toNat (cZ r.cells at_ n).toNat s),false⟩:=by
 unfold lx
 rw [AA r at_ n (by omega) ha hb,aA]
 by_cases h0:cZ r.cells at_ n=0
 ·have e:(cZ r.cells at_ n == 0)=true:=by simp [h0]
  rw [e,cond_true,qK r (by omega),aA,ph _ (by omega),aA,if_pos h0]
 ·have e:(cZ r.cells at_ n == 0)=false:=by simp [h0]
  rw [e,cond_false,if_neg h0]
  have hw:cZ r.cells at_ n=max 0 (min n (r.cells.length - at_))/\0<=at_/\at_ < r.cells.length:=by
   unfold cZ at h0 ⊢
   by_cases hc:at_ < 0\/at_>=r.cells.length
   ·rw [if_pos hc] at h0; exact absurd rfl h0
   ·rw [if_neg hc]; exact ⟨rfl,by omega,by omega⟩
  obtain ⟨hw,h1,h2⟩:=hw
  generalize cZ r.cells at_ n=w at hw h0
  obtain ⟨k,rfl⟩: ∃ k:Nat,at_=k:=⟨at_.toNat,by omega⟩
  obtain ⟨m,rfl⟩: ∃ m:Nat,w=m:=⟨w.toNat,by omega⟩
  have c1:cut r.cells 0 (k:Int)=r.cells.take k:=by simp [cut]
  have c2:cut r.cells ((k+m:Nat):Int) (r.cells.length:Int)=r.cells.drop (k+m):=by
   unfold cut
   rw [Int.toNat_natCast,Int.toNat_natCast,List.take_length]
  have ek:((k:Int)+(m:Int))=((k+m:Nat):Int):=by omega
  have hkm:k+m<=r.cells.length:=by omega
  rw [w64 (by omega) (by omega),ek,bP (by omega) (by omega) (by omega),aA,bP (by omega) (by omega) (by omega),aA,tP _ _ (by omega),aA,c1,c2,AB _ (by simp [total]; omega) (by simp),aA]
  have c3:[r.cells.take k,r.cells.drop (k+m),List.replicate (m:Int).toNat (blk s)].flatten=pj r.cells (k:Int).toNat (m:Int).toNat s:=by
   unfold pj
   simp
  change (Option.bind (fN [r.cells.take k,r.cells.drop (k+m),List.replicate (m:Int).toNat (blk s)].flatten) _)=_
  rw [c3,ph _ (by unfold pj; simp; omega),aA]
theorem fill_eq (r:aE) (s:Int) (h:r.cells.length<=1000000):mz r s=some ⟨jL 0 (qd r.cells s),true⟩:=by
 unfold mz
 rw [qK r h,aA]
 by_cases h0:(r.cells.length:Int) > 0
 ·have e:decide ((r.cells.length:Int) > 0)=true:=decide_eq_true h0
  have ew:IntKind.i64.wrap ((r.cells.length:Int) - 1)=((r.cells.length - 1:Nat):Int):=by rw [w64 (by omega) (by omega)]; omega
  rw [e,cond_true,ew,fZ,List.getElem?_eq_getElem (by omega),aA,aA,Int.toNat_natCast]
  change (Option.bind (fN (qd r.cells s)) _)=_
  rw [ph _ (by simp [qd]; exact h),aA]
 ·have e:decide ((r.cells.length:Int) > 0)=false:=decide_eq_false h0
  have hn:r.cells=[]:=List.eq_nil_of_length_eq_zero (by omega)
  rw [e,cond_false,aA,ph _ h,aA]
  simp [qd,hn]
def oE (l:List aG) (w:Nat):List aG:=l.take w++List.replicate (w - l.length) (blk 0)
theorem G4 (r:aE) (w:Int) (h:r.cells.length<=1000000):kd r w=some (if (max 0 (min w 1000)).toNat=r.cells.length then r else ⟨jL 0 (oE r.cells (max 0 (min w 1000)).toNat),false⟩):=by
 unfold kd
 rw [tQ,aA,qK r h,aA]
 generalize hv:max 0 (min w 1000)=v
 obtain ⟨k,rfl⟩: ∃ k:Nat,v=k:=⟨v.toNat,by omega⟩
 rw [Int.toNat_natCast]
 by_cases h0:k=r.cells.length
 ·have e:((k:Int) == (r.cells.length:Int))=true:=by simp [h0]
  rw [e,cond_true,if_pos h0]
 ·have e:((k:Int) == (r.cells.length:Int))=false:=by simp; omega
  have ec:eO (k:Int) (r.cells.length:Int)=((min k r.cells.length:Nat):Int):=by rw [dP]; omega
  have c1:cut r.cells 0 ((min k r.cells.length:Nat):Int)=r.cells.take k:=by
   simp only [cut,Int.toNat_natCast,Int.toNat_zero,List.drop_zero]
   rw [<- List.take_take,List.take_length]
  rw [e,cond_false,if_neg h0,ec,w64 (by omega) (by omega),tP _ _ (by omega),aA,bP (by omega) (by omega) (by omega),aA,c1,bL (by simp; omega),aA]
  have c2:r.cells.take k++List.replicate ((k:Int) - (r.cells.length:Int)).toNat (blk 0)=oE r.cells k:=by
   unfold oE
   congr 2
   omega
  change (Option.bind (fN (r.cells.take k++List.replicate ((k:Int) - (r.cells.length:Int)).toNat (blk 0))) _)=_
  rw [c2,ph _ (by unfold oE; simp; omega),aA]
theorem Br (w s:Int):kI w s=some ⟨List.replicate (max 0 (min w 1000)).toNat (blk s),false⟩:=by
 unfold kI
 rw [tQ,aA,tP _ _ (by omega),aA]
 rfl
def ss:Nat->List aG->List aG
 | 0,l=>l
 | n+1,l=>if l.getLast?=some (blk 0) then ss n l.dropLast else l
def Nr (l:List aG):List aG:=ss l.length l
def isG (c:aG):Bool:=c.part == 0 || c.part == 1
def u3 (l:List aG):List aJ:=(l.filter isG).map λc=>⟨c.rune,c.aM⟩
def pD (r:aE):List aJ:=u3 (if r.wrapped then r.cells else Nr r.cells)
theorem xQ (l:List aG):(u3 l).length<=l.length:=by
 unfold u3
 rw [List.length_map]
 exact List.length_filter_le _ _
theorem rK: ∀ (n:Nat) (l:List aG),(ss n l).length<=l.length
 | 0,l=>Nat.le_refl _
 | n+1,l=>by
  unfold ss
  split
  ·have:=rK n l.dropLast
   rw [List.length_dropLast] at this
   omega
  ·exact Nat.le_refl _
theorem pE (x y:aG):((x.rune == y.rune) && ((x.aM == y.aM) && ((x.part == y.part) && true)))=decide (x=y):=by
 obtain ⟨a,b,c⟩:=x
 obtain ⟨d,e,f⟩:=y
 by_cases h1:a=d <;> by_cases h2:b=e <;> by_cases h3:c=f <;> simp [h1,h2,h3]
theorem G5 (r:aE) (h:r.cells.length<=1000000):kb r=some (pD r):=by
 unfold kb
 have k1: ∀ (n:Nat) (l:List aG),l.length=n->n<=1000000->iter (σ:=(List aG)) (ρ:=(List aG)) (λa=>(Option.bind ((bif (!r.wrapped) then (bif (decide ((a.length:Int) > 0)) then (Option.bind (idx a (IntKind.i64.wrap ((a.length:Int) - 1))) λg=>(Option.bind (jv 0) λi=>some ((g.rune == i.rune) && ((g.aM == i.aM) && ((g.part == i.part) && true))))) else some false) else some false):Option Bool) λj=>(bif j then (Option.bind (chk (dE 0 (IntKind.i64.wrap ((a.length:Int) - 1)) a.length)) λ_=>some (.inl (cut a 0 (IntKind.i64.wrap ((a.length:Int) - 1))))) else some (.inr a)))) l=some (if r.wrapped then l else ss n l):=by
  intro n
  induction n with
  | zero =>
   intro l hl hn
   rw [cP (r:=l)]
   ·simp [ss]
   ·cases r.wrapped <;> simp [hl]
  | succ n ih =>
   intro l hl hn
   cases hw:r.wrapped with
   | true =>
    rw [cP (r:=l)]
    ·simp
    ·simp [hw]
   | false =>
    have hp:decide ((l.length:Int) > 0)=true:=decide_eq_true (by omega)
    have ew:IntKind.i64.wrap ((l.length:Int) - 1)=((l.length - 1:Nat):Int):=by rw [w64 (by omega) (by omega)]; omega
    have hlt:l.length - 1 < l.length:=by omega
    have hlast:l.getLast?=some l[l.length - 1]:=by rw [List.getLast?_eq_getElem?,List.getElem?_eq_getElem hlt]
    unfold ss
    rw [hlast]
    by_cases hb:l[l.length - 1]=blk 0
    ·rw [dS (s':=l.dropLast)]
     ·have:=ih l.dropLast (by rw [List.length_dropLast]; omega) (by omega)
      rw [hw] at this
      simp only [hw,Bool.not_false,cond_true] at this ⊢
      rw [this,if_neg (by simp),if_neg (by simp),if_pos (by rw [hb])]
     ·simp only [hw,Bool.not_false,cond_true,hp,ew,fZ,List.getElem?_eq_getElem hlt,aA,s7,pE]
      have:decide (l[l.length - 1]=⟨32,0,0⟩)=true:=decide_eq_true hb
      rw [this,cond_true,bP (by omega) (by omega) (by omega),aA]
      congr 2
      simp [cut,List.dropLast_eq_take]
    ·rw [cP (r:=l)]
     ·rw [if_neg (by simp),if_neg (by simpa using hb)]
     ·simp only [hw,Bool.not_false,cond_true,hp,ew,fZ,List.getElem?_eq_getElem hlt,aA,s7,pE]
      have:decide (l[l.length - 1]=⟨32,0,0⟩)=false:=decide_eq_false hb
      rw [this,cond_false]
 rw [k1 r.cells.length r.cells rfl h,aA]
 have hE:(if r.wrapped then r.cells else ss r.cells.length r.cells).length<=1000000:=by
  split
  ·exact h
  ·exact Nat.le_trans (rK _ _) h
 change (Option.bind _ _)=some (u3 (if r.wrapped then r.cells else ss r.cells.length r.cells))
 generalize (if r.wrapped then r.cells else ss r.cells.length r.cells)=E at hE
 have k2: ∀ (b d:List aG),d++b=E->iter (σ:=Int×(List aJ)) (ρ:=(List aJ)) (λe=>(bif (decide (e.1 < (E.length:Int))) then (Option.bind ((Option.bind (idx E e.1) λf=>(Option.bind ((bif (f.part == 0) then some true else some (f.part == 1)):Option Bool) λk=>(bif k then (Option.bind (chk (eI e.2.length [(aJ.mk f.rune f.aM)].length 16)) λ_=>some (e.2++[(aJ.mk f.rune f.aM)])) else some e.2))):Option (List aJ)) λm=>some (.inl ((IntKind.i64.wrap (e.1+1)),m))) else some (.inr e.2))) ((d.length:Int),u3 d)=some (u3 E):=by
  intro b
  induction b with
  | nil =>
   intro d hd
   simp at hd
   subst hd
   rw [cP (r:=u3 d)]
   simp
  | cons c b ih =>
   intro d hd
   have hl:E.length=d.length+b.length+1:=by rw [<- hd]; simp; omega
   have hg:u3 (d++[c])=bif isG c then u3 d++[⟨c.rune,c.aM⟩] else u3 d:=by
    unfold u3
    rw [List.filter_append]
    cases hc:isG c <;> simp [hc]
   rw [dS (s':=(((d++[c]).length:Int),u3 (d++[c])))]
   ·exact ih (d++[c]) (by simpa using hd)
   ·have hc:decide ((d.length:Int) < (E.length:Int))=true:=by simp; omega
    have hx:idx E (d.length:Int)=some c:=by rw [<- hd]; exact mI d b c
    have hi:((bif (c.part == 0) then some true else some (c.part == 1)):Option Bool)=some (isG c):=by unfold isG; cases c.part == 0 <;> rfl
    have hgl:=xQ d
    simp only [hc,cond_true,hx,aA,hi]
    rw [hg,w64 (by omega) (by omega)]
    cases hc2:isG c with
    | true=>rw [cond_true,bL (by simp; omega),aA,aA]; simp
    | false=>simp
 have h0:=k2 E [] rfl
 have e0:((([]:List aG).length:Nat):Int)=0:=rfl
 have e1:u3 []=[]:=rfl
 rw [e0,e1] at h0
 rw [h0,aA]
theorem IH (a b:List aG) (h:a.length<=1000000):gR a b=some (decide (a=b)):=by
 unfold gR
 by_cases hl:a.length=b.length
 ·have e:((a.length:Int) != (b.length:Int))=false:=by simp [hl]
  rw [e,cond_false]
  have key: ∀ (x y d d2:List aG),d++x=a->d2++y=b->d=d2->x.length=y.length->iter (σ:=Int) (ρ:=Unit ⊕ Bool) (λf=>(bif (decide (f < (a.length:Int))) then (Option.bind (idx a f) λg=>(Option.bind (idx b f) λi=>(bif (!((g.rune == i.rune) && ((g.aM == i.aM) && ((g.part == i.part) && true)))) then (ln (some false)) else some (.inl (IntKind.i64.wrap (f+1)))))) else some (.inr (.inl ())))) (d.length:Int)=some (if x=y then .inl () else .inr false):=by
   intro x
   induction x with
   | nil =>
    intro y d d2 hd hd2 hdd hxy
    have:y=[]:=List.eq_nil_of_length_eq_zero hxy.symm
    subst this
    simp at hd
    subst hd
    rw [cP (r:= .inl ())]
    ·simp
    ·simp
   | cons c x ih =>
    intro y d d2 hd hd2 hdd hxy
    cases y with
    | nil=>simp at hxy
    | cons c2 y =>
     subst hdd
     have hal:a.length=d.length+x.length+1:=by rw [<- hd]; simp; omega
     have hc:decide ((d.length:Int) < (a.length:Int))=true:=by simp; omega
     have hx:idx a (d.length:Int)=some c:=by rw [<- hd]; exact mI d x c
     have hx2:idx b (d.length:Int)=some c2:=by rw [<- hd2]; exact mI d y c2
     by_cases hcc:c=c2
     ·subst hcc
      rw [dS (s':=((d++[c]).length:Int))]
      ·rw [ih y (d++[c]) (d++[c]) (by simpa using hd) (by simpa using hd2) rfl (by simpa using hxy)]
       simp
      ·simp only [hc,cond_true,hx,hx2,aA,pE]
       rw [w64 (by omega) (by omega)]
       simp
     ·rw [cP (r:= .inr false)]
      ·simp [hcc]
      ·simp only [hc,cond_true,hx,hx2,aA,pE]
       have:decide (c=c2)=false:=decide_eq_false hcc
       rw [this]
       rfl
  have h0:=key a b [] [] rfl rfl rfl hl
  have e0:((([]:List aG).length:Nat):Int)=0:=rfl
  rw [e0] at h0
  rw [h0,aA]
  by_cases hab:a=b
  ·rw [if_pos hab]; simp [hab]
  ·rw [if_neg hab]; simp [hab]
 ·have e:((a.length:Int) != (b.length:Int))=true:=by simp; omega
  rw [e,cond_true]
  have:a≠b:=λh=>hl (by rw [h])
  simp [this]
theorem yo (r q:aE) (h:r.cells.length<=1000000):jw r q=some (decide (r=q)):=by
 unfold jw
 obtain ⟨a,x⟩:=r
 obtain ⟨b,y⟩:=q
 rw [IH a b h]
 cases x <;> cases y <;> simp
theorem nU (l:List aG) (h:l.length<=1000000):fU (l.map tc)=some ⟨(jL 0 l).map tc,false⟩:=by
 unfold fU
 have hml:(l.map tc).length=l.length:=List.length_map _
 rw [hml]
 have key: ∀ (r d o:List aG),d++r=l->o.length=d.length->iter (σ:=Int×(List aR)) (ρ:=(List aR)) (λb=>(bif (decide (b.1 < (l.length:Int))) then (Option.bind (idx (l.map tc) b.1) λf=>(Option.bind ((bif (f.part == 1) then (bif ((IntKind.i64.wrap (b.1+1)) == (l.length:Int)) then some true else (Option.bind (idx (l.map tc) (IntKind.i64.wrap (b.1+1))) λg=>some (g.part != 2))) else (bif (f.part == 2) then (bif (b.1 == 0) then some true else (Option.bind (idx b.2 (IntKind.i64.wrap (b.1 - 1))) λi=>some (i.part != 1))) else (bif (f.part == 3) then some (decide (b.1 < (IntKind.i64.wrap ((l.length:Int) - 1)))) else some false))):Option Bool) λk=>(Option.bind ((bif k then some (aR.mk 32 f.aM 0) else some f):Option aR) λj=>(Option.bind (chk (eI b.2.length [j].length 24)) λ_=>some (.inl ((IntKind.i64.wrap (b.1+1)),(b.2++[j]))))))) else some (.inr b.2))) ((d.length:Int),o.map tc)=some ((o++jL (nC o) r).map tc):=by
  intro r
  induction r with
  | nil =>
   intro d o hd ho
   simp at hd
   subst hd
   rw [cP (r:=o.map tc)]
   ·simp [jL]
   ·simp
  | cons c r ih =>
   intro d o hd ho
   have hl:l.length=d.length+r.length+1:=by rw [<- hd]; simp; omega
   rw [dS (s':=(((d++[c]).length:Int),(o++[wT (nC o) c r]).map tc))]
   ·rw [ih (d++[c]) (o++[wT (nC o) c r]) (by simpa using hd) (by simp [ho]),yY]
    simp [jL]
   ·have hc:decide ((d.length:Int) < (l.length:Int))=true:=by simp; omega
    have em:l.map tc=d.map tc++tc c::r.map tc:=by rw [<- hd]; simp
    have hdl:(d.map tc).length=d.length:=List.length_map _
    have hx:idx (l.map tc) (d.length:Int)=some (tc c):=by rw [em,<- hdl]; exact mI _ _ _
    have hx2:idx (l.map tc) ((d.length:Int)+1)=(r.map tc)[0]?:=by rw [em,<- hdl]; exact Cw _ _ _
    simp only [hc,cond_true,hx,aA]
    rw [w64 (x:=(d.length:Int)+1) (by omega) (by omega),w64 (x:=(d.length:Int) - 1) (by omega) (by omega),w64 (x:=(l.length:Int) - 1) (by omega) (by omega),hx2]
    have hbad:((bif ((tc c).part == 1) then (bif (((d.length:Int)+1) == (l.length:Int)) then some true else (Option.bind ((r.map tc)[0]?) λg=>some (g.part != 2))) else (bif ((tc c).part == 2) then (bif ((d.length:Int) == 0) then some true else (Option.bind (idx (o.map tc) ((d.length:Int) - 1)) λi=>some (i.part != 1))) else (bif ((tc c).part == 3) then some (decide ((d.length:Int) < (l.length:Int) - 1)) else some false))):Option Bool)=some (Ab (nC o) c r):=by
     have htc:(tc c).part=c.part:=rfl
     rw [htc]
     unfold Ab
     cases h1:(c.part == 1) with
     | true =>
      simp only [cond_true]
      cases r with
      | nil =>
       have:(((d.length:Int)+1) == (l.length:Int))=true:=by simp at hl ⊢; omega
       rw [this]
       rfl
      | cons e r =>
       have:(((d.length:Int)+1) == (l.length:Int))=false:=by simp at hl ⊢; omega
       rw [this]
       rfl
     | false =>
      simp only [cond_false]
      cases h2:(c.part == 2) with
      | true =>
       simp only [cond_true]
       cases ho0:o with
       | nil =>
        have:d.length=0:=by rw [<- ho,ho0]; rfl
        have:((d.length:Int) == 0)=true:=by simp [this]
        rw [this]
        rfl
       | cons a t =>
        have hpos:0 < d.length:=by rw [<- ho,ho0]; simp
        have hne:((d.length:Int) == 0)=false:=by rw [beq_eq_false_iff_ne]; omega
        have hol:((a::t).map tc).length=d.length:=by rw [List.length_map,<- ho0,ho]
        have hi:=Cv ((a::t).map tc) [] ⟨0,0,0⟩ ⟨0,0,0⟩ (by rw [hol]; exact hpos)
        have hlt:d.length - 1 < ((a::t).map tc).length:=by rw [hol]; omega
        have e1:((d.length:Int) - 1)=((d.length - 1:Nat):Int):=by omega
        rw [hol,e1,fZ,List.getElem?_append_left hlt] at hi
        rw [hne,cond_false,e1,fZ,hi,aA]
        have e2:nC (a::t)=(uH (⟨0,0,0⟩:aR) ((a::t).map tc)).part:=by
         unfold nC
         rw [<- wU (λc:aR=>c.part) ⟨0,0,0⟩ ((a::t).map tc),List.map_map]
         rfl
        rw [e2]
      | false =>
       simp only [cond_false]
       cases h3:(c.part == 3) with
       | true =>
        simp only [cond_true]
        cases r with
        | nil =>
         have:decide ((d.length:Int) < (l.length:Int) - 1)=false:=decide_eq_false (by simp at hl; omega)
         rw [this]
         rfl
        | cons e r =>
         have:decide ((d.length:Int) < (l.length:Int) - 1)=true:=decide_eq_true (by simp at hl; omega)
         rw [this]
         rfl
       | false=>rfl
    rw [hbad,aA]
    have hfix:((bif Ab (nC o) c r then some (aR.mk 32 (tc c).aM 0) else some (tc c)):Option aR)=some (tc (wT (nC o) c r)):=by
     unfold wT
     cases Ab (nC o) c r <;> rfl
    rw [hfix,aA,bL (by simp; omega),aA]
    simp
 have h0:=key l [] [] rfl rfl
 have e0:((([]:List aG).length:Nat):Int)=0:=rfl
 rw [e0] at h0
 simp only [List.map_nil,List.nil_append] at h0
 rw [h0,aA]
 rfl
theorem Bs (n lo hi:Int) (h:lo<=hi):nO n lo hi=some (max lo (min n hi)):=by
 unfold nO
 by_cases h1:n < lo
 ·rw [decide_eq_true h1,cond_true]; congr 1; omega
 ·rw [decide_eq_false h1,cond_false]
  by_cases h2:n > hi
  ·rw [decide_eq_true h2,cond_true]; congr 1; omega
  ·rw [decide_eq_false h2,cond_false]; congr 1; omega
theorem tR (w s:Int):ka w s=some ⟨(List.replicate (max 0 (min w 1000)).toNat (blk s)).map tc,false⟩:=by
 unfold ka
 generalize hv:max 0 (min w 1000)=v
 obtain ⟨k,rfl⟩: ∃ k:Nat,v=k:=⟨v.toNat,by omega⟩
 have hk:k<=1000:=by omega
 have key: ∀ m j,k - j=m->j<=k->iter (σ:=(List aR)×Int) (ρ:=(List aR)) (λa=>(Option.bind (nO w 0 1000) λb=>(bif (decide (a.2 < b)) then (Option.bind (chk (eI a.1.length [(aR.mk 32 s 0)].length 24)) λ_=>some (.inl ((a.1++[(aR.mk 32 s 0)]),(IntKind.i64.wrap (a.2+1))))) else some (.inr a.1)))) (List.replicate j (tc (blk s)),(j:Int))=some (List.replicate k (tc (blk s))):=by
  intro m
  induction m with
  | zero =>
   intro j hm hj
   have:j=k:=by omega
   subst this
   rw [cP (r:=List.replicate j (tc (blk s)))]
   simp only [Bs w 0 1000 (by omega),hv,aA]
   simp
  | succ m ih =>
   intro j hm hj
   rw [dS (s':=(List.replicate (j+1) (tc (blk s)),((j+1:Nat):Int)))]
   ·exact ih (j+1) (by omega) (by omega)
   ·simp only [Bs w 0 1000 (by omega),hv,aA]
    have:decide ((j:Int) < (k:Int))=true:=decide_eq_true (by omega)
    rw [this,cond_true,bL (by simp; omega),aA,w64 (by omega) (by omega),List.replicate_succ']
    rfl
 have h0:=key (k - 0) 0 rfl (Nat.zero_le _)
 have e0:((0:Nat):Int)=0:=rfl
 rw [e0,List.replicate_zero] at h0
 rw [h0,aA,Int.toNat_natCast,List.map_replicate]
theorem II (n:Nat) (h:n<=1000000):chk (eI ([]:List aR).length n 24)=some ():=bL (by simp; omega)
theorem lB (l:List aG):(l.map tc).length=l.length:=List.length_map _
theorem Ol (s:Int):tc (blk s)=⟨32,s,0⟩:=rfl
theorem G6 (l:List aG) (w:Bool) (a b s:Int) (h:l.length<=1000000):oB ⟨l.map tc,w⟩ a b s=some ⟨(jL 0 (lQ a b s 0 l)).map tc,false⟩:=by
 unfold oB
 simp only [lB,List.nil_append]
 rw [II _ h,aA]
 have key: ∀ (r d o:List aG),d++r=l->o.length=d.length->iter (σ:=Int×(List aR)) (ρ:=(List aR)) (λe=>(bif (decide (e.1 < (l.length:Int))) then (Option.bind ((Option.bind ((bif (decide (e.1>=a)) then some (decide (e.1 < b)) else some false):Option Bool) λf=>(bif f then (Option.bind (idx e.2 e.1) λi=>some (e.2.set e.1.toNat (aR.mk 32 s 0))) else some e.2)):Option (List aR)) λg=>some (.inl ((IntKind.i64.wrap (e.1+1)),g))) else some (.inr e.2))) ((d.length:Int),(o++r).map tc)=some ((o++lQ a b s (d.length:Int) r).map tc):=by
  intro r
  induction r with
  | nil =>
   intro d o hd ho
   simp at hd
   subst hd
   rw [cP (r:=(o++[]).map tc)]
   ·simp [lQ]
   ·simp
  | cons c r ih =>
   intro d o hd ho
   have hl:l.length=d.length+r.length+1:=by rw [<- hd]; simp; omega
   have hc:decide ((d.length:Int) < (l.length:Int))=true:=by simp; omega
   generalize hc':(if a<=(d.length:Int)/\(d.length:Int) < b then blk s else c)=c'
   rw [dS (s':=(((d++[c]).length:Int),((o++[c'])++r).map tc))]
   ·rw [ih (d++[c]) (o++[c']) (by simpa using hd) (by simp [ho])]
    simp [lQ,hc']
   ·simp only [hc,cond_true]
    rw [w64 (by omega) (by omega)]
    have hx:idx ((o++c::r).map tc) (d.length:Int)=some (tc c):=by
     rw [<- ho,List.map_append,List.map_cons,<- lB o]
     exact mI _ _ _
    by_cases h1:a<=(d.length:Int)
    ·by_cases h2:(d.length:Int) < b
     ·rw [decide_eq_true (show (d.length:Int)>=a from h1),cond_true,decide_eq_true h2,aA,cond_true,hx,aA,aA]
      rw [if_pos ⟨h1,h2⟩] at hc'
      subst hc'
      congr 2
      refine Prod.ext (by simp) ?_
      show ((o++c::r).map tc).set ((d.length:Int).toNat) _=_
      rw [Int.toNat_natCast,<- ho,List.map_append,List.map_cons]
      simp [Ol]
     ·rw [decide_eq_true (show (d.length:Int)>=a from h1),cond_true,decide_eq_false h2,aA,cond_false,aA]
      rw [if_neg (by omega)] at hc'
      subst hc'
      simp
    ·rw [decide_eq_false (show ¬ (d.length:Int)>=a from h1),cond_false,aA,cond_false,aA]
     rw [if_neg (by omega)] at hc'
     subst hc'
     simp
 have h0:=key l [] [] rfl rfl
 have e0:((([]:List aG).length:Nat):Int)=0:=rfl
 rw [e0] at h0
 simp only [List.nil_append] at h0
 rw [h0,aA,nU _ (by rw [mZ]; exact h),aA]
theorem IJ (l:List aG) (w:Bool) (s:Int) (h:l.length<=1000000):nR ⟨l.map tc,w⟩ s=some ⟨(jL 0 (qd l s)).map tc,true⟩:=by
 unfold nR
 simp only [lB,List.nil_append]
 rw [II _ h,aA]
 by_cases h0:(l.length:Int) > 0
 ·have ew:IntKind.i64.wrap ((l.length:Int) - 1)=((l.length - 1:Nat):Int):=by rw [w64 (by omega) (by omega)]; omega
  rw [decide_eq_true h0,cond_true,ew,fZ,List.getElem?_eq_getElem (by rw [lB]; omega),aA,aA,Int.toNat_natCast]
  have e:(l.map tc).set (l.length - 1) ⟨32,s,3⟩=(qd l s).map tc:=by
   unfold qd
   rw [List.map_set]
   rfl
  rw [e,nU _ (by simp [qd]; exact h),aA]
 ·have hn:l=[]:=List.eq_nil_of_length_eq_zero (by omega)
  rw [decide_eq_false h0,cond_false,aA,nU _ h,aA]
  simp [qd,hn]
theorem PT (x y:Int):(if x < y then x else y)=min y x:=by split <;> omega
theorem Es (l:List aG) (w:Bool) (at_ n s:Int) (h:l.length<=1000) (ha: -9223372036854775808<=at_) (hb:at_<=9223372036854775807):nP ⟨l.map tc,w⟩ at_ n s=some ⟨(jL 0 (if cZ l at_ n=0 then l else oD l at_.toNat (cZ l at_ n).toNat s)).map tc,false⟩:=by
 unfold nP
 simp only [lB,List.nil_append,PT]
 by_cases h0:at_ < 0\/at_>=l.length\/n<=0
 ·have e:((bif (decide (at_ < 0)) then some true else (bif (decide (at_>=(l.length:Int))) then some true else some (decide (n<=0)))):Option Bool)=some true:=by
   rcases h0 with h0 | h0 | h0
   ·simp [h0]
   ·cases h1:decide (at_ < 0) <;> simp [h0]
   ·cases h1:decide (at_ < 0) <;> cases h2:decide (at_>=(l.length:Int)) <;> simp [h0]
  have hw:cZ l at_ n=0:=by unfold cZ; split <;> omega
  rw [e,aA,cond_true,nU _ (by omega),aA,if_pos hw]
 ·have e:((bif (decide (at_ < 0)) then some true else (bif (decide (at_>=(l.length:Int))) then some true else some (decide (n<=0)))):Option Bool)=some false:=by
   rw [decide_eq_false (by omega: ¬ at_ < 0),decide_eq_false (by omega: ¬ at_>=(l.length:Int)),decide_eq_false (by omega: ¬ n<=0)]
   rfl
  have hw:cZ l at_ n=min n (l.length - at_):=by unfold cZ; rw [if_neg (by omega)]; omega
  rw [e,aA,cond_false,w64 (x:=(l.length:Int) - at_) (by omega) (by omega),dP,<- hw]
  have hb2:0 < cZ l at_ n/\at_+cZ l at_ n<=l.length:=by omega
  rw [if_neg (by omega)]
  generalize cZ l at_ n=v at hb2
  clear hw e
  obtain ⟨k,rfl⟩: ∃ k:Nat,at_=k:=⟨at_.toNat,by omega⟩
  obtain ⟨m,rfl⟩: ∃ m:Nat,v=m:=⟨v.toNat,by omega⟩
  have c1:cut (l.map tc) 0 (k:Int)=(l.take k).map tc:=by simp [cut,List.map_take]
  have c2:cut (l.map tc) (k:Int) ((l.length:Int) - (m:Int))=((l.take (l.length - m)).drop k).map tc:=by
   have e:((l.length:Int) - (m:Int)).toNat=l.length - m:=by omega
   unfold cut
   rw [e,Int.toNat_natCast,List.map_drop,List.map_take]
  rw [bP (by omega) (by omega) (by omega),aA,c1,bL (by simp; omega),aA,tR,aA,w64 (x:=(l.length:Int) - (m:Int)) (by omega) (by omega),bL (by simp; omega),aA,bP (by omega) (by omega) (by omega),aA,c2,bL (by simp; omega),aA]
  have em:(max 0 (min (m:Int) 1000)).toNat=m:=by omega
  rw [em,<- List.map_append,<- List.map_append,Int.toNat_natCast,Int.toNat_natCast]
  have ei:l.take k++List.replicate m (blk s)++(l.take (l.length - m)).drop k=oD l k m s:=by
   unfold oD
   have hkm:k+m<=l.length:=by omega
   have hA:(l.take k++List.replicate m (blk s)).length=k+m:=by rw [List.length_append,List.length_take,List.length_replicate]; omega
   have hT:=List.take_of_length_le (l:=l.take k++List.replicate m (blk s)) (i:=l.length) (by rw [hA]; exact hkm)
   rw [List.take_append,hA,hT,List.drop_take,Nat.sub_sub,Nat.add_comm m k]
  rw [ei,nU _ (by unfold oD; simp; omega),aA]
theorem Eu (l:List aG) (w:Bool) (at_ n s:Int) (h:l.length<=1000) (ha: -9223372036854775808<=at_) (hb:at_<=9223372036854775807):nQ ⟨l.map tc,w⟩ at_ n s=some ⟨(jL 0 (if cZ l at_ n=0 then l else pj l at_.toNat (cZ l at_ n).toNat s)).map tc,false⟩:=by
 unfold nQ
 simp only [lB,List.nil_append,PT]
 by_cases h0:at_ < 0\/at_>=l.length\/n<=0
 ·have e:((bif (decide (at_ < 0)) then some true else (bif (decide (at_>=(l.length:Int))) then some true else some (decide (n<=0)))):Option Bool)=some true:=by
   rcases h0 with h0 | h0 | h0
   ·simp [h0]
   ·cases h1:decide (at_ < 0) <;> simp [h0]
   ·cases h1:decide (at_ < 0) <;> cases h2:decide (at_>=(l.length:Int)) <;> simp [h0]
  have hw:cZ l at_ n=0:=by unfold cZ; split <;> omega
  rw [e,aA,cond_true,nU _ (by omega),aA,if_pos hw]
 ·have e:((bif (decide (at_ < 0)) then some true else (bif (decide (at_>=(l.length:Int))) then some true else some (decide (n<=0)))):Option Bool)=some false:=by
   rw [decide_eq_false (by omega: ¬ at_ < 0),decide_eq_false (by omega: ¬ at_>=(l.length:Int)),decide_eq_false (by omega: ¬ n<=0)]
   rfl
  have hw:cZ l at_ n=min n (l.length - at_):=by unfold cZ; rw [if_neg (by omega)]; omega
  rw [e,aA,cond_false,w64 (x:=(l.length:Int) - at_) (by omega) (by omega),dP,<- hw]
  have hb2:0 < cZ l at_ n/\at_+cZ l at_ n<=l.length:=by omega
  rw [if_neg (by omega)]
  generalize cZ l at_ n=v at hb2
  clear hw e
  obtain ⟨k,rfl⟩: ∃ k:Nat,at_=k:=⟨at_.toNat,by omega⟩
  obtain ⟨m,rfl⟩: ∃ m:Nat,v=m:=⟨v.toNat,by omega⟩
  have c1:cut (l.map tc) 0 (k:Int)=(l.take k).map tc:=by simp [cut,List.map_take]
  have ek:(k:Int)+(m:Int)=((k+m:Nat):Int):=by omega
  have c2:cut (l.map tc) ((k+m:Nat):Int) (l.length:Int)=(l.drop (k+m)).map tc:=by
   unfold cut
   rw [Int.toNat_natCast,Int.toNat_natCast,List.take_of_length_le (by rw [lB]; exact Nat.le_refl _),List.map_drop]
  rw [bP (by omega) (by omega) (by omega),aA,c1,bL (by simp; omega),aA,w64 (x:=(k:Int)+(m:Int)) (by omega) (by omega),ek,bP (by omega) (by omega) (by omega),aA,c2,bL (by simp; omega),aA,tR,aA,bL (by simp; omega),aA]
  have em:(max 0 (min (m:Int) 1000)).toNat=m:=by omega
  rw [em,<- List.map_append,<- List.map_append,Int.toNat_natCast,Int.toNat_natCast]
  change (Option.bind (fU ((pj l k m s).map tc)) _)=_
  rw [nU _ (by unfold pj; simp; omega),aA]
theorem Ew (l:List aG) (w:Bool) (v:Int) (h:l.length<=1000000):nS ⟨l.map tc,w⟩ v=some (if (max 0 (min v 1000)).toNat=l.length then ⟨l.map tc,w⟩ else ⟨(jL 0 (oE l (max 0 (min v 1000)).toNat)).map tc,false⟩):=by
 unfold nS
 rw [Bs _ _ _ (by omega),aA]
 simp only [lB,List.nil_append]
 generalize hv:max 0 (min v 1000)=u
 obtain ⟨k,rfl⟩: ∃ k:Nat,u=k:=⟨u.toNat,by omega⟩
 rw [Int.toNat_natCast]
 by_cases h0:k=l.length
 ·have e:((k:Int) == (l.length:Int))=true:=by simp [h0]
  rw [e,cond_true,if_pos h0]
 ·have e:((k:Int) == (l.length:Int))=false:=by rw [beq_eq_false_iff_ne]; omega
  have ec:eO (k:Int) (l.length:Int)=((min k l.length:Nat):Int):=by rw [dP]; omega
  have c1:cut (l.map tc) 0 ((min k l.length:Nat):Int)=(l.take k).map tc:=by
   simp only [cut,Int.toNat_natCast,Int.toNat_zero,List.drop_zero]
   rw [<- List.take_take,<- lB l,List.take_length,List.map_take]
  rw [e,cond_false,if_neg h0,ec,bP (by omega) (by omega) (by omega),aA,c1,bL (by simp; omega),aA]
  have e3:(((l.take k).map tc).length:Int)=((min k l.length:Nat):Int):=by simp
  rw [e3,w64 (by omega) (by omega),tR,aA,bL (by simp; omega),aA,<- List.map_append]
  have c2:l.take k++List.replicate (max 0 (min ((k:Int) - ((min k l.length:Nat):Int)) 1000)).toNat (blk 0)=oE l k:=by
   unfold oE
   congr 2
   omega
  rw [c2,nU _ (by unfold oE; simp; omega),aA]
def wW (Z:List cH) (r:Int):Bool:=Z.any λx=>decide (x.e0<=r/\r<=x.e1)
theorem FN (Z:List cH) (r v:Int) (h:Z.length<=1000):iter (σ:=Int) (ρ:=Unit ⊕ Int) (λa=>(bif (decide (a < (Z.length:Int))) then (Option.bind (idx Z a) λe=>(Option.bind ((bif (decide (r>=e.e0)) then some (decide (r<=e.e1)) else some false):Option Bool) λf=>(bif f then (ln (some v)) else some (.inl (IntKind.i64.wrap (a+1)))))) else some (.inr (.inl ())))) 0=some (if wW Z r then .inr v else .inl ()):=by
 have key: ∀ (b d:List cH),d++b=Z->iter (σ:=Int) (ρ:=Unit ⊕ Int) (λa=>(bif (decide (a < (Z.length:Int))) then (Option.bind (idx Z a) λe=>(Option.bind ((bif (decide (r>=e.e0)) then some (decide (r<=e.e1)) else some false):Option Bool) λf=>(bif f then (ln (some v)) else some (.inl (IntKind.i64.wrap (a+1)))))) else some (.inr (.inl ())))) (d.length:Int)=some (if wW b r then .inr v else .inl ()):=by
  intro b
  induction b with
  | nil =>
   intro d hd
   simp at hd
   subst hd
   rw [cP (r:= .inl ())]
   ·rfl
   ·simp
  | cons c b ih =>
   intro d hd
   have hl:Z.length=d.length+b.length+1:=by rw [<- hd]; simp; omega
   have hc:decide ((d.length:Int) < (Z.length:Int))=true:=by simp; omega
   have hx:idx Z (d.length:Int)=some c:=by rw [<- hd]; exact mI d b c
   have hin:((bif (decide (r>=c.e0)) then some (decide (r<=c.e1)) else some false):Option Bool)=some (decide (c.e0<=r/\r<=c.e1)):=by
    by_cases h1:c.e0<=r <;> by_cases h2:r<=c.e1 <;> simp [h1,h2]
   by_cases hh:c.e0<=r/\r<=c.e1
   ·rw [cP (r:= .inr v)]
    ·have:wW (c::b) r=true:=by unfold wW; rw [List.any_cons,decide_eq_true hh,Bool.true_or]
     rw [this]
     rfl
    ·simp only [hc,cond_true,hx,aA,hin]
     rw [decide_eq_true hh]
     rfl
   ·rw [dS (s':=((d++[c]).length:Int))]
    ·rw [ih (d++[c]) (by simpa using hd)]
     have:wW (c::b) r=wW b r:=by unfold wW; rw [List.any_cons,decide_eq_false hh,Bool.false_or]
     rw [this]
    ·simp only [hc,cond_true,hx,aA,hin]
     rw [decide_eq_false hh,cond_false,w64 (by omega) (by omega)]
     simp
 exact key Z [] rfl
theorem IK (x:Int) (h0: -2147483648<=x) (h1:x<=2147483647):rH x=some (ofS x):=by
 unfold rH
 rw [FN _ x 0 (by decide),FN _ x 2 (by decide)]
 have e8:((bif (decide (x < 32)) then some true else some (decide (x > 1114111))):Option Bool)=some (decide (x < 32\/x > 1114111)):=by
  by_cases h2:x < 32 <;> by_cases h3:x > 1114111 <;> simp [h2,h3]
 rw [e8,aA]
 have en:inS dC x=(decide (x < 32\/x > 1114111) || wW [⟨127,159⟩,⟨768,879⟩,⟨6832,6911⟩,⟨7616,7679⟩,⟨8203,8207⟩,⟨8400,8447⟩,⟨55296,57343⟩,⟨65024,65039⟩,⟨65056,65071⟩,⟨65279,65279⟩,⟨917760,917999⟩] x):=by
  rw [Bool.eq_iff_iff]
  simp only [inS,dC,wW,List.any_cons,List.any_nil,Bool.or_eq_true,decide_eq_true_eq,Bool.false_eq_true,or_false]
  constructor
  ·rintro (h | h | h | h | h | h | h | h | h | h | h | h | h) <;> omega
  ·omega
 have et:inS dK x=wW [⟨4352,4447⟩,⟨11904,12350⟩,⟨12353,13311⟩,⟨13312,19903⟩,⟨19968,40959⟩,⟨40960,42191⟩,⟨44032,55203⟩,⟨63744,64255⟩,⟨65072,65135⟩,⟨65280,65376⟩,⟨65504,65510⟩,⟨127744,128591⟩,⟨129280,129535⟩,⟨131072,262141⟩] x:=by
  simp only [inS,dK,wW,List.any_cons,List.any_nil]
 unfold ofS
 rw [en,et]
 cases decide (x < 32\/x > 1114111) with
 | true=>rfl
 | false =>
  rw [cond_false,Bool.false_or]
  cases wW [⟨127,159⟩,⟨768,879⟩,⟨6832,6911⟩,⟨7616,7679⟩,⟨8203,8207⟩,⟨8400,8447⟩,⟨55296,57343⟩,⟨65024,65039⟩,⟨65056,65071⟩,⟨65279,65279⟩,⟨917760,917999⟩] x with
  | true=>rfl
  | false =>
   cases wW [⟨4352,4447⟩,⟨11904,12350⟩,⟨12353,13311⟩,⟨13312,19903⟩,⟨19968,40959⟩,⟨40960,42191⟩,⟨44032,55203⟩,⟨63744,64255⟩,⟨65072,65135⟩,⟨65280,65376⟩,⟨65504,65510⟩,⟨127744,128591⟩,⟨129280,129535⟩,⟨131072,262141⟩] x <;> rfl
theorem Lr (l:List aG) (w:Bool) (at_ x s:Int) (h:l.length<=1000000) (ha: -9223372036854775808<=at_) (hb:at_<=9223372036854775807) (h0: -2147483648<=x) (h1:x<=2147483647):p9 ⟨l.map tc,w⟩ at_ x s=some ⟨(jL 0 (wV l at_ x s)).map tc,false⟩:=by
 unfold p9
 simp only [lB,List.nil_append]
 rw [IK x h0 h1,aA]
 have h3:=qL x
 have fin: ∀ (q:List aG),q.length=l.length->(Option.bind (fU (q.map tc)) λa=>some a)=some ⟨(jL 0 q).map tc,false⟩:=λq hq=>by rw [nU q (by omega),aA]
 rw [w64 (x:=(l.length:Int) - ofS x) (by omega) (by omega)]
 by_cases hc:ofS x=0\/at_ < 0\/at_ > l.length - ofS x
 ·have hb2:((bif (ofS x == 0) then some true else (bif (decide (at_ < 0)) then some true else some (decide (at_ > ((l.length:Int) - ofS x))))):Option Bool)=some true:=by
   rcases hc with hc | hc | hc
   ·simp [hc]
   ·cases h0:(ofS x == 0) <;> simp [hc]
   ·cases h0:(ofS x == 0) <;> cases h1:decide (at_ < 0) <;> simp [hc]
  rw [hb2,aA,cond_true]
  unfold wV
  rw [if_pos hc]
  exact fin _ rfl
 ·have hb2:((bif (ofS x == 0) then some true else (bif (decide (at_ < 0)) then some true else some (decide (at_ > ((l.length:Int) - ofS x))))):Option Bool)=some false:=by
   have e0:(ofS x == 0)=false:=by simp; omega
   have e1:decide (at_ < 0)=false:=decide_eq_false (by omega)
   rw [e0,cond_false,e1,cond_false]
   simp
   omega
  rw [hb2,aA,cond_false,II _ h,aA]
  obtain ⟨k,rfl⟩: ∃ k:Nat,at_=k:=⟨at_.toNat,by omega⟩
  unfold wV
  rw [if_neg hc]
  have hk:k < (l.map tc).length:=by rw [lB]; omega
  rw [fZ,List.getElem?_eq_getElem hk,aA,Int.toNat_natCast]
  by_cases h1:ofS x=1
  ·have e1:(ofS x == 2)=false:=by simp [h1]
   have em:(l.map tc).set k ⟨x,s,0⟩=(l.set k ⟨x,s,0⟩).map tc:=by rw [List.map_set]; rfl
   rw [e1,cond_false,aA,if_pos h1,em]
   exact fin _ (by simp)
  ·have h2:ofS x=2:=by omega
   have e1:(ofS x == 2)=true:=by simp [h2]
   have hk2:k+1 < l.length:=by omega
   have ew:IntKind.i64.wrap ((k:Int)+1)=((k+1:Nat):Int):=by rw [w64 (by omega) (by omega)]; omega
   rw [e1,cond_true,ew,fZ,List.getElem?_eq_getElem (by simpa using hk),aA,fZ,List.getElem?_eq_getElem (by simp; omega),aA,if_neg h1,Int.toNat_natCast]
   have em:(((l.map tc).set k ⟨x,s,0⟩).set k ⟨x,s,1⟩).set (k+1) ⟨x,s,2⟩=((l.set k ⟨x,s,1⟩).set (k+1) ⟨x,s,2⟩).map tc:=by
    rw [List.set_set,List.map_set,List.map_set]
    rfl
   rw [em]
   generalize hl1:(l.set k ⟨x,s,1⟩).set (k+1) ⟨x,s,2⟩=l1
   have hlen:l1.length=l.length:=by rw [<- hl1]; simp
   unfold Ep
   rw [show ((k:Int)).toNat=k from Int.toNat_natCast k]
   by_cases h0:(k:Int) > 0
   ·have em1:IntKind.i64.wrap ((k:Int) - 1)=((k - 1:Nat):Int):=by rw [w64 (by omega) (by omega)]; omega
    have hk1:k - 1 < l1.length:=by omega
    have hg:idx (l1.map tc) ((k - 1:Nat):Int)=some (tc l1[k - 1]):=by rw [fZ,List.getElem?_map,List.getElem?_eq_getElem hk1]; rfl
    rw [decide_eq_true h0,cond_true,em1,hg,if_pos h0,List.getElem?_eq_getElem hk1]
    simp only [aA]
    by_cases hp:(l1[k - 1]).part=1
    ·have e3:((tc l1[k - 1]).part == 1)=true:=by simp [tc,hp]
     have es:(l1.map tc).set (k - 1) ⟨32,(tc l1[k - 1]).aM,0⟩=(l1.set (k - 1) (blk (l1[k - 1]).aM)).map tc:=by rw [List.map_set]; rfl
     rw [e3,cond_true,if_pos hp]
     simp only [aA,Int.toNat_natCast,es]
     exact fin _ (by simpa using hlen)
    ·have e3:((tc l1[k - 1]).part == 1)=false:=by simp [tc,hp]
     rw [e3,cond_false,if_neg hp]
     simp only [aA]
     exact fin _ hlen
   ·rw [decide_eq_false h0,cond_false,if_neg h0]
    simp only [aA]
    rw [cond_false,aA]
    exact fin _ hlen
def rok (x:Int):Prop:= -2147483648<=x/\x<=2147483647
def okR (l:List aG):Prop:= ∀ c∈l,rok c.rune
theorem yp (s:Int):rok (blk s).rune:=by unfold rok blk; simp
theorem qM: ∀ (l:List aG) (p:Int),okR l->okR (jL p l)
 | [],_,_=>λc hc=>by cases hc
 | c::r,p,h=>by
  intro d hd
  simp only [jL,List.mem_cons] at hd
  rcases hd with rfl | hd
  ·unfold wT
   cases Ab p c r with
   | true=>exact yp c.aM
   | false=>exact h c (by simp)
  ·exact qM r _ (λe he=>h e (by simp [he])) d hd
theorem vJ {l:List aG} (h:okR l) (i:Nat) {c:aG} (hc:rok c.rune):okR (l.set i c):=by
 intro d hd
 rcases List.mem_or_eq_of_mem_set hd with hd | rfl
 ·exact h d hd
 ·exact hc
theorem Ls {l:List aG} (h:okR l) (at_ s:Int) {x:Int} (hx:rok x):okR (wV l at_ x s):=by
 unfold wV
 split
 ·exact h
 ·split
  ·exact vJ h _ hx
  ·unfold Ep
   have h1:=vJ (vJ h at_.toNat (c:=⟨x,s,1⟩) hx) (at_.toNat+1) (c:=⟨x,s,2⟩) hx
   split
   ·split
    ·exact vJ h1 _ (yp _)
    ·exact h1
   ·exact h1
theorem yq (n:Nat) (s:Int):okR (List.replicate n (blk s)):=λc hc=>by rw [List.eq_of_mem_replicate hc]; exact yp s
theorem rL {a b:List aG} (ha:okR a) (hb:okR b):okR (a++b):=λc hc=>(List.mem_append.1 hc).elim (ha c) (hb c)
theorem vL {a:List aG} (ha:okR a) (n:Nat):okR (a.take n):=λc hc=>ha c (List.mem_of_mem_take hc)
theorem y4 {a:List aG} (ha:okR a) (n:Nat):okR (a.drop n):=λc hc=>ha c (List.mem_of_mem_drop hc)
theorem wX (a b s:Int): ∀ {l:List aG} (i:Int),okR l->okR (lQ a b s i l)
 | [],_,_=>λc hc=>by cases hc
 | c::r,i,h=>by
  intro d hd
  simp only [lQ,List.mem_cons] at hd
  rcases hd with rfl | hd
  ·split
   ·exact yp s
   ·exact h c (by simp)
  ·exact wX a b s (i+1) (λe he=>h e (by simp [he])) d hd
theorem w32 {x:Int} (h:rok x):IntKind.i64.wrap x=x:=by obtain ⟨h1,h2⟩:=h; exact w64 (by omega) (by omega)
theorem PU (r:aE) (h:r.cells.length<=1000000) (hr:okR r.cells):uY r (told r)=some true:=by
 unfold uY told
 simp only [lB]
 have e6:((bif ((r.cells.length:Int) != (r.cells.length:Int)) then some true else some (!(r.wrapped == r.wrapped))):Option Bool)=some false:=by simp
 rw [e6,aA,cond_false]
 have key: ∀ (b d:List aG),d++b=r.cells->iter (σ:=Int) (ρ:=Unit ⊕ Bool) (λa=>(bif (decide (a < (r.cells.length:Int))) then (Option.bind (idx r.cells a) λe=>(Option.bind ((Option.bind (idx (r.cells.map tc) a) λf=>(bif ((IntKind.i64.wrap e.rune) != f.rune) then some true else (Option.bind (idx (r.cells.map tc) a) λg=>(bif (e.aM != g.aM) then some true else (Option.bind (idx (r.cells.map tc) a) λi=>some (e.part != i.part)))))):Option Bool) λj=>(bif j then (ln (some false)) else some (.inl (IntKind.i64.wrap (a+1)))))) else some (.inr (.inl ())))) (d.length:Int)=some (.inl ()):=by
  intro b
  induction b with
  | nil =>
   intro d hd
   simp at hd
   subst hd
   rw [cP (r:= .inl ())]
   simp
  | cons c b ih =>
   intro d hd
   have hl:r.cells.length=d.length+b.length+1:=by rw [<- hd]; simp; omega
   have hc:decide ((d.length:Int) < (r.cells.length:Int))=true:=by simp; omega
   have hx:idx r.cells (d.length:Int)=some c:=by rw [<- hd]; exact mI d b c
   have hx2:idx (r.cells.map tc) (d.length:Int)=some (tc c):=by
    rw [<- hd,List.map_append,List.map_cons,<- lB d]
    exact mI _ _ _
   have hcr:rok c.rune:=hr c (by rw [<- hd]; simp)
   rw [dS (s':=((d++[c]).length:Int))]
   ·exact ih (d++[c]) (by simpa using hd)
   ·simp only [hc,cond_true,hx,hx2,aA,w32 hcr,tc,bne_self_eq_false,cond_false]
    rw [w64 (by omega) (by omega)]
    simp
 have h0:=key r.cells [] rfl
 have e0:((([]:List aG).length:Nat):Int)=0:=rfl
 rw [e0] at h0
 rw [h0,aA]
def ins (l:List aG) (at_ n s:Int):List aG:=if cZ l at_ n=0 then l else oD l at_.toNat (cZ l at_ n).toNat s
def del (l:List aG) (at_ n s:Int):List aG:=if cZ l at_ n=0 then l else pj l at_.toNat (cZ l at_ n).toNat s
theorem y5 (l:List aG) (at_ n:Int):cZ l at_ n=0\/(0 < cZ l at_ n/\0<=at_/\at_+cZ l at_ n<=l.length):=by
 unfold cZ
 split
 ·exact .inl rfl
 ·omega
theorem Bt {σ ρ:Type} {f:σ->Option (σ ⊕ ρ)} (S:Nat->σ) (n:Nat) (r:ρ) (hs: ∀ i,i < n->f (S i)=some (.inl (S (i+1)))) (he:f (S n)=some (.inr r)):iter f (S 0)=some r:=by
 have key: ∀ i,i<=n->iter f (S 0)=iter f (S i):=by
  intro i
  induction i with
  | zero=>intro _; rfl
  | succ i ih =>
   intro hi
   rw [ih (by omega),dS (hs i (by omega))]
 rw [key n (Nat.le_refl n),cP he]
theorem fM {σ ρ β:Type} {f:σ->Option (σ ⊕ ρ)} {s:σ} {g:ρ->Option β} {out:Option β} (S:Nat->σ) (n:Nat) (r:ρ) (h0:s=S 0) (hs: ∀ i,i < n->f (S i)=some (.inl (S (i+1)))) (he:f (S n)=some (.inr r)) (hg:g r=out):Option.bind (iter f s) g=out:=by
 rw [h0,Bt S n r hs he]
 exact hg
theorem s8 {σ ρ:Type} {f:σ->Option (σ ⊕ ρ)} (Inv:σ->Prop) (m:σ->Nat) (sQ:ρ->Prop)
  (hs: ∀ s,Inv s->(∃ s',f s=some (.inl s')/\Inv s'/\m s' < m s)\/(∃ r,f s=some (.inr r)/\sQ r)): ∀ s,Inv s -> ∃ r,iter f s=some r/\sQ r:=by
 have key: ∀ (n:Nat) s,m s<=n->Inv s -> ∃ r,iter f s=some r/\sQ r:=by
  intro n
  induction n with
  | zero =>
   intro s hm hi
   rcases hs s hi with ⟨s',hf,hi',hlt⟩ | ⟨r,hf,hp⟩
   ·omega
   ·exact ⟨r,cP hf,hp⟩
  | succ n ih =>
   intro s hm hi
   rcases hs s hi with ⟨s',hf,hi',hlt⟩ | ⟨r,hf,hp⟩
   ·rw [dS hf]
    exact ih s' (by omega) hi'
   ·exact ⟨r,cP hf,hp⟩
 intro s hi
 exact key (m s) s (Nat.le_refl _) hi
theorem pF {σ ρ β:Type} {f:σ->Option (σ ⊕ ρ)} {s:σ} {g:ρ->Option β} {out:Option β} (Inv:σ->Prop) (m:σ->Nat) (sQ:ρ->Prop) (h0:Inv s)
  (hs: ∀ s,Inv s->(∃ s',f s=some (.inl s')/\Inv s'/\m s' < m s)\/(∃ r,f s=some (.inr r)/\sQ r)) (hg: ∀ r,sQ r->g r=out):Option.bind (iter f s) g=out:=by
 obtain ⟨r,h1,h2⟩:=s8 Inv m sQ hs s h0
 rw [h1]
 exact hg r h2
theorem IM {α:Type} (l:List α) {i:Int} (h0:0<=i) (h1:i < l.length): ∃ a,idx l i=some a/\a∈l:=by
 obtain ⟨n,rfl⟩:=Int.eq_ofNat_of_zero_le h0
 rw [fZ]
 have hn:n < l.length:=by omega
 rw [List.getElem?_eq_getElem hn]
 exact ⟨_,rfl,List.getElem_mem hn⟩
theorem Bu (p q:Prop) [Decidable p] [Decidable q]:((bif decide p then some (decide q) else some false):Option Bool)=some (decide (p/\q)):=by
 by_cases a1:p <;> by_cases a2:q <;> simp [a1,a2]
theorem or2 (p q:Prop) [Decidable p] [Decidable q]:((bif decide p then some true else some (decide q)):Option Bool)=some (decide (p\/q)):=by
 by_cases a1:p <;> by_cases a2:q <;> simp [a1,a2]
theorem cU {α:Type} (l:List α) (n:Nat) (h:n < l.length):idx l (n:Int)=some l[n]:=by rw [fZ,List.getElem?_eq_getElem h]
theorem Lu {α:Type} (l r:List α) (x y:α):(l++x::r).set l.length y=l++y::r:=by simp
theorem FP {α:Type} (A B C:List α) (hi:Int) (h:hi=((A.length+B.length:Nat):Int)):cut (A++B++C) (A.length:Int) hi=B:=by
 subst h
 simp only [cut,Int.toNat_natCast]
 rw [List.take_left' (by simp),List.drop_left]
theorem rM {α:Type} (l:List α) (a b:Nat):cut l (a:Int) (b:Int)=(l.take b).drop a:=by simp [cut]
theorem y6 {α:Type} (l:List α) (b:Nat):cut l 0 (b:Int)=l.take b:=by simp [cut]
def szN (n:Int):Nat:=(max 1 (min n 1000)).toNat
theorem Ey (n:Int):imax 1 (eO n 1000)=(szN n:Int):=by rw [gN,dP]; unfold szN; omega
theorem qe (n:Int):1<=szN n:=by unfold szN; omega
theorem nV (n:Int):szN n<=1000:=by unfold szN; omega
theorem IN (n:Nat) (h0:1<=n) (h1:n<=1000):szN n=n:=by unfold szN; omega
def jE (W:Nat) (s:Int):aE:=⟨List.replicate W (blk s),false⟩
def s9 (g:aX):jh:=⟨g.w,g.l.map told⟩
def gok (W:Nat) (r:aE):Prop:=r.cells.length=W/\okR r.cells
structure GI (W:Nat) (l:List aE):Prop where
 w1:1<=W
 w2:W<=1000
 l1:1<=l.length
 l2:l.length<=1000
 rs: ∀ r∈l,gok W r
theorem td (n lo hi:Int):jy n lo hi=some (max lo (min n hi)):=by
 unfold jy
 rw [gN,dP]
theorem tf (n:Int):jZ n=some (szN n:Int):=by
 unfold jZ jy
 rw [Ey]
 rfl
theorem y7 (n:Int):pd n=some (szN n:Int):=by
 unfold pd
 rw [Ey]
theorem Bv (W:Nat) (s:Int) (h:W<=1000):kI W s=some (jE W s):=by
 rw [Br]
 have:(max 0 (min (W:Int) 1000)).toNat=W:=by omega
 rw [this]
 rfl
theorem Bx (W:Nat) (s:Int) (h:W<=1000):ka W s=some (told (jE W s)):=by
 rw [tR]
 have:(max 0 (min (W:Int) 1000)).toNat=W:=by omega
 rw [this]
 rfl
theorem tS (W:Nat) (s:Int):gok W (jE W s):=⟨by simp [jE],yq W s⟩
def yg (w h:Int):aX:=⟨(szN w:Int),List.replicate (szN h) (jE (szN w) 0)⟩
theorem Om (w h:Int):GI (szN w) (yg w h).l:=by
 refine ⟨qe w,nV w,?_,?_,?_⟩
 ·simpa [yg] using qe h
 ·simpa [yg] using nV h
 ·intro r hr
  rw [List.eq_of_mem_replicate hr]
  exact tS _ _
theorem On (w h:Int):pC w h=some (yg w h):=by
 unfold pC
 rw [tf,aA,tf,aA]
 have hw:=nV w
 have hh:=nV h
 refine fM (λi=>((⟨(szN w:Int),List.replicate i (jE (szN w) 0)⟩:aX),(i:Int))) (szN h) _ rfl ?_ ?_ rfl
 ·intro i hi
  try dsimp only
  rw [decide_eq_true (by omega),cond_true,Bv _ _ hw,aA,bL (by simp; omega),aA,w64 (by omega) (by omega),<- List.replicate_succ']
  rfl
 ·try dsimp only
  rw [decide_eq_false (by omega),cond_false]
  rfl
theorem Lv (w h:Int):sU w h=some (s9 (yg w h)):=by
 unfold sU
 rw [y7,aA]
 have hw:=nV w
 have hh:=nV h
 refine fM (λi=>((⟨(szN w:Int),List.replicate i (told (jE (szN w) 0))⟩:jh),(i:Int))) (szN h) (⟨(szN w:Int),List.replicate (szN h) (told (jE (szN w) 0))⟩:jh) rfl ?_ ?_ ?_
 ·intro i hi
  try dsimp only
  rw [y7,aA,decide_eq_true (by omega),cond_true,Bx _ _ hw,aA,bL (by simp; omega),aA,w64 (by omega) (by omega),<- List.replicate_succ']
  rfl
 ·try dsimp only
  rw [y7,aA,decide_eq_false (by omega),cond_false]
 ·simp [s9,yg]
theorem IP (r:aE) (h:r.cells.length<=1000000):ot r=some r:=by
 unfold ot
 rw [yZ _ h,aA]
def By:aE:=⟨[],false⟩
def lZ (l:List aE) (y:Int):aE:=if 0<=y/\y < l.length then l[y.toNat]?.getD By else By
theorem FQ {l:List aE} {n:Nat} (h:n < l.length):lZ l n=l[n]:=by
 unfold lZ
 rw [if_pos (by omega),Int.toNat_natCast,List.getElem?_eq_getElem h]
 rfl
theorem Oo (w:Int) (l:List aE) (y:Int) (h: ∀ r∈l,r.cells.length<=1000000):fS ⟨w,l⟩ y=some (lZ l y):=by
 unfold fS lZ
 rw [or2,aA]
 by_cases hy:0<=y/\y < l.length
 ·rw [decide_eq_false (by (try dsimp only); omega),cond_false,if_pos hy]
  obtain ⟨n,rfl⟩:=Int.eq_ofNat_of_zero_le hy.1
  have hn:n < l.length:=by omega
  simp only [Int.toNat_natCast]
  rw [cU l n hn,aA,IP _ (h _ (List.getElem_mem hn)),aA,List.getElem?_eq_getElem hn]
  rfl
 ·rw [decide_eq_true (by (try dsimp only); omega),cond_true,if_neg hy]
  rfl
def rsz (W:Nat) (r:aE):aE:=if W=r.cells.length then r else ⟨jL 0 (oE r.cells W),false⟩
theorem Oq (W:Nat) (hW:W<=1000) (r:aE) (h:r.cells.length<=1000000):kd r W=some (rsz W r):=by
 rw [G4 _ _ h]
 have:(max 0 (min (W:Int) 1000)).toNat=W:=by omega
 rw [this]
 rfl
theorem Lz (W:Nat) (hW:W<=1000) (r:aE) (h:r.cells.length<=1000000):nS (told r) W=some (told (rsz W r)):=by
 unfold told
 rw [Ew _ _ _ h]
 have:(max 0 (min (W:Int) 1000)).toNat=W:=by omega
 rw [this]
 unfold rsz
 split <;> rfl
theorem FR (W:Nat) (r:aE) (h:okR r.cells):gok W (rsz W r):=by
 unfold rsz
 split
 ·rename_i e
  exact ⟨e.symm,h⟩
 ·refine ⟨?_,qM _ _ (rL (vL h _) (yq _ _))⟩
  simp only [lP,oE,List.length_append,List.length_take,List.length_replicate]
  omega
def inG (l:List aE) (y:Int):Bool:=decide (0<=y/\y < l.length)
def uq (W:Nat) (l:List aE) (y:Int) (r:aE):List aE:=if 0<=y/\y < l.length then l.set y.toNat (rsz W r) else l
theorem kV (W:Nat) (l:List aE) (y:Int) (r:aE):(uq W l y r).length=l.length:=by
 unfold uq
 split <;> simp
theorem G7 {W:Nat} {l:List aE} (h: ∀ r∈l,gok W r) (y:Int) (r:aE) (hr:okR r.cells): ∀ q∈uq W l y r,gok W q:=by
 unfold uq
 split
 ·intro q hq
  rcases List.mem_or_eq_of_mem_set hq with hq | hq
  ·exact h q hq
  ·rw [hq]
   exact FR W r hr
 ·exact h
theorem IQ (W:Nat) (hW:W<=1000) (l:List aE) (y:Int) (r:aE) (h:r.cells.length<=1000000):fF ⟨W,l⟩ y r=some (inG l y,⟨W,uq W l y r⟩):=by
 unfold fF uq inG
 rw [or2,aA]
 by_cases hy:0<=y/\y < l.length
 ·rw [decide_eq_false (by (try dsimp only); omega),cond_false,if_pos hy,decide_eq_true hy]
  obtain ⟨n,rfl⟩:=Int.eq_ofNat_of_zero_le hy.1
  have hn:n < l.length:=by omega
  try dsimp only
  rw [Oq W hW r h,aA,cU l n hn,aA]
 ·rw [decide_eq_true (by (try dsimp only); omega),cond_true,if_neg hy,decide_eq_false hy]
theorem LA (W:Nat) (hW:W<=1000) (l:List aE) (y:Int) (r:aE) (h:r.cells.length<=1000000) (hl:l.length<=1000000):oK ⟨W,l.map told⟩ y (told r)=some (⟨W,(uq W l y r).map told⟩,inG l y):=by
 unfold oK uq inG
 rw [or2,aA]
 simp only [List.length_map]
 by_cases hy:0<=y/\y < l.length
 ·rw [decide_eq_false (by (try dsimp only); omega),cond_false,if_pos hy,decide_eq_true hy]
  obtain ⟨n,rfl⟩:=Int.eq_ofNat_of_zero_le hy.1
  have hn:n < l.length:=by omega
  rw [bL (by simp; omega),aA,Lz W hW r h,aA,List.nil_append,cU (l.map told) n (by simpa using hn),aA]
  simp only [Int.toNat_natCast,List.map_set]
 ·rw [decide_eq_true (by (try dsimp only); omega),cond_true,if_neg hy,decide_eq_false hy]
theorem tT (l:List aE) (h:l.length<=1000000):eE l=some l:=by
 unfold eE
 rw [bL (by simp; omega),aA]
 rfl
theorem LB {σ:Type} (Y:σ->aE->Option (σ×Bool)) (S:Nat->σ) (l:List aE) (hl:l.length<=1000000) (h: ∀ r∈l,r.cells.length<=1000000) (hY: ∀ i (hi:i < l.length),Y (S i) l[i]=some (S (i+1),true)):kf Y (S 0) l=some (S l.length):=by
 unfold kf
 refine fM (λi=>((i:Int),S i)) l.length (.inl (S l.length)) rfl ?_ ?_ rfl
 ·intro i hi
  try dsimp only
  rw [decide_eq_true (by omega),cond_true,cU l i hi,aA,IP _ (h _ (List.getElem_mem hi)),aA,hY i hi,aA]
  try dsimp only
  rw [Bool.not_true,cond_false,w64 (by omega) (by omega)]
  rfl
 ·try dsimp only
  rw [decide_eq_false (by omega),cond_false]
theorem y8 (l:List aE) (hl:l.length<=1000000) (h: ∀ r∈l,r.cells.length<=1000000):kg l=some (l,l):=by
 unfold kg nI
 rw [aA]
 have key:=LB (λ(s40:List aE) (x9:aE)=>(Option.bind (chk (eI s40.length [x9].length 32)) λ_=>some ((s40++[x9]),true))) (λi=>l.take i) l hl h (by
  intro i hi
  try dsimp only
  rw [bL (by simp; omega),aA,<- List.take_succ_eq_append_getElem hi])
 rw [List.take_length] at key
 change kf _ ([]:List aE) l=some l at key
 rw [key]
 rfl
theorem yn (w:Int) (l:List aE) (hl:l.length<=1000000) (h: ∀ r∈l,r.cells.length<=1000000):ly ⟨w,l⟩=some (l,⟨w,l⟩):=by
 unfold ly
 try dsimp only
 rw [y8 l hl h,aA,kj rfl,aA]
theorem Ez (w:Int) (l:List aE) (hl:l.length<=1000000) (h: ∀ r∈l,r.cells.length<=1000000):kL ⟨w,l⟩=some (⟨w,l⟩,⟨w,l⟩):=by
 unfold kL
 try dsimp only
 rw [y8 l hl h,aA,kj rfl,aA]
theorem IS (a b:List aE) (ha:a.length<=1000000) (h: ∀ r∈a,r.cells.length<=1000000):dL a b=some (decide (a=b)):=by
 unfold dL
 by_cases hl:a.length=b.length
 ·have e0:((a.length:Int) != (b.length:Int))=false:=by simp [hl]
  rw [e0,cond_false]
  refine pF (λi:Int=> ∃ n:Nat,i=n/\n<=a.length/\a.take n=b.take n) (λi=>(a.length - i).toNat) (λr=>r=(if a=b then .inl () else .inr false)) ⟨0,rfl,by omega,rfl⟩ ?_ ?_
  ·rintro i ⟨n,rfl,hn,ht⟩
   by_cases h1:n < a.length
   ·have h2:n < b.length:=by omega
    try dsimp only
    rw [decide_eq_true (by omega),cond_true,cU a n h1,cU b n h2,aA,aA,yo _ _ (h _ (List.getElem_mem h1)),aA]
    by_cases he:a[n]=b[n]
    ·refine .inl ⟨((n+1:Nat):Int),?_,⟨n+1,rfl,by omega,?_⟩,by (try dsimp only); omega⟩
     ·rw [decide_eq_true he,w64 (by omega) (by omega)]
      rfl
     ·rw [List.take_succ_eq_append_getElem h1,List.take_succ_eq_append_getElem h2,ht,he]
    ·refine .inr ⟨.inr false,?_,?_⟩
     ·rw [decide_eq_false he]
      rfl
     ·rw [if_neg]
      intro hab
      subst hab
      exact he rfl
   ·refine .inr ⟨.inl (),?_,?_⟩
    ·try dsimp only
     rw [decide_eq_false (by omega),cond_false]
    ·rw [if_pos]
     have hn2:n=a.length:=by omega
     subst hn2
     rw [List.take_length] at ht
     rw [ht,hl,List.take_length]
  ·intro r hr
   subst hr
   by_cases hab:a=b
   ·rw [if_pos hab,decide_eq_true hab]
   ·rw [if_neg hab,decide_eq_false hab]
 ·have e0:((a.length:Int) != (b.length:Int))=true:=by simp; omega
  rw [e0,cond_true,decide_eq_false]
  intro h
  exact hl (by rw [h])
theorem nW {α:Type} {l r:List α} {x:α} {k:Int} (h:k=l.length):idx (l++x::r) k=some x:=by rw [h,mI]
theorem pG {α:Type} {l r:List α} {x y:α} {k:Nat} (h:k=l.length):(l++x::r).set k y=l++y::r:=by rw [h,Lu]
theorem o8 {α:Type} (l:List α) (a b:Nat) (h:a<=b) (h2:b<=l.length):(cut l (a:Int) (b:Int)).length=b - a:=by
 rw [rM,List.length_drop,List.length_take]
 omega
def loS (l:List aE) (t:Int):Nat:=(max 0 (min t ((l.length:Int) - 1))).toNat
theorem wY (l:List aE) (t:Int) (h:1<=l.length):loS l t < l.length:=by unfold loS; omega
theorem pH (l:List aE) (t:Int):max 0 (min t ((l.length:Int) - 1))=(loS l t:Int):=by unfold loS; omega
theorem AD (w:Int) (l:List aE) (top aL:Int) (h1:1<=l.length) (h2:l.length<=1000000):eK ⟨w,l⟩ top aL=some (if loS l aL < loS l top then .inl () else .inr ((loS l top:Int),((loS l aL+1:Nat):Int))):=by
 unfold eK
 dsimp only
 have ht:=wY l top h1
 have hb:=wY l aL h1
 rw [w64 (x:=(l.length:Int) - 1) (by omega) (by omega),td,aA,td,aA,pH,pH]
 by_cases h:loS l aL < loS l top
 ·rw [decide_eq_true (by omega),cond_true,if_pos h]
 ·rw [decide_eq_false (by omega),cond_false,if_neg h,w64 (by omega) (by omega),bP (by omega) (by omega) (by omega),aA]
  rfl
def kN (n:Int) (b:Nat):Nat:=(max 0 (min n (b:Int))).toNat
theorem Ns (n:Int) (b:Nat):max 0 (min n (b:Int))=(kN n b:Int):=by unfold kN; omega
theorem FT (n:Int) (b:Nat):kN n b<=b:=by unfold kN; omega
def upB {α:Type} (k:Nat) (B:List α) (x:α):List α:=B.drop k++List.replicate (min k B.length) x
def m5 {α:Type} (k:Nat) (B:List α) (x:α):List α:=List.replicate (min k B.length) x++B.take (B.length - k)
theorem y9 {α:Type} (k:Nat) (B:List α) (x:α):(upB k B x).length=B.length:=by
 unfold upB
 rw [List.length_append,List.length_drop,List.length_replicate]
 omega
theorem vM {α:Type} (k:Nat) (B:List α) (x:α):(m5 k B x).length=B.length:=by
 unfold m5
 rw [List.length_append,List.length_take,List.length_replicate]
 omega
theorem LC {α β:Type} (f:α->β) (k:Nat) (B:List α) (x:α):(upB k B x).map f=upB k (B.map f) (f x):=by
 simp [upB]
theorem G8 {α β:Type} (f:α->β) (k:Nat) (B:List α) (x:α):(m5 k B x).map f=m5 k (B.map f) (f x):=by
 simp [m5]
theorem IT {α:Type} (A B C:List α) (n:Nat) (h:n<=B.length):(A++B++C).drop (A.length+n)=B.drop n++C:=by
 rw [List.append_assoc,List.drop_append,List.drop_append]
 have e1:A.drop (A.length+n)=[]:=List.drop_eq_nil_of_le (by omega)
 have e2:A.length+n - A.length=n:=by omega
 have e3:n - B.length=0:=by omega
 rw [e1,e2,e3,List.nil_append,List.drop_zero]
theorem Nt {α:Type} (A B C:List α) (n:Nat) (h:n<=B.length):(A++B++C).take (A.length+n)=A++B.take n:=by
 rw [List.append_assoc,List.take_append,List.take_append]
 have e1:A.take (A.length+n)=A:=List.take_of_length_le (by omega)
 have e2:A.length+n - A.length=n:=by omega
 have e3:n - B.length=0:=by omega
 rw [e1,e2,e3,List.take_zero,List.append_nil]
theorem LD {α:Type} (A B C:List α) (m n:Nat) (h:n<=B.length) (h2:m<=n):cut (A++B++C) ((A.length+m:Nat):Int) ((A.length+n:Nat):Int)=(B.take n).drop m:=by
 rw [rM,Nt A B C n h]
 have:=IT A (B.take n) [] m (by rw [List.length_take]; omega)
 simp
theorem PV (W:Nat) (hW:W<=1000) (A B C:List aE) (top aL n s:Int) (hl:(A++B++C).length<=1000000) (hB:1<=B.length)
  (hreg:eK ⟨W,A++B++C⟩ top aL=some (.inr ((A.length:Int),((A.length+B.length:Nat):Int)))) :
  gI ⟨W,A++B++C⟩ top aL n s=some (B.take (kN n B.length),⟨W,A++upB (kN n B.length) B (jE W s)++C⟩):=by
 unfold gI
 rw [hreg,aA]
 dsimp only
 have hk:=FT n B.length
 simp only [List.length_append] at hl
 rw [bP (by omega) (by omega) (by simp only [List.length_append]; omega),aA,FP A B C _ rfl,td,aA,Ns]
 generalize kN n B.length=k at hk
 rw [bP (by omega) (by omega) (by omega),aA]
 have e1:cut (A++B++C) ((A.length:Int)+0) ((A.length:Int)+(k:Int))=B.take k:=by
  have:=LD A B C 0 k hk (by omega)
  simpa using this
 have e2:sF (A++B++C) (A.length:Int) ((A.length+B.length:Nat):Int) ((A.length:Int)+(k:Int)) ((A.length:Int)+(B.length:Int))=A++B.drop k++(B.drop (B.length - k)++C):=by
  have c:=LD A B C k B.length (Nat.le_refl _) hk
  rw [List.take_length] at c
  have c':cut (A++B++C) ((A.length:Int)+(k:Int)) ((A.length:Int)+(B.length:Int))=B.drop k:=by simpa using c
  unfold sF
  rw [c',Int.toNat_natCast,Int.toNat_natCast,List.append_assoc A B C,List.take_left,List.take_of_length_le (l:=B.drop k) (by rw [List.length_drop]; omega),List.length_drop,<- List.append_assoc A B C,IT A B C _ (by omega)]
 rw [e1,tT _ (by rw [List.length_take]; omega),aA,bP (by omega) (by omega) (by omega),aA,e2]
 have hL:(cut (A++B.drop k++(B.drop (B.length - k)++C)) (A.length:Int) ((A.length+B.length:Nat):Int)).length=B.length:=by
  rw [o8 _ _ _ (by omega) (by simp; omega)]
  omega
 rw [hL,w64 (by omega) (by omega)]
 refine fM (λi=>((⟨W,A++(B.drop k++List.replicate i (jE W s))++(B.drop (B.length - k+i)++C)⟩:aX),((B.length - k+i:Nat):Int))) k (⟨W,A++upB k B (jE W s)++C⟩:aX) ?_ ?_ ?_ rfl
 ·have:(B.length:Int) - (k:Int)=((B.length - k+0:Nat):Int):=by omega
  rw [this]
  simp
 ·intro i hi
  dsimp only
  have hlen:(A++(B.drop k++List.replicate i (jE W s))++(B.drop (B.length - k+i)++C)).length=A.length+B.length+C.length:=by simp; omega
  have hc:(cut (A++(B.drop k++List.replicate i (jE W s))++(B.drop (B.length - k+i)++C)) (A.length:Int) ((A.length+B.length:Nat):Int)).length=B.length:=by
   rw [o8 _ _ _ (by omega) (by rw [hlen]; omega)]
   omega
  rw [hc,decide_eq_true (by omega),cond_true,Bv _ _ hW,aA,bP (by omega) (by omega) (by rw [hlen]; omega),aA]
  obtain ⟨x,hx,_⟩:=IM (cut (A++(B.drop k++List.replicate i (jE W s))++(B.drop (B.length - k+i)++C)) (A.length:Int) ((A.length+B.length:Nat):Int)) (i:=((B.length - k+i:Nat):Int)) (by omega) (by rw [hc]; omega)
  rw [hx,aA,w64 (by omega) (by omega),List.drop_eq_getElem_cons (l:=B) (i:=B.length - k+i) (by omega),List.cons_append,pG (by simp; omega),List.replicate_succ']
  simp [Nat.add_assoc]
  omega
 ·dsimp only
  have hlen:(A++(B.drop k++List.replicate k (jE W s))++(B.drop (B.length - k+k)++C)).length=A.length+B.length+C.length:=by simp; omega
  have hc:(cut (A++(B.drop k++List.replicate k (jE W s))++(B.drop (B.length - k+k)++C)) (A.length:Int) ((A.length+B.length:Nat):Int)).length=B.length:=by
   rw [o8 _ _ _ (by omega) (by rw [hlen]; omega)]
   omega
  rw [hc,decide_eq_false (by omega),cond_false,List.drop_eq_nil_of_le (as:=B) (i:=B.length - k+k) (by omega)]
  unfold upB
  rw [Nat.min_eq_left hk]
  simp
theorem EA (l:List aE) (h:l.length<=1000000):gG l=some l.reverse:=by
 unfold gG
 refine pF (λs:List aE×Int×Int=> ∃ t:Nat,s.2.1=t/\s.2.2=(l.length:Int) - 1 - t/\2*t<=l.length+1/\s.1.length=l.length /\ ∀ p,p < l.length->s.1[p]?=if p < t\/l.length - 1 - t < p then l[l.length - 1 - p]? else l[p]?) (λs=>(s.2.2 - s.2.1+1).toNat) (λr=>r=l.reverse) ?_ ?_ (λr hr=>by rw [hr])
 ·refine ⟨0,rfl,?_,by omega,rfl,λp hp=> ?_⟩
  ·dsimp only
   rw [w64 (by omega) (by omega)]
   omega
  ·rw [if_neg (by omega)]
 ·rintro ⟨L,i,j⟩ ⟨t,hi,hj,ht,hL,hp⟩
  dsimp only at hi hj hL hp ⊢
  subst hi hj
  by_cases hlt:(t:Int) < (l.length:Int) - 1 - t
  ·have hj:(l.length:Int) - 1 - (t:Int)=((l.length - 1 - t:Nat):Int):=by omega
   have h1:t < L.length:=by omega
   have h2:l.length - 1 - t < L.length:=by omega
   have g1:=hp t (by omega)
   have g2:=hp (l.length - 1 - t) (by omega)
   rw [if_neg (by omega)] at g1 g2
   refine .inl ⟨((L.set t L[l.length - 1 - t]).set (l.length - 1 - t) L[t],((t+1:Nat):Int),(l.length:Int) - 1 - ((t+1:Nat):Int)),?_,⟨t+1,rfl,rfl,by omega,by simp [hL],?_⟩,by dsimp only; omega⟩
   ·rw [decide_eq_true hlt,cond_true,hj,cU L _ h1,cU L _ h2]
    simp only [aA,Int.toNat_natCast]
    rw [w64 (by omega) (by omega),w64 (by omega) (by omega)]
    congr 3
    congr 1
    omega
   ·intro p hpl
    have hg1:L[t]?=some L[t]:=List.getElem?_eq_getElem h1
    have hg2:L[l.length - 1 - t]?=some L[l.length - 1 - t]:=List.getElem?_eq_getElem h2
    dsimp only
    by_cases c1:p=l.length - 1 - t
    ·subst c1
     rw [List.getElem?_set_self (by simpa using h2),if_pos (by omega),<- hg1,g1]
     congr 1
     omega
    ·rw [List.getElem?_set_ne (λe=>c1 e.symm)]
     by_cases c2:p=t
     ·subst c2
      rw [List.getElem?_set_self h1,if_pos (by omega),<- hg2,g2]
     ·rw [List.getElem?_set_ne (λe=>c2 e.symm),hp p hpl]
      by_cases c3:p < t\/l.length - 1 - t < p
      ·rw [if_pos c3,if_pos (by omega)]
      ·rw [if_neg c3,if_neg (by omega)]
  ·refine .inr ⟨L,by rw [decide_eq_false hlt,cond_false],?_⟩
   apply List.ext_getElem?
   intro p
   by_cases hpl:p < l.length
   ·rw [hp p hpl,List.getElem?_reverse hpl]
    by_cases c3:p < t\/l.length - 1 - t < p
    ·rw [if_pos c3]
    ·rw [if_neg c3]
     congr 1
     omega
   ·rw [List.getElem?_eq_none (by omega),List.getElem?_eq_none (by simp; omega)]
theorem LF (W:Nat) (hW:W<=1000) (A B C:List aE) (top aL n s:Int) (hl:(A++B++C).length<=1000000) (hB:1<=B.length)
  (hreg:eK ⟨W,A++B++C⟩ top aL=some (.inr ((A.length:Int),((A.length+B.length:Nat):Int)))) :
  eU ⟨W,A++B++C⟩ top aL n s=some ((B.drop (B.length - kN n B.length)).reverse,⟨W,A++m5 (kN n B.length) B (jE W s)++C⟩):=by
 unfold eU
 rw [hreg,aA]
 dsimp only
 have hk:=FT n B.length
 simp only [List.length_append] at hl
 rw [bP (by omega) (by omega) (by simp only [List.length_append]; omega),aA,FP A B C _ rfl,td,aA,Ns]
 generalize kN n B.length=k at hk
 rw [w64 (x:=(B.length:Int) - (k:Int)) (by omega) (by omega)]
 have hbk:(B.length:Int) - (k:Int)=((B.length - k:Nat):Int):=by omega
 rw [hbk,bP (by omega) (by omega) (by omega),aA]
 have e1:cut (A++B++C) ((A.length:Int)+((B.length - k:Nat):Int)) ((A.length:Int)+(B.length:Int))=B.drop (B.length - k):=by
  have:=LD A B C (B.length - k) B.length (Nat.le_refl _) (by omega)
  rw [List.take_length] at this
  simpa using this
 have e2:sF (A++B++C) ((A.length:Int)+(k:Int)) ((A.length:Int)+(B.length:Int)) ((A.length:Int)+0) ((A.length:Int)+((B.length - k:Nat):Int))=A++B.take k++(B.take (B.length - k)++C):=by
  have c:=LD A B C 0 (B.length - k) (by omega) (by omega)
  rw [List.drop_zero] at c
  have c':cut (A++B++C) ((A.length:Int)+0) ((A.length:Int)+((B.length - k:Nat):Int))=B.take (B.length - k):=by simpa using c
  have t1:((A.length:Int)+(k:Int)).toNat=A.length+k:=by omega
  have t2:((A.length:Int)+(B.length:Int)).toNat=A.length+B.length:=by omega
  unfold sF
  rw [c',t1,t2,Nt A B C k hk,List.take_of_length_le (l:=B.take (B.length - k)) (by rw [List.length_take]; omega),List.length_take]
  have t3:A.length+k+min (B.length - k) B.length=A.length+B.length:=by omega
  rw [t3,IT A B C _ (Nat.le_refl _),List.drop_eq_nil_of_le (Nat.le_refl _),List.nil_append,List.append_assoc (A++B.take k)]
 rw [e1,tT _ (by rw [List.length_drop]; omega),aA,EA _ (by rw [List.length_drop]; omega),aA,kj (by simp),aA,bP (by omega) (by omega) (by omega),aA,bP (by omega) (by omega) (by omega),aA,e2]
 refine fM (λi=>((⟨W,A++List.replicate i (jE W s)++((B.take k).drop i++(B.take (B.length - k)++C))⟩:aX),(i:Int))) k (⟨W,A++m5 k B (jE W s)++C⟩:aX) ?_ ?_ ?_ rfl
 ·simp
 ·intro i hi
  dsimp only
  have hlen:(A++List.replicate i (jE W s)++((B.take k).drop i++(B.take (B.length - k)++C))).length=A.length+B.length+C.length:=by simp; omega
  have hc:(cut (A++List.replicate i (jE W s)++((B.take k).drop i++(B.take (B.length - k)++C))) (A.length:Int) ((A.length+B.length:Nat):Int)).length=B.length:=by
   rw [o8 _ _ _ (by omega) (by rw [hlen]; omega)]
   omega
  rw [decide_eq_true (by omega),cond_true,Bv _ _ hW,aA,bP (by omega) (by omega) (by rw [hlen]; omega),aA]
  obtain ⟨x,hx,_⟩:=IM (cut (A++List.replicate i (jE W s)++((B.take k).drop i++(B.take (B.length - k)++C))) (A.length:Int) ((A.length+B.length:Nat):Int)) (i:=(i:Int)) (by omega) (by rw [hc]; omega)
  have htl:i < (B.take k).length:=by rw [List.length_take]; omega
  rw [hx,aA,w64 (by omega) (by omega),List.drop_eq_getElem_cons htl,List.cons_append,pG (by simp),List.replicate_succ']
  simp
 ·dsimp only
  rw [decide_eq_false (by omega),cond_false,List.drop_eq_nil_of_le (as:=B.take k) (i:=k) (by rw [List.length_take]; omega)]
  unfold m5
  rw [Nat.min_eq_left hk]
  simp
variable {α : Type}
theorem IU (B:List α) (x:α):upB 0 B x=B:=by simp [upB]
theorem EB (B:List α) (x:α):m5 0 B x=B:=by simp [m5]
theorem IV (B:List α) (x:α) (i:Nat) (h:i < B.length):upB i B x=B[i]::(B.drop (i+1)++List.replicate i x):=by
 unfold upB
 rw [Nat.min_eq_left (by omega),List.drop_eq_getElem_cons h,List.cons_append]
theorem IW (B:List α) (x:α) (i:Nat) (h:i < B.length):upB (i+1) B x=(B.drop (i+1)++List.replicate i x)++[x]:=by
 unfold upB
 rw [Nat.min_eq_left (by omega),List.replicate_succ',List.append_assoc]
theorem EC (B:List α) (x:α) (i:Nat) (h:i < B.length):m5 i B x=(List.replicate i x++B.take (B.length - i - 1))++[B[B.length - i - 1]'(by omega)]:=by
 unfold m5
 rw [Nat.min_eq_left (by omega),List.append_assoc,<- List.take_succ_eq_append_getElem]
 congr 2
 omega
theorem ED (B:List α) (x:α) (i:Nat) (h:i < B.length):m5 (i+1) B x=x::(List.replicate i x++B.take (B.length - i - 1)):=by
 unfold m5
 rw [Nat.min_eq_left (by omega),List.replicate_succ,List.cons_append]
 congr 3
theorem take_one {l:List α} (h:0 < l.length):l.take 1=[l[0]]:=by
 cases l with
 | nil=>simp at h
 | cons a t=>rfl
theorem Q2 {ρ β:Type} (lo hi:Int) (A T C:List aW) (y:aW) (g:List aW->Option β) (out:Option β) (hl:(A++(y::T)++C).length<=1000000) (hlo:lo=A.length) (hhi:hi=lo+T.length)
  (hg:g ((A++T)++((y::T).drop T.length++C))=out) :
  Option.bind (iter (σ:=(List aW)×Int) (ρ:=(List aW)) (λa=>(bif (decide (a.2 < hi)) then (Option.bind (idx a.1 (IntKind.i64.wrap (a.2+1))) λb=>(Option.bind (idx a.1 a.2) λc=>some (.inl ((a.1.set a.2.toNat b),(IntKind.i64.wrap (a.2+1)))))) else some (.inr a.1))) (A++(y::T)++C,lo)) g=out:=by
 subst hlo
 simp only [List.length_append,List.length_cons] at hl
 refine fM (λj=>((A++T.take j)++((y::T).drop j++C),((A.length+j:Nat):Int))) T.length _ ?_ ?_ ?_ hg
 ·simp
 ·intro j hj
  dsimp only
  have e1:(y::T).drop j=(y::T)[j]'(by simp; omega)::T[j]::T.drop (j+1):=by
   rw [List.drop_eq_getElem_cons (by simp; omega),List.drop_succ_cons,List.drop_eq_getElem_cons hj]
  have e2:A++T.take j++((y::T).drop j++C)=((A++T.take j)++[(y::T)[j]'(by simp; omega)])++T[j]::(T.drop (j+1)++C):=by rw [e1]; simp only [List.append_assoc,List.cons_append,List.nil_append]
  have e3:A++T.take j++((y::T).drop j++C)=(A++T.take j)++(y::T)[j]'(by simp; omega)::(T[j]::(T.drop (j+1)++C)):=by rw [e1]; simp only [List.append_assoc,List.cons_append,List.nil_append]
  rw [decide_eq_true (by omega),cond_true,w64 (by omega) (by omega)]
  rw [show idx (A++T.take j++((y::T).drop j++C)) (((A.length+j:Nat):Int)+1)=some T[j] by rw [e2]; exact nW (by simp; omega)]
  rw [aA]
  rw [show idx (A++T.take j++((y::T).drop j++C)) ((A.length+j:Nat):Int)=some ((y::T)[j]'(by simp; omega)) by rw [e3]; exact nW (by simp; omega)]
  rw [aA,Int.toNat_natCast,e3,pG (by simp; omega),List.drop_succ_cons,List.drop_eq_getElem_cons hj,List.take_succ_eq_append_getElem hj]
  have t4:((A.length+j:Nat):Int)+1=((A.length+(j+1):Nat):Int):=by omega
  rw [t4]
  simp only [List.append_assoc,List.cons_append,List.nil_append]
 ·dsimp only
  rw [decide_eq_false (by omega),cond_false,List.take_length]
theorem Ot {ρ β:Type} (lo hi:Int) (A T C:List aW) (y:aW) (g:List aW->Option β) (out:Option β) (hl:(A++(T++[y])++C).length<=1000000) (hlo:lo=A.length) (hhi:hi=lo+T.length)
  (hg:g (A++(T++[y]).take 1++(T++C))=out) :
  Option.bind (iter (σ:=(List aW)×Int) (ρ:=(List aW)) (λa=>(bif (decide (a.2 > lo)) then (Option.bind (idx a.1 (IntKind.i64.wrap (a.2 - 1))) λb=>(Option.bind (idx a.1 a.2) λc=>some (.inl ((a.1.set a.2.toNat b),(IntKind.i64.wrap (a.2 - 1)))))) else some (.inr a.1))) (A++(T++[y])++C,hi)) g=out:=by
 subst hlo
 simp only [List.length_append,List.length_cons,List.length_nil] at hl
 refine fM (λj=>((A++(T++[y]).take (T.length+1 - j))++(T.drop (T.length - j)++C),((A.length+(T.length - j):Nat):Int))) T.length _ ?_ ?_ ?_ hg
 ·have:(T++[y]).take (T.length+1 - 0)=T++[y]:=List.take_of_length_le (by simp)
  try dsimp only
  rw [hhi,this]
  simp
 ·intro j hj
  dsimp only
  have hz:T.length - 1 - j < T.length:=by omega
  have hzz:T.length - j < (T++[y]).length:=by simp; omega
  have t1:(T++[y]).take (T.length+1 - j)=(T++[y]).take (T.length - 1 - j)++[T[T.length - 1 - j]]++[(T++[y])[T.length - j]]:=by
   have a1:T.length+1 - j=(T.length - j)+1:=by omega
   have a2:T.length - j=(T.length - 1 - j)+1:=by omega
   rw [a1,List.take_succ_eq_append_getElem hzz]
   congr 1
   rw [a2,List.take_succ_eq_append_getElem (by simp; omega)]
   congr 2
   rw [List.getElem_append_left hz]
  have e2:A++(T++[y]).take (T.length+1 - j)++(T.drop (T.length - j)++C)=(A++(T++[y]).take (T.length - 1 - j))++T[T.length - 1 - j]::((T++[y])[T.length - j]::(T.drop (T.length - j)++C)):=by rw [t1]; simp
  have e3:A++(T++[y]).take (T.length+1 - j)++(T.drop (T.length - j)++C)=(A++(T++[y]).take (T.length - 1 - j)++[T[T.length - 1 - j]])++(T++[y])[T.length - j]::(T.drop (T.length - j)++C):=by rw [t1]; simp
  rw [decide_eq_true (by omega),cond_true,w64 (by omega) (by omega)]
  rw [show idx (A++(T++[y]).take (T.length+1 - j)++(T.drop (T.length - j)++C)) (((A.length+(T.length - j):Nat):Int) - 1)=some T[T.length - 1 - j] by rw [e2]; exact nW (by simp; omega)]
  rw [aA]
  rw [show idx (A++(T++[y]).take (T.length+1 - j)++(T.drop (T.length - j)++C)) ((A.length+(T.length - j):Nat):Int)=some ((T++[y])[T.length - j]) by rw [e3]; exact nW (by simp; omega)]
  rw [aA,Int.toNat_natCast,e3,pG (by simp; omega)]
  have t2:(T++[y]).take (T.length+1 - (j+1))=(T++[y]).take (T.length - 1 - j)++[T[T.length - 1 - j]]:=by
   have a2:T.length+1 - (j+1)=(T.length - 1 - j)+1:=by omega
   rw [a2,List.take_succ_eq_append_getElem (by simp; omega)]
   congr 2
   rw [List.getElem_append_left hz]
  have t3:T.drop (T.length - (j+1))=T[T.length - 1 - j]::T.drop (T.length - j):=by
   have a2:T.length - (j+1)=T.length - 1 - j:=by omega
   rw [a2,List.drop_eq_getElem_cons hz]
   congr 2
   omega
  rw [t2,t3]
  have t4:((A.length+(T.length - j):Nat):Int) - 1=((A.length+(T.length - (j+1)):Nat):Int):=by omega
  rw [t4]
  simp
 ·dsimp only
  rw [decide_eq_false (by omega),cond_false]
  have:T.length+1 - T.length=1:=by omega
  rw [this,Nat.sub_self,List.drop_zero]
theorem IX (W:Nat) (hW:W<=1000) (A B C:List aW) (top aL n s:Int) (hl:(A++B++C).length<=1000000) (hB:1<=B.length)
  (h1:max 0 (min top (((A++B++C).length:Int) - 1))=A.length) (h2:max 0 (min aL (((A++B++C).length:Int) - 1))=A.length+B.length - 1) :
  eR ⟨W,A++B++C⟩ true top aL n s=some (⟨W,A++upB (kN n B.length) B (told (jE W s))++C⟩,B.take (kN n B.length)):=by
 unfold eR
 dsimp only
 have hl':=hl
 simp only [List.length_append] at hl'
 rw [w64 (x:=((A++B++C).length:Int) - 1) (by omega) (by omega)]
 simp only [gN,dP,h1,h2]
 have hk:=FT n B.length
 have hkn: ∀ i:Nat,i < kN n B.length->(i:Int) < n:=λi hi=>by unfold kN at hi; omega
 have hkx: ¬ (((kN n B.length:Nat):Int) < n/\((kN n B.length:Nat):Int)<=(A.length:Int)+(B.length:Int) - 1 - (A.length:Int)):=by unfold kN; omega
 generalize kN n B.length=k at hk hkn hkx
 rw [decide_eq_false (by omega),cond_false,bL (by simp; omega),aA,Bx _ _ hW,aA,List.nil_append]
 refine fM (λi=>(B.take i,A++upB i B (told (jE W s))++C,(i:Int))) k (B.take k,A++upB k B (told (jE W s))++C) ?_ ?_ ?_ rfl
 ·rw [IU]
  rfl
 ·intro i hi
  dsimp only
  have hib:i < B.length:=by omega
  rw [Bu,w64 (x:=(A.length:Int)+(B.length:Int) - 1 - (A.length:Int)) (by omega) (by omega),decide_eq_true ⟨hkn i hi,by omega⟩,aA,cond_true,cond_true,IV _ _ _ hib]
  rw [show idx (A++B[i]::(B.drop (i+1)++List.replicate i (told (jE W s)))++C) (A.length:Int)=some B[i] by rw [List.append_assoc,List.cons_append]; exact nW rfl]
  rw [aA,bL (by simp; omega),aA]
  rw [Q2 (ρ:=Unit) (A.length:Int) ((A.length:Int)+(B.length:Int) - 1) A (B.drop (i+1)++List.replicate i (told (jE W s))) C B[i] _ (some (B.take (i+1),A++upB (i+1) B (told (jE W s))++C)) (by simp; omega) rfl (by simp; omega)]
  ·rw [aA,w64 (by omega) (by omega)]
   rfl
  ·generalize hT:B.drop (i+1)++List.replicate i (told (jE W s))=T
   have hTl:A.length+T.length=A.length+B.length - 1:=by rw [<- hT]; simp; omega
   have hd:(B[i]::T).drop T.length=[(B[i]::T)[T.length]]:=by
    rw [List.drop_eq_getElem_cons (by simp),List.drop_eq_nil_of_le (by simp)]
   rw [hd,List.singleton_append]
   rw [nW (by simp; omega),aA,IW _ _ _ hib,hT,pG (by simp; omega),List.take_succ_eq_append_getElem hib]
   simp
 ·dsimp only
  rw [Bu,w64 (x:=(A.length:Int)+(B.length:Int) - 1 - (A.length:Int)) (by omega) (by omega),decide_eq_false hkx,aA,cond_false]
theorem EE (W:Nat) (hW:W<=1000) (A B C:List aW) (top aL n s:Int) (hl:(A++B++C).length<=1000000) (hB:1<=B.length)
  (h1:max 0 (min top (((A++B++C).length:Int) - 1))=A.length) (h2:max 0 (min aL (((A++B++C).length:Int) - 1))=A.length+B.length - 1) :
  eR ⟨W,A++B++C⟩ false top aL n s=some (⟨W,A++m5 (kN n B.length) B (told (jE W s))++C⟩,(B.drop (B.length - kN n B.length)).reverse):=by
 unfold eR
 dsimp only
 have hl':=hl
 simp only [List.length_append] at hl'
 rw [w64 (x:=((A++B++C).length:Int) - 1) (by omega) (by omega)]
 simp only [gN,dP,h1,h2]
 have hk:=FT n B.length
 have hkn: ∀ i:Nat,i < kN n B.length->(i:Int) < n:=λi hi=>by unfold kN at hi; omega
 have hkx: ¬ (((kN n B.length:Nat):Int) < n/\((kN n B.length:Nat):Int)<=(A.length:Int)+(B.length:Int) - 1 - (A.length:Int)):=by unfold kN; omega
 generalize kN n B.length=k at hk hkn hkx
 rw [decide_eq_false (by omega),cond_false,bL (by simp; omega),aA,Bx _ _ hW,aA,List.nil_append]
 refine fM (λi=>((B.drop (B.length - i)).reverse,A++m5 i B (told (jE W s))++C,(i:Int))) k ((B.drop (B.length - k)).reverse,A++m5 k B (told (jE W s))++C) ?_ ?_ ?_ rfl
 ·rw [EB]
  simp
 ·intro i hi
  dsimp only
  have hib:i < B.length:=by omega
  rw [Bu,w64 (x:=(A.length:Int)+(B.length:Int) - 1 - (A.length:Int)) (by omega) (by omega),decide_eq_true ⟨hkn i hi,by omega⟩,aA,cond_true,cond_false,EC _ _ _ hib]
  have hTl:A.length+(List.replicate i (told (jE W s))++B.take (B.length - i - 1)).length=A.length+B.length - 1:=by simp; omega
  rw [show idx (A++((List.replicate i (told (jE W s))++B.take (B.length - i - 1))++[B[B.length - i - 1]'(by omega)])++C) ((A.length:Int)+(B.length:Int) - 1)=some (B[B.length - i - 1]'(by omega)) by
   rw [<- List.append_assoc A,List.append_assoc (A++(List.replicate i (told (jE W s))++B.take (B.length - i - 1))),List.singleton_append]; exact nW (by rw [List.length_append]; omega)]
  rw [aA,bL (by simp; omega),aA]
  rw [Ot (ρ:=Unit) (A.length:Int) ((A.length:Int)+(B.length:Int) - 1) A (List.replicate i (told (jE W s))++B.take (B.length - i - 1)) C (B[B.length - i - 1]'(by omega)) _ (some ((B.drop (B.length - (i+1))).reverse,A++m5 (i+1) B (told (jE W s))++C)) (by simp; omega) rfl (by omega)]
  ·rw [aA,w64 (by omega) (by omega)]
   rfl
  ·rw [ED _ _ _ hib]
   generalize hT:List.replicate i (told (jE W s))++B.take (B.length - i - 1)=T
   have hd:(T++[B[B.length - i - 1]'(by omega)]).take 1=[(T++[B[B.length - i - 1]'(by omega)])[0]'(by simp)]:=by
    exact take_one (by simp)
   rw [hd,List.append_assoc A,List.singleton_append]
   rw [nW rfl,aA,Int.toNat_natCast,pG rfl]
   have a1:B.length - i=(B.length - i - 1)+1:=by omega
   have a2:B.length - (i+1)=B.length - i - 1:=by omega
   rw [a2,List.drop_eq_getElem_cons (i:=B.length - i - 1) (by omega),<- a1]
   simp
 ·dsimp only
  rw [Bu,w64 (x:=(A.length:Int)+(B.length:Int) - 1 - (A.length:Int)) (by omega) (by omega),decide_eq_false hkx,aA,cond_false]
end Go.Tw.X
namespace Go.Tw.X
open Go Go.Tw
theorem GI.len {W:Nat} {l:List aE} (h:GI W l): ∀ r∈l,r.cells.length<=1000000:=λr hr=>by
 have:=(h.rs r hr).1
 have:=h.w2
 omega
def rgB (l:List aE) (t b:Int):List aE:=(l.take (loS l b+1)).drop (loS l t)
def upL (W:Nat) (l:List aE) (t b n s:Int):List aE:=if loS l b < loS l t then l else l.take (loS l t)++upB (kN n (rgB l t b).length) (rgB l t b) (jE W s)++l.drop (loS l b+1)
def upO (l:List aE) (t b n:Int):List aE:=if loS l b < loS l t then [] else (rgB l t b).take (kN n (rgB l t b).length)
def th (W:Nat) (l:List aE) (t b n s:Int):List aE:=if loS l b < loS l t then l else l.take (loS l t)++m5 (kN n (rgB l t b).length) (rgB l t b) (jE W s)++l.drop (loS l b+1)
def uI (l:List aE) (t b n:Int):List aE:=if loS l b < loS l t then [] else ((rgB l t b).drop ((rgB l t b).length - kN n (rgB l t b).length)).reverse
theorem qN (l:List aE) (t b:Int) (h: ¬ loS l b < loS l t) (h1:1<=l.length):l=l.take (loS l t)++rgB l t b++l.drop (loS l b+1)/\(l.take (loS l t)).length=loS l t/\(rgB l t b).length=loS l b+1 - loS l t:=by
 have hb:=wY l b h1
 unfold rgB
 refine ⟨?_,?_,?_⟩
 ·have:l.take (loS l t)=(l.take (loS l b+1)).take (loS l t):=by rw [List.take_take]; congr 1; omega
  rw [this,List.take_append_drop,List.take_append_drop]
 ·rw [List.length_take]; omega
 ·rw [List.length_drop,List.length_take]; omega
theorem Bz {W:Nat} {l:List aE} (h:GI W l) (t b n s:Int):gI ⟨W,l⟩ t b n s=some (upO l t b n,⟨W,upL W l t b n s⟩)/\eR ⟨W,l.map told⟩ true t b n s=some (⟨W,(upL W l t b n s).map told⟩,(upO l t b n).map told):=by
 have h1:=h.l1
 have h2:=h.l2
 have hreg:=AD (W:Int) l t b h1 (by omega)
 have hb:=wY l b h1
 by_cases hc:loS l b < loS l t
 ·rw [if_pos hc] at hreg
  unfold upO upL
  rw [if_pos hc,if_pos hc]
  constructor
  ·unfold gI
   rw [hreg,aA]
  ·unfold eR
   dsimp only
   rw [List.length_map,w64 (x:=(l.length:Int) - 1) (by omega) (by omega),gN,gN,dP,dP,pH,pH,decide_eq_true (by omega),cond_true]
   rfl
 ·rw [if_neg hc] at hreg
  obtain ⟨e,ea,eb⟩:=qN l t b hc h1
  have hlo:=pH l t
  have hhi:=pH l b
  unfold upO upL
  rw [if_neg hc,if_neg hc]
  generalize l.take (loS l t)=A at e ea
  generalize rgB l t b=B at e eb
  generalize l.drop (loS l b+1)=C at e
  rw [e] at hlo hhi hreg h2 hc ea eb ⊢
  have e2:((loS (A++B++C) b+1:Nat):Int)=((A.length+B.length:Nat):Int):=by omega
  have e1:((loS (A++B++C) t:Nat):Int)=(A.length:Int):=by omega
  rw [e1,e2] at hreg
  constructor
  ·exact PV W h.w2 A B C t b n s (by omega) (by omega) hreg
  ·have hm:=IX W h.w2 (A.map told) (B.map told) (C.map told) t b n s (by simpa using (by omega:(A++B++C).length<=1000000)) (by simp; omega)
   have el:((A.map told++B.map told++C.map told).length:Int)=((A++B++C).length:Int):=by simp
   rw [el] at hm
   have:=hm (by rw [hlo,List.length_map]; omega) (by rw [hhi,List.length_map,List.length_map]; omega)
   rw [List.map_append,List.map_append,this,List.length_map,List.map_append,List.map_append,LC,List.map_take]
theorem Cy {W:Nat} {l:List aE} (h:GI W l) (t b n s:Int):eU ⟨W,l⟩ t b n s=some (uI l t b n,⟨W,th W l t b n s⟩)/\eR ⟨W,l.map told⟩ false t b n s=some (⟨W,(th W l t b n s).map told⟩,(uI l t b n).map told):=by
 have h1:=h.l1
 have h2:=h.l2
 have hreg:=AD (W:Int) l t b h1 (by omega)
 have hb:=wY l b h1
 by_cases hc:loS l b < loS l t
 ·rw [if_pos hc] at hreg
  unfold uI th
  rw [if_pos hc,if_pos hc]
  constructor
  ·unfold eU
   rw [hreg,aA]
  ·unfold eR
   dsimp only
   rw [List.length_map,w64 (x:=(l.length:Int) - 1) (by omega) (by omega),gN,gN,dP,dP,pH,pH,decide_eq_true (by omega),cond_true]
   rfl
 ·rw [if_neg hc] at hreg
  obtain ⟨e,ea,eb⟩:=qN l t b hc h1
  have hlo:=pH l t
  have hhi:=pH l b
  unfold uI th
  rw [if_neg hc,if_neg hc]
  generalize l.take (loS l t)=A at e ea
  generalize rgB l t b=B at e eb
  generalize l.drop (loS l b+1)=C at e
  rw [e] at hlo hhi hreg h2 hc ea eb ⊢
  have e2:((loS (A++B++C) b+1:Nat):Int)=((A.length+B.length:Nat):Int):=by omega
  have e1:((loS (A++B++C) t:Nat):Int)=(A.length:Int):=by omega
  rw [e1,e2] at hreg
  constructor
  ·exact LF W h.w2 A B C t b n s (by omega) (by omega) hreg
  ·have hm:=EE W h.w2 (A.map told) (B.map told) (C.map told) t b n s (by simpa using (by omega:(A++B++C).length<=1000000)) (by simp; omega)
   have el:((A.map told++B.map told++C.map told).length:Int)=((A++B++C).length:Int):=by simp
   rw [el] at hm
   have:=hm (by rw [hlo,List.length_map]; omega) (by rw [hhi,List.length_map,List.length_map]; omega)
   rw [List.map_append,List.map_append,this,List.length_map,List.map_append,List.map_append,G8,List.map_reverse,List.map_drop]
theorem EF {l:List aE} {t b:Int} {r:aE} (h:r∈rgB l t b):r∈l:=List.mem_of_mem_take (List.mem_of_mem_drop h)
theorem Nu {W:Nat} {l:List aE} (h:GI W l) (t b n s:Int):GI W (upL W l t b n s):=by
 unfold upL
 by_cases hc:loS l b < loS l t
 ·rw [if_pos hc]
  exact h
 ·rw [if_neg hc]
  obtain ⟨e,ea,eb⟩:=qN l t b hc h.l1
  have hlen:(l.take (loS l t)++upB (kN n (rgB l t b).length) (rgB l t b) (jE W s)++l.drop (loS l b+1)).length=l.length:=by
   conv=>rhs; rw [e]
   simp only [List.length_append,y9]
  refine ⟨h.w1,h.w2,by rw [hlen]; exact h.l1,by rw [hlen]; exact h.l2,?_⟩
  intro r hr
  rw [List.mem_append,List.mem_append] at hr
  rcases hr with (hr | hr) | hr
  ·exact h.rs r (List.mem_of_mem_take hr)
  ·unfold upB at hr
   rw [List.mem_append] at hr
   rcases hr with hr | hr
   ·exact h.rs r (EF (List.mem_of_mem_drop hr))
   ·rw [List.eq_of_mem_replicate hr]
    exact tS _ _
  ·exact h.rs r (List.mem_of_mem_drop hr)
theorem LG {W:Nat} {l:List aE} (h:GI W l) (t b n s:Int):GI W (th W l t b n s):=by
 unfold th
 by_cases hc:loS l b < loS l t
 ·rw [if_pos hc]
  exact h
 ·rw [if_neg hc]
  obtain ⟨e,ea,eb⟩:=qN l t b hc h.l1
  have hlen:(l.take (loS l t)++m5 (kN n (rgB l t b).length) (rgB l t b) (jE W s)++l.drop (loS l b+1)).length=l.length:=by
   conv=>rhs; rw [e]
   simp only [List.length_append,vM]
  refine ⟨h.w1,h.w2,by rw [hlen]; exact h.l1,by rw [hlen]; exact h.l2,?_⟩
  intro r hr
  rw [List.mem_append,List.mem_append] at hr
  rcases hr with (hr | hr) | hr
  ·exact h.rs r (List.mem_of_mem_take hr)
  ·unfold m5 at hr
   rw [List.mem_append] at hr
   rcases hr with hr | hr
   ·rw [List.eq_of_mem_replicate hr]
    exact tS _ _
   ·exact h.rs r (EF (List.mem_of_mem_take hr))
  ·exact h.rs r (List.mem_of_mem_drop hr)
theorem LH {l:List aE} {t b n:Int} {r:aE} (h:r∈upO l t b n):r∈l:=by
 unfold upO at h
 split at h
 ·cases h
 ·exact EF (List.mem_of_mem_take h)
theorem LI (l:List aE) (t b n:Int):(upO l t b n).length<=l.length:=by
 unfold upO
 split
 ·exact Nat.zero_le _
 ·unfold rgB
  rw [List.length_take,List.length_drop,List.length_take]
  omega
def rzL (W:Nat) (l:List aE) (c H:Nat):List aE:=((l.drop c).take H++List.replicate (H - (l.length - c)) (jE W 0)).map (rsz W)
theorem pI (W:Nat) (l:List aE) (c H:Nat):(rzL W l c H).length=H:=by
 unfold rzL
 simp
 omega
theorem EG (w0:Int) (l:List aE) (w h off:Int) (h1:1<=l.length) (h2:l.length<=1000000) (hr: ∀ r∈l,r.cells.length<=1000000):km ⟨w0,l⟩ w h off=some (l.take (loS l off),⟨(szN w:Int),rzL (szN w) l (loS l off) (szN h)⟩):=by
 unfold km
 dsimp only
 have hw:=nV w
 have hh:=nV h
 rw [w64 (x:=(l.length:Int) - 1) (by omega) (by omega),td,aA,pH]
 have hc:=wY l off h1
 unfold rzL
 generalize loS l off=c at hc
 have c1:cut l (c:Int) (l.length:Int)=l.drop c:=by rw [rM,List.take_length]
 have hm:eO ((l.drop c).length:Int) (szN h:Int)=((min (l.drop c).length (szN h):Nat):Int):=by rw [dP]; omega
 have c2:cut (l.drop c) 0 ((min (l.drop c).length (szN h):Nat):Int)=(l.drop c).take (szN h):=by
  rw [y6,<- List.take_take]
  exact List.take_of_length_le (by rw [List.length_take]; omega)
 rw [bP (by omega) (by omega) (by omega),aA,y6,tT _ (by rw [List.length_take]; omega),aA,bP (by omega) (by omega) (by omega),aA,c1,tT _ (by rw [List.length_drop]; omega),aA,tf,aA,hm,bP (by omega) (by omega) (by omega),aA,c2]
 refine fM (λi=>(l.drop c).take (szN h)++List.replicate i (jE (szN w) 0)) (szN h - (l.length - c)) ((l.drop c).take (szN h)++List.replicate (szN h - (l.length - c)) (jE (szN w) 0)) ?_ ?_ ?_ ?_
 ·simp
 ·intro i hi
  try dsimp only
  rw [aA,decide_eq_true (by simp; omega),cond_true,tf w,aA,Bv _ _ hw,aA,bL (by simp; omega),aA,List.append_assoc,<- List.replicate_succ']
 ·try dsimp only
  rw [aA,decide_eq_false (by simp; omega),cond_false]
 ·rw [tf,aA]
  have hL: ∀ r∈(l.drop c).take (szN h)++List.replicate (szN h - (l.length - c)) (jE (szN w) 0),r.cells.length<=1000000:=by
   intro r hrr
   rcases List.mem_append.1 hrr with hrr | hrr
   ·exact hr r (List.mem_of_mem_drop (List.mem_of_mem_take hrr))
   ·rw [List.eq_of_mem_replicate hrr]
    simp [jE]
    omega
  have hLl:((l.drop c).take (szN h)++List.replicate (szN h - (l.length - c)) (jE (szN w) 0)).length=szN h:=by
   simp
   omega
  generalize (l.drop c).take (szN h)++List.replicate (szN h - (l.length - c)) (jE (szN w) 0)=L at hL hLl
  refine fM (λi=>((⟨(szN w:Int),(L.take i).map (rsz (szN w))++L.drop i⟩:aX),(i:Int))) L.length (⟨(szN w:Int),L.map (rsz (szN w))⟩:aX) ?_ ?_ ?_ rfl
  ·simp
  ·intro i hi
   dsimp only
   have hd:(L.take i).map (rsz (szN w))++L.drop i=(L.take i).map (rsz (szN w))++L[i]::L.drop (i+1):=by rw [List.drop_eq_getElem_cons hi]
   have hlen:(L.take i).length=i:=by rw [List.length_take]; omega
   rw [decide_eq_true (by omega),cond_true,hd,nW (by simp; omega),aA,IQ _ hw _ _ _ (hL _ (List.getElem_mem hi)),aA,w64 (by omega) (by omega)]
   dsimp only
   unfold uq
   rw [if_pos (by simp; omega),Int.toNat_natCast,pG (by simp; omega),List.take_succ_eq_append_getElem hi,List.map_append,List.append_assoc]
   rfl
  ·dsimp only
   rw [decide_eq_false (by omega),cond_false]
   simp
theorem PW {W:Nat} {l:List aE} (hl: ∀ r∈l,okR r.cells) (W':Nat) (c H:Nat) (h1:1<=W') (h2:W'<=1000) (h3:1<=H) (h4:H<=1000):GI W' (rzL W' l c H):=by
 refine ⟨h1,h2,by rw [pI]; exact h3,by rw [pI]; exact h4,?_⟩
 intro r hr
 unfold rzL at hr
 obtain ⟨q,hq,rfl⟩:=List.mem_map.1 hr
 refine FR _ _ ?_
 rcases List.mem_append.1 hq with hq | hq
 ·exact hl q (List.mem_of_mem_drop (List.mem_of_mem_take hq))
 ·rw [List.eq_of_mem_replicate hq]
  exact (tS _ _).2
theorem m63 (x:Int) (h0:0<=x) (h1:x < 2147483648):Go.bits .and .i32 x 63=x % 64:=by
 have h:=bits_mask .i32 31 (by decide) wraps_i32 6 (by decide) x h0 (by omega)
 have e:((2:Int) ^ 6 - 1)=63:=by decide
 have e2:((2:Int) ^ 6)=64:=by decide
 rw [e,e2] at h
 exact h
theorem PX {x:Int} (h0:0<=x) (h1:x < 256):IntKind.u8.wrap x=x:=by rw [IntKind.wrap_u8]; omega
theorem foldl_push (xs:List Int): ∀ l:List UInt8,xs.foldl (λr n=>r.push (UInt8.ofNat n.toNat)) (ByteArray.mk l.toArray)=ByteArray.mk (l++xs.map (λn=>UInt8.ofNat n.toNat)).toArray:=by
 induction xs with
 | nil=>intro l; simp
 | cons a xs ih =>
  intro l
  rw [List.foldl_cons]
  have:(ByteArray.mk l.toArray).push (UInt8.ofNat a.toNat)=ByteArray.mk (l++[UInt8.ofNat a.toNat]).toArray:=by
   show ByteArray.mk (l.toArray.push _)=_
   rw [List.push_toArray]
  rw [this,ih]
  simp
theorem BA (xs:List Int):hU xs=ByteArray.mk (xs.map (λn=>UInt8.ofNat n.toNat)).toArray:=foldl_push xs []
theorem me (a:List Int):(hU a).size=a.length:=by
 rw [BA]
 simp [ByteArray.size]
theorem Cz (r:aE):(pD r).length<=r.cells.length:=by
 unfold pD Nr
 refine Nat.le_trans (xQ _) ?_
 split
 ·exact Nat.le_refl _
 ·exact rK _ _
theorem G9 {n m:Nat} (h:n+m<=4611686018427387904):chk (Od n m)=some ():=kj h
def lR (n:Nat):List Int:=if n < 128 then [(n:Int)] else ((128+n % 128:Nat):Int)::lR (n / 128)
termination_by n
decreasing_by omega
def clN (n:Int):Nat:=(max 0 (min n 4611686018427387904)).toNat
theorem Ou (n:Int):imax 0 (eO n 4611686018427387904)=(clN n:Int):=by rw [gN,dP]; unfold clN; omega
theorem IY (n:Int):clN n<=4611686018427387904:=by unfold clN; omega
def dG (n:Int):List Int:=lR (clN n)
theorem k6 {n:Nat} (h:n < 128):lR n=[(n:Int)]:=by rw [lR,if_pos h]
theorem qO {n:Nat} (h: ¬ n < 128):lR n=((128+n % 128:Nat):Int)::lR (n / 128):=by rw [lR,if_neg h]
theorem vO: ∀ (k n:Nat),n < 128 ^ (k+1)->(lR n).length<=k+1:=by
 intro k
 induction k with
 | zero =>
  intro n h
  rw [k6 (by omega)]
  simp
 | succ k ih =>
  intro n h
  by_cases hn:n < 128
  ·rw [k6 hn]
   simp
  ·rw [qO hn,List.length_cons]
   have:n / 128 < 128 ^ (k+1):=by
    rw [Nat.pow_succ] at h
    exact Nat.div_lt_of_lt_mul (by rw [Nat.mul_comm]; exact h)
   have:=ih _ this
   omega
theorem dT (n:Int):(dG n).length<=9:=vO 8 _ (by have:=IY n; omega)
theorem qP: ∀ (n:Nat),∀ b∈lR n,0<=b/\b < 256:=by
 intro n
 induction n using Nat.strongRecOn with
 | _ n ih =>
  intro b hb
  by_cases hn:n < 128
  ·rw [k6 hn,List.mem_singleton] at hb
   omega
  ·rw [qO hn] at hb
   rcases List.mem_cons.1 hb with rfl | hb
   ·omega
   ·exact ih (n / 128) (by omega) b hb
theorem IZ (x:Int) (h0:0<=x) (h1:x < 256):Go.bits .and .u8 x 127=x % 128:=by
 have h:=bits_mask .u8 8 (by decide) wraps_u8 7 (by decide) x h0 (by omega)
 have e:((2:Int) ^ 7 - 1)=127:=by decide
 have e2:((2:Int) ^ 7)=128:=by decide
 rw [e,e2] at h
 exact h
theorem or_comm (k:IntKind) (x y:Int):Go.bits .or k x y=Go.bits .or k y x:=by
 show k.wrap ((BitVec.ofInt k.bits x ||| BitVec.ofInt k.bits y).toNat:Int)=k.wrap ((BitVec.ofInt k.bits y ||| BitVec.ofInt k.bits x).toNat:Int)
 rw [BitVec.or_comm]
theorem LJ (y:Int) (h0:0<=y) (h1:y < 128):Go.bits .or .u8 y 128=128+y:=by
 rw [or_comm]
 exact bits_join .u8 8 (by decide) wraps_u8 7 128 y (by decide) (by decide) (by decide) h0 (by omega) (by omega)
theorem PY (n:Nat):(n:Int).fdiv (2 ^ (min 7 64))=((n / 128:Nat):Int):=by
 rw [Int.fdiv_eq_ediv_of_nonneg _ (by decide)]
 show (n:Int) / 128=_
 omega
theorem Ha (b:List Int) (x:Int) (hb:b.length<=100000000): ∃ e,my (λ(s661:cG) (x619:Int)=>(Option.bind (chk (eI s661.b.length [x619].length 1)) λ_=>some ((cG.mk (s661.b++[x619])),true))) (⟨b⟩:cG) x=some ((⟨b++dG x⟩:cG),e):=by
 unfold my rE
 rw [Ou,aA]
 unfold dG
 have hle:=IY x
 generalize clN x=n at hle
 have key: ∀ (k n:Nat) (b:List Int),n < 128 ^ (k+1)->b.length+(k+1)<=100000010 -> ∃ e,iter (σ:=Int×cG) (ρ:=(Int×cG) ⊕ (cG×Int)) (λa=>(bif (decide (a.1>=128)) then (Option.bind ((λ(s661:cG) (x619:Int)=>(Option.bind (chk (eI s661.b.length [x619].length 1)) λ_=>some ((cG.mk (s661.b++[x619])),true))) a.2 (Go.bits .or .u8 (Go.bits .and .u8 (IntKind.u8.wrap a.1) 127) 128)) λz68=>(bif (!z68.2) then (ln (some (z68.1,a.1))) else some (.inl ((a.1.fdiv (2 ^ (min 7 64))),z68.1)))) else some (.inr (.inl (a.1,a.2))))) ((n:Int),(⟨b⟩:cG))=some (.inl ((e:Int),(⟨b++(lR n).dropLast⟩:cG)))/\0<=e/\e < 128/\lR n=(lR n).dropLast++[e]:=by
  intro k
  induction k with
  | zero =>
   intro n b h hb
   refine ⟨n,?_,by omega,by omega,?_⟩
   ·rw [k6 (by omega)]
    refine cP ?_
    dsimp only
    rw [decide_eq_false (by omega),cond_false]
    simp
   ·rw [k6 (by omega)]
    rfl
  | succ k ih =>
   intro n b h hb
   by_cases hn:n < 128
   ·refine ⟨n,?_,by omega,by omega,?_⟩
    ·rw [k6 hn]
     refine cP ?_
     dsimp only
     rw [decide_eq_false (by omega),cond_false]
     simp
    ·rw [k6 hn]
     rfl
   ·have hlt:n / 128 < 128 ^ (k+1):=by
     rw [Nat.pow_succ] at h
     exact Nat.div_lt_of_lt_mul (by rw [Nat.mul_comm]; exact h)
    obtain ⟨e,h1,h2,h3,h4⟩:=ih (n / 128) (b++[((128+n % 128:Nat):Int)]) hlt (by simp; omega)
    refine ⟨e,?_,h2,h3,?_⟩
    ·rw [dS (s':=(((n / 128:Nat):Int),(⟨b++[((128+n % 128:Nat):Int)]⟩:cG)))]
     ·rw [h1,qO hn]
      have hne:lR (n / 128)≠[]:=by rw [h4]; simp
      rw [List.dropLast_cons_of_ne_nil hne]
      simp
     ·dsimp only
      have hw:IntKind.u8.wrap (n:Int)=((n % 256:Nat):Int):=by rw [IntKind.wrap_u8]; omega
      have hv:Go.bits .or .u8 (Go.bits .and .u8 (IntKind.u8.wrap (n:Int)) 127) 128=((128+n % 128:Nat):Int):=by
       rw [hw,IZ _ (by omega) (by omega),LJ _ (by omega) (by omega)]
       omega
      rw [decide_eq_true (by omega),cond_true,hv,bL (by simp; omega),aA,aA]
      dsimp only
      rw [Bool.not_true,cond_false,PY]
    ·rw [qO hn]
     have hne:lR (n / 128)≠[]:=by rw [h4]; simp
     rw [List.dropLast_cons_of_ne_nil hne,List.cons_append,<- h4]
 obtain ⟨e,h1,h2,h3,h4⟩:=key 8 n b (by omega) (by omega)
 have hl:=vO 8 n (by omega)
 have hd:(lR n).dropLast.length<=9:=by rw [List.length_dropLast]; omega
 refine ⟨e,?_⟩
 rw [h1,aA]
 dsimp only
 have hu:IntKind.u8.wrap e=e:=by rw [IntKind.wrap_u8]; omega
 rw [hu,bL (by simp only [List.length_append,List.length_singleton]; omega),aA,aA,List.append_assoc,<- h4]
theorem nX (b:List Int) (l:List Int) (hb:b.length+9*l.length<=10000000):dB ⟨b⟩ l=some ⟨b++l.flatMap dG⟩:=by
 unfold dB o9
 have hfl: ∀ l:List Int,(l.flatMap dG).length<=9*l.length:=by
  intro l
  induction l with
  | nil=>simp
  | cons a l ih =>
   rw [List.flatMap_cons,List.length_append,List.length_cons]
   have:=dT a
   omega
 refine fM (λi=>((⟨b++(l.take i).flatMap dG⟩:cG),(i:Int))) l.length (⟨b++l.flatMap dG⟩:cG) ?_ ?_ ?_ rfl
 ·simp
 ·intro i hi
  dsimp only
  have h4:=hfl (l.take i)
  rw [List.length_take] at h4
  obtain ⟨e,he⟩:=Ha (b++(l.take i).flatMap dG) l[i] (by rw [List.length_append]; omega)
  rw [decide_eq_true (by omega),cond_true,cU l i hi,aA,aA,he,aA,w64 (by omega) (by omega),List.take_succ_eq_append_getElem hi,List.flatMap_append,List.flatMap_singleton,List.append_assoc]
  rfl
 ·dsimp only
  rw [decide_eq_false (by omega),cond_false,List.take_length]
def most:Nat:=4611686018427387904
def rdp:Nat->Nat->Nat->List Int->Int ⊕ (Nat×Nat)
 | 0,_,_,_=> .inl 1
 | _+1,_,_,[]=> .inl 2
 | k+1,i,acc,b::r=>if b < 128 then (if (i > 0/\b=0)\/acc+b.toNat % 128*128 ^ i > most then .inl 1 else .inr (acc+b.toNat % 128*128 ^ i,i+1)) else rdp k (i+1) (acc+b.toNat % 128*128 ^ i) r
def noS:ByteArray:=ByteArray.mk #[]
theorem lC (s:ByteArray): ∀ b∈sbs s,0<=b/\b < 256:=by
 intro b hb
 unfold sbs at hb
 obtain ⟨c,_,rfl⟩:=List.mem_map.1 hb
 have:=c.toNat_lt
 omega
theorem vP (s:ByteArray) (i:Nat) (h:i < (sbs s).length):yV s (i:Int)=some (sbs s)[i]:=by
 unfold yV
 rw [decide_eq_true (by omega),cond_true,Int.toNat_natCast]
 have h2:i < s.data.size:=by rw [bD] at h; exact h
 rw [Array.getElem?_eq_getElem h2]
 simp only [sbs,Option.map_some,List.getElem_map,Array.getElem_toList]
theorem p2 (i:Nat):2 ^ (7*i)=128 ^ i:=by rw [Nat.pow_mul]
theorem pw8 {i:Nat} (h:i<=8):128 ^ i<=72057594037927936:=Nat.le_trans (Nat.pow_le_pow_right (by omega) h) (by decide)
theorem LK (i acc b:Nat) (hi:i<=8) (ha:acc < 128 ^ i) (hb:b < 256) :
  Go.bits .or .i64 (acc:Int) (IntKind.i64.wrap ((IntKind.i64.wrap (Go.bits .and .u8 (b:Int) 127))*2 ^ (min (IntKind.i64.wrap (7*(i:Int))).toNat 64)))=((acc+b % 128*128 ^ i:Nat):Int)/\acc+b % 128*128 ^ i < 128 ^ (i+1):=by
 have hP:=pw8 hi
 have h7:(IntKind.i64.wrap (7*(i:Int))).toNat=7*i:=by rw [w64 (by omega) (by omega)]; omega
 have hm:min (7*i) 64=7*i:=by omega
 have hp:(2:Int) ^ (7*i)=((128 ^ i:Nat):Int):=by rw [<- p2]; simp
 rw [h7,hm,hp,IZ _ (by omega) (by omega)]
 have hlt:b % 128*128 ^ i<=127*128 ^ i:=Nat.mul_le_mul_right _ (by omega)
 have hP1:128 ^ (i+1)=128*128 ^ i:=by rw [Nat.pow_succ,Nat.mul_comm]
 have e1:IntKind.i64.wrap ((b:Int) % 128)=((b % 128:Nat):Int):=by rw [w64 (by omega) (by omega)]; omega
 have e2:((b % 128:Nat):Int)*((128 ^ i:Nat):Int)=((b % 128*128 ^ i:Nat):Int):=by simp
 rw [e1,e2]
 generalize hw:b % 128*128 ^ i=w at hlt
 rw [w64 (by omega) (by omega),or_comm]
 have hmod:(w:Int) % 2 ^ (7*i)=0:=by
  rw [hp,<- hw]
  rw [<- Int.natCast_emod,Nat.mul_mod_left]
  rfl
 have:=bits_join .i64 63 (by decide) (λn h0 h1=>w64 (by omega) (by omega)) (7*i) (w:Int) (acc:Int) (by omega) hmod (by omega) (by omega) (by rw [hp]; omega) (by omega)
 rw [this]
 constructor
 ·omega
 ·omega
def LL (s:ByteArray):Int ⊕ (Nat×Nat)->Int×aT
 | .inl e=>(0,⟨noS,e⟩)
 | .inr (v,j)=>(v,⟨iU s j s.size,0⟩)
theorem qQ (s:ByteArray) (e:Int) (h:e≠0):bU ⟨s,0⟩ e=some ⟨noS,e⟩:=by
 unfold bU
 have:(e != 0)=true:=by simpa using h
 simp [this,noS]
theorem wZ (s:ByteArray) (e f:Int) (h:e≠0):bU ⟨s,e⟩ f=some ⟨s,e⟩:=by
 unfold bU
 have:(e == 0)=false:=by simpa using h
 simp [this]
theorem LM (s:ByteArray) (hs:s.size<=1000000):bW ⟨s,0⟩=some (LL s (rdp 9 0 0 (sbs s))):=by
 unfold bW
 have hl:(sbs s).length=s.size:=bD s
 refine Eq.trans ?_ (congrArg (λl=>some (LL s (rdp 9 0 0 l))) (List.drop_zero (l:=sbs s)))
 have key: ∀ (k i acc:Nat),i+k=9->acc < 128 ^ i->i<=(sbs s).length->Option.bind (iter (σ:=Int×Int) (ρ:=Unit ⊕ (Int×aT)) (λa=>(bif (decide (a.1 < (eO ((⟨s,0⟩:aT).s.size:Int) 9))) then (Option.bind (yV (⟨s,0⟩:aT).s a.1) λb213=>(Option.bind (chk (shk (IntKind.i64.wrap (7*a.1)))) λ_=>(bif (decide (b213>=128)) then some (.inl ((IntKind.i64.wrap (a.1+1)),(Go.bits .or .i64 a.2 (IntKind.i64.wrap ((IntKind.i64.wrap (Go.bits .and .u8 b213 127))*2 ^ (min (IntKind.i64.wrap (7*a.1)).toNat 64)))))) else (Option.bind ((bif (decide (a.1 > 0)) then (bif (b213 == 0) then some true else some (decide ((Go.bits .or .i64 a.2 (IntKind.i64.wrap ((IntKind.i64.wrap (Go.bits .and .u8 b213 127))*2 ^ (min (IntKind.i64.wrap (7*a.1)).toNat 64)))) > 4611686018427387904))) else some (decide ((Go.bits .or .i64 a.2 (IntKind.i64.wrap ((IntKind.i64.wrap (Go.bits .and .u8 b213 127))*2 ^ (min (IntKind.i64.wrap (7*a.1)).toNat 64)))) > 4611686018427387904))):Option Bool) λc=>(bif c then (Option.bind (bU (⟨s,0⟩:aT) 1) λd=>(ln (some (0,d)))) else (Option.bind (chk (dE (IntKind.i64.wrap (a.1+1)) ((⟨s,0⟩:aT).s.size:Int) (⟨s,0⟩:aT).s.size)) λ_=>(ln (some ((Go.bits .or .i64 a.2 (IntKind.i64.wrap ((IntKind.i64.wrap (Go.bits .and .u8 b213 127))*2 ^ (min (IntKind.i64.wrap (7*a.1)).toNat 64)))),(aT.mk (iU (⟨s,0⟩:aT).s (IntKind.i64.wrap (a.1+1)) ((⟨s,0⟩:aT).s.size:Int)) (⟨s,0⟩:aT).e)))))))))) else some (.inr (.inl ())))) ((i:Int),(acc:Int))) (λ | .inl e176=>(Option.bind ((bif (decide (((⟨s,0⟩:aT).s.size:Int)>=9)) then (Option.bind (bU (⟨s,0⟩:aT) 1) λf=>some f) else some (⟨s,0⟩:aT)):Option aT) λg=>(Option.bind (bU g 2) λj=>some (0,j))) | .inr w=>some w)=some (LL s (rdp k i acc ((sbs s).drop i))):=by
  intro k
  induction k with
  | zero =>
   intro i acc hi ha hil
   rw [cP (r:= .inl ())]
   ·rw [aA]
    dsimp only
    rw [decide_eq_true (by omega),cond_true,qQ _ _ (by decide),aA,aA,wZ _ _ _ (by decide),aA]
    rfl
   ·dsimp only
    rw [dP,decide_eq_false (by omega),cond_false]
  | succ k ih =>
   intro i acc hi ha hil
   by_cases hlt:i < (sbs s).length
   ·obtain ⟨hb0,hb1⟩:=lC s _ (List.getElem_mem hlt)
    have hx:=vP s i hlt
    rw [List.drop_eq_getElem_cons hlt]
    generalize (sbs s)[i]=b at hb0 hb1 hx
    obtain ⟨B,rfl⟩:=Int.eq_ofNat_of_zero_le hb0
    obtain ⟨hor,hbd⟩:=LK i acc B (by omega) ha (by omega)
    have hshk:chk (shk (IntKind.i64.wrap (7*(i:Int))))=some ():=by
     rw [w64 (by omega) (by omega)]
     exact kj (by omega)
    unfold rdp
    rw [Int.toNat_natCast]
    by_cases hbig:(B:Int)>=128
    ·rw [dS (s':=(((i+1:Nat):Int),((acc+B % 128*128 ^ i:Nat):Int)))]
     ·rw [ih (i+1) (acc+B % 128*128 ^ i) (by omega) hbd (by omega),if_neg (by omega)]
     ·dsimp only
      rw [dP,decide_eq_true (by omega),cond_true,hx,aA,hshk,aA,decide_eq_true hbig,cond_true,hor,w64 (by omega) (by omega)]
      rfl
    ·rw [if_pos (by omega)]
     have hc:((bif (decide ((i:Int) > 0)) then (bif ((B:Int) == 0) then some true else some (decide (((acc+B % 128*128 ^ i:Nat):Int) > 4611686018427387904))) else some (decide (((acc+B % 128*128 ^ i:Nat):Int) > 4611686018427387904))):Option Bool)=some (decide ((i > 0/\(B:Int)=0)\/acc+B % 128*128 ^ i > most)):=by
      have hd: ∀ v:Nat,decide ((v:Int) > 4611686018427387904)=decide (v > most):=λv=>by
       unfold most
       congr 1
       apply propext
       omega
      rw [hd]
      by_cases c1:i > 0
      ·have c1':(i:Int) > 0:=by omega
       rw [decide_eq_true c1',cond_true]
       by_cases c2:(B:Int)=0
       ·have:((B:Int) == 0)=true:=by simpa using c2
        rw [this,cond_true,decide_eq_true (.inl ⟨c1,c2⟩)]
       ·have:((B:Int) == 0)=false:=by simpa using c2
        rw [this,cond_false]
        congr 1
        by_cases c3:acc+B % 128*128 ^ i > most
        ·rw [decide_eq_true c3,decide_eq_true (.inr c3)]
        ·rw [decide_eq_false c3,decide_eq_false (by rintro (h | h); exact c2 h.2; exact c3 h)]
      ·rw [decide_eq_false (by omega),cond_false]
       congr 1
       by_cases c3:acc+B % 128*128 ^ i > most
       ·rw [decide_eq_true c3,decide_eq_true (.inr c3)]
       ·rw [decide_eq_false c3,decide_eq_false (by rintro (h | h); exact c1 h.1; exact c3 h)]
     by_cases hf:(i > 0/\(B:Int)=0)\/acc+B % 128*128 ^ i > most
     ·rw [if_pos hf,cP (r:= .inr (0,⟨noS,1⟩))]
      ·rfl
      ·dsimp only
       rw [dP,decide_eq_true (by omega),cond_true,hx,aA,hshk,aA,decide_eq_false hbig,cond_false,hor,hc,aA,decide_eq_true hf,cond_true,qQ _ _ (by decide),aA]
       rfl
     ·rw [if_neg hf,cP (r:= .inr (((acc+B % 128*128 ^ i:Nat):Int),⟨iU s ((i+1:Nat):Int) s.size,0⟩))]
      ·rfl
      ·dsimp only
       rw [dP,decide_eq_true (by omega),cond_true,hx,aA,hshk,aA,decide_eq_false hbig,cond_false,hor,hc,aA,decide_eq_false hf,cond_false,w64 (by omega) (by omega),bP (by omega) (by omega) (by omega),aA]
       rfl
   ·have hd:(sbs s).drop i=[]:=List.drop_eq_nil_of_le (by omega)
    rw [hd,cP (r:= .inl ())]
    ·rw [aA]
     dsimp only
     rw [decide_eq_false (by omega),cond_false,aA,qQ _ _ (by decide),aA]
     rfl
    ·dsimp only
     rw [dP,decide_eq_false (by omega),cond_false]
 exact key 9 0 0 (by omega) (by omega) (by omega)
theorem vQ (a b:ByteArray):(a.toList == b.toList)=decide (a=b):=by
 rw [ByteArray.toList_eq,ByteArray.toList_eq]
 by_cases h:a=b
 ·subst h
  rw [decide_eq_true rfl,beq_self_eq_true]
 ·rw [decide_eq_false h]
  have: ¬ a.data.toList=b.data.toList:=λe=>h (ByteArray.ext (Array.ext' e))
  simpa using this
theorem gW (s:ByteArray) (lo hi:Nat):sbs (iU s lo hi)=((sbs s).take hi).drop lo:=by
 unfold sbs iU
 rw [ByteArray.data_extract,Int.toNat_natCast,Int.toNat_natCast]
 rw [Array.toList_extract]
 rw [List.extract_eq_take_drop,List.map_take,List.map_drop,List.drop_take]
theorem vS (s:ByteArray):hU (sbs s)=s:=by
 rw [BA]
 unfold sbs
 rw [List.map_map]
 have:((λn:Int=>UInt8.ofNat n.toNat) ∘ λb:UInt8=>(b.toNat:Int))=id:=by
  funext b
  simp
 rw [this,List.map_id]
theorem oL (l:List Int) (h: ∀ b∈l,0<=b/\b < 256):sbs (hU l)=l:=by
 rw [BA]
 unfold sbs
 simp only [List.map_map]
 induction l with
 | nil=>rfl
 | cons a l ih =>
  have ha:=h a (List.mem_cons_self ..)
  rw [List.map_cons,ih λb hb=>h b (List.mem_cons_of_mem _ hb)]
  congr 1
  show ((UInt8.ofNat a.toNat).toNat:Int)=a
  rw [UInt8.toNat_ofNat']
  omega
theorem rN {a b:ByteArray} (h:sbs a=sbs b):a=b:=by rw [<- vS a,h,vS]
theorem pJ (a b:ByteArray):sbs (a++b)=sbs a++sbs b:=by
 unfold sbs
 rw [ByteArray.data_append]
 simp
theorem I3:hU []=noS:=rfl
def VI (i:aT):Prop:=i.s.size<=1000000/\(i.e=0\/i.s=noS)
def rdS (i:aT):Int×aT:=if i.e=0 then LL i.s (rdp 9 0 0 (sbs i.s)) else (0,i)
theorem nY (i:aT) (h:VI i):bW i=some (rdS i):=by
 obtain ⟨s,e⟩:=i
 obtain ⟨h1,h2⟩:=h
 unfold rdS
 by_cases he:e=0
 ·subst he
  rw [if_pos rfl]
  exact LM s h1
 ·rw [if_neg he]
  obtain rfl:s=noS:=h2.resolve_left he
  unfold bW
  rw [cP (r:= .inl ())]
  ·rw [aA]
   have hz:(noS.size:Int)=0:=rfl
   dsimp only
   rw [hz,decide_eq_false (by omega),cond_false,aA,wZ _ _ _ he,aA]
  ·dsimp only
   have hz:(noS.size:Int)=0:=rfl
   rw [dP,hz,decide_eq_false (by omega),cond_false]
theorem I4: ∀ (k i acc:Nat) (l:List Int) (v j:Nat),(∀ b∈l,0<=b/\b < 256)->rdp k i acc l = .inr (v,j) -> ∃ w,v=acc+w*128 ^ i/\v<=most/\i < j/\j<=i+l.length/\lR w=l.take (j - i)/\(i > 0->w > 0):=by
 intro k
 induction k with
 | zero=>intro i acc l v j hb h; cases h
 | succ k ih =>
  intro i acc l v j hb h
  cases l with
  | nil=>cases h
  | cons b r =>
   unfold rdp at h
   have hb0:=hb b (List.mem_cons_self ..)
   obtain ⟨B,rfl⟩:=Int.eq_ofNat_of_zero_le hb0.1
   rw [Int.toNat_natCast] at h
   by_cases hbig:(B:Int) < 128
   ·rw [if_pos hbig] at h
    by_cases hf:(i > 0/\(B:Int)=0)\/acc+B % 128*128 ^ i > most
    ·rw [if_pos hf] at h
     cases h
    ·rw [if_neg hf] at h
     injection h with h
     injection h with hv hj
     have hm:B % 128=B:=Nat.mod_eq_of_lt (by omega)
     rw [hm] at hv hf
     refine ⟨B,hv.symm,?_,by omega,by simp; omega,?_,?_⟩
     ·rw [<- hv]
      exact Nat.le_of_not_lt λhh=>hf (.inr hh)
     ·rw [k6 (by omega),<- hj]
      have:i+1 - i=1:=by omega
      rw [this]
      rfl
     ·intro hi
      exact Nat.pos_of_ne_zero λh0=>hf (.inl ⟨hi,by omega⟩)
   ·rw [if_neg hbig] at h
    obtain ⟨w,h1,h2,h3,h4,h5,h6⟩:=ih (i+1) _ r v j (λc hc=>hb c (List.mem_cons_of_mem _ hc)) h
    have hw:=h6 (by omega)
    refine ⟨B % 128+128*w,?_,h2,by omega,by simp; omega,?_,λ_=>by omega⟩
    ·rw [h1,Nat.pow_succ,Nat.add_mul,Nat.add_assoc]
     congr 2
     rw [Nat.mul_comm 128 w,Nat.mul_assoc,Nat.mul_comm 128]
    ·rw [qO (by omega)]
     have e1:(B % 128+128*w) / 128=w:=by omega
     have e2:128+(B % 128+128*w) % 128=B:=by omega
     have e3:j - i=(j - (i+1))+1:=by omega
     rw [e1,e2,h5,e3,List.take_succ_cons]
theorem LN: ∀ (k i acc w:Nat) (R:List Int),w < 128 ^ (k+1)->k+1+i<=9->(i > 0->w > 0)->acc+w*128 ^ i<=most->rdp (k+1) i acc (lR w++R) = .inr (acc+w*128 ^ i,i+(lR w).length):=by
 intro k
 induction k with
 | zero =>
  intro i acc w R hw hk hi hm
  have hs:w < 128:=by simpa using hw
  rw [k6 hs]
  show rdp (0+1) i acc ((w:Int)::R)=_
  unfold rdp
  have hmod:w % 128=w:=Nat.mod_eq_of_lt hs
  rw [if_pos (by omega),Int.toNat_natCast,hmod,if_neg]
  ·simp
  ·rintro (⟨h1,h2⟩ | h)
   ·have:=hi h1
    omega
   ·omega
 | succ k ih =>
  intro i acc w R hw hk hi hm
  by_cases hs:w < 128
  ·rw [k6 hs]
   show rdp (k+1+1) i acc ((w:Int)::R)=_
   unfold rdp
   have hmod:w % 128=w:=Nat.mod_eq_of_lt hs
   rw [if_pos (by omega),Int.toNat_natCast,hmod,if_neg]
   ·simp
   ·rintro (⟨h1,h2⟩ | h)
    ·have:=hi h1
     omega
    ·omega
  ·rw [qO hs]
   have hq:w / 128 < 128 ^ (k+1):=by
    rw [Nat.pow_succ] at hw
    exact Nat.div_lt_of_lt_mul (by rw [Nat.mul_comm]; exact hw)
   have he:(128+w % 128) % 128=w % 128:=by omega
   have hsum:acc+w % 128*128 ^ i+w / 128*128 ^ (i+1)=acc+w*128 ^ i:=by
    rw [Nat.pow_succ,Nat.add_assoc]
    congr 1
    rw [Nat.mul_comm (128 ^ i) 128,<- Nat.mul_assoc,<- Nat.add_mul]
    congr 1
    omega
   show rdp (k+1+1) i acc (((128+w % 128:Nat):Int)::(lR (w / 128)++R))=_
   rw [rdp,if_neg (by omega),Int.toNat_natCast,he,ih (i+1) _ (w / 128) R hq (by omega) (λ_=>by omega) (by rw [hsum]; exact hm),hsum]
   simp only [List.length_cons]
   congr 2
   omega
theorem kB {i:aT} (h:VI i):VI (rdS i).2:=by
 obtain ⟨s,e⟩:=i
 obtain ⟨h1,h2⟩:=h
 unfold rdS
 by_cases he:e=0
 ·rw [if_pos he]
  cases hr:rdp 9 0 0 (sbs (⟨s,e⟩:aT).s) with
  | inl f=>exact ⟨by show noS.size<=1000000; decide,.inr rfl⟩
  | inr p =>
   refine ⟨?_,.inl rfl⟩
   show (iU s p.2 s.size).size<=1000000
   rw [<- bD,gW,List.length_drop,List.length_take,bD]
   simp only at h1
   omega
 ·rw [if_neg he]
  exact ⟨h1,h2⟩
theorem EH {i:aT} (h:(rdS i).2.e≠0):(rdS i).1=0:=by
 unfold rdS at *
 split at h
 ·rename_i he
  rw [if_pos he]
  cases hr:rdp 9 0 0 (sbs i.s) with
  | inl f=>rfl
  | inr p =>
   rw [hr] at h
   exact absurd rfl h
 ·rename_i he
  rw [if_neg he]
theorem CA {i:aT} (h:(rdS i).2.e=0) (hV:VI i):i.e=0 /\ ∃ w:Nat,(rdS i).1=w/\w<=most/\sbs i.s=lR w++sbs (rdS i).2.s:=by
 unfold rdS at *
 by_cases he:i.e=0
 ·rw [if_pos he] at h ⊢
  refine ⟨he,?_⟩
  cases hr:rdp 9 0 0 (sbs i.s) with
  | inl f =>
   rw [hr] at h
   -- an error is never nought
   exfalso
   have key: ∀ (k i acc:Nat) (l:List Int) (e:Int),rdp k i acc l = .inl e->e≠0:=by
    intro k
    induction k with
    | zero=>intro i acc l e hh; injection hh with hh; omega
    | succ k ih =>
     intro i acc l e hh
     cases l with
     | nil=>injection hh with hh; omega
     | cons b r =>
      unfold rdp at hh
      split at hh
      ·split at hh
       ·injection hh with hh
        omega
       ·cases hh
      ·exact ih _ _ _ _ hh
   exact key _ _ _ _ _ hr h
  | inr p =>
   obtain ⟨v,j⟩:=p
   obtain ⟨w,h1,h2,h3,h4,h5,h6⟩:=I4 9 0 0 (sbs i.s) v j (lC i.s) hr
   refine ⟨v,rfl,h2,?_⟩
   have hvw:v=w:=by rw [h1]; simp
   show sbs i.s=lR v++sbs (iU i.s j i.s.size)
   rw [hvw,h5,gW,Nat.sub_zero]
   have:(sbs i.s).take i.s.size=sbs i.s:=List.take_of_length_le (by rw [bD]; exact Nat.le_refl _)
   rw [this,List.take_append_drop]
 ·rw [if_neg he] at h
  exact absurd h he
theorem tj {i:aT} (hV:VI i):0<=(rdS i).1/\(rdS i).1<=4611686018427387904:=by
 by_cases h:(rdS i).2.e=0
 ·obtain ⟨_,w,h1,h2,_⟩:=CA h hV
  rw [h1]
  unfold most at h2
  omega
 ·rw [EH h]
  omega
theorem Ov (s:ByteArray) (w:Nat) (R:List Int) (hw:w<=most) (hs:sbs s=lR w++R):rdS ⟨s,0⟩=((w:Int),⟨hU R,0⟩):=by
 unfold rdS
 rw [if_pos rfl]
 have hl:=vO 8 w (by unfold most at hw; omega)
 have h:=LN 8 0 0 w R (by unfold most at hw; omega) (by omega) (λh=>by omega) (by simpa using hw)
 dsimp only
 rw [hs,h]
 show (((0+w*128 ^ 0:Nat):Int),(⟨iU s ((0+(lR w).length:Nat):Int) s.size,0⟩:aT))=_
 have e1:0+w*128 ^ 0=w:=by simp
 have e2:iU s ((0+(lR w).length:Nat):Int) s.size=hU R:=by
  rw [<- vS (iU s ((0+(lR w).length:Nat):Int) s.size),gW]
  have:(sbs s).take s.size=sbs s:=List.take_of_length_le (by rw [bD]; exact Nat.le_refl _)
  rw [this,hs,Nat.zero_add,List.drop_left]
 rw [e1,e2]
theorem I5 (l:List aE) (hl:l.length<=1000000) (h: ∀ r∈l,r.cells.length<=1000000/\okR r.cells):pf l (l.map told)=some true:=by
 unfold pf
 have e0:((l.length:Int) != ((l.map told).length:Int))=false:=by simp
 rw [e0,cond_false]
 refine fM (λi=>(i:Int)) l.length (.inl ()) rfl ?_ ?_ rfl
 ·intro i hi
  try dsimp only
  have hr:=h _ (List.getElem_mem hi)
  rw [List.length_map,decide_eq_true (by omega),cond_true,cU l i hi,aA,cU _ _ (by simpa using hi),aA,List.getElem_map,PU _ hr.1 hr.2,aA,Bool.not_true,cond_false,w64 (by omega) (by omega)]
  rfl
 ·try dsimp only
  rw [List.length_map,decide_eq_false (by omega),cond_false]
theorem I6 {W:Nat} {l:List aE} (h:GI W l) (y:Int) (r:aE) (hr:okR r.cells):GI W (uq W l y r):=⟨h.w1,h.w2,by rw [kV]; exact h.l1,by rw [kV]; exact h.l2,G7 h.rs y r hr⟩
def Ad:aT:=⟨noS,1⟩
theorem u4:VI Ad:=⟨by show noS.size<=1000000; decide,.inr rfl⟩
theorem xR {i:aT} (h:VI i):bU i 1=some (if i.e=0 then Ad else i):=by
 obtain ⟨s,e⟩:=i
 by_cases he:e=0
 ·subst he
  rw [if_pos rfl]
  exact qQ s 1 (by decide)
 ·rw [if_neg he]
  exact wZ s e 1 he
def dJ (i:aT) (m:Int):Int×aT:=if (rdS i).1 > m then (0,Ad) else rdS i
theorem iT {i:aT} (m:Int) (h:VI i):VI (dJ i m).2:=by
 unfold dJ
 split
 ·exact u4
 ·exact kB h
theorem mf {i:aT} {m:Int} (h:VI i) (hm:0<=m):0<=(dJ i m).1/\(dJ i m).1<=m:=by
 unfold dJ
 split
 ·exact ⟨Int.le_refl _,hm⟩
 ·have:=tj h
  omega
theorem mR {i:aT} {m:Int} (h:(dJ i m).2.e=0) (hV:VI i):i.e=0 /\ ∃ w:Nat,(dJ i m).1=w/\(w:Int)<=m/\w<=most/\sbs i.s=lR w++sbs (dJ i m).2.s:=by
 unfold dJ at *
 split at h
 ·exact absurd h (by decide)
 ·rename_i hh
  rw [if_neg hh]
  obtain ⟨h1,w,h2,h3,h4⟩:=CA h hV
  exact ⟨h1,w,h2,by omega,h3,h4⟩
theorem za {i:aT} (hV:VI i) {m:Int} (hm:0<=m) (h:(rdS i).1 > m):(rdS i).2.e=0:=by
 by_cases he:(rdS i).2.e=0
 ·exact he
 ·have:=EH he
  omega
theorem size_eq {i:aT} (h:VI i):xN i=some (dJ i 1000):=by
 unfold xN dJ
 rw [nY i h,aA]
 by_cases hb:(rdS i).1 > 1000
 ·have he:=za h (by omega) hb
  rw [decide_eq_true hb,cond_true,xR (kB h),if_pos he,aA,if_pos hb]
 ·rw [decide_eq_false hb,cond_false,if_neg hb]
theorem BC {i:aT} (h:VI i) {m:Int} (hm:0<=m):iE i m=some (dJ i m):=by
 unfold iE dJ
 rw [nY i h,aA]
 by_cases hb:(rdS i).1 > m
 ·have he:=za h hm hb
  rw [decide_eq_true hb,cond_true,xR (kB h),if_pos he,aA,if_pos hb]
 ·rw [decide_eq_false hb,cond_false,if_neg hb]
def rO (i:aT) (left:Int):aT:=if (dJ i left).2.e=0/\(dJ i left).1=0 then Ad else (dJ i left).2
theorem rQ {i:aT} (left:Int) (h:VI i):VI (rO i left):=by
 unfold rO
 split
 ·exact u4
 ·exact iT left h
def ur (i:aT) (left:Int):Int×aT:=dJ (rO i left) 1114111
def u5 (i:aT) (left:Int):Int×aT:=dJ (ur i left).2 647
def ox (i:aT) (left:Int):Int×aT:=dJ (u5 i left).2 3
theorem tU {i:aT} (left:Int) (h:VI i):VI (ur i left).2:=iT _ (rQ left h)
theorem tV {i:aT} (left:Int) (h:VI i):VI (u5 i left).2:=iT _ (tU left h)
theorem qf {i:aT} (left:Int) (h:VI i):VI (ox i left).2:=iT _ (tV left h)
def lh (i:aT) (left:Int):aG:=⟨(ur i left).1,(u5 i left).1,(ox i left).1⟩
theorem zb (i:aT) (h:VI i) (m:Int) (hm:0<=m): ∃ v:Int,bW i=some (v,(rdS i).2)/\(if v > m then (if (rdS i).2.e=0 then Ad else (rdS i).2) else (rdS i).2)=(dJ i m).2/\((dJ i m).2.e=0->v=(dJ i m).1):=by
 refine ⟨(rdS i).1,nY i h,?_,?_⟩
 ·unfold dJ
  by_cases hb:(rdS i).1 > m
  ·rw [if_pos hb,if_pos hb,if_pos (za h hm hb)]
  ·rw [if_neg hb,if_neg hb]
 ·unfold dJ
  by_cases hb:(rdS i).1 > m
  ·rw [if_pos hb]
   intro hh
   exact absurd hh (by decide)
  ·rw [if_neg hb]
   exact λ_=>rfl
theorem CB {i:aT} (h:i.e≠0) (m:Int) (hm:0<=m):(dJ i m).2=i:=by
 unfold dJ rdS
 rw [if_neg h]
 dsimp only
 rw [if_neg (by omega)]
theorem run_eq (i:aT) (left:Int) (h:VI i) (hl:0<=left):ou i left=some (if (ox i left).2.e=0 then ((dJ i left).1,lh i left,true,(ox i left).2) else (0,⟨0,0,0⟩,false,(ox i left).2)):=by
 unfold ou
 rw [nY i h,aA]
 have hor:((bif ((rdS i).1 == 0) then some true else some (decide ((rdS i).1 > left))):Option Bool)=some (decide ((rdS i).1=0\/(rdS i).1 > left)):=by
  by_cases h0:(rdS i).1=0
  ·have:((rdS i).1 == 0)=true:=by simpa using h0
   rw [this,cond_true,decide_eq_true (.inl h0)]
  ·have:((rdS i).1 == 0)=false:=by simpa using h0
   rw [this,cond_false]
   by_cases h1:(rdS i).1 > left
   ·rw [decide_eq_true h1,decide_eq_true (.inr h1)]
   ·rw [decide_eq_false h1,decide_eq_false (by omega)]
 have hst:((bif decide ((rdS i).1=0\/(rdS i).1 > left) then (Option.bind (bU (rdS i).2 1) λb=>some b) else some (rdS i).2):Option aT)=some (rO i left):=by
  unfold rO dJ
  by_cases hb:(rdS i).1 > left
  ·rw [decide_eq_true (.inr hb),cond_true,xR (kB h),if_pos (za h hl hb),aA,if_pos hb]
   rfl
  ·rw [if_neg hb]
   by_cases h0:(rdS i).1=0
   ·rw [decide_eq_true (.inl h0),cond_true,xR (kB h),aA]
    by_cases he:(rdS i).2.e=0
    ·rw [if_pos he,if_pos ⟨he,h0⟩]
    ·rw [if_neg he,if_neg (λhh=>he hh.1)]
   ·rw [decide_eq_false (by omega),cond_false,if_neg (λhh=>h0 hh.2)]
 rw [hor,aA,hst,aA]
 obtain ⟨v1,n1,f1,g1⟩:=zb (rO i left) (rQ left h) 1114111 (by omega)
 obtain ⟨v2,n2,f2,g2⟩:=zb (ur i left).2 (tU left h) 647 (by omega)
 obtain ⟨v3,n3,f3,g3⟩:=zb (u5 i left).2 (tV left h) 3 (by omega)
 have fl: ∀ (j:aT) (hj:VI j) (v m:Int) (a:ni) (out:aT),(if v > m then (if j.e=0 then Ad else j) else j)=out->((bif (decide (v > m)) then (Option.bind (bU j 1) λc=>some (a,c)) else some (a,j)):Option (ni×aT))=some (a,out):=by
  intro j hj v m a out ho
  by_cases hb:v > m
  ·rw [if_pos hb] at ho
   rw [decide_eq_true hb,cond_true,xR hj,aA,ho]
  ·rw [if_neg hb] at ho
   rw [decide_eq_false hb,cond_false,ho]
 have ab: ∀ k:Int,0<=k->k < 3->chk (Iw k 3)=some ():=λk h0 h1=>kj ⟨h0,h1⟩
 rw [dS (s':=((⟨v1,0,0⟩:ni),(ur i left).2,(1:Int)))]
 ·rw [dS (s':=((⟨v1,v2,0⟩:ni),(u5 i left).2,(2:Int)))]
  ·rw [dS (s':=((⟨v1,v2,v3⟩:ni),(ox i left).2,(3:Int)))]
   ·rw [cP (r:=((⟨v1,v2,v3⟩:ni),(ox i left).2))]
    ·rw [aA]
     unfold dU
     rw [aA]
     dsimp only
     by_cases he:(ox i left).2.e=0
     ·have hb:((ox i left).2.e != 0)=false:=by simpa using he
      rw [hb,cond_false,if_pos he]
      have eB:(u5 i left).2.e=0:=(mR (i:=(u5 i left).2) (m:=3) he (tV left h)).1
      have eA:(ur i left).2.e=0:=(mR (i:=(ur i left).2) (m:=647) eB (tU left h)).1
      have e0:(rO i left).e=0:=(mR (i:=rO i left) (m:=1114111) eA (rQ left h)).1
      have q1:v1=(ur i left).1:=g1 eA
      have q2:v2=(u5 i left).1:=g2 eB
      have q3:v3=(ox i left).1:=g3 he
      have hr:=mf (i:=rO i left) (m:=1114111) (rQ left h) (by omega)
      have hw:IntKind.i32.wrap v1=v1:=by
       rw [q1,IntKind.wrap_i32]
       unfold ur
       omega
      have hn:(rdS i).1=(dJ i left).1:=by
       unfold rO at e0
       unfold dJ at *
       split
       ·rename_i hb2
        rw [if_pos hb2] at e0
        split at e0
        ·exact absurd e0 (by decide)
        ·exact absurd e0 (by decide)
       ·rfl
      rw [hw,q1,q2,q3,hn]
      rfl
     ·have hb:((ox i left).2.e != 0)=true:=by simpa using he
      rw [hb,cond_true,if_neg he]
    ·rfl
   ·dsimp only
    rw [decide_eq_true (by omega),cond_true,show idx ([1114111,647,3]:List Int) (2:Int)=some 3 from rfl,aA,n3,aA,ab 2 (by omega) (by omega),aA,aA]
    dsimp only
    rw [show idx [sel 2 0 v3 v1,sel 2 1 v3 v2,sel 2 2 v3 0] (2:Int)=some v3 from rfl,aA,fl _ (kB (tV left h)) _ _ _ _ f3,aA]
    rfl
  ·dsimp only
   rw [decide_eq_true (by omega),cond_true,show idx ([1114111,647,3]:List Int) (1:Int)=some 647 from rfl,aA,n2,aA,ab 1 (by omega) (by omega),aA,aA]
   dsimp only
   rw [show idx [sel 1 0 v2 v1,sel 1 1 v2 0,sel 1 2 v2 0] (1:Int)=some v2 from rfl,aA,fl _ (kB (tU left h)) _ _ _ _ f2,aA]
   rfl
 ·dsimp only
  rw [decide_eq_true (by omega),cond_true,show idx ([1114111,647,3]:List Int) (0:Int)=some 1114111 from rfl,aA,n1,aA,ab 0 (by omega) (by omega),aA,aA]
  dsimp only
  rw [show idx [sel 0 0 v1 0,sel 0 1 v1 0,sel 0 2 v1 0] (0:Int)=some v1 from rfl,aA,fl _ (kB (rQ left h)) _ _ _ _ f1,aA]
  rfl
def rrS:Nat->Int->aT->List aG->List aG×aT
 | 0,_,i,l=>(l,i)
 | k+1,w,i,l=>if (l.length:Int) < w/\i.e=0 then
   (if (ox i (w - l.length)).2.e=0 then (if l.getLast?=some (lh i (w - l.length)) then rrS k w Ad l else rrS k w (ox i (w - l.length)).2 (l++List.replicate (dJ i (w - l.length)).1.toNat (lh i (w - l.length))))
   else rrS k w (ox i (w - l.length)).2 l)
  else (l,i)
theorem yu {i:aT} {left:Int} (h:VI i) (hl:0<=left) (he:(ox i left).2.e=0):i.e=0/\1<=(dJ i left).1/\(dJ i left).1<=left/\(dJ i left).2.e=0/\rO i left=(dJ i left).2:=by
 have eB:(u5 i left).2.e=0:=(mR (i:=(u5 i left).2) (m:=3) he (tV left h)).1
 have eA:(ur i left).2.e=0:=(mR (i:=(ur i left).2) (m:=647) eB (tU left h)).1
 have e0:(rO i left).e=0:=(mR (i:=rO i left) (m:=1114111) eA (rQ left h)).1
 have hr:=mf (i:=i) (m:=left) h hl
 by_cases hc:(dJ i left).2.e=0/\(dJ i left).1=0
 ·unfold rO at e0
  rw [if_pos hc] at e0
  exact absurd e0 (by decide)
 ·have e00:=e0
  unfold rO at e0
  rw [if_neg hc] at e0
  refine ⟨(mR e0 h).1,?_,hr.2,e0,by unfold rO; rw [if_neg hc]⟩
  have:(dJ i left).1≠0:=λhh=>hc ⟨e0,hh⟩
  omega
theorem FU (l:List aG) (c:aG) (h:l.length<=1000000):((bif (decide ((l.length:Int) > 0)) then (Option.bind (idx l (IntKind.i64.wrap ((l.length:Int) - 1))) λa=>some ((a.rune == c.rune) && ((a.aM == c.aM) && ((a.part == c.part) && true)))) else some false):Option Bool)=some (decide (l.getLast?=some c)):=by
 by_cases hl:l.length=0
 ·rw [decide_eq_false (by omega),cond_false]
  have:l=[]:=List.eq_nil_of_length_eq_zero hl
  subst this
  rfl
 ·have hlt:l.length - 1 < l.length:=by omega
  have e1:IntKind.i64.wrap ((l.length:Int) - 1)=((l.length - 1:Nat):Int):=by rw [w64 (by omega) (by omega)]; omega
  rw [decide_eq_true (by omega),cond_true,e1,cU _ _ hlt,aA,pE,List.getLast?_eq_getElem?,List.getElem?_eq_getElem hlt]
  simp
theorem FV (p:Prop) [Decidable p] (e:Int):((bif (decide p) then some (e == 0) else some false):Option Bool)=some (decide (p/\e=0)):=by
 by_cases h1:p
 ·by_cases h2:e=0
  ·have:(e == 0)=true:=by simpa using h2
   rw [decide_eq_true h1,cond_true,this,decide_eq_true ⟨h1,h2⟩]
  ·have:(e == 0)=false:=by simpa using h2
   rw [decide_eq_true h1,cond_true,this,decide_eq_false (λh=>h2 h.2)]
 ·rw [decide_eq_false h1,cond_false,decide_eq_false (λh=>h1 h.1)]
theorem BD: ∀ (k:Nat) (w:Int) (i:aT) (l:List aG),VI i->(l.length:Int)<=max w 0->((rrS k w i l).1.length:Int)<=max w 0/\VI (rrS k w i l).2:=by
 intro k
 induction k with
 | zero=>intro w i l h hl; exact ⟨hl,h⟩
 | succ k ih =>
  intro w i l h hl
  unfold rrS
  by_cases hc:(l.length:Int) < w/\i.e=0
  ·rw [if_pos hc]
   by_cases he:(ox i (w - l.length)).2.e=0
   ·rw [if_pos he]
    obtain ⟨_,h1,h2,_⟩:=yu h (by omega) he
    split
    ·exact ih w _ l u4 hl
    ·exact ih w _ _ (qf _ h) (by rw [List.length_append,List.length_replicate]; omega)
   ·rw [if_neg he]
    exact ih w _ l (qf _ h) hl
  ·rw [if_neg hc]
   exact ⟨hl,h⟩
theorem Hb (w:Int) (hw:w<=1000): ∀ (k:Nat) (i:aT) (l:List aG),VI i->(l.length:Int)<=max w 0->(if i.e=0 then (w - l.length).toNat+1 else 1)<=k ->
  iter (σ:=aT×(List aG)) (ρ:=(List aG)×aT) (λa=>(Option.bind ((bif (decide ((a.2.length:Int) < w)) then (Option.bind (dU a.1) λf=>some (f == 0)) else some false):Option Bool) λg=>(bif g then (Option.bind (ou a.1 (IntKind.i64.wrap (w - (a.2.length:Int)))) λb=>(bif (!b.2.2.1) then some (.inl (b.2.2.2,a.2)) else (Option.bind ((bif (decide ((a.2.length:Int) > 0)) then (Option.bind (idx a.2 (IntKind.i64.wrap ((a.2.length:Int) - 1))) λc=>some ((c.rune == b.2.1.rune) && ((c.aM == b.2.1.aM) && ((c.part == b.2.1.part) && true)))) else some false):Option Bool) λj=>(bif j then (Option.bind (bU b.2.2.2 1) λm=>some (.inl (m,a.2))) else (Option.bind (eJ [b.2.1] b.1) λd=>(Option.bind (chk (eI a.2.length d.length 24)) λ_=>some (.inl (b.2.2.2,(a.2++d))))))))) else some (.inr (a.2,a.1))))) (i,l)=some (rrS k w i l):=by
 intro k
 induction k with
 | zero=>intro i l h hl hk; split at hk <;> omega
 | succ k ih =>
  intro i l h hl hk
  unfold rrS
  by_cases hc:(l.length:Int) < w/\i.e=0
  ·rw [if_pos hc]
   rw [if_pos hc.2] at hk
   have hwr:IntKind.i64.wrap (w - (l.length:Int))=w - l.length:=w64 (by omega) (by omega)
   by_cases he:(ox i (w - l.length)).2.e=0
   ·rw [if_pos he]
    obtain ⟨_,h1,h2,_⟩:=yu h (by omega) he
    by_cases hlast:l.getLast?=some (lh i (w - l.length))
    ·rw [if_pos hlast,dS (s':=(Ad,l))]
     ·exact ih Ad l u4 hl (by rw [if_neg (by decide)]; omega)
     ·dsimp only
      unfold dU
      rw [aA,FV,decide_eq_true hc,aA,cond_true,hwr,run_eq i _ h (by omega),if_pos he,aA]
      dsimp only
      rw [Bool.not_true,cond_false,FU _ _ (by omega),aA,decide_eq_true hlast,cond_true,xR (qf _ h),if_pos he,aA]
    ·rw [if_neg hlast,dS (s':=((ox i (w - l.length)).2,l++List.replicate (dJ i (w - l.length)).1.toNat (lh i (w - l.length))))]
     ·refine ih _ _ (qf _ h) (by rw [List.length_append,List.length_replicate]; omega) ?_
      rw [if_pos he,List.length_append,List.length_replicate]
      omega
     ·dsimp only
      unfold dU
      rw [aA,FV,decide_eq_true hc,aA,cond_true,hwr,run_eq i _ h (by omega),if_pos he,aA]
      dsimp only
      rw [Bool.not_true,cond_false,FU _ _ (by omega),aA,decide_eq_false hlast,cond_false,Az _ _ (by omega) (by omega),aA,bL (by rw [List.length_replicate]; omega),aA]
   ·rw [if_neg he,dS (s':=((ox i (w - l.length)).2,l))]
    ·exact ih _ l (qf _ h) hl (by rw [if_neg he]; omega)
    ·dsimp only
     unfold dU
     rw [aA,FV,decide_eq_true hc,aA,cond_true,hwr,run_eq i _ h (by omega),if_neg he,aA]
     dsimp only
     rw [Bool.not_false,cond_true]
  ·rw [if_neg hc]
   refine cP ?_
   dsimp only
   unfold dU
   rw [aA,FV,decide_eq_false hc,aA,cond_false]
def ns (i:aT) (w:Int):aE×aT :=
 if (rrS (w.toNat+1) w (dJ i 1).2 []).2.e=0 then (⟨(rrS (w.toNat+1) w (dJ i 1).2 []).1,decide ((dJ i 1).1=1)⟩,(rrS (w.toNat+1) w (dJ i 1).2 []).2)
 else (By,(rrS (w.toNat+1) w (dJ i 1).2 []).2)
theorem CC: ∀ (k:Nat) (w:Int) (i:aT) (l:List aG),(rrS k w i l).2.e=0->i.e=0:=by
 intro k
 induction k with
 | zero=>intro w i l h; exact h
 | succ k ih =>
  intro w i l h
  unfold rrS at h
  by_cases hc:(l.length:Int) < w/\i.e=0
  ·exact hc.2
  ·rw [if_neg hc] at h
   exact h
theorem EJ (i:aT) (w:Int) (h:VI i) (hw:w<=1000):lA i w=some (ns i w):=by
 unfold lA
 rw [nY i h,aA]
 have hst:((bif (decide ((rdS i).1 > 1)) then (Option.bind (bU (rdS i).2 1) λa=>some a) else some (rdS i).2):Option aT)=some (dJ i 1).2:=by
  unfold dJ
  by_cases hb:(rdS i).1 > 1
  ·rw [decide_eq_true hb,cond_true,xR (kB h),if_pos (za h (by omega) hb),aA,if_pos hb]
  ·rw [decide_eq_false hb,cond_false,if_neg hb]
 rw [hst,aA]
 have hV:=iT 1 h
 rw [Hb w hw (w.toNat+1) _ [] hV (by simp; omega) (by simp only [List.length_nil]; split <;> omega),aA]
 unfold dU ns
 rw [aA]
 by_cases he:(rrS (w.toNat+1) w (dJ i 1).2 []).2.e=0
 ·have hb:((rrS (w.toNat+1) w (dJ i 1).2 []).2.e != 0)=false:=by simpa using he
  rw [hb,cond_false,if_pos he]
  have h0:=CC _ _ _ _ he
  have hn:(rdS i).1=(dJ i 1).1:=by
   unfold dJ at *
   split
   ·rename_i hb2
    rw [if_pos hb2] at h0
    exact absurd h0 (by decide)
   ·rfl
  rw [hn]
  congr 3
 ·have hb:((rrS (w.toNat+1) w (dJ i 1).2 []).2.e != 0)=true:=by simpa using he
  rw [hb,cond_true,if_neg he]
  rfl
def lb:List aG->List (Nat×aG)
 | []=>[]
 | c::r=>match lb r with
  | (n,d)::t=>if c=d then (n+1,d)::t else (1,c)::(n,d)::t
  | []=>[(1,c)]
def jj (p:Nat×aG):List Int:=[(p.1:Int),p.2.rune,p.2.aM,p.2.part].flatMap dG
def gZ (r:aE):List Int:=dG (if r.wrapped then 1 else 0)++(lb r.cells).flatMap jj
theorem EK (c:aG) (r:List aG): ∃ n t,lb (c::r)=(n+1,c)::t:=by
 unfold lb
 split
 ·rename_i n d t h
  split
  ·rename_i e
   exact ⟨n,t,by rw [e]⟩
  ·exact ⟨0,_,rfl⟩
 ·exact ⟨0,[],rfl⟩
theorem AE: ∀ l:List aG,(lb l).length<=l.length
 | []=>Nat.le_refl _
 | c::r=>by
  have ih:=AE r
  unfold lb
  split
  ·rename_i n d t h
   rw [h] at ih
   split <;> (simp at ih ⊢; omega)
  ·simp
theorem zc (p:Nat×aG):(jj p).length<=36:=by
 unfold jj
 simp only [List.flatMap_cons,List.flatMap_nil,List.length_append,List.length_nil]
 have h1:=dT (p.1:Int)
 have h2:=dT p.2.rune
 have h3:=dT p.2.aM
 have h4:=dT p.2.part
 omega
theorem CD (t:List (Nat×aG)):(t.flatMap jj).length<=36*t.length:=by
 induction t with
 | nil=>simp
 | cons a t ih =>
  rw [List.flatMap_cons,List.length_append,List.length_cons]
  have:=zc a
  omega
def more (c:aG):List aG->Nat
 | []=>0
 | d::r=>if d=c then more c r+1 else 0
theorem BE (c:aG): ∀ l,more c l<=l.length
 | []=>Nat.le_refl _
 | d::r=>by
  have:=BE c r
  unfold more
  split <;> simp <;> omega
theorem u6 (c:aG): ∀ r:List aG,lb (c::r)=(more c r+1,c)::lb (r.drop (more c r))
 | []=>rfl
 | d::r=>by
  have ih:=u6 d r
  have hu:lb (c::d::r)=(match lb (d::r) with
   | (n,e)::t=>if c=e then (n+1,e)::t else (1,c)::(n,e)::t
   | []=>[(1,c)]):=rfl
  rw [hu,ih]
  try dsimp only
  by_cases h:c=d
  ·subst h
   rw [if_pos rfl]
   have hm:more c (c::r)=more c r+1:=by
    show (if c=c then more c r+1 else 0)=_
    rw [if_pos rfl]
   rw [hm,List.drop_succ_cons]
  ·rw [if_neg h]
   have hm:more c (d::r)=0:=by
    show (if d=c then more c r+1 else 0)=_
    rw [if_neg (λe=>h e.symm)]
   rw [hm,List.drop_zero,ih]
theorem CE (c:aG): ∀ (l:List aG) (k:Nat),k < more c l->l[k]?=some c
 | [],k,h=>by simp [more] at h
 | d::r,k,h=>by
  unfold more at h
  split at h
  ·rename_i e
   cases k with
   | zero=>rw [e]; rfl
   | succ k=>exact CE c r k (by omega)
  ·omega
theorem w7 (c:aG): ∀ (l:List aG),more c l < l.length->l[more c l]?≠some c
 | [],h=>by simp at h
 | d::r,h=>by
  have hu:more c (d::r)=if d=c then more c r+1 else 0:=rfl
  rw [hu] at h ⊢
  by_cases e:d=c
  ·rw [if_pos e] at h ⊢
   exact w7 c r (by simpa using h)
  ·rw [if_neg e]
   simpa using e
theorem LO: ∀ (m:Nat) (l:List aG) (b:List Int),l.length<=m->b.length+36*l.length<=9000000->okR l -> ∃ q,iter (σ:=(List aG)×cG) (ρ:=((List aG)×cG) ⊕ (cG×(List aG))) (λa=>(bif (decide ((a.1.length:Int) > 0)) then (Option.bind (iter (σ:=Int) (ρ:=Int) (λf=>(Option.bind ((bif (decide (f < (a.1.length:Int))) then (Option.bind (idx a.1 f) λg=>(Option.bind (idx a.1 0) λh=>some ((g.rune == h.rune) && ((g.aM == h.aM) && ((g.part == h.part) && true))))) else some false):Option Bool) λj=>(bif j then some (.inl (IntKind.i64.wrap (f+1))) else some (.inr f)))) 1) λi=>(Option.bind (idx a.1 0) λn=>(Option.bind ((λ(s51:cG) (x21:Int×aG)=>(Option.bind (dB s51 [x21.1,(IntKind.i64.wrap x21.2.rune),x21.2.aM,x21.2.part]) λo=>some (o,true))) a.2 (i,n)) λz1399=>(bif (!z1399.2) then (ln (some (z1399.1,a.1))) else (Option.bind (chk (dE i (a.1.length:Int) a.1.length)) λ_=>some (.inl ((cut a.1 i (a.1.length:Int)),z1399.1))))))) else some (.inr (.inl (a.1,a.2))))) (l,⟨b⟩)=some (.inl (q,⟨b++(lb l).flatMap jj⟩)):=by
 intro m
 induction m with
 | zero =>
  intro l b hl hb hok
  have:l=[]:=List.eq_nil_of_length_eq_zero (by omega)
  subst this
  refine ⟨[],?_⟩
  refine cP ?_
  try dsimp only
  rw [decide_eq_false (by simp),cond_false]
  simp [lb]
 | succ m ih =>
  intro l b hl hb hok
  cases l with
  | nil =>
   refine ⟨[],?_⟩
   refine cP ?_
   try dsimp only
   rw [decide_eq_false (by simp),cond_false]
   simp [lb]
  | cons c r =>
   have hmr:=BE c r
   have hcok:rok c.rune:=hok c (List.mem_cons_self ..)
   simp only [List.length_cons] at hl hb
   have hon:=nX b [((more c r+1:Nat):Int),c.rune,c.aM,c.part] (by first | (simp; omega) | simp)
   have hd:(r.drop (more c r)).length<=m:=by rw [List.length_drop]; omega
   have hel:=zc (more c r+1,c)
   obtain ⟨q,hq⟩:=ih (r.drop (more c r)) (b++jj (more c r+1,c)) hd (by rw [List.length_append,List.length_drop]; omega) (y4 (λd hd'=>hok d (List.mem_cons_of_mem _ hd')) _)
   refine ⟨q,?_⟩
   rw [dS (s':=(r.drop (more c r),(⟨b++jj (more c r+1,c)⟩:cG)))]
   ·rw [hq,u6,List.flatMap_cons,List.append_assoc]
   ·try dsimp only
    rw [decide_eq_true (by first | (simp; omega) | simp),cond_true]
    refine fM (λk=>((k+1:Nat):Int)) (more c r) ((more c r+1:Nat):Int) rfl ?_ ?_ ?_
    ·intro k hk
     have hg:=CE c r k hk
     have hgi:idx (c::r) ((k+1:Nat):Int)=some c:=by rw [fZ,List.getElem?_cons_succ,hg]
     have hg0:idx (c::r) 0=some c:=rfl
     try dsimp only
     rw [decide_eq_true (by first | (simp; omega) | simp),cond_true,hgi,aA,hg0,aA,pE,decide_eq_true rfl,aA,cond_true,w64 (by omega) (by omega)]
     rfl
    ·try dsimp only
     by_cases hlt:more c r < r.length
     ·have hs:=w7 c r hlt
      have hgi:idx (c::r) ((more c r+1:Nat):Int)=some r[more c r]:=by rw [fZ,List.getElem?_cons_succ,List.getElem?_eq_getElem hlt]
      have hg0:idx (c::r) 0=some c:=rfl
      have hne: ¬ r[more c r]=c:=λe=>hs (by rw [List.getElem?_eq_getElem hlt,e])
      rw [decide_eq_true (by first | (simp; omega) | simp),cond_true,hgi,aA,hg0,aA,pE,decide_eq_false hne,aA,cond_false]
     ·rw [decide_eq_false (by first | (simp; omega) | simp),cond_false,aA,cond_false]
    ·have hg0:idx (c::r) 0=some c:=rfl
     have hce:jj (more c r+1,c)=[((more c r+1:Nat):Int),c.rune,c.aM,c.part].flatMap dG:=rfl
     rw [hg0,aA,w32 hcok,hon,aA,aA]
     try dsimp only
     rw [Bool.not_true,cond_false,bP (by omega) (by first | (simp; omega) | simp) (by simp),aA,rM,List.take_length,List.drop_succ_cons,hce]
theorem zd (r:aE) (h:r.cells.length<=1000) (hok:okR r.cells):ko r=some (hU (gZ r)):=by
 unfold ko rG p8 oA iP
 have zU:((bif r.wrapped then some 1 else some 0):Option Int)=some (if r.wrapped then 1 else 0):=by cases r.wrapped <;> rfl
 rw [zU,aA,nX [] _ (by simp),aA,aA]
 have hb:=dT (if r.wrapped then 1 else 0)
 obtain ⟨q,hq⟩:=LO r.cells.length r.cells (dG (if r.wrapped then 1 else 0)) (Nat.le_refl _) (by omega) hok
 have e0:([]++[(if r.wrapped then (1:Int) else 0)].flatMap dG)=dG (if r.wrapped then 1 else 0):=by simp
 rw [e0,hq,aA,aA,aA]
 rfl
theorem LP {w:Nat} (h:w<=most):clN (w:Int)=w:=by unfold clN; unfold most at h; omega
theorem mC {w:Nat} (h:w<=most):dG (w:Int)=lR w:=by unfold dG; rw [LP h]
theorem u7 (c:aG) (n:Nat): ∀ l:List aG,l.getLast?≠some c->lb (l++List.replicate (n+1) c)=lb l++[(n+1,c)]
 | [],_=>by
  rw [List.nil_append]
  induction n with
  | zero=>rfl
  | succ n ih =>
   rw [List.replicate_succ]
   show (match lb (List.replicate (n+1) c) with
    | (m,e)::t=>if c=e then (m+1,e)::t else (1,c)::(m,e)::t
    | []=>[(1,c)])=_
   rw [ih]
   show (if c=c then [(n+1+1,c)] else _)=_
   rw [if_pos rfl]
   rfl
 | x::r,h=>by
  cases r with
  | nil =>
   have hx: ¬ x=c:=λe=>h (by rw [e]; rfl)
   have ih:=u7 c n [] (by simp)
   show (match lb ([]++List.replicate (n+1) c) with
    | (m,e)::t=>if x=e then (m+1,e)::t else (1,x)::(m,e)::t
    | []=>[(1,x)])=_
   rw [ih]
   show (if x=c then _ else (1,x)::(n+1,c)::[])=_
   rw [if_neg hx]
   rfl
  | cons y s =>
   have ih:=u7 c n (y::s) (by simpa using h)
   show (match lb ((y::s)++List.replicate (n+1) c) with
    | (m,e)::t=>if x=e then (m+1,e)::t else (1,x)::(m,e)::t
    | []=>[(1,x)])=(match lb (y::s) with
    | (m,e)::t=>if x=e then (m+1,e)::t else (1,x)::(m,e)::t
    | []=>[(1,x)])++[(n+1,c)]
   rw [ih]
   obtain ⟨m,t,hm⟩:=EK y s
   rw [hm]
   show (if x=y then _ else _)=(if x=y then _ else _)++_
   split <;> rfl
theorem AF {i:aT} {left:Int} (h:VI i) (hl:0<=left) (he:(ox i left).2.e=0):sbs i.s=jj ((dJ i left).1.toNat,lh i left)++sbs (ox i left).2.s/\0<=(lh i left).rune/\(lh i left).rune<=1114111:=by
 obtain ⟨_,h1,h2,h3,h4⟩:=yu h hl he
 obtain ⟨eB,c3,q3,_,m3,b3⟩:=mR (i:=(u5 i left).2) (m:=3) he (tV left h)
 obtain ⟨eA,c2,q2,_,m2,b2⟩:=mR (i:=(ur i left).2) (m:=647) eB (tU left h)
 obtain ⟨e0,c1,q1,l1,m1,b1⟩:=mR (i:=rO i left) (m:=1114111) eA (rQ left h)
 obtain ⟨_,c0,q0,_,m0,b0⟩:=mR (i:=i) (m:=left) h3 h
 have qa:(lh i left).rune=(c1:Int):=q1
 have qb:(lh i left).aM=(c2:Int):=q2
 have qc:(lh i left).part=(c3:Int):=q3
 refine ⟨?_,by omega,by omega⟩
 have hE:jj ((dJ i left).1.toNat,lh i left)=lR c0++lR c1++lR c2++lR c3:=by
  unfold jj
  dsimp only
  rw [qa,qb,qc,q0,Int.toNat_natCast]
  simp only [List.flatMap_cons,List.flatMap_nil,List.append_nil,mC m0,mC m1,mC m2,mC m3,List.append_assoc]
 have b1':sbs (dJ i left).2.s=lR c1++sbs (ur i left).2.s:=by rw [<- h4]; exact b1
 have b2':sbs (ur i left).2.s=lR c2++sbs (u5 i left).2.s:=b2
 have b3':sbs (u5 i left).2.s=lR c3++sbs (ox i left).2.s:=b3
 rw [hE,b0,b1',b2',b3']
 simp only [List.append_assoc]
theorem Hc: ∀ (k:Nat) (w:Int) (i:aT) (l:List aG),VI i->okR l->(rrS k w i l).2.e=0 -> ∃ D,(lb (rrS k w i l).1).flatMap jj=(lb l).flatMap jj++D/\sbs i.s=D++sbs (rrS k w i l).2.s/\okR (rrS k w i l).1:=by
 intro k
 induction k with
 | zero=>intro w i l h hok he; exact ⟨[],by simp [rrS],by simp [rrS],hok⟩
 | succ k ih =>
  intro w i l h hok he
  unfold rrS at he ⊢
  by_cases hc:(l.length:Int) < w/\i.e=0
  ·rw [if_pos hc] at he ⊢
   by_cases h2:(ox i (w - l.length)).2.e=0
   ·rw [if_pos h2] at he ⊢
    by_cases h3:l.getLast?=some (lh i (w - l.length))
    ·rw [if_pos h3] at he
     exact absurd (CC _ _ _ _ he) (by decide)
    ·rw [if_neg h3] at he ⊢
     obtain ⟨b1,b2,b3⟩:=AF h (by omega) h2
     obtain ⟨_,p1,_⟩:=yu h (by omega) h2
     obtain ⟨n,hn⟩: ∃ n,(dJ i (w - l.length)).1.toNat=n+1:=⟨(dJ i (w - l.length)).1.toNat - 1,by omega⟩
     rw [hn] at he b1 ⊢
     obtain ⟨D,d1,d2,d3⟩:=ih w _ _ (qf _ h) (rL hok (λc hc=>by rw [List.eq_of_mem_replicate hc]; unfold rok; omega)) he
     refine ⟨jj (n+1,lh i (w - l.length))++D,?_,?_,d3⟩
     ·rw [d1,u7 _ _ _ h3,List.flatMap_append,List.flatMap_singleton,List.append_assoc]
     ·rw [b1,d2,List.append_assoc]
   ·rw [if_neg h2] at he
    exact absurd (CC _ _ _ _ he) h2
  ·rw [if_neg hc] at he ⊢
   exact ⟨[],by simp,by simp,hok⟩
theorem EL {i:aT} {w:Int} (h:VI i) (he:(ns i w).2.e=0):sbs i.s=gZ (ns i w).1++sbs (ns i w).2.s:=by
 unfold ns at *
 by_cases h0:(rrS (w.toNat+1) w (dJ i 1).2 []).2.e=0
 ·rw [if_pos h0]
  obtain ⟨D,d1,d2,_⟩:=Hc _ w _ [] (iT 1 h) (λc hc=>by cases hc) h0
  obtain ⟨_,c,q,hc,hm,hb⟩:=mR (i:=i) (m:=1) (CC _ _ _ _ h0) h
  unfold gZ
  dsimp only
  rw [d1,hb,d2,q]
  have:(if decide ((c:Int)=1)=true then (1:Int) else 0)=(c:Int):=by
   by_cases hc1:(c:Int)=1
   ·simp [hc1]
   ·rw [decide_eq_false hc1]
    simp
    omega
  rw [this,mC hm]
  simp [lb]
 ·rw [if_neg h0] at he
  exact absurd he h0
theorem yv {i:aT} {w:Int} (h:VI i):VI (ns i w).2:=by
 unfold ns
 split
 ·exact (BD _ w _ [] (iT 1 h) (by simp; omega)).2
 ·exact (BD _ w _ [] (iT 1 h) (by simp; omega)).2
theorem Ow: ∀ (k:Nat) (w:Int) (i:aT) (l:List aG),VI i->okR l->okR (rrS k w i l).1:=by
 intro k
 induction k with
 | zero=>intro w i l h hok; exact hok
 | succ k ih =>
  intro w i l h hok
  unfold rrS
  by_cases hc:(l.length:Int) < w/\i.e=0
  ·rw [if_pos hc]
   by_cases h2:(ox i (w - l.length)).2.e=0
   ·rw [if_pos h2]
    obtain ⟨b1,b2,b3⟩:=AF h (by omega) h2
    split
    ·exact ih w _ l u4 hok
    ·exact ih w _ _ (qf _ h) (rL hok (λc hc=>by rw [List.eq_of_mem_replicate hc]; unfold rok; omega))
   ·rw [if_neg h2]
    exact ih w _ l (qf _ h) hok
  ·rw [if_neg hc]
   exact hok
theorem LQ {i:aT} {w:Int} (h:VI i) (hw:w<=1000):okR (ns i w).1.cells/\(ns i w).1.cells.length<=1000:=by
 unfold ns
 split
 ·refine ⟨Ow _ w _ [] (iT 1 h) (λc hc=>by cases hc),?_⟩
  have:=(BD (w.toNat+1) w _ [] (iT 1 h) (by simp; omega)).1
  show (rrS (w.toNat+1) w (dJ i 1).2 []).1.length<=1000
  omega
 ·exact ⟨λc hc=>(by cases hc),Nat.zero_le _⟩
theorem CF (a b:Bool):((bif a then some b else some false):Option Bool)=some (a && b):=by cases a <;> rfl
theorem bor (a b:Bool):((bif a then some true else some b):Option Bool)=some (a || b):=by cases a <;> rfl
def okG (r s:Int):Bool:=(decide (r>=0) && decide (r<=1114111)) && (decide (s>=0) && decide (s<=647))
def okC (c:aG):Bool:=okG c.rune c.aM && (decide (c.part>=0) && decide (c.part<=3))
def jY (s:aH):Bool:=(s.k == 0) && ((s.w == 0) && ((s.h == 0) && ((s.x == 0) && ((s.y == 0) && ((s.title.toList == (ByteArray.mk #[]).toList) && (((s.rows.length:Int) == 0) && ((s.len == 0) && ((s.chain == 0) && ((s.begun.length:Int) == 0)))))))))
def wi (n lo hi:Int):Bool:=decide (n>=lo) && decide (n<=hi)
def u9 (s:aH):Bool:=wi s.k 1 1152921504606846976 && (wi s.w 1 1000 && (wi s.h 1 1000 && (wi s.x 0 (s.w - 1) && (wi s.y 0 (s.h - 1) && (((s.rows.length:Int) == s.h) && (decide ((s.title.size:Int)<=200) && (wi s.len 0 1152921504606846976 && (wi s.chain 0 281474976710656 && decide ((s.begun.length:Int)<=1024)))))))))
def tp (w:Int) (r:aE):Bool:=((r.cells.length:Int) == w) && r.cells.all okC
def nZ (s:aH):Bool:=jY s || (u9 s && ((s.begun.all λg=>okG g.rune g.aM) && s.rows.all (tp s.w)))
theorem empty_eq (s:aH):iJ s=some (jY s):=by
 unfold iJ jY
 simp only [CF,aA]
theorem va (n lo hi:Int):eX n lo hi=some (wi n lo hi):=by
 unfold eX wi
 rw [CF,aA]
structure SW (s:aH):Prop where
 w1: -9223372036854775808<=s.w/\s.w<=9223372036854775807
 h1: -9223372036854775808<=s.h/\s.h<=9223372036854775807
 gl: ∀ g∈s.begun,rok g.rune
 ro: ∀ r∈s.rows,okR r.cells/\r.cells.length<=1000
 rl:s.rows.length<=1000
 bl:s.begun.length<=2000
 tl:s.title.size<=6000
theorem I7 (s:aH) (h:SW s):kS s=some (u9 s):=by
 unfold kS u9
 simp only [va,aA]
 by_cases hw:s.w>=1
 ·have e1:IntKind.i64.wrap (s.w - 1)=s.w - 1:=w64 (by omega) (by have:=h.w1; omega)
  by_cases hh:s.h>=1
  ·have e2:IntKind.i64.wrap (s.h - 1)=s.h - 1:=w64 (by omega) (by have:=h.h1; omega)
   simp only [e1,e2,CF,aA]
  ·have e2:wi s.h 1 1000=false:=by unfold wi; rw [decide_eq_false hh]; rfl
   simp only [e2,e1,cond_false,CF,Bool.false_and,Bool.and_false,aA]
 ·have e2:wi s.w 1 1000=false:=by unfold wi; rw [decide_eq_false hw]; rfl
  simp only [e2,cond_false,CF,Bool.false_and,Bool.and_false,aA]
theorem CG (r s:Int) (h:rok r):mM r s=some (okG r s):=by
 unfold mM okG
 simp only [va,aA,w32 h,CF,wi]
theorem Hd (c:aG) (h:rok c.rune):oH c=some (okC c):=by
 unfold oH okC
 rw [CG _ _ h]
 simp only [va,aA,CF,wi]
theorem find_eq {α:Type} (l:List α) (p:α->Bool) (hl:l.length<=1000000) (f:Int->Option (Int ⊕ (Unit ⊕ Int))) (hf: ∀ (n:Nat) (hn:n < l.length),f (n:Int)=if p l[n] then some (.inr (.inr (n:Int))) else some (.inl ((n+1:Nat):Int))) (he:f (l.length:Int)=some (.inr (.inl ()))): ∃ q,iter f 0=some q/\((q = .inl ()/\l.any p=false) \/ ∃ w:Int,q = .inr w/\0<=w/\l.any p=true):=by
 obtain ⟨q,h1,h2⟩:=s8 (f:=f) (λi:Int=> ∃ n:Nat,i=n/\n<=l.length/\(l.take n).any p=false) (λi=>(l.length - i).toNat) (λq=>(q = .inl ()/\l.any p=false) \/ ∃ w:Int,q = .inr w/\0<=w/\l.any p=true) (by
  rintro i ⟨n,rfl,hn,ht⟩
  by_cases hlt:n < l.length
  ·by_cases hp:p l[n]=true
   ·refine .inr ⟨.inr (n:Int),by rw [hf n hlt,if_pos hp],.inr ⟨_,rfl,by omega,List.any_eq_true.2 ⟨l[n],List.getElem_mem hlt,hp⟩⟩⟩
   ·refine .inl ⟨((n+1:Nat):Int),by rw [hf n hlt,if_neg hp],⟨n+1,rfl,hlt,?_⟩,by omega⟩
    rw [List.take_succ_eq_append_getElem hlt,List.any_append,ht]
    simpa using hp
  ·have hnl:n=l.length:=by omega
   subst hnl
   refine .inr ⟨.inl (),he,.inl ⟨rfl,?_⟩⟩
   rwa [List.take_length] at ht) 0 ⟨0,rfl,by omega,rfl⟩
 exact ⟨q,h1,h2⟩
theorem LR (l:List aJ) (hl:l.length<=1000000) (h: ∀ g∈l,rok g.rune):cM l=some (l.any λg=> !okG g.rune g.aM):=by
 unfold cM dQ
 have hlen:l.length=l.length:=rfl
 obtain ⟨q,h1,h2⟩:=find_eq l (λg=> !okG g.rune g.aM) hl (λa=>(bif (decide (a < (l.length:Int))) then (Option.bind (idx l a) λb=>(Option.bind (jR b) λc=>(bif c then (ln (some a)) else some (.inl (IntKind.i64.wrap (a+1)))))) else some (.inr (.inl ())))) (by
  intro n hn
  unfold jR
  rw [decide_eq_true (by omega),cond_true,cU l n hn,aA,CG _ _ (h _ (List.getElem_mem hn)),aA,aA,w64 (by omega) (by omega)]
  cases okG l[n].rune l[n].aM <;> rfl) (by
  rw [decide_eq_false (by omega),cond_false])
 rw [h1,aA]
 rcases h2 with ⟨rfl,h3⟩ | ⟨w,rfl,h4,h3⟩
 ·rw [h3]
  rfl
 ·rw [h3]
  show some (decide (w>=0))=some true
  rw [decide_eq_true h4]
theorem LS (l:List aG) (hl:l.length<=1000000) (h:okR l):cA l=some (l.any λc=> !okC c):=by
 unfold cA dV
 obtain ⟨q,h1,h2⟩:=find_eq l (λc=> !okC c) hl (λa=>(bif (decide (a < (l.length:Int))) then (Option.bind (idx l a) λb=>(Option.bind (jS b) λd=>(bif d then (ln (some a)) else some (.inl (IntKind.i64.wrap (a+1)))))) else some (.inr (.inl ())))) (by
  intro n hn
  unfold jS
  rw [decide_eq_true (by omega),cond_true,cU l n hn,aA,Hd _ (h _ (List.getElem_mem hn)),aA,aA,w64 (by omega) (by omega)]
  cases okC l[n] <;> rfl) (by
  rw [decide_eq_false (by omega),cond_false])
 rw [h1,aA]
 rcases h2 with ⟨rfl,h3⟩ | ⟨w,rfl,h4,h3⟩
 ·rw [h3]
  rfl
 ·rw [h3]
  show some (decide (w>=0))=some true
  rw [decide_eq_true h4]
theorem FW {α:Type} (l:List α) (p:α->Bool):(l.any λx=> !p x) = !(l.all p):=by
 induction l with
 | nil=>rfl
 | cons a l ih=>rw [List.any_cons,List.all_cons,ih,Bool.not_and]
theorem vU (s:aH) (h:SW s):eY s=some (if nZ s then 0 else 1):=by
 unfold eY nZ
 rw [empty_eq,aA]
 cases he:jY s with
 | true =>
  rw [cond_true]
  rfl
 | false =>
  rw [cond_false,I7 s h,aA,LR _ (by have:=h.bl; omega) h.gl,aA,bor,aA,FW]
  cases hs:u9 s with
  | false=>rfl
  | true =>
   cases hg:(s.begun.all λg=>okG g.rune g.aM) with
   | false=>rfl
   | true =>
    show Option.bind (iter _ 0) _=some (if s.rows.all (tp s.w)=true then 0 else 1)
    have hrl:=h.rl
    refine pF (λi:Int=> ∃ n:Nat,i=n/\n<=s.rows.length/\(s.rows.take n).all (tp s.w)=true) (λi=>(s.rows.length - i).toNat) (λq=>q=if s.rows.all (tp s.w)=true then .inl () else .inr 1) ⟨0,rfl,by omega,rfl⟩ ?_ ?_
    ·rintro i ⟨n,rfl,hn,ht⟩
     by_cases hlt:n < s.rows.length
     ·have hro:=h.ro _ (List.getElem_mem hlt)
      have hcond:((bif ((s.rows[n].cells.length:Int) != s.w) then some true else (Option.bind (cA s.rows[n].cells) λa=>some a)):Option Bool)=some (!tp s.w s.rows[n]):=by
       rw [LS _ (by omega) hro.1,aA,bor,FW]
       unfold tp
       rw [Bool.not_and]
       rfl
      try dsimp only
      rw [decide_eq_true (by omega),cond_true,cU _ _ hlt,aA,hcond,aA,w64 (by omega) (by omega)]
      cases hb:tp s.w s.rows[n] with
      | true =>
       refine .inl ⟨((n+1:Nat):Int),rfl,⟨n+1,rfl,hlt,?_⟩,by omega⟩
       rw [List.take_succ_eq_append_getElem hlt,List.all_append,ht]
       simp [hb]
      | false =>
       refine .inr ⟨.inr 1,rfl,?_⟩
       rw [if_neg]
       intro hall
       have:=List.all_eq_true.1 hall _ (List.getElem_mem hlt)
       rw [hb] at this
       cases this
     ·refine .inr ⟨.inl (),?_,?_⟩
      ·try dsimp only
       rw [decide_eq_false (by omega),cond_false]
      ·have hnl:n=s.rows.length:=by omega
       subst hnl
       rw [List.take_length] at ht
       rw [if_pos ht]
    ·rintro q rfl
     by_cases hall:s.rows.all (tp s.w)=true
     ·rw [if_pos hall,if_pos hall]
     ·rw [if_neg hall,if_neg hall]
def tg (g:aJ):uX:=⟨g.rune,g.aM⟩
theorem vV (b:List Int) (s:ByteArray) (hb:b.length+s.size<=10000000):iA ⟨b⟩ [s]=some ⟨b++sbs s⟩:=by
 unfold iA
 rw [dS (s':=((⟨b++sbs s⟩:cG),(1:Int)))]
 ·rw [cP (r:=(⟨b++sbs s⟩:cG))]
  ·rfl
  ·dsimp only
   rw [decide_eq_false (by simp),cond_false]
 ·dsimp only
  have h0:idx [s] 0=some s:=rfl
  rw [decide_eq_true (by simp),cond_true,h0,aA,bL (by omega),aA]
  rfl
theorem CH (b:List Int) (s:ByteArray) (hb:b.length+s.size<=1000000):lq ⟨b⟩ [s]=some ⟨b++(dG s.size++sbs s)⟩:=by
 unfold lq
 have he:=dT (s.size:Int)
 rw [dS (s':=((⟨b++(dG s.size++sbs s)⟩:cG),(1:Int)))]
 ·rw [cP (r:=(⟨b++(dG s.size++sbs s)⟩:cG))]
  ·rfl
  ·dsimp only
   rw [decide_eq_false (by simp),cond_false]
 ·dsimp only
  have h0:idx [s] 0=some s:=rfl
  rw [decide_eq_true (by simp),cond_true,h0,aA,nX _ _ (by simp; omega),aA]
  simp only [List.flatMap_cons,List.flatMap_nil,List.append_nil]
  rw [vV _ _ (by rw [List.length_append]; omega),aA,List.append_assoc]
  rfl
def qR (g:aJ):List Int:=[g.rune,g.aM].flatMap dG
def lL (l:List aJ):List Int:=dG l.length++l.flatMap qR
theorem I8 (g:aJ):(qR g).length<=18:=by
 unfold qR
 simp only [List.flatMap_cons,List.flatMap_nil,List.length_append,List.length_nil]
 have h1:=dT g.rune
 have h2:=dT g.aM
 omega
theorem tW (l:List aJ):(l.flatMap qR).length<=18*l.length:=by
 induction l with
 | nil=>simp
 | cons a t ih =>
  rw [List.flatMap_cons,List.length_append,List.length_cons]
  have:=I8 a
  omega
theorem zf (l:List aJ) (h:l.length<=2000) (hr: ∀ g∈l,rok g.rune):mA l=some (hU (lL l)):=by
 unfold mA iP lL
 have he:=dT (l.length:Int)
 rw [nX [] _ (by simp),aA]
 have e0:([]++[(l.length:Int)].flatMap dG)=dG l.length:=by simp
 rw [e0]
 refine fM (λi=>((⟨dG l.length++(l.take i).flatMap qR⟩:cG),(i:Int))) l.length (⟨dG l.length++l.flatMap qR⟩:cG) (by simp) ?_ ?_ rfl
 ·intro i hi
  dsimp only
  have h2:=tW (l.take i)
  rw [List.length_take] at h2
  rw [decide_eq_true (by omega),cond_true,cU _ _ hi,aA,w32 (hr _ (List.getElem_mem hi)),nX _ _ (by simp only [List.length_append,List.length_cons,List.length_nil]; omega),aA,w64 (by omega) (by omega),List.take_succ_eq_append_getElem hi,List.flatMap_append,List.flatMap_singleton,List.append_assoc]
  rfl
 ·dsimp only
  rw [decide_eq_false (by omega),cond_false,List.take_length]
def uJ (s:aH):List Int:=[s.k,s.w,s.h,s.x,s.y].flatMap dG++(dG s.title.size++sbs s.title)++[s.len,s.chain].flatMap dG++lL s.begun
def zh (s:aH):List Int:=uJ s++s.rows.flatMap gZ
theorem AG (s:aH) (h:SW s):(uJ s).length<=46000:=by
 unfold uJ lL
 simp only [List.flatMap_cons,List.flatMap_nil,List.length_append,List.length_nil,bD]
 have a1:=dT s.k
 have a2:=dT s.w
 have a3:=dT s.h
 have a4:=dT s.x
 have a5:=dT s.y
 have a6:=dT (s.title.size:Int)
 have a7:=dT s.len
 have a8:=dT s.chain
 have a9:=dT (s.begun.length:Int)
 have b1:=tW s.begun
 have b2:=h.bl
 have b3:=h.tl
 omega
theorem BF (l:List aE) (i:Nat):((l.take i).flatMap gZ).length<=(l.flatMap gZ).length:=by
 have:l.flatMap gZ=(l.take i).flatMap gZ++(l.drop i).flatMap gZ:=by rw [<- List.flatMap_append,List.take_append_drop]
 rw [this,List.length_append]
 omega
def mP (s:aH):ByteArray:=if jY s=true\/nZ s=false then noS else hU (zh s)
theorem FX (s:aH) (h:SW s) (hp:(s.rows.flatMap gZ).length<=1000000):ki s=some (mP s):=by
 unfold ki mP
 have hc:((Option.bind (iJ s) λa=>(bif a then some true else (Option.bind (eY s) λc=>some (c != 0)))):Option Bool)=some (jY s || !nZ s):=by
  rw [empty_eq,aA,vU s h,aA]
  cases jY s <;> cases nZ s <;> rfl
 rw [hc,aA]
 by_cases hb:jY s=true\/nZ s=false
 ·rw [if_pos hb]
  have:(jY s || !nZ s)=true:=by
   rcases hb with hb | hb <;> simp [hb]
  rw [this,cond_true]
  rfl
 ·rw [if_neg hb]
  have hne:jY s=false:=by cases he:jY s with | true=>exact absurd (.inl he) hb | false=>rfl
  have hm:nZ s=true:=by cases he:nZ s with | false=>exact absurd (.inr he) hb | true=>rfl
  rw [hne,hm]
  show Option.bind (dB ⟨[]⟩ [s.k,s.w,s.h,s.x,s.y]) _=_
  have hpl:=AG s h
  have htl:=h.tl
  have hph:(uJ s).length=([s.k,s.w,s.h,s.x,s.y].flatMap dG).length+((dG s.title.size++sbs s.title).length+(([s.len,s.chain].flatMap dG).length+(lL s.begun).length)):=by
   unfold uJ
   rw [List.length_append,List.length_append,List.length_append]
   omega
  have hts:(dG s.title.size++sbs s.title).length=(dG s.title.size).length+s.title.size:=by rw [List.length_append,bD]
  have hbs: ∀ b∈lL s.begun,0<=b/\b < 256:=by
   intro b hb
   unfold lL at hb
   rcases List.mem_append.1 hb with hb | hb
   ·exact qP _ b hb
   ·obtain ⟨g,_,hg⟩:=List.mem_flatMap.1 hb
    unfold qR at hg
    obtain ⟨x,_,hx⟩:=List.mem_flatMap.1 hg
    exact qP _ b hx
  rw [nX _ _ (by simp),aA,List.nil_append,CH _ _ (by omega),aA,nX _ _ (by rw [List.length_append]; simp only [List.length_cons,List.length_nil]; omega),aA,zf _ h.bl h.gl,aA,vV _ _ (by rw [me,List.length_append,List.length_append]; omega),aA,oL _ hbs]
  have hhead:[s.k,s.w,s.h,s.x,s.y].flatMap dG++(dG s.title.size++sbs s.title)++[s.len,s.chain].flatMap dG++lL s.begun=uJ s:=rfl
  rw [hhead]
  refine fM (λi=>((⟨uJ s++(s.rows.take i).flatMap gZ⟩:cG),(i:Int))) s.rows.length (⟨zh s⟩:cG) (by simp) ?_ ?_ rfl
  ·intro i hi
   have hro:=h.ro _ (List.getElem_mem hi)
   have hl1:=BF s.rows (i+1)
   rw [List.take_succ_eq_append_getElem hi,List.flatMap_append,List.flatMap_singleton,List.length_append] at hl1
   have hrl:=h.rl
   have hbr: ∀ b∈gZ s.rows[i],0<=b/\b < 256:=by
    intro b hb
    unfold gZ at hb
    rcases List.mem_append.1 hb with hb | hb
    ·exact qP _ b hb
    ·obtain ⟨g,_,hg⟩:=List.mem_flatMap.1 hb
     unfold jj at hg
     obtain ⟨x,_,hx⟩:=List.mem_flatMap.1 hg
     exact qP _ b hx
   dsimp only
   rw [decide_eq_true (by omega),cond_true,cU _ _ hi,aA,zd _ hro.2 hro.1,aA,vV _ _ (by rw [me,List.length_append]; omega),aA,oL _ hbr,w64 (by omega) (by omega),List.take_succ_eq_append_getElem hi,List.flatMap_append,List.flatMap_singleton,List.append_assoc]
   rfl
  ·have hrl:=h.rl
   dsimp only
   rw [decide_eq_false (by omega),cond_false,List.take_length]
   rfl
def He (j:aT) (n:Int):ByteArray×aT:=if j.e≠0 then (noS,j) else if n > j.s.size then (noS,⟨noS,2⟩) else (iU j.s 0 n,⟨iU j.s n j.s.size,0⟩)
def vb (i:aT):ByteArray×aT:=He (rdS i).2 (rdS i).1
theorem FY:iU noS 0 0=noS:=by
 apply rN
 have:=gW noS 0 0
 exact this
theorem Ox (j:aT) (n:Int) (h:VI j) (h0:0<=n) (he:j.e≠0->n=0):nG j n=some (He j n):=by
 obtain ⟨s,e⟩:=j
 unfold nG He
 have hm:imax 0 n=n:=by rw [gN]; omega
 have hsz:=h.1
 rw [hm]
 dsimp only at *
 by_cases hz:e=0
 ·subst hz
  rw [if_neg (by simp)]
  by_cases hb:n > s.size
  ·rw [decide_eq_true hb,cond_true,if_pos hb,qQ _ _ (by decide),aA]
   rfl
  ·rw [decide_eq_false hb,cond_false,if_neg hb,bP (by omega) (by omega) (by omega),aA,bP (by omega) (by omega) (by omega),aA]
 ·obtain rfl:=he hz
  obtain rfl:s=noS:=h.2.resolve_left hz
  rw [if_pos hz,decide_eq_false (by decide),cond_false,bP (by decide) (by decide) (by decide),aA,bP (by decide) (by decide) (by decide),aA]
  have h2:iU noS 0 (noS.size:Int)=noS:=FY
  rw [FY,h2]
theorem LU (i:aT) (h:VI i):l9 i=some (vb i):=by
 unfold l9 vb
 rw [nY i h,aA,Ox _ _ (kB h) (tj h).1 (λhe=>EH he),aA]
theorem BH {i:aT} (h:VI i):VI (vb i).2:=by
 unfold vb He
 have hV:=kB h
 split
 ·exact hV
 ·split
  ·exact ⟨by show noS.size<=1000000; decide,.inr rfl⟩
  ·refine ⟨?_,.inl rfl⟩
   have hr:=tj h
   obtain ⟨n,hn⟩:=Int.eq_ofNat_of_zero_le hr.1
   show (iU (rdS i).2.s (rdS i).1 (rdS i).2.s.size).size<=1000000
   rw [hn,<- bD,gW,List.length_drop,List.length_take,bD]
   have:=hV.1
   omega
theorem Oy {i:aT} (h:VI i) (he:(vb i).2.e=0):i.e=0/\sbs i.s=dG (vb i).1.size++sbs (vb i).1++sbs (vb i).2.s:=by
 unfold vb He at *
 by_cases h1:(rdS i).2.e=0
 ·rw [if_neg (by simpa using h1)] at he ⊢
  by_cases h2:(rdS i).1 > (rdS i).2.s.size
  ·rw [if_pos h2] at he
   exact absurd he (by decide)
  ·rw [if_neg h2] at he ⊢
   obtain ⟨e0,w,hw,hm,hb⟩:=CA h1 h
   refine ⟨e0,?_⟩
   rw [hw] at h2 ⊢
   have hs1:sbs (iU (rdS i).2.s 0 (w:Int))=(sbs (rdS i).2.s).take w:=by
    have:=gW (rdS i).2.s 0 w
    simpa using this
   have hs2:sbs (iU (rdS i).2.s (w:Int) (rdS i).2.s.size)=(sbs (rdS i).2.s).drop w:=by
    rw [gW]
    congr 1
    exact List.take_of_length_le (by rw [bD]; exact Nat.le_refl _)
   have hsz:(iU (rdS i).2.s 0 (w:Int)).size=w:=by
    rw [<- bD,hs1,List.length_take,bD]
    omega
   dsimp only
   rw [hsz,hs1,hs2,mC hm,List.append_assoc,List.take_append_drop]
   exact hb
 ·rw [if_pos h1] at he
  exact absurd he h1
def bkL:Nat->aT->List aJ->List aJ×aT
 | 0,i,l=>(l,i)
 | k+1,i,l=>bkL k (dJ (dJ i 1114111).2 647).2 (l++[⟨(dJ i 1114111).1,(dJ (dJ i 1114111).2 647).1⟩])
def bkS (i:aT):List aJ×aT:=if (bkL (dJ i 1024).1.toNat (dJ i 1024).2 []).2.e=0 then bkL (dJ i 1024).1.toNat (dJ i 1024).2 [] else ([],(bkL (dJ i 1024).1.toNat (dJ i 1024).2 []).2)
theorem EN: ∀ (k:Nat) (i:aT) (l:List aJ),VI i->VI (bkL k i l).2
 | 0,i,l,h=>h
 | k+1,i,l,h=>EN k _ _ (iT _ (iT _ h))
theorem BI {i:aT} (h:VI i):VI (bkS i).2:=by
 unfold bkS
 split
 ·exact EN _ _ _ (iT _ h)
 ·exact EN _ _ _ (iT _ h)
theorem FZ: ∀ (k:Nat) (i:aT) (l:List aJ),i.e≠0->(bkL k i l).2=i
 | 0,i,l,h=>rfl
 | k+1,i,l,h=>by
  unfold bkL
  have h1:=CB h 1114111 (by omega)
  have h2:=CB (i:=(dJ i 1114111).2) (by rw [h1]; exact h) 647 (by omega)
  rw [FZ k _ _ (by rw [h2,h1]; exact h),h2,h1]
theorem I9 (i:aT) (h:VI i):nw i=some (bkS i):=by
 unfold nw
 rw [BC h (by omega),aA]
 have hr:=mf (m:=1024) h (by omega)
 have hV:=iT 1024 h
 unfold bkS
 generalize (dJ i 1024).2=j at hV
 obtain ⟨N,hN⟩:=Int.eq_ofNat_of_zero_le hr.1
 rw [hN] at hr ⊢
 rw [Int.toNat_natCast]
 have key: ∀ (k n:Nat) (j:aT) (l:List aJ),n+k=N->VI j->l.length=n->iter (σ:=aT×(List aJ)×Int) (ρ:=(List aJ)×aT) (λa=>(bif (decide (a.2.2 < (N:Int))) then (Option.bind (iE a.1 1114111) λb=>(Option.bind (iE b.2 647) λc=>(Option.bind (chk (eI a.2.1.length [(aJ.mk (IntKind.i32.wrap b.1) c.1)].length 16)) λ_=>some (.inl (c.2,(a.2.1++[(aJ.mk (IntKind.i32.wrap b.1) c.1)]),(IntKind.i64.wrap (a.2.2+1))))))) else some (.inr (a.2.1,a.1)))) (j,l,(n:Int))=some (bkL k j l):=by
  intro k
  induction k with
  | zero =>
   intro n j l hn hV hl
   refine cP ?_
   dsimp only
   rw [decide_eq_false (by omega),cond_false]
   rfl
  | succ k ih =>
   intro n j l hn hV hl
   have hA:=mf (m:=1114111) hV (by omega)
   have hw:IntKind.i32.wrap (dJ j 1114111).1=(dJ j 1114111).1:=by rw [IntKind.wrap_i32]; omega
   rw [dS (s':=((dJ (dJ j 1114111).2 647).2,l++[⟨(dJ j 1114111).1,(dJ (dJ j 1114111).2 647).1⟩],((n+1:Nat):Int)))]
   ·rw [ih (n+1) _ _ (by omega) (iT _ (iT _ hV)) (by simp [hl])]
    rfl
   ·dsimp only
    rw [decide_eq_true (by omega),cond_true,BC hV (by omega),aA,BC (iT _ hV) (by omega),aA,hw,bL (by simp; omega),aA,w64 (by omega) (by omega)]
    rfl
 have:=key N 0 j [] (by omega) hV rfl
 rw [show ((0:Nat):Int)=0 from rfl] at this
 rw [this,aA]
 unfold dU
 rw [aA]
 by_cases he:(bkL N j []).2.e=0
 ·have hb:((bkL N j []).2.e != 0)=false:=by simpa using he
  rw [hb,cond_false,if_pos he]
 ·have hb:((bkL N j []).2.e != 0)=true:=by simpa using he
  rw [hb,cond_true,if_neg he]
def rwL:Nat->Int->aT->List aE->List aE×aT
 | 0,_,i,l=>(l,i)
 | k+1,w,i,l=>if i.e=0 then rwL k w (ns i w).2 (l++[(ns i w).1]) else (l,i)
def n5 (x:aH) (l:List aE):aH:=⟨x.k,x.w,x.h,x.x,x.y,x.title,l,x.len,x.chain,x.begun⟩
def iR:aH:=⟨0,0,0,0,0,noS,[],0,0,[]⟩
def w9 (i:aT):Int:=if i.s≠noS then 1 else i.e
theorem Oz (i:aT):nH i=some (w9 i):=by
 unfold nH w9
 have:(i.s.toList == (ByteArray.mk #[]).toList)=decide (i.s=noS):=vQ i.s noS
 rw [this]
 by_cases h:i.s=noS
 ·rw [decide_eq_true h,if_neg (λhh=>hh h)]; rfl
 ·rw [decide_eq_false h,if_pos h]; rfl
def hA (s:ByteArray):=rdS ⟨s,0⟩
def hB (s:ByteArray):=dJ (hA s).2 1000
def hC (s:ByteArray):=dJ (hB s).2 1000
def hD (s:ByteArray):=rdS (hC s).2
def hE (s:ByteArray):=rdS (hD s).2
def hT (s:ByteArray):=vb (hE s).2
def hF (s:ByteArray):=rdS (hT s).2
def hG (s:ByteArray):=rdS (hF s).2
def hK (s:ByteArray):=bkS (hG s).2
def hR (s:ByteArray):List aE×aT:=rwL (hC s).1.toNat (hB s).1 (hK s).2 []
def SZ (m:Nat) (i:aT):Prop:=VI i/\i.s.size<=m
theorem xT {i:aT} {m:Nat} (h:SZ m i):SZ m (rdS i).2:=by
 refine ⟨kB h.1,?_⟩
 by_cases he:(rdS i).2.e=0
 ·obtain ⟨-,w, -, -,hw⟩:=CA he h.1
  have:=congrArg List.length hw
  rw [List.length_append,bD,bD] at this
  have:=h.2
  omega
 ·rcases (kB h.1).2 with h1 | h1
  ·exact absurd h1 he
  ·rw [h1]; exact Nat.zero_le _
theorem Ja {i:aT} {m:Nat} (k:Int) (h:SZ m i):SZ m (dJ i k).2:=by
 unfold dJ
 split
 ·exact ⟨u4,Nat.zero_le _⟩
 ·exact xT h
theorem EO: ∀ (k:Nat) (i:aT) (l:List aJ),VI i->(∀ g∈l,rok g.rune)->(∀ g∈(bkL k i l).1,rok g.rune)/\(bkL k i l).1.length=l.length+k
 | 0,i,l,h,hl=>⟨hl,rfl⟩
 | k+1,i,l,h,hl=>by
  unfold bkL
  have:=EO k (dJ (dJ i 1114111).2 647).2 (l++[⟨(dJ i 1114111).1,(dJ (dJ i 1114111).2 647).1⟩]) (iT _ (iT _ h)) (by
   intro g hg
   rcases List.mem_append.1 hg with h1 | h1
   ·exact hl g h1
   ·rw [List.mem_singleton.1 h1]
    have:=mf (m:=1114111) h (by omega)
    unfold rok
    dsimp only
    omega)
  refine ⟨this.1,this.2.trans ?_⟩
  simp only [List.length_append,List.length_cons,List.length_nil]
  omega
theorem OA {i:aT} (h:VI i):(∀ g∈(bkS i).1,rok g.rune)/\(bkS i).1.length<=1024:=by
 unfold bkS
 have hr:=mf (m:=1024) h (by omega)
 have:=EO (dJ i 1024).1.toNat (dJ i 1024).2 [] (iT _ h) (by intro g hg; cases hg)
 split
 ·refine ⟨this.1,?_⟩
  rw [this.2]
  simp only [List.length_nil]
  omega
 ·exact ⟨λg hg=>(by cases hg),Nat.zero_le _⟩
theorem Hf {α:Type} [DecidableEq α] (a b:List α) (hl:a.length=b.length) (f:Int->Option (Int ⊕ (Unit ⊕ Bool))) (hf: ∀ (n:Nat) (h1:n < a.length) (h2:n < b.length),f (n:Int)=if a[n]=b[n] then some (.inl ((n+1:Nat):Int)) else some (.inr (.inr false))) (he:f (a.length:Int)=some (.inr (.inl ()))):iter f 0=some (if a=b then .inl () else .inr false):=by
 obtain ⟨r,h1,h2⟩:=s8 (f:=f) (λi:Int=> ∃ n:Nat,i=n/\n<=a.length/\a.take n=b.take n) (λi=>(a.length - i).toNat) (λr=>r=(if a=b then .inl () else .inr false)) (by
  rintro i ⟨n,rfl,hn,ht⟩
  by_cases h1:n < a.length
  ·have h2:n < b.length:=by omega
   by_cases he:a[n]=b[n]
   ·refine .inl ⟨((n+1:Nat):Int),?_,⟨n+1,rfl,by omega,?_⟩,by (try dsimp only); omega⟩
    ·rw [hf n h1 h2,if_pos he]
    ·rw [List.take_succ_eq_append_getElem h1,List.take_succ_eq_append_getElem h2,ht,he]
   ·refine .inr ⟨.inr false,?_,?_⟩
    ·rw [hf n h1 h2,if_neg he]
    ·rw [if_neg]
     intro hab
     subst hab
     exact he rfl
  ·refine .inr ⟨.inl (),?_,?_⟩
   ·have hn2:n=a.length:=by omega
    rw [hn2,he]
   ·rw [if_pos]
    have hn2:n=a.length:=by omega
    subst hn2
    rw [List.take_length] at ht
    rw [ht,hl,List.take_length]) 0 ⟨0,rfl,by omega,rfl⟩
 rw [h1,h2]
theorem Hg (a b:List aJ) (ha:a.length<=1000000):gH a b=some (decide (a=b)):=by
 unfold gH
 by_cases hl:a.length=b.length
 ·have e0:((a.length:Int) != (b.length:Int))=false:=by simp [hl]
  rw [e0,cond_false,Hf a b hl]
  ·by_cases h:a=b
   ·rw [if_pos h,decide_eq_true h]; rfl
   ·rw [if_neg h,decide_eq_false h]; rfl
  ·intro n h1 h2
   try dsimp only
   rw [decide_eq_true (by omega),cond_true,cU a n h1,aA,cU b n h2,aA,w64 (by omega) (by omega)]
   generalize a[n]=x
   generalize b[n]=y
   obtain ⟨x1,x2⟩:=x
   obtain ⟨y1,y2⟩:=y
   by_cases g1:x1=y1 <;> by_cases g2:x2=y2 <;> simp [g1,g2,ln]
   ·have k:(x2 == y2)=false:=by simpa using g2
    simp [k]
   ·have k:(x1 == y1)=false:=by simpa using g1
    simp [k]
   ·have k:(x1 == y1)=false:=by simpa using g1
    simp [k]
  ·try dsimp only
   rw [decide_eq_false (by omega),cond_false]
 ·have e0:((a.length:Int) != (b.length:Int))=true:=by simp; omega
  rw [e0,cond_true,decide_eq_false (λh=>hl (by rw [h]))]
theorem Jb (s t:aH):decide (s=t)=((s.k == t.k) && ((s.w == t.w) && ((s.h == t.h) && ((s.x == t.x) && ((s.y == t.y) && ((s.title.toList == t.title.toList) && ((s.len == t.len) && ((s.chain == t.chain) && (decide (s.rows=t.rows) && decide (s.begun=t.begun)))))))))):=by
 rw [vQ]
 obtain ⟨a1,a2,a3,a4,a5,a6,a7,a8,a9,a10⟩:=s
 obtain ⟨b1,b2,b3,b4,b5,b6,b7,b8,b9,b10⟩:=t
 rw [Bool.eq_iff_iff]
 simp only [decide_eq_true_eq,Bool.and_eq_true,beq_iff_eq,aH.mk.injEq]
 constructor
 ·rintro ⟨h1,h2,h3,h4,h5,h6,h7,h8,h9,h10⟩
  exact ⟨h1,h2,h3,h4,h5,h6,h8,h9,h7,h10⟩
 ·rintro ⟨h1,h2,h3,h4,h5,h6,h8,h9,h7,h10⟩
  exact ⟨h1,h2,h3,h4,h5,h6,h7,h8,h9,h10⟩
theorem Jc (s t:aH) (h:SW s):fT s t=some (decide (s=t)):=by
 unfold fT
 rw [IS _ _ (by have:=h.rl; omega) (λr hr=>by have:=(h.ro r hr).2; omega),aA,Hg _ _ (by have:=h.bl; omega),aA,Jb]
 simp only [CF,aA]
theorem xc (s:aH) (h:SW s):iK s=some s:=by
 unfold iK
 have hl:=h.rl
 refine fM (λi=>(s.rows.take i,(i:Int))) s.rows.length s.rows rfl ?_ ?_ ?_
 ·intro i hi
  dsimp only
  have hr:=(h.ro _ (List.getElem_mem hi)).2
  rw [decide_eq_true (by omega),cond_true,cU _ _ hi,aA,yZ _ (by omega),aA,bL (by simp; omega),aA,w64 (by omega) (by omega),List.take_succ_eq_append_getElem hi]
  rfl
 ·dsimp only
  rw [decide_eq_false (by omega),cond_false,List.take_length]
 ·have hb:=h.bl
  unfold cB
  rw [bL (by simp; omega),aA,aA]
  rfl
def BB (l:List Int):Prop:= ∀ b∈l,0<=b/\b < 256
theorem fX {a b:List Int} (h:BB a) (h2:BB b):BB (a++b):=by
 intro x hx
 rcases List.mem_append.1 hx with h' | h'
 ·exact h x h'
 ·exact h2 x h'
theorem OB:BB []:=λx hx=>by cases hx
theorem kv (n:Int):BB (dG n):=qP _
theorem vd (s:ByteArray):BB (sbs s):=lC s
theorem mN {α:Type} {l:List α} {f:α->List Int} (h: ∀ a∈l,BB (f a)):BB (l.flatMap f):=by
 intro x hx
 obtain ⟨a,ha,hx⟩:=List.mem_flatMap.1 hx
 exact h a ha x hx
theorem EP (p:Nat×aG):BB (jj p):=mN λa _=>kv a
theorem BJ (r:aE):BB (gZ r):=fX (kv _) (mN λa _=>EP a)
theorem LV (g:aJ):BB (qR g):=mN λa _=>kv a
def bI (l:List Int):aT:=⟨hU l,0⟩
theorem ER {n:Int} (h0:0<=n) (h1:n<=4611686018427387904):dG n=lR n.toNat/\n.toNat<=most/\((n.toNat:Nat):Int)=n:=by
 have:((n.toNat:Nat):Int)=n:=by omega
 refine ⟨?_,by unfold most; omega,this⟩
 conv=>lhs; rw [<- this]
 exact mC (by unfold most; omega)
theorem Ae {n:Int} {R:List Int} (hR:BB R) (h0:0<=n) (h1:n<=4611686018427387904):rdS (bI (dG n++R))=(n,bI R):=by
 obtain ⟨e,m,q⟩:=ER h0 h1
 have:=Ov (hU (dG n++R)) n.toNat R m (by rw [oL _ (fX (kv _) hR),e])
 rw [q] at this
 exact this
theorem uK {n m:Int} {R:List Int} (hR:BB R) (h0:0<=n) (h1:n<=4611686018427387904) (hm:n<=m):dJ (bI (dG n++R)) m=(n,bI R):=by
 unfold dJ
 rw [Ae hR h0 h1,if_neg (by dsimp only; omega)]
theorem PZ (t:ByteArray) {R:List Int} (hR:BB R) (ht:t.size<=6000):vb (bI (dG t.size++sbs t++R))=(t,bI R):=by
 unfold vb
 rw [List.append_assoc,Ae (fX (vd t) hR) (by omega) (by omega)]
 have hb:sbs (hU (sbs t++R))=sbs t++R:=oL _ (fX (vd t) hR)
 have hsz:(hU (sbs t++R)).size=t.size+R.length:=by rw [<- bD,hb,List.length_append,bD]
 unfold He bI
 dsimp only
 rw [if_neg (by simp),if_neg (by rw [hsz]; omega)]
 have h1:iU (hU (sbs t++R)) 0 (t.size:Int)=t:=by
  apply rN
  have:=gW (hU (sbs t++R)) 0 t.size
  rw [hb] at this
  refine Eq.trans this ?_
  have e:t.size=(sbs t).length:=(bD t).symm
  rw [e,List.take_left,List.drop_zero]
 have h2:iU (hU (sbs t++R)) (t.size:Int) ((hU (sbs t++R)).size:Int)=hU R:=by
  apply rN
  rw [gW,hb,oL _ hR,hsz,List.take_of_length_le (by rw [List.length_append,bD]; exact Nat.le_refl _)]
  have e:t.size=(sbs t).length:=(bD t).symm
  rw [e,List.drop_left]
 rw [h1,h2]
theorem F0 {r s:Int}:okG r s=true↔(0<=r/\r<=1114111)/\0<=s/\s<=647:=by
 unfold okG
 simp only [Bool.and_eq_true,decide_eq_true_eq,ge_iff_le]
theorem LW {c:aG}:okC c=true↔((0<=c.rune/\c.rune<=1114111)/\0<=c.aM/\c.aM<=647)/\0<=c.part/\c.part<=3:=by
 unfold okC
 rw [Bool.and_eq_true,F0]
 simp only [Bool.and_eq_true,decide_eq_true_eq,ge_iff_le]
theorem Nv: ∀ (l acc:List aJ) {R:List Int},BB R->(∀ g∈l,okG g.rune g.aM=true)->bkL l.length (bI (l.flatMap qR++R)) acc=(acc++l,bI R)
 | [],acc,R,hR,h=>by
  rw [List.append_nil]
  rfl
 | g::l,acc,R,hR,h=>by
  have hg:=F0.1 (h g List.mem_cons_self)
  have hT:BB (l.flatMap qR++R):=fX (mN λa _=>LV a) hR
  have e:(g::l).flatMap qR++R=dG g.rune++(dG g.aM++(l.flatMap qR++R)):=by
   unfold qR
   simp only [List.flatMap_cons,List.flatMap_nil,List.append_nil,List.append_assoc]
  rw [e]
  show bkL (l.length+1) _ _=_
  unfold bkL
  rw [uK (fX (kv _) hT) hg.1.1 (by omega) hg.1.2]
  dsimp only
  rw [uK hT hg.2.1 (by omega) hg.2.2]
  dsimp only
  rw [Nv l _ hR (λx hx=>h x (List.mem_cons_of_mem _ hx)),List.append_assoc]
  rfl
theorem P0 (l:List aJ) {R:List Int} (hR:BB R) (h: ∀ g∈l,okG g.rune g.aM=true) (hl:l.length<=1024):bkS (bI (lL l++R))=(l,bI R):=by
 have hT:BB (l.flatMap qR++R):=fX (mN λa _=>LV a) hR
 have e:lL l++R=dG l.length++(l.flatMap qR++R):=by
  unfold lL
  rw [List.append_assoc]
 unfold bkS
 rw [e,uK hT (by omega) (by omega) (by omega)]
 dsimp only
 rw [Int.toNat_natCast,Nv l [] hR h]
 rfl
theorem P1 {n:Nat} {c:aG} {left:Int} {R:List Int} (hR:BB R) (h1:1<=n) (h2:(n:Int)<=left) (h3:n<=1000) (hc:okC c=true) :
  dJ (bI (jj (n,c)++R)) left=((n:Int),bI (dG c.rune++(dG c.aM++(dG c.part++R))))/\(ox (bI (jj (n,c)++R)) left).2=bI R/\lh (bI (jj (n,c)++R)) left=c:=by
 have hk:=LW.1 hc
 have e:jj (n,c)++R=dG n++(dG c.rune++(dG c.aM++(dG c.part++R))):=by
  unfold jj
  simp only [List.flatMap_cons,List.flatMap_nil,List.append_nil,List.append_assoc]
 have t1:=fX (kv c.part) hR
 have t2:=fX (kv c.aM) t1
 have t3:=fX (kv c.rune) t2
 rw [e]
 have q0:=uK (m:=left) t3 (n:=(n:Int)) (by omega) (by omega) h2
 have q1:rO (bI (dG n++(dG c.rune++(dG c.aM++(dG c.part++R))))) left=bI (dG c.rune++(dG c.aM++(dG c.part++R))):=by
  unfold rO
  rw [q0,if_neg (by dsimp only; omega)]
 have q2:ur (bI (dG n++(dG c.rune++(dG c.aM++(dG c.part++R))))) left=(c.rune,bI (dG c.aM++(dG c.part++R))):=by
  unfold ur
  rw [q1,uK t2 (by omega) (by omega) (by omega)]
 have q3:u5 (bI (dG n++(dG c.rune++(dG c.aM++(dG c.part++R))))) left=(c.aM,bI (dG c.part++R)):=by
  unfold u5
  rw [q2]
  exact uK t1 (by omega) (by omega) (by omega)
 have q4:ox (bI (dG n++(dG c.rune++(dG c.aM++(dG c.part++R))))) left=(c.part,bI R):=by
  unfold ox
  rw [q3]
  exact uK hR (by omega) (by omega) (by omega)
 refine ⟨q0,by rw [q4],?_⟩
 unfold lh
 rw [q2,q3,q4]
theorem zj (c:aG): ∀ r:List aG,List.replicate (more c r) c++r.drop (more c r)=r
 | []=>rfl
 | d::r=>by
  unfold more
  by_cases h:d=c
  ·rw [if_pos h,List.replicate_succ,List.drop_succ_cons,List.cons_append,zj c r,h]
  ·rw [if_neg h]
   rfl
theorem P2: ∀ (k:Nat) (w:Int) (cells acc:List aG) {R:List Int},BB R->w<=1000->(∀ c∈cells,okC c=true)->((acc.length+cells.length:Nat):Int)=w->cells.length < k->(∀ c,cells.head?=some c->acc.getLast?≠some c) ->
  rrS k w (bI ((lb cells).flatMap jj++R)) acc=(acc++cells,bI R):=by
 intro k
 induction k with
 | zero=>intro w cells acc R _ _ _ _ hk; omega
 | succ k ih =>
  intro w cells acc R hR hw hok hl hk hd
  unfold rrS
  cases cells with
  | nil =>
   rw [if_neg (by simp at hl; omega),List.append_nil]
   rfl
  | cons c r =>
   rw [List.length_cons] at hl hk
   have hm:=BE c r
   rw [u6,List.flatMap_cons,List.append_assoc]
   have hT:BB ((lb (r.drop (more c r))).flatMap jj++R):=fX (mN λa _=>EP a) hR
   obtain ⟨q1,q2,q3⟩:=P1 (n:=more c r+1) (c:=c) (left:=w - acc.length) hT (by omega) (by omega) (by omega) (hok c List.mem_cons_self)
   have e0:(bI ((lb (r.drop (more c r))).flatMap jj++R)).e=0:=rfl
   have e1:(acc.length:Int) < w/\(bI (jj (more c r+1,c)++((lb (r.drop (more c r))).flatMap jj++R))).e=0:=⟨by omega,rfl⟩
   rw [if_pos e1,q1,q2,q3,if_pos e0,if_neg (hd c rfl)]
   dsimp only
   rw [Int.toNat_natCast,ih w (r.drop (more c r)) (acc++List.replicate (more c r+1) c) hR hw (λx hx=>hok x (List.mem_cons_of_mem _ (List.mem_of_mem_drop hx))) (by simp only [List.length_append,List.length_replicate,List.length_drop]; omega) (by rw [List.length_drop]; omega) ?_]
   ·rw [List.append_assoc,List.replicate_succ,List.cons_append,zj]
   ·intro d hd2 hl2
    rw [List.getLast?_append,List.getLast?_replicate] at hl2
    simp at hl2
    subst hl2
    rw [List.head?_drop] at hd2
    by_cases hlt:more c r < r.length
    ·exact w7 c r hlt hd2
    ·rw [List.getElem?_eq_none (by omega)] at hd2
     cases hd2
theorem OC (r:aE) (w:Int) {R:List Int} (hR:BB R) (hw:w<=1000) (hl:(r.cells.length:Int)=w) (hok: ∀ c∈r.cells,okC c=true):ns (bI (gZ r++R)) w=(r,bI R):=by
 have hT:BB ((lb r.cells).flatMap jj++R):=fX (mN λa _=>EP a) hR
 unfold ns gZ
 rw [List.append_assoc,uK hT (by split <;> omega) (by split <;> omega) (by split <;> omega)]
 dsimp only
 rw [P2 (w.toNat+1) w r.cells [] hR hw hok (by simpa using hl) (by omega) (λc _ h=>by cases h)]
 have e0:(bI R).e=0:=rfl
 rw [if_pos e0]
 obtain ⟨a,b⟩:=r
 cases b <;> rfl
theorem LX (n:Nat):lR n≠[]:=by
 rw [lR]
 split <;> simp
theorem LY:w9 (bI [])=0:=by
 unfold w9 bI
 rw [I3,if_neg (λh=>h rfl)]
theorem Jd (s:aH):BB (uJ s):=by
 unfold uJ lL
 exact fX (fX (fX (mN λa _=>kv a) (fX (kv _) (vd _))) (mN λa _=>kv a)) (fX (kv _) (mN λa _=>LV a))
theorem LZ (l:List aE):BB (l.flatMap gZ):=mN λa _=>BJ a
theorem L0 (s:aH):BB (zh s):=fX (Jd s) (LZ _)
structure May (s:aH):Prop where
 k:1<=s.k/\s.k<=1152921504606846976
 w:1<=s.w/\s.w<=1000
 h:1<=s.h/\s.h<=1000
 x:0<=s.x/\s.x<=s.w - 1
 y:0<=s.y/\s.y<=s.h - 1
 r:(s.rows.length:Int)=s.h
 t:s.title.size<=200
 l:0<=s.len/\s.len<=1152921504606846976
 c:0<=s.chain/\s.chain<=281474976710656
 b:s.begun.length<=1024
 g: ∀ g∈s.begun,okG g.rune g.aM=true
 rr: ∀ r∈s.rows,(r.cells.length:Int)=s.w /\ ∀ c∈r.cells,okC c=true
theorem OD {n lo hi:Int}:wi n lo hi=true↔lo<=n/\n<=hi:=by
 unfold wi
 simp only [Bool.and_eq_true,decide_eq_true_eq,ge_iff_le]
theorem L1 {s:aH} (he:jY s=false):nZ s=true↔May s:=by
 unfold nZ u9
 rw [he,Bool.false_or]
 simp only [Bool.and_eq_true,OD,beq_iff_eq,decide_eq_true_eq,List.all_eq_true,tp]
 constructor
 ·rintro ⟨⟨k,w,h,x,y,r,t,l,c,b⟩,g,rr⟩
  exact ⟨k,w,h,x,y,r,by omega,l,c,by omega,g,rr⟩
 ·rintro ⟨k,w,h,x,y,r,t,l,c,b,g,rr⟩
  exact ⟨⟨k,w,h,x,y,r,by omega,l,c,by omega⟩,g,rr⟩
theorem Nw: ∀ (k:Nat) (i:aT) (l:List aJ),(bkL k i l).2.e=0->i.e=0
 | k,i,l,h=>by
  by_cases he:i.e=0
  ·exact he
  ·rw [FZ _ _ _ he] at h
   exact h
theorem AH: ∀ (k:Nat) (i:aT) (l:List aJ),VI i->(bkL k i l).2.e=0 -> ∃ D,(bkL k i l).1.flatMap qR=l.flatMap qR++D/\sbs i.s=D++sbs (bkL k i l).2.s
 | 0,i,l,h,he=>⟨[],by simp [bkL],by simp [bkL]⟩
 | k+1,i,l,h,he=>by
  unfold bkL at he ⊢
  have v1:=iT 1114111 h
  have v2:=iT 647 v1
  obtain ⟨D,d1,d2⟩:=AH k _ _ v2 he
  obtain ⟨h1,c2,q2,_,m2,b2⟩:=mR (Nw _ _ _ he) v1
  obtain ⟨_,c1,q1,_,m1,b1⟩:=mR h1 h
  refine ⟨lR c1++lR c2++D,?_,?_⟩
  ·rw [d1,List.flatMap_append,List.flatMap_singleton,List.append_assoc]
   congr 2
   unfold qR
   simp only [List.flatMap_cons,List.flatMap_nil,List.append_nil,q1,q2,mC m1,mC m2]
  ·rw [b1,b2,d2]
   simp only [List.append_assoc]
theorem Hh {i:aT} (h:VI i) (he:(bkS i).2.e=0):i.e=0/\sbs i.s=lL (bkS i).1++sbs (bkS i).2.s:=by
 unfold bkS at he ⊢
 by_cases h0:(bkL (dJ i 1024).1.toNat (dJ i 1024).2 []).2.e=0
 ·rw [if_pos h0]
  have v1:=iT 1024 h
  obtain ⟨D,d1,d2⟩:=AH _ _ _ v1 h0
  obtain ⟨e0,c,q,_,m,b⟩:=mR (Nw _ _ _ h0) h
  refine ⟨e0,?_⟩
  have hl:=(EO (dJ i 1024).1.toNat (dJ i 1024).2 [] v1 (by intro g hg; cases hg)).2
  unfold lL
  rw [hl,d1,b,d2,q,Int.toNat_natCast]
  simp only [List.length_nil,Nat.zero_add,List.flatMap_nil,List.nil_append,mC m,List.append_assoc]
 ·rw [if_neg h0] at he
  exact absurd he h0
theorem CI:SW iR:=⟨by decide,by decide,λg hg=>(by cases hg),λr hr=>(by cases hr),by decide,by decide,by show noS.size<=6000; decide⟩
theorem Je (r:aE):(gZ r).length<=9+36*r.cells.length:=by
 unfold gZ
 rw [List.length_append]
 have h1:=dT (if r.wrapped then 1 else 0)
 have h2:=CD (lb r.cells)
 have h3:=AE r.cells
 omega
theorem xd (m:Nat): ∀ l:List aE,(∀ r∈l,r.cells.length<=m)->(l.flatMap gZ).length<=l.length*(9+36*m)
 | [],_=>by simp
 | r::l,h=>by
  have h1:=xd m l (λx hx=>h x (List.mem_cons_of_mem _ hx))
  have h2:=Je r
  have h3:=h r List.mem_cons_self
  rw [List.flatMap_cons,List.length_append,List.length_cons,Nat.succ_mul]
  omega
theorem Hi {s:aH}:jY s=true↔s=iR:=by
 unfold jY
 rw [vQ]
 obtain ⟨a1,a2,a3,a4,a5,a6,a7,a8,a9,a10⟩:=s
 simp only [Bool.and_eq_true,beq_iff_eq,decide_eq_true_eq,iR,aH.mk.injEq]
 constructor
 ·rintro ⟨h1,h2,h3,h4,h5,h6,h7,h8,h9,h10⟩
  exact ⟨h1,h2,h3,h4,h5,h6,List.eq_nil_of_length_eq_zero (by omega),h8,h9,List.eq_nil_of_length_eq_zero (by omega)⟩
 ·rintro ⟨h1,h2,h3,h4,h5,h6,h7,h8,h9,h10⟩
  exact ⟨h1,h2,h3,h4,h5,h6,by rw [h7]; rfl,h8,h9,by rw [h10]; rfl⟩
theorem Jf (s:aH):hU (zh s)≠noS:=by
 intro h
 have h2:sbs (hU (zh s))=[]:=by rw [h]; rfl
 rw [oL _ (L0 s)] at h2
 unfold zh uJ at h2
 simp only [List.append_eq_nil_iff,List.flatMap_cons] at h2
 exact LX _ h2.1.1.1.1.1
def yh (a:Nat):Nat:=(a >>> 1) ^^^ (if a % 2=1 then 3988292384 else 0)
def xe (a:Nat):Nat:=yh (yh (yh (yh a)))
theorem zl {a b:Nat} (ha:a < 4294967296) (hb:b < 4294967296):a ^^^ b < 4294967296:=Nat.xor_lt_two_pow (n:=32) ha hb
theorem yw {a:Nat} (h:a < 4294967296):yh a < 4294967296:=by
 unfold yh
 have:a >>> 1 < 4294967296:=by rw [Nat.shiftRight_eq_div_pow]; omega
 exact zl this (by split <;> omega)
theorem L2 (a b:Nat):(a ^^^ b) % 2=(a % 2+b % 2) % 2:=by
 have h:=Nat.testBit_xor a b 0
 rw [Nat.testBit_zero,Nat.testBit_zero,Nat.testBit_zero] at h
 have ha:a % 2=0\/a % 2=1:=by omega
 have hb:b % 2=0\/b % 2=1:=by omega
 have hc:(a ^^^ b) % 2=0\/(a ^^^ b) % 2=1:=by omega
 rcases ha with ha | ha <;> rcases hb with hb | hb <;> rcases hc with hc | hc <;> rw [ha,hb,hc] at h <;> first | (exact absurd h (by decide)) | (rw [ha,hb,hc])
theorem vW (a b:Nat):yh (a ^^^ b)=yh a ^^^ yh b:=by
 unfold yh
 rw [Nat.shiftRight_xor_distrib,L2]
 have ha:a % 2=0\/a % 2=1:=by omega
 have hb:b % 2=0\/b % 2=1:=by omega
 generalize a >>> 1=x
 generalize b >>> 1=y
 rcases ha with ha | ha <;> rcases hb with hb | hb <;> rw [ha,hb]
 ·simp
 ·simp [Nat.xor_assoc]
 ·simp only [Nat.zero_add,Nat.add_zero]
  simp
  rw [Nat.xor_assoc,Nat.xor_assoc,Nat.xor_comm y]
 ·simp
  have:x ^^^ 3988292384 ^^^ (y ^^^ 3988292384)=x ^^^ y ^^^ (3988292384 ^^^ 3988292384):=by
   rw [Nat.xor_assoc,Nat.xor_assoc,<- Nat.xor_assoc 3988292384 y,Nat.xor_comm 3988292384 y,Nat.xor_assoc]
  rw [this,Nat.xor_self,Nat.xor_zero]
theorem Jg (a b:Nat):xe (a ^^^ b)=xe a ^^^ xe b:=by
 unfold xe
 rw [vW,vW,vW,vW]
theorem tX (k:Nat):yh (2*k)=k:=by
 unfold yh
 rw [if_neg (by omega),Nat.xor_zero,Nat.shiftRight_eq_div_pow]
 omega
theorem L3 (k:Nat):xe (16*k)=k:=by
 unfold xe
 rw [show 16*k=2*(2*(2*(2*k))) by omega,tX,tX,tX,tX]
theorem AI (x:Nat):xe x=(x / 16) ^^^ xe (x % 16):=by
 have h:x=(16*(x / 16)) ^^^ (x % 16):=by
  have h1:16*(x / 16)+x % 16=x:=Nat.div_add_mod x 16
  have h2:(16*(x / 16)) ^^^ (x % 16)=16*(x / 16)+x % 16:=by
   have h3:2 ^ 4*(x / 16)+x % 16=(2 ^ 4*(x / 16)) ||| (x % 16):=Nat.two_pow_add_eq_or_of_lt (by omega) _
   apply Nat.eq_of_testBit_eq
   intro i
   have h4:(16*(x / 16)+x % 16)=(2 ^ 4*(x / 16)) ||| (x % 16):=h3
   rw [h4,Nat.testBit_xor,Nat.testBit_or]
   show ((2 ^ 4*(x / 16)).testBit i ^^ (x % 16).testBit i)=_
   rw [Nat.testBit_two_pow_mul]
   by_cases hi:i>=4
   ·have:(x % 16).testBit i=false:=by
     apply Nat.testBit_lt_two_pow
     have:2 ^ 4<=2 ^ i:=Nat.pow_le_pow_right (by omega) hi
     omega
    rw [this]
    simp
   ·simp [hi]
  rw [h2,h1]
 conv=>lhs; rw [h]
 rw [Jg,L3]
theorem F1: ∀ n:Nat,n < 16->idx dA (n:Int)=some ((xe n:Nat):Int):=by decide
theorem OE {x:Int} (h0:0<=x) (h1:x < 4294967296):IntKind.u32.wrap x=x:=by
 unfold IntKind.wrap
 simp [IntKind.signed,IntKind.bits]
 omega
theorem F2 {a b:Nat} (ha:a < 4294967296) (hb:b < 4294967296):Go.bits .xor .u32 (a:Int) (b:Int)=((a ^^^ b:Nat):Int):=by
 show IntKind.u32.wrap ((BitVec.ofInt 32 (a:Int) ^^^ BitVec.ofInt 32 (b:Int)).toNat:Int)=_
 rw [BitVec.ofInt_natCast,BitVec.ofInt_natCast,BitVec.toNat_xor,BitVec.toNat_ofNat,BitVec.toNat_ofNat,Nat.mod_eq_of_lt ha,Nat.mod_eq_of_lt hb]
 have:=zl ha hb
 exact OE (by omega) (by omega)
theorem Nx {a:Nat} (ha:a < 4294967296):Go.bits .and .u32 (a:Int) 15=((a % 16:Nat):Int):=by
 show IntKind.u32.wrap ((BitVec.ofInt 32 (a:Int) &&& BitVec.ofInt 32 15).toNat:Int)=_
 rw [BitVec.ofInt_natCast,BitVec.toNat_and,BitVec.toNat_ofNat,Nat.mod_eq_of_lt ha]
 have h:(BitVec.ofInt 32 15).toNat=2 ^ 4 - 1:=by decide
 rw [h,Nat.and_two_pow_sub_one_eq_mod]
 exact OE (by omega) (by omega)
theorem Ny (a:Nat):((a:Int)).fdiv (2 ^ (min 4 32))=((a / 16:Nat):Int):=by
 rw [Int.fdiv_eq_ediv_of_nonneg _ (by decide)]
 rfl
def CJ (x b:Nat):Nat:=xe (xe (x ^^^ b))
theorem vX {a:Nat} (h:a < 4294967296):xe a < 4294967296:=yw (yw (yw (yw h)))
theorem Jh {x b:Nat} (h:x < 4294967296) (hb:b < 256):CJ x b < 4294967296:=vX (vX (zl h (by omega)))
theorem step_eq {x b:Nat} (hx:x < 4294967296) (hb:b < 256):oq (x:Int) (b:Int)=some ((CJ x b:Nat):Int):=by
 unfold oq CJ
 rw [OE (by omega) (by omega),F2 hx (by omega)]
 have h1:=zl hx (show b < 4294967296 by omega)
 generalize x ^^^ b=y at h1
 rw [Nx h1,F1 _ (by omega),aA,Ny,F2 (by omega) (vX (by omega)),<- AI]
 have h2:=vX h1
 generalize xe y=z at h2
 rw [Nx h2,F1 _ (by omega),aA,Ny,F2 (by omega) (vX (by omega)),<- AI]
def Af (l:List Int):Nat:=l.foldl (λx b=>CJ x b.toNat) 4294967295
theorem zm (l:List Int) (i:Nat) (h:i < l.length):Af (l.take (i+1))=CJ (Af (l.take i)) (l[i]).toNat:=by
 unfold Af
 rw [List.take_succ_eq_append_getElem h,List.foldl_append]
 rfl
theorem F3 {l:List Int} (h:BB l): ∀ i,Af (l.take i) < 4294967296:=by
 intro i
 induction i with
 | zero=>rw [List.take_zero]; decide
 | succ i ih =>
  by_cases hi:i < l.length
  ·rw [zm l i hi]
   have:=h _ (List.getElem_mem hi)
   exact Jh ih (by omega)
  ·rw [List.take_of_length_le (by omega)]
   rw [List.take_of_length_le (by omega)] at ih
   exact ih
def tq (s:ByteArray):Nat:=4294967295 ^^^ Af (sbs s)
theorem Ji (s:ByteArray) (hs:s.size<=1000000):qJ [s]=some ((tq s:Nat):Int):=by
 unfold qJ
 have hL:=F3 (vd s)
 have hinner:iter (σ:=Int×Int) (ρ:=Int) (λa=>(bif (decide (a.1 < (s.size:Int))) then (Option.bind (yV s a.1) λb642=>(Option.bind (oq a.2 b642) λb=>some (.inl ((IntKind.i64.wrap (a.1+1)),b)))) else some (.inr a.2))) (0,4294967295)=some ((Af (sbs s):Nat):Int):=by
  refine Bt (λi=>((i:Int),((Af ((sbs s).take i):Nat):Int))) s.size _ ?_ ?_
  ·intro i hi
   have hi2:i < (sbs s).length:=by rw [bD]; exact hi
   have hb:=vd s _ (List.getElem_mem hi2)
   have hn:(sbs s)[i]=(((sbs s)[i].toNat:Nat):Int):=by omega
   dsimp only
   rw [decide_eq_true (by omega),cond_true,vP s i hi2,aA,zm _ _ hi2]
   conv=>lhs; rw [hn]
   rw [step_eq (hL i) (by omega),aA,w64 (by omega) (by omega)]
   rfl
  ·dsimp only
   rw [decide_eq_false (by omega),cond_false,List.take_of_length_le (by rw [bD]; exact Nat.le_refl _)]
 refine fM (λi=>(if i=0 then (4294967295:Int) else ((Af (sbs s):Nat):Int),(i:Int))) 1 ((Af (sbs s):Nat):Int) rfl ?_ ?_ ?_
 ·intro i hi
  have:i=0:=by omega
  subst this
  have h1:idx [s] 0=some s:=rfl
  show (bif (decide ((0:Int) < 1)) then (Option.bind (idx [s] 0) λc=>_) else _)=_
  rw [decide_eq_true (by omega),cond_true,h1,aA]
  show (Option.bind (iter _ (0,4294967295)) λd=>_)=_
  rw [hinner,aA]
  rfl
 ·rfl
 ·have h:=hL (sbs s).length
  rw [List.take_length] at h
  show some (Go.bits .xor .u32 ((4294967295:Nat):Int) ((Af (sbs s):Nat):Int))=_
  rw [F2 (by decide) h]
  rfl
theorem ET {s:aH} (h:SW s) (hp:(s.rows.flatMap gZ).length<=12000):(mP s).size<=66000:=by
 unfold mP
 split
 ·exact Nat.zero_le _
 ·have:=AG s h
  rw [me]
  unfold zh
  rw [List.length_append]
  omega
theorem BK (s:ByteArray):tq s < 4294967296:=by
 unfold tq
 have h:=F3 (vd s) (sbs s).length
 rw [List.take_length] at h
 exact zl (by decide) h
theorem F4 (s:aH) (h:SW s) (hp:(s.rows.flatMap gZ).length<=12000):kD s=some ((tq (mP s):Nat):Int):=by
 unfold kD
 have h1:=ET h hp
 have h2:=BK (mP s)
 rw [FX s h (by omega),aA,Ji _ (by omega),aA,w64 (by omega) (by omega)]
def okO {α:Type _} (x:Option α) (P:α->Prop):Prop:= ∃ r,x=some r/\P r
theorem cC {α:Type _} {P:α->Prop} {r:α} (h:P r):okO (some r) P:=⟨r,rfl,h⟩
theorem dW {α β:Type _} {P:α->Prop} {Q:β->Prop} {x:Option α} {f:α->Option β} (h:okO x P) (k: ∀ r,P r->okO (f r) Q):okO (Option.bind x f) Q:=by
 obtain ⟨r,rfl,hp⟩:=h
 exact k r hp
theorem OF {α:Type _} {P:α->Prop} {b:Bool} {x y:Option α} (h1:b=true->okO x P) (h2:b=false->okO y P):okO (bif b then x else y) P:=by
 cases b
 ·exact h2 rfl
 ·exact h1 rfl
theorem vY {α:Type _} {P:α->Prop} {p:Prop} [Decidable p] {x y:Option α} (h1:p->okO x P) (h2: ¬ p->okO y P):okO (bif decide p then x else y) P :=
 OF (λh=>h1 (of_decide_eq_true h)) (λh=>h2 (of_decide_eq_false h))
theorem EU {lo hi n:Int} (h0:0<=lo) (h1:lo<=hi) (h2:hi<=n):okO (chk (dE lo hi n)) (λ_=>True):=⟨(),bP h0 h1 h2,trivial⟩
theorem tY {σ ρ:Type} {f:σ->Option (σ ⊕ ρ)} {P:ρ->Prop} (Inv:σ->Prop) (m:σ->Nat) {s:σ} (h0:Inv s)
  (h: ∀ s,Inv s->okO (f s) λ | .inl s'=>Inv s'/\m s' < m s | .inr r=>P r):okO (iter f s) P:=by
 refine s8 Inv m P (λs hs=> ?_) s h0
 obtain ⟨z,e,hz⟩:=h s hs
 cases z with
 | inl s'=>exact .inl ⟨s',e,hz⟩
 | inr r=>exact .inr ⟨r,e,hz⟩
end Go.Tw.X
set_option maxHeartbeats 1000000
namespace Go.Tw.X
open Go Go.Tw
theorem Q3 {α:Type _} {x:Option α} {r:α} (h:okO x (λy=>y=r)):x=some r:=by
 obtain ⟨y,e,rfl⟩:=h
 exact e
def chM:Int:=281474976710597
def vZ (x:Int) (l:List aJ):Int:=(x*65536 % chM+(tq (hU (lL l)):Nat)) % chM
def rR (l:List (List aJ)):Int:=l.foldl vZ 0
theorem CK (x:Int) (l:List aJ):0<=vZ x l/\vZ x l < chM:=⟨Int.emod_nonneg _ (by decide),Int.emod_lt_of_pos _ (by decide)⟩
theorem CL (l:List (List aJ)) (g:List aJ):rR (l++[g])=vZ (rR l) g:=List.foldl_append ..
theorem CM: ∀ (l:List (List aJ)) (x:Int),0<=x->x < chM->0<=l.foldl vZ x/\l.foldl vZ x < chM
 | [],x,h0,h1=>⟨h0,h1⟩
 | g::l,x,_,_=>CM l (vZ x g) (CK x g).1 (CK x g).2
theorem AJ (l:List (List aJ)):0<=rR l/\rR l < chM:=CM l 0 (by decide) (by decide)
def BL (l:List aJ):Prop:=l.length<=2000 /\ ∀ g∈l,rok g.rune
theorem EV {l:List aJ} (h:l.length<=2000):(hU (lL l)).size<=1000000:=by
 have h1:=dT (l.length:Int)
 have h2:=tW l
 rw [me]
 unfold lL
 rw [List.length_append]
 omega
theorem L4 {x:Int} (h0:0<=x) (h1:x < chM) {l:List aJ} (hl:BL l):oG x l=some (vZ x l):=by
 unfold oG vZ
 unfold chM at h1 ⊢
 have hs:=BK (hU (lL l))
 rw [zf l hl.1 hl.2,Option.bind_some,Ji _ (EV hl.1),Option.bind_some]
 generalize tq (hU (lL l))=m at hs
 rw [w64 (x:=x*256) (by omega) (by omega),Int.tmod_eq_emod_of_nonneg (a:=x*256) (by omega)]
 rw [w64 (x:=x*256 % 281474976710597*256) (by omega) (by omega),Int.tmod_eq_emod_of_nonneg (a:=x*256 % 281474976710597*256) (by omega)]
 rw [w64 (x:=((m:Nat):Int)) (by omega) (by omega),w64 (by omega) (by omega),Int.tmod_eq_emod_of_nonneg (a:=x*256 % 281474976710597*256 % 281474976710597+((m:Nat):Int)) (by omega)]
 congr 2
 omega
def chs (l:List (List aJ)):List Int:=(List.range (l.length+1)).map λk=>rR (l.take k)
theorem F5 (l:List (List aJ)):(chs l).length=l.length+1:=by simp [chs]
theorem Jj (l:List (List aJ)) (g:List aJ):chs (l++[g])=chs l++[rR (l++[g])]:=by
 unfold chs
 rw [List.length_append,List.length_singleton,List.range_succ,List.map_append,List.map_singleton]
 congr 1
 ·refine List.map_congr_left λk hk=> ?_
  have:=List.mem_range.1 hk
  rw [List.take_append_of_le_length (by omega)]
 ·rw [List.take_of_length_le (by simp)]
theorem F6 (l:List (List aJ)) (k:Nat) (h:k<=l.length):idx (chs l) (k:Int)=some (rR (l.take k)):=by
 rw [cU _ k (by rw [F5]; omega)]
 simp [chs]
theorem xf (l:List aJ) (h:l.length<=1000000):cB l=some l:=by
 unfold cB
 rw [bL (by simp; omega)]
 simp
theorem CN {b:cF} (hc:b.bV=chs b.l) (hn:b.l.length<=200000000) {g:List aJ} (hg:BL g):gA b g=some ⟨b.l++[g],chs (b.l++[g]),b.begun⟩:=by
 unfold gA
 have hk:=AJ b.l
 rw [xf _ (by have:=hg.1; omega),Option.bind_some,bL (by simp; omega),Option.bind_some,hc,F5,w64 (by omega) (by omega)]
 rw [show ((b.l.length+1:Nat):Int) - 1=(b.l.length:Int) by omega,F6 _ _ (Nat.le_refl _),List.take_length,Option.bind_some,L4 hk.1 hk.2 hg,Option.bind_some,bL (by simp; omega)]
 rw [Jj,CL]
 rfl
def oW (g:List aJ):List (List aJ)×List aJ :=
 if h:1024<=g.length then (g.take 1024::(oW (g.drop 1024)).1,(oW (g.drop 1024)).2) else ([],g)
termination_by g.length
decreasing_by all_goals (rw [List.length_drop]; omega)
theorem BM {g:List aJ} (h:1024<=g.length):oW g=(g.take 1024::(oW (g.drop 1024)).1,(oW (g.drop 1024)).2):=by
 rw [oW,dif_pos h]
theorem yx {g:List aJ} (h: ¬ 1024<=g.length):oW g=([],g):=by
 rw [oW,dif_neg h]
def sG (z:List (List aJ)×List aJ) (r:aE):List (List aJ)×List aJ :=
 let c:=oW (z.2++pD r)
 if r.wrapped then (z.1++c.1,c.2) else (z.1++c.1++[c.2],[])
def BN (z:List (List aJ)×List aJ):Ay:=⟨z.1.map (λg=>g.map tg),z.2.map tg⟩
def fY (z:List (List aJ)×List aJ):cF:=⟨z.1,chs z.1,z.2⟩
def Hj (g:List aJ):Prop:= ∀ x∈g,rok x.rune
theorem F7: ∀ n (g:List aJ),g.length=n->Hj g->(oW g).1.length*1024<=n/\(oW g).2.length < 1024/\Hj (oW g).2 /\ ∀ x∈(oW g).1,BL x:=by
 intro n
 induction n using Nat.strongRecOn with
 | _ n ih =>
  intro g hg ho
  by_cases h:1024<=g.length
  ·rw [BM h]
   obtain ⟨a,b,c,d⟩:=ih (g.drop 1024).length (by rw [List.length_drop]; omega) _ rfl (λx hx=>ho x (List.mem_of_mem_drop hx))
   rw [List.length_drop] at a
   refine ⟨by rw [List.length_cons,Nat.succ_mul,<- hg]; exact Nat.add_le_of_le_sub h a,b,c,λx hx=> ?_⟩
   rcases List.mem_cons.1 hx with rfl | hx
   ·exact ⟨by rw [List.length_take]; omega,λy hy=>ho y (List.mem_of_mem_take hy)⟩
   ·exact d x hx
  ·rw [yx h]
   exact ⟨by rw [List.length_nil]; omega,by dsimp only; omega,ho,λx hx=>by cases hx⟩
def CO (r:aE):Prop:=r.cells.length<=1000/\Hj (pD r)
structure ZI (k:Nat) (z:List (List aJ)×List aJ):Prop where
 n:z.1.length<=k
 b:z.2.length < 1024
 g:Hj z.2
 ls: ∀ x∈z.1,BL x
theorem L5 {k:Nat} {z:List (List aJ)×List aJ} (h:ZI k z) {r:aE} (hr:CO r):ZI (k+2) (sG z r):=by
 have hl:=Cz r
 obtain ⟨a,b,c,d⟩:=F7 _ (z.2++pD r) rfl (λx hx=>(List.mem_append.1 hx).elim (h.g x) (hr.2 x))
 rw [List.length_append] at a
 have h1:=h.n
 have h2:=h.b
 have h3:=hr.1
 unfold sG
 dsimp only
 split
 ·exact ⟨by rw [List.length_append]; omega,b,c,λx hx=>(List.mem_append.1 hx).elim (h.ls x) (d x)⟩
 ·refine ⟨by simp; omega,by show 0 < 1024; decide,λx hx=>(by cases hx),λx hx=> ?_⟩
  rcases List.mem_append.1 hx with hx | hx
  ·exact (List.mem_append.1 hx).elim (h.ls x) (d x)
  ·rw [List.mem_singleton.1 hx]
   exact ⟨by omega,c⟩
theorem add_one {k:Nat} (hk:k<=100000000) {z:List (List aJ)×List aJ} (h:ZI k z) {r:aE} (hr:CO r):(Option.bind (kb r) λf=>(Option.bind (chk (eI (fY z).begun.length f.length 16)) λ_=>(Option.bind (iter (σ:=cF) (ρ:=cF) (λd=>(bif (decide ((d.begun.length:Int)>=1024)) then (Option.bind (chk (dE 0 1024 d.begun.length)) λ_=>(Option.bind (gA d (cut d.begun 0 1024)) λc=>(Option.bind (chk (dE 1024 (c.begun.length:Int) c.begun.length)) λ_=>(Option.bind (cB (cut c.begun 1024 (c.begun.length:Int))) λj=>some (.inl (cF.mk c.l c.bV j)))))) else some (.inr d))) (cF.mk (fY z).l (fY z).bV ((fY z).begun++f))) λe=>(bif (!r.wrapped) then (Option.bind (gA e e.begun) λi=>some (cF.mk i.l i.bV ([]:List aJ))) else some e))))=some (fY (sG z r)):=by
 have hl:=Cz r
 have h1:=h.n
 have h2:=h.b
 have h3:=hr.1
 have hgo:Hj (z.2++pD r):=λx hx=>(List.mem_append.1 hx).elim (h.g x) (hr.2 x)
 obtain ⟨ca,cb,cc,_⟩:=F7 _ (z.2++pD r) rfl hgo
 rw [List.length_append] at ca
 rw [G5 r (by omega),Option.bind_some,bL (by show (z.2.length+(pD r).length)*16<=_; omega),Option.bind_some]
 refine Q3 (dW (P:=λy=>y=fY (z.1++(oW (z.2++pD r)).1,(oW (z.2++pD r)).2)) ?_ λy hy=> ?_)
 ·refine tY (λy:cF=> ∃ l g,y=fY (l,g)/\g.length<=2024/\Hj g/\l.length+g.length<=200000000/\(oW g).2=(oW (z.2++pD r)).2/\l++(oW g).1=z.1++(oW (z.2++pD r)).1) (λy=>y.begun.length) ⟨z.1,z.2++pD r,rfl,by simp; omega,hgo,by simp; omega,rfl,rfl⟩ ?_
  rintro _ ⟨l,g,rfl,g1,g2,g3,g4,g5⟩
  show okO (bif (decide ((g.length:Int)>=1024)) then _ else _) _
  refine vY (λhh=> ?_) λhh=> ?_
  ·have hge:1024<=g.length:=by omega
   rw [BM hge] at g4 g5
   have hcut:cut g 0 1024=g.take 1024:=by rw [show (1024:Int)=((1024:Nat):Int) from rfl,y6]
   have hcut2:cut g 1024 (g.length:Int)=g.drop 1024:=by rw [show (1024:Int)=((1024:Nat):Int) from rfl,rM,List.take_length]
   refine dW (EU (by omega) (by omega) (by show (1024:Int)<=g.length; omega)) λ_ _=> ?_
   rw [show (fY (l,g)).begun=g from rfl,hcut,CN (b:=fY (l,g)) rfl (by show l.length<=_; omega) ⟨by rw [List.length_take]; omega,λx hx=>g2 x (List.mem_of_mem_take hx)⟩,Option.bind_some]
   dsimp only
   refine dW (EU (by omega) (by show (1024:Int)<=g.length; omega) (by show (g.length:Int)<=g.length; omega)) λ_ _=> ?_
   rw [show (fY (l,g)).begun=g from rfl,show (fY (l,g)).l=l from rfl,hcut2,xf _ (by rw [List.length_drop]; omega),Option.bind_some]
   refine cC ⟨⟨l++[g.take 1024],g.drop 1024,rfl,by rw [List.length_drop]; omega,λx hx=>g2 x (List.mem_of_mem_drop hx),by simp; omega,g4,by rw [<- g5]; simp⟩,?_⟩
   show (g.drop 1024).length < g.length
   rw [List.length_drop]
   omega
  ·rw [yx (by omega)] at g4 g5
   refine cC ?_
   rw [<- g4,<- g5]
   simp
 ·subst hy
  unfold sG
  cases hw:r.wrapped with
  | true=>exact cC rfl
  | false =>
   simp only [Bool.not_false,cond_true]
   rw [show ∀ a b,(fY (a,b)).begun=b from λ_ _=>rfl,CN (b:=fY (z.1++(oW (z.2++pD r)).1,(oW (z.2++pD r)).2)) rfl (by show (z.1++(oW (z.2++pD r)).1).length<=_; rw [List.length_append]; omega) ⟨by show (oW (z.2++pD r)).2.length<=2000; omega,cc⟩]
   exact cC rfl
theorem tZ {k:Nat}: ∀ (rows:List aE) {z:List (List aJ)×List aJ},ZI k z->(∀ r∈rows,CO r)->ZI (k+2*rows.length) (rows.foldl sG z)
 | [],z,h,_=>h
 | r::rows,z,h,hr=>by
  have h1:=L5 h (hr r List.mem_cons_self)
  have h2:=tZ (k:=k+2) rows h1 λx hx=>hr x (List.mem_cons_of_mem _ hx)
  rw [show k+2*(r::rows).length=k+2+2*rows.length by simp; omega]
  exact h2
theorem add_eq {k:Nat} {z:List (List aJ)×List aJ} (h:ZI k z) {rows:List aE} (hr: ∀ r∈rows,CO r) (hk:k+2*rows.length<=100000000):okO (jM (fY z) rows) (λy=>y.2=fY (rows.foldl sG z)):=by
 unfold jM
 refine dW (P:=λy=>y=fY (rows.foldl sG z)) ?_ λy hy=>cC hy
 refine tY (λy:cF×Int=>0<=y.2/\y.2<=rows.length/\y.1=fY ((rows.take y.2.toNat).foldl sG z)) (λy=>rows.length - y.2.toNat) ⟨Int.le_refl 0,by dsimp only; omega,rfl⟩ ?_
 rintro ⟨b,i⟩ ⟨h0,h1,h2⟩
 dsimp only at h0 h1 h2 ⊢
 subst h2
 refine vY (λhi=> ?_) λhi=>cC (by rw [List.take_of_length_le (by omega)])
 obtain ⟨j,rfl⟩: ∃ j:Nat,i=j:=⟨i.toNat,by omega⟩
 have hj:j < rows.length:=by omega
 have hZ:=tZ (rows.take j) h λx hx=>hr x (List.mem_of_mem_take hx)
 rw [List.length_take] at hZ
 rw [cU rows j hj,Option.bind_some]
 have:=add_one (by omega) hZ (hr rows[j] (List.getElem_mem hj))
 rw [show ((j:Int)).toNat=j from rfl]
 rw [this,Option.bind_some,w64 (by omega) (by omega)]
 refine cC ⟨⟨by dsimp only; omega,by dsimp only; omega,?_⟩,by dsimp only; omega⟩
 dsimp only
 rw [show ((j:Int)+1).toNat=j+1 by omega,List.take_add_one,List.getElem?_eq_getElem hj,Option.toList_some,List.foldl_append]
 rfl
end Go.Tw.X

import Derived.Test.YtdhkangklnlnoaaGreatDoorFw2
import Derived.Test.YtdhkangklnlnoaaGreatDoorXp1
import Derived.Laws.BitsLemmas
import Derived.Laws.Strings
set_option linter.unusedVariables false
set_option linter.unusedSimpArgs false
namespace Go.Tw.X
open Go Go.Tw
def tc (c:aI):cY:=⟨c.rune,c.bD,c.part⟩
def told (r:aP):bM:=⟨r.cells.map tc,r.wrapped⟩
theorem xk (n:Int):IntKind.u64.wrap n=n % 18446744073709551616:=by simp [IntKind.wrap,IntKind.bits,IntKind.signed]
theorem yM (n:Int) (h0:0<=n) (h1:n < 2 ^ 63):IntKind.u64.wrap n=n:=by rw [xk]; omega
theorem ue (y:Int) (h0:0<=y) (h1:y < 4294967296):Go.bits .and .u64 y 4294967295=y:=by
 have h:=bits_mask .u64 63 (by decide) yM 32 (by decide) y h0 (by omega)
 have e:((2:Int) ^ 32 - 1)=4294967295:=by decide
 have e2:((2:Int) ^ 32)=4294967296:=by decide
 rw [e,e2] at h
 rw [h]
 omega
theorem xm {x:Int} (h0:0<=x) (h1:x < 18446744073709551616):IntKind.u64.wrap x=x:=by rw [xk]; omega
theorem uf (n:Int) (h0:0<=n) (h1:n<=1000000):km 1 n=some (0,n):=by
 have e32:(2:Int) ^ (min 32 64)=4294967296:=by decide
 have f1:Int.fdiv 1 4294967296=0:=by decide
 have f2:Int.fdiv n 4294967296=0:=by rw [Int.fdiv_eq_ediv_of_nonneg _ (by decide)]; omega
 have f0:Int.fdiv 0 4294967296=0:=by decide
 have z0:IntKind.u64.wrap 0=0:=by rw [xk]; rfl
 have m0:Go.bits .and .u64 0 4294967295=0:=ue 0 (by omega) (by omega)
 have m1:Go.bits .and .u64 1 4294967295=1:=ue 1 (by omega) (by omega)
 have mn:=ue n h0 (by omega)
 have un:IntKind.u64.wrap n=n:=xm h0 (by omega)
 unfold km kc
 simp only [e32,f1,f2,m1,mn,Int.zero_mul,Int.mul_zero,Int.one_mul,z0,un,f0,Int.add_zero,Int.zero_add,m0,aA]
theorem we (c:aI) (n:Int) (h0:0<=n) (h1:n<=1000000):dC [c] n=some (List.replicate n.toNat c):=by
 unfold dC
 have hn:decide (n < 0)=false:=decide_eq_false (by omega)
 have u1:IntKind.u64.wrap (([c].length:Nat):Int)=1:=xm (by simp) (by simp)
 rw [hn,cond_false,u1,xm h0 (by omega),uf n h0 h1]
 simp only [aA]
 have g1:decide ((0:Int) > 0)=false:=by decide
 have g2:decide (n > 9223372036854775807)=false:=decide_eq_false (by omega)
 rw [g1,cond_false,aA,g2,cond_false,w64 (by omega) (by omega),oA h0 (by omega) (by omega),aA]
 obtain ⟨k,rfl⟩: ∃ k:Nat,n=k:=⟨n.toNat,by omega⟩
 simp only [Int.toNat_natCast,List.length_cons,List.length_nil,List.length_replicate]
 have key: ∀ m j,k - j=m->j<=k->(1<=j\/k=0)->iter (σ:=(List aI)×Int) (ρ:=(List aI)) (λa=>(bif (decide (a.2 < (a.1.length:Int))) then (Option.bind (chk (fg a.2 (a.1.length:Int) a.1.length)) λ_=>(Option.bind (chk (fg 0 a.2 a.1.length)) λ_=>some (.inl ((qz a.1 a.2.toNat),(IntKind.i64.wrap (a.2+((Nat.min a.2.toNat (a.1.length - a.2.toNat):Nat):Int))))))) else some (.inr a.1))) (List.replicate j c++List.replicate (k - j) (aI.mk 0 0 0),(j:Int))=some (List.replicate k c):=by
  intro m
  induction m using Nat.strongRecOn with
  | _ m ih =>
   intro j hm hj h1j
   have hlen:(List.replicate j c++List.replicate (k - j) (aI.mk 0 0 0)).length=k:=by simp; omega
   by_cases hjk:j < k
   ·have hmin:Nat.min j (k - j)=min j (k - j):=rfl
    rw [bS (s':=(List.replicate (j+min j (k - j)) c++List.replicate (k - (j+min j (k - j))) (aI.mk 0 0 0),((j+min j (k - j):Nat):Int)))]
    ·exact ih (k - (j+min j (k - j))) (by omega) _ rfl (by omega) (by omega)
    ·have hc:decide ((j:Int) < ((List.replicate j c++List.replicate (k - j) (aI.mk 0 0 0)).length:Int))=true:=by rw [hlen]; simp; omega
     simp only [hc,cond_true]
     rw [hlen,dG (by omega) (by omega) (by omega),aA,dG (by omega) (by omega) (by omega),aA,Int.toNat_natCast,hmin,w64 (by omega) (by omega)]
     congr 2
     refine Prod.ext ?_ ?_
     ·show qz _ _=_
      unfold qz
      rw [hlen]
      have t1:(List.replicate j c++List.replicate (k - j) (aI.mk 0 0 0)).take j=List.replicate j c:=by rw [List.take_left']; simp
      rw [t1,List.take_replicate,List.drop_append,List.drop_of_length_le (by simp),List.nil_append,List.length_replicate,List.drop_replicate,List.replicate_append_replicate,Nat.min_comm (k - j) j]
      congr 2
      omega
     ·show ((j:Int)+((min j (k - j):Nat):Int))=_
      omega
   ·have hjk':j=k:=by omega
    subst hjk'
    rw [bB (r:=List.replicate j c)]
    simp
 have hs:cpy (List.replicate k (aI.mk 0 0 0)) [c]=List.replicate (min 1 k) c++List.replicate (k - min 1 k) (aI.mk 0 0 0):=by
  unfold cpy
  cases k with
  | zero=>simp
  | succ k=>simp [Nat.min_eq_left]
 have hmin:Nat.min (0+1) k=min 1 k:=rfl
 rw [hs,hmin,key _ (min 1 k) rfl (by omega) (by omega),aA]
theorem xn (l:List aI) (h:l.length<=1000000):eu l=some l:=by
 unfold eu
 rw [bO (by simp; omega),aA]
 rfl
theorem jK (x y:aI):((x.rune == y.rune) && ((x.bD == y.bD) && ((x.part == y.part) && true)))=decide (x=y):=by
 obtain ⟨a,b,c⟩:=x
 obtain ⟨d,e,f⟩:=y
 by_cases h1:a=d <;> by_cases h2:b=e <;> by_cases h3:c=f <;> simp [h1,h2,h3]
theorem xo (a b:List aI) (h:a.length<=1000000):ew a b=some (decide (a=b)):=by
 unfold ew
 by_cases hl:a.length=b.length
 ·have e:((a.length:Int) != (b.length:Int))=false:=by simp [hl]
  rw [e,cond_false]
  have key: ∀ (x y d d2:List aI),d++x=a->d2++y=b->d=d2->x.length=y.length->iter (σ:=Int) (ρ:=Unit ⊕ Bool) (λf=>(bif (decide (f < (a.length:Int))) then (Option.bind (idx a f) λg=>(Option.bind (idx b f) λi=>(bif (!((g.rune == i.rune) && ((g.bD == i.bD) && ((g.part == i.part) && true)))) then (eT (some false)) else some (.inl (IntKind.i64.wrap (f+1)))))) else some (.inr (.inl ())))) (d.length:Int)=some (if x=y then .inl () else .inr false):=by
   intro x
   induction x with
   | nil =>
    intro y d d2 hd hd2 hdd hxy
    have:y=[]:=List.eq_nil_of_length_eq_zero hxy.symm
    subst this
    simp at hd
    subst hd
    rw [bB (r:= .inl ())]
    ·simp
    ·simp
   | cons c x ih =>
    intro y d d2 hd hd2 hdd hxy
    cases y with
    | nil=>simp at hxy
    | cons c2 y =>
     subst hdd
     have hal:a.length=d.length+x.length+1:=by rw [<- hd]; simp; omega
     have hc:decide ((d.length:Int) < (a.length:Int))=true:=by simp; omega
     have hx:idx a (d.length:Int)=some c:=by rw [<- hd]; exact pw d x c
     have hx2:idx b (d.length:Int)=some c2:=by rw [<- hd2]; exact pw d y c2
     by_cases hcc:c=c2
     ·subst hcc
      rw [bS (s':=((d++[c]).length:Int))]
      ·rw [ih y (d++[c]) (d++[c]) (by simpa using hd) (by simpa using hd2) rfl (by simpa using hxy)]
       simp
      ·simp only [hc,cond_true,hx,hx2,aA,jK]
       rw [w64 (by omega) (by omega)]
       simp
     ·rw [bB (r:= .inr false)]
      ·simp [hcc]
      ·simp only [hc,cond_true,hx,hx2,aA,jK]
       have:decide (c=c2)=false:=decide_eq_false hcc
       rw [this]
       rfl
  have h0:=key a b [] [] rfl rfl rfl hl
  have e0:((([]:List aI).length:Nat):Int)=0:=rfl
  rw [e0] at h0
  rw [h0,aA]
  by_cases hab:a=b
  ·rw [if_pos hab]; simp [hab]
  ·rw [if_neg hab]; simp [hab]
 ·have e:((a.length:Int) != (b.length:Int))=true:=by simp; omega
  rw [e,cond_true]
  have:a≠b:=λh=>hl (by rw [h])
  simp [this]
theorem u9 (r q:aP) (h:r.cells.length<=1000000):gn r q=some (decide (r=q)):=by
 unfold gn
 obtain ⟨a,x⟩:=r
 obtain ⟨b,y⟩:=q
 rw [xo a b h]
 cases x <;> cases y <;> simp
theorem eV (l:List aI):(l.map tc).length=l.length:=List.length_map _
def rok (x:Int):Prop:= -2147483648<=x/\x<=2147483647
def okR (l:List aI):Prop:= ∀ c∈l,rok c.rune
theorem va {a b:List aI} (ha:okR a) (hb:okR b):okR (a++b):=λc hc=>(List.mem_append.1 hc).elim (ha c) (hb c)
theorem xq {a:List aI} (ha:okR a) (n:Nat):okR (a.drop n):=λc hc=>ha c (List.mem_of_mem_drop hc)
theorem w32 {x:Int} (h:rok x):IntKind.i64.wrap x=x:=by obtain ⟨h1,h2⟩:=h; exact w64 (by omega) (by omega)
theorem kG {σ ρ:Type} {f:σ->Option (σ ⊕ ρ)} (S:Nat->σ) (n:Nat) (r:ρ) (hs: ∀ i,i < n->f (S i)=some (.inl (S (i+1)))) (he:f (S n)=some (.inr r)):iter f (S 0)=some r:=by
 have key: ∀ i,i<=n->iter f (S 0)=iter f (S i):=by
  intro i
  induction i with
  | zero=>intro _; rfl
  | succ i ih =>
   intro hi
   rw [ih (by omega),bS (hs i (by omega))]
 rw [key n (Nat.le_refl n),bB he]
theorem fc {σ ρ β:Type} {f:σ->Option (σ ⊕ ρ)} {s:σ} {g:ρ->Option β} {out:Option β} (S:Nat->σ) (n:Nat) (r:ρ) (h0:s=S 0) (hs: ∀ i,i < n->f (S i)=some (.inl (S (i+1)))) (he:f (S n)=some (.inr r)) (hg:g r=out):Option.bind (iter f s) g=out:=by
 rw [h0,kG S n r hs he]
 exact hg
theorem ij {σ ρ:Type} {f:σ->Option (σ ⊕ ρ)} (Inv:σ->Prop) (m:σ->Nat) (l6:ρ->Prop)
  (hs: ∀ s,Inv s->(∃ s',f s=some (.inl s')/\Inv s'/\m s' < m s)\/(∃ r,f s=some (.inr r)/\l6 r)): ∀ s,Inv s -> ∃ r,iter f s=some r/\l6 r:=by
 have key: ∀ (n:Nat) s,m s<=n->Inv s -> ∃ r,iter f s=some r/\l6 r:=by
  intro n
  induction n with
  | zero =>
   intro s hm hi
   rcases hs s hi with ⟨s',hf,hi',hlt⟩ | ⟨r,hf,hp⟩
   ·omega
   ·exact ⟨r,bB hf,hp⟩
  | succ n ih =>
   intro s hm hi
   rcases hs s hi with ⟨s',hf,hi',hlt⟩ | ⟨r,hf,hp⟩
   ·rw [bS hf]
    exact ih s' (by omega) hi'
   ·exact ⟨r,bB hf,hp⟩
 intro s hi
 exact key (m s) s (Nat.le_refl _) hi
theorem pU {σ ρ β:Type} {f:σ->Option (σ ⊕ ρ)} {s:σ} {g:ρ->Option β} {out:Option β} (Inv:σ->Prop) (m:σ->Nat) (l6:ρ->Prop) (h0:Inv s)
  (hs: ∀ s,Inv s->(∃ s',f s=some (.inl s')/\Inv s'/\m s' < m s)\/(∃ r,f s=some (.inr r)/\l6 r)) (hg: ∀ r,l6 r->g r=out):Option.bind (iter f s) g=out:=by
 obtain ⟨r,h1,h2⟩:=ij Inv m l6 hs s h0
 rw [h1]
 exact hg r h2
theorem or2 (p q:Prop) [Decidable p] [Decidable q]:((bif decide p then some true else some (decide q)):Option Bool)=some (decide (p\/q)):=by
 by_cases a1:p <;> by_cases a2:q <;> simp [a1,a2]
theorem bQ {α:Type} (l:List α) (n:Nat) (h:n < l.length):idx l (n:Int)=some l[n]:=by rw [nA,List.getElem?_eq_getElem h]
theorem yN {α:Type} (l r:List α) (x y:α):(l++x::r).set l.length y=l++y::r:=by simp
theorem nD {α:Type} (l:List α) (a b:Nat):cut l (a:Int) (b:Int)=(l.take b).drop a:=by simp [cut]
def pV:aP:=⟨[],false⟩
theorem xu {α:Type} {l r:List α} {x:α} {k:Int} (h:k=l.length):idx (l++x::r) k=some x:=by rw [h,pw]
theorem xv {α:Type} {l r:List α} {x y:α} {k:Nat} (h:k=l.length):(l++x::r).set k y=l++y::r:=by rw [h,yN]
theorem AB {x:Int} (h0:0<=x) (h1:x < 256):IntKind.u8.wrap x=x:=by rw [IntKind.wrap_u8]; omega
theorem foldl_push (xs:List Int): ∀ l:List UInt8,xs.foldl (λr n=>r.push (UInt8.ofNat n.toNat)) (ByteArray.mk l.toArray)=ByteArray.mk (l++xs.map (λn=>UInt8.ofNat n.toNat)).toArray:=by
 induction xs with
 | nil=>intro l; simp
 | cons a xs ih =>
  intro l
  rw [List.foldl_cons]
  have:(ByteArray.mk l.toArray).push (UInt8.ofNat a.toNat)=ByteArray.mk (l++[UInt8.ofNat a.toNat]).toArray:=by
   show ByteArray.mk (l.toArray.push _)=_
   rw [List.push_toArray]
  rw [this,ih]
  simp
theorem kH (xs:List Int):cZ xs=ByteArray.mk (xs.map (λn=>UInt8.ofNat n.toNat)).toArray:=foldl_push xs []
theorem dV (a b:List Int):cZ (a++b)=cZ a++cZ b:=by
 rw [kH,kH,kH,ByteArray.mk_append_mk,List.map_append]
theorem bN (a:List Int):(cZ a).size=a.length:=by
 rw [kH]
 simp [ByteArray.size]
theorem eZ {n m:Nat} (h:n+m<=4611686018427387904):chk (kj n m)=some ():=ib h
def fE (n:Nat):List Int:=if n < 128 then [(n:Int)] else ((128+n % 128:Nat):Int)::fE (n / 128)
termination_by n
decreasing_by omega
def clN (n:Int):Nat:=(max 0 (min n 4611686018427387904)).toNat
theorem xw (n:Int):imax 0 (cA n 4611686018427387904)=(clN n:Int):=by rw [ru,lE]; unfold clN; omega
theorem ug (n:Int):clN n<=4611686018427387904:=by unfold clN; omega
def bV (n:Int):List Int:=fE (clN n)
theorem dT {n:Nat} (h:n < 128):fE n=[(n:Int)]:=by rw [fE,if_pos h]
theorem jL {n:Nat} (h: ¬ n < 128):fE n=((128+n % 128:Nat):Int)::fE (n / 128):=by rw [fE,if_neg h]
theorem nE: ∀ (k n:Nat),n < 128 ^ (k+1)->(fE n).length<=k+1:=by
 intro k
 induction k with
 | zero =>
  intro n h
  rw [dT (by omega)]
  simp
 | succ k ih =>
  intro n h
  by_cases hn:n < 128
  ·rw [dT hn]
   simp
  ·rw [jL hn,List.length_cons]
   have:n / 128 < 128 ^ (k+1):=by
    rw [Nat.pow_succ] at h
    exact Nat.div_lt_of_lt_mul (by rw [Nat.mul_comm]; exact h)
   have:=ih _ this
   omega
theorem bW (n:Int):(bV n).length<=9:=nE 8 _ (by have:=ug n; omega)
theorem lj: ∀ (n:Nat),∀ b∈fE n,0<=b/\b < 256:=by
 intro n
 induction n using Nat.strongRecOn with
 | _ n ih =>
  intro b hb
  by_cases hn:n < 128
  ·rw [dT hn,List.mem_singleton] at hb
   omega
  ·rw [jL hn] at hb
   rcases List.mem_cons.1 hb with rfl | hb
   ·omega
   ·exact ih (n / 128) (by omega) b hb
theorem xx (x:Int) (h0:0<=x) (h1:x < 256):Go.bits .and .u8 x 127=x % 128:=by
 have h:=bits_mask .u8 8 (by decide) wraps_u8 7 (by decide) x h0 (by omega)
 have e:((2:Int) ^ 7 - 1)=127:=by decide
 have e2:((2:Int) ^ 7)=128:=by decide
 rw [e,e2] at h
 exact h
theorem or_comm (k:IntKind) (x y:Int):Go.bits .or k x y=Go.bits .or k y x:=by
 show k.wrap ((BitVec.ofInt k.bits x ||| BitVec.ofInt k.bits y).toNat:Int)=k.wrap ((BitVec.ofInt k.bits y ||| BitVec.ofInt k.bits x).toNat:Int)
 rw [BitVec.or_comm]
theorem yO (y:Int) (h0:0<=y) (h1:y < 128):Go.bits .or .u8 y 128=128+y:=by
 rw [or_comm]
 exact bits_join .u8 8 (by decide) wraps_u8 7 128 y (by decide) (by decide) (by decide) h0 (by omega) (by omega)
theorem Bx (n:Nat):(n:Int).fdiv (2 ^ (min 7 64))=((n / 128:Nat):Int):=by
 rw [Int.fdiv_eq_ediv_of_nonneg _ (by decide)]
 show (n:Int) / 128=_
 omega
theorem wh (b:List Int) (x:Int) (hb:b.length<=100000000): ∃ e,ic (λ(s661:bR) (x619:Int)=>(Option.bind (chk (dK s661.b.length [x619].length 1)) λ_=>some ((bR.mk (s661.b++[x619])),true))) (⟨b⟩:bR) x=some ((⟨b++bV x⟩:bR),e):=by
 unfold ic lI
 rw [xw,aA]
 unfold bV
 have hle:=ug x
 generalize clN x=n at hle
 have key: ∀ (k n:Nat) (b:List Int),n < 128 ^ (k+1)->b.length+(k+1)<=100000010 -> ∃ e,iter (σ:=Int×bR) (ρ:=(Int×bR) ⊕ (bR×Int)) (λa=>(bif (decide (a.1>=128)) then (Option.bind ((λ(s661:bR) (x619:Int)=>(Option.bind (chk (dK s661.b.length [x619].length 1)) λ_=>some ((bR.mk (s661.b++[x619])),true))) a.2 (Go.bits .or .u8 (Go.bits .and .u8 (IntKind.u8.wrap a.1) 127) 128)) λz68=>(bif (!z68.2) then (eT (some (z68.1,a.1))) else some (.inl ((a.1.fdiv (2 ^ (min 7 64))),z68.1)))) else some (.inr (.inl (a.1,a.2))))) ((n:Int),(⟨b⟩:bR))=some (.inl ((e:Int),(⟨b++(fE n).dropLast⟩:bR)))/\0<=e/\e < 128/\fE n=(fE n).dropLast++[e]:=by
  intro k
  induction k with
  | zero =>
   intro n b h hb
   refine ⟨n,?_,by omega,by omega,?_⟩
   ·rw [dT (by omega)]
    refine bB ?_
    dsimp only
    rw [decide_eq_false (by omega),cond_false]
    simp
   ·rw [dT (by omega)]
    rfl
  | succ k ih =>
   intro n b h hb
   by_cases hn:n < 128
   ·refine ⟨n,?_,by omega,by omega,?_⟩
    ·rw [dT hn]
     refine bB ?_
     dsimp only
     rw [decide_eq_false (by omega),cond_false]
     simp
    ·rw [dT hn]
     rfl
   ·have hlt:n / 128 < 128 ^ (k+1):=by
     rw [Nat.pow_succ] at h
     exact Nat.div_lt_of_lt_mul (by rw [Nat.mul_comm]; exact h)
    obtain ⟨e,h1,h2,h3,h4⟩:=ih (n / 128) (b++[((128+n % 128:Nat):Int)]) hlt (by simp; omega)
    refine ⟨e,?_,h2,h3,?_⟩
    ·rw [bS (s':=(((n / 128:Nat):Int),(⟨b++[((128+n % 128:Nat):Int)]⟩:bR)))]
     ·rw [h1,jL hn]
      have hne:fE (n / 128)≠[]:=by rw [h4]; simp
      rw [List.dropLast_cons_of_ne_nil hne]
      simp
     ·dsimp only
      have hw:IntKind.u8.wrap (n:Int)=((n % 256:Nat):Int):=by rw [IntKind.wrap_u8]; omega
      have hv:Go.bits .or .u8 (Go.bits .and .u8 (IntKind.u8.wrap (n:Int)) 127) 128=((128+n % 128:Nat):Int):=by
       rw [hw,xx _ (by omega) (by omega),yO _ (by omega) (by omega)]
       omega
      rw [decide_eq_true (by omega),cond_true,hv,bO (by simp; omega),aA,aA]
      dsimp only
      rw [Bool.not_true,cond_false,Bx]
    ·rw [jL hn]
     have hne:fE (n / 128)≠[]:=by rw [h4]; simp
     rw [List.dropLast_cons_of_ne_nil hne,List.cons_append,<- h4]
 obtain ⟨e,h1,h2,h3,h4⟩:=key 8 n b (by omega) (by omega)
 have hl:=nE 8 n (by omega)
 have hd:(fE n).dropLast.length<=9:=by rw [List.length_dropLast]; omega
 refine ⟨e,?_⟩
 rw [h1,aA]
 dsimp only
 have hu:IntKind.u8.wrap e=e:=by rw [IntKind.wrap_u8]; omega
 rw [hu,bO (by simp only [List.length_append,List.length_singleton]; omega),aA,aA,List.append_assoc,<- h4]
theorem ke (b:List Int) (l:List Int) (hb:b.length+9*l.length<=10000000):cP ⟨b⟩ l=some ⟨b++l.flatMap bV⟩:=by
 unfold cP kb
 have hfl: ∀ l:List Int,(l.flatMap bV).length<=9*l.length:=by
  intro l
  induction l with
  | nil=>simp
  | cons a l ih =>
   rw [List.flatMap_cons,List.length_append,List.length_cons]
   have:=bW a
   omega
 refine fc (λi=>((⟨b++(l.take i).flatMap bV⟩:bR),(i:Int))) l.length (⟨b++l.flatMap bV⟩:bR) ?_ ?_ ?_ rfl
 ·simp
 ·intro i hi
  dsimp only
  have h4:=hfl (l.take i)
  rw [List.length_take] at h4
  obtain ⟨e,he⟩:=wh (b++(l.take i).flatMap bV) l[i] (by rw [List.length_append]; omega)
  rw [decide_eq_true (by omega),cond_true,bQ l i hi,aA,aA,he,aA,w64 (by omega) (by omega),List.take_succ_eq_append_getElem hi,List.flatMap_append,List.flatMap_singleton,List.append_assoc]
  rfl
 ·dsimp only
  rw [decide_eq_false (by omega),cond_false,List.take_length]
theorem ja (x:Int):bX x=some (cZ (bV x)):=by
 unfold bX
 rw [xw]
 unfold bV
 have hle:=ug x
 generalize clN x=n at hle
 have key: ∀ (k n:Nat) (b:List Int),n < 128 ^ (k+1)->n<=4611686018427387904->b.length+(k+1)<=1000 -> ∃ e,iter (σ:=Int×(List Int)) (ρ:=Int×(List Int)) (λa=>(bif (decide (a.1>=128)) then (Option.bind (chk (dK a.2.length [(IntKind.u8.wrap (IntKind.i64.wrap (128+(a.1.tmod 128))))].length 1)) λ_=>some (.inl ((IntKind.i64.wrap (a.1.tdiv 128)),(a.2++[(IntKind.u8.wrap (IntKind.i64.wrap (128+(a.1.tmod 128))))])))) else some (.inr (a.1,a.2)))) ((n:Int),b)=some ((e:Int),b++(fE n).dropLast)/\0<=e/\e < 128/\fE n=(fE n).dropLast++[e]:=by
  intro k
  induction k with
  | zero =>
   intro n b h hmx hb
   refine ⟨n,?_,by omega,by omega,?_⟩
   ·rw [dT (by omega)]
    refine bB ?_
    dsimp only
    rw [decide_eq_false (by omega),cond_false]
    simp
   ·rw [dT (by omega)]
    rfl
  | succ k ih =>
   intro n b h hmx hb
   by_cases hn:n < 128
   ·refine ⟨n,?_,by omega,by omega,?_⟩
    ·rw [dT hn]
     refine bB ?_
     dsimp only
     rw [decide_eq_false (by omega),cond_false]
     simp
    ·rw [dT hn]
     rfl
   ·have hlt:n / 128 < 128 ^ (k+1):=by
     rw [Nat.pow_succ] at h
     exact Nat.div_lt_of_lt_mul (by rw [Nat.mul_comm]; exact h)
    obtain ⟨e,h1,h2,h3,h4⟩:=ih (n / 128) (b++[((128+n % 128:Nat):Int)]) hlt (by omega) (by simp; omega)
    refine ⟨e,?_,h2,h3,?_⟩
    ·have hbig:n < 9223372036854775808:=by omega
     ·rw [bS (s':=(((n / 128:Nat):Int),b++[((128+n % 128:Nat):Int)]))]
      ·rw [h1,jL hn]
       have hne:fE (n / 128)≠[]:=by rw [h4]; simp
       rw [List.dropLast_cons_of_ne_nil hne]
       simp
      ·dsimp only
       have m1:(n:Int).tmod 128=((n % 128:Nat):Int):=by rw [Int.tmod_eq_emod_of_nonneg (by omega)]; omega
       have d1:(n:Int).tdiv 128=((n / 128:Nat):Int):=by rw [Int.tdiv_eq_ediv_of_nonneg (by omega)]; omega
       rw [decide_eq_true (by omega),cond_true,m1,d1,w64 (by omega) (by omega),w64 (by omega) (by omega),AB (by omega) (by omega),bO (by simp; omega),aA]
       have:(128:Int)+((n % 128:Nat):Int)=((128+n % 128:Nat):Int):=by omega
       rw [this]
    ·rw [jL hn]
     have hne:fE (n / 128)≠[]:=by rw [h4]; simp
     rw [List.dropLast_cons_of_ne_nil hne,List.cons_append,<- h4]
 obtain ⟨e,h1,h2,h3,h4⟩:=key 8 n [] (by omega) hle (by simp)
 have hl:=nE 8 n (by omega)
 have hd:(fE n).dropLast.length<=9:=by rw [List.length_dropLast]; omega
 rw [h1,aA]
 dsimp only
 rw [AB h2 (by omega),bO (by simp only [List.length_append,List.length_singleton,List.length_nil]; omega),aA,List.nil_append,<- h4]
def most:Nat:=4611686018427387904
def rdp:Nat->Nat->Nat->List Int->Int ⊕ (Nat×Nat)
 | 0,_,_,_=> .inl 1
 | _+1,_,_,[]=> .inl 2
 | k+1,i,acc,b::r=>if b < 128 then (if (i > 0/\b=0)\/acc+b.toNat % 128*128 ^ i > most then .inl 1 else .inr (acc+b.toNat % 128*128 ^ i,i+1)) else rdp k (i+1) (acc+b.toNat % 128*128 ^ i) r
def noS:ByteArray:=ByteArray.mk #[]
theorem nF (s:ByteArray): ∀ b∈sbs s,0<=b/\b < 256:=by
 intro b hb
 unfold sbs at hb
 obtain ⟨c,_,rfl⟩:=List.mem_map.1 hb
 have:=c.toNat_lt
 omega
theorem nG (s:ByteArray) (i:Nat) (h:i < (sbs s).length):pQ s (i:Int)=some (sbs s)[i]:=by
 unfold pQ
 rw [decide_eq_true (by omega),cond_true,Int.toNat_natCast]
 have h2:i < s.data.size:=by rw [aQ] at h; exact h
 rw [Array.getElem?_eq_getElem h2]
 simp only [sbs,Option.map_some,List.getElem_map,Array.getElem_toList]
theorem p2 (i:Nat):2 ^ (7*i)=128 ^ i:=by rw [Nat.pow_mul]
theorem pw8 {i:Nat} (h:i<=8):128 ^ i<=72057594037927936:=Nat.le_trans (Nat.pow_le_pow_right (by omega) h) (by decide)
theorem vb (i acc b:Nat) (hi:i<=8) (ha:acc < 128 ^ i) (hb:b < 256) :
  Go.bits .or .i64 (acc:Int) (IntKind.i64.wrap ((IntKind.i64.wrap (Go.bits .and .u8 (b:Int) 127))*2 ^ (min (IntKind.i64.wrap (7*(i:Int))).toNat 64)))=((acc+b % 128*128 ^ i:Nat):Int)/\acc+b % 128*128 ^ i < 128 ^ (i+1):=by
 have hP:=pw8 hi
 have h7:(IntKind.i64.wrap (7*(i:Int))).toNat=7*i:=by rw [w64 (by omega) (by omega)]; omega
 have hm:min (7*i) 64=7*i:=by omega
 have hp:(2:Int) ^ (7*i)=((128 ^ i:Nat):Int):=by rw [<- p2]; simp
 rw [h7,hm,hp,xx _ (by omega) (by omega)]
 have hlt:b % 128*128 ^ i<=127*128 ^ i:=Nat.mul_le_mul_right _ (by omega)
 have hP1:128 ^ (i+1)=128*128 ^ i:=by rw [Nat.pow_succ,Nat.mul_comm]
 have e1:IntKind.i64.wrap ((b:Int) % 128)=((b % 128:Nat):Int):=by rw [w64 (by omega) (by omega)]; omega
 have e2:((b % 128:Nat):Int)*((128 ^ i:Nat):Int)=((b % 128*128 ^ i:Nat):Int):=by simp
 rw [e1,e2]
 generalize hw:b % 128*128 ^ i=w at hlt
 rw [w64 (by omega) (by omega),or_comm]
 have hmod:(w:Int) % 2 ^ (7*i)=0:=by
  rw [hp,<- hw]
  rw [<- Int.natCast_emod,Nat.mul_mod_left]
  rfl
 have:=bits_join .i64 63 (by decide) (λn h0 h1=>w64 (by omega) (by omega)) (7*i) (w:Int) (acc:Int) (by omega) hmod (by omega) (by omega) (by rw [hp]; omega) (by omega)
 rw [this]
 constructor
 ·omega
 ·omega
def yP (s:ByteArray):Int ⊕ (Nat×Nat)->Int×aE
 | .inl e=>(0,⟨noS,e⟩)
 | .inr (v,j)=>(v,⟨fR s j s.size,0⟩)
theorem lk (s:ByteArray) (e:Int) (h:e≠0):aW ⟨s,0⟩ e=some ⟨noS,e⟩:=by
 unfold aW
 have:(e != 0)=true:=by simpa using h
 simp [this,noS]
theorem oB (s:ByteArray) (e f:Int) (h:e≠0):aW ⟨s,e⟩ f=some ⟨s,e⟩:=by
 unfold aW
 have:(e == 0)=false:=by simpa using h
 simp [this]
theorem yQ (s:ByteArray) (hs:s.size<=1000000):aV ⟨s,0⟩=some (yP s (rdp 9 0 0 (sbs s))):=by
 unfold aV
 have hl:(sbs s).length=s.size:=aQ s
 refine Eq.trans ?_ (congrArg (λl=>some (yP s (rdp 9 0 0 l))) (List.drop_zero (l:=sbs s)))
 have key: ∀ (k i acc:Nat),i+k=9->acc < 128 ^ i->i<=(sbs s).length->Option.bind (iter (σ:=Int×Int) (ρ:=Unit ⊕ (Int×aE)) (λa=>(bif (decide (a.1 < (cA ((⟨s,0⟩:aE).s.size:Int) 9))) then (Option.bind (pQ (⟨s,0⟩:aE).s a.1) λb213=>(Option.bind (chk (shk (IntKind.i64.wrap (7*a.1)))) λ_=>(bif (decide (b213>=128)) then some (.inl ((IntKind.i64.wrap (a.1+1)),(Go.bits .or .i64 a.2 (IntKind.i64.wrap ((IntKind.i64.wrap (Go.bits .and .u8 b213 127))*2 ^ (min (IntKind.i64.wrap (7*a.1)).toNat 64)))))) else (Option.bind ((bif (decide (a.1 > 0)) then (bif (b213 == 0) then some true else some (decide ((Go.bits .or .i64 a.2 (IntKind.i64.wrap ((IntKind.i64.wrap (Go.bits .and .u8 b213 127))*2 ^ (min (IntKind.i64.wrap (7*a.1)).toNat 64)))) > 4611686018427387904))) else some (decide ((Go.bits .or .i64 a.2 (IntKind.i64.wrap ((IntKind.i64.wrap (Go.bits .and .u8 b213 127))*2 ^ (min (IntKind.i64.wrap (7*a.1)).toNat 64)))) > 4611686018427387904))):Option Bool) λc=>(bif c then (Option.bind (aW (⟨s,0⟩:aE) 1) λd=>(eT (some (0,d)))) else (Option.bind (chk (fg (IntKind.i64.wrap (a.1+1)) ((⟨s,0⟩:aE).s.size:Int) (⟨s,0⟩:aE).s.size)) λ_=>(eT (some ((Go.bits .or .i64 a.2 (IntKind.i64.wrap ((IntKind.i64.wrap (Go.bits .and .u8 b213 127))*2 ^ (min (IntKind.i64.wrap (7*a.1)).toNat 64)))),(aE.mk (fR (⟨s,0⟩:aE).s (IntKind.i64.wrap (a.1+1)) ((⟨s,0⟩:aE).s.size:Int)) (⟨s,0⟩:aE).e)))))))))) else some (.inr (.inl ())))) ((i:Int),(acc:Int))) (λ | .inl e176=>(Option.bind ((bif (decide (((⟨s,0⟩:aE).s.size:Int)>=9)) then (Option.bind (aW (⟨s,0⟩:aE) 1) λf=>some f) else some (⟨s,0⟩:aE)):Option aE) λg=>(Option.bind (aW g 2) λj=>some (0,j))) | .inr w=>some w)=some (yP s (rdp k i acc ((sbs s).drop i))):=by
  intro k
  induction k with
  | zero =>
   intro i acc hi ha hil
   rw [bB (r:= .inl ())]
   ·rw [aA]
    dsimp only
    rw [decide_eq_true (by omega),cond_true,lk _ _ (by decide),aA,aA,oB _ _ _ (by decide),aA]
    rfl
   ·dsimp only
    rw [lE,decide_eq_false (by omega),cond_false]
  | succ k ih =>
   intro i acc hi ha hil
   by_cases hlt:i < (sbs s).length
   ·obtain ⟨hb0,hb1⟩:=nF s _ (List.getElem_mem hlt)
    have hx:=nG s i hlt
    rw [List.drop_eq_getElem_cons hlt]
    generalize (sbs s)[i]=b at hb0 hb1 hx
    obtain ⟨B,rfl⟩:=Int.eq_ofNat_of_zero_le hb0
    obtain ⟨hor,hbd⟩:=vb i acc B (by omega) ha (by omega)
    have hshk:chk (shk (IntKind.i64.wrap (7*(i:Int))))=some ():=by
     rw [w64 (by omega) (by omega)]
     exact ib (by omega)
    unfold rdp
    rw [Int.toNat_natCast]
    by_cases hbig:(B:Int)>=128
    ·rw [bS (s':=(((i+1:Nat):Int),((acc+B % 128*128 ^ i:Nat):Int)))]
     ·rw [ih (i+1) (acc+B % 128*128 ^ i) (by omega) hbd (by omega),if_neg (by omega)]
     ·dsimp only
      rw [lE,decide_eq_true (by omega),cond_true,hx,aA,hshk,aA,decide_eq_true hbig,cond_true,hor,w64 (by omega) (by omega)]
      rfl
    ·rw [if_pos (by omega)]
     have hc:((bif (decide ((i:Int) > 0)) then (bif ((B:Int) == 0) then some true else some (decide (((acc+B % 128*128 ^ i:Nat):Int) > 4611686018427387904))) else some (decide (((acc+B % 128*128 ^ i:Nat):Int) > 4611686018427387904))):Option Bool)=some (decide ((i > 0/\(B:Int)=0)\/acc+B % 128*128 ^ i > most)):=by
      have hd: ∀ v:Nat,decide ((v:Int) > 4611686018427387904)=decide (v > most):=λv=>by
       unfold most
       congr 1
       apply propext
       omega
      rw [hd]
      by_cases c1:i > 0
      ·have c1':(i:Int) > 0:=by omega
       rw [decide_eq_true c1',cond_true]
       by_cases c2:(B:Int)=0
       ·have:((B:Int) == 0)=true:=by simpa using c2
        rw [this,cond_true,decide_eq_true (.inl ⟨c1,c2⟩)]
       ·have:((B:Int) == 0)=false:=by simpa using c2
        rw [this,cond_false]
        congr 1
        by_cases c3:acc+B % 128*128 ^ i > most
        ·rw [decide_eq_true c3,decide_eq_true (.inr c3)]
        ·rw [decide_eq_false c3,decide_eq_false (by rintro (h | h); exact c2 h.2; exact c3 h)]
      ·rw [decide_eq_false (by omega),cond_false]
       congr 1
       by_cases c3:acc+B % 128*128 ^ i > most
       ·rw [decide_eq_true c3,decide_eq_true (.inr c3)]
       ·rw [decide_eq_false c3,decide_eq_false (by rintro (h | h); exact c1 h.1; exact c3 h)]
     by_cases hf:(i > 0/\(B:Int)=0)\/acc+B % 128*128 ^ i > most
     ·rw [if_pos hf,bB (r:= .inr (0,⟨noS,1⟩))]
      ·rfl
      ·dsimp only
       rw [lE,decide_eq_true (by omega),cond_true,hx,aA,hshk,aA,decide_eq_false hbig,cond_false,hor,hc,aA,decide_eq_true hf,cond_true,lk _ _ (by decide),aA]
       rfl
     ·rw [if_neg hf,bB (r:= .inr (((acc+B % 128*128 ^ i:Nat):Int),⟨fR s ((i+1:Nat):Int) s.size,0⟩))]
      ·rfl
      ·dsimp only
       rw [lE,decide_eq_true (by omega),cond_true,hx,aA,hshk,aA,decide_eq_false hbig,cond_false,hor,hc,aA,decide_eq_false hf,cond_false,w64 (by omega) (by omega),dG (by omega) (by omega) (by omega),aA]
       rfl
   ·have hd:(sbs s).drop i=[]:=List.drop_eq_nil_of_le (by omega)
    rw [hd,bB (r:= .inl ())]
    ·rw [aA]
     dsimp only
     rw [decide_eq_false (by omega),cond_false,aA,lk _ _ (by decide),aA]
     rfl
    ·dsimp only
     rw [lE,decide_eq_false (by omega),cond_false]
 exact key 9 0 0 (by omega) (by omega) (by omega)
def AD (s:ByteArray):Int ⊕ (Nat×Nat)->aX×Int
 | .inl e=>(⟨noS,e⟩,0)
 | .inr (v,j)=>(⟨fR s j s.size,0⟩,v)
theorem xy (s:ByteArray) (hs:s.size<=1000000):bC ⟨s,0⟩=some (AD s (rdp 9 0 0 (sbs s))):=by
 unfold bC
 have hl:(sbs s).length=s.size:=aQ s
 have e0:((0:Int) != 0)=false:=rfl
 dsimp only
 rw [e0,cond_false]
 refine Eq.trans ?_ (congrArg (λl=>some (AD s (rdp 9 0 0 l))) (List.drop_zero (l:=sbs s)))
 have key: ∀ (k i acc:Nat) (f:Int×Int×Int->Option ((Int×Int×Int) ⊕ (Unit ⊕ (aX×Int)))),f=(λ(s258:Int×Int×Int)=>(bif (decide (s258.2.2 < 9)) then (Option.bind ((bif (s258.2.2 == (s.size:Int)) then (kz (eT (some ((aX.mk (ByteArray.mk #[]) 2),0)))) else (Option.bind (pQ s s258.2.2) λb475=>(bif (decide ((IntKind.i64.wrap b475) < 128)) then (Option.bind ((bif (decide (s258.2.2 > 0)) then (bif ((IntKind.i64.wrap b475) == 0) then some true else some (decide ((IntKind.i64.wrap (s258.1+(IntKind.i64.wrap (((IntKind.i64.wrap b475).tmod 128)*s258.2.1)))) > 4611686018427387904))) else some (decide ((IntKind.i64.wrap (s258.1+(IntKind.i64.wrap (((IntKind.i64.wrap b475).tmod 128)*s258.2.1)))) > 4611686018427387904))):Option Bool) λa=>(bif a then (kz (eT (some ((aX.mk (ByteArray.mk #[]) 1),0)))) else (Option.bind (chk (fg (IntKind.i64.wrap (s258.2.2+1)) (s.size:Int) s.size)) λ_=>(kz (eT (some ((aX.mk (fR s (IntKind.i64.wrap (s258.2.2+1)) (s.size:Int)) 0),(IntKind.i64.wrap (s258.1+(IntKind.i64.wrap (((IntKind.i64.wrap b475).tmod 128)*s258.2.1))))))))))) else (bif (decide (s258.2.2 < 8)) then some (.inl ((IntKind.i64.wrap (s258.1+(IntKind.i64.wrap (((IntKind.i64.wrap b475).tmod 128)*s258.2.1)))),(IntKind.i64.wrap (s258.2.1*128)))) else some (.inl ((IntKind.i64.wrap (s258.1+(IntKind.i64.wrap (((IntKind.i64.wrap b475).tmod 128)*s258.2.1)))),s258.2.1)))))):Option ((Int×Int) ⊕ ((Int×Int×Int) ⊕ (Unit ⊕ (aX×Int))))) λ | .inl e465=>some (.inl (e465.1,e465.2,(IntKind.i64.wrap (s258.2.2+1)))) | .inr w=>some w) else some (.inr (.inl ()))))->i+k=9->acc < 128 ^ i->i<=(sbs s).length -> ∀ M:Nat,(i<=8->M=128 ^ i)->Option.bind (iter f ((acc:Int),(M:Int),(i:Int))) (λ | .inl e381=>some ((aX.mk (ByteArray.mk #[]) 1),0) | .inr w=>some w)=some (AD s (rdp k i acc ((sbs s).drop i))):=by
  intro k
  induction k with
  | zero =>
   intro i acc f hf hi ha hil M hM
   rw [bB (r:= .inl ())]
   ·rfl
   ·subst hf
    dsimp only
    rw [decide_eq_false (by omega),cond_false]
  | succ k ih =>
   intro i acc f hf hi ha hil M hM
   by_cases hlt:i < (sbs s).length
   ·obtain ⟨hb0,hb1⟩:=nF s _ (List.getElem_mem hlt)
    have hx:=nG s i hlt
    rw [List.drop_eq_getElem_cons hlt]
    generalize (sbs s)[i]=b at hb0 hb1 hx
    obtain ⟨B,rfl⟩:=Int.eq_ofNat_of_zero_le hb0
    obtain ⟨_,hbd⟩:=vb i acc B (by omega) ha (by omega)
    have hP:=pw8 (i:=i) (by omega)
    obtain rfl:=hM (by omega)
    have hlt7:B % 128*128 ^ i<=127*128 ^ i:=Nat.mul_le_mul_right _ (by omega)
    have hw:IntKind.i64.wrap (B:Int)=(B:Int):=w64 (by omega) (by omega)
    have hm:(B:Int).tmod 128=((B % 128:Nat):Int):=by rw [Int.tmod_eq_emod_of_nonneg (by omega)]; omega
    have hv:IntKind.i64.wrap ((acc:Int)+IntKind.i64.wrap (((B % 128:Nat):Int)*((128 ^ i:Nat):Int)))=((acc+B % 128*128 ^ i:Nat):Int):=by
     have e2:((B % 128:Nat):Int)*((128 ^ i:Nat):Int)=((B % 128*128 ^ i:Nat):Int):=by simp
     rw [e2]
     generalize B % 128*128 ^ i=w at hlt7
     rw [w64 (x:=(w:Int)) (by omega) (by omega),w64 (by omega) (by omega)]
     omega
    have hne:((i:Int) == (s.size:Int))=false:=by simp; omega
    unfold rdp
    rw [Int.toNat_natCast]
    by_cases hbig:(B:Int) < 128
    ·rw [if_pos hbig]
     have hc:((bif (decide ((i:Int) > 0)) then (bif ((B:Int) == 0) then some true else some (decide (((acc+B % 128*128 ^ i:Nat):Int) > 4611686018427387904))) else some (decide (((acc+B % 128*128 ^ i:Nat):Int) > 4611686018427387904))):Option Bool)=some (decide ((i > 0/\(B:Int)=0)\/acc+B % 128*128 ^ i > most)):=by
      have hd: ∀ v:Nat,decide ((v:Int) > 4611686018427387904)=decide (v > most):=λv=>by
       unfold most
       congr 1
       apply propext
       omega
      rw [hd]
      by_cases c1:i > 0
      ·have c1':(i:Int) > 0:=by omega
       rw [decide_eq_true c1',cond_true]
       by_cases c2:(B:Int)=0
       ·have:((B:Int) == 0)=true:=by simpa using c2
        rw [this,cond_true,decide_eq_true (.inl ⟨c1,c2⟩)]
       ·have:((B:Int) == 0)=false:=by simpa using c2
        rw [this,cond_false]
        congr 1
        by_cases c3:acc+B % 128*128 ^ i > most
        ·rw [decide_eq_true c3,decide_eq_true (.inr c3)]
        ·rw [decide_eq_false c3,decide_eq_false (by rintro (h | h); exact c2 h.2; exact c3 h)]
      ·rw [decide_eq_false (by omega),cond_false]
       congr 1
       by_cases c3:acc+B % 128*128 ^ i > most
       ·rw [decide_eq_true c3,decide_eq_true (.inr c3)]
       ·rw [decide_eq_false c3,decide_eq_false (by rintro (h | h); exact c1 h.1; exact c3 h)]
     by_cases hfm:(i > 0/\(B:Int)=0)\/acc+B % 128*128 ^ i > most
     ·rw [if_pos hfm,bB (r:= .inr (⟨noS,1⟩,0))]
      ·rfl
      ·subst hf
       dsimp only
       rw [decide_eq_true (by omega),cond_true,hne,cond_false,hx,aA,hw,decide_eq_true hbig,cond_true,hm,hv,hc,aA,decide_eq_true hfm,cond_true]
       rfl
     ·rw [if_neg hfm,bB (r:= .inr (⟨fR s ((i+1:Nat):Int) s.size,0⟩,((acc+B % 128*128 ^ i:Nat):Int)))]
      ·rfl
      ·subst hf
       dsimp only
       rw [decide_eq_true (by omega),cond_true,hne,cond_false,hx,aA,hw,decide_eq_true hbig,cond_true,hm,hv,hc,aA,decide_eq_false hfm,cond_false,w64 (x:=(i:Int)+1) (by omega) (by omega),dG (by omega) (by omega) (by omega),aA]
       rfl
    ·rw [if_neg hbig]
     by_cases h8:i < 8
     ·rw [bS (s':=(((acc+B % 128*128 ^ i:Nat):Int),((128 ^ (i+1):Nat):Int),((i+1:Nat):Int)))]
      ·exact ih (i+1) _ f hf (by omega) hbd (by omega) _ (λ_=>rfl)
      ·subst hf
       dsimp only
       have hP1:(128:Nat) ^ (i+1)=128 ^ i*128:=Nat.pow_succ ..
       have hP7:128 ^ i<=562949953421312:=Nat.le_trans (Nat.pow_le_pow_right (by omega) (by omega:i<=7)) (by decide)
       have hmm:IntKind.i64.wrap (((128 ^ i:Nat):Int)*128)=((128 ^ (i+1):Nat):Int):=by
        rw [hP1,w64 (by omega) (by omega)]
        omega
       rw [decide_eq_true (by omega),cond_true,hne,cond_false,hx,aA,hw,decide_eq_false hbig,cond_false,hm,hv,decide_eq_true (by omega),cond_true,aA]
       dsimp only
       rw [hmm,w64 (x:=(i:Int)+1) (by omega) (by omega)]
       rfl
     ·rw [bS (s':=(((acc+B % 128*128 ^ i:Nat):Int),((128 ^ i:Nat):Int),((i+1:Nat):Int)))]
      ·exact ih (i+1) _ f hf (by omega) hbd (by omega) _ (λh=>by omega)
      ·subst hf
       dsimp only
       rw [decide_eq_true (by omega),cond_true,hne,cond_false,hx,aA,hw,decide_eq_false hbig,cond_false,hm,hv,decide_eq_false (by omega),cond_false,aA]
       dsimp only
       rw [w64 (x:=(i:Int)+1) (by omega) (by omega)]
       rfl
   ·have hd:(sbs s).drop i=[]:=List.drop_eq_nil_of_le (by omega)
    rw [hd,bB (r:= .inr (⟨noS,2⟩,0))]
    ·rfl
    ·subst hf
     dsimp only
     have hne:((i:Int) == (s.size:Int))=true:=by simp; omega
     rw [decide_eq_true (by omega),cond_true,hne,cond_true]
     rfl
 exact key 9 0 0 _ rfl (by omega) (by omega) (by omega) 1 (λ_=>rfl)
theorem nH (a b:ByteArray):(a.toList == b.toList)=decide (a=b):=by
 rw [ByteArray.toList_eq,ByteArray.toList_eq]
 by_cases h:a=b
 ·subst h
  rw [decide_eq_true rfl,beq_self_eq_true]
 ·rw [decide_eq_false h]
  have: ¬ a.data.toList=b.data.toList:=λe=>h (ByteArray.ext (Array.ext' e))
  simpa using this
theorem gP (s:ByteArray) (lo hi:Nat):sbs (fR s lo hi)=((sbs s).take hi).drop lo:=by
 unfold sbs fR
 rw [ByteArray.data_extract,Int.toNat_natCast,Int.toNat_natCast]
 rw [Array.toList_extract]
 rw [List.extract_eq_take_drop,List.map_take,List.map_drop,List.drop_take]
theorem mb (s:ByteArray):cZ (sbs s)=s:=by
 rw [kH]
 unfold sbs
 rw [List.map_map]
 have:((λn:Int=>UInt8.ofNat n.toNat) ∘ λb:UInt8=>(b.toNat:Int))=id:=by
  funext b
  simp
 rw [this,List.map_id]
theorem jb (l:List Int) (h: ∀ b∈l,0<=b/\b < 256):sbs (cZ l)=l:=by
 rw [kH]
 unfold sbs
 simp only [List.map_map]
 induction l with
 | nil=>rfl
 | cons a l ih =>
  have ha:=h a (List.mem_cons_self ..)
  rw [List.map_cons,ih λb hb=>h b (List.mem_cons_of_mem _ hb)]
  congr 1
  show ((UInt8.ofNat a.toNat).toNat:Int)=a
  rw [UInt8.toNat_ofNat']
  omega
theorem mD {a b:ByteArray} (h:sbs a=sbs b):a=b:=by rw [<- mb a,h,mb]
theorem uh (a b:ByteArray):sbs (a++b)=sbs a++sbs b:=by
 unfold sbs
 rw [ByteArray.data_append]
 simp
def VI (i:aE):Prop:=i.s.size<=1000000/\(i.e=0\/i.s=noS)
def asR (i:aE):aX:=⟨i.s,i.e⟩
def rdS (i:aE):Int×aE:=if i.e=0 then yP i.s (rdp 9 0 0 (sbs i.s)) else (0,i)
theorem gV (i:aE) (h:VI i):aV i=some (rdS i):=by
 obtain ⟨s,e⟩:=i
 obtain ⟨h1,h2⟩:=h
 unfold rdS
 by_cases he:e=0
 ·subst he
  rw [if_pos rfl]
  exact yQ s h1
 ·rw [if_neg he]
  obtain rfl:s=noS:=h2.resolve_left he
  unfold aV
  rw [bB (r:= .inl ())]
  ·rw [aA]
   have hz:(noS.size:Int)=0:=rfl
   dsimp only
   rw [hz,decide_eq_false (by omega),cond_false,aA,oB _ _ _ he,aA]
  ·dsimp only
   have hz:(noS.size:Int)=0:=rfl
   rw [lE,hz,decide_eq_false (by omega),cond_false]
theorem gj (i:aE) (h:VI i):bC (asR i)=some (asR (rdS i).2,(rdS i).1):=by
 obtain ⟨s,e⟩:=i
 obtain ⟨h1,h2⟩:=h
 unfold rdS
 by_cases he:e=0
 ·subst he
  rw [if_pos rfl]
  have:=xy s h1
  refine this.trans ?_
  cases rdp 9 0 0 (sbs s) <;> rfl
 ·rw [if_neg he]
  unfold bC asR
  have:(e != 0)=true:=by simpa using he
  dsimp only
  rw [this,cond_true]
theorem xz: ∀ (k i acc:Nat) (l:List Int) (v j:Nat),(∀ b∈l,0<=b/\b < 256)->rdp k i acc l = .inr (v,j) -> ∃ w,v=acc+w*128 ^ i/\v<=most/\i < j/\j<=i+l.length/\fE w=l.take (j - i)/\(i > 0->w > 0):=by
 intro k
 induction k with
 | zero=>intro i acc l v j hb h; cases h
 | succ k ih =>
  intro i acc l v j hb h
  cases l with
  | nil=>cases h
  | cons b r =>
   unfold rdp at h
   have hb0:=hb b (List.mem_cons_self ..)
   obtain ⟨B,rfl⟩:=Int.eq_ofNat_of_zero_le hb0.1
   rw [Int.toNat_natCast] at h
   by_cases hbig:(B:Int) < 128
   ·rw [if_pos hbig] at h
    by_cases hf:(i > 0/\(B:Int)=0)\/acc+B % 128*128 ^ i > most
    ·rw [if_pos hf] at h
     cases h
    ·rw [if_neg hf] at h
     injection h with h
     injection h with hv hj
     have hm:B % 128=B:=Nat.mod_eq_of_lt (by omega)
     rw [hm] at hv hf
     refine ⟨B,hv.symm,?_,by omega,by simp; omega,?_,?_⟩
     ·rw [<- hv]
      exact Nat.le_of_not_lt λhh=>hf (.inr hh)
     ·rw [dT (by omega),<- hj]
      have:i+1 - i=1:=by omega
      rw [this]
      rfl
     ·intro hi
      exact Nat.pos_of_ne_zero λh0=>hf (.inl ⟨hi,by omega⟩)
   ·rw [if_neg hbig] at h
    obtain ⟨w,h1,h2,h3,h4,h5,h6⟩:=ih (i+1) _ r v j (λc hc=>hb c (List.mem_cons_of_mem _ hc)) h
    have hw:=h6 (by omega)
    refine ⟨B % 128+128*w,?_,h2,by omega,by simp; omega,?_,λ_=>by omega⟩
    ·rw [h1,Nat.pow_succ,Nat.add_mul,Nat.add_assoc]
     congr 2
     rw [Nat.mul_comm 128 w,Nat.mul_assoc,Nat.mul_comm 128]
    ·rw [jL (by omega)]
     have e1:(B % 128+128*w) / 128=w:=by omega
     have e2:128+(B % 128+128*w) % 128=B:=by omega
     have e3:j - i=(j - (i+1))+1:=by omega
     rw [e1,e2,h5,e3,List.take_succ_cons]
theorem yR: ∀ (k i acc w:Nat) (R:List Int),w < 128 ^ (k+1)->k+1+i<=9->(i > 0->w > 0)->acc+w*128 ^ i<=most->rdp (k+1) i acc (fE w++R) = .inr (acc+w*128 ^ i,i+(fE w).length):=by
 intro k
 induction k with
 | zero =>
  intro i acc w R hw hk hi hm
  have hs:w < 128:=by simpa using hw
  rw [dT hs]
  show rdp (0+1) i acc ((w:Int)::R)=_
  unfold rdp
  have hmod:w % 128=w:=Nat.mod_eq_of_lt hs
  rw [if_pos (by omega),Int.toNat_natCast,hmod,if_neg]
  ·simp
  ·rintro (⟨h1,h2⟩ | h)
   ·have:=hi h1
    omega
   ·omega
 | succ k ih =>
  intro i acc w R hw hk hi hm
  by_cases hs:w < 128
  ·rw [dT hs]
   show rdp (k+1+1) i acc ((w:Int)::R)=_
   unfold rdp
   have hmod:w % 128=w:=Nat.mod_eq_of_lt hs
   rw [if_pos (by omega),Int.toNat_natCast,hmod,if_neg]
   ·simp
   ·rintro (⟨h1,h2⟩ | h)
    ·have:=hi h1
     omega
    ·omega
  ·rw [jL hs]
   have hq:w / 128 < 128 ^ (k+1):=by
    rw [Nat.pow_succ] at hw
    exact Nat.div_lt_of_lt_mul (by rw [Nat.mul_comm]; exact hw)
   have he:(128+w % 128) % 128=w % 128:=by omega
   have hsum:acc+w % 128*128 ^ i+w / 128*128 ^ (i+1)=acc+w*128 ^ i:=by
    rw [Nat.pow_succ,Nat.add_assoc]
    congr 1
    rw [Nat.mul_comm (128 ^ i) 128,<- Nat.mul_assoc,<- Nat.add_mul]
    congr 1
    omega
   show rdp (k+1+1) i acc (((128+w % 128:Nat):Int)::(fE (w / 128)++R))=_
   rw [rdp,if_neg (by omega),Int.toNat_natCast,he,ih (i+1) _ (w / 128) R hq (by omega) (λ_=>by omega) (by rw [hsum]; exact hm),hsum]
   simp only [List.length_cons]
   congr 2
   omega
theorem eC {i:aE} (h:VI i):VI (rdS i).2:=by
 obtain ⟨s,e⟩:=i
 obtain ⟨h1,h2⟩:=h
 unfold rdS
 by_cases he:e=0
 ·rw [if_pos he]
  cases hr:rdp 9 0 0 (sbs (⟨s,e⟩:aE).s) with
  | inl f=>exact ⟨by show noS.size<=1000000; decide,.inr rfl⟩
  | inr p =>
   refine ⟨?_,.inl rfl⟩
   show (fR s p.2 s.size).size<=1000000
   rw [<- aQ,gP,List.length_drop,List.length_take,aQ]
   simp only at h1
   omega
 ·rw [if_neg he]
  exact ⟨h1,h2⟩
theorem m4 {i:aE} (h:(rdS i).2.e≠0):(rdS i).1=0:=by
 unfold rdS at *
 split at h
 ·rename_i he
  rw [if_pos he]
  cases hr:rdp 9 0 0 (sbs i.s) with
  | inl f=>rfl
  | inr p =>
   rw [hr] at h
   exact absurd rfl h
 ·rename_i he
  rw [if_neg he]
theorem qT {i:aE} (h:(rdS i).2.e=0) (hV:VI i):i.e=0 /\ ∃ w:Nat,(rdS i).1=w/\w<=most/\sbs i.s=fE w++sbs (rdS i).2.s:=by
 unfold rdS at *
 by_cases he:i.e=0
 ·rw [if_pos he] at h ⊢
  refine ⟨he,?_⟩
  cases hr:rdp 9 0 0 (sbs i.s) with
  | inl f =>
   rw [hr] at h
   -- an error is never nought
   exfalso
   have key: ∀ (k i acc:Nat) (l:List Int) (e:Int),rdp k i acc l = .inl e->e≠0:=by
    intro k
    induction k with
    | zero=>intro i acc l e hh; injection hh with hh; omega
    | succ k ih =>
     intro i acc l e hh
     cases l with
     | nil=>injection hh with hh; omega
     | cons b r =>
      unfold rdp at hh
      split at hh
      ·split at hh
       ·injection hh with hh
        omega
       ·cases hh
      ·exact ih _ _ _ _ hh
   exact key _ _ _ _ _ hr h
  | inr p =>
   obtain ⟨v,j⟩:=p
   obtain ⟨w,h1,h2,h3,h4,h5,h6⟩:=xz 9 0 0 (sbs i.s) v j (nF i.s) hr
   refine ⟨v,rfl,h2,?_⟩
   have hvw:v=w:=by rw [h1]; simp
   show sbs i.s=fE v++sbs (fR i.s j i.s.size)
   rw [hvw,h5,gP,Nat.sub_zero]
   have:(sbs i.s).take i.s.size=sbs i.s:=List.take_of_length_le (by rw [aQ]; exact Nat.le_refl _)
   rw [this,List.take_append_drop]
 ·rw [if_neg he] at h
  exact absurd h he
theorem iJ {i:aE} (hV:VI i):0<=(rdS i).1/\(rdS i).1<=4611686018427387904:=by
 by_cases h:(rdS i).2.e=0
 ·obtain ⟨_,w,h1,h2,_⟩:=qT h hV
  rw [h1]
  unfold most at h2
  omega
 ·rw [m4 h]
  omega
theorem AE (s:ByteArray) (w:Nat) (R:List Int) (hw:w<=most) (hs:sbs s=fE w++R):rdS ⟨s,0⟩=((w:Int),⟨cZ R,0⟩):=by
 unfold rdS
 rw [if_pos rfl]
 have hl:=nE 8 w (by unfold most at hw; omega)
 have h:=yR 8 0 0 w R (by unfold most at hw; omega) (by omega) (λh=>by omega) (by simpa using hw)
 dsimp only
 rw [hs,h]
 show (((0+w*128 ^ 0:Nat):Int),(⟨fR s ((0+(fE w).length:Nat):Int) s.size,0⟩:aE))=_
 have e1:0+w*128 ^ 0=w:=by simp
 have e2:fR s ((0+(fE w).length:Nat):Int) s.size=cZ R:=by
  rw [<- mb (fR s ((0+(fE w).length:Nat):Int) s.size),gP]
  have:(sbs s).take s.size=sbs s:=List.take_of_length_le (by rw [aQ]; exact Nat.le_refl _)
  rw [this,hs,Nat.zero_add,List.drop_left]
 rw [e1,e2]
def iB:aE:=⟨noS,1⟩
theorem kq:VI iB:=⟨by show noS.size<=1000000; decide,.inr rfl⟩
theorem nI {i:aE} (h:VI i):aW i 1=some (if i.e=0 then iB else i):=by
 obtain ⟨s,e⟩:=i
 by_cases he:e=0
 ·subst he
  rw [if_pos rfl]
  exact lk s 1 (by decide)
 ·rw [if_neg he]
  exact oB s e 1 he
def bG (i:aE) (m:Int):Int×aE:=if (rdS i).1 > m then (0,iB) else rdS i
theorem eE {i:aE} (m:Int) (h:VI i):VI (bG i m).2:=by
 unfold bG
 split
 ·exact kq
 ·exact eC h
theorem fq {i:aE} {m:Int} (h:VI i) (hm:0<=m):0<=(bG i m).1/\(bG i m).1<=m:=by
 unfold bG
 split
 ·exact ⟨Int.le_refl _,hm⟩
 ·have:=iJ h
  omega
theorem iC {i:aE} {m:Int} (h:(bG i m).2.e=0) (hV:VI i):i.e=0 /\ ∃ w:Nat,(bG i m).1=w/\(w:Int)<=m/\w<=most/\sbs i.s=fE w++sbs (bG i m).2.s:=by
 unfold bG at *
 split at h
 ·exact absurd h (by decide)
 ·rename_i hh
  rw [if_neg hh]
  obtain ⟨h1,w,h2,h3,h4⟩:=qT h hV
  exact ⟨h1,w,h2,by omega,h3,h4⟩
theorem m5 {i:aE} (hV:VI i) {m:Int} (hm:0<=m) (h:(rdS i).1 > m):(rdS i).2.e=0:=by
 by_cases he:(rdS i).2.e=0
 ·exact he
 ·have:=m4 he
  omega
theorem lN {i:aE} (h:VI i) {m:Int} (hm:0<=m):cD (asR i) m=some (asR (bG i m).2,(bG i m).1):=by
 unfold cD bG
 rw [gj i h,aA]
 dsimp only
 by_cases hb:(rdS i).1 > m
 ·have he:=m5 h hm hb
  have e1:((asR (rdS i).2).e == 0)=true:=by simpa [asR] using he
  rw [e1,cond_true,decide_eq_true hb,aA,cond_true,if_pos hb]
  rfl
 ·rw [if_neg hb,decide_eq_false hb]
  cases ((asR (rdS i).2).e == 0) <;> rfl
theorem size_eq {i:aE} (h:VI i):oV i=some (bG i 1000):=by
 unfold oV bG
 rw [gV i h,aA]
 by_cases hb:(rdS i).1 > 1000
 ·have he:=m5 h (by omega) hb
  rw [decide_eq_true hb,cond_true,nI (eC h),if_pos he,aA,if_pos hb]
 ·rw [decide_eq_false hb,cond_false,if_neg hb]
theorem rG {i:aE} (h:VI i) {m:Int} (hm:0<=m):eI i m=some (bG i m):=by
 unfold eI bG
 rw [gV i h,aA]
 by_cases hb:(rdS i).1 > m
 ·have he:=m5 h hm hb
  rw [decide_eq_true hb,cond_true,nI (eC h),if_pos he,aA,if_pos hb]
 ·rw [decide_eq_false hb,cond_false,if_neg hb]
def ll (i:aE) (left:Int):aE:=if (bG i left).2.e=0/\(bG i left).1=0 then iB else (bG i left).2
theorem kI {i:aE} (left:Int) (h:VI i):VI (ll i left):=by
 unfold ll
 split
 ·exact kq
 ·exact eE left h
def mc (i:aE) (left:Int):Int×aE:=bG (ll i left) 1114111
def mL (i:aE) (left:Int):Int×aE:=bG (mc i left).2 647
def iD (i:aE) (left:Int):Int×aE:=bG (mL i left).2 3
theorem lO {i:aE} (left:Int) (h:VI i):VI (mc i left).2:=eE _ (kI left h)
theorem lP {i:aE} (left:Int) (h:VI i):VI (mL i left).2:=eE _ (lO left h)
theorem jC {i:aE} (left:Int) (h:VI i):VI (iD i left).2:=eE _ (lP left h)
def fy (i:aE) (left:Int):aI:=⟨(mc i left).1,(mL i left).1,(iD i left).1⟩
theorem pW (i:aE) (h:VI i) (m:Int) (hm:0<=m): ∃ v:Int,aV i=some (v,(rdS i).2)/\(if v > m then (if (rdS i).2.e=0 then iB else (rdS i).2) else (rdS i).2)=(bG i m).2/\((bG i m).2.e=0->v=(bG i m).1):=by
 refine ⟨(rdS i).1,gV i h,?_,?_⟩
 ·unfold bG
  by_cases hb:(rdS i).1 > m
  ·rw [if_pos hb,if_pos hb,if_pos (m5 h hm hb)]
  ·rw [if_neg hb,if_neg hb]
 ·unfold bG
  by_cases hb:(rdS i).1 > m
  ·rw [if_pos hb]
   intro hh
   exact absurd hh (by decide)
  ·rw [if_neg hb]
   exact λ_=>rfl
theorem nJ {i:aE} (h:i.e≠0) (m:Int) (hm:0<=m):(bG i m).2=i:=by
 unfold bG rdS
 rw [if_neg h]
 dsimp only
 rw [if_neg (by omega)]
theorem run_eq (i:aE) (left:Int) (h:VI i) (hl:0<=left):jr i left=some (if (iD i left).2.e=0 then ((bG i left).1,fy i left,true,(iD i left).2) else (0,⟨0,0,0⟩,false,(iD i left).2)):=by
 unfold jr
 rw [gV i h,aA]
 have hor:((bif ((rdS i).1 == 0) then some true else some (decide ((rdS i).1 > left))):Option Bool)=some (decide ((rdS i).1=0\/(rdS i).1 > left)):=by
  by_cases h0:(rdS i).1=0
  ·have:((rdS i).1 == 0)=true:=by simpa using h0
   rw [this,cond_true,decide_eq_true (.inl h0)]
  ·have:((rdS i).1 == 0)=false:=by simpa using h0
   rw [this,cond_false]
   by_cases h1:(rdS i).1 > left
   ·rw [decide_eq_true h1,decide_eq_true (.inr h1)]
   ·rw [decide_eq_false h1,decide_eq_false (by omega)]
 have hst:((bif decide ((rdS i).1=0\/(rdS i).1 > left) then (Option.bind (aW (rdS i).2 1) λb=>some b) else some (rdS i).2):Option aE)=some (ll i left):=by
  unfold ll bG
  by_cases hb:(rdS i).1 > left
  ·rw [decide_eq_true (.inr hb),cond_true,nI (eC h),if_pos (m5 h hl hb),aA,if_pos hb]
   rfl
  ·rw [if_neg hb]
   by_cases h0:(rdS i).1=0
   ·rw [decide_eq_true (.inl h0),cond_true,nI (eC h),aA]
    by_cases he:(rdS i).2.e=0
    ·rw [if_pos he,if_pos ⟨he,h0⟩]
    ·rw [if_neg he,if_neg (λhh=>he hh.1)]
   ·rw [decide_eq_false (by omega),cond_false,if_neg (λhh=>h0 hh.2)]
 rw [hor,aA,hst,aA]
 obtain ⟨v1,n1,f1,g1⟩:=pW (ll i left) (kI left h) 1114111 (by omega)
 obtain ⟨v2,n2,f2,g2⟩:=pW (mc i left).2 (lO left h) 647 (by omega)
 obtain ⟨v3,n3,f3,g3⟩:=pW (mL i left).2 (lP left h) 3 (by omega)
 have fl: ∀ (j:aE) (hj:VI j) (v m:Int) (a:iL) (out:aE),(if v > m then (if j.e=0 then iB else j) else j)=out->((bif (decide (v > m)) then (Option.bind (aW j 1) λc=>some (a,c)) else some (a,j)):Option (iL×aE))=some (a,out):=by
  intro j hj v m a out ho
  by_cases hb:v > m
  ·rw [if_pos hb] at ho
   rw [decide_eq_true hb,cond_true,nI hj,aA,ho]
  ·rw [if_neg hb] at ho
   rw [decide_eq_false hb,cond_false,ho]
 have ab: ∀ k:Int,0<=k->k < 3->chk (xb k 3)=some ():=λk h0 h1=>ib ⟨h0,h1⟩
 rw [bS (s':=((⟨v1,0,0⟩:iL),(mc i left).2,(1:Int)))]
 ·rw [bS (s':=((⟨v1,v2,0⟩:iL),(mL i left).2,(2:Int)))]
  ·rw [bS (s':=((⟨v1,v2,v3⟩:iL),(iD i left).2,(3:Int)))]
   ·rw [bB (r:=((⟨v1,v2,v3⟩:iL),(iD i left).2))]
    ·rw [aA]
     unfold cE
     rw [aA]
     dsimp only
     by_cases he:(iD i left).2.e=0
     ·have hb:((iD i left).2.e != 0)=false:=by simpa using he
      rw [hb,cond_false,if_pos he]
      have eB:(mL i left).2.e=0:=(iC (i:=(mL i left).2) (m:=3) he (lP left h)).1
      have eA:(mc i left).2.e=0:=(iC (i:=(mc i left).2) (m:=647) eB (lO left h)).1
      have e0:(ll i left).e=0:=(iC (i:=ll i left) (m:=1114111) eA (kI left h)).1
      have q1:v1=(mc i left).1:=g1 eA
      have q2:v2=(mL i left).1:=g2 eB
      have q3:v3=(iD i left).1:=g3 he
      have hr:=fq (i:=ll i left) (m:=1114111) (kI left h) (by omega)
      have hw:IntKind.i32.wrap v1=v1:=by
       rw [q1,IntKind.wrap_i32]
       unfold mc
       omega
      have hn:(rdS i).1=(bG i left).1:=by
       unfold ll at e0
       unfold bG at *
       split
       ·rename_i hb2
        rw [if_pos hb2] at e0
        split at e0
        ·exact absurd e0 (by decide)
        ·exact absurd e0 (by decide)
       ·rfl
      rw [hw,q1,q2,q3,hn]
      rfl
     ·have hb:((iD i left).2.e != 0)=true:=by simpa using he
      rw [hb,cond_true,if_neg he]
    ·rfl
   ·dsimp only
    rw [decide_eq_true (by omega),cond_true,show idx ([1114111,647,3]:List Int) (2:Int)=some 3 from rfl,aA,n3,aA,ab 2 (by omega) (by omega),aA,aA]
    dsimp only
    rw [show idx [sel 2 0 v3 v1,sel 2 1 v3 v2,sel 2 2 v3 0] (2:Int)=some v3 from rfl,aA,fl _ (eC (lP left h)) _ _ _ _ f3,aA]
    rfl
  ·dsimp only
   rw [decide_eq_true (by omega),cond_true,show idx ([1114111,647,3]:List Int) (1:Int)=some 647 from rfl,aA,n2,aA,ab 1 (by omega) (by omega),aA,aA]
   dsimp only
   rw [show idx [sel 1 0 v2 v1,sel 1 1 v2 0,sel 1 2 v2 0] (1:Int)=some v2 from rfl,aA,fl _ (eC (lO left h)) _ _ _ _ f2,aA]
   rfl
 ·dsimp only
  rw [decide_eq_true (by omega),cond_true,show idx ([1114111,647,3]:List Int) (0:Int)=some 1114111 from rfl,aA,n1,aA,ab 0 (by omega) (by omega),aA,aA]
  dsimp only
  rw [show idx [sel 0 0 v1 0,sel 0 1 v1 0,sel 0 2 v1 0] (0:Int)=some v1 from rfl,aA,fl _ (eC (kI left h)) _ _ _ _ f1,aA]
  rfl
def rrS:Nat->Int->aE->List aI->List aI×aE
 | 0,_,i,l=>(l,i)
 | k+1,w,i,l=>if (l.length:Int) < w/\i.e=0 then
   (if (iD i (w - l.length)).2.e=0 then (if l.getLast?=some (fy i (w - l.length)) then rrS k w iB l else rrS k w (iD i (w - l.length)).2 (l++List.replicate (bG i (w - l.length)).1.toNat (fy i (w - l.length))))
   else rrS k w (iD i (w - l.length)).2 l)
  else (l,i)
theorem nK {i:aE} {left:Int} (h:VI i) (hl:0<=left) (he:(iD i left).2.e=0):i.e=0/\1<=(bG i left).1/\(bG i left).1<=left/\(bG i left).2.e=0/\ll i left=(bG i left).2:=by
 have eB:(mL i left).2.e=0:=(iC (i:=(mL i left).2) (m:=3) he (lP left h)).1
 have eA:(mc i left).2.e=0:=(iC (i:=(mc i left).2) (m:=647) eB (lO left h)).1
 have e0:(ll i left).e=0:=(iC (i:=ll i left) (m:=1114111) eA (kI left h)).1
 have hr:=fq (i:=i) (m:=left) h hl
 by_cases hc:(bG i left).2.e=0/\(bG i left).1=0
 ·unfold ll at e0
  rw [if_pos hc] at e0
  exact absurd e0 (by decide)
 ·have e00:=e0
  unfold ll at e0
  rw [if_neg hc] at e0
  refine ⟨(iC e0 h).1,?_,hr.2,e0,by unfold ll; rw [if_neg hc]⟩
  have:(bG i left).1≠0:=λhh=>hc ⟨e0,hh⟩
  omega
theorem vd (l:List aI) (c:aI) (h:l.length<=1000000):((bif (decide ((l.length:Int) > 0)) then (Option.bind (idx l (IntKind.i64.wrap ((l.length:Int) - 1))) λa=>some ((a.rune == c.rune) && ((a.bD == c.bD) && ((a.part == c.part) && true)))) else some false):Option Bool)=some (decide (l.getLast?=some c)):=by
 by_cases hl:l.length=0
 ·rw [decide_eq_false (by omega),cond_false]
  have:l=[]:=List.eq_nil_of_length_eq_zero hl
  subst this
  rfl
 ·have hlt:l.length - 1 < l.length:=by omega
  have e1:IntKind.i64.wrap ((l.length:Int) - 1)=((l.length - 1:Nat):Int):=by rw [w64 (by omega) (by omega)]; omega
  rw [decide_eq_true (by omega),cond_true,e1,bQ _ _ hlt,aA,jK,List.getLast?_eq_getElem?,List.getElem?_eq_getElem hlt]
  simp
theorem xA (l:List aI) (c:aI) (h:l.length<=1000000):((bif (decide (((l.map tc).length:Int) > 0)) then (Option.bind (idx (l.map tc) (IntKind.i64.wrap (((l.map tc).length:Int) - 1))) λa=>some ((a.rune == c.rune) && ((a.bD == c.bD) && ((a.part == c.part) && true)))) else some false):Option Bool)=some (decide (l.getLast?=some c)):=by
 rw [eV]
 by_cases hl:l.length=0
 ·rw [decide_eq_false (by omega),cond_false]
  have:l=[]:=List.eq_nil_of_length_eq_zero hl
  subst this
  rfl
 ·have hlt:l.length - 1 < l.length:=by omega
  have e1:IntKind.i64.wrap ((l.length:Int) - 1)=((l.length - 1:Nat):Int):=by rw [w64 (by omega) (by omega)]; omega
  rw [decide_eq_true (by omega),cond_true,e1,bQ _ _ (by simpa using hlt),aA,List.getElem_map]
  show some ((l[l.length - 1].rune == c.rune) && ((l[l.length - 1].bD == c.bD) && ((l[l.length - 1].part == c.part) && true)))=_
  rw [jK,List.getLast?_eq_getElem?,List.getElem?_eq_getElem hlt]
  simp
theorem kJ (p:Prop) [Decidable p] (e:Int):((bif (decide p) then some (e == 0) else some false):Option Bool)=some (decide (p/\e=0)):=by
 by_cases h1:p
 ·by_cases h2:e=0
  ·have:(e == 0)=true:=by simpa using h2
   rw [decide_eq_true h1,cond_true,this,decide_eq_true ⟨h1,h2⟩]
  ·have:(e == 0)=false:=by simpa using h2
   rw [decide_eq_true h1,cond_true,this,decide_eq_false (λh=>h2 h.2)]
 ·rw [decide_eq_false h1,cond_false,decide_eq_false (λh=>h1 h.1)]
theorem rH: ∀ (k:Nat) (w:Int) (i:aE) (l:List aI),VI i->(l.length:Int)<=max w 0->((rrS k w i l).1.length:Int)<=max w 0/\VI (rrS k w i l).2:=by
 intro k
 induction k with
 | zero=>intro w i l h hl; exact ⟨hl,h⟩
 | succ k ih =>
  intro w i l h hl
  unfold rrS
  by_cases hc:(l.length:Int) < w/\i.e=0
  ·rw [if_pos hc]
   by_cases he:(iD i (w - l.length)).2.e=0
   ·rw [if_pos he]
    obtain ⟨_,h1,h2,_⟩:=nK h (by omega) he
    split
    ·exact ih w _ l kq hl
    ·exact ih w _ _ (jC _ h) (by rw [List.length_append,List.length_replicate]; omega)
   ·rw [if_neg he]
    exact ih w _ l (jC _ h) hl
  ·rw [if_neg hc]
   exact ⟨hl,h⟩
theorem wj (w:Int) (hw:w<=1000): ∀ (k:Nat) (i:aE) (l:List aI),VI i->(l.length:Int)<=max w 0->(if i.e=0 then (w - l.length).toNat+1 else 1)<=k ->
  iter (σ:=aE×(List aI)) (ρ:=(List aI)×aE) (λa=>(Option.bind ((bif (decide ((a.2.length:Int) < w)) then (Option.bind (cE a.1) λf=>some (f == 0)) else some false):Option Bool) λg=>(bif g then (Option.bind (jr a.1 (IntKind.i64.wrap (w - (a.2.length:Int)))) λb=>(bif (!b.2.2.1) then some (.inl (b.2.2.2,a.2)) else (Option.bind ((bif (decide ((a.2.length:Int) > 0)) then (Option.bind (idx a.2 (IntKind.i64.wrap ((a.2.length:Int) - 1))) λc=>some ((c.rune == b.2.1.rune) && ((c.bD == b.2.1.bD) && ((c.part == b.2.1.part) && true)))) else some false):Option Bool) λj=>(bif j then (Option.bind (aW b.2.2.2 1) λm=>some (.inl (m,a.2))) else (Option.bind (dC [b.2.1] b.1) λd=>(Option.bind (chk (dK a.2.length d.length 24)) λ_=>some (.inl (b.2.2.2,(a.2++d))))))))) else some (.inr (a.2,a.1))))) (i,l)=some (rrS k w i l):=by
 intro k
 induction k with
 | zero=>intro i l h hl hk; split at hk <;> omega
 | succ k ih =>
  intro i l h hl hk
  unfold rrS
  by_cases hc:(l.length:Int) < w/\i.e=0
  ·rw [if_pos hc]
   rw [if_pos hc.2] at hk
   have hwr:IntKind.i64.wrap (w - (l.length:Int))=w - l.length:=w64 (by omega) (by omega)
   by_cases he:(iD i (w - l.length)).2.e=0
   ·rw [if_pos he]
    obtain ⟨_,h1,h2,_⟩:=nK h (by omega) he
    by_cases hlast:l.getLast?=some (fy i (w - l.length))
    ·rw [if_pos hlast,bS (s':=(iB,l))]
     ·exact ih iB l kq hl (by rw [if_neg (by decide)]; omega)
     ·dsimp only
      unfold cE
      rw [aA,kJ,decide_eq_true hc,aA,cond_true,hwr,run_eq i _ h (by omega),if_pos he,aA]
      dsimp only
      rw [Bool.not_true,cond_false,vd _ _ (by omega),aA,decide_eq_true hlast,cond_true,nI (jC _ h),if_pos he,aA]
    ·rw [if_neg hlast,bS (s':=((iD i (w - l.length)).2,l++List.replicate (bG i (w - l.length)).1.toNat (fy i (w - l.length))))]
     ·refine ih _ _ (jC _ h) (by rw [List.length_append,List.length_replicate]; omega) ?_
      rw [if_pos he,List.length_append,List.length_replicate]
      omega
     ·dsimp only
      unfold cE
      rw [aA,kJ,decide_eq_true hc,aA,cond_true,hwr,run_eq i _ h (by omega),if_pos he,aA]
      dsimp only
      rw [Bool.not_true,cond_false,vd _ _ (by omega),aA,decide_eq_false hlast,cond_false,we _ _ (by omega) (by omega),aA,bO (by rw [List.length_replicate]; omega),aA]
   ·rw [if_neg he,bS (s':=((iD i (w - l.length)).2,l))]
    ·exact ih _ l (jC _ h) hl (by rw [if_neg he]; omega)
    ·dsimp only
     unfold cE
     rw [aA,kJ,decide_eq_true hc,aA,cond_true,hwr,run_eq i _ h (by omega),if_neg he,aA]
     dsimp only
     rw [Bool.not_false,cond_true]
  ·rw [if_neg hc]
   refine bB ?_
   dsimp only
   unfold cE
   rw [aA,kJ,decide_eq_false hc,aA,cond_false]
def gy (i:aE) (w:Int):aP×aE :=
 if (rrS (w.toNat+1) w (bG i 1).2 []).2.e=0 then (⟨(rrS (w.toNat+1) w (bG i 1).2 []).1,decide ((bG i 1).1=1)⟩,(rrS (w.toNat+1) w (bG i 1).2 []).2)
 else (pV,(rrS (w.toNat+1) w (bG i 1).2 []).2)
theorem s6: ∀ (k:Nat) (w:Int) (i:aE) (l:List aI),(rrS k w i l).2.e=0->i.e=0:=by
 intro k
 induction k with
 | zero=>intro w i l h; exact h
 | succ k ih =>
  intro w i l h
  unfold rrS at h
  by_cases hc:(l.length:Int) < w/\i.e=0
  ·exact hc.2
  ·rw [if_neg hc] at h
   exact h
theorem ui (i:aE) (w:Int) (h:VI i) (hw:w<=1000):gr i w=some (gy i w):=by
 unfold gr
 rw [gV i h,aA]
 have hst:((bif (decide ((rdS i).1 > 1)) then (Option.bind (aW (rdS i).2 1) λa=>some a) else some (rdS i).2):Option aE)=some (bG i 1).2:=by
  unfold bG
  by_cases hb:(rdS i).1 > 1
  ·rw [decide_eq_true hb,cond_true,nI (eC h),if_pos (m5 h (by omega) hb),aA,if_pos hb]
  ·rw [decide_eq_false hb,cond_false,if_neg hb]
 rw [hst,aA]
 have hV:=eE 1 h
 rw [wj w hw (w.toNat+1) _ [] hV (by simp; omega) (by simp only [List.length_nil]; split <;> omega),aA]
 unfold cE gy
 rw [aA]
 by_cases he:(rrS (w.toNat+1) w (bG i 1).2 []).2.e=0
 ·have hb:((rrS (w.toNat+1) w (bG i 1).2 []).2.e != 0)=false:=by simpa using he
  rw [hb,cond_false,if_pos he]
  have h0:=s6 _ _ _ _ he
  have hn:(rdS i).1=(bG i 1).1:=by
   unfold bG at *
   split
   ·rename_i hb2
    rw [if_pos hb2] at h0
    exact absurd h0 (by decide)
   ·rfl
  rw [hn]
  congr 3
 ·have hb:((rrS (w.toNat+1) w (bG i 1).2 []).2.e != 0)=true:=by simpa using he
  rw [hb,cond_true,if_neg he]
  rfl
theorem rI (p:Prop) [Decidable p] (e:Int):((bif (e == 0) then some (decide p) else some false):Option Bool)=some (decide (e=0/\p)):=by
 by_cases h2:e=0
 ·have:(e == 0)=true:=by simpa using h2
  rw [this,cond_true]
  by_cases h1:p
  ·rw [decide_eq_true h1,decide_eq_true ⟨h2,h1⟩]
  ·rw [decide_eq_false h1,decide_eq_false (λh=>h1 h.2)]
 ·have:(e == 0)=false:=by simpa using h2
  rw [this,cond_false,decide_eq_false (λh=>h2 h.1)]
theorem pX (e:Int) (n:Nat) (c:cY) (l:List cY) (hl:l.length+n<=1000000):iter (σ:=Int×(List cY)) (ρ:=(List cY)) (λa=>(Option.bind ((bif (decide (a.1 < (n:Int))) then some (e == 0) else some false):Option Bool) λb=>(bif b then (Option.bind (chk (dK a.2.length [c].length 24)) λ_=>some (.inl ((IntKind.i64.wrap (a.1+1)),(a.2++[c])))) else some (.inr a.2)))) (0,l)=some (if e=0 then l++List.replicate n c else l):=by
 by_cases he:e=0
 ·rw [if_pos he]
  have h:=kG (f:=λ(a:Int×(List cY))=>(Option.bind ((bif (decide (a.1 < (n:Int))) then some (e == 0) else some false):Option Bool) λb=>(bif b then (Option.bind (chk (dK a.2.length [c].length 24)) λ_=>some (.inl ((IntKind.i64.wrap (a.1+1)),(a.2++[c])))) else some (.inr a.2)))) (λk=>((k:Int),l++List.replicate k c)) n (l++List.replicate n c) ?_ ?_
  ·simpa using h
  ·intro k hk
   dsimp only
   rw [kJ,decide_eq_true ⟨by omega,he⟩,aA,cond_true,bO (by simp; omega),aA,w64 (by omega) (by omega),List.append_assoc,<- List.replicate_succ']
   rfl
  ·dsimp only
   rw [kJ,decide_eq_false (by omega),aA,cond_false]
 ·rw [if_neg he]
  refine bB ?_
  dsimp only
  rw [kJ,decide_eq_false (λh=>he h.2),aA,cond_false]
theorem lq (i:aE):(asR i).e=i.e:=rfl
theorem uj (w:Int) (hw:w<=1000): ∀ (k:Nat) (i:aE) (l:List aI),VI i->(l.length:Int)<=max w 0->(if i.e=0 then (w - l.length).toNat+1 else 1)<=k ->
  iter (σ:=aX×(List cY)) (ρ:=(List cY)×aX) (λa=>(Option.bind ((bif (decide ((a.2.length:Int) < w)) then some (a.1.e == 0) else some false):Option Bool) λo=>(bif o then (Option.bind (cD a.1 (IntKind.i64.wrap (w - (a.2.length:Int)))) λd=>(Option.bind ((bif (d.1.e == 0) then some (d.2 == 0) else some false):Option Bool) λp=>(Option.bind ((bif p then some (aX.mk (ByteArray.mk #[]) 1) else some d.1):Option aX) λq=>(Option.bind (cD q 1114111) λf=>(Option.bind (cD f.1 647) λg=>(Option.bind (cD g.1 3) λb=>(Option.bind ((bif (b.1.e == 0) then (bif (decide ((a.2.length:Int) > 0)) then (Option.bind (idx a.2 (IntKind.i64.wrap ((a.2.length:Int) - 1))) λj=>some ((j.rune == f.2) && ((j.bD == g.2) && ((j.part == b.2) && true)))) else some false) else some false):Option Bool) λr=>(Option.bind ((bif r then some (aX.mk (ByteArray.mk #[]) 1) else some b.1):Option aX) λn=>(Option.bind (iter (σ:=Int×(List cY)) (ρ:=(List cY)) (λc=>(Option.bind ((bif (decide (c.1 < d.2)) then some (n.e == 0) else some false):Option Bool) λs=>(bif s then (Option.bind (chk (dK c.2.length [(cY.mk f.2 g.2 b.2)].length 24)) λ_=>some (.inl ((IntKind.i64.wrap (c.1+1)),(c.2++[(cY.mk f.2 g.2 b.2)])))) else some (.inr c.2)))) (0,a.2)) λt=>some (.inl (n,t))))))))))) else some (.inr (a.2,a.1))))) (asR i,l.map tc)=some ((rrS k w i l).1.map tc,asR (rrS k w i l).2):=by
 intro k
 induction k with
 | zero=>intro i l h hl hk; split at hk <;> omega
 | succ k ih =>
  intro i l h hl hk
  unfold rrS
  by_cases hc:(l.length:Int) < w/\i.e=0
  ·rw [if_pos hc]
   rw [if_pos hc.2] at hk
   have hwr:IntKind.i64.wrap (w - (l.length:Int))=w - l.length:=w64 (by omega) (by omega)
   have hL:0<=w - (l.length:Int):=by omega
   -- the document's steps
   have s1:((bif ((asR (bG i (w - l.length)).2).e == 0) then some ((bG i (w - l.length)).1 == 0) else some false):Option Bool)=some (decide ((bG i (w - l.length)).2.e=0/\(bG i (w - l.length)).1=0)):=by
    have:((bG i (w - l.length)).1 == 0)=decide ((bG i (w - l.length)).1=0):=by
     by_cases h0:(bG i (w - l.length)).1=0 <;> simp [h0]
    rw [this,lq,rI]
   have s2:((bif decide ((bG i (w - l.length)).2.e=0/\(bG i (w - l.length)).1=0) then some (aX.mk (ByteArray.mk #[]) 1) else some (asR (bG i (w - l.length)).2)):Option aX)=some (asR (ll i (w - l.length))):=by
    unfold ll
    by_cases h0:(bG i (w - l.length)).2.e=0/\(bG i (w - l.length)).1=0
    ·rw [decide_eq_true h0,cond_true,if_pos h0]
     rfl
    ·rw [decide_eq_false h0,cond_false,if_neg h0]
   have s3:cD (asR (ll i (w - l.length))) 1114111=some (asR (mc i (w - l.length)).2,(mc i (w - l.length)).1):=lN (kI _ h) (by omega)
   have s4:cD (asR (mc i (w - l.length)).2) 647=some (asR (mL i (w - l.length)).2,(mL i (w - l.length)).1):=lN (lO _ h) (by omega)
   have s5:cD (asR (mL i (w - l.length)).2) 3=some (asR (iD i (w - l.length)).2,(iD i (w - l.length)).1):=lN (lP _ h) (by omega)
   have hnat: ∃ N:Nat,(bG i (w - l.length)).1=(N:Int)/\N<=1000:=by
    have:=fq (i:=i) (m:=w - l.length) h hL
    exact ⟨(bG i (w - l.length)).1.toNat,by omega,by omega⟩
   obtain ⟨N,hN,hN2⟩:=hnat
   have hlast:=xA l (fy i (w - l.length)) (by omega)
   by_cases he:(iD i (w - l.length)).2.e=0
   ·rw [if_pos he]
    obtain ⟨_,h1,h2,_⟩:=nK h (by omega) he
    have he':((asR (iD i (w - l.length)).2).e == 0)=true:=by simpa [asR] using he
    by_cases hlst:l.getLast?=some (fy i (w - l.length))
    ·rw [if_pos hlst,bS (s':=(asR iB,l.map tc))]
     ·exact ih iB l kq hl (by rw [if_neg (by decide)]; omega)
     ·dsimp only
      rw [eV,kJ,decide_eq_true (show (l.length:Int) < w/\(asR i).e=0 from hc),aA,cond_true,hwr,lN h hL,aA]
      dsimp only
      rw [s1,aA,s2,aA,s3,aA,s4,aA,s5,aA]
      dsimp only
      rw [he',cond_true]
      rw [eV] at hlast
      unfold fy at hlast hlst
      rw [hlast,aA,decide_eq_true hlst,cond_true,aA,hN]
      dsimp only
      rw [pX 1 N _ _ (by rw [eV]; omega),if_neg (by decide),aA]
      rfl
    ·rw [if_neg hlst,bS (s':=(asR (iD i (w - l.length)).2,(l++List.replicate (bG i (w - l.length)).1.toNat (fy i (w - l.length))).map tc))]
     ·refine ih _ _ (jC _ h) (by rw [List.length_append,List.length_replicate]; omega) ?_
      rw [if_pos he,List.length_append,List.length_replicate]
      omega
     ·dsimp only
      rw [eV,kJ,decide_eq_true (show (l.length:Int) < w/\(asR i).e=0 from hc),aA,cond_true,hwr,lN h hL,aA]
      dsimp only
      rw [s1,aA,s2,aA,s3,aA,s4,aA,s5,aA]
      dsimp only
      rw [he',cond_true]
      rw [eV] at hlast
      have hlst':=hlst
      unfold fy at hlast hlst'
      rw [hlast,aA,decide_eq_false hlst',cond_false,aA,hN]
      rw [pX _ N _ _ (by rw [eV]; omega),if_pos (show (asR (iD i (w - l.length)).2).e=0 from he),aA]
      rw [List.map_append,List.map_replicate,Int.toNat_natCast]
      rfl
   ·rw [if_neg he,bS (s':=(asR (iD i (w - l.length)).2,l.map tc))]
    ·exact ih _ l (jC _ h) hl (by rw [if_neg he]; omega)
    ·have he':((asR (iD i (w - l.length)).2).e == 0)=false:=by simpa [asR] using he
     dsimp only
     rw [eV,kJ,decide_eq_true (show (l.length:Int) < w/\(asR i).e=0 from hc),aA,cond_true,hwr,lN h hL,aA]
     dsimp only
     rw [s1,aA,s2,aA,s3,aA,s4,aA,s5,aA]
     dsimp only
     rw [he',cond_false,aA,cond_false,aA,hN]
     rw [pX _ N _ _ (by rw [eV]; omega),if_neg (show ¬ (asR (iD i (w - l.length)).2).e=0 from he),aA]
  ·rw [if_neg hc]
   refine bB ?_
   dsimp only
   rw [eV,kJ,decide_eq_false (show ¬ ((l.length:Int) < w/\(asR i).e=0) from hc),aA,cond_false]
theorem oX (i:aE) (w:Int) (h:VI i) (hw:w<=1000):iN (asR i) w=some (asR (gy i w).2,told (gy i w).1):=by
 unfold iN
 rw [lN h (by omega),aA]
 have hV:=eE 1 h
 have hl:=uj w hw (w.toNat+1) _ [] hV (by simp; omega) (by simp only [List.length_nil]; split <;> omega)
 rw [List.map_nil] at hl
 dsimp only
 rw [hl,aA]
 unfold gy
 dsimp only
 by_cases he:(rrS (w.toNat+1) w (bG i 1).2 []).2.e=0
 ·have hb:((asR (rrS (w.toNat+1) w (bG i 1).2 []).2).e != 0)=false:=by simpa [asR] using he
  rw [hb,cond_false,if_pos he]
  have:((bG i 1).1 == 1)=decide ((bG i 1).1=1):=by by_cases h0:(bG i 1).1=1 <;> simp [h0]
  rw [this]
  rfl
 ·have hb:((asR (rrS (w.toNat+1) w (bG i 1).2 []).2).e != 0)=true:=by simpa [asR] using he
  rw [hb,cond_true,if_neg he]
  rfl
def fF:List aI->List (Nat×aI)
 | []=>[]
 | c::r=>match fF r with
  | (n,d)::t=>if c=d then (n+1,d)::t else (1,c)::(n,d)::t
  | []=>[(1,c)]
def gv (p:Nat×aI):List Int:=[(p.1:Int),p.2.rune,p.2.bD,p.2.part].flatMap bV
def eF (r:aP):List Int:=bV (if r.wrapped then 1 else 0)++(fF r.cells).flatMap gv
theorem m6 (c:aI) (r:List aI): ∃ n t,fF (c::r)=(n+1,c)::t:=by
 unfold fF
 split
 ·rename_i n d t h
  split
  ·rename_i e
   exact ⟨n,t,by rw [e]⟩
  ·exact ⟨0,_,rfl⟩
 ·exact ⟨0,[],rfl⟩
theorem pY (p:Nat×aI):(gv p).length<=36:=by
 unfold gv
 simp only [List.flatMap_cons,List.flatMap_nil,List.length_append,List.length_nil]
 have h1:=bW (p.1:Int)
 have h2:=bW p.2.rune
 have h3:=bW p.2.bD
 have h4:=bW p.2.part
 omega
def more (c:aI):List aI->Nat
 | []=>0
 | d::r=>if d=c then more c r+1 else 0
theorem ve (c:aI): ∀ l,more c l<=l.length
 | []=>Nat.le_refl _
 | d::r=>by
  have:=ve c r
  unfold more
  split <;> simp <;> omega
theorem pZ (c:aI): ∀ r:List aI,fF (c::r)=(more c r+1,c)::fF (r.drop (more c r))
 | []=>rfl
 | d::r=>by
  have ih:=pZ d r
  have hu:fF (c::d::r)=(match fF (d::r) with
   | (n,e)::t=>if c=e then (n+1,e)::t else (1,c)::(n,e)::t
   | []=>[(1,c)]):=rfl
  rw [hu,ih]
  try dsimp only
  by_cases h:c=d
  ·subst h
   rw [if_pos rfl]
   have hm:more c (c::r)=more c r+1:=by
    show (if c=c then more c r+1 else 0)=_
    rw [if_pos rfl]
   rw [hm,List.drop_succ_cons]
  ·rw [if_neg h]
   have hm:more c (d::r)=0:=by
    show (if d=c then more c r+1 else 0)=_
    rw [if_neg (λe=>h e.symm)]
   rw [hm,List.drop_zero,ih]
theorem s7 (c:aI): ∀ (l:List aI) (k:Nat),k < more c l->l[k]?=some c
 | [],k,h=>by simp [more] at h
 | d::r,k,h=>by
  unfold more at h
  split at h
  ·rename_i e
   cases k with
   | zero=>rw [e]; rfl
   | succ k=>exact s7 c r k (by omega)
  ·omega
theorem qU (c:aI): ∀ (l:List aI),more c l < l.length->l[more c l]?≠some c
 | [],h=>by simp at h
 | d::r,h=>by
  have hu:more c (d::r)=if d=c then more c r+1 else 0:=rfl
  rw [hu] at h ⊢
  by_cases e:d=c
  ·rw [if_pos e] at h ⊢
   exact qU c r (by simpa using h)
  ·rw [if_neg e]
   simpa using e
theorem yS: ∀ (m:Nat) (l:List aI) (b:List Int),l.length<=m->b.length+36*l.length<=9000000->okR l -> ∃ q,iter (σ:=(List aI)×bR) (ρ:=((List aI)×bR) ⊕ (bR×(List aI))) (λa=>(bif (decide ((a.1.length:Int) > 0)) then (Option.bind (iter (σ:=Int) (ρ:=Int) (λf=>(Option.bind ((bif (decide (f < (a.1.length:Int))) then (Option.bind (idx a.1 f) λg=>(Option.bind (idx a.1 0) λh=>some ((g.rune == h.rune) && ((g.bD == h.bD) && ((g.part == h.part) && true))))) else some false):Option Bool) λj=>(bif j then some (.inl (IntKind.i64.wrap (f+1))) else some (.inr f)))) 1) λi=>(Option.bind (idx a.1 0) λn=>(Option.bind ((λ(s51:bR) (x21:Int×aI)=>(Option.bind (cP s51 [x21.1,(IntKind.i64.wrap x21.2.rune),x21.2.bD,x21.2.part]) λo=>some (o,true))) a.2 (i,n)) λz1399=>(bif (!z1399.2) then (eT (some (z1399.1,a.1))) else (Option.bind (chk (fg i (a.1.length:Int) a.1.length)) λ_=>some (.inl ((cut a.1 i (a.1.length:Int)),z1399.1))))))) else some (.inr (.inl (a.1,a.2))))) (l,⟨b⟩)=some (.inl (q,⟨b++(fF l).flatMap gv⟩)):=by
 intro m
 induction m with
 | zero =>
  intro l b hl hb hok
  have:l=[]:=List.eq_nil_of_length_eq_zero (by omega)
  subst this
  refine ⟨[],?_⟩
  refine bB ?_
  try dsimp only
  rw [decide_eq_false (by simp),cond_false]
  simp [fF]
 | succ m ih =>
  intro l b hl hb hok
  cases l with
  | nil =>
   refine ⟨[],?_⟩
   refine bB ?_
   try dsimp only
   rw [decide_eq_false (by simp),cond_false]
   simp [fF]
  | cons c r =>
   have hmr:=ve c r
   have hcok:rok c.rune:=hok c (List.mem_cons_self ..)
   simp only [List.length_cons] at hl hb
   have hon:=ke b [((more c r+1:Nat):Int),c.rune,c.bD,c.part] (by first | (simp; omega) | simp)
   have hd:(r.drop (more c r)).length<=m:=by rw [List.length_drop]; omega
   have hel:=pY (more c r+1,c)
   obtain ⟨q,hq⟩:=ih (r.drop (more c r)) (b++gv (more c r+1,c)) hd (by rw [List.length_append,List.length_drop]; omega) (xq (λd hd'=>hok d (List.mem_cons_of_mem _ hd')) _)
   refine ⟨q,?_⟩
   rw [bS (s':=(r.drop (more c r),(⟨b++gv (more c r+1,c)⟩:bR)))]
   ·rw [hq,pZ,List.flatMap_cons,List.append_assoc]
   ·try dsimp only
    rw [decide_eq_true (by first | (simp; omega) | simp),cond_true]
    refine fc (λk=>((k+1:Nat):Int)) (more c r) ((more c r+1:Nat):Int) rfl ?_ ?_ ?_
    ·intro k hk
     have hg:=s7 c r k hk
     have hgi:idx (c::r) ((k+1:Nat):Int)=some c:=by rw [nA,List.getElem?_cons_succ,hg]
     have hg0:idx (c::r) 0=some c:=rfl
     try dsimp only
     rw [decide_eq_true (by first | (simp; omega) | simp),cond_true,hgi,aA,hg0,aA,jK,decide_eq_true rfl,aA,cond_true,w64 (by omega) (by omega)]
     rfl
    ·try dsimp only
     by_cases hlt:more c r < r.length
     ·have hs:=qU c r hlt
      have hgi:idx (c::r) ((more c r+1:Nat):Int)=some r[more c r]:=by rw [nA,List.getElem?_cons_succ,List.getElem?_eq_getElem hlt]
      have hg0:idx (c::r) 0=some c:=rfl
      have hne: ¬ r[more c r]=c:=λe=>hs (by rw [List.getElem?_eq_getElem hlt,e])
      rw [decide_eq_true (by first | (simp; omega) | simp),cond_true,hgi,aA,hg0,aA,jK,decide_eq_false hne,aA,cond_false]
     ·rw [decide_eq_false (by first | (simp; omega) | simp),cond_false,aA,cond_false]
    ·have hg0:idx (c::r) 0=some c:=rfl
     have hce:gv (more c r+1,c)=[((more c r+1:Nat):Int),c.rune,c.bD,c.part].flatMap bV:=rfl
     rw [hg0,aA,w32 hcok,hon,aA,aA]
     try dsimp only
     rw [Bool.not_true,cond_false,dG (by omega) (by first | (simp; omega) | simp) (by simp),aA,nD,List.take_length,List.drop_succ_cons,hce]
theorem uk (r:aP) (h:r.cells.length<=1000) (hok:okR r.cells):ie r=some (cZ (eF r)):=by
 unfold ie lJ kF jB dZ
 have zm:((bif r.wrapped then some 1 else some 0):Option Int)=some (if r.wrapped then 1 else 0):=by cases r.wrapped <;> rfl
 rw [zm,aA,ke [] _ (by simp),aA,aA]
 have hb:=bW (if r.wrapped then 1 else 0)
 obtain ⟨q,hq⟩:=yS r.cells.length r.cells (bV (if r.wrapped then 1 else 0)) (Nat.le_refl _) (by omega) hok
 have e0:([]++[(if r.wrapped then (1:Int) else 0)].flatMap bV)=bV (if r.wrapped then 1 else 0):=by simp
 rw [e0,hq,aA,aA,aA]
 rfl
def wk (n:Nat):List (Nat×aI)->List (Nat×aI)
 | []=>[]
 | (m,c)::t=>(m+n,c)::t
theorem qV (l:List (Nat×aI)):wk 0 l=l:=by
 cases l with
 | nil=>rfl
 | cons a t=>rfl
theorem s8 (r:aP) (h:r.cells.length<=1000):jT (told r)=some (cZ (eF r)):=by
 unfold jT
 have zm:((bif (told r).wrapped then some (ByteArray.mk #[1]) else some (ByteArray.mk #[0])):Option ByteArray)=some (cZ (bV (if r.wrapped then 1 else 0))):=by
  show ((bif r.wrapped then some (ByteArray.mk #[1]) else some (ByteArray.mk #[0])):Option ByteArray)=_
  have h0:bV 0=[0]:=by
   show fE 0=_
   rw [dT (by omega)]
   rfl
  have h1:bV 1=[1]:=by
   show fE 1=_
   rw [dT (by omega)]
   rfl
  cases r.wrapped
  ·show some (ByteArray.mk #[0])=some (cZ (bV 0))
   rw [h0,kH]
   rfl
  ·show some (ByteArray.mk #[1])=some (cZ (bV 1))
   rw [h1,kH]
   rfl
 rw [zm,aA]
 show Option.bind (iter _ (0,cZ (bV (if r.wrapped then 1 else 0)),0)) _=_
 have hb0:=bW (if r.wrapped then 1 else 0)
 unfold eF
 generalize bV (if r.wrapped then 1 else 0)=b0 at hb0
 have htl:(told r).l=r.cells.map tc:=rfl
 rw [htl,eV]
 have key: ∀ (s:List aI) (p:List aI) (b:List Int) (n:Nat) (f:Int×ByteArray×Int->Option ((Int×ByteArray×Int) ⊕ ByteArray)),f=(λ(s776:Int×ByteArray×Int)=>(bif (decide (s776.1 < (r.cells.length:Int))) then (Option.bind ((Option.bind (idx (r.cells.map tc) s776.1) λg=>(Option.bind ((bif (decide ((IntKind.i64.wrap (s776.1+1)) < (r.cells.length:Int))) then (Option.bind (idx (r.cells.map tc) (IntKind.i64.wrap (s776.1+1))) λa=>some ((a.rune == g.rune) && ((a.bD == g.bD) && ((a.part == g.part) && true)))) else some false):Option Bool) λu=>(bif u then some (s776.2.1,(IntKind.i64.wrap (s776.2.2+1))) else (Option.bind (bX (IntKind.i64.wrap (s776.2.2+1))) λi=>(Option.bind (bX g.rune) λj=>(Option.bind (chk (kj i.size j.size)) λ_=>(Option.bind (bX g.bD) λk=>(Option.bind (chk (kj (i++j).size k.size)) λ_=>(Option.bind (bX g.part) λo=>(Option.bind (chk (kj ((i++j)++k).size o.size)) λ_=>(Option.bind (chk (kj s776.2.1.size (((i++j)++k)++o).size)) λ_=>some ((s776.2.1++(((i++j)++k)++o)),0)))))))))))):Option (ByteArray×Int)) λq=>some (.inl ((IntKind.i64.wrap (s776.1+1)),q.1,q.2))) else some (.inr s776.2.1)))->p++s=r.cells->n<=p.length->b.length+36*s.length<=1000000->(s=[]->n=0)->iter f ((p.length:Int),cZ b,(n:Int))=some (cZ (b++(wk n (fF s)).flatMap gv)):=by
  intro s
  induction s with
  | nil =>
   intro p b n f hf hp hn hb h0
   have hpl:p.length=r.cells.length:=by rw [<- hp]; simp
   rw [bB (r:=cZ b)]
   ·simp [fF,wk]
   ·subst hf
    dsimp only
    rw [decide_eq_false (by omega),cond_false]
  | cons c s ih =>
   intro p b n f hf hp hn hb h0
   have hpl:r.cells.length=p.length+s.length+1:=by rw [<- hp]; simp; omega
   simp only [List.length_cons] at hb
   have hx:idx (r.cells.map tc) (p.length:Int)=some (tc c):=by
    rw [<- hp,List.map_append,List.map_cons,<- eV p]
    exact pw _ _ _
   have hn1:IntKind.i64.wrap ((p.length:Int)+1)=((p.length+1:Nat):Int):=by rw [w64 (by omega) (by omega)]; omega
   have hn2:IntKind.i64.wrap ((n:Int)+1)=((n+1:Nat):Int):=by rw [w64 (by omega) (by omega)]; omega
   have hp1:p++[c]++s=r.cells:=by rw [<- hp]; simp
   have hlen1:((p++[c]).length:Int)=((p.length+1:Nat):Int):=by simp
   -- the cell behind
   have hnext:((bif (decide (((p.length+1:Nat):Int) < (r.cells.length:Int))) then (Option.bind (idx (r.cells.map tc) ((p.length+1:Nat):Int)) λa=>some ((a.rune == (tc c).rune) && ((a.bD == (tc c).bD) && ((a.part == (tc c).part) && true)))) else some false):Option Bool)=some (decide (s.head?=some c)):=by
    cases s with
    | nil =>
     rw [decide_eq_false (by simp at hpl ⊢; omega),cond_false]
     rfl
    | cons d s' =>
     have hx2:idx (r.cells.map tc) ((p.length+1:Nat):Int)=some (tc d):=by
      rw [<- hp,List.map_append,List.map_cons,List.map_cons,nA,List.getElem?_append_right (by simp)]
      simp
     rw [decide_eq_true (by simp at hpl ⊢; omega),cond_true,hx2,aA]
     show some ((d.rune == c.rune) && ((d.bD == c.bD) && ((d.part == c.part) && true)))=_
     rw [jK]
     simp
   by_cases hc:s.head?=some c
   ·rw [bS (s':=(((p++[c]).length:Int),cZ b,((n+1:Nat):Int)))]
    ·rw [ih (p++[c]) b (n+1) f hf hp1 (by simp; omega) (by omega) (λe=>by rw [e] at hc; cases hc)]
     cases s with
     | nil=>cases hc
     | cons d s' =>
      obtain rfl:d=c:=by simpa using hc
      obtain ⟨m,t,hm⟩:=m6 d s'
      have hu:fF (d::d::s')=(m+1+1,d)::t:=by
       show (match fF (d::s') with
        | (n,e)::t=>if d=e then (n+1,e)::t else (1,d)::(n,e)::t
        | []=>[(1,d)])=_
       rw [hm]
       dsimp only
       rw [if_pos rfl]
      have ha:wk (n+1) ((m+1,d)::t)=wk n ((m+1+1,d)::t):=by
       show (m+1+(n+1),d)::t=(m+1+1+n,d)::t
       congr 2
       omega
      rw [hu,hm,ha]
    ·subst hf
     dsimp only
     rw [decide_eq_true (by omega),cond_true,hx,aA,hn1,hnext,aA,decide_eq_true hc,cond_true,hn2,aA,hlen1]
   ·have e1:=bW ((n+1:Nat):Int)
    have e2:=bW c.rune
    have e3:=bW c.bD
    have e4:=bW c.part
    rw [bS (s':=(((p++[c]).length:Int),cZ (b++gv (n+1,c)),((0:Nat):Int)))]
    ·have hel:=pY (n+1,c)
     rw [ih (p++[c]) (b++gv (n+1,c)) 0 f hf hp1 (by omega) (by rw [List.length_append]; omega) (λ_=>rfl),qV]
     have hu:fF (c::s)=(1,c)::fF s:=by
      cases s with
      | nil=>rfl
      | cons d s' =>
       have hne: ¬ c=d:=λe=>hc (by rw [e]; rfl)
       obtain ⟨m,t,hm⟩:=m6 d s'
       show (match fF (d::s') with
        | (n,e)::t=>if c=e then (n+1,e)::t else (1,c)::(n,e)::t
        | []=>[(1,c)])=_
       rw [hm]
       dsimp only
       rw [if_neg hne]
     have ha:wk n ((1,c)::fF s)=(n+1,c)::fF s:=by
      show (1+n,c)::fF s=_
      rw [Nat.add_comm 1 n]
     rw [hu,ha,List.flatMap_cons,List.append_assoc]
    ·subst hf
     have hE:gv (n+1,c)=bV ((n+1:Nat):Int)++bV c.rune++bV c.bD++bV c.part:=by
      unfold gv
      simp
     dsimp only
     rw [decide_eq_true (by omega),cond_true,hx,aA,hn1,hnext,aA,decide_eq_false hc,cond_false,hn2,ja,aA]
     show Option.bind (Option.bind (bX c.rune) _) _=_
     rw [ja,aA,eZ (by rw [bN,bN]; omega),aA]
     show Option.bind (Option.bind (bX c.bD) _) _=_
     rw [ja,aA,<- dV,eZ (by rw [bN,bN,List.length_append]; omega),aA]
     show Option.bind (Option.bind (bX c.part) _) _=_
     rw [ja,aA,<- dV,eZ (by rw [bN,bN,List.length_append,List.length_append]; omega),aA,<- dV,eZ (by rw [bN,bN,List.length_append,List.length_append,List.length_append]; omega),aA,aA,<- dV,hlen1,hE]
     rfl
 have hk:=key r.cells [] b0 0 _ rfl rfl (by omega) (by omega) (λ_=>rfl)
 rw [qV] at hk
 exact (congrArg (λx=>Option.bind x λv=>some v) hk).trans rfl
theorem yT {w:Nat} (h:w<=most):clN (w:Int)=w:=by unfold clN; unfold most at h; omega
theorem ik {w:Nat} (h:w<=most):bV (w:Int)=fE w:=by unfold bV; rw [yT h]
theorem m7 (c:aI) (n:Nat): ∀ l:List aI,l.getLast?≠some c->fF (l++List.replicate (n+1) c)=fF l++[(n+1,c)]
 | [],_=>by
  rw [List.nil_append]
  induction n with
  | zero=>rfl
  | succ n ih =>
   rw [List.replicate_succ]
   show (match fF (List.replicate (n+1) c) with
    | (m,e)::t=>if c=e then (m+1,e)::t else (1,c)::(m,e)::t
    | []=>[(1,c)])=_
   rw [ih]
   show (if c=c then [(n+1+1,c)] else _)=_
   rw [if_pos rfl]
   rfl
 | x::r,h=>by
  cases r with
  | nil =>
   have hx: ¬ x=c:=λe=>h (by rw [e]; rfl)
   have ih:=m7 c n [] (by simp)
   show (match fF ([]++List.replicate (n+1) c) with
    | (m,e)::t=>if x=e then (m+1,e)::t else (1,x)::(m,e)::t
    | []=>[(1,x)])=_
   rw [ih]
   show (if x=c then _ else (1,x)::(n+1,c)::[])=_
   rw [if_neg hx]
   rfl
  | cons y s =>
   have ih:=m7 c n (y::s) (by simpa using h)
   show (match fF ((y::s)++List.replicate (n+1) c) with
    | (m,e)::t=>if x=e then (m+1,e)::t else (1,x)::(m,e)::t
    | []=>[(1,x)])=(match fF (y::s) with
    | (m,e)::t=>if x=e then (m+1,e)::t else (1,x)::(m,e)::t
    | []=>[(1,x)])++[(n+1,c)]
   rw [ih]
   obtain ⟨m,t,hm⟩:=m6 y s
   rw [hm]
   show (if x=y then _ else _)=(if x=y then _ else _)++_
   split <;> rfl
theorem qW {i:aE} {left:Int} (h:VI i) (hl:0<=left) (he:(iD i left).2.e=0):sbs i.s=gv ((bG i left).1.toNat,fy i left)++sbs (iD i left).2.s/\0<=(fy i left).rune/\(fy i left).rune<=1114111:=by
 obtain ⟨_,h1,h2,h3,h4⟩:=nK h hl he
 obtain ⟨eB,c3,q3,_,m3,b3⟩:=iC (i:=(mL i left).2) (m:=3) he (lP left h)
 obtain ⟨eA,c2,q2,_,m2,b2⟩:=iC (i:=(mc i left).2) (m:=647) eB (lO left h)
 obtain ⟨e0,c1,q1,l1,m1,b1⟩:=iC (i:=ll i left) (m:=1114111) eA (kI left h)
 obtain ⟨_,c0,q0,_,m0,b0⟩:=iC (i:=i) (m:=left) h3 h
 have qa:(fy i left).rune=(c1:Int):=q1
 have qb:(fy i left).bD=(c2:Int):=q2
 have qc:(fy i left).part=(c3:Int):=q3
 refine ⟨?_,by omega,by omega⟩
 have hE:gv ((bG i left).1.toNat,fy i left)=fE c0++fE c1++fE c2++fE c3:=by
  unfold gv
  dsimp only
  rw [qa,qb,qc,q0,Int.toNat_natCast]
  simp only [List.flatMap_cons,List.flatMap_nil,List.append_nil,ik m0,ik m1,ik m2,ik m3,List.append_assoc]
 have b1':sbs (bG i left).2.s=fE c1++sbs (mc i left).2.s:=by rw [<- h4]; exact b1
 have b2':sbs (mc i left).2.s=fE c2++sbs (mL i left).2.s:=b2
 have b3':sbs (mL i left).2.s=fE c3++sbs (iD i left).2.s:=b3
 rw [hE,b0,b1',b2',b3']
 simp only [List.append_assoc]
theorem wm: ∀ (k:Nat) (w:Int) (i:aE) (l:List aI),VI i->okR l->(rrS k w i l).2.e=0 -> ∃ D,(fF (rrS k w i l).1).flatMap gv=(fF l).flatMap gv++D/\sbs i.s=D++sbs (rrS k w i l).2.s/\okR (rrS k w i l).1:=by
 intro k
 induction k with
 | zero=>intro w i l h hok he; exact ⟨[],by simp [rrS],by simp [rrS],hok⟩
 | succ k ih =>
  intro w i l h hok he
  unfold rrS at he ⊢
  by_cases hc:(l.length:Int) < w/\i.e=0
  ·rw [if_pos hc] at he ⊢
   by_cases h2:(iD i (w - l.length)).2.e=0
   ·rw [if_pos h2] at he ⊢
    by_cases h3:l.getLast?=some (fy i (w - l.length))
    ·rw [if_pos h3] at he
     exact absurd (s6 _ _ _ _ he) (by decide)
    ·rw [if_neg h3] at he ⊢
     obtain ⟨b1,b2,b3⟩:=qW h (by omega) h2
     obtain ⟨_,p1,_⟩:=nK h (by omega) h2
     obtain ⟨n,hn⟩: ∃ n,(bG i (w - l.length)).1.toNat=n+1:=⟨(bG i (w - l.length)).1.toNat - 1,by omega⟩
     rw [hn] at he b1 ⊢
     obtain ⟨D,d1,d2,d3⟩:=ih w _ _ (jC _ h) (va hok (λc hc=>by rw [List.eq_of_mem_replicate hc]; unfold rok; omega)) he
     refine ⟨gv (n+1,fy i (w - l.length))++D,?_,?_,d3⟩
     ·rw [d1,m7 _ _ _ h3,List.flatMap_append,List.flatMap_singleton,List.append_assoc]
     ·rw [b1,d2,List.append_assoc]
   ·rw [if_neg h2] at he
    exact absurd (s6 _ _ _ _ he) h2
  ·rw [if_neg hc] at he ⊢
   exact ⟨[],by simp,by simp,hok⟩
theorem um {i:aE} {w:Int} (h:VI i) (he:(gy i w).2.e=0):sbs i.s=eF (gy i w).1++sbs (gy i w).2.s:=by
 unfold gy at *
 by_cases h0:(rrS (w.toNat+1) w (bG i 1).2 []).2.e=0
 ·rw [if_pos h0]
  obtain ⟨D,d1,d2,_⟩:=wm _ w _ [] (eE 1 h) (λc hc=>by cases hc) h0
  obtain ⟨_,c,q,hc,hm,hb⟩:=iC (i:=i) (m:=1) (s6 _ _ _ _ h0) h
  unfold eF
  dsimp only
  rw [d1,hb,d2,q]
  have:(if decide ((c:Int)=1)=true then (1:Int) else 0)=(c:Int):=by
   by_cases hc1:(c:Int)=1
   ·simp [hc1]
   ·rw [decide_eq_false hc1]
    simp
    omega
  rw [this,ik hm]
  simp [fF]
 ·rw [if_neg h0] at he
  exact absurd he h0
theorem nL {i:aE} {w:Int} (h:VI i):VI (gy i w).2:=by
 unfold gy
 split
 ·exact (rH _ w _ [] (eE 1 h) (by simp; omega)).2
 ·exact (rH _ w _ [] (eE 1 h) (by simp; omega)).2
theorem AF: ∀ (k:Nat) (w:Int) (i:aE) (l:List aI),VI i->okR l->okR (rrS k w i l).1:=by
 intro k
 induction k with
 | zero=>intro w i l h hok; exact hok
 | succ k ih =>
  intro w i l h hok
  unfold rrS
  by_cases hc:(l.length:Int) < w/\i.e=0
  ·rw [if_pos hc]
   by_cases h2:(iD i (w - l.length)).2.e=0
   ·rw [if_pos h2]
    obtain ⟨b1,b2,b3⟩:=qW h (by omega) h2
    split
    ·exact ih w _ l kq hok
    ·exact ih w _ _ (jC _ h) (va hok (λc hc=>by rw [List.eq_of_mem_replicate hc]; unfold rok; omega))
   ·rw [if_neg h2]
    exact ih w _ l (jC _ h) hok
  ·rw [if_neg hc]
   exact hok
theorem yU {i:aE} {w:Int} (h:VI i) (hw:w<=1000):okR (gy i w).1.cells/\(gy i w).1.cells.length<=1000:=by
 unfold gy
 split
 ·refine ⟨AF _ w _ [] (eE 1 h) (λc hc=>by cases hc),?_⟩
  have:=(rH (w.toNat+1) w _ [] (eE 1 h) (by simp; omega)).1
  show (rrS (w.toNat+1) w (bG i 1).2 []).1.length<=1000
  omega
 ·exact ⟨λc hc=>(by cases hc),Nat.zero_le _⟩
theorem s9 (a b:Bool):((bif a then some b else some false):Option Bool)=some (a && b):=by cases a <;> rfl
theorem bor (a b:Bool):((bif a then some true else some b):Option Bool)=some (a || b):=by cases a <;> rfl
def okG (r s:Int):Bool:=(decide (r>=0) && decide (r<=1114111)) && (decide (s>=0) && decide (s<=647))
def okC (c:aI):Bool:=okG c.rune c.bD && (decide (c.part>=0) && decide (c.part<=3))
def fX (s:aK):Bool:=(s.k == 0) && ((s.w == 0) && ((s.h == 0) && ((s.x == 0) && ((s.y == 0) && ((s.title.toList == (ByteArray.mk #[]).toList) && (((s.rows.length:Int) == 0) && ((s.len == 0) && ((s.chain == 0) && ((s.begun.length:Int) == 0)))))))))
def wi (n lo hi:Int):Bool:=decide (n>=lo) && decide (n<=hi)
def kW (s:aK):Bool:=wi s.k 1 1152921504606846976 && (wi s.w 1 1000 && (wi s.h 1 1000 && (wi s.x 0 (s.w - 1) && (wi s.y 0 (s.h - 1) && (((s.rows.length:Int) == s.h) && (decide ((s.title.size:Int)<=200) && (wi s.len 0 1152921504606846976 && (wi s.chain 0 281474976710656 && decide ((s.begun.length:Int)<=1024)))))))))
def lZ (w:Int) (r:aP):Bool:=((r.cells.length:Int) == w) && r.cells.all okC
def kX (s:aK):Bool:=fX s || (kW s && ((s.begun.all λg=>okG g.rune g.bD) && s.rows.all (lZ s.w)))
theorem empty_eq (s:aK):eM s=some (fX s):=by
 unfold eM fX
 simp only [s9,aA]
theorem m8 (n lo hi:Int):cU n lo hi=some (wi n lo hi):=by
 unfold cU wi
 rw [s9,aA]
structure SW (s:aK):Prop where
 w1: -9223372036854775808<=s.w/\s.w<=9223372036854775807
 h1: -9223372036854775808<=s.h/\s.h<=9223372036854775807
 gl: ∀ g∈s.begun,rok g.rune
 ro: ∀ r∈s.rows,okR r.cells/\r.cells.length<=1000
 rl:s.rows.length<=1000
 bl:s.begun.length<=2000
 tl:s.title.size<=12000
theorem xB (s:aK) (h:SW s):fO s=some (kW s):=by
 unfold fO kW
 simp only [m8,aA]
 by_cases hw:s.w>=1
 ·have e1:IntKind.i64.wrap (s.w - 1)=s.w - 1:=w64 (by omega) (by have:=h.w1; omega)
  by_cases hh:s.h>=1
  ·have e2:IntKind.i64.wrap (s.h - 1)=s.h - 1:=w64 (by omega) (by have:=h.h1; omega)
   simp only [e1,e2,s9,aA]
  ·have e2:wi s.h 1 1000=false:=by unfold wi; rw [decide_eq_false hh]; rfl
   simp only [e2,e1,cond_false,s9,Bool.false_and,Bool.and_false,aA]
 ·have e2:wi s.w 1 1000=false:=by unfold wi; rw [decide_eq_false hw]; rfl
  simp only [e2,cond_false,s9,Bool.false_and,Bool.and_false,aA]
theorem td (r s:Int) (h:rok r):iv r s=some (okG r s):=by
 unfold iv okG
 simp only [m8,aA,w32 h,s9,wi]
theorem wo (c:aI) (h:rok c.rune):jG c=some (okC c):=by
 unfold jG okC
 rw [td _ _ h]
 simp only [m8,aA,s9,wi]
theorem find_eq {α:Type} (l:List α) (p:α->Bool) (hl:l.length<=1000000) (f:Int->Option (Int ⊕ (Unit ⊕ Int))) (hf: ∀ (n:Nat) (hn:n < l.length),f (n:Int)=if p l[n] then some (.inr (.inr (n:Int))) else some (.inl ((n+1:Nat):Int))) (he:f (l.length:Int)=some (.inr (.inl ()))): ∃ q,iter f 0=some q/\((q = .inl ()/\l.any p=false) \/ ∃ w:Int,q = .inr w/\0<=w/\l.any p=true):=by
 obtain ⟨q,h1,h2⟩:=ij (f:=f) (λi:Int=> ∃ n:Nat,i=n/\n<=l.length/\(l.take n).any p=false) (λi=>(l.length - i).toNat) (λq=>(q = .inl ()/\l.any p=false) \/ ∃ w:Int,q = .inr w/\0<=w/\l.any p=true) (by
  rintro i ⟨n,rfl,hn,ht⟩
  by_cases hlt:n < l.length
  ·by_cases hp:p l[n]=true
   ·refine .inr ⟨.inr (n:Int),by rw [hf n hlt,if_pos hp],.inr ⟨_,rfl,by omega,List.any_eq_true.2 ⟨l[n],List.getElem_mem hlt,hp⟩⟩⟩
   ·refine .inl ⟨((n+1:Nat):Int),by rw [hf n hlt,if_neg hp],⟨n+1,rfl,hlt,?_⟩,by omega⟩
    rw [List.take_succ_eq_append_getElem hlt,List.any_append,ht]
    simpa using hp
  ·have hnl:n=l.length:=by omega
   subst hnl
   refine .inr ⟨.inl (),he,.inl ⟨rfl,?_⟩⟩
   rwa [List.take_length] at ht) 0 ⟨0,rfl,by omega,rfl⟩
 exact ⟨q,h1,h2⟩
theorem yV (l:List aH) (hl:l.length<=1000000) (h: ∀ g∈l,rok g.rune):bP l=some (l.any λg=> !okG g.rune g.bD):=by
 unfold bP cC
 have hlen:l.length=l.length:=rfl
 obtain ⟨q,h1,h2⟩:=find_eq l (λg=> !okG g.rune g.bD) hl (λa=>(bif (decide (a < (l.length:Int))) then (Option.bind (idx l a) λb=>(Option.bind (fr b) λc=>(bif c then (eT (some a)) else some (.inl (IntKind.i64.wrap (a+1)))))) else some (.inr (.inl ())))) (by
  intro n hn
  unfold fr
  rw [decide_eq_true (by omega),cond_true,bQ l n hn,aA,td _ _ (h _ (List.getElem_mem hn)),aA,aA,w64 (by omega) (by omega)]
  cases okG l[n].rune l[n].bD <;> rfl) (by
  rw [decide_eq_false (by omega),cond_false])
 rw [h1,aA]
 rcases h2 with ⟨rfl,h3⟩ | ⟨w,rfl,h4,h3⟩
 ·rw [h3]
  rfl
 ·rw [h3]
  show some (decide (w>=0))=some true
  rw [decide_eq_true h4]
theorem yW (l:List aI) (hl:l.length<=1000000) (h:okR l):bH l=some (l.any λc=> !okC c):=by
 unfold bH cF
 obtain ⟨q,h1,h2⟩:=find_eq l (λc=> !okC c) hl (λa=>(bif (decide (a < (l.length:Int))) then (Option.bind (idx l a) λb=>(Option.bind (fu b) λd=>(bif d then (eT (some a)) else some (.inl (IntKind.i64.wrap (a+1)))))) else some (.inr (.inl ())))) (by
  intro n hn
  unfold fu
  rw [decide_eq_true (by omega),cond_true,bQ l n hn,aA,wo _ (h _ (List.getElem_mem hn)),aA,aA,w64 (by omega) (by omega)]
  cases okC l[n] <;> rfl) (by
  rw [decide_eq_false (by omega),cond_false])
 rw [h1,aA]
 rcases h2 with ⟨rfl,h3⟩ | ⟨w,rfl,h4,h3⟩
 ·rw [h3]
  rfl
 ·rw [h3]
  show some (decide (w>=0))=some true
  rw [decide_eq_true h4]
theorem vf {α:Type} (l:List α) (p:α->Bool):(l.any λx=> !p x) = !(l.all p):=by
 induction l with
 | nil=>rfl
 | cons a l ih=>rw [List.any_cons,List.all_cons,ih,Bool.not_and]
theorem tf (s:aK) (h:SW s):eN s=some (if kX s then 0 else 1):=by
 unfold eN kX
 rw [empty_eq,aA]
 cases he:fX s with
 | true =>
  rw [cond_true]
  rfl
 | false =>
  rw [cond_false,xB s h,aA,yV _ (by have:=h.bl; omega) h.gl,aA,bor,aA,vf]
  cases hs:kW s with
  | false=>rfl
  | true =>
   cases hg:(s.begun.all λg=>okG g.rune g.bD) with
   | false=>rfl
   | true =>
    show Option.bind (iter _ 0) _=some (if s.rows.all (lZ s.w)=true then 0 else 1)
    have hrl:=h.rl
    refine pU (λi:Int=> ∃ n:Nat,i=n/\n<=s.rows.length/\(s.rows.take n).all (lZ s.w)=true) (λi=>(s.rows.length - i).toNat) (λq=>q=if s.rows.all (lZ s.w)=true then .inl () else .inr 1) ⟨0,rfl,by omega,rfl⟩ ?_ ?_
    ·rintro i ⟨n,rfl,hn,ht⟩
     by_cases hlt:n < s.rows.length
     ·have hro:=h.ro _ (List.getElem_mem hlt)
      have hcond:((bif ((s.rows[n].cells.length:Int) != s.w) then some true else (Option.bind (bH s.rows[n].cells) λa=>some a)):Option Bool)=some (!lZ s.w s.rows[n]):=by
       rw [yW _ (by omega) hro.1,aA,bor,vf]
       unfold lZ
       rw [Bool.not_and]
       rfl
      try dsimp only
      rw [decide_eq_true (by omega),cond_true,bQ _ _ hlt,aA,hcond,aA,w64 (by omega) (by omega)]
      cases hb:lZ s.w s.rows[n] with
      | true =>
       refine .inl ⟨((n+1:Nat):Int),rfl,⟨n+1,rfl,hlt,?_⟩,by omega⟩
       rw [List.take_succ_eq_append_getElem hlt,List.all_append,ht]
       simp [hb]
      | false =>
       refine .inr ⟨.inr 1,rfl,?_⟩
       rw [if_neg]
       intro hall
       have:=List.all_eq_true.1 hall _ (List.getElem_mem hlt)
       rw [hb] at this
       cases this
     ·refine .inr ⟨.inl (),?_,?_⟩
      ·try dsimp only
       rw [decide_eq_false (by omega),cond_false]
      ·have hnl:n=s.rows.length:=by omega
       subst hnl
       rw [List.take_length] at ht
       rw [if_pos ht]
    ·rintro q rfl
     by_cases hall:s.rows.all (lZ s.w)=true
     ·rw [if_pos hall,if_pos hall]
     ·rw [if_neg hall,if_neg hall]
def tg (g:aH):aU:=⟨g.rune,g.bD⟩
@[reducible] def eW (s:aK):bK:=⟨s.k,s.w,s.h,s.x,s.y,s.title,s.rows.map told,s.len,s.chain,s.begun.map tg⟩
theorem qX (s:aK):iG (eW s)=some (fX s):=by
 unfold iG fX eW
 simp only [s9,aA,List.length_map]
theorem AG (r s:Int):(decide (r < 0) || (decide (r > 1114111) || (decide (s < 0) || decide (s > 647)))) = !okG r s:=by
 rw [Bool.eq_iff_iff,Bool.not_eq_true',<- Bool.not_eq_true]
 simp only [okG,Bool.or_eq_true,Bool.and_eq_true,decide_eq_true_eq]
 omega
theorem AH (c:aI):(decide (c.rune < 0) || (decide (c.rune > 1114111) || (decide (c.bD < 0) || (decide (c.bD > 647) || (decide (c.part < 0) || decide (c.part > 3)))))) = !okC c:=by
 rw [Bool.eq_iff_iff,Bool.not_eq_true',<- Bool.not_eq_true]
 simp only [okC,okG,Bool.or_eq_true,Bool.and_eq_true,decide_eq_true_eq]
 omega
theorem p7 {α ρ:Type} (l:List α) (p:α->Bool) (bad:ρ) (f:Int->Option (Int ⊕ (Unit ⊕ ρ))) (hl:l.length<=1000000) (hf: ∀ (n:Nat) (hn:n < l.length),f (n:Int)=if p l[n] then some (.inl ((n+1:Nat):Int)) else some (.inr (.inr bad))) (he:f (l.length:Int)=some (.inr (.inl ()))):iter f 0=some (if l.all p=true then .inl () else .inr bad):=by
 obtain ⟨q,h1,h2⟩:=ij (f:=f) (λi:Int=> ∃ n:Nat,i=n/\n<=l.length/\(l.take n).all p=true) (λi=>(l.length - i).toNat) (λq=>q=if l.all p=true then .inl () else .inr bad) (by
  rintro i ⟨n,rfl,hn,ht⟩
  by_cases hlt:n < l.length
  ·by_cases hp:p l[n]=true
   ·refine .inl ⟨((n+1:Nat):Int),by rw [hf n hlt,if_pos hp],⟨n+1,rfl,hlt,?_⟩,by omega⟩
    rw [List.take_succ_eq_append_getElem hlt,List.all_append,ht]
    simp [hp]
   ·refine .inr ⟨.inr bad,by rw [hf n hlt,if_neg hp],?_⟩
    rw [if_neg]
    intro hall
    exact hp (List.all_eq_true.1 hall _ (List.getElem_mem hlt))
  ·have hnl:n=l.length:=by omega
   subst hnl
   rw [List.take_length] at ht
   exact .inr ⟨.inl (),he,by rw [if_pos ht]⟩) 0 ⟨0,rfl,by omega,rfl⟩
 rw [h1,h2]
theorem AI (c1 c2:Bool) (X out:Option Bool) (h1:(c1 || c2)=true->out=some false) (h2:(c1 || c2)=false->X=out):(bif c1 then some false else bif c2 then some false else X)=out:=by
 cases c1 with
 | true=>exact (h1 rfl).symm
 | false =>
  cases c2 with
  | true=>exact (h1 rfl).symm
  | false=>exact h2 rfl
theorem xC (s:aK) (h:SW s):jI (eW s)=some (kX s):=by
 have hrl:=h.rl
 have hbl:=h.bl
 have hRl:(s.rows.map told).length=s.rows.length:=List.length_map _
 have hBl:(s.begun.map tg).length=s.begun.length:=List.length_map _
 unfold jI kX
 rw [qX,aA]
 cases he:fX s with
 | true=>rfl
 | false =>
  have hS:((decide (s.k < 1) || (decide (s.k > 1152921504606846976) || (decide (s.w < 1) || (decide (s.w > 1000) || (decide (s.h < 1) || (decide (s.h > 1000) || (decide (s.x < 0) || (decide (s.x>=s.w) || (decide (s.y < 0) || (decide (s.y>=s.h) || (((s.rows.map told).length:Int) != s.h))))))))))) || (decide ((s.title.size:Int) > 200) || (decide (s.len < 0) || (decide (s.len > 1152921504606846976) || (decide (s.chain < 0) || (decide (s.chain > 281474976710656) || decide (((s.begun.map tg).length:Int) > 1024))))))) = !kW s:=by
   rw [Bool.eq_iff_iff,Bool.not_eq_true',<- Bool.not_eq_true]
   simp only [kW,wi,Bool.or_eq_true,Bool.and_eq_true,decide_eq_true_eq,beq_iff_eq,bne_iff_ne,ne_eq]
   omega
  rw [cond_false]
  dsimp only [eW]
  simp only [bor,aA]
  refine AI _ _ _ _ (λhh=> ?_) (λhh=> ?_)
  ·have hz:kW s=false:=by
    have h2:(!kW s)=true:=hS.symm.trans hh
    simpa using h2
   rw [hz]
   rfl
  ·have hz:kW s=true:=by
    have h2:(!kW s)=false:=hS.symm.trans hh
    simpa using h2
   rw [hz]
   ·skip
    rw [p7 s.begun (λg=>okG g.rune g.bD) false _ (by have:=h.bl; omega) (λn hn=> ?hf1) ?he1,aA]
    ·cases hg:(s.begun.all λg=>okG g.rune g.bD) with
     | false=>rfl
     | true =>
      rw [if_pos rfl]
      dsimp only
      rw [p7 s.rows (lZ s.w) false _ (by have:=h.rl; omega) (λn hn=> ?hf2) ?he2,aA]
      ·cases s.rows.all (lZ s.w) <;> rfl
      case hf2 =>
       have hro:=h.ro _ (List.getElem_mem hn)
       rw [decide_eq_true (by omega),cond_true,bQ _ _ (by simpa using hn),aA,List.getElem_map]
       have htl:(told s.rows[n]).l=s.rows[n].cells.map tc:=rfl
       rw [htl,eV]
       by_cases hw:(s.rows[n].cells.length:Int)=s.w
       ·have hb:((s.rows[n].cells.length:Int) != s.w)=false:=by simpa using hw
        have hb2:((s.rows[n].cells.length:Int) == s.w)=true:=by simpa using hw
        rw [hb,cond_false]
        rw [p7 s.rows[n].cells okC (.inr (.inr false)) _ (by omega) (λk hk=> ?hf3) ?he3,aA]
        ·unfold lZ
         rw [hb2,Bool.true_and]
         cases s.rows[n].cells.all okC with
         | true =>
          rw [if_pos rfl,if_pos rfl]
          dsimp only
          rw [w64 (by omega) (by omega)]
          rfl
         | false=>rfl
        case hf3 =>
         rw [decide_eq_true (by omega),cond_true,bQ _ _ (by simpa using hk),aA,List.getElem_map]
         show (bif (decide ((s.rows[n].cells[k]).rune < 0) || (decide ((s.rows[n].cells[k]).rune > 1114111) || (decide ((s.rows[n].cells[k]).bD < 0) || (decide ((s.rows[n].cells[k]).bD > 647) || (decide ((s.rows[n].cells[k]).part < 0) || decide ((s.rows[n].cells[k]).part > 3)))))) then _ else _)=_
         rw [AH,w64 (by omega) (by omega)]
         cases okC s.rows[n].cells[k] <;> rfl
        case he3 =>
         rw [decide_eq_false (by omega),cond_false]
       ·have hb:((s.rows[n].cells.length:Int) != s.w)=true:=by simpa using hw
        have hb2:((s.rows[n].cells.length:Int) == s.w)=false:=by simpa using hw
        rw [hb,cond_true]
        unfold lZ
        rw [hb2,Bool.false_and]
        rfl
      case he2 =>
       rw [decide_eq_false (by omega),cond_false]
    case hf1 =>
     rw [decide_eq_true (by omega),cond_true,bQ _ _ (by simpa using hn),aA,List.getElem_map]
     show (bif (decide ((s.begun[n]).rune < 0) || (decide ((s.begun[n]).rune > 1114111) || (decide ((s.begun[n]).bD < 0) || decide ((s.begun[n]).bD > 647)))) then _ else _)=_
     rw [AG,w64 (by omega) (by omega)]
     cases okG s.begun[n].rune s.begun[n].bD <;> rfl
    case he1 =>
     rw [decide_eq_false (by omega),cond_false]
theorem rJ (b:List Int) (s:ByteArray) (hb:b.length+s.size<=10000000):fS ⟨b⟩ [s]=some ⟨b++sbs s⟩:=by
 unfold fS
 rw [bS (s':=((⟨b++sbs s⟩:bR),(1:Int)))]
 ·rw [bB (r:=(⟨b++sbs s⟩:bR))]
  ·rfl
  ·dsimp only
   rw [decide_eq_false (by simp),cond_false]
 ·dsimp only
  have h0:idx [s] 0=some s:=rfl
  rw [decide_eq_true (by simp),cond_true,h0,aA,bO (by omega),aA]
  rfl
theorem th (b:List Int) (s:ByteArray) (hb:b.length+s.size<=1000000):gm ⟨b⟩ [s]=some ⟨b++(bV s.size++sbs s)⟩:=by
 unfold gm
 have he:=bW (s.size:Int)
 rw [bS (s':=((⟨b++(bV s.size++sbs s)⟩:bR),(1:Int)))]
 ·rw [bB (r:=(⟨b++(bV s.size++sbs s)⟩:bR))]
  ·rfl
  ·dsimp only
   rw [decide_eq_false (by simp),cond_false]
 ·dsimp only
  have h0:idx [s] 0=some s:=rfl
  rw [decide_eq_true (by simp),cond_true,h0,aA,ke _ _ (by simp; omega),aA]
  simp only [List.flatMap_cons,List.flatMap_nil,List.append_nil]
  rw [rJ _ _ (by rw [List.length_append]; omega),aA,List.append_assoc]
  rfl
def m9 (g:aH):List Int:=[g.rune,g.bD].flatMap bV
def jM (l:List aH):List Int:=bV l.length++l.flatMap m9
theorem xD (g:aH):(m9 g).length<=18:=by
 unfold m9
 simp only [List.flatMap_cons,List.flatMap_nil,List.length_append,List.length_nil]
 have h1:=bW g.rune
 have h2:=bW g.bD
 omega
theorem oC (l:List aH):(l.flatMap m9).length<=18*l.length:=by
 induction l with
 | nil=>simp
 | cons a t ih =>
  rw [List.flatMap_cons,List.length_append,List.length_cons]
  have:=xD a
  omega
theorem xE (l:List aH) (h:l.length<=2000) (hr: ∀ g∈l,rok g.rune):jE l=some (cZ (jM l)):=by
 unfold jE dZ jM
 have he:=bW (l.length:Int)
 rw [ke [] _ (by simp),aA]
 have e0:([]++[(l.length:Int)].flatMap bV)=bV l.length:=by simp
 rw [e0]
 refine fc (λi=>((⟨bV l.length++(l.take i).flatMap m9⟩:bR),(i:Int))) l.length (⟨bV l.length++l.flatMap m9⟩:bR) (by simp) ?_ ?_ rfl
 ·intro i hi
  dsimp only
  have h2:=oC (l.take i)
  rw [List.length_take] at h2
  rw [decide_eq_true (by omega),cond_true,bQ _ _ hi,aA,w32 (hr _ (List.getElem_mem hi)),ke _ _ (by simp only [List.length_append,List.length_cons,List.length_nil]; omega),aA,w64 (by omega) (by omega),List.take_succ_eq_append_getElem hi,List.flatMap_append,List.flatMap_singleton,List.append_assoc]
  rfl
 ·dsimp only
  rw [decide_eq_false (by omega),cond_false,List.take_length]
theorem wq (l:List aH) (h:l.length<=2000):lL (l.map tg)=some (cZ (jM l)):=by
 unfold lL jM
 have he:=bW (l.length:Int)
 rw [List.length_map,ja,aA]
 refine fc (λi=>((i:Int),cZ (bV l.length++(l.take i).flatMap m9))) l.length (cZ (bV l.length++l.flatMap m9)) (by simp) ?_ ?_ rfl
 ·intro i hi
  dsimp only
  have h2:=oC (l.take i)
  rw [List.length_take] at h2
  have h3:=bW l[i].rune
  have h4:=bW l[i].bD
  rw [decide_eq_true (by omega),cond_true,bQ _ _ (by simpa using hi),aA,List.getElem_map]
  show Option.bind (bX l[i].rune) _=_
  rw [ja,aA]
  show Option.bind (bX l[i].bD) _=_
  rw [ja,aA,eZ (by rw [bN,bN]; omega),aA,<- dV,eZ (by rw [bN,bN,List.length_append,List.length_append]; omega),aA,<- dV,w64 (by omega) (by omega),List.take_succ_eq_append_getElem hi,List.flatMap_append,List.flatMap_singleton,List.append_assoc]
  have hE:m9 l[i]=bV l[i].rune++bV l[i].bD:=by unfold m9; simp
  rw [hE]
  rfl
 ·dsimp only
  rw [decide_eq_false (by omega),cond_false,List.take_length]
def kr (s:aK):List Int:=[s.k,s.w,s.h,s.x,s.y].flatMap bV++(bV s.title.size++sbs s.title)++[s.len,s.chain].flatMap bV++jM s.begun
def oY (s:aK):List Int:=kr s++s.rows.flatMap eF
theorem oD (s:aK) (h:SW s):(kr s).length<=52000:=by
 unfold kr jM
 simp only [List.flatMap_cons,List.flatMap_nil,List.length_append,List.length_nil,aQ]
 have a1:=bW s.k
 have a2:=bW s.w
 have a3:=bW s.h
 have a4:=bW s.x
 have a5:=bW s.y
 have a6:=bW (s.title.size:Int)
 have a7:=bW s.len
 have a8:=bW s.chain
 have a9:=bW (s.begun.length:Int)
 have b1:=oC s.begun
 have b2:=h.bl
 have b3:=h.tl
 omega
theorem vg (l:List aP) (i:Nat):((l.take i).flatMap eF).length<=(l.flatMap eF).length:=by
 have:l.flatMap eF=(l.take i).flatMap eF++(l.drop i).flatMap eF:=by rw [<- List.flatMap_append,List.take_append_drop]
 rw [this,List.length_append]
 omega
def g0 (s:aK):ByteArray:=if fX s=true\/kX s=false then noS else cZ (oY s)
theorem vh (s:aK) (h:SW s) (hp:(s.rows.flatMap eF).length<=1000000):fA s=some (g0 s):=by
 unfold fA g0
 have hc:((Option.bind (eM s) λa=>(bif a then some true else (Option.bind (eN s) λc=>some (c != 0)))):Option Bool)=some (fX s || !kX s):=by
  rw [empty_eq,aA,tf s h,aA]
  cases fX s <;> cases kX s <;> rfl
 rw [hc,aA]
 by_cases hb:fX s=true\/kX s=false
 ·rw [if_pos hb]
  have:(fX s || !kX s)=true:=by
   rcases hb with hb | hb <;> simp [hb]
  rw [this,cond_true]
  rfl
 ·rw [if_neg hb]
  have hne:fX s=false:=by cases he:fX s with | true=>exact absurd (.inl he) hb | false=>rfl
  have hm:kX s=true:=by cases he:kX s with | false=>exact absurd (.inr he) hb | true=>rfl
  rw [hne,hm]
  show Option.bind (cP ⟨[]⟩ [s.k,s.w,s.h,s.x,s.y]) _=_
  have hpl:=oD s h
  have htl:=h.tl
  have hph:(kr s).length=([s.k,s.w,s.h,s.x,s.y].flatMap bV).length+((bV s.title.size++sbs s.title).length+(([s.len,s.chain].flatMap bV).length+(jM s.begun).length)):=by
   unfold kr
   rw [List.length_append,List.length_append,List.length_append]
   omega
  have hts:(bV s.title.size++sbs s.title).length=(bV s.title.size).length+s.title.size:=by rw [List.length_append,aQ]
  have hbs: ∀ b∈jM s.begun,0<=b/\b < 256:=by
   intro b hb
   unfold jM at hb
   rcases List.mem_append.1 hb with hb | hb
   ·exact lj _ b hb
   ·obtain ⟨g,_,hg⟩:=List.mem_flatMap.1 hb
    unfold m9 at hg
    obtain ⟨x,_,hx⟩:=List.mem_flatMap.1 hg
    exact lj _ b hx
  rw [ke _ _ (by simp),aA,List.nil_append,th _ _ (by omega),aA,ke _ _ (by rw [List.length_append]; simp only [List.length_cons,List.length_nil]; omega),aA,xE _ h.bl h.gl,aA,rJ _ _ (by rw [bN,List.length_append,List.length_append]; omega),aA,jb _ hbs]
  have hhead:[s.k,s.w,s.h,s.x,s.y].flatMap bV++(bV s.title.size++sbs s.title)++[s.len,s.chain].flatMap bV++jM s.begun=kr s:=rfl
  rw [hhead]
  refine fc (λi=>((⟨kr s++(s.rows.take i).flatMap eF⟩:bR),(i:Int))) s.rows.length (⟨oY s⟩:bR) (by simp) ?_ ?_ rfl
  ·intro i hi
   have hro:=h.ro _ (List.getElem_mem hi)
   have hl1:=vg s.rows (i+1)
   rw [List.take_succ_eq_append_getElem hi,List.flatMap_append,List.flatMap_singleton,List.length_append] at hl1
   have hrl:=h.rl
   have hbr: ∀ b∈eF s.rows[i],0<=b/\b < 256:=by
    intro b hb
    unfold eF at hb
    rcases List.mem_append.1 hb with hb | hb
    ·exact lj _ b hb
    ·obtain ⟨g,_,hg⟩:=List.mem_flatMap.1 hb
     unfold gv at hg
     obtain ⟨x,_,hx⟩:=List.mem_flatMap.1 hg
     exact lj _ b hx
   dsimp only
   rw [decide_eq_true (by omega),cond_true,bQ _ _ hi,aA,uk _ hro.2 hro.1,aA,rJ _ _ (by rw [bN,List.length_append]; omega),aA,jb _ hbr,w64 (by omega) (by omega),List.take_succ_eq_append_getElem hi,List.flatMap_append,List.flatMap_singleton,List.append_assoc]
   rfl
  ·have hrl:=h.rl
   dsimp only
   rw [decide_eq_false (by omega),cond_false,List.take_length]
   rfl
def rK (j:aE) (n:Int):ByteArray×aE:=if j.e≠0 then (noS,j) else if n > j.s.size then (noS,⟨noS,2⟩) else (fR j.s 0 n,⟨fR j.s n j.s.size,0⟩)
def ku (i:aE):ByteArray×aE:=rK (rdS i).2 (rdS i).1
theorem vi:fR noS 0 0=noS:=by
 apply mD
 have:=gP noS 0 0
 exact this
theorem AJ (j:aE) (n:Int) (h:VI j) (h0:0<=n) (he:j.e≠0->n=0):iY j n=some (rK j n):=by
 obtain ⟨s,e⟩:=j
 unfold iY rK
 have hm:imax 0 n=n:=by rw [ru]; omega
 have hsz:=h.1
 rw [hm]
 dsimp only at *
 by_cases hz:e=0
 ·subst hz
  rw [if_neg (by simp)]
  by_cases hb:n > s.size
  ·rw [decide_eq_true hb,cond_true,if_pos hb,lk _ _ (by decide),aA]
   rfl
  ·rw [decide_eq_false hb,cond_false,if_neg hb,dG (by omega) (by omega) (by omega),aA,dG (by omega) (by omega) (by omega),aA]
 ·obtain rfl:=he hz
  obtain rfl:s=noS:=h.2.resolve_left hz
  rw [if_pos hz,decide_eq_false (by decide),cond_false,dG (by decide) (by decide) (by decide),aA,dG (by decide) (by decide) (by decide),aA]
  have h2:fR noS 0 (noS.size:Int)=noS:=vi
  rw [vi,h2]
theorem vj (i:aE) (h:VI i):fT i=some (ku i):=by
 unfold fT ku
 rw [gV i h,aA,AJ _ _ (eC h) (iJ h).1 (λhe=>m4 he),aA]
theorem wu (i:aE) (h:VI i):iw (asR i)=some (asR (ku i).2,(ku i).1):=by
 unfold iw ku
 rw [gj i h,aA]
 have hr:=iJ h
 have hV:=eC h
 generalize (rdS i).1=n at hr
 generalize (rdS i).2=j at hV
 obtain ⟨s,e⟩:=j
 have hsz:=hV.1
 dsimp only at *
 unfold oW rK asR
 have hm:imax 0 n=n:=by rw [ru]; omega
 rw [hm]
 dsimp only
 by_cases hz:e=0
 ·subst hz
  have e0:((0:Int) != 0)=false:=rfl
  rw [e0,cond_false,if_neg (by simp)]
  by_cases hb:n > s.size
  ·rw [decide_eq_true hb,cond_true,if_pos hb]
   rfl
  ·rw [decide_eq_false hb,cond_false,if_neg hb,dG (by omega) (by omega) (by omega),aA,dG (by omega) (by omega) (by omega),aA]
   rfl
 ·have e0:(e != 0)=true:=by simpa using hz
  rw [e0,cond_true,if_pos hz]
  rfl
theorem oE {i:aE} (h:VI i):VI (ku i).2:=by
 unfold ku rK
 have hV:=eC h
 split
 ·exact hV
 ·split
  ·exact ⟨by show noS.size<=1000000; decide,.inr rfl⟩
  ·refine ⟨?_,.inl rfl⟩
   have hr:=iJ h
   obtain ⟨n,hn⟩:=Int.eq_ofNat_of_zero_le hr.1
   show (fR (rdS i).2.s (rdS i).1 (rdS i).2.s.size).size<=1000000
   rw [hn,<- aQ,gP,List.length_drop,List.length_take,aQ]
   have:=hV.1
   omega
theorem p8 {i:aE} (h:VI i) {m:Nat} (hm:i.s.size<=m):(ku i).1.size<=m/\(i.e=0\/i.s=noS):=by
 refine ⟨?_,h.2⟩
 unfold ku rK
 split
 ·exact Nat.zero_le _
 ·split
  ·exact Nat.zero_le _
  ·rename_i he hn
   have he':(rdS i).2.e=0:=by simpa using he
   obtain ⟨_,w,hw,_,hb⟩:=qT he' h
   have hl:=congrArg List.length hb
   rw [List.length_append,aQ,aQ] at hl
   show (fR (rdS i).2.s 0 (rdS i).1).size<=m
   rw [hw,show (0:Int)=((0:Nat):Int) from rfl,<- aQ,gP,List.length_drop,List.length_take,aQ]
   omega
theorem AK {i:aE} (h:VI i) (he:(ku i).2.e=0):i.e=0/\sbs i.s=bV (ku i).1.size++sbs (ku i).1++sbs (ku i).2.s:=by
 unfold ku rK at *
 by_cases h1:(rdS i).2.e=0
 ·rw [if_neg (by simpa using h1)] at he ⊢
  by_cases h2:(rdS i).1 > (rdS i).2.s.size
  ·rw [if_pos h2] at he
   exact absurd he (by decide)
  ·rw [if_neg h2] at he ⊢
   obtain ⟨e0,w,hw,hm,hb⟩:=qT h1 h
   refine ⟨e0,?_⟩
   rw [hw] at h2 ⊢
   have hs1:sbs (fR (rdS i).2.s 0 (w:Int))=(sbs (rdS i).2.s).take w:=by
    have:=gP (rdS i).2.s 0 w
    simpa using this
   have hs2:sbs (fR (rdS i).2.s (w:Int) (rdS i).2.s.size)=(sbs (rdS i).2.s).drop w:=by
    rw [gP]
    congr 1
    exact List.take_of_length_le (by rw [aQ]; exact Nat.le_refl _)
   have hsz:(fR (rdS i).2.s 0 (w:Int)).size=w:=by
    rw [<- aQ,hs1,List.length_take,aQ]
    omega
   dsimp only
   rw [hsz,hs1,hs2,ik hm,List.append_assoc,List.take_append_drop]
   exact hb
 ·rw [if_pos h1] at he
  exact absurd he h1
def bkL:Nat->aE->List aH->List aH×aE
 | 0,i,l=>(l,i)
 | k+1,i,l=>bkL k (bG (bG i 1114111).2 647).2 (l++[⟨(bG i 1114111).1,(bG (bG i 1114111).2 647).1⟩])
def bkS (i:aE):List aH×aE:=if (bkL (bG i 1024).1.toNat (bG i 1024).2 []).2.e=0 then bkL (bG i 1024).1.toNat (bG i 1024).2 [] else ([],(bkL (bG i 1024).1.toNat (bG i 1024).2 []).2)
theorem uo: ∀ (k:Nat) (i:aE) (l:List aH),VI i->VI (bkL k i l).2
 | 0,i,l,h=>h
 | k+1,i,l,h=>uo k _ _ (eE _ (eE _ h))
theorem oF {i:aE} (h:VI i):VI (bkS i).2:=by
 unfold bkS
 split
 ·exact uo _ _ _ (eE _ h)
 ·exact uo _ _ _ (eE _ h)
theorem px: ∀ (k:Nat) (i:aE) (l:List aH),i.e≠0->(bkL k i l).2=i
 | 0,i,l,h=>rfl
 | k+1,i,l,h=>by
  unfold bkL
  have h1:=nJ h 1114111 (by omega)
  have h2:=nJ (i:=(bG i 1114111).2) (by rw [h1]; exact h) 647 (by omega)
  rw [px k _ _ (by rw [h2,h1]; exact h),h2,h1]
theorem tj (i:aE) (h:VI i):fK i=some (bkS i):=by
 unfold fK
 rw [rG h (by omega),aA]
 have hr:=fq (m:=1024) h (by omega)
 have hV:=eE 1024 h
 unfold bkS
 generalize (bG i 1024).2=j at hV
 obtain ⟨N,hN⟩:=Int.eq_ofNat_of_zero_le hr.1
 rw [hN] at hr ⊢
 rw [Int.toNat_natCast]
 have key: ∀ (k n:Nat) (j:aE) (l:List aH),n+k=N->VI j->l.length=n->iter (σ:=aE×(List aH)×Int) (ρ:=(List aH)×aE) (λa=>(bif (decide (a.2.2 < (N:Int))) then (Option.bind (eI a.1 1114111) λb=>(Option.bind (eI b.2 647) λc=>(Option.bind (chk (dK a.2.1.length [(aH.mk (IntKind.i32.wrap b.1) c.1)].length 16)) λ_=>some (.inl (c.2,(a.2.1++[(aH.mk (IntKind.i32.wrap b.1) c.1)]),(IntKind.i64.wrap (a.2.2+1))))))) else some (.inr (a.2.1,a.1)))) (j,l,(n:Int))=some (bkL k j l):=by
  intro k
  induction k with
  | zero =>
   intro n j l hn hV hl
   refine bB ?_
   dsimp only
   rw [decide_eq_false (by omega),cond_false]
   rfl
  | succ k ih =>
   intro n j l hn hV hl
   have hA:=fq (m:=1114111) hV (by omega)
   have hw:IntKind.i32.wrap (bG j 1114111).1=(bG j 1114111).1:=by rw [IntKind.wrap_i32]; omega
   rw [bS (s':=((bG (bG j 1114111).2 647).2,l++[⟨(bG j 1114111).1,(bG (bG j 1114111).2 647).1⟩],((n+1:Nat):Int)))]
   ·rw [ih (n+1) _ _ (by omega) (eE _ (eE _ hV)) (by simp [hl])]
    rfl
   ·dsimp only
    rw [decide_eq_true (by omega),cond_true,rG hV (by omega),aA,rG (eE _ hV) (by omega),aA,hw,bO (by simp; omega),aA,w64 (by omega) (by omega)]
    rfl
 have:=key N 0 j [] (by omega) hV rfl
 rw [show ((0:Nat):Int)=0 from rfl] at this
 rw [this,aA]
 unfold cE
 rw [aA]
 by_cases he:(bkL N j []).2.e=0
 ·have hb:((bkL N j []).2.e != 0)=false:=by simpa using he
  rw [hb,cond_false,if_pos he]
 ·have hb:((bkL N j []).2.e != 0)=true:=by simpa using he
  rw [hb,cond_true,if_neg he]
def xF (r:List aH×aE):List aH×aE:=if r.2.e=0 then r else ([],r.2)
theorem p9 {k:Nat} {i:aE} {l:List aH} (h:i.e≠0):xF (bkL k i l)=([],i):=by
 unfold xF
 rw [px k i l h,if_neg h]
theorem wv (i:aE) (h:VI i):kd (asR i)=some (asR (bkS i).2,(bkS i).1.map tg):=by
 have hfin:bkS i=xF (bkL (bG i 1024).1.toNat (bG i 1024).2 []):=rfl
 unfold kd
 rw [gj i h,aA]
 dsimp only
 rw [lq,rI,aA]
 by_cases hb:(rdS i).2.e=0/\(rdS i).1 > 1024
 ·rw [decide_eq_true hb,cond_true,hfin]
  have hl:bG i 1024=(0,iB):=by unfold bG; rw [if_pos hb.2]
  rw [hl]
  rfl
 ·rw [decide_eq_false hb,cond_false]
  have hr:=iJ h
  have hle:(rdS i).1<=1024:=by
   by_cases he:(rdS i).2.e=0
   ·omega
   ·rw [m4 he]
    omega
  have hl:bG i 1024=rdS i:=by unfold bG; rw [if_neg (by omega)]
  rw [hfin,hl]
  have hV:=eC h
  generalize (rdS i).2=j at hV
  obtain ⟨N,hN⟩:=Int.eq_ofNat_of_zero_le hr.1
  rw [hN] at hle ⊢
  rw [Int.toNat_natCast]
  have key: ∀ (k n:Nat) (j:aE) (l:List aH) (f:aX×(List aU)×Int->Option ((aX×(List aU)×Int) ⊕ (((List aU)×aX) ⊕ (aX×(List aU))))),f=(λ(s182:aX×(List aU)×Int)=>(Option.bind ((bif (decide (s182.2.2 < (N:Int))) then some (s182.1.e == 0) else some false):Option Bool) λg=>(bif g then (Option.bind (bC s182.1) λb=>(Option.bind ((bif (b.1.e == 0) then some (decide (b.2 > 1114111)) else some false):Option Bool) λc=>(bif c then (eT (some ((aX.mk (ByteArray.mk #[]) 1),([]:List aU)))) else (Option.bind (bC b.1) λa=>(Option.bind ((bif (a.1.e == 0) then some (decide (a.2 > 647)) else some false):Option Bool) λd=>(bif d then (eT (some ((aX.mk (ByteArray.mk #[]) 1),([]:List aU)))) else (Option.bind (chk (dK s182.2.1.length [(aU.mk b.2 a.2)].length 16)) λ_=>some (.inl (a.1,(s182.2.1++[(aU.mk b.2 a.2)]),(IntKind.i64.wrap (s182.2.2+1))))))))))) else some (.inr (.inl (s182.2.1,s182.1))))))->n+k=N->VI j->l.length=n ->
    ∃ q,iter f (asR j,l.map tg,(n:Int))=some q/\((∃ l' j',q = .inl (l'.map tg,asR j')/\xF (bkL k j l)=(if j'.e=0 then (l',j') else ([],j')))\/(∃ j',q = .inr (asR j',[])/\xF (bkL k j l)=([],j'))):=by
   intro k
   induction k with
   | zero =>
    intro n j l f hf hn hV hl
    refine ⟨.inl (l.map tg,asR j),?_,.inl ⟨l,j,rfl,rfl⟩⟩
    refine bB ?_
    subst hf
    dsimp only
    rw [lq,kJ,decide_eq_false (by omega),aA,cond_false]
   | succ k ih =>
    intro n j l f hf hn hV hl
    by_cases he:j.e=0
    ·have hVr:=eC hV
     have hstep:f (asR j,l.map tg,(n:Int))=(Option.bind ((bif ((asR (rdS j).2).e == 0) then some (decide ((rdS j).1 > 1114111)) else some false):Option Bool) λc=>(bif c then (eT (some ((aX.mk (ByteArray.mk #[]) 1),([]:List aU)))) else (Option.bind (bC (asR (rdS j).2)) λa=>(Option.bind ((bif (a.1.e == 0) then some (decide (a.2 > 647)) else some false):Option Bool) λd=>(bif d then (eT (some ((aX.mk (ByteArray.mk #[]) 1),([]:List aU)))) else (Option.bind (chk (dK (l.map tg).length [(aU.mk (rdS j).1 a.2)].length 16)) λ_=>some (.inl (a.1,((l.map tg)++[(aU.mk (rdS j).1 a.2)]),(IntKind.i64.wrap ((n:Int)+1)))))))))):=by
      subst hf
      dsimp only
      rw [lq,kJ,decide_eq_true ⟨by omega,he⟩,aA,cond_true,gj j hV,aA]
     rw [lq,rI] at hstep
     by_cases hb1:(rdS j).2.e=0/\(rdS j).1 > 1114111
     ·refine ⟨.inr (asR iB,[]),?_,.inr ⟨iB,rfl,?_⟩⟩
      ·refine bB ?_
       rw [hstep,decide_eq_true hb1,aA,cond_true]
       rfl
      ·have h1:bG j 1114111=(0,iB):=by unfold bG; rw [if_pos hb1.2]
       unfold bkL
       rw [h1]
       have h2:(bG iB 647).2=iB:=nJ (by decide) 647 (by omega)
       dsimp only
       rw [h2,p9 (by decide)]
     ·have hle1:(rdS j).1<=1114111:=by
       by_cases he2:(rdS j).2.e=0
       ·omega
       ·rw [m4 he2]
        omega
      have h1:bG j 1114111=rdS j:=by unfold bG; rw [if_neg (by omega)]
      rw [decide_eq_false hb1,aA,cond_false,gj _ hVr,aA] at hstep
      dsimp only at hstep
      rw [lq,rI] at hstep
      by_cases hb2:(rdS (rdS j).2).2.e=0/\(rdS (rdS j).2).1 > 647
      ·refine ⟨.inr (asR iB,[]),?_,.inr ⟨iB,rfl,?_⟩⟩
       ·refine bB ?_
        rw [hstep,decide_eq_true hb2,aA,cond_true]
        rfl
       ·have h2:bG (rdS j).2 647=(0,iB):=by unfold bG; rw [if_pos hb2.2]
        unfold bkL
        rw [h1,h2,p9 (by decide)]
      ·have hle2:(rdS (rdS j).2).1<=647:=by
        by_cases he2:(rdS (rdS j).2).2.e=0
        ·omega
        ·rw [m4 he2]
         omega
       have h2:bG (rdS j).2 647=rdS (rdS j).2:=by unfold bG; rw [if_neg (by omega)]
       obtain ⟨q,hq1,hq2⟩:=ih (n+1) (rdS (rdS j).2).2 (l++[(aH.mk (rdS j).1 (rdS (rdS j).2).1)]) f hf (by omega) (eC hVr) (by simp [hl])
       refine ⟨q,?_,?_⟩
       ·rw [bS (s':=(asR (rdS (rdS j).2).2,(l++[(aH.mk (rdS j).1 (rdS (rdS j).2).1)]).map tg,((n+1:Nat):Int)))]
        ·exact hq1
        ·rw [hstep,decide_eq_false hb2,aA,cond_false,bO (by simp; omega),aA,w64 (by omega) (by omega),List.map_append]
         rfl
       ·unfold bkL
        rw [h1,h2]
        exact hq2
    ·refine ⟨.inl (l.map tg,asR j),?_,.inl ⟨l,j,rfl,?_⟩⟩
     ·refine bB ?_
      subst hf
      dsimp only
      rw [lq,kJ,decide_eq_false (λhh=>he hh.2),aA,cond_false]
     ·rw [p9 he,if_neg he]
  obtain ⟨q,hq1,hq2⟩:=key N 0 j [] _ rfl (by omega) hV rfl
  have hq1':iter _ (asR j,([]:List aU),(0:Int))=some q:=hq1
  rw [hq1',aA]
  rcases hq2 with ⟨l',j',rfl,hf⟩ | ⟨j',rfl,hf⟩
  ·rw [hf]
   dsimp only
   by_cases he:j'.e=0
   ·have hb:((asR j').e != 0)=false:=by simpa [asR] using he
    rw [hb,cond_false,if_pos he]
   ·have hb:((asR j').e != 0)=true:=by simpa [asR] using he
    rw [hb,cond_true,if_neg he]
    rfl
  ·rw [hf]
   rfl
def hK (x:aK) (l:List aP):aK:=⟨x.k,x.w,x.h,x.x,x.y,x.title,l,x.len,x.chain,x.begun⟩
def gQ:aK:=⟨0,0,0,0,0,noS,[],0,0,[]⟩
def ju (i:aE):Int:=if i.s≠noS then 1 else i.e
theorem rL (i:aE):gC i=some (ju i):=by
 unfold gC ju
 have:(i.s.toList == (ByteArray.mk #[]).toList)=decide (i.s=noS):=nH i.s noS
 rw [this]
 by_cases h:i.s=noS
 ·rw [decide_eq_true h,if_neg (λhh=>hh h)]; rfl
 ·rw [decide_eq_false h,if_pos h]; rfl
def hA (s:ByteArray):=rdS ⟨s,0⟩
def hB (s:ByteArray):=bG (hA s).2 1000
def hC (s:ByteArray):=bG (hB s).2 1000
def hD (s:ByteArray):=rdS (hC s).2
def hE (s:ByteArray):=rdS (hD s).2
def hT (s:ByteArray):=ku (hE s).2
def SZ (m:Nat) (i:aE):Prop:=VI i/\i.s.size<=m
theorem jc {i:aE} {m:Nat} (h:SZ m i):SZ m (rdS i).2:=by
 refine ⟨eC h.1,?_⟩
 by_cases he:(rdS i).2.e=0
 ·obtain ⟨-,w, -, -,hw⟩:=qT he h.1
  have:=congrArg List.length hw
  rw [List.length_append,aQ,aQ] at this
  have:=h.2
  omega
 ·rcases (eC h.1).2 with h1 | h1
  ·exact absurd h1 he
  ·rw [h1]; exact Nat.zero_le _
theorem rM {i:aE} {m:Nat} (k:Int) (h:SZ m i):SZ m (bG i k).2:=by
 unfold bG
 split
 ·exact ⟨kq,Nat.zero_le _⟩
 ·exact jc h
theorem uq: ∀ (k:Nat) (i:aE) (l:List aH),VI i->(∀ g∈l,rok g.rune)->(∀ g∈(bkL k i l).1,rok g.rune)/\(bkL k i l).1.length=l.length+k
 | 0,i,l,h,hl=>⟨hl,rfl⟩
 | k+1,i,l,h,hl=>by
  unfold bkL
  have:=uq k (bG (bG i 1114111).2 647).2 (l++[⟨(bG i 1114111).1,(bG (bG i 1114111).2 647).1⟩]) (eE _ (eE _ h)) (by
   intro g hg
   rcases List.mem_append.1 hg with h1 | h1
   ·exact hl g h1
   ·rw [List.mem_singleton.1 h1]
    have:=fq (m:=1114111) h (by omega)
    unfold rok
    dsimp only
    omega)
  refine ⟨this.1,this.2.trans ?_⟩
  simp only [List.length_append,List.length_cons,List.length_nil]
  omega
theorem AL {i:aE} (h:VI i):(∀ g∈(bkS i).1,rok g.rune)/\(bkS i).1.length<=1024:=by
 unfold bkS
 have hr:=fq (m:=1024) h (by omega)
 have:=uq (bG i 1024).1.toNat (bG i 1024).2 [] (eE _ h) (by intro g hg; cases hg)
 split
 ·refine ⟨this.1,?_⟩
  rw [this.2]
  simp only [List.length_nil]
  omega
 ·exact ⟨λg hg=>(by cases hg),Nat.zero_le _⟩
theorem wx {α:Type} [DecidableEq α] (a b:List α) (hl:a.length=b.length) (f:Int->Option (Int ⊕ (Unit ⊕ Bool))) (hf: ∀ (n:Nat) (h1:n < a.length) (h2:n < b.length),f (n:Int)=if a[n]=b[n] then some (.inl ((n+1:Nat):Int)) else some (.inr (.inr false))) (he:f (a.length:Int)=some (.inr (.inl ()))):iter f 0=some (if a=b then .inl () else .inr false):=by
 obtain ⟨r,h1,h2⟩:=ij (f:=f) (λi:Int=> ∃ n:Nat,i=n/\n<=a.length/\a.take n=b.take n) (λi=>(a.length - i).toNat) (λr=>r=(if a=b then .inl () else .inr false)) (by
  rintro i ⟨n,rfl,hn,ht⟩
  by_cases h1:n < a.length
  ·have h2:n < b.length:=by omega
   by_cases he:a[n]=b[n]
   ·refine .inl ⟨((n+1:Nat):Int),?_,⟨n+1,rfl,by omega,?_⟩,by (try dsimp only); omega⟩
    ·rw [hf n h1 h2,if_pos he]
    ·rw [List.take_succ_eq_append_getElem h1,List.take_succ_eq_append_getElem h2,ht,he]
   ·refine .inr ⟨.inr false,?_,?_⟩
    ·rw [hf n h1 h2,if_neg he]
    ·rw [if_neg]
     intro hab
     subst hab
     exact he rfl
  ·refine .inr ⟨.inl (),?_,?_⟩
   ·have hn2:n=a.length:=by omega
    rw [hn2,he]
   ·rw [if_pos]
    have hn2:n=a.length:=by omega
    subst hn2
    rw [List.take_length] at ht
    rw [ht,hl,List.take_length]) 0 ⟨0,rfl,by omega,rfl⟩
 rw [h1,h2]
theorem oG (s:aK) (h:SW s):fm s=some s:=by
 unfold fm
 have hl:=h.rl
 refine fc (λi=>(s.rows.take i,(i:Int))) s.rows.length s.rows rfl ?_ ?_ ?_
 ·intro i hi
  dsimp only
  have hr:=(h.ro _ (List.getElem_mem hi)).2
  rw [decide_eq_true (by omega),cond_true,bQ _ _ hi,aA,xn _ (by omega),aA,bO (by simp; omega),aA,w64 (by omega) (by omega),List.take_succ_eq_append_getElem hi]
  rfl
 ·dsimp only
  rw [decide_eq_false (by omega),cond_false,List.take_length]
 ·have hb:=h.bl
  unfold cB
  rw [bO (by simp; omega),aA,aA]
  rfl
def BB (l:List Int):Prop:= ∀ b∈l,0<=b/\b < 256
theorem iE {a b:List Int} (h:BB a) (h2:BB b):BB (a++b):=by
 intro x hx
 rcases List.mem_append.1 hx with h' | h'
 ·exact h x h'
 ·exact h2 x h'
theorem jv (n:Int):BB (bV n):=lj _
theorem lQ (s:ByteArray):BB (sbs s):=nF s
theorem kf {α:Type} {l:List α} {f:α->List Int} (h: ∀ a∈l,BB (f a)):BB (l.flatMap f):=by
 intro x hx
 obtain ⟨a,ha,hx⟩:=List.mem_flatMap.1 hx
 exact h a ha x hx
theorem AM (p:Nat×aI):BB (gv p):=kf λa _=>jv a
theorem AN (r:aP):BB (eF r):=iE (jv _) (kf λa _=>AM a)
theorem BW (g:aH):BB (m9 g):=kf λa _=>jv a
def bI (l:List Int):aE:=⟨cZ l,0⟩
theorem ur {n:Int} (h0:0<=n) (h1:n<=4611686018427387904):bV n=fE n.toNat/\n.toNat<=most/\((n.toNat:Nat):Int)=n:=by
 have:((n.toNat:Nat):Int)=n:=by omega
 refine ⟨?_,by unfold most; omega,this⟩
 conv=>lhs; rw [<- this]
 exact ik (by unfold most; omega)
theorem xG {n:Int} {R:List Int} (hR:BB R) (h0:0<=n) (h1:n<=4611686018427387904):rdS (bI (bV n++R))=(n,bI R):=by
 obtain ⟨e,m,q⟩:=ur h0 h1
 have:=AE (cZ (bV n++R)) n.toNat R m (by rw [jb _ (iE (jv _) hR),e])
 rw [q] at this
 exact this
theorem By (t:ByteArray) {R:List Int} (hR:BB R) (ht:t.size<=100000):ku (bI (bV t.size++sbs t++R))=(t,bI R):=by
 unfold ku
 rw [List.append_assoc,xG (iE (lQ t) hR) (by omega) (by omega)]
 have hb:sbs (cZ (sbs t++R))=sbs t++R:=jb _ (iE (lQ t) hR)
 have hsz:(cZ (sbs t++R)).size=t.size+R.length:=by rw [<- aQ,hb,List.length_append,aQ]
 unfold rK bI
 dsimp only
 rw [if_neg (by simp),if_neg (by rw [hsz]; omega)]
 have h1:fR (cZ (sbs t++R)) 0 (t.size:Int)=t:=by
  apply mD
  have:=gP (cZ (sbs t++R)) 0 t.size
  rw [hb] at this
  refine Eq.trans this ?_
  have e:t.size=(sbs t).length:=(aQ t).symm
  rw [e,List.take_left,List.drop_zero]
 have h2:fR (cZ (sbs t++R)) (t.size:Int) ((cZ (sbs t++R)).size:Int)=cZ R:=by
  apply mD
  rw [gP,hb,jb _ hR,hsz,List.take_of_length_le (by rw [List.length_append,aQ]; exact Nat.le_refl _)]
  have e:t.size=(sbs t).length:=(aQ t).symm
  rw [e,List.drop_left]
 rw [h1,h2]
theorem vk (n:Nat):fE n≠[]:=by
 rw [fE]
 split <;> simp
theorem xH (s:aK):BB (kr s):=by
 unfold kr jM
 exact iE (iE (iE (kf λa _=>jv a) (iE (jv _) (lQ _))) (kf λa _=>jv a)) (iE (jv _) (kf λa _=>BW a))
theorem yX (l:List aP):BB (l.flatMap eF):=kf λa _=>AN a
theorem yY (s:aK):BB (oY s):=iE (xH s) (yX _)
theorem zV: ∀ (k:Nat) (i:aE) (l:List aH),(bkL k i l).2.e=0->i.e=0
 | k,i,l,h=>by
  by_cases he:i.e=0
  ·exact he
  ·rw [px _ _ _ he] at h
   exact h
theorem qY: ∀ (k:Nat) (i:aE) (l:List aH),VI i->(bkL k i l).2.e=0 -> ∃ D,(bkL k i l).1.flatMap m9=l.flatMap m9++D/\sbs i.s=D++sbs (bkL k i l).2.s
 | 0,i,l,h,he=>⟨[],by simp [bkL],by simp [bkL]⟩
 | k+1,i,l,h,he=>by
  unfold bkL at he ⊢
  have v1:=eE 1114111 h
  have v2:=eE 647 v1
  obtain ⟨D,d1,d2⟩:=qY k _ _ v2 he
  obtain ⟨h1,c2,q2,_,m2,b2⟩:=iC (zV _ _ _ he) v1
  obtain ⟨_,c1,q1,_,m1,b1⟩:=iC h1 h
  refine ⟨fE c1++fE c2++D,?_,?_⟩
  ·rw [d1,List.flatMap_append,List.flatMap_singleton,List.append_assoc]
   congr 2
   unfold m9
   simp only [List.flatMap_cons,List.flatMap_nil,List.append_nil,q1,q2,ik m1,ik m2]
  ·rw [b1,b2,d2]
   simp only [List.append_assoc]
theorem qZ {i:aE} (h:VI i) (he:(bkS i).2.e=0):i.e=0/\sbs i.s=jM (bkS i).1++sbs (bkS i).2.s:=by
 unfold bkS at he ⊢
 by_cases h0:(bkL (bG i 1024).1.toNat (bG i 1024).2 []).2.e=0
 ·rw [if_pos h0]
  have v1:=eE 1024 h
  obtain ⟨D,d1,d2⟩:=qY _ _ _ v1 h0
  obtain ⟨e0,c,q,_,m,b⟩:=iC (zV _ _ _ h0) h
  refine ⟨e0,?_⟩
  have hl:=(uq (bG i 1024).1.toNat (bG i 1024).2 [] v1 (by intro g hg; cases hg)).2
  unfold jM
  rw [hl,d1,b,d2,q,Int.toNat_natCast]
  simp only [List.length_nil,Nat.zero_add,List.flatMap_nil,List.nil_append,ik m,List.append_assoc]
 ·rw [if_neg h0] at he
  exact absurd he h0
def yZ (s:ByteArray) (n:Nat):ByteArray:=if s.size > n then fR s 0 n else s
theorem xI (s:ByteArray) (n:Nat):fQ s n=some (yZ s n):=by
 unfold fQ yZ
 by_cases h:s.size > n
 ·rw [decide_eq_true (by omega),cond_true,if_pos h,dG (by omega) (by omega) (by omega),aA]
 ·rw [decide_eq_false (by omega),cond_false,if_neg h]
theorem nM:SW gQ:=⟨by decide,by decide,λg hg=>(by cases hg),λr hr=>(by cases hr),by decide,by decide,by show noS.size<=12000; decide⟩
theorem xJ (s:aK):cZ (oY s)≠noS:=by
 intro h
 have h2:sbs (cZ (oY s))=[]:=by rw [h]; rfl
 rw [jb _ (yY s)] at h2
 unfold oY kr at h2
 simp only [List.append_eq_nil_iff,List.flatMap_cons] at h2
 exact vk _ h2.1.1.1.1.1
def na (a:Nat):Nat:=(a >>> 1) ^^^ (if a % 2=1 then 3988292384 else 0)
def me (a:Nat):Nat:=na (na (na (na a)))
theorem nf {a b:Nat} (ha:a < 4294967296) (hb:b < 4294967296):a ^^^ b < 4294967296:=Nat.xor_lt_two_pow (n:=32) ha hb
theorem nN {a:Nat} (h:a < 4294967296):na a < 4294967296:=by
 unfold na
 have:a >>> 1 < 4294967296:=by rw [Nat.shiftRight_eq_div_pow]; omega
 exact nf this (by split <;> omega)
theorem y1 (a b:Nat):(a ^^^ b) % 2=(a % 2+b % 2) % 2:=by
 have h:=Nat.testBit_xor a b 0
 rw [Nat.testBit_zero,Nat.testBit_zero,Nat.testBit_zero] at h
 have ha:a % 2=0\/a % 2=1:=by omega
 have hb:b % 2=0\/b % 2=1:=by omega
 have hc:(a ^^^ b) % 2=0\/(a ^^^ b) % 2=1:=by omega
 rcases ha with ha | ha <;> rcases hb with hb | hb <;> rcases hc with hc | hc <;> rw [ha,hb,hc] at h <;> first | (exact absurd h (by decide)) | (rw [ha,hb,hc])
theorem nO (a b:Nat):na (a ^^^ b)=na a ^^^ na b:=by
 unfold na
 rw [Nat.shiftRight_xor_distrib,y1]
 have ha:a % 2=0\/a % 2=1:=by omega
 have hb:b % 2=0\/b % 2=1:=by omega
 generalize a >>> 1=x
 generalize b >>> 1=y
 rcases ha with ha | ha <;> rcases hb with hb | hb <;> rw [ha,hb]
 ·simp
 ·simp [Nat.xor_assoc]
 ·simp only [Nat.zero_add,Nat.add_zero]
  simp
  rw [Nat.xor_assoc,Nat.xor_assoc,Nat.xor_comm y]
 ·simp
  have:x ^^^ 3988292384 ^^^ (y ^^^ 3988292384)=x ^^^ y ^^^ (3988292384 ^^^ 3988292384):=by
   rw [Nat.xor_assoc,Nat.xor_assoc,<- Nat.xor_assoc 3988292384 y,Nat.xor_comm 3988292384 y,Nat.xor_assoc]
  rw [this,Nat.xor_self,Nat.xor_zero]
theorem xK (a b:Nat):me (a ^^^ b)=me a ^^^ me b:=by
 unfold me
 rw [nO,nO,nO,nO]
theorem mE (k:Nat):na (2*k)=k:=by
 unfold na
 rw [if_neg (by omega),Nat.xor_zero,Nat.shiftRight_eq_div_pow]
 omega
theorem y2 (k:Nat):me (16*k)=k:=by
 unfold me
 rw [show 16*k=2*(2*(2*(2*k))) by omega,mE,mE,mE,mE]
theorem q5 (x:Nat):me x=(x / 16) ^^^ me (x % 16):=by
 have h:x=(16*(x / 16)) ^^^ (x % 16):=by
  have h1:16*(x / 16)+x % 16=x:=Nat.div_add_mod x 16
  have h2:(16*(x / 16)) ^^^ (x % 16)=16*(x / 16)+x % 16:=by
   have h3:2 ^ 4*(x / 16)+x % 16=(2 ^ 4*(x / 16)) ||| (x % 16):=Nat.two_pow_add_eq_or_of_lt (by omega) _
   apply Nat.eq_of_testBit_eq
   intro i
   have h4:(16*(x / 16)+x % 16)=(2 ^ 4*(x / 16)) ||| (x % 16):=h3
   rw [h4,Nat.testBit_xor,Nat.testBit_or]
   show ((2 ^ 4*(x / 16)).testBit i ^^ (x % 16).testBit i)=_
   rw [Nat.testBit_two_pow_mul]
   by_cases hi:i>=4
   ·have:(x % 16).testBit i=false:=by
     apply Nat.testBit_lt_two_pow
     have:2 ^ 4<=2 ^ i:=Nat.pow_le_pow_right (by omega) hi
     omega
    rw [this]
    simp
   ·simp [hi]
  rw [h2,h1]
 conv=>lhs; rw [h]
 rw [xK,y2]
theorem vl: ∀ n:Nat,n < 16->idx cI (n:Int)=some ((me n:Nat):Int):=by decide
theorem AO {x:Int} (h0:0<=x) (h1:x < 4294967296):IntKind.u32.wrap x=x:=by
 unfold IntKind.wrap
 simp [IntKind.signed,IntKind.bits]
 omega
theorem vm {a b:Nat} (ha:a < 4294967296) (hb:b < 4294967296):Go.bits .xor .u32 (a:Int) (b:Int)=((a ^^^ b:Nat):Int):=by
 show IntKind.u32.wrap ((BitVec.ofInt 32 (a:Int) ^^^ BitVec.ofInt 32 (b:Int)).toNat:Int)=_
 rw [BitVec.ofInt_natCast,BitVec.ofInt_natCast,BitVec.toNat_xor,BitVec.toNat_ofNat,BitVec.toNat_ofNat,Nat.mod_eq_of_lt ha,Nat.mod_eq_of_lt hb]
 have:=nf ha hb
 exact AO (by omega) (by omega)
theorem zW {a b:Nat} (ha:a < 4294967296) (hb:b < 4294967296):Go.bits .xor .i64 (a:Int) (b:Int)=((a ^^^ b:Nat):Int):=by
 show IntKind.i64.wrap ((BitVec.ofInt 64 (a:Int) ^^^ BitVec.ofInt 64 (b:Int)).toNat:Int)=_
 rw [BitVec.ofInt_natCast,BitVec.ofInt_natCast,BitVec.toNat_xor,BitVec.toNat_ofNat,BitVec.toNat_ofNat,Nat.mod_eq_of_lt (by omega),Nat.mod_eq_of_lt (by omega)]
 have:=nf ha hb
 exact w64 (by omega) (by omega)
theorem zX {a:Nat} (ha:a < 4294967296):Go.bits .and .u32 (a:Int) 15=((a % 16:Nat):Int):=by
 show IntKind.u32.wrap ((BitVec.ofInt 32 (a:Int) &&& BitVec.ofInt 32 15).toNat:Int)=_
 rw [BitVec.ofInt_natCast,BitVec.toNat_and,BitVec.toNat_ofNat,Nat.mod_eq_of_lt ha]
 have h:(BitVec.ofInt 32 15).toNat=2 ^ 4 - 1:=by decide
 rw [h,Nat.and_two_pow_sub_one_eq_mod]
 exact AO (by omega) (by omega)
theorem zY (a:Nat):((a:Int)).fdiv (2 ^ (min 4 32))=((a / 16:Nat):Int):=by
 rw [Int.fdiv_eq_ediv_of_nonneg _ (by decide)]
 rfl
def tq (x b:Nat):Nat:=me (me (x ^^^ b))
theorem nP {a:Nat} (h:a < 4294967296):me a < 4294967296:=nN (nN (nN (nN h)))
theorem xL {x b:Nat} (h:x < 4294967296) (hb:b < 256):tq x b < 4294967296:=nP (nP (nf h (by omega)))
theorem step_eq {x b:Nat} (hx:x < 4294967296) (hb:b < 256):jn (x:Int) (b:Int)=some ((tq x b:Nat):Int):=by
 unfold jn tq
 rw [AO (by omega) (by omega),vm hx (by omega)]
 have h1:=nf hx (show b < 4294967296 by omega)
 generalize x ^^^ b=y at h1
 rw [zX h1,vl _ (by omega),aA,zY,vm (by omega) (nP (by omega)),<- q5]
 have h2:=nP h1
 generalize me y=z at h2
 rw [zX h2,vl _ (by omega),aA,zY,vm (by omega) (nP (by omega)),<- q5]
def xM (y:Nat):Nat->Nat
 | 0=>y
 | i+1=>na (xM y i)
theorem Bz {y:Nat} (hy:y < 4294967296):iter (σ:=Int×Int) (ρ:=Int) (λa=>(bif (decide (a.2 < 8)) then (Option.bind ((bif ((a.1.tmod 2) == 1) then some (Go.bits .xor .i64 (IntKind.i64.wrap (a.1.tdiv 2)) 3988292384) else some (IntKind.i64.wrap (a.1.tdiv 2))):Option Int) λc=>some (.inl (c,(IntKind.i64.wrap (a.2+1))))) else some (.inr a.1))) ((y:Int),0)=some ((me (me y):Nat):Int):=by
 have st: ∀ (z n:Nat),z < 4294967296->n < 8->(bif (decide ((n:Int) < 8)) then (Option.bind ((bif (((z:Int).tmod 2) == 1) then some (Go.bits .xor .i64 (IntKind.i64.wrap ((z:Int).tdiv 2)) 3988292384) else some (IntKind.i64.wrap ((z:Int).tdiv 2))):Option Int) λc=>some (.inl (c,(IntKind.i64.wrap ((n:Int)+1))))) else some (.inr (z:Int)):Option ((Int×Int) ⊕ Int))=some (.inl (((na z:Nat):Int),((n+1:Nat):Int))):=by
  intro z n hz hn
  have h1:(z:Int).tdiv 2=((z >>> 1:Nat):Int):=by
   rw [Int.tdiv_eq_ediv_of_nonneg (by omega),Nat.shiftRight_eq_div_pow]
   rfl
  have h2:(z:Int).tmod 2=((z % 2:Nat):Int):=by
   rw [Int.tmod_eq_emod_of_nonneg (by omega)]
   rfl
  have h3:z >>> 1 < 4294967296:=by rw [Nat.shiftRight_eq_div_pow]; omega
  rw [decide_eq_true (by omega),cond_true,h1,h2,w64 (by omega) (by omega),w64 (by omega) (by omega)]
  have hx:Go.bits .xor .i64 ((z >>> 1:Nat):Int) 3988292384=((z >>> 1 ^^^ 3988292384:Nat):Int):=zW h3 (b:=3988292384) (by decide)
  rw [hx]
  unfold na
  by_cases ho:z % 2=1
  ·have:(((z % 2:Nat):Int) == 1)=true:=by rw [ho]; rfl
   rw [this,cond_true,if_pos ho]
   rfl
  ·have:(((z % 2:Nat):Int) == 1)=false:=by rw [show z % 2=0 by omega]; rfl
   rw [this,cond_false,if_neg ho,Nat.xor_zero]
   rfl
 have hB: ∀ i,xM y i < 4294967296:=by
  intro i
  induction i with
  | zero=>exact hy
  | succ i ih=>exact nN ih
 have h8:me (me y)=xM y 8:=rfl
 rw [h8]
 refine kG (λi=>(((xM y i:Nat):Int),(i:Int))) 8 _ ?_ ?_
 ·intro i hi
  exact st (xM y i) i (hB i) hi
 ·dsimp only
  rw [decide_eq_false (by omega),cond_false]
def nQ (l:List Int):Nat:=l.foldl (λx b=>tq x b.toNat) 4294967295
theorem ng (l:List Int) (i:Nat) (h:i < l.length):nQ (l.take (i+1))=tq (nQ (l.take i)) (l[i]).toNat:=by
 unfold nQ
 rw [List.take_succ_eq_append_getElem h,List.foldl_append]
 rfl
theorem rN {l:List Int} (h:BB l): ∀ i,nQ (l.take i) < 4294967296:=by
 intro i
 induction i with
 | zero=>rw [List.take_zero]; decide
 | succ i ih =>
  by_cases hi:i < l.length
  ·rw [ng l i hi]
   have:=h _ (List.getElem_mem hi)
   exact xL ih (by omega)
  ·rw [List.take_of_length_le (by omega)]
   rw [List.take_of_length_le (by omega)] at ih
   exact ih
def mf (s:ByteArray):Nat:=4294967295 ^^^ nQ (sbs s)
theorem uu (s:ByteArray) (hs:s.size<=1000000):ko [s]=some ((mf s:Nat):Int):=by
 unfold ko
 have hL:=rN (lQ s)
 have hinner:iter (σ:=Int×Int) (ρ:=Int) (λa=>(bif (decide (a.1 < (s.size:Int))) then (Option.bind (pQ s a.1) λb642=>(Option.bind (jn a.2 b642) λb=>some (.inl ((IntKind.i64.wrap (a.1+1)),b)))) else some (.inr a.2))) (0,4294967295)=some ((nQ (sbs s):Nat):Int):=by
  refine kG (λi=>((i:Int),((nQ ((sbs s).take i):Nat):Int))) s.size _ ?_ ?_
  ·intro i hi
   have hi2:i < (sbs s).length:=by rw [aQ]; exact hi
   have hb:=lQ s _ (List.getElem_mem hi2)
   have hn:(sbs s)[i]=(((sbs s)[i].toNat:Nat):Int):=by omega
   dsimp only
   rw [decide_eq_true (by omega),cond_true,nG s i hi2,aA,ng _ _ hi2]
   conv=>lhs; rw [hn]
   rw [step_eq (hL i) (by omega),aA,w64 (by omega) (by omega)]
   rfl
  ·dsimp only
   rw [decide_eq_false (by omega),cond_false,List.take_of_length_le (by rw [aQ]; exact Nat.le_refl _)]
 refine fc (λi=>(if i=0 then (4294967295:Int) else ((nQ (sbs s):Nat):Int),(i:Int))) 1 ((nQ (sbs s):Nat):Int) rfl ?_ ?_ ?_
 ·intro i hi
  have:i=0:=by omega
  subst this
  have h1:idx [s] 0=some s:=rfl
  show (bif (decide ((0:Int) < 1)) then (Option.bind (idx [s] 0) λc=>_) else _)=_
  rw [decide_eq_true (by omega),cond_true,h1,aA]
  show (Option.bind (iter _ (0,4294967295)) λd=>_)=_
  rw [hinner,aA]
  rfl
 ·rfl
 ·have h:=hL (sbs s).length
  rw [List.take_length] at h
  show some (Go.bits .xor .u32 ((4294967295:Nat):Int) ((nQ (sbs s):Nat):Int))=_
  rw [vm (by decide) h]
  rfl
theorem xN {x:Nat} (h:x < 4294967296):4294967295 ^^^ x=4294967295 - x:=by
 have h1:(2 ^ 32 - 1) - x=2 ^ 32 - (x+1):=by omega
 show 4294967295 ^^^ x=_
 apply Nat.eq_of_testBit_eq
 intro i
 have h2:4294967295 - x=2 ^ 32 - (x+1):=by omega
 rw [h2,Nat.testBit_two_pow_sub_succ h,Nat.testBit_xor]
 have h3:(4294967295:Nat).testBit i=decide (i < 32):=by
  show (2 ^ 32 - 1).testBit i=_
  rw [Nat.testBit_two_pow_sub_one]
 rw [h3]
 by_cases hi:i < 32
 ·simp [hi]
 ·have:x.testBit i=false:=by
   apply Nat.testBit_lt_two_pow
   have:2 ^ 32<=2 ^ i:=Nat.pow_le_pow_right (by omega) (by omega)
   omega
  simp [hi,this]
theorem y3 (s:ByteArray) (hs:s.size<=1000000):mZ s=some ((mf s:Nat):Int):=by
 unfold mZ
 have hL:=rN (lQ s)
 refine fc (λi=>(((nQ ((sbs s).take i):Nat):Int),(i:Int))) s.size ((nQ (sbs s):Nat):Int) rfl ?_ ?_ ?_
 ·intro i hi
  have hi2:i < (sbs s).length:=by rw [aQ]; exact hi
  have hb:=lQ s _ (List.getElem_mem hi2)
  have hn:(sbs s)[i]=(((sbs s)[i].toNat:Nat):Int):=by omega
  dsimp only
  rw [decide_eq_true (by omega),cond_true,nG s i hi2,aA,ng _ _ hi2]
  have hx:Go.bits .xor .i64 ((nQ ((sbs s).take i):Nat):Int) (IntKind.i64.wrap (sbs s)[i])=((nQ ((sbs s).take i) ^^^ (sbs s)[i].toNat:Nat):Int):=by
   rw [w64 (by omega) (by omega)]
   conv=>lhs; rw [hn]
   exact zW (hL i) (by omega)
  rw [hx,Bz (nf (hL i) (by omega)),aA,w64 (by omega) (by omega)]
  rfl
 ·dsimp only
  rw [decide_eq_false (by omega),cond_false,List.take_of_length_le (by rw [aQ]; exact Nat.le_refl _)]
 ·have h:=hL (sbs s).length
  rw [List.take_length] at h
  unfold mf
  rw [xN h,w64 (by omega) (by omega)]
  congr 1
  omega
theorem rO (l:List Int) (s:ByteArray):cZ l++s=cZ (l++sbs s):=by
 rw [dV,mb]
theorem uv (s:ByteArray) (hs:s.size<=1000000):lK s=some (cZ (bV s.size++sbs s)):=by
 unfold lK
 have h:=bW (s.size:Int)
 rw [ja,aA,eZ (by rw [bN]; omega),aA,rO]
theorem tr (s:aK) (h:SW s) (hp:(s.rows.flatMap eF).length<=1000000):iy (eW s)=some (g0 s):=by
 unfold iy g0
 have hc:((Option.bind (iG (eW s)) λd=>(bif d then some true else (Option.bind (jI (eW s)) λe=>some (!e)))):Option Bool)=some (fX s || !kX s):=by
  rw [qX,aA,xC s h,aA]
  cases fX s <;> cases kX s <;> rfl
 rw [hc,aA]
 by_cases hb:fX s=true\/kX s=false
 ·rw [if_pos hb]
  have:(fX s || !kX s)=true:=by
   rcases hb with hb | hb <;> simp [hb]
  rw [this,cond_true]
  rfl
 ·rw [if_neg hb]
  have hne:fX s=false:=by cases he:fX s with | true=>exact absurd (.inl he) hb | false=>rfl
  have hm:kX s=true:=by cases he:kX s with | false=>exact absurd (.inr he) hb | true=>rfl
  rw [hne,hm]
  have hpl:=oD s h
  have htl:=h.tl
  have hph:(kr s).length=([s.k,s.w,s.h,s.x,s.y].flatMap bV).length+((bV s.title.size++sbs s.title).length+(([s.len,s.chain].flatMap bV).length+(jM s.begun).length)):=by
   unfold kr
   rw [List.length_append,List.length_append,List.length_append]
   omega
  have hnum: ∀ L:List Int,L.length<=10->iter (σ:=Int×ByteArray) (ρ:=ByteArray) (λb=>(bif (decide (b.1 < (L.length:Int))) then (Option.bind (idx L b.1) λf=>(Option.bind (bX f) λc=>(Option.bind (chk (kj b.2.size c.size)) λ_=>some (.inl ((IntKind.i64.wrap (b.1+1)),(b.2++c)))))) else some (.inr b.2))) (0,(ByteArray.mk #[]))=some (cZ (L.flatMap bV)):=by
   intro L hL
   have hlen: ∀ (M:List Int),(M.flatMap bV).length<=9*M.length:=by
    intro M
    induction M with
    | nil=>simp
    | cons a M ih =>
     rw [List.flatMap_cons,List.length_append,List.length_cons]
     have:=bW a
     omega
   refine kG (λi=>((i:Int),cZ ((L.take i).flatMap bV))) L.length _ ?_ ?_
   ·intro i hi
    have h2:=hlen (L.take i)
    rw [List.length_take] at h2
    have h3:=bW L[i]
    dsimp only
    rw [decide_eq_true (by omega),cond_true,bQ _ _ hi,aA,ja,aA,eZ (by rw [bN,bN]; omega),aA,<- dV,w64 (by omega) (by omega),List.take_succ_eq_append_getElem hi,List.flatMap_append,List.flatMap_singleton]
    rfl
   ·dsimp only
    rw [decide_eq_false (by omega),cond_false,List.take_length]
  have hn2:[s.len,s.chain].flatMap bV=bV s.len++bV s.chain:=by simp
  have hl1:=bW s.len
  have hl2:=bW s.chain
  have ht:(bV s.title.size++sbs s.title).length<=12009:=by
   rw [List.length_append,aQ]
   have:=bW (s.title.size:Int)
   omega
  dsimp only
  rw [Bool.not_true,Bool.or_false,cond_false,hnum _ (by simp),aA,uv _ (by omega),aA,ja,aA,eZ (by rw [bN,bN]; omega),aA,ja,aA,<- dV,eZ (by rw [bN,bN,List.length_append]; omega),aA,wq _ h.bl,aA,<- dV,eZ (by rw [bN,bN,List.length_append,List.length_append]; omega),aA,<- dV,eZ (by rw [bN,bN,List.length_append,List.length_append,List.length_append]; omega),aA,<- dV]
  have hhead:[s.k,s.w,s.h,s.x,s.y].flatMap bV++(((bV s.title.size++sbs s.title)++bV s.len++bV s.chain)++jM s.begun)=kr s:=by
   unfold kr
   rw [hn2]
   simp only [List.append_assoc]
  rw [hhead]
  refine fc (λi=>(cZ (kr s++(s.rows.take i).flatMap eF),(i:Int))) s.rows.length (cZ (oY s)) (by simp) ?_ ?_ rfl
  ·intro i hi
   have hro:=h.ro _ (List.getElem_mem hi)
   have hl1:=vg s.rows (i+1)
   rw [List.take_succ_eq_append_getElem hi,List.flatMap_append,List.flatMap_singleton,List.length_append] at hl1
   have hrl:=h.rl
   have hi2:i < (s.rows.map told).length:=by rw [List.length_map]; exact hi
   dsimp only
   rw [List.length_map,decide_eq_true (by omega),cond_true,bQ _ _ hi2,aA,List.getElem_map,s8 _ hro.2,aA,eZ (by rw [bN,bN,List.length_append]; omega),aA,<- dV,w64 (by omega) (by omega),List.take_succ_eq_append_getElem hi,List.flatMap_append,List.flatMap_singleton,List.append_assoc]
   rfl
  ·dsimp only
   rw [List.length_map,decide_eq_false (by omega),cond_false,List.take_length]
   rfl
theorem qd {s:aK} (h:SW s) (hp:(s.rows.flatMap eF).length<=12000):(g0 s).size<=72000:=by
 unfold g0
 split
 ·exact Nat.zero_le _
 ·have:=oD s h
  rw [bN]
  unfold oY
  rw [List.length_append]
  omega
theorem rP (s:ByteArray):mf s < 4294967296:=by
 unfold mf
 have h:=rN (lQ s) (sbs s).length
 rw [List.take_length] at h
 exact nf (by decide) h
theorem y4 (s:aK) (h:SW s) (hp:(s.rows.flatMap eF).length<=12000):gO s=some ((mf (g0 s):Nat):Int):=by
 unfold gO
 have h1:=qd h hp
 have h2:=rP (g0 s)
 rw [vh s h (by omega),aA,uu _ (by omega),aA,w64 (by omega) (by omega)]
theorem xO (s:aK) (h:SW s) (hp:(s.rows.flatMap eF).length<=12000):l8 (eW s)=some ((mf (g0 s):Nat):Int):=by
 unfold l8
 have h1:=qd h hp
 rw [tr s h (by omega),aA,y3 _ (by omega),aA]
end Go.Tw.X
set_option maxHeartbeats 1000000
namespace Go.Tw.X
open Go Go.Tw
def oZ (n:Nat):List Int:=[((n % 256:Nat):Int),((n / 256 % 256:Nat):Int),((n / 65536 % 256:Nat):Int),((n / 16777216 % 256:Nat):Int)]
theorem rQ (n:Nat):BB (oZ n):=λb hb=>by
 simp only [oZ,List.mem_cons,List.not_mem_nil,or_false] at hb
 rcases hb with rfl | rfl | rfl | rfl <;> omega
theorem w8 (n:Nat):IntKind.u8.wrap (n:Int)=((n % 256:Nat):Int):=by
 show (n:Int) % 256=_
 omega
theorem fdN (n k:Nat):((n:Int)).fdiv ((k:Int))=((n / k:Nat):Int):=by
 rw [Int.fdiv_eq_ediv_of_nonneg _ (by omega)]
 rfl
theorem vn {n:Nat} (h:n < 4294967296):jo (n:Int)=some (cZ (oZ n)):=by
 unfold jo oZ
 rw [show ((2:Int) ^ (min 8 32))=((256:Nat):Int) from rfl,show ((2:Int) ^ (min 16 32))=((65536:Nat):Int) from rfl,show ((2:Int) ^ (min 24 32))=((16777216:Nat):Int) from rfl,fdN,fdN,fdN,w8,w8,w8,w8]
def mg (s:ByteArray):ByteArray:=s++cZ (oZ (mf s))
theorem nR (s:ByteArray):sbs (mg s)=sbs s++oZ (mf s):=by
 unfold mg
 rw [uh,jb _ (rQ _)]
theorem mF (s:ByteArray):(mg s).size=s.size+4:=by
 rw [<- aQ,nR,List.length_append,aQ]
 rfl
theorem y5 {s:ByteArray} (h:s.size<=900000):jq s=some (mg s):=by
 unfold jq
 rw [uu s (by omega),aA,vn (rP s),aA,eZ (by rw [bN]; simp [oZ]; omega),aA]
 rfl
def jN (s:ByteArray):ByteArray:=fR s 0 ((s.size - 4:Nat):Int)
def nS (s:ByteArray):Bool:=decide (4<=s.size/\mg (jN s)=s)
def q6 (s:ByteArray):ByteArray×Bool:=if nS s=true then (jN s,true) else (noS,false)
theorem py (s:ByteArray):sbs (jN s)=(sbs s).take (s.size - 4):=by
 unfold jN
 have:=gP s 0 (s.size - 4)
 simpa using this
theorem kv {s:ByteArray} (h:4<=s.size):(jN s).size=s.size - 4:=by
 rw [<- aQ,py,List.length_take,aQ]
 omega
theorem y6 {s:ByteArray} (h:s.size<=800000):kp s=some (q6 s):=by
 unfold kp q6 nS
 by_cases c:(s.size:Int) < 4
 ·have e:IntKind.i64.wrap ((s.size:Int) - 4)=(s.size:Int) - 4:=w64 (by omega) (by omega)
  rw [e,decide_eq_true (by omega),cond_true,aA,cond_true,decide_eq_false (by omega),if_neg (by simp)]
  rfl
 ·have e:IntKind.i64.wrap ((s.size:Int) - 4)=((s.size - 4:Nat):Int):=by rw [w64 (by omega) (by omega)]; omega
  have hf:=kv (s:=s) (by omega)
  rw [e,decide_eq_false (by omega),cond_false,dG (by omega) (by omega) (by omega),aA,dG (by omega) (by omega) (by omega),aA,show fR s 0 ((s.size - 4:Nat):Int)=jN s from rfl,uu _ (by omega),aA,vn (rP _),aA,nH,aA]
  have hd:sbs (fR s ((s.size - 4:Nat):Int) (s.size:Int))=(sbs s).drop (s.size - 4):=by
   rw [gP,List.take_of_length_le (by rw [aQ]; omega)]
  have key:(fR s ((s.size - 4:Nat):Int) (s.size:Int)=cZ (oZ (mf (jN s))))↔mg (jN s)=s:=by
   constructor
   ·intro q
    apply mD
    rw [nR,py]
    have q2:=congrArg sbs q
    rw [hd,jb _ (rQ _)] at q2
    rw [<- q2,List.take_append_drop]
   ·intro q
    apply mD
    have q2:=congrArg sbs q
    rw [nR,py] at q2
    rw [hd,jb _ (rQ _)]
    exact (List.append_cancel_left (q2.trans (List.take_append_drop (s.size - 4) (sbs s)).symm)).symm
  by_cases d:mg (jN s)=s
  ·rw [decide_eq_true (key.2 d),Bool.not_true,cond_false,aA,decide_eq_true ⟨by omega,d⟩,if_pos rfl]
  ·rw [decide_eq_false (λh=>d (key.1 h)),Bool.not_false,cond_true,decide_eq_false (λh=>d h.2),if_neg (by simp)]
   rfl
theorem wy (s:ByteArray):q6 (mg s)=(s,true):=by
 have h1:=mF s
 have h2:jN (mg s)=s:=by
  apply mD
  rw [py,nR,h1,Nat.add_sub_cancel,<- aQ]
  simp
 unfold q6 nS
 rw [decide_eq_true ⟨by omega,by rw [h2]⟩,if_pos rfl,h2]
theorem qe (s:aK) (y:Nat) (h:y < s.rows.length):fz s (y:Int)=some (s.rows[y],true):=by
 unfold fz
 rw [decide_eq_false (show ¬ ((y:Int) < 0) by omega),cond_false,aA,decide_eq_false (show ¬ ((y:Int)>=(s.rows.length:Int)) by omega),cond_false,bQ _ _ h,aA]
theorem q7 (s:aK) (y:Nat) (h: ¬ y < s.rows.length):fz s (y:Int)=some (pV,false):=by
 unfold fz
 rw [decide_eq_false (show ¬ ((y:Int) < 0) by omega),cond_false,aA,decide_eq_true (show ((y:Int)>=(s.rows.length:Int)) by omega),cond_true]
 rfl
theorem tt (r q:aP) (h:r.cells.length<=1000000):iz (told r) (told q)=some (decide (r=q)):=by
 unfold iz
 have hw:(!((told r).wrapped == (told q).wrapped)) = !decide (r.wrapped=q.wrapped):=by
  show (!(r.wrapped == q.wrapped))=_
  cases r.wrapped <;> cases q.wrapped <;> rfl
 have hl:(((told r).l.length:Int) != ((told q).l.length:Int)) = !decide (r.cells.length=q.cells.length):=by
  show (((r.cells.map tc).length:Int) != ((q.cells.map tc).length:Int))=_
  rw [eV,eV]
  by_cases he:r.cells.length=q.cells.length
  ·simp [he]
  ·have: ¬ ((r.cells.length:Int)=(q.cells.length:Int)):=by omega
   simp [he,this]
 rw [hw,hl]
 by_cases h1:r.wrapped=q.wrapped
 ·rw [decide_eq_true h1,Bool.not_true,cond_false,aA]
  by_cases h2:r.cells.length=q.cells.length
  ·rw [decide_eq_true h2,Bool.not_true,cond_false]
   have:=wx r.cells q.cells h2 (λa=>(bif (decide (a < ((told r).l.length:Int))) then (Option.bind (idx (told r).l a) λb=>(Option.bind (idx (told q).l a) λc=>(bif (!((b.rune == c.rune) && ((b.bD == c.bD) && ((b.part == c.part) && true)))) then (eT (some false)) else some (.inl (IntKind.i64.wrap (a+1)))))) else some (.inr (.inl ())))) (by
    intro n h1 h2
    have l1:(told r).l.length=r.cells.length:=eV _
    have l2:(told q).l.length=q.cells.length:=eV _
    rw [decide_eq_true (show (n:Int) < ((told r).l.length:Int) by omega),cond_true,bQ _ _ (by omega),aA,bQ _ _ (by omega),aA]
    have g1:(told r).l[n]'(by omega)=tc r.cells[n]:=List.getElem_map ..
    have g2:(told q).l[n]'(by omega)=tc q.cells[n]:=List.getElem_map ..
    rw [g1,g2]
    have:=jK r.cells[n] q.cells[n]
    show (bif !(((r.cells[n]).rune == (q.cells[n]).rune) && (((r.cells[n]).bD == (q.cells[n]).bD) && (((r.cells[n]).part == (q.cells[n]).part) && true))) then _ else _)=_
    rw [this]
    by_cases he:r.cells[n]=q.cells[n]
    ·rw [decide_eq_true he,if_pos he,Bool.not_true,cond_false,w64 (by omega) (by omega)]
     rfl
    ·rw [decide_eq_false he,if_neg he,Bool.not_false,cond_true]
     rfl) (by
    have l1:(told r).l.length=r.cells.length:=eV _
    rw [decide_eq_false (by omega),cond_false])
   rw [this,aA]
   by_cases he:r.cells=q.cells
   ·rw [if_pos he]
    have:r=q:=by cases r; cases q; simp_all
    rw [decide_eq_true this]
   ·rw [if_neg he]
    have: ¬ r=q:=λhh=>he (by rw [hh])
    rw [decide_eq_false this]
  ·have: ¬ r=q:=λhh=>h2 (by rw [hh])
   rw [decide_eq_false h2,decide_eq_false this]
   rfl
 ·have: ¬ r=q:=λhh=>h1 (by rw [hh])
  rw [decide_eq_false h1,decide_eq_false this]
  rfl
def mi (s:aK):Bool:=fX s || !kX s
theorem mG {s:aK}:(g0 s=noS)↔mi s=true:=by
 unfold g0 mi
 constructor
 ·intro h
  split at h
  ·rename_i hb
   rcases hb with hb | hb <;> simp [hb]
  ·exact absurd h (xJ s)
 ·intro h
  rw [if_pos]
  simpa using h
theorem xP (s:aK) (h:SW s) (hp:(s.rows.flatMap eF).length<=1000000):ig s=some (!mi s):=by
 unfold ig
 rw [vh s h hp,aA]
 have e:((g0 s).toList == (ByteArray.mk #[]).toList)=decide (g0 s=noS):=nH _ noS
 rw [e]
 cases hb:mi s with
 | true=>rw [decide_eq_true (mG.2 hb)]
 | false=>rw [decide_eq_false (λhh=>by rw [mG.1 hh] at hb; cases hb)]
def zA (s:ByteArray):=rdS ⟨s,0⟩
def zB (s:ByteArray):=rdS (zA s).2
def zC (s:ByteArray):=bG (zB s).2 1000
def zD (s:ByteArray):=bG (zC s).2 1000
def zE (s:ByteArray):=rdS (zD s).2
def zF (s:ByteArray):=rdS (zE s).2
def zT (s:ByteArray):=ku (zF s).2
def zG (s:ByteArray):=rdS (zT s).2
def zH (s:ByteArray):=rdS (zG s).2
def zK (s:ByteArray):=bkS (zH s).2
def zN (s:ByteArray):=rdS (zK s).2
def zS (s:ByteArray):aK:=⟨(zB s).1,(zC s).1,(zD s).1,(zE s).1,(zF s).1,(zT s).1,[],(zG s).1,(zH s).1,(zK s).1⟩
def qf (j:aE):aE:=if j.e=0 then iB else j
theorem xQ {j:aE} (h:VI j):VI (qf j):=by
 unfold qf
 split
 ·exact kq
 ·exact h
theorem y7 (j:aE):(qf j).e≠0:=by
 unfold qf
 split
 ·decide
 ·assumption
def dlI (h:Int) (i:aE) (last:Int):aE:=if (rdS i).1<=last\/(rdS i).1>=h then qf (rdS i).2 else (rdS i).2
def dlL:Nat->Int->Int->aE->Int->List (Int×aP)->List (Int×aP)×aE
 | 0,_,_,i,_,l=>(l,i)
 | k+1,w,h,i,last,l=>if i.e=0 then dlL k w h (gy (dlI h i last) w).2 (rdS i).1 (l++[((rdS i).1,(gy (dlI h i last) w).1)]) else (l,i)
def zR (s:ByteArray):=dlL (zN s).1.toNat (zC s).1 (zD s).1 (zN s).2 (-1) []
theorem jd {h:Int} {i:aE} {last:Int} (hV:VI i):VI (dlI h i last):=by
 unfold dlI
 split
 ·exact xQ (eC hV)
 ·exact eC hV
theorem uw {h:Int} {i:aE} {last:Int} (he:(dlI h i last).e=0):last < (rdS i).1/\(rdS i).1 < h/\dlI h i last=(rdS i).2:=by
 unfold dlI at he ⊢
 split at he
 ·exact absurd he (y7 _)
 ·rename_i hc
  rw [if_neg hc]
  exact ⟨by omega,by omega,rfl⟩
theorem nT (k:Nat) (w h:Int) (i:aE) (last:Int) (l:List (Int×aP)) (he:i.e≠0):dlL k w h i last l=(l,i):=by
 cases k with
 | zero=>rfl
 | succ k=>unfold dlL; rw [if_neg he]
theorem rR {i:aE} {w:Int} (hV:VI i) (he:(gy i w).2.e=0):i.e=0:=by
 unfold gy at he
 have h1:(rrS (w.toNat+1) w (bG i 1).2 []).2.e=0:=by
  split at he
  ·exact he
  ·exact he
 have h2:=s6 _ _ _ _ h1
 exact (iC h2 hV).1
theorem zZ: ∀ (k:Nat) (w h:Int) (i:aE) (last:Int) (l:List (Int×aP)),(dlL k w h i last l).2.e=0->i.e=0
 | 0,w,h,i,last,l,he=>he
 | k+1,w,h,i,last,l,he=>by
  unfold dlL at he
  split at he
  ·assumption
  ·exact he
theorem xR: ∀ (k:Nat) (w h:Int) (i:aE) (last:Int) (l:List (Int×aP)),VI i->VI (dlL k w h i last l).2
 | 0,w,h,i,last,l,hV=>hV
 | k+1,w,h,i,last,l,hV=>by
  unfold dlL
  split
  ·exact xR k w h _ _ _ (nL (jd hV))
  ·exact hV
theorem rS {α:Type} (k:Int) (x:α): ∀ l:List (Int×α),(∀ p∈l,p.1≠k)->msl k x l=l++[(k,x)]
 | [],_=>rfl
 | (j,y)::l,h=>by
  have h1:k≠j:=λe=>h (j,y) (by simp) e.symm
  simp only [msl,if_neg h1,List.cons_append]
  rw [rS k x l λp hp=>h p (by simp [hp])]
theorem ux (sum:Int) (x:aK) (hx:x.rows=[]) (hw:x.w<=1000) (f:aY×aE×Int×Int->Option ((aY×aE×Int×Int) ⊕ (aE×aY))) (hf:f=(λa=>(Option.bind ((bif (decide (a.2.2.2 > 0)) then (Option.bind (cE a.2.1) λg=>some (g == 0)) else some false):Option Bool) λj=>(bif j then (Option.bind (aV a.2.1) λb=>(Option.bind ((bif (decide (b.1<=a.2.2.1)) then some true else some (decide (b.1>=a.1.to.h))):Option Bool) λm=>(Option.bind ((bif m then (Option.bind (aW b.2 1) λc=>some c) else some b.2):Option aE) λn=>(Option.bind (gr n a.1.to.w) λd=>(Option.bind (chk a.1.rows.isSome) λ_=>some (.inl ((aY.mk a.1.sum (aK.mk a.1.to.k a.1.to.w a.1.to.h a.1.to.x a.1.to.y a.1.to.title ([]:List aP) a.1.to.len a.1.to.chain a.1.to.begun) (vX a.1.rows b.1 d.1)),d.2,b.1,(IntKind.i64.wrap (a.2.2.2 - 1))))))))) else some (.inr (a.2.1,(aY.mk a.1.sum (aK.mk a.1.to.k a.1.to.w a.1.to.h a.1.to.x a.1.to.y a.1.to.title ([]:List aP) a.1.to.len a.1.to.chain a.1.to.begun) a.1.rows)))))) ) :
  ∀ (k:Nat) (i:aE) (last:Int) (l l':List (Int×aP)),k<=4611686018427387904->VI i->(i.e=0->l'=l /\ ∀ p∈l,p.1<=last) ->
  ∃ m',iter f (⟨sum,x,some l'⟩,i,last,(k:Int))=some ((dlL k x.w x.h i last l).2,⟨sum,x,some m'⟩)/\((dlL k x.w x.h i last l).2.e=0->m'=(dlL k x.w x.h i last l).1):=by
 have hx2:aK.mk x.k x.w x.h x.x x.y x.title ([]:List aP) x.len x.chain x.begun=x:=by
  obtain ⟨⟩:=x
  dsimp only at hx
  subst hx
  rfl
 intro k
 induction k with
 | zero =>
  intro i last l l' hk hV hl
  refine ⟨l',bB ?_,λhe=>(hl he).1⟩
  subst hf
  dsimp only
  rw [decide_eq_false (by omega),cond_false,aA,cond_false,hx2]
  rfl
 | succ k ih =>
  intro i last l l' hk hV hl
  by_cases he:i.e=0
  ·obtain ⟨rfl,hlast⟩:=hl he
   have hrr:=iJ hV
   have hstep:f (⟨sum,x,some l'⟩,i,last,((k+1:Nat):Int))=some (.inl (⟨sum,x,some (msl (rdS i).1 (gy (dlI x.h i last) x.w).1 l')⟩,(gy (dlI x.h i last) x.w).2,(rdS i).1,(k:Int))):=by
    subst hf
    dsimp only
    have e1:cE i=some i.e:=rfl
    have e2:(i.e == 0)=true:=by simpa using he
    have e3:((bif (decide ((rdS i).1<=last)) then some true else some (decide ((rdS i).1>=x.h))):Option Bool)=some (decide ((rdS i).1<=last\/(rdS i).1>=x.h)):=or2 _ _
    have e4:((bif (decide ((rdS i).1<=last\/(rdS i).1>=x.h)) then (Option.bind (aW (rdS i).2 1) λc=>some c) else some (rdS i).2):Option aE)=some (dlI x.h i last):=by
     unfold dlI
     by_cases hc:(rdS i).1<=last\/(rdS i).1>=x.h
     ·rw [decide_eq_true hc,cond_true,if_pos hc,nI (eC hV)]
      rfl
     ·rw [decide_eq_false hc,cond_false,if_neg hc]
    rw [decide_eq_true (by omega),cond_true,e1,aA,e2,aA,cond_true,gV _ hV,aA,e3,aA,e4,aA,ui _ _ (jd hV) hw,aA,hx2,w64 (by omega) (by omega)]
    have e5:((k+1:Nat):Int) - 1=(k:Int):=by omega
    rw [e5]
    rfl
   have hnew:(gy (dlI x.h i last) x.w).2.e=0->msl (rdS i).1 (gy (dlI x.h i last) x.w).1 l'=l'++[((rdS i).1,(gy (dlI x.h i last) x.w).1)] /\ ∀ p∈l'++[((rdS i).1,(gy (dlI x.h i last) x.w).1)],p.1<=(rdS i).1:=by
    intro h0
    obtain ⟨h2,h3, -⟩:=uw (rR (jd hV) h0)
    refine ⟨rS _ _ _ λp hp e=> ?_,λp hp=> ?_⟩
    ·have:=hlast p hp
     omega
    ·rcases List.mem_append.1 hp with hp | hp
     ·have:=hlast p hp
      omega
     ·rw [List.mem_singleton.1 hp]
      exact Int.le_refl _
   obtain ⟨m',h1,h2⟩:=ih (gy (dlI x.h i last) x.w).2 (rdS i).1 (l'++[((rdS i).1,(gy (dlI x.h i last) x.w).1)]) (msl (rdS i).1 (gy (dlI x.h i last) x.w).1 l') (by omega) (nL (jd hV)) hnew
   have hd:dlL (k+1) x.w x.h i last l'=dlL k x.w x.h (gy (dlI x.h i last) x.w).2 (rdS i).1 (l'++[((rdS i).1,(gy (dlI x.h i last) x.w).1)]):=by
    conv=>lhs; unfold dlL
    rw [if_pos he]
   rw [hd]
   exact ⟨m',by rw [bS hstep,h1],h2⟩
  ·rw [nT _ _ _ _ _ _ he]
   refine ⟨l',bB ?_,λh=>absurd h he⟩
   subst hf
   dsimp only
   have e1:cE i=some i.e:=rfl
   have e2:(i.e == 0)=false:=by simpa using he
   rw [decide_eq_true (by omega),cond_true,e1,aA,e2,aA,cond_false,hx2]
theorem tu {i:aE} (h:VI i):gE i=some (bG i 1000):=size_eq h
theorem xS (s:ByteArray) (h:s.size<=1000000): ∃ m',iZ s=some (⟨(zA s).1,zS s,some m'⟩,ju (zR s).2)/\((zR s).2.e=0->m'=(zR s).1):=by
 have v0:VI (⟨s,0⟩:aE):=⟨h,.inl rfl⟩
 have vA:VI (zA s).2:=eC v0
 have vB:VI (zB s).2:=eC vA
 have vC:VI (zC s).2:=eE _ vB
 have vD:VI (zD s).2:=eE _ vC
 have vE:VI (zE s).2:=eC vD
 have vF:VI (zF s).2:=eC vE
 have vT:VI (zT s).2:=oE vF
 have vG:VI (zG s).2:=eC vT
 have vH:VI (zH s).2:=eC vG
 have vK:VI (zK s).2:=oF vH
 have vN:VI (zN s).2:=eC vK
 have hn:=iJ vK
 have hw:(zS s).w<=1000:=(fq (m:=1000) vB (by omega)).2
 obtain ⟨N,hN⟩:=Int.eq_ofNat_of_zero_le (show 0<=(zN s).1 from hn.1)
 have hN2:N<=4611686018427387904:=by have:(zN s).1<=4611686018427387904:=hn.2; omega
 obtain ⟨m',h1,h2⟩:=ux (zA s).1 (zS s) rfl hw _ rfl N (zN s).2 (-1) [] [] hN2 vN (λ_=>⟨rfl,λp hp=>by cases hp⟩)
 have hR:zR s=dlL N (zS s).w (zS s).h (zN s).2 (-1) []:=by
  unfold zR
  rw [hN,Int.toNat_natCast]
  rfl
 rw [<- hR] at h1 h2
 refine ⟨m',?_,h2⟩
 unfold iZ
 have e0:iX s=some ⟨s,0⟩:=rfl
 have e1:aV ⟨s,0⟩=some (zA s):=gV _ v0
 have e2:aV (zA s).2=some (zB s):=gV _ vA
 have e3:gE (zB s).2=some (zC s):=tu vB
 have e4:gE (zC s).2=some (zD s):=tu vC
 have e5:aV (zD s).2=some (zE s):=gV _ vD
 have e6:aV (zE s).2=some (zF s):=gV _ vE
 have e7:fT (zF s).2=some (zT s):=vj _ vF
 have e8:aV (zT s).2=some (zG s):=gV _ vT
 have e9:aV (zG s).2=some (zH s):=gV _ vG
 have e10:fK (zH s).2=some (zK s):=tj _ vH
 have e11:aV (zK s).2=some (zN s):=gV _ vK
 rw [e0,aA,e1,aA,e2,aA,e3,aA,e4,aA,e5,aA,e6,aA,e7,aA,e8,aA,e9,aA,e10,aA,e11,aA]
 have hS:aK.mk (zB s).1 (zC s).1 (zD s).1 (zE s).1 (zF s).1 (zT s).1 ([]:List aP) (zG s).1 (zH s).1 (zK s).1=zS s:=rfl
 rw [hS,hN,h1,aA,rL,aA]
 rfl
def fZ (A:List aP) (l:List (Int×aP)):Nat->Nat->List aP->Option (List aP)
 | 0,_,acc=>some acc
 | k+1,y,acc=>match mgl (y:Int) l,A[y]? with
  | some r,some q=>if q=r then none else fZ A l k (y+1) (acc++[r])
  | some r,none=>fZ A l k (y+1) (acc++[r])
  | none,some q=>fZ A l k (y+1) (acc++[q])
  | none,none=>none
theorem uy (sum:Int) (x a:aK) (l:List (Int×aP)) (H:Nat) (hH:H<=1000) (hh:x.h=(H:Int)) (ha: ∀ r∈a.rows,r.cells.length<=1000000) (f:aY×Int->Option ((aY×Int) ⊕ (aY ⊕ (Bool×aY)))) (hf:f=(λb=>(bif (decide (b.2 < x.h)) then (Option.bind (fz a b.2) λc=>(Option.bind ((Option.bind ((bif (jh b.1.rows b.2) then (bif c.2 then (Option.bind (gn c.1 (mgd b.1.rows b.2 (aP.mk ([]:List aI) false))) λe=>some e) else some false) else some false):Option Bool) λd=>(Option.bind ((bif d then some d else (bif (!(jh b.1.rows b.2)) then some (!c.2) else some false)):Option Bool) λg=>(bif g then (kz (eT (some (false,(aY.mk b.1.sum (aK.mk b.1.to.k b.1.to.w b.1.to.h b.1.to.x b.1.to.y b.1.to.title b.1.to.rows b.1.to.len b.1.to.chain b.1.to.begun) b.1.rows))))) else (bif (!(jh b.1.rows b.2)) then some (.inl c.1) else some (.inl (mgd b.1.rows b.2 (aP.mk ([]:List aI) false))))))):Option (aP ⊕ ((aY×Int) ⊕ (aY ⊕ (Bool×aY))))) λ | .inl e1033=>(Option.bind (chk (dK b.1.to.rows.length [e1033].length 32)) λ_=>some (.inl ((aY.mk b.1.sum (aK.mk b.1.to.k b.1.to.w b.1.to.h b.1.to.x b.1.to.y b.1.to.title (b.1.to.rows++[e1033]) b.1.to.len b.1.to.chain b.1.to.begun) b.1.rows),(IntKind.i64.wrap (b.2+1))))) | .inr w=>some w)) else some (.inr (.inl (aY.mk b.1.sum (aK.mk b.1.to.k b.1.to.w b.1.to.h b.1.to.x b.1.to.y b.1.to.title b.1.to.rows b.1.to.len b.1.to.chain b.1.to.begun) b.1.rows))))) ) :
  ∀ (k y:Nat) (acc:List aP),y+k=H->acc.length=y ->
  (∀ out,fZ a.rows l k y acc=some out->iter f (⟨sum,hK x acc,some l⟩,(y:Int))=some (.inl ⟨sum,hK x out,some l⟩))/\(fZ a.rows l k y acc=none -> ∃ p',iter f (⟨sum,hK x acc,some l⟩,(y:Int))=some (.inr (false,p'))):=by
 intro k
 induction k with
 | zero =>
  intro y acc hy hl
  refine ⟨λout ho=> ?_,λho=>by cases ho⟩
  injection ho with ho
  subst ho
  refine bB ?_
  subst hf
  dsimp only
  rw [decide_eq_false (by omega),cond_false]
 | succ k ih =>
  intro y acc hy hl
  have hgo: ∀ r:aP,(∀ out,fZ a.rows l k (y+1) (acc++[r])=some out->iter f (⟨sum,hK x (acc++[r]),some l⟩,((y+1:Nat):Int))=some (.inl ⟨sum,hK x out,some l⟩))/\(fZ a.rows l k (y+1) (acc++[r])=none -> ∃ p',iter f (⟨sum,hK x (acc++[r]),some l⟩,((y+1:Nat):Int))=some (.inr (false,p'))):=λr=>ih (y+1) (acc++[r]) (by omega) (by simp [hl])
  have hap:chk (dK acc.length 1 32)=some ():=bO (by omega)
  have hwr:IntKind.i64.wrap ((y:Int)+1)=((y+1:Nat):Int):=by rw [w64 (by omega) (by omega)]; rfl
  -- a step that goes on with a row
  have hon: ∀ r:aP,f (⟨sum,hK x acc,some l⟩,(y:Int))=some (.inl (⟨sum,hK x (acc++[r]),some l⟩,((y+1:Nat):Int)))->fZ a.rows l (k+1) y acc=fZ a.rows l k (y+1) (acc++[r])->(∀ out,fZ a.rows l (k+1) y acc=some out->iter f (⟨sum,hK x acc,some l⟩,(y:Int))=some (.inl ⟨sum,hK x out,some l⟩))/\(fZ a.rows l (k+1) y acc=none -> ∃ p',iter f (⟨sum,hK x acc,some l⟩,(y:Int))=some (.inr (false,p'))):=by
   intro r h1 h2
   rw [h2,bS h1]
   exact hgo r
  have hoff:(∃ p',f (⟨sum,hK x acc,some l⟩,(y:Int))=some (.inr (.inr (false,p'))))->fZ a.rows l (k+1) y acc=none->(∀ out,fZ a.rows l (k+1) y acc=some out->iter f (⟨sum,hK x acc,some l⟩,(y:Int))=some (.inl ⟨sum,hK x out,some l⟩))/\(fZ a.rows l (k+1) y acc=none -> ∃ p',iter f (⟨sum,hK x acc,some l⟩,(y:Int))=some (.inr (false,p'))):=by
   rintro ⟨p',h1⟩ h2
   rw [h2]
   exact ⟨λout ho=>(by cases ho),λ_=>⟨p',bB h1⟩⟩
  have hd:decide ((y:Int) < x.h)=true:=decide_eq_true (by omega)
  cases hm:mgl (y:Int) l with
  | some r =>
   have m1:jh (some l) (y:Int)=true:=by simp [jh,hm]
   have m2: ∀ z,mgd (some l) (y:Int) z=r:=λz=>by simp [mgd,hm]
   by_cases hya:y < a.rows.length
   ·have e1:a.rows[y]?=some a.rows[y]:=List.getElem?_eq_getElem hya
    by_cases hq:a.rows[y]=r
    ·refine hoff ⟨⟨sum,hK x acc,some l⟩,?_⟩ (by simp only [fZ,hm,e1,if_pos hq])
     subst hf
     dsimp only
     rw [hd,cond_true,qe a y hya,aA]
     dsimp only
     rw [m1,m2,cond_true,cond_true,u9 _ _ (ha _ (List.getElem_mem hya)),decide_eq_true hq]
     rfl
    ·refine hon r ?_ (by simp only [fZ,hm,e1,if_neg hq])
     subst hf
     dsimp only
     rw [hd,cond_true,qe a y hya,aA]
     dsimp only
     rw [m1,m2,cond_true,cond_true,u9 _ _ (ha _ (List.getElem_mem hya)),decide_eq_false hq]
     show Option.bind (chk (dK acc.length 1 32)) _=_
     rw [hap,aA,hwr]
     rfl
   ·have e1:a.rows[y]?=none:=List.getElem?_eq_none (by omega)
    refine hon r ?_ (by simp only [fZ,hm,e1])
    subst hf
    dsimp only
    rw [hd,cond_true,q7 a y hya,aA]
    dsimp only
    rw [m1,m2]
    show Option.bind (chk (dK acc.length 1 32)) _=_
    rw [hap,aA,hwr]
    rfl
  | none =>
   have m1:jh (some l) (y:Int)=false:=by simp [jh,hm]
   by_cases hya:y < a.rows.length
   ·have e1:a.rows[y]?=some a.rows[y]:=List.getElem?_eq_getElem hya
    refine hon a.rows[y] ?_ (by simp only [fZ,hm,e1])
    subst hf
    dsimp only
    rw [hd,cond_true,qe a y hya,aA]
    dsimp only
    rw [m1]
    show Option.bind (chk (dK acc.length 1 32)) _=_
    rw [hap,aA,hwr]
    rfl
   ·have e1:a.rows[y]?=none:=List.getElem?_eq_none (by omega)
    refine hoff ⟨⟨sum,hK x acc,some l⟩,?_⟩ (by simp only [fZ,hm,e1])
    subst hf
    dsimp only
    rw [hd,cond_true,q7 a y hya,aA]
    dsimp only
    rw [m1]
    rfl
def lR (a:aK) (s:ByteArray):aK×Int :=
 if kX a=false then (gQ,1)
 else if ju (zR s).2≠0 then (gQ,ju (zR s).2)
 else if (zA s).1≠((mf (g0 a):Nat):Int) then (gQ,7)
 else match fZ a.rows (zR s).1 (zD s).1.toNat 0 [] with
  | none=>(gQ,1)
  | some l=>if mi (hK (zS s) l) then (gQ,1) else (hK (zS s) l,0)
theorem q8 {i:aE} (hV:VI i) (h:ju i=0):i.e=0/\i.s=noS:=by
 unfold ju at h
 split at h
 ·cases h
 ·rename_i h1
  exact ⟨h,Classical.not_not.1 h1⟩
theorem zVI {s:ByteArray} (h:s.size<=1000000):VI (zB s).2/\VI (zC s).2/\VI (zF s).2/\VI (zH s).2/\VI (zK s).2/\VI (zN s).2/\VI (zR s).2:=by
 have v0:VI (⟨s,0⟩:aE):=⟨h,.inl rfl⟩
 have vB:VI (zB s).2:=eC (eC v0)
 have vC:VI (zC s).2:=eE _ vB
 have vF:VI (zF s).2:=eC (eC (eE _ vC))
 have vH:VI (zH s).2:=eC (eC (oE vF))
 have vK:VI (zK s).2:=oF vH
 have vN:VI (zN s).2:=eC vK
 exact ⟨vB,vC,vF,vH,vK,vN,xR _ _ _ _ _ _ vN⟩
def prl (l:List (Int×aP)):List Int:=l.flatMap λp=>bV p.1++eF p.2
theorem y8 {i:aE} (hV:VI i) (h:(rdS i).2.e=0):i.e=0/\sbs i.s=bV (rdS i).1++sbs (rdS i).2.s:=by
 obtain ⟨h1,w,h2,h3,h4⟩:=qT h hV
 exact ⟨h1,by rw [h2,ik h3]; exact h4⟩
theorem q9: ∀ (k:Nat) (w h:Int) (i:aE) (last:Int) (l:List (Int×aP)),VI i->(dlL k w h i last l).2.e=0 -> ∃ D,prl (dlL k w h i last l).1=prl l++D/\sbs i.s=D++sbs (dlL k w h i last l).2.s
 | 0,w,h,i,last,l,hV,he=>⟨[],by simp [dlL],by simp [dlL]⟩
 | k+1,w,h,i,last,l,hV,he=>by
  have hi:=zZ _ _ _ _ _ _ he
  unfold dlL at he ⊢
  rw [if_pos hi] at he ⊢
  have h0:=zZ _ _ _ _ _ _ he
  have h1:=rR (jd hV) h0
  obtain ⟨h2,h3,h4⟩:=uw h1
  obtain ⟨D,d1,d2⟩:=q9 k w h _ _ _ (nL (jd hV)) he
  have hr:(rdS i).2.e=0:=by rw [<- h4]; exact h1
  obtain ⟨-,h5⟩:=y8 hV hr
  have h6:=um (jd (h:=h) (last:=last) hV) h0
  refine ⟨bV (rdS i).1++eF (gy (dlI h i last) w).1++D,?_,?_⟩
  ·rw [d1]
   unfold prl
   rw [List.flatMap_append,List.flatMap_singleton]
   simp only [List.append_assoc]
  ·rw [h5,<- h4,h6,d2]
   simp only [List.append_assoc]
theorem AP {i:aE} {m:Nat} (h:SZ m i):(ku i).2.s.size<=m:=by
 by_cases he:(ku i).2.e=0
 ·obtain ⟨-,hw⟩:=AK h.1 he
  have:=congrArg List.length hw
  rw [List.length_append,aQ,aQ] at this
  have:=h.2
  omega
 ·rcases (oE h.1).2 with h1 | h1
  ·exact absurd h1 he
  ·rw [h1]; exact Nat.zero_le _
theorem BA {i:aE} {m:Nat} (h:SZ m i):(bkS i).2.s.size<=m:=by
 by_cases he:(bkS i).2.e=0
 ·obtain ⟨-,hw⟩:=qZ h.1 he
  have:=congrArg List.length hw
  rw [List.length_append,aQ,aQ] at this
  have:=h.2
  omega
 ·rcases (oF h.1).2 with h1 | h1
  ·exact absurd h1 he
  ·rw [h1]; exact Nat.zero_le _
theorem qg: ∀ (k:Nat) (w h:Int) (i:aE) (last:Int) (l:List (Int×aP)),VI i->w<=1000->(∀ p∈l,okR p.2.cells/\p.2.cells.length<=1000) -> ∀ p∈(dlL k w h i last l).1,okR p.2.cells/\p.2.cells.length<=1000
 | 0,w,h,i,last,l,hV,hw,hl=>hl
 | k+1,w,h,i,last,l,hV,hw,hl=>by
  unfold dlL
  split
  ·refine qg k w h _ _ _ (nL (jd hV)) hw ?_
   intro p hp
   rcases List.mem_append.1 hp with hp | hp
   ·exact hl p hp
   ·rw [List.mem_singleton.1 hp]
    exact yU (jd hV) hw
  ·exact hl
theorem lS {α:Type} {k:Int} {x:α}: ∀ {l:List (Int×α)},mgl k l=some x->(k,x)∈l
 | [],h=>by cases h
 | (j,y)::l,h=>by
  simp only [mgl] at h
  split at h
  ·rename_i hk
   injection h with h
   subst h hk
   exact List.mem_cons_self ..
  ·exact List.mem_cons_of_mem _ (lS h)
theorem qh {A:List aP} {l:List (Int×aP)} (Q:aP->Prop) (hA: ∀ r∈A,Q r) (hl: ∀ p∈l,Q p.2): ∀ (k y:Nat) (acc out:List aP),fZ A l k y acc=some out->(∀ r∈acc,Q r)->(∀ r∈out,Q r)/\out.length=acc.length+k
 | 0,y,acc,out,h,hacc=>by
  injection h with h
  subst h
  exact ⟨hacc,rfl⟩
 | k+1,y,acc,out,h,hacc=>by
  have go: ∀ r,Q r->fZ A l k (y+1) (acc++[r])=some out->(∀ r∈out,Q r)/\out.length=acc.length+(k+1):=by
   intro r hr h2
   obtain ⟨h3,h4⟩:=qh Q hA hl k (y+1) (acc++[r]) out h2 (λq hq=>by
    rcases List.mem_append.1 hq with hq | hq
    ·exact hacc q hq
    ·rw [List.mem_singleton.1 hq]; exact hr)
   refine ⟨h3,h4.trans ?_⟩
   simp only [List.length_append,List.length_cons,List.length_nil]
   omega
  simp only [fZ] at h
  split at h
  ·rename_i r q h1 h2
   split at h
   ·cases h
   ·exact go r (hl _ (lS h1)) h
  ·rename_i r h1 h2
   exact go r (hl _ (lS h1)) h
  ·rename_i q h1 h2
   exact go q (hA _ (List.mem_of_getElem? h2)) h
  ·cases h
def tot (y:Int):List (Int×aP)->Nat
 | []=>0
 | (j,z)::l=>(if y<=j then (eF z).length else 0)+tot y l
theorem qi (y:Int): ∀ l,tot (y+1) l<=tot y l
 | []=>Nat.le_refl _
 | (j,z)::l=>by
  have:=qi y l
  simp only [tot]
  by_cases h1:y+1<=j
  ·rw [if_pos h1,if_pos (by omega)]; omega
  ·rw [if_neg h1]; omega
theorem rT (y:Int) {r:aP}: ∀ l,mgl y l=some r->(eF r).length+tot (y+1) l<=tot y l
 | [],h=>by cases h
 | (j,z)::l,h=>by
  simp only [mgl] at h
  simp only [tot]
  split at h
  ·rename_i hk
   injection h with h
   subst h hk
   have:=qi y l
   rw [if_neg (by omega),if_pos (Int.le_refl _)]
   omega
  ·have:=rT y l h
   by_cases h1:y+1<=j
   ·rw [if_pos h1,if_pos (by omega)]; omega
   ·rw [if_neg h1]; omega
theorem uz (y:Int): ∀ l,tot y l<=(prl l).length
 | []=>Nat.le_refl _
 | (j,z)::l=>by
  have:=uz y l
  unfold prl at this ⊢
  simp only [tot,List.flatMap_cons,List.length_append]
  split <;> omega
theorem qj {A:List aP} {l:List (Int×aP)}: ∀ (k y:Nat) (acc out:List aP),fZ A l k y acc=some out->(out.flatMap eF).length<=(acc.flatMap eF).length+tot (y:Int) l+((A.drop y).flatMap eF).length
 | 0,y,acc,out,h=>by
  injection h with h
  subst h
  omega
 | k+1,y,acc,out,h=>by
  have hn:=qi (y:Int) l
  have e1:((y+1:Nat):Int)=(y:Int)+1:=rfl
  have hd: ∀ q,A[y]?=some q->((A.drop y).flatMap eF).length=(eF q).length+((A.drop (y+1)).flatMap eF).length:=by
   intro q hq
   obtain ⟨h1,h2⟩:=List.getElem?_eq_some_iff.1 hq
   rw [List.drop_eq_getElem_cons h1,List.flatMap_cons,List.length_append,h2]
  have go: ∀ r,fZ A l k (y+1) (acc++[r])=some out->(out.flatMap eF).length<=(acc.flatMap eF).length+(eF r).length+tot ((y:Int)+1) l+((A.drop (y+1)).flatMap eF).length:=by
   intro r h2
   have:=qj k (y+1) (acc++[r]) out h2
   rw [List.flatMap_append,List.flatMap_singleton,List.length_append,e1] at this
   exact this
  have hdd:((A.drop (y+1)).flatMap eF).length<=((A.drop y).flatMap eF).length:=by
   by_cases hy:y < A.length
   ·rw [hd _ (List.getElem?_eq_getElem hy)]; omega
   ·rw [List.drop_eq_nil_of_le (by omega:A.length<=y+1)]
    exact Nat.zero_le _
  simp only [fZ] at h
  split at h
  ·rename_i r q h1 h2
   split at h
   ·cases h
   ·have:=go r h
    have:=rT (y:Int) l h1
    omega
  ·rename_i r h1 h2
   have:=go r h
   have:=rT (y:Int) l h1
   omega
  ·rename_i q h1 h2
   have:=go q h
   have:=hd q h2
   omega
  ·cases h
theorem xT {s:ByteArray} (h:s.size<=1000000) (he:(zR s).2.e=0):(prl (zR s).1).length<=s.size:=by
 obtain ⟨vB,vC,vF,vH,vK,vN,vR⟩:=zVI h
 obtain ⟨D,h1,h2⟩:=q9 _ _ _ _ _ _ vN he
 have hD:prl (zR s).1=D:=h1
 have h3:=congrArg List.length h2
 rw [List.length_append,aQ,<- hD] at h3
 have v0:SZ s.size (⟨s,0⟩:aE):=⟨⟨h,.inl rfl⟩,Nat.le_refl _⟩
 have s1:SZ s.size (zF s).2:=jc (jc (rM _ (rM _ (jc (jc v0)))))
 have s2:SZ s.size (zT s).2:=⟨oE s1.1,AP s1⟩
 have s3:SZ s.size (zH s).2:=jc (jc s2)
 have s4:SZ s.size (zK s).2:=⟨oF s3.1,BA s3⟩
 have s5:=(jc s4).2
 have:(zN s).2.s.size<=s.size:=s5
 omega
theorem nU {a:aK} {s:ByteArray} {l:List aP} (ha:SW a) (pa:(a.rows.flatMap eF).length<=12000) (h:s.size<=100000) (ht:(zT s).1.size<=12000) (he:(zR s).2.e=0) (hl:fZ a.rows (zR s).1 (zD s).1.toNat 0 []=some l):SW (hK (zS s) l)/\(l.flatMap eF).length<=200000:=by
 obtain ⟨vB,vC,vF,vH,vK,vN,vR⟩:=zVI (s:=s) (by omega)
 have b1:=fq (m:=1000) vB (by omega)
 have c1:=fq (m:=1000) vC (by omega)
 have hw1:0<=(zC s).1:=b1.1
 have hw2:(zC s).1<=1000:=b1.2
 have hh1:0<=(zD s).1:=c1.1
 have hh2:(zD s).1<=1000:=c1.2
 have bo:=AL vH
 have hrows:=qg (zN s).1.toNat (zC s).1 (zD s).1 (zN s).2 (-1) [] vN hw2 (λp hp=>by cases hp)
 obtain ⟨p1,p2⟩:=qh (λr=>okR r.cells/\r.cells.length<=1000) ha.ro hrows _ _ _ _ hl (λr hr=>by cases hr)
 have p3:=qj _ _ _ _ hl
 have p4:=uz ((0:Nat):Int) (zR s).1
 have p5:=xT (by omega) he
 have p6:((a.rows.drop 0).flatMap eF).length<=12000:=by simpa using pa
 refine ⟨⟨?_,?_,bo.1,p1,?_,Nat.le_trans bo.2 (by decide),ht⟩,?_⟩
 ·show _<=(zC s).1/\(zC s).1<=_
  omega
 ·show _<=(zD s).1/\(zD s).1<=_
  omega
 ·show l.length<=1000
  rw [p2]
  simp only [List.length_nil]
  omega
 ·simp only [List.flatMap_nil,List.length_nil] at p3
  omega
theorem xU (a:aK) (s:ByteArray) (ha:SW a) (pa:(a.rows.flatMap eF).length<=12000) (h:s.size<=100000) (ht:(zT s).1.size<=12000) (he:(zR s).2.e=0) (sum:Int) :
  (∀ l,fZ a.rows (zR s).1 (zD s).1.toNat 0 []=some l->dS ⟨sum,zS s,some (zR s).1⟩ a=some (!mi (hK (zS s) l),⟨sum,hK (zS s) l,some (zR s).1⟩))/\(fZ a.rows (zR s).1 (zD s).1.toNat 0 []=none -> ∃ p',dS ⟨sum,zS s,some (zR s).1⟩ a=some (false,p')):=by
 obtain ⟨vB,vC,vF,vH,vK,vN,vR⟩:=zVI (s:=s) (by omega)
 have c1:=fq (m:=1000) vC (by omega)
 have hh1:0<=(zD s).1:=c1.1
 have hh2:(zD s).1<=1000:=c1.2
 have har: ∀ r∈a.rows,r.cells.length<=1000000:=λr hr=>by have:=(ha.ro r hr).2; omega
 obtain ⟨H,hH⟩:=Int.eq_ofNat_of_zero_le hh1
 obtain ⟨b1,b2⟩:=uy sum (zS s) a (zR s).1 H (by omega) hH har _ rfl H 0 [] (by omega) rfl
 have hH2:(zD s).1.toNat=H:=by rw [hH,Int.toNat_natCast]
 have hz:hK (zS s) []=zS s:=rfl
 rw [hz] at b1 b2
 refine ⟨λl hl=> ?_,λhl=> ?_⟩
 ·obtain ⟨SWx,pl⟩:=nU ha pa h ht he hl
  rw [hH2] at hl
  have e:=b1 l hl
  unfold dS
  refine (congrArg (λz=>Option.bind z _) e).trans ?_
  rw [aA]
  dsimp only
  have hm:ig (hK (zS s) l)=some (!mi (hK (zS s) l)):=xP _ SWx (by show (l.flatMap eF).length<=1000000; omega)
  show Option.bind (ig (hK (zS s) l)) _=_
  rw [hm,aA]
 ·rw [hH2] at hl
  obtain ⟨p',this⟩:=b2 hl
  refine ⟨p',?_⟩
  unfold dS
  refine (congrArg (λz=>Option.bind z _) this).trans ?_
  rw [aA]
theorem xV (a:aK) (s:ByteArray) (ha:SW a) (pa:(a.rows.flatMap eF).length<=12000) (h:s.size<=100000) (ht:(zT s).1.size<=12000):iF a s=some (lR a s):=by
 obtain ⟨vB,vC,vF,vH,vK,vN,vR⟩:=zVI (s:=s) (by omega)
 unfold iF lR
 rw [tf a ha,aA]
 cases hm:kX a with
 | false=>rw [if_neg (by simp),if_pos rfl]; rfl
 | true =>
  rw [if_pos rfl,if_neg (by simp)]
  obtain ⟨m',r1,r2⟩:=xS s (by omega)
  have k0:((0:Int) != 0)=false:=rfl
  rw [k0,cond_false,r1,aA]
  dsimp only
  by_cases he:ju (zR s).2=0
  ·have k1:(ju (zR s).2 != 0)=false:=by simp [he]
   rw [k1,cond_false,if_neg (λhh=>hh he),y4 a ha pa,aA]
   obtain ⟨he0, -⟩:=q8 vR he
   obtain rfl:=r2 he0
   by_cases hs:(zA s).1=((mf (g0 a):Nat):Int)
   ·have k2:((zA s).1 != ((mf (g0 a):Nat):Int))=false:=by simp [hs]
    rw [k2,cond_false,if_neg (λhh=>hh hs)]
    obtain ⟨b1,b2⟩:=xU a s ha pa h ht he0 (zA s).1
    cases hl:fZ a.rows (zR s).1 (zD s).1.toNat 0 [] with
    | none =>
     obtain ⟨p',b3⟩:=b2 hl
     rw [b3,aA]
     rfl
    | some l =>
     obtain ⟨SWx,pl⟩:=nU ha pa h ht he0 hl
     rw [b1 l hl,aA]
     dsimp only
     cases hn:mi (hK (zS s) l) with
     | true=>rfl
     | false =>
      rw [Bool.not_false,Bool.not_true,cond_false,if_neg (by simp),oG _ SWx,aA]
   ·have k2:((zA s).1 != ((mf (g0 a):Nat):Int))=true:=by simp [hs]
    rw [k2,cond_true,if_pos hs]
    rfl
  ·have k1:(ju (zR s).2 != 0)=true:=by simp [he]
   rw [k1,cond_true,if_pos he]
   rfl
def mM (l:List (Int×aP)) (H:Nat):List Bool:=(List.range H).map λy:Nat=>(mgl (y:Int) l).isSome
def jO (l:List (Int×aP)) (H:Nat):List aP:=(List.range H).map λy:Nat=>(mgl (y:Int) l).getD pV
theorem xW (l:List (Int×aP)) (H:Nat):(mM l H).length=H:=by simp [mM]
theorem tv (l:List (Int×aP)) (H:Nat):(jO l H).length=H:=by simp [jO]
theorem nV (l:List (Int×aP)) (k j:Int) (x:aP) (hn: ∀ p∈l,p.1≠j):mgl k (l++[(j,x)])=if k=j then some x else mgl k l:=by
 induction l with
 | nil=>simp [mgl]
 | cons p l ih =>
  obtain ⟨i,z⟩:=p
  simp only [List.cons_append,mgl]
  have hi:i≠j:=hn (i,z) (by simp)
  by_cases h:k=i
  ·rw [if_pos h,if_neg (by omega),if_pos h]
  ·rw [if_neg h,ih λp hp=>hn p (by simp [hp]),if_neg h]
theorem xX (l:List (Int×aP)) (H j:Nat) (x:aP) (hj:j < H) (hn: ∀ p∈l,p.1≠(j:Int)):(mM l H).set j true=mM (l++[((j:Int),x)]) H:=by
 apply List.ext_getElem?
 intro i
 rw [List.getElem?_set]
 unfold mM
 simp only [List.getElem?_map,List.length_map,List.length_range]
 by_cases h:j=i
 ·subst h
  rw [if_pos rfl,if_pos hj,List.getElem?_range hj]
  simp [nV _ _ _ _ hn]
 ·rw [if_neg h]
  by_cases hi:i < H
  ·rw [List.getElem?_range hi]
   simp only [Option.map_some]
   rw [nV _ _ _ _ hn,if_neg (by omega)]
  ·rw [List.getElem?_eq_none (by simpa using hi)]
   rfl
theorem xY (l:List (Int×aP)) (H j:Nat) (x:aP) (hj:j < H) (hn: ∀ p∈l,p.1≠(j:Int)):(jO l H).set j x=jO (l++[((j:Int),x)]) H:=by
 apply List.ext_getElem?
 intro i
 rw [List.getElem?_set]
 unfold jO
 simp only [List.getElem?_map,List.length_map,List.length_range]
 by_cases h:j=i
 ·subst h
  rw [if_pos rfl,if_pos hj,List.getElem?_range hj]
  simp [nV _ _ _ _ hn]
 ·rw [if_neg h]
  by_cases hi:i < H
  ·rw [List.getElem?_range hi]
   simp only [Option.map_some]
   rw [nV _ _ _ _ hn,if_neg (by omega)]
  ·rw [List.getElem?_eq_none (by simpa using hi)]
   rfl
theorem xZ (H:Nat):mM [] H=List.replicate H false:=by
 apply List.ext_getElem?
 intro i
 unfold mM
 simp only [List.getElem?_map,List.getElem?_replicate]
 by_cases hi:i < H
 ·rw [List.getElem?_range hi,if_pos hi]; rfl
 ·rw [List.getElem?_eq_none (by simpa using hi),if_neg hi]; rfl
theorem x4 (H:Nat):(jO [] H).map told=List.replicate H (told pV):=by
 apply List.ext_getElem?
 intro i
 unfold jO
 simp only [List.getElem?_map,List.getElem?_replicate]
 by_cases hi:i < H
 ·rw [List.getElem?_range hi,if_pos hi]; rfl
 ·rw [List.getElem?_eq_none (by simpa using hi),if_neg hi]; rfl
theorem lu (l:List (Int×aP)) {H y:Nat} (h:y < H):idx (mM l H) (y:Int)=some (mgl (y:Int) l).isSome:=by
 rw [bQ _ _ (by rw [xW]; exact h)]
 simp [mM]
theorem x6 (l:List (Int×aP)) {H y:Nat} (h:y < H):(jO l H)[y]?=some ((mgl (y:Int) l).getD pV):=by
 unfold jO
 rw [List.getElem?_map,List.getElem?_range h]
 rfl
theorem AQ (x:aK) (H N:Nat) (hH:H<=1000) (hh:x.h=(H:Int)) (hw:x.w<=1000) (hN:N<=4611686018427387904) (f:aX×(List Bool)×(List bM)×Int×Int->Option ((aX×(List Bool)×(List bM)×Int×Int) ⊕ (((List Bool)×(List bM)×aX) ⊕ (bK×Int)))) (hf:f=(λa=>(bif (decide (a.2.2.2.2 < (N:Int))) then (Option.bind (bC a.1) λb=>(Option.bind ((bif (b.1.e == 0) then (bif (decide (b.2<=a.2.2.2.1)) then some true else some (decide (b.2>=x.h))) else some false):Option Bool) λd=>(bif d then (eT (some ((bK.mk 0 0 0 0 0 (ByteArray.mk #[]) ([]:List bM) 0 0 ([]:List aU)),1))) else (Option.bind (iN b.1 x.w) λc=>(bif (c.1.e != 0) then (eT (some ((bK.mk 0 0 0 0 0 (ByteArray.mk #[]) ([]:List bM) 0 0 ([]:List aU)),c.1.e))) else (Option.bind (idx a.2.1 b.2) λg=>(Option.bind (idx a.2.2.1 b.2) λj=>some (.inl (c.1,(a.2.1.set b.2.toNat true),(a.2.2.1.set b.2.toNat c.2),b.2,(IntKind.i64.wrap (a.2.2.2.2+1))))))))))) else some (.inr (.inl (a.2.1,a.2.2.1,a.1))))) ) :
  ∀ (k n:Nat) (i:aE) (last:Int) (l:List (Int×aP)),n+k=N->VI i->i.e=0 -> -1<=last->(∀ p∈l,p.1<=last) ->
  iter f (asR i,mM l H,(jO l H).map told,last,(n:Int))=some (if (dlL k x.w x.h i last l).2.e=0 then .inl (mM (dlL k x.w x.h i last l).1 H,(jO (dlL k x.w x.h i last l).1 H).map told,asR (dlL k x.w x.h i last l).2) else .inr (eW gQ,(dlL k x.w x.h i last l).2.e)):=by
 intro k
 induction k with
 | zero =>
  intro n i last l hn hV he h1 hl
  have e0:dlL 0 x.w x.h i last l=(l,i):=rfl
  rw [e0,if_pos he]
  refine bB ?_
  subst hf
  dsimp only
  rw [decide_eq_false (by omega),cond_false]
 | succ k ih =>
  intro n i last l hn hV he h1 hl
  have hrr:=iJ hV
  have hd:dlL (k+1) x.w x.h i last l=dlL k x.w x.h (gy (dlI x.h i last) x.w).2 (rdS i).1 (l++[((rdS i).1,(gy (dlI x.h i last) x.w).1)]):=by
   conv=>lhs; unfold dlL
   rw [if_pos he]
  rw [hd]
  have hcond:((bif ((asR (rdS i).2).e == 0) then (bif (decide ((rdS i).1<=last)) then some true else some (decide ((rdS i).1>=x.h))) else some false):Option Bool)=some (decide ((rdS i).2.e=0/\((rdS i).1<=last\/(rdS i).1>=x.h))):=by
   rw [lq,or2]
   by_cases h0:(rdS i).2.e=0
   ·have:((rdS i).2.e == 0)=true:=by simpa using h0
    rw [this,cond_true]
    simp [h0]
   ·have:((rdS i).2.e == 0)=false:=by simpa using h0
    rw [this,cond_false]
    simp [h0]
  by_cases hrow:(gy (dlI x.h i last) x.w).2.e=0
  ·-- all right
   obtain ⟨h2,h3,h4⟩:=uw (rR (jd hV) hrow)
   have h5:(rdS i).2.e=0:=by rw [<- h4]; exact rR (jd hV) hrow
   obtain ⟨y,hy⟩:=Int.eq_ofNat_of_zero_le hrr.1
   have hyH:y < H:=by omega
   have hnew: ∀ p∈l,p.1≠(y:Int):=λp hp e=>by have:=hl p hp; omega
   rw [bS (s':=(asR (gy (dlI x.h i last) x.w).2,mM (l++[((rdS i).1,(gy (dlI x.h i last) x.w).1)]) H,(jO (l++[((rdS i).1,(gy (dlI x.h i last) x.w).1)]) H).map told,(rdS i).1,((n+1:Nat):Int)))]
   ·refine ih (n+1) _ _ _ (by omega) (nL (jd hV)) hrow (by omega) ?_
    intro p hp
    rcases List.mem_append.1 hp with hp | hp
    ·have:=hl p hp
     omega
    ·rw [List.mem_singleton.1 hp]
     exact Int.le_refl _
   ·subst hf
    dsimp only
    rw [decide_eq_true (by omega),cond_true,gj _ hV,aA]
    dsimp only
    rw [hcond,decide_eq_false (by omega),aA,cond_false,<- h4,oX _ _ (jd hV) hw,aA]
    have k1:((asR (gy (dlI x.h i last) x.w).2).e != 0)=false:=by rw [lq]; simpa using hrow
    dsimp only
    rw [k1,cond_false,hy,lu l hyH,aA,bQ _ _ (by rw [List.length_map,tv]; exact hyH),aA,Int.toNat_natCast,w64 (by omega) (by omega),<- xX l H y _ hyH hnew,<- xY l H y _ hyH hnew,List.map_set]
    rfl
  ·rw [nT _ _ _ _ _ _ hrow,if_neg hrow]
   refine bB ?_
   subst hf
   dsimp only
   rw [decide_eq_true (by omega),cond_true,gj _ hV,aA]
   dsimp only
   rw [hcond]
   by_cases hc:(rdS i).2.e=0/\((rdS i).1<=last\/(rdS i).1>=x.h)
   ·rw [decide_eq_true hc,aA,cond_true]
    have h6:dlI x.h i last=iB:=by
     unfold dlI
     rw [if_pos hc.2]
     unfold qf
     rw [if_pos hc.1]
    have h7:(gy iB x.w).2.e=1:=by
     have:(bG iB 1).2=iB:=by
      have:=nJ (i:=iB) (by decide) 1 (by omega)
      exact this
     unfold gy
     rw [this]
     have h8:rrS (x.w.toNat+1) x.w iB []=([],iB):=by
      unfold rrS
      rw [if_neg (λhh=>absurd hh.2 (by decide))]
     rw [h8,if_neg (by decide)]
     rfl
    rw [h6,h7]
    rfl
   ·rw [decide_eq_false hc,aA,cond_false]
    have h6:dlI x.h i last=if (rdS i).2.e=0 then (rdS i).2 else (rdS i).2:=by
     unfold dlI
     by_cases h0:(rdS i).2.e=0
     ·rw [if_pos h0,if_neg (λhh=>hc ⟨h0,hh⟩)]
     ·rw [if_neg h0]
      split
      ·unfold qf
       rw [if_neg h0]
      ·rfl
    have h7:dlI x.h i last=(rdS i).2:=by rw [h6]; split <;> rfl
    rw [<- h7,oX _ _ (jd hV) hw,aA]
    have k1:((asR (gy (dlI x.h i last) x.w).2).e != 0)=true:=by rw [lq]; simpa using hrow
    dsimp only
    rw [k1,cond_true]
    rfl
theorem AR (a:aK) (l:List (Int×aP)) (H:Nat) (hH:H<=1000) (ha: ∀ r∈a.rows,r.cells.length<=1000000) (hl: ∀ p∈l,p.2.cells.length<=1000000) (f:(List bM)×Int->Option (((List bM)×Int) ⊕ ((List bM) ⊕ (bK×Int)))) (hf:f=(λb=>(bif (decide (b.2 < (((jO l H).map told).length:Int))) then (Option.bind ((Option.bind ((Option.bind (idx (mM l H) b.2) λc=>(bif (!c) then (bif (decide (b.2>=((eW a).rows.length:Int))) then some true else (Option.bind (idx (mM l H) b.2) λd=>(bif d then (bif (decide (b.2 < ((eW a).rows.length:Int))) then (Option.bind (idx b.1 b.2) λe=>(Option.bind (idx (eW a).rows b.2) λg=>(Option.bind (iz e g) λh=>some h))) else some false) else some false))) else (Option.bind (idx (mM l H) b.2) λi=>(bif i then (bif (decide (b.2 < ((eW a).rows.length:Int))) then (Option.bind (idx b.1 b.2) λj=>(Option.bind (idx (eW a).rows b.2) λm=>(Option.bind (iz j m) λn=>some n))) else some false) else some false)))):Option Bool) λo=>(bif o then (kz (eT (some ((bK.mk 0 0 0 0 0 (ByteArray.mk #[]) ([]:List bM) 0 0 ([]:List aU)),1)))) else (Option.bind (idx (mM l H) b.2) λq=>(bif (!q) then (Option.bind (idx (eW a).rows b.2) λs=>(Option.bind (idx b.1 b.2) λt=>some (.inl (b.1.set b.2.toNat s)))) else some (.inl b.1))))):Option ((List bM) ⊕ (((List bM)×Int) ⊕ ((List bM) ⊕ (bK×Int))))) λ | .inl e4726=>some (.inl (e4726,(IntKind.i64.wrap (b.2+1)))) | .inr w=>some w) else some (.inr (.inl b.1)))) ) :
  ∀ (k y:Nat) (acc:List aP),y+k=H->acc.length=y ->
  iter f (acc.map told++((jO l H).map told).drop y,(y:Int))=some (match fZ a.rows l k y acc with | some out=> .inl (out.map told) | none=> .inr (eW gQ,1)):=by
 have lr:((jO l H).map told).length=H:=by rw [List.length_map,tv]
 have la:(eW a).rows.length=a.rows.length:=List.length_map ..
 intro k
 induction k with
 | zero =>
  intro y acc hy hacc
  refine bB ?_
  subst hf
  dsimp only
  rw [decide_eq_false (by omega),cond_false,List.drop_eq_nil_of_le (by omega),List.append_nil]
  rfl
 | succ k ih =>
  intro y acc hy hacc
  have hyH:y < H:=by omega
  have hcell:(((jO l H).map told).drop y)=told ((mgl (y:Int) l).getD pV)::((jO l H).map told).drop (y+1):=by
   rw [List.drop_eq_getElem_cons (by omega)]
   congr 1
   have:=x6 l hyH
   rw [List.getElem_map]
   congr 1
   exact Option.some.inj ((List.getElem?_eq_getElem _).symm.trans this)
  have haccl:(acc.map told).length=y:=by rw [List.length_map]; exact hacc
  have hat:idx (acc.map told++told ((mgl (y:Int) l).getD pV)::((jO l H).map told).drop (y+1)) (y:Int)=some (told ((mgl (y:Int) l).getD pV)):=xu (by rw [haccl])
  rw [hcell]
  have hset: ∀ r:aP,(acc.map told++told ((mgl (y:Int) l).getD pV)::((jO l H).map told).drop (y+1)).set y (told r)=(acc++[r]).map told++((jO l H).map told).drop (y+1):=by
   intro r
   rw [xv (by rw [haccl]),List.map_append]
   simp
  have hon: ∀ r:aP,f (acc.map told++told ((mgl (y:Int) l).getD pV)::((jO l H).map told).drop (y+1),(y:Int))=some (.inl ((acc++[r]).map told++((jO l H).map told).drop (y+1),((y+1:Nat):Int)))->fZ a.rows l (k+1) y acc=fZ a.rows l k (y+1) (acc++[r])->iter f (acc.map told++told ((mgl (y:Int) l).getD pV)::((jO l H).map told).drop (y+1),(y:Int))=some (match fZ a.rows l (k+1) y acc with | some out=> .inl (out.map told) | none=> .inr (eW gQ,1)):=by
   intro r h1 h2
   rw [h2,bS h1]
   exact ih (y+1) (acc++[r]) (by omega) (by simp [hacc])
  have hd:decide ((y:Int) < (((jO l H).map told).length:Int))=true:=decide_eq_true (by omega)
  have hwr:IntKind.i64.wrap ((y:Int)+1)=((y+1:Nat):Int):=by rw [w64 (by omega) (by omega)]; rfl
  cases hm:mgl (y:Int) l with
  | some r =>
   rw [hm] at hat hset hon
   simp only [Option.getD_some] at hat hset hon ⊢
   have hrc:r.cells.length<=1000000:=hl _ (lS hm)
   have hself:(acc.map told++told r::((jO l H).map told).drop (y+1))=(acc++[r]).map told++((jO l H).map told).drop (y+1):=by simp
   by_cases hya:y < a.rows.length
   ·have e1:a.rows[y]?=some a.rows[y]:=List.getElem?_eq_getElem hya
    have ga:idx (eW a).rows (y:Int)=some (told a.rows[y]):=by rw [bQ _ _ (by omega)]; simp
    by_cases hq:a.rows[y]=r
    ·have h2:fZ a.rows l (k+1) y acc=none:=by simp only [fZ,hm,e1,if_pos hq]
     rw [h2]
     refine bB ?_
     subst hf
     dsimp only
     rw [hd,cond_true,lu l hyH,hm,aA]
     simp only [Option.isSome_some,Bool.not_true,cond_false,aA,cond_true]
     rw [decide_eq_true (show (y:Int) < ((eW a).rows.length:Int) by omega),cond_true,hat,aA,ga,aA,tt _ _ hrc,decide_eq_true hq.symm]
     rfl
    ·refine hon r ?_ (by simp only [fZ,hm,e1,if_neg hq])
     subst hf
     dsimp only
     rw [hd,cond_true,lu l hyH,hm,aA]
     simp only [Option.isSome_some,Bool.not_true,cond_false,aA,cond_true]
     rw [decide_eq_true (show (y:Int) < ((eW a).rows.length:Int) by omega),cond_true,hat,aA,ga,aA,tt _ _ hrc,decide_eq_false (λhh=>hq hh.symm),aA,aA,cond_false,aA,hwr,hself]
   ·have e1:a.rows[y]?=none:=List.getElem?_eq_none (by omega)
    refine hon r ?_ (by simp only [fZ,hm,e1])
    subst hf
    dsimp only
    rw [hd,cond_true,lu l hyH,hm,aA]
    simp only [Option.isSome_some,Bool.not_true,cond_false,aA,cond_true]
    rw [decide_eq_false (show ¬ (y:Int) < ((eW a).rows.length:Int) by omega),cond_false,aA,cond_false,aA,hwr,hself]
  | none =>
   rw [hm] at hat hset hon
   simp only [Option.getD_none] at hat hset hon ⊢
   by_cases hya:y < a.rows.length
   ·have e1:a.rows[y]?=some a.rows[y]:=List.getElem?_eq_getElem hya
    have ga:idx (eW a).rows (y:Int)=some (told a.rows[y]):=by rw [bQ _ _ (by omega)]; simp
    refine hon a.rows[y] ?_ (by simp only [fZ,hm,e1])
    subst hf
    dsimp only
    rw [hd,cond_true,lu l hyH,hm,aA]
    simp only [Option.isSome_none,Bool.not_false,cond_true,aA,cond_false]
    rw [decide_eq_false (show ¬ (y:Int)>=((eW a).rows.length:Int) by omega),cond_false,aA,cond_false,ga,aA,hat,aA,aA,hwr,Int.toNat_natCast,hset]
   ·have e1:a.rows[y]?=none:=List.getElem?_eq_none (by omega)
    have h2:fZ a.rows l (k+1) y acc=none:=by simp only [fZ,hm,e1]
    rw [h2]
    refine bB ?_
    subst hf
    dsimp only
    rw [hd,cond_true,lu l hyH,hm,aA]
    simp only [Option.isSome_none,Bool.not_false,cond_true,aA,cond_false]
    rw [decide_eq_true (show (y:Int)>=((eW a).rows.length:Int) by omega)]
    rfl
theorem vo {α β:Type} {x:Option α} {y:α} {g:α->Option β} {out:Option β} (h:x=some y) (h2:g y=out):Option.bind x g=out:=by rw [h]; exact h2
theorem iO {i:aE} (h:i.e≠0):rdS i=(0,i):=by unfold rdS; rw [if_neg h]
theorem tw {i:aE} (h:i.e≠0):ku i=(noS,i):=by
 unfold ku
 rw [iO h]
 unfold rK
 rw [if_pos h]
theorem re {i:aE} (h:i.e≠0) (m:Int) (hm:0<=m):bG i m=(0,i):=by
 unfold bG
 rw [iO h,if_neg (by dsimp only; omega)]
theorem rU {i:aE} (h:i.e≠0):bkS i=([],i):=by
 unfold bkS
 rw [re h 1024 (by omega)]
 dsimp only
 rw [px _ _ _ h,if_neg h]
theorem AS {s:ByteArray} (h:(zC s).2.e≠0):(zR s).2=(zC s).2:=by
 have e1:(zD s).2=(zC s).2:=by unfold zD; rw [re h _ (by omega)]
 have e2:(zE s).2=(zC s).2:=by unfold zE; rw [e1,iO h]
 have e3:(zF s).2=(zC s).2:=by unfold zF; rw [e2,iO h]
 have e4:(zT s).2=(zC s).2:=by unfold zT; rw [e3,tw h]
 have e5:(zG s).2=(zC s).2:=by unfold zG; rw [e4,iO h]
 have e6:(zH s).2=(zC s).2:=by unfold zH; rw [e5,iO h]
 have e7:(zK s).2=(zC s).2:=by unfold zK; rw [e6,rU h]
 have e8:(zN s).2=(zC s).2:=by unfold zN; rw [e7,iO h]
 unfold zR
 rw [e8,nT _ _ _ _ _ _ h]
theorem AT {s:ByteArray} (h:(zD s).2.e≠0):(zR s).2=(zD s).2:=by
 have e2:(zE s).2=(zD s).2:=by unfold zE; rw [iO h]
 have e3:(zF s).2=(zD s).2:=by unfold zF; rw [e2,iO h]
 have e4:(zT s).2=(zD s).2:=by unfold zT; rw [e3,tw h]
 have e5:(zG s).2=(zD s).2:=by unfold zG; rw [e4,iO h]
 have e6:(zH s).2=(zD s).2:=by unfold zH; rw [e5,iO h]
 have e7:(zK s).2=(zD s).2:=by unfold zK; rw [e6,rU h]
 have e8:(zN s).2=(zD s).2:=by unfold zN; rw [e7,iO h]
 unfold zR
 rw [e8,nT _ _ _ _ _ _ h]
theorem x7 {i:aE} (hV:VI i) (h:i.e≠0):ju i=i.e:=by
 unfold ju
 rcases hV.2 with h1 | h1
 ·exact absurd h1 h
 ·rw [if_neg (λhh=>hh h1)]
theorem vp {i:aE} (hV:VI i):((bif ((asR (rdS i).2).e == 0) then some (decide ((rdS i).1 > 1000)) else some false):Option Bool)=some (decide ((rdS i).1 > 1000)):=by
 rw [lq]
 by_cases h0:(rdS i).2.e=0
 ·have:((rdS i).2.e == 0)=true:=by simpa using h0
  rw [this,cond_true]
 ·have:((rdS i).2.e == 0)=false:=by simpa using h0
  rw [this,cond_false]
  have h1:(rdS i).1=0:=m4 h0
  rw [h1]
  rfl
theorem wz (a:aK) (s:ByteArray) (ha:SW a) (pa:(a.rows.flatMap eF).length<=12000) (h:s.size<=100000) (ht:(zT s).1.size<=12000):kU (eW a) s=some (eW (lR a s).1,(lR a s).2):=by
 obtain ⟨vB,vC,vF,vH,vK,vN,vR⟩:=zVI (s:=s) (by omega)
 have v0:VI (⟨s,0⟩:aE):=⟨by show s.size<=1000000; omega,.inl rfl⟩
 have vA:VI (zA s).2:=eC v0
 have vD:VI (zD s).2:=eE _ vC
 have vE:VI (zE s).2:=eC vD
 have vT:VI (zT s).2:=oE vF
 have vG:VI (zG s).2:=eC vT
 unfold kU lR
 rw [xC a ha,aA]
 cases hm:kX a with
 | false=>rw [if_pos rfl]; rfl
 | true =>
  rw [if_neg (by simp),Bool.not_true,cond_false]
  have e1:bC ⟨s,0⟩=some (asR (zA s).2,(zA s).1):=gj ⟨s,0⟩ v0
  have e2:bC (asR (zA s).2)=some (asR (zB s).2,(zB s).1):=gj _ vA
  have e3:=gj _ vB
  rw [e1,aA]
  dsimp only
  rw [e2,aA]
  dsimp only
  rw [e3,aA]
  dsimp only
  rw [vp vB,aA]
  by_cases hW:(rdS (zB s).2).1 > 1000
  ·have hC:(zC s).2=iB:=by unfold zC bG; rw [if_pos hW]
   have hR:(zR s).2=iB:=by rw [AS (by rw [hC]; decide),hC]
   have hE:ju (zR s).2=1:=by rw [hR]; rfl
   rw [decide_eq_true hW,cond_true,hE,if_pos (by decide)]
   rfl
  rw [decide_eq_false hW,cond_false]
  have hC:zC s=((rdS (zB s).2).1,(rdS (zB s).2).2):=by unfold zC bG; rw [if_neg hW]
  have hC1:(rdS (zB s).2).1=(zC s).1:=by rw [hC]
  have hC2:(rdS (zB s).2).2=(zC s).2:=by rw [hC]
  rw [hC1,hC2]
  have e4:=gj _ vC
  rw [e4,aA]
  dsimp only
  rw [vp vC,aA]
  by_cases hHH:(rdS (zC s).2).1 > 1000
  ·have hD:(zD s).2=iB:=by unfold zD bG; rw [if_pos hHH]
   have hR:(zR s).2=iB:=by rw [AT (by rw [hD]; decide),hD]
   have hE:ju (zR s).2=1:=by rw [hR]; rfl
   rw [decide_eq_true hHH,cond_true,hE,if_pos (by decide)]
   rfl
  rw [decide_eq_false hHH,cond_false]
  have hD:zD s=((rdS (zC s).2).1,(rdS (zC s).2).2):=by unfold zD bG; rw [if_neg hHH]
  have hD1:(rdS (zC s).2).1=(zD s).1:=by rw [hD]
  have hD2:(rdS (zC s).2).2=(zD s).2:=by rw [hD]
  rw [hD1,hD2]
  have e5:bC (asR (zD s).2)=some (asR (zE s).2,(zE s).1):=gj _ vD
  have e6:bC (asR (zE s).2)=some (asR (zF s).2,(zF s).1):=gj _ vE
  have e7:iw (asR (zF s).2)=some (asR (zT s).2,(zT s).1):=wu _ vF
  have e8:bC (asR (zT s).2)=some (asR (zG s).2,(zG s).1):=gj _ vT
  have e9:bC (asR (zG s).2)=some (asR (zH s).2,(zH s).1):=gj _ vG
  rw [e5,aA]
  dsimp only
  rw [e6,aA]
  dsimp only
  rw [e7,aA]
  dsimp only
  rw [e8,aA]
  dsimp only
  rw [e9,aA]
  dsimp only
  have hbook:((bif ((asR (zH s).2).e == 0) then (Option.bind (kd (asR (zH s).2)) λb=>some ((bK.mk (zB s).1 (zC s).1 (zD s).1 (zE s).1 (zF s).1 (zT s).1 ([]:List bM) (zG s).1 (zH s).1 b.2),b.1)) else some ((bK.mk (zB s).1 (zC s).1 (zD s).1 (zE s).1 (zF s).1 (zT s).1 ([]:List bM) (zG s).1 (zH s).1 ([]:List aU)),(asR (zH s).2))):Option (bK×aX))=some (eW (zS s),asR (zK s).2):=by
   rw [lq]
   by_cases h0:(zH s).2.e=0
   ·have:((zH s).2.e == 0)=true:=by simpa using h0
    rw [this,cond_true,wv _ vH,aA]
    rfl
   ·have:((zH s).2.e == 0)=false:=by simpa using h0
    rw [this,cond_false]
    have hk:zK s=([],(zH s).2):=rU h0
    unfold zS
    rw [hk]
    rfl
  rw [hbook,aA]
  dsimp only
  have e10:bC (asR (zK s).2)=some (asR (zN s).2,(zN s).1):=gj _ vK
  rw [e10,aA]
  dsimp only
  rw [lq]
  by_cases hN0:(zN s).2.e=0
  ·have k1:((zN s).2.e != 0)=false:=by simp [hN0]
   rw [k1,cond_false]
   have hn:=iJ vK
   have c1:=fq (m:=1000) vC (by omega)
   have b1:=fq (m:=1000) vB (by omega)
   have hw:(zC s).1<=1000:=b1.2
   have hh1:0<=(zD s).1:=c1.1
   have hh2:(zD s).1<=1000:=c1.2
   obtain ⟨N,hN⟩:=Int.eq_ofNat_of_zero_le (show 0<=(zN s).1 from hn.1)
   have hN2:N<=4611686018427387904:=by have:(zN s).1<=4611686018427387904:=hn.2; omega
   obtain ⟨H,hH⟩:=Int.eq_ofNat_of_zero_le hh1
   have hR:zR s=dlL N (zS s).w (zS s).h (zN s).2 (-1) []:=by
    unfold zR
    rw [hN,Int.toNat_natCast]
    rfl
   have hHt:(zD s).1.toNat=H:=by rw [hH,Int.toNat_natCast]
   have hz:(zS s).h=(zD s).1:=rfl
   have hHt2:(zS s).h.toNat=H:=hHt
   have l1:=AQ (zS s) H N (by omega) hH hw hN2 _ rfl N 0 (zN s).2 (-1) [] (by omega) vN hN0 (by omega) (λp hp=>by cases hp)
   rw [<- hR,xZ,x4] at l1
   rw [oA (by omega) (by omega) (by omega),aA,oA (by omega) (by omega) (by omega),aA,hHt2,hN,hHt]
   refine vo l1 ?_
   by_cases he:(zR s).2.e=0
   ·rw [if_pos he]
    dsimp only
    have hst:((zR s).2.s.toList == (ByteArray.mk #[]).toList)=decide ((zR s).2.s=noS):=nH _ noS
    show (bif !((zR s).2.s.toList == (ByteArray.mk #[]).toList) then _ else _)=_
    rw [hst]
    by_cases hs0:(zR s).2.s=noS
    ·have hE:ju (zR s).2=0:=by unfold ju; rw [if_neg (λhh=>hh hs0)]; exact he
     rw [decide_eq_true hs0,Bool.not_true,cond_false,xO a ha pa,aA,hE,if_neg (λhh=>hh rfl)]
     by_cases hs:(zA s).1=((mf (g0 a):Nat):Int)
     ·have k2:((zA s).1 != ((mf (g0 a):Nat):Int))=false:=by simp [hs]
      rw [k2,cond_false,if_neg (λhh=>hh hs)]
      have har: ∀ r∈a.rows,r.cells.length<=1000000:=λr hr=>by have:=(ha.ro r hr).2; omega
      have hrows:=qg (zN s).1.toNat (zC s).1 (zD s).1 (zN s).2 (-1) [] vN hw (λp hp=>by cases hp)
      have hrows2: ∀ p∈(zR s).1,p.2.cells.length<=1000000:=λp hp=>by have:=(hrows p hp).2; omega
      have l2:=AR a (zR s).1 H (by omega) har hrows2 _ rfl H 0 [] (by omega) rfl
      simp only [List.map_nil,List.nil_append,List.drop_zero] at l2
      refine vo l2 ?_
      cases hb:fZ a.rows (zR s).1 H 0 [] with
      | none=>rfl
      | some l =>
       rw [<- hHt] at hb
       obtain ⟨SWx,pl⟩:=nU ha pa h ht he hb
       dsimp only
       have hpk:iy (eW (hK (zS s) l))=some (g0 (hK (zS s) l)):=tr _ SWx (by show (l.flatMap eF).length<=1000000; omega)
       show Option.bind (iy (eW (hK (zS s) l))) _=_
       rw [hpk,aA]
       have hst2:((g0 (hK (zS s) l)).toList == (ByteArray.mk #[]).toList)=mi (hK (zS s) l):=by
        have e:((g0 (hK (zS s) l)).toList == (ByteArray.mk #[]).toList)=decide (g0 (hK (zS s) l)=noS):=nH _ noS
        rw [e]
        cases hn:mi (hK (zS s) l) with
        | true=>rw [decide_eq_true (mG.2 hn)]
        | false=>rw [decide_eq_false (λhh=>by rw [mG.1 hh] at hn; cases hn)]
       rw [hst2]
       cases mi (hK (zS s) l) with
       | true=>rfl
       | false=>rfl
     ·have k2:((zA s).1 != ((mf (g0 a):Nat):Int))=true:=by simp [hs]
      rw [k2,cond_true,if_pos hs]
      rfl
    ·have hE:ju (zR s).2=1:=by unfold ju; rw [if_pos hs0]
     rw [decide_eq_false hs0,hE,if_pos (by decide)]
     rfl
   ·have hE:ju (zR s).2=(zR s).2.e:=x7 vR he
    rw [if_neg he,hE,if_pos he]
  ·have k1:((zN s).2.e != 0)=true:=by simp [hN0]
   have hR:(zR s).2=(zN s).2:=by unfold zR; rw [nT _ _ _ _ _ _ hN0]
   have hE:ju (zR s).2=(zN s).2.e:=by rw [hR]; exact x7 vN hN0
   rw [k1,cond_true,hE,if_pos hN0]
   rfl
def zGr:aM:=⟨0,0,[],noS⟩
def okN (n:Int):Bool:=decide (0<=n/\n<=4611686018427387904)
def il (g:aM):Bool:=decide (1<=g.bY/\g.bY<=4294967296) && (decide (1<=g.kind/\g.kind<=4) && (decide (g.bA.length<=64) && g.bA.all okN))
def lx (g:aM):List Int:=[g.bY,g.kind,(g.bA.length:Int)].flatMap bV++g.bA.flatMap bV++(bV g.data.size++sbs g.data)
def et (g:aM):ByteArray:=mg (cZ (lx g))
def gW (g:aM):Int:=if il g=false then 6 else if (et g).size > 8192 then 3 else 0
def rh (g:aM):ByteArray:=if gW g=0 then et g else noS
theorem ly (l:List Int):(l.flatMap bV).length<=9*l.length:=by
 induction l with
 | nil=>simp
 | cons a l ih =>
  have:=bW a
  simp only [List.flatMap_cons,List.length_append,List.length_cons]
  omega
theorem tx {g:aM} (h:g.bA.length<=64):(lx g).length<=700+g.data.size:=by
 have h1:=ly [g.bY,g.kind,(g.bA.length:Int)]
 have h2:=ly g.bA
 have h3:=bW (g.data.size:Int)
 unfold lx
 simp only [List.length_append,aQ]
 simp only [List.length_cons,List.length_nil] at h1
 omega
theorem rV (n lo hi:Int):fV n lo hi=some (decide (lo<=n/\n<=hi)):=by
 unfold fV
 by_cases a:n>=lo
 ·rw [decide_eq_true a,cond_true,aA]
  by_cases b:n<=hi
  ·rw [decide_eq_true b,decide_eq_true ⟨a,b⟩]
  ·rw [decide_eq_false b,decide_eq_false λh=>b h.2]
 ·rw [decide_eq_false a,cond_false,aA,decide_eq_false λh=>a h.1]
theorem AU {α ρ:Type} (l:List α) (hl:l.length<=1000000) (p:α->Bool) (bad:ρ) (f:Int->Option (Int ⊕ (Unit ⊕ ρ))) (hf: ∀ (i:Nat) (h:i < l.length),f i=if p l[i]=true then some (.inl ((i:Int)+1)) else some (.inr (.inr bad))) (he:f l.length=some (.inr (.inl ()))):iter f 0=some (if l.all p=true then .inl () else .inr bad):=by
 have key: ∀ k i:Nat,i+k=l.length->iter f (i:Int)=some (if (l.drop i).all p=true then .inl () else .inr bad):=by
  intro k
  induction k with
  | zero =>
   intro i h
   rw [show i=l.length by omega,List.drop_length]
   exact bB he
  | succ k ih =>
   intro i h
   have hi:i < l.length:=by omega
   rw [List.drop_eq_getElem_cons hi,List.all_cons]
   have e:=hf i hi
   cases hp:p l[i] with
   | true =>
    rw [hp,if_pos rfl] at e
    rw [bS e,show ((i:Int)+1)=((i+1:Nat):Int) by omega,ih (i+1) (by omega),Bool.true_and]
   | false =>
    rw [hp,if_neg (by simp)] at e
    rw [bB e,Bool.false_and,if_neg (by simp)]
 exact key l.length 0 (by omega)
theorem wA {g:aM} (h:g.bA.length<=1000000):fM g=some (il g):=by
 unfold fM il
 rw [rV,rV,aA,aA]
 by_cases a:1<=g.bY/\g.bY<=4294967296
 ·rw [decide_eq_true a,Bool.not_true,cond_false,Bool.true_and]
  by_cases b:1<=g.kind/\g.kind<=4
  ·rw [decide_eq_true b,Bool.not_true,cond_false,aA,Bool.true_and]
   by_cases c:g.bA.length<=64
   ·rw [decide_eq_false (by omega),cond_false,decide_eq_true c,Bool.true_and]
    rw [AU g.bA (by omega) okN false _ ?hf ?he]
    case hf =>
     intro i hi
     show (bif (decide ((i:Int) < (g.bA.length:Int))) then _ else _)=_
     rw [decide_eq_true (by omega),cond_true,bQ _ i hi,aA,rV,aA,w64 (by omega) (by omega)]
     unfold okN
     cases decide (0<=g.bA[i]/\g.bA[i]<=4611686018427387904) <;> rfl
    case he =>
     show (bif (decide ((g.bA.length:Int) < (g.bA.length:Int))) then _ else _)=_
     rw [decide_eq_false (by omega),cond_false]
    rw [aA]
    cases hh:g.bA.all okN <;> rfl
   ·rw [decide_eq_true (by omega),cond_true,decide_eq_false c]
    rfl
  ·rw [decide_eq_false b,Bool.not_false,cond_true,aA,cond_true]
   rfl
 ·rw [decide_eq_false a,Bool.not_false,cond_true,aA,cond_true]
  rfl
theorem ri {g:aM} (h:g.bA.length<=64) (hd:g.data.size<=100000):fh g=some (et g):=by
 have h1:=ly [g.bY,g.kind,(g.bA.length:Int)]
 have h2:=ly g.bA
 have hb:=tx h
 simp only [List.length_cons,List.length_nil] at h1
 unfold fh et
 rw [ke [] _ (by simp),aA,List.nil_append,ke _ _ (by omega),aA,th _ _ (by rw [List.length_append]; omega),aA,show ∀ b,dZ ⟨b⟩=some (cZ b) from λb=>rfl,aA]
 show Option.bind (jq (cZ (lx g))) _=_
 rw [y5 (by rw [bN]; omega),aA]
theorem rj {g:aM} (h:g.bA.length<=1000000) (hd:g.data.size<=100000):fj g=some (gW g):=by
 unfold fj gW
 rw [wA h,aA]
 cases hr:il g with
 | false=>rfl
 | true =>
  have hn:g.bA.length<=64:=by
   unfold il at hr
   simp only [Bool.and_eq_true,decide_eq_true_eq] at hr
   exact hr.2.2.1
  rw [Bool.not_true,cond_false,ri hn hd,aA,if_neg (by simp)]
  by_cases c:(et g).size > 8192
  ·rw [decide_eq_true (by omega),cond_true,if_pos c]
  ·rw [decide_eq_false (by omega),cond_false,if_neg c]
theorem qk {g:aM} (h:g.bA.length<=1000000) (hd:g.data.size<=100000):dD g=some (rh g):=by
 unfold dD rh
 rw [rj h hd,aA]
 by_cases c:gW g=0
 ·have hn:g.bA.length<=64:=by
   unfold gW at c
   cases hr:il g with
   | false=>rw [hr] at c; simp at c
   | true =>
    unfold il at hr
    simp only [Bool.and_eq_true,decide_eq_true_eq] at hr
    exact hr.2.2.1
  rw [c,show ((0:Int) != 0)=false from rfl,cond_false,ri hn hd,aA,if_pos rfl]
 ·rw [show (gW g != 0)=true by simpa using c,cond_true,if_neg c]
  rfl
def rdN:Nat->aE->List Int->List Int×aE
 | 0,i,l=>(l,i)
 | k+1,i,l=>rdN k (rdS i).2 (l++[(rdS i).1])
theorem uA: ∀ (k:Nat) {i:aE} (l:List Int),VI i->VI (rdN k i l).2
 | 0,_,_,h=>h
 | k+1,_,l,h=>uA k _ (eC h)
theorem rW: ∀ (k:Nat) (i:aE) (l:List Int),(rdN k i l).1.length=l.length+k
 | 0,_,_=>rfl
 | k+1,i,l=>by rw [rdN,rW k]; simp; omega
theorem tz: ∀ (k:Nat) (i:aE) (l:List Int),rdN (k+1) i l=((rdN k i l).1++[(rdS (rdN k i l).2).1],(rdS (rdN k i l).2).2)
 | 0,_,_=>rfl
 | k+1,i,l=>by rw [rdN,tz k]; rfl
theorem uB: ∀ (k:Nat) {i:aE} (l:List Int) {m:Nat},SZ m i->SZ m (rdN k i l).2
 | 0,_,_,_,h=>h
 | k+1,_,l,_,h=>uB k _ (jc h)
def qgA (s:ByteArray):=rdS ⟨jN s,0⟩
def qgB (s:ByteArray):=rdS (qgA s).2
def qgC (s:ByteArray):=rdS (qgB s).2
def qgI (s:ByteArray):aE:=if (qgC s).1 > 64 then iB else (qgC s).2
def qgN (s:ByteArray):=rdN (min (qgC s).1 64).toNat (qgI s) []
def qgT (s:ByteArray):=ku (qgN s).2
def qgR (s:ByteArray):aM:=⟨(qgA s).1,(qgB s).1,(qgN s).1,(qgT s).1⟩
def jw (s:ByteArray):aM×Int :=
 if s.size > 8192 then (zGr,3) else if nS s=false then (zGr,4) else if ju (qgT s).2≠0 then (zGr,ju (qgT s).2) else if gW (qgR s)≠0 then (zGr,gW (qgR s)) else (qgR s,0)
theorem BC {s:ByteArray} (h:s.size<=8192) (h4:4<=s.size):VI (qgA s).2/\VI (qgB s).2/\VI (qgC s).2/\VI (qgI s)/\VI (qgN s).2/\VI (qgT s).2:=by
 have v0:VI (⟨jN s,0⟩:aE):=⟨by show (jN s).size<=1000000; rw [kv h4]; omega,.inl rfl⟩
 have v1:=eC v0
 have v2:=eC v1
 have v3:=eC v2
 have v4:VI (qgI s):=by
  unfold qgI
  split
  ·exact kq
  ·exact v3
 have v5:=uA (min (qgC s).1 64).toNat (i:=qgI s) [] v4
 exact ⟨v1,v2,v3,v4,v5,oE v5⟩
theorem AV {s:ByteArray} (h:s.size<=8192) (h4:4<=s.size):(qgR s).data.size<=8192:=by
 have z0:SZ s.size (⟨jN s,0⟩:aE):=⟨⟨by show (jN s).size<=1000000; rw [kv h4]; omega,.inl rfl⟩,by show (jN s).size<=_; rw [kv h4]; omega⟩
 have z3:SZ s.size (qgC s).2:=jc (jc (jc z0))
 have z4:SZ s.size (qgI s):=by
  unfold qgI
  split
  ·exact ⟨kq,Nat.zero_le _⟩
  ·exact z3
 have z5:SZ s.size (qgN s).2:=uB _ [] z4
 have:=(p8 z5.1 z5.2).1
 show (qgT s).1.size<=_
 exact Nat.le_trans this h
theorem AW (s:ByteArray):(qgR s).bA.length<=64:=by
 show (qgN s).1.length<=64
 rw [qgN,rW]
 simp
 omega
theorem BX {s:ByteArray} (h:s.size<=8192) (h4:4<=s.size):0<=(qgC s).1:=(iJ (BC h h4).2.1).1
theorem wB {s:ByteArray} (h:s.size<=8192) (h4:4<=s.size):jF ⟨jN s,0⟩=some (qgR s,(qgT s).2):=by
 obtain ⟨v1,v2,v3,v4,v5,v6⟩:=BC h h4
 have v0:VI (⟨jN s,0⟩:aE):=⟨by show (jN s).size<=1000000; rw [kv h4]; omega,.inl rfl⟩
 have hc0:=BX h h4
 unfold jF
 rw [gV _ v0,aA,show (rdS ⟨jN s,0⟩)=qgA s from rfl,gV _ v1,aA,show (rdS (qgA s).2)=qgB s from rfl,gV _ v2,aA,show (rdS (qgB s).2)=qgC s from rfl]
 have hi:((bif (decide ((qgC s).1 > 64)) then (Option.bind (aW (qgC s).2 1) λa=>some a) else some (qgC s).2):Option aE)=some (qgI s):=by
  unfold qgI
  by_cases c:(qgC s).1 > 64
  ·rw [decide_eq_true c,cond_true,if_pos c,nI v3,aA,if_pos (show (qgC s).2.e=0 from m5 v2 (by decide) c)]
  ·rw [decide_eq_false c,cond_false,if_neg c]
 rw [hi,aA]
 have hm:cA (qgC s).1 64=((min (qgC s).1 64).toNat:Int):=by unfold cA; split <;> omega
 rw [hm]
 have hk:(min (qgC s).1 64).toNat<=64:=by omega
 refine fc (λj:Nat=>(aM.mk (qgA s).1 (qgB s).1 (rdN j (qgI s) []).1 (ByteArray.mk #[]),(rdN j (qgI s) []).2,(j:Int))) (min (qgC s).1 64).toNat ((qgN s).2,aM.mk (qgA s).1 (qgB s).1 (qgN s).1 (ByteArray.mk #[])) rfl ?_ ?_ ?_
 ·intro j hj
  have hl:=rW j (qgI s) []
  have hs:rdN (j+1) (qgI s) []=((rdN j (qgI s) []).1++[(rdS (rdN j (qgI s) []).2).1],(rdS (rdN j (qgI s) []).2).2):=tz j (qgI s) []
  dsimp only
  rw [decide_eq_true (by omega),cond_true,gV _ (uA j [] v4),aA,bO (by simp [hl]; omega),aA,w64 (by omega) (by omega),hs]
  rfl
 ·dsimp only
  rw [decide_eq_false (by omega),cond_false]
  rfl
 ·dsimp only
  rw [vj _ v5,aA]
  rfl
theorem mH {s:ByteArray} (h:s.size<=100000):fb s=some (jw s):=by
 unfold fb jw
 by_cases c:s.size > 8192
 ·rw [decide_eq_true (by omega),cond_true,if_pos c]
  rfl
 ·rw [decide_eq_false (by omega),cond_false,if_neg c,y6 (by omega),aA]
  unfold q6
  cases ho:nS s with
  | false=>rfl
  | true =>
   have h4:4<=s.size:=by
    unfold nS at ho
    exact (of_decide_eq_true ho).1
   rw [if_pos rfl]
   dsimp only
   rw [Bool.not_true,cond_false,show iX (jN s)=some ⟨jN s,0⟩ from rfl,aA,wB (by omega) h4,aA,rL,aA,if_neg (by simp)]
   dsimp only
   by_cases e:ju (qgT s).2=0
   ·rw [e,show ((0:Int) == 0)=true from rfl,cond_true,rj (by have:=AW s; omega) (by have:=AV (s:=s) (by omega) h4; omega),aA,aA,if_neg (λh=>h rfl)]
    by_cases f:gW (qgR s)=0
    ·rw [f,show ((0:Int) != 0)=false from rfl,cond_false,if_neg (λh=>h rfl)]
    ·rw [show (gW (qgR s) != 0)=true by simpa using f,cond_true,if_pos f]
     rfl
   ·rw [show (ju (qgT s).2 == 0)=false by simpa using e,cond_false,aA,show (ju (qgT s).2 != 0)=true by simpa using e,cond_true,if_pos e]
    rfl
theorem vq {R:List Int} (hR:BB R): ∀ (L l:List Int),(∀ n∈L,okN n=true)->rdN L.length (bI (L.flatMap bV++R)) l=(l++L,bI R)
 | [],l,_=>by simp [rdN]
 | n::L,l,h=>by
  have hn:=of_decide_eq_true (h n List.mem_cons_self)
  have hR2:BB (L.flatMap bV++R):=iE (kf λx _=>jv x) hR
  rw [List.length_cons,rdN,List.flatMap_cons,List.append_assoc,xG hR2 hn.1 hn.2]
  dsimp only
  rw [vq hR L _ λx hx=>h x (List.mem_cons_of_mem _ hx)]
  simp
theorem nW {g:aM} (h:gW g=0):il g=true/\(et g).size<=8192:=by
 unfold gW at h
 cases hr:il g with
 | false=>rw [hr] at h; simp at h
 | true =>
  rw [hr,if_neg (by simp)] at h
  refine ⟨rfl,?_⟩
  split at h
  ·cases h
  ·omega
theorem mj {g:aM} (h:gW g=0):jw (et g)=(g,0):=by
 obtain ⟨hr,hs⟩:=nW h
 have hr2:=hr
 unfold il at hr2
 simp only [Bool.and_eq_true,decide_eq_true_eq,List.all_eq_true] at hr2
 obtain ⟨⟨a1,a2⟩,⟨b1,b2⟩,c1,d1⟩:=hr2
 have hsz:=mF (cZ (lx g))
 have ho:=wy (cZ (lx g))
 rw [show mg (cZ (lx g))=et g from rfl] at hsz ho
 have hd:g.data.size<=8192:=by
  rw [bN] at hsz
  have:g.data.size<=(lx g).length:=by unfold lx; simp only [List.length_append,aQ]; omega
  omega
 unfold q6 at ho
 cases hb:nS (et g) with
 | false=>rw [hb,if_neg (by simp)] at ho; exact absurd (congrArg Prod.snd ho) (by simp)
 | true =>
  rw [hb,if_pos rfl] at ho
  have hf:jN (et g)=cZ (lx g):=(Prod.mk.inj ho).1
  have B0:BB (bV g.data.size++sbs g.data++[]):=iE (iE (jv _) (lQ _)) (λb hb=>by cases hb)
  have B1:BB (g.bA.flatMap bV++(bV g.data.size++sbs g.data++[])):=iE (kf λx _=>jv x) B0
  have B2:BB (bV (g.bA.length:Int)++(g.bA.flatMap bV++(bV g.data.size++sbs g.data++[]))):=iE (jv _) B1
  have B3:BB (bV g.kind++(bV (g.bA.length:Int)++(g.bA.flatMap bV++(bV g.data.size++sbs g.data++[])))):=iE (jv _) B2
  have e0:lx g=bV g.bY++(bV g.kind++(bV (g.bA.length:Int)++(g.bA.flatMap bV++(bV g.data.size++sbs g.data++[])))):=by
   unfold lx
   simp
  have hA:qgA (et g)=(g.bY,bI (bV g.kind++(bV (g.bA.length:Int)++(g.bA.flatMap bV++(bV g.data.size++sbs g.data++[]))))):=by
   unfold qgA
   rw [hf,e0]
   exact xG B3 (by omega) (by omega)
  have hB:qgB (et g)=(g.kind,bI (bV (g.bA.length:Int)++(g.bA.flatMap bV++(bV g.data.size++sbs g.data++[])))):=by
   unfold qgB
   rw [hA]
   exact xG B2 (by omega) (by omega)
  have hC:qgC (et g)=((g.bA.length:Int),bI (g.bA.flatMap bV++(bV g.data.size++sbs g.data++[]))):=by
   unfold qgC
   rw [hB]
   exact xG B1 (by omega) (by omega)
  have hI:qgI (et g)=bI (g.bA.flatMap bV++(bV g.data.size++sbs g.data++[])):=by
   unfold qgI
   rw [hC,if_neg (by dsimp only; omega)]
  have hN:qgN (et g)=(g.bA,bI (bV g.data.size++sbs g.data++[])):=by
   unfold qgN
   rw [hC,hI]
   have:(min ((g.bA.length:Int)) 64).toNat=g.bA.length:=by omega
   dsimp only
   rw [this,vq B0 g.bA [] d1,List.nil_append]
  have hT:qgT (et g)=(g.data,bI []):=by
   unfold qgT
   rw [hN]
   exact By g.data (λb hb=>by cases hb) (by omega)
  have hR:qgR (et g)=g:=by
   unfold qgR
   rw [hA,hB,hN,hT]
  unfold jw
  rw [if_neg (by omega),hb,if_neg (by simp),hT,show ju (bI [])=0 from rfl,if_neg (λh=>h rfl),hR,h,if_neg (λh=>h rfl)]
def okO {α:Type _} (x:Option α) (P:α->Prop):Prop:= ∃ r,x=some r/\P r
theorem vr {α:Type _} {P:α->Prop} {r:α} (h:P r):okO (some r) P:=⟨r,rfl,h⟩
theorem y9 {α β:Type _} {P:α->Prop} {Q:β->Prop} {x:Option α} {f:α->Option β} (h:okO x P) (k: ∀ r,P r->okO (f r) Q):okO (Option.bind x f) Q:=by
 obtain ⟨r,rfl,hp⟩:=h
 exact k r hp
theorem AX {α:Type _} {P:α->Prop} {b:Bool} {x y:Option α} (h1:b=true->okO x P) (h2:b=false->okO y P):okO (bif b then x else y) P:=by
 cases b
 ·exact h2 rfl
 ·exact h1 rfl
theorem BD {α:Type _} {P:α->Prop} {p:Prop} [Decidable p] {x y:Option α} (h1:p->okO x P) (h2: ¬ p->okO y P):okO (bif decide p then x else y) P :=
 AX (λh=>h1 (of_decide_eq_true h)) (λh=>h2 (of_decide_eq_false h))
theorem AY {lo hi n:Int} (h0:0<=lo) (h1:lo<=hi) (h2:hi<=n):okO (chk (fg lo hi n)) (λ_=>True):=⟨(),dG h0 h1 h2,trivial⟩
end Go.Tw.X

import Derived.Test.YtdhkangklnlnoaaGreatDoorFw2
import Derived.Test.YtdhkangklnlnoaaGreatDoorXp1
import Derived.Laws.BitsLemmas
import Derived.Laws.Strings
set_option linter.unusedVariables false
set_option linter.unusedSimpArgs false
namespace Go.Tw.X
open Go Go.Tw
def tc (c:aO):dF:=⟨c.rune,c.bW,c.part⟩
def told (r:aY):bN:=⟨r.cells.map tc,r.wrapped⟩
theorem BX (n:Int):IntKind.u64.wrap n=n % 18446744073709551616:=by simp [IntKind.wrap,IntKind.bits,IntKind.signed]
theorem Ei (n:Int) (h0:0<=n) (h1:n < 2 ^ 63):IntKind.u64.wrap n=n:=by rw [BX]; omega
theorem yI (y:Int) (h0:0<=y) (h1:y < 4294967296):Go.bits .and .u64 y 4294967295=y:=by
 have h:=bits_mask .u64 63 (by decide) Ei 32 (by decide) y h0 (by omega)
 have e:((2:Int) ^ 32 - 1)=4294967295:=by decide
 have e2:((2:Int) ^ 32)=4294967296:=by decide
 rw [e,e2] at h
 rw [h]
 omega
theorem BY {x:Int} (h0:0<=x) (h1:x < 18446744073709551616):IntKind.u64.wrap x=x:=by rw [BX]; omega
theorem yJ (n:Int) (h0:0<=n) (h1:n<=1000000):mD 1 n=some (0,n):=by
 have e32:(2:Int) ^ (min 32 64)=4294967296:=by decide
 have f1:Int.fdiv 1 4294967296=0:=by decide
 have f2:Int.fdiv n 4294967296=0:=by rw [Int.fdiv_eq_ediv_of_nonneg _ (by decide)]; omega
 have f0:Int.fdiv 0 4294967296=0:=by decide
 have z0:IntKind.u64.wrap 0=0:=by rw [BX]; rfl
 have m0:Go.bits .and .u64 0 4294967295=0:=yI 0 (by omega) (by omega)
 have m1:Go.bits .and .u64 1 4294967295=1:=yI 1 (by omega) (by omega)
 have mn:=yI n h0 (by omega)
 have un:IntKind.u64.wrap n=n:=BY h0 (by omega)
 unfold mD me
 simp only [e32,f1,f2,m1,mn,Int.zero_mul,Int.mul_zero,Int.one_mul,z0,un,f0,Int.add_zero,Int.zero_add,m0,aA]
theorem AQ (c:aO) (n:Int) (h0:0<=n) (h1:n<=1000000):dY [c] n=some (List.replicate n.toNat c):=by
 unfold dY
 have hn:decide (n < 0)=false:=decide_eq_false (by omega)
 have u1:IntKind.u64.wrap (([c].length:Nat):Int)=1:=BY (by simp) (by simp)
 rw [hn,cond_false,u1,BY h0 (by omega),yJ n h0 h1]
 simp only [aA]
 have g1:decide ((0:Int) > 0)=false:=by decide
 have g2:decide (n > 9223372036854775807)=false:=decide_eq_false (by omega)
 rw [g1,cond_false,aA,g2,cond_false,w64 (by omega) (by omega),rB h0 (by omega) (by omega),aA]
 obtain ⟨k,rfl⟩: ∃ k:Nat,n=k:=⟨n.toNat,by omega⟩
 simp only [Int.toNat_natCast,List.length_cons,List.length_nil,List.length_replicate]
 have key: ∀ m j,k - j=m->j<=k->(1<=j\/k=0)->iter (σ:=(List aO)×Int) (ρ:=(List aO)) (λa=>(bif (decide (a.2 < (a.1.length:Int))) then (Option.bind (chk (eN a.2 (a.1.length:Int) a.1.length)) λ_=>(Option.bind (chk (eN 0 a.2 a.1.length)) λ_=>some (.inl ((uz a.1 a.2.toNat),(IntKind.i64.wrap (a.2+((Nat.min a.2.toNat (a.1.length - a.2.toNat):Nat):Int))))))) else some (.inr a.1))) (List.replicate j c++List.replicate (k - j) (aO.mk 0 0 0),(j:Int))=some (List.replicate k c):=by
  intro m
  induction m using Nat.strongRecOn with
  | _ m ih =>
   intro j hm hj h1j
   have hlen:(List.replicate j c++List.replicate (k - j) (aO.mk 0 0 0)).length=k:=by simp; omega
   by_cases hjk:j < k
   ·have hmin:Nat.min j (k - j)=min j (k - j):=rfl
    rw [bY (s':=(List.replicate (j+min j (k - j)) c++List.replicate (k - (j+min j (k - j))) (aO.mk 0 0 0),((j+min j (k - j):Nat):Int)))]
    ·exact ih (k - (j+min j (k - j))) (by omega) _ rfl (by omega) (by omega)
    ·have hc:decide ((j:Int) < ((List.replicate j c++List.replicate (k - j) (aO.mk 0 0 0)).length:Int))=true:=by rw [hlen]; simp; omega
     simp only [hc,cond_true]
     rw [hlen,cX (by omega) (by omega) (by omega),aA,cX (by omega) (by omega) (by omega),aA,Int.toNat_natCast,hmin,w64 (by omega) (by omega)]
     congr 2
     refine Prod.ext ?_ ?_
     ·show uz _ _=_
      unfold uz
      rw [hlen]
      have t1:(List.replicate j c++List.replicate (k - j) (aO.mk 0 0 0)).take j=List.replicate j c:=by rw [List.take_left']; simp
      rw [t1,List.take_replicate,List.drop_append,List.drop_of_length_le (by simp),List.nil_append,List.length_replicate,List.drop_replicate,List.replicate_append_replicate,Nat.min_comm (k - j) j]
      congr 2
      omega
     ·show ((j:Int)+((min j (k - j):Nat):Int))=_
      omega
   ·have hjk':j=k:=by omega
    subst hjk'
    rw [bD (r:=List.replicate j c)]
    simp
 have hs:cpy (List.replicate k (aO.mk 0 0 0)) [c]=List.replicate (min 1 k) c++List.replicate (k - min 1 k) (aO.mk 0 0 0):=by
  unfold cpy
  cases k with
  | zero=>simp
  | succ k=>simp [Nat.min_eq_left]
 have hmin:Nat.min (0+1) k=min 1 k:=rfl
 rw [hs,hmin,key _ (min 1 k) rfl (by omega) (by omega),aA]
theorem BZ (l:List aO) (h:l.length<=1000000):fz l=some l:=by
 unfold fz
 rw [bQ (by simp; omega),aA]
 rfl
theorem lO (x y:aO):((x.rune == y.rune) && ((x.bW == y.bW) && ((x.part == y.part) && true)))=decide (x=y):=by
 obtain ⟨a,b,c⟩:=x
 obtain ⟨d,e,f⟩:=y
 by_cases h1:a=d <;> by_cases h2:b=e <;> by_cases h3:c=f <;> simp [h1,h2,h3]
theorem B4 (a b:List aO) (h:a.length<=1000000):fA a b=some (decide (a=b)):=by
 unfold fA
 by_cases hl:a.length=b.length
 ·have e:((a.length:Int) != (b.length:Int))=false:=by simp [hl]
  rw [e,cond_false]
  have key: ∀ (x y d d2:List aO),d++x=a->d2++y=b->d=d2->x.length=y.length->iter (σ:=Int) (ρ:=Unit ⊕ Bool) (λf=>(bif (decide (f < (a.length:Int))) then (Option.bind (idx a f) λg=>(Option.bind (idx b f) λi=>(bif (!((g.rune == i.rune) && ((g.bW == i.bW) && ((g.part == i.part) && true)))) then (fH (some false)) else some (.inl (IntKind.i64.wrap (f+1)))))) else some (.inr (.inl ())))) (d.length:Int)=some (if x=y then .inl () else .inr false):=by
   intro x
   induction x with
   | nil =>
    intro y d d2 hd hd2 hdd hxy
    have:y=[]:=List.eq_nil_of_length_eq_zero hxy.symm
    subst this
    simp at hd
    subst hd
    rw [bD (r:= .inl ())]
    ·simp
    ·simp
   | cons c x ih =>
    intro y d d2 hd hd2 hdd hxy
    cases y with
    | nil=>simp at hxy
    | cons c2 y =>
     subst hdd
     have hal:a.length=d.length+x.length+1:=by rw [<- hd]; simp; omega
     have hc:decide ((d.length:Int) < (a.length:Int))=true:=by simp; omega
     have hx:idx a (d.length:Int)=some c:=by rw [<- hd]; exact sS d x c
     have hx2:idx b (d.length:Int)=some c2:=by rw [<- hd2]; exact sS d y c2
     by_cases hcc:c=c2
     ·subst hcc
      rw [bY (s':=((d++[c]).length:Int))]
      ·rw [ih y (d++[c]) (d++[c]) (by simpa using hd) (by simpa using hd2) rfl (by simpa using hxy)]
       simp
      ·simp only [hc,cond_true,hx,hx2,aA,lO]
       rw [w64 (by omega) (by omega)]
       simp
     ·rw [bD (r:= .inr false)]
      ·simp [hcc]
      ·simp only [hc,cond_true,hx,hx2,aA,lO]
       have:decide (c=c2)=false:=decide_eq_false hcc
       rw [this]
       rfl
  have h0:=key a b [] [] rfl rfl rfl hl
  have e0:((([]:List aO).length:Nat):Int)=0:=rfl
  rw [e0] at h0
  rw [h0,aA]
  by_cases hab:a=b
  ·rw [if_pos hab]; simp [hab]
  ·rw [if_neg hab]; simp [hab]
 ·have e:((a.length:Int) != (b.length:Int))=true:=by simp; omega
  rw [e,cond_true]
  have:a≠b:=λh=>hl (by rw [h])
  simp [this]
theorem vz (r q:aY) (h:r.cells.length<=1000000):gC r q=some (decide (r=q)):=by
 unfold gC
 obtain ⟨a,x⟩:=r
 obtain ⟨b,y⟩:=q
 rw [B4 a b h]
 cases x <;> cases y <;> simp
theorem fS (l:List aO):(l.map tc).length=l.length:=List.length_map _
def rok (x:Int):Prop:= -2147483648<=x/\x<=2147483647
def okR (l:List aO):Prop:= ∀ c∈l,rok c.rune
theorem zP {a b:List aO} (ha:okR a) (hb:okR b):okR (a++b):=λc hc=>(List.mem_append.1 hc).elim (ha c) (hb c)
theorem B5 {a:List aO} (ha:okR a) (n:Nat):okR (a.drop n):=λc hc=>ha c (List.mem_of_mem_drop hc)
theorem w32 {x:Int} (h:rok x):IntKind.i64.wrap x=x:=by obtain ⟨h1,h2⟩:=h; exact w64 (by omega) (by omega)
theorem mi {σ ρ:Type} {f:σ->Option (σ ⊕ ρ)} (S:Nat->σ) (n:Nat) (r:ρ) (hs: ∀ i,i < n->f (S i)=some (.inl (S (i+1)))) (he:f (S n)=some (.inr r)):iter f (S 0)=some r:=by
 have key: ∀ i,i<=n->iter f (S 0)=iter f (S i):=by
  intro i
  induction i with
  | zero=>intro _; rfl
  | succ i ih =>
   intro hi
   rw [ih (by omega),bY (hs i (by omega))]
 rw [key n (Nat.le_refl n),bD he]
theorem eJ {σ ρ β:Type} {f:σ->Option (σ ⊕ ρ)} {s:σ} {g:ρ->Option β} {out:Option β} (S:Nat->σ) (n:Nat) (r:ρ) (h0:s=S 0) (hs: ∀ i,i < n->f (S i)=some (.inl (S (i+1)))) (he:f (S n)=some (.inr r)) (hg:g r=out):Option.bind (iter f s) g=out:=by
 rw [h0,mi S n r hs he]
 exact hg
theorem nE {σ ρ:Type} {f:σ->Option (σ ⊕ ρ)} (Inv:σ->Prop) (m:σ->Nat) (nh:ρ->Prop)
  (hs: ∀ s,Inv s->(∃ s',f s=some (.inl s')/\Inv s'/\m s' < m s)\/(∃ r,f s=some (.inr r)/\nh r)): ∀ s,Inv s -> ∃ r,iter f s=some r/\nh r:=by
 have key: ∀ (n:Nat) s,m s<=n->Inv s -> ∃ r,iter f s=some r/\nh r:=by
  intro n
  induction n with
  | zero =>
   intro s hm hi
   rcases hs s hi with ⟨s',hf,hi',hlt⟩ | ⟨r,hf,hp⟩
   ·omega
   ·exact ⟨r,bD hf,hp⟩
  | succ n ih =>
   intro s hm hi
   rcases hs s hi with ⟨s',hf,hi',hlt⟩ | ⟨r,hf,hp⟩
   ·rw [bY hf]
    exact ih s' (by omega) hi'
   ·exact ⟨r,bD hf,hp⟩
 intro s hi
 exact key (m s) s (Nat.le_refl _) hi
theorem qi {σ ρ β:Type} {f:σ->Option (σ ⊕ ρ)} {s:σ} {g:ρ->Option β} {out:Option β} (Inv:σ->Prop) (m:σ->Nat) (nh:ρ->Prop) (h0:Inv s)
  (hs: ∀ s,Inv s->(∃ s',f s=some (.inl s')/\Inv s'/\m s' < m s)\/(∃ r,f s=some (.inr r)/\nh r)) (hg: ∀ r,nh r->g r=out):Option.bind (iter f s) g=out:=by
 obtain ⟨r,h1,h2⟩:=nE Inv m nh hs s h0
 rw [h1]
 exact hg r h2
theorem or2 (p q:Prop) [Decidable p] [Decidable q]:((bif decide p then some true else some (decide q)):Option Bool)=some (decide (p\/q)):=by
 by_cases a1:p <;> by_cases a2:q <;> simp [a1,a2]
theorem bK {α:Type} (l:List α) (n:Nat) (h:n < l.length):idx l (n:Int)=some l[n]:=by rw [qg,List.getElem?_eq_getElem h]
theorem Ej {α:Type} (l r:List α) (x y:α):(l++x::r).set l.length y=l++y::r:=by simp
theorem qj {α:Type} (l:List α) (a b:Nat):cut l (a:Int) (b:Int)=(l.take b).drop a:=by simp [cut]
def tF:aY:=⟨[],false⟩
theorem B6 (a b:List aY) (ha:a.length<=1000000) (h: ∀ r∈a,r.cells.length<=1000000):cS a b=some (decide (a=b)):=by
 unfold cS
 by_cases hl:a.length=b.length
 ·have e0:((a.length:Int) != (b.length:Int))=false:=by simp [hl]
  rw [e0,cond_false]
  refine qi (λi:Int=> ∃ n:Nat,i=n/\n<=a.length/\a.take n=b.take n) (λi=>(a.length - i).toNat) (λr=>r=(if a=b then .inl () else .inr false)) ⟨0,rfl,by omega,rfl⟩ ?_ ?_
  ·rintro i ⟨n,rfl,hn,ht⟩
   by_cases h1:n < a.length
   ·have h2:n < b.length:=by omega
    try dsimp only
    rw [decide_eq_true (by omega),cond_true,bK a n h1,bK b n h2,aA,aA,vz _ _ (h _ (List.getElem_mem h1)),aA]
    by_cases he:a[n]=b[n]
    ·refine .inl ⟨((n+1:Nat):Int),?_,⟨n+1,rfl,by omega,?_⟩,by (try dsimp only); omega⟩
     ·rw [decide_eq_true he,w64 (by omega) (by omega)]
      rfl
     ·rw [List.take_succ_eq_append_getElem h1,List.take_succ_eq_append_getElem h2,ht,he]
    ·refine .inr ⟨.inr false,?_,?_⟩
     ·rw [decide_eq_false he]
      rfl
     ·rw [if_neg]
      intro hab
      subst hab
      exact he rfl
   ·refine .inr ⟨.inl (),?_,?_⟩
    ·try dsimp only
     rw [decide_eq_false (by omega),cond_false]
    ·rw [if_pos]
     have hn2:n=a.length:=by omega
     subst hn2
     rw [List.take_length] at ht
     rw [ht,hl,List.take_length]
  ·intro r hr
   subst hr
   by_cases hab:a=b
   ·rw [if_pos hab,decide_eq_true hab]
   ·rw [if_neg hab,decide_eq_false hab]
 ·have e0:((a.length:Int) != (b.length:Int))=true:=by simp; omega
  rw [e0,cond_true,decide_eq_false]
  intro h
  exact hl (by rw [h])
theorem B7 {α:Type} {l r:List α} {x:α} {k:Int} (h:k=l.length):idx (l++x::r) k=some x:=by rw [h,sS]
theorem B8 {α:Type} {l r:List α} {x y:α} {k:Nat} (h:k=l.length):(l++x::r).set k y=l++y::r:=by rw [h,Ej]
theorem F1 {x:Int} (h0:0<=x) (h1:x < 256):IntKind.u8.wrap x=x:=by rw [IntKind.wrap_u8]; omega
theorem foldl_push (xs:List Int): ∀ l:List UInt8,xs.foldl (λr n=>r.push (UInt8.ofNat n.toNat)) (ByteArray.mk l.toArray)=ByteArray.mk (l++xs.map (λn=>UInt8.ofNat n.toNat)).toArray:=by
 induction xs with
 | nil=>intro l; simp
 | cons a xs ih =>
  intro l
  rw [List.foldl_cons]
  have:(ByteArray.mk l.toArray).push (UInt8.ofNat a.toNat)=ByteArray.mk (l++[UInt8.ofNat a.toNat]).toArray:=by
   show ByteArray.mk (l.toArray.push _)=_
   rw [List.push_toArray]
  rw [this,ih]
  simp
theorem mW (xs:List Int):dM xs=ByteArray.mk (xs.map (λn=>UInt8.ofNat n.toNat)).toArray:=foldl_push xs []
theorem dH (a b:List Int):dM (a++b)=dM a++dM b:=by
 rw [mW,mW,mW,ByteArray.mk_append_mk,List.map_append]
theorem bO (a:List Int):(dM a).size=a.length:=by
 rw [mW]
 simp [ByteArray.size]
theorem eC {n m:Nat} (h:n+m<=4611686018427387904):chk (kG n m)=some ():=jA h
def gF (n:Nat):List Int:=if n < 128 then [(n:Int)] else ((128+n % 128:Nat):Int)::gF (n / 128)
termination_by n
decreasing_by omega
def clN (n:Int):Nat:=(max 0 (min n 4611686018427387904)).toNat
theorem B9 (n:Int):imax 0 (cB n 4611686018427387904)=(clN n:Int):=by rw [vm,nV]; unfold clN; omega
theorem yK (n:Int):clN n<=4611686018427387904:=by unfold clN; omega
def cH (n:Int):List Int:=gF (clN n)
theorem eY {n:Nat} (h:n < 128):gF n=[(n:Int)]:=by rw [gF,if_pos h]
theorem lP {n:Nat} (h: ¬ n < 128):gF n=((128+n % 128:Nat):Int)::gF (n / 128):=by rw [gF,if_neg h]
theorem qk: ∀ (k n:Nat),n < 128 ^ (k+1)->(gF n).length<=k+1:=by
 intro k
 induction k with
 | zero =>
  intro n h
  rw [eY (by omega)]
  simp
 | succ k ih =>
  intro n h
  by_cases hn:n < 128
  ·rw [eY hn]
   simp
  ·rw [lP hn,List.length_cons]
   have:n / 128 < 128 ^ (k+1):=by
    rw [Nat.pow_succ] at h
    exact Nat.div_lt_of_lt_mul (by rw [Nat.mul_comm]; exact h)
   have:=ih _ this
   omega
theorem cI (n:Int):(cH n).length<=9:=qk 8 _ (by have:=yK n; omega)
theorem nF: ∀ (n:Nat),∀ b∈gF n,0<=b/\b < 256:=by
 intro n
 induction n using Nat.strongRecOn with
 | _ n ih =>
  intro b hb
  by_cases hn:n < 128
  ·rw [eY hn,List.mem_singleton] at hb
   omega
  ·rw [lP hn] at hb
   rcases List.mem_cons.1 hb with rfl | hb
   ·omega
   ·exact ih (n / 128) (by omega) b hb
theorem Ca (x:Int) (h0:0<=x) (h1:x < 256):Go.bits .and .u8 x 127=x % 128:=by
 have h:=bits_mask .u8 8 (by decide) wraps_u8 7 (by decide) x h0 (by omega)
 have e:((2:Int) ^ 7 - 1)=127:=by decide
 have e2:((2:Int) ^ 7)=128:=by decide
 rw [e,e2] at h
 exact h
theorem or_comm (k:IntKind) (x y:Int):Go.bits .or k x y=Go.bits .or k y x:=by
 show k.wrap ((BitVec.ofInt k.bits x ||| BitVec.ofInt k.bits y).toNat:Int)=k.wrap ((BitVec.ofInt k.bits y ||| BitVec.ofInt k.bits x).toNat:Int)
 rw [BitVec.or_comm]
theorem Ek (y:Int) (h0:0<=y) (h1:y < 128):Go.bits .or .u8 y 128=128+y:=by
 rw [or_comm]
 exact bits_join .u8 8 (by decide) wraps_u8 7 128 y (by decide) (by decide) (by decide) h0 (by omega) (by omega)
theorem GU (n:Nat):(n:Int).fdiv (2 ^ (min 7 64))=((n / 128:Nat):Int):=by
 rw [Int.fdiv_eq_ediv_of_nonneg _ (by decide)]
 show (n:Int) / 128=_
 omega
theorem AR (b:List Int) (x:Int) (hb:b.length<=100000000): ∃ e,jB (λ(s661:cJ) (x619:Int)=>(Option.bind (chk (cQ s661.b.length [x619].length 1)) λ_=>some ((cJ.mk (s661.b++[x619])),true))) (⟨b⟩:cJ) x=some ((⟨b++cH x⟩:cJ),e):=by
 unfold jB nZ
 rw [B9,aA]
 unfold cH
 have hle:=yK x
 generalize clN x=n at hle
 have key: ∀ (k n:Nat) (b:List Int),n < 128 ^ (k+1)->b.length+(k+1)<=100000010 -> ∃ e,iter (σ:=Int×cJ) (ρ:=(Int×cJ) ⊕ (cJ×Int)) (λa=>(bif (decide (a.1>=128)) then (Option.bind ((λ(s661:cJ) (x619:Int)=>(Option.bind (chk (cQ s661.b.length [x619].length 1)) λ_=>some ((cJ.mk (s661.b++[x619])),true))) a.2 (Go.bits .or .u8 (Go.bits .and .u8 (IntKind.u8.wrap a.1) 127) 128)) λz68=>(bif (!z68.2) then (fH (some (z68.1,a.1))) else some (.inl ((a.1.fdiv (2 ^ (min 7 64))),z68.1)))) else some (.inr (.inl (a.1,a.2))))) ((n:Int),(⟨b⟩:cJ))=some (.inl ((e:Int),(⟨b++(gF n).dropLast⟩:cJ)))/\0<=e/\e < 128/\gF n=(gF n).dropLast++[e]:=by
  intro k
  induction k with
  | zero =>
   intro n b h hb
   refine ⟨n,?_,by omega,by omega,?_⟩
   ·rw [eY (by omega)]
    refine bD ?_
    dsimp only
    rw [decide_eq_false (by omega),cond_false]
    simp
   ·rw [eY (by omega)]
    rfl
  | succ k ih =>
   intro n b h hb
   by_cases hn:n < 128
   ·refine ⟨n,?_,by omega,by omega,?_⟩
    ·rw [eY hn]
     refine bD ?_
     dsimp only
     rw [decide_eq_false (by omega),cond_false]
     simp
    ·rw [eY hn]
     rfl
   ·have hlt:n / 128 < 128 ^ (k+1):=by
     rw [Nat.pow_succ] at h
     exact Nat.div_lt_of_lt_mul (by rw [Nat.mul_comm]; exact h)
    obtain ⟨e,h1,h2,h3,h4⟩:=ih (n / 128) (b++[((128+n % 128:Nat):Int)]) hlt (by simp; omega)
    refine ⟨e,?_,h2,h3,?_⟩
    ·rw [bY (s':=(((n / 128:Nat):Int),(⟨b++[((128+n % 128:Nat):Int)]⟩:cJ)))]
     ·rw [h1,lP hn]
      have hne:gF (n / 128)≠[]:=by rw [h4]; simp
      rw [List.dropLast_cons_of_ne_nil hne]
      simp
     ·dsimp only
      have hw:IntKind.u8.wrap (n:Int)=((n % 256:Nat):Int):=by rw [IntKind.wrap_u8]; omega
      have hv:Go.bits .or .u8 (Go.bits .and .u8 (IntKind.u8.wrap (n:Int)) 127) 128=((128+n % 128:Nat):Int):=by
       rw [hw,Ca _ (by omega) (by omega),Ek _ (by omega) (by omega)]
       omega
      rw [decide_eq_true (by omega),cond_true,hv,bQ (by simp; omega),aA,aA]
      dsimp only
      rw [Bool.not_true,cond_false,GU]
    ·rw [lP hn]
     have hne:gF (n / 128)≠[]:=by rw [h4]; simp
     rw [List.dropLast_cons_of_ne_nil hne,List.cons_append,<- h4]
 obtain ⟨e,h1,h2,h3,h4⟩:=key 8 n b (by omega) (by omega)
 have hl:=qk 8 n (by omega)
 have hd:(gF n).dropLast.length<=9:=by rw [List.length_dropLast]; omega
 refine ⟨e,?_⟩
 rw [h1,aA]
 dsimp only
 have hu:IntKind.u8.wrap e=e:=by rw [IntKind.wrap_u8]; omega
 rw [hu,bQ (by simp only [List.length_append,List.length_singleton]; omega),aA,aA,List.append_assoc,<- h4]
theorem mj (b:List Int) (l:List Int) (hb:b.length+9*l.length<=10000000):dI ⟨b⟩ l=some ⟨b++l.flatMap cH⟩:=by
 unfold dI mc
 have hfl: ∀ l:List Int,(l.flatMap cH).length<=9*l.length:=by
  intro l
  induction l with
  | nil=>simp
  | cons a l ih =>
   rw [List.flatMap_cons,List.length_append,List.length_cons]
   have:=cI a
   omega
 refine eJ (λi=>((⟨b++(l.take i).flatMap cH⟩:cJ),(i:Int))) l.length (⟨b++l.flatMap cH⟩:cJ) ?_ ?_ ?_ rfl
 ·simp
 ·intro i hi
  dsimp only
  have h4:=hfl (l.take i)
  rw [List.length_take] at h4
  obtain ⟨e,he⟩:=AR (b++(l.take i).flatMap cH) l[i] (by rw [List.length_append]; omega)
  rw [decide_eq_true (by omega),cond_true,bK l i hi,aA,aA,he,aA,w64 (by omega) (by omega),List.take_succ_eq_append_getElem hi,List.flatMap_append,List.flatMap_singleton,List.append_assoc]
  rfl
 ·dsimp only
  rw [decide_eq_false (by omega),cond_false,List.take_length]
theorem iU (x:Int):cF x=some (dM (cH x)):=by
 unfold cF
 rw [B9]
 unfold cH
 have hle:=yK x
 generalize clN x=n at hle
 have key: ∀ (k n:Nat) (b:List Int),n < 128 ^ (k+1)->n<=4611686018427387904->b.length+(k+1)<=1000 -> ∃ e,iter (σ:=Int×(List Int)) (ρ:=Int×(List Int)) (λa=>(bif (decide (a.1>=128)) then (Option.bind (chk (cQ a.2.length [(IntKind.u8.wrap (IntKind.i64.wrap (128+(a.1.tmod 128))))].length 1)) λ_=>some (.inl ((IntKind.i64.wrap (a.1.tdiv 128)),(a.2++[(IntKind.u8.wrap (IntKind.i64.wrap (128+(a.1.tmod 128))))])))) else some (.inr (a.1,a.2)))) ((n:Int),b)=some ((e:Int),b++(gF n).dropLast)/\0<=e/\e < 128/\gF n=(gF n).dropLast++[e]:=by
  intro k
  induction k with
  | zero =>
   intro n b h hmx hb
   refine ⟨n,?_,by omega,by omega,?_⟩
   ·rw [eY (by omega)]
    refine bD ?_
    dsimp only
    rw [decide_eq_false (by omega),cond_false]
    simp
   ·rw [eY (by omega)]
    rfl
  | succ k ih =>
   intro n b h hmx hb
   by_cases hn:n < 128
   ·refine ⟨n,?_,by omega,by omega,?_⟩
    ·rw [eY hn]
     refine bD ?_
     dsimp only
     rw [decide_eq_false (by omega),cond_false]
     simp
    ·rw [eY hn]
     rfl
   ·have hlt:n / 128 < 128 ^ (k+1):=by
     rw [Nat.pow_succ] at h
     exact Nat.div_lt_of_lt_mul (by rw [Nat.mul_comm]; exact h)
    obtain ⟨e,h1,h2,h3,h4⟩:=ih (n / 128) (b++[((128+n % 128:Nat):Int)]) hlt (by omega) (by simp; omega)
    refine ⟨e,?_,h2,h3,?_⟩
    ·have hbig:n < 9223372036854775808:=by omega
     ·rw [bY (s':=(((n / 128:Nat):Int),b++[((128+n % 128:Nat):Int)]))]
      ·rw [h1,lP hn]
       have hne:gF (n / 128)≠[]:=by rw [h4]; simp
       rw [List.dropLast_cons_of_ne_nil hne]
       simp
      ·dsimp only
       have m1:(n:Int).tmod 128=((n % 128:Nat):Int):=by rw [Int.tmod_eq_emod_of_nonneg (by omega)]; omega
       have d1:(n:Int).tdiv 128=((n / 128:Nat):Int):=by rw [Int.tdiv_eq_ediv_of_nonneg (by omega)]; omega
       rw [decide_eq_true (by omega),cond_true,m1,d1,w64 (by omega) (by omega),w64 (by omega) (by omega),F1 (by omega) (by omega),bQ (by simp; omega),aA]
       have:(128:Int)+((n % 128:Nat):Int)=((128+n % 128:Nat):Int):=by omega
       rw [this]
    ·rw [lP hn]
     have hne:gF (n / 128)≠[]:=by rw [h4]; simp
     rw [List.dropLast_cons_of_ne_nil hne,List.cons_append,<- h4]
 obtain ⟨e,h1,h2,h3,h4⟩:=key 8 n [] (by omega) hle (by simp)
 have hl:=qk 8 n (by omega)
 have hd:(gF n).dropLast.length<=9:=by rw [List.length_dropLast]; omega
 rw [h1,aA]
 dsimp only
 rw [F1 h2 (by omega),bQ (by simp only [List.length_append,List.length_singleton,List.length_nil]; omega),aA,List.nil_append,<- h4]
def most:Nat:=4611686018427387904
def rdp:Nat->Nat->Nat->List Int->Int ⊕ (Nat×Nat)
 | 0,_,_,_=> .inl 1
 | _+1,_,_,[]=> .inl 2
 | k+1,i,acc,b::r=>if b < 128 then (if (i > 0/\b=0)\/acc+b.toNat % 128*128 ^ i > most then .inl 1 else .inr (acc+b.toNat % 128*128 ^ i,i+1)) else rdp k (i+1) (acc+b.toNat % 128*128 ^ i) r
def noS:ByteArray:=ByteArray.mk #[]
theorem ql (s:ByteArray): ∀ b∈sbs s,0<=b/\b < 256:=by
 intro b hb
 unfold sbs at hb
 obtain ⟨c,_,rfl⟩:=List.mem_map.1 hb
 have:=c.toNat_lt
 omega
theorem qm (s:ByteArray) (i:Nat) (h:i < (sbs s).length):tC s (i:Int)=some (sbs s)[i]:=by
 unfold tC
 rw [decide_eq_true (by omega),cond_true,Int.toNat_natCast]
 have h2:i < s.data.size:=by rw [bC] at h; exact h
 rw [Array.getElem?_eq_getElem h2]
 simp only [sbs,Option.map_some,List.getElem_map,Array.getElem_toList]
theorem p2 (i:Nat):2 ^ (7*i)=128 ^ i:=by rw [Nat.pow_mul]
theorem pw8 {i:Nat} (h:i<=8):128 ^ i<=72057594037927936:=Nat.le_trans (Nat.pow_le_pow_right (by omega) h) (by decide)
theorem zQ (i acc b:Nat) (hi:i<=8) (ha:acc < 128 ^ i) (hb:b < 256) :
  Go.bits .or .i64 (acc:Int) (IntKind.i64.wrap ((IntKind.i64.wrap (Go.bits .and .u8 (b:Int) 127))*2 ^ (min (IntKind.i64.wrap (7*(i:Int))).toNat 64)))=((acc+b % 128*128 ^ i:Nat):Int)/\acc+b % 128*128 ^ i < 128 ^ (i+1):=by
 have hP:=pw8 hi
 have h7:(IntKind.i64.wrap (7*(i:Int))).toNat=7*i:=by rw [w64 (by omega) (by omega)]; omega
 have hm:min (7*i) 64=7*i:=by omega
 have hp:(2:Int) ^ (7*i)=((128 ^ i:Nat):Int):=by rw [<- p2]; simp
 rw [h7,hm,hp,Ca _ (by omega) (by omega)]
 have hlt:b % 128*128 ^ i<=127*128 ^ i:=Nat.mul_le_mul_right _ (by omega)
 have hP1:128 ^ (i+1)=128*128 ^ i:=by rw [Nat.pow_succ,Nat.mul_comm]
 have e1:IntKind.i64.wrap ((b:Int) % 128)=((b % 128:Nat):Int):=by rw [w64 (by omega) (by omega)]; omega
 have e2:((b % 128:Nat):Int)*((128 ^ i:Nat):Int)=((b % 128*128 ^ i:Nat):Int):=by simp
 rw [e1,e2]
 generalize hw:b % 128*128 ^ i=w at hlt
 rw [w64 (by omega) (by omega),or_comm]
 have hmod:(w:Int) % 2 ^ (7*i)=0:=by
  rw [hp,<- hw]
  rw [<- Int.natCast_emod,Nat.mul_mod_left]
  rfl
 have:=bits_join .i64 63 (by decide) (λn h0 h1=>w64 (by omega) (by omega)) (7*i) (w:Int) (acc:Int) (by omega) hmod (by omega) (by omega) (by rw [hp]; omega) (by omega)
 rw [this]
 constructor
 ·omega
 ·omega
def El (s:ByteArray):Int ⊕ (Nat×Nat)->Int×aG
 | .inl e=>(0,⟨noS,e⟩)
 | .inr (v,j)=>(v,⟨gG s j s.size,0⟩)
theorem nG (s:ByteArray) (e:Int) (h:e≠0):bP ⟨s,0⟩ e=some ⟨noS,e⟩:=by
 unfold bP
 have:(e != 0)=true:=by simpa using h
 simp [this,noS]
theorem rC (s:ByteArray) (e f:Int) (h:e≠0):bP ⟨s,e⟩ f=some ⟨s,e⟩:=by
 unfold bP
 have:(e == 0)=false:=by simpa using h
 simp [this]
theorem Em (s:ByteArray) (hs:s.size<=1000000):bM ⟨s,0⟩=some (El s (rdp 9 0 0 (sbs s))):=by
 unfold bM
 have hl:(sbs s).length=s.size:=bC s
 refine Eq.trans ?_ (congrArg (λl=>some (El s (rdp 9 0 0 l))) (List.drop_zero (l:=sbs s)))
 have key: ∀ (k i acc:Nat),i+k=9->acc < 128 ^ i->i<=(sbs s).length->Option.bind (iter (σ:=Int×Int) (ρ:=Unit ⊕ (Int×aG)) (λa=>(bif (decide (a.1 < (cB ((⟨s,0⟩:aG).s.size:Int) 9))) then (Option.bind (tC (⟨s,0⟩:aG).s a.1) λb213=>(Option.bind (chk (shk (IntKind.i64.wrap (7*a.1)))) λ_=>(bif (decide (b213>=128)) then some (.inl ((IntKind.i64.wrap (a.1+1)),(Go.bits .or .i64 a.2 (IntKind.i64.wrap ((IntKind.i64.wrap (Go.bits .and .u8 b213 127))*2 ^ (min (IntKind.i64.wrap (7*a.1)).toNat 64)))))) else (Option.bind ((bif (decide (a.1 > 0)) then (bif (b213 == 0) then some true else some (decide ((Go.bits .or .i64 a.2 (IntKind.i64.wrap ((IntKind.i64.wrap (Go.bits .and .u8 b213 127))*2 ^ (min (IntKind.i64.wrap (7*a.1)).toNat 64)))) > 4611686018427387904))) else some (decide ((Go.bits .or .i64 a.2 (IntKind.i64.wrap ((IntKind.i64.wrap (Go.bits .and .u8 b213 127))*2 ^ (min (IntKind.i64.wrap (7*a.1)).toNat 64)))) > 4611686018427387904))):Option Bool) λc=>(bif c then (Option.bind (bP (⟨s,0⟩:aG) 1) λd=>(fH (some (0,d)))) else (Option.bind (chk (eN (IntKind.i64.wrap (a.1+1)) ((⟨s,0⟩:aG).s.size:Int) (⟨s,0⟩:aG).s.size)) λ_=>(fH (some ((Go.bits .or .i64 a.2 (IntKind.i64.wrap ((IntKind.i64.wrap (Go.bits .and .u8 b213 127))*2 ^ (min (IntKind.i64.wrap (7*a.1)).toNat 64)))),(aG.mk (gG (⟨s,0⟩:aG).s (IntKind.i64.wrap (a.1+1)) ((⟨s,0⟩:aG).s.size:Int)) (⟨s,0⟩:aG).e)))))))))) else some (.inr (.inl ())))) ((i:Int),(acc:Int))) (λ | .inl e176=>(Option.bind ((bif (decide (((⟨s,0⟩:aG).s.size:Int)>=9)) then (Option.bind (bP (⟨s,0⟩:aG) 1) λf=>some f) else some (⟨s,0⟩:aG)):Option aG) λg=>(Option.bind (bP g 2) λj=>some (0,j))) | .inr w=>some w)=some (El s (rdp k i acc ((sbs s).drop i))):=by
  intro k
  induction k with
  | zero =>
   intro i acc hi ha hil
   rw [bD (r:= .inl ())]
   ·rw [aA]
    dsimp only
    rw [decide_eq_true (by omega),cond_true,nG _ _ (by decide),aA,aA,rC _ _ _ (by decide),aA]
    rfl
   ·dsimp only
    rw [nV,decide_eq_false (by omega),cond_false]
  | succ k ih =>
   intro i acc hi ha hil
   by_cases hlt:i < (sbs s).length
   ·obtain ⟨hb0,hb1⟩:=ql s _ (List.getElem_mem hlt)
    have hx:=qm s i hlt
    rw [List.drop_eq_getElem_cons hlt]
    generalize (sbs s)[i]=b at hb0 hb1 hx
    obtain ⟨B,rfl⟩:=Int.eq_ofNat_of_zero_le hb0
    obtain ⟨hor,hbd⟩:=zQ i acc B (by omega) ha (by omega)
    have hshk:chk (shk (IntKind.i64.wrap (7*(i:Int))))=some ():=by
     rw [w64 (by omega) (by omega)]
     exact jA (by omega)
    unfold rdp
    rw [Int.toNat_natCast]
    by_cases hbig:(B:Int)>=128
    ·rw [bY (s':=(((i+1:Nat):Int),((acc+B % 128*128 ^ i:Nat):Int)))]
     ·rw [ih (i+1) (acc+B % 128*128 ^ i) (by omega) hbd (by omega),if_neg (by omega)]
     ·dsimp only
      rw [nV,decide_eq_true (by omega),cond_true,hx,aA,hshk,aA,decide_eq_true hbig,cond_true,hor,w64 (by omega) (by omega)]
      rfl
    ·rw [if_pos (by omega)]
     have hc:((bif (decide ((i:Int) > 0)) then (bif ((B:Int) == 0) then some true else some (decide (((acc+B % 128*128 ^ i:Nat):Int) > 4611686018427387904))) else some (decide (((acc+B % 128*128 ^ i:Nat):Int) > 4611686018427387904))):Option Bool)=some (decide ((i > 0/\(B:Int)=0)\/acc+B % 128*128 ^ i > most)):=by
      have hd: ∀ v:Nat,decide ((v:Int) > 4611686018427387904)=decide (v > most):=λv=>by
       unfold most
       congr 1
       apply propext
       omega
      rw [hd]
      by_cases c1:i > 0
      ·have c1':(i:Int) > 0:=by omega
       rw [decide_eq_true c1',cond_true]
       by_cases c2:(B:Int)=0
       ·have:((B:Int) == 0)=true:=by simpa using c2
        rw [this,cond_true,decide_eq_true (.inl ⟨c1,c2⟩)]
       ·have:((B:Int) == 0)=false:=by simpa using c2
        rw [this,cond_false]
        congr 1
        by_cases c3:acc+B % 128*128 ^ i > most
        ·rw [decide_eq_true c3,decide_eq_true (.inr c3)]
        ·rw [decide_eq_false c3,decide_eq_false (by rintro (h | h); exact c2 h.2; exact c3 h)]
      ·rw [decide_eq_false (by omega),cond_false]
       congr 1
       by_cases c3:acc+B % 128*128 ^ i > most
       ·rw [decide_eq_true c3,decide_eq_true (.inr c3)]
       ·rw [decide_eq_false c3,decide_eq_false (by rintro (h | h); exact c1 h.1; exact c3 h)]
     by_cases hf:(i > 0/\(B:Int)=0)\/acc+B % 128*128 ^ i > most
     ·rw [if_pos hf,bD (r:= .inr (0,⟨noS,1⟩))]
      ·rfl
      ·dsimp only
       rw [nV,decide_eq_true (by omega),cond_true,hx,aA,hshk,aA,decide_eq_false hbig,cond_false,hor,hc,aA,decide_eq_true hf,cond_true,nG _ _ (by decide),aA]
       rfl
     ·rw [if_neg hf,bD (r:= .inr (((acc+B % 128*128 ^ i:Nat):Int),⟨gG s ((i+1:Nat):Int) s.size,0⟩))]
      ·rfl
      ·dsimp only
       rw [nV,decide_eq_true (by omega),cond_true,hx,aA,hshk,aA,decide_eq_false hbig,cond_false,hor,hc,aA,decide_eq_false hf,cond_false,w64 (by omega) (by omega),cX (by omega) (by omega) (by omega),aA]
       rfl
   ·have hd:(sbs s).drop i=[]:=List.drop_eq_nil_of_le (by omega)
    rw [hd,bD (r:= .inl ())]
    ·rw [aA]
     dsimp only
     rw [decide_eq_false (by omega),cond_false,aA,nG _ _ (by decide),aA]
     rfl
    ·dsimp only
     rw [nV,decide_eq_false (by omega),cond_false]
 exact key 9 0 0 (by omega) (by omega) (by omega)
def F2 (s:ByteArray):Int ⊕ (Nat×Nat)->aW×Int
 | .inl e=>(⟨noS,e⟩,0)
 | .inr (v,j)=>(⟨gG s j s.size,0⟩,v)
theorem Cb (s:ByteArray) (hs:s.size<=1000000):bG ⟨s,0⟩=some (F2 s (rdp 9 0 0 (sbs s))):=by
 unfold bG
 have hl:(sbs s).length=s.size:=bC s
 have e0:((0:Int) != 0)=false:=rfl
 dsimp only
 rw [e0,cond_false]
 refine Eq.trans ?_ (congrArg (λl=>some (F2 s (rdp 9 0 0 l))) (List.drop_zero (l:=sbs s)))
 have key: ∀ (k i acc:Nat) (f:Int×Int×Int->Option ((Int×Int×Int) ⊕ (Unit ⊕ (aW×Int)))),f=(λ(s258:Int×Int×Int)=>(bif (decide (s258.2.2 < 9)) then (Option.bind ((bif (s258.2.2 == (s.size:Int)) then (nA (fH (some ((aW.mk (ByteArray.mk #[]) 2),0)))) else (Option.bind (tC s s258.2.2) λb475=>(bif (decide ((IntKind.i64.wrap b475) < 128)) then (Option.bind ((bif (decide (s258.2.2 > 0)) then (bif ((IntKind.i64.wrap b475) == 0) then some true else some (decide ((IntKind.i64.wrap (s258.1+(IntKind.i64.wrap (((IntKind.i64.wrap b475).tmod 128)*s258.2.1)))) > 4611686018427387904))) else some (decide ((IntKind.i64.wrap (s258.1+(IntKind.i64.wrap (((IntKind.i64.wrap b475).tmod 128)*s258.2.1)))) > 4611686018427387904))):Option Bool) λa=>(bif a then (nA (fH (some ((aW.mk (ByteArray.mk #[]) 1),0)))) else (Option.bind (chk (eN (IntKind.i64.wrap (s258.2.2+1)) (s.size:Int) s.size)) λ_=>(nA (fH (some ((aW.mk (gG s (IntKind.i64.wrap (s258.2.2+1)) (s.size:Int)) 0),(IntKind.i64.wrap (s258.1+(IntKind.i64.wrap (((IntKind.i64.wrap b475).tmod 128)*s258.2.1))))))))))) else (bif (decide (s258.2.2 < 8)) then some (.inl ((IntKind.i64.wrap (s258.1+(IntKind.i64.wrap (((IntKind.i64.wrap b475).tmod 128)*s258.2.1)))),(IntKind.i64.wrap (s258.2.1*128)))) else some (.inl ((IntKind.i64.wrap (s258.1+(IntKind.i64.wrap (((IntKind.i64.wrap b475).tmod 128)*s258.2.1)))),s258.2.1)))))):Option ((Int×Int) ⊕ ((Int×Int×Int) ⊕ (Unit ⊕ (aW×Int))))) λ | .inl e465=>some (.inl (e465.1,e465.2,(IntKind.i64.wrap (s258.2.2+1)))) | .inr w=>some w) else some (.inr (.inl ()))))->i+k=9->acc < 128 ^ i->i<=(sbs s).length -> ∀ M:Nat,(i<=8->M=128 ^ i)->Option.bind (iter f ((acc:Int),(M:Int),(i:Int))) (λ | .inl e381=>some ((aW.mk (ByteArray.mk #[]) 1),0) | .inr w=>some w)=some (F2 s (rdp k i acc ((sbs s).drop i))):=by
  intro k
  induction k with
  | zero =>
   intro i acc f hf hi ha hil M hM
   rw [bD (r:= .inl ())]
   ·rfl
   ·subst hf
    dsimp only
    rw [decide_eq_false (by omega),cond_false]
  | succ k ih =>
   intro i acc f hf hi ha hil M hM
   by_cases hlt:i < (sbs s).length
   ·obtain ⟨hb0,hb1⟩:=ql s _ (List.getElem_mem hlt)
    have hx:=qm s i hlt
    rw [List.drop_eq_getElem_cons hlt]
    generalize (sbs s)[i]=b at hb0 hb1 hx
    obtain ⟨B,rfl⟩:=Int.eq_ofNat_of_zero_le hb0
    obtain ⟨_,hbd⟩:=zQ i acc B (by omega) ha (by omega)
    have hP:=pw8 (i:=i) (by omega)
    obtain rfl:=hM (by omega)
    have hlt7:B % 128*128 ^ i<=127*128 ^ i:=Nat.mul_le_mul_right _ (by omega)
    have hw:IntKind.i64.wrap (B:Int)=(B:Int):=w64 (by omega) (by omega)
    have hm:(B:Int).tmod 128=((B % 128:Nat):Int):=by rw [Int.tmod_eq_emod_of_nonneg (by omega)]; omega
    have hv:IntKind.i64.wrap ((acc:Int)+IntKind.i64.wrap (((B % 128:Nat):Int)*((128 ^ i:Nat):Int)))=((acc+B % 128*128 ^ i:Nat):Int):=by
     have e2:((B % 128:Nat):Int)*((128 ^ i:Nat):Int)=((B % 128*128 ^ i:Nat):Int):=by simp
     rw [e2]
     generalize B % 128*128 ^ i=w at hlt7
     rw [w64 (x:=(w:Int)) (by omega) (by omega),w64 (by omega) (by omega)]
     omega
    have hne:((i:Int) == (s.size:Int))=false:=by simp; omega
    unfold rdp
    rw [Int.toNat_natCast]
    by_cases hbig:(B:Int) < 128
    ·rw [if_pos hbig]
     have hc:((bif (decide ((i:Int) > 0)) then (bif ((B:Int) == 0) then some true else some (decide (((acc+B % 128*128 ^ i:Nat):Int) > 4611686018427387904))) else some (decide (((acc+B % 128*128 ^ i:Nat):Int) > 4611686018427387904))):Option Bool)=some (decide ((i > 0/\(B:Int)=0)\/acc+B % 128*128 ^ i > most)):=by
      have hd: ∀ v:Nat,decide ((v:Int) > 4611686018427387904)=decide (v > most):=λv=>by
       unfold most
       congr 1
       apply propext
       omega
      rw [hd]
      by_cases c1:i > 0
      ·have c1':(i:Int) > 0:=by omega
       rw [decide_eq_true c1',cond_true]
       by_cases c2:(B:Int)=0
       ·have:((B:Int) == 0)=true:=by simpa using c2
        rw [this,cond_true,decide_eq_true (.inl ⟨c1,c2⟩)]
       ·have:((B:Int) == 0)=false:=by simpa using c2
        rw [this,cond_false]
        congr 1
        by_cases c3:acc+B % 128*128 ^ i > most
        ·rw [decide_eq_true c3,decide_eq_true (.inr c3)]
        ·rw [decide_eq_false c3,decide_eq_false (by rintro (h | h); exact c2 h.2; exact c3 h)]
      ·rw [decide_eq_false (by omega),cond_false]
       congr 1
       by_cases c3:acc+B % 128*128 ^ i > most
       ·rw [decide_eq_true c3,decide_eq_true (.inr c3)]
       ·rw [decide_eq_false c3,decide_eq_false (by rintro (h | h); exact c1 h.1; exact c3 h)]
     by_cases hfm:(i > 0/\(B:Int)=0)\/acc+B % 128*128 ^ i > most
     ·rw [if_pos hfm,bD (r:= .inr (⟨noS,1⟩,0))]
      ·rfl
      ·subst hf
       dsimp only
       rw [decide_eq_true (by omega),cond_true,hne,cond_false,hx,aA,hw,decide_eq_true hbig,cond_true,hm,hv,hc,aA,decide_eq_true hfm,cond_true]
       rfl
     ·rw [if_neg hfm,bD (r:= .inr (⟨gG s ((i+1:Nat):Int) s.size,0⟩,((acc+B % 128*128 ^ i:Nat):Int)))]
      ·rfl
      ·subst hf
       dsimp only
       rw [decide_eq_true (by omega),cond_true,hne,cond_false,hx,aA,hw,decide_eq_true hbig,cond_true,hm,hv,hc,aA,decide_eq_false hfm,cond_false,w64 (x:=(i:Int)+1) (by omega) (by omega),cX (by omega) (by omega) (by omega),aA]
       rfl
    ·rw [if_neg hbig]
     by_cases h8:i < 8
     ·rw [bY (s':=(((acc+B % 128*128 ^ i:Nat):Int),((128 ^ (i+1):Nat):Int),((i+1:Nat):Int)))]
      ·exact ih (i+1) _ f hf (by omega) hbd (by omega) _ (λ_=>rfl)
      ·subst hf
       dsimp only
       have hP1:(128:Nat) ^ (i+1)=128 ^ i*128:=Nat.pow_succ ..
       have hP7:128 ^ i<=562949953421312:=Nat.le_trans (Nat.pow_le_pow_right (by omega) (by omega:i<=7)) (by decide)
       have hmm:IntKind.i64.wrap (((128 ^ i:Nat):Int)*128)=((128 ^ (i+1):Nat):Int):=by
        rw [hP1,w64 (by omega) (by omega)]
        omega
       rw [decide_eq_true (by omega),cond_true,hne,cond_false,hx,aA,hw,decide_eq_false hbig,cond_false,hm,hv,decide_eq_true (by omega),cond_true,aA]
       dsimp only
       rw [hmm,w64 (x:=(i:Int)+1) (by omega) (by omega)]
       rfl
     ·rw [bY (s':=(((acc+B % 128*128 ^ i:Nat):Int),((128 ^ i:Nat):Int),((i+1:Nat):Int)))]
      ·exact ih (i+1) _ f hf (by omega) hbd (by omega) _ (λh=>by omega)
      ·subst hf
       dsimp only
       rw [decide_eq_true (by omega),cond_true,hne,cond_false,hx,aA,hw,decide_eq_false hbig,cond_false,hm,hv,decide_eq_false (by omega),cond_false,aA]
       dsimp only
       rw [w64 (x:=(i:Int)+1) (by omega) (by omega)]
       rfl
   ·have hd:(sbs s).drop i=[]:=List.drop_eq_nil_of_le (by omega)
    rw [hd,bD (r:= .inr (⟨noS,2⟩,0))]
    ·rfl
    ·subst hf
     dsimp only
     have hne:((i:Int) == (s.size:Int))=true:=by simp; omega
     rw [decide_eq_true (by omega),cond_true,hne,cond_true]
     rfl
 exact key 9 0 0 _ rfl (by omega) (by omega) (by omega) 1 (λ_=>rfl)
theorem mm (a b:ByteArray):(a.toList == b.toList)=decide (a=b):=by
 rw [ByteArray.toList_eq,ByteArray.toList_eq]
 by_cases h:a=b
 ·subst h
  rw [decide_eq_true rfl,beq_self_eq_true]
 ·rw [decide_eq_false h]
  have: ¬ a.data.toList=b.data.toList:=λe=>h (ByteArray.ext (Array.ext' e))
  simpa using this
theorem iE (s:ByteArray) (lo hi:Nat):sbs (gG s lo hi)=((sbs s).take hi).drop lo:=by
 unfold sbs gG
 rw [ByteArray.data_extract,Int.toNat_natCast,Int.toNat_natCast]
 rw [Array.toList_extract]
 rw [List.extract_eq_take_drop,List.map_take,List.map_drop,List.drop_take]
theorem oy (s:ByteArray):dM (sbs s)=s:=by
 rw [mW]
 unfold sbs
 rw [List.map_map]
 have:((λn:Int=>UInt8.ofNat n.toNat) ∘ λb:UInt8=>(b.toNat:Int))=id:=by
  funext b
  simp
 rw [this,List.map_id]
theorem kT (l:List Int) (h: ∀ b∈l,0<=b/\b < 256):sbs (dM l)=l:=by
 rw [mW]
 unfold sbs
 simp only [List.map_map]
 induction l with
 | nil=>rfl
 | cons a l ih =>
  have ha:=h a (List.mem_cons_self ..)
  rw [List.map_cons,ih λb hb=>h b (List.mem_cons_of_mem _ hb)]
  congr 1
  show ((UInt8.ofNat a.toNat).toNat:Int)=a
  rw [UInt8.toNat_ofNat']
  omega
theorem oS {a b:ByteArray} (h:sbs a=sbs b):a=b:=by rw [<- oy a,h,oy]
theorem yL (a b:ByteArray):sbs (a++b)=sbs a++sbs b:=by
 unfold sbs
 rw [ByteArray.data_append]
 simp
def VI (i:aG):Prop:=i.s.size<=1000000/\(i.e=0\/i.s=noS)
def asR (i:aG):aW:=⟨i.s,i.e⟩
def rdS (i:aG):Int×aG:=if i.e=0 then El i.s (rdp 9 0 0 (sbs i.s)) else (0,i)
theorem jm (i:aG) (h:VI i):bM i=some (rdS i):=by
 obtain ⟨s,e⟩:=i
 obtain ⟨h1,h2⟩:=h
 unfold rdS
 by_cases he:e=0
 ·subst he
  rw [if_pos rfl]
  exact Em s h1
 ·rw [if_neg he]
  obtain rfl:s=noS:=h2.resolve_left he
  unfold bM
  rw [bD (r:= .inl ())]
  ·rw [aA]
   have hz:(noS.size:Int)=0:=rfl
   dsimp only
   rw [hz,decide_eq_false (by omega),cond_false,aA,rC _ _ _ he,aA]
  ·dsimp only
   have hz:(noS.size:Int)=0:=rfl
   rw [nV,hz,decide_eq_false (by omega),cond_false]
theorem gj (i:aG) (h:VI i):bG (asR i)=some (asR (rdS i).2,(rdS i).1):=by
 obtain ⟨s,e⟩:=i
 obtain ⟨h1,h2⟩:=h
 unfold rdS
 by_cases he:e=0
 ·subst he
  rw [if_pos rfl]
  have:=Cb s h1
  refine this.trans ?_
  cases rdp 9 0 0 (sbs s) <;> rfl
 ·rw [if_neg he]
  unfold bG asR
  have:(e != 0)=true:=by simpa using he
  dsimp only
  rw [this,cond_true]
theorem Cc: ∀ (k i acc:Nat) (l:List Int) (v j:Nat),(∀ b∈l,0<=b/\b < 256)->rdp k i acc l = .inr (v,j) -> ∃ w,v=acc+w*128 ^ i/\v<=most/\i < j/\j<=i+l.length/\gF w=l.take (j - i)/\(i > 0->w > 0):=by
 intro k
 induction k with
 | zero=>intro i acc l v j hb h; cases h
 | succ k ih =>
  intro i acc l v j hb h
  cases l with
  | nil=>cases h
  | cons b r =>
   unfold rdp at h
   have hb0:=hb b (List.mem_cons_self ..)
   obtain ⟨B,rfl⟩:=Int.eq_ofNat_of_zero_le hb0.1
   rw [Int.toNat_natCast] at h
   by_cases hbig:(B:Int) < 128
   ·rw [if_pos hbig] at h
    by_cases hf:(i > 0/\(B:Int)=0)\/acc+B % 128*128 ^ i > most
    ·rw [if_pos hf] at h
     cases h
    ·rw [if_neg hf] at h
     injection h with h
     injection h with hv hj
     have hm:B % 128=B:=Nat.mod_eq_of_lt (by omega)
     rw [hm] at hv hf
     refine ⟨B,hv.symm,?_,by omega,by simp; omega,?_,?_⟩
     ·rw [<- hv]
      exact Nat.le_of_not_lt λhh=>hf (.inr hh)
     ·rw [eY (by omega),<- hj]
      have:i+1 - i=1:=by omega
      rw [this]
      rfl
     ·intro hi
      exact Nat.pos_of_ne_zero λh0=>hf (.inl ⟨hi,by omega⟩)
   ·rw [if_neg hbig] at h
    obtain ⟨w,h1,h2,h3,h4,h5,h6⟩:=ih (i+1) _ r v j (λc hc=>hb c (List.mem_cons_of_mem _ hc)) h
    have hw:=h6 (by omega)
    refine ⟨B % 128+128*w,?_,h2,by omega,by simp; omega,?_,λ_=>by omega⟩
    ·rw [h1,Nat.pow_succ,Nat.add_mul,Nat.add_assoc]
     congr 2
     rw [Nat.mul_comm 128 w,Nat.mul_assoc,Nat.mul_comm 128]
    ·rw [lP (by omega)]
     have e1:(B % 128+128*w) / 128=w:=by omega
     have e2:128+(B % 128+128*w) % 128=B:=by omega
     have e3:j - i=(j - (i+1))+1:=by omega
     rw [e1,e2,h5,e3,List.take_succ_cons]
theorem En: ∀ (k i acc w:Nat) (R:List Int),w < 128 ^ (k+1)->k+1+i<=9->(i > 0->w > 0)->acc+w*128 ^ i<=most->rdp (k+1) i acc (gF w++R) = .inr (acc+w*128 ^ i,i+(gF w).length):=by
 intro k
 induction k with
 | zero =>
  intro i acc w R hw hk hi hm
  have hs:w < 128:=by simpa using hw
  rw [eY hs]
  show rdp (0+1) i acc ((w:Int)::R)=_
  unfold rdp
  have hmod:w % 128=w:=Nat.mod_eq_of_lt hs
  rw [if_pos (by omega),Int.toNat_natCast,hmod,if_neg]
  ·simp
  ·rintro (⟨h1,h2⟩ | h)
   ·have:=hi h1
    omega
   ·omega
 | succ k ih =>
  intro i acc w R hw hk hi hm
  by_cases hs:w < 128
  ·rw [eY hs]
   show rdp (k+1+1) i acc ((w:Int)::R)=_
   unfold rdp
   have hmod:w % 128=w:=Nat.mod_eq_of_lt hs
   rw [if_pos (by omega),Int.toNat_natCast,hmod,if_neg]
   ·simp
   ·rintro (⟨h1,h2⟩ | h)
    ·have:=hi h1
     omega
    ·omega
  ·rw [lP hs]
   have hq:w / 128 < 128 ^ (k+1):=by
    rw [Nat.pow_succ] at hw
    exact Nat.div_lt_of_lt_mul (by rw [Nat.mul_comm]; exact hw)
   have he:(128+w % 128) % 128=w % 128:=by omega
   have hsum:acc+w % 128*128 ^ i+w / 128*128 ^ (i+1)=acc+w*128 ^ i:=by
    rw [Nat.pow_succ,Nat.add_assoc]
    congr 1
    rw [Nat.mul_comm (128 ^ i) 128,<- Nat.mul_assoc,<- Nat.add_mul]
    congr 1
    omega
   show rdp (k+1+1) i acc (((128+w % 128:Nat):Int)::(gF (w / 128)++R))=_
   rw [rdp,if_neg (by omega),Int.toNat_natCast,he,ih (i+1) _ (w / 128) R hq (by omega) (λ_=>by omega) (by rw [hsum]; exact hm),hsum]
   simp only [List.length_cons]
   congr 2
   omega
theorem fu {i:aG} (h:VI i):VI (rdS i).2:=by
 obtain ⟨s,e⟩:=i
 obtain ⟨h1,h2⟩:=h
 unfold rdS
 by_cases he:e=0
 ·rw [if_pos he]
  cases hr:rdp 9 0 0 (sbs (⟨s,e⟩:aG).s) with
  | inl f=>exact ⟨by show noS.size<=1000000; decide,.inr rfl⟩
  | inr p =>
   refine ⟨?_,.inl rfl⟩
   show (gG s p.2 s.size).size<=1000000
   rw [<- bC,iE,List.length_drop,List.length_take,bC]
   simp only at h1
   omega
 ·rw [if_neg he]
  exact ⟨h1,h2⟩
theorem pJ {i:aG} (h:(rdS i).2.e≠0):(rdS i).1=0:=by
 unfold rdS at *
 split at h
 ·rename_i he
  rw [if_pos he]
  cases hr:rdp 9 0 0 (sbs i.s) with
  | inl f=>rfl
  | inr p =>
   rw [hr] at h
   exact absurd rfl h
 ·rename_i he
  rw [if_neg he]
theorem uZ {i:aG} (h:(rdS i).2.e=0) (hV:VI i):i.e=0 /\ ∃ w:Nat,(rdS i).1=w/\w<=most/\sbs i.s=gF w++sbs (rdS i).2.s:=by
 unfold rdS at *
 by_cases he:i.e=0
 ·rw [if_pos he] at h ⊢
  refine ⟨he,?_⟩
  cases hr:rdp 9 0 0 (sbs i.s) with
  | inl f =>
   rw [hr] at h
   -- an error is never nought
   exfalso
   have key: ∀ (k i acc:Nat) (l:List Int) (e:Int),rdp k i acc l = .inl e->e≠0:=by
    intro k
    induction k with
    | zero=>intro i acc l e hh; injection hh with hh; omega
    | succ k ih =>
     intro i acc l e hh
     cases l with
     | nil=>injection hh with hh; omega
     | cons b r =>
      unfold rdp at hh
      split at hh
      ·split at hh
       ·injection hh with hh
        omega
       ·cases hh
      ·exact ih _ _ _ _ hh
   exact key _ _ _ _ _ hr h
  | inr p =>
   obtain ⟨v,j⟩:=p
   obtain ⟨w,h1,h2,h3,h4,h5,h6⟩:=Cc 9 0 0 (sbs i.s) v j (ql i.s) hr
   refine ⟨v,rfl,h2,?_⟩
   have hvw:v=w:=by rw [h1]; simp
   show sbs i.s=gF v++sbs (gG i.s j i.s.size)
   rw [hvw,h5,iE,Nat.sub_zero]
   have:(sbs i.s).take i.s.size=sbs i.s:=List.take_of_length_le (by rw [bC]; exact Nat.le_refl _)
   rw [this,List.take_append_drop]
 ·rw [if_neg he] at h
  exact absurd h he
theorem kl {i:aG} (hV:VI i):0<=(rdS i).1/\(rdS i).1<=4611686018427387904:=by
 by_cases h:(rdS i).2.e=0
 ·obtain ⟨_,w,h1,h2,_⟩:=uZ h hV
  rw [h1]
  unfold most at h2
  omega
 ·rw [pJ h]
  omega
theorem F3 (s:ByteArray) (w:Nat) (R:List Int) (hw:w<=most) (hs:sbs s=gF w++R):rdS ⟨s,0⟩=((w:Int),⟨dM R,0⟩):=by
 unfold rdS
 rw [if_pos rfl]
 have hl:=qk 8 w (by unfold most at hw; omega)
 have h:=En 8 0 0 w R (by unfold most at hw; omega) (by omega) (λh=>by omega) (by simpa using hw)
 dsimp only
 rw [hs,h]
 show (((0+w*128 ^ 0:Nat):Int),(⟨gG s ((0+(gF w).length:Nat):Int) s.size,0⟩:aG))=_
 have e1:0+w*128 ^ 0=w:=by simp
 have e2:gG s ((0+(gF w).length:Nat):Int) s.size=dM R:=by
  rw [<- oy (gG s ((0+(gF w).length:Nat):Int) s.size),iE]
  have:(sbs s).take s.size=sbs s:=List.take_of_length_le (by rw [bC]; exact Nat.le_refl _)
  rw [this,hs,Nat.zero_add,List.drop_left]
 rw [e1,e2]
def jn:aG:=⟨noS,1⟩
theorem mI:VI jn:=⟨by show noS.size<=1000000; decide,.inr rfl⟩
theorem qn {i:aG} (h:VI i):bP i 1=some (if i.e=0 then jn else i):=by
 obtain ⟨s,e⟩:=i
 by_cases he:e=0
 ·subst he
  rw [if_pos rfl]
  exact nG s 1 (by decide)
 ·rw [if_neg he]
  exact rC s e 1 he
def cD (i:aG) (m:Int):Int×aG:=if (rdS i).1 > m then (0,jn) else rdS i
theorem fE {i:aG} (m:Int) (h:VI i):VI (cD i m).2:=by
 unfold cD
 split
 ·exact mI
 ·exact fu h
theorem gk {i:aG} {m:Int} (h:VI i) (hm:0<=m):0<=(cD i m).1/\(cD i m).1<=m:=by
 unfold cD
 split
 ·exact ⟨Int.le_refl _,hm⟩
 ·have:=kl h
  omega
theorem jZ {i:aG} {m:Int} (h:(cD i m).2.e=0) (hV:VI i):i.e=0 /\ ∃ w:Nat,(cD i m).1=w/\(w:Int)<=m/\w<=most/\sbs i.s=gF w++sbs (cD i m).2.s:=by
 unfold cD at *
 split at h
 ·exact absurd h (by decide)
 ·rename_i hh
  rw [if_neg hh]
  obtain ⟨h1,w,h2,h3,h4⟩:=uZ h hV
  exact ⟨h1,w,h2,by omega,h3,h4⟩
theorem oz {i:aG} (hV:VI i) {m:Int} (hm:0<=m) (h:(rdS i).1 > m):(rdS i).2.e=0:=by
 by_cases he:(rdS i).2.e=0
 ·exact he
 ·have:=pJ he
  omega
theorem n5 {i:aG} (h:VI i) {m:Int} (hm:0<=m):cO (asR i) m=some (asR (cD i m).2,(cD i m).1):=by
 unfold cO cD
 rw [gj i h,aA]
 dsimp only
 by_cases hb:(rdS i).1 > m
 ·have he:=oz h hm hb
  have e1:((asR (rdS i).2).e == 0)=true:=by simpa [asR] using he
  rw [e1,cond_true,decide_eq_true hb,aA,cond_true,if_pos hb]
  rfl
 ·rw [if_neg hb,decide_eq_false hb]
  cases ((asR (rdS i).2).e == 0) <;> rfl
theorem size_eq {i:aG} (h:VI i):sd i=some (cD i 1000):=by
 unfold sd cD
 rw [jm i h,aA]
 by_cases hb:(rdS i).1 > 1000
 ·have he:=oz h (by omega) hb
  rw [decide_eq_true hb,cond_true,qn (fu h),if_pos he,aA,if_pos hb]
 ·rw [decide_eq_false hb,cond_false,if_neg hb]
theorem vI {i:aG} (h:VI i) {m:Int} (hm:0<=m):fI i m=some (cD i m):=by
 unfold fI cD
 rw [jm i h,aA]
 by_cases hb:(rdS i).1 > m
 ·have he:=oz h hm hb
  rw [decide_eq_true hb,cond_true,qn (fu h),if_pos he,aA,if_pos hb]
 ·rw [decide_eq_false hb,cond_false,if_neg hb]
def ni (i:aG) (left:Int):aG:=if (cD i left).2.e=0/\(cD i left).1=0 then jn else (cD i left).2
theorem mX {i:aG} (left:Int) (h:VI i):VI (ni i left):=by
 unfold ni
 split
 ·exact mI
 ·exact fE left h
def oA (i:aG) (left:Int):Int×aG:=cD (ni i left) 1114111
def o5 (i:aG) (left:Int):Int×aG:=cD (oA i left).2 647
def jV (i:aG) (left:Int):Int×aG:=cD (o5 i left).2 3
theorem n6 {i:aG} (left:Int) (h:VI i):VI (oA i left).2:=fE _ (mX left h)
theorem n7 {i:aG} (left:Int) (h:VI i):VI (o5 i left).2:=fE _ (n6 left h)
theorem lB {i:aG} (left:Int) (h:VI i):VI (jV i left).2:=fE _ (n7 left h)
def gv (i:aG) (left:Int):aO:=⟨(oA i left).1,(o5 i left).1,(jV i left).1⟩
theorem tG (i:aG) (h:VI i) (m:Int) (hm:0<=m): ∃ v:Int,bM i=some (v,(rdS i).2)/\(if v > m then (if (rdS i).2.e=0 then jn else (rdS i).2) else (rdS i).2)=(cD i m).2/\((cD i m).2.e=0->v=(cD i m).1):=by
 refine ⟨(rdS i).1,jm i h,?_,?_⟩
 ·unfold cD
  by_cases hb:(rdS i).1 > m
  ·rw [if_pos hb,if_pos hb,if_pos (oz h hm hb)]
  ·rw [if_neg hb,if_neg hb]
 ·unfold cD
  by_cases hb:(rdS i).1 > m
  ·rw [if_pos hb]
   intro hh
   exact absurd hh (by decide)
  ·rw [if_neg hb]
   exact λ_=>rfl
theorem qo {i:aG} (h:i.e≠0) (m:Int) (hm:0<=m):(cD i m).2=i:=by
 unfold cD rdS
 rw [if_neg h]
 dsimp only
 rw [if_neg (by omega)]
theorem run_eq (i:aG) (left:Int) (h:VI i) (hl:0<=left):lj i left=some (if (jV i left).2.e=0 then ((cD i left).1,gv i left,true,(jV i left).2) else (0,⟨0,0,0⟩,false,(jV i left).2)):=by
 unfold lj
 rw [jm i h,aA]
 have hor:((bif ((rdS i).1 == 0) then some true else some (decide ((rdS i).1 > left))):Option Bool)=some (decide ((rdS i).1=0\/(rdS i).1 > left)):=by
  by_cases h0:(rdS i).1=0
  ·have:((rdS i).1 == 0)=true:=by simpa using h0
   rw [this,cond_true,decide_eq_true (.inl h0)]
  ·have:((rdS i).1 == 0)=false:=by simpa using h0
   rw [this,cond_false]
   by_cases h1:(rdS i).1 > left
   ·rw [decide_eq_true h1,decide_eq_true (.inr h1)]
   ·rw [decide_eq_false h1,decide_eq_false (by omega)]
 have hst:((bif decide ((rdS i).1=0\/(rdS i).1 > left) then (Option.bind (bP (rdS i).2 1) λb=>some b) else some (rdS i).2):Option aG)=some (ni i left):=by
  unfold ni cD
  by_cases hb:(rdS i).1 > left
  ·rw [decide_eq_true (.inr hb),cond_true,qn (fu h),if_pos (oz h hl hb),aA,if_pos hb]
   rfl
  ·rw [if_neg hb]
   by_cases h0:(rdS i).1=0
   ·rw [decide_eq_true (.inl h0),cond_true,qn (fu h),aA]
    by_cases he:(rdS i).2.e=0
    ·rw [if_pos he,if_pos ⟨he,h0⟩]
    ·rw [if_neg he,if_neg (λhh=>he hh.1)]
   ·rw [decide_eq_false (by omega),cond_false,if_neg (λhh=>h0 hh.2)]
 rw [hor,aA,hst,aA]
 obtain ⟨v1,n1,f1,g1⟩:=tG (ni i left) (mX left h) 1114111 (by omega)
 obtain ⟨v2,n2,f2,g2⟩:=tG (oA i left).2 (n6 left h) 647 (by omega)
 obtain ⟨v3,n3,f3,g3⟩:=tG (o5 i left).2 (n7 left h) 3 (by omega)
 have fl: ∀ (j:aG) (hj:VI j) (v m:Int) (a:kq) (out:aG),(if v > m then (if j.e=0 then jn else j) else j)=out->((bif (decide (v > m)) then (Option.bind (bP j 1) λc=>some (a,c)) else some (a,j)):Option (kq×aG))=some (a,out):=by
  intro j hj v m a out ho
  by_cases hb:v > m
  ·rw [if_pos hb] at ho
   rw [decide_eq_true hb,cond_true,qn hj,aA,ho]
  ·rw [if_neg hb] at ho
   rw [decide_eq_false hb,cond_false,ho]
 have ab: ∀ k:Int,0<=k->k < 3->chk (BQ k 3)=some ():=λk h0 h1=>jA ⟨h0,h1⟩
 rw [bY (s':=((⟨v1,0,0⟩:kq),(oA i left).2,(1:Int)))]
 ·rw [bY (s':=((⟨v1,v2,0⟩:kq),(o5 i left).2,(2:Int)))]
  ·rw [bY (s':=((⟨v1,v2,v3⟩:kq),(jV i left).2,(3:Int)))]
   ·rw [bD (r:=((⟨v1,v2,v3⟩:kq),(jV i left).2))]
    ·rw [aA]
     unfold cY
     rw [aA]
     dsimp only
     by_cases he:(jV i left).2.e=0
     ·have hb:((jV i left).2.e != 0)=false:=by simpa using he
      rw [hb,cond_false,if_pos he]
      have eB:(o5 i left).2.e=0:=(jZ (i:=(o5 i left).2) (m:=3) he (n7 left h)).1
      have eA:(oA i left).2.e=0:=(jZ (i:=(oA i left).2) (m:=647) eB (n6 left h)).1
      have e0:(ni i left).e=0:=(jZ (i:=ni i left) (m:=1114111) eA (mX left h)).1
      have q1:v1=(oA i left).1:=g1 eA
      have q2:v2=(o5 i left).1:=g2 eB
      have q3:v3=(jV i left).1:=g3 he
      have hr:=gk (i:=ni i left) (m:=1114111) (mX left h) (by omega)
      have hw:IntKind.i32.wrap v1=v1:=by
       rw [q1,IntKind.wrap_i32]
       unfold oA
       omega
      have hn:(rdS i).1=(cD i left).1:=by
       unfold ni at e0
       unfold cD at *
       split
       ·rename_i hb2
        rw [if_pos hb2] at e0
        split at e0
        ·exact absurd e0 (by decide)
        ·exact absurd e0 (by decide)
       ·rfl
      rw [hw,q1,q2,q3,hn]
      rfl
     ·have hb:((jV i left).2.e != 0)=true:=by simpa using he
      rw [hb,cond_true,if_neg he]
    ·rfl
   ·dsimp only
    rw [decide_eq_true (by omega),cond_true,show idx ([1114111,647,3]:List Int) (2:Int)=some 3 from rfl,aA,n3,aA,ab 2 (by omega) (by omega),aA,aA]
    dsimp only
    rw [show idx [sel 2 0 v3 v1,sel 2 1 v3 v2,sel 2 2 v3 0] (2:Int)=some v3 from rfl,aA,fl _ (fu (n7 left h)) _ _ _ _ f3,aA]
    rfl
  ·dsimp only
   rw [decide_eq_true (by omega),cond_true,show idx ([1114111,647,3]:List Int) (1:Int)=some 647 from rfl,aA,n2,aA,ab 1 (by omega) (by omega),aA,aA]
   dsimp only
   rw [show idx [sel 1 0 v2 v1,sel 1 1 v2 0,sel 1 2 v2 0] (1:Int)=some v2 from rfl,aA,fl _ (fu (n6 left h)) _ _ _ _ f2,aA]
   rfl
 ·dsimp only
  rw [decide_eq_true (by omega),cond_true,show idx ([1114111,647,3]:List Int) (0:Int)=some 1114111 from rfl,aA,n1,aA,ab 0 (by omega) (by omega),aA,aA]
  dsimp only
  rw [show idx [sel 0 0 v1 0,sel 0 1 v1 0,sel 0 2 v1 0] (0:Int)=some v1 from rfl,aA,fl _ (fu (mX left h)) _ _ _ _ f1,aA]
  rfl
def rrS:Nat->Int->aG->List aO->List aO×aG
 | 0,_,i,l=>(l,i)
 | k+1,w,i,l=>if (l.length:Int) < w/\i.e=0 then
   (if (jV i (w - l.length)).2.e=0 then (if l.getLast?=some (gv i (w - l.length)) then rrS k w jn l else rrS k w (jV i (w - l.length)).2 (l++List.replicate (cD i (w - l.length)).1.toNat (gv i (w - l.length))))
   else rrS k w (jV i (w - l.length)).2 l)
  else (l,i)
theorem qp {i:aG} {left:Int} (h:VI i) (hl:0<=left) (he:(jV i left).2.e=0):i.e=0/\1<=(cD i left).1/\(cD i left).1<=left/\(cD i left).2.e=0/\ni i left=(cD i left).2:=by
 have eB:(o5 i left).2.e=0:=(jZ (i:=(o5 i left).2) (m:=3) he (n7 left h)).1
 have eA:(oA i left).2.e=0:=(jZ (i:=(oA i left).2) (m:=647) eB (n6 left h)).1
 have e0:(ni i left).e=0:=(jZ (i:=ni i left) (m:=1114111) eA (mX left h)).1
 have hr:=gk (i:=i) (m:=left) h hl
 by_cases hc:(cD i left).2.e=0/\(cD i left).1=0
 ·unfold ni at e0
  rw [if_pos hc] at e0
  exact absurd e0 (by decide)
 ·have e00:=e0
  unfold ni at e0
  rw [if_neg hc] at e0
  refine ⟨(jZ e0 h).1,?_,hr.2,e0,by unfold ni; rw [if_neg hc]⟩
  have:(cD i left).1≠0:=λhh=>hc ⟨e0,hh⟩
  omega
theorem zU (l:List aO) (c:aO) (h:l.length<=1000000):((bif (decide ((l.length:Int) > 0)) then (Option.bind (idx l (IntKind.i64.wrap ((l.length:Int) - 1))) λa=>some ((a.rune == c.rune) && ((a.bW == c.bW) && ((a.part == c.part) && true)))) else some false):Option Bool)=some (decide (l.getLast?=some c)):=by
 by_cases hl:l.length=0
 ·rw [decide_eq_false (by omega),cond_false]
  have:l=[]:=List.eq_nil_of_length_eq_zero hl
  subst this
  rfl
 ·have hlt:l.length - 1 < l.length:=by omega
  have e1:IntKind.i64.wrap ((l.length:Int) - 1)=((l.length - 1:Nat):Int):=by rw [w64 (by omega) (by omega)]; omega
  rw [decide_eq_true (by omega),cond_true,e1,bK _ _ hlt,aA,lO,List.getLast?_eq_getElem?,List.getElem?_eq_getElem hlt]
  simp
theorem Cd (l:List aO) (c:aO) (h:l.length<=1000000):((bif (decide (((l.map tc).length:Int) > 0)) then (Option.bind (idx (l.map tc) (IntKind.i64.wrap (((l.map tc).length:Int) - 1))) λa=>some ((a.rune == c.rune) && ((a.bW == c.bW) && ((a.part == c.part) && true)))) else some false):Option Bool)=some (decide (l.getLast?=some c)):=by
 rw [fS]
 by_cases hl:l.length=0
 ·rw [decide_eq_false (by omega),cond_false]
  have:l=[]:=List.eq_nil_of_length_eq_zero hl
  subst this
  rfl
 ·have hlt:l.length - 1 < l.length:=by omega
  have e1:IntKind.i64.wrap ((l.length:Int) - 1)=((l.length - 1:Nat):Int):=by rw [w64 (by omega) (by omega)]; omega
  rw [decide_eq_true (by omega),cond_true,e1,bK _ _ (by simpa using hlt),aA,List.getElem_map]
  show some ((l[l.length - 1].rune == c.rune) && ((l[l.length - 1].bW == c.bW) && ((l[l.length - 1].part == c.part) && true)))=_
  rw [lO,List.getLast?_eq_getElem?,List.getElem?_eq_getElem hlt]
  simp
theorem mY (p:Prop) [Decidable p] (e:Int):((bif (decide p) then some (e == 0) else some false):Option Bool)=some (decide (p/\e=0)):=by
 by_cases h1:p
 ·by_cases h2:e=0
  ·have:(e == 0)=true:=by simpa using h2
   rw [decide_eq_true h1,cond_true,this,decide_eq_true ⟨h1,h2⟩]
  ·have:(e == 0)=false:=by simpa using h2
   rw [decide_eq_true h1,cond_true,this,decide_eq_false (λh=>h2 h.2)]
 ·rw [decide_eq_false h1,cond_false,decide_eq_false (λh=>h1 h.1)]
theorem vJ: ∀ (k:Nat) (w:Int) (i:aG) (l:List aO),VI i->(l.length:Int)<=max w 0->((rrS k w i l).1.length:Int)<=max w 0/\VI (rrS k w i l).2:=by
 intro k
 induction k with
 | zero=>intro w i l h hl; exact ⟨hl,h⟩
 | succ k ih =>
  intro w i l h hl
  unfold rrS
  by_cases hc:(l.length:Int) < w/\i.e=0
  ·rw [if_pos hc]
   by_cases he:(jV i (w - l.length)).2.e=0
   ·rw [if_pos he]
    obtain ⟨_,h1,h2,_⟩:=qp h (by omega) he
    split
    ·exact ih w _ l mI hl
    ·exact ih w _ _ (lB _ h) (by rw [List.length_append,List.length_replicate]; omega)
   ·rw [if_neg he]
    exact ih w _ l (lB _ h) hl
  ·rw [if_neg hc]
   exact ⟨hl,h⟩
theorem AS (w:Int) (hw:w<=1000): ∀ (k:Nat) (i:aG) (l:List aO),VI i->(l.length:Int)<=max w 0->(if i.e=0 then (w - l.length).toNat+1 else 1)<=k ->
  iter (σ:=aG×(List aO)) (ρ:=(List aO)×aG) (λa=>(Option.bind ((bif (decide ((a.2.length:Int) < w)) then (Option.bind (cY a.1) λf=>some (f == 0)) else some false):Option Bool) λg=>(bif g then (Option.bind (lj a.1 (IntKind.i64.wrap (w - (a.2.length:Int)))) λb=>(bif (!b.2.2.1) then some (.inl (b.2.2.2,a.2)) else (Option.bind ((bif (decide ((a.2.length:Int) > 0)) then (Option.bind (idx a.2 (IntKind.i64.wrap ((a.2.length:Int) - 1))) λc=>some ((c.rune == b.2.1.rune) && ((c.bW == b.2.1.bW) && ((c.part == b.2.1.part) && true)))) else some false):Option Bool) λj=>(bif j then (Option.bind (bP b.2.2.2 1) λm=>some (.inl (m,a.2))) else (Option.bind (dY [b.2.1] b.1) λd=>(Option.bind (chk (cQ a.2.length d.length 24)) λ_=>some (.inl (b.2.2.2,(a.2++d))))))))) else some (.inr (a.2,a.1))))) (i,l)=some (rrS k w i l):=by
 intro k
 induction k with
 | zero=>intro i l h hl hk; split at hk <;> omega
 | succ k ih =>
  intro i l h hl hk
  unfold rrS
  by_cases hc:(l.length:Int) < w/\i.e=0
  ·rw [if_pos hc]
   rw [if_pos hc.2] at hk
   have hwr:IntKind.i64.wrap (w - (l.length:Int))=w - l.length:=w64 (by omega) (by omega)
   by_cases he:(jV i (w - l.length)).2.e=0
   ·rw [if_pos he]
    obtain ⟨_,h1,h2,_⟩:=qp h (by omega) he
    by_cases hlast:l.getLast?=some (gv i (w - l.length))
    ·rw [if_pos hlast,bY (s':=(jn,l))]
     ·exact ih jn l mI hl (by rw [if_neg (by decide)]; omega)
     ·dsimp only
      unfold cY
      rw [aA,mY,decide_eq_true hc,aA,cond_true,hwr,run_eq i _ h (by omega),if_pos he,aA]
      dsimp only
      rw [Bool.not_true,cond_false,zU _ _ (by omega),aA,decide_eq_true hlast,cond_true,qn (lB _ h),if_pos he,aA]
    ·rw [if_neg hlast,bY (s':=((jV i (w - l.length)).2,l++List.replicate (cD i (w - l.length)).1.toNat (gv i (w - l.length))))]
     ·refine ih _ _ (lB _ h) (by rw [List.length_append,List.length_replicate]; omega) ?_
      rw [if_pos he,List.length_append,List.length_replicate]
      omega
     ·dsimp only
      unfold cY
      rw [aA,mY,decide_eq_true hc,aA,cond_true,hwr,run_eq i _ h (by omega),if_pos he,aA]
      dsimp only
      rw [Bool.not_true,cond_false,zU _ _ (by omega),aA,decide_eq_false hlast,cond_false,AQ _ _ (by omega) (by omega),aA,bQ (by rw [List.length_replicate]; omega),aA]
   ·rw [if_neg he,bY (s':=((jV i (w - l.length)).2,l))]
    ·exact ih _ l (lB _ h) hl (by rw [if_neg he]; omega)
    ·dsimp only
     unfold cY
     rw [aA,mY,decide_eq_true hc,aA,cond_true,hwr,run_eq i _ h (by omega),if_neg he,aA]
     dsimp only
     rw [Bool.not_false,cond_true]
  ·rw [if_neg hc]
   refine bD ?_
   dsimp only
   unfold cY
   rw [aA,mY,decide_eq_false hc,aA,cond_false]
def ig (i:aG) (w:Int):aY×aG :=
 if (rrS (w.toNat+1) w (cD i 1).2 []).2.e=0 then (⟨(rrS (w.toNat+1) w (cD i 1).2 []).1,decide ((cD i 1).1=1)⟩,(rrS (w.toNat+1) w (cD i 1).2 []).2)
 else (tF,(rrS (w.toNat+1) w (cD i 1).2 []).2)
theorem xi: ∀ (k:Nat) (w:Int) (i:aG) (l:List aO),(rrS k w i l).2.e=0->i.e=0:=by
 intro k
 induction k with
 | zero=>intro w i l h; exact h
 | succ k ih =>
  intro w i l h
  unfold rrS at h
  by_cases hc:(l.length:Int) < w/\i.e=0
  ·exact hc.2
  ·rw [if_neg hc] at h
   exact h
theorem yM (i:aG) (w:Int) (h:VI i) (hw:w<=1000):iB i w=some (ig i w):=by
 unfold iB
 rw [jm i h,aA]
 have hst:((bif (decide ((rdS i).1 > 1)) then (Option.bind (bP (rdS i).2 1) λa=>some a) else some (rdS i).2):Option aG)=some (cD i 1).2:=by
  unfold cD
  by_cases hb:(rdS i).1 > 1
  ·rw [decide_eq_true hb,cond_true,qn (fu h),if_pos (oz h (by omega) hb),aA,if_pos hb]
  ·rw [decide_eq_false hb,cond_false,if_neg hb]
 rw [hst,aA]
 have hV:=fE 1 h
 rw [AS w hw (w.toNat+1) _ [] hV (by simp; omega) (by simp only [List.length_nil]; split <;> omega),aA]
 unfold cY ig
 rw [aA]
 by_cases he:(rrS (w.toNat+1) w (cD i 1).2 []).2.e=0
 ·have hb:((rrS (w.toNat+1) w (cD i 1).2 []).2.e != 0)=false:=by simpa using he
  rw [hb,cond_false,if_pos he]
  have h0:=xi _ _ _ _ he
  have hn:(rdS i).1=(cD i 1).1:=by
   unfold cD at *
   split
   ·rename_i hb2
    rw [if_pos hb2] at h0
    exact absurd h0 (by decide)
   ·rfl
  rw [hn]
  congr 3
 ·have hb:((rrS (w.toNat+1) w (cD i 1).2 []).2.e != 0)=true:=by simpa using he
  rw [hb,cond_true,if_neg he]
  rfl
theorem vL (p:Prop) [Decidable p] (e:Int):((bif (e == 0) then some (decide p) else some false):Option Bool)=some (decide (e=0/\p)):=by
 by_cases h2:e=0
 ·have:(e == 0)=true:=by simpa using h2
  rw [this,cond_true]
  by_cases h1:p
  ·rw [decide_eq_true h1,decide_eq_true ⟨h2,h1⟩]
  ·rw [decide_eq_false h1,decide_eq_false (λh=>h1 h.2)]
 ·have:(e == 0)=false:=by simpa using h2
  rw [this,cond_false,decide_eq_false (λh=>h2 h.1)]
theorem tH (e:Int) (n:Nat) (c:dF) (l:List dF) (hl:l.length+n<=1000000):iter (σ:=Int×(List dF)) (ρ:=(List dF)) (λa=>(Option.bind ((bif (decide (a.1 < (n:Int))) then some (e == 0) else some false):Option Bool) λb=>(bif b then (Option.bind (chk (cQ a.2.length [c].length 24)) λ_=>some (.inl ((IntKind.i64.wrap (a.1+1)),(a.2++[c])))) else some (.inr a.2)))) (0,l)=some (if e=0 then l++List.replicate n c else l):=by
 by_cases he:e=0
 ·rw [if_pos he]
  have h:=mi (f:=λ(a:Int×(List dF))=>(Option.bind ((bif (decide (a.1 < (n:Int))) then some (e == 0) else some false):Option Bool) λb=>(bif b then (Option.bind (chk (cQ a.2.length [c].length 24)) λ_=>some (.inl ((IntKind.i64.wrap (a.1+1)),(a.2++[c])))) else some (.inr a.2)))) (λk=>((k:Int),l++List.replicate k c)) n (l++List.replicate n c) ?_ ?_
  ·simpa using h
  ·intro k hk
   dsimp only
   rw [mY,decide_eq_true ⟨by omega,he⟩,aA,cond_true,bQ (by simp; omega),aA,w64 (by omega) (by omega),List.append_assoc,<- List.replicate_succ']
   rfl
  ·dsimp only
   rw [mY,decide_eq_false (by omega),aA,cond_false]
 ·rw [if_neg he]
  refine bD ?_
  dsimp only
  rw [mY,decide_eq_false (λh=>he h.2),aA,cond_false]
theorem nH (i:aG):(asR i).e=i.e:=rfl
theorem yN (w:Int) (hw:w<=1000): ∀ (k:Nat) (i:aG) (l:List aO),VI i->(l.length:Int)<=max w 0->(if i.e=0 then (w - l.length).toNat+1 else 1)<=k ->
  iter (σ:=aW×(List dF)) (ρ:=(List dF)×aW) (λa=>(Option.bind ((bif (decide ((a.2.length:Int) < w)) then some (a.1.e == 0) else some false):Option Bool) λo=>(bif o then (Option.bind (cO a.1 (IntKind.i64.wrap (w - (a.2.length:Int)))) λd=>(Option.bind ((bif (d.1.e == 0) then some (d.2 == 0) else some false):Option Bool) λp=>(Option.bind ((bif p then some (aW.mk (ByteArray.mk #[]) 1) else some d.1):Option aW) λq=>(Option.bind (cO q 1114111) λf=>(Option.bind (cO f.1 647) λg=>(Option.bind (cO g.1 3) λb=>(Option.bind ((bif (b.1.e == 0) then (bif (decide ((a.2.length:Int) > 0)) then (Option.bind (idx a.2 (IntKind.i64.wrap ((a.2.length:Int) - 1))) λj=>some ((j.rune == f.2) && ((j.bW == g.2) && ((j.part == b.2) && true)))) else some false) else some false):Option Bool) λr=>(Option.bind ((bif r then some (aW.mk (ByteArray.mk #[]) 1) else some b.1):Option aW) λn=>(Option.bind (iter (σ:=Int×(List dF)) (ρ:=(List dF)) (λc=>(Option.bind ((bif (decide (c.1 < d.2)) then some (n.e == 0) else some false):Option Bool) λs=>(bif s then (Option.bind (chk (cQ c.2.length [(dF.mk f.2 g.2 b.2)].length 24)) λ_=>some (.inl ((IntKind.i64.wrap (c.1+1)),(c.2++[(dF.mk f.2 g.2 b.2)])))) else some (.inr c.2)))) (0,a.2)) λt=>some (.inl (n,t))))))))))) else some (.inr (a.2,a.1))))) (asR i,l.map tc)=some ((rrS k w i l).1.map tc,asR (rrS k w i l).2):=by
 intro k
 induction k with
 | zero=>intro i l h hl hk; split at hk <;> omega
 | succ k ih =>
  intro i l h hl hk
  unfold rrS
  by_cases hc:(l.length:Int) < w/\i.e=0
  ·rw [if_pos hc]
   rw [if_pos hc.2] at hk
   have hwr:IntKind.i64.wrap (w - (l.length:Int))=w - l.length:=w64 (by omega) (by omega)
   have hL:0<=w - (l.length:Int):=by omega
   -- the document's steps
   have s1:((bif ((asR (cD i (w - l.length)).2).e == 0) then some ((cD i (w - l.length)).1 == 0) else some false):Option Bool)=some (decide ((cD i (w - l.length)).2.e=0/\(cD i (w - l.length)).1=0)):=by
    have:((cD i (w - l.length)).1 == 0)=decide ((cD i (w - l.length)).1=0):=by
     by_cases h0:(cD i (w - l.length)).1=0 <;> simp [h0]
    rw [this,nH,vL]
   have s2:((bif decide ((cD i (w - l.length)).2.e=0/\(cD i (w - l.length)).1=0) then some (aW.mk (ByteArray.mk #[]) 1) else some (asR (cD i (w - l.length)).2)):Option aW)=some (asR (ni i (w - l.length))):=by
    unfold ni
    by_cases h0:(cD i (w - l.length)).2.e=0/\(cD i (w - l.length)).1=0
    ·rw [decide_eq_true h0,cond_true,if_pos h0]
     rfl
    ·rw [decide_eq_false h0,cond_false,if_neg h0]
   have s3:cO (asR (ni i (w - l.length))) 1114111=some (asR (oA i (w - l.length)).2,(oA i (w - l.length)).1):=n5 (mX _ h) (by omega)
   have s4:cO (asR (oA i (w - l.length)).2) 647=some (asR (o5 i (w - l.length)).2,(o5 i (w - l.length)).1):=n5 (n6 _ h) (by omega)
   have s5:cO (asR (o5 i (w - l.length)).2) 3=some (asR (jV i (w - l.length)).2,(jV i (w - l.length)).1):=n5 (n7 _ h) (by omega)
   have hnat: ∃ N:Nat,(cD i (w - l.length)).1=(N:Int)/\N<=1000:=by
    have:=gk (i:=i) (m:=w - l.length) h hL
    exact ⟨(cD i (w - l.length)).1.toNat,by omega,by omega⟩
   obtain ⟨N,hN,hN2⟩:=hnat
   have hlast:=Cd l (gv i (w - l.length)) (by omega)
   by_cases he:(jV i (w - l.length)).2.e=0
   ·rw [if_pos he]
    obtain ⟨_,h1,h2,_⟩:=qp h (by omega) he
    have he':((asR (jV i (w - l.length)).2).e == 0)=true:=by simpa [asR] using he
    by_cases hlst:l.getLast?=some (gv i (w - l.length))
    ·rw [if_pos hlst,bY (s':=(asR jn,l.map tc))]
     ·exact ih jn l mI hl (by rw [if_neg (by decide)]; omega)
     ·dsimp only
      rw [fS,mY,decide_eq_true (show (l.length:Int) < w/\(asR i).e=0 from hc),aA,cond_true,hwr,n5 h hL,aA]
      dsimp only
      rw [s1,aA,s2,aA,s3,aA,s4,aA,s5,aA]
      dsimp only
      rw [he',cond_true]
      rw [fS] at hlast
      unfold gv at hlast hlst
      rw [hlast,aA,decide_eq_true hlst,cond_true,aA,hN]
      dsimp only
      rw [tH 1 N _ _ (by rw [fS]; omega),if_neg (by decide),aA]
      rfl
    ·rw [if_neg hlst,bY (s':=(asR (jV i (w - l.length)).2,(l++List.replicate (cD i (w - l.length)).1.toNat (gv i (w - l.length))).map tc))]
     ·refine ih _ _ (lB _ h) (by rw [List.length_append,List.length_replicate]; omega) ?_
      rw [if_pos he,List.length_append,List.length_replicate]
      omega
     ·dsimp only
      rw [fS,mY,decide_eq_true (show (l.length:Int) < w/\(asR i).e=0 from hc),aA,cond_true,hwr,n5 h hL,aA]
      dsimp only
      rw [s1,aA,s2,aA,s3,aA,s4,aA,s5,aA]
      dsimp only
      rw [he',cond_true]
      rw [fS] at hlast
      have hlst':=hlst
      unfold gv at hlast hlst'
      rw [hlast,aA,decide_eq_false hlst',cond_false,aA,hN]
      rw [tH _ N _ _ (by rw [fS]; omega),if_pos (show (asR (jV i (w - l.length)).2).e=0 from he),aA]
      rw [List.map_append,List.map_replicate,Int.toNat_natCast]
      rfl
   ·rw [if_neg he,bY (s':=(asR (jV i (w - l.length)).2,l.map tc))]
    ·exact ih _ l (lB _ h) hl (by rw [if_neg he]; omega)
    ·have he':((asR (jV i (w - l.length)).2).e == 0)=false:=by simpa [asR] using he
     dsimp only
     rw [fS,mY,decide_eq_true (show (l.length:Int) < w/\(asR i).e=0 from hc),aA,cond_true,hwr,n5 h hL,aA]
     dsimp only
     rw [s1,aA,s2,aA,s3,aA,s4,aA,s5,aA]
     dsimp only
     rw [he',cond_false,aA,cond_false,aA,hN]
     rw [tH _ N _ _ (by rw [fS]; omega),if_neg (show ¬ (asR (jV i (w - l.length)).2).e=0 from he),aA]
  ·rw [if_neg hc]
   refine bD ?_
   dsimp only
   rw [fS,mY,decide_eq_false (show ¬ ((l.length:Int) < w/\(asR i).e=0) from hc),aA,cond_false]
theorem sg (i:aG) (w:Int) (h:VI i) (hw:w<=1000):gK (asR i) w=some (asR (ig i w).2,told (ig i w).1):=by
 unfold gK
 rw [n5 h (by omega),aA]
 have hV:=fE 1 h
 have hl:=yN w hw (w.toNat+1) _ [] hV (by simp; omega) (by simp only [List.length_nil]; split <;> omega)
 rw [List.map_nil] at hl
 dsimp only
 rw [hl,aA]
 unfold ig
 dsimp only
 by_cases he:(rrS (w.toNat+1) w (cD i 1).2 []).2.e=0
 ·have hb:((asR (rrS (w.toNat+1) w (cD i 1).2 []).2).e != 0)=false:=by simpa [asR] using he
  rw [hb,cond_false,if_pos he]
  have:((cD i 1).1 == 1)=decide ((cD i 1).1=1):=by by_cases h0:(cD i 1).1=1 <;> simp [h0]
  rw [this]
  rfl
 ·have hb:((asR (rrS (w.toNat+1) w (cD i 1).2 []).2).e != 0)=true:=by simpa [asR] using he
  rw [hb,cond_true,if_neg he]
  rfl
def gH:List aO->List (Nat×aO)
 | []=>[]
 | c::r=>match gH r with
  | (n,d)::t=>if c=d then (n+1,d)::t else (1,c)::(n,d)::t
  | []=>[(1,c)]
def iF (p:Nat×aO):List Int:=[(p.1:Int),p.2.rune,p.2.bW,p.2.part].flatMap cH
def fF (r:aY):List Int:=cH (if r.wrapped then 1 else 0)++(gH r.cells).flatMap iF
theorem pK (c:aO) (r:List aO): ∃ n t,gH (c::r)=(n+1,c)::t:=by
 unfold gH
 split
 ·rename_i n d t h
  split
  ·rename_i e
   exact ⟨n,t,by rw [e]⟩
  ·exact ⟨0,_,rfl⟩
 ·exact ⟨0,[],rfl⟩
theorem tI (p:Nat×aO):(iF p).length<=36:=by
 unfold iF
 simp only [List.flatMap_cons,List.flatMap_nil,List.length_append,List.length_nil]
 have h1:=cI (p.1:Int)
 have h2:=cI p.2.rune
 have h3:=cI p.2.bW
 have h4:=cI p.2.part
 omega
def more (c:aO):List aO->Nat
 | []=>0
 | d::r=>if d=c then more c r+1 else 0
theorem zV (c:aO): ∀ l,more c l<=l.length
 | []=>Nat.le_refl _
 | d::r=>by
  have:=zV c r
  unfold more
  split <;> simp <;> omega
theorem tJ (c:aO): ∀ r:List aO,gH (c::r)=(more c r+1,c)::gH (r.drop (more c r))
 | []=>rfl
 | d::r=>by
  have ih:=tJ d r
  have hu:gH (c::d::r)=(match gH (d::r) with
   | (n,e)::t=>if c=e then (n+1,e)::t else (1,c)::(n,e)::t
   | []=>[(1,c)]):=rfl
  rw [hu,ih]
  try dsimp only
  by_cases h:c=d
  ·subst h
   rw [if_pos rfl]
   have hm:more c (c::r)=more c r+1:=by
    show (if c=c then more c r+1 else 0)=_
    rw [if_pos rfl]
   rw [hm,List.drop_succ_cons]
  ·rw [if_neg h]
   have hm:more c (d::r)=0:=by
    show (if d=c then more c r+1 else 0)=_
    rw [if_neg (λe=>h e.symm)]
   rw [hm,List.drop_zero,ih]
theorem xj (c:aO): ∀ (l:List aO) (k:Nat),k < more c l->l[k]?=some c
 | [],k,h=>by simp [more] at h
 | d::r,k,h=>by
  unfold more at h
  split at h
  ·rename_i e
   cases k with
   | zero=>rw [e]; rfl
   | succ k=>exact xj c r k (by omega)
  ·omega
theorem u0 (c:aO): ∀ (l:List aO),more c l < l.length->l[more c l]?≠some c
 | [],h=>by simp at h
 | d::r,h=>by
  have hu:more c (d::r)=if d=c then more c r+1 else 0:=rfl
  rw [hu] at h ⊢
  by_cases e:d=c
  ·rw [if_pos e] at h ⊢
   exact u0 c r (by simpa using h)
  ·rw [if_neg e]
   simpa using e
theorem Ep: ∀ (m:Nat) (l:List aO) (b:List Int),l.length<=m->b.length+36*l.length<=9000000->okR l -> ∃ q,iter (σ:=(List aO)×cJ) (ρ:=((List aO)×cJ) ⊕ (cJ×(List aO))) (λa=>(bif (decide ((a.1.length:Int) > 0)) then (Option.bind (iter (σ:=Int) (ρ:=Int) (λf=>(Option.bind ((bif (decide (f < (a.1.length:Int))) then (Option.bind (idx a.1 f) λg=>(Option.bind (idx a.1 0) λh=>some ((g.rune == h.rune) && ((g.bW == h.bW) && ((g.part == h.part) && true))))) else some false):Option Bool) λj=>(bif j then some (.inl (IntKind.i64.wrap (f+1))) else some (.inr f)))) 1) λi=>(Option.bind (idx a.1 0) λn=>(Option.bind ((λ(s51:cJ) (x21:Int×aO)=>(Option.bind (dI s51 [x21.1,(IntKind.i64.wrap x21.2.rune),x21.2.bW,x21.2.part]) λo=>some (o,true))) a.2 (i,n)) λz1399=>(bif (!z1399.2) then (fH (some (z1399.1,a.1))) else (Option.bind (chk (eN i (a.1.length:Int) a.1.length)) λ_=>some (.inl ((cut a.1 i (a.1.length:Int)),z1399.1))))))) else some (.inr (.inl (a.1,a.2))))) (l,⟨b⟩)=some (.inl (q,⟨b++(gH l).flatMap iF⟩)):=by
 intro m
 induction m with
 | zero =>
  intro l b hl hb hok
  have:l=[]:=List.eq_nil_of_length_eq_zero (by omega)
  subst this
  refine ⟨[],?_⟩
  refine bD ?_
  try dsimp only
  rw [decide_eq_false (by simp),cond_false]
  simp [gH]
 | succ m ih =>
  intro l b hl hb hok
  cases l with
  | nil =>
   refine ⟨[],?_⟩
   refine bD ?_
   try dsimp only
   rw [decide_eq_false (by simp),cond_false]
   simp [gH]
  | cons c r =>
   have hmr:=zV c r
   have hcok:rok c.rune:=hok c (List.mem_cons_self ..)
   simp only [List.length_cons] at hl hb
   have hon:=mj b [((more c r+1:Nat):Int),c.rune,c.bW,c.part] (by first | (simp; omega) | simp)
   have hd:(r.drop (more c r)).length<=m:=by rw [List.length_drop]; omega
   have hel:=tI (more c r+1,c)
   obtain ⟨q,hq⟩:=ih (r.drop (more c r)) (b++iF (more c r+1,c)) hd (by rw [List.length_append,List.length_drop]; omega) (B5 (λd hd'=>hok d (List.mem_cons_of_mem _ hd')) _)
   refine ⟨q,?_⟩
   rw [bY (s':=(r.drop (more c r),(⟨b++iF (more c r+1,c)⟩:cJ)))]
   ·rw [hq,tJ,List.flatMap_cons,List.append_assoc]
   ·try dsimp only
    rw [decide_eq_true (by first | (simp; omega) | simp),cond_true]
    refine eJ (λk=>((k+1:Nat):Int)) (more c r) ((more c r+1:Nat):Int) rfl ?_ ?_ ?_
    ·intro k hk
     have hg:=xj c r k hk
     have hgi:idx (c::r) ((k+1:Nat):Int)=some c:=by rw [qg,List.getElem?_cons_succ,hg]
     have hg0:idx (c::r) 0=some c:=rfl
     try dsimp only
     rw [decide_eq_true (by first | (simp; omega) | simp),cond_true,hgi,aA,hg0,aA,lO,decide_eq_true rfl,aA,cond_true,w64 (by omega) (by omega)]
     rfl
    ·try dsimp only
     by_cases hlt:more c r < r.length
     ·have hs:=u0 c r hlt
      have hgi:idx (c::r) ((more c r+1:Nat):Int)=some r[more c r]:=by rw [qg,List.getElem?_cons_succ,List.getElem?_eq_getElem hlt]
      have hg0:idx (c::r) 0=some c:=rfl
      have hne: ¬ r[more c r]=c:=λe=>hs (by rw [List.getElem?_eq_getElem hlt,e])
      rw [decide_eq_true (by first | (simp; omega) | simp),cond_true,hgi,aA,hg0,aA,lO,decide_eq_false hne,aA,cond_false]
     ·rw [decide_eq_false (by first | (simp; omega) | simp),cond_false,aA,cond_false]
    ·have hg0:idx (c::r) 0=some c:=rfl
     have hce:iF (more c r+1,c)=[((more c r+1:Nat):Int),c.rune,c.bW,c.part].flatMap cH:=rfl
     rw [hg0,aA,w32 hcok,hon,aA,aA]
     try dsimp only
     rw [Bool.not_true,cond_false,cX (by omega) (by first | (simp; omega) | simp) (by simp),aA,qj,List.take_length,List.drop_succ_cons,hce]
theorem yO (r:aY) (h:r.cells.length<=1000) (hok:okR r.cells):jC r=some (dM (fF r)):=by
 unfold jC n0 mS lA fr
 have EZ:((bif r.wrapped then some 1 else some 0):Option Int)=some (if r.wrapped then 1 else 0):=by cases r.wrapped <;> rfl
 rw [EZ,aA,mj [] _ (by simp),aA,aA]
 have hb:=cI (if r.wrapped then 1 else 0)
 obtain ⟨q,hq⟩:=Ep r.cells.length r.cells (cH (if r.wrapped then 1 else 0)) (Nat.le_refl _) (by omega) hok
 have e0:([]++[(if r.wrapped then (1:Int) else 0)].flatMap cH)=cH (if r.wrapped then 1 else 0):=by simp
 rw [e0,hq,aA,aA,aA]
 rfl
def AT (n:Nat):List (Nat×aO)->List (Nat×aO)
 | []=>[]
 | (m,c)::t=>(m+n,c)::t
theorem u3 (l:List (Nat×aO)):AT 0 l=l:=by
 cases l with
 | nil=>rfl
 | cons a t=>rfl
theorem xk (r:aY) (h:r.cells.length<=1000):jb (told r)=some (dM (fF r)):=by
 unfold jb
 have EZ:((bif (told r).wrapped then some (ByteArray.mk #[1]) else some (ByteArray.mk #[0])):Option ByteArray)=some (dM (cH (if r.wrapped then 1 else 0))):=by
  show ((bif r.wrapped then some (ByteArray.mk #[1]) else some (ByteArray.mk #[0])):Option ByteArray)=_
  have h0:cH 0=[0]:=by
   show gF 0=_
   rw [eY (by omega)]
   rfl
  have h1:cH 1=[1]:=by
   show gF 1=_
   rw [eY (by omega)]
   rfl
  cases r.wrapped
  ·show some (ByteArray.mk #[0])=some (dM (cH 0))
   rw [h0,mW]
   rfl
  ·show some (ByteArray.mk #[1])=some (dM (cH 1))
   rw [h1,mW]
   rfl
 rw [EZ,aA]
 show Option.bind (iter _ (0,dM (cH (if r.wrapped then 1 else 0)),0)) _=_
 have hb0:=cI (if r.wrapped then 1 else 0)
 unfold fF
 generalize cH (if r.wrapped then 1 else 0)=b0 at hb0
 have htl:(told r).l=r.cells.map tc:=rfl
 rw [htl,fS]
 have key: ∀ (s:List aO) (p:List aO) (b:List Int) (n:Nat) (f:Int×ByteArray×Int->Option ((Int×ByteArray×Int) ⊕ ByteArray)),f=(λ(s776:Int×ByteArray×Int)=>(bif (decide (s776.1 < (r.cells.length:Int))) then (Option.bind ((Option.bind (idx (r.cells.map tc) s776.1) λg=>(Option.bind ((bif (decide ((IntKind.i64.wrap (s776.1+1)) < (r.cells.length:Int))) then (Option.bind (idx (r.cells.map tc) (IntKind.i64.wrap (s776.1+1))) λa=>some ((a.rune == g.rune) && ((a.bW == g.bW) && ((a.part == g.part) && true)))) else some false):Option Bool) λu=>(bif u then some (s776.2.1,(IntKind.i64.wrap (s776.2.2+1))) else (Option.bind (cF (IntKind.i64.wrap (s776.2.2+1))) λi=>(Option.bind (cF g.rune) λj=>(Option.bind (chk (kG i.size j.size)) λ_=>(Option.bind (cF g.bW) λk=>(Option.bind (chk (kG (i++j).size k.size)) λ_=>(Option.bind (cF g.part) λo=>(Option.bind (chk (kG ((i++j)++k).size o.size)) λ_=>(Option.bind (chk (kG s776.2.1.size (((i++j)++k)++o).size)) λ_=>some ((s776.2.1++(((i++j)++k)++o)),0)))))))))))):Option (ByteArray×Int)) λq=>some (.inl ((IntKind.i64.wrap (s776.1+1)),q.1,q.2))) else some (.inr s776.2.1)))->p++s=r.cells->n<=p.length->b.length+36*s.length<=1000000->(s=[]->n=0)->iter f ((p.length:Int),dM b,(n:Int))=some (dM (b++(AT n (gH s)).flatMap iF)):=by
  intro s
  induction s with
  | nil =>
   intro p b n f hf hp hn hb h0
   have hpl:p.length=r.cells.length:=by rw [<- hp]; simp
   rw [bD (r:=dM b)]
   ·simp [gH,AT]
   ·subst hf
    dsimp only
    rw [decide_eq_false (by omega),cond_false]
  | cons c s ih =>
   intro p b n f hf hp hn hb h0
   have hpl:r.cells.length=p.length+s.length+1:=by rw [<- hp]; simp; omega
   simp only [List.length_cons] at hb
   have hx:idx (r.cells.map tc) (p.length:Int)=some (tc c):=by
    rw [<- hp,List.map_append,List.map_cons,<- fS p]
    exact sS _ _ _
   have hn1:IntKind.i64.wrap ((p.length:Int)+1)=((p.length+1:Nat):Int):=by rw [w64 (by omega) (by omega)]; omega
   have hn2:IntKind.i64.wrap ((n:Int)+1)=((n+1:Nat):Int):=by rw [w64 (by omega) (by omega)]; omega
   have hp1:p++[c]++s=r.cells:=by rw [<- hp]; simp
   have hlen1:((p++[c]).length:Int)=((p.length+1:Nat):Int):=by simp
   -- the cell behind
   have hnext:((bif (decide (((p.length+1:Nat):Int) < (r.cells.length:Int))) then (Option.bind (idx (r.cells.map tc) ((p.length+1:Nat):Int)) λa=>some ((a.rune == (tc c).rune) && ((a.bW == (tc c).bW) && ((a.part == (tc c).part) && true)))) else some false):Option Bool)=some (decide (s.head?=some c)):=by
    cases s with
    | nil =>
     rw [decide_eq_false (by simp at hpl ⊢; omega),cond_false]
     rfl
    | cons d s' =>
     have hx2:idx (r.cells.map tc) ((p.length+1:Nat):Int)=some (tc d):=by
      rw [<- hp,List.map_append,List.map_cons,List.map_cons,qg,List.getElem?_append_right (by simp)]
      simp
     rw [decide_eq_true (by simp at hpl ⊢; omega),cond_true,hx2,aA]
     show some ((d.rune == c.rune) && ((d.bW == c.bW) && ((d.part == c.part) && true)))=_
     rw [lO]
     simp
   by_cases hc:s.head?=some c
   ·rw [bY (s':=(((p++[c]).length:Int),dM b,((n+1:Nat):Int)))]
    ·rw [ih (p++[c]) b (n+1) f hf hp1 (by simp; omega) (by omega) (λe=>by rw [e] at hc; cases hc)]
     cases s with
     | nil=>cases hc
     | cons d s' =>
      obtain rfl:d=c:=by simpa using hc
      obtain ⟨m,t,hm⟩:=pK d s'
      have hu:gH (d::d::s')=(m+1+1,d)::t:=by
       show (match gH (d::s') with
        | (n,e)::t=>if d=e then (n+1,e)::t else (1,d)::(n,e)::t
        | []=>[(1,d)])=_
       rw [hm]
       dsimp only
       rw [if_pos rfl]
      have ha:AT (n+1) ((m+1,d)::t)=AT n ((m+1+1,d)::t):=by
       show (m+1+(n+1),d)::t=(m+1+1+n,d)::t
       congr 2
       omega
      rw [hu,hm,ha]
    ·subst hf
     dsimp only
     rw [decide_eq_true (by omega),cond_true,hx,aA,hn1,hnext,aA,decide_eq_true hc,cond_true,hn2,aA,hlen1]
   ·have e1:=cI ((n+1:Nat):Int)
    have e2:=cI c.rune
    have e3:=cI c.bW
    have e4:=cI c.part
    rw [bY (s':=(((p++[c]).length:Int),dM (b++iF (n+1,c)),((0:Nat):Int)))]
    ·have hel:=tI (n+1,c)
     rw [ih (p++[c]) (b++iF (n+1,c)) 0 f hf hp1 (by omega) (by rw [List.length_append]; omega) (λ_=>rfl),u3]
     have hu:gH (c::s)=(1,c)::gH s:=by
      cases s with
      | nil=>rfl
      | cons d s' =>
       have hne: ¬ c=d:=λe=>hc (by rw [e]; rfl)
       obtain ⟨m,t,hm⟩:=pK d s'
       show (match gH (d::s') with
        | (n,e)::t=>if c=e then (n+1,e)::t else (1,c)::(n,e)::t
        | []=>[(1,c)])=_
       rw [hm]
       dsimp only
       rw [if_neg hne]
     have ha:AT n ((1,c)::gH s)=(n+1,c)::gH s:=by
      show (1+n,c)::gH s=_
      rw [Nat.add_comm 1 n]
     rw [hu,ha,List.flatMap_cons,List.append_assoc]
    ·subst hf
     have hE:iF (n+1,c)=cH ((n+1:Nat):Int)++cH c.rune++cH c.bW++cH c.part:=by
      unfold iF
      simp
     dsimp only
     rw [decide_eq_true (by omega),cond_true,hx,aA,hn1,hnext,aA,decide_eq_false hc,cond_false,hn2,iU,aA]
     show Option.bind (Option.bind (cF c.rune) _) _=_
     rw [iU,aA,eC (by rw [bO,bO]; omega),aA]
     show Option.bind (Option.bind (cF c.bW) _) _=_
     rw [iU,aA,<- dH,eC (by rw [bO,bO,List.length_append]; omega),aA]
     show Option.bind (Option.bind (cF c.part) _) _=_
     rw [iU,aA,<- dH,eC (by rw [bO,bO,List.length_append,List.length_append]; omega),aA,<- dH,eC (by rw [bO,bO,List.length_append,List.length_append,List.length_append]; omega),aA,aA,<- dH,hlen1,hE]
     rfl
 have hk:=key r.cells [] b0 0 _ rfl rfl (by omega) (by omega) (λ_=>rfl)
 rw [u3] at hk
 exact (congrArg (λx=>Option.bind x λv=>some v) hk).trans rfl
theorem Es {w:Nat} (h:w<=most):clN (w:Int)=w:=by unfold clN; unfold most at h; omega
theorem jK {w:Nat} (h:w<=most):cH (w:Int)=gF w:=by unfold cH; rw [Es h]
theorem pL (c:aO) (n:Nat): ∀ l:List aO,l.getLast?≠some c->gH (l++List.replicate (n+1) c)=gH l++[(n+1,c)]
 | [],_=>by
  rw [List.nil_append]
  induction n with
  | zero=>rfl
  | succ n ih =>
   rw [List.replicate_succ]
   show (match gH (List.replicate (n+1) c) with
    | (m,e)::t=>if c=e then (m+1,e)::t else (1,c)::(m,e)::t
    | []=>[(1,c)])=_
   rw [ih]
   show (if c=c then [(n+1+1,c)] else _)=_
   rw [if_pos rfl]
   rfl
 | x::r,h=>by
  cases r with
  | nil =>
   have hx: ¬ x=c:=λe=>h (by rw [e]; rfl)
   have ih:=pL c n [] (by simp)
   show (match gH ([]++List.replicate (n+1) c) with
    | (m,e)::t=>if x=e then (m+1,e)::t else (1,x)::(m,e)::t
    | []=>[(1,x)])=_
   rw [ih]
   show (if x=c then _ else (1,x)::(n+1,c)::[])=_
   rw [if_neg hx]
   rfl
  | cons y s =>
   have ih:=pL c n (y::s) (by simpa using h)
   show (match gH ((y::s)++List.replicate (n+1) c) with
    | (m,e)::t=>if x=e then (m+1,e)::t else (1,x)::(m,e)::t
    | []=>[(1,x)])=(match gH (y::s) with
    | (m,e)::t=>if x=e then (m+1,e)::t else (1,x)::(m,e)::t
    | []=>[(1,x)])++[(n+1,c)]
   rw [ih]
   obtain ⟨m,t,hm⟩:=pK y s
   rw [hm]
   show (if x=y then _ else _)=(if x=y then _ else _)++_
   split <;> rfl
theorem u4 {i:aG} {left:Int} (h:VI i) (hl:0<=left) (he:(jV i left).2.e=0):sbs i.s=iF ((cD i left).1.toNat,gv i left)++sbs (jV i left).2.s/\0<=(gv i left).rune/\(gv i left).rune<=1114111:=by
 obtain ⟨_,h1,h2,h3,h4⟩:=qp h hl he
 obtain ⟨eB,c3,q3,_,m3,b3⟩:=jZ (i:=(o5 i left).2) (m:=3) he (n7 left h)
 obtain ⟨eA,c2,q2,_,m2,b2⟩:=jZ (i:=(oA i left).2) (m:=647) eB (n6 left h)
 obtain ⟨e0,c1,q1,l1,m1,b1⟩:=jZ (i:=ni i left) (m:=1114111) eA (mX left h)
 obtain ⟨_,c0,q0,_,m0,b0⟩:=jZ (i:=i) (m:=left) h3 h
 have qa:(gv i left).rune=(c1:Int):=q1
 have qb:(gv i left).bW=(c2:Int):=q2
 have qc:(gv i left).part=(c3:Int):=q3
 refine ⟨?_,by omega,by omega⟩
 have hE:iF ((cD i left).1.toNat,gv i left)=gF c0++gF c1++gF c2++gF c3:=by
  unfold iF
  dsimp only
  rw [qa,qb,qc,q0,Int.toNat_natCast]
  simp only [List.flatMap_cons,List.flatMap_nil,List.append_nil,jK m0,jK m1,jK m2,jK m3,List.append_assoc]
 have b1':sbs (cD i left).2.s=gF c1++sbs (oA i left).2.s:=by rw [<- h4]; exact b1
 have b2':sbs (oA i left).2.s=gF c2++sbs (o5 i left).2.s:=b2
 have b3':sbs (o5 i left).2.s=gF c3++sbs (jV i left).2.s:=b3
 rw [hE,b0,b1',b2',b3']
 simp only [List.append_assoc]
theorem AU: ∀ (k:Nat) (w:Int) (i:aG) (l:List aO),VI i->okR l->(rrS k w i l).2.e=0 -> ∃ D,(gH (rrS k w i l).1).flatMap iF=(gH l).flatMap iF++D/\sbs i.s=D++sbs (rrS k w i l).2.s/\okR (rrS k w i l).1:=by
 intro k
 induction k with
 | zero=>intro w i l h hok he; exact ⟨[],by simp [rrS],by simp [rrS],hok⟩
 | succ k ih =>
  intro w i l h hok he
  unfold rrS at he ⊢
  by_cases hc:(l.length:Int) < w/\i.e=0
  ·rw [if_pos hc] at he ⊢
   by_cases h2:(jV i (w - l.length)).2.e=0
   ·rw [if_pos h2] at he ⊢
    by_cases h3:l.getLast?=some (gv i (w - l.length))
    ·rw [if_pos h3] at he
     exact absurd (xi _ _ _ _ he) (by decide)
    ·rw [if_neg h3] at he ⊢
     obtain ⟨b1,b2,b3⟩:=u4 h (by omega) h2
     obtain ⟨_,p1,_⟩:=qp h (by omega) h2
     obtain ⟨n,hn⟩: ∃ n,(cD i (w - l.length)).1.toNat=n+1:=⟨(cD i (w - l.length)).1.toNat - 1,by omega⟩
     rw [hn] at he b1 ⊢
     obtain ⟨D,d1,d2,d3⟩:=ih w _ _ (lB _ h) (zP hok (λc hc=>by rw [List.eq_of_mem_replicate hc]; unfold rok; omega)) he
     refine ⟨iF (n+1,gv i (w - l.length))++D,?_,?_,d3⟩
     ·rw [d1,pL _ _ _ h3,List.flatMap_append,List.flatMap_singleton,List.append_assoc]
     ·rw [b1,d2,List.append_assoc]
   ·rw [if_neg h2] at he
    exact absurd (xi _ _ _ _ he) h2
  ·rw [if_neg hc] at he ⊢
   exact ⟨[],by simp,by simp,hok⟩
theorem yP {i:aG} {w:Int} (h:VI i) (he:(ig i w).2.e=0):sbs i.s=fF (ig i w).1++sbs (ig i w).2.s:=by
 unfold ig at *
 by_cases h0:(rrS (w.toNat+1) w (cD i 1).2 []).2.e=0
 ·rw [if_pos h0]
  obtain ⟨D,d1,d2,_⟩:=AU _ w _ [] (fE 1 h) (λc hc=>by cases hc) h0
  obtain ⟨_,c,q,hc,hm,hb⟩:=jZ (i:=i) (m:=1) (xi _ _ _ _ h0) h
  unfold fF
  dsimp only
  rw [d1,hb,d2,q]
  have:(if decide ((c:Int)=1)=true then (1:Int) else 0)=(c:Int):=by
   by_cases hc1:(c:Int)=1
   ·simp [hc1]
   ·rw [decide_eq_false hc1]
    simp
    omega
  rw [this,jK hm]
  simp [gH]
 ·rw [if_neg h0] at he
  exact absurd he h0
theorem qq {i:aG} {w:Int} (h:VI i):VI (ig i w).2:=by
 unfold ig
 split
 ·exact (vJ _ w _ [] (fE 1 h) (by simp; omega)).2
 ·exact (vJ _ w _ [] (fE 1 h) (by simp; omega)).2
theorem F4: ∀ (k:Nat) (w:Int) (i:aG) (l:List aO),VI i->okR l->okR (rrS k w i l).1:=by
 intro k
 induction k with
 | zero=>intro w i l h hok; exact hok
 | succ k ih =>
  intro w i l h hok
  unfold rrS
  by_cases hc:(l.length:Int) < w/\i.e=0
  ·rw [if_pos hc]
   by_cases h2:(jV i (w - l.length)).2.e=0
   ·rw [if_pos h2]
    obtain ⟨b1,b2,b3⟩:=u4 h (by omega) h2
    split
    ·exact ih w _ l mI hok
    ·exact ih w _ _ (lB _ h) (zP hok (λc hc=>by rw [List.eq_of_mem_replicate hc]; unfold rok; omega))
   ·rw [if_neg h2]
    exact ih w _ l (lB _ h) hok
  ·rw [if_neg hc]
   exact hok
theorem Eu {i:aG} {w:Int} (h:VI i) (hw:w<=1000):okR (ig i w).1.cells/\(ig i w).1.cells.length<=1000:=by
 unfold ig
 split
 ·refine ⟨F4 _ w _ [] (fE 1 h) (λc hc=>by cases hc),?_⟩
  have:=(vJ (w.toNat+1) w _ [] (fE 1 h) (by simp; omega)).1
  show (rrS (w.toNat+1) w (cD i 1).2 []).1.length<=1000
  omega
 ·exact ⟨λc hc=>(by cases hc),Nat.zero_le _⟩
theorem vM (a b:Bool):((bif a then some b else some false):Option Bool)=some (a && b):=by cases a <;> rfl
theorem bor (a b:Bool):((bif a then some true else some b):Option Bool)=some (a || b):=by cases a <;> rfl
def okG (r s:Int):Bool:=(decide (r>=0) && decide (r<=1114111)) && (decide (s>=0) && decide (s<=647))
def okC (c:aO):Bool:=okG c.rune c.bW && (decide (c.part>=0) && decide (c.part<=3))
def ic (s:aN):Bool:=(s.k == 0) && ((s.w == 0) && ((s.h == 0) && ((s.x == 0) && ((s.y == 0) && ((s.title.toList == (ByteArray.mk #[]).toList) && (((s.rows.length:Int) == 0) && ((s.len == 0) && ((s.chain == 0) && ((s.begun.length:Int) == 0)))))))))
def wi (n lo hi:Int):Bool:=decide (n>=lo) && decide (n<=hi)
def nj (s:aN):Bool:=wi s.k 1 1152921504606846976 && (wi s.w 1 1000 && (wi s.h 1 1000 && (wi s.x 0 (s.w - 1) && (wi s.y 0 (s.h - 1) && (((s.rows.length:Int) == s.h) && (decide ((s.title.size:Int)<=200) && (wi s.len 0 1152921504606846976 && (wi s.chain 0 281474976710656 && decide ((s.begun.length:Int)<=1024)))))))))
def oe (w:Int) (r:aY):Bool:=((r.cells.length:Int) == w) && r.cells.all okC
def nk (s:aN):Bool:=ic s || (nj s && ((s.begun.all λg=>okG g.rune g.bW) && s.rows.all (oe s.w)))
theorem empty_eq (s:aN):fK s=some (ic s):=by
 unfold fK ic
 simp only [vM,aA]
theorem pM (n lo hi:Int):dQ n lo hi=some (wi n lo hi):=by
 unfold dQ wi
 rw [vM,aA]
structure SW (s:aN):Prop where
 w1: -9223372036854775808<=s.w/\s.w<=9223372036854775807
 h1: -9223372036854775808<=s.h/\s.h<=9223372036854775807
 gl: ∀ g∈s.begun,rok g.rune
 ro: ∀ r∈s.rows,okR r.cells/\r.cells.length<=1000
 rl:s.rows.length<=1000
 bl:s.begun.length<=2000
 tl:s.title.size<=12000
theorem Ce (s:aN) (h:SW s):gP s=some (nj s):=by
 unfold gP nj
 simp only [pM,aA]
 by_cases hw:s.w>=1
 ·have e1:IntKind.i64.wrap (s.w - 1)=s.w - 1:=w64 (by omega) (by have:=h.w1; omega)
  by_cases hh:s.h>=1
  ·have e2:IntKind.i64.wrap (s.h - 1)=s.h - 1:=w64 (by omega) (by have:=h.h1; omega)
   simp only [e1,e2,vM,aA]
  ·have e2:wi s.h 1 1000=false:=by unfold wi; rw [decide_eq_false hh]; rfl
   simp only [e2,e1,cond_false,vM,Bool.false_and,Bool.and_false,aA]
 ·have e2:wi s.w 1 1000=false:=by unfold wi; rw [decide_eq_false hw]; rfl
  simp only [e2,cond_false,vM,Bool.false_and,Bool.and_false,aA]
theorem xn (r s:Int) (h:rok r):jP r s=some (okG r s):=by
 unfold jP okG
 simp only [pM,aA,w32 h,vM,wi]
theorem AV (c:aO) (h:rok c.rune):lI c=some (okC c):=by
 unfold lI okC
 rw [xn _ _ h]
 simp only [pM,aA,vM,wi]
theorem find_eq {α:Type} (l:List α) (p:α->Bool) (hl:l.length<=1000000) (f:Int->Option (Int ⊕ (Unit ⊕ Int))) (hf: ∀ (n:Nat) (hn:n < l.length),f (n:Int)=if p l[n] then some (.inr (.inr (n:Int))) else some (.inl ((n+1:Nat):Int))) (he:f (l.length:Int)=some (.inr (.inl ()))): ∃ q,iter f 0=some q/\((q = .inl ()/\l.any p=false) \/ ∃ w:Int,q = .inr w/\0<=w/\l.any p=true):=by
 obtain ⟨q,h1,h2⟩:=nE (f:=f) (λi:Int=> ∃ n:Nat,i=n/\n<=l.length/\(l.take n).any p=false) (λi=>(l.length - i).toNat) (λq=>(q = .inl ()/\l.any p=false) \/ ∃ w:Int,q = .inr w/\0<=w/\l.any p=true) (by
  rintro i ⟨n,rfl,hn,ht⟩
  by_cases hlt:n < l.length
  ·by_cases hp:p l[n]=true
   ·refine .inr ⟨.inr (n:Int),by rw [hf n hlt,if_pos hp],.inr ⟨_,rfl,by omega,List.any_eq_true.2 ⟨l[n],List.getElem_mem hlt,hp⟩⟩⟩
   ·refine .inl ⟨((n+1:Nat):Int),by rw [hf n hlt,if_neg hp],⟨n+1,rfl,hlt,?_⟩,by omega⟩
    rw [List.take_succ_eq_append_getElem hlt,List.any_append,ht]
    simpa using hp
  ·have hnl:n=l.length:=by omega
   subst hnl
   refine .inr ⟨.inl (),he,.inl ⟨rfl,?_⟩⟩
   rwa [List.take_length] at ht) 0 ⟨0,rfl,by omega,rfl⟩
 exact ⟨q,h1,h2⟩
theorem Ew (l:List aM) (hl:l.length<=1000000) (h: ∀ g∈l,rok g.rune):cG l=some (l.any λg=> !okG g.rune g.bW):=by
 unfold cG cW
 have hlen:l.length=l.length:=rfl
 obtain ⟨q,h1,h2⟩:=find_eq l (λg=> !okG g.rune g.bW) hl (λa=>(bif (decide (a < (l.length:Int))) then (Option.bind (idx l a) λb=>(Option.bind (gq b) λc=>(bif c then (fH (some a)) else some (.inl (IntKind.i64.wrap (a+1)))))) else some (.inr (.inl ())))) (by
  intro n hn
  unfold gq
  rw [decide_eq_true (by omega),cond_true,bK l n hn,aA,xn _ _ (h _ (List.getElem_mem hn)),aA,aA,w64 (by omega) (by omega)]
  cases okG l[n].rune l[n].bW <;> rfl) (by
  rw [decide_eq_false (by omega),cond_false])
 rw [h1,aA]
 rcases h2 with ⟨rfl,h3⟩ | ⟨w,rfl,h4,h3⟩
 ·rw [h3]
  rfl
 ·rw [h3]
  show some (decide (w>=0))=some true
  rw [decide_eq_true h4]
theorem Ey (l:List aO) (hl:l.length<=1000000) (h:okR l):cE l=some (l.any λc=> !okC c):=by
 unfold cE cZ
 obtain ⟨q,h1,h2⟩:=find_eq l (λc=> !okC c) hl (λa=>(bif (decide (a < (l.length:Int))) then (Option.bind (idx l a) λb=>(Option.bind (gr b) λd=>(bif d then (fH (some a)) else some (.inl (IntKind.i64.wrap (a+1)))))) else some (.inr (.inl ())))) (by
  intro n hn
  unfold gr
  rw [decide_eq_true (by omega),cond_true,bK l n hn,aA,AV _ (h _ (List.getElem_mem hn)),aA,aA,w64 (by omega) (by omega)]
  cases okC l[n] <;> rfl) (by
  rw [decide_eq_false (by omega),cond_false])
 rw [h1,aA]
 rcases h2 with ⟨rfl,h3⟩ | ⟨w,rfl,h4,h3⟩
 ·rw [h3]
  rfl
 ·rw [h3]
  show some (decide (w>=0))=some true
  rw [decide_eq_true h4]
theorem zW {α:Type} (l:List α) (p:α->Bool):(l.any λx=> !p x) = !(l.all p):=by
 induction l with
 | nil=>rfl
 | cons a l ih=>rw [List.any_cons,List.all_cons,ih,Bool.not_and]
theorem xo (s:aN) (h:SW s):fL s=some (if nk s then 0 else 1):=by
 unfold fL nk
 rw [empty_eq,aA]
 cases he:ic s with
 | true =>
  rw [cond_true]
  rfl
 | false =>
  rw [cond_false,Ce s h,aA,Ew _ (by have:=h.bl; omega) h.gl,aA,bor,aA,zW]
  cases hs:nj s with
  | false=>rfl
  | true =>
   cases hg:(s.begun.all λg=>okG g.rune g.bW) with
   | false=>rfl
   | true =>
    show Option.bind (iter _ 0) _=some (if s.rows.all (oe s.w)=true then 0 else 1)
    have hrl:=h.rl
    refine qi (λi:Int=> ∃ n:Nat,i=n/\n<=s.rows.length/\(s.rows.take n).all (oe s.w)=true) (λi=>(s.rows.length - i).toNat) (λq=>q=if s.rows.all (oe s.w)=true then .inl () else .inr 1) ⟨0,rfl,by omega,rfl⟩ ?_ ?_
    ·rintro i ⟨n,rfl,hn,ht⟩
     by_cases hlt:n < s.rows.length
     ·have hro:=h.ro _ (List.getElem_mem hlt)
      have hcond:((bif ((s.rows[n].cells.length:Int) != s.w) then some true else (Option.bind (cE s.rows[n].cells) λa=>some a)):Option Bool)=some (!oe s.w s.rows[n]):=by
       rw [Ey _ (by omega) hro.1,aA,bor,zW]
       unfold oe
       rw [Bool.not_and]
       rfl
      try dsimp only
      rw [decide_eq_true (by omega),cond_true,bK _ _ hlt,aA,hcond,aA,w64 (by omega) (by omega)]
      cases hb:oe s.w s.rows[n] with
      | true =>
       refine .inl ⟨((n+1:Nat):Int),rfl,⟨n+1,rfl,hlt,?_⟩,by omega⟩
       rw [List.take_succ_eq_append_getElem hlt,List.all_append,ht]
       simp [hb]
      | false =>
       refine .inr ⟨.inr 1,rfl,?_⟩
       rw [if_neg]
       intro hall
       have:=List.all_eq_true.1 hall _ (List.getElem_mem hlt)
       rw [hb] at this
       cases this
     ·refine .inr ⟨.inl (),?_,?_⟩
      ·try dsimp only
       rw [decide_eq_false (by omega),cond_false]
      ·have hnl:n=s.rows.length:=by omega
       subst hnl
       rw [List.take_length] at ht
       rw [if_pos ht]
    ·rintro q rfl
     by_cases hall:s.rows.all (oe s.w)=true
     ·rw [if_pos hall,if_pos hall]
     ·rw [if_neg hall,if_neg hall]
def tg (g:aM):aQ:=⟨g.rune,g.bW⟩
@[reducible] def fN (s:aN):bJ:=⟨s.k,s.w,s.h,s.x,s.y,s.title,s.rows.map told,s.len,s.chain,s.begun.map tg⟩
theorem u5 (s:aN):ib (fN s)=some (ic s):=by
 unfold ib ic fN
 simp only [vM,aA,List.length_map]
theorem F5 (r s:Int):(decide (r < 0) || (decide (r > 1114111) || (decide (s < 0) || decide (s > 647)))) = !okG r s:=by
 rw [Bool.eq_iff_iff,Bool.not_eq_true',<- Bool.not_eq_true]
 simp only [okG,Bool.or_eq_true,Bool.and_eq_true,decide_eq_true_eq]
 omega
theorem F6 (c:aO):(decide (c.rune < 0) || (decide (c.rune > 1114111) || (decide (c.bW < 0) || (decide (c.bW > 647) || (decide (c.part < 0) || decide (c.part > 3)))))) = !okC c:=by
 rw [Bool.eq_iff_iff,Bool.not_eq_true',<- Bool.not_eq_true]
 simp only [okC,okG,Bool.or_eq_true,Bool.and_eq_true,decide_eq_true_eq]
 omega
theorem tK {α ρ:Type} (l:List α) (p:α->Bool) (bad:ρ) (f:Int->Option (Int ⊕ (Unit ⊕ ρ))) (hl:l.length<=1000000) (hf: ∀ (n:Nat) (hn:n < l.length),f (n:Int)=if p l[n] then some (.inl ((n+1:Nat):Int)) else some (.inr (.inr bad))) (he:f (l.length:Int)=some (.inr (.inl ()))):iter f 0=some (if l.all p=true then .inl () else .inr bad):=by
 obtain ⟨q,h1,h2⟩:=nE (f:=f) (λi:Int=> ∃ n:Nat,i=n/\n<=l.length/\(l.take n).all p=true) (λi=>(l.length - i).toNat) (λq=>q=if l.all p=true then .inl () else .inr bad) (by
  rintro i ⟨n,rfl,hn,ht⟩
  by_cases hlt:n < l.length
  ·by_cases hp:p l[n]=true
   ·refine .inl ⟨((n+1:Nat):Int),by rw [hf n hlt,if_pos hp],⟨n+1,rfl,hlt,?_⟩,by omega⟩
    rw [List.take_succ_eq_append_getElem hlt,List.all_append,ht]
    simp [hp]
   ·refine .inr ⟨.inr bad,by rw [hf n hlt,if_neg hp],?_⟩
    rw [if_neg]
    intro hall
    exact hp (List.all_eq_true.1 hall _ (List.getElem_mem hlt))
  ·have hnl:n=l.length:=by omega
   subst hnl
   rw [List.take_length] at ht
   exact .inr ⟨.inl (),he,by rw [if_pos ht]⟩) 0 ⟨0,rfl,by omega,rfl⟩
 rw [h1,h2]
theorem F7 (c1 c2:Bool) (X out:Option Bool) (h1:(c1 || c2)=true->out=some false) (h2:(c1 || c2)=false->X=out):(bif c1 then some false else bif c2 then some false else X)=out:=by
 cases c1 with
 | true=>exact (h1 rfl).symm
 | false =>
  cases c2 with
  | true=>exact (h1 rfl).symm
  | false=>exact h2 rfl
theorem Cg (s:aN) (h:SW s):jG (fN s)=some (nk s):=by
 have hrl:=h.rl
 have hbl:=h.bl
 have hRl:(s.rows.map told).length=s.rows.length:=List.length_map _
 have hBl:(s.begun.map tg).length=s.begun.length:=List.length_map _
 unfold jG nk
 rw [u5,aA]
 cases he:ic s with
 | true=>rfl
 | false =>
  have hS:((decide (s.k < 1) || (decide (s.k > 1152921504606846976) || (decide (s.w < 1) || (decide (s.w > 1000) || (decide (s.h < 1) || (decide (s.h > 1000) || (decide (s.x < 0) || (decide (s.x>=s.w) || (decide (s.y < 0) || (decide (s.y>=s.h) || (((s.rows.map told).length:Int) != s.h))))))))))) || (decide ((s.title.size:Int) > 200) || (decide (s.len < 0) || (decide (s.len > 1152921504606846976) || (decide (s.chain < 0) || (decide (s.chain > 281474976710656) || decide (((s.begun.map tg).length:Int) > 1024))))))) = !nj s:=by
   rw [Bool.eq_iff_iff,Bool.not_eq_true',<- Bool.not_eq_true]
   simp only [nj,wi,Bool.or_eq_true,Bool.and_eq_true,decide_eq_true_eq,beq_iff_eq,bne_iff_ne,ne_eq]
   omega
  rw [cond_false]
  dsimp only [fN]
  simp only [bor,aA]
  refine F7 _ _ _ _ (λhh=> ?_) (λhh=> ?_)
  ·have hz:nj s=false:=by
    have h2:(!nj s)=true:=hS.symm.trans hh
    simpa using h2
   rw [hz]
   rfl
  ·have hz:nj s=true:=by
    have h2:(!nj s)=false:=hS.symm.trans hh
    simpa using h2
   rw [hz]
   ·skip
    rw [tK s.begun (λg=>okG g.rune g.bW) false _ (by have:=h.bl; omega) (λn hn=> ?hf1) ?he1,aA]
    ·cases hg:(s.begun.all λg=>okG g.rune g.bW) with
     | false=>rfl
     | true =>
      rw [if_pos rfl]
      dsimp only
      rw [tK s.rows (oe s.w) false _ (by have:=h.rl; omega) (λn hn=> ?hf2) ?he2,aA]
      ·cases s.rows.all (oe s.w) <;> rfl
      case hf2 =>
       have hro:=h.ro _ (List.getElem_mem hn)
       rw [decide_eq_true (by omega),cond_true,bK _ _ (by simpa using hn),aA,List.getElem_map]
       have htl:(told s.rows[n]).l=s.rows[n].cells.map tc:=rfl
       rw [htl,fS]
       by_cases hw:(s.rows[n].cells.length:Int)=s.w
       ·have hb:((s.rows[n].cells.length:Int) != s.w)=false:=by simpa using hw
        have hb2:((s.rows[n].cells.length:Int) == s.w)=true:=by simpa using hw
        rw [hb,cond_false]
        rw [tK s.rows[n].cells okC (.inr (.inr false)) _ (by omega) (λk hk=> ?hf3) ?he3,aA]
        ·unfold oe
         rw [hb2,Bool.true_and]
         cases s.rows[n].cells.all okC with
         | true =>
          rw [if_pos rfl,if_pos rfl]
          dsimp only
          rw [w64 (by omega) (by omega)]
          rfl
         | false=>rfl
        case hf3 =>
         rw [decide_eq_true (by omega),cond_true,bK _ _ (by simpa using hk),aA,List.getElem_map]
         show (bif (decide ((s.rows[n].cells[k]).rune < 0) || (decide ((s.rows[n].cells[k]).rune > 1114111) || (decide ((s.rows[n].cells[k]).bW < 0) || (decide ((s.rows[n].cells[k]).bW > 647) || (decide ((s.rows[n].cells[k]).part < 0) || decide ((s.rows[n].cells[k]).part > 3)))))) then _ else _)=_
         rw [F6,w64 (by omega) (by omega)]
         cases okC s.rows[n].cells[k] <;> rfl
        case he3 =>
         rw [decide_eq_false (by omega),cond_false]
       ·have hb:((s.rows[n].cells.length:Int) != s.w)=true:=by simpa using hw
        have hb2:((s.rows[n].cells.length:Int) == s.w)=false:=by simpa using hw
        rw [hb,cond_true]
        unfold oe
        rw [hb2,Bool.false_and]
        rfl
      case he2 =>
       rw [decide_eq_false (by omega),cond_false]
    case hf1 =>
     rw [decide_eq_true (by omega),cond_true,bK _ _ (by simpa using hn),aA,List.getElem_map]
     show (bif (decide ((s.begun[n]).rune < 0) || (decide ((s.begun[n]).rune > 1114111) || (decide ((s.begun[n]).bW < 0) || decide ((s.begun[n]).bW > 647)))) then _ else _)=_
     rw [F5,w64 (by omega) (by omega)]
     cases okG s.begun[n].rune s.begun[n].bW <;> rfl
    case he1 =>
     rw [decide_eq_false (by omega),cond_false]
theorem vO (b:List Int) (s:ByteArray) (hb:b.length+s.size<=10000000):gZ ⟨b⟩ [s]=some ⟨b++sbs s⟩:=by
 unfold gZ
 rw [bY (s':=((⟨b++sbs s⟩:cJ),(1:Int)))]
 ·rw [bD (r:=(⟨b++sbs s⟩:cJ))]
  ·rfl
  ·dsimp only
   rw [decide_eq_false (by simp),cond_false]
 ·dsimp only
  have h0:idx [s] 0=some s:=rfl
  rw [decide_eq_true (by simp),cond_true,h0,aA,bQ (by omega),aA]
  rfl
theorem xq (b:List Int) (s:ByteArray) (hb:b.length+s.size<=1000000):iy ⟨b⟩ [s]=some ⟨b++(cH s.size++sbs s)⟩:=by
 unfold iy
 have he:=cI (s.size:Int)
 rw [bY (s':=((⟨b++(cH s.size++sbs s)⟩:cJ),(1:Int)))]
 ·rw [bD (r:=(⟨b++(cH s.size++sbs s)⟩:cJ))]
  ·rfl
  ·dsimp only
   rw [decide_eq_false (by simp),cond_false]
 ·dsimp only
  have h0:idx [s] 0=some s:=rfl
  rw [decide_eq_true (by simp),cond_true,h0,aA,mj _ _ (by simp; omega),aA]
  simp only [List.flatMap_cons,List.flatMap_nil,List.append_nil]
  rw [vO _ _ (by rw [List.length_append]; omega),aA,List.append_assoc]
  rfl
def pN (g:aM):List Int:=[g.rune,g.bW].flatMap cH
def lQ (l:List aM):List Int:=cH l.length++l.flatMap pN
theorem Ci (g:aM):(pN g).length<=18:=by
 unfold pN
 simp only [List.flatMap_cons,List.flatMap_nil,List.length_append,List.length_nil]
 have h1:=cI g.rune
 have h2:=cI g.bW
 omega
theorem rD (l:List aM):(l.flatMap pN).length<=18*l.length:=by
 induction l with
 | nil=>simp
 | cons a t ih =>
  rw [List.flatMap_cons,List.length_append,List.length_cons]
  have:=Ci a
  omega
theorem Cj (l:List aM) (h:l.length<=2000) (hr: ∀ g∈l,rok g.rune):lF l=some (dM (lQ l)):=by
 unfold lF fr lQ
 have he:=cI (l.length:Int)
 rw [mj [] _ (by simp),aA]
 have e0:([]++[(l.length:Int)].flatMap cH)=cH l.length:=by simp
 rw [e0]
 refine eJ (λi=>((⟨cH l.length++(l.take i).flatMap pN⟩:cJ),(i:Int))) l.length (⟨cH l.length++l.flatMap pN⟩:cJ) (by simp) ?_ ?_ rfl
 ·intro i hi
  dsimp only
  have h2:=rD (l.take i)
  rw [List.length_take] at h2
  rw [decide_eq_true (by omega),cond_true,bK _ _ hi,aA,w32 (hr _ (List.getElem_mem hi)),mj _ _ (by simp only [List.length_append,List.length_cons,List.length_nil]; omega),aA,w64 (by omega) (by omega),List.take_succ_eq_append_getElem hi,List.flatMap_append,List.flatMap_singleton,List.append_assoc]
  rfl
 ·dsimp only
  rw [decide_eq_false (by omega),cond_false,List.take_length]
theorem AW (l:List aM) (h:l.length<=2000):kO (l.map tg)=some (dM (lQ l)):=by
 unfold kO lQ
 have he:=cI (l.length:Int)
 rw [List.length_map,iU,aA]
 refine eJ (λi=>((i:Int),dM (cH l.length++(l.take i).flatMap pN))) l.length (dM (cH l.length++l.flatMap pN)) (by simp) ?_ ?_ rfl
 ·intro i hi
  dsimp only
  have h2:=rD (l.take i)
  rw [List.length_take] at h2
  have h3:=cI l[i].rune
  have h4:=cI l[i].bW
  rw [decide_eq_true (by omega),cond_true,bK _ _ (by simpa using hi),aA,List.getElem_map]
  show Option.bind (cF l[i].rune) _=_
  rw [iU,aA]
  show Option.bind (cF l[i].bW) _=_
  rw [iU,aA,eC (by rw [bO,bO]; omega),aA,<- dH,eC (by rw [bO,bO,List.length_append,List.length_append]; omega),aA,<- dH,w64 (by omega) (by omega),List.take_succ_eq_append_getElem hi,List.flatMap_append,List.flatMap_singleton,List.append_assoc]
  have hE:pN l[i]=cH l[i].rune++cH l[i].bW:=by unfold pN; simp
  rw [hE]
  rfl
 ·dsimp only
  rw [decide_eq_false (by omega),cond_false,List.take_length]
def mJ (s:aN):List Int:=[s.k,s.w,s.h,s.x,s.y].flatMap cH++(cH s.title.size++sbs s.title)++[s.len,s.chain].flatMap cH++lQ s.begun
def sj (s:aN):List Int:=mJ s++s.rows.flatMap fF
theorem rE (s:aN) (h:SW s):(mJ s).length<=52000:=by
 unfold mJ lQ
 simp only [List.flatMap_cons,List.flatMap_nil,List.length_append,List.length_nil,bC]
 have a1:=cI s.k
 have a2:=cI s.w
 have a3:=cI s.h
 have a4:=cI s.x
 have a5:=cI s.y
 have a6:=cI (s.title.size:Int)
 have a7:=cI s.len
 have a8:=cI s.chain
 have a9:=cI (s.begun.length:Int)
 have b1:=rD s.begun
 have b2:=h.bl
 have b3:=h.tl
 omega
theorem zX (l:List aY) (i:Nat):((l.take i).flatMap fF).length<=(l.flatMap fF).length:=by
 have:l.flatMap fF=(l.take i).flatMap fF++(l.drop i).flatMap fF:=by rw [<- List.flatMap_append,List.take_append_drop]
 rw [this,List.length_append]
 omega
def jv (s:aN):ByteArray:=if ic s=true\/nk s=false then noS else dM (sj s)
theorem zY (s:aN) (h:SW s) (hp:(s.rows.flatMap fF).length<=1000000):gB s=some (jv s):=by
 unfold gB jv
 have hc:((Option.bind (fK s) λa=>(bif a then some true else (Option.bind (fL s) λc=>some (c != 0)))):Option Bool)=some (ic s || !nk s):=by
  rw [empty_eq,aA,xo s h,aA]
  cases ic s <;> cases nk s <;> rfl
 rw [hc,aA]
 by_cases hb:ic s=true\/nk s=false
 ·rw [if_pos hb]
  have:(ic s || !nk s)=true:=by
   rcases hb with hb | hb <;> simp [hb]
  rw [this,cond_true]
  rfl
 ·rw [if_neg hb]
  have hne:ic s=false:=by cases he:ic s with | true=>exact absurd (.inl he) hb | false=>rfl
  have hm:nk s=true:=by cases he:nk s with | false=>exact absurd (.inr he) hb | true=>rfl
  rw [hne,hm]
  show Option.bind (dI ⟨[]⟩ [s.k,s.w,s.h,s.x,s.y]) _=_
  have hpl:=rE s h
  have htl:=h.tl
  have hph:(mJ s).length=([s.k,s.w,s.h,s.x,s.y].flatMap cH).length+((cH s.title.size++sbs s.title).length+(([s.len,s.chain].flatMap cH).length+(lQ s.begun).length)):=by
   unfold mJ
   rw [List.length_append,List.length_append,List.length_append]
   omega
  have hts:(cH s.title.size++sbs s.title).length=(cH s.title.size).length+s.title.size:=by rw [List.length_append,bC]
  have hbs: ∀ b∈lQ s.begun,0<=b/\b < 256:=by
   intro b hb
   unfold lQ at hb
   rcases List.mem_append.1 hb with hb | hb
   ·exact nF _ b hb
   ·obtain ⟨g,_,hg⟩:=List.mem_flatMap.1 hb
    unfold pN at hg
    obtain ⟨x,_,hx⟩:=List.mem_flatMap.1 hg
    exact nF _ b hx
  rw [mj _ _ (by simp),aA,List.nil_append,xq _ _ (by omega),aA,mj _ _ (by rw [List.length_append]; simp only [List.length_cons,List.length_nil]; omega),aA,Cj _ h.bl h.gl,aA,vO _ _ (by rw [bO,List.length_append,List.length_append]; omega),aA,kT _ hbs]
  have hhead:[s.k,s.w,s.h,s.x,s.y].flatMap cH++(cH s.title.size++sbs s.title)++[s.len,s.chain].flatMap cH++lQ s.begun=mJ s:=rfl
  rw [hhead]
  refine eJ (λi=>((⟨mJ s++(s.rows.take i).flatMap fF⟩:cJ),(i:Int))) s.rows.length (⟨sj s⟩:cJ) (by simp) ?_ ?_ rfl
  ·intro i hi
   have hro:=h.ro _ (List.getElem_mem hi)
   have hl1:=zX s.rows (i+1)
   rw [List.take_succ_eq_append_getElem hi,List.flatMap_append,List.flatMap_singleton,List.length_append] at hl1
   have hrl:=h.rl
   have hbr: ∀ b∈fF s.rows[i],0<=b/\b < 256:=by
    intro b hb
    unfold fF at hb
    rcases List.mem_append.1 hb with hb | hb
    ·exact nF _ b hb
    ·obtain ⟨g,_,hg⟩:=List.mem_flatMap.1 hb
     unfold iF at hg
     obtain ⟨x,_,hx⟩:=List.mem_flatMap.1 hg
     exact nF _ b hx
   dsimp only
   rw [decide_eq_true (by omega),cond_true,bK _ _ hi,aA,yO _ hro.2 hro.1,aA,vO _ _ (by rw [bO,List.length_append]; omega),aA,kT _ hbr,w64 (by omega) (by omega),List.take_succ_eq_append_getElem hi,List.flatMap_append,List.flatMap_singleton,List.append_assoc]
   rfl
  ·have hrl:=h.rl
   dsimp only
   rw [decide_eq_false (by omega),cond_false,List.take_length]
   rfl
def uC (j:aG) (n:Int):ByteArray×aG:=if j.e≠0 then (noS,j) else if n > j.s.size then (noS,⟨noS,2⟩) else (gG j.s 0 n,⟨gG j.s n j.s.size,0⟩)
def lR (i:aG):ByteArray×aG:=uC (rdS i).2 (rdS i).1
theorem zZ:gG noS 0 0=noS:=by
 apply oS
 have:=iE noS 0 0
 exact this
theorem F8 (j:aG) (n:Int) (h:VI j) (h0:0<=n) (he:j.e≠0->n=0):kJ j n=some (uC j n):=by
 obtain ⟨s,e⟩:=j
 unfold kJ uC
 have hm:imax 0 n=n:=by rw [vm]; omega
 have hsz:=h.1
 rw [hm]
 dsimp only at *
 by_cases hz:e=0
 ·subst hz
  rw [if_neg (by simp)]
  by_cases hb:n > s.size
  ·rw [decide_eq_true hb,cond_true,if_pos hb,nG _ _ (by decide),aA]
   rfl
  ·rw [decide_eq_false hb,cond_false,if_neg hb,cX (by omega) (by omega) (by omega),aA,cX (by omega) (by omega) (by omega),aA]
 ·obtain rfl:=he hz
  obtain rfl:s=noS:=h.2.resolve_left hz
  rw [if_pos hz,decide_eq_false (by decide),cond_false,cX (by decide) (by decide) (by decide),aA,cX (by decide) (by decide) (by decide),aA]
  have h2:gG noS 0 (noS.size:Int)=noS:=zZ
  rw [zZ,h2]
theorem z6 (i:aG) (h:VI i):g0 i=some (lR i):=by
 unfold g0 lR
 rw [jm i h,aA,F8 _ _ (fu h) (kl h).1 (λhe=>pJ he),aA]
theorem u6 (i:aG) (h:VI i):fU (asR i)=some (asR (lR i).2,(lR i).1):=by
 unfold fU lR
 rw [gj i h,aA]
 have hr:=kl h
 have hV:=fu h
 generalize (rdS i).1=n at hr
 generalize (rdS i).2=j at hV
 obtain ⟨s,e⟩:=j
 have hsz:=hV.1
 dsimp only at *
 unfold mU uC asR
 have hm:imax 0 n=n:=by rw [vm]; omega
 rw [hm]
 dsimp only
 by_cases hz:e=0
 ·subst hz
  have e0:((0:Int) != 0)=false:=rfl
  rw [e0,cond_false,if_neg (by simp)]
  by_cases hb:n > s.size
  ·rw [decide_eq_true hb,cond_true,if_pos hb]
   rfl
  ·rw [decide_eq_false hb,cond_false,if_neg hb,cX (by omega) (by omega) (by omega),aA,cX (by omega) (by omega) (by omega),aA]
   rfl
 ·have e0:(e != 0)=true:=by simpa using hz
  rw [e0,cond_true,if_pos hz]
  rfl
theorem rF {i:aG} (h:VI i):VI (lR i).2:=by
 unfold lR uC
 have hV:=fu h
 split
 ·exact hV
 ·split
  ·exact ⟨by show noS.size<=1000000; decide,.inr rfl⟩
  ·refine ⟨?_,.inl rfl⟩
   have hr:=kl h
   obtain ⟨n,hn⟩:=Int.eq_ofNat_of_zero_le hr.1
   show (gG (rdS i).2.s (rdS i).1 (rdS i).2.s.size).size<=1000000
   rw [hn,<- bC,iE,List.length_drop,List.length_take,bC]
   have:=hV.1
   omega
theorem tL {i:aG} (h:VI i) {m:Nat} (hm:i.s.size<=m):(lR i).1.size<=m/\(i.e=0\/i.s=noS):=by
 refine ⟨?_,h.2⟩
 unfold lR uC
 split
 ·exact Nat.zero_le _
 ·split
  ·exact Nat.zero_le _
  ·rename_i he hn
   have he':(rdS i).2.e=0:=by simpa using he
   obtain ⟨_,w,hw,_,hb⟩:=uZ he' h
   have hl:=congrArg List.length hb
   rw [List.length_append,bC,bC] at hl
   show (gG (rdS i).2.s 0 (rdS i).1).size<=m
   rw [hw,show (0:Int)=((0:Nat):Int) from rfl,<- bC,iE,List.length_drop,List.length_take,bC]
   omega
theorem Ck {i:aG} (h:VI i) (he:(lR i).2.e=0):i.e=0/\sbs i.s=cH (lR i).1.size++sbs (lR i).1++sbs (lR i).2.s:=by
 unfold lR uC at *
 by_cases h1:(rdS i).2.e=0
 ·rw [if_neg (by simpa using h1)] at he ⊢
  by_cases h2:(rdS i).1 > (rdS i).2.s.size
  ·rw [if_pos h2] at he
   exact absurd he (by decide)
  ·rw [if_neg h2] at he ⊢
   obtain ⟨e0,w,hw,hm,hb⟩:=uZ h1 h
   refine ⟨e0,?_⟩
   rw [hw] at h2 ⊢
   have hs1:sbs (gG (rdS i).2.s 0 (w:Int))=(sbs (rdS i).2.s).take w:=by
    have:=iE (rdS i).2.s 0 w
    simpa using this
   have hs2:sbs (gG (rdS i).2.s (w:Int) (rdS i).2.s.size)=(sbs (rdS i).2.s).drop w:=by
    rw [iE]
    congr 1
    exact List.take_of_length_le (by rw [bC]; exact Nat.le_refl _)
   have hsz:(gG (rdS i).2.s 0 (w:Int)).size=w:=by
    rw [<- bC,hs1,List.length_take,bC]
    omega
   dsimp only
   rw [hsz,hs1,hs2,jK hm,List.append_assoc,List.take_append_drop]
   exact hb
 ·rw [if_pos h1] at he
  exact absurd he h1
def bkL:Nat->aG->List aM->List aM×aG
 | 0,i,l=>(l,i)
 | k+1,i,l=>bkL k (cD (cD i 1114111).2 647).2 (l++[⟨(cD i 1114111).1,(cD (cD i 1114111).2 647).1⟩])
def bkS (i:aG):List aM×aG:=if (bkL (cD i 1024).1.toNat (cD i 1024).2 []).2.e=0 then bkL (cD i 1024).1.toNat (cD i 1024).2 [] else ([],(bkL (cD i 1024).1.toNat (cD i 1024).2 []).2)
theorem yQ: ∀ (k:Nat) (i:aG) (l:List aM),VI i->VI (bkL k i l).2
 | 0,i,l,h=>h
 | k+1,i,l,h=>yQ k _ _ (fE _ (fE _ h))
theorem rG {i:aG} (h:VI i):VI (bkS i).2:=by
 unfold bkS
 split
 ·exact yQ _ _ _ (fE _ h)
 ·exact yQ _ _ _ (fE _ h)
theorem sT: ∀ (k:Nat) (i:aG) (l:List aM),i.e≠0->(bkL k i l).2=i
 | 0,i,l,h=>rfl
 | k+1,i,l,h=>by
  unfold bkL
  have h1:=qo h 1114111 (by omega)
  have h2:=qo (i:=(cD i 1114111).2) (by rw [h1]; exact h) 647 (by omega)
  rw [sT k _ _ (by rw [h2,h1]; exact h),h2,h1]
theorem xu (i:aG) (h:VI i):iK i=some (bkS i):=by
 unfold iK
 rw [vI h (by omega),aA]
 have hr:=gk (m:=1024) h (by omega)
 have hV:=fE 1024 h
 unfold bkS
 generalize (cD i 1024).2=j at hV
 obtain ⟨N,hN⟩:=Int.eq_ofNat_of_zero_le hr.1
 rw [hN] at hr ⊢
 rw [Int.toNat_natCast]
 have key: ∀ (k n:Nat) (j:aG) (l:List aM),n+k=N->VI j->l.length=n->iter (σ:=aG×(List aM)×Int) (ρ:=(List aM)×aG) (λa=>(bif (decide (a.2.2 < (N:Int))) then (Option.bind (fI a.1 1114111) λb=>(Option.bind (fI b.2 647) λc=>(Option.bind (chk (cQ a.2.1.length [(aM.mk (IntKind.i32.wrap b.1) c.1)].length 16)) λ_=>some (.inl (c.2,(a.2.1++[(aM.mk (IntKind.i32.wrap b.1) c.1)]),(IntKind.i64.wrap (a.2.2+1))))))) else some (.inr (a.2.1,a.1)))) (j,l,(n:Int))=some (bkL k j l):=by
  intro k
  induction k with
  | zero =>
   intro n j l hn hV hl
   refine bD ?_
   dsimp only
   rw [decide_eq_false (by omega),cond_false]
   rfl
  | succ k ih =>
   intro n j l hn hV hl
   have hA:=gk (m:=1114111) hV (by omega)
   have hw:IntKind.i32.wrap (cD j 1114111).1=(cD j 1114111).1:=by rw [IntKind.wrap_i32]; omega
   rw [bY (s':=((cD (cD j 1114111).2 647).2,l++[⟨(cD j 1114111).1,(cD (cD j 1114111).2 647).1⟩],((n+1:Nat):Int)))]
   ·rw [ih (n+1) _ _ (by omega) (fE _ (fE _ hV)) (by simp [hl])]
    rfl
   ·dsimp only
    rw [decide_eq_true (by omega),cond_true,vI hV (by omega),aA,vI (fE _ hV) (by omega),aA,hw,bQ (by simp; omega),aA,w64 (by omega) (by omega)]
    rfl
 have:=key N 0 j [] (by omega) hV rfl
 rw [show ((0:Nat):Int)=0 from rfl] at this
 rw [this,aA]
 unfold cY
 rw [aA]
 by_cases he:(bkL N j []).2.e=0
 ·have hb:((bkL N j []).2.e != 0)=false:=by simpa using he
  rw [hb,cond_false,if_pos he]
 ·have hb:((bkL N j []).2.e != 0)=true:=by simpa using he
  rw [hb,cond_true,if_neg he]
def Cl (r:List aM×aG):List aM×aG:=if r.2.e=0 then r else ([],r.2)
theorem tM {k:Nat} {i:aG} {l:List aM} (h:i.e≠0):Cl (bkL k i l)=([],i):=by
 unfold Cl
 rw [sT k i l h,if_neg h]
theorem u7 (i:aG) (h:VI i):gS (asR i)=some (asR (bkS i).2,(bkS i).1.map tg):=by
 have hfin:bkS i=Cl (bkL (cD i 1024).1.toNat (cD i 1024).2 []):=rfl
 unfold gS
 rw [gj i h,aA]
 dsimp only
 rw [nH,vL,aA]
 by_cases hb:(rdS i).2.e=0/\(rdS i).1 > 1024
 ·rw [decide_eq_true hb,cond_true,hfin]
  have hl:cD i 1024=(0,jn):=by unfold cD; rw [if_pos hb.2]
  rw [hl]
  rfl
 ·rw [decide_eq_false hb,cond_false]
  have hr:=kl h
  have hle:(rdS i).1<=1024:=by
   by_cases he:(rdS i).2.e=0
   ·omega
   ·rw [pJ he]
    omega
  have hl:cD i 1024=rdS i:=by unfold cD; rw [if_neg (by omega)]
  rw [hfin,hl]
  have hV:=fu h
  generalize (rdS i).2=j at hV
  obtain ⟨N,hN⟩:=Int.eq_ofNat_of_zero_le hr.1
  rw [hN] at hle ⊢
  rw [Int.toNat_natCast]
  have key: ∀ (k n:Nat) (j:aG) (l:List aM) (f:aW×(List aQ)×Int->Option ((aW×(List aQ)×Int) ⊕ (((List aQ)×aW) ⊕ (aW×(List aQ))))),f=(λ(s182:aW×(List aQ)×Int)=>(Option.bind ((bif (decide (s182.2.2 < (N:Int))) then some (s182.1.e == 0) else some false):Option Bool) λg=>(bif g then (Option.bind (bG s182.1) λb=>(Option.bind ((bif (b.1.e == 0) then some (decide (b.2 > 1114111)) else some false):Option Bool) λc=>(bif c then (fH (some ((aW.mk (ByteArray.mk #[]) 1),([]:List aQ)))) else (Option.bind (bG b.1) λa=>(Option.bind ((bif (a.1.e == 0) then some (decide (a.2 > 647)) else some false):Option Bool) λd=>(bif d then (fH (some ((aW.mk (ByteArray.mk #[]) 1),([]:List aQ)))) else (Option.bind (chk (cQ s182.2.1.length [(aQ.mk b.2 a.2)].length 16)) λ_=>some (.inl (a.1,(s182.2.1++[(aQ.mk b.2 a.2)]),(IntKind.i64.wrap (s182.2.2+1))))))))))) else some (.inr (.inl (s182.2.1,s182.1))))))->n+k=N->VI j->l.length=n ->
    ∃ q,iter f (asR j,l.map tg,(n:Int))=some q/\((∃ l' j',q = .inl (l'.map tg,asR j')/\Cl (bkL k j l)=(if j'.e=0 then (l',j') else ([],j')))\/(∃ j',q = .inr (asR j',[])/\Cl (bkL k j l)=([],j'))):=by
   intro k
   induction k with
   | zero =>
    intro n j l f hf hn hV hl
    refine ⟨.inl (l.map tg,asR j),?_,.inl ⟨l,j,rfl,rfl⟩⟩
    refine bD ?_
    subst hf
    dsimp only
    rw [nH,mY,decide_eq_false (by omega),aA,cond_false]
   | succ k ih =>
    intro n j l f hf hn hV hl
    by_cases he:j.e=0
    ·have hVr:=fu hV
     have hstep:f (asR j,l.map tg,(n:Int))=(Option.bind ((bif ((asR (rdS j).2).e == 0) then some (decide ((rdS j).1 > 1114111)) else some false):Option Bool) λc=>(bif c then (fH (some ((aW.mk (ByteArray.mk #[]) 1),([]:List aQ)))) else (Option.bind (bG (asR (rdS j).2)) λa=>(Option.bind ((bif (a.1.e == 0) then some (decide (a.2 > 647)) else some false):Option Bool) λd=>(bif d then (fH (some ((aW.mk (ByteArray.mk #[]) 1),([]:List aQ)))) else (Option.bind (chk (cQ (l.map tg).length [(aQ.mk (rdS j).1 a.2)].length 16)) λ_=>some (.inl (a.1,((l.map tg)++[(aQ.mk (rdS j).1 a.2)]),(IntKind.i64.wrap ((n:Int)+1)))))))))):=by
      subst hf
      dsimp only
      rw [nH,mY,decide_eq_true ⟨by omega,he⟩,aA,cond_true,gj j hV,aA]
     rw [nH,vL] at hstep
     by_cases hb1:(rdS j).2.e=0/\(rdS j).1 > 1114111
     ·refine ⟨.inr (asR jn,[]),?_,.inr ⟨jn,rfl,?_⟩⟩
      ·refine bD ?_
       rw [hstep,decide_eq_true hb1,aA,cond_true]
       rfl
      ·have h1:cD j 1114111=(0,jn):=by unfold cD; rw [if_pos hb1.2]
       unfold bkL
       rw [h1]
       have h2:(cD jn 647).2=jn:=qo (by decide) 647 (by omega)
       dsimp only
       rw [h2,tM (by decide)]
     ·have hle1:(rdS j).1<=1114111:=by
       by_cases he2:(rdS j).2.e=0
       ·omega
       ·rw [pJ he2]
        omega
      have h1:cD j 1114111=rdS j:=by unfold cD; rw [if_neg (by omega)]
      rw [decide_eq_false hb1,aA,cond_false,gj _ hVr,aA] at hstep
      dsimp only at hstep
      rw [nH,vL] at hstep
      by_cases hb2:(rdS (rdS j).2).2.e=0/\(rdS (rdS j).2).1 > 647
      ·refine ⟨.inr (asR jn,[]),?_,.inr ⟨jn,rfl,?_⟩⟩
       ·refine bD ?_
        rw [hstep,decide_eq_true hb2,aA,cond_true]
        rfl
       ·have h2:cD (rdS j).2 647=(0,jn):=by unfold cD; rw [if_pos hb2.2]
        unfold bkL
        rw [h1,h2,tM (by decide)]
      ·have hle2:(rdS (rdS j).2).1<=647:=by
        by_cases he2:(rdS (rdS j).2).2.e=0
        ·omega
        ·rw [pJ he2]
         omega
       have h2:cD (rdS j).2 647=rdS (rdS j).2:=by unfold cD; rw [if_neg (by omega)]
       obtain ⟨q,hq1,hq2⟩:=ih (n+1) (rdS (rdS j).2).2 (l++[(aM.mk (rdS j).1 (rdS (rdS j).2).1)]) f hf (by omega) (fu hVr) (by simp [hl])
       refine ⟨q,?_,?_⟩
       ·rw [bY (s':=(asR (rdS (rdS j).2).2,(l++[(aM.mk (rdS j).1 (rdS (rdS j).2).1)]).map tg,((n+1:Nat):Int)))]
        ·exact hq1
        ·rw [hstep,decide_eq_false hb2,aA,cond_false,bQ (by simp; omega),aA,w64 (by omega) (by omega),List.map_append]
         rfl
       ·unfold bkL
        rw [h1,h2]
        exact hq2
    ·refine ⟨.inl (l.map tg,asR j),?_,.inl ⟨l,j,rfl,?_⟩⟩
     ·refine bD ?_
      subst hf
      dsimp only
      rw [nH,mY,decide_eq_false (λhh=>he hh.2),aA,cond_false]
     ·rw [tM he,if_neg he]
  obtain ⟨q,hq1,hq2⟩:=key N 0 j [] _ rfl (by omega) hV rfl
  have hq1':iter _ (asR j,([]:List aQ),(0:Int))=some q:=hq1
  rw [hq1',aA]
  rcases hq2 with ⟨l',j',rfl,hf⟩ | ⟨j',rfl,hf⟩
  ·rw [hf]
   dsimp only
   by_cases he:j'.e=0
   ·have hb:((asR j').e != 0)=false:=by simpa [asR] using he
    rw [hb,cond_false,if_pos he]
   ·have hb:((asR j').e != 0)=true:=by simpa [asR] using he
    rw [hb,cond_true,if_neg he]
    rfl
  ·rw [hf]
   rfl
def jw (x:aN) (l:List aY):aN:=⟨x.k,x.w,x.h,x.x,x.y,x.title,l,x.len,x.chain,x.begun⟩
def jc:aN:=⟨0,0,0,0,0,noS,[],0,0,[]⟩
def jL (i:aG):Int:=if i.s≠noS then 1 else i.e
theorem vP (i:aG):iP i=some (jL i):=by
 unfold iP jL
 have:(i.s.toList == (ByteArray.mk #[]).toList)=decide (i.s=noS):=mm i.s noS
 rw [this]
 by_cases h:i.s=noS
 ·rw [decide_eq_true h,if_neg (λhh=>hh h)]; rfl
 ·rw [decide_eq_false h,if_pos h]; rfl
theorem z7 (i:aG) (h:VI i):kD (asR i)=some (jL i):=by
 unfold kD jL
 have:((asR i).s.toList == (ByteArray.mk #[]).toList)=decide (i.s=noS):=mm i.s noS
 rw [this]
 by_cases he:i.e=0
 ·have h2:((asR i).e == 0)=true:=by simpa [asR] using he
  rw [h2,cond_true,aA]
  by_cases h:i.s=noS
  ·rw [decide_eq_true h,if_neg (λhh=>hh h)]; rfl
  ·rw [decide_eq_false h,if_pos h]; rfl
 ·have h2:((asR i).e == 0)=false:=by simpa [asR] using he
  rw [h2,cond_false,aA,cond_false]
  rcases h.2 with h | h
  ·exact absurd h he
  ·rw [if_neg (λhh=>hh h)]; rfl
def hA (s:ByteArray):=rdS ⟨s,0⟩
def hB (s:ByteArray):=cD (hA s).2 1000
def hC (s:ByteArray):=cD (hB s).2 1000
def hD (s:ByteArray):=rdS (hC s).2
def hE (s:ByteArray):=rdS (hD s).2
def hT (s:ByteArray):=lR (hE s).2
def SZ (m:Nat) (i:aG):Prop:=VI i/\i.s.size<=m
theorem kU {i:aG} {m:Nat} (h:SZ m i):SZ m (rdS i).2:=by
 refine ⟨fu h.1,?_⟩
 by_cases he:(rdS i).2.e=0
 ·obtain ⟨-,w, -, -,hw⟩:=uZ he h.1
  have:=congrArg List.length hw
  rw [List.length_append,bC,bC] at this
  have:=h.2
  omega
 ·rcases (fu h.1).2 with h1 | h1
  ·exact absurd h1 he
  ·rw [h1]; exact Nat.zero_le _
theorem vQ {i:aG} {m:Nat} (k:Int) (h:SZ m i):SZ m (cD i k).2:=by
 unfold cD
 split
 ·exact ⟨mI,Nat.zero_le _⟩
 ·exact kU h
theorem yR: ∀ (k:Nat) (i:aG) (l:List aM),VI i->(∀ g∈l,rok g.rune)->(∀ g∈(bkL k i l).1,rok g.rune)/\(bkL k i l).1.length=l.length+k
 | 0,i,l,h,hl=>⟨hl,rfl⟩
 | k+1,i,l,h,hl=>by
  unfold bkL
  have:=yR k (cD (cD i 1114111).2 647).2 (l++[⟨(cD i 1114111).1,(cD (cD i 1114111).2 647).1⟩]) (fE _ (fE _ h)) (by
   intro g hg
   rcases List.mem_append.1 hg with h1 | h1
   ·exact hl g h1
   ·rw [List.mem_singleton.1 h1]
    have:=gk (m:=1114111) h (by omega)
    unfold rok
    dsimp only
    omega)
  refine ⟨this.1,this.2.trans ?_⟩
  simp only [List.length_append,List.length_cons,List.length_nil]
  omega
theorem Cm {i:aG} (h:VI i):(∀ g∈(bkS i).1,rok g.rune)/\(bkS i).1.length<=1024:=by
 unfold bkS
 have hr:=gk (m:=1024) h (by omega)
 have:=yR (cD i 1024).1.toNat (cD i 1024).2 [] (fE _ h) (by intro g hg; cases hg)
 split
 ·refine ⟨this.1,?_⟩
  rw [this.2]
  simp only [List.length_nil]
  omega
 ·exact ⟨λg hg=>(by cases hg),Nat.zero_le _⟩
theorem u9 {α:Type} [DecidableEq α] (a b:List α) (hl:a.length=b.length) (f:Int->Option (Int ⊕ (Unit ⊕ Bool))) (hf: ∀ (n:Nat) (h1:n < a.length) (h2:n < b.length),f (n:Int)=if a[n]=b[n] then some (.inl ((n+1:Nat):Int)) else some (.inr (.inr false))) (he:f (a.length:Int)=some (.inr (.inl ()))):iter f 0=some (if a=b then .inl () else .inr false):=by
 obtain ⟨r,h1,h2⟩:=nE (f:=f) (λi:Int=> ∃ n:Nat,i=n/\n<=a.length/\a.take n=b.take n) (λi=>(a.length - i).toNat) (λr=>r=(if a=b then .inl () else .inr false)) (by
  rintro i ⟨n,rfl,hn,ht⟩
  by_cases h1:n < a.length
  ·have h2:n < b.length:=by omega
   by_cases he:a[n]=b[n]
   ·refine .inl ⟨((n+1:Nat):Int),?_,⟨n+1,rfl,by omega,?_⟩,by (try dsimp only); omega⟩
    ·rw [hf n h1 h2,if_pos he]
    ·rw [List.take_succ_eq_append_getElem h1,List.take_succ_eq_append_getElem h2,ht,he]
   ·refine .inr ⟨.inr false,?_,?_⟩
    ·rw [hf n h1 h2,if_neg he]
    ·rw [if_neg]
     intro hab
     subst hab
     exact he rfl
  ·refine .inr ⟨.inl (),?_,?_⟩
   ·have hn2:n=a.length:=by omega
    rw [hn2,he]
   ·rw [if_pos]
    have hn2:n=a.length:=by omega
    subst hn2
    rw [List.take_length] at ht
    rw [ht,hl,List.take_length]) 0 ⟨0,rfl,by omega,rfl⟩
 rw [h1,h2]
theorem AX (a b:List aM) (ha:a.length<=1000000):fp a b=some (decide (a=b)):=by
 unfold fp
 by_cases hl:a.length=b.length
 ·have e0:((a.length:Int) != (b.length:Int))=false:=by simp [hl]
  rw [e0,cond_false,u9 a b hl]
  ·by_cases h:a=b
   ·rw [if_pos h,decide_eq_true h]; rfl
   ·rw [if_neg h,decide_eq_false h]; rfl
  ·intro n h1 h2
   try dsimp only
   rw [decide_eq_true (by omega),cond_true,bK a n h1,aA,bK b n h2,aA,w64 (by omega) (by omega)]
   generalize a[n]=x
   generalize b[n]=y
   obtain ⟨x1,x2⟩:=x
   obtain ⟨y1,y2⟩:=y
   by_cases g1:x1=y1 <;> by_cases g2:x2=y2 <;> simp [g1,g2,fH]
   ·have k:(x2 == y2)=false:=by simpa using g2
    simp [k]
   ·have k:(x1 == y1)=false:=by simpa using g1
    simp [k]
   ·have k:(x1 == y1)=false:=by simpa using g1
    simp [k]
  ·try dsimp only
   rw [decide_eq_false (by omega),cond_false]
 ·have e0:((a.length:Int) != (b.length:Int))=true:=by simp; omega
  rw [e0,cond_true,decide_eq_false (λh=>hl (by rw [h]))]
theorem Cn (s t:aN):decide (s=t)=((s.k == t.k) && ((s.w == t.w) && ((s.h == t.h) && ((s.x == t.x) && ((s.y == t.y) && ((s.title.toList == t.title.toList) && ((s.len == t.len) && ((s.chain == t.chain) && (decide (s.rows=t.rows) && decide (s.begun=t.begun)))))))))):=by
 rw [mm]
 obtain ⟨a1,a2,a3,a4,a5,a6,a7,a8,a9,a10⟩:=s
 obtain ⟨b1,b2,b3,b4,b5,b6,b7,b8,b9,b10⟩:=t
 rw [Bool.eq_iff_iff]
 simp only [decide_eq_true_eq,Bool.and_eq_true,beq_iff_eq,aN.mk.injEq]
 constructor
 ·rintro ⟨h1,h2,h3,h4,h5,h6,h7,h8,h9,h10⟩
  exact ⟨h1,h2,h3,h4,h5,h6,h8,h9,h7,h10⟩
 ·rintro ⟨h1,h2,h3,h4,h5,h6,h8,h9,h7,h10⟩
  exact ⟨h1,h2,h3,h4,h5,h6,h7,h8,h9,h10⟩
theorem Co (s t:aN) (h:SW s):iC s t=some (decide (s=t)):=by
 unfold iC
 rw [B6 _ _ (by have:=h.rl; omega) (λr hr=>by have:=(h.ro r hr).2; omega),aA,AX _ _ (by have:=h.bl; omega),aA,Cn]
 simp only [vM,aA]
theorem nI (s:aN) (h:SW s):fM s=some s:=by
 unfold fM
 have hl:=h.rl
 refine eJ (λi=>(s.rows.take i,(i:Int))) s.rows.length s.rows rfl ?_ ?_ ?_
 ·intro i hi
  dsimp only
  have hr:=(h.ro _ (List.getElem_mem hi)).2
  rw [decide_eq_true (by omega),cond_true,bK _ _ hi,aA,BZ _ (by omega),aA,bQ (by simp; omega),aA,w64 (by omega) (by omega),List.take_succ_eq_append_getElem hi]
  rfl
 ·dsimp only
  rw [decide_eq_false (by omega),cond_false,List.take_length]
 ·have hb:=h.bl
  unfold cT
  rw [bQ (by simp; omega),aA,aA]
  rfl
def BB (l:List Int):Prop:= ∀ b∈l,0<=b/\b < 256
theorem ka {a b:List Int} (h:BB a) (h2:BB b):BB (a++b):=by
 intro x hx
 rcases List.mem_append.1 hx with h' | h'
 ·exact h x h'
 ·exact h2 x h'
theorem lq (n:Int):BB (cH n):=nF _
theorem n8 (s:ByteArray):BB (sbs s):=ql s
theorem mq {α:Type} {l:List α} {f:α->List Int} (h: ∀ a∈l,BB (f a)):BB (l.flatMap f):=by
 intro x hx
 obtain ⟨a,ha,hx⟩:=List.mem_flatMap.1 hx
 exact h a ha x hx
theorem F9 (p:Nat×aO):BB (iF p):=mq λa _=>lq a
theorem Ga (r:aY):BB (fF r):=ka (lq _) (mq λa _=>F9 a)
theorem Hh (g:aM):BB (pN g):=mq λa _=>lq a
def bI (l:List Int):aG:=⟨dM l,0⟩
theorem yS {n:Int} (h0:0<=n) (h1:n<=4611686018427387904):cH n=gF n.toNat/\n.toNat<=most/\((n.toNat:Nat):Int)=n:=by
 have:((n.toNat:Nat):Int)=n:=by omega
 refine ⟨?_,by unfold most; omega,this⟩
 conv=>lhs; rw [<- this]
 exact jK (by unfold most; omega)
theorem Cp {n:Int} {R:List Int} (hR:BB R) (h0:0<=n) (h1:n<=4611686018427387904):rdS (bI (cH n++R))=(n,bI R):=by
 obtain ⟨e,m,q⟩:=yS h0 h1
 have:=F3 (dM (cH n++R)) n.toNat R m (by rw [kT _ (ka (lq _) hR),e])
 rw [q] at this
 exact this
theorem GV (t:ByteArray) {R:List Int} (hR:BB R) (ht:t.size<=100000):lR (bI (cH t.size++sbs t++R))=(t,bI R):=by
 unfold lR
 rw [List.append_assoc,Cp (ka (n8 t) hR) (by omega) (by omega)]
 have hb:sbs (dM (sbs t++R))=sbs t++R:=kT _ (ka (n8 t) hR)
 have hsz:(dM (sbs t++R)).size=t.size+R.length:=by rw [<- bC,hb,List.length_append,bC]
 unfold uC bI
 dsimp only
 rw [if_neg (by simp),if_neg (by rw [hsz]; omega)]
 have h1:gG (dM (sbs t++R)) 0 (t.size:Int)=t:=by
  apply oS
  have:=iE (dM (sbs t++R)) 0 t.size
  rw [hb] at this
  refine Eq.trans this ?_
  have e:t.size=(sbs t).length:=(bC t).symm
  rw [e,List.take_left,List.drop_zero]
 have h2:gG (dM (sbs t++R)) (t.size:Int) ((dM (sbs t++R)).size:Int)=dM R:=by
  apply oS
  rw [iE,hb,kT _ hR,hsz,List.take_of_length_le (by rw [List.length_append,bC]; exact Nat.le_refl _)]
  have e:t.size=(sbs t).length:=(bC t).symm
  rw [e,List.drop_left]
 rw [h1,h2]
theorem z8 (n:Nat):gF n≠[]:=by
 rw [gF]
 split <;> simp
theorem Cq (s:aN):BB (mJ s):=by
 unfold mJ lQ
 exact ka (ka (ka (mq λa _=>lq a) (ka (lq _) (n8 _))) (mq λa _=>lq a)) (ka (lq _) (mq λa _=>Hh a))
theorem Ez (l:List aY):BB (l.flatMap fF):=mq λa _=>Ga a
theorem EA (s:aN):BB (sj s):=ka (Cq s) (Ez _)
theorem Fm: ∀ (k:Nat) (i:aG) (l:List aM),(bkL k i l).2.e=0->i.e=0
 | k,i,l,h=>by
  by_cases he:i.e=0
  ·exact he
  ·rw [sT _ _ _ he] at h
   exact h
theorem va: ∀ (k:Nat) (i:aG) (l:List aM),VI i->(bkL k i l).2.e=0 -> ∃ D,(bkL k i l).1.flatMap pN=l.flatMap pN++D/\sbs i.s=D++sbs (bkL k i l).2.s
 | 0,i,l,h,he=>⟨[],by simp [bkL],by simp [bkL]⟩
 | k+1,i,l,h,he=>by
  unfold bkL at he ⊢
  have v1:=fE 1114111 h
  have v2:=fE 647 v1
  obtain ⟨D,d1,d2⟩:=va k _ _ v2 he
  obtain ⟨h1,c2,q2,_,m2,b2⟩:=jZ (Fm _ _ _ he) v1
  obtain ⟨_,c1,q1,_,m1,b1⟩:=jZ h1 h
  refine ⟨gF c1++gF c2++D,?_,?_⟩
  ·rw [d1,List.flatMap_append,List.flatMap_singleton,List.append_assoc]
   congr 2
   unfold pN
   simp only [List.flatMap_cons,List.flatMap_nil,List.append_nil,q1,q2,jK m1,jK m2]
  ·rw [b1,b2,d2]
   simp only [List.append_assoc]
theorem vb {i:aG} (h:VI i) (he:(bkS i).2.e=0):i.e=0/\sbs i.s=lQ (bkS i).1++sbs (bkS i).2.s:=by
 unfold bkS at he ⊢
 by_cases h0:(bkL (cD i 1024).1.toNat (cD i 1024).2 []).2.e=0
 ·rw [if_pos h0]
  have v1:=fE 1024 h
  obtain ⟨D,d1,d2⟩:=va _ _ _ v1 h0
  obtain ⟨e0,c,q,_,m,b⟩:=jZ (Fm _ _ _ h0) h
  refine ⟨e0,?_⟩
  have hl:=(yR (cD i 1024).1.toNat (cD i 1024).2 [] v1 (by intro g hg; cases hg)).2
  unfold lQ
  rw [hl,d1,b,d2,q,Int.toNat_natCast]
  simp only [List.length_nil,Nat.zero_add,List.flatMap_nil,List.nil_append,jK m,List.append_assoc]
 ·rw [if_neg h0] at he
  exact absurd he h0
def Cr (s:ByteArray) (n:Nat):ByteArray:=if s.size > n then gG s 0 n else s
theorem Cs (s:ByteArray) (n:Nat):kC s n=some (Cr s n):=by
 unfold kC Cr
 by_cases h:s.size > n
 ·rw [decide_eq_true (by omega),cond_true,if_pos h,cX (by omega) (by omega) (by omega),aA]
 ·rw [decide_eq_false (by omega),cond_false,if_neg h]
theorem AY (s:ByteArray) (n:Nat):(Cr s n).size<=n:=by
 unfold Cr
 split
 ·have:=iE s 0 n
  have h2:=congrArg List.length this
  rw [bC] at h2
  have h3:(gG s 0 (n:Int)).size=(gG s ((0:Nat):Int) (n:Int)).size:=rfl
  rw [h3,h2,List.length_drop,List.length_take]
  omega
 ·omega
theorem qs:SW jc:=⟨by decide,by decide,λg hg=>(by cases hg),λr hr=>(by cases hr),by decide,by decide,by show noS.size<=12000; decide⟩
theorem Ct (s:aN):dM (sj s)≠noS:=by
 intro h
 have h2:sbs (dM (sj s))=[]:=by rw [h]; rfl
 rw [kT _ (EA s)] at h2
 unfold sj mJ at h2
 simp only [List.append_eq_nil_iff,List.flatMap_cons] at h2
 exact z8 _ h2.1.1.1.1.1
def pO (a:Nat):Nat:=(a >>> 1) ^^^ (if a % 2=1 then 3988292384 else 0)
def oB (a:Nat):Nat:=pO (pO (pO (pO a)))
theorem pP {a b:Nat} (ha:a < 4294967296) (hb:b < 4294967296):a ^^^ b < 4294967296:=Nat.xor_lt_two_pow (n:=32) ha hb
theorem qt {a:Nat} (h:a < 4294967296):pO a < 4294967296:=by
 unfold pO
 have:a >>> 1 < 4294967296:=by rw [Nat.shiftRight_eq_div_pow]; omega
 exact pP this (by split <;> omega)
theorem EB (a b:Nat):(a ^^^ b) % 2=(a % 2+b % 2) % 2:=by
 have h:=Nat.testBit_xor a b 0
 rw [Nat.testBit_zero,Nat.testBit_zero,Nat.testBit_zero] at h
 have ha:a % 2=0\/a % 2=1:=by omega
 have hb:b % 2=0\/b % 2=1:=by omega
 have hc:(a ^^^ b) % 2=0\/(a ^^^ b) % 2=1:=by omega
 rcases ha with ha | ha <;> rcases hb with hb | hb <;> rcases hc with hc | hc <;> rw [ha,hb,hc] at h <;> first | (exact absurd h (by decide)) | (rw [ha,hb,hc])
theorem qu (a b:Nat):pO (a ^^^ b)=pO a ^^^ pO b:=by
 unfold pO
 rw [Nat.shiftRight_xor_distrib,EB]
 have ha:a % 2=0\/a % 2=1:=by omega
 have hb:b % 2=0\/b % 2=1:=by omega
 generalize a >>> 1=x
 generalize b >>> 1=y
 rcases ha with ha | ha <;> rcases hb with hb | hb <;> rw [ha,hb]
 ·simp
 ·simp [Nat.xor_assoc]
 ·simp only [Nat.zero_add,Nat.add_zero]
  simp
  rw [Nat.xor_assoc,Nat.xor_assoc,Nat.xor_comm y]
 ·simp
  have:x ^^^ 3988292384 ^^^ (y ^^^ 3988292384)=x ^^^ y ^^^ (3988292384 ^^^ 3988292384):=by
   rw [Nat.xor_assoc,Nat.xor_assoc,<- Nat.xor_assoc 3988292384 y,Nat.xor_comm 3988292384 y,Nat.xor_assoc]
  rw [this,Nat.xor_self,Nat.xor_zero]
theorem Cu (a b:Nat):oB (a ^^^ b)=oB a ^^^ oB b:=by
 unfold oB
 rw [qu,qu,qu,qu]
theorem oT (k:Nat):pO (2*k)=k:=by
 unfold pO
 rw [if_neg (by omega),Nat.xor_zero,Nat.shiftRight_eq_div_pow]
 omega
theorem EC (k:Nat):oB (16*k)=k:=by
 unfold oB
 rw [show 16*k=2*(2*(2*(2*k))) by omega,oT,oT,oT,oT]
theorem vd (x:Nat):oB x=(x / 16) ^^^ oB (x % 16):=by
 have h:x=(16*(x / 16)) ^^^ (x % 16):=by
  have h1:16*(x / 16)+x % 16=x:=Nat.div_add_mod x 16
  have h2:(16*(x / 16)) ^^^ (x % 16)=16*(x / 16)+x % 16:=by
   have h3:2 ^ 4*(x / 16)+x % 16=(2 ^ 4*(x / 16)) ||| (x % 16):=Nat.two_pow_add_eq_or_of_lt (by omega) _
   apply Nat.eq_of_testBit_eq
   intro i
   have h4:(16*(x / 16)+x % 16)=(2 ^ 4*(x / 16)) ||| (x % 16):=h3
   rw [h4,Nat.testBit_xor,Nat.testBit_or]
   show ((2 ^ 4*(x / 16)).testBit i ^^ (x % 16).testBit i)=_
   rw [Nat.testBit_two_pow_mul]
   by_cases hi:i>=4
   ·have:(x % 16).testBit i=false:=by
     apply Nat.testBit_lt_two_pow
     have:2 ^ 4<=2 ^ i:=Nat.pow_le_pow_right (by omega) hi
     omega
    rw [this]
    simp
   ·simp [hi]
  rw [h2,h1]
 conv=>lhs; rw [h]
 rw [Cu,EC]
theorem z9: ∀ n:Nat,n < 16->idx dE (n:Int)=some ((oB n:Nat):Int):=by decide
theorem Gb {x:Int} (h0:0<=x) (h1:x < 4294967296):IntKind.u32.wrap x=x:=by
 unfold IntKind.wrap
 simp [IntKind.signed,IntKind.bits]
 omega
theorem Aa {a b:Nat} (ha:a < 4294967296) (hb:b < 4294967296):Go.bits .xor .u32 (a:Int) (b:Int)=((a ^^^ b:Nat):Int):=by
 show IntKind.u32.wrap ((BitVec.ofInt 32 (a:Int) ^^^ BitVec.ofInt 32 (b:Int)).toNat:Int)=_
 rw [BitVec.ofInt_natCast,BitVec.ofInt_natCast,BitVec.toNat_xor,BitVec.toNat_ofNat,BitVec.toNat_ofNat,Nat.mod_eq_of_lt ha,Nat.mod_eq_of_lt hb]
 have:=pP ha hb
 exact Gb (by omega) (by omega)
theorem Fo {a b:Nat} (ha:a < 4294967296) (hb:b < 4294967296):Go.bits .xor .i64 (a:Int) (b:Int)=((a ^^^ b:Nat):Int):=by
 show IntKind.i64.wrap ((BitVec.ofInt 64 (a:Int) ^^^ BitVec.ofInt 64 (b:Int)).toNat:Int)=_
 rw [BitVec.ofInt_natCast,BitVec.ofInt_natCast,BitVec.toNat_xor,BitVec.toNat_ofNat,BitVec.toNat_ofNat,Nat.mod_eq_of_lt (by omega),Nat.mod_eq_of_lt (by omega)]
 have:=pP ha hb
 exact w64 (by omega) (by omega)
theorem Fp {a:Nat} (ha:a < 4294967296):Go.bits .and .u32 (a:Int) 15=((a % 16:Nat):Int):=by
 show IntKind.u32.wrap ((BitVec.ofInt 32 (a:Int) &&& BitVec.ofInt 32 15).toNat:Int)=_
 rw [BitVec.ofInt_natCast,BitVec.toNat_and,BitVec.toNat_ofNat,Nat.mod_eq_of_lt ha]
 have h:(BitVec.ofInt 32 15).toNat=2 ^ 4 - 1:=by decide
 rw [h,Nat.and_two_pow_sub_one_eq_mod]
 exact Gb (by omega) (by omega)
theorem Fq (a:Nat):((a:Int)).fdiv (2 ^ (min 4 32))=((a / 16:Nat):Int):=by
 rw [Int.fdiv_eq_ediv_of_nonneg _ (by decide)]
 rfl
def xv (x b:Nat):Nat:=oB (oB (x ^^^ b))
theorem qv {a:Nat} (h:a < 4294967296):oB a < 4294967296:=qt (qt (qt (qt h)))
theorem Cv {x b:Nat} (h:x < 4294967296) (hb:b < 256):xv x b < 4294967296:=qv (qv (pP h (by omega)))
theorem step_eq {x b:Nat} (hx:x < 4294967296) (hb:b < 256):lf (x:Int) (b:Int)=some ((xv x b:Nat):Int):=by
 unfold lf xv
 rw [Gb (by omega) (by omega),Aa hx (by omega)]
 have h1:=pP hx (show b < 4294967296 by omega)
 generalize x ^^^ b=y at h1
 rw [Fp h1,z9 _ (by omega),aA,Fq,Aa (by omega) (qv (by omega)),<- vd]
 have h2:=qv h1
 generalize oB y=z at h2
 rw [Fp h2,z9 _ (by omega),aA,Fq,Aa (by omega) (qv (by omega)),<- vd]
def Cw (y:Nat):Nat->Nat
 | 0=>y
 | i+1=>pO (Cw y i)
theorem GW {y:Nat} (hy:y < 4294967296):iter (σ:=Int×Int) (ρ:=Int) (λa=>(bif (decide (a.2 < 8)) then (Option.bind ((bif ((a.1.tmod 2) == 1) then some (Go.bits .xor .i64 (IntKind.i64.wrap (a.1.tdiv 2)) 3988292384) else some (IntKind.i64.wrap (a.1.tdiv 2))):Option Int) λc=>some (.inl (c,(IntKind.i64.wrap (a.2+1))))) else some (.inr a.1))) ((y:Int),0)=some ((oB (oB y):Nat):Int):=by
 have st: ∀ (z n:Nat),z < 4294967296->n < 8->(bif (decide ((n:Int) < 8)) then (Option.bind ((bif (((z:Int).tmod 2) == 1) then some (Go.bits .xor .i64 (IntKind.i64.wrap ((z:Int).tdiv 2)) 3988292384) else some (IntKind.i64.wrap ((z:Int).tdiv 2))):Option Int) λc=>some (.inl (c,(IntKind.i64.wrap ((n:Int)+1))))) else some (.inr (z:Int)):Option ((Int×Int) ⊕ Int))=some (.inl (((pO z:Nat):Int),((n+1:Nat):Int))):=by
  intro z n hz hn
  have h1:(z:Int).tdiv 2=((z >>> 1:Nat):Int):=by
   rw [Int.tdiv_eq_ediv_of_nonneg (by omega),Nat.shiftRight_eq_div_pow]
   rfl
  have h2:(z:Int).tmod 2=((z % 2:Nat):Int):=by
   rw [Int.tmod_eq_emod_of_nonneg (by omega)]
   rfl
  have h3:z >>> 1 < 4294967296:=by rw [Nat.shiftRight_eq_div_pow]; omega
  rw [decide_eq_true (by omega),cond_true,h1,h2,w64 (by omega) (by omega),w64 (by omega) (by omega)]
  have hx:Go.bits .xor .i64 ((z >>> 1:Nat):Int) 3988292384=((z >>> 1 ^^^ 3988292384:Nat):Int):=Fo h3 (b:=3988292384) (by decide)
  rw [hx]
  unfold pO
  by_cases ho:z % 2=1
  ·have:(((z % 2:Nat):Int) == 1)=true:=by rw [ho]; rfl
   rw [this,cond_true,if_pos ho]
   rfl
  ·have:(((z % 2:Nat):Int) == 1)=false:=by rw [show z % 2=0 by omega]; rfl
   rw [this,cond_false,if_neg ho,Nat.xor_zero]
   rfl
 have hB: ∀ i,Cw y i < 4294967296:=by
  intro i
  induction i with
  | zero=>exact hy
  | succ i ih=>exact qt ih
 have h8:oB (oB y)=Cw y 8:=rfl
 rw [h8]
 refine mi (λi=>(((Cw y i:Nat):Int),(i:Int))) 8 _ ?_ ?_
 ·intro i hi
  exact st (Cw y i) i (hB i) hi
 ·dsimp only
  rw [decide_eq_false (by omega),cond_false]
def qw (l:List Int):Nat:=l.foldl (λx b=>xv x b.toNat) 4294967295
theorem pQ (l:List Int) (i:Nat) (h:i < l.length):qw (l.take (i+1))=xv (qw (l.take i)) (l[i]).toNat:=by
 unfold qw
 rw [List.take_succ_eq_append_getElem h,List.foldl_append]
 rfl
theorem vS {l:List Int} (h:BB l): ∀ i,qw (l.take i) < 4294967296:=by
 intro i
 induction i with
 | zero=>rw [List.take_zero]; decide
 | succ i ih =>
  by_cases hi:i < l.length
  ·rw [pQ l i hi]
   have:=h _ (List.getElem_mem hi)
   exact Cv ih (by omega)
  ·rw [List.take_of_length_le (by omega)]
   rw [List.take_of_length_le (by omega)] at ih
   exact ih
def jo (s:ByteArray):Nat:=4294967295 ^^^ qw (sbs s)
theorem yT (s:ByteArray) (hs:s.size<=1000000):mE [s]=some ((jo s:Nat):Int):=by
 unfold mE
 have hL:=vS (n8 s)
 have hinner:iter (σ:=Int×Int) (ρ:=Int) (λa=>(bif (decide (a.1 < (s.size:Int))) then (Option.bind (tC s a.1) λb642=>(Option.bind (lf a.2 b642) λb=>some (.inl ((IntKind.i64.wrap (a.1+1)),b)))) else some (.inr a.2))) (0,4294967295)=some ((qw (sbs s):Nat):Int):=by
  refine mi (λi=>((i:Int),((qw ((sbs s).take i):Nat):Int))) s.size _ ?_ ?_
  ·intro i hi
   have hi2:i < (sbs s).length:=by rw [bC]; exact hi
   have hb:=n8 s _ (List.getElem_mem hi2)
   have hn:(sbs s)[i]=(((sbs s)[i].toNat:Nat):Int):=by omega
   dsimp only
   rw [decide_eq_true (by omega),cond_true,qm s i hi2,aA,pQ _ _ hi2]
   conv=>lhs; rw [hn]
   rw [step_eq (hL i) (by omega),aA,w64 (by omega) (by omega)]
   rfl
  ·dsimp only
   rw [decide_eq_false (by omega),cond_false,List.take_of_length_le (by rw [bC]; exact Nat.le_refl _)]
 refine eJ (λi=>(if i=0 then (4294967295:Int) else ((qw (sbs s):Nat):Int),(i:Int))) 1 ((qw (sbs s):Nat):Int) rfl ?_ ?_ ?_
 ·intro i hi
  have:i=0:=by omega
  subst this
  have h1:idx [s] 0=some s:=rfl
  show (bif (decide ((0:Int) < 1)) then (Option.bind (idx [s] 0) λc=>_) else _)=_
  rw [decide_eq_true (by omega),cond_true,h1,aA]
  show (Option.bind (iter _ (0,4294967295)) λd=>_)=_
  rw [hinner,aA]
  rfl
 ·rfl
 ·have h:=hL (sbs s).length
  rw [List.take_length] at h
  show some (Go.bits .xor .u32 ((4294967295:Nat):Int) ((qw (sbs s):Nat):Int))=_
  rw [Aa (by decide) h]
  rfl
theorem Cx {x:Nat} (h:x < 4294967296):4294967295 ^^^ x=4294967295 - x:=by
 have h1:(2 ^ 32 - 1) - x=2 ^ 32 - (x+1):=by omega
 show 4294967295 ^^^ x=_
 apply Nat.eq_of_testBit_eq
 intro i
 have h2:4294967295 - x=2 ^ 32 - (x+1):=by omega
 rw [h2,Nat.testBit_two_pow_sub_succ h,Nat.testBit_xor]
 have h3:(4294967295:Nat).testBit i=decide (i < 32):=by
  show (2 ^ 32 - 1).testBit i=_
  rw [Nat.testBit_two_pow_sub_one]
 rw [h3]
 by_cases hi:i < 32
 ·simp [hi]
 ·have:x.testBit i=false:=by
   apply Nat.testBit_lt_two_pow
   have:2 ^ 32<=2 ^ i:=Nat.pow_le_pow_right (by omega) (by omega)
   omega
  simp [hi,this]
theorem Ab (s:ByteArray) (hs:s.size<=1000000):ll s=some ((jo s:Nat):Int):=by
 unfold ll
 have hL:=vS (n8 s)
 refine eJ (λi=>(((qw ((sbs s).take i):Nat):Int),(i:Int))) s.size ((qw (sbs s):Nat):Int) rfl ?_ ?_ ?_
 ·intro i hi
  have hi2:i < (sbs s).length:=by rw [bC]; exact hi
  have hb:=n8 s _ (List.getElem_mem hi2)
  have hn:(sbs s)[i]=(((sbs s)[i].toNat:Nat):Int):=by omega
  dsimp only
  rw [decide_eq_true (by omega),cond_true,qm s i hi2,aA,pQ _ _ hi2]
  have hx:Go.bits .xor .i64 ((qw ((sbs s).take i):Nat):Int) (IntKind.i64.wrap (sbs s)[i])=((qw ((sbs s).take i) ^^^ (sbs s)[i].toNat:Nat):Int):=by
   rw [w64 (by omega) (by omega)]
   conv=>lhs; rw [hn]
   exact Fo (hL i) (by omega)
  rw [hx,GW (pP (hL i) (by omega)),aA,w64 (by omega) (by omega)]
  rfl
 ·dsimp only
  rw [decide_eq_false (by omega),cond_false,List.take_of_length_le (by rw [bC]; exact Nat.le_refl _)]
 ·have h:=hL (sbs s).length
  rw [List.take_length] at h
  unfold jo
  rw [Cx h,w64 (by omega) (by omega)]
  congr 1
  omega
theorem vU (l:List Int) (s:ByteArray):dM l++s=dM (l++sbs s):=by
 rw [dH,oy]
theorem tN (s:ByteArray) (hs:s.size<=1000000):jR s=some (dM (cH s.size++sbs s)):=by
 unfold jR
 have h:=cI (s.size:Int)
 rw [iU,aA,eC (by rw [bO]; omega),aA,vU]
theorem xw (s:aN) (h:SW s) (hp:(s.rows.flatMap fF).length<=1000000):gT (fN s)=some (jv s):=by
 unfold gT jv
 have hc:((Option.bind (ib (fN s)) λd=>(bif d then some true else (Option.bind (jG (fN s)) λe=>some (!e)))):Option Bool)=some (ic s || !nk s):=by
  rw [u5,aA,Cg s h,aA]
  cases ic s <;> cases nk s <;> rfl
 rw [hc,aA]
 by_cases hb:ic s=true\/nk s=false
 ·rw [if_pos hb]
  have:(ic s || !nk s)=true:=by
   rcases hb with hb | hb <;> simp [hb]
  rw [this,cond_true]
  rfl
 ·rw [if_neg hb]
  have hne:ic s=false:=by cases he:ic s with | true=>exact absurd (.inl he) hb | false=>rfl
  have hm:nk s=true:=by cases he:nk s with | false=>exact absurd (.inr he) hb | true=>rfl
  rw [hne,hm]
  have hpl:=rE s h
  have htl:=h.tl
  have hph:(mJ s).length=([s.k,s.w,s.h,s.x,s.y].flatMap cH).length+((cH s.title.size++sbs s.title).length+(([s.len,s.chain].flatMap cH).length+(lQ s.begun).length)):=by
   unfold mJ
   rw [List.length_append,List.length_append,List.length_append]
   omega
  have hnum: ∀ L:List Int,L.length<=10->iter (σ:=Int×ByteArray) (ρ:=ByteArray) (λb=>(bif (decide (b.1 < (L.length:Int))) then (Option.bind (idx L b.1) λf=>(Option.bind (cF f) λc=>(Option.bind (chk (kG b.2.size c.size)) λ_=>some (.inl ((IntKind.i64.wrap (b.1+1)),(b.2++c)))))) else some (.inr b.2))) (0,(ByteArray.mk #[]))=some (dM (L.flatMap cH)):=by
   intro L hL
   have hlen: ∀ (M:List Int),(M.flatMap cH).length<=9*M.length:=by
    intro M
    induction M with
    | nil=>simp
    | cons a M ih =>
     rw [List.flatMap_cons,List.length_append,List.length_cons]
     have:=cI a
     omega
   refine mi (λi=>((i:Int),dM ((L.take i).flatMap cH))) L.length _ ?_ ?_
   ·intro i hi
    have h2:=hlen (L.take i)
    rw [List.length_take] at h2
    have h3:=cI L[i]
    dsimp only
    rw [decide_eq_true (by omega),cond_true,bK _ _ hi,aA,iU,aA,eC (by rw [bO,bO]; omega),aA,<- dH,w64 (by omega) (by omega),List.take_succ_eq_append_getElem hi,List.flatMap_append,List.flatMap_singleton]
    rfl
   ·dsimp only
    rw [decide_eq_false (by omega),cond_false,List.take_length]
  have hn2:[s.len,s.chain].flatMap cH=cH s.len++cH s.chain:=by simp
  have hl1:=cI s.len
  have hl2:=cI s.chain
  have ht:(cH s.title.size++sbs s.title).length<=12009:=by
   rw [List.length_append,bC]
   have:=cI (s.title.size:Int)
   omega
  dsimp only
  rw [Bool.not_true,Bool.or_false,cond_false,hnum _ (by simp),aA,tN _ (by omega),aA,iU,aA,eC (by rw [bO,bO]; omega),aA,iU,aA,<- dH,eC (by rw [bO,bO,List.length_append]; omega),aA,AW _ h.bl,aA,<- dH,eC (by rw [bO,bO,List.length_append,List.length_append]; omega),aA,<- dH,eC (by rw [bO,bO,List.length_append,List.length_append,List.length_append]; omega),aA,<- dH]
  have hhead:[s.k,s.w,s.h,s.x,s.y].flatMap cH++(((cH s.title.size++sbs s.title)++cH s.len++cH s.chain)++lQ s.begun)=mJ s:=by
   unfold mJ
   rw [hn2]
   simp only [List.append_assoc]
  rw [hhead]
  refine eJ (λi=>(dM (mJ s++(s.rows.take i).flatMap fF),(i:Int))) s.rows.length (dM (sj s)) (by simp) ?_ ?_ rfl
  ·intro i hi
   have hro:=h.ro _ (List.getElem_mem hi)
   have hl1:=zX s.rows (i+1)
   rw [List.take_succ_eq_append_getElem hi,List.flatMap_append,List.flatMap_singleton,List.length_append] at hl1
   have hrl:=h.rl
   have hi2:i < (s.rows.map told).length:=by rw [List.length_map]; exact hi
   dsimp only
   rw [List.length_map,decide_eq_true (by omega),cond_true,bK _ _ hi2,aA,List.getElem_map,xk _ hro.2,aA,eC (by rw [bO,bO,List.length_append]; omega),aA,<- dH,w64 (by omega) (by omega),List.take_succ_eq_append_getElem hi,List.flatMap_append,List.flatMap_singleton,List.append_assoc]
   rfl
  ·dsimp only
   rw [List.length_map,decide_eq_false (by omega),cond_false,List.take_length]
   rfl
theorem tO {s:aN} (h:SW s) (hp:(s.rows.flatMap fF).length<=12000):(jv s).size<=72000:=by
 unfold jv
 split
 ·exact Nat.zero_le _
 ·have:=rE s h
  rw [bO]
  unfold sj
  rw [List.length_append]
  omega
theorem sU (s:ByteArray):jo s < 4294967296:=by
 unfold jo
 have h:=vS (n8 s) (sbs s).length
 rw [List.take_length] at h
 exact pP (by decide) h
theorem ED (s:aN) (h:SW s) (hp:(s.rows.flatMap fF).length<=12000):ja s=some ((jo (jv s):Nat):Int):=by
 unfold ja
 have h1:=tO h hp
 have h2:=sU (jv s)
 rw [zY s h (by omega),aA,yT _ (by omega),aA,w64 (by omega) (by omega)]
theorem Cy (s:aN) (h:SW s) (hp:(s.rows.flatMap fF).length<=12000):lK (fN s)=some ((jo (jv s):Nat):Int):=by
 unfold lK
 have h1:=tO h hp
 rw [xw s h (by omega),aA,Ab _ (by omega),aA]
end Go.Tw.X
set_option maxHeartbeats 1000000
namespace Go.Tw.X
open Go Go.Tw
def sn (n:Nat):List Int:=[((n % 256:Nat):Int),((n / 256 % 256:Nat):Int),((n / 65536 % 256:Nat):Int),((n / 16777216 % 256:Nat):Int)]
theorem vV (n:Nat):BB (sn n):=λb hb=>by
 simp only [sn,List.mem_cons,List.not_mem_nil,or_false] at hb
 rcases hb with rfl | rfl | rfl | rfl <;> omega
theorem w8 (n:Nat):IntKind.u8.wrap (n:Int)=((n % 256:Nat):Int):=by
 show (n:Int) % 256=_
 omega
theorem fdN (n k:Nat):((n:Int)).fdiv ((k:Int))=((n / k:Nat):Int):=by
 rw [Int.fdiv_eq_ediv_of_nonneg _ (by omega)]
 rfl
theorem Ad {n:Nat} (h:n < 4294967296):lg (n:Int)=some (dM (sn n)):=by
 unfold lg sn
 rw [show ((2:Int) ^ (min 8 32))=((256:Nat):Int) from rfl,show ((2:Int) ^ (min 16 32))=((65536:Nat):Int) from rfl,show ((2:Int) ^ (min 24 32))=((16777216:Nat):Int) from rfl,fdN,fdN,fdN,w8,w8,w8,w8]
def nJ (s:ByteArray):ByteArray:=s++dM (sn (jo s))
theorem qy (s:ByteArray):sbs (nJ s)=sbs s++sn (jo s):=by
 unfold nJ
 rw [yL,kT _ (vV _)]
theorem oU (s:ByteArray):(nJ s).size=s.size+4:=by
 rw [<- bC,qy,List.length_append,bC]
 rfl
theorem EE {s:ByteArray} (h:s.size<=900000):lh s=some (nJ s):=by
 unfold lh
 rw [yT s (by omega),aA,Ad (sU s),aA,eC (by rw [bO]; simp [sn]; omega),aA]
 rfl
theorem xx {s:ByteArray} (h:s.size<=900000):jS s=some (nJ s):=by
 unfold jS
 have hl:=sU s
 rw [Ab s (by omega),aA]
 have e1:IntKind.u8.wrap ((((jo s:Nat):Int)).tmod 256)=((jo s % 256:Nat):Int):=by
  rw [show (((jo s:Nat):Int)).tmod 256=((jo s % 256:Nat):Int) from rfl,w8]
  omega
 have e2:IntKind.u8.wrap ((IntKind.i64.wrap ((((jo s:Nat):Int)).tdiv 256)).tmod 256)=((jo s / 256 % 256:Nat):Int):=by
  rw [show (((jo s:Nat):Int)).tdiv 256=((jo s / 256:Nat):Int) from rfl,w64 (by omega) (by omega),show (((jo s / 256:Nat):Int)).tmod 256=((jo s / 256 % 256:Nat):Int) from rfl,w8]
  omega
 have e3:IntKind.u8.wrap ((IntKind.i64.wrap ((((jo s:Nat):Int)).tdiv 65536)).tmod 256)=((jo s / 65536 % 256:Nat):Int):=by
  rw [show (((jo s:Nat):Int)).tdiv 65536=((jo s / 65536:Nat):Int) from rfl,w64 (by omega) (by omega),show (((jo s / 65536:Nat):Int)).tmod 256=((jo s / 65536 % 256:Nat):Int) from rfl,w8]
  omega
 have e4:IntKind.u8.wrap (IntKind.i64.wrap ((((jo s:Nat):Int)).tdiv 16777216))=((jo s / 16777216 % 256:Nat):Int):=by
  rw [show (((jo s:Nat):Int)).tdiv 16777216=((jo s / 16777216:Nat):Int) from rfl,w64 (by omega) (by omega),w8]
 rw [e1,e2,e3,e4]
 rw [eC (by rw [bO]; simp; omega),aA]
 rfl
def kb (s:ByteArray):ByteArray:=gG s 0 ((s.size - 4:Nat):Int)
def og (s:ByteArray):Bool:=decide (4<=s.size/\nJ (kb s)=s)
def qz (s:ByteArray):ByteArray×Bool:=if og s=true then (kb s,true) else (noS,false)
theorem sV (s:ByteArray):sbs (kb s)=(sbs s).take (s.size - 4):=by
 unfold kb
 have:=iE s 0 (s.size - 4)
 simpa using this
theorem kV {s:ByteArray} (h:4<=s.size):(kb s).size=s.size - 4:=by
 rw [<- bC,sV,List.length_take,bC]
 omega
theorem Cz {s:ByteArray} (h:s.size<=800000):kN s=some (qz s):=by
 unfold kN qz og
 by_cases c:(s.size:Int) < 4
 ·rw [decide_eq_true c,cond_true,aA,cond_true,decide_eq_false (by omega),if_neg (by simp)]
  rfl
 ·have e:IntKind.i64.wrap ((s.size:Int) - 4)=((s.size - 4:Nat):Int):=by rw [w64 (by omega) (by omega)]; omega
  have hf:=kV (s:=s) (by omega)
  rw [decide_eq_false c,cond_false,e,cX (by omega) (by omega) (by omega),aA,show gG s 0 ((s.size - 4:Nat):Int)=kb s from rfl,xx (by omega),aA,mm,aA]
  by_cases d:nJ (kb s)=s
  ·rw [decide_eq_true d,Bool.not_true,cond_false,aA,decide_eq_true ⟨by omega,d⟩,if_pos rfl]
  ·rw [decide_eq_false d,Bool.not_false,cond_true,decide_eq_false (λh=>d h.2),if_neg (by simp)]
   rfl
theorem EF {s:ByteArray} (h:s.size<=800000):mF s=some (qz s):=by
 unfold mF qz og
 by_cases c:(s.size:Int) < 4
 ·have e:IntKind.i64.wrap ((s.size:Int) - 4)=(s.size:Int) - 4:=w64 (by omega) (by omega)
  rw [e,decide_eq_true (by omega),cond_true,aA,cond_true,decide_eq_false (by omega),if_neg (by simp)]
  rfl
 ·have e:IntKind.i64.wrap ((s.size:Int) - 4)=((s.size - 4:Nat):Int):=by rw [w64 (by omega) (by omega)]; omega
  have hf:=kV (s:=s) (by omega)
  rw [e,decide_eq_false (by omega),cond_false,cX (by omega) (by omega) (by omega),aA,cX (by omega) (by omega) (by omega),aA,show gG s 0 ((s.size - 4:Nat):Int)=kb s from rfl,yT _ (by omega),aA,Ad (sU _),aA,mm,aA]
  have hd:sbs (gG s ((s.size - 4:Nat):Int) (s.size:Int))=(sbs s).drop (s.size - 4):=by
   rw [iE,List.take_of_length_le (by rw [bC]; omega)]
  have key:(gG s ((s.size - 4:Nat):Int) (s.size:Int)=dM (sn (jo (kb s))))↔nJ (kb s)=s:=by
   constructor
   ·intro q
    apply oS
    rw [qy,sV]
    have q2:=congrArg sbs q
    rw [hd,kT _ (vV _)] at q2
    rw [<- q2,List.take_append_drop]
   ·intro q
    apply oS
    have q2:=congrArg sbs q
    rw [qy,sV] at q2
    rw [hd,kT _ (vV _)]
    exact (List.append_cancel_left (q2.trans (List.take_append_drop (s.size - 4) (sbs s)).symm)).symm
  by_cases d:nJ (kb s)=s
  ·rw [decide_eq_true (key.2 d),Bool.not_true,cond_false,aA,decide_eq_true ⟨by omega,d⟩,if_pos rfl]
  ·rw [decide_eq_false (λh=>d (key.1 h)),Bool.not_false,cond_true,decide_eq_false (λh=>d h.2),if_neg (by simp)]
   rfl
theorem AZ (s:ByteArray):qz (nJ s)=(s,true):=by
 have h1:=oU s
 have h2:kb (nJ s)=s:=by
  apply oS
  rw [sV,qy,h1,Nat.add_sub_cancel,<- bC]
  simp
 unfold qz og
 rw [decide_eq_true ⟨by omega,by rw [h2]⟩,if_pos rfl,h2]
theorem tP (s:aN) (y:Nat) (h:y < s.rows.length):gw s (y:Int)=some (s.rows[y],true):=by
 unfold gw
 rw [decide_eq_false (show ¬ ((y:Int) < 0) by omega),cond_false,aA,decide_eq_false (show ¬ ((y:Int)>=(s.rows.length:Int)) by omega),cond_false,bK _ _ h,aA]
theorem ve (s:aN) (y:Nat) (h: ¬ y < s.rows.length):gw s (y:Int)=some (tF,false):=by
 unfold gw
 rw [decide_eq_false (show ¬ ((y:Int) < 0) by omega),cond_false,aA,decide_eq_true (show ((y:Int)>=(s.rows.length:Int)) by omega),cond_true]
 rfl
theorem xy (r q:aY) (h:r.cells.length<=1000000):gU (told r) (told q)=some (decide (r=q)):=by
 unfold gU
 have hw:(!((told r).wrapped == (told q).wrapped)) = !decide (r.wrapped=q.wrapped):=by
  show (!(r.wrapped == q.wrapped))=_
  cases r.wrapped <;> cases q.wrapped <;> rfl
 have hl:(((told r).l.length:Int) != ((told q).l.length:Int)) = !decide (r.cells.length=q.cells.length):=by
  show (((r.cells.map tc).length:Int) != ((q.cells.map tc).length:Int))=_
  rw [fS,fS]
  by_cases he:r.cells.length=q.cells.length
  ·simp [he]
  ·have: ¬ ((r.cells.length:Int)=(q.cells.length:Int)):=by omega
   simp [he,this]
 rw [hw,hl]
 by_cases h1:r.wrapped=q.wrapped
 ·rw [decide_eq_true h1,Bool.not_true,cond_false,aA]
  by_cases h2:r.cells.length=q.cells.length
  ·rw [decide_eq_true h2,Bool.not_true,cond_false]
   have:=u9 r.cells q.cells h2 (λa=>(bif (decide (a < ((told r).l.length:Int))) then (Option.bind (idx (told r).l a) λb=>(Option.bind (idx (told q).l a) λc=>(bif (!((b.rune == c.rune) && ((b.bW == c.bW) && ((b.part == c.part) && true)))) then (fH (some false)) else some (.inl (IntKind.i64.wrap (a+1)))))) else some (.inr (.inl ())))) (by
    intro n h1 h2
    have l1:(told r).l.length=r.cells.length:=fS _
    have l2:(told q).l.length=q.cells.length:=fS _
    rw [decide_eq_true (show (n:Int) < ((told r).l.length:Int) by omega),cond_true,bK _ _ (by omega),aA,bK _ _ (by omega),aA]
    have g1:(told r).l[n]'(by omega)=tc r.cells[n]:=List.getElem_map ..
    have g2:(told q).l[n]'(by omega)=tc q.cells[n]:=List.getElem_map ..
    rw [g1,g2]
    have:=lO r.cells[n] q.cells[n]
    show (bif !(((r.cells[n]).rune == (q.cells[n]).rune) && (((r.cells[n]).bW == (q.cells[n]).bW) && (((r.cells[n]).part == (q.cells[n]).part) && true))) then _ else _)=_
    rw [this]
    by_cases he:r.cells[n]=q.cells[n]
    ·rw [decide_eq_true he,if_pos he,Bool.not_true,cond_false,w64 (by omega) (by omega)]
     rfl
    ·rw [decide_eq_false he,if_neg he,Bool.not_false,cond_true]
     rfl) (by
    have l1:(told r).l.length=r.cells.length:=fS _
    rw [decide_eq_false (by omega),cond_false])
   rw [this,aA]
   by_cases he:r.cells=q.cells
   ·rw [if_pos he]
    have:r=q:=by cases r; cases q; simp_all
    rw [decide_eq_true this]
   ·rw [if_neg he]
    have: ¬ r=q:=λhh=>he (by rw [hh])
    rw [decide_eq_false this]
  ·have: ¬ r=q:=λhh=>h2 (by rw [hh])
   rw [decide_eq_false h2,decide_eq_false this]
   rfl
 ·have: ¬ r=q:=λhh=>h1 (by rw [hh])
  rw [decide_eq_false h1,decide_eq_false this]
  rfl
def oC (s:aN):Bool:=ic s || !nk s
theorem oV {s:aN}:(jv s=noS)↔oC s=true:=by
 unfold jv oC
 constructor
 ·intro h
  split at h
  ·rename_i hb
   rcases hb with hb | hb <;> simp [hb]
  ·exact absurd h (Ct s)
 ·intro h
  rw [if_pos]
  simpa using h
theorem CA (s:aN) (h:SW s) (hp:(s.rows.flatMap fF).length<=1000000):jD s=some (!oC s):=by
 unfold jD
 rw [zY s h hp,aA]
 have e:((jv s).toList == (ByteArray.mk #[]).toList)=decide (jv s=noS):=mm _ noS
 rw [e]
 cases hb:oC s with
 | true=>rw [decide_eq_true (oV.2 hb)]
 | false=>rw [decide_eq_false (λhh=>by rw [oV.1 hh] at hb; cases hb)]
def zA (s:ByteArray):=rdS ⟨s,0⟩
def zB (s:ByteArray):=rdS (zA s).2
def zC (s:ByteArray):=cD (zB s).2 1000
def zD (s:ByteArray):=cD (zC s).2 1000
def zE (s:ByteArray):=rdS (zD s).2
def zF (s:ByteArray):=rdS (zE s).2
def zT (s:ByteArray):=lR (zF s).2
def zG (s:ByteArray):=rdS (zT s).2
def zH (s:ByteArray):=rdS (zG s).2
def zK (s:ByteArray):=bkS (zH s).2
def zN (s:ByteArray):=rdS (zK s).2
def zS (s:ByteArray):aN:=⟨(zB s).1,(zC s).1,(zD s).1,(zE s).1,(zF s).1,(zT s).1,[],(zG s).1,(zH s).1,(zK s).1⟩
def sq (j:aG):aG:=if j.e=0 then jn else j
theorem CB {j:aG} (h:VI j):VI (sq j):=by
 unfold sq
 split
 ·exact mI
 ·exact h
theorem EG (j:aG):(sq j).e≠0:=by
 unfold sq
 split
 ·decide
 ·assumption
def dlI (h:Int) (i:aG) (last:Int):aG:=if (rdS i).1<=last\/(rdS i).1>=h then sq (rdS i).2 else (rdS i).2
def dlL:Nat->Int->Int->aG->Int->List (Int×aY)->List (Int×aY)×aG
 | 0,_,_,i,_,l=>(l,i)
 | k+1,w,h,i,last,l=>if i.e=0 then dlL k w h (ig (dlI h i last) w).2 (rdS i).1 (l++[((rdS i).1,(ig (dlI h i last) w).1)]) else (l,i)
def zR (s:ByteArray):=dlL (zN s).1.toNat (zC s).1 (zD s).1 (zN s).2 (-1) []
theorem kW {h:Int} {i:aG} {last:Int} (hV:VI i):VI (dlI h i last):=by
 unfold dlI
 split
 ·exact CB (fu hV)
 ·exact fu hV
theorem yU {h:Int} {i:aG} {last:Int} (he:(dlI h i last).e=0):last < (rdS i).1/\(rdS i).1 < h/\dlI h i last=(rdS i).2:=by
 unfold dlI at he ⊢
 split at he
 ·exact absurd he (EG _)
 ·rename_i hc
  rw [if_neg hc]
  exact ⟨by omega,by omega,rfl⟩
theorem qA (k:Nat) (w h:Int) (i:aG) (last:Int) (l:List (Int×aY)) (he:i.e≠0):dlL k w h i last l=(l,i):=by
 cases k with
 | zero=>rfl
 | succ k=>unfold dlL; rw [if_neg he]
theorem vW {i:aG} {w:Int} (hV:VI i) (he:(ig i w).2.e=0):i.e=0:=by
 unfold ig at he
 have h1:(rrS (w.toNat+1) w (cD i 1).2 []).2.e=0:=by
  split at he
  ·exact he
  ·exact he
 have h2:=xi _ _ _ _ h1
 exact (jZ h2 hV).1
theorem Fs: ∀ (k:Nat) (w h:Int) (i:aG) (last:Int) (l:List (Int×aY)),(dlL k w h i last l).2.e=0->i.e=0
 | 0,w,h,i,last,l,he=>he
 | k+1,w,h,i,last,l,he=>by
  unfold dlL at he
  split at he
  ·assumption
  ·exact he
theorem CC: ∀ (k:Nat) (w h:Int) (i:aG) (last:Int) (l:List (Int×aY)),VI i->VI (dlL k w h i last l).2
 | 0,w,h,i,last,l,hV=>hV
 | k+1,w,h,i,last,l,hV=>by
  unfold dlL
  split
  ·exact CC k w h _ _ _ (qq (kW hV))
  ·exact hV
theorem vX {α:Type} (k:Int) (x:α): ∀ l:List (Int×α),(∀ p∈l,p.1≠k)->msl k x l=l++[(k,x)]
 | [],_=>rfl
 | (j,y)::l,h=>by
  have h1:k≠j:=λe=>h (j,y) (by simp) e.symm
  simp only [msl,if_neg h1,List.cons_append]
  rw [vX k x l λp hp=>h p (by simp [hp])]
theorem yV (sum:Int) (x:aN) (hx:x.rows=[]) (hw:x.w<=1000) (f:bT×aG×Int×Int->Option ((bT×aG×Int×Int) ⊕ (aG×bT))) (hf:f=(λa=>(Option.bind ((bif (decide (a.2.2.2 > 0)) then (Option.bind (cY a.2.1) λg=>some (g == 0)) else some false):Option Bool) λj=>(bif j then (Option.bind (bM a.2.1) λb=>(Option.bind ((bif (decide (b.1<=a.2.2.1)) then some true else some (decide (b.1>=a.1.to.h))):Option Bool) λm=>(Option.bind ((bif m then (Option.bind (bP b.2 1) λc=>some c) else some b.2):Option aG) λn=>(Option.bind (iB n a.1.to.w) λd=>(Option.bind (chk a.1.rows.isSome) λ_=>some (.inl ((bT.mk a.1.sum (aN.mk a.1.to.k a.1.to.w a.1.to.h a.1.to.x a.1.to.y a.1.to.title ([]:List aY) a.1.to.len a.1.to.chain a.1.to.begun) (AJ a.1.rows b.1 d.1)),d.2,b.1,(IntKind.i64.wrap (a.2.2.2 - 1))))))))) else some (.inr (a.2.1,(bT.mk a.1.sum (aN.mk a.1.to.k a.1.to.w a.1.to.h a.1.to.x a.1.to.y a.1.to.title ([]:List aY) a.1.to.len a.1.to.chain a.1.to.begun) a.1.rows)))))) ) :
  ∀ (k:Nat) (i:aG) (last:Int) (l l':List (Int×aY)),k<=4611686018427387904->VI i->(i.e=0->l'=l /\ ∀ p∈l,p.1<=last) ->
  ∃ m',iter f (⟨sum,x,some l'⟩,i,last,(k:Int))=some ((dlL k x.w x.h i last l).2,⟨sum,x,some m'⟩)/\((dlL k x.w x.h i last l).2.e=0->m'=(dlL k x.w x.h i last l).1):=by
 have hx2:aN.mk x.k x.w x.h x.x x.y x.title ([]:List aY) x.len x.chain x.begun=x:=by
  obtain ⟨⟩:=x
  dsimp only at hx
  subst hx
  rfl
 intro k
 induction k with
 | zero =>
  intro i last l l' hk hV hl
  refine ⟨l',bD ?_,λhe=>(hl he).1⟩
  subst hf
  dsimp only
  rw [decide_eq_false (by omega),cond_false,aA,cond_false,hx2]
  rfl
 | succ k ih =>
  intro i last l l' hk hV hl
  by_cases he:i.e=0
  ·obtain ⟨rfl,hlast⟩:=hl he
   have hrr:=kl hV
   have hstep:f (⟨sum,x,some l'⟩,i,last,((k+1:Nat):Int))=some (.inl (⟨sum,x,some (msl (rdS i).1 (ig (dlI x.h i last) x.w).1 l')⟩,(ig (dlI x.h i last) x.w).2,(rdS i).1,(k:Int))):=by
    subst hf
    dsimp only
    have e1:cY i=some i.e:=rfl
    have e2:(i.e == 0)=true:=by simpa using he
    have e3:((bif (decide ((rdS i).1<=last)) then some true else some (decide ((rdS i).1>=x.h))):Option Bool)=some (decide ((rdS i).1<=last\/(rdS i).1>=x.h)):=or2 _ _
    have e4:((bif (decide ((rdS i).1<=last\/(rdS i).1>=x.h)) then (Option.bind (bP (rdS i).2 1) λc=>some c) else some (rdS i).2):Option aG)=some (dlI x.h i last):=by
     unfold dlI
     by_cases hc:(rdS i).1<=last\/(rdS i).1>=x.h
     ·rw [decide_eq_true hc,cond_true,if_pos hc,qn (fu hV)]
      rfl
     ·rw [decide_eq_false hc,cond_false,if_neg hc]
    rw [decide_eq_true (by omega),cond_true,e1,aA,e2,aA,cond_true,jm _ hV,aA,e3,aA,e4,aA,yM _ _ (kW hV) hw,aA,hx2,w64 (by omega) (by omega)]
    have e5:((k+1:Nat):Int) - 1=(k:Int):=by omega
    rw [e5]
    rfl
   have hnew:(ig (dlI x.h i last) x.w).2.e=0->msl (rdS i).1 (ig (dlI x.h i last) x.w).1 l'=l'++[((rdS i).1,(ig (dlI x.h i last) x.w).1)] /\ ∀ p∈l'++[((rdS i).1,(ig (dlI x.h i last) x.w).1)],p.1<=(rdS i).1:=by
    intro h0
    obtain ⟨h2,h3, -⟩:=yU (vW (kW hV) h0)
    refine ⟨vX _ _ _ λp hp e=> ?_,λp hp=> ?_⟩
    ·have:=hlast p hp
     omega
    ·rcases List.mem_append.1 hp with hp | hp
     ·have:=hlast p hp
      omega
     ·rw [List.mem_singleton.1 hp]
      exact Int.le_refl _
   obtain ⟨m',h1,h2⟩:=ih (ig (dlI x.h i last) x.w).2 (rdS i).1 (l'++[((rdS i).1,(ig (dlI x.h i last) x.w).1)]) (msl (rdS i).1 (ig (dlI x.h i last) x.w).1 l') (by omega) (qq (kW hV)) hnew
   have hd:dlL (k+1) x.w x.h i last l'=dlL k x.w x.h (ig (dlI x.h i last) x.w).2 (rdS i).1 (l'++[((rdS i).1,(ig (dlI x.h i last) x.w).1)]):=by
    conv=>lhs; unfold dlL
    rw [if_pos he]
   rw [hd]
   exact ⟨m',by rw [bY hstep,h1],h2⟩
  ·rw [qA _ _ _ _ _ _ he]
   refine ⟨l',bD ?_,λh=>absurd h he⟩
   subst hf
   dsimp only
   have e1:cY i=some i.e:=rfl
   have e2:(i.e == 0)=false:=by simpa using he
   rw [decide_eq_true (by omega),cond_true,e1,aA,e2,aA,cond_false,hx2]
theorem xz {i:aG} (h:VI i):iR i=some (cD i 1000):=size_eq h
theorem CD (s:ByteArray) (h:s.size<=1000000): ∃ m',kL s=some (⟨(zA s).1,zS s,some m'⟩,jL (zR s).2)/\((zR s).2.e=0->m'=(zR s).1):=by
 have v0:VI (⟨s,0⟩:aG):=⟨h,.inl rfl⟩
 have vA:VI (zA s).2:=fu v0
 have vB:VI (zB s).2:=fu vA
 have vC:VI (zC s).2:=fE _ vB
 have vD:VI (zD s).2:=fE _ vC
 have vE:VI (zE s).2:=fu vD
 have vF:VI (zF s).2:=fu vE
 have vT:VI (zT s).2:=rF vF
 have vG:VI (zG s).2:=fu vT
 have vH:VI (zH s).2:=fu vG
 have vK:VI (zK s).2:=rG vH
 have vN:VI (zN s).2:=fu vK
 have hn:=kl vK
 have hw:(zS s).w<=1000:=(gk (m:=1000) vB (by omega)).2
 obtain ⟨N,hN⟩:=Int.eq_ofNat_of_zero_le (show 0<=(zN s).1 from hn.1)
 have hN2:N<=4611686018427387904:=by have:(zN s).1<=4611686018427387904:=hn.2; omega
 obtain ⟨m',h1,h2⟩:=yV (zA s).1 (zS s) rfl hw _ rfl N (zN s).2 (-1) [] [] hN2 vN (λ_=>⟨rfl,λp hp=>by cases hp⟩)
 have hR:zR s=dlL N (zS s).w (zS s).h (zN s).2 (-1) []:=by
  unfold zR
  rw [hN,Int.toNat_natCast]
  rfl
 rw [<- hR] at h1 h2
 refine ⟨m',?_,h2⟩
 unfold kL
 have e0:kI s=some ⟨s,0⟩:=rfl
 have e1:bM ⟨s,0⟩=some (zA s):=jm _ v0
 have e2:bM (zA s).2=some (zB s):=jm _ vA
 have e3:iR (zB s).2=some (zC s):=xz vB
 have e4:iR (zC s).2=some (zD s):=xz vC
 have e5:bM (zD s).2=some (zE s):=jm _ vD
 have e6:bM (zE s).2=some (zF s):=jm _ vE
 have e7:g0 (zF s).2=some (zT s):=z6 _ vF
 have e8:bM (zT s).2=some (zG s):=jm _ vT
 have e9:bM (zG s).2=some (zH s):=jm _ vG
 have e10:iK (zH s).2=some (zK s):=xu _ vH
 have e11:bM (zK s).2=some (zN s):=jm _ vK
 rw [e0,aA,e1,aA,e2,aA,e3,aA,e4,aA,e5,aA,e6,aA,e7,aA,e8,aA,e9,aA,e10,aA,e11,aA]
 have hS:aN.mk (zB s).1 (zC s).1 (zD s).1 (zE s).1 (zF s).1 (zT s).1 ([]:List aY) (zG s).1 (zH s).1 (zK s).1=zS s:=rfl
 rw [hS,hN,h1,aA,vP,aA]
 rfl
def ij (A:List aY) (l:List (Int×aY)):Nat->Nat->List aY->Option (List aY)
 | 0,_,acc=>some acc
 | k+1,y,acc=>match mgl (y:Int) l,A[y]? with
  | some r,some q=>if q=r then none else ij A l k (y+1) (acc++[r])
  | some r,none=>ij A l k (y+1) (acc++[r])
  | none,some q=>ij A l k (y+1) (acc++[q])
  | none,none=>none
theorem yW (sum:Int) (x a:aN) (l:List (Int×aY)) (H:Nat) (hH:H<=1000) (hh:x.h=(H:Int)) (ha: ∀ r∈a.rows,r.cells.length<=1000000) (f:bT×Int->Option ((bT×Int) ⊕ (bT ⊕ (Bool×bT)))) (hf:f=(λb=>(bif (decide (b.2 < x.h)) then (Option.bind (gw a b.2) λc=>(Option.bind ((Option.bind ((bif (gL b.1.rows b.2) then (bif c.2 then (Option.bind (gC c.1 (mgd b.1.rows b.2 (aY.mk ([]:List aO) false))) λe=>some e) else some false) else some false):Option Bool) λd=>(Option.bind ((bif d then some d else (bif (!(gL b.1.rows b.2)) then some (!c.2) else some false)):Option Bool) λg=>(bif g then (nA (fH (some (false,(bT.mk b.1.sum (aN.mk b.1.to.k b.1.to.w b.1.to.h b.1.to.x b.1.to.y b.1.to.title b.1.to.rows b.1.to.len b.1.to.chain b.1.to.begun) b.1.rows))))) else (bif (!(gL b.1.rows b.2)) then some (.inl c.1) else some (.inl (mgd b.1.rows b.2 (aY.mk ([]:List aO) false))))))):Option (aY ⊕ ((bT×Int) ⊕ (bT ⊕ (Bool×bT))))) λ | .inl e1033=>(Option.bind (chk (cQ b.1.to.rows.length [e1033].length 32)) λ_=>some (.inl ((bT.mk b.1.sum (aN.mk b.1.to.k b.1.to.w b.1.to.h b.1.to.x b.1.to.y b.1.to.title (b.1.to.rows++[e1033]) b.1.to.len b.1.to.chain b.1.to.begun) b.1.rows),(IntKind.i64.wrap (b.2+1))))) | .inr w=>some w)) else some (.inr (.inl (bT.mk b.1.sum (aN.mk b.1.to.k b.1.to.w b.1.to.h b.1.to.x b.1.to.y b.1.to.title b.1.to.rows b.1.to.len b.1.to.chain b.1.to.begun) b.1.rows))))) ) :
  ∀ (k y:Nat) (acc:List aY),y+k=H->acc.length=y ->
  (∀ out,ij a.rows l k y acc=some out->iter f (⟨sum,jw x acc,some l⟩,(y:Int))=some (.inl ⟨sum,jw x out,some l⟩))/\(ij a.rows l k y acc=none -> ∃ p',iter f (⟨sum,jw x acc,some l⟩,(y:Int))=some (.inr (false,p'))):=by
 intro k
 induction k with
 | zero =>
  intro y acc hy hl
  refine ⟨λout ho=> ?_,λho=>by cases ho⟩
  injection ho with ho
  subst ho
  refine bD ?_
  subst hf
  dsimp only
  rw [decide_eq_false (by omega),cond_false]
 | succ k ih =>
  intro y acc hy hl
  have hgo: ∀ r:aY,(∀ out,ij a.rows l k (y+1) (acc++[r])=some out->iter f (⟨sum,jw x (acc++[r]),some l⟩,((y+1:Nat):Int))=some (.inl ⟨sum,jw x out,some l⟩))/\(ij a.rows l k (y+1) (acc++[r])=none -> ∃ p',iter f (⟨sum,jw x (acc++[r]),some l⟩,((y+1:Nat):Int))=some (.inr (false,p'))):=λr=>ih (y+1) (acc++[r]) (by omega) (by simp [hl])
  have hap:chk (cQ acc.length 1 32)=some ():=bQ (by omega)
  have hwr:IntKind.i64.wrap ((y:Int)+1)=((y+1:Nat):Int):=by rw [w64 (by omega) (by omega)]; rfl
  -- a step that goes on with a row
  have hon: ∀ r:aY,f (⟨sum,jw x acc,some l⟩,(y:Int))=some (.inl (⟨sum,jw x (acc++[r]),some l⟩,((y+1:Nat):Int)))->ij a.rows l (k+1) y acc=ij a.rows l k (y+1) (acc++[r])->(∀ out,ij a.rows l (k+1) y acc=some out->iter f (⟨sum,jw x acc,some l⟩,(y:Int))=some (.inl ⟨sum,jw x out,some l⟩))/\(ij a.rows l (k+1) y acc=none -> ∃ p',iter f (⟨sum,jw x acc,some l⟩,(y:Int))=some (.inr (false,p'))):=by
   intro r h1 h2
   rw [h2,bY h1]
   exact hgo r
  have hoff:(∃ p',f (⟨sum,jw x acc,some l⟩,(y:Int))=some (.inr (.inr (false,p'))))->ij a.rows l (k+1) y acc=none->(∀ out,ij a.rows l (k+1) y acc=some out->iter f (⟨sum,jw x acc,some l⟩,(y:Int))=some (.inl ⟨sum,jw x out,some l⟩))/\(ij a.rows l (k+1) y acc=none -> ∃ p',iter f (⟨sum,jw x acc,some l⟩,(y:Int))=some (.inr (false,p'))):=by
   rintro ⟨p',h1⟩ h2
   rw [h2]
   exact ⟨λout ho=>(by cases ho),λ_=>⟨p',bD h1⟩⟩
  have hd:decide ((y:Int) < x.h)=true:=decide_eq_true (by omega)
  cases hm:mgl (y:Int) l with
  | some r =>
   have m1:gL (some l) (y:Int)=true:=by simp [gL,hm]
   have m2: ∀ z,mgd (some l) (y:Int) z=r:=λz=>by simp [mgd,hm]
   by_cases hya:y < a.rows.length
   ·have e1:a.rows[y]?=some a.rows[y]:=List.getElem?_eq_getElem hya
    by_cases hq:a.rows[y]=r
    ·refine hoff ⟨⟨sum,jw x acc,some l⟩,?_⟩ (by simp only [ij,hm,e1,if_pos hq])
     subst hf
     dsimp only
     rw [hd,cond_true,tP a y hya,aA]
     dsimp only
     rw [m1,m2,cond_true,cond_true,vz _ _ (ha _ (List.getElem_mem hya)),decide_eq_true hq]
     rfl
    ·refine hon r ?_ (by simp only [ij,hm,e1,if_neg hq])
     subst hf
     dsimp only
     rw [hd,cond_true,tP a y hya,aA]
     dsimp only
     rw [m1,m2,cond_true,cond_true,vz _ _ (ha _ (List.getElem_mem hya)),decide_eq_false hq]
     show Option.bind (chk (cQ acc.length 1 32)) _=_
     rw [hap,aA,hwr]
     rfl
   ·have e1:a.rows[y]?=none:=List.getElem?_eq_none (by omega)
    refine hon r ?_ (by simp only [ij,hm,e1])
    subst hf
    dsimp only
    rw [hd,cond_true,ve a y hya,aA]
    dsimp only
    rw [m1,m2]
    show Option.bind (chk (cQ acc.length 1 32)) _=_
    rw [hap,aA,hwr]
    rfl
  | none =>
   have m1:gL (some l) (y:Int)=false:=by simp [gL,hm]
   by_cases hya:y < a.rows.length
   ·have e1:a.rows[y]?=some a.rows[y]:=List.getElem?_eq_getElem hya
    refine hon a.rows[y] ?_ (by simp only [ij,hm,e1])
    subst hf
    dsimp only
    rw [hd,cond_true,tP a y hya,aA]
    dsimp only
    rw [m1]
    show Option.bind (chk (cQ acc.length 1 32)) _=_
    rw [hap,aA,hwr]
    rfl
   ·have e1:a.rows[y]?=none:=List.getElem?_eq_none (by omega)
    refine hoff ⟨⟨sum,jw x acc,some l⟩,?_⟩ (by simp only [ij,hm,e1])
    subst hf
    dsimp only
    rw [hd,cond_true,ve a y hya,aA]
    dsimp only
    rw [m1]
    rfl
def mK (a:aN) (s:ByteArray):aN×Int :=
 if nk a=false then (jc,1)
 else if jL (zR s).2≠0 then (jc,jL (zR s).2)
 else if (zA s).1≠((jo (jv a):Nat):Int) then (jc,7)
 else match ij a.rows (zR s).1 (zD s).1.toNat 0 [] with
  | none=>(jc,1)
  | some l=>if oC (jw (zS s) l) then (jc,1) else (jw (zS s) l,0)
theorem vf {i:aG} (hV:VI i) (h:jL i=0):i.e=0/\i.s=noS:=by
 unfold jL at h
 split at h
 ·cases h
 ·rename_i h1
  exact ⟨h,Classical.not_not.1 h1⟩
theorem zVI {s:ByteArray} (h:s.size<=1000000):VI (zB s).2/\VI (zC s).2/\VI (zF s).2/\VI (zH s).2/\VI (zK s).2/\VI (zN s).2/\VI (zR s).2:=by
 have v0:VI (⟨s,0⟩:aG):=⟨h,.inl rfl⟩
 have vB:VI (zB s).2:=fu (fu v0)
 have vC:VI (zC s).2:=fE _ vB
 have vF:VI (zF s).2:=fu (fu (fE _ vC))
 have vH:VI (zH s).2:=fu (fu (rF vF))
 have vK:VI (zK s).2:=rG vH
 have vN:VI (zN s).2:=fu vK
 exact ⟨vB,vC,vF,vH,vK,vN,CC _ _ _ _ _ _ vN⟩
def prl (l:List (Int×aY)):List Int:=l.flatMap λp=>cH p.1++fF p.2
theorem EH {i:aG} (hV:VI i) (h:(rdS i).2.e=0):i.e=0/\sbs i.s=cH (rdS i).1++sbs (rdS i).2.s:=by
 obtain ⟨h1,w,h2,h3,h4⟩:=uZ h hV
 exact ⟨h1,by rw [h2,jK h3]; exact h4⟩
theorem vg: ∀ (k:Nat) (w h:Int) (i:aG) (last:Int) (l:List (Int×aY)),VI i->(dlL k w h i last l).2.e=0 -> ∃ D,prl (dlL k w h i last l).1=prl l++D/\sbs i.s=D++sbs (dlL k w h i last l).2.s
 | 0,w,h,i,last,l,hV,he=>⟨[],by simp [dlL],by simp [dlL]⟩
 | k+1,w,h,i,last,l,hV,he=>by
  have hi:=Fs _ _ _ _ _ _ he
  unfold dlL at he ⊢
  rw [if_pos hi] at he ⊢
  have h0:=Fs _ _ _ _ _ _ he
  have h1:=vW (kW hV) h0
  obtain ⟨h2,h3,h4⟩:=yU h1
  obtain ⟨D,d1,d2⟩:=vg k w h _ _ _ (qq (kW hV)) he
  have hr:(rdS i).2.e=0:=by rw [<- h4]; exact h1
  obtain ⟨-,h5⟩:=EH hV hr
  have h6:=yP (kW (h:=h) (last:=last) hV) h0
  refine ⟨cH (rdS i).1++fF (ig (dlI h i last) w).1++D,?_,?_⟩
  ·rw [d1]
   unfold prl
   rw [List.flatMap_append,List.flatMap_singleton]
   simp only [List.append_assoc]
  ·rw [h5,<- h4,h6,d2]
   simp only [List.append_assoc]
theorem Gc {i:aG} {m:Nat} (h:SZ m i):(lR i).2.s.size<=m:=by
 by_cases he:(lR i).2.e=0
 ·obtain ⟨-,hw⟩:=Ck h.1 he
  have:=congrArg List.length hw
  rw [List.length_append,bC,bC] at this
  have:=h.2
  omega
 ·rcases (rF h.1).2 with h1 | h1
  ·exact absurd h1 he
  ·rw [h1]; exact Nat.zero_le _
theorem GX {i:aG} {m:Nat} (h:SZ m i):(bkS i).2.s.size<=m:=by
 by_cases he:(bkS i).2.e=0
 ·obtain ⟨-,hw⟩:=vb h.1 he
  have:=congrArg List.length hw
  rw [List.length_append,bC,bC] at this
  have:=h.2
  omega
 ·rcases (rG h.1).2 with h1 | h1
  ·exact absurd h1 he
  ·rw [h1]; exact Nat.zero_le _
theorem tQ: ∀ (k:Nat) (w h:Int) (i:aG) (last:Int) (l:List (Int×aY)),VI i->w<=1000->(∀ p∈l,okR p.2.cells/\p.2.cells.length<=1000) -> ∀ p∈(dlL k w h i last l).1,okR p.2.cells/\p.2.cells.length<=1000
 | 0,w,h,i,last,l,hV,hw,hl=>hl
 | k+1,w,h,i,last,l,hV,hw,hl=>by
  unfold dlL
  split
  ·refine tQ k w h _ _ _ (qq (kW hV)) hw ?_
   intro p hp
   rcases List.mem_append.1 hp with hp | hp
   ·exact hl p hp
   ·rw [List.mem_singleton.1 hp]
    exact Eu (kW hV) hw
  ·exact hl
theorem kX {α:Type} {k:Int} {x:α}: ∀ {l:List (Int×α)},mgl k l=some x->(k,x)∈l
 | [],h=>by cases h
 | (j,y)::l,h=>by
  simp only [mgl] at h
  split at h
  ·rename_i hk
   injection h with h
   subst h hk
   exact List.mem_cons_self ..
  ·exact List.mem_cons_of_mem _ (kX h)
theorem tR {A:List aY} {l:List (Int×aY)} (Q:aY->Prop) (hA: ∀ r∈A,Q r) (hl: ∀ p∈l,Q p.2): ∀ (k y:Nat) (acc out:List aY),ij A l k y acc=some out->(∀ r∈acc,Q r)->(∀ r∈out,Q r)/\out.length=acc.length+k
 | 0,y,acc,out,h,hacc=>by
  injection h with h
  subst h
  exact ⟨hacc,rfl⟩
 | k+1,y,acc,out,h,hacc=>by
  have go: ∀ r,Q r->ij A l k (y+1) (acc++[r])=some out->(∀ r∈out,Q r)/\out.length=acc.length+(k+1):=by
   intro r hr h2
   obtain ⟨h3,h4⟩:=tR Q hA hl k (y+1) (acc++[r]) out h2 (λq hq=>by
    rcases List.mem_append.1 hq with hq | hq
    ·exact hacc q hq
    ·rw [List.mem_singleton.1 hq]; exact hr)
   refine ⟨h3,h4.trans ?_⟩
   simp only [List.length_append,List.length_cons,List.length_nil]
   omega
  simp only [ij] at h
  split at h
  ·rename_i r q h1 h2
   split at h
   ·cases h
   ·exact go r (hl _ (kX h1)) h
  ·rename_i r h1 h2
   exact go r (hl _ (kX h1)) h
  ·rename_i q h1 h2
   exact go q (hA _ (List.mem_of_getElem? h2)) h
  ·cases h
def tot (y:Int):List (Int×aY)->Nat
 | []=>0
 | (j,z)::l=>(if y<=j then (fF z).length else 0)+tot y l
theorem tS (y:Int): ∀ l,tot (y+1) l<=tot y l
 | []=>Nat.le_refl _
 | (j,z)::l=>by
  have:=tS y l
  simp only [tot]
  by_cases h1:y+1<=j
  ·rw [if_pos h1,if_pos (by omega)]; omega
  ·rw [if_neg h1]; omega
theorem vY (y:Int) {r:aY}: ∀ l,mgl y l=some r->(fF r).length+tot (y+1) l<=tot y l
 | [],h=>by cases h
 | (j,z)::l,h=>by
  simp only [mgl] at h
  simp only [tot]
  split at h
  ·rename_i hk
   injection h with h
   subst h hk
   have:=tS y l
   rw [if_neg (by omega),if_pos (Int.le_refl _)]
   omega
  ·have:=vY y l h
   by_cases h1:y+1<=j
   ·rw [if_pos h1,if_pos (by omega)]; omega
   ·rw [if_neg h1]; omega
theorem yX (y:Int): ∀ l,tot y l<=(prl l).length
 | []=>Nat.le_refl _
 | (j,z)::l=>by
  have:=yX y l
  unfold prl at this ⊢
  simp only [tot,List.flatMap_cons,List.length_append]
  split <;> omega
theorem tT {A:List aY} {l:List (Int×aY)}: ∀ (k y:Nat) (acc out:List aY),ij A l k y acc=some out->(out.flatMap fF).length<=(acc.flatMap fF).length+tot (y:Int) l+((A.drop y).flatMap fF).length
 | 0,y,acc,out,h=>by
  injection h with h
  subst h
  omega
 | k+1,y,acc,out,h=>by
  have hn:=tS (y:Int) l
  have e1:((y+1:Nat):Int)=(y:Int)+1:=rfl
  have hd: ∀ q,A[y]?=some q->((A.drop y).flatMap fF).length=(fF q).length+((A.drop (y+1)).flatMap fF).length:=by
   intro q hq
   obtain ⟨h1,h2⟩:=List.getElem?_eq_some_iff.1 hq
   rw [List.drop_eq_getElem_cons h1,List.flatMap_cons,List.length_append,h2]
  have go: ∀ r,ij A l k (y+1) (acc++[r])=some out->(out.flatMap fF).length<=(acc.flatMap fF).length+(fF r).length+tot ((y:Int)+1) l+((A.drop (y+1)).flatMap fF).length:=by
   intro r h2
   have:=tT k (y+1) (acc++[r]) out h2
   rw [List.flatMap_append,List.flatMap_singleton,List.length_append,e1] at this
   exact this
  have hdd:((A.drop (y+1)).flatMap fF).length<=((A.drop y).flatMap fF).length:=by
   by_cases hy:y < A.length
   ·rw [hd _ (List.getElem?_eq_getElem hy)]; omega
   ·rw [List.drop_eq_nil_of_le (by omega:A.length<=y+1)]
    exact Nat.zero_le _
  simp only [ij] at h
  split at h
  ·rename_i r q h1 h2
   split at h
   ·cases h
   ·have:=go r h
    have:=vY (y:Int) l h1
    omega
  ·rename_i r h1 h2
   have:=go r h
   have:=vY (y:Int) l h1
   omega
  ·rename_i q h1 h2
   have:=go q h
   have:=hd q h2
   omega
  ·cases h
theorem CE {s:ByteArray} (h:s.size<=1000000) (he:(zR s).2.e=0):(prl (zR s).1).length<=s.size:=by
 obtain ⟨vB,vC,vF,vH,vK,vN,vR⟩:=zVI h
 obtain ⟨D,h1,h2⟩:=vg _ _ _ _ _ _ vN he
 have hD:prl (zR s).1=D:=h1
 have h3:=congrArg List.length h2
 rw [List.length_append,bC,<- hD] at h3
 have v0:SZ s.size (⟨s,0⟩:aG):=⟨⟨h,.inl rfl⟩,Nat.le_refl _⟩
 have s1:SZ s.size (zF s).2:=kU (kU (vQ _ (vQ _ (kU (kU v0)))))
 have s2:SZ s.size (zT s).2:=⟨rF s1.1,Gc s1⟩
 have s3:SZ s.size (zH s).2:=kU (kU s2)
 have s4:SZ s.size (zK s).2:=⟨rG s3.1,GX s3⟩
 have s5:=(kU s4).2
 have:(zN s).2.s.size<=s.size:=s5
 omega
theorem qB {a:aN} {s:ByteArray} {l:List aY} (ha:SW a) (pa:(a.rows.flatMap fF).length<=12000) (h:s.size<=100000) (ht:(zT s).1.size<=12000) (he:(zR s).2.e=0) (hl:ij a.rows (zR s).1 (zD s).1.toNat 0 []=some l):SW (jw (zS s) l)/\(l.flatMap fF).length<=200000:=by
 obtain ⟨vB,vC,vF,vH,vK,vN,vR⟩:=zVI (s:=s) (by omega)
 have b1:=gk (m:=1000) vB (by omega)
 have c1:=gk (m:=1000) vC (by omega)
 have hw1:0<=(zC s).1:=b1.1
 have hw2:(zC s).1<=1000:=b1.2
 have hh1:0<=(zD s).1:=c1.1
 have hh2:(zD s).1<=1000:=c1.2
 have bo:=Cm vH
 have hrows:=tQ (zN s).1.toNat (zC s).1 (zD s).1 (zN s).2 (-1) [] vN hw2 (λp hp=>by cases hp)
 obtain ⟨p1,p2⟩:=tR (λr=>okR r.cells/\r.cells.length<=1000) ha.ro hrows _ _ _ _ hl (λr hr=>by cases hr)
 have p3:=tT _ _ _ _ hl
 have p4:=yX ((0:Nat):Int) (zR s).1
 have p5:=CE (by omega) he
 have p6:((a.rows.drop 0).flatMap fF).length<=12000:=by simpa using pa
 refine ⟨⟨?_,?_,bo.1,p1,?_,Nat.le_trans bo.2 (by decide),ht⟩,?_⟩
 ·show _<=(zC s).1/\(zC s).1<=_
  omega
 ·show _<=(zD s).1/\(zD s).1<=_
  omega
 ·show l.length<=1000
  rw [p2]
  simp only [List.length_nil]
  omega
 ·simp only [List.flatMap_nil,List.length_nil] at p3
  omega
theorem CF (a:aN) (s:ByteArray) (ha:SW a) (pa:(a.rows.flatMap fF).length<=12000) (h:s.size<=100000) (ht:(zT s).1.size<=12000) (he:(zR s).2.e=0) (sum:Int) :
  (∀ l,ij a.rows (zR s).1 (zD s).1.toNat 0 []=some l->eX ⟨sum,zS s,some (zR s).1⟩ a=some (!oC (jw (zS s) l),⟨sum,jw (zS s) l,some (zR s).1⟩))/\(ij a.rows (zR s).1 (zD s).1.toNat 0 []=none -> ∃ p',eX ⟨sum,zS s,some (zR s).1⟩ a=some (false,p')):=by
 obtain ⟨vB,vC,vF,vH,vK,vN,vR⟩:=zVI (s:=s) (by omega)
 have c1:=gk (m:=1000) vC (by omega)
 have hh1:0<=(zD s).1:=c1.1
 have hh2:(zD s).1<=1000:=c1.2
 have har: ∀ r∈a.rows,r.cells.length<=1000000:=λr hr=>by have:=(ha.ro r hr).2; omega
 obtain ⟨H,hH⟩:=Int.eq_ofNat_of_zero_le hh1
 obtain ⟨b1,b2⟩:=yW sum (zS s) a (zR s).1 H (by omega) hH har _ rfl H 0 [] (by omega) rfl
 have hH2:(zD s).1.toNat=H:=by rw [hH,Int.toNat_natCast]
 have hz:jw (zS s) []=zS s:=rfl
 rw [hz] at b1 b2
 refine ⟨λl hl=> ?_,λhl=> ?_⟩
 ·obtain ⟨SWx,pl⟩:=qB ha pa h ht he hl
  rw [hH2] at hl
  have e:=b1 l hl
  unfold eX
  refine (congrArg (λz=>Option.bind z _) e).trans ?_
  rw [aA]
  dsimp only
  have hm:jD (jw (zS s) l)=some (!oC (jw (zS s) l)):=CA _ SWx (by show (l.flatMap fF).length<=1000000; omega)
  show Option.bind (jD (jw (zS s) l)) _=_
  rw [hm,aA]
 ·rw [hH2] at hl
  obtain ⟨p',this⟩:=b2 hl
  refine ⟨p',?_⟩
  unfold eX
  refine (congrArg (λz=>Option.bind z _) this).trans ?_
  rw [aA]
theorem CH (a:aN) (s:ByteArray) (ha:SW a) (pa:(a.rows.flatMap fF).length<=12000) (h:s.size<=100000) (ht:(zT s).1.size<=12000):ke a s=some (mK a s):=by
 obtain ⟨vB,vC,vF,vH,vK,vN,vR⟩:=zVI (s:=s) (by omega)
 unfold ke mK
 rw [xo a ha,aA]
 cases hm:nk a with
 | false=>rw [if_neg (by simp),if_pos rfl]; rfl
 | true =>
  rw [if_pos rfl,if_neg (by simp)]
  obtain ⟨m',r1,r2⟩:=CD s (by omega)
  have k0:((0:Int) != 0)=false:=rfl
  rw [k0,cond_false,r1,aA]
  dsimp only
  by_cases he:jL (zR s).2=0
  ·have k1:(jL (zR s).2 != 0)=false:=by simp [he]
   rw [k1,cond_false,if_neg (λhh=>hh he),ED a ha pa,aA]
   obtain ⟨he0, -⟩:=vf vR he
   obtain rfl:=r2 he0
   by_cases hs:(zA s).1=((jo (jv a):Nat):Int)
   ·have k2:((zA s).1 != ((jo (jv a):Nat):Int))=false:=by simp [hs]
    rw [k2,cond_false,if_neg (λhh=>hh hs)]
    obtain ⟨b1,b2⟩:=CF a s ha pa h ht he0 (zA s).1
    cases hl:ij a.rows (zR s).1 (zD s).1.toNat 0 [] with
    | none =>
     obtain ⟨p',b3⟩:=b2 hl
     rw [b3,aA]
     rfl
    | some l =>
     obtain ⟨SWx,pl⟩:=qB ha pa h ht he0 hl
     rw [b1 l hl,aA]
     dsimp only
     cases hn:oC (jw (zS s) l) with
     | true=>rfl
     | false =>
      rw [Bool.not_false,Bool.not_true,cond_false,if_neg (by simp),nI _ SWx,aA]
   ·have k2:((zA s).1 != ((jo (jv a):Nat):Int))=true:=by simp [hs]
    rw [k2,cond_true,if_pos hs]
    rfl
  ·have k1:(jL (zR s).2 != 0)=true:=by simp [he]
   rw [k1,cond_true,if_pos he]
   rfl
def o6 (l:List (Int×aY)) (H:Nat):List Bool:=(List.range H).map λy:Nat=>(mgl (y:Int) l).isSome
def lS (l:List (Int×aY)) (H:Nat):List aY:=(List.range H).map λy:Nat=>(mgl (y:Int) l).getD tF
theorem CI (l:List (Int×aY)) (H:Nat):(o6 l H).length=H:=by simp [o6]
theorem xA (l:List (Int×aY)) (H:Nat):(lS l H).length=H:=by simp [lS]
theorem qC (l:List (Int×aY)) (k j:Int) (x:aY) (hn: ∀ p∈l,p.1≠j):mgl k (l++[(j,x)])=if k=j then some x else mgl k l:=by
 induction l with
 | nil=>simp [mgl]
 | cons p l ih =>
  obtain ⟨i,z⟩:=p
  simp only [List.cons_append,mgl]
  have hi:i≠j:=hn (i,z) (by simp)
  by_cases h:k=i
  ·rw [if_pos h,if_neg (by omega),if_pos h]
  ·rw [if_neg h,ih λp hp=>hn p (by simp [hp]),if_neg h]
theorem CJ (l:List (Int×aY)) (H j:Nat) (x:aY) (hj:j < H) (hn: ∀ p∈l,p.1≠(j:Int)):(o6 l H).set j true=o6 (l++[((j:Int),x)]) H:=by
 apply List.ext_getElem?
 intro i
 rw [List.getElem?_set]
 unfold o6
 simp only [List.getElem?_map,List.length_map,List.length_range]
 by_cases h:j=i
 ·subst h
  rw [if_pos rfl,if_pos hj,List.getElem?_range hj]
  simp [qC _ _ _ _ hn]
 ·rw [if_neg h]
  by_cases hi:i < H
  ·rw [List.getElem?_range hi]
   simp only [Option.map_some]
   rw [qC _ _ _ _ hn,if_neg (by omega)]
  ·rw [List.getElem?_eq_none (by simpa using hi)]
   rfl
theorem CK (l:List (Int×aY)) (H j:Nat) (x:aY) (hj:j < H) (hn: ∀ p∈l,p.1≠(j:Int)):(lS l H).set j x=lS (l++[((j:Int),x)]) H:=by
 apply List.ext_getElem?
 intro i
 rw [List.getElem?_set]
 unfold lS
 simp only [List.getElem?_map,List.length_map,List.length_range]
 by_cases h:j=i
 ·subst h
  rw [if_pos rfl,if_pos hj,List.getElem?_range hj]
  simp [qC _ _ _ _ hn]
 ·rw [if_neg h]
  by_cases hi:i < H
  ·rw [List.getElem?_range hi]
   simp only [Option.map_some]
   rw [qC _ _ _ _ hn,if_neg (by omega)]
  ·rw [List.getElem?_eq_none (by simpa using hi)]
   rfl
theorem CN (H:Nat):o6 [] H=List.replicate H false:=by
 apply List.ext_getElem?
 intro i
 unfold o6
 simp only [List.getElem?_map,List.getElem?_replicate]
 by_cases hi:i < H
 ·rw [List.getElem?_range hi,if_pos hi]; rfl
 ·rw [List.getElem?_eq_none (by simpa using hi),if_neg hi]; rfl
theorem CO (H:Nat):(lS [] H).map told=List.replicate H (told tF):=by
 apply List.ext_getElem?
 intro i
 unfold lS
 simp only [List.getElem?_map,List.getElem?_replicate]
 by_cases hi:i < H
 ·rw [List.getElem?_range hi,if_pos hi]; rfl
 ·rw [List.getElem?_eq_none (by simpa using hi),if_neg hi]; rfl
theorem nK (l:List (Int×aY)) {H y:Nat} (h:y < H):idx (o6 l H) (y:Int)=some (mgl (y:Int) l).isSome:=by
 rw [bK _ _ (by rw [CI]; exact h)]
 simp [o6]
theorem CP (l:List (Int×aY)) {H y:Nat} (h:y < H):(lS l H)[y]?=some ((mgl (y:Int) l).getD tF):=by
 unfold lS
 rw [List.getElem?_map,List.getElem?_range h]
 rfl
theorem Gd (x:aN) (H N:Nat) (hH:H<=1000) (hh:x.h=(H:Int)) (hw:x.w<=1000) (hN:N<=4611686018427387904) (f:aW×(List Bool)×(List bN)×Int×Int->Option ((aW×(List Bool)×(List bN)×Int×Int) ⊕ (((List Bool)×(List bN)×aW) ⊕ (bJ×Int)))) (hf:f=(λa=>(bif (decide (a.2.2.2.2 < (N:Int))) then (Option.bind (bG a.1) λb=>(Option.bind ((bif (b.1.e == 0) then (bif (decide (b.2<=a.2.2.2.1)) then some true else some (decide (b.2>=x.h))) else some false):Option Bool) λd=>(bif d then (fH (some ((bJ.mk 0 0 0 0 0 (ByteArray.mk #[]) ([]:List bN) 0 0 ([]:List aQ)),1))) else (Option.bind (gK b.1 x.w) λc=>(bif (c.1.e != 0) then (fH (some ((bJ.mk 0 0 0 0 0 (ByteArray.mk #[]) ([]:List bN) 0 0 ([]:List aQ)),c.1.e))) else (Option.bind (idx a.2.1 b.2) λg=>(Option.bind (idx a.2.2.1 b.2) λj=>some (.inl (c.1,(a.2.1.set b.2.toNat true),(a.2.2.1.set b.2.toNat c.2),b.2,(IntKind.i64.wrap (a.2.2.2.2+1))))))))))) else some (.inr (.inl (a.2.1,a.2.2.1,a.1))))) ) :
  ∀ (k n:Nat) (i:aG) (last:Int) (l:List (Int×aY)),n+k=N->VI i->i.e=0 -> -1<=last->(∀ p∈l,p.1<=last) ->
  iter f (asR i,o6 l H,(lS l H).map told,last,(n:Int))=some (if (dlL k x.w x.h i last l).2.e=0 then .inl (o6 (dlL k x.w x.h i last l).1 H,(lS (dlL k x.w x.h i last l).1 H).map told,asR (dlL k x.w x.h i last l).2) else .inr (fN jc,(dlL k x.w x.h i last l).2.e)):=by
 intro k
 induction k with
 | zero =>
  intro n i last l hn hV he h1 hl
  have e0:dlL 0 x.w x.h i last l=(l,i):=rfl
  rw [e0,if_pos he]
  refine bD ?_
  subst hf
  dsimp only
  rw [decide_eq_false (by omega),cond_false]
 | succ k ih =>
  intro n i last l hn hV he h1 hl
  have hrr:=kl hV
  have hd:dlL (k+1) x.w x.h i last l=dlL k x.w x.h (ig (dlI x.h i last) x.w).2 (rdS i).1 (l++[((rdS i).1,(ig (dlI x.h i last) x.w).1)]):=by
   conv=>lhs; unfold dlL
   rw [if_pos he]
  rw [hd]
  have hcond:((bif ((asR (rdS i).2).e == 0) then (bif (decide ((rdS i).1<=last)) then some true else some (decide ((rdS i).1>=x.h))) else some false):Option Bool)=some (decide ((rdS i).2.e=0/\((rdS i).1<=last\/(rdS i).1>=x.h))):=by
   rw [nH,or2]
   by_cases h0:(rdS i).2.e=0
   ·have:((rdS i).2.e == 0)=true:=by simpa using h0
    rw [this,cond_true]
    simp [h0]
   ·have:((rdS i).2.e == 0)=false:=by simpa using h0
    rw [this,cond_false]
    simp [h0]
  by_cases hrow:(ig (dlI x.h i last) x.w).2.e=0
  ·-- all right
   obtain ⟨h2,h3,h4⟩:=yU (vW (kW hV) hrow)
   have h5:(rdS i).2.e=0:=by rw [<- h4]; exact vW (kW hV) hrow
   obtain ⟨y,hy⟩:=Int.eq_ofNat_of_zero_le hrr.1
   have hyH:y < H:=by omega
   have hnew: ∀ p∈l,p.1≠(y:Int):=λp hp e=>by have:=hl p hp; omega
   rw [bY (s':=(asR (ig (dlI x.h i last) x.w).2,o6 (l++[((rdS i).1,(ig (dlI x.h i last) x.w).1)]) H,(lS (l++[((rdS i).1,(ig (dlI x.h i last) x.w).1)]) H).map told,(rdS i).1,((n+1:Nat):Int)))]
   ·refine ih (n+1) _ _ _ (by omega) (qq (kW hV)) hrow (by omega) ?_
    intro p hp
    rcases List.mem_append.1 hp with hp | hp
    ·have:=hl p hp
     omega
    ·rw [List.mem_singleton.1 hp]
     exact Int.le_refl _
   ·subst hf
    dsimp only
    rw [decide_eq_true (by omega),cond_true,gj _ hV,aA]
    dsimp only
    rw [hcond,decide_eq_false (by omega),aA,cond_false,<- h4,sg _ _ (kW hV) hw,aA]
    have k1:((asR (ig (dlI x.h i last) x.w).2).e != 0)=false:=by rw [nH]; simpa using hrow
    dsimp only
    rw [k1,cond_false,hy,nK l hyH,aA,bK _ _ (by rw [List.length_map,xA]; exact hyH),aA,Int.toNat_natCast,w64 (by omega) (by omega),<- CJ l H y _ hyH hnew,<- CK l H y _ hyH hnew,List.map_set]
    rfl
  ·rw [qA _ _ _ _ _ _ hrow,if_neg hrow]
   refine bD ?_
   subst hf
   dsimp only
   rw [decide_eq_true (by omega),cond_true,gj _ hV,aA]
   dsimp only
   rw [hcond]
   by_cases hc:(rdS i).2.e=0/\((rdS i).1<=last\/(rdS i).1>=x.h)
   ·rw [decide_eq_true hc,aA,cond_true]
    have h6:dlI x.h i last=jn:=by
     unfold dlI
     rw [if_pos hc.2]
     unfold sq
     rw [if_pos hc.1]
    have h7:(ig jn x.w).2.e=1:=by
     have:(cD jn 1).2=jn:=by
      have:=qo (i:=jn) (by decide) 1 (by omega)
      exact this
     unfold ig
     rw [this]
     have h8:rrS (x.w.toNat+1) x.w jn []=([],jn):=by
      unfold rrS
      rw [if_neg (λhh=>absurd hh.2 (by decide))]
     rw [h8,if_neg (by decide)]
     rfl
    rw [h6,h7]
    rfl
   ·rw [decide_eq_false hc,aA,cond_false]
    have h6:dlI x.h i last=if (rdS i).2.e=0 then (rdS i).2 else (rdS i).2:=by
     unfold dlI
     by_cases h0:(rdS i).2.e=0
     ·rw [if_pos h0,if_neg (λhh=>hc ⟨h0,hh⟩)]
     ·rw [if_neg h0]
      split
      ·unfold sq
       rw [if_neg h0]
      ·rfl
    have h7:dlI x.h i last=(rdS i).2:=by rw [h6]; split <;> rfl
    rw [<- h7,sg _ _ (kW hV) hw,aA]
    have k1:((asR (ig (dlI x.h i last) x.w).2).e != 0)=true:=by rw [nH]; simpa using hrow
    dsimp only
    rw [k1,cond_true]
    rfl
theorem Ge (a:aN) (l:List (Int×aY)) (H:Nat) (hH:H<=1000) (ha: ∀ r∈a.rows,r.cells.length<=1000000) (hl: ∀ p∈l,p.2.cells.length<=1000000) (f:(List bN)×Int->Option (((List bN)×Int) ⊕ ((List bN) ⊕ (bJ×Int)))) (hf:f=(λb=>(bif (decide (b.2 < (((lS l H).map told).length:Int))) then (Option.bind ((Option.bind ((Option.bind (idx (o6 l H) b.2) λc=>(bif (!c) then (bif (decide (b.2>=((fN a).rows.length:Int))) then some true else (Option.bind (idx (o6 l H) b.2) λd=>(bif d then (bif (decide (b.2 < ((fN a).rows.length:Int))) then (Option.bind (idx b.1 b.2) λe=>(Option.bind (idx (fN a).rows b.2) λg=>(Option.bind (gU e g) λh=>some h))) else some false) else some false))) else (Option.bind (idx (o6 l H) b.2) λi=>(bif i then (bif (decide (b.2 < ((fN a).rows.length:Int))) then (Option.bind (idx b.1 b.2) λj=>(Option.bind (idx (fN a).rows b.2) λm=>(Option.bind (gU j m) λn=>some n))) else some false) else some false)))):Option Bool) λo=>(bif o then (nA (fH (some ((bJ.mk 0 0 0 0 0 (ByteArray.mk #[]) ([]:List bN) 0 0 ([]:List aQ)),1)))) else (Option.bind (idx (o6 l H) b.2) λq=>(bif (!q) then (Option.bind (idx (fN a).rows b.2) λs=>(Option.bind (idx b.1 b.2) λt=>some (.inl (b.1.set b.2.toNat s)))) else some (.inl b.1))))):Option ((List bN) ⊕ (((List bN)×Int) ⊕ ((List bN) ⊕ (bJ×Int))))) λ | .inl e4726=>some (.inl (e4726,(IntKind.i64.wrap (b.2+1)))) | .inr w=>some w) else some (.inr (.inl b.1)))) ) :
  ∀ (k y:Nat) (acc:List aY),y+k=H->acc.length=y ->
  iter f (acc.map told++((lS l H).map told).drop y,(y:Int))=some (match ij a.rows l k y acc with | some out=> .inl (out.map told) | none=> .inr (fN jc,1)):=by
 have lr:((lS l H).map told).length=H:=by rw [List.length_map,xA]
 have la:(fN a).rows.length=a.rows.length:=List.length_map ..
 intro k
 induction k with
 | zero =>
  intro y acc hy hacc
  refine bD ?_
  subst hf
  dsimp only
  rw [decide_eq_false (by omega),cond_false,List.drop_eq_nil_of_le (by omega),List.append_nil]
  rfl
 | succ k ih =>
  intro y acc hy hacc
  have hyH:y < H:=by omega
  have hcell:(((lS l H).map told).drop y)=told ((mgl (y:Int) l).getD tF)::((lS l H).map told).drop (y+1):=by
   rw [List.drop_eq_getElem_cons (by omega)]
   congr 1
   have:=CP l hyH
   rw [List.getElem_map]
   congr 1
   exact Option.some.inj ((List.getElem?_eq_getElem _).symm.trans this)
  have haccl:(acc.map told).length=y:=by rw [List.length_map]; exact hacc
  have hat:idx (acc.map told++told ((mgl (y:Int) l).getD tF)::((lS l H).map told).drop (y+1)) (y:Int)=some (told ((mgl (y:Int) l).getD tF)):=B7 (by rw [haccl])
  rw [hcell]
  have hset: ∀ r:aY,(acc.map told++told ((mgl (y:Int) l).getD tF)::((lS l H).map told).drop (y+1)).set y (told r)=(acc++[r]).map told++((lS l H).map told).drop (y+1):=by
   intro r
   rw [B8 (by rw [haccl]),List.map_append]
   simp
  have hon: ∀ r:aY,f (acc.map told++told ((mgl (y:Int) l).getD tF)::((lS l H).map told).drop (y+1),(y:Int))=some (.inl ((acc++[r]).map told++((lS l H).map told).drop (y+1),((y+1:Nat):Int)))->ij a.rows l (k+1) y acc=ij a.rows l k (y+1) (acc++[r])->iter f (acc.map told++told ((mgl (y:Int) l).getD tF)::((lS l H).map told).drop (y+1),(y:Int))=some (match ij a.rows l (k+1) y acc with | some out=> .inl (out.map told) | none=> .inr (fN jc,1)):=by
   intro r h1 h2
   rw [h2,bY h1]
   exact ih (y+1) (acc++[r]) (by omega) (by simp [hacc])
  have hd:decide ((y:Int) < (((lS l H).map told).length:Int))=true:=decide_eq_true (by omega)
  have hwr:IntKind.i64.wrap ((y:Int)+1)=((y+1:Nat):Int):=by rw [w64 (by omega) (by omega)]; rfl
  cases hm:mgl (y:Int) l with
  | some r =>
   rw [hm] at hat hset hon
   simp only [Option.getD_some] at hat hset hon ⊢
   have hrc:r.cells.length<=1000000:=hl _ (kX hm)
   have hself:(acc.map told++told r::((lS l H).map told).drop (y+1))=(acc++[r]).map told++((lS l H).map told).drop (y+1):=by simp
   by_cases hya:y < a.rows.length
   ·have e1:a.rows[y]?=some a.rows[y]:=List.getElem?_eq_getElem hya
    have ga:idx (fN a).rows (y:Int)=some (told a.rows[y]):=by rw [bK _ _ (by omega)]; simp
    by_cases hq:a.rows[y]=r
    ·have h2:ij a.rows l (k+1) y acc=none:=by simp only [ij,hm,e1,if_pos hq]
     rw [h2]
     refine bD ?_
     subst hf
     dsimp only
     rw [hd,cond_true,nK l hyH,hm,aA]
     simp only [Option.isSome_some,Bool.not_true,cond_false,aA,cond_true]
     rw [decide_eq_true (show (y:Int) < ((fN a).rows.length:Int) by omega),cond_true,hat,aA,ga,aA,xy _ _ hrc,decide_eq_true hq.symm]
     rfl
    ·refine hon r ?_ (by simp only [ij,hm,e1,if_neg hq])
     subst hf
     dsimp only
     rw [hd,cond_true,nK l hyH,hm,aA]
     simp only [Option.isSome_some,Bool.not_true,cond_false,aA,cond_true]
     rw [decide_eq_true (show (y:Int) < ((fN a).rows.length:Int) by omega),cond_true,hat,aA,ga,aA,xy _ _ hrc,decide_eq_false (λhh=>hq hh.symm),aA,aA,cond_false,aA,hwr,hself]
   ·have e1:a.rows[y]?=none:=List.getElem?_eq_none (by omega)
    refine hon r ?_ (by simp only [ij,hm,e1])
    subst hf
    dsimp only
    rw [hd,cond_true,nK l hyH,hm,aA]
    simp only [Option.isSome_some,Bool.not_true,cond_false,aA,cond_true]
    rw [decide_eq_false (show ¬ (y:Int) < ((fN a).rows.length:Int) by omega),cond_false,aA,cond_false,aA,hwr,hself]
  | none =>
   rw [hm] at hat hset hon
   simp only [Option.getD_none] at hat hset hon ⊢
   by_cases hya:y < a.rows.length
   ·have e1:a.rows[y]?=some a.rows[y]:=List.getElem?_eq_getElem hya
    have ga:idx (fN a).rows (y:Int)=some (told a.rows[y]):=by rw [bK _ _ (by omega)]; simp
    refine hon a.rows[y] ?_ (by simp only [ij,hm,e1])
    subst hf
    dsimp only
    rw [hd,cond_true,nK l hyH,hm,aA]
    simp only [Option.isSome_none,Bool.not_false,cond_true,aA,cond_false]
    rw [decide_eq_false (show ¬ (y:Int)>=((fN a).rows.length:Int) by omega),cond_false,aA,cond_false,ga,aA,hat,aA,aA,hwr,Int.toNat_natCast,hset]
   ·have e1:a.rows[y]?=none:=List.getElem?_eq_none (by omega)
    have h2:ij a.rows l (k+1) y acc=none:=by simp only [ij,hm,e1]
    rw [h2]
    refine bD ?_
    subst hf
    dsimp only
    rw [hd,cond_true,nK l hyH,hm,aA]
    simp only [Option.isSome_none,Bool.not_false,cond_true,aA,cond_false]
    rw [decide_eq_true (show (y:Int)>=((fN a).rows.length:Int) by omega)]
    rfl
theorem Ae {α β:Type} {x:Option α} {y:α} {g:α->Option β} {out:Option β} (h:x=some y) (h2:g y=out):Option.bind x g=out:=by rw [h]; exact h2
theorem jW {i:aG} (h:i.e≠0):rdS i=(0,i):=by unfold rdS; rw [if_neg h]
theorem tU {i:aG} (h:i.e≠0):lR i=(noS,i):=by
 unfold lR
 rw [jW h]
 unfold uC
 rw [if_pos h]
theorem vh {i:aG} (h:i.e≠0) (m:Int) (hm:0<=m):cD i m=(0,i):=by
 unfold cD
 rw [jW h,if_neg (by dsimp only; omega)]
theorem vZ {i:aG} (h:i.e≠0):bkS i=([],i):=by
 unfold bkS
 rw [vh h 1024 (by omega)]
 dsimp only
 rw [sT _ _ _ h,if_neg h]
theorem Gf {s:ByteArray} (h:(zC s).2.e≠0):(zR s).2=(zC s).2:=by
 have e1:(zD s).2=(zC s).2:=by unfold zD; rw [vh h _ (by omega)]
 have e2:(zE s).2=(zC s).2:=by unfold zE; rw [e1,jW h]
 have e3:(zF s).2=(zC s).2:=by unfold zF; rw [e2,jW h]
 have e4:(zT s).2=(zC s).2:=by unfold zT; rw [e3,tU h]
 have e5:(zG s).2=(zC s).2:=by unfold zG; rw [e4,jW h]
 have e6:(zH s).2=(zC s).2:=by unfold zH; rw [e5,jW h]
 have e7:(zK s).2=(zC s).2:=by unfold zK; rw [e6,vZ h]
 have e8:(zN s).2=(zC s).2:=by unfold zN; rw [e7,jW h]
 unfold zR
 rw [e8,qA _ _ _ _ _ _ h]
theorem Gg {s:ByteArray} (h:(zD s).2.e≠0):(zR s).2=(zD s).2:=by
 have e2:(zE s).2=(zD s).2:=by unfold zE; rw [jW h]
 have e3:(zF s).2=(zD s).2:=by unfold zF; rw [e2,jW h]
 have e4:(zT s).2=(zD s).2:=by unfold zT; rw [e3,tU h]
 have e5:(zG s).2=(zD s).2:=by unfold zG; rw [e4,jW h]
 have e6:(zH s).2=(zD s).2:=by unfold zH; rw [e5,jW h]
 have e7:(zK s).2=(zD s).2:=by unfold zK; rw [e6,vZ h]
 have e8:(zN s).2=(zD s).2:=by unfold zN; rw [e7,jW h]
 unfold zR
 rw [e8,qA _ _ _ _ _ _ h]
theorem CQ {i:aG} (hV:VI i) (h:i.e≠0):jL i=i.e:=by
 unfold jL
 rcases hV.2 with h1 | h1
 ·exact absurd h1 h
 ·rw [if_neg (λhh=>hh h1)]
theorem Af {i:aG} (hV:VI i):((bif ((asR (rdS i).2).e == 0) then some (decide ((rdS i).1 > 1000)) else some false):Option Bool)=some (decide ((rdS i).1 > 1000)):=by
 rw [nH]
 by_cases h0:(rdS i).2.e=0
 ·have:((rdS i).2.e == 0)=true:=by simpa using h0
  rw [this,cond_true]
 ·have:((rdS i).2.e == 0)=false:=by simpa using h0
  rw [this,cond_false]
  have h1:(rdS i).1=0:=pJ h0
  rw [h1]
  rfl
theorem A9 (a:aN) (s:ByteArray) (ha:SW a) (pa:(a.rows.flatMap fF).length<=12000) (h:s.size<=100000) (ht:(zT s).1.size<=12000):ki (fN a) s=some (fN (mK a s).1,(mK a s).2):=by
 obtain ⟨vB,vC,vF,vH,vK,vN,vR⟩:=zVI (s:=s) (by omega)
 have v0:VI (⟨s,0⟩:aG):=⟨by show s.size<=1000000; omega,.inl rfl⟩
 have vA:VI (zA s).2:=fu v0
 have vD:VI (zD s).2:=fE _ vC
 have vE:VI (zE s).2:=fu vD
 have vT:VI (zT s).2:=rF vF
 have vG:VI (zG s).2:=fu vT
 unfold ki mK
 rw [Cg a ha,aA]
 cases hm:nk a with
 | false=>rw [if_pos rfl]; rfl
 | true =>
  rw [if_neg (by simp),Bool.not_true,cond_false]
  have e1:bG ⟨s,0⟩=some (asR (zA s).2,(zA s).1):=gj ⟨s,0⟩ v0
  have e2:bG (asR (zA s).2)=some (asR (zB s).2,(zB s).1):=gj _ vA
  have e3:=gj _ vB
  rw [e1,aA]
  dsimp only
  rw [e2,aA]
  dsimp only
  rw [e3,aA]
  dsimp only
  rw [Af vB,aA]
  by_cases hW:(rdS (zB s).2).1 > 1000
  ·have hC:(zC s).2=jn:=by unfold zC cD; rw [if_pos hW]
   have hR:(zR s).2=jn:=by rw [Gf (by rw [hC]; decide),hC]
   have hE:jL (zR s).2=1:=by rw [hR]; rfl
   rw [decide_eq_true hW,cond_true,hE,if_pos (by decide)]
   rfl
  rw [decide_eq_false hW,cond_false]
  have hC:zC s=((rdS (zB s).2).1,(rdS (zB s).2).2):=by unfold zC cD; rw [if_neg hW]
  have hC1:(rdS (zB s).2).1=(zC s).1:=by rw [hC]
  have hC2:(rdS (zB s).2).2=(zC s).2:=by rw [hC]
  rw [hC1,hC2]
  have e4:=gj _ vC
  rw [e4,aA]
  dsimp only
  rw [Af vC,aA]
  by_cases hHH:(rdS (zC s).2).1 > 1000
  ·have hD:(zD s).2=jn:=by unfold zD cD; rw [if_pos hHH]
   have hR:(zR s).2=jn:=by rw [Gg (by rw [hD]; decide),hD]
   have hE:jL (zR s).2=1:=by rw [hR]; rfl
   rw [decide_eq_true hHH,cond_true,hE,if_pos (by decide)]
   rfl
  rw [decide_eq_false hHH,cond_false]
  have hD:zD s=((rdS (zC s).2).1,(rdS (zC s).2).2):=by unfold zD cD; rw [if_neg hHH]
  have hD1:(rdS (zC s).2).1=(zD s).1:=by rw [hD]
  have hD2:(rdS (zC s).2).2=(zD s).2:=by rw [hD]
  rw [hD1,hD2]
  have e5:bG (asR (zD s).2)=some (asR (zE s).2,(zE s).1):=gj _ vD
  have e6:bG (asR (zE s).2)=some (asR (zF s).2,(zF s).1):=gj _ vE
  have e7:fU (asR (zF s).2)=some (asR (zT s).2,(zT s).1):=u6 _ vF
  have e8:bG (asR (zT s).2)=some (asR (zG s).2,(zG s).1):=gj _ vT
  have e9:bG (asR (zG s).2)=some (asR (zH s).2,(zH s).1):=gj _ vG
  rw [e5,aA]
  dsimp only
  rw [e6,aA]
  dsimp only
  rw [e7,aA]
  dsimp only
  rw [e8,aA]
  dsimp only
  rw [e9,aA]
  dsimp only
  have hbook:((bif ((asR (zH s).2).e == 0) then (Option.bind (gS (asR (zH s).2)) λb=>some ((bJ.mk (zB s).1 (zC s).1 (zD s).1 (zE s).1 (zF s).1 (zT s).1 ([]:List bN) (zG s).1 (zH s).1 b.2),b.1)) else some ((bJ.mk (zB s).1 (zC s).1 (zD s).1 (zE s).1 (zF s).1 (zT s).1 ([]:List bN) (zG s).1 (zH s).1 ([]:List aQ)),(asR (zH s).2))):Option (bJ×aW))=some (fN (zS s),asR (zK s).2):=by
   rw [nH]
   by_cases h0:(zH s).2.e=0
   ·have:((zH s).2.e == 0)=true:=by simpa using h0
    rw [this,cond_true,u7 _ vH,aA]
    rfl
   ·have:((zH s).2.e == 0)=false:=by simpa using h0
    rw [this,cond_false]
    have hk:zK s=([],(zH s).2):=vZ h0
    unfold zS
    rw [hk]
    rfl
  rw [hbook,aA]
  dsimp only
  have e10:bG (asR (zK s).2)=some (asR (zN s).2,(zN s).1):=gj _ vK
  rw [e10,aA]
  dsimp only
  rw [nH]
  by_cases hN0:(zN s).2.e=0
  ·have k1:((zN s).2.e != 0)=false:=by simp [hN0]
   rw [k1,cond_false]
   have hn:=kl vK
   have c1:=gk (m:=1000) vC (by omega)
   have b1:=gk (m:=1000) vB (by omega)
   have hw:(zC s).1<=1000:=b1.2
   have hh1:0<=(zD s).1:=c1.1
   have hh2:(zD s).1<=1000:=c1.2
   obtain ⟨N,hN⟩:=Int.eq_ofNat_of_zero_le (show 0<=(zN s).1 from hn.1)
   have hN2:N<=4611686018427387904:=by have:(zN s).1<=4611686018427387904:=hn.2; omega
   obtain ⟨H,hH⟩:=Int.eq_ofNat_of_zero_le hh1
   have hR:zR s=dlL N (zS s).w (zS s).h (zN s).2 (-1) []:=by
    unfold zR
    rw [hN,Int.toNat_natCast]
    rfl
   have hHt:(zD s).1.toNat=H:=by rw [hH,Int.toNat_natCast]
   have hz:(zS s).h=(zD s).1:=rfl
   have hHt2:(zS s).h.toNat=H:=hHt
   have l1:=Gd (zS s) H N (by omega) hH hw hN2 _ rfl N 0 (zN s).2 (-1) [] (by omega) vN hN0 (by omega) (λp hp=>by cases hp)
   rw [<- hR,CN,CO] at l1
   rw [rB (by omega) (by omega) (by omega),aA,rB (by omega) (by omega) (by omega),aA,hHt2,hN,hHt]
   refine Ae l1 ?_
   by_cases he:(zR s).2.e=0
   ·rw [if_pos he]
    dsimp only
    have hst:((zR s).2.s.toList == (ByteArray.mk #[]).toList)=decide ((zR s).2.s=noS):=mm _ noS
    show (bif !((zR s).2.s.toList == (ByteArray.mk #[]).toList) then _ else _)=_
    rw [hst]
    by_cases hs0:(zR s).2.s=noS
    ·have hE:jL (zR s).2=0:=by unfold jL; rw [if_neg (λhh=>hh hs0)]; exact he
     rw [decide_eq_true hs0,Bool.not_true,cond_false,Cy a ha pa,aA,hE,if_neg (λhh=>hh rfl)]
     by_cases hs:(zA s).1=((jo (jv a):Nat):Int)
     ·have k2:((zA s).1 != ((jo (jv a):Nat):Int))=false:=by simp [hs]
      rw [k2,cond_false,if_neg (λhh=>hh hs)]
      have har: ∀ r∈a.rows,r.cells.length<=1000000:=λr hr=>by have:=(ha.ro r hr).2; omega
      have hrows:=tQ (zN s).1.toNat (zC s).1 (zD s).1 (zN s).2 (-1) [] vN hw (λp hp=>by cases hp)
      have hrows2: ∀ p∈(zR s).1,p.2.cells.length<=1000000:=λp hp=>by have:=(hrows p hp).2; omega
      have l2:=Ge a (zR s).1 H (by omega) har hrows2 _ rfl H 0 [] (by omega) rfl
      simp only [List.map_nil,List.nil_append,List.drop_zero] at l2
      refine Ae l2 ?_
      cases hb:ij a.rows (zR s).1 H 0 [] with
      | none=>rfl
      | some l =>
       rw [<- hHt] at hb
       obtain ⟨SWx,pl⟩:=qB ha pa h ht he hb
       dsimp only
       have hpk:gT (fN (jw (zS s) l))=some (jv (jw (zS s) l)):=xw _ SWx (by show (l.flatMap fF).length<=1000000; omega)
       show Option.bind (gT (fN (jw (zS s) l))) _=_
       rw [hpk,aA]
       have hst2:((jv (jw (zS s) l)).toList == (ByteArray.mk #[]).toList)=oC (jw (zS s) l):=by
        have e:((jv (jw (zS s) l)).toList == (ByteArray.mk #[]).toList)=decide (jv (jw (zS s) l)=noS):=mm _ noS
        rw [e]
        cases hn:oC (jw (zS s) l) with
        | true=>rw [decide_eq_true (oV.2 hn)]
        | false=>rw [decide_eq_false (λhh=>by rw [oV.1 hh] at hn; cases hn)]
       rw [hst2]
       cases oC (jw (zS s) l) with
       | true=>rfl
       | false=>rfl
     ·have k2:((zA s).1 != ((jo (jv a):Nat):Int))=true:=by simp [hs]
      rw [k2,cond_true,if_pos hs]
      rfl
    ·have hE:jL (zR s).2=1:=by unfold jL; rw [if_pos hs0]
     rw [decide_eq_false hs0,hE,if_pos (by decide)]
     rfl
   ·have hE:jL (zR s).2=(zR s).2.e:=CQ vR he
    rw [if_neg he,hE,if_pos he]
  ·have k1:((zN s).2.e != 0)=true:=by simp [hN0]
   have hR:(zR s).2=(zN s).2:=by unfold zR; rw [qA _ _ _ _ _ _ hN0]
   have hE:jL (zR s).2=(zN s).2.e:=by rw [hR]; exact CQ vN hN0
   rw [k1,cond_true,hE,if_pos hN0]
   rfl
def nL (g:aV):bA:=⟨g.aT,g.kind,g.aX,g.data⟩
def zGr:aV:=⟨0,0,[],noS⟩
def okN (n:Int):Bool:=decide (0<=n/\n<=4611686018427387904)
def iG (g:aV):Bool:=decide (1<=g.aT/\g.aT<=4294967296) && (decide (1<=g.kind/\g.kind<=4) && (decide (g.aX.length<=64) && g.aX.all okN))
def mL (g:aV):List Int:=[g.aT,g.kind,(g.aX.length:Int)].flatMap cH++g.aX.flatMap cH++(cH g.data.size++sbs g.data)
def eZ (g:aV):ByteArray:=nJ (dM (mL g))
def gn (g:aV):Int:=if iG g=false then 6 else if (eZ g).size > 8192 then 3 else 0
def tV (g:aV):ByteArray:=if gn g=0 then eZ g else noS
theorem lT (l:List Int):(l.flatMap cH).length<=9*l.length:=by
 induction l with
 | nil=>simp
 | cons a l ih =>
  have:=cI a
  simp only [List.flatMap_cons,List.length_append,List.length_cons]
  omega
theorem tW {g:aV} (h:g.aX.length<=64):(mL g).length<=700+g.data.size:=by
 have h1:=lT [g.aT,g.kind,(g.aX.length:Int)]
 have h2:=lT g.aX
 have h3:=cI (g.data.size:Int)
 unfold mL
 simp only [List.length_append,bC]
 simp only [List.length_cons,List.length_nil] at h1
 omega
theorem v8 (n lo hi:Int):hZ n lo hi=some (decide (lo<=n/\n<=hi)):=by
 unfold hZ
 by_cases a:n>=lo
 ·rw [decide_eq_true a,cond_true,aA]
  by_cases b:n<=hi
  ·rw [decide_eq_true b,decide_eq_true ⟨a,b⟩]
  ·rw [decide_eq_false b,decide_eq_false λh=>b h.2]
 ·rw [decide_eq_false a,cond_false,aA,decide_eq_false λh=>a h.1]
theorem CR {α ρ:Type} (l:List α) (hl:l.length<=1000000) (p:α->Bool) (bad:ρ) (f:Int->Option (Int ⊕ (Unit ⊕ ρ))) (hf: ∀ (i:Nat) (h:i < l.length),f i=if p l[i]=true then some (.inl ((i:Int)+1)) else some (.inr (.inr bad))) (he:f l.length=some (.inr (.inl ()))):iter f 0=some (if l.all p=true then .inl () else .inr bad):=by
 have key: ∀ k i:Nat,i+k=l.length->iter f (i:Int)=some (if (l.drop i).all p=true then .inl () else .inr bad):=by
  intro k
  induction k with
  | zero =>
   intro i h
   rw [show i=l.length by omega,List.drop_length]
   exact bD he
  | succ k ih =>
   intro i h
   have hi:i < l.length:=by omega
   rw [List.drop_eq_getElem_cons hi,List.all_cons]
   have e:=hf i hi
   cases hp:p l[i] with
   | true =>
    rw [hp,if_pos rfl] at e
    rw [bY e,show ((i:Int)+1)=((i+1:Nat):Int) by omega,ih (i+1) (by omega),Bool.true_and]
   | false =>
    rw [hp,if_neg (by simp)] at e
    rw [bD e,Bool.false_and,if_neg (by simp)]
 exact key l.length 0 (by omega)
theorem Ba {g:aV} (h:g.aX.length<=1000000):gO g=some (iG g):=by
 unfold gO iG
 rw [v8,v8,aA,aA]
 by_cases a:1<=g.aT/\g.aT<=4294967296
 ·rw [decide_eq_true a,Bool.not_true,cond_false,Bool.true_and]
  by_cases b:1<=g.kind/\g.kind<=4
  ·rw [decide_eq_true b,Bool.not_true,cond_false,aA,Bool.true_and]
   by_cases c:g.aX.length<=64
   ·rw [decide_eq_false (by omega),cond_false,decide_eq_true c,Bool.true_and]
    rw [CR g.aX (by omega) okN false _ ?hf ?he]
    case hf =>
     intro i hi
     show (bif (decide ((i:Int) < (g.aX.length:Int))) then _ else _)=_
     rw [decide_eq_true (by omega),cond_true,bK _ i hi,aA,v8,aA,w64 (by omega) (by omega)]
     unfold okN
     cases decide (0<=g.aX[i]/\g.aX[i]<=4611686018427387904) <;> rfl
    case he =>
     show (bif (decide ((g.aX.length:Int) < (g.aX.length:Int))) then _ else _)=_
     rw [decide_eq_false (by omega),cond_false]
    rw [aA]
    cases hh:g.aX.all okN <;> rfl
   ·rw [decide_eq_true (by omega),cond_true,decide_eq_false c]
    rfl
  ·rw [decide_eq_false b,Bool.not_false,cond_true,aA,cond_true]
   rfl
 ·rw [decide_eq_false a,Bool.not_false,cond_true,aA,cond_true]
  rfl
theorem vi {g:aV} (h:g.aX.length<=64) (hd:g.data.size<=100000):gf g=some (eZ g):=by
 have h1:=lT [g.aT,g.kind,(g.aX.length:Int)]
 have h2:=lT g.aX
 have hb:=tW h
 simp only [List.length_cons,List.length_nil] at h1
 unfold gf eZ
 rw [mj [] _ (by simp),aA,List.nil_append,mj _ _ (by omega),aA,xq _ _ (by rw [List.length_append]; omega),aA,show ∀ b,fr ⟨b⟩=some (dM b) from λb=>rfl,aA]
 show Option.bind (lh (dM (mL g))) _=_
 rw [EE (by rw [bO]; omega),aA]
theorem tX {g:aV} (h:g.aX.length<=64) (hd:g.data.size<=100000):jg (nL g)=some (eZ g):=by
 have hb:=tW h
 have h1:=lT g.aX
 have a1:=cI g.aT
 have a2:=cI g.kind
 have a3:=cI (g.aX.length:Int)
 have a4:=cI (g.data.size:Int)
 unfold jg eZ nL
 dsimp only
 rw [iU,aA,iU,aA,eC (by rw [bO,bO]; omega),aA,iU,aA,<- dH,eC (by rw [bO,bO,List.length_append]; omega),aA,<- dH]
 have hpre: ∀ i,((g.aX.take i).flatMap cH).length<=9*64:=λi=>by
  have:=lT (g.aX.take i)
  have h2:(g.aX.take i).length<=64:=by rw [List.length_take]; omega
  omega
 refine eJ (λi:Nat=>((i:Int),dM ((cH g.aT++cH g.kind++cH (g.aX.length:Int))++(g.aX.take i).flatMap cH))) g.aX.length (dM ((cH g.aT++cH g.kind++cH (g.aX.length:Int))++g.aX.flatMap cH)) (by simp) ?_ ?_ ?_
 ·intro i hi
  have h2:=hpre i
  have h3:=cI g.aX[i]
  dsimp only
  rw [decide_eq_true (by omega),cond_true,bK _ i hi,aA,iU,aA,eC (by rw [bO,bO]; simp only [List.length_append]; omega),aA,<- dH,w64 (by omega) (by omega),List.take_succ_eq_append_getElem hi,List.flatMap_append,List.flatMap_singleton,List.append_assoc _ _ (cH g.aX[i])]
  rfl
 ·dsimp only
  rw [decide_eq_false (by omega),cond_false,List.take_length]
 ·rw [tN _ (by omega),aA,eC (by rw [bO,bO]; simp only [List.length_append,bC]; omega),aA,<- dH]
  have e:cH g.aT++cH g.kind++cH (g.aX.length:Int)++g.aX.flatMap cH++(cH (g.data.size:Int)++sbs g.data)=mL g:=by
   unfold mL
   simp
  rw [e,xx (by rw [bO]; omega),aA]
theorem vj {g:aV} (h:g.aX.length<=1000000) (hd:g.data.size<=100000):gg g=some (gn g):=by
 unfold gg gn
 rw [Ba h,aA]
 cases hr:iG g with
 | false=>rfl
 | true =>
  have hn:g.aX.length<=64:=by
   unfold iG at hr
   simp only [Bool.and_eq_true,decide_eq_true_eq] at hr
   exact hr.2.2.1
  rw [Bool.not_true,cond_false,vi hn hd,aA,if_neg (by simp)]
  by_cases c:(eZ g).size > 8192
  ·rw [decide_eq_true (by omega),cond_true,if_pos c]
  ·rw [decide_eq_false (by omega),cond_false,if_neg c]
theorem tY {g:aV} (h:g.aX.length<=1000000) (hd:g.data.size<=100000):jh (nL g)=some (gn g):=by
 unfold jh gn iG
 have hc:((bif (decide ((nL g).aT < 1)) then some true else (bif (decide ((nL g).aT > 4294967296)) then some true else (bif (decide ((nL g).kind < 1)) then some true else (bif (decide ((nL g).kind > 4)) then some true else some (decide (((nL g).aX.length:Int) > 64)))))):Option Bool)=some (!(decide (1<=g.aT/\g.aT<=4294967296) && (decide (1<=g.kind/\g.kind<=4) && decide (g.aX.length<=64)))):=by
  show ((bif (decide (g.aT < 1)) then some true else (bif (decide (g.aT > 4294967296)) then some true else (bif (decide (g.kind < 1)) then some true else (bif (decide (g.kind > 4)) then some true else some (decide ((g.aX.length:Int) > 64)))))):Option Bool)=_
  by_cases a:g.aT < 1
  ·simp [a,show ¬ 1<=g.aT by omega]
  ·by_cases b:g.aT > 4294967296
   ·simp [a,b,show ¬ g.aT<=4294967296 by omega]
   ·by_cases c:g.kind < 1
    ·simp [a,b,c,show ¬ 1<=g.kind by omega]
    ·by_cases d:g.kind > 4
     ·simp [a,b,c,d,show ¬ g.kind<=4 by omega]
     ·by_cases e:g.aX.length<=64
      ·simp [a,b,c,d,e,show 1<=g.aT by omega,show g.aT<=4294967296 by omega,show 1<=g.kind by omega,show g.kind<=4 by omega]
       omega
      ·simp [a,b,c,d,e,show 1<=g.aT by omega,show g.aT<=4294967296 by omega,show 1<=g.kind by omega,show g.kind<=4 by omega]
       omega
 rw [hc,aA]
 rw [show (decide (1<=g.aT/\g.aT<=4294967296) && (decide (1<=g.kind/\g.kind<=4) && (decide (g.aX.length<=64) && g.aX.all okN)))=((decide (1<=g.aT/\g.aT<=4294967296) && (decide (1<=g.kind/\g.kind<=4) && decide (g.aX.length<=64))) && g.aX.all okN) by simp only [Bool.and_assoc]]
 cases hh:(decide (1<=g.aT/\g.aT<=4294967296) && (decide (1<=g.kind/\g.kind<=4) && decide (g.aX.length<=64))) with
 | false=>rfl
 | true =>
  simp only [Bool.and_eq_true,decide_eq_true_eq] at hh
  have hn:=hh.2.2
  rw [Bool.not_true,cond_false,Bool.true_and]
  rw [CR g.aX (by omega) okN (6:Int) _ ?hf ?he]
  case he =>
   show (bif (decide ((g.aX.length:Int) < (g.aX.length:Int))) then _ else _)=_
   rw [decide_eq_false (by omega),cond_false]
  case hf =>
   intro i hi
   show (bif (decide ((i:Int) < (g.aX.length:Int))) then _ else _)=_
   rw [decide_eq_true (by omega),cond_true,show idx (nL g).aX (i:Int)=some g.aX[i] from bK _ i hi,aA,w64 (by omega) (by omega)]
   unfold okN
   by_cases a:g.aX[i] < 0
   ·rw [decide_eq_true a,cond_true,aA,cond_true,decide_eq_false (by omega)]
    rfl
   ·rw [decide_eq_false a,cond_false,aA]
    by_cases b:g.aX[i] > 4611686018427387904
    ·rw [decide_eq_true b,cond_true,decide_eq_false (by omega)]
     rfl
    ·rw [decide_eq_false b,cond_false,decide_eq_true (by omega)]
     rfl
  ·rw [aA]
   cases ha:g.aX.all okN with
   | false=>rfl
   | true =>
    rw [if_pos rfl,if_neg (by simp)]
    dsimp only
    rw [tX hn hd,aA]
    by_cases c:(eZ g).size > 8192
    ·rw [decide_eq_true (by omega),cond_true,if_pos c]
    ·rw [decide_eq_false (by omega),cond_false,if_neg c]
theorem tZ {g:aV} (h:g.aX.length<=1000000) (hd:g.data.size<=100000):dZ g=some (tV g):=by
 unfold dZ tV
 rw [vj h hd,aA]
 by_cases c:gn g=0
 ·have hn:g.aX.length<=64:=by
   unfold gn at c
   cases hr:iG g with
   | false=>rw [hr] at c; simp at c
   | true =>
    unfold iG at hr
    simp only [Bool.and_eq_true,decide_eq_true_eq] at hr
    exact hr.2.2.1
  rw [c,show ((0:Int) != 0)=false from rfl,cond_false,vi hn hd,aA,if_pos rfl]
 ·rw [show (gn g != 0)=true by simpa using c,cond_true,if_neg c]
  rfl
theorem Bb {g:aV} (h:g.aX.length<=1000000) (hd:g.data.size<=100000):eI (nL g)=some (tV g):=by
 unfold eI tV
 rw [tY h hd,aA]
 by_cases c:gn g=0
 ·have hn:g.aX.length<=64:=by
   unfold gn at c
   cases hr:iG g with
   | false=>rw [hr] at c; simp at c
   | true =>
    unfold iG at hr
    simp only [Bool.and_eq_true,decide_eq_true_eq] at hr
    exact hr.2.2.1
  rw [c,show ((0:Int) != 0)=false from rfl,cond_false,tX hn hd,aA,if_pos rfl]
 ·rw [show (gn g != 0)=true by simpa using c,cond_true,if_neg c]
  rfl
end Go.Tw.X

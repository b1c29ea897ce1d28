import Derived.Test.YtdhkangklnlnoaaGreatDoorXp1
import Derived.Test.YtdhkangklnlnoaaGreatDoorFw2
import Derived.Laws.BitsLemmas
import Derived.Laws.Strings
set_option linter.unusedVariables false
set_option linter.unusedSimpArgs false
namespace Go.Tw.X
open Go Go.Tw
def tc (c:aL):cZ:=⟨c.rune,c.bO,c.part⟩
def told (r:aT):bC:=⟨r.cells.map tc,r.wrapped⟩
theorem AJ (n:Int):IntKind.u64.wrap n=n % 18446744073709551616:=by simp [IntKind.wrap,IntKind.bits,IntKind.signed]
theorem CD (n:Int) (h0:0<=n) (h1:n < 2 ^ 63):IntKind.u64.wrap n=n:=by rw [AJ]; omega
theorem xA (y:Int) (h0:0<=y) (h1:y < 4294967296):Go.bits .and .u64 y 4294967295=y:=by
 have h:=bits_mask .u64 63 (by decide) CD 32 (by decide) y h0 (by omega)
 have e:((2:Int) ^ 32 - 1)=4294967295:=by decide
 have e2:((2:Int) ^ 32)=4294967296:=by decide
 rw [e,e2] at h
 rw [h]
 omega
theorem AK {x:Int} (h0:0<=x) (h1:x < 18446744073709551616):IntKind.u64.wrap x=x:=by rw [AJ]; omega
theorem xB (n:Int) (h0:0<=n) (h1:n<=1000000):lY 1 n=some (0,n):=by
 have e32:(2:Int) ^ (min 32 64)=4294967296:=by decide
 have f1:Int.fdiv 1 4294967296=0:=by decide
 have f2:Int.fdiv n 4294967296=0:=by rw [Int.fdiv_eq_ediv_of_nonneg _ (by decide)]; omega
 have f0:Int.fdiv 0 4294967296=0:=by decide
 have z0:IntKind.u64.wrap 0=0:=by rw [AJ]; rfl
 have m0:Go.bits .and .u64 0 4294967295=0:=xA 0 (by omega) (by omega)
 have m1:Go.bits .and .u64 1 4294967295=1:=xA 1 (by omega) (by omega)
 have mn:=xA n h0 (by omega)
 have un:IntKind.u64.wrap n=n:=AK h0 (by omega)
 unfold lY lO
 simp only [e32,f1,f2,m1,mn,Int.zero_mul,Int.mul_zero,Int.one_mul,z0,un,f0,Int.add_zero,Int.zero_add,m0,aA]
theorem zw (c:aL) (n:Int) (h0:0<=n) (h1:n<=1000000):dR [c] n=some (List.replicate n.toNat c):=by
 unfold dR
 have hn:decide (n < 0)=false:=decide_eq_false (by omega)
 have u1:IntKind.u64.wrap (([c].length:Nat):Int)=1:=AK (by simp) (by simp)
 rw [hn,cond_false,u1,AK h0 (by omega),xB n h0 h1]
 simp only [aA]
 have g1:decide ((0:Int) > 0)=false:=by decide
 have g2:decide (n > 9223372036854775807)=false:=decide_eq_false (by omega)
 rw [g1,cond_false,aA,g2,cond_false,w64 (by omega) (by omega),qD h0 (by omega) (by omega),aA]
 obtain ⟨k,rfl⟩: ∃ k:Nat,n=k:=⟨n.toNat,by omega⟩
 simp only [Int.toNat_natCast,List.length_cons,List.length_nil,List.length_replicate]
 have key: ∀ m j,k - j=m->j<=k->(1<=j\/k=0)->iter (σ:=(List aL)×Int) (ρ:=(List aL)) (λa=>(bif (decide (a.2 < (a.1.length:Int))) then (Option.bind (chk (eK a.2 (a.1.length:Int) a.1.length)) λ_=>(Option.bind (chk (eK 0 a.2 a.1.length)) λ_=>some (.inl ((tr a.1 a.2.toNat),(IntKind.i64.wrap (a.2+((Nat.min a.2.toNat (a.1.length - a.2.toNat):Nat):Int))))))) else some (.inr a.1))) (List.replicate j c++List.replicate (k - j) (aL.mk 0 0 0),(j:Int))=some (List.replicate k c):=by
  intro m
  induction m using Nat.strongRecOn with
  | _ m ih =>
   intro j hm hj h1j
   have hlen:(List.replicate j c++List.replicate (k - j) (aL.mk 0 0 0)).length=k:=by simp; omega
   by_cases hjk:j < k
   ·have hmin:Nat.min j (k - j)=min j (k - j):=rfl
    rw [bZ (s':=(List.replicate (j+min j (k - j)) c++List.replicate (k - (j+min j (k - j))) (aL.mk 0 0 0),((j+min j (k - j):Nat):Int)))]
    ·exact ih (k - (j+min j (k - j))) (by omega) _ rfl (by omega) (by omega)
    ·have hc:decide ((j:Int) < ((List.replicate j c++List.replicate (k - j) (aL.mk 0 0 0)).length:Int))=true:=by rw [hlen]; simp; omega
     simp only [hc,cond_true]
     rw [hlen,dI (by omega) (by omega) (by omega),aA,dI (by omega) (by omega) (by omega),aA,Int.toNat_natCast,hmin,w64 (by omega) (by omega)]
     congr 2
     refine Prod.ext ?_ ?_
     ·show tr _ _=_
      unfold tr
      rw [hlen]
      have t1:(List.replicate j c++List.replicate (k - j) (aL.mk 0 0 0)).take j=List.replicate j c:=by rw [List.take_left']; simp
      rw [t1,List.take_replicate,List.drop_append,List.drop_of_length_le (by simp),List.nil_append,List.length_replicate,List.drop_replicate,List.replicate_append_replicate,Nat.min_comm (k - j) j]
      congr 2
      omega
     ·show ((j:Int)+((min j (k - j):Nat):Int))=_
      omega
   ·have hjk':j=k:=by omega
    subst hjk'
    rw [bA (r:=List.replicate j c)]
    simp
 have hs:cpy (List.replicate k (aL.mk 0 0 0)) [c]=List.replicate (min 1 k) c++List.replicate (k - min 1 k) (aL.mk 0 0 0):=by
  unfold cpy
  cases k with
  | zero=>simp
  | succ k=>simp [Nat.min_eq_left]
 have hmin:Nat.min (0+1) k=min 1 k:=rfl
 rw [hs,hmin,key _ (min 1 k) rfl (by omega) (by omega),aA]
theorem AL (l:List aL) (h:l.length<=1000000):fh l=some l:=by
 unfold fh
 rw [bW (by simp; omega),aA]
 rfl
theorem lq (x y:aL):((x.rune == y.rune) && ((x.bO == y.bO) && ((x.part == y.part) && true)))=decide (x=y):=by
 obtain ⟨a,b,c⟩:=x
 obtain ⟨d,e,f⟩:=y
 by_cases h1:a=d <;> by_cases h2:b=e <;> by_cases h3:c=f <;> simp [h1,h2,h3]
theorem AM (a b:List aL) (h:a.length<=1000000):fj a b=some (decide (a=b)):=by
 unfold fj
 by_cases hl:a.length=b.length
 ·have e:((a.length:Int) != (b.length:Int))=false:=by simp [hl]
  rw [e,cond_false]
  have key: ∀ (x y d d2:List aL),d++x=a->d2++y=b->d=d2->x.length=y.length->iter (σ:=Int) (ρ:=Unit ⊕ Bool) (λf=>(bif (decide (f < (a.length:Int))) then (Option.bind (idx a f) λg=>(Option.bind (idx b f) λi=>(bif (!((g.rune == i.rune) && ((g.bO == i.bO) && ((g.part == i.part) && true)))) then (eV (some false)) else some (.inl (IntKind.i64.wrap (f+1)))))) else some (.inr (.inl ())))) (d.length:Int)=some (if x=y then .inl () else .inr false):=by
   intro x
   induction x with
   | nil =>
    intro y d d2 hd hd2 hdd hxy
    have:y=[]:=List.eq_nil_of_length_eq_zero hxy.symm
    subst this
    simp at hd
    subst hd
    rw [bA (r:= .inl ())]
    ·simp
    ·simp
   | cons c x ih =>
    intro y d d2 hd hd2 hdd hxy
    cases y with
    | nil=>simp at hxy
    | cons c2 y =>
     subst hdd
     have hal:a.length=d.length+x.length+1:=by rw [<- hd]; simp; omega
     have hc:decide ((d.length:Int) < (a.length:Int))=true:=by simp; omega
     have hx:idx a (d.length:Int)=some c:=by rw [<- hd]; exact oh d x c
     have hx2:idx b (d.length:Int)=some c2:=by rw [<- hd2]; exact oh d y c2
     by_cases hcc:c=c2
     ·subst hcc
      rw [bZ (s':=((d++[c]).length:Int))]
      ·rw [ih y (d++[c]) (d++[c]) (by simpa using hd) (by simpa using hd2) rfl (by simpa using hxy)]
       simp
      ·simp only [hc,cond_true,hx,hx2,aA,lq]
       rw [w64 (by omega) (by omega)]
       simp
     ·rw [bA (r:= .inr false)]
      ·simp [hcc]
      ·simp only [hc,cond_true,hx,hx2,aA,lq]
       have:decide (c=c2)=false:=decide_eq_false hcc
       rw [this]
       rfl
  have h0:=key a b [] [] rfl rfl rfl hl
  have e0:((([]:List aL).length:Nat):Int)=0:=rfl
  rw [e0] at h0
  rw [h0,aA]
  by_cases hab:a=b
  ·rw [if_pos hab]; simp [hab]
  ·rw [if_neg hab]; simp [hab]
 ·have e:((a.length:Int) != (b.length:Int))=true:=by simp; omega
  rw [e,cond_true]
  have:a≠b:=λh=>hl (by rw [h])
  simp [this]
theorem yz (r q:aT) (h:r.cells.length<=1000000):gX r q=some (decide (r=q)):=by
 unfold gX
 obtain ⟨a,x⟩:=r
 obtain ⟨b,y⟩:=q
 rw [AM a b h]
 cases x <;> cases y <;> simp
theorem eX (l:List aL):(l.map tc).length=l.length:=List.length_map _
def rok (x:Int):Prop:= -2147483648<=x/\x<=2147483647
def okR (l:List aL):Prop:= ∀ c∈l,rok c.rune
theorem yA {a b:List aL} (ha:okR a) (hb:okR b):okR (a++b):=λc hc=>(List.mem_append.1 hc).elim (ha c) (hb c)
theorem AN {a:List aL} (ha:okR a) (n:Nat):okR (a.drop n):=λc hc=>ha c (List.mem_of_mem_drop hc)
theorem w32 {x:Int} (h:rok x):IntKind.i64.wrap x=x:=by obtain ⟨h1,h2⟩:=h; exact w64 (by omega) (by omega)
theorem FF (r:aT) (h:r.cells.length<=1000000) (hr:okR r.cells):jX r (told r)=some true:=by
 unfold jX told
 simp only [eX]
 have e6:((bif ((r.cells.length:Int) != (r.cells.length:Int)) then some true else some (!(r.wrapped == r.wrapped))):Option Bool)=some false:=by simp
 rw [e6,aA,cond_false]
 have key: ∀ (b d:List aL),d++b=r.cells->iter (σ:=Int) (ρ:=Unit ⊕ Bool) (λa=>(bif (decide (a < (r.cells.length:Int))) then (Option.bind (idx r.cells a) λe=>(Option.bind ((Option.bind (idx (r.cells.map tc) a) λf=>(bif ((IntKind.i64.wrap e.rune) != f.rune) then some true else (Option.bind (idx (r.cells.map tc) a) λg=>(bif (e.bO != g.bO) then some true else (Option.bind (idx (r.cells.map tc) a) λi=>some (e.part != i.part)))))):Option Bool) λj=>(bif j then (eV (some false)) else some (.inl (IntKind.i64.wrap (a+1)))))) else some (.inr (.inl ())))) (d.length:Int)=some (.inl ()):=by
  intro b
  induction b with
  | nil =>
   intro d hd
   simp at hd
   subst hd
   rw [bA (r:= .inl ())]
   simp
  | cons c b ih =>
   intro d hd
   have hl:r.cells.length=d.length+b.length+1:=by rw [<- hd]; simp; omega
   have hc:decide ((d.length:Int) < (r.cells.length:Int))=true:=by simp; omega
   have hx:idx r.cells (d.length:Int)=some c:=by rw [<- hd]; exact oh d b c
   have hx2:idx (r.cells.map tc) (d.length:Int)=some (tc c):=by
    rw [<- hd,List.map_append,List.map_cons,<- eX d]
    exact oh _ _ _
   have hcr:rok c.rune:=hr c (by rw [<- hd]; simp)
   rw [bZ (s':=((d++[c]).length:Int))]
   ·exact ih (d++[c]) (by simpa using hd)
   ·simp only [hc,cond_true,hx,hx2,aA,w32 hcr,tc,bne_self_eq_false,cond_false]
    rw [w64 (by omega) (by omega)]
    simp
 have h0:=key r.cells [] rfl
 have e0:((([]:List aL).length:Nat):Int)=0:=rfl
 rw [e0] at h0
 rw [h0,aA]
theorem px {σ ρ:Type} {f:σ->Option (σ ⊕ ρ)} (S:Nat->σ) (n:Nat) (r:ρ) (hs: ∀ i,i < n->f (S i)=some (.inl (S (i+1)))) (he:f (S n)=some (.inr r)):iter f (S 0)=some r:=by
 have key: ∀ i,i<=n->iter f (S 0)=iter f (S i):=by
  intro i
  induction i with
  | zero=>intro _; rfl
  | succ i ih =>
   intro hi
   rw [ih (by omega),bZ (hs i (by omega))]
 rw [key n (Nat.le_refl n),bA he]
theorem dX {σ ρ β:Type} {f:σ->Option (σ ⊕ ρ)} {s:σ} {g:ρ->Option β} {out:Option β} (S:Nat->σ) (n:Nat) (r:ρ) (h0:s=S 0) (hs: ∀ i,i < n->f (S i)=some (.inl (S (i+1)))) (he:f (S n)=some (.inr r)) (hg:g r=out):Option.bind (iter f s) g=out:=by
 rw [h0,px S n r hs he]
 exact hg
theorem m6 {σ ρ:Type} {f:σ->Option (σ ⊕ ρ)} (Inv:σ->Prop) (m:σ->Nat) (mO:ρ->Prop)
  (hs: ∀ s,Inv s->(∃ s',f s=some (.inl s')/\Inv s'/\m s' < m s)\/(∃ r,f s=some (.inr r)/\mO r)): ∀ s,Inv s -> ∃ r,iter f s=some r/\mO r:=by
 have key: ∀ (n:Nat) s,m s<=n->Inv s -> ∃ r,iter f s=some r/\mO r:=by
  intro n
  induction n with
  | zero =>
   intro s hm hi
   rcases hs s hi with ⟨s',hf,hi',hlt⟩ | ⟨r,hf,hp⟩
   ·omega
   ·exact ⟨r,bA hf,hp⟩
  | succ n ih =>
   intro s hm hi
   rcases hs s hi with ⟨s',hf,hi',hlt⟩ | ⟨r,hf,hp⟩
   ·rw [bZ hf]
    exact ih s' (by omega) hi'
   ·exact ⟨r,bA hf,hp⟩
 intro s hi
 exact key (m s) s (Nat.le_refl _) hi
theorem py {σ ρ β:Type} {f:σ->Option (σ ⊕ ρ)} {s:σ} {g:ρ->Option β} {out:Option β} (Inv:σ->Prop) (m:σ->Nat) (mO:ρ->Prop) (h0:Inv s)
  (hs: ∀ s,Inv s->(∃ s',f s=some (.inl s')/\Inv s'/\m s' < m s)\/(∃ r,f s=some (.inr r)/\mO r)) (hg: ∀ r,mO r->g r=out):Option.bind (iter f s) g=out:=by
 obtain ⟨r,h1,h2⟩:=m6 Inv m mO hs s h0
 rw [h1]
 exact hg r h2
theorem or2 (p q:Prop) [Decidable p] [Decidable q]:((bif decide p then some true else some (decide q)):Option Bool)=some (decide (p\/q)):=by
 by_cases a1:p <;> by_cases a2:q <;> simp [a1,a2]
theorem bL {α:Type} (l:List α) (n:Nat) (h:n < l.length):idx l (n:Int)=some l[n]:=by rw [pq,List.getElem?_eq_getElem h]
theorem CE {α:Type} (l r:List α) (x y:α):(l++x::r).set l.length y=l++y::r:=by simp
theorem uB {α:Type} (l:List α) (a b:Nat):cut l (a:Int) (b:Int)=(l.take b).drop a:=by simp [cut]
def sA:aT:=⟨[],false⟩
theorem AO {α:Type} {l r:List α} {x:α} {k:Int} (h:k=l.length):idx (l++x::r) k=some x:=by rw [h,oh]
theorem AP {α:Type} {l r:List α} {x y:α} {k:Nat} (h:k=l.length):(l++x::r).set k y=l++y::r:=by rw [h,CE]
theorem EH {x:Int} (h0:0<=x) (h1:x < 256):IntKind.u8.wrap x=x:=by rw [IntKind.wrap_u8]; omega
theorem foldl_push (xs:List Int): ∀ l:List UInt8,xs.foldl (λr n=>r.push (UInt8.ofNat n.toNat)) (ByteArray.mk l.toArray)=ByteArray.mk (l++xs.map (λn=>UInt8.ofNat n.toNat)).toArray:=by
 induction xs with
 | nil=>intro l; simp
 | cons a xs ih =>
  intro l
  rw [List.foldl_cons]
  have:(ByteArray.mk l.toArray).push (UInt8.ofNat a.toNat)=ByteArray.mk (l++[UInt8.ofNat a.toNat]).toArray:=by
   show ByteArray.mk (l.toArray.push _)=_
   rw [List.push_toArray]
  rw [this,ih]
  simp
theorem mz (xs:List Int):dL xs=ByteArray.mk (xs.map (λn=>UInt8.ofNat n.toNat)).toArray:=foldl_push xs []
theorem dG (a b:List Int):dL (a++b)=dL a++dL b:=by
 rw [mz,mz,mz,ByteArray.mk_append_mk,List.map_append]
theorem bP (a:List Int):(dL a).size=a.length:=by
 rw [mz]
 simp [ByteArray.size]
theorem dW {n m:Nat} (h:n+m<=4611686018427387904):chk (kH n m)=some ():=ja h
def gm (n:Nat):List Int:=if n < 128 then [(n:Int)] else ((128+n % 128:Nat):Int)::gm (n / 128)
termination_by n
decreasing_by omega
def clN (n:Int):Nat:=(max 0 (min n 4611686018427387904)).toNat
theorem AQ (n:Int):imax 0 (cW n 4611686018427387904)=(clN n:Int):=by rw [um,ns]; unfold clN; omega
theorem xC (n:Int):clN n<=4611686018427387904:=by unfold clN; omega
def cF (n:Int):List Int:=gm (clN n)
theorem eN {n:Nat} (h:n < 128):gm n=[(n:Int)]:=by rw [gm,if_pos h]
theorem lu {n:Nat} (h: ¬ n < 128):gm n=((128+n % 128:Nat):Int)::gm (n / 128):=by rw [gm,if_neg h]
theorem pA: ∀ (k n:Nat),n < 128 ^ (k+1)->(gm n).length<=k+1:=by
 intro k
 induction k with
 | zero =>
  intro n h
  rw [eN (by omega)]
  simp
 | succ k ih =>
  intro n h
  by_cases hn:n < 128
  ·rw [eN hn]
   simp
  ·rw [lu hn,List.length_cons]
   have:n / 128 < 128 ^ (k+1):=by
    rw [Nat.pow_succ] at h
    exact Nat.div_lt_of_lt_mul (by rw [Nat.mul_comm]; exact h)
   have:=ih _ this
   omega
theorem cG (n:Int):(cF n).length<=9:=pA 8 _ (by have:=xC n; omega)
theorem m7: ∀ (n:Nat),∀ b∈gm n,0<=b/\b < 256:=by
 intro n
 induction n using Nat.strongRecOn with
 | _ n ih =>
  intro b hb
  by_cases hn:n < 128
  ·rw [eN hn,List.mem_singleton] at hb
   omega
  ·rw [lu hn] at hb
   rcases List.mem_cons.1 hb with rfl | hb
   ·omega
   ·exact ih (n / 128) (by omega) b hb
theorem AR (x:Int) (h0:0<=x) (h1:x < 256):Go.bits .and .u8 x 127=x % 128:=by
 have h:=bits_mask .u8 8 (by decide) wraps_u8 7 (by decide) x h0 (by omega)
 have e:((2:Int) ^ 7 - 1)=127:=by decide
 have e2:((2:Int) ^ 7)=128:=by decide
 rw [e,e2] at h
 exact h
theorem or_comm (k:IntKind) (x y:Int):Go.bits .or k x y=Go.bits .or k y x:=by
 show k.wrap ((BitVec.ofInt k.bits x ||| BitVec.ofInt k.bits y).toNat:Int)=k.wrap ((BitVec.ofInt k.bits y ||| BitVec.ofInt k.bits x).toNat:Int)
 rw [BitVec.or_comm]
theorem CF (y:Int) (h0:0<=y) (h1:y < 128):Go.bits .or .u8 y 128=128+y:=by
 rw [or_comm]
 exact bits_join .u8 8 (by decide) wraps_u8 7 128 y (by decide) (by decide) (by decide) h0 (by omega) (by omega)
theorem FG (n:Nat):(n:Int).fdiv (2 ^ (min 7 64))=((n / 128:Nat):Int):=by
 rw [Int.fdiv_eq_ediv_of_nonneg _ (by decide)]
 show (n:Int) / 128=_
 omega
theorem zx (b:List Int) (x:Int) (hb:b.length<=100000000): ∃ e,jb (λ(s661:cH) (x619:Int)=>(Option.bind (chk (dF s661.b.length [x619].length 1)) λ_=>some ((cH.mk (s661.b++[x619])),true))) (⟨b⟩:cH) x=some ((⟨b++cF x⟩:cH),e):=by
 unfold jb nw
 rw [AQ,aA]
 unfold cF
 have hle:=xC x
 generalize clN x=n at hle
 have key: ∀ (k n:Nat) (b:List Int),n < 128 ^ (k+1)->b.length+(k+1)<=100000010 -> ∃ e,iter (σ:=Int×cH) (ρ:=(Int×cH) ⊕ (cH×Int)) (λa=>(bif (decide (a.1>=128)) then (Option.bind ((λ(s661:cH) (x619:Int)=>(Option.bind (chk (dF s661.b.length [x619].length 1)) λ_=>some ((cH.mk (s661.b++[x619])),true))) a.2 (Go.bits .or .u8 (Go.bits .and .u8 (IntKind.u8.wrap a.1) 127) 128)) λz68=>(bif (!z68.2) then (eV (some (z68.1,a.1))) else some (.inl ((a.1.fdiv (2 ^ (min 7 64))),z68.1)))) else some (.inr (.inl (a.1,a.2))))) ((n:Int),(⟨b⟩:cH))=some (.inl ((e:Int),(⟨b++(gm n).dropLast⟩:cH)))/\0<=e/\e < 128/\gm n=(gm n).dropLast++[e]:=by
  intro k
  induction k with
  | zero =>
   intro n b h hb
   refine ⟨n,?_,by omega,by omega,?_⟩
   ·rw [eN (by omega)]
    refine bA ?_
    dsimp only
    rw [decide_eq_false (by omega),cond_false]
    simp
   ·rw [eN (by omega)]
    rfl
  | succ k ih =>
   intro n b h hb
   by_cases hn:n < 128
   ·refine ⟨n,?_,by omega,by omega,?_⟩
    ·rw [eN hn]
     refine bA ?_
     dsimp only
     rw [decide_eq_false (by omega),cond_false]
     simp
    ·rw [eN hn]
     rfl
   ·have hlt:n / 128 < 128 ^ (k+1):=by
     rw [Nat.pow_succ] at h
     exact Nat.div_lt_of_lt_mul (by rw [Nat.mul_comm]; exact h)
    obtain ⟨e,h1,h2,h3,h4⟩:=ih (n / 128) (b++[((128+n % 128:Nat):Int)]) hlt (by simp; omega)
    refine ⟨e,?_,h2,h3,?_⟩
    ·rw [bZ (s':=(((n / 128:Nat):Int),(⟨b++[((128+n % 128:Nat):Int)]⟩:cH)))]
     ·rw [h1,lu hn]
      have hne:gm (n / 128)≠[]:=by rw [h4]; simp
      rw [List.dropLast_cons_of_ne_nil hne]
      simp
     ·dsimp only
      have hw:IntKind.u8.wrap (n:Int)=((n % 256:Nat):Int):=by rw [IntKind.wrap_u8]; omega
      have hv:Go.bits .or .u8 (Go.bits .and .u8 (IntKind.u8.wrap (n:Int)) 127) 128=((128+n % 128:Nat):Int):=by
       rw [hw,AR _ (by omega) (by omega),CF _ (by omega) (by omega)]
       omega
      rw [decide_eq_true (by omega),cond_true,hv,bW (by simp; omega),aA,aA]
      dsimp only
      rw [Bool.not_true,cond_false,FG]
    ·rw [lu hn]
     have hne:gm (n / 128)≠[]:=by rw [h4]; simp
     rw [List.dropLast_cons_of_ne_nil hne,List.cons_append,<- h4]
 obtain ⟨e,h1,h2,h3,h4⟩:=key 8 n b (by omega) (by omega)
 have hl:=pA 8 n (by omega)
 have hd:(gm n).dropLast.length<=9:=by rw [List.length_dropLast]; omega
 refine ⟨e,?_⟩
 rw [h1,aA]
 dsimp only
 have hu:IntKind.u8.wrap e=e:=by rw [IntKind.wrap_u8]; omega
 rw [hu,bW (by simp only [List.length_append,List.length_singleton]; omega),aA,aA,List.append_assoc,<- h4]
theorem lP (b:List Int) (l:List Int) (hb:b.length+9*l.length<=10000000):dB ⟨b⟩ l=some ⟨b++l.flatMap cF⟩:=by
 unfold dB lN
 have hfl: ∀ l:List Int,(l.flatMap cF).length<=9*l.length:=by
  intro l
  induction l with
  | nil=>simp
  | cons a l ih =>
   rw [List.flatMap_cons,List.length_append,List.length_cons]
   have:=cG a
   omega
 refine dX (λi=>((⟨b++(l.take i).flatMap cF⟩:cH),(i:Int))) l.length (⟨b++l.flatMap cF⟩:cH) ?_ ?_ ?_ rfl
 ·simp
 ·intro i hi
  dsimp only
  have h4:=hfl (l.take i)
  rw [List.length_take] at h4
  obtain ⟨e,he⟩:=zx (b++(l.take i).flatMap cF) l[i] (by rw [List.length_append]; omega)
  rw [decide_eq_true (by omega),cond_true,bL l i hi,aA,aA,he,aA,w64 (by omega) (by omega),List.take_succ_eq_append_getElem hi,List.flatMap_append,List.flatMap_singleton,List.append_assoc]
  rfl
 ·dsimp only
  rw [decide_eq_false (by omega),cond_false,List.take_length]
theorem iB (x:Int):cC x=some (dL (cF x)):=by
 unfold cC
 rw [AQ]
 unfold cF
 have hle:=xC x
 generalize clN x=n at hle
 have key: ∀ (k n:Nat) (b:List Int),n < 128 ^ (k+1)->n<=4611686018427387904->b.length+(k+1)<=1000 -> ∃ e,iter (σ:=Int×(List Int)) (ρ:=Int×(List Int)) (λa=>(bif (decide (a.1>=128)) then (Option.bind (chk (dF a.2.length [(IntKind.u8.wrap (IntKind.i64.wrap (128+(a.1.tmod 128))))].length 1)) λ_=>some (.inl ((IntKind.i64.wrap (a.1.tdiv 128)),(a.2++[(IntKind.u8.wrap (IntKind.i64.wrap (128+(a.1.tmod 128))))])))) else some (.inr (a.1,a.2)))) ((n:Int),b)=some ((e:Int),b++(gm n).dropLast)/\0<=e/\e < 128/\gm n=(gm n).dropLast++[e]:=by
  intro k
  induction k with
  | zero =>
   intro n b h hmx hb
   refine ⟨n,?_,by omega,by omega,?_⟩
   ·rw [eN (by omega)]
    refine bA ?_
    dsimp only
    rw [decide_eq_false (by omega),cond_false]
    simp
   ·rw [eN (by omega)]
    rfl
  | succ k ih =>
   intro n b h hmx hb
   by_cases hn:n < 128
   ·refine ⟨n,?_,by omega,by omega,?_⟩
    ·rw [eN hn]
     refine bA ?_
     dsimp only
     rw [decide_eq_false (by omega),cond_false]
     simp
    ·rw [eN hn]
     rfl
   ·have hlt:n / 128 < 128 ^ (k+1):=by
     rw [Nat.pow_succ] at h
     exact Nat.div_lt_of_lt_mul (by rw [Nat.mul_comm]; exact h)
    obtain ⟨e,h1,h2,h3,h4⟩:=ih (n / 128) (b++[((128+n % 128:Nat):Int)]) hlt (by omega) (by simp; omega)
    refine ⟨e,?_,h2,h3,?_⟩
    ·have hbig:n < 9223372036854775808:=by omega
     ·rw [bZ (s':=(((n / 128:Nat):Int),b++[((128+n % 128:Nat):Int)]))]
      ·rw [h1,lu hn]
       have hne:gm (n / 128)≠[]:=by rw [h4]; simp
       rw [List.dropLast_cons_of_ne_nil hne]
       simp
      ·dsimp only
       have m1:(n:Int).tmod 128=((n % 128:Nat):Int):=by rw [Int.tmod_eq_emod_of_nonneg (by omega)]; omega
       have d1:(n:Int).tdiv 128=((n / 128:Nat):Int):=by rw [Int.tdiv_eq_ediv_of_nonneg (by omega)]; omega
       rw [decide_eq_true (by omega),cond_true,m1,d1,w64 (by omega) (by omega),w64 (by omega) (by omega),EH (by omega) (by omega),bW (by simp; omega),aA]
       have:(128:Int)+((n % 128:Nat):Int)=((128+n % 128:Nat):Int):=by omega
       rw [this]
    ·rw [lu hn]
     have hne:gm (n / 128)≠[]:=by rw [h4]; simp
     rw [List.dropLast_cons_of_ne_nil hne,List.cons_append,<- h4]
 obtain ⟨e,h1,h2,h3,h4⟩:=key 8 n [] (by omega) hle (by simp)
 have hl:=pA 8 n (by omega)
 have hd:(gm n).dropLast.length<=9:=by rw [List.length_dropLast]; omega
 rw [h1,aA]
 dsimp only
 rw [EH h2 (by omega),bW (by simp only [List.length_append,List.length_singleton,List.length_nil]; omega),aA,List.nil_append,<- h4]
def most:Nat:=4611686018427387904
def rdp:Nat->Nat->Nat->List Int->Int ⊕ (Nat×Nat)
 | 0,_,_,_=> .inl 1
 | _+1,_,_,[]=> .inl 2
 | k+1,i,acc,b::r=>if b < 128 then (if (i > 0/\b=0)\/acc+b.toNat % 128*128 ^ i > most then .inl 1 else .inr (acc+b.toNat % 128*128 ^ i,i+1)) else rdp k (i+1) (acc+b.toNat % 128*128 ^ i) r
def noS:ByteArray:=ByteArray.mk #[]
theorem pB (s:ByteArray): ∀ b∈sbs s,0<=b/\b < 256:=by
 intro b hb
 unfold sbs at hb
 obtain ⟨c,_,rfl⟩:=List.mem_map.1 hb
 have:=c.toNat_lt
 omega
theorem pC (s:ByteArray) (i:Nat) (h:i < (sbs s).length):ss s (i:Int)=some (sbs s)[i]:=by
 unfold ss
 rw [decide_eq_true (by omega),cond_true,Int.toNat_natCast]
 have h2:i < s.data.size:=by rw [aV] at h; exact h
 rw [Array.getElem?_eq_getElem h2]
 simp only [sbs,Option.map_some,List.getElem_map,Array.getElem_toList]
theorem p2 (i:Nat):2 ^ (7*i)=128 ^ i:=by rw [Nat.pow_mul]
theorem pw8 {i:Nat} (h:i<=8):128 ^ i<=72057594037927936:=Nat.le_trans (Nat.pow_le_pow_right (by omega) h) (by decide)
theorem yB (i acc b:Nat) (hi:i<=8) (ha:acc < 128 ^ i) (hb:b < 256) :
  Go.bits .or .i64 (acc:Int) (IntKind.i64.wrap ((IntKind.i64.wrap (Go.bits .and .u8 (b:Int) 127))*2 ^ (min (IntKind.i64.wrap (7*(i:Int))).toNat 64)))=((acc+b % 128*128 ^ i:Nat):Int)/\acc+b % 128*128 ^ i < 128 ^ (i+1):=by
 have hP:=pw8 hi
 have h7:(IntKind.i64.wrap (7*(i:Int))).toNat=7*i:=by rw [w64 (by omega) (by omega)]; omega
 have hm:min (7*i) 64=7*i:=by omega
 have hp:(2:Int) ^ (7*i)=((128 ^ i:Nat):Int):=by rw [<- p2]; simp
 rw [h7,hm,hp,AR _ (by omega) (by omega)]
 have hlt:b % 128*128 ^ i<=127*128 ^ i:=Nat.mul_le_mul_right _ (by omega)
 have hP1:128 ^ (i+1)=128*128 ^ i:=by rw [Nat.pow_succ,Nat.mul_comm]
 have e1:IntKind.i64.wrap ((b:Int) % 128)=((b % 128:Nat):Int):=by rw [w64 (by omega) (by omega)]; omega
 have e2:((b % 128:Nat):Int)*((128 ^ i:Nat):Int)=((b % 128*128 ^ i:Nat):Int):=by simp
 rw [e1,e2]
 generalize hw:b % 128*128 ^ i=w at hlt
 rw [w64 (by omega) (by omega),or_comm]
 have hmod:(w:Int) % 2 ^ (7*i)=0:=by
  rw [hp,<- hw]
  rw [<- Int.natCast_emod,Nat.mul_mod_left]
  rfl
 have:=bits_join .i64 63 (by decide) (λn h0 h1=>w64 (by omega) (by omega)) (7*i) (w:Int) (acc:Int) (by omega) hmod (by omega) (by omega) (by rw [hp]; omega) (by omega)
 rw [this]
 constructor
 ·omega
 ·omega
def CH (s:ByteArray):Int ⊕ (Nat×Nat)->Int×aD
 | .inl e=>(0,⟨noS,e⟩)
 | .inr (v,j)=>(v,⟨gn s j s.size,0⟩)
theorem m8 (s:ByteArray) (e:Int) (h:e≠0):bM ⟨s,0⟩ e=some ⟨noS,e⟩:=by
 unfold bM
 have:(e != 0)=true:=by simpa using h
 simp [this,noS]
theorem qE (s:ByteArray) (e f:Int) (h:e≠0):bM ⟨s,e⟩ f=some ⟨s,e⟩:=by
 unfold bM
 have:(e == 0)=false:=by simpa using h
 simp [this]
theorem CI (s:ByteArray) (hs:s.size<=1000000):bJ ⟨s,0⟩=some (CH s (rdp 9 0 0 (sbs s))):=by
 unfold bJ
 have hl:(sbs s).length=s.size:=aV s
 refine Eq.trans ?_ (congrArg (λl=>some (CH s (rdp 9 0 0 l))) (List.drop_zero (l:=sbs s)))
 have key: ∀ (k i acc:Nat),i+k=9->acc < 128 ^ i->i<=(sbs s).length->Option.bind (iter (σ:=Int×Int) (ρ:=Unit ⊕ (Int×aD)) (λa=>(bif (decide (a.1 < (cW ((⟨s,0⟩:aD).s.size:Int) 9))) then (Option.bind (ss (⟨s,0⟩:aD).s a.1) λb213=>(Option.bind (chk (shk (IntKind.i64.wrap (7*a.1)))) λ_=>(bif (decide (b213>=128)) then some (.inl ((IntKind.i64.wrap (a.1+1)),(Go.bits .or .i64 a.2 (IntKind.i64.wrap ((IntKind.i64.wrap (Go.bits .and .u8 b213 127))*2 ^ (min (IntKind.i64.wrap (7*a.1)).toNat 64)))))) else (Option.bind ((bif (decide (a.1 > 0)) then (bif (b213 == 0) then some true else some (decide ((Go.bits .or .i64 a.2 (IntKind.i64.wrap ((IntKind.i64.wrap (Go.bits .and .u8 b213 127))*2 ^ (min (IntKind.i64.wrap (7*a.1)).toNat 64)))) > 4611686018427387904))) else some (decide ((Go.bits .or .i64 a.2 (IntKind.i64.wrap ((IntKind.i64.wrap (Go.bits .and .u8 b213 127))*2 ^ (min (IntKind.i64.wrap (7*a.1)).toNat 64)))) > 4611686018427387904))):Option Bool) λc=>(bif c then (Option.bind (bM (⟨s,0⟩:aD) 1) λd=>(eV (some (0,d)))) else (Option.bind (chk (eK (IntKind.i64.wrap (a.1+1)) ((⟨s,0⟩:aD).s.size:Int) (⟨s,0⟩:aD).s.size)) λ_=>(eV (some ((Go.bits .or .i64 a.2 (IntKind.i64.wrap ((IntKind.i64.wrap (Go.bits .and .u8 b213 127))*2 ^ (min (IntKind.i64.wrap (7*a.1)).toNat 64)))),(aD.mk (gn (⟨s,0⟩:aD).s (IntKind.i64.wrap (a.1+1)) ((⟨s,0⟩:aD).s.size:Int)) (⟨s,0⟩:aD).e)))))))))) else some (.inr (.inl ())))) ((i:Int),(acc:Int))) (λ | .inl e176=>(Option.bind ((bif (decide (((⟨s,0⟩:aD).s.size:Int)>=9)) then (Option.bind (bM (⟨s,0⟩:aD) 1) λf=>some f) else some (⟨s,0⟩:aD)):Option aD) λg=>(Option.bind (bM g 2) λj=>some (0,j))) | .inr w=>some w)=some (CH s (rdp k i acc ((sbs s).drop i))):=by
  intro k
  induction k with
  | zero =>
   intro i acc hi ha hil
   rw [bA (r:= .inl ())]
   ·rw [aA]
    dsimp only
    rw [decide_eq_true (by omega),cond_true,m8 _ _ (by decide),aA,aA,qE _ _ _ (by decide),aA]
    rfl
   ·dsimp only
    rw [ns,decide_eq_false (by omega),cond_false]
  | succ k ih =>
   intro i acc hi ha hil
   by_cases hlt:i < (sbs s).length
   ·obtain ⟨hb0,hb1⟩:=pB s _ (List.getElem_mem hlt)
    have hx:=pC s i hlt
    rw [List.drop_eq_getElem_cons hlt]
    generalize (sbs s)[i]=b at hb0 hb1 hx
    obtain ⟨B,rfl⟩:=Int.eq_ofNat_of_zero_le hb0
    obtain ⟨hor,hbd⟩:=yB i acc B (by omega) ha (by omega)
    have hshk:chk (shk (IntKind.i64.wrap (7*(i:Int))))=some ():=by
     rw [w64 (by omega) (by omega)]
     exact ja (by omega)
    unfold rdp
    rw [Int.toNat_natCast]
    by_cases hbig:(B:Int)>=128
    ·rw [bZ (s':=(((i+1:Nat):Int),((acc+B % 128*128 ^ i:Nat):Int)))]
     ·rw [ih (i+1) (acc+B % 128*128 ^ i) (by omega) hbd (by omega),if_neg (by omega)]
     ·dsimp only
      rw [ns,decide_eq_true (by omega),cond_true,hx,aA,hshk,aA,decide_eq_true hbig,cond_true,hor,w64 (by omega) (by omega)]
      rfl
    ·rw [if_pos (by omega)]
     have hc:((bif (decide ((i:Int) > 0)) then (bif ((B:Int) == 0) then some true else some (decide (((acc+B % 128*128 ^ i:Nat):Int) > 4611686018427387904))) else some (decide (((acc+B % 128*128 ^ i:Nat):Int) > 4611686018427387904))):Option Bool)=some (decide ((i > 0/\(B:Int)=0)\/acc+B % 128*128 ^ i > most)):=by
      have hd: ∀ v:Nat,decide ((v:Int) > 4611686018427387904)=decide (v > most):=λv=>by
       unfold most
       congr 1
       apply propext
       omega
      rw [hd]
      by_cases c1:i > 0
      ·have c1':(i:Int) > 0:=by omega
       rw [decide_eq_true c1',cond_true]
       by_cases c2:(B:Int)=0
       ·have:((B:Int) == 0)=true:=by simpa using c2
        rw [this,cond_true,decide_eq_true (.inl ⟨c1,c2⟩)]
       ·have:((B:Int) == 0)=false:=by simpa using c2
        rw [this,cond_false]
        congr 1
        by_cases c3:acc+B % 128*128 ^ i > most
        ·rw [decide_eq_true c3,decide_eq_true (.inr c3)]
        ·rw [decide_eq_false c3,decide_eq_false (by rintro (h | h); exact c2 h.2; exact c3 h)]
      ·rw [decide_eq_false (by omega),cond_false]
       congr 1
       by_cases c3:acc+B % 128*128 ^ i > most
       ·rw [decide_eq_true c3,decide_eq_true (.inr c3)]
       ·rw [decide_eq_false c3,decide_eq_false (by rintro (h | h); exact c1 h.1; exact c3 h)]
     by_cases hf:(i > 0/\(B:Int)=0)\/acc+B % 128*128 ^ i > most
     ·rw [if_pos hf,bA (r:= .inr (0,⟨noS,1⟩))]
      ·rfl
      ·dsimp only
       rw [ns,decide_eq_true (by omega),cond_true,hx,aA,hshk,aA,decide_eq_false hbig,cond_false,hor,hc,aA,decide_eq_true hf,cond_true,m8 _ _ (by decide),aA]
       rfl
     ·rw [if_neg hf,bA (r:= .inr (((acc+B % 128*128 ^ i:Nat):Int),⟨gn s ((i+1:Nat):Int) s.size,0⟩))]
      ·rfl
      ·dsimp only
       rw [ns,decide_eq_true (by omega),cond_true,hx,aA,hshk,aA,decide_eq_false hbig,cond_false,hor,hc,aA,decide_eq_false hf,cond_false,w64 (by omega) (by omega),dI (by omega) (by omega) (by omega),aA]
       rfl
   ·have hd:(sbs s).drop i=[]:=List.drop_eq_nil_of_le (by omega)
    rw [hd,bA (r:= .inl ())]
    ·rw [aA]
     dsimp only
     rw [decide_eq_false (by omega),cond_false,aA,m8 _ _ (by decide),aA]
     rfl
    ·dsimp only
     rw [ns,decide_eq_false (by omega),cond_false]
 exact key 9 0 0 (by omega) (by omega) (by omega)
def EJ (s:ByteArray):Int ⊕ (Nat×Nat)->aR×Int
 | .inl e=>(⟨noS,e⟩,0)
 | .inr (v,j)=>(⟨gn s j s.size,0⟩,v)
theorem AS (s:ByteArray) (hs:s.size<=1000000):bB ⟨s,0⟩=some (EJ s (rdp 9 0 0 (sbs s))):=by
 unfold bB
 have hl:(sbs s).length=s.size:=aV s
 have e0:((0:Int) != 0)=false:=rfl
 dsimp only
 rw [e0,cond_false]
 refine Eq.trans ?_ (congrArg (λl=>some (EJ s (rdp 9 0 0 l))) (List.drop_zero (l:=sbs s)))
 have key: ∀ (k i acc:Nat) (f:Int×Int×Int->Option ((Int×Int×Int) ⊕ (Unit ⊕ (aR×Int)))),f=(λ(s258:Int×Int×Int)=>(bif (decide (s258.2.2 < 9)) then (Option.bind ((bif (s258.2.2 == (s.size:Int)) then (mj (eV (some ((aR.mk (ByteArray.mk #[]) 2),0)))) else (Option.bind (ss s s258.2.2) λb475=>(bif (decide ((IntKind.i64.wrap b475) < 128)) then (Option.bind ((bif (decide (s258.2.2 > 0)) then (bif ((IntKind.i64.wrap b475) == 0) then some true else some (decide ((IntKind.i64.wrap (s258.1+(IntKind.i64.wrap (((IntKind.i64.wrap b475).tmod 128)*s258.2.1)))) > 4611686018427387904))) else some (decide ((IntKind.i64.wrap (s258.1+(IntKind.i64.wrap (((IntKind.i64.wrap b475).tmod 128)*s258.2.1)))) > 4611686018427387904))):Option Bool) λa=>(bif a then (mj (eV (some ((aR.mk (ByteArray.mk #[]) 1),0)))) else (Option.bind (chk (eK (IntKind.i64.wrap (s258.2.2+1)) (s.size:Int) s.size)) λ_=>(mj (eV (some ((aR.mk (gn s (IntKind.i64.wrap (s258.2.2+1)) (s.size:Int)) 0),(IntKind.i64.wrap (s258.1+(IntKind.i64.wrap (((IntKind.i64.wrap b475).tmod 128)*s258.2.1))))))))))) else (bif (decide (s258.2.2 < 8)) then some (.inl ((IntKind.i64.wrap (s258.1+(IntKind.i64.wrap (((IntKind.i64.wrap b475).tmod 128)*s258.2.1)))),(IntKind.i64.wrap (s258.2.1*128)))) else some (.inl ((IntKind.i64.wrap (s258.1+(IntKind.i64.wrap (((IntKind.i64.wrap b475).tmod 128)*s258.2.1)))),s258.2.1)))))):Option ((Int×Int) ⊕ ((Int×Int×Int) ⊕ (Unit ⊕ (aR×Int))))) λ | .inl e465=>some (.inl (e465.1,e465.2,(IntKind.i64.wrap (s258.2.2+1)))) | .inr w=>some w) else some (.inr (.inl ()))))->i+k=9->acc < 128 ^ i->i<=(sbs s).length -> ∀ M:Nat,(i<=8->M=128 ^ i)->Option.bind (iter f ((acc:Int),(M:Int),(i:Int))) (λ | .inl e381=>some ((aR.mk (ByteArray.mk #[]) 1),0) | .inr w=>some w)=some (EJ s (rdp k i acc ((sbs s).drop i))):=by
  intro k
  induction k with
  | zero =>
   intro i acc f hf hi ha hil M hM
   rw [bA (r:= .inl ())]
   ·rfl
   ·subst hf
    dsimp only
    rw [decide_eq_false (by omega),cond_false]
  | succ k ih =>
   intro i acc f hf hi ha hil M hM
   by_cases hlt:i < (sbs s).length
   ·obtain ⟨hb0,hb1⟩:=pB s _ (List.getElem_mem hlt)
    have hx:=pC s i hlt
    rw [List.drop_eq_getElem_cons hlt]
    generalize (sbs s)[i]=b at hb0 hb1 hx
    obtain ⟨B,rfl⟩:=Int.eq_ofNat_of_zero_le hb0
    obtain ⟨_,hbd⟩:=yB i acc B (by omega) ha (by omega)
    have hP:=pw8 (i:=i) (by omega)
    obtain rfl:=hM (by omega)
    have hlt7:B % 128*128 ^ i<=127*128 ^ i:=Nat.mul_le_mul_right _ (by omega)
    have hw:IntKind.i64.wrap (B:Int)=(B:Int):=w64 (by omega) (by omega)
    have hm:(B:Int).tmod 128=((B % 128:Nat):Int):=by rw [Int.tmod_eq_emod_of_nonneg (by omega)]; omega
    have hv:IntKind.i64.wrap ((acc:Int)+IntKind.i64.wrap (((B % 128:Nat):Int)*((128 ^ i:Nat):Int)))=((acc+B % 128*128 ^ i:Nat):Int):=by
     have e2:((B % 128:Nat):Int)*((128 ^ i:Nat):Int)=((B % 128*128 ^ i:Nat):Int):=by simp
     rw [e2]
     generalize B % 128*128 ^ i=w at hlt7
     rw [w64 (x:=(w:Int)) (by omega) (by omega),w64 (by omega) (by omega)]
     omega
    have hne:((i:Int) == (s.size:Int))=false:=by simp; omega
    unfold rdp
    rw [Int.toNat_natCast]
    by_cases hbig:(B:Int) < 128
    ·rw [if_pos hbig]
     have hc:((bif (decide ((i:Int) > 0)) then (bif ((B:Int) == 0) then some true else some (decide (((acc+B % 128*128 ^ i:Nat):Int) > 4611686018427387904))) else some (decide (((acc+B % 128*128 ^ i:Nat):Int) > 4611686018427387904))):Option Bool)=some (decide ((i > 0/\(B:Int)=0)\/acc+B % 128*128 ^ i > most)):=by
      have hd: ∀ v:Nat,decide ((v:Int) > 4611686018427387904)=decide (v > most):=λv=>by
       unfold most
       congr 1
       apply propext
       omega
      rw [hd]
      by_cases c1:i > 0
      ·have c1':(i:Int) > 0:=by omega
       rw [decide_eq_true c1',cond_true]
       by_cases c2:(B:Int)=0
       ·have:((B:Int) == 0)=true:=by simpa using c2
        rw [this,cond_true,decide_eq_true (.inl ⟨c1,c2⟩)]
       ·have:((B:Int) == 0)=false:=by simpa using c2
        rw [this,cond_false]
        congr 1
        by_cases c3:acc+B % 128*128 ^ i > most
        ·rw [decide_eq_true c3,decide_eq_true (.inr c3)]
        ·rw [decide_eq_false c3,decide_eq_false (by rintro (h | h); exact c2 h.2; exact c3 h)]
      ·rw [decide_eq_false (by omega),cond_false]
       congr 1
       by_cases c3:acc+B % 128*128 ^ i > most
       ·rw [decide_eq_true c3,decide_eq_true (.inr c3)]
       ·rw [decide_eq_false c3,decide_eq_false (by rintro (h | h); exact c1 h.1; exact c3 h)]
     by_cases hfm:(i > 0/\(B:Int)=0)\/acc+B % 128*128 ^ i > most
     ·rw [if_pos hfm,bA (r:= .inr (⟨noS,1⟩,0))]
      ·rfl
      ·subst hf
       dsimp only
       rw [decide_eq_true (by omega),cond_true,hne,cond_false,hx,aA,hw,decide_eq_true hbig,cond_true,hm,hv,hc,aA,decide_eq_true hfm,cond_true]
       rfl
     ·rw [if_neg hfm,bA (r:= .inr (⟨gn s ((i+1:Nat):Int) s.size,0⟩,((acc+B % 128*128 ^ i:Nat):Int)))]
      ·rfl
      ·subst hf
       dsimp only
       rw [decide_eq_true (by omega),cond_true,hne,cond_false,hx,aA,hw,decide_eq_true hbig,cond_true,hm,hv,hc,aA,decide_eq_false hfm,cond_false,w64 (x:=(i:Int)+1) (by omega) (by omega),dI (by omega) (by omega) (by omega),aA]
       rfl
    ·rw [if_neg hbig]
     by_cases h8:i < 8
     ·rw [bZ (s':=(((acc+B % 128*128 ^ i:Nat):Int),((128 ^ (i+1):Nat):Int),((i+1:Nat):Int)))]
      ·exact ih (i+1) _ f hf (by omega) hbd (by omega) _ (λ_=>rfl)
      ·subst hf
       dsimp only
       have hP1:(128:Nat) ^ (i+1)=128 ^ i*128:=Nat.pow_succ ..
       have hP7:128 ^ i<=562949953421312:=Nat.le_trans (Nat.pow_le_pow_right (by omega) (by omega:i<=7)) (by decide)
       have hmm:IntKind.i64.wrap (((128 ^ i:Nat):Int)*128)=((128 ^ (i+1):Nat):Int):=by
        rw [hP1,w64 (by omega) (by omega)]
        omega
       rw [decide_eq_true (by omega),cond_true,hne,cond_false,hx,aA,hw,decide_eq_false hbig,cond_false,hm,hv,decide_eq_true (by omega),cond_true,aA]
       dsimp only
       rw [hmm,w64 (x:=(i:Int)+1) (by omega) (by omega)]
       rfl
     ·rw [bZ (s':=(((acc+B % 128*128 ^ i:Nat):Int),((128 ^ i:Nat):Int),((i+1:Nat):Int)))]
      ·exact ih (i+1) _ f hf (by omega) hbd (by omega) _ (λh=>by omega)
      ·subst hf
       dsimp only
       rw [decide_eq_true (by omega),cond_true,hne,cond_false,hx,aA,hw,decide_eq_false hbig,cond_false,hm,hv,decide_eq_false (by omega),cond_false,aA]
       dsimp only
       rw [w64 (x:=(i:Int)+1) (by omega) (by omega)]
       rfl
   ·have hd:(sbs s).drop i=[]:=List.drop_eq_nil_of_le (by omega)
    rw [hd,bA (r:= .inr (⟨noS,2⟩,0))]
    ·rfl
    ·subst hf
     dsimp only
     have hne:((i:Int) == (s.size:Int))=true:=by simp; omega
     rw [decide_eq_true (by omega),cond_true,hne,cond_true]
     rfl
 exact key 9 0 0 _ rfl (by omega) (by omega) (by omega) 1 (λ_=>rfl)
theorem lQ (a b:ByteArray):(a.toList == b.toList)=decide (a=b):=by
 rw [ByteArray.toList_eq,ByteArray.toList_eq]
 by_cases h:a=b
 ·subst h
  rw [decide_eq_true rfl,beq_self_eq_true]
 ·rw [decide_eq_false h]
  have: ¬ a.data.toList=b.data.toList:=λe=>h (ByteArray.ext (Array.ext' e))
  simpa using this
theorem ib (s:ByteArray) (lo hi:Nat):sbs (gn s lo hi)=((sbs s).take hi).drop lo:=by
 unfold sbs gn
 rw [ByteArray.data_extract,Int.toNat_natCast,Int.toNat_natCast]
 rw [Array.toList_extract]
 rw [List.extract_eq_take_drop,List.map_take,List.map_drop,List.drop_take]
theorem nU (s:ByteArray):dL (sbs s)=s:=by
 rw [mz]
 unfold sbs
 rw [List.map_map]
 have:((λn:Int=>UInt8.ofNat n.toNat) ∘ λb:UInt8=>(b.toNat:Int))=id:=by
  funext b
  simp
 rw [this,List.map_id]
theorem kA (l:List Int) (h: ∀ b∈l,0<=b/\b < 256):sbs (dL l)=l:=by
 rw [mz]
 unfold sbs
 simp only [List.map_map]
 induction l with
 | nil=>rfl
 | cons a l ih =>
  have ha:=h a (List.mem_cons_self ..)
  rw [List.map_cons,ih λb hb=>h b (List.mem_cons_of_mem _ hb)]
  congr 1
  show ((UInt8.ofNat a.toNat).toNat:Int)=a
  rw [UInt8.toNat_ofNat']
  omega
theorem oo {a b:ByteArray} (h:sbs a=sbs b):a=b:=by rw [<- nU a,h,nU]
theorem xD (a b:ByteArray):sbs (a++b)=sbs a++sbs b:=by
 unfold sbs
 rw [ByteArray.data_append]
 simp
def VI (i:aD):Prop:=i.s.size<=1000000/\(i.e=0\/i.s=noS)
def asR (i:aD):aR:=⟨i.s,i.e⟩
def rdS (i:aD):Int×aD:=if i.e=0 then CH i.s (rdp 9 0 0 (sbs i.s)) else (0,i)
theorem iN (i:aD) (h:VI i):bJ i=some (rdS i):=by
 obtain ⟨s,e⟩:=i
 obtain ⟨h1,h2⟩:=h
 unfold rdS
 by_cases he:e=0
 ·subst he
  rw [if_pos rfl]
  exact CI s h1
 ·rw [if_neg he]
  obtain rfl:s=noS:=h2.resolve_left he
  unfold bJ
  rw [bA (r:= .inl ())]
  ·rw [aA]
   have hz:(noS.size:Int)=0:=rfl
   dsimp only
   rw [hz,decide_eq_false (by omega),cond_false,aA,qE _ _ _ he,aA]
  ·dsimp only
   have hz:(noS.size:Int)=0:=rfl
   rw [ns,hz,decide_eq_false (by omega),cond_false]
theorem fT (i:aD) (h:VI i):bB (asR i)=some (asR (rdS i).2,(rdS i).1):=by
 obtain ⟨s,e⟩:=i
 obtain ⟨h1,h2⟩:=h
 unfold rdS
 by_cases he:e=0
 ·subst he
  rw [if_pos rfl]
  have:=AS s h1
  refine this.trans ?_
  cases rdp 9 0 0 (sbs s) <;> rfl
 ·rw [if_neg he]
  unfold bB asR
  have:(e != 0)=true:=by simpa using he
  dsimp only
  rw [this,cond_true]
theorem AT: ∀ (k i acc:Nat) (l:List Int) (v j:Nat),(∀ b∈l,0<=b/\b < 256)->rdp k i acc l = .inr (v,j) -> ∃ w,v=acc+w*128 ^ i/\v<=most/\i < j/\j<=i+l.length/\gm w=l.take (j - i)/\(i > 0->w > 0):=by
 intro k
 induction k with
 | zero=>intro i acc l v j hb h; cases h
 | succ k ih =>
  intro i acc l v j hb h
  cases l with
  | nil=>cases h
  | cons b r =>
   unfold rdp at h
   have hb0:=hb b (List.mem_cons_self ..)
   obtain ⟨B,rfl⟩:=Int.eq_ofNat_of_zero_le hb0.1
   rw [Int.toNat_natCast] at h
   by_cases hbig:(B:Int) < 128
   ·rw [if_pos hbig] at h
    by_cases hf:(i > 0/\(B:Int)=0)\/acc+B % 128*128 ^ i > most
    ·rw [if_pos hf] at h
     cases h
    ·rw [if_neg hf] at h
     injection h with h
     injection h with hv hj
     have hm:B % 128=B:=Nat.mod_eq_of_lt (by omega)
     rw [hm] at hv hf
     refine ⟨B,hv.symm,?_,by omega,by simp; omega,?_,?_⟩
     ·rw [<- hv]
      exact Nat.le_of_not_lt λhh=>hf (.inr hh)
     ·rw [eN (by omega),<- hj]
      have:i+1 - i=1:=by omega
      rw [this]
      rfl
     ·intro hi
      exact Nat.pos_of_ne_zero λh0=>hf (.inl ⟨hi,by omega⟩)
   ·rw [if_neg hbig] at h
    obtain ⟨w,h1,h2,h3,h4,h5,h6⟩:=ih (i+1) _ r v j (λc hc=>hb c (List.mem_cons_of_mem _ hc)) h
    have hw:=h6 (by omega)
    refine ⟨B % 128+128*w,?_,h2,by omega,by simp; omega,?_,λ_=>by omega⟩
    ·rw [h1,Nat.pow_succ,Nat.add_mul,Nat.add_assoc]
     congr 2
     rw [Nat.mul_comm 128 w,Nat.mul_assoc,Nat.mul_comm 128]
    ·rw [lu (by omega)]
     have e1:(B % 128+128*w) / 128=w:=by omega
     have e2:128+(B % 128+128*w) % 128=B:=by omega
     have e3:j - i=(j - (i+1))+1:=by omega
     rw [e1,e2,h5,e3,List.take_succ_cons]
theorem CJ: ∀ (k i acc w:Nat) (R:List Int),w < 128 ^ (k+1)->k+1+i<=9->(i > 0->w > 0)->acc+w*128 ^ i<=most->rdp (k+1) i acc (gm w++R) = .inr (acc+w*128 ^ i,i+(gm w).length):=by
 intro k
 induction k with
 | zero =>
  intro i acc w R hw hk hi hm
  have hs:w < 128:=by simpa using hw
  rw [eN hs]
  show rdp (0+1) i acc ((w:Int)::R)=_
  unfold rdp
  have hmod:w % 128=w:=Nat.mod_eq_of_lt hs
  rw [if_pos (by omega),Int.toNat_natCast,hmod,if_neg]
  ·simp
  ·rintro (⟨h1,h2⟩ | h)
   ·have:=hi h1
    omega
   ·omega
 | succ k ih =>
  intro i acc w R hw hk hi hm
  by_cases hs:w < 128
  ·rw [eN hs]
   show rdp (k+1+1) i acc ((w:Int)::R)=_
   unfold rdp
   have hmod:w % 128=w:=Nat.mod_eq_of_lt hs
   rw [if_pos (by omega),Int.toNat_natCast,hmod,if_neg]
   ·simp
   ·rintro (⟨h1,h2⟩ | h)
    ·have:=hi h1
     omega
    ·omega
  ·rw [lu hs]
   have hq:w / 128 < 128 ^ (k+1):=by
    rw [Nat.pow_succ] at hw
    exact Nat.div_lt_of_lt_mul (by rw [Nat.mul_comm]; exact hw)
   have he:(128+w % 128) % 128=w % 128:=by omega
   have hsum:acc+w % 128*128 ^ i+w / 128*128 ^ (i+1)=acc+w*128 ^ i:=by
    rw [Nat.pow_succ,Nat.add_assoc]
    congr 1
    rw [Nat.mul_comm (128 ^ i) 128,<- Nat.mul_assoc,<- Nat.add_mul]
    congr 1
    omega
   show rdp (k+1+1) i acc (((128+w % 128:Nat):Int)::(gm (w / 128)++R))=_
   rw [rdp,if_neg (by omega),Int.toNat_natCast,he,ih (i+1) _ (w / 128) R hq (by omega) (λ_=>by omega) (by rw [hsum]; exact hm),hsum]
   simp only [List.length_cons]
   congr 2
   omega
theorem eZ {i:aD} (h:VI i):VI (rdS i).2:=by
 obtain ⟨s,e⟩:=i
 obtain ⟨h1,h2⟩:=h
 unfold rdS
 by_cases he:e=0
 ·rw [if_pos he]
  cases hr:rdp 9 0 0 (sbs (⟨s,e⟩:aD).s) with
  | inl f=>exact ⟨by show noS.size<=1000000; decide,.inr rfl⟩
  | inr p =>
   refine ⟨?_,.inl rfl⟩
   show (gn s p.2 s.size).size<=1000000
   rw [<- aV,ib,List.length_drop,List.length_take,aV]
   simp only at h1
   omega
 ·rw [if_neg he]
  exact ⟨h1,h2⟩
theorem oS {i:aD} (h:(rdS i).2.e≠0):(rdS i).1=0:=by
 unfold rdS at *
 split at h
 ·rename_i he
  rw [if_pos he]
  cases hr:rdp 9 0 0 (sbs i.s) with
  | inl f=>rfl
  | inr p =>
   rw [hr] at h
   exact absurd rfl h
 ·rename_i he
  rw [if_neg he]
theorem tS {i:aD} (h:(rdS i).2.e=0) (hV:VI i):i.e=0 /\ ∃ w:Nat,(rdS i).1=w/\w<=most/\sbs i.s=gm w++sbs (rdS i).2.s:=by
 unfold rdS at *
 by_cases he:i.e=0
 ·rw [if_pos he] at h ⊢
  refine ⟨he,?_⟩
  cases hr:rdp 9 0 0 (sbs i.s) with
  | inl f =>
   rw [hr] at h
   -- an error is never nought
   exfalso
   have key: ∀ (k i acc:Nat) (l:List Int) (e:Int),rdp k i acc l = .inl e->e≠0:=by
    intro k
    induction k with
    | zero=>intro i acc l e hh; injection hh with hh; omega
    | succ k ih =>
     intro i acc l e hh
     cases l with
     | nil=>injection hh with hh; omega
     | cons b r =>
      unfold rdp at hh
      split at hh
      ·split at hh
       ·injection hh with hh
        omega
       ·cases hh
      ·exact ih _ _ _ _ hh
   exact key _ _ _ _ _ hr h
  | inr p =>
   obtain ⟨v,j⟩:=p
   obtain ⟨w,h1,h2,h3,h4,h5,h6⟩:=AT 9 0 0 (sbs i.s) v j (pB i.s) hr
   refine ⟨v,rfl,h2,?_⟩
   have hvw:v=w:=by rw [h1]; simp
   show sbs i.s=gm v++sbs (gn i.s j i.s.size)
   rw [hvw,h5,ib,Nat.sub_zero]
   have:(sbs i.s).take i.s.size=sbs i.s:=List.take_of_length_le (by rw [aV]; exact Nat.le_refl _)
   rw [this,List.take_append_drop]
 ·rw [if_neg he] at h
  exact absurd h he
theorem jP {i:aD} (hV:VI i):0<=(rdS i).1/\(rdS i).1<=4611686018427387904:=by
 by_cases h:(rdS i).2.e=0
 ·obtain ⟨_,w,h1,h2,_⟩:=tS h hV
  rw [h1]
  unfold most at h2
  omega
 ·rw [oS h]
  omega
theorem EK (s:ByteArray) (w:Nat) (R:List Int) (hw:w<=most) (hs:sbs s=gm w++R):rdS ⟨s,0⟩=((w:Int),⟨dL R,0⟩):=by
 unfold rdS
 rw [if_pos rfl]
 have hl:=pA 8 w (by unfold most at hw; omega)
 have h:=CJ 8 0 0 w R (by unfold most at hw; omega) (by omega) (λh=>by omega) (by simpa using hw)
 dsimp only
 rw [hs,h]
 show (((0+w*128 ^ 0:Nat):Int),(⟨gn s ((0+(gm w).length:Nat):Int) s.size,0⟩:aD))=_
 have e1:0+w*128 ^ 0=w:=by simp
 have e2:gn s ((0+(gm w).length:Nat):Int) s.size=dL R:=by
  rw [<- nU (gn s ((0+(gm w).length:Nat):Int) s.size),ib]
  have:(sbs s).take s.size=sbs s:=List.take_of_length_le (by rw [aV]; exact Nat.le_refl _)
  rw [this,hs,Nat.zero_add,List.drop_left]
 rw [e1,e2]
theorem EL (r q:aT) (h:r.cells.length<=1000000) (hr:okR r.cells) (hq:okR q.cells):jX r (told q)=some (decide (r=q)):=by
 by_cases he:r=q
 ·subst he
  rw [FF r h hr,decide_eq_true rfl]
 rw [decide_eq_false he]
 unfold jX told
 simp only [eX]
 by_cases h1:r.cells.length=q.cells.length
 ·by_cases h2:r.wrapped=q.wrapped
  ·have e6:((bif ((r.cells.length:Int) != (q.cells.length:Int)) then some true else some (!(r.wrapped == q.wrapped))):Option Bool)=some false:=by simp [h1,h2]
   rw [e6,aA,cond_false]
   refine py (λi:Int=> ∃ n:Nat,i=n/\n<=r.cells.length/\r.cells.take n=q.cells.take n) (λi=>(r.cells.length - i).toNat) (λv=>v = .inr false) ⟨0,rfl,by omega,rfl⟩ ?_ (λv hv=>by rw [hv])
   rintro i ⟨n,rfl,hn,ht⟩
   by_cases hlt:n < r.cells.length
   ·have hlq:n < q.cells.length:=by omega
    have hi2:idx (q.cells.map tc) (n:Int)=some (tc q.cells[n]):=by rw [bL _ _ (by simpa using hlq),List.getElem_map]
    have k1:=hr _ (List.getElem_mem hlt)
    have k2:=hq _ (List.getElem_mem hlq)
    have hcmp:(Option.bind (some (tc q.cells[n])) λe=>(bif ((IntKind.i64.wrap r.cells[n].rune) != e.rune) then some true else (Option.bind (some (tc q.cells[n])) λf=>(bif (r.cells[n].bO != f.bO) then some true else (Option.bind (some (tc q.cells[n])) λg=>some (r.cells[n].part != g.part))))))=some (decide (r.cells[n]≠q.cells[n])):=by
     simp only [aA,tc,w32 k1]
     generalize r.cells[n]=a
     generalize q.cells[n]=b
     obtain ⟨a1,a2,a3⟩:=a
     obtain ⟨b1,b2,b3⟩:=b
     by_cases g1:a1=b1 <;> by_cases g2:a2=b2 <;> by_cases g3:a3=b3 <;> simp [g1,g2,g3]
     all_goals first | (have:(a1 != b1)=true:=by simpa using g1); simp [this] | (have:(a2 != b2)=true:=by simpa using g2); simp [this] | skip
    by_cases hc:r.cells[n]=q.cells[n]
    ·refine .inl ⟨((n+1:Nat):Int),?_,⟨n+1,rfl,hlt,?_⟩,by (try dsimp only); omega⟩
     ·rw [decide_eq_true (by omega),cond_true,bL _ _ hlt,aA,hi2,hcmp,aA,decide_eq_false (by simpa using hc),cond_false,w64 (by omega) (by omega)]
      rfl
     ·rw [List.take_succ_eq_append_getElem hlt,List.take_succ_eq_append_getElem hlq,ht,hc]
    ·refine .inr ⟨.inr false,?_,rfl⟩
     rw [decide_eq_true (by omega),cond_true,bL _ _ hlt,aA,hi2,hcmp,aA,decide_eq_true (by simpa using hc),cond_true]
     rfl
   ·exfalso
    have hn2:n=r.cells.length:=by omega
    subst hn2
    rw [List.take_length,h1,List.take_length] at ht
    apply he
    obtain ⟨a,b⟩:=r
    obtain ⟨c,d⟩:=q
    simp_all
  ·have e6:((bif ((r.cells.length:Int) != (q.cells.length:Int)) then some true else some (!(r.wrapped == q.wrapped))):Option Bool)=some true:=by simp [h1,h2]
   rw [e6,aA,cond_true]
 ·have e7:((r.cells.length:Int) != (q.cells.length:Int))=true:=by simp; omega
  rw [e7,cond_true,aA,cond_true]
def iO:aD:=⟨noS,1⟩
theorem l9:VI iO:=⟨by show noS.size<=1000000; decide,.inr rfl⟩
theorem pD {i:aD} (h:VI i):bM i 1=some (if i.e=0 then iO else i):=by
 obtain ⟨s,e⟩:=i
 by_cases he:e=0
 ·subst he
  rw [if_pos rfl]
  exact m8 s 1 (by decide)
 ·rw [if_neg he]
  exact qE s e 1 he
def bU (i:aD) (m:Int):Int×aD:=if (rdS i).1 > m then (0,iO) else rdS i
theorem fr {i:aD} (m:Int) (h:VI i):VI (bU i m).2:=by
 unfold bU
 split
 ·exact l9
 ·exact eZ h
theorem fU {i:aD} {m:Int} (h:VI i) (hm:0<=m):0<=(bU i m).1/\(bU i m).1<=m:=by
 unfold bU
 split
 ·exact ⟨Int.le_refl _,hm⟩
 ·have:=jP h
  omega
theorem jB {i:aD} {m:Int} (h:(bU i m).2.e=0) (hV:VI i):i.e=0 /\ ∃ w:Nat,(bU i m).1=w/\(w:Int)<=m/\w<=most/\sbs i.s=gm w++sbs (bU i m).2.s:=by
 unfold bU at *
 split at h
 ·exact absurd h (by decide)
 ·rename_i hh
  rw [if_neg hh]
  obtain ⟨h1,w,h2,h3,h4⟩:=tS h hV
  exact ⟨h1,w,h2,by omega,h3,h4⟩
theorem nV {i:aD} (hV:VI i) {m:Int} (hm:0<=m) (h:(rdS i).1 > m):(rdS i).2.e=0:=by
 by_cases he:(rdS i).2.e=0
 ·exact he
 ·have:=oS he
  omega
theorem nB {i:aD} (h:VI i) {m:Int} (hm:0<=m):cN (asR i) m=some (asR (bU i m).2,(bU i m).1):=by
 unfold cN bU
 rw [fT i h,aA]
 dsimp only
 by_cases hb:(rdS i).1 > m
 ·have he:=nV h hm hb
  have e1:((asR (rdS i).2).e == 0)=true:=by simpa [asR] using he
  rw [e1,cond_true,decide_eq_true hb,aA,cond_true,if_pos hb]
  rfl
 ·rw [if_neg hb,decide_eq_false hb]
  cases ((asR (rdS i).2).e == 0) <;> rfl
theorem size_eq {i:aD} (h:VI i):q7 i=some (bU i 1000):=by
 unfold q7 bU
 rw [iN i h,aA]
 by_cases hb:(rdS i).1 > 1000
 ·have he:=nV h (by omega) hb
  rw [decide_eq_true hb,cond_true,pD (eZ h),if_pos he,aA,if_pos hb]
 ·rw [decide_eq_false hb,cond_false,if_neg hb]
theorem uC {i:aD} (h:VI i) {m:Int} (hm:0<=m):fw i m=some (bU i m):=by
 unfold fw bU
 rw [iN i h,aA]
 by_cases hb:(rdS i).1 > m
 ·have he:=nV h hm hb
  rw [decide_eq_true hb,cond_true,pD (eZ h),if_pos he,aA,if_pos hb]
 ·rw [decide_eq_false hb,cond_false,if_neg hb]
def mP (i:aD) (left:Int):aD:=if (bU i left).2.e=0/\(bU i left).1=0 then iO else (bU i left).2
theorem mC {i:aD} (left:Int) (h:VI i):VI (mP i left):=by
 unfold mP
 split
 ·exact l9
 ·exact fr left h
def nW (i:aD) (left:Int):Int×aD:=bU (mP i left) 1114111
def oz (i:aD) (left:Int):Int×aD:=bU (nW i left).2 647
def jz (i:aD) (left:Int):Int×aD:=bU (oz i left).2 3
theorem nC {i:aD} (left:Int) (h:VI i):VI (nW i left).2:=fr _ (mC left h)
theorem nD {i:aD} (left:Int) (h:VI i):VI (oz i left).2:=fr _ (nC left h)
theorem kX {i:aD} (left:Int) (h:VI i):VI (jz i left).2:=fr _ (nD left h)
def gb (i:aD) (left:Int):aL:=⟨(nW i left).1,(oz i left).1,(jz i left).1⟩
theorem sB (i:aD) (h:VI i) (m:Int) (hm:0<=m): ∃ v:Int,bJ i=some (v,(rdS i).2)/\(if v > m then (if (rdS i).2.e=0 then iO else (rdS i).2) else (rdS i).2)=(bU i m).2/\((bU i m).2.e=0->v=(bU i m).1):=by
 refine ⟨(rdS i).1,iN i h,?_,?_⟩
 ·unfold bU
  by_cases hb:(rdS i).1 > m
  ·rw [if_pos hb,if_pos hb,if_pos (nV h hm hb)]
  ·rw [if_neg hb,if_neg hb]
 ·unfold bU
  by_cases hb:(rdS i).1 > m
  ·rw [if_pos hb]
   intro hh
   exact absurd hh (by decide)
  ·rw [if_neg hb]
   exact λ_=>rfl
theorem pE {i:aD} (h:i.e≠0) (m:Int) (hm:0<=m):(bU i m).2=i:=by
 unfold bU rdS
 rw [if_neg h]
 dsimp only
 rw [if_neg (by omega)]
theorem run_eq (i:aD) (left:Int) (h:VI i) (hl:0<=left):kP i left=some (if (jz i left).2.e=0 then ((bU i left).1,gb i left,true,(jz i left).2) else (0,⟨0,0,0⟩,false,(jz i left).2)):=by
 unfold kP
 rw [iN i h,aA]
 have hor:((bif ((rdS i).1 == 0) then some true else some (decide ((rdS i).1 > left))):Option Bool)=some (decide ((rdS i).1=0\/(rdS i).1 > left)):=by
  by_cases h0:(rdS i).1=0
  ·have:((rdS i).1 == 0)=true:=by simpa using h0
   rw [this,cond_true,decide_eq_true (.inl h0)]
  ·have:((rdS i).1 == 0)=false:=by simpa using h0
   rw [this,cond_false]
   by_cases h1:(rdS i).1 > left
   ·rw [decide_eq_true h1,decide_eq_true (.inr h1)]
   ·rw [decide_eq_false h1,decide_eq_false (by omega)]
 have hst:((bif decide ((rdS i).1=0\/(rdS i).1 > left) then (Option.bind (bM (rdS i).2 1) λb=>some b) else some (rdS i).2):Option aD)=some (mP i left):=by
  unfold mP bU
  by_cases hb:(rdS i).1 > left
  ·rw [decide_eq_true (.inr hb),cond_true,pD (eZ h),if_pos (nV h hl hb),aA,if_pos hb]
   rfl
  ·rw [if_neg hb]
   by_cases h0:(rdS i).1=0
   ·rw [decide_eq_true (.inl h0),cond_true,pD (eZ h),aA]
    by_cases he:(rdS i).2.e=0
    ·rw [if_pos he,if_pos ⟨he,h0⟩]
    ·rw [if_neg he,if_neg (λhh=>he hh.1)]
   ·rw [decide_eq_false (by omega),cond_false,if_neg (λhh=>h0 hh.2)]
 rw [hor,aA,hst,aA]
 obtain ⟨v1,n1,f1,g1⟩:=sB (mP i left) (mC left h) 1114111 (by omega)
 obtain ⟨v2,n2,f2,g2⟩:=sB (nW i left).2 (nC left h) 647 (by omega)
 obtain ⟨v3,n3,f3,g3⟩:=sB (oz i left).2 (nD left h) 3 (by omega)
 have fl: ∀ (j:aD) (hj:VI j) (v m:Int) (a:jS) (out:aD),(if v > m then (if j.e=0 then iO else j) else j)=out->((bif (decide (v > m)) then (Option.bind (bM j 1) λc=>some (a,c)) else some (a,j)):Option (jS×aD))=some (a,out):=by
  intro j hj v m a out ho
  by_cases hb:v > m
  ·rw [if_pos hb] at ho
   rw [decide_eq_true hb,cond_true,pD hj,aA,ho]
  ·rw [if_neg hb] at ho
   rw [decide_eq_false hb,cond_false,ho]
 have ab: ∀ k:Int,0<=k->k < 3->chk (AB k 3)=some ():=λk h0 h1=>ja ⟨h0,h1⟩
 rw [bZ (s':=((⟨v1,0,0⟩:jS),(nW i left).2,(1:Int)))]
 ·rw [bZ (s':=((⟨v1,v2,0⟩:jS),(oz i left).2,(2:Int)))]
  ·rw [bZ (s':=((⟨v1,v2,v3⟩:jS),(jz i left).2,(3:Int)))]
   ·rw [bA (r:=((⟨v1,v2,v3⟩:jS),(jz i left).2))]
    ·rw [aA]
     unfold cT
     rw [aA]
     dsimp only
     by_cases he:(jz i left).2.e=0
     ·have hb:((jz i left).2.e != 0)=false:=by simpa using he
      rw [hb,cond_false,if_pos he]
      have eB:(oz i left).2.e=0:=(jB (i:=(oz i left).2) (m:=3) he (nD left h)).1
      have eA:(nW i left).2.e=0:=(jB (i:=(nW i left).2) (m:=647) eB (nC left h)).1
      have e0:(mP i left).e=0:=(jB (i:=mP i left) (m:=1114111) eA (mC left h)).1
      have q1:v1=(nW i left).1:=g1 eA
      have q2:v2=(oz i left).1:=g2 eB
      have q3:v3=(jz i left).1:=g3 he
      have hr:=fU (i:=mP i left) (m:=1114111) (mC left h) (by omega)
      have hw:IntKind.i32.wrap v1=v1:=by
       rw [q1,IntKind.wrap_i32]
       unfold nW
       omega
      have hn:(rdS i).1=(bU i left).1:=by
       unfold mP at e0
       unfold bU at *
       split
       ·rename_i hb2
        rw [if_pos hb2] at e0
        split at e0
        ·exact absurd e0 (by decide)
        ·exact absurd e0 (by decide)
       ·rfl
      rw [hw,q1,q2,q3,hn]
      rfl
     ·have hb:((jz i left).2.e != 0)=true:=by simpa using he
      rw [hb,cond_true,if_neg he]
    ·rfl
   ·dsimp only
    rw [decide_eq_true (by omega),cond_true,show idx ([1114111,647,3]:List Int) (2:Int)=some 3 from rfl,aA,n3,aA,ab 2 (by omega) (by omega),aA,aA]
    dsimp only
    rw [show idx [sel 2 0 v3 v1,sel 2 1 v3 v2,sel 2 2 v3 0] (2:Int)=some v3 from rfl,aA,fl _ (eZ (nD left h)) _ _ _ _ f3,aA]
    rfl
  ·dsimp only
   rw [decide_eq_true (by omega),cond_true,show idx ([1114111,647,3]:List Int) (1:Int)=some 647 from rfl,aA,n2,aA,ab 1 (by omega) (by omega),aA,aA]
   dsimp only
   rw [show idx [sel 1 0 v2 v1,sel 1 1 v2 0,sel 1 2 v2 0] (1:Int)=some v2 from rfl,aA,fl _ (eZ (nC left h)) _ _ _ _ f2,aA]
   rfl
 ·dsimp only
  rw [decide_eq_true (by omega),cond_true,show idx ([1114111,647,3]:List Int) (0:Int)=some 1114111 from rfl,aA,n1,aA,ab 0 (by omega) (by omega),aA,aA]
  dsimp only
  rw [show idx [sel 0 0 v1 0,sel 0 1 v1 0,sel 0 2 v1 0] (0:Int)=some v1 from rfl,aA,fl _ (eZ (mC left h)) _ _ _ _ f1,aA]
  rfl
def rrS:Nat->Int->aD->List aL->List aL×aD
 | 0,_,i,l=>(l,i)
 | k+1,w,i,l=>if (l.length:Int) < w/\i.e=0 then
   (if (jz i (w - l.length)).2.e=0 then (if l.getLast?=some (gb i (w - l.length)) then rrS k w iO l else rrS k w (jz i (w - l.length)).2 (l++List.replicate (bU i (w - l.length)).1.toNat (gb i (w - l.length))))
   else rrS k w (jz i (w - l.length)).2 l)
  else (l,i)
theorem pF {i:aD} {left:Int} (h:VI i) (hl:0<=left) (he:(jz i left).2.e=0):i.e=0/\1<=(bU i left).1/\(bU i left).1<=left/\(bU i left).2.e=0/\mP i left=(bU i left).2:=by
 have eB:(oz i left).2.e=0:=(jB (i:=(oz i left).2) (m:=3) he (nD left h)).1
 have eA:(nW i left).2.e=0:=(jB (i:=(nW i left).2) (m:=647) eB (nC left h)).1
 have e0:(mP i left).e=0:=(jB (i:=mP i left) (m:=1114111) eA (mC left h)).1
 have hr:=fU (i:=i) (m:=left) h hl
 by_cases hc:(bU i left).2.e=0/\(bU i left).1=0
 ·unfold mP at e0
  rw [if_pos hc] at e0
  exact absurd e0 (by decide)
 ·have e00:=e0
  unfold mP at e0
  rw [if_neg hc] at e0
  refine ⟨(jB e0 h).1,?_,hr.2,e0,by unfold mP; rw [if_neg hc]⟩
  have:(bU i left).1≠0:=λhh=>hc ⟨e0,hh⟩
  omega
theorem yC (l:List aL) (c:aL) (h:l.length<=1000000):((bif (decide ((l.length:Int) > 0)) then (Option.bind (idx l (IntKind.i64.wrap ((l.length:Int) - 1))) λa=>some ((a.rune == c.rune) && ((a.bO == c.bO) && ((a.part == c.part) && true)))) else some false):Option Bool)=some (decide (l.getLast?=some c)):=by
 by_cases hl:l.length=0
 ·rw [decide_eq_false (by omega),cond_false]
  have:l=[]:=List.eq_nil_of_length_eq_zero hl
  subst this
  rfl
 ·have hlt:l.length - 1 < l.length:=by omega
  have e1:IntKind.i64.wrap ((l.length:Int) - 1)=((l.length - 1:Nat):Int):=by rw [w64 (by omega) (by omega)]; omega
  rw [decide_eq_true (by omega),cond_true,e1,bL _ _ hlt,aA,lq,List.getLast?_eq_getElem?,List.getElem?_eq_getElem hlt]
  simp
theorem AU (l:List aL) (c:aL) (h:l.length<=1000000):((bif (decide (((l.map tc).length:Int) > 0)) then (Option.bind (idx (l.map tc) (IntKind.i64.wrap (((l.map tc).length:Int) - 1))) λa=>some ((a.rune == c.rune) && ((a.bO == c.bO) && ((a.part == c.part) && true)))) else some false):Option Bool)=some (decide (l.getLast?=some c)):=by
 rw [eX]
 by_cases hl:l.length=0
 ·rw [decide_eq_false (by omega),cond_false]
  have:l=[]:=List.eq_nil_of_length_eq_zero hl
  subst this
  rfl
 ·have hlt:l.length - 1 < l.length:=by omega
  have e1:IntKind.i64.wrap ((l.length:Int) - 1)=((l.length - 1:Nat):Int):=by rw [w64 (by omega) (by omega)]; omega
  rw [decide_eq_true (by omega),cond_true,e1,bL _ _ (by simpa using hlt),aA,List.getElem_map]
  show some ((l[l.length - 1].rune == c.rune) && ((l[l.length - 1].bO == c.bO) && ((l[l.length - 1].part == c.part) && true)))=_
  rw [lq,List.getLast?_eq_getElem?,List.getElem?_eq_getElem hlt]
  simp
theorem mD (p:Prop) [Decidable p] (e:Int):((bif (decide p) then some (e == 0) else some false):Option Bool)=some (decide (p/\e=0)):=by
 by_cases h1:p
 ·by_cases h2:e=0
  ·have:(e == 0)=true:=by simpa using h2
   rw [decide_eq_true h1,cond_true,this,decide_eq_true ⟨h1,h2⟩]
  ·have:(e == 0)=false:=by simpa using h2
   rw [decide_eq_true h1,cond_true,this,decide_eq_false (λh=>h2 h.2)]
 ·rw [decide_eq_false h1,cond_false,decide_eq_false (λh=>h1 h.1)]
theorem uD: ∀ (k:Nat) (w:Int) (i:aD) (l:List aL),VI i->(l.length:Int)<=max w 0->((rrS k w i l).1.length:Int)<=max w 0/\VI (rrS k w i l).2:=by
 intro k
 induction k with
 | zero=>intro w i l h hl; exact ⟨hl,h⟩
 | succ k ih =>
  intro w i l h hl
  unfold rrS
  by_cases hc:(l.length:Int) < w/\i.e=0
  ·rw [if_pos hc]
   by_cases he:(jz i (w - l.length)).2.e=0
   ·rw [if_pos he]
    obtain ⟨_,h1,h2,_⟩:=pF h (by omega) he
    split
    ·exact ih w _ l l9 hl
    ·exact ih w _ _ (kX _ h) (by rw [List.length_append,List.length_replicate]; omega)
   ·rw [if_neg he]
    exact ih w _ l (kX _ h) hl
  ·rw [if_neg hc]
   exact ⟨hl,h⟩
theorem zy (w:Int) (hw:w<=1000): ∀ (k:Nat) (i:aD) (l:List aL),VI i->(l.length:Int)<=max w 0->(if i.e=0 then (w - l.length).toNat+1 else 1)<=k ->
  iter (σ:=aD×(List aL)) (ρ:=(List aL)×aD) (λa=>(Option.bind ((bif (decide ((a.2.length:Int) < w)) then (Option.bind (cT a.1) λf=>some (f == 0)) else some false):Option Bool) λg=>(bif g then (Option.bind (kP a.1 (IntKind.i64.wrap (w - (a.2.length:Int)))) λb=>(bif (!b.2.2.1) then some (.inl (b.2.2.2,a.2)) else (Option.bind ((bif (decide ((a.2.length:Int) > 0)) then (Option.bind (idx a.2 (IntKind.i64.wrap ((a.2.length:Int) - 1))) λc=>some ((c.rune == b.2.1.rune) && ((c.bO == b.2.1.bO) && ((c.part == b.2.1.part) && true)))) else some false):Option Bool) λj=>(bif j then (Option.bind (bM b.2.2.2 1) λm=>some (.inl (m,a.2))) else (Option.bind (dR [b.2.1] b.1) λd=>(Option.bind (chk (dF a.2.length d.length 24)) λ_=>some (.inl (b.2.2.2,(a.2++d))))))))) else some (.inr (a.2,a.1))))) (i,l)=some (rrS k w i l):=by
 intro k
 induction k with
 | zero=>intro i l h hl hk; split at hk <;> omega
 | succ k ih =>
  intro i l h hl hk
  unfold rrS
  by_cases hc:(l.length:Int) < w/\i.e=0
  ·rw [if_pos hc]
   rw [if_pos hc.2] at hk
   have hwr:IntKind.i64.wrap (w - (l.length:Int))=w - l.length:=w64 (by omega) (by omega)
   by_cases he:(jz i (w - l.length)).2.e=0
   ·rw [if_pos he]
    obtain ⟨_,h1,h2,_⟩:=pF h (by omega) he
    by_cases hlast:l.getLast?=some (gb i (w - l.length))
    ·rw [if_pos hlast,bZ (s':=(iO,l))]
     ·exact ih iO l l9 hl (by rw [if_neg (by decide)]; omega)
     ·dsimp only
      unfold cT
      rw [aA,mD,decide_eq_true hc,aA,cond_true,hwr,run_eq i _ h (by omega),if_pos he,aA]
      dsimp only
      rw [Bool.not_true,cond_false,yC _ _ (by omega),aA,decide_eq_true hlast,cond_true,pD (kX _ h),if_pos he,aA]
    ·rw [if_neg hlast,bZ (s':=((jz i (w - l.length)).2,l++List.replicate (bU i (w - l.length)).1.toNat (gb i (w - l.length))))]
     ·refine ih _ _ (kX _ h) (by rw [List.length_append,List.length_replicate]; omega) ?_
      rw [if_pos he,List.length_append,List.length_replicate]
      omega
     ·dsimp only
      unfold cT
      rw [aA,mD,decide_eq_true hc,aA,cond_true,hwr,run_eq i _ h (by omega),if_pos he,aA]
      dsimp only
      rw [Bool.not_true,cond_false,yC _ _ (by omega),aA,decide_eq_false hlast,cond_false,zw _ _ (by omega) (by omega),aA,bW (by rw [List.length_replicate]; omega),aA]
   ·rw [if_neg he,bZ (s':=((jz i (w - l.length)).2,l))]
    ·exact ih _ l (kX _ h) hl (by rw [if_neg he]; omega)
    ·dsimp only
     unfold cT
     rw [aA,mD,decide_eq_true hc,aA,cond_true,hwr,run_eq i _ h (by omega),if_neg he,aA]
     dsimp only
     rw [Bool.not_false,cond_true]
  ·rw [if_neg hc]
   refine bA ?_
   dsimp only
   unfold cT
   rw [aA,mD,decide_eq_false hc,aA,cond_false]
def gQ (i:aD) (w:Int):aT×aD :=
 if (rrS (w.toNat+1) w (bU i 1).2 []).2.e=0 then (⟨(rrS (w.toNat+1) w (bU i 1).2 []).1,decide ((bU i 1).1=1)⟩,(rrS (w.toNat+1) w (bU i 1).2 []).2)
 else (sA,(rrS (w.toNat+1) w (bU i 1).2 []).2)
theorem vQ: ∀ (k:Nat) (w:Int) (i:aD) (l:List aL),(rrS k w i l).2.e=0->i.e=0:=by
 intro k
 induction k with
 | zero=>intro w i l h; exact h
 | succ k ih =>
  intro w i l h
  unfold rrS at h
  by_cases hc:(l.length:Int) < w/\i.e=0
  ·exact hc.2
  ·rw [if_neg hc] at h
   exact h
theorem xE (i:aD) (w:Int) (h:VI i) (hw:w<=1000):g0 i w=some (gQ i w):=by
 unfold g0
 rw [iN i h,aA]
 have hst:((bif (decide ((rdS i).1 > 1)) then (Option.bind (bM (rdS i).2 1) λa=>some a) else some (rdS i).2):Option aD)=some (bU i 1).2:=by
  unfold bU
  by_cases hb:(rdS i).1 > 1
  ·rw [decide_eq_true hb,cond_true,pD (eZ h),if_pos (nV h (by omega) hb),aA,if_pos hb]
  ·rw [decide_eq_false hb,cond_false,if_neg hb]
 rw [hst,aA]
 have hV:=fr 1 h
 rw [zy w hw (w.toNat+1) _ [] hV (by simp; omega) (by simp only [List.length_nil]; split <;> omega),aA]
 unfold cT gQ
 rw [aA]
 by_cases he:(rrS (w.toNat+1) w (bU i 1).2 []).2.e=0
 ·have hb:((rrS (w.toNat+1) w (bU i 1).2 []).2.e != 0)=false:=by simpa using he
  rw [hb,cond_false,if_pos he]
  have h0:=vQ _ _ _ _ he
  have hn:(rdS i).1=(bU i 1).1:=by
   unfold bU at *
   split
   ·rename_i hb2
    rw [if_pos hb2] at h0
    exact absurd h0 (by decide)
   ·rfl
  rw [hn]
  congr 3
 ·have hb:((rrS (w.toNat+1) w (bU i 1).2 []).2.e != 0)=true:=by simpa using he
  rw [hb,cond_true,if_neg he]
  rfl
theorem uE (p:Prop) [Decidable p] (e:Int):((bif (e == 0) then some (decide p) else some false):Option Bool)=some (decide (e=0/\p)):=by
 by_cases h2:e=0
 ·have:(e == 0)=true:=by simpa using h2
  rw [this,cond_true]
  by_cases h1:p
  ·rw [decide_eq_true h1,decide_eq_true ⟨h2,h1⟩]
  ·rw [decide_eq_false h1,decide_eq_false (λh=>h1 h.2)]
 ·have:(e == 0)=false:=by simpa using h2
  rw [this,cond_false,decide_eq_false (λh=>h2 h.1)]
theorem sC (e:Int) (n:Nat) (c:cZ) (l:List cZ) (hl:l.length+n<=1000000):iter (σ:=Int×(List cZ)) (ρ:=(List cZ)) (λa=>(Option.bind ((bif (decide (a.1 < (n:Int))) then some (e == 0) else some false):Option Bool) λb=>(bif b then (Option.bind (chk (dF a.2.length [c].length 24)) λ_=>some (.inl ((IntKind.i64.wrap (a.1+1)),(a.2++[c])))) else some (.inr a.2)))) (0,l)=some (if e=0 then l++List.replicate n c else l):=by
 by_cases he:e=0
 ·rw [if_pos he]
  have h:=px (f:=λ(a:Int×(List cZ))=>(Option.bind ((bif (decide (a.1 < (n:Int))) then some (e == 0) else some false):Option Bool) λb=>(bif b then (Option.bind (chk (dF a.2.length [c].length 24)) λ_=>some (.inl ((IntKind.i64.wrap (a.1+1)),(a.2++[c])))) else some (.inr a.2)))) (λk=>((k:Int),l++List.replicate k c)) n (l++List.replicate n c) ?_ ?_
  ·simpa using h
  ·intro k hk
   dsimp only
   rw [mD,decide_eq_true ⟨by omega,he⟩,aA,cond_true,bW (by simp; omega),aA,w64 (by omega) (by omega),List.append_assoc,<- List.replicate_succ']
   rfl
  ·dsimp only
   rw [mD,decide_eq_false (by omega),aA,cond_false]
 ·rw [if_neg he]
  refine bA ?_
  dsimp only
  rw [mD,decide_eq_false (λh=>he h.2),aA,cond_false]
theorem m9 (i:aD):(asR i).e=i.e:=rfl
theorem xF (w:Int) (hw:w<=1000): ∀ (k:Nat) (i:aD) (l:List aL),VI i->(l.length:Int)<=max w 0->(if i.e=0 then (w - l.length).toNat+1 else 1)<=k ->
  iter (σ:=aR×(List cZ)) (ρ:=(List cZ)×aR) (λa=>(Option.bind ((bif (decide ((a.2.length:Int) < w)) then some (a.1.e == 0) else some false):Option Bool) λo=>(bif o then (Option.bind (cN a.1 (IntKind.i64.wrap (w - (a.2.length:Int)))) λd=>(Option.bind ((bif (d.1.e == 0) then some (d.2 == 0) else some false):Option Bool) λp=>(Option.bind ((bif p then some (aR.mk (ByteArray.mk #[]) 1) else some d.1):Option aR) λq=>(Option.bind (cN q 1114111) λf=>(Option.bind (cN f.1 647) λg=>(Option.bind (cN g.1 3) λb=>(Option.bind ((bif (b.1.e == 0) then (bif (decide ((a.2.length:Int) > 0)) then (Option.bind (idx a.2 (IntKind.i64.wrap ((a.2.length:Int) - 1))) λj=>some ((j.rune == f.2) && ((j.bO == g.2) && ((j.part == b.2) && true)))) else some false) else some false):Option Bool) λr=>(Option.bind ((bif r then some (aR.mk (ByteArray.mk #[]) 1) else some b.1):Option aR) λn=>(Option.bind (iter (σ:=Int×(List cZ)) (ρ:=(List cZ)) (λc=>(Option.bind ((bif (decide (c.1 < d.2)) then some (n.e == 0) else some false):Option Bool) λs=>(bif s then (Option.bind (chk (dF c.2.length [(cZ.mk f.2 g.2 b.2)].length 24)) λ_=>some (.inl ((IntKind.i64.wrap (c.1+1)),(c.2++[(cZ.mk f.2 g.2 b.2)])))) else some (.inr c.2)))) (0,a.2)) λt=>some (.inl (n,t))))))))))) else some (.inr (a.2,a.1))))) (asR i,l.map tc)=some ((rrS k w i l).1.map tc,asR (rrS k w i l).2):=by
 intro k
 induction k with
 | zero=>intro i l h hl hk; split at hk <;> omega
 | succ k ih =>
  intro i l h hl hk
  unfold rrS
  by_cases hc:(l.length:Int) < w/\i.e=0
  ·rw [if_pos hc]
   rw [if_pos hc.2] at hk
   have hwr:IntKind.i64.wrap (w - (l.length:Int))=w - l.length:=w64 (by omega) (by omega)
   have hL:0<=w - (l.length:Int):=by omega
   -- the document's steps
   have s1:((bif ((asR (bU i (w - l.length)).2).e == 0) then some ((bU i (w - l.length)).1 == 0) else some false):Option Bool)=some (decide ((bU i (w - l.length)).2.e=0/\(bU i (w - l.length)).1=0)):=by
    have:((bU i (w - l.length)).1 == 0)=decide ((bU i (w - l.length)).1=0):=by
     by_cases h0:(bU i (w - l.length)).1=0 <;> simp [h0]
    rw [this,m9,uE]
   have s2:((bif decide ((bU i (w - l.length)).2.e=0/\(bU i (w - l.length)).1=0) then some (aR.mk (ByteArray.mk #[]) 1) else some (asR (bU i (w - l.length)).2)):Option aR)=some (asR (mP i (w - l.length))):=by
    unfold mP
    by_cases h0:(bU i (w - l.length)).2.e=0/\(bU i (w - l.length)).1=0
    ·rw [decide_eq_true h0,cond_true,if_pos h0]
     rfl
    ·rw [decide_eq_false h0,cond_false,if_neg h0]
   have s3:cN (asR (mP i (w - l.length))) 1114111=some (asR (nW i (w - l.length)).2,(nW i (w - l.length)).1):=nB (mC _ h) (by omega)
   have s4:cN (asR (nW i (w - l.length)).2) 647=some (asR (oz i (w - l.length)).2,(oz i (w - l.length)).1):=nB (nC _ h) (by omega)
   have s5:cN (asR (oz i (w - l.length)).2) 3=some (asR (jz i (w - l.length)).2,(jz i (w - l.length)).1):=nB (nD _ h) (by omega)
   have hnat: ∃ N:Nat,(bU i (w - l.length)).1=(N:Int)/\N<=1000:=by
    have:=fU (i:=i) (m:=w - l.length) h hL
    exact ⟨(bU i (w - l.length)).1.toNat,by omega,by omega⟩
   obtain ⟨N,hN,hN2⟩:=hnat
   have hlast:=AU l (gb i (w - l.length)) (by omega)
   by_cases he:(jz i (w - l.length)).2.e=0
   ·rw [if_pos he]
    obtain ⟨_,h1,h2,_⟩:=pF h (by omega) he
    have he':((asR (jz i (w - l.length)).2).e == 0)=true:=by simpa [asR] using he
    by_cases hlst:l.getLast?=some (gb i (w - l.length))
    ·rw [if_pos hlst,bZ (s':=(asR iO,l.map tc))]
     ·exact ih iO l l9 hl (by rw [if_neg (by decide)]; omega)
     ·dsimp only
      rw [eX,mD,decide_eq_true (show (l.length:Int) < w/\(asR i).e=0 from hc),aA,cond_true,hwr,nB h hL,aA]
      dsimp only
      rw [s1,aA,s2,aA,s3,aA,s4,aA,s5,aA]
      dsimp only
      rw [he',cond_true]
      rw [eX] at hlast
      unfold gb at hlast hlst
      rw [hlast,aA,decide_eq_true hlst,cond_true,aA,hN]
      dsimp only
      rw [sC 1 N _ _ (by rw [eX]; omega),if_neg (by decide),aA]
      rfl
    ·rw [if_neg hlst,bZ (s':=(asR (jz i (w - l.length)).2,(l++List.replicate (bU i (w - l.length)).1.toNat (gb i (w - l.length))).map tc))]
     ·refine ih _ _ (kX _ h) (by rw [List.length_append,List.length_replicate]; omega) ?_
      rw [if_pos he,List.length_append,List.length_replicate]
      omega
     ·dsimp only
      rw [eX,mD,decide_eq_true (show (l.length:Int) < w/\(asR i).e=0 from hc),aA,cond_true,hwr,nB h hL,aA]
      dsimp only
      rw [s1,aA,s2,aA,s3,aA,s4,aA,s5,aA]
      dsimp only
      rw [he',cond_true]
      rw [eX] at hlast
      have hlst':=hlst
      unfold gb at hlast hlst'
      rw [hlast,aA,decide_eq_false hlst',cond_false,aA,hN]
      rw [sC _ N _ _ (by rw [eX]; omega),if_pos (show (asR (jz i (w - l.length)).2).e=0 from he),aA]
      rw [List.map_append,List.map_replicate,Int.toNat_natCast]
      rfl
   ·rw [if_neg he,bZ (s':=(asR (jz i (w - l.length)).2,l.map tc))]
    ·exact ih _ l (kX _ h) hl (by rw [if_neg he]; omega)
    ·have he':((asR (jz i (w - l.length)).2).e == 0)=false:=by simpa [asR] using he
     dsimp only
     rw [eX,mD,decide_eq_true (show (l.length:Int) < w/\(asR i).e=0 from hc),aA,cond_true,hwr,nB h hL,aA]
     dsimp only
     rw [s1,aA,s2,aA,s3,aA,s4,aA,s5,aA]
     dsimp only
     rw [he',cond_false,aA,cond_false,aA,hN]
     rw [sC _ N _ _ (by rw [eX]; omega),if_neg (show ¬ (asR (jz i (w - l.length)).2).e=0 from he),aA]
  ·rw [if_neg hc]
   refine bA ?_
   dsimp only
   rw [eX,mD,decide_eq_false (show ¬ ((l.length:Int) < w/\(asR i).e=0) from hc),aA,cond_false]
theorem q8 (i:aD) (w:Int) (h:VI i) (hw:w<=1000):gv (asR i) w=some (asR (gQ i w).2,told (gQ i w).1):=by
 unfold gv
 rw [nB h (by omega),aA]
 have hV:=fr 1 h
 have hl:=xF w hw (w.toNat+1) _ [] hV (by simp; omega) (by simp only [List.length_nil]; split <;> omega)
 rw [List.map_nil] at hl
 dsimp only
 rw [hl,aA]
 unfold gQ
 dsimp only
 by_cases he:(rrS (w.toNat+1) w (bU i 1).2 []).2.e=0
 ·have hb:((asR (rrS (w.toNat+1) w (bU i 1).2 []).2).e != 0)=false:=by simpa [asR] using he
  rw [hb,cond_false,if_pos he]
  have:((bU i 1).1 == 1)=decide ((bU i 1).1=1):=by by_cases h0:(bU i 1).1=1 <;> simp [h0]
  rw [this]
  rfl
 ·have hb:((asR (rrS (w.toNat+1) w (bU i 1).2 []).2).e != 0)=true:=by simpa [asR] using he
  rw [hb,cond_true,if_neg he]
  rfl
def gp:List aL->List (Nat×aL)
 | []=>[]
 | c::r=>match gp r with
  | (n,d)::t=>if c=d then (n+1,d)::t else (1,c)::(n,d)::t
  | []=>[(1,c)]
def ic (p:Nat×aL):List Int:=[(p.1:Int),p.2.rune,p.2.bO,p.2.part].flatMap cF
def fu (r:aT):List Int:=cF (if r.wrapped then 1 else 0)++(gp r.cells).flatMap ic
theorem oT (c:aL) (r:List aL): ∃ n t,gp (c::r)=(n+1,c)::t:=by
 unfold gp
 split
 ·rename_i n d t h
  split
  ·rename_i e
   exact ⟨n,t,by rw [e]⟩
  ·exact ⟨0,_,rfl⟩
 ·exact ⟨0,[],rfl⟩
theorem sD (p:Nat×aL):(ic p).length<=36:=by
 unfold ic
 simp only [List.flatMap_cons,List.flatMap_nil,List.length_append,List.length_nil]
 have h1:=cG (p.1:Int)
 have h2:=cG p.2.rune
 have h3:=cG p.2.bO
 have h4:=cG p.2.part
 omega
def more (c:aL):List aL->Nat
 | []=>0
 | d::r=>if d=c then more c r+1 else 0
theorem yD (c:aL): ∀ l,more c l<=l.length
 | []=>Nat.le_refl _
 | d::r=>by
  have:=yD c r
  unfold more
  split <;> simp <;> omega
theorem sE (c:aL): ∀ r:List aL,gp (c::r)=(more c r+1,c)::gp (r.drop (more c r))
 | []=>rfl
 | d::r=>by
  have ih:=sE d r
  have hu:gp (c::d::r)=(match gp (d::r) with
   | (n,e)::t=>if c=e then (n+1,e)::t else (1,c)::(n,e)::t
   | []=>[(1,c)]):=rfl
  rw [hu,ih]
  try dsimp only
  by_cases h:c=d
  ·subst h
   rw [if_pos rfl]
   have hm:more c (c::r)=more c r+1:=by
    show (if c=c then more c r+1 else 0)=_
    rw [if_pos rfl]
   rw [hm,List.drop_succ_cons]
  ·rw [if_neg h]
   have hm:more c (d::r)=0:=by
    show (if d=c then more c r+1 else 0)=_
    rw [if_neg (λe=>h e.symm)]
   rw [hm,List.drop_zero,ih]
theorem vS (c:aL): ∀ (l:List aL) (k:Nat),k < more c l->l[k]?=some c
 | [],k,h=>by simp [more] at h
 | d::r,k,h=>by
  unfold more at h
  split at h
  ·rename_i e
   cases k with
   | zero=>rw [e]; rfl
   | succ k=>exact vS c r k (by omega)
  ·omega
theorem tT (c:aL): ∀ (l:List aL),more c l < l.length->l[more c l]?≠some c
 | [],h=>by simp at h
 | d::r,h=>by
  have hu:more c (d::r)=if d=c then more c r+1 else 0:=rfl
  rw [hu] at h ⊢
  by_cases e:d=c
  ·rw [if_pos e] at h ⊢
   exact tT c r (by simpa using h)
  ·rw [if_neg e]
   simpa using e
theorem CK: ∀ (m:Nat) (l:List aL) (b:List Int),l.length<=m->b.length+36*l.length<=9000000->okR l -> ∃ q,iter (σ:=(List aL)×cH) (ρ:=((List aL)×cH) ⊕ (cH×(List aL))) (λa=>(bif (decide ((a.1.length:Int) > 0)) then (Option.bind (iter (σ:=Int) (ρ:=Int) (λf=>(Option.bind ((bif (decide (f < (a.1.length:Int))) then (Option.bind (idx a.1 f) λg=>(Option.bind (idx a.1 0) λh=>some ((g.rune == h.rune) && ((g.bO == h.bO) && ((g.part == h.part) && true))))) else some false):Option Bool) λj=>(bif j then some (.inl (IntKind.i64.wrap (f+1))) else some (.inr f)))) 1) λi=>(Option.bind (idx a.1 0) λn=>(Option.bind ((λ(s51:cH) (x21:Int×aL)=>(Option.bind (dB s51 [x21.1,(IntKind.i64.wrap x21.2.rune),x21.2.bO,x21.2.part]) λo=>some (o,true))) a.2 (i,n)) λz1399=>(bif (!z1399.2) then (eV (some (z1399.1,a.1))) else (Option.bind (chk (eK i (a.1.length:Int) a.1.length)) λ_=>some (.inl ((cut a.1 i (a.1.length:Int)),z1399.1))))))) else some (.inr (.inl (a.1,a.2))))) (l,⟨b⟩)=some (.inl (q,⟨b++(gp l).flatMap ic⟩)):=by
 intro m
 induction m with
 | zero =>
  intro l b hl hb hok
  have:l=[]:=List.eq_nil_of_length_eq_zero (by omega)
  subst this
  refine ⟨[],?_⟩
  refine bA ?_
  try dsimp only
  rw [decide_eq_false (by simp),cond_false]
  simp [gp]
 | succ m ih =>
  intro l b hl hb hok
  cases l with
  | nil =>
   refine ⟨[],?_⟩
   refine bA ?_
   try dsimp only
   rw [decide_eq_false (by simp),cond_false]
   simp [gp]
  | cons c r =>
   have hmr:=yD c r
   have hcok:rok c.rune:=hok c (List.mem_cons_self ..)
   simp only [List.length_cons] at hl hb
   have hon:=lP b [((more c r+1:Nat):Int),c.rune,c.bO,c.part] (by first | (simp; omega) | simp)
   have hd:(r.drop (more c r)).length<=m:=by rw [List.length_drop]; omega
   have hel:=sD (more c r+1,c)
   obtain ⟨q,hq⟩:=ih (r.drop (more c r)) (b++ic (more c r+1,c)) hd (by rw [List.length_append,List.length_drop]; omega) (AN (λd hd'=>hok d (List.mem_cons_of_mem _ hd')) _)
   refine ⟨q,?_⟩
   rw [bZ (s':=(r.drop (more c r),(⟨b++ic (more c r+1,c)⟩:cH)))]
   ·rw [hq,sE,List.flatMap_cons,List.append_assoc]
   ·try dsimp only
    rw [decide_eq_true (by first | (simp; omega) | simp),cond_true]
    refine dX (λk=>((k+1:Nat):Int)) (more c r) ((more c r+1:Nat):Int) rfl ?_ ?_ ?_
    ·intro k hk
     have hg:=vS c r k hk
     have hgi:idx (c::r) ((k+1:Nat):Int)=some c:=by rw [pq,List.getElem?_cons_succ,hg]
     have hg0:idx (c::r) 0=some c:=rfl
     try dsimp only
     rw [decide_eq_true (by first | (simp; omega) | simp),cond_true,hgi,aA,hg0,aA,lq,decide_eq_true rfl,aA,cond_true,w64 (by omega) (by omega)]
     rfl
    ·try dsimp only
     by_cases hlt:more c r < r.length
     ·have hs:=tT c r hlt
      have hgi:idx (c::r) ((more c r+1:Nat):Int)=some r[more c r]:=by rw [pq,List.getElem?_cons_succ,List.getElem?_eq_getElem hlt]
      have hg0:idx (c::r) 0=some c:=rfl
      have hne: ¬ r[more c r]=c:=λe=>hs (by rw [List.getElem?_eq_getElem hlt,e])
      rw [decide_eq_true (by first | (simp; omega) | simp),cond_true,hgi,aA,hg0,aA,lq,decide_eq_false hne,aA,cond_false]
     ·rw [decide_eq_false (by first | (simp; omega) | simp),cond_false,aA,cond_false]
    ·have hg0:idx (c::r) 0=some c:=rfl
     have hce:ic (more c r+1,c)=[((more c r+1:Nat):Int),c.rune,c.bO,c.part].flatMap cF:=rfl
     rw [hg0,aA,w32 hcok,hon,aA,aA]
     try dsimp only
     rw [Bool.not_true,cond_false,dI (by omega) (by first | (simp; omega) | simp) (by simp),aA,uB,List.take_length,List.drop_succ_cons,hce]
theorem xG (r:aT) (h:r.cells.length<=1000) (hok:okR r.cells):jc r=some (dL (fu r)):=by
 unfold jc ny mr kW eY
 have DD:((bif r.wrapped then some 1 else some 0):Option Int)=some (if r.wrapped then 1 else 0):=by cases r.wrapped <;> rfl
 rw [DD,aA,lP [] _ (by simp),aA,aA]
 have hb:=cG (if r.wrapped then 1 else 0)
 obtain ⟨q,hq⟩:=CK r.cells.length r.cells (cF (if r.wrapped then 1 else 0)) (Nat.le_refl _) (by omega) hok
 have e0:([]++[(if r.wrapped then (1:Int) else 0)].flatMap cF)=cF (if r.wrapped then 1 else 0):=by simp
 rw [e0,hq,aA,aA,aA]
 rfl
def zI (n:Nat):List (Nat×aL)->List (Nat×aL)
 | []=>[]
 | (m,c)::t=>(m+n,c)::t
theorem tU (l:List (Nat×aL)):zI 0 l=l:=by
 cases l with
 | nil=>rfl
 | cons a t=>rfl
theorem vU (r:aT) (h:r.cells.length<=1000):iI (told r)=some (dL (fu r)):=by
 unfold iI
 have DD:((bif (told r).wrapped then some (ByteArray.mk #[1]) else some (ByteArray.mk #[0])):Option ByteArray)=some (dL (cF (if r.wrapped then 1 else 0))):=by
  show ((bif r.wrapped then some (ByteArray.mk #[1]) else some (ByteArray.mk #[0])):Option ByteArray)=_
  have h0:cF 0=[0]:=by
   show gm 0=_
   rw [eN (by omega)]
   rfl
  have h1:cF 1=[1]:=by
   show gm 1=_
   rw [eN (by omega)]
   rfl
  cases r.wrapped
  ·show some (ByteArray.mk #[0])=some (dL (cF 0))
   rw [h0,mz]
   rfl
  ·show some (ByteArray.mk #[1])=some (dL (cF 1))
   rw [h1,mz]
   rfl
 rw [DD,aA]
 show Option.bind (iter _ (0,dL (cF (if r.wrapped then 1 else 0)),0)) _=_
 have hb0:=cG (if r.wrapped then 1 else 0)
 unfold fu
 generalize cF (if r.wrapped then 1 else 0)=b0 at hb0
 have htl:(told r).l=r.cells.map tc:=rfl
 rw [htl,eX]
 have key: ∀ (s:List aL) (p:List aL) (b:List Int) (n:Nat) (f:Int×ByteArray×Int->Option ((Int×ByteArray×Int) ⊕ ByteArray)),f=(λ(s776:Int×ByteArray×Int)=>(bif (decide (s776.1 < (r.cells.length:Int))) then (Option.bind ((Option.bind (idx (r.cells.map tc) s776.1) λg=>(Option.bind ((bif (decide ((IntKind.i64.wrap (s776.1+1)) < (r.cells.length:Int))) then (Option.bind (idx (r.cells.map tc) (IntKind.i64.wrap (s776.1+1))) λa=>some ((a.rune == g.rune) && ((a.bO == g.bO) && ((a.part == g.part) && true)))) else some false):Option Bool) λu=>(bif u then some (s776.2.1,(IntKind.i64.wrap (s776.2.2+1))) else (Option.bind (cC (IntKind.i64.wrap (s776.2.2+1))) λi=>(Option.bind (cC g.rune) λj=>(Option.bind (chk (kH i.size j.size)) λ_=>(Option.bind (cC g.bO) λk=>(Option.bind (chk (kH (i++j).size k.size)) λ_=>(Option.bind (cC g.part) λo=>(Option.bind (chk (kH ((i++j)++k).size o.size)) λ_=>(Option.bind (chk (kH s776.2.1.size (((i++j)++k)++o).size)) λ_=>some ((s776.2.1++(((i++j)++k)++o)),0)))))))))))):Option (ByteArray×Int)) λq=>some (.inl ((IntKind.i64.wrap (s776.1+1)),q.1,q.2))) else some (.inr s776.2.1)))->p++s=r.cells->n<=p.length->b.length+36*s.length<=1000000->(s=[]->n=0)->iter f ((p.length:Int),dL b,(n:Int))=some (dL (b++(zI n (gp s)).flatMap ic)):=by
  intro s
  induction s with
  | nil =>
   intro p b n f hf hp hn hb h0
   have hpl:p.length=r.cells.length:=by rw [<- hp]; simp
   rw [bA (r:=dL b)]
   ·simp [gp,zI]
   ·subst hf
    dsimp only
    rw [decide_eq_false (by omega),cond_false]
  | cons c s ih =>
   intro p b n f hf hp hn hb h0
   have hpl:r.cells.length=p.length+s.length+1:=by rw [<- hp]; simp; omega
   simp only [List.length_cons] at hb
   have hx:idx (r.cells.map tc) (p.length:Int)=some (tc c):=by
    rw [<- hp,List.map_append,List.map_cons,<- eX p]
    exact oh _ _ _
   have hn1:IntKind.i64.wrap ((p.length:Int)+1)=((p.length+1:Nat):Int):=by rw [w64 (by omega) (by omega)]; omega
   have hn2:IntKind.i64.wrap ((n:Int)+1)=((n+1:Nat):Int):=by rw [w64 (by omega) (by omega)]; omega
   have hp1:p++[c]++s=r.cells:=by rw [<- hp]; simp
   have hlen1:((p++[c]).length:Int)=((p.length+1:Nat):Int):=by simp
   -- the cell behind
   have hnext:((bif (decide (((p.length+1:Nat):Int) < (r.cells.length:Int))) then (Option.bind (idx (r.cells.map tc) ((p.length+1:Nat):Int)) λa=>some ((a.rune == (tc c).rune) && ((a.bO == (tc c).bO) && ((a.part == (tc c).part) && true)))) else some false):Option Bool)=some (decide (s.head?=some c)):=by
    cases s with
    | nil =>
     rw [decide_eq_false (by simp at hpl ⊢; omega),cond_false]
     rfl
    | cons d s' =>
     have hx2:idx (r.cells.map tc) ((p.length+1:Nat):Int)=some (tc d):=by
      rw [<- hp,List.map_append,List.map_cons,List.map_cons,pq,List.getElem?_append_right (by simp)]
      simp
     rw [decide_eq_true (by simp at hpl ⊢; omega),cond_true,hx2,aA]
     show some ((d.rune == c.rune) && ((d.bO == c.bO) && ((d.part == c.part) && true)))=_
     rw [lq]
     simp
   by_cases hc:s.head?=some c
   ·rw [bZ (s':=(((p++[c]).length:Int),dL b,((n+1:Nat):Int)))]
    ·rw [ih (p++[c]) b (n+1) f hf hp1 (by simp; omega) (by omega) (λe=>by rw [e] at hc; cases hc)]
     cases s with
     | nil=>cases hc
     | cons d s' =>
      obtain rfl:d=c:=by simpa using hc
      obtain ⟨m,t,hm⟩:=oT d s'
      have hu:gp (d::d::s')=(m+1+1,d)::t:=by
       show (match gp (d::s') with
        | (n,e)::t=>if d=e then (n+1,e)::t else (1,d)::(n,e)::t
        | []=>[(1,d)])=_
       rw [hm]
       dsimp only
       rw [if_pos rfl]
      have ha:zI (n+1) ((m+1,d)::t)=zI n ((m+1+1,d)::t):=by
       show (m+1+(n+1),d)::t=(m+1+1+n,d)::t
       congr 2
       omega
      rw [hu,hm,ha]
    ·subst hf
     dsimp only
     rw [decide_eq_true (by omega),cond_true,hx,aA,hn1,hnext,aA,decide_eq_true hc,cond_true,hn2,aA,hlen1]
   ·have e1:=cG ((n+1:Nat):Int)
    have e2:=cG c.rune
    have e3:=cG c.bO
    have e4:=cG c.part
    rw [bZ (s':=(((p++[c]).length:Int),dL (b++ic (n+1,c)),((0:Nat):Int)))]
    ·have hel:=sD (n+1,c)
     rw [ih (p++[c]) (b++ic (n+1,c)) 0 f hf hp1 (by omega) (by rw [List.length_append]; omega) (λ_=>rfl),tU]
     have hu:gp (c::s)=(1,c)::gp s:=by
      cases s with
      | nil=>rfl
      | cons d s' =>
       have hne: ¬ c=d:=λe=>hc (by rw [e]; rfl)
       obtain ⟨m,t,hm⟩:=oT d s'
       show (match gp (d::s') with
        | (n,e)::t=>if c=e then (n+1,e)::t else (1,c)::(n,e)::t
        | []=>[(1,c)])=_
       rw [hm]
       dsimp only
       rw [if_neg hne]
     have ha:zI n ((1,c)::gp s)=(n+1,c)::gp s:=by
      show (1+n,c)::gp s=_
      rw [Nat.add_comm 1 n]
     rw [hu,ha,List.flatMap_cons,List.append_assoc]
    ·subst hf
     have hE:ic (n+1,c)=cF ((n+1:Nat):Int)++cF c.rune++cF c.bO++cF c.part:=by
      unfold ic
      simp
     dsimp only
     rw [decide_eq_true (by omega),cond_true,hx,aA,hn1,hnext,aA,decide_eq_false hc,cond_false,hn2,iB,aA]
     show Option.bind (Option.bind (cC c.rune) _) _=_
     rw [iB,aA,dW (by rw [bP,bP]; omega),aA]
     show Option.bind (Option.bind (cC c.bO) _) _=_
     rw [iB,aA,<- dG,dW (by rw [bP,bP,List.length_append]; omega),aA]
     show Option.bind (Option.bind (cC c.part) _) _=_
     rw [iB,aA,<- dG,dW (by rw [bP,bP,List.length_append,List.length_append]; omega),aA,<- dG,dW (by rw [bP,bP,List.length_append,List.length_append,List.length_append]; omega),aA,aA,<- dG,hlen1,hE]
     rfl
 have hk:=key r.cells [] b0 0 _ rfl rfl (by omega) (by omega) (λ_=>rfl)
 rw [tU] at hk
 exact (congrArg (λx=>Option.bind x λv=>some v) hk).trans rfl
theorem CN {w:Nat} (h:w<=most):clN (w:Int)=w:=by unfold clN; unfold most at h; omega
theorem jj {w:Nat} (h:w<=most):cF (w:Int)=gm w:=by unfold cF; rw [CN h]
theorem oU (c:aL) (n:Nat): ∀ l:List aL,l.getLast?≠some c->gp (l++List.replicate (n+1) c)=gp l++[(n+1,c)]
 | [],_=>by
  rw [List.nil_append]
  induction n with
  | zero=>rfl
  | succ n ih =>
   rw [List.replicate_succ]
   show (match gp (List.replicate (n+1) c) with
    | (m,e)::t=>if c=e then (m+1,e)::t else (1,c)::(m,e)::t
    | []=>[(1,c)])=_
   rw [ih]
   show (if c=c then [(n+1+1,c)] else _)=_
   rw [if_pos rfl]
   rfl
 | x::r,h=>by
  cases r with
  | nil =>
   have hx: ¬ x=c:=λe=>h (by rw [e]; rfl)
   have ih:=oU c n [] (by simp)
   show (match gp ([]++List.replicate (n+1) c) with
    | (m,e)::t=>if x=e then (m+1,e)::t else (1,x)::(m,e)::t
    | []=>[(1,x)])=_
   rw [ih]
   show (if x=c then _ else (1,x)::(n+1,c)::[])=_
   rw [if_neg hx]
   rfl
  | cons y s =>
   have ih:=oU c n (y::s) (by simpa using h)
   show (match gp ((y::s)++List.replicate (n+1) c) with
    | (m,e)::t=>if x=e then (m+1,e)::t else (1,x)::(m,e)::t
    | []=>[(1,x)])=(match gp (y::s) with
    | (m,e)::t=>if x=e then (m+1,e)::t else (1,x)::(m,e)::t
    | []=>[(1,x)])++[(n+1,c)]
   rw [ih]
   obtain ⟨m,t,hm⟩:=oT y s
   rw [hm]
   show (if x=y then _ else _)=(if x=y then _ else _)++_
   split <;> rfl
theorem tV {i:aD} {left:Int} (h:VI i) (hl:0<=left) (he:(jz i left).2.e=0):sbs i.s=ic ((bU i left).1.toNat,gb i left)++sbs (jz i left).2.s/\0<=(gb i left).rune/\(gb i left).rune<=1114111:=by
 obtain ⟨_,h1,h2,h3,h4⟩:=pF h hl he
 obtain ⟨eB,c3,q3,_,m3,b3⟩:=jB (i:=(oz i left).2) (m:=3) he (nD left h)
 obtain ⟨eA,c2,q2,_,m2,b2⟩:=jB (i:=(nW i left).2) (m:=647) eB (nC left h)
 obtain ⟨e0,c1,q1,l1,m1,b1⟩:=jB (i:=mP i left) (m:=1114111) eA (mC left h)
 obtain ⟨_,c0,q0,_,m0,b0⟩:=jB (i:=i) (m:=left) h3 h
 have qa:(gb i left).rune=(c1:Int):=q1
 have qb:(gb i left).bO=(c2:Int):=q2
 have qc:(gb i left).part=(c3:Int):=q3
 refine ⟨?_,by omega,by omega⟩
 have hE:ic ((bU i left).1.toNat,gb i left)=gm c0++gm c1++gm c2++gm c3:=by
  unfold ic
  dsimp only
  rw [qa,qb,qc,q0,Int.toNat_natCast]
  simp only [List.flatMap_cons,List.flatMap_nil,List.append_nil,jj m0,jj m1,jj m2,jj m3,List.append_assoc]
 have b1':sbs (bU i left).2.s=gm c1++sbs (nW i left).2.s:=by rw [<- h4]; exact b1
 have b2':sbs (nW i left).2.s=gm c2++sbs (oz i left).2.s:=b2
 have b3':sbs (oz i left).2.s=gm c3++sbs (jz i left).2.s:=b3
 rw [hE,b0,b1',b2',b3']
 simp only [List.append_assoc]
theorem zJ: ∀ (k:Nat) (w:Int) (i:aD) (l:List aL),VI i->okR l->(rrS k w i l).2.e=0 -> ∃ D,(gp (rrS k w i l).1).flatMap ic=(gp l).flatMap ic++D/\sbs i.s=D++sbs (rrS k w i l).2.s/\okR (rrS k w i l).1:=by
 intro k
 induction k with
 | zero=>intro w i l h hok he; exact ⟨[],by simp [rrS],by simp [rrS],hok⟩
 | succ k ih =>
  intro w i l h hok he
  unfold rrS at he ⊢
  by_cases hc:(l.length:Int) < w/\i.e=0
  ·rw [if_pos hc] at he ⊢
   by_cases h2:(jz i (w - l.length)).2.e=0
   ·rw [if_pos h2] at he ⊢
    by_cases h3:l.getLast?=some (gb i (w - l.length))
    ·rw [if_pos h3] at he
     exact absurd (vQ _ _ _ _ he) (by decide)
    ·rw [if_neg h3] at he ⊢
     obtain ⟨b1,b2,b3⟩:=tV h (by omega) h2
     obtain ⟨_,p1,_⟩:=pF h (by omega) h2
     obtain ⟨n,hn⟩: ∃ n,(bU i (w - l.length)).1.toNat=n+1:=⟨(bU i (w - l.length)).1.toNat - 1,by omega⟩
     rw [hn] at he b1 ⊢
     obtain ⟨D,d1,d2,d3⟩:=ih w _ _ (kX _ h) (yA hok (λc hc=>by rw [List.eq_of_mem_replicate hc]; unfold rok; omega)) he
     refine ⟨ic (n+1,gb i (w - l.length))++D,?_,?_,d3⟩
     ·rw [d1,oU _ _ _ h3,List.flatMap_append,List.flatMap_singleton,List.append_assoc]
     ·rw [b1,d2,List.append_assoc]
   ·rw [if_neg h2] at he
    exact absurd (vQ _ _ _ _ he) h2
  ·rw [if_neg hc] at he ⊢
   exact ⟨[],by simp,by simp,hok⟩
theorem xH {i:aD} {w:Int} (h:VI i) (he:(gQ i w).2.e=0):sbs i.s=fu (gQ i w).1++sbs (gQ i w).2.s:=by
 unfold gQ at *
 by_cases h0:(rrS (w.toNat+1) w (bU i 1).2 []).2.e=0
 ·rw [if_pos h0]
  obtain ⟨D,d1,d2,_⟩:=zJ _ w _ [] (fr 1 h) (λc hc=>by cases hc) h0
  obtain ⟨_,c,q,hc,hm,hb⟩:=jB (i:=i) (m:=1) (vQ _ _ _ _ h0) h
  unfold fu
  dsimp only
  rw [d1,hb,d2,q]
  have:(if decide ((c:Int)=1)=true then (1:Int) else 0)=(c:Int):=by
   by_cases hc1:(c:Int)=1
   ·simp [hc1]
   ·rw [decide_eq_false hc1]
    simp
    omega
  rw [this,jj hm]
  simp [gp]
 ·rw [if_neg h0] at he
  exact absurd he h0
theorem pG {i:aD} {w:Int} (h:VI i):VI (gQ i w).2:=by
 unfold gQ
 split
 ·exact (uD _ w _ [] (fr 1 h) (by simp; omega)).2
 ·exact (uD _ w _ [] (fr 1 h) (by simp; omega)).2
theorem EN: ∀ (k:Nat) (w:Int) (i:aD) (l:List aL),VI i->okR l->okR (rrS k w i l).1:=by
 intro k
 induction k with
 | zero=>intro w i l h hok; exact hok
 | succ k ih =>
  intro w i l h hok
  unfold rrS
  by_cases hc:(l.length:Int) < w/\i.e=0
  ·rw [if_pos hc]
   by_cases h2:(jz i (w - l.length)).2.e=0
   ·rw [if_pos h2]
    obtain ⟨b1,b2,b3⟩:=tV h (by omega) h2
    split
    ·exact ih w _ l l9 hok
    ·exact ih w _ _ (kX _ h) (yA hok (λc hc=>by rw [List.eq_of_mem_replicate hc]; unfold rok; omega))
   ·rw [if_neg h2]
    exact ih w _ l (kX _ h) hok
  ·rw [if_neg hc]
   exact hok
theorem CO {i:aD} {w:Int} (h:VI i) (hw:w<=1000):okR (gQ i w).1.cells/\(gQ i w).1.cells.length<=1000:=by
 unfold gQ
 split
 ·refine ⟨EN _ w _ [] (fr 1 h) (λc hc=>by cases hc),?_⟩
  have:=(uD (w.toNat+1) w _ [] (fr 1 h) (by simp; omega)).1
  show (rrS (w.toNat+1) w (bU i 1).2 []).1.length<=1000
  omega
 ·exact ⟨λc hc=>(by cases hc),Nat.zero_le _⟩
theorem uF (a b:Bool):((bif a then some b else some false):Option Bool)=some (a && b):=by cases a <;> rfl
theorem bor (a b:Bool):((bif a then some true else some b):Option Bool)=some (a || b):=by cases a <;> rfl
def okG (r s:Int):Bool:=(decide (r>=0) && decide (r<=1114111)) && (decide (s>=0) && decide (s<=647))
def okC (c:aL):Bool:=okG c.rune c.bO && (decide (c.part>=0) && decide (c.part<=3))
def gO (s:aM):Bool:=(s.k == 0) && ((s.w == 0) && ((s.h == 0) && ((s.x == 0) && ((s.y == 0) && ((s.title.toList == (ByteArray.mk #[]).toList) && (((s.rows.length:Int) == 0) && ((s.len == 0) && ((s.chain == 0) && ((s.begun.length:Int) == 0)))))))))
def wi (n lo hi:Int):Bool:=decide (n>=lo) && decide (n<=hi)
def mQ (s:aM):Bool:=wi s.k 1 1152921504606846976 && (wi s.w 1 1000 && (wi s.h 1 1000 && (wi s.x 0 (s.w - 1) && (wi s.y 0 (s.h - 1) && (((s.rows.length:Int) == s.h) && (decide ((s.title.size:Int)<=200) && (wi s.len 0 1152921504606846976 && (wi s.chain 0 281474976710656 && decide ((s.begun.length:Int)<=1024)))))))))
def nJ (w:Int) (r:aT):Bool:=((r.cells.length:Int) == w) && r.cells.all okC
def mR (s:aM):Bool:=gO s || (mQ s && ((s.begun.all λg=>okG g.rune g.bO) && s.rows.all (nJ s.w)))
theorem empty_eq (s:aM):fy s=some (gO s):=by
 unfold fy gO
 simp only [uF,aA]
theorem oV (n lo hi:Int):dK n lo hi=some (wi n lo hi):=by
 unfold dK wi
 rw [uF,aA]
structure SW (s:aM):Prop where
 w1: -9223372036854775808<=s.w/\s.w<=9223372036854775807
 h1: -9223372036854775808<=s.h/\s.h<=9223372036854775807
 gl: ∀ g∈s.begun,rok g.rune
 ro: ∀ r∈s.rows,okR r.cells/\r.cells.length<=1000
 rl:s.rows.length<=1000
 bl:s.begun.length<=2000
 tl:s.title.size<=12000
theorem AV (s:aM) (h:SW s):gD s=some (mQ s):=by
 unfold gD mQ
 simp only [oV,aA]
 by_cases hw:s.w>=1
 ·have e1:IntKind.i64.wrap (s.w - 1)=s.w - 1:=w64 (by omega) (by have:=h.w1; omega)
  by_cases hh:s.h>=1
  ·have e2:IntKind.i64.wrap (s.h - 1)=s.h - 1:=w64 (by omega) (by have:=h.h1; omega)
   simp only [e1,e2,uF,aA]
  ·have e2:wi s.h 1 1000=false:=by unfold wi; rw [decide_eq_false hh]; rfl
   simp only [e2,e1,cond_false,uF,Bool.false_and,Bool.and_false,aA]
 ·have e2:wi s.w 1 1000=false:=by unfold wi; rw [decide_eq_false hw]; rfl
  simp only [e2,cond_false,uF,Bool.false_and,Bool.and_false,aA]
theorem vV (r s:Int) (h:rok r):jq r s=some (okG r s):=by
 unfold jq okG
 simp only [oV,aA,w32 h,uF,wi]
theorem zL (c:aL) (h:rok c.rune):ld c=some (okC c):=by
 unfold ld okC
 rw [vV _ _ h]
 simp only [oV,aA,uF,wi]
theorem find_eq {α:Type} (l:List α) (p:α->Bool) (hl:l.length<=1000000) (f:Int->Option (Int ⊕ (Unit ⊕ Int))) (hf: ∀ (n:Nat) (hn:n < l.length),f (n:Int)=if p l[n] then some (.inr (.inr (n:Int))) else some (.inl ((n+1:Nat):Int))) (he:f (l.length:Int)=some (.inr (.inl ()))): ∃ q,iter f 0=some q/\((q = .inl ()/\l.any p=false) \/ ∃ w:Int,q = .inr w/\0<=w/\l.any p=true):=by
 obtain ⟨q,h1,h2⟩:=m6 (f:=f) (λi:Int=> ∃ n:Nat,i=n/\n<=l.length/\(l.take n).any p=false) (λi=>(l.length - i).toNat) (λq=>(q = .inl ()/\l.any p=false) \/ ∃ w:Int,q = .inr w/\0<=w/\l.any p=true) (by
  rintro i ⟨n,rfl,hn,ht⟩
  by_cases hlt:n < l.length
  ·by_cases hp:p l[n]=true
   ·refine .inr ⟨.inr (n:Int),by rw [hf n hlt,if_pos hp],.inr ⟨_,rfl,by omega,List.any_eq_true.2 ⟨l[n],List.getElem_mem hlt,hp⟩⟩⟩
   ·refine .inl ⟨((n+1:Nat):Int),by rw [hf n hlt,if_neg hp],⟨n+1,rfl,hlt,?_⟩,by omega⟩
    rw [List.take_succ_eq_append_getElem hlt,List.any_append,ht]
    simpa using hp
  ·have hnl:n=l.length:=by omega
   subst hnl
   refine .inr ⟨.inl (),he,.inl ⟨rfl,?_⟩⟩
   rwa [List.take_length] at ht) 0 ⟨0,rfl,by omega,rfl⟩
 exact ⟨q,h1,h2⟩
theorem CP (l:List aJ) (hl:l.length<=1000000) (h: ∀ g∈l,rok g.rune):cE l=some (l.any λg=> !okG g.rune g.bO):=by
 unfold cE cS
 have hlen:l.length=l.length:=rfl
 obtain ⟨q,h1,h2⟩:=find_eq l (λg=> !okG g.rune g.bO) hl (λa=>(bif (decide (a < (l.length:Int))) then (Option.bind (idx l a) λb=>(Option.bind (fY b) λc=>(bif c then (eV (some a)) else some (.inl (IntKind.i64.wrap (a+1)))))) else some (.inr (.inl ())))) (by
  intro n hn
  unfold fY
  rw [decide_eq_true (by omega),cond_true,bL l n hn,aA,vV _ _ (h _ (List.getElem_mem hn)),aA,aA,w64 (by omega) (by omega)]
  cases okG l[n].rune l[n].bO <;> rfl) (by
  rw [decide_eq_false (by omega),cond_false])
 rw [h1,aA]
 rcases h2 with ⟨rfl,h3⟩ | ⟨w,rfl,h4,h3⟩
 ·rw [h3]
  rfl
 ·rw [h3]
  show some (decide (w>=0))=some true
  rw [decide_eq_true h4]
theorem CQ (l:List aL) (hl:l.length<=1000000) (h:okR l):bX l=some (l.any λc=> !okC c):=by
 unfold bX cU
 obtain ⟨q,h1,h2⟩:=find_eq l (λc=> !okC c) hl (λa=>(bif (decide (a < (l.length:Int))) then (Option.bind (idx l a) λb=>(Option.bind (fZ b) λd=>(bif d then (eV (some a)) else some (.inl (IntKind.i64.wrap (a+1)))))) else some (.inr (.inl ())))) (by
  intro n hn
  unfold fZ
  rw [decide_eq_true (by omega),cond_true,bL l n hn,aA,zL _ (h _ (List.getElem_mem hn)),aA,aA,w64 (by omega) (by omega)]
  cases okC l[n] <;> rfl) (by
  rw [decide_eq_false (by omega),cond_false])
 rw [h1,aA]
 rcases h2 with ⟨rfl,h3⟩ | ⟨w,rfl,h4,h3⟩
 ·rw [h3]
  rfl
 ·rw [h3]
  show some (decide (w>=0))=some true
  rw [decide_eq_true h4]
theorem yE {α:Type} (l:List α) (p:α->Bool):(l.any λx=> !p x) = !(l.all p):=by
 induction l with
 | nil=>rfl
 | cons a l ih=>rw [List.any_cons,List.all_cons,ih,Bool.not_and]
theorem vW (s:aM) (h:SW s):fz s=some (if mR s then 0 else 1):=by
 unfold fz mR
 rw [empty_eq,aA]
 cases he:gO s with
 | true =>
  rw [cond_true]
  rfl
 | false =>
  rw [cond_false,AV s h,aA,CP _ (by have:=h.bl; omega) h.gl,aA,bor,aA,yE]
  cases hs:mQ s with
  | false=>rfl
  | true =>
   cases hg:(s.begun.all λg=>okG g.rune g.bO) with
   | false=>rfl
   | true =>
    show Option.bind (iter _ 0) _=some (if s.rows.all (nJ s.w)=true then 0 else 1)
    have hrl:=h.rl
    refine py (λi:Int=> ∃ n:Nat,i=n/\n<=s.rows.length/\(s.rows.take n).all (nJ s.w)=true) (λi=>(s.rows.length - i).toNat) (λq=>q=if s.rows.all (nJ s.w)=true then .inl () else .inr 1) ⟨0,rfl,by omega,rfl⟩ ?_ ?_
    ·rintro i ⟨n,rfl,hn,ht⟩
     by_cases hlt:n < s.rows.length
     ·have hro:=h.ro _ (List.getElem_mem hlt)
      have hcond:((bif ((s.rows[n].cells.length:Int) != s.w) then some true else (Option.bind (bX s.rows[n].cells) λa=>some a)):Option Bool)=some (!nJ s.w s.rows[n]):=by
       rw [CQ _ (by omega) hro.1,aA,bor,yE]
       unfold nJ
       rw [Bool.not_and]
       rfl
      try dsimp only
      rw [decide_eq_true (by omega),cond_true,bL _ _ hlt,aA,hcond,aA,w64 (by omega) (by omega)]
      cases hb:nJ s.w s.rows[n] with
      | true =>
       refine .inl ⟨((n+1:Nat):Int),rfl,⟨n+1,rfl,hlt,?_⟩,by omega⟩
       rw [List.take_succ_eq_append_getElem hlt,List.all_append,ht]
       simp [hb]
      | false =>
       refine .inr ⟨.inr 1,rfl,?_⟩
       rw [if_neg]
       intro hall
       have:=List.all_eq_true.1 hall _ (List.getElem_mem hlt)
       rw [hb] at this
       cases this
     ·refine .inr ⟨.inl (),?_,?_⟩
      ·try dsimp only
       rw [decide_eq_false (by omega),cond_false]
      ·have hnl:n=s.rows.length:=by omega
       subst hnl
       rw [List.take_length] at ht
       rw [if_pos ht]
    ·rintro q rfl
     by_cases hall:s.rows.all (nJ s.w)=true
     ·rw [if_pos hall,if_pos hall]
     ·rw [if_neg hall,if_neg hall]
def tg (g:aJ):aN:=⟨g.rune,g.bO⟩
@[reducible] def fB (s:aM):bD:=⟨s.k,s.w,s.h,s.x,s.y,s.title,s.rows.map told,s.len,s.chain,s.begun.map tg⟩
theorem tW (s:aM):gN (fB s)=some (gO s):=by
 unfold gN gO fB
 simp only [uF,aA,List.length_map]
theorem EO (r s:Int):(decide (r < 0) || (decide (r > 1114111) || (decide (s < 0) || decide (s > 647)))) = !okG r s:=by
 rw [Bool.eq_iff_iff,Bool.not_eq_true',<- Bool.not_eq_true]
 simp only [okG,Bool.or_eq_true,Bool.and_eq_true,decide_eq_true_eq]
 omega
theorem EP (c:aL):(decide (c.rune < 0) || (decide (c.rune > 1114111) || (decide (c.bO < 0) || (decide (c.bO > 647) || (decide (c.part < 0) || decide (c.part > 3)))))) = !okC c:=by
 rw [Bool.eq_iff_iff,Bool.not_eq_true',<- Bool.not_eq_true]
 simp only [okC,okG,Bool.or_eq_true,Bool.and_eq_true,decide_eq_true_eq]
 omega
theorem sF {α ρ:Type} (l:List α) (p:α->Bool) (bad:ρ) (f:Int->Option (Int ⊕ (Unit ⊕ ρ))) (hl:l.length<=1000000) (hf: ∀ (n:Nat) (hn:n < l.length),f (n:Int)=if p l[n] then some (.inl ((n+1:Nat):Int)) else some (.inr (.inr bad))) (he:f (l.length:Int)=some (.inr (.inl ()))):iter f 0=some (if l.all p=true then .inl () else .inr bad):=by
 obtain ⟨q,h1,h2⟩:=m6 (f:=f) (λi:Int=> ∃ n:Nat,i=n/\n<=l.length/\(l.take n).all p=true) (λi=>(l.length - i).toNat) (λq=>q=if l.all p=true then .inl () else .inr bad) (by
  rintro i ⟨n,rfl,hn,ht⟩
  by_cases hlt:n < l.length
  ·by_cases hp:p l[n]=true
   ·refine .inl ⟨((n+1:Nat):Int),by rw [hf n hlt,if_pos hp],⟨n+1,rfl,hlt,?_⟩,by omega⟩
    rw [List.take_succ_eq_append_getElem hlt,List.all_append,ht]
    simp [hp]
   ·refine .inr ⟨.inr bad,by rw [hf n hlt,if_neg hp],?_⟩
    rw [if_neg]
    intro hall
    exact hp (List.all_eq_true.1 hall _ (List.getElem_mem hlt))
  ·have hnl:n=l.length:=by omega
   subst hnl
   rw [List.take_length] at ht
   exact .inr ⟨.inl (),he,by rw [if_pos ht]⟩) 0 ⟨0,rfl,by omega,rfl⟩
 rw [h1,h2]
theorem ER (c1 c2:Bool) (X out:Option Bool) (h1:(c1 || c2)=true->out=some false) (h2:(c1 || c2)=false->X=out):(bif c1 then some false else bif c2 then some false else X)=out:=by
 cases c1 with
 | true=>exact (h1 rfl).symm
 | false =>
  cases c2 with
  | true=>exact (h1 rfl).symm
  | false=>exact h2 rfl
theorem AW (s:aM) (h:SW s):jf (fB s)=some (mR s):=by
 have hrl:=h.rl
 have hbl:=h.bl
 have hRl:(s.rows.map told).length=s.rows.length:=List.length_map _
 have hBl:(s.begun.map tg).length=s.begun.length:=List.length_map _
 unfold jf mR
 rw [tW,aA]
 cases he:gO s with
 | true=>rfl
 | false =>
  have hS:((decide (s.k < 1) || (decide (s.k > 1152921504606846976) || (decide (s.w < 1) || (decide (s.w > 1000) || (decide (s.h < 1) || (decide (s.h > 1000) || (decide (s.x < 0) || (decide (s.x>=s.w) || (decide (s.y < 0) || (decide (s.y>=s.h) || (((s.rows.map told).length:Int) != s.h))))))))))) || (decide ((s.title.size:Int) > 200) || (decide (s.len < 0) || (decide (s.len > 1152921504606846976) || (decide (s.chain < 0) || (decide (s.chain > 281474976710656) || decide (((s.begun.map tg).length:Int) > 1024))))))) = !mQ s:=by
   rw [Bool.eq_iff_iff,Bool.not_eq_true',<- Bool.not_eq_true]
   simp only [mQ,wi,Bool.or_eq_true,Bool.and_eq_true,decide_eq_true_eq,beq_iff_eq,bne_iff_ne,ne_eq]
   omega
  rw [cond_false]
  dsimp only [fB]
  simp only [bor,aA]
  refine ER _ _ _ _ (λhh=> ?_) (λhh=> ?_)
  ·have hz:mQ s=false:=by
    have h2:(!mQ s)=true:=hS.symm.trans hh
    simpa using h2
   rw [hz]
   rfl
  ·have hz:mQ s=true:=by
    have h2:(!mQ s)=false:=hS.symm.trans hh
    simpa using h2
   rw [hz]
   ·skip
    rw [sF s.begun (λg=>okG g.rune g.bO) false _ (by have:=h.bl; omega) (λn hn=> ?hf1) ?he1,aA]
    ·cases hg:(s.begun.all λg=>okG g.rune g.bO) with
     | false=>rfl
     | true =>
      rw [if_pos rfl]
      dsimp only
      rw [sF s.rows (nJ s.w) false _ (by have:=h.rl; omega) (λn hn=> ?hf2) ?he2,aA]
      ·cases s.rows.all (nJ s.w) <;> rfl
      case hf2 =>
       have hro:=h.ro _ (List.getElem_mem hn)
       rw [decide_eq_true (by omega),cond_true,bL _ _ (by simpa using hn),aA,List.getElem_map]
       have htl:(told s.rows[n]).l=s.rows[n].cells.map tc:=rfl
       rw [htl,eX]
       by_cases hw:(s.rows[n].cells.length:Int)=s.w
       ·have hb:((s.rows[n].cells.length:Int) != s.w)=false:=by simpa using hw
        have hb2:((s.rows[n].cells.length:Int) == s.w)=true:=by simpa using hw
        rw [hb,cond_false]
        rw [sF s.rows[n].cells okC (.inr (.inr false)) _ (by omega) (λk hk=> ?hf3) ?he3,aA]
        ·unfold nJ
         rw [hb2,Bool.true_and]
         cases s.rows[n].cells.all okC with
         | true =>
          rw [if_pos rfl,if_pos rfl]
          dsimp only
          rw [w64 (by omega) (by omega)]
          rfl
         | false=>rfl
        case hf3 =>
         rw [decide_eq_true (by omega),cond_true,bL _ _ (by simpa using hk),aA,List.getElem_map]
         show (bif (decide ((s.rows[n].cells[k]).rune < 0) || (decide ((s.rows[n].cells[k]).rune > 1114111) || (decide ((s.rows[n].cells[k]).bO < 0) || (decide ((s.rows[n].cells[k]).bO > 647) || (decide ((s.rows[n].cells[k]).part < 0) || decide ((s.rows[n].cells[k]).part > 3)))))) then _ else _)=_
         rw [EP,w64 (by omega) (by omega)]
         cases okC s.rows[n].cells[k] <;> rfl
        case he3 =>
         rw [decide_eq_false (by omega),cond_false]
       ·have hb:((s.rows[n].cells.length:Int) != s.w)=true:=by simpa using hw
        have hb2:((s.rows[n].cells.length:Int) == s.w)=false:=by simpa using hw
        rw [hb,cond_true]
        unfold nJ
        rw [hb2,Bool.false_and]
        rfl
      case he2 =>
       rw [decide_eq_false (by omega),cond_false]
    case hf1 =>
     rw [decide_eq_true (by omega),cond_true,bL _ _ (by simpa using hn),aA,List.getElem_map]
     show (bif (decide ((s.begun[n]).rune < 0) || (decide ((s.begun[n]).rune > 1114111) || (decide ((s.begun[n]).bO < 0) || decide ((s.begun[n]).bO > 647)))) then _ else _)=_
     rw [EO,w64 (by omega) (by omega)]
     cases okG s.begun[n].rune s.begun[n].bO <;> rfl
    case he1 =>
     rw [decide_eq_false (by omega),cond_false]
theorem uG (b:List Int) (s:ByteArray) (hb:b.length+s.size<=10000000):gI ⟨b⟩ [s]=some ⟨b++sbs s⟩:=by
 unfold gI
 rw [bZ (s':=((⟨b++sbs s⟩:cH),(1:Int)))]
 ·rw [bA (r:=(⟨b++sbs s⟩:cH))]
  ·rfl
  ·dsimp only
   rw [decide_eq_false (by simp),cond_false]
 ·dsimp only
  have h0:idx [s] 0=some s:=rfl
  rw [decide_eq_true (by simp),cond_true,h0,aA,bW (by omega),aA]
  rfl
theorem vX (b:List Int) (s:ByteArray) (hb:b.length+s.size<=1000000):gW ⟨b⟩ [s]=some ⟨b++(cF s.size++sbs s)⟩:=by
 unfold gW
 have he:=cG (s.size:Int)
 rw [bZ (s':=((⟨b++(cF s.size++sbs s)⟩:cH),(1:Int)))]
 ·rw [bA (r:=(⟨b++(cF s.size++sbs s)⟩:cH))]
  ·rfl
  ·dsimp only
   rw [decide_eq_false (by simp),cond_false]
 ·dsimp only
  have h0:idx [s] 0=some s:=rfl
  rw [decide_eq_true (by simp),cond_true,h0,aA,lP _ _ (by simp; omega),aA]
  simp only [List.flatMap_cons,List.flatMap_nil,List.append_nil]
  rw [uG _ _ (by rw [List.length_append]; omega),aA,List.append_assoc]
  rfl
def oW (g:aJ):List Int:=[g.rune,g.bO].flatMap cF
def lx (l:List aJ):List Int:=cF l.length++l.flatMap oW
theorem AX (g:aJ):(oW g).length<=18:=by
 unfold oW
 simp only [List.flatMap_cons,List.flatMap_nil,List.length_append,List.length_nil]
 have h1:=cG g.rune
 have h2:=cG g.bO
 omega
theorem qF (l:List aJ):(l.flatMap oW).length<=18*l.length:=by
 induction l with
 | nil=>simp
 | cons a t ih =>
  rw [List.flatMap_cons,List.length_append,List.length_cons]
  have:=AX a
  omega
theorem AY (l:List aJ) (h:l.length<=2000) (hr: ∀ g∈l,rok g.rune):k8 l=some (dL (lx l)):=by
 unfold k8 eY lx
 have he:=cG (l.length:Int)
 rw [lP [] _ (by simp),aA]
 have e0:([]++[(l.length:Int)].flatMap cF)=cF l.length:=by simp
 rw [e0]
 refine dX (λi=>((⟨cF l.length++(l.take i).flatMap oW⟩:cH),(i:Int))) l.length (⟨cF l.length++l.flatMap oW⟩:cH) (by simp) ?_ ?_ rfl
 ·intro i hi
  dsimp only
  have h2:=qF (l.take i)
  rw [List.length_take] at h2
  rw [decide_eq_true (by omega),cond_true,bL _ _ hi,aA,w32 (hr _ (List.getElem_mem hi)),lP _ _ (by simp only [List.length_append,List.length_cons,List.length_nil]; omega),aA,w64 (by omega) (by omega),List.take_succ_eq_append_getElem hi,List.flatMap_append,List.flatMap_singleton,List.append_assoc]
  rfl
 ·dsimp only
  rw [decide_eq_false (by omega),cond_false,List.take_length]
theorem zM (l:List aJ) (h:l.length<=2000):kv (l.map tg)=some (dL (lx l)):=by
 unfold kv lx
 have he:=cG (l.length:Int)
 rw [List.length_map,iB,aA]
 refine dX (λi=>((i:Int),dL (cF l.length++(l.take i).flatMap oW))) l.length (dL (cF l.length++l.flatMap oW)) (by simp) ?_ ?_ rfl
 ·intro i hi
  dsimp only
  have h2:=qF (l.take i)
  rw [List.length_take] at h2
  have h3:=cG l[i].rune
  have h4:=cG l[i].bO
  rw [decide_eq_true (by omega),cond_true,bL _ _ (by simpa using hi),aA,List.getElem_map]
  show Option.bind (cC l[i].rune) _=_
  rw [iB,aA]
  show Option.bind (cC l[i].bO) _=_
  rw [iB,aA,dW (by rw [bP,bP]; omega),aA,<- dG,dW (by rw [bP,bP,List.length_append,List.length_append]; omega),aA,<- dG,w64 (by omega) (by omega),List.take_succ_eq_append_getElem hi,List.flatMap_append,List.flatMap_singleton,List.append_assoc]
  have hE:oW l[i]=cF l[i].rune++cF l[i].bO:=by unfold oW; simp
  rw [hE]
  rfl
 ·dsimp only
  rw [decide_eq_false (by omega),cond_false,List.take_length]
def ma (s:aM):List Int:=[s.k,s.w,s.h,s.x,s.y].flatMap cF++(cF s.title.size++sbs s.title)++[s.len,s.chain].flatMap cF++lx s.begun
def q9 (s:aM):List Int:=ma s++s.rows.flatMap fu
theorem qG (s:aM) (h:SW s):(ma s).length<=52000:=by
 unfold ma lx
 simp only [List.flatMap_cons,List.flatMap_nil,List.length_append,List.length_nil,aV]
 have a1:=cG s.k
 have a2:=cG s.w
 have a3:=cG s.h
 have a4:=cG s.x
 have a5:=cG s.y
 have a6:=cG (s.title.size:Int)
 have a7:=cG s.len
 have a8:=cG s.chain
 have a9:=cG (s.begun.length:Int)
 have b1:=qF s.begun
 have b2:=h.bl
 have b3:=h.tl
 omega
theorem yF (l:List aT) (i:Nat):((l.take i).flatMap fu).length<=(l.flatMap fu).length:=by
 have:l.flatMap fu=(l.take i).flatMap fu++(l.drop i).flatMap fu:=by rw [<- List.flatMap_append,List.take_append_drop]
 rw [this,List.length_append]
 omega
def iV (s:aM):ByteArray:=if gO s=true\/mR s=false then noS else dL (q9 s)
theorem yG (s:aM) (h:SW s) (hp:(s.rows.flatMap fu).length<=1000000):gi s=some (iV s):=by
 unfold gi iV
 have hc:((Option.bind (fy s) λa=>(bif a then some true else (Option.bind (fz s) λc=>some (c != 0)))):Option Bool)=some (gO s || !mR s):=by
  rw [empty_eq,aA,vW s h,aA]
  cases gO s <;> cases mR s <;> rfl
 rw [hc,aA]
 by_cases hb:gO s=true\/mR s=false
 ·rw [if_pos hb]
  have:(gO s || !mR s)=true:=by
   rcases hb with hb | hb <;> simp [hb]
  rw [this,cond_true]
  rfl
 ·rw [if_neg hb]
  have hne:gO s=false:=by cases he:gO s with | true=>exact absurd (.inl he) hb | false=>rfl
  have hm:mR s=true:=by cases he:mR s with | false=>exact absurd (.inr he) hb | true=>rfl
  rw [hne,hm]
  show Option.bind (dB ⟨[]⟩ [s.k,s.w,s.h,s.x,s.y]) _=_
  have hpl:=qG s h
  have htl:=h.tl
  have hph:(ma s).length=([s.k,s.w,s.h,s.x,s.y].flatMap cF).length+((cF s.title.size++sbs s.title).length+(([s.len,s.chain].flatMap cF).length+(lx s.begun).length)):=by
   unfold ma
   rw [List.length_append,List.length_append,List.length_append]
   omega
  have hts:(cF s.title.size++sbs s.title).length=(cF s.title.size).length+s.title.size:=by rw [List.length_append,aV]
  have hbs: ∀ b∈lx s.begun,0<=b/\b < 256:=by
   intro b hb
   unfold lx at hb
   rcases List.mem_append.1 hb with hb | hb
   ·exact m7 _ b hb
   ·obtain ⟨g,_,hg⟩:=List.mem_flatMap.1 hb
    unfold oW at hg
    obtain ⟨x,_,hx⟩:=List.mem_flatMap.1 hg
    exact m7 _ b hx
  rw [lP _ _ (by simp),aA,List.nil_append,vX _ _ (by omega),aA,lP _ _ (by rw [List.length_append]; simp only [List.length_cons,List.length_nil]; omega),aA,AY _ h.bl h.gl,aA,uG _ _ (by rw [bP,List.length_append,List.length_append]; omega),aA,kA _ hbs]
  have hhead:[s.k,s.w,s.h,s.x,s.y].flatMap cF++(cF s.title.size++sbs s.title)++[s.len,s.chain].flatMap cF++lx s.begun=ma s:=rfl
  rw [hhead]
  refine dX (λi=>((⟨ma s++(s.rows.take i).flatMap fu⟩:cH),(i:Int))) s.rows.length (⟨q9 s⟩:cH) (by simp) ?_ ?_ rfl
  ·intro i hi
   have hro:=h.ro _ (List.getElem_mem hi)
   have hl1:=yF s.rows (i+1)
   rw [List.take_succ_eq_append_getElem hi,List.flatMap_append,List.flatMap_singleton,List.length_append] at hl1
   have hrl:=h.rl
   have hbr: ∀ b∈fu s.rows[i],0<=b/\b < 256:=by
    intro b hb
    unfold fu at hb
    rcases List.mem_append.1 hb with hb | hb
    ·exact m7 _ b hb
    ·obtain ⟨g,_,hg⟩:=List.mem_flatMap.1 hb
     unfold ic at hg
     obtain ⟨x,_,hx⟩:=List.mem_flatMap.1 hg
     exact m7 _ b hx
   dsimp only
   rw [decide_eq_true (by omega),cond_true,bL _ _ hi,aA,xG _ hro.2 hro.1,aA,uG _ _ (by rw [bP,List.length_append]; omega),aA,kA _ hbr,w64 (by omega) (by omega),List.take_succ_eq_append_getElem hi,List.flatMap_append,List.flatMap_singleton,List.append_assoc]
   rfl
  ·have hrl:=h.rl
   dsimp only
   rw [decide_eq_false (by omega),cond_false,List.take_length]
   rfl
def tv (j:aD) (n:Int):ByteArray×aD:=if j.e≠0 then (noS,j) else if n > j.s.size then (noS,⟨noS,2⟩) else (gn j.s 0 n,⟨gn j.s n j.s.size,0⟩)
def ly (i:aD):ByteArray×aD:=tv (rdS i).2 (rdS i).1
theorem yH:gn noS 0 0=noS:=by
 apply oo
 have:=ib noS 0 0
 exact this
theorem ET (j:aD) (n:Int) (h:VI j) (h0:0<=n) (he:j.e≠0->n=0):km j n=some (tv j n):=by
 obtain ⟨s,e⟩:=j
 unfold km tv
 have hm:imax 0 n=n:=by rw [um]; omega
 have hsz:=h.1
 rw [hm]
 dsimp only at *
 by_cases hz:e=0
 ·subst hz
  rw [if_neg (by simp)]
  by_cases hb:n > s.size
  ·rw [decide_eq_true hb,cond_true,if_pos hb,m8 _ _ (by decide),aA]
   rfl
  ·rw [decide_eq_false hb,cond_false,if_neg hb,dI (by omega) (by omega) (by omega),aA,dI (by omega) (by omega) (by omega),aA]
 ·obtain rfl:=he hz
  obtain rfl:s=noS:=h.2.resolve_left hz
  rw [if_pos hz,decide_eq_false (by decide),cond_false,dI (by decide) (by decide) (by decide),aA,dI (by decide) (by decide) (by decide),aA]
  have h2:gn noS 0 (noS.size:Int)=noS:=yH
  rw [yH,h2]
theorem yI (i:aD) (h:VI i):gJ i=some (ly i):=by
 unfold gJ ly
 rw [iN i h,aA,ET _ _ (eZ h) (jP h).1 (λhe=>oS he),aA]
theorem tX (i:aD) (h:VI i):fI (asR i)=some (asR (ly i).2,(ly i).1):=by
 unfold fI ly
 rw [fT i h,aA]
 have hr:=jP h
 have hV:=eZ h
 generalize (rdS i).1=n at hr
 generalize (rdS i).2=j at hV
 obtain ⟨s,e⟩:=j
 have hsz:=hV.1
 dsimp only at *
 unfold mw tv asR
 have hm:imax 0 n=n:=by rw [um]; omega
 rw [hm]
 dsimp only
 by_cases hz:e=0
 ·subst hz
  have e0:((0:Int) != 0)=false:=rfl
  rw [e0,cond_false,if_neg (by simp)]
  by_cases hb:n > s.size
  ·rw [decide_eq_true hb,cond_true,if_pos hb]
   rfl
  ·rw [decide_eq_false hb,cond_false,if_neg hb,dI (by omega) (by omega) (by omega),aA,dI (by omega) (by omega) (by omega),aA]
   rfl
 ·have e0:(e != 0)=true:=by simpa using hz
  rw [e0,cond_true,if_pos hz]
  rfl
theorem qH {i:aD} (h:VI i):VI (ly i).2:=by
 unfold ly tv
 have hV:=eZ h
 split
 ·exact hV
 ·split
  ·exact ⟨by show noS.size<=1000000; decide,.inr rfl⟩
  ·refine ⟨?_,.inl rfl⟩
   have hr:=jP h
   obtain ⟨n,hn⟩:=Int.eq_ofNat_of_zero_le hr.1
   show (gn (rdS i).2.s (rdS i).1 (rdS i).2.s.size).size<=1000000
   rw [hn,<- aV,ib,List.length_drop,List.length_take,aV]
   have:=hV.1
   omega
theorem sG {i:aD} (h:VI i) {m:Nat} (hm:i.s.size<=m):(ly i).1.size<=m/\(i.e=0\/i.s=noS):=by
 refine ⟨?_,h.2⟩
 unfold ly tv
 split
 ·exact Nat.zero_le _
 ·split
  ·exact Nat.zero_le _
  ·rename_i he hn
   have he':(rdS i).2.e=0:=by simpa using he
   obtain ⟨_,w,hw,_,hb⟩:=tS he' h
   have hl:=congrArg List.length hb
   rw [List.length_append,aV,aV] at hl
   show (gn (rdS i).2.s 0 (rdS i).1).size<=m
   rw [hw,show (0:Int)=((0:Nat):Int) from rfl,<- aV,ib,List.length_drop,List.length_take,aV]
   omega
theorem AZ {i:aD} (h:VI i) (he:(ly i).2.e=0):i.e=0/\sbs i.s=cF (ly i).1.size++sbs (ly i).1++sbs (ly i).2.s:=by
 unfold ly tv at *
 by_cases h1:(rdS i).2.e=0
 ·rw [if_neg (by simpa using h1)] at he ⊢
  by_cases h2:(rdS i).1 > (rdS i).2.s.size
  ·rw [if_pos h2] at he
   exact absurd he (by decide)
  ·rw [if_neg h2] at he ⊢
   obtain ⟨e0,w,hw,hm,hb⟩:=tS h1 h
   refine ⟨e0,?_⟩
   rw [hw] at h2 ⊢
   have hs1:sbs (gn (rdS i).2.s 0 (w:Int))=(sbs (rdS i).2.s).take w:=by
    have:=ib (rdS i).2.s 0 w
    simpa using this
   have hs2:sbs (gn (rdS i).2.s (w:Int) (rdS i).2.s.size)=(sbs (rdS i).2.s).drop w:=by
    rw [ib]
    congr 1
    exact List.take_of_length_le (by rw [aV]; exact Nat.le_refl _)
   have hsz:(gn (rdS i).2.s 0 (w:Int)).size=w:=by
    rw [<- aV,hs1,List.length_take,aV]
    omega
   dsimp only
   rw [hsz,hs1,hs2,jj hm,List.append_assoc,List.take_append_drop]
   exact hb
 ·rw [if_pos h1] at he
  exact absurd he h1
def bkL:Nat->aD->List aJ->List aJ×aD
 | 0,i,l=>(l,i)
 | k+1,i,l=>bkL k (bU (bU i 1114111).2 647).2 (l++[⟨(bU i 1114111).1,(bU (bU i 1114111).2 647).1⟩])
def bkS (i:aD):List aJ×aD:=if (bkL (bU i 1024).1.toNat (bU i 1024).2 []).2.e=0 then bkL (bU i 1024).1.toNat (bU i 1024).2 [] else ([],(bkL (bU i 1024).1.toNat (bU i 1024).2 []).2)
theorem xI: ∀ (k:Nat) (i:aD) (l:List aJ),VI i->VI (bkL k i l).2
 | 0,i,l,h=>h
 | k+1,i,l,h=>xI k _ _ (fr _ (fr _ h))
theorem qI {i:aD} (h:VI i):VI (bkS i).2:=by
 unfold bkS
 split
 ·exact xI _ _ _ (fr _ h)
 ·exact xI _ _ _ (fr _ h)
theorem rI: ∀ (k:Nat) (i:aD) (l:List aJ),i.e≠0->(bkL k i l).2=i
 | 0,i,l,h=>rfl
 | k+1,i,l,h=>by
  unfold bkL
  have h1:=pE h 1114111 (by omega)
  have h2:=pE (i:=(bU i 1114111).2) (by rw [h1]; exact h) 647 (by omega)
  rw [rI k _ _ (by rw [h2,h1]; exact h),h2,h1]
theorem vY (i:aD) (h:VI i):ik i=some (bkS i):=by
 unfold ik
 rw [uC h (by omega),aA]
 have hr:=fU (m:=1024) h (by omega)
 have hV:=fr 1024 h
 unfold bkS
 generalize (bU i 1024).2=j at hV
 obtain ⟨N,hN⟩:=Int.eq_ofNat_of_zero_le hr.1
 rw [hN] at hr ⊢
 rw [Int.toNat_natCast]
 have key: ∀ (k n:Nat) (j:aD) (l:List aJ),n+k=N->VI j->l.length=n->iter (σ:=aD×(List aJ)×Int) (ρ:=(List aJ)×aD) (λa=>(bif (decide (a.2.2 < (N:Int))) then (Option.bind (fw a.1 1114111) λb=>(Option.bind (fw b.2 647) λc=>(Option.bind (chk (dF a.2.1.length [(aJ.mk (IntKind.i32.wrap b.1) c.1)].length 16)) λ_=>some (.inl (c.2,(a.2.1++[(aJ.mk (IntKind.i32.wrap b.1) c.1)]),(IntKind.i64.wrap (a.2.2+1))))))) else some (.inr (a.2.1,a.1)))) (j,l,(n:Int))=some (bkL k j l):=by
  intro k
  induction k with
  | zero =>
   intro n j l hn hV hl
   refine bA ?_
   dsimp only
   rw [decide_eq_false (by omega),cond_false]
   rfl
  | succ k ih =>
   intro n j l hn hV hl
   have hA:=fU (m:=1114111) hV (by omega)
   have hw:IntKind.i32.wrap (bU j 1114111).1=(bU j 1114111).1:=by rw [IntKind.wrap_i32]; omega
   rw [bZ (s':=((bU (bU j 1114111).2 647).2,l++[⟨(bU j 1114111).1,(bU (bU j 1114111).2 647).1⟩],((n+1:Nat):Int)))]
   ·rw [ih (n+1) _ _ (by omega) (fr _ (fr _ hV)) (by simp [hl])]
    rfl
   ·dsimp only
    rw [decide_eq_true (by omega),cond_true,uC hV (by omega),aA,uC (fr _ hV) (by omega),aA,hw,bW (by simp; omega),aA,w64 (by omega) (by omega)]
    rfl
 have:=key N 0 j [] (by omega) hV rfl
 rw [show ((0:Nat):Int)=0 from rfl] at this
 rw [this,aA]
 unfold cT
 rw [aA]
 by_cases he:(bkL N j []).2.e=0
 ·have hb:((bkL N j []).2.e != 0)=false:=by simpa using he
  rw [hb,cond_false,if_pos he]
 ·have hb:((bkL N j []).2.e != 0)=true:=by simpa using he
  rw [hb,cond_true,if_neg he]
def A9 (r:List aJ×aD):List aJ×aD:=if r.2.e=0 then r else ([],r.2)
theorem sH {k:Nat} {i:aD} {l:List aJ} (h:i.e≠0):A9 (bkL k i l)=([],i):=by
 unfold A9
 rw [rI k i l h,if_neg h]
theorem tY (i:aD) (h:VI i):gE (asR i)=some (asR (bkS i).2,(bkS i).1.map tg):=by
 have hfin:bkS i=A9 (bkL (bU i 1024).1.toNat (bU i 1024).2 []):=rfl
 unfold gE
 rw [fT i h,aA]
 dsimp only
 rw [m9,uE,aA]
 by_cases hb:(rdS i).2.e=0/\(rdS i).1 > 1024
 ·rw [decide_eq_true hb,cond_true,hfin]
  have hl:bU i 1024=(0,iO):=by unfold bU; rw [if_pos hb.2]
  rw [hl]
  rfl
 ·rw [decide_eq_false hb,cond_false]
  have hr:=jP h
  have hle:(rdS i).1<=1024:=by
   by_cases he:(rdS i).2.e=0
   ·omega
   ·rw [oS he]
    omega
  have hl:bU i 1024=rdS i:=by unfold bU; rw [if_neg (by omega)]
  rw [hfin,hl]
  have hV:=eZ h
  generalize (rdS i).2=j at hV
  obtain ⟨N,hN⟩:=Int.eq_ofNat_of_zero_le hr.1
  rw [hN] at hle ⊢
  rw [Int.toNat_natCast]
  have key: ∀ (k n:Nat) (j:aD) (l:List aJ) (f:aR×(List aN)×Int->Option ((aR×(List aN)×Int) ⊕ (((List aN)×aR) ⊕ (aR×(List aN))))),f=(λ(s182:aR×(List aN)×Int)=>(Option.bind ((bif (decide (s182.2.2 < (N:Int))) then some (s182.1.e == 0) else some false):Option Bool) λg=>(bif g then (Option.bind (bB s182.1) λb=>(Option.bind ((bif (b.1.e == 0) then some (decide (b.2 > 1114111)) else some false):Option Bool) λc=>(bif c then (eV (some ((aR.mk (ByteArray.mk #[]) 1),([]:List aN)))) else (Option.bind (bB b.1) λa=>(Option.bind ((bif (a.1.e == 0) then some (decide (a.2 > 647)) else some false):Option Bool) λd=>(bif d then (eV (some ((aR.mk (ByteArray.mk #[]) 1),([]:List aN)))) else (Option.bind (chk (dF s182.2.1.length [(aN.mk b.2 a.2)].length 16)) λ_=>some (.inl (a.1,(s182.2.1++[(aN.mk b.2 a.2)]),(IntKind.i64.wrap (s182.2.2+1))))))))))) else some (.inr (.inl (s182.2.1,s182.1))))))->n+k=N->VI j->l.length=n ->
    ∃ q,iter f (asR j,l.map tg,(n:Int))=some q/\((∃ l' j',q = .inl (l'.map tg,asR j')/\A9 (bkL k j l)=(if j'.e=0 then (l',j') else ([],j')))\/(∃ j',q = .inr (asR j',[])/\A9 (bkL k j l)=([],j'))):=by
   intro k
   induction k with
   | zero =>
    intro n j l f hf hn hV hl
    refine ⟨.inl (l.map tg,asR j),?_,.inl ⟨l,j,rfl,rfl⟩⟩
    refine bA ?_
    subst hf
    dsimp only
    rw [m9,mD,decide_eq_false (by omega),aA,cond_false]
   | succ k ih =>
    intro n j l f hf hn hV hl
    by_cases he:j.e=0
    ·have hVr:=eZ hV
     have hstep:f (asR j,l.map tg,(n:Int))=(Option.bind ((bif ((asR (rdS j).2).e == 0) then some (decide ((rdS j).1 > 1114111)) else some false):Option Bool) λc=>(bif c then (eV (some ((aR.mk (ByteArray.mk #[]) 1),([]:List aN)))) else (Option.bind (bB (asR (rdS j).2)) λa=>(Option.bind ((bif (a.1.e == 0) then some (decide (a.2 > 647)) else some false):Option Bool) λd=>(bif d then (eV (some ((aR.mk (ByteArray.mk #[]) 1),([]:List aN)))) else (Option.bind (chk (dF (l.map tg).length [(aN.mk (rdS j).1 a.2)].length 16)) λ_=>some (.inl (a.1,((l.map tg)++[(aN.mk (rdS j).1 a.2)]),(IntKind.i64.wrap ((n:Int)+1)))))))))):=by
      subst hf
      dsimp only
      rw [m9,mD,decide_eq_true ⟨by omega,he⟩,aA,cond_true,fT j hV,aA]
     rw [m9,uE] at hstep
     by_cases hb1:(rdS j).2.e=0/\(rdS j).1 > 1114111
     ·refine ⟨.inr (asR iO,[]),?_,.inr ⟨iO,rfl,?_⟩⟩
      ·refine bA ?_
       rw [hstep,decide_eq_true hb1,aA,cond_true]
       rfl
      ·have h1:bU j 1114111=(0,iO):=by unfold bU; rw [if_pos hb1.2]
       unfold bkL
       rw [h1]
       have h2:(bU iO 647).2=iO:=pE (by decide) 647 (by omega)
       dsimp only
       rw [h2,sH (by decide)]
     ·have hle1:(rdS j).1<=1114111:=by
       by_cases he2:(rdS j).2.e=0
       ·omega
       ·rw [oS he2]
        omega
      have h1:bU j 1114111=rdS j:=by unfold bU; rw [if_neg (by omega)]
      rw [decide_eq_false hb1,aA,cond_false,fT _ hVr,aA] at hstep
      dsimp only at hstep
      rw [m9,uE] at hstep
      by_cases hb2:(rdS (rdS j).2).2.e=0/\(rdS (rdS j).2).1 > 647
      ·refine ⟨.inr (asR iO,[]),?_,.inr ⟨iO,rfl,?_⟩⟩
       ·refine bA ?_
        rw [hstep,decide_eq_true hb2,aA,cond_true]
        rfl
       ·have h2:bU (rdS j).2 647=(0,iO):=by unfold bU; rw [if_pos hb2.2]
        unfold bkL
        rw [h1,h2,sH (by decide)]
      ·have hle2:(rdS (rdS j).2).1<=647:=by
        by_cases he2:(rdS (rdS j).2).2.e=0
        ·omega
        ·rw [oS he2]
         omega
       have h2:bU (rdS j).2 647=rdS (rdS j).2:=by unfold bU; rw [if_neg (by omega)]
       obtain ⟨q,hq1,hq2⟩:=ih (n+1) (rdS (rdS j).2).2 (l++[(aJ.mk (rdS j).1 (rdS (rdS j).2).1)]) f hf (by omega) (eZ hVr) (by simp [hl])
       refine ⟨q,?_,?_⟩
       ·rw [bZ (s':=(asR (rdS (rdS j).2).2,(l++[(aJ.mk (rdS j).1 (rdS (rdS j).2).1)]).map tg,((n+1:Nat):Int)))]
        ·exact hq1
        ·rw [hstep,decide_eq_false hb2,aA,cond_false,bW (by simp; omega),aA,w64 (by omega) (by omega),List.map_append]
         rfl
       ·unfold bkL
        rw [h1,h2]
        exact hq2
    ·refine ⟨.inl (l.map tg,asR j),?_,.inl ⟨l,j,rfl,?_⟩⟩
     ·refine bA ?_
      subst hf
      dsimp only
      rw [m9,mD,decide_eq_false (λhh=>he hh.2),aA,cond_false]
     ·rw [sH he,if_neg he]
  obtain ⟨q,hq1,hq2⟩:=key N 0 j [] _ rfl (by omega) hV rfl
  have hq1':iter _ (asR j,([]:List aN),(0:Int))=some q:=hq1
  rw [hq1',aA]
  rcases hq2 with ⟨l',j',rfl,hf⟩ | ⟨j',rfl,hf⟩
  ·rw [hf]
   dsimp only
   by_cases he:j'.e=0
   ·have hb:((asR j').e != 0)=false:=by simpa [asR] using he
    rw [hb,cond_false,if_pos he]
   ·have hb:((asR j').e != 0)=true:=by simpa [asR] using he
    rw [hb,cond_true,if_neg he]
    rfl
  ·rw [hf]
   rfl
def iX (x:aM) (l:List aT):aM:=⟨x.k,x.w,x.h,x.x,x.y,x.title,l,x.len,x.chain,x.begun⟩
def iJ:aM:=⟨0,0,0,0,0,noS,[],0,0,[]⟩
def jk (i:aD):Int:=if i.s≠noS then 1 else i.e
theorem uH (i:aD):iu i=some (jk i):=by
 unfold iu jk
 have:(i.s.toList == (ByteArray.mk #[]).toList)=decide (i.s=noS):=lQ i.s noS
 rw [this]
 by_cases h:i.s=noS
 ·rw [decide_eq_true h,if_neg (λhh=>hh h)]; rfl
 ·rw [decide_eq_false h,if_pos h]; rfl
theorem yJ (i:aD) (h:VI i):kh (asR i)=some (jk i):=by
 unfold kh jk
 have:((asR i).s.toList == (ByteArray.mk #[]).toList)=decide (i.s=noS):=lQ i.s noS
 rw [this]
 by_cases he:i.e=0
 ·have h2:((asR i).e == 0)=true:=by simpa [asR] using he
  rw [h2,cond_true,aA]
  by_cases h:i.s=noS
  ·rw [decide_eq_true h,if_neg (λhh=>hh h)]; rfl
  ·rw [decide_eq_false h,if_pos h]; rfl
 ·have h2:((asR i).e == 0)=false:=by simpa [asR] using he
  rw [h2,cond_false,aA,cond_false]
  rcases h.2 with h | h
  ·exact absurd h he
  ·rw [if_neg (λhh=>hh h)]; rfl
def hA (s:ByteArray):=rdS ⟨s,0⟩
def hB (s:ByteArray):=bU (hA s).2 1000
def hC (s:ByteArray):=bU (hB s).2 1000
def hD (s:ByteArray):=rdS (hC s).2
def hE (s:ByteArray):=rdS (hD s).2
def hT (s:ByteArray):=ly (hE s).2
def SZ (m:Nat) (i:aD):Prop:=VI i/\i.s.size<=m
theorem kB {i:aD} {m:Nat} (h:SZ m i):SZ m (rdS i).2:=by
 refine ⟨eZ h.1,?_⟩
 by_cases he:(rdS i).2.e=0
 ·obtain ⟨-,w, -, -,hw⟩:=tS he h.1
  have:=congrArg List.length hw
  rw [List.length_append,aV,aV] at this
  have:=h.2
  omega
 ·rcases (eZ h.1).2 with h1 | h1
  ·exact absurd h1 he
  ·rw [h1]; exact Nat.zero_le _
theorem uI {i:aD} {m:Nat} (k:Int) (h:SZ m i):SZ m (bU i k).2:=by
 unfold bU
 split
 ·exact ⟨l9,Nat.zero_le _⟩
 ·exact kB h
theorem xJ: ∀ (k:Nat) (i:aD) (l:List aJ),VI i->(∀ g∈l,rok g.rune)->(∀ g∈(bkL k i l).1,rok g.rune)/\(bkL k i l).1.length=l.length+k
 | 0,i,l,h,hl=>⟨hl,rfl⟩
 | k+1,i,l,h,hl=>by
  unfold bkL
  have:=xJ k (bU (bU i 1114111).2 647).2 (l++[⟨(bU i 1114111).1,(bU (bU i 1114111).2 647).1⟩]) (fr _ (fr _ h)) (by
   intro g hg
   rcases List.mem_append.1 hg with h1 | h1
   ·exact hl g h1
   ·rw [List.mem_singleton.1 h1]
    have:=fU (m:=1114111) h (by omega)
    unfold rok
    dsimp only
    omega)
  refine ⟨this.1,this.2.trans ?_⟩
  simp only [List.length_append,List.length_cons,List.length_nil]
  omega
theorem Ba {i:aD} (h:VI i):(∀ g∈(bkS i).1,rok g.rune)/\(bkS i).1.length<=1024:=by
 unfold bkS
 have hr:=fU (m:=1024) h (by omega)
 have:=xJ (bU i 1024).1.toNat (bU i 1024).2 [] (fr _ h) (by intro g hg; cases hg)
 split
 ·refine ⟨this.1,?_⟩
  rw [this.2]
  simp only [List.length_nil]
  omega
 ·exact ⟨λg hg=>(by cases hg),Nat.zero_le _⟩
theorem qJ {α:Type} [DecidableEq α] (a b:List α) (hl:a.length=b.length) (f:Int->Option (Int ⊕ (Unit ⊕ Bool))) (hf: ∀ (n:Nat) (h1:n < a.length) (h2:n < b.length),f (n:Int)=if a[n]=b[n] then some (.inl ((n+1:Nat):Int)) else some (.inr (.inr false))) (he:f (a.length:Int)=some (.inr (.inl ()))):iter f 0=some (if a=b then .inl () else .inr false):=by
 obtain ⟨r,h1,h2⟩:=m6 (f:=f) (λi:Int=> ∃ n:Nat,i=n/\n<=a.length/\a.take n=b.take n) (λi=>(a.length - i).toNat) (λr=>r=(if a=b then .inl () else .inr false)) (by
  rintro i ⟨n,rfl,hn,ht⟩
  by_cases h1:n < a.length
  ·have h2:n < b.length:=by omega
   by_cases he:a[n]=b[n]
   ·refine .inl ⟨((n+1:Nat):Int),?_,⟨n+1,rfl,by omega,?_⟩,by (try dsimp only); omega⟩
    ·rw [hf n h1 h2,if_pos he]
    ·rw [List.take_succ_eq_append_getElem h1,List.take_succ_eq_append_getElem h2,ht,he]
   ·refine .inr ⟨.inr false,?_,?_⟩
    ·rw [hf n h1 h2,if_neg he]
    ·rw [if_neg]
     intro hab
     subst hab
     exact he rfl
  ·refine .inr ⟨.inl (),?_,?_⟩
   ·have hn2:n=a.length:=by omega
    rw [hn2,he]
   ·rw [if_pos]
    have hn2:n=a.length:=by omega
    subst hn2
    rw [List.take_length] at ht
    rw [ht,hl,List.take_length]) 0 ⟨0,rfl,by omega,rfl⟩
 rw [h1,h2]
theorem sI (a b:List aJ) (ha:a.length<=1000000) (hr: ∀ g∈a,rok g.rune):hU a (b.map tg)=some (decide (a=b)):=by
 unfold hU
 rw [List.length_map]
 by_cases hl:a.length=b.length
 ·have e0:((a.length:Int) != (b.length:Int))=false:=by simp [hl]
  rw [e0,cond_false,qJ a b hl]
  ·by_cases h:a=b
   ·rw [if_pos h,decide_eq_true h]; rfl
   ·rw [if_neg h,decide_eq_false h]; rfl
  ·intro n h1 h2
   have hi2:idx (b.map tg) (n:Int)=some (tg b[n]):=by rw [bL _ _ (by simpa using h2),List.getElem_map]
   try dsimp only
   have k1:=hr _ (List.getElem_mem h1)
   rw [decide_eq_true (by omega),cond_true,bL a n h1,aA,hi2,w64 (x:=(n:Int)+1) (by omega) (by omega)]
   simp only [aA,w32 k1]
   generalize a[n]=x
   generalize b[n]=y
   obtain ⟨x1,x2⟩:=x
   obtain ⟨y1,y2⟩:=y
   unfold tg
   by_cases g1:x1=y1 <;> by_cases g2:x2=y2 <;> simp [g1,g2,eV]
   all_goals first | (have:(x1 != y1)=true:=by simpa using g1); simp [this] | (have:(x2 != y2)=true:=by simpa using g2); simp [this] | skip
  ·try dsimp only
   rw [decide_eq_false (by omega),cond_false]
 ·have e0:((a.length:Int) != (b.length:Int))=true:=by simp; omega
  rw [e0,cond_true,decide_eq_false (λh=>hl (by rw [h]))]
theorem Bb (a b:List aT) (ha:a.length<=1000000) (hr: ∀ r∈a,okR r.cells/\r.cells.length<=1000) (hq: ∀ r∈b,okR r.cells/\r.cells.length<=1000):kq a (b.map told)=some (decide (a=b)):=by
 unfold kq
 rw [List.length_map]
 by_cases hl:a.length=b.length
 ·have e0:((a.length:Int) != (b.length:Int))=false:=by simp [hl]
  rw [e0,cond_false,qJ a b hl]
  ·by_cases h:a=b
   ·rw [if_pos h,decide_eq_true h]; rfl
   ·rw [if_neg h,decide_eq_false h]; rfl
  ·intro n h1 h2
   have hi2:idx (b.map told) (n:Int)=some (told b[n]):=by rw [bL _ _ (by simpa using h2),List.getElem_map]
   try dsimp only
   have k1:=hr _ (List.getElem_mem h1)
   have k2:=hq _ (List.getElem_mem h2)
   rw [decide_eq_true (by omega),cond_true,bL a n h1,aA,hi2,aA,EL _ _ (by omega) k1.1 k2.1,aA,w64 (by omega) (by omega)]
   by_cases he:a[n]=b[n]
   ·rw [if_pos he,decide_eq_true he]; rfl
   ·rw [if_neg he,decide_eq_false he]; rfl
  ·try dsimp only
   rw [decide_eq_false (by omega),cond_false]
 ·have e0:((a.length:Int) != (b.length:Int))=true:=by simp; omega
  rw [e0,cond_true,decide_eq_false (λh=>hl (by rw [h]))]
theorem Bc (s t:aM):decide (s=t)=((s.k == t.k) && ((s.w == t.w) && ((s.h == t.h) && ((s.x == t.x) && ((s.y == t.y) && ((s.title.toList == t.title.toList) && ((s.len == t.len) && ((s.chain == t.chain) && (decide (s.rows=t.rows) && decide (s.begun=t.begun)))))))))):=by
 rw [lQ]
 obtain ⟨a1,a2,a3,a4,a5,a6,a7,a8,a9,a10⟩:=s
 obtain ⟨b1,b2,b3,b4,b5,b6,b7,b8,b9,b10⟩:=t
 rw [Bool.eq_iff_iff]
 simp only [decide_eq_true_eq,Bool.and_eq_true,beq_iff_eq,aM.mk.injEq]
 constructor
 ·rintro ⟨h1,h2,h3,h4,h5,h6,h7,h8,h9,h10⟩
  exact ⟨h1,h2,h3,h4,h5,h6,h8,h9,h7,h10⟩
 ·rintro ⟨h1,h2,h3,h4,h5,h6,h8,h9,h7,h10⟩
  exact ⟨h1,h2,h3,h4,h5,h6,h7,h8,h9,h10⟩
theorem CR (s t:aM) (h:SW s) (h2:SW t):l7 s (fB t)=some (decide (s=t)):=by
 unfold l7
 rw [Bb _ _ (by have:=h.rl; omega) h.ro h2.ro,aA,sI _ _ (by have:=h.bl; omega) h.gl,aA,Bc]
 simp only [uF,aA]
theorem oq (s:aM) (h:SW s):fR s=some s:=by
 unfold fR
 have hl:=h.rl
 refine dX (λi=>(s.rows.take i,(i:Int))) s.rows.length s.rows rfl ?_ ?_ ?_
 ·intro i hi
  dsimp only
  have hr:=(h.ro _ (List.getElem_mem hi)).2
  rw [decide_eq_true (by omega),cond_true,bL _ _ hi,aA,AL _ (by omega),aA,bW (by simp; omega),aA,w64 (by omega) (by omega),List.take_succ_eq_append_getElem hi]
  rfl
 ·dsimp only
  rw [decide_eq_false (by omega),cond_false,List.take_length]
 ·have hb:=h.bl
  unfold cP
  rw [bW (by simp; omega),aA,aA]
  rfl
def BB (l:List Int):Prop:= ∀ b∈l,0<=b/\b < 256
theorem jC {a b:List Int} (h:BB a) (h2:BB b):BB (a++b):=by
 intro x hx
 rcases List.mem_append.1 hx with h' | h'
 ·exact h x h'
 ·exact h2 x h'
theorem kS (n:Int):BB (cF n):=m7 _
theorem nE (s:ByteArray):BB (sbs s):=pB s
theorem lR {α:Type} {l:List α} {f:α->List Int} (h: ∀ a∈l,BB (f a)):BB (l.flatMap f):=by
 intro x hx
 obtain ⟨a,ha,hx⟩:=List.mem_flatMap.1 hx
 exact h a ha x hx
theorem EU (p:Nat×aL):BB (ic p):=lR λa _=>kS a
theorem EV (r:aT):BB (fu r):=jC (kS _) (lR λa _=>EU a)
theorem F6 (g:aJ):BB (oW g):=lR λa _=>kS a
def bI (l:List Int):aD:=⟨dL l,0⟩
theorem xK {n:Int} (h0:0<=n) (h1:n<=4611686018427387904):cF n=gm n.toNat/\n.toNat<=most/\((n.toNat:Nat):Int)=n:=by
 have:((n.toNat:Nat):Int)=n:=by omega
 refine ⟨?_,by unfold most; omega,this⟩
 conv=>lhs; rw [<- this]
 exact jj (by unfold most; omega)
theorem Bd {n:Int} {R:List Int} (hR:BB R) (h0:0<=n) (h1:n<=4611686018427387904):rdS (bI (cF n++R))=(n,bI R):=by
 obtain ⟨e,m,q⟩:=xK h0 h1
 have:=EK (dL (cF n++R)) n.toNat R m (by rw [kA _ (jC (kS _) hR),e])
 rw [q] at this
 exact this
theorem FH (t:ByteArray) {R:List Int} (hR:BB R) (ht:t.size<=100000):ly (bI (cF t.size++sbs t++R))=(t,bI R):=by
 unfold ly
 rw [List.append_assoc,Bd (jC (nE t) hR) (by omega) (by omega)]
 have hb:sbs (dL (sbs t++R))=sbs t++R:=kA _ (jC (nE t) hR)
 have hsz:(dL (sbs t++R)).size=t.size+R.length:=by rw [<- aV,hb,List.length_append,aV]
 unfold tv bI
 dsimp only
 rw [if_neg (by simp),if_neg (by rw [hsz]; omega)]
 have h1:gn (dL (sbs t++R)) 0 (t.size:Int)=t:=by
  apply oo
  have:=ib (dL (sbs t++R)) 0 t.size
  rw [hb] at this
  refine Eq.trans this ?_
  have e:t.size=(sbs t).length:=(aV t).symm
  rw [e,List.take_left,List.drop_zero]
 have h2:gn (dL (sbs t++R)) (t.size:Int) ((dL (sbs t++R)).size:Int)=dL R:=by
  apply oo
  rw [ib,hb,kA _ hR,hsz,List.take_of_length_le (by rw [List.length_append,aV]; exact Nat.le_refl _)]
  have e:t.size=(sbs t).length:=(aV t).symm
  rw [e,List.drop_left]
 rw [h1,h2]
theorem yK (n:Nat):gm n≠[]:=by
 rw [gm]
 split <;> simp
theorem Be (s:aM):BB (ma s):=by
 unfold ma lx
 exact jC (jC (jC (lR λa _=>kS a) (jC (kS _) (nE _))) (lR λa _=>kS a)) (jC (kS _) (lR λa _=>F6 a))
theorem CU (l:List aT):BB (l.flatMap fu):=lR λa _=>EV a
theorem CV (s:aM):BB (q9 s):=jC (Be s) (CU _)
theorem DY: ∀ (k:Nat) (i:aD) (l:List aJ),(bkL k i l).2.e=0->i.e=0
 | k,i,l,h=>by
  by_cases he:i.e=0
  ·exact he
  ·rw [rI _ _ _ he] at h
   exact h
theorem tZ: ∀ (k:Nat) (i:aD) (l:List aJ),VI i->(bkL k i l).2.e=0 -> ∃ D,(bkL k i l).1.flatMap oW=l.flatMap oW++D/\sbs i.s=D++sbs (bkL k i l).2.s
 | 0,i,l,h,he=>⟨[],by simp [bkL],by simp [bkL]⟩
 | k+1,i,l,h,he=>by
  unfold bkL at he ⊢
  have v1:=fr 1114111 h
  have v2:=fr 647 v1
  obtain ⟨D,d1,d2⟩:=tZ k _ _ v2 he
  obtain ⟨h1,c2,q2,_,m2,b2⟩:=jB (DY _ _ _ he) v1
  obtain ⟨_,c1,q1,_,m1,b1⟩:=jB h1 h
  refine ⟨gm c1++gm c2++D,?_,?_⟩
  ·rw [d1,List.flatMap_append,List.flatMap_singleton,List.append_assoc]
   congr 2
   unfold oW
   simp only [List.flatMap_cons,List.flatMap_nil,List.append_nil,q1,q2,jj m1,jj m2]
  ·rw [b1,b2,d2]
   simp only [List.append_assoc]
theorem ua {i:aD} (h:VI i) (he:(bkS i).2.e=0):i.e=0/\sbs i.s=lx (bkS i).1++sbs (bkS i).2.s:=by
 unfold bkS at he ⊢
 by_cases h0:(bkL (bU i 1024).1.toNat (bU i 1024).2 []).2.e=0
 ·rw [if_pos h0]
  have v1:=fr 1024 h
  obtain ⟨D,d1,d2⟩:=tZ _ _ _ v1 h0
  obtain ⟨e0,c,q,_,m,b⟩:=jB (DY _ _ _ h0) h
  refine ⟨e0,?_⟩
  have hl:=(xJ (bU i 1024).1.toNat (bU i 1024).2 [] v1 (by intro g hg; cases hg)).2
  unfold lx
  rw [hl,d1,b,d2,q,Int.toNat_natCast]
  simp only [List.length_nil,Nat.zero_add,List.flatMap_nil,List.nil_append,jj m,List.append_assoc]
 ·rw [if_neg h0] at he
  exact absurd he h0
def Bf (s:ByteArray) (n:Nat):ByteArray:=if s.size > n then gn s 0 n else s
theorem Bg (s:ByteArray) (n:Nat):kf s n=some (Bf s n):=by
 unfold kf Bf
 by_cases h:s.size > n
 ·rw [decide_eq_true (by omega),cond_true,if_pos h,dI (by omega) (by omega) (by omega),aA]
 ·rw [decide_eq_false (by omega),cond_false,if_neg h]
theorem zO (s:ByteArray) (n:Nat):(Bf s n).size<=n:=by
 unfold Bf
 split
 ·have:=ib s 0 n
  have h2:=congrArg List.length this
  rw [aV] at h2
  have h3:(gn s 0 (n:Int)).size=(gn s ((0:Nat):Int) (n:Int)).size:=rfl
  rw [h3,h2,List.length_drop,List.length_take]
  omega
 ·omega
theorem pH:SW iJ:=⟨by decide,by decide,λg hg=>(by cases hg),λr hr=>(by cases hr),by decide,by decide,by show noS.size<=12000; decide⟩
theorem Bh (s:aM):dL (q9 s)≠noS:=by
 intro h
 have h2:sbs (dL (q9 s))=[]:=by rw [h]; rfl
 rw [kA _ (CV s)] at h2
 unfold q9 ma at h2
 simp only [List.append_eq_nil_iff,List.flatMap_cons] at h2
 exact yK _ h2.1.1.1.1.1
def oX (a:Nat):Nat:=(a >>> 1) ^^^ (if a % 2=1 then 3988292384 else 0)
def nX (a:Nat):Nat:=oX (oX (oX (oX a)))
theorem oY {a b:Nat} (ha:a < 4294967296) (hb:b < 4294967296):a ^^^ b < 4294967296:=Nat.xor_lt_two_pow (n:=32) ha hb
theorem pI {a:Nat} (h:a < 4294967296):oX a < 4294967296:=by
 unfold oX
 have:a >>> 1 < 4294967296:=by rw [Nat.shiftRight_eq_div_pow]; omega
 exact oY this (by split <;> omega)
theorem CW (a b:Nat):(a ^^^ b) % 2=(a % 2+b % 2) % 2:=by
 have h:=Nat.testBit_xor a b 0
 rw [Nat.testBit_zero,Nat.testBit_zero,Nat.testBit_zero] at h
 have ha:a % 2=0\/a % 2=1:=by omega
 have hb:b % 2=0\/b % 2=1:=by omega
 have hc:(a ^^^ b) % 2=0\/(a ^^^ b) % 2=1:=by omega
 rcases ha with ha | ha <;> rcases hb with hb | hb <;> rcases hc with hc | hc <;> rw [ha,hb,hc] at h <;> first | (exact absurd h (by decide)) | (rw [ha,hb,hc])
theorem pJ (a b:Nat):oX (a ^^^ b)=oX a ^^^ oX b:=by
 unfold oX
 rw [Nat.shiftRight_xor_distrib,CW]
 have ha:a % 2=0\/a % 2=1:=by omega
 have hb:b % 2=0\/b % 2=1:=by omega
 generalize a >>> 1=x
 generalize b >>> 1=y
 rcases ha with ha | ha <;> rcases hb with hb | hb <;> rw [ha,hb]
 ·simp
 ·simp [Nat.xor_assoc]
 ·simp only [Nat.zero_add,Nat.add_zero]
  simp
  rw [Nat.xor_assoc,Nat.xor_assoc,Nat.xor_comm y]
 ·simp
  have:x ^^^ 3988292384 ^^^ (y ^^^ 3988292384)=x ^^^ y ^^^ (3988292384 ^^^ 3988292384):=by
   rw [Nat.xor_assoc,Nat.xor_assoc,<- Nat.xor_assoc 3988292384 y,Nat.xor_comm 3988292384 y,Nat.xor_assoc]
  rw [this,Nat.xor_self,Nat.xor_zero]
theorem Bi (a b:Nat):nX (a ^^^ b)=nX a ^^^ nX b:=by
 unfold nX
 rw [pJ,pJ,pJ,pJ]
theorem ot (k:Nat):oX (2*k)=k:=by
 unfold oX
 rw [if_neg (by omega),Nat.xor_zero,Nat.shiftRight_eq_div_pow]
 omega
theorem CY (k:Nat):nX (16*k)=k:=by
 unfold nX
 rw [show 16*k=2*(2*(2*(2*k))) by omega,ot,ot,ot,ot]
theorem ub (x:Nat):nX x=(x / 16) ^^^ nX (x % 16):=by
 have h:x=(16*(x / 16)) ^^^ (x % 16):=by
  have h1:16*(x / 16)+x % 16=x:=Nat.div_add_mod x 16
  have h2:(16*(x / 16)) ^^^ (x % 16)=16*(x / 16)+x % 16:=by
   have h3:2 ^ 4*(x / 16)+x % 16=(2 ^ 4*(x / 16)) ||| (x % 16):=Nat.two_pow_add_eq_or_of_lt (by omega) _
   apply Nat.eq_of_testBit_eq
   intro i
   have h4:(16*(x / 16)+x % 16)=(2 ^ 4*(x / 16)) ||| (x % 16):=h3
   rw [h4,Nat.testBit_xor,Nat.testBit_or]
   show ((2 ^ 4*(x / 16)).testBit i ^^ (x % 16).testBit i)=_
   rw [Nat.testBit_two_pow_mul]
   by_cases hi:i>=4
   ·have:(x % 16).testBit i=false:=by
     apply Nat.testBit_lt_two_pow
     have:2 ^ 4<=2 ^ i:=Nat.pow_le_pow_right (by omega) hi
     omega
    rw [this]
    simp
   ·simp [hi]
  rw [h2,h1]
 conv=>lhs; rw [h]
 rw [Bi,CY]
theorem yL: ∀ n:Nat,n < 16->idx dC (n:Int)=some ((nX n:Nat):Int):=by decide
theorem EW {x:Int} (h0:0<=x) (h1:x < 4294967296):IntKind.u32.wrap x=x:=by
 unfold IntKind.wrap
 simp [IntKind.signed,IntKind.bits]
 omega
theorem yM {a b:Nat} (ha:a < 4294967296) (hb:b < 4294967296):Go.bits .xor .u32 (a:Int) (b:Int)=((a ^^^ b:Nat):Int):=by
 show IntKind.u32.wrap ((BitVec.ofInt 32 (a:Int) ^^^ BitVec.ofInt 32 (b:Int)).toNat:Int)=_
 rw [BitVec.ofInt_natCast,BitVec.ofInt_natCast,BitVec.toNat_xor,BitVec.toNat_ofNat,BitVec.toNat_ofNat,Nat.mod_eq_of_lt ha,Nat.mod_eq_of_lt hb]
 have:=oY ha hb
 exact EW (by omega) (by omega)
theorem DZ {a b:Nat} (ha:a < 4294967296) (hb:b < 4294967296):Go.bits .xor .i64 (a:Int) (b:Int)=((a ^^^ b:Nat):Int):=by
 show IntKind.i64.wrap ((BitVec.ofInt 64 (a:Int) ^^^ BitVec.ofInt 64 (b:Int)).toNat:Int)=_
 rw [BitVec.ofInt_natCast,BitVec.ofInt_natCast,BitVec.toNat_xor,BitVec.toNat_ofNat,BitVec.toNat_ofNat,Nat.mod_eq_of_lt (by omega),Nat.mod_eq_of_lt (by omega)]
 have:=oY ha hb
 exact w64 (by omega) (by omega)
theorem D1 {a:Nat} (ha:a < 4294967296):Go.bits .and .u32 (a:Int) 15=((a % 16:Nat):Int):=by
 show IntKind.u32.wrap ((BitVec.ofInt 32 (a:Int) &&& BitVec.ofInt 32 15).toNat:Int)=_
 rw [BitVec.ofInt_natCast,BitVec.toNat_and,BitVec.toNat_ofNat,Nat.mod_eq_of_lt ha]
 have h:(BitVec.ofInt 32 15).toNat=2 ^ 4 - 1:=by decide
 rw [h,Nat.and_two_pow_sub_one_eq_mod]
 exact EW (by omega) (by omega)
theorem D2 (a:Nat):((a:Int)).fdiv (2 ^ (min 4 32))=((a / 16:Nat):Int):=by
 rw [Int.fdiv_eq_ediv_of_nonneg _ (by decide)]
 rfl
def vZ (x b:Nat):Nat:=nX (nX (x ^^^ b))
theorem pK {a:Nat} (h:a < 4294967296):nX a < 4294967296:=pI (pI (pI (pI h)))
theorem Bj {x b:Nat} (h:x < 4294967296) (hb:b < 256):vZ x b < 4294967296:=pK (pK (oY h (by omega)))
theorem step_eq {x b:Nat} (hx:x < 4294967296) (hb:b < 256):kM (x:Int) (b:Int)=some ((vZ x b:Nat):Int):=by
 unfold kM vZ
 rw [EW (by omega) (by omega),yM hx (by omega)]
 have h1:=oY hx (show b < 4294967296 by omega)
 generalize x ^^^ b=y at h1
 rw [D1 h1,yL _ (by omega),aA,D2,yM (by omega) (pK (by omega)),<- ub]
 have h2:=pK h1
 generalize nX y=z at h2
 rw [D1 h2,yL _ (by omega),aA,D2,yM (by omega) (pK (by omega)),<- ub]
def Bk (y:Nat):Nat->Nat
 | 0=>y
 | i+1=>oX (Bk y i)
theorem FI {y:Nat} (hy:y < 4294967296):iter (σ:=Int×Int) (ρ:=Int) (λa=>(bif (decide (a.2 < 8)) then (Option.bind ((bif ((a.1.tmod 2) == 1) then some (Go.bits .xor .i64 (IntKind.i64.wrap (a.1.tdiv 2)) 3988292384) else some (IntKind.i64.wrap (a.1.tdiv 2))):Option Int) λc=>some (.inl (c,(IntKind.i64.wrap (a.2+1))))) else some (.inr a.1))) ((y:Int),0)=some ((nX (nX y):Nat):Int):=by
 have st: ∀ (z n:Nat),z < 4294967296->n < 8->(bif (decide ((n:Int) < 8)) then (Option.bind ((bif (((z:Int).tmod 2) == 1) then some (Go.bits .xor .i64 (IntKind.i64.wrap ((z:Int).tdiv 2)) 3988292384) else some (IntKind.i64.wrap ((z:Int).tdiv 2))):Option Int) λc=>some (.inl (c,(IntKind.i64.wrap ((n:Int)+1))))) else some (.inr (z:Int)):Option ((Int×Int) ⊕ Int))=some (.inl (((oX z:Nat):Int),((n+1:Nat):Int))):=by
  intro z n hz hn
  have h1:(z:Int).tdiv 2=((z >>> 1:Nat):Int):=by
   rw [Int.tdiv_eq_ediv_of_nonneg (by omega),Nat.shiftRight_eq_div_pow]
   rfl
  have h2:(z:Int).tmod 2=((z % 2:Nat):Int):=by
   rw [Int.tmod_eq_emod_of_nonneg (by omega)]
   rfl
  have h3:z >>> 1 < 4294967296:=by rw [Nat.shiftRight_eq_div_pow]; omega
  rw [decide_eq_true (by omega),cond_true,h1,h2,w64 (by omega) (by omega),w64 (by omega) (by omega)]
  have hx:Go.bits .xor .i64 ((z >>> 1:Nat):Int) 3988292384=((z >>> 1 ^^^ 3988292384:Nat):Int):=DZ h3 (b:=3988292384) (by decide)
  rw [hx]
  unfold oX
  by_cases ho:z % 2=1
  ·have:(((z % 2:Nat):Int) == 1)=true:=by rw [ho]; rfl
   rw [this,cond_true,if_pos ho]
   rfl
  ·have:(((z % 2:Nat):Int) == 1)=false:=by rw [show z % 2=0 by omega]; rfl
   rw [this,cond_false,if_neg ho,Nat.xor_zero]
   rfl
 have hB: ∀ i,Bk y i < 4294967296:=by
  intro i
  induction i with
  | zero=>exact hy
  | succ i ih=>exact pI ih
 have h8:nX (nX y)=Bk y 8:=rfl
 rw [h8]
 refine px (λi=>(((Bk y i:Nat):Int),(i:Int))) 8 _ ?_ ?_
 ·intro i hi
  exact st (Bk y i) i (hB i) hi
 ·dsimp only
  rw [decide_eq_false (by omega),cond_false]
def pL (l:List Int):Nat:=l.foldl (λx b=>vZ x b.toNat) 4294967295
theorem oZ (l:List Int) (i:Nat) (h:i < l.length):pL (l.take (i+1))=vZ (pL (l.take i)) (l[i]).toNat:=by
 unfold pL
 rw [List.take_succ_eq_append_getElem h,List.foldl_append]
 rfl
theorem uJ {l:List Int} (h:BB l): ∀ i,pL (l.take i) < 4294967296:=by
 intro i
 induction i with
 | zero=>rw [List.take_zero]; decide
 | succ i ih =>
  by_cases hi:i < l.length
  ·rw [oZ l i hi]
   have:=h _ (List.getElem_mem hi)
   exact Bj ih (by omega)
  ·rw [List.take_of_length_le (by omega)]
   rw [List.take_of_length_le (by omega)] at ih
   exact ih
def iP (s:ByteArray):Nat:=4294967295 ^^^ pL (sbs s)
theorem xL (s:ByteArray) (hs:s.size<=1000000):lZ [s]=some ((iP s:Nat):Int):=by
 unfold lZ
 have hL:=uJ (nE s)
 have hinner:iter (σ:=Int×Int) (ρ:=Int) (λa=>(bif (decide (a.1 < (s.size:Int))) then (Option.bind (ss s a.1) λb642=>(Option.bind (kM a.2 b642) λb=>some (.inl ((IntKind.i64.wrap (a.1+1)),b)))) else some (.inr a.2))) (0,4294967295)=some ((pL (sbs s):Nat):Int):=by
  refine px (λi=>((i:Int),((pL ((sbs s).take i):Nat):Int))) s.size _ ?_ ?_
  ·intro i hi
   have hi2:i < (sbs s).length:=by rw [aV]; exact hi
   have hb:=nE s _ (List.getElem_mem hi2)
   have hn:(sbs s)[i]=(((sbs s)[i].toNat:Nat):Int):=by omega
   dsimp only
   rw [decide_eq_true (by omega),cond_true,pC s i hi2,aA,oZ _ _ hi2]
   conv=>lhs; rw [hn]
   rw [step_eq (hL i) (by omega),aA,w64 (by omega) (by omega)]
   rfl
  ·dsimp only
   rw [decide_eq_false (by omega),cond_false,List.take_of_length_le (by rw [aV]; exact Nat.le_refl _)]
 refine dX (λi=>(if i=0 then (4294967295:Int) else ((pL (sbs s):Nat):Int),(i:Int))) 1 ((pL (sbs s):Nat):Int) rfl ?_ ?_ ?_
 ·intro i hi
  have:i=0:=by omega
  subst this
  have h1:idx [s] 0=some s:=rfl
  show (bif (decide ((0:Int) < 1)) then (Option.bind (idx [s] 0) λc=>_) else _)=_
  rw [decide_eq_true (by omega),cond_true,h1,aA]
  show (Option.bind (iter _ (0,4294967295)) λd=>_)=_
  rw [hinner,aA]
  rfl
 ·rfl
 ·have h:=hL (sbs s).length
  rw [List.take_length] at h
  show some (Go.bits .xor .u32 ((4294967295:Nat):Int) ((pL (sbs s):Nat):Int))=_
  rw [yM (by decide) h]
  rfl
theorem Bl {x:Nat} (h:x < 4294967296):4294967295 ^^^ x=4294967295 - x:=by
 have h1:(2 ^ 32 - 1) - x=2 ^ 32 - (x+1):=by omega
 show 4294967295 ^^^ x=_
 apply Nat.eq_of_testBit_eq
 intro i
 have h2:4294967295 - x=2 ^ 32 - (x+1):=by omega
 rw [h2,Nat.testBit_two_pow_sub_succ h,Nat.testBit_xor]
 have h3:(4294967295:Nat).testBit i=decide (i < 32):=by
  show (2 ^ 32 - 1).testBit i=_
  rw [Nat.testBit_two_pow_sub_one]
 rw [h3]
 by_cases hi:i < 32
 ·simp [hi]
 ·have:x.testBit i=false:=by
   apply Nat.testBit_lt_two_pow
   have:2 ^ 32<=2 ^ i:=Nat.pow_le_pow_right (by omega) (by omega)
   omega
  simp [hi,this]
theorem yN (s:ByteArray) (hs:s.size<=1000000):kR s=some ((iP s:Nat):Int):=by
 unfold kR
 have hL:=uJ (nE s)
 refine dX (λi=>(((pL ((sbs s).take i):Nat):Int),(i:Int))) s.size ((pL (sbs s):Nat):Int) rfl ?_ ?_ ?_
 ·intro i hi
  have hi2:i < (sbs s).length:=by rw [aV]; exact hi
  have hb:=nE s _ (List.getElem_mem hi2)
  have hn:(sbs s)[i]=(((sbs s)[i].toNat:Nat):Int):=by omega
  dsimp only
  rw [decide_eq_true (by omega),cond_true,pC s i hi2,aA,oZ _ _ hi2]
  have hx:Go.bits .xor .i64 ((pL ((sbs s).take i):Nat):Int) (IntKind.i64.wrap (sbs s)[i])=((pL ((sbs s).take i) ^^^ (sbs s)[i].toNat:Nat):Int):=by
   rw [w64 (by omega) (by omega)]
   conv=>lhs; rw [hn]
   exact DZ (hL i) (by omega)
  rw [hx,FI (oY (hL i) (by omega)),aA,w64 (by omega) (by omega)]
  rfl
 ·dsimp only
  rw [decide_eq_false (by omega),cond_false,List.take_of_length_le (by rw [aV]; exact Nat.le_refl _)]
 ·have h:=hL (sbs s).length
  rw [List.take_length] at h
  unfold iP
  rw [Bl h,w64 (by omega) (by omega)]
  congr 1
  omega
theorem uK (l:List Int) (s:ByteArray):dL l++s=dL (l++sbs s):=by
 rw [dG,nU]
theorem sJ (s:ByteArray) (hs:s.size<=1000000):ju s=some (dL (cF s.size++sbs s)):=by
 unfold ju
 have h:=cG (s.size:Int)
 rw [iB,aA,dW (by rw [bP]; omega),aA,uK]
theorem v8 (s:aM) (h:SW s) (hp:(s.rows.flatMap fu).length<=1000000):gF (fB s)=some (iV s):=by
 unfold gF iV
 have hc:((Option.bind (gN (fB s)) λd=>(bif d then some true else (Option.bind (jf (fB s)) λe=>some (!e)))):Option Bool)=some (gO s || !mR s):=by
  rw [tW,aA,AW s h,aA]
  cases gO s <;> cases mR s <;> rfl
 rw [hc,aA]
 by_cases hb:gO s=true\/mR s=false
 ·rw [if_pos hb]
  have:(gO s || !mR s)=true:=by
   rcases hb with hb | hb <;> simp [hb]
  rw [this,cond_true]
  rfl
 ·rw [if_neg hb]
  have hne:gO s=false:=by cases he:gO s with | true=>exact absurd (.inl he) hb | false=>rfl
  have hm:mR s=true:=by cases he:mR s with | false=>exact absurd (.inr he) hb | true=>rfl
  rw [hne,hm]
  have hpl:=qG s h
  have htl:=h.tl
  have hph:(ma s).length=([s.k,s.w,s.h,s.x,s.y].flatMap cF).length+((cF s.title.size++sbs s.title).length+(([s.len,s.chain].flatMap cF).length+(lx s.begun).length)):=by
   unfold ma
   rw [List.length_append,List.length_append,List.length_append]
   omega
  have hnum: ∀ L:List Int,L.length<=10->iter (σ:=Int×ByteArray) (ρ:=ByteArray) (λb=>(bif (decide (b.1 < (L.length:Int))) then (Option.bind (idx L b.1) λf=>(Option.bind (cC f) λc=>(Option.bind (chk (kH b.2.size c.size)) λ_=>some (.inl ((IntKind.i64.wrap (b.1+1)),(b.2++c)))))) else some (.inr b.2))) (0,(ByteArray.mk #[]))=some (dL (L.flatMap cF)):=by
   intro L hL
   have hlen: ∀ (M:List Int),(M.flatMap cF).length<=9*M.length:=by
    intro M
    induction M with
    | nil=>simp
    | cons a M ih =>
     rw [List.flatMap_cons,List.length_append,List.length_cons]
     have:=cG a
     omega
   refine px (λi=>((i:Int),dL ((L.take i).flatMap cF))) L.length _ ?_ ?_
   ·intro i hi
    have h2:=hlen (L.take i)
    rw [List.length_take] at h2
    have h3:=cG L[i]
    dsimp only
    rw [decide_eq_true (by omega),cond_true,bL _ _ hi,aA,iB,aA,dW (by rw [bP,bP]; omega),aA,<- dG,w64 (by omega) (by omega),List.take_succ_eq_append_getElem hi,List.flatMap_append,List.flatMap_singleton]
    rfl
   ·dsimp only
    rw [decide_eq_false (by omega),cond_false,List.take_length]
  have hn2:[s.len,s.chain].flatMap cF=cF s.len++cF s.chain:=by simp
  have hl1:=cG s.len
  have hl2:=cG s.chain
  have ht:(cF s.title.size++sbs s.title).length<=12009:=by
   rw [List.length_append,aV]
   have:=cG (s.title.size:Int)
   omega
  dsimp only
  rw [Bool.not_true,Bool.or_false,cond_false,hnum _ (by simp),aA,sJ _ (by omega),aA,iB,aA,dW (by rw [bP,bP]; omega),aA,iB,aA,<- dG,dW (by rw [bP,bP,List.length_append]; omega),aA,zM _ h.bl,aA,<- dG,dW (by rw [bP,bP,List.length_append,List.length_append]; omega),aA,<- dG,dW (by rw [bP,bP,List.length_append,List.length_append,List.length_append]; omega),aA,<- dG]
  have hhead:[s.k,s.w,s.h,s.x,s.y].flatMap cF++(((cF s.title.size++sbs s.title)++cF s.len++cF s.chain)++lx s.begun)=ma s:=by
   unfold ma
   rw [hn2]
   simp only [List.append_assoc]
  rw [hhead]
  refine dX (λi=>(dL (ma s++(s.rows.take i).flatMap fu),(i:Int))) s.rows.length (dL (q9 s)) (by simp) ?_ ?_ rfl
  ·intro i hi
   have hro:=h.ro _ (List.getElem_mem hi)
   have hl1:=yF s.rows (i+1)
   rw [List.take_succ_eq_append_getElem hi,List.flatMap_append,List.flatMap_singleton,List.length_append] at hl1
   have hrl:=h.rl
   have hi2:i < (s.rows.map told).length:=by rw [List.length_map]; exact hi
   dsimp only
   rw [List.length_map,decide_eq_true (by omega),cond_true,bL _ _ hi2,aA,List.getElem_map,vU _ hro.2,aA,dW (by rw [bP,bP,List.length_append]; omega),aA,<- dG,w64 (by omega) (by omega),List.take_succ_eq_append_getElem hi,List.flatMap_append,List.flatMap_singleton,List.append_assoc]
   rfl
  ·dsimp only
   rw [List.length_map,decide_eq_false (by omega),cond_false,List.take_length]
   rfl
theorem sK {s:aM} (h:SW s) (hp:(s.rows.flatMap fu).length<=12000):(iV s).size<=72000:=by
 unfold iV
 split
 ·exact Nat.zero_le _
 ·have:=qG s h
  rw [bP]
  unfold q9
  rw [List.length_append]
  omega
theorem rJ (s:ByteArray):iP s < 4294967296:=by
 unfold iP
 have h:=uJ (nE s) (sbs s).length
 rw [List.take_length] at h
 exact oY (by decide) h
theorem CZ (s:aM) (h:SW s) (hp:(s.rows.flatMap fu).length<=12000):iH s=some ((iP (iV s):Nat):Int):=by
 unfold iH
 have h1:=sK h hp
 have h2:=rJ (iV s)
 rw [yG s h (by omega),aA,xL _ (by omega),aA,w64 (by omega) (by omega)]
theorem Bm (s:aM) (h:SW s) (hp:(s.rows.flatMap fu).length<=12000):lh (fB s)=some ((iP (iV s):Nat):Int):=by
 unfold lh
 have h1:=sK h hp
 rw [v8 s h (by omega),aA,yN _ (by omega),aA]
end Go.Tw.X
set_option maxHeartbeats 1000000
namespace Go.Tw.X
open Go Go.Tw
def re (n:Nat):List Int:=[((n % 256:Nat):Int),((n / 256 % 256:Nat):Int),((n / 65536 % 256:Nat):Int),((n / 16777216 % 256:Nat):Int)]
theorem uL (n:Nat):BB (re n):=λb hb=>by
 simp only [re,List.mem_cons,List.not_mem_nil,or_false] at hb
 rcases hb with rfl | rfl | rfl | rfl <;> omega
theorem w8 (n:Nat):IntKind.u8.wrap (n:Int)=((n % 256:Nat):Int):=by
 show (n:Int) % 256=_
 omega
theorem fdN (n k:Nat):((n:Int)).fdiv ((k:Int))=((n / k:Nat):Int):=by
 rw [Int.fdiv_eq_ediv_of_nonneg _ (by omega)]
 rfl
theorem yO {n:Nat} (h:n < 4294967296):kN (n:Int)=some (dL (re n)):=by
 unfold kN re
 rw [show ((2:Int) ^ (min 8 32))=((256:Nat):Int) from rfl,show ((2:Int) ^ (min 16 32))=((65536:Nat):Int) from rfl,show ((2:Int) ^ (min 24 32))=((16777216:Nat):Int) from rfl,fdN,fdN,fdN,w8,w8,w8,w8]
def na (s:ByteArray):ByteArray:=s++dL (re (iP s))
theorem pM (s:ByteArray):sbs (na s)=sbs s++re (iP s):=by
 unfold na
 rw [xD,kA _ (uL _)]
theorem ou (s:ByteArray):(na s).size=s.size+4:=by
 rw [<- aV,pM,List.length_append,aV]
 rfl
theorem C9 {s:ByteArray} (h:s.size<=900000):kO s=some (na s):=by
 unfold kO
 rw [xL s (by omega),aA,yO (rJ s),aA,dW (by rw [bP]; simp [re]; omega),aA]
 rfl
theorem v9 {s:ByteArray} (h:s.size<=900000):jv s=some (na s):=by
 unfold jv
 have hl:=rJ s
 rw [yN s (by omega),aA]
 have e1:IntKind.u8.wrap ((((iP s:Nat):Int)).tmod 256)=((iP s % 256:Nat):Int):=by
  rw [show (((iP s:Nat):Int)).tmod 256=((iP s % 256:Nat):Int) from rfl,w8]
  omega
 have e2:IntKind.u8.wrap ((IntKind.i64.wrap ((((iP s:Nat):Int)).tdiv 256)).tmod 256)=((iP s / 256 % 256:Nat):Int):=by
  rw [show (((iP s:Nat):Int)).tdiv 256=((iP s / 256:Nat):Int) from rfl,w64 (by omega) (by omega),show (((iP s / 256:Nat):Int)).tmod 256=((iP s / 256 % 256:Nat):Int) from rfl,w8]
  omega
 have e3:IntKind.u8.wrap ((IntKind.i64.wrap ((((iP s:Nat):Int)).tdiv 65536)).tmod 256)=((iP s / 65536 % 256:Nat):Int):=by
  rw [show (((iP s:Nat):Int)).tdiv 65536=((iP s / 65536:Nat):Int) from rfl,w64 (by omega) (by omega),show (((iP s / 65536:Nat):Int)).tmod 256=((iP s / 65536 % 256:Nat):Int) from rfl,w8]
  omega
 have e4:IntKind.u8.wrap (IntKind.i64.wrap ((((iP s:Nat):Int)).tdiv 16777216))=((iP s / 16777216 % 256:Nat):Int):=by
  rw [show (((iP s:Nat):Int)).tdiv 16777216=((iP s / 16777216:Nat):Int) from rfl,w64 (by omega) (by omega),w8]
 rw [e1,e2,e3,e4]
 rw [dW (by rw [bP]; simp; omega),aA]
 rfl
def jD (s:ByteArray):ByteArray:=gn s 0 ((s.size - 4:Nat):Int)
def nK (s:ByteArray):Bool:=decide (4<=s.size/\na (jD s)=s)
def pN (s:ByteArray):ByteArray×Bool:=if nK s=true then (jD s,true) else (noS,false)
theorem rK (s:ByteArray):sbs (jD s)=(sbs s).take (s.size - 4):=by
 unfold jD
 have:=ib s 0 (s.size - 4)
 simpa using this
theorem kC {s:ByteArray} (h:4<=s.size):(jD s).size=s.size - 4:=by
 rw [<- aV,rK,List.length_take,aV]
 omega
theorem Bn {s:ByteArray} (h:s.size<=800000):ku s=some (pN s):=by
 unfold ku pN nK
 by_cases c:(s.size:Int) < 4
 ·rw [decide_eq_true c,cond_true,aA,cond_true,decide_eq_false (by omega),if_neg (by simp)]
  rfl
 ·have e:IntKind.i64.wrap ((s.size:Int) - 4)=((s.size - 4:Nat):Int):=by rw [w64 (by omega) (by omega)]; omega
  have hf:=kC (s:=s) (by omega)
  rw [decide_eq_false c,cond_false,e,dI (by omega) (by omega) (by omega),aA,show gn s 0 ((s.size - 4:Nat):Int)=jD s from rfl,v9 (by omega),aA,lQ,aA]
  by_cases d:na (jD s)=s
  ·rw [decide_eq_true d,Bool.not_true,cond_false,aA,decide_eq_true ⟨by omega,d⟩,if_pos rfl]
  ·rw [decide_eq_false d,Bool.not_false,cond_true,decide_eq_false (λh=>d h.2),if_neg (by simp)]
   rfl
theorem Dc {s:ByteArray} (h:s.size<=800000):l0 s=some (pN s):=by
 unfold l0 pN nK
 by_cases c:(s.size:Int) < 4
 ·have e:IntKind.i64.wrap ((s.size:Int) - 4)=(s.size:Int) - 4:=w64 (by omega) (by omega)
  rw [e,decide_eq_true (by omega),cond_true,aA,cond_true,decide_eq_false (by omega),if_neg (by simp)]
  rfl
 ·have e:IntKind.i64.wrap ((s.size:Int) - 4)=((s.size - 4:Nat):Int):=by rw [w64 (by omega) (by omega)]; omega
  have hf:=kC (s:=s) (by omega)
  rw [e,decide_eq_false (by omega),cond_false,dI (by omega) (by omega) (by omega),aA,dI (by omega) (by omega) (by omega),aA,show gn s 0 ((s.size - 4:Nat):Int)=jD s from rfl,xL _ (by omega),aA,yO (rJ _),aA,lQ,aA]
  have hd:sbs (gn s ((s.size - 4:Nat):Int) (s.size:Int))=(sbs s).drop (s.size - 4):=by
   rw [ib,List.take_of_length_le (by rw [aV]; omega)]
  have key:(gn s ((s.size - 4:Nat):Int) (s.size:Int)=dL (re (iP (jD s))))↔na (jD s)=s:=by
   constructor
   ·intro q
    apply oo
    rw [pM,rK]
    have q2:=congrArg sbs q
    rw [hd,kA _ (uL _)] at q2
    rw [<- q2,List.take_append_drop]
   ·intro q
    apply oo
    have q2:=congrArg sbs q
    rw [pM,rK] at q2
    rw [hd,kA _ (uL _)]
    exact (List.append_cancel_left (q2.trans (List.take_append_drop (s.size - 4) (sbs s)).symm)).symm
  by_cases d:na (jD s)=s
  ·rw [decide_eq_true (key.2 d),Bool.not_true,cond_false,aA,decide_eq_true ⟨by omega,d⟩,if_pos rfl]
  ·rw [decide_eq_false (λh=>d (key.1 h)),Bool.not_false,cond_true,decide_eq_false (λh=>d h.2),if_neg (by simp)]
   rfl
theorem zP (s:ByteArray):pN (na s)=(s,true):=by
 have h1:=ou s
 have h2:jD (na s)=s:=by
  apply oo
  rw [rK,pM,h1,Nat.add_sub_cancel,<- aV]
  simp
 unfold pN nK
 rw [decide_eq_true ⟨by omega,by rw [h2]⟩,if_pos rfl,h2]
theorem sL (s:aM) (y:Nat) (h:y < s.rows.length):gf s (y:Int)=some (s.rows[y],true):=by
 unfold gf
 rw [decide_eq_false (show ¬ ((y:Int) < 0) by omega),cond_false,aA,decide_eq_false (show ¬ ((y:Int)>=(s.rows.length:Int)) by omega),cond_false,bL _ _ h,aA]
theorem uc (s:aM) (y:Nat) (h: ¬ y < s.rows.length):gf s (y:Int)=some (sA,false):=by
 unfold gf
 rw [decide_eq_false (show ¬ ((y:Int) < 0) by omega),cond_false,aA,decide_eq_true (show ((y:Int)>=(s.rows.length:Int)) by omega),cond_true]
 rfl
theorem wc (r q:aT) (h:r.cells.length<=1000000):gG (told r) (told q)=some (decide (r=q)):=by
 unfold gG
 have hw:(!((told r).wrapped == (told q).wrapped)) = !decide (r.wrapped=q.wrapped):=by
  show (!(r.wrapped == q.wrapped))=_
  cases r.wrapped <;> cases q.wrapped <;> rfl
 have hl:(((told r).l.length:Int) != ((told q).l.length:Int)) = !decide (r.cells.length=q.cells.length):=by
  show (((r.cells.map tc).length:Int) != ((q.cells.map tc).length:Int))=_
  rw [eX,eX]
  by_cases he:r.cells.length=q.cells.length
  ·simp [he]
  ·have: ¬ ((r.cells.length:Int)=(q.cells.length:Int)):=by omega
   simp [he,this]
 rw [hw,hl]
 by_cases h1:r.wrapped=q.wrapped
 ·rw [decide_eq_true h1,Bool.not_true,cond_false,aA]
  by_cases h2:r.cells.length=q.cells.length
  ·rw [decide_eq_true h2,Bool.not_true,cond_false]
   have:=qJ r.cells q.cells h2 (λa=>(bif (decide (a < ((told r).l.length:Int))) then (Option.bind (idx (told r).l a) λb=>(Option.bind (idx (told q).l a) λc=>(bif (!((b.rune == c.rune) && ((b.bO == c.bO) && ((b.part == c.part) && true)))) then (eV (some false)) else some (.inl (IntKind.i64.wrap (a+1)))))) else some (.inr (.inl ())))) (by
    intro n h1 h2
    have l1:(told r).l.length=r.cells.length:=eX _
    have l2:(told q).l.length=q.cells.length:=eX _
    rw [decide_eq_true (show (n:Int) < ((told r).l.length:Int) by omega),cond_true,bL _ _ (by omega),aA,bL _ _ (by omega),aA]
    have g1:(told r).l[n]'(by omega)=tc r.cells[n]:=List.getElem_map ..
    have g2:(told q).l[n]'(by omega)=tc q.cells[n]:=List.getElem_map ..
    rw [g1,g2]
    have:=lq r.cells[n] q.cells[n]
    show (bif !(((r.cells[n]).rune == (q.cells[n]).rune) && (((r.cells[n]).bO == (q.cells[n]).bO) && (((r.cells[n]).part == (q.cells[n]).part) && true))) then _ else _)=_
    rw [this]
    by_cases he:r.cells[n]=q.cells[n]
    ·rw [decide_eq_true he,if_pos he,Bool.not_true,cond_false,w64 (by omega) (by omega)]
     rfl
    ·rw [decide_eq_false he,if_neg he,Bool.not_false,cond_true]
     rfl) (by
    have l1:(told r).l.length=r.cells.length:=eX _
    rw [decide_eq_false (by omega),cond_false])
   rw [this,aA]
   by_cases he:r.cells=q.cells
   ·rw [if_pos he]
    have:r=q:=by cases r; cases q; simp_all
    rw [decide_eq_true this]
   ·rw [if_neg he]
    have: ¬ r=q:=λhh=>he (by rw [hh])
    rw [decide_eq_false this]
  ·have: ¬ r=q:=λhh=>h2 (by rw [hh])
   rw [decide_eq_false h2,decide_eq_false this]
   rfl
 ·have: ¬ r=q:=λhh=>h1 (by rw [hh])
  rw [decide_eq_false h1,decide_eq_false this]
  rfl
def nY (s:aM):Bool:=gO s || !mR s
theorem ov {s:aM}:(iV s=noS)↔nY s=true:=by
 unfold iV nY
 constructor
 ·intro h
  split at h
  ·rename_i hb
   rcases hb with hb | hb <;> simp [hb]
  ·exact absurd h (Bh s)
 ·intro h
  rw [if_pos]
  simpa using h
theorem Bo (s:aM) (h:SW s) (hp:(s.rows.flatMap fu).length<=1000000):jd s=some (!nY s):=by
 unfold jd
 rw [yG s h hp,aA]
 have e:((iV s).toList == (ByteArray.mk #[]).toList)=decide (iV s=noS):=lQ _ noS
 rw [e]
 cases hb:nY s with
 | true=>rw [decide_eq_true (ov.2 hb)]
 | false=>rw [decide_eq_false (λhh=>by rw [ov.1 hh] at hb; cases hb)]
def zA (s:ByteArray):=rdS ⟨s,0⟩
def zB (s:ByteArray):=rdS (zA s).2
def zC (s:ByteArray):=bU (zB s).2 1000
def zD (s:ByteArray):=bU (zC s).2 1000
def zE (s:ByteArray):=rdS (zD s).2
def zF (s:ByteArray):=rdS (zE s).2
def zT (s:ByteArray):=ly (zF s).2
def zG (s:ByteArray):=rdS (zT s).2
def zH (s:ByteArray):=rdS (zG s).2
def zK (s:ByteArray):=bkS (zH s).2
def zN (s:ByteArray):=rdS (zK s).2
def zS (s:ByteArray):aM:=⟨(zB s).1,(zC s).1,(zD s).1,(zE s).1,(zF s).1,(zT s).1,[],(zG s).1,(zH s).1,(zK s).1⟩
def rh (j:aD):aD:=if j.e=0 then iO else j
theorem Bp {j:aD} (h:VI j):VI (rh j):=by
 unfold rh
 split
 ·exact l9
 ·exact h
theorem Dd (j:aD):(rh j).e≠0:=by
 unfold rh
 split
 ·decide
 ·assumption
def dlI (h:Int) (i:aD) (last:Int):aD:=if (rdS i).1<=last\/(rdS i).1>=h then rh (rdS i).2 else (rdS i).2
def dlL:Nat->Int->Int->aD->Int->List (Int×aT)->List (Int×aT)×aD
 | 0,_,_,i,_,l=>(l,i)
 | k+1,w,h,i,last,l=>if i.e=0 then dlL k w h (gQ (dlI h i last) w).2 (rdS i).1 (l++[((rdS i).1,(gQ (dlI h i last) w).1)]) else (l,i)
def zR (s:ByteArray):=dlL (zN s).1.toNat (zC s).1 (zD s).1 (zN s).2 (-1) []
theorem kD {h:Int} {i:aD} {last:Int} (hV:VI i):VI (dlI h i last):=by
 unfold dlI
 split
 ·exact Bp (eZ hV)
 ·exact eZ hV
theorem xM {h:Int} {i:aD} {last:Int} (he:(dlI h i last).e=0):last < (rdS i).1/\(rdS i).1 < h/\dlI h i last=(rdS i).2:=by
 unfold dlI at he ⊢
 split at he
 ·exact absurd he (Dd _)
 ·rename_i hc
  rw [if_neg hc]
  exact ⟨by omega,by omega,rfl⟩
theorem pO (k:Nat) (w h:Int) (i:aD) (last:Int) (l:List (Int×aT)) (he:i.e≠0):dlL k w h i last l=(l,i):=by
 cases k with
 | zero=>rfl
 | succ k=>unfold dlL; rw [if_neg he]
theorem uM {i:aD} {w:Int} (hV:VI i) (he:(gQ i w).2.e=0):i.e=0:=by
 unfold gQ at he
 have h1:(rrS (w.toNat+1) w (bU i 1).2 []).2.e=0:=by
  split at he
  ·exact he
  ·exact he
 have h2:=vQ _ _ _ _ h1
 exact (jB h2 hV).1
theorem D3: ∀ (k:Nat) (w h:Int) (i:aD) (last:Int) (l:List (Int×aT)),(dlL k w h i last l).2.e=0->i.e=0
 | 0,w,h,i,last,l,he=>he
 | k+1,w,h,i,last,l,he=>by
  unfold dlL at he
  split at he
  ·assumption
  ·exact he
theorem Bq: ∀ (k:Nat) (w h:Int) (i:aD) (last:Int) (l:List (Int×aT)),VI i->VI (dlL k w h i last l).2
 | 0,w,h,i,last,l,hV=>hV
 | k+1,w,h,i,last,l,hV=>by
  unfold dlL
  split
  ·exact Bq k w h _ _ _ (pG (kD hV))
  ·exact hV
theorem uN {α:Type} (k:Int) (x:α): ∀ l:List (Int×α),(∀ p∈l,p.1≠k)->msl k x l=l++[(k,x)]
 | [],_=>rfl
 | (j,y)::l,h=>by
  have h1:k≠j:=λe=>h (j,y) (by simp) e.symm
  simp only [msl,if_neg h1,List.cons_append]
  rw [uN k x l λp hp=>h p (by simp [hp])]
theorem xN (sum:Int) (x:aM) (hx:x.rows=[]) (hw:x.w<=1000) (f:bN×aD×Int×Int->Option ((bN×aD×Int×Int) ⊕ (aD×bN))) (hf:f=(λa=>(Option.bind ((bif (decide (a.2.2.2 > 0)) then (Option.bind (cT a.2.1) λg=>some (g == 0)) else some false):Option Bool) λj=>(bif j then (Option.bind (bJ a.2.1) λb=>(Option.bind ((bif (decide (b.1<=a.2.2.1)) then some true else some (decide (b.1>=a.1.to.h))):Option Bool) λm=>(Option.bind ((bif m then (Option.bind (bM b.2 1) λc=>some c) else some b.2):Option aD) λn=>(Option.bind (g0 n a.1.to.w) λd=>(Option.bind (chk a.1.rows.isSome) λ_=>some (.inl ((bN.mk a.1.sum (aM.mk a.1.to.k a.1.to.w a.1.to.h a.1.to.x a.1.to.y a.1.to.title ([]:List aT) a.1.to.len a.1.to.chain a.1.to.begun) (zo a.1.rows b.1 d.1)),d.2,b.1,(IntKind.i64.wrap (a.2.2.2 - 1))))))))) else some (.inr (a.2.1,(bN.mk a.1.sum (aM.mk a.1.to.k a.1.to.w a.1.to.h a.1.to.x a.1.to.y a.1.to.title ([]:List aT) a.1.to.len a.1.to.chain a.1.to.begun) a.1.rows)))))) ) :
  ∀ (k:Nat) (i:aD) (last:Int) (l l':List (Int×aT)),k<=4611686018427387904->VI i->(i.e=0->l'=l /\ ∀ p∈l,p.1<=last) ->
  ∃ m',iter f (⟨sum,x,some l'⟩,i,last,(k:Int))=some ((dlL k x.w x.h i last l).2,⟨sum,x,some m'⟩)/\((dlL k x.w x.h i last l).2.e=0->m'=(dlL k x.w x.h i last l).1):=by
 have hx2:aM.mk x.k x.w x.h x.x x.y x.title ([]:List aT) x.len x.chain x.begun=x:=by
  obtain ⟨⟩:=x
  dsimp only at hx
  subst hx
  rfl
 intro k
 induction k with
 | zero =>
  intro i last l l' hk hV hl
  refine ⟨l',bA ?_,λhe=>(hl he).1⟩
  subst hf
  dsimp only
  rw [decide_eq_false (by omega),cond_false,aA,cond_false,hx2]
  rfl
 | succ k ih =>
  intro i last l l' hk hV hl
  by_cases he:i.e=0
  ·obtain ⟨rfl,hlast⟩:=hl he
   have hrr:=jP hV
   have hstep:f (⟨sum,x,some l'⟩,i,last,((k+1:Nat):Int))=some (.inl (⟨sum,x,some (msl (rdS i).1 (gQ (dlI x.h i last) x.w).1 l')⟩,(gQ (dlI x.h i last) x.w).2,(rdS i).1,(k:Int))):=by
    subst hf
    dsimp only
    have e1:cT i=some i.e:=rfl
    have e2:(i.e == 0)=true:=by simpa using he
    have e3:((bif (decide ((rdS i).1<=last)) then some true else some (decide ((rdS i).1>=x.h))):Option Bool)=some (decide ((rdS i).1<=last\/(rdS i).1>=x.h)):=or2 _ _
    have e4:((bif (decide ((rdS i).1<=last\/(rdS i).1>=x.h)) then (Option.bind (bM (rdS i).2 1) λc=>some c) else some (rdS i).2):Option aD)=some (dlI x.h i last):=by
     unfold dlI
     by_cases hc:(rdS i).1<=last\/(rdS i).1>=x.h
     ·rw [decide_eq_true hc,cond_true,if_pos hc,pD (eZ hV)]
      rfl
     ·rw [decide_eq_false hc,cond_false,if_neg hc]
    rw [decide_eq_true (by omega),cond_true,e1,aA,e2,aA,cond_true,iN _ hV,aA,e3,aA,e4,aA,xE _ _ (kD hV) hw,aA,hx2,w64 (by omega) (by omega)]
    have e5:((k+1:Nat):Int) - 1=(k:Int):=by omega
    rw [e5]
    rfl
   have hnew:(gQ (dlI x.h i last) x.w).2.e=0->msl (rdS i).1 (gQ (dlI x.h i last) x.w).1 l'=l'++[((rdS i).1,(gQ (dlI x.h i last) x.w).1)] /\ ∀ p∈l'++[((rdS i).1,(gQ (dlI x.h i last) x.w).1)],p.1<=(rdS i).1:=by
    intro h0
    obtain ⟨h2,h3, -⟩:=xM (uM (kD hV) h0)
    refine ⟨uN _ _ _ λp hp e=> ?_,λp hp=> ?_⟩
    ·have:=hlast p hp
     omega
    ·rcases List.mem_append.1 hp with hp | hp
     ·have:=hlast p hp
      omega
     ·rw [List.mem_singleton.1 hp]
      exact Int.le_refl _
   obtain ⟨m',h1,h2⟩:=ih (gQ (dlI x.h i last) x.w).2 (rdS i).1 (l'++[((rdS i).1,(gQ (dlI x.h i last) x.w).1)]) (msl (rdS i).1 (gQ (dlI x.h i last) x.w).1 l') (by omega) (pG (kD hV)) hnew
   have hd:dlL (k+1) x.w x.h i last l'=dlL k x.w x.h (gQ (dlI x.h i last) x.w).2 (rdS i).1 (l'++[((rdS i).1,(gQ (dlI x.h i last) x.w).1)]):=by
    conv=>lhs; unfold dlL
    rw [if_pos he]
   rw [hd]
   exact ⟨m',by rw [bZ hstep,h1],h2⟩
  ·rw [pO _ _ _ _ _ _ he]
   refine ⟨l',bA ?_,λh=>absurd h he⟩
   subst hf
   dsimp only
   have e1:cT i=some i.e:=rfl
   have e2:(i.e == 0)=false:=by simpa using he
   rw [decide_eq_true (by omega),cond_true,e1,aA,e2,aA,cond_false,hx2]
theorem we {i:aD} (h:VI i):iy i=some (bU i 1000):=size_eq h
theorem Br (s:ByteArray) (h:s.size<=1000000): ∃ m',kp s=some (⟨(zA s).1,zS s,some m'⟩,jk (zR s).2)/\((zR s).2.e=0->m'=(zR s).1):=by
 have v0:VI (⟨s,0⟩:aD):=⟨h,.inl rfl⟩
 have vA:VI (zA s).2:=eZ v0
 have vB:VI (zB s).2:=eZ vA
 have vC:VI (zC s).2:=fr _ vB
 have vD:VI (zD s).2:=fr _ vC
 have vE:VI (zE s).2:=eZ vD
 have vF:VI (zF s).2:=eZ vE
 have vT:VI (zT s).2:=qH vF
 have vG:VI (zG s).2:=eZ vT
 have vH:VI (zH s).2:=eZ vG
 have vK:VI (zK s).2:=qI vH
 have vN:VI (zN s).2:=eZ vK
 have hn:=jP vK
 have hw:(zS s).w<=1000:=(fU (m:=1000) vB (by omega)).2
 obtain ⟨N,hN⟩:=Int.eq_ofNat_of_zero_le (show 0<=(zN s).1 from hn.1)
 have hN2:N<=4611686018427387904:=by have:(zN s).1<=4611686018427387904:=hn.2; omega
 obtain ⟨m',h1,h2⟩:=xN (zA s).1 (zS s) rfl hw _ rfl N (zN s).2 (-1) [] [] hN2 vN (λ_=>⟨rfl,λp hp=>by cases hp⟩)
 have hR:zR s=dlL N (zS s).w (zS s).h (zN s).2 (-1) []:=by
  unfold zR
  rw [hN,Int.toNat_natCast]
  rfl
 rw [<- hR] at h1 h2
 refine ⟨m',?_,h2⟩
 unfold kp
 have e0:kl s=some ⟨s,0⟩:=rfl
 have e1:bJ ⟨s,0⟩=some (zA s):=iN _ v0
 have e2:bJ (zA s).2=some (zB s):=iN _ vA
 have e3:iy (zB s).2=some (zC s):=we vB
 have e4:iy (zC s).2=some (zD s):=we vC
 have e5:bJ (zD s).2=some (zE s):=iN _ vD
 have e6:bJ (zE s).2=some (zF s):=iN _ vE
 have e7:gJ (zF s).2=some (zT s):=yI _ vF
 have e8:bJ (zT s).2=some (zG s):=iN _ vT
 have e9:bJ (zG s).2=some (zH s):=iN _ vG
 have e10:ik (zH s).2=some (zK s):=vY _ vH
 have e11:bJ (zK s).2=some (zN s):=iN _ vK
 rw [e0,aA,e1,aA,e2,aA,e3,aA,e4,aA,e5,aA,e6,aA,e7,aA,e8,aA,e9,aA,e10,aA,e11,aA]
 have hS:aM.mk (zB s).1 (zC s).1 (zD s).1 (zE s).1 (zF s).1 (zT s).1 ([]:List aT) (zG s).1 (zH s).1 (zK s).1=zS s:=rfl
 rw [hS,hN,h1,aA,uH,aA]
 rfl
def gR (A:List aT) (l:List (Int×aT)):Nat->Nat->List aT->Option (List aT)
 | 0,_,acc=>some acc
 | k+1,y,acc=>match mgl (y:Int) l,A[y]? with
  | some r,some q=>if q=r then none else gR A l k (y+1) (acc++[r])
  | some r,none=>gR A l k (y+1) (acc++[r])
  | none,some q=>gR A l k (y+1) (acc++[q])
  | none,none=>none
theorem xO (sum:Int) (x a:aM) (l:List (Int×aT)) (H:Nat) (hH:H<=1000) (hh:x.h=(H:Int)) (ha: ∀ r∈a.rows,r.cells.length<=1000000) (f:bN×Int->Option ((bN×Int) ⊕ (bN ⊕ (Bool×bN)))) (hf:f=(λb=>(bif (decide (b.2 < x.h)) then (Option.bind (gf a b.2) λc=>(Option.bind ((Option.bind ((bif (kL b.1.rows b.2) then (bif c.2 then (Option.bind (gX c.1 (mgd b.1.rows b.2 (aT.mk ([]:List aL) false))) λe=>some e) else some false) else some false):Option Bool) λd=>(Option.bind ((bif d then some d else (bif (!(kL b.1.rows b.2)) then some (!c.2) else some false)):Option Bool) λg=>(bif g then (mj (eV (some (false,(bN.mk b.1.sum (aM.mk b.1.to.k b.1.to.w b.1.to.h b.1.to.x b.1.to.y b.1.to.title b.1.to.rows b.1.to.len b.1.to.chain b.1.to.begun) b.1.rows))))) else (bif (!(kL b.1.rows b.2)) then some (.inl c.1) else some (.inl (mgd b.1.rows b.2 (aT.mk ([]:List aL) false))))))):Option (aT ⊕ ((bN×Int) ⊕ (bN ⊕ (Bool×bN))))) λ | .inl e1033=>(Option.bind (chk (dF b.1.to.rows.length [e1033].length 32)) λ_=>some (.inl ((bN.mk b.1.sum (aM.mk b.1.to.k b.1.to.w b.1.to.h b.1.to.x b.1.to.y b.1.to.title (b.1.to.rows++[e1033]) b.1.to.len b.1.to.chain b.1.to.begun) b.1.rows),(IntKind.i64.wrap (b.2+1))))) | .inr w=>some w)) else some (.inr (.inl (bN.mk b.1.sum (aM.mk b.1.to.k b.1.to.w b.1.to.h b.1.to.x b.1.to.y b.1.to.title b.1.to.rows b.1.to.len b.1.to.chain b.1.to.begun) b.1.rows))))) ) :
  ∀ (k y:Nat) (acc:List aT),y+k=H->acc.length=y ->
  (∀ out,gR a.rows l k y acc=some out->iter f (⟨sum,iX x acc,some l⟩,(y:Int))=some (.inl ⟨sum,iX x out,some l⟩))/\(gR a.rows l k y acc=none -> ∃ p',iter f (⟨sum,iX x acc,some l⟩,(y:Int))=some (.inr (false,p'))):=by
 intro k
 induction k with
 | zero =>
  intro y acc hy hl
  refine ⟨λout ho=> ?_,λho=>by cases ho⟩
  injection ho with ho
  subst ho
  refine bA ?_
  subst hf
  dsimp only
  rw [decide_eq_false (by omega),cond_false]
 | succ k ih =>
  intro y acc hy hl
  have hgo: ∀ r:aT,(∀ out,gR a.rows l k (y+1) (acc++[r])=some out->iter f (⟨sum,iX x (acc++[r]),some l⟩,((y+1:Nat):Int))=some (.inl ⟨sum,iX x out,some l⟩))/\(gR a.rows l k (y+1) (acc++[r])=none -> ∃ p',iter f (⟨sum,iX x (acc++[r]),some l⟩,((y+1:Nat):Int))=some (.inr (false,p'))):=λr=>ih (y+1) (acc++[r]) (by omega) (by simp [hl])
  have hap:chk (dF acc.length 1 32)=some ():=bW (by omega)
  have hwr:IntKind.i64.wrap ((y:Int)+1)=((y+1:Nat):Int):=by rw [w64 (by omega) (by omega)]; rfl
  -- a step that goes on with a row
  have hon: ∀ r:aT,f (⟨sum,iX x acc,some l⟩,(y:Int))=some (.inl (⟨sum,iX x (acc++[r]),some l⟩,((y+1:Nat):Int)))->gR a.rows l (k+1) y acc=gR a.rows l k (y+1) (acc++[r])->(∀ out,gR a.rows l (k+1) y acc=some out->iter f (⟨sum,iX x acc,some l⟩,(y:Int))=some (.inl ⟨sum,iX x out,some l⟩))/\(gR a.rows l (k+1) y acc=none -> ∃ p',iter f (⟨sum,iX x acc,some l⟩,(y:Int))=some (.inr (false,p'))):=by
   intro r h1 h2
   rw [h2,bZ h1]
   exact hgo r
  have hoff:(∃ p',f (⟨sum,iX x acc,some l⟩,(y:Int))=some (.inr (.inr (false,p'))))->gR a.rows l (k+1) y acc=none->(∀ out,gR a.rows l (k+1) y acc=some out->iter f (⟨sum,iX x acc,some l⟩,(y:Int))=some (.inl ⟨sum,iX x out,some l⟩))/\(gR a.rows l (k+1) y acc=none -> ∃ p',iter f (⟨sum,iX x acc,some l⟩,(y:Int))=some (.inr (false,p'))):=by
   rintro ⟨p',h1⟩ h2
   rw [h2]
   exact ⟨λout ho=>(by cases ho),λ_=>⟨p',bA h1⟩⟩
  have hd:decide ((y:Int) < x.h)=true:=decide_eq_true (by omega)
  cases hm:mgl (y:Int) l with
  | some r =>
   have m1:kL (some l) (y:Int)=true:=by simp [kL,hm]
   have m2: ∀ z,mgd (some l) (y:Int) z=r:=λz=>by simp [mgd,hm]
   by_cases hya:y < a.rows.length
   ·have e1:a.rows[y]?=some a.rows[y]:=List.getElem?_eq_getElem hya
    by_cases hq:a.rows[y]=r
    ·refine hoff ⟨⟨sum,iX x acc,some l⟩,?_⟩ (by simp only [gR,hm,e1,if_pos hq])
     subst hf
     dsimp only
     rw [hd,cond_true,sL a y hya,aA]
     dsimp only
     rw [m1,m2,cond_true,cond_true,yz _ _ (ha _ (List.getElem_mem hya)),decide_eq_true hq]
     rfl
    ·refine hon r ?_ (by simp only [gR,hm,e1,if_neg hq])
     subst hf
     dsimp only
     rw [hd,cond_true,sL a y hya,aA]
     dsimp only
     rw [m1,m2,cond_true,cond_true,yz _ _ (ha _ (List.getElem_mem hya)),decide_eq_false hq]
     show Option.bind (chk (dF acc.length 1 32)) _=_
     rw [hap,aA,hwr]
     rfl
   ·have e1:a.rows[y]?=none:=List.getElem?_eq_none (by omega)
    refine hon r ?_ (by simp only [gR,hm,e1])
    subst hf
    dsimp only
    rw [hd,cond_true,uc a y hya,aA]
    dsimp only
    rw [m1,m2]
    show Option.bind (chk (dF acc.length 1 32)) _=_
    rw [hap,aA,hwr]
    rfl
  | none =>
   have m1:kL (some l) (y:Int)=false:=by simp [kL,hm]
   by_cases hya:y < a.rows.length
   ·have e1:a.rows[y]?=some a.rows[y]:=List.getElem?_eq_getElem hya
    refine hon a.rows[y] ?_ (by simp only [gR,hm,e1])
    subst hf
    dsimp only
    rw [hd,cond_true,sL a y hya,aA]
    dsimp only
    rw [m1]
    show Option.bind (chk (dF acc.length 1 32)) _=_
    rw [hap,aA,hwr]
    rfl
   ·have e1:a.rows[y]?=none:=List.getElem?_eq_none (by omega)
    refine hoff ⟨⟨sum,iX x acc,some l⟩,?_⟩ (by simp only [gR,hm,e1])
    subst hf
    dsimp only
    rw [hd,cond_true,uc a y hya,aA]
    dsimp only
    rw [m1]
    rfl
def mb (a:aM) (s:ByteArray):aM×Int :=
 if mR a=false then (iJ,1)
 else if jk (zR s).2≠0 then (iJ,jk (zR s).2)
 else if (zA s).1≠((iP (iV a):Nat):Int) then (iJ,7)
 else match gR a.rows (zR s).1 (zD s).1.toNat 0 [] with
  | none=>(iJ,1)
  | some l=>if nY (iX (zS s) l) then (iJ,1) else (iX (zS s) l,0)
theorem ud {i:aD} (hV:VI i) (h:jk i=0):i.e=0/\i.s=noS:=by
 unfold jk at h
 split at h
 ·cases h
 ·rename_i h1
  exact ⟨h,Classical.not_not.1 h1⟩
theorem zVI {s:ByteArray} (h:s.size<=1000000):VI (zB s).2/\VI (zC s).2/\VI (zF s).2/\VI (zH s).2/\VI (zK s).2/\VI (zN s).2/\VI (zR s).2:=by
 have v0:VI (⟨s,0⟩:aD):=⟨h,.inl rfl⟩
 have vB:VI (zB s).2:=eZ (eZ v0)
 have vC:VI (zC s).2:=fr _ vB
 have vF:VI (zF s).2:=eZ (eZ (fr _ vC))
 have vH:VI (zH s).2:=eZ (eZ (qH vF))
 have vK:VI (zK s).2:=qI vH
 have vN:VI (zN s).2:=eZ vK
 exact ⟨vB,vC,vF,vH,vK,vN,Bq _ _ _ _ _ _ vN⟩
def prl (l:List (Int×aT)):List Int:=l.flatMap λp=>cF p.1++fu p.2
theorem De {i:aD} (hV:VI i) (h:(rdS i).2.e=0):i.e=0/\sbs i.s=cF (rdS i).1++sbs (rdS i).2.s:=by
 obtain ⟨h1,w,h2,h3,h4⟩:=tS h hV
 exact ⟨h1,by rw [h2,jj h3]; exact h4⟩
theorem ue: ∀ (k:Nat) (w h:Int) (i:aD) (last:Int) (l:List (Int×aT)),VI i->(dlL k w h i last l).2.e=0 -> ∃ D,prl (dlL k w h i last l).1=prl l++D/\sbs i.s=D++sbs (dlL k w h i last l).2.s
 | 0,w,h,i,last,l,hV,he=>⟨[],by simp [dlL],by simp [dlL]⟩
 | k+1,w,h,i,last,l,hV,he=>by
  have hi:=D3 _ _ _ _ _ _ he
  unfold dlL at he ⊢
  rw [if_pos hi] at he ⊢
  have h0:=D3 _ _ _ _ _ _ he
  have h1:=uM (kD hV) h0
  obtain ⟨h2,h3,h4⟩:=xM h1
  obtain ⟨D,d1,d2⟩:=ue k w h _ _ _ (pG (kD hV)) he
  have hr:(rdS i).2.e=0:=by rw [<- h4]; exact h1
  obtain ⟨-,h5⟩:=De hV hr
  have h6:=xH (kD (h:=h) (last:=last) hV) h0
  refine ⟨cF (rdS i).1++fu (gQ (dlI h i last) w).1++D,?_,?_⟩
  ·rw [d1]
   unfold prl
   rw [List.flatMap_append,List.flatMap_singleton]
   simp only [List.append_assoc]
  ·rw [h5,<- h4,h6,d2]
   simp only [List.append_assoc]
theorem EX {i:aD} {m:Nat} (h:SZ m i):(ly i).2.s.size<=m:=by
 by_cases he:(ly i).2.e=0
 ·obtain ⟨-,hw⟩:=AZ h.1 he
  have:=congrArg List.length hw
  rw [List.length_append,aV,aV] at this
  have:=h.2
  omega
 ·rcases (qH h.1).2 with h1 | h1
  ·exact absurd h1 he
  ·rw [h1]; exact Nat.zero_le _
theorem FJ {i:aD} {m:Nat} (h:SZ m i):(bkS i).2.s.size<=m:=by
 by_cases he:(bkS i).2.e=0
 ·obtain ⟨-,hw⟩:=ua h.1 he
  have:=congrArg List.length hw
  rw [List.length_append,aV,aV] at this
  have:=h.2
  omega
 ·rcases (qI h.1).2 with h1 | h1
  ·exact absurd h1 he
  ·rw [h1]; exact Nat.zero_le _
theorem sM: ∀ (k:Nat) (w h:Int) (i:aD) (last:Int) (l:List (Int×aT)),VI i->w<=1000->(∀ p∈l,okR p.2.cells/\p.2.cells.length<=1000) -> ∀ p∈(dlL k w h i last l).1,okR p.2.cells/\p.2.cells.length<=1000
 | 0,w,h,i,last,l,hV,hw,hl=>hl
 | k+1,w,h,i,last,l,hV,hw,hl=>by
  unfold dlL
  split
  ·refine sM k w h _ _ _ (pG (kD hV)) hw ?_
   intro p hp
   rcases List.mem_append.1 hp with hp | hp
   ·exact hl p hp
   ·rw [List.mem_singleton.1 hp]
    exact CO (kD hV) hw
  ·exact hl
theorem kE {α:Type} {k:Int} {x:α}: ∀ {l:List (Int×α)},mgl k l=some x->(k,x)∈l
 | [],h=>by cases h
 | (j,y)::l,h=>by
  simp only [mgl] at h
  split at h
  ·rename_i hk
   injection h with h
   subst h hk
   exact List.mem_cons_self ..
  ·exact List.mem_cons_of_mem _ (kE h)
theorem sN {A:List aT} {l:List (Int×aT)} (Q:aT->Prop) (hA: ∀ r∈A,Q r) (hl: ∀ p∈l,Q p.2): ∀ (k y:Nat) (acc out:List aT),gR A l k y acc=some out->(∀ r∈acc,Q r)->(∀ r∈out,Q r)/\out.length=acc.length+k
 | 0,y,acc,out,h,hacc=>by
  injection h with h
  subst h
  exact ⟨hacc,rfl⟩
 | k+1,y,acc,out,h,hacc=>by
  have go: ∀ r,Q r->gR A l k (y+1) (acc++[r])=some out->(∀ r∈out,Q r)/\out.length=acc.length+(k+1):=by
   intro r hr h2
   obtain ⟨h3,h4⟩:=sN Q hA hl k (y+1) (acc++[r]) out h2 (λq hq=>by
    rcases List.mem_append.1 hq with hq | hq
    ·exact hacc q hq
    ·rw [List.mem_singleton.1 hq]; exact hr)
   refine ⟨h3,h4.trans ?_⟩
   simp only [List.length_append,List.length_cons,List.length_nil]
   omega
  simp only [gR] at h
  split at h
  ·rename_i r q h1 h2
   split at h
   ·cases h
   ·exact go r (hl _ (kE h1)) h
  ·rename_i r h1 h2
   exact go r (hl _ (kE h1)) h
  ·rename_i q h1 h2
   exact go q (hA _ (List.mem_of_getElem? h2)) h
  ·cases h
def tot (y:Int):List (Int×aT)->Nat
 | []=>0
 | (j,z)::l=>(if y<=j then (fu z).length else 0)+tot y l
theorem sO (y:Int): ∀ l,tot (y+1) l<=tot y l
 | []=>Nat.le_refl _
 | (j,z)::l=>by
  have:=sO y l
  simp only [tot]
  by_cases h1:y+1<=j
  ·rw [if_pos h1,if_pos (by omega)]; omega
  ·rw [if_neg h1]; omega
theorem uO (y:Int) {r:aT}: ∀ l,mgl y l=some r->(fu r).length+tot (y+1) l<=tot y l
 | [],h=>by cases h
 | (j,z)::l,h=>by
  simp only [mgl] at h
  simp only [tot]
  split at h
  ·rename_i hk
   injection h with h
   subst h hk
   have:=sO y l
   rw [if_neg (by omega),if_pos (Int.le_refl _)]
   omega
  ·have:=uO y l h
   by_cases h1:y+1<=j
   ·rw [if_pos h1,if_pos (by omega)]; omega
   ·rw [if_neg h1]; omega
theorem xP (y:Int): ∀ l,tot y l<=(prl l).length
 | []=>Nat.le_refl _
 | (j,z)::l=>by
  have:=xP y l
  unfold prl at this ⊢
  simp only [tot,List.flatMap_cons,List.length_append]
  split <;> omega
theorem sP {A:List aT} {l:List (Int×aT)}: ∀ (k y:Nat) (acc out:List aT),gR A l k y acc=some out->(out.flatMap fu).length<=(acc.flatMap fu).length+tot (y:Int) l+((A.drop y).flatMap fu).length
 | 0,y,acc,out,h=>by
  injection h with h
  subst h
  omega
 | k+1,y,acc,out,h=>by
  have hn:=sO (y:Int) l
  have e1:((y+1:Nat):Int)=(y:Int)+1:=rfl
  have hd: ∀ q,A[y]?=some q->((A.drop y).flatMap fu).length=(fu q).length+((A.drop (y+1)).flatMap fu).length:=by
   intro q hq
   obtain ⟨h1,h2⟩:=List.getElem?_eq_some_iff.1 hq
   rw [List.drop_eq_getElem_cons h1,List.flatMap_cons,List.length_append,h2]
  have go: ∀ r,gR A l k (y+1) (acc++[r])=some out->(out.flatMap fu).length<=(acc.flatMap fu).length+(fu r).length+tot ((y:Int)+1) l+((A.drop (y+1)).flatMap fu).length:=by
   intro r h2
   have:=sP k (y+1) (acc++[r]) out h2
   rw [List.flatMap_append,List.flatMap_singleton,List.length_append,e1] at this
   exact this
  have hdd:((A.drop (y+1)).flatMap fu).length<=((A.drop y).flatMap fu).length:=by
   by_cases hy:y < A.length
   ·rw [hd _ (List.getElem?_eq_getElem hy)]; omega
   ·rw [List.drop_eq_nil_of_le (by omega:A.length<=y+1)]
    exact Nat.zero_le _
  simp only [gR] at h
  split at h
  ·rename_i r q h1 h2
   split at h
   ·cases h
   ·have:=go r h
    have:=uO (y:Int) l h1
    omega
  ·rename_i r h1 h2
   have:=go r h
   have:=uO (y:Int) l h1
   omega
  ·rename_i q h1 h2
   have:=go q h
   have:=hd q h2
   omega
  ·cases h
theorem Bs {s:ByteArray} (h:s.size<=1000000) (he:(zR s).2.e=0):(prl (zR s).1).length<=s.size:=by
 obtain ⟨vB,vC,vF,vH,vK,vN,vR⟩:=zVI h
 obtain ⟨D,h1,h2⟩:=ue _ _ _ _ _ _ vN he
 have hD:prl (zR s).1=D:=h1
 have h3:=congrArg List.length h2
 rw [List.length_append,aV,<- hD] at h3
 have v0:SZ s.size (⟨s,0⟩:aD):=⟨⟨h,.inl rfl⟩,Nat.le_refl _⟩
 have s1:SZ s.size (zF s).2:=kB (kB (uI _ (uI _ (kB (kB v0)))))
 have s2:SZ s.size (zT s).2:=⟨qH s1.1,EX s1⟩
 have s3:SZ s.size (zH s).2:=kB (kB s2)
 have s4:SZ s.size (zK s).2:=⟨qI s3.1,FJ s3⟩
 have s5:=(kB s4).2
 have:(zN s).2.s.size<=s.size:=s5
 omega
theorem pP {a:aM} {s:ByteArray} {l:List aT} (ha:SW a) (pa:(a.rows.flatMap fu).length<=12000) (h:s.size<=100000) (ht:(zT s).1.size<=12000) (he:(zR s).2.e=0) (hl:gR a.rows (zR s).1 (zD s).1.toNat 0 []=some l):SW (iX (zS s) l)/\(l.flatMap fu).length<=200000:=by
 obtain ⟨vB,vC,vF,vH,vK,vN,vR⟩:=zVI (s:=s) (by omega)
 have b1:=fU (m:=1000) vB (by omega)
 have c1:=fU (m:=1000) vC (by omega)
 have hw1:0<=(zC s).1:=b1.1
 have hw2:(zC s).1<=1000:=b1.2
 have hh1:0<=(zD s).1:=c1.1
 have hh2:(zD s).1<=1000:=c1.2
 have bo:=Ba vH
 have hrows:=sM (zN s).1.toNat (zC s).1 (zD s).1 (zN s).2 (-1) [] vN hw2 (λp hp=>by cases hp)
 obtain ⟨p1,p2⟩:=sN (λr=>okR r.cells/\r.cells.length<=1000) ha.ro hrows _ _ _ _ hl (λr hr=>by cases hr)
 have p3:=sP _ _ _ _ hl
 have p4:=xP ((0:Nat):Int) (zR s).1
 have p5:=Bs (by omega) he
 have p6:((a.rows.drop 0).flatMap fu).length<=12000:=by simpa using pa
 refine ⟨⟨?_,?_,bo.1,p1,?_,Nat.le_trans bo.2 (by decide),ht⟩,?_⟩
 ·show _<=(zC s).1/\(zC s).1<=_
  omega
 ·show _<=(zD s).1/\(zD s).1<=_
  omega
 ·show l.length<=1000
  rw [p2]
  simp only [List.length_nil]
  omega
 ·simp only [List.flatMap_nil,List.length_nil] at p3
  omega
theorem Bt (a:aM) (s:ByteArray) (ha:SW a) (pa:(a.rows.flatMap fu).length<=12000) (h:s.size<=100000) (ht:(zT s).1.size<=12000) (he:(zR s).2.e=0) (sum:Int) :
  (∀ l,gR a.rows (zR s).1 (zD s).1.toNat 0 []=some l->eM ⟨sum,zS s,some (zR s).1⟩ a=some (!nY (iX (zS s) l),⟨sum,iX (zS s) l,some (zR s).1⟩))/\(gR a.rows (zR s).1 (zD s).1.toNat 0 []=none -> ∃ p',eM ⟨sum,zS s,some (zR s).1⟩ a=some (false,p')):=by
 obtain ⟨vB,vC,vF,vH,vK,vN,vR⟩:=zVI (s:=s) (by omega)
 have c1:=fU (m:=1000) vC (by omega)
 have hh1:0<=(zD s).1:=c1.1
 have hh2:(zD s).1<=1000:=c1.2
 have har: ∀ r∈a.rows,r.cells.length<=1000000:=λr hr=>by have:=(ha.ro r hr).2; omega
 obtain ⟨H,hH⟩:=Int.eq_ofNat_of_zero_le hh1
 obtain ⟨b1,b2⟩:=xO sum (zS s) a (zR s).1 H (by omega) hH har _ rfl H 0 [] (by omega) rfl
 have hH2:(zD s).1.toNat=H:=by rw [hH,Int.toNat_natCast]
 have hz:iX (zS s) []=zS s:=rfl
 rw [hz] at b1 b2
 refine ⟨λl hl=> ?_,λhl=> ?_⟩
 ·obtain ⟨SWx,pl⟩:=pP ha pa h ht he hl
  rw [hH2] at hl
  have e:=b1 l hl
  unfold eM
  refine (congrArg (λz=>Option.bind z _) e).trans ?_
  rw [aA]
  dsimp only
  have hm:jd (iX (zS s) l)=some (!nY (iX (zS s) l)):=Bo _ SWx (by show (l.flatMap fu).length<=1000000; omega)
  show Option.bind (jd (iX (zS s) l)) _=_
  rw [hm,aA]
 ·rw [hH2] at hl
  obtain ⟨p',this⟩:=b2 hl
  refine ⟨p',?_⟩
  unfold eM
  refine (congrArg (λz=>Option.bind z _) this).trans ?_
  rw [aA]
theorem Bu (a:aM) (s:ByteArray) (ha:SW a) (pa:(a.rows.flatMap fu).length<=12000) (h:s.size<=100000) (ht:(zT s).1.size<=12000):jH a s=some (mb a s):=by
 obtain ⟨vB,vC,vF,vH,vK,vN,vR⟩:=zVI (s:=s) (by omega)
 unfold jH mb
 rw [vW a ha,aA]
 cases hm:mR a with
 | false=>rw [if_neg (by simp),if_pos rfl]; rfl
 | true =>
  rw [if_pos rfl,if_neg (by simp)]
  obtain ⟨m',r1,r2⟩:=Br s (by omega)
  have k0:((0:Int) != 0)=false:=rfl
  rw [k0,cond_false,r1,aA]
  dsimp only
  by_cases he:jk (zR s).2=0
  ·have k1:(jk (zR s).2 != 0)=false:=by simp [he]
   rw [k1,cond_false,if_neg (λhh=>hh he),CZ a ha pa,aA]
   obtain ⟨he0, -⟩:=ud vR he
   obtain rfl:=r2 he0
   by_cases hs:(zA s).1=((iP (iV a):Nat):Int)
   ·have k2:((zA s).1 != ((iP (iV a):Nat):Int))=false:=by simp [hs]
    rw [k2,cond_false,if_neg (λhh=>hh hs)]
    obtain ⟨b1,b2⟩:=Bt a s ha pa h ht he0 (zA s).1
    cases hl:gR a.rows (zR s).1 (zD s).1.toNat 0 [] with
    | none =>
     obtain ⟨p',b3⟩:=b2 hl
     rw [b3,aA]
     rfl
    | some l =>
     obtain ⟨SWx,pl⟩:=pP ha pa h ht he0 hl
     rw [b1 l hl,aA]
     dsimp only
     cases hn:nY (iX (zS s) l) with
     | true=>rfl
     | false =>
      rw [Bool.not_false,Bool.not_true,cond_false,if_neg (by simp),oq _ SWx,aA]
   ·have k2:((zA s).1 != ((iP (iV a):Nat):Int))=true:=by simp [hs]
    rw [k2,cond_true,if_pos hs]
    rfl
  ·have k1:(jk (zR s).2 != 0)=true:=by simp [he]
   rw [k1,cond_true,if_pos he]
   rfl
def oA (l:List (Int×aT)) (H:Nat):List Bool:=(List.range H).map λy:Nat=>(mgl (y:Int) l).isSome
def lz (l:List (Int×aT)) (H:Nat):List aT:=(List.range H).map λy:Nat=>(mgl (y:Int) l).getD sA
theorem Bv (l:List (Int×aT)) (H:Nat):(oA l H).length=H:=by simp [oA]
theorem wh (l:List (Int×aT)) (H:Nat):(lz l H).length=H:=by simp [lz]
theorem pQ (l:List (Int×aT)) (k j:Int) (x:aT) (hn: ∀ p∈l,p.1≠j):mgl k (l++[(j,x)])=if k=j then some x else mgl k l:=by
 induction l with
 | nil=>simp [mgl]
 | cons p l ih =>
  obtain ⟨i,z⟩:=p
  simp only [List.cons_append,mgl]
  have hi:i≠j:=hn (i,z) (by simp)
  by_cases h:k=i
  ·rw [if_pos h,if_neg (by omega),if_pos h]
  ·rw [if_neg h,ih λp hp=>hn p (by simp [hp]),if_neg h]
theorem Bx (l:List (Int×aT)) (H j:Nat) (x:aT) (hj:j < H) (hn: ∀ p∈l,p.1≠(j:Int)):(oA l H).set j true=oA (l++[((j:Int),x)]) H:=by
 apply List.ext_getElem?
 intro i
 rw [List.getElem?_set]
 unfold oA
 simp only [List.getElem?_map,List.length_map,List.length_range]
 by_cases h:j=i
 ·subst h
  rw [if_pos rfl,if_pos hj,List.getElem?_range hj]
  simp [pQ _ _ _ _ hn]
 ·rw [if_neg h]
  by_cases hi:i < H
  ·rw [List.getElem?_range hi]
   simp only [Option.map_some]
   rw [pQ _ _ _ _ hn,if_neg (by omega)]
  ·rw [List.getElem?_eq_none (by simpa using hi)]
   rfl
theorem By (l:List (Int×aT)) (H j:Nat) (x:aT) (hj:j < H) (hn: ∀ p∈l,p.1≠(j:Int)):(lz l H).set j x=lz (l++[((j:Int),x)]) H:=by
 apply List.ext_getElem?
 intro i
 rw [List.getElem?_set]
 unfold lz
 simp only [List.getElem?_map,List.length_map,List.length_range]
 by_cases h:j=i
 ·subst h
  rw [if_pos rfl,if_pos hj,List.getElem?_range hj]
  simp [pQ _ _ _ _ hn]
 ·rw [if_neg h]
  by_cases hi:i < H
  ·rw [List.getElem?_range hi]
   simp only [Option.map_some]
   rw [pQ _ _ _ _ hn,if_neg (by omega)]
  ·rw [List.getElem?_eq_none (by simpa using hi)]
   rfl
theorem Bz (H:Nat):oA [] H=List.replicate H false:=by
 apply List.ext_getElem?
 intro i
 unfold oA
 simp only [List.getElem?_map,List.getElem?_replicate]
 by_cases hi:i < H
 ·rw [List.getElem?_range hi,if_pos hi]; rfl
 ·rw [List.getElem?_eq_none (by simpa using hi),if_neg hi]; rfl
theorem BA (H:Nat):(lz [] H).map told=List.replicate H (told sA):=by
 apply List.ext_getElem?
 intro i
 unfold lz
 simp only [List.getElem?_map,List.getElem?_replicate]
 by_cases hi:i < H
 ·rw [List.getElem?_range hi,if_pos hi]; rfl
 ·rw [List.getElem?_eq_none (by simpa using hi),if_neg hi]; rfl
theorem ng (l:List (Int×aT)) {H y:Nat} (h:y < H):idx (oA l H) (y:Int)=some (mgl (y:Int) l).isSome:=by
 rw [bL _ _ (by rw [Bv]; exact h)]
 simp [oA]
theorem BC (l:List (Int×aT)) {H y:Nat} (h:y < H):(lz l H)[y]?=some ((mgl (y:Int) l).getD sA):=by
 unfold lz
 rw [List.getElem?_map,List.getElem?_range h]
 rfl
theorem EY (x:aM) (H N:Nat) (hH:H<=1000) (hh:x.h=(H:Int)) (hw:x.w<=1000) (hN:N<=4611686018427387904) (f:aR×(List Bool)×(List bC)×Int×Int->Option ((aR×(List Bool)×(List bC)×Int×Int) ⊕ (((List Bool)×(List bC)×aR) ⊕ (bD×Int)))) (hf:f=(λa=>(bif (decide (a.2.2.2.2 < (N:Int))) then (Option.bind (bB a.1) λb=>(Option.bind ((bif (b.1.e == 0) then (bif (decide (b.2<=a.2.2.2.1)) then some true else some (decide (b.2>=x.h))) else some false):Option Bool) λd=>(bif d then (eV (some ((bD.mk 0 0 0 0 0 (ByteArray.mk #[]) ([]:List bC) 0 0 ([]:List aN)),1))) else (Option.bind (gv b.1 x.w) λc=>(bif (c.1.e != 0) then (eV (some ((bD.mk 0 0 0 0 0 (ByteArray.mk #[]) ([]:List bC) 0 0 ([]:List aN)),c.1.e))) else (Option.bind (idx a.2.1 b.2) λg=>(Option.bind (idx a.2.2.1 b.2) λj=>some (.inl (c.1,(a.2.1.set b.2.toNat true),(a.2.2.1.set b.2.toNat c.2),b.2,(IntKind.i64.wrap (a.2.2.2.2+1))))))))))) else some (.inr (.inl (a.2.1,a.2.2.1,a.1))))) ) :
  ∀ (k n:Nat) (i:aD) (last:Int) (l:List (Int×aT)),n+k=N->VI i->i.e=0 -> -1<=last->(∀ p∈l,p.1<=last) ->
  iter f (asR i,oA l H,(lz l H).map told,last,(n:Int))=some (if (dlL k x.w x.h i last l).2.e=0 then .inl (oA (dlL k x.w x.h i last l).1 H,(lz (dlL k x.w x.h i last l).1 H).map told,asR (dlL k x.w x.h i last l).2) else .inr (fB iJ,(dlL k x.w x.h i last l).2.e)):=by
 intro k
 induction k with
 | zero =>
  intro n i last l hn hV he h1 hl
  have e0:dlL 0 x.w x.h i last l=(l,i):=rfl
  rw [e0,if_pos he]
  refine bA ?_
  subst hf
  dsimp only
  rw [decide_eq_false (by omega),cond_false]
 | succ k ih =>
  intro n i last l hn hV he h1 hl
  have hrr:=jP hV
  have hd:dlL (k+1) x.w x.h i last l=dlL k x.w x.h (gQ (dlI x.h i last) x.w).2 (rdS i).1 (l++[((rdS i).1,(gQ (dlI x.h i last) x.w).1)]):=by
   conv=>lhs; unfold dlL
   rw [if_pos he]
  rw [hd]
  have hcond:((bif ((asR (rdS i).2).e == 0) then (bif (decide ((rdS i).1<=last)) then some true else some (decide ((rdS i).1>=x.h))) else some false):Option Bool)=some (decide ((rdS i).2.e=0/\((rdS i).1<=last\/(rdS i).1>=x.h))):=by
   rw [m9,or2]
   by_cases h0:(rdS i).2.e=0
   ·have:((rdS i).2.e == 0)=true:=by simpa using h0
    rw [this,cond_true]
    simp [h0]
   ·have:((rdS i).2.e == 0)=false:=by simpa using h0
    rw [this,cond_false]
    simp [h0]
  by_cases hrow:(gQ (dlI x.h i last) x.w).2.e=0
  ·-- all right
   obtain ⟨h2,h3,h4⟩:=xM (uM (kD hV) hrow)
   have h5:(rdS i).2.e=0:=by rw [<- h4]; exact uM (kD hV) hrow
   obtain ⟨y,hy⟩:=Int.eq_ofNat_of_zero_le hrr.1
   have hyH:y < H:=by omega
   have hnew: ∀ p∈l,p.1≠(y:Int):=λp hp e=>by have:=hl p hp; omega
   rw [bZ (s':=(asR (gQ (dlI x.h i last) x.w).2,oA (l++[((rdS i).1,(gQ (dlI x.h i last) x.w).1)]) H,(lz (l++[((rdS i).1,(gQ (dlI x.h i last) x.w).1)]) H).map told,(rdS i).1,((n+1:Nat):Int)))]
   ·refine ih (n+1) _ _ _ (by omega) (pG (kD hV)) hrow (by omega) ?_
    intro p hp
    rcases List.mem_append.1 hp with hp | hp
    ·have:=hl p hp
     omega
    ·rw [List.mem_singleton.1 hp]
     exact Int.le_refl _
   ·subst hf
    dsimp only
    rw [decide_eq_true (by omega),cond_true,fT _ hV,aA]
    dsimp only
    rw [hcond,decide_eq_false (by omega),aA,cond_false,<- h4,q8 _ _ (kD hV) hw,aA]
    have k1:((asR (gQ (dlI x.h i last) x.w).2).e != 0)=false:=by rw [m9]; simpa using hrow
    dsimp only
    rw [k1,cond_false,hy,ng l hyH,aA,bL _ _ (by rw [List.length_map,wh]; exact hyH),aA,Int.toNat_natCast,w64 (by omega) (by omega),<- Bx l H y _ hyH hnew,<- By l H y _ hyH hnew,List.map_set]
    rfl
  ·rw [pO _ _ _ _ _ _ hrow,if_neg hrow]
   refine bA ?_
   subst hf
   dsimp only
   rw [decide_eq_true (by omega),cond_true,fT _ hV,aA]
   dsimp only
   rw [hcond]
   by_cases hc:(rdS i).2.e=0/\((rdS i).1<=last\/(rdS i).1>=x.h)
   ·rw [decide_eq_true hc,aA,cond_true]
    have h6:dlI x.h i last=iO:=by
     unfold dlI
     rw [if_pos hc.2]
     unfold rh
     rw [if_pos hc.1]
    have h7:(gQ iO x.w).2.e=1:=by
     have:(bU iO 1).2=iO:=by
      have:=pE (i:=iO) (by decide) 1 (by omega)
      exact this
     unfold gQ
     rw [this]
     have h8:rrS (x.w.toNat+1) x.w iO []=([],iO):=by
      unfold rrS
      rw [if_neg (λhh=>absurd hh.2 (by decide))]
     rw [h8,if_neg (by decide)]
     rfl
    rw [h6,h7]
    rfl
   ·rw [decide_eq_false hc,aA,cond_false]
    have h6:dlI x.h i last=if (rdS i).2.e=0 then (rdS i).2 else (rdS i).2:=by
     unfold dlI
     by_cases h0:(rdS i).2.e=0
     ·rw [if_pos h0,if_neg (λhh=>hc ⟨h0,hh⟩)]
     ·rw [if_neg h0]
      split
      ·unfold rh
       rw [if_neg h0]
      ·rfl
    have h7:dlI x.h i last=(rdS i).2:=by rw [h6]; split <;> rfl
    rw [<- h7,q8 _ _ (kD hV) hw,aA]
    have k1:((asR (gQ (dlI x.h i last) x.w).2).e != 0)=true:=by rw [m9]; simpa using hrow
    dsimp only
    rw [k1,cond_true]
    rfl
theorem EZ (a:aM) (l:List (Int×aT)) (H:Nat) (hH:H<=1000) (ha: ∀ r∈a.rows,r.cells.length<=1000000) (hl: ∀ p∈l,p.2.cells.length<=1000000) (f:(List bC)×Int->Option (((List bC)×Int) ⊕ ((List bC) ⊕ (bD×Int)))) (hf:f=(λb=>(bif (decide (b.2 < (((lz l H).map told).length:Int))) then (Option.bind ((Option.bind ((Option.bind (idx (oA l H) b.2) λc=>(bif (!c) then (bif (decide (b.2>=((fB a).rows.length:Int))) then some true else (Option.bind (idx (oA l H) b.2) λd=>(bif d then (bif (decide (b.2 < ((fB a).rows.length:Int))) then (Option.bind (idx b.1 b.2) λe=>(Option.bind (idx (fB a).rows b.2) λg=>(Option.bind (gG e g) λh=>some h))) else some false) else some false))) else (Option.bind (idx (oA l H) b.2) λi=>(bif i then (bif (decide (b.2 < ((fB a).rows.length:Int))) then (Option.bind (idx b.1 b.2) λj=>(Option.bind (idx (fB a).rows b.2) λm=>(Option.bind (gG j m) λn=>some n))) else some false) else some false)))):Option Bool) λo=>(bif o then (mj (eV (some ((bD.mk 0 0 0 0 0 (ByteArray.mk #[]) ([]:List bC) 0 0 ([]:List aN)),1)))) else (Option.bind (idx (oA l H) b.2) λq=>(bif (!q) then (Option.bind (idx (fB a).rows b.2) λs=>(Option.bind (idx b.1 b.2) λt=>some (.inl (b.1.set b.2.toNat s)))) else some (.inl b.1))))):Option ((List bC) ⊕ (((List bC)×Int) ⊕ ((List bC) ⊕ (bD×Int))))) λ | .inl e4726=>some (.inl (e4726,(IntKind.i64.wrap (b.2+1)))) | .inr w=>some w) else some (.inr (.inl b.1)))) ) :
  ∀ (k y:Nat) (acc:List aT),y+k=H->acc.length=y ->
  iter f (acc.map told++((lz l H).map told).drop y,(y:Int))=some (match gR a.rows l k y acc with | some out=> .inl (out.map told) | none=> .inr (fB iJ,1)):=by
 have lr:((lz l H).map told).length=H:=by rw [List.length_map,wh]
 have la:(fB a).rows.length=a.rows.length:=List.length_map ..
 intro k
 induction k with
 | zero =>
  intro y acc hy hacc
  refine bA ?_
  subst hf
  dsimp only
  rw [decide_eq_false (by omega),cond_false,List.drop_eq_nil_of_le (by omega),List.append_nil]
  rfl
 | succ k ih =>
  intro y acc hy hacc
  have hyH:y < H:=by omega
  have hcell:(((lz l H).map told).drop y)=told ((mgl (y:Int) l).getD sA)::((lz l H).map told).drop (y+1):=by
   rw [List.drop_eq_getElem_cons (by omega)]
   congr 1
   have:=BC l hyH
   rw [List.getElem_map]
   congr 1
   exact Option.some.inj ((List.getElem?_eq_getElem _).symm.trans this)
  have haccl:(acc.map told).length=y:=by rw [List.length_map]; exact hacc
  have hat:idx (acc.map told++told ((mgl (y:Int) l).getD sA)::((lz l H).map told).drop (y+1)) (y:Int)=some (told ((mgl (y:Int) l).getD sA)):=AO (by rw [haccl])
  rw [hcell]
  have hset: ∀ r:aT,(acc.map told++told ((mgl (y:Int) l).getD sA)::((lz l H).map told).drop (y+1)).set y (told r)=(acc++[r]).map told++((lz l H).map told).drop (y+1):=by
   intro r
   rw [AP (by rw [haccl]),List.map_append]
   simp
  have hon: ∀ r:aT,f (acc.map told++told ((mgl (y:Int) l).getD sA)::((lz l H).map told).drop (y+1),(y:Int))=some (.inl ((acc++[r]).map told++((lz l H).map told).drop (y+1),((y+1:Nat):Int)))->gR a.rows l (k+1) y acc=gR a.rows l k (y+1) (acc++[r])->iter f (acc.map told++told ((mgl (y:Int) l).getD sA)::((lz l H).map told).drop (y+1),(y:Int))=some (match gR a.rows l (k+1) y acc with | some out=> .inl (out.map told) | none=> .inr (fB iJ,1)):=by
   intro r h1 h2
   rw [h2,bZ h1]
   exact ih (y+1) (acc++[r]) (by omega) (by simp [hacc])
  have hd:decide ((y:Int) < (((lz l H).map told).length:Int))=true:=decide_eq_true (by omega)
  have hwr:IntKind.i64.wrap ((y:Int)+1)=((y+1:Nat):Int):=by rw [w64 (by omega) (by omega)]; rfl
  cases hm:mgl (y:Int) l with
  | some r =>
   rw [hm] at hat hset hon
   simp only [Option.getD_some] at hat hset hon ⊢
   have hrc:r.cells.length<=1000000:=hl _ (kE hm)
   have hself:(acc.map told++told r::((lz l H).map told).drop (y+1))=(acc++[r]).map told++((lz l H).map told).drop (y+1):=by simp
   by_cases hya:y < a.rows.length
   ·have e1:a.rows[y]?=some a.rows[y]:=List.getElem?_eq_getElem hya
    have ga:idx (fB a).rows (y:Int)=some (told a.rows[y]):=by rw [bL _ _ (by omega)]; simp
    by_cases hq:a.rows[y]=r
    ·have h2:gR a.rows l (k+1) y acc=none:=by simp only [gR,hm,e1,if_pos hq]
     rw [h2]
     refine bA ?_
     subst hf
     dsimp only
     rw [hd,cond_true,ng l hyH,hm,aA]
     simp only [Option.isSome_some,Bool.not_true,cond_false,aA,cond_true]
     rw [decide_eq_true (show (y:Int) < ((fB a).rows.length:Int) by omega),cond_true,hat,aA,ga,aA,wc _ _ hrc,decide_eq_true hq.symm]
     rfl
    ·refine hon r ?_ (by simp only [gR,hm,e1,if_neg hq])
     subst hf
     dsimp only
     rw [hd,cond_true,ng l hyH,hm,aA]
     simp only [Option.isSome_some,Bool.not_true,cond_false,aA,cond_true]
     rw [decide_eq_true (show (y:Int) < ((fB a).rows.length:Int) by omega),cond_true,hat,aA,ga,aA,wc _ _ hrc,decide_eq_false (λhh=>hq hh.symm),aA,aA,cond_false,aA,hwr,hself]
   ·have e1:a.rows[y]?=none:=List.getElem?_eq_none (by omega)
    refine hon r ?_ (by simp only [gR,hm,e1])
    subst hf
    dsimp only
    rw [hd,cond_true,ng l hyH,hm,aA]
    simp only [Option.isSome_some,Bool.not_true,cond_false,aA,cond_true]
    rw [decide_eq_false (show ¬ (y:Int) < ((fB a).rows.length:Int) by omega),cond_false,aA,cond_false,aA,hwr,hself]
  | none =>
   rw [hm] at hat hset hon
   simp only [Option.getD_none] at hat hset hon ⊢
   by_cases hya:y < a.rows.length
   ·have e1:a.rows[y]?=some a.rows[y]:=List.getElem?_eq_getElem hya
    have ga:idx (fB a).rows (y:Int)=some (told a.rows[y]):=by rw [bL _ _ (by omega)]; simp
    refine hon a.rows[y] ?_ (by simp only [gR,hm,e1])
    subst hf
    dsimp only
    rw [hd,cond_true,ng l hyH,hm,aA]
    simp only [Option.isSome_none,Bool.not_false,cond_true,aA,cond_false]
    rw [decide_eq_false (show ¬ (y:Int)>=((fB a).rows.length:Int) by omega),cond_false,aA,cond_false,ga,aA,hat,aA,aA,hwr,Int.toNat_natCast,hset]
   ·have e1:a.rows[y]?=none:=List.getElem?_eq_none (by omega)
    have h2:gR a.rows l (k+1) y acc=none:=by simp only [gR,hm,e1]
    rw [h2]
    refine bA ?_
    subst hf
    dsimp only
    rw [hd,cond_true,ng l hyH,hm,aA]
    simp only [Option.isSome_none,Bool.not_false,cond_true,aA,cond_false]
    rw [decide_eq_true (show (y:Int)>=((fB a).rows.length:Int) by omega)]
    rfl
theorem yP {α β:Type} {x:Option α} {y:α} {g:α->Option β} {out:Option β} (h:x=some y) (h2:g y=out):Option.bind x g=out:=by rw [h]; exact h2
theorem jA {i:aD} (h:i.e≠0):rdS i=(0,i):=by unfold rdS; rw [if_neg h]
theorem sQ {i:aD} (h:i.e≠0):ly i=(noS,i):=by
 unfold ly
 rw [jA h]
 unfold tv
 rw [if_pos h]
theorem uf {i:aD} (h:i.e≠0) (m:Int) (hm:0<=m):bU i m=(0,i):=by
 unfold bU
 rw [jA h,if_neg (by dsimp only; omega)]
theorem uP {i:aD} (h:i.e≠0):bkS i=([],i):=by
 unfold bkS
 rw [uf h 1024 (by omega)]
 dsimp only
 rw [rI _ _ _ h,if_neg h]
theorem E0 {s:ByteArray} (h:(zC s).2.e≠0):(zR s).2=(zC s).2:=by
 have e1:(zD s).2=(zC s).2:=by unfold zD; rw [uf h _ (by omega)]
 have e2:(zE s).2=(zC s).2:=by unfold zE; rw [e1,jA h]
 have e3:(zF s).2=(zC s).2:=by unfold zF; rw [e2,jA h]
 have e4:(zT s).2=(zC s).2:=by unfold zT; rw [e3,sQ h]
 have e5:(zG s).2=(zC s).2:=by unfold zG; rw [e4,jA h]
 have e6:(zH s).2=(zC s).2:=by unfold zH; rw [e5,jA h]
 have e7:(zK s).2=(zC s).2:=by unfold zK; rw [e6,uP h]
 have e8:(zN s).2=(zC s).2:=by unfold zN; rw [e7,jA h]
 unfold zR
 rw [e8,pO _ _ _ _ _ _ h]
theorem E1 {s:ByteArray} (h:(zD s).2.e≠0):(zR s).2=(zD s).2:=by
 have e2:(zE s).2=(zD s).2:=by unfold zE; rw [jA h]
 have e3:(zF s).2=(zD s).2:=by unfold zF; rw [e2,jA h]
 have e4:(zT s).2=(zD s).2:=by unfold zT; rw [e3,sQ h]
 have e5:(zG s).2=(zD s).2:=by unfold zG; rw [e4,jA h]
 have e6:(zH s).2=(zD s).2:=by unfold zH; rw [e5,jA h]
 have e7:(zK s).2=(zD s).2:=by unfold zK; rw [e6,uP h]
 have e8:(zN s).2=(zD s).2:=by unfold zN; rw [e7,jA h]
 unfold zR
 rw [e8,pO _ _ _ _ _ _ h]
theorem BD {i:aD} (hV:VI i) (h:i.e≠0):jk i=i.e:=by
 unfold jk
 rcases hV.2 with h1 | h1
 ·exact absurd h1 h
 ·rw [if_neg (λhh=>hh h1)]
theorem yQ {i:aD} (hV:VI i):((bif ((asR (rdS i).2).e == 0) then some (decide ((rdS i).1 > 1000)) else some false):Option Bool)=some (decide ((rdS i).1 > 1000)):=by
 rw [m9]
 by_cases h0:(rdS i).2.e=0
 ·have:((rdS i).2.e == 0)=true:=by simpa using h0
  rw [this,cond_true]
 ·have:((rdS i).2.e == 0)=false:=by simpa using h0
  rw [this,cond_false]
  have h1:(rdS i).1=0:=oS h0
  rw [h1]
  rfl
theorem zQ (a:aM) (s:ByteArray) (ha:SW a) (pa:(a.rows.flatMap fu).length<=12000) (h:s.size<=100000) (ht:(zT s).1.size<=12000):jN (fB a) s=some (fB (mb a s).1,(mb a s).2):=by
 obtain ⟨vB,vC,vF,vH,vK,vN,vR⟩:=zVI (s:=s) (by omega)
 have v0:VI (⟨s,0⟩:aD):=⟨by show s.size<=1000000; omega,.inl rfl⟩
 have vA:VI (zA s).2:=eZ v0
 have vD:VI (zD s).2:=fr _ vC
 have vE:VI (zE s).2:=eZ vD
 have vT:VI (zT s).2:=qH vF
 have vG:VI (zG s).2:=eZ vT
 unfold jN mb
 rw [AW a ha,aA]
 cases hm:mR a with
 | false=>rw [if_pos rfl]; rfl
 | true =>
  rw [if_neg (by simp),Bool.not_true,cond_false]
  have e1:bB ⟨s,0⟩=some (asR (zA s).2,(zA s).1):=fT ⟨s,0⟩ v0
  have e2:bB (asR (zA s).2)=some (asR (zB s).2,(zB s).1):=fT _ vA
  have e3:=fT _ vB
  rw [e1,aA]
  dsimp only
  rw [e2,aA]
  dsimp only
  rw [e3,aA]
  dsimp only
  rw [yQ vB,aA]
  by_cases hW:(rdS (zB s).2).1 > 1000
  ·have hC:(zC s).2=iO:=by unfold zC bU; rw [if_pos hW]
   have hR:(zR s).2=iO:=by rw [E0 (by rw [hC]; decide),hC]
   have hE:jk (zR s).2=1:=by rw [hR]; rfl
   rw [decide_eq_true hW,cond_true,hE,if_pos (by decide)]
   rfl
  rw [decide_eq_false hW,cond_false]
  have hC:zC s=((rdS (zB s).2).1,(rdS (zB s).2).2):=by unfold zC bU; rw [if_neg hW]
  have hC1:(rdS (zB s).2).1=(zC s).1:=by rw [hC]
  have hC2:(rdS (zB s).2).2=(zC s).2:=by rw [hC]
  rw [hC1,hC2]
  have e4:=fT _ vC
  rw [e4,aA]
  dsimp only
  rw [yQ vC,aA]
  by_cases hHH:(rdS (zC s).2).1 > 1000
  ·have hD:(zD s).2=iO:=by unfold zD bU; rw [if_pos hHH]
   have hR:(zR s).2=iO:=by rw [E1 (by rw [hD]; decide),hD]
   have hE:jk (zR s).2=1:=by rw [hR]; rfl
   rw [decide_eq_true hHH,cond_true,hE,if_pos (by decide)]
   rfl
  rw [decide_eq_false hHH,cond_false]
  have hD:zD s=((rdS (zC s).2).1,(rdS (zC s).2).2):=by unfold zD bU; rw [if_neg hHH]
  have hD1:(rdS (zC s).2).1=(zD s).1:=by rw [hD]
  have hD2:(rdS (zC s).2).2=(zD s).2:=by rw [hD]
  rw [hD1,hD2]
  have e5:bB (asR (zD s).2)=some (asR (zE s).2,(zE s).1):=fT _ vD
  have e6:bB (asR (zE s).2)=some (asR (zF s).2,(zF s).1):=fT _ vE
  have e7:fI (asR (zF s).2)=some (asR (zT s).2,(zT s).1):=tX _ vF
  have e8:bB (asR (zT s).2)=some (asR (zG s).2,(zG s).1):=fT _ vT
  have e9:bB (asR (zG s).2)=some (asR (zH s).2,(zH s).1):=fT _ vG
  rw [e5,aA]
  dsimp only
  rw [e6,aA]
  dsimp only
  rw [e7,aA]
  dsimp only
  rw [e8,aA]
  dsimp only
  rw [e9,aA]
  dsimp only
  have hbook:((bif ((asR (zH s).2).e == 0) then (Option.bind (gE (asR (zH s).2)) λb=>some ((bD.mk (zB s).1 (zC s).1 (zD s).1 (zE s).1 (zF s).1 (zT s).1 ([]:List bC) (zG s).1 (zH s).1 b.2),b.1)) else some ((bD.mk (zB s).1 (zC s).1 (zD s).1 (zE s).1 (zF s).1 (zT s).1 ([]:List bC) (zG s).1 (zH s).1 ([]:List aN)),(asR (zH s).2))):Option (bD×aR))=some (fB (zS s),asR (zK s).2):=by
   rw [m9]
   by_cases h0:(zH s).2.e=0
   ·have:((zH s).2.e == 0)=true:=by simpa using h0
    rw [this,cond_true,tY _ vH,aA]
    rfl
   ·have:((zH s).2.e == 0)=false:=by simpa using h0
    rw [this,cond_false]
    have hk:zK s=([],(zH s).2):=uP h0
    unfold zS
    rw [hk]
    rfl
  rw [hbook,aA]
  dsimp only
  have e10:bB (asR (zK s).2)=some (asR (zN s).2,(zN s).1):=fT _ vK
  rw [e10,aA]
  dsimp only
  rw [m9]
  by_cases hN0:(zN s).2.e=0
  ·have k1:((zN s).2.e != 0)=false:=by simp [hN0]
   rw [k1,cond_false]
   have hn:=jP vK
   have c1:=fU (m:=1000) vC (by omega)
   have b1:=fU (m:=1000) vB (by omega)
   have hw:(zC s).1<=1000:=b1.2
   have hh1:0<=(zD s).1:=c1.1
   have hh2:(zD s).1<=1000:=c1.2
   obtain ⟨N,hN⟩:=Int.eq_ofNat_of_zero_le (show 0<=(zN s).1 from hn.1)
   have hN2:N<=4611686018427387904:=by have:(zN s).1<=4611686018427387904:=hn.2; omega
   obtain ⟨H,hH⟩:=Int.eq_ofNat_of_zero_le hh1
   have hR:zR s=dlL N (zS s).w (zS s).h (zN s).2 (-1) []:=by
    unfold zR
    rw [hN,Int.toNat_natCast]
    rfl
   have hHt:(zD s).1.toNat=H:=by rw [hH,Int.toNat_natCast]
   have hz:(zS s).h=(zD s).1:=rfl
   have hHt2:(zS s).h.toNat=H:=hHt
   have l1:=EY (zS s) H N (by omega) hH hw hN2 _ rfl N 0 (zN s).2 (-1) [] (by omega) vN hN0 (by omega) (λp hp=>by cases hp)
   rw [<- hR,Bz,BA] at l1
   rw [qD (by omega) (by omega) (by omega),aA,qD (by omega) (by omega) (by omega),aA,hHt2,hN,hHt]
   refine yP l1 ?_
   by_cases he:(zR s).2.e=0
   ·rw [if_pos he]
    dsimp only
    have hst:((zR s).2.s.toList == (ByteArray.mk #[]).toList)=decide ((zR s).2.s=noS):=lQ _ noS
    show (bif !((zR s).2.s.toList == (ByteArray.mk #[]).toList) then _ else _)=_
    rw [hst]
    by_cases hs0:(zR s).2.s=noS
    ·have hE:jk (zR s).2=0:=by unfold jk; rw [if_neg (λhh=>hh hs0)]; exact he
     rw [decide_eq_true hs0,Bool.not_true,cond_false,Bm a ha pa,aA,hE,if_neg (λhh=>hh rfl)]
     by_cases hs:(zA s).1=((iP (iV a):Nat):Int)
     ·have k2:((zA s).1 != ((iP (iV a):Nat):Int))=false:=by simp [hs]
      rw [k2,cond_false,if_neg (λhh=>hh hs)]
      have har: ∀ r∈a.rows,r.cells.length<=1000000:=λr hr=>by have:=(ha.ro r hr).2; omega
      have hrows:=sM (zN s).1.toNat (zC s).1 (zD s).1 (zN s).2 (-1) [] vN hw (λp hp=>by cases hp)
      have hrows2: ∀ p∈(zR s).1,p.2.cells.length<=1000000:=λp hp=>by have:=(hrows p hp).2; omega
      have l2:=EZ a (zR s).1 H (by omega) har hrows2 _ rfl H 0 [] (by omega) rfl
      simp only [List.map_nil,List.nil_append,List.drop_zero] at l2
      refine yP l2 ?_
      cases hb:gR a.rows (zR s).1 H 0 [] with
      | none=>rfl
      | some l =>
       rw [<- hHt] at hb
       obtain ⟨SWx,pl⟩:=pP ha pa h ht he hb
       dsimp only
       have hpk:gF (fB (iX (zS s) l))=some (iV (iX (zS s) l)):=v8 _ SWx (by show (l.flatMap fu).length<=1000000; omega)
       show Option.bind (gF (fB (iX (zS s) l))) _=_
       rw [hpk,aA]
       have hst2:((iV (iX (zS s) l)).toList == (ByteArray.mk #[]).toList)=nY (iX (zS s) l):=by
        have e:((iV (iX (zS s) l)).toList == (ByteArray.mk #[]).toList)=decide (iV (iX (zS s) l)=noS):=lQ _ noS
        rw [e]
        cases hn:nY (iX (zS s) l) with
        | true=>rw [decide_eq_true (ov.2 hn)]
        | false=>rw [decide_eq_false (λhh=>by rw [ov.1 hh] at hn; cases hn)]
       rw [hst2]
       cases nY (iX (zS s) l) with
       | true=>rfl
       | false=>rfl
     ·have k2:((zA s).1 != ((iP (iV a):Nat):Int))=true:=by simp [hs]
      rw [k2,cond_true,if_pos hs]
      rfl
    ·have hE:jk (zR s).2=1:=by unfold jk; rw [if_pos hs0]
     rw [decide_eq_false hs0,hE,if_pos (by decide)]
     rfl
   ·have hE:jk (zR s).2=(zR s).2.e:=BD vR he
    rw [if_neg he,hE,if_pos he]
  ·have k1:((zN s).2.e != 0)=true:=by simp [hN0]
   have hR:(zR s).2=(zN s).2:=by unfold zR; rw [pO _ _ _ _ _ _ hN0]
   have hE:jk (zR s).2=(zN s).2.e:=by rw [hR]; exact BD vN hN0
   rw [k1,cond_true,hE,if_pos hN0]
   rfl
def o2 (g:aU):cL:=⟨g.aY,g.kind,g.aZ,g.data⟩
def zGr:aU:=⟨0,0,[],noS⟩
def okN (n:Int):Bool:=decide (0<=n/\n<=4611686018427387904)
def iQ (g:aU):Bool:=decide (1<=g.aY/\g.aY<=4294967296) && (decide (1<=g.kind/\g.kind<=4) && (decide (g.aZ.length<=64) && g.aZ.all okN))
def mc (g:aU):List Int:=[g.aY,g.kind,(g.aZ.length:Int)].flatMap cF++g.aZ.flatMap cF++(cF g.data.size++sbs g.data)
def eO (g:aU):ByteArray:=na (dL (mc g))
def gr (g:aU):Int:=if iQ g=false then 6 else if (eO g).size > 8192 then 3 else 0
def yR (g:aU):ByteArray:=if gr g=0 then eO g else noS
theorem lA (l:List Int):(l.flatMap cF).length<=9*l.length:=by
 induction l with
 | nil=>simp
 | cons a l ih =>
  have:=cG a
  simp only [List.flatMap_cons,List.length_append,List.length_cons]
  omega
theorem sR {g:aU} (h:g.aZ.length<=64):(mc g).length<=700+g.data.size:=by
 have h1:=lA [g.aY,g.kind,(g.aZ.length:Int)]
 have h2:=lA g.aZ
 have h3:=cG (g.data.size:Int)
 unfold mc
 simp only [List.length_append,aV]
 simp only [List.length_cons,List.length_nil] at h1
 omega
theorem uQ (n lo hi:Int):gL n lo hi=some (decide (lo<=n/\n<=hi)):=by
 unfold gL
 by_cases a:n>=lo
 ·rw [decide_eq_true a,cond_true,aA]
  by_cases b:n<=hi
  ·rw [decide_eq_true b,decide_eq_true ⟨a,b⟩]
  ·rw [decide_eq_false b,decide_eq_false λh=>b h.2]
 ·rw [decide_eq_false a,cond_false,aA,decide_eq_false λh=>a h.1]
theorem BE {α ρ:Type} (l:List α) (hl:l.length<=1000000) (p:α->Bool) (bad:ρ) (f:Int->Option (Int ⊕ (Unit ⊕ ρ))) (hf: ∀ (i:Nat) (h:i < l.length),f i=if p l[i]=true then some (.inl ((i:Int)+1)) else some (.inr (.inr bad))) (he:f l.length=some (.inr (.inl ()))):iter f 0=some (if l.all p=true then .inl () else .inr bad):=by
 have key: ∀ k i:Nat,i+k=l.length->iter f (i:Int)=some (if (l.drop i).all p=true then .inl () else .inr bad):=by
  intro k
  induction k with
  | zero =>
   intro i h
   rw [show i=l.length by omega,List.drop_length]
   exact bA he
  | succ k ih =>
   intro i h
   have hi:i < l.length:=by omega
   rw [List.drop_eq_getElem_cons hi,List.all_cons]
   have e:=hf i hi
   cases hp:p l[i] with
   | true =>
    rw [hp,if_pos rfl] at e
    rw [bZ e,show ((i:Int)+1)=((i+1:Nat):Int) by omega,ih (i+1) (by omega),Bool.true_and]
   | false =>
    rw [hp,if_neg (by simp)] at e
    rw [bA e,Bool.false_and,if_neg (by simp)]
 exact key l.length 0 (by omega)
theorem zU {g:aU} (h:g.aZ.length<=1000000):gy g=some (iQ g):=by
 unfold gy iQ
 rw [uQ,uQ,aA,aA]
 by_cases a:1<=g.aY/\g.aY<=4294967296
 ·rw [decide_eq_true a,Bool.not_true,cond_false,Bool.true_and]
  by_cases b:1<=g.kind/\g.kind<=4
  ·rw [decide_eq_true b,Bool.not_true,cond_false,aA,Bool.true_and]
   by_cases c:g.aZ.length<=64
   ·rw [decide_eq_false (by omega),cond_false,decide_eq_true c,Bool.true_and]
    rw [BE g.aZ (by omega) okN false _ ?hf ?he]
    case hf =>
     intro i hi
     show (bif (decide ((i:Int) < (g.aZ.length:Int))) then _ else _)=_
     rw [decide_eq_true (by omega),cond_true,bL _ i hi,aA,uQ,aA,w64 (by omega) (by omega)]
     unfold okN
     cases decide (0<=g.aZ[i]/\g.aZ[i]<=4611686018427387904) <;> rfl
    case he =>
     show (bif (decide ((g.aZ.length:Int) < (g.aZ.length:Int))) then _ else _)=_
     rw [decide_eq_false (by omega),cond_false]
    rw [aA]
    cases hh:g.aZ.all okN <;> rfl
   ·rw [decide_eq_true (by omega),cond_true,decide_eq_false c]
    rfl
  ·rw [decide_eq_false b,Bool.not_false,cond_true,aA,cond_true]
   rfl
 ·rw [decide_eq_false a,Bool.not_false,cond_true,aA,cond_true]
  rfl
theorem ug {g:aU} (h:g.aZ.length<=64) (hd:g.data.size<=100000):fP g=some (eO g):=by
 have h1:=lA [g.aY,g.kind,(g.aZ.length:Int)]
 have h2:=lA g.aZ
 have hb:=sR h
 simp only [List.length_cons,List.length_nil] at h1
 unfold fP eO
 rw [lP [] _ (by simp),aA,List.nil_append,lP _ _ (by omega),aA,vX _ _ (by rw [List.length_append]; omega),aA,show ∀ b,eY ⟨b⟩=some (dL b) from λb=>rfl,aA]
 show Option.bind (kO (dL (mc g))) _=_
 rw [C9 (by rw [bP]; omega),aA]
theorem xQ {g:aU} (h:g.aZ.length<=64) (hd:g.data.size<=100000):jJ (o2 g)=some (eO g):=by
 have hb:=sR h
 have h1:=lA g.aZ
 have a1:=cG g.aY
 have a2:=cG g.kind
 have a3:=cG (g.aZ.length:Int)
 have a4:=cG (g.data.size:Int)
 unfold jJ eO o2
 dsimp only
 rw [iB,aA,iB,aA,dW (by rw [bP,bP]; omega),aA,iB,aA,<- dG,dW (by rw [bP,bP,List.length_append]; omega),aA,<- dG]
 have hpre: ∀ i,((g.aZ.take i).flatMap cF).length<=9*64:=λi=>by
  have:=lA (g.aZ.take i)
  have h2:(g.aZ.take i).length<=64:=by rw [List.length_take]; omega
  omega
 refine dX (λi:Nat=>((i:Int),dL ((cF g.aY++cF g.kind++cF (g.aZ.length:Int))++(g.aZ.take i).flatMap cF))) g.aZ.length (dL ((cF g.aY++cF g.kind++cF (g.aZ.length:Int))++g.aZ.flatMap cF)) (by simp) ?_ ?_ ?_
 ·intro i hi
  have h2:=hpre i
  have h3:=cG g.aZ[i]
  dsimp only
  rw [decide_eq_true (by omega),cond_true,bL _ i hi,aA,iB,aA,dW (by rw [bP,bP]; simp only [List.length_append]; omega),aA,<- dG,w64 (by omega) (by omega),List.take_succ_eq_append_getElem hi,List.flatMap_append,List.flatMap_singleton,List.append_assoc _ _ (cF g.aZ[i])]
  rfl
 ·dsimp only
  rw [decide_eq_false (by omega),cond_false,List.take_length]
 ·rw [sJ _ (by omega),aA,dW (by rw [bP,bP]; simp only [List.length_append,aV]; omega),aA,<- dG]
  have e:cF g.aY++cF g.kind++cF (g.aZ.length:Int)++g.aZ.flatMap cF++(cF (g.data.size:Int)++sbs g.data)=mc g:=by
   unfold mc
   simp
  rw [e,v9 (by rw [bP]; omega),aA]
theorem uh {g:aU} (h:g.aZ.length<=1000000) (hd:g.data.size<=100000):fQ g=some (gr g):=by
 unfold fQ gr
 rw [zU h,aA]
 cases hr:iQ g with
 | false=>rfl
 | true =>
  have hn:g.aZ.length<=64:=by
   unfold iQ at hr
   simp only [Bool.and_eq_true,decide_eq_true_eq] at hr
   exact hr.2.2.1
  rw [Bool.not_true,cond_false,ug hn hd,aA,if_neg (by simp)]
  by_cases c:(eO g).size > 8192
  ·rw [decide_eq_true (by omega),cond_true,if_pos c]
  ·rw [decide_eq_false (by omega),cond_false,if_neg c]
theorem xR {g:aU} (h:g.aZ.length<=1000000) (hd:g.data.size<=100000):jK (o2 g)=some (gr g):=by
 unfold jK gr iQ
 have hc:((bif (decide ((o2 g).aY < 1)) then some true else (bif (decide ((o2 g).aY > 4294967296)) then some true else (bif (decide ((o2 g).kind < 1)) then some true else (bif (decide ((o2 g).kind > 4)) then some true else some (decide (((o2 g).aZ.length:Int) > 64)))))):Option Bool)=some (!(decide (1<=g.aY/\g.aY<=4294967296) && (decide (1<=g.kind/\g.kind<=4) && decide (g.aZ.length<=64)))):=by
  show ((bif (decide (g.aY < 1)) then some true else (bif (decide (g.aY > 4294967296)) then some true else (bif (decide (g.kind < 1)) then some true else (bif (decide (g.kind > 4)) then some true else some (decide ((g.aZ.length:Int) > 64)))))):Option Bool)=_
  by_cases a:g.aY < 1
  ·simp [a,show ¬ 1<=g.aY by omega]
  ·by_cases b:g.aY > 4294967296
   ·simp [a,b,show ¬ g.aY<=4294967296 by omega]
   ·by_cases c:g.kind < 1
    ·simp [a,b,c,show ¬ 1<=g.kind by omega]
    ·by_cases d:g.kind > 4
     ·simp [a,b,c,d,show ¬ g.kind<=4 by omega]
     ·by_cases e:g.aZ.length<=64
      ·simp [a,b,c,d,e,show 1<=g.aY by omega,show g.aY<=4294967296 by omega,show 1<=g.kind by omega,show g.kind<=4 by omega]
       omega
      ·simp [a,b,c,d,e,show 1<=g.aY by omega,show g.aY<=4294967296 by omega,show 1<=g.kind by omega,show g.kind<=4 by omega]
       omega
 rw [hc,aA]
 rw [show (decide (1<=g.aY/\g.aY<=4294967296) && (decide (1<=g.kind/\g.kind<=4) && (decide (g.aZ.length<=64) && g.aZ.all okN)))=((decide (1<=g.aY/\g.aY<=4294967296) && (decide (1<=g.kind/\g.kind<=4) && decide (g.aZ.length<=64))) && g.aZ.all okN) by simp only [Bool.and_assoc]]
 cases hh:(decide (1<=g.aY/\g.aY<=4294967296) && (decide (1<=g.kind/\g.kind<=4) && decide (g.aZ.length<=64))) with
 | false=>rfl
 | true =>
  simp only [Bool.and_eq_true,decide_eq_true_eq] at hh
  have hn:=hh.2.2
  rw [Bool.not_true,cond_false,Bool.true_and]
  rw [BE g.aZ (by omega) okN (6:Int) _ ?hf ?he]
  case he =>
   show (bif (decide ((g.aZ.length:Int) < (g.aZ.length:Int))) then _ else _)=_
   rw [decide_eq_false (by omega),cond_false]
  case hf =>
   intro i hi
   show (bif (decide ((i:Int) < (g.aZ.length:Int))) then _ else _)=_
   rw [decide_eq_true (by omega),cond_true,show idx (o2 g).aZ (i:Int)=some g.aZ[i] from bL _ i hi,aA,w64 (by omega) (by omega)]
   unfold okN
   by_cases a:g.aZ[i] < 0
   ·rw [decide_eq_true a,cond_true,aA,cond_true,decide_eq_false (by omega)]
    rfl
   ·rw [decide_eq_false a,cond_false,aA]
    by_cases b:g.aZ[i] > 4611686018427387904
    ·rw [decide_eq_true b,cond_true,decide_eq_false (by omega)]
     rfl
    ·rw [decide_eq_false b,cond_false,decide_eq_true (by omega)]
     rfl
  ·rw [aA]
   cases ha:g.aZ.all okN with
   | false=>rfl
   | true =>
    rw [if_pos rfl,if_neg (by simp)]
    dsimp only
    rw [xQ hn hd,aA]
    by_cases c:(eO g).size > 8192
    ·rw [decide_eq_true (by omega),cond_true,if_pos c]
    ·rw [decide_eq_false (by omega),cond_false,if_neg c]
theorem wj {g:aU} (h:g.aZ.length<=1000000) (hd:g.data.size<=100000):eJ g=some (yR g):=by
 unfold eJ yR
 rw [uh h hd,aA]
 by_cases c:gr g=0
 ·have hn:g.aZ.length<=64:=by
   unfold gr at c
   cases hr:iQ g with
   | false=>rw [hr] at c; simp at c
   | true =>
    unfold iQ at hr
    simp only [Bool.and_eq_true,decide_eq_true_eq] at hr
    exact hr.2.2.1
  rw [c,show ((0:Int) != 0)=false from rfl,cond_false,ug hn hd,aA,if_pos rfl]
 ·rw [show (gr g != 0)=true by simpa using c,cond_true,if_neg c]
  rfl
end Go.Tw.X

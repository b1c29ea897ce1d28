import Derived.Test.YtdhkangklnlnoaaGreatDoorXp1
import Derived.Test.YtdhkangklnlnoaaGreatDoorFw2
import Derived.Laws.BitsLemmas
import Derived.Laws.Strings
set_option linter.unusedVariables false
set_option linter.unusedSimpArgs false
namespace Go.Tw.X
open Go Go.Tw
def tc (c:aO):dE:=⟨c.rune,c.bU,c.part⟩
def told (r:aY):bJ:=⟨r.cells.map tc,r.wrapped⟩
theorem B7 (n:Int):IntKind.u64.wrap n=n % 18446744073709551616:=by simp [IntKind.wrap,IntKind.bits,IntKind.signed]
theorem Em (n:Int) (h0:0<=n) (h1:n < 2 ^ 63):IntKind.u64.wrap n=n:=by rw [B7]; omega
theorem yL (y:Int) (h0:0<=y) (h1:y < 4294967296):Go.bits .and .u64 y 4294967295=y:=by
 have h:=bits_mask .u64 63 (by decide) Em 32 (by decide) y h0 (by omega)
 have e:((2:Int) ^ 32 - 1)=4294967295:=by decide
 have e2:((2:Int) ^ 32)=4294967296:=by decide
 rw [e,e2] at h
 rw [h]
 omega
theorem B8 {x:Int} (h0:0<=x) (h1:x < 18446744073709551616):IntKind.u64.wrap x=x:=by rw [B7]; omega
theorem yM (n:Int) (h0:0<=n) (h1:n<=1000000):my 1 n=some (0,n):=by
 have e32:(2:Int) ^ (min 32 64)=4294967296:=by decide
 have f1:Int.fdiv 1 4294967296=0:=by decide
 have f2:Int.fdiv n 4294967296=0:=by rw [Int.fdiv_eq_ediv_of_nonneg _ (by decide)]; omega
 have f0:Int.fdiv 0 4294967296=0:=by decide
 have z0:IntKind.u64.wrap 0=0:=by rw [B7]; rfl
 have m0:Go.bits .and .u64 0 4294967295=0:=yL 0 (by omega) (by omega)
 have m1:Go.bits .and .u64 1 4294967295=1:=yL 1 (by omega) (by omega)
 have mn:=yL n h0 (by omega)
 have un:IntKind.u64.wrap n=n:=B8 h0 (by omega)
 unfold my mb
 simp only [e32,f1,f2,m1,mn,Int.zero_mul,Int.mul_zero,Int.one_mul,z0,un,f0,Int.add_zero,Int.zero_add,m0,aA]
theorem AY (c:aO) (n:Int) (h0:0<=n) (h1:n<=1000000):dX [c] n=some (List.replicate n.toNat c):=by
 unfold dX
 have hn:decide (n < 0)=false:=decide_eq_false (by omega)
 have u1:IntKind.u64.wrap (([c].length:Nat):Int)=1:=B8 (by simp) (by simp)
 rw [hn,cond_false,u1,B8 h0 (by omega),yM n h0 h1]
 simp only [aA]
 have g1:decide ((0:Int) > 0)=false:=by decide
 have g2:decide (n > 9223372036854775807)=false:=decide_eq_false (by omega)
 rw [g1,cond_false,aA,g2,cond_false,w64 (by omega) (by omega),rD h0 (by omega) (by omega),aA]
 obtain ⟨k,rfl⟩: ∃ k:Nat,n=k:=⟨n.toNat,by omega⟩
 simp only [Int.toNat_natCast,List.length_cons,List.length_nil,List.length_replicate]
 have key: ∀ m j,k - j=m->j<=k->(1<=j\/k=0)->iter (σ:=(List aO)×Int) (ρ:=(List aO)) (λa=>(bif (decide (a.2 < (a.1.length:Int))) then (Option.bind (chk (eK a.2 (a.1.length:Int) a.1.length)) λ_=>(Option.bind (chk (eK 0 a.2 a.1.length)) λ_=>some (.inl ((uC a.1 a.2.toNat),(IntKind.i64.wrap (a.2+((Nat.min a.2.toNat (a.1.length - a.2.toNat):Nat):Int))))))) else some (.inr a.1))) (List.replicate j c++List.replicate (k - j) (aO.mk 0 0 0),(j:Int))=some (List.replicate k c):=by
  intro m
  induction m using Nat.strongRecOn with
  | _ m ih =>
   intro j hm hj h1j
   have hlen:(List.replicate j c++List.replicate (k - j) (aO.mk 0 0 0)).length=k:=by simp; omega
   by_cases hjk:j < k
   ·have hmin:Nat.min j (k - j)=min j (k - j):=rfl
    rw [bX (s':=(List.replicate (j+min j (k - j)) c++List.replicate (k - (j+min j (k - j))) (aO.mk 0 0 0),((j+min j (k - j):Nat):Int)))]
    ·exact ih (k - (j+min j (k - j))) (by omega) _ rfl (by omega) (by omega)
    ·have hc:decide ((j:Int) < ((List.replicate j c++List.replicate (k - j) (aO.mk 0 0 0)).length:Int))=true:=by rw [hlen]; simp; omega
     simp only [hc,cond_true]
     rw [hlen,cV (by omega) (by omega) (by omega),aA,cV (by omega) (by omega) (by omega),aA,Int.toNat_natCast,hmin,w64 (by omega) (by omega)]
     congr 2
     refine Prod.ext ?_ ?_
     ·show uC _ _=_
      unfold uC
      rw [hlen]
      have t1:(List.replicate j c++List.replicate (k - j) (aO.mk 0 0 0)).take j=List.replicate j c:=by rw [List.take_left']; simp
      rw [t1,List.take_replicate,List.drop_append,List.drop_of_length_le (by simp),List.nil_append,List.length_replicate,List.drop_replicate,List.replicate_append_replicate,Nat.min_comm (k - j) j]
      congr 2
      omega
     ·show ((j:Int)+((min j (k - j):Nat):Int))=_
      omega
   ·have hjk':j=k:=by omega
    subst hjk'
    rw [bA (r:=List.replicate j c)]
    simp
 have hs:cpy (List.replicate k (aO.mk 0 0 0)) [c]=List.replicate (min 1 k) c++List.replicate (k - min 1 k) (aO.mk 0 0 0):=by
  unfold cpy
  cases k with
  | zero=>simp
  | succ k=>simp [Nat.min_eq_left]
 have hmin:Nat.min (0+1) k=min 1 k:=rfl
 rw [hs,hmin,key _ (min 1 k) rfl (by omega) (by omega),aA]
theorem B9 (l:List aO) (h:l.length<=1000000):fw l=some l:=by
 unfold fw
 rw [bR (by simp; omega),aA]
 rfl
theorem lK (x y:aO):((x.rune == y.rune) && ((x.bU == y.bU) && ((x.part == y.part) && true)))=decide (x=y):=by
 obtain ⟨a,b,c⟩:=x
 obtain ⟨d,e,f⟩:=y
 by_cases h1:a=d <;> by_cases h2:b=e <;> by_cases h3:c=f <;> simp [h1,h2,h3]
theorem Ca (a b:List aO) (h:a.length<=1000000):fy a b=some (decide (a=b)):=by
 unfold fy
 by_cases hl:a.length=b.length
 ·have e:((a.length:Int) != (b.length:Int))=false:=by simp [hl]
  rw [e,cond_false]
  have key: ∀ (x y d d2:List aO),d++x=a->d2++y=b->d=d2->x.length=y.length->iter (σ:=Int) (ρ:=Unit ⊕ Bool) (λf=>(bif (decide (f < (a.length:Int))) then (Option.bind (idx a f) λg=>(Option.bind (idx b f) λi=>(bif (!((g.rune == i.rune) && ((g.bU == i.bU) && ((g.part == i.part) && true)))) then (fp (some false)) else some (.inl (IntKind.i64.wrap (f+1)))))) else some (.inr (.inl ())))) (d.length:Int)=some (if x=y then .inl () else .inr false):=by
   intro x
   induction x with
   | nil =>
    intro y d d2 hd hd2 hdd hxy
    have:y=[]:=List.eq_nil_of_length_eq_zero hxy.symm
    subst this
    simp at hd
    subst hd
    rw [bA (r:= .inl ())]
    ·simp
    ·simp
   | cons c x ih =>
    intro y d d2 hd hd2 hdd hxy
    cases y with
    | nil=>simp at hxy
    | cons c2 y =>
     subst hdd
     have hal:a.length=d.length+x.length+1:=by rw [<- hd]; simp; omega
     have hc:decide ((d.length:Int) < (a.length:Int))=true:=by simp; omega
     have hx:idx a (d.length:Int)=some c:=by rw [<- hd]; exact oV d x c
     have hx2:idx b (d.length:Int)=some c2:=by rw [<- hd2]; exact oV d y c2
     by_cases hcc:c=c2
     ·subst hcc
      rw [bX (s':=((d++[c]).length:Int))]
      ·rw [ih y (d++[c]) (d++[c]) (by simpa using hd) (by simpa using hd2) rfl (by simpa using hxy)]
       simp
      ·simp only [hc,cond_true,hx,hx2,aA,lK]
       rw [w64 (by omega) (by omega)]
       simp
     ·rw [bA (r:= .inr false)]
      ·simp [hcc]
      ·simp only [hc,cond_true,hx,hx2,aA,lK]
       have:decide (c=c2)=false:=decide_eq_false hcc
       rw [this]
       rfl
  have h0:=key a b [] [] rfl rfl rfl hl
  have e0:((([]:List aO).length:Nat):Int)=0:=rfl
  rw [e0] at h0
  rw [h0,aA]
  by_cases hab:a=b
  ·rw [if_pos hab]; simp [hab]
  ·rw [if_neg hab]; simp [hab]
 ·have e:((a.length:Int) != (b.length:Int))=true:=by simp; omega
  rw [e,cond_true]
  have:a≠b:=λh=>hl (by rw [h])
  simp [this]
theorem zZ (r q:aY) (h:r.cells.length<=1000000):iq r q=some (decide (r=q)):=by
 unfold iq
 obtain ⟨a,x⟩:=r
 obtain ⟨b,y⟩:=q
 rw [Ca a b h]
 cases x <;> cases y <;> simp
theorem fm (l:List aO):(l.map tc).length=l.length:=List.length_map _
def rok (x:Int):Prop:= -2147483648<=x/\x<=2147483647
def okR (l:List aO):Prop:= ∀ c∈l,rok c.rune
theorem z6 {a b:List aO} (ha:okR a) (hb:okR b):okR (a++b):=λc hc=>(List.mem_append.1 hc).elim (ha c) (hb c)
theorem Cb {a:List aO} (ha:okR a) (n:Nat):okR (a.drop n):=λc hc=>ha c (List.mem_of_mem_drop hc)
theorem w32 {x:Int} (h:rok x):IntKind.i64.wrap x=x:=by obtain ⟨h1,h2⟩:=h; exact w64 (by omega) (by omega)
theorem G1 (r:aY) (h:r.cells.length<=1000000) (hr:okR r.cells):kl r (told r)=some true:=by
 unfold kl told
 simp only [fm]
 have e6:((bif ((r.cells.length:Int) != (r.cells.length:Int)) then some true else some (!(r.wrapped == r.wrapped))):Option Bool)=some false:=by simp
 rw [e6,aA,cond_false]
 have key: ∀ (b d:List aO),d++b=r.cells->iter (σ:=Int) (ρ:=Unit ⊕ Bool) (λa=>(bif (decide (a < (r.cells.length:Int))) then (Option.bind (idx r.cells a) λe=>(Option.bind ((Option.bind (idx (r.cells.map tc) a) λf=>(bif ((IntKind.i64.wrap e.rune) != f.rune) then some true else (Option.bind (idx (r.cells.map tc) a) λg=>(bif (e.bU != g.bU) then some true else (Option.bind (idx (r.cells.map tc) a) λi=>some (e.part != i.part)))))):Option Bool) λj=>(bif j then (fp (some false)) else some (.inl (IntKind.i64.wrap (a+1)))))) else some (.inr (.inl ())))) (d.length:Int)=some (.inl ()):=by
  intro b
  induction b with
  | nil =>
   intro d hd
   simp at hd
   subst hd
   rw [bA (r:= .inl ())]
   simp
  | cons c b ih =>
   intro d hd
   have hl:r.cells.length=d.length+b.length+1:=by rw [<- hd]; simp; omega
   have hc:decide ((d.length:Int) < (r.cells.length:Int))=true:=by simp; omega
   have hx:idx r.cells (d.length:Int)=some c:=by rw [<- hd]; exact oV d b c
   have hx2:idx (r.cells.map tc) (d.length:Int)=some (tc c):=by
    rw [<- hd,List.map_append,List.map_cons,<- fm d]
    exact oV _ _ _
   have hcr:rok c.rune:=hr c (by rw [<- hd]; simp)
   rw [bX (s':=((d++[c]).length:Int))]
   ·exact ih (d++[c]) (by simpa using hd)
   ·simp only [hc,cond_true,hx,hx2,aA,w32 hcr,tc,bne_self_eq_false,cond_false]
    rw [w64 (by omega) (by omega)]
    simp
 have h0:=key r.cells [] rfl
 have e0:((([]:List aO).length:Nat):Int)=0:=rfl
 rw [e0] at h0
 rw [h0,aA]
theorem mf {σ ρ:Type} {f:σ->Option (σ ⊕ ρ)} (S:Nat->σ) (n:Nat) (r:ρ) (hs: ∀ i,i < n->f (S i)=some (.inl (S (i+1)))) (he:f (S n)=some (.inr r)):iter f (S 0)=some r:=by
 have key: ∀ i,i<=n->iter f (S 0)=iter f (S i):=by
  intro i
  induction i with
  | zero=>intro _; rfl
  | succ i ih =>
   intro hi
   rw [ih (by omega),bX (hs i (by omega))]
 rw [key n (Nat.le_refl n),bA he]
theorem dV {σ ρ β:Type} {f:σ->Option (σ ⊕ ρ)} {s:σ} {g:ρ->Option β} {out:Option β} (S:Nat->σ) (n:Nat) (r:ρ) (h0:s=S 0) (hs: ∀ i,i < n->f (S i)=some (.inl (S (i+1)))) (he:f (S n)=some (.inr r)) (hg:g r=out):Option.bind (iter f s) g=out:=by
 rw [h0,mf S n r hs he]
 exact hg
theorem nG {σ ρ:Type} {f:σ->Option (σ ⊕ ρ)} (Inv:σ->Prop) (m:σ->Nat) (nk:ρ->Prop)
  (hs: ∀ s,Inv s->(∃ s',f s=some (.inl s')/\Inv s'/\m s' < m s)\/(∃ r,f s=some (.inr r)/\nk r)): ∀ s,Inv s -> ∃ r,iter f s=some r/\nk r:=by
 have key: ∀ (n:Nat) s,m s<=n->Inv s -> ∃ r,iter f s=some r/\nk r:=by
  intro n
  induction n with
  | zero =>
   intro s hm hi
   rcases hs s hi with ⟨s',hf,hi',hlt⟩ | ⟨r,hf,hp⟩
   ·omega
   ·exact ⟨r,bA hf,hp⟩
  | succ n ih =>
   intro s hm hi
   rcases hs s hi with ⟨s',hf,hi',hlt⟩ | ⟨r,hf,hp⟩
   ·rw [bX hf]
    exact ih s' (by omega) hi'
   ·exact ⟨r,bA hf,hp⟩
 intro s hi
 exact key (m s) s (Nat.le_refl _) hi
theorem qi {σ ρ β:Type} {f:σ->Option (σ ⊕ ρ)} {s:σ} {g:ρ->Option β} {out:Option β} (Inv:σ->Prop) (m:σ->Nat) (nk:ρ->Prop) (h0:Inv s)
  (hs: ∀ s,Inv s->(∃ s',f s=some (.inl s')/\Inv s'/\m s' < m s)\/(∃ r,f s=some (.inr r)/\nk r)) (hg: ∀ r,nk r->g r=out):Option.bind (iter f s) g=out:=by
 obtain ⟨r,h1,h2⟩:=nG Inv m nk hs s h0
 rw [h1]
 exact hg r h2
theorem or2 (p q:Prop) [Decidable p] [Decidable q]:((bif decide p then some true else some (decide q)):Option Bool)=some (decide (p\/q)):=by
 by_cases a1:p <;> by_cases a2:q <;> simp [a1,a2]
theorem bE {α:Type} (l:List α) (n:Nat) (h:n < l.length):idx l (n:Int)=some l[n]:=by rw [qg,List.getElem?_eq_getElem h]
theorem En {α:Type} (l r:List α) (x y:α):(l++x::r).set l.length y=l++y::r:=by simp
theorem qj {α:Type} (l:List α) (a b:Nat):cut l (a:Int) (b:Int)=(l.take b).drop a:=by simp [cut]
def tI:aY:=⟨[],false⟩
theorem Cc {α:Type} {l r:List α} {x:α} {k:Int} (h:k=l.length):idx (l++x::r) k=some x:=by rw [h,oV]
theorem Cd {α:Type} {l r:List α} {x y:α} {k:Nat} (h:k=l.length):(l++x::r).set k y=l++y::r:=by rw [h,En]
theorem F8 {x:Int} (h0:0<=x) (h1:x < 256):IntKind.u8.wrap x=x:=by rw [IntKind.wrap_u8]; omega
theorem foldl_push (xs:List Int): ∀ l:List UInt8,xs.foldl (λr n=>r.push (UInt8.ofNat n.toNat)) (ByteArray.mk l.toArray)=ByteArray.mk (l++xs.map (λn=>UInt8.ofNat n.toNat)).toArray:=by
 induction xs with
 | nil=>intro l; simp
 | cons a xs ih =>
  intro l
  rw [List.foldl_cons]
  have:(ByteArray.mk l.toArray).push (UInt8.ofNat a.toNat)=ByteArray.mk (l++[UInt8.ofNat a.toNat]).toArray:=by
   show ByteArray.mk (l.toArray.push _)=_
   rw [List.push_toArray]
  rw [this,ih]
  simp
theorem mX (xs:List Int):dL xs=ByteArray.mk (xs.map (λn=>UInt8.ofNat n.toNat)).toArray:=foldl_push xs []
theorem dG (a b:List Int):dL (a++b)=dL a++dL b:=by
 rw [mX,mX,mX,ByteArray.mk_append_mk,List.map_append]
theorem bP (a:List Int):(dL a).size=a.length:=by
 rw [mX]
 simp [ByteArray.size]
theorem dZ {n m:Nat} (h:n+m<=4611686018427387904):chk (kB n m)=some ():=jt h
def gC (n:Nat):List Int:=if n < 128 then [(n:Int)] else ((128+n % 128:Nat):Int)::gC (n / 128)
termination_by n
decreasing_by omega
def clN (n:Int):Nat:=(max 0 (min n 4611686018427387904)).toNat
theorem Ce (n:Int):imax 0 (cB n 4611686018427387904)=(clN n:Int):=by rw [vt,nW]; unfold clN; omega
theorem yN (n:Int):clN n<=4611686018427387904:=by unfold clN; omega
def cI (n:Int):List Int:=gC (clN n)
theorem eV {n:Nat} (h:n < 128):gC n=[(n:Int)]:=by rw [gC,if_pos h]
theorem lL {n:Nat} (h: ¬ n < 128):gC n=((128+n % 128:Nat):Int)::gC (n / 128):=by rw [gC,if_neg h]
theorem qk: ∀ (k n:Nat),n < 128 ^ (k+1)->(gC n).length<=k+1:=by
 intro k
 induction k with
 | zero =>
  intro n h
  rw [eV (by omega)]
  simp
 | succ k ih =>
  intro n h
  by_cases hn:n < 128
  ·rw [eV hn]
   simp
  ·rw [lL hn,List.length_cons]
   have:n / 128 < 128 ^ (k+1):=by
    rw [Nat.pow_succ] at h
    exact Nat.div_lt_of_lt_mul (by rw [Nat.mul_comm]; exact h)
   have:=ih _ this
   omega
theorem cJ (n:Int):(cI n).length<=9:=qk 8 _ (by have:=yN n; omega)
theorem nH: ∀ (n:Nat),∀ b∈gC n,0<=b/\b < 256:=by
 intro n
 induction n using Nat.strongRecOn with
 | _ n ih =>
  intro b hb
  by_cases hn:n < 128
  ·rw [eV hn,List.mem_singleton] at hb
   omega
  ·rw [lL hn] at hb
   rcases List.mem_cons.1 hb with rfl | hb
   ·omega
   ·exact ih (n / 128) (by omega) b hb
theorem Cg (x:Int) (h0:0<=x) (h1:x < 256):Go.bits .and .u8 x 127=x % 128:=by
 have h:=bits_mask .u8 8 (by decide) wraps_u8 7 (by decide) x h0 (by omega)
 have e:((2:Int) ^ 7 - 1)=127:=by decide
 have e2:((2:Int) ^ 7)=128:=by decide
 rw [e,e2] at h
 exact h
theorem or_comm (k:IntKind) (x y:Int):Go.bits .or k x y=Go.bits .or k y x:=by
 show k.wrap ((BitVec.ofInt k.bits x ||| BitVec.ofInt k.bits y).toNat:Int)=k.wrap ((BitVec.ofInt k.bits y ||| BitVec.ofInt k.bits x).toNat:Int)
 rw [BitVec.or_comm]
theorem Ep (y:Int) (h0:0<=y) (h1:y < 128):Go.bits .or .u8 y 128=128+y:=by
 rw [or_comm]
 exact bits_join .u8 8 (by decide) wraps_u8 7 128 y (by decide) (by decide) (by decide) h0 (by omega) (by omega)
theorem G2 (n:Nat):(n:Int).fdiv (2 ^ (min 7 64))=((n / 128:Nat):Int):=by
 rw [Int.fdiv_eq_ediv_of_nonneg _ (by decide)]
 show (n:Int) / 128=_
 omega
theorem AZ (b:List Int) (x:Int) (hb:b.length<=100000000): ∃ e,ju (λ(s661:cK) (x619:Int)=>(Option.bind (chk (cW s661.b.length [x619].length 1)) λ_=>some ((cK.mk (s661.b++[x619])),true))) (⟨b⟩:cK) x=some ((⟨b++cI x⟩:cK),e):=by
 unfold ju n4
 rw [Ce,aA]
 unfold cI
 have hle:=yN x
 generalize clN x=n at hle
 have key: ∀ (k n:Nat) (b:List Int),n < 128 ^ (k+1)->b.length+(k+1)<=100000010 -> ∃ e,iter (σ:=Int×cK) (ρ:=(Int×cK) ⊕ (cK×Int)) (λa=>(bif (decide (a.1>=128)) then (Option.bind ((λ(s661:cK) (x619:Int)=>(Option.bind (chk (cW s661.b.length [x619].length 1)) λ_=>some ((cK.mk (s661.b++[x619])),true))) a.2 (Go.bits .or .u8 (Go.bits .and .u8 (IntKind.u8.wrap a.1) 127) 128)) λz68=>(bif (!z68.2) then (fp (some (z68.1,a.1))) else some (.inl ((a.1.fdiv (2 ^ (min 7 64))),z68.1)))) else some (.inr (.inl (a.1,a.2))))) ((n:Int),(⟨b⟩:cK))=some (.inl ((e:Int),(⟨b++(gC n).dropLast⟩:cK)))/\0<=e/\e < 128/\gC n=(gC n).dropLast++[e]:=by
  intro k
  induction k with
  | zero =>
   intro n b h hb
   refine ⟨n,?_,by omega,by omega,?_⟩
   ·rw [eV (by omega)]
    refine bA ?_
    dsimp only
    rw [decide_eq_false (by omega),cond_false]
    simp
   ·rw [eV (by omega)]
    rfl
  | succ k ih =>
   intro n b h hb
   by_cases hn:n < 128
   ·refine ⟨n,?_,by omega,by omega,?_⟩
    ·rw [eV hn]
     refine bA ?_
     dsimp only
     rw [decide_eq_false (by omega),cond_false]
     simp
    ·rw [eV hn]
     rfl
   ·have hlt:n / 128 < 128 ^ (k+1):=by
     rw [Nat.pow_succ] at h
     exact Nat.div_lt_of_lt_mul (by rw [Nat.mul_comm]; exact h)
    obtain ⟨e,h1,h2,h3,h4⟩:=ih (n / 128) (b++[((128+n % 128:Nat):Int)]) hlt (by simp; omega)
    refine ⟨e,?_,h2,h3,?_⟩
    ·rw [bX (s':=(((n / 128:Nat):Int),(⟨b++[((128+n % 128:Nat):Int)]⟩:cK)))]
     ·rw [h1,lL hn]
      have hne:gC (n / 128)≠[]:=by rw [h4]; simp
      rw [List.dropLast_cons_of_ne_nil hne]
      simp
     ·dsimp only
      have hw:IntKind.u8.wrap (n:Int)=((n % 256:Nat):Int):=by rw [IntKind.wrap_u8]; omega
      have hv:Go.bits .or .u8 (Go.bits .and .u8 (IntKind.u8.wrap (n:Int)) 127) 128=((128+n % 128:Nat):Int):=by
       rw [hw,Cg _ (by omega) (by omega),Ep _ (by omega) (by omega)]
       omega
      rw [decide_eq_true (by omega),cond_true,hv,bR (by simp; omega),aA,aA]
      dsimp only
      rw [Bool.not_true,cond_false,G2]
    ·rw [lL hn]
     have hne:gC (n / 128)≠[]:=by rw [h4]; simp
     rw [List.dropLast_cons_of_ne_nil hne,List.cons_append,<- h4]
 obtain ⟨e,h1,h2,h3,h4⟩:=key 8 n b (by omega) (by omega)
 have hl:=qk 8 n (by omega)
 have hd:(gC n).dropLast.length<=9:=by rw [List.length_dropLast]; omega
 refine ⟨e,?_⟩
 rw [h1,aA]
 dsimp only
 have hu:IntKind.u8.wrap e=e:=by rw [IntKind.wrap_u8]; omega
 rw [hu,bR (by simp only [List.length_append,List.length_singleton]; omega),aA,aA,List.append_assoc,<- h4]
theorem mg (b:List Int) (l:List Int) (hb:b.length+9*l.length<=10000000):dH ⟨b⟩ l=some ⟨b++l.flatMap cI⟩:=by
 unfold dH ma
 have hfl: ∀ l:List Int,(l.flatMap cI).length<=9*l.length:=by
  intro l
  induction l with
  | nil=>simp
  | cons a l ih =>
   rw [List.flatMap_cons,List.length_append,List.length_cons]
   have:=cJ a
   omega
 refine dV (λi=>((⟨b++(l.take i).flatMap cI⟩:cK),(i:Int))) l.length (⟨b++l.flatMap cI⟩:cK) ?_ ?_ ?_ rfl
 ·simp
 ·intro i hi
  dsimp only
  have h4:=hfl (l.take i)
  rw [List.length_take] at h4
  obtain ⟨e,he⟩:=AZ (b++(l.take i).flatMap cI) l[i] (by rw [List.length_append]; omega)
  rw [decide_eq_true (by omega),cond_true,bE l i hi,aA,aA,he,aA,w64 (by omega) (by omega),List.take_succ_eq_append_getElem hi,List.flatMap_append,List.flatMap_singleton,List.append_assoc]
  rfl
 ·dsimp only
  rw [decide_eq_false (by omega),cond_false,List.take_length]
theorem iP (x:Int):cG x=some (dL (cI x)):=by
 unfold cG
 rw [Ce]
 unfold cI
 have hle:=yN x
 generalize clN x=n at hle
 have key: ∀ (k n:Nat) (b:List Int),n < 128 ^ (k+1)->n<=4611686018427387904->b.length+(k+1)<=1000 -> ∃ e,iter (σ:=Int×(List Int)) (ρ:=Int×(List Int)) (λa=>(bif (decide (a.1>=128)) then (Option.bind (chk (cW a.2.length [(IntKind.u8.wrap (IntKind.i64.wrap (128+(a.1.tmod 128))))].length 1)) λ_=>some (.inl ((IntKind.i64.wrap (a.1.tdiv 128)),(a.2++[(IntKind.u8.wrap (IntKind.i64.wrap (128+(a.1.tmod 128))))])))) else some (.inr (a.1,a.2)))) ((n:Int),b)=some ((e:Int),b++(gC n).dropLast)/\0<=e/\e < 128/\gC n=(gC n).dropLast++[e]:=by
  intro k
  induction k with
  | zero =>
   intro n b h hmx hb
   refine ⟨n,?_,by omega,by omega,?_⟩
   ·rw [eV (by omega)]
    refine bA ?_
    dsimp only
    rw [decide_eq_false (by omega),cond_false]
    simp
   ·rw [eV (by omega)]
    rfl
  | succ k ih =>
   intro n b h hmx hb
   by_cases hn:n < 128
   ·refine ⟨n,?_,by omega,by omega,?_⟩
    ·rw [eV hn]
     refine bA ?_
     dsimp only
     rw [decide_eq_false (by omega),cond_false]
     simp
    ·rw [eV hn]
     rfl
   ·have hlt:n / 128 < 128 ^ (k+1):=by
     rw [Nat.pow_succ] at h
     exact Nat.div_lt_of_lt_mul (by rw [Nat.mul_comm]; exact h)
    obtain ⟨e,h1,h2,h3,h4⟩:=ih (n / 128) (b++[((128+n % 128:Nat):Int)]) hlt (by omega) (by simp; omega)
    refine ⟨e,?_,h2,h3,?_⟩
    ·have hbig:n < 9223372036854775808:=by omega
     ·rw [bX (s':=(((n / 128:Nat):Int),b++[((128+n % 128:Nat):Int)]))]
      ·rw [h1,lL hn]
       have hne:gC (n / 128)≠[]:=by rw [h4]; simp
       rw [List.dropLast_cons_of_ne_nil hne]
       simp
      ·dsimp only
       have m1:(n:Int).tmod 128=((n % 128:Nat):Int):=by rw [Int.tmod_eq_emod_of_nonneg (by omega)]; omega
       have d1:(n:Int).tdiv 128=((n / 128:Nat):Int):=by rw [Int.tdiv_eq_ediv_of_nonneg (by omega)]; omega
       rw [decide_eq_true (by omega),cond_true,m1,d1,w64 (by omega) (by omega),w64 (by omega) (by omega),F8 (by omega) (by omega),bR (by simp; omega),aA]
       have:(128:Int)+((n % 128:Nat):Int)=((128+n % 128:Nat):Int):=by omega
       rw [this]
    ·rw [lL hn]
     have hne:gC (n / 128)≠[]:=by rw [h4]; simp
     rw [List.dropLast_cons_of_ne_nil hne,List.cons_append,<- h4]
 obtain ⟨e,h1,h2,h3,h4⟩:=key 8 n [] (by omega) hle (by simp)
 have hl:=qk 8 n (by omega)
 have hd:(gC n).dropLast.length<=9:=by rw [List.length_dropLast]; omega
 rw [h1,aA]
 dsimp only
 rw [F8 h2 (by omega),bR (by simp only [List.length_append,List.length_singleton,List.length_nil]; omega),aA,List.nil_append,<- h4]
def most:Nat:=4611686018427387904
def rdp:Nat->Nat->Nat->List Int->Int ⊕ (Nat×Nat)
 | 0,_,_,_=> .inl 1
 | _+1,_,_,[]=> .inl 2
 | k+1,i,acc,b::r=>if b < 128 then (if (i > 0/\b=0)\/acc+b.toNat % 128*128 ^ i > most then .inl 1 else .inr (acc+b.toNat % 128*128 ^ i,i+1)) else rdp k (i+1) (acc+b.toNat % 128*128 ^ i) r
def noS:ByteArray:=ByteArray.mk #[]
theorem ql (s:ByteArray): ∀ b∈sbs s,0<=b/\b < 256:=by
 intro b hb
 unfold sbs at hb
 obtain ⟨c,_,rfl⟩:=List.mem_map.1 hb
 have:=c.toNat_lt
 omega
theorem qm (s:ByteArray) (i:Nat) (h:i < (sbs s).length):tE s (i:Int)=some (sbs s)[i]:=by
 unfold tE
 rw [decide_eq_true (by omega),cond_true,Int.toNat_natCast]
 have h2:i < s.data.size:=by rw [bB] at h; exact h
 rw [Array.getElem?_eq_getElem h2]
 simp only [sbs,Option.map_some,List.getElem_map,Array.getElem_toList]
theorem p2 (i:Nat):2 ^ (7*i)=128 ^ i:=by rw [Nat.pow_mul]
theorem pw8 {i:Nat} (h:i<=8):128 ^ i<=72057594037927936:=Nat.le_trans (Nat.pow_le_pow_right (by omega) h) (by decide)
theorem z7 (i acc b:Nat) (hi:i<=8) (ha:acc < 128 ^ i) (hb:b < 256) :
  Go.bits .or .i64 (acc:Int) (IntKind.i64.wrap ((IntKind.i64.wrap (Go.bits .and .u8 (b:Int) 127))*2 ^ (min (IntKind.i64.wrap (7*(i:Int))).toNat 64)))=((acc+b % 128*128 ^ i:Nat):Int)/\acc+b % 128*128 ^ i < 128 ^ (i+1):=by
 have hP:=pw8 hi
 have h7:(IntKind.i64.wrap (7*(i:Int))).toNat=7*i:=by rw [w64 (by omega) (by omega)]; omega
 have hm:min (7*i) 64=7*i:=by omega
 have hp:(2:Int) ^ (7*i)=((128 ^ i:Nat):Int):=by rw [<- p2]; simp
 rw [h7,hm,hp,Cg _ (by omega) (by omega)]
 have hlt:b % 128*128 ^ i<=127*128 ^ i:=Nat.mul_le_mul_right _ (by omega)
 have hP1:128 ^ (i+1)=128*128 ^ i:=by rw [Nat.pow_succ,Nat.mul_comm]
 have e1:IntKind.i64.wrap ((b:Int) % 128)=((b % 128:Nat):Int):=by rw [w64 (by omega) (by omega)]; omega
 have e2:((b % 128:Nat):Int)*((128 ^ i:Nat):Int)=((b % 128*128 ^ i:Nat):Int):=by simp
 rw [e1,e2]
 generalize hw:b % 128*128 ^ i=w at hlt
 rw [w64 (by omega) (by omega),or_comm]
 have hmod:(w:Int) % 2 ^ (7*i)=0:=by
  rw [hp,<- hw]
  rw [<- Int.natCast_emod,Nat.mul_mod_left]
  rfl
 have:=bits_join .i64 63 (by decide) (λn h0 h1=>w64 (by omega) (by omega)) (7*i) (w:Int) (acc:Int) (by omega) hmod (by omega) (by omega) (by rw [hp]; omega) (by omega)
 rw [this]
 constructor
 ·omega
 ·omega
def Es (s:ByteArray):Int ⊕ (Nat×Nat)->Int×aJ
 | .inl e=>(0,⟨noS,e⟩)
 | .inr (v,j)=>(v,⟨gD s j s.size,0⟩)
theorem nI (s:ByteArray) (e:Int) (h:e≠0):bQ ⟨s,0⟩ e=some ⟨noS,e⟩:=by
 unfold bQ
 have:(e != 0)=true:=by simpa using h
 simp [this,noS]
theorem rE (s:ByteArray) (e f:Int) (h:e≠0):bQ ⟨s,e⟩ f=some ⟨s,e⟩:=by
 unfold bQ
 have:(e == 0)=false:=by simpa using h
 simp [this]
theorem Eu (s:ByteArray) (hs:s.size<=1000000):bM ⟨s,0⟩=some (Es s (rdp 9 0 0 (sbs s))):=by
 unfold bM
 have hl:(sbs s).length=s.size:=bB s
 refine Eq.trans ?_ (congrArg (λl=>some (Es s (rdp 9 0 0 l))) (List.drop_zero (l:=sbs s)))
 have key: ∀ (k i acc:Nat),i+k=9->acc < 128 ^ i->i<=(sbs s).length->Option.bind (iter (σ:=Int×Int) (ρ:=Unit ⊕ (Int×aJ)) (λa=>(bif (decide (a.1 < (cB ((⟨s,0⟩:aJ).s.size:Int) 9))) then (Option.bind (tE (⟨s,0⟩:aJ).s a.1) λb213=>(Option.bind (chk (shk (IntKind.i64.wrap (7*a.1)))) λ_=>(bif (decide (b213>=128)) then some (.inl ((IntKind.i64.wrap (a.1+1)),(Go.bits .or .i64 a.2 (IntKind.i64.wrap ((IntKind.i64.wrap (Go.bits .and .u8 b213 127))*2 ^ (min (IntKind.i64.wrap (7*a.1)).toNat 64)))))) else (Option.bind ((bif (decide (a.1 > 0)) then (bif (b213 == 0) then some true else some (decide ((Go.bits .or .i64 a.2 (IntKind.i64.wrap ((IntKind.i64.wrap (Go.bits .and .u8 b213 127))*2 ^ (min (IntKind.i64.wrap (7*a.1)).toNat 64)))) > 4611686018427387904))) else some (decide ((Go.bits .or .i64 a.2 (IntKind.i64.wrap ((IntKind.i64.wrap (Go.bits .and .u8 b213 127))*2 ^ (min (IntKind.i64.wrap (7*a.1)).toNat 64)))) > 4611686018427387904))):Option Bool) λc=>(bif c then (Option.bind (bQ (⟨s,0⟩:aJ) 1) λd=>(fp (some (0,d)))) else (Option.bind (chk (eK (IntKind.i64.wrap (a.1+1)) ((⟨s,0⟩:aJ).s.size:Int) (⟨s,0⟩:aJ).s.size)) λ_=>(fp (some ((Go.bits .or .i64 a.2 (IntKind.i64.wrap ((IntKind.i64.wrap (Go.bits .and .u8 b213 127))*2 ^ (min (IntKind.i64.wrap (7*a.1)).toNat 64)))),(aJ.mk (gD (⟨s,0⟩:aJ).s (IntKind.i64.wrap (a.1+1)) ((⟨s,0⟩:aJ).s.size:Int)) (⟨s,0⟩:aJ).e)))))))))) else some (.inr (.inl ())))) ((i:Int),(acc:Int))) (λ | .inl e176=>(Option.bind ((bif (decide (((⟨s,0⟩:aJ).s.size:Int)>=9)) then (Option.bind (bQ (⟨s,0⟩:aJ) 1) λf=>some f) else some (⟨s,0⟩:aJ)):Option aJ) λg=>(Option.bind (bQ g 2) λj=>some (0,j))) | .inr w=>some w)=some (Es s (rdp k i acc ((sbs s).drop i))):=by
  intro k
  induction k with
  | zero =>
   intro i acc hi ha hil
   rw [bA (r:= .inl ())]
   ·rw [aA]
    dsimp only
    rw [decide_eq_true (by omega),cond_true,nI _ _ (by decide),aA,aA,rE _ _ _ (by decide),aA]
    rfl
   ·dsimp only
    rw [nW,decide_eq_false (by omega),cond_false]
  | succ k ih =>
   intro i acc hi ha hil
   by_cases hlt:i < (sbs s).length
   ·obtain ⟨hb0,hb1⟩:=ql s _ (List.getElem_mem hlt)
    have hx:=qm s i hlt
    rw [List.drop_eq_getElem_cons hlt]
    generalize (sbs s)[i]=b at hb0 hb1 hx
    obtain ⟨B,rfl⟩:=Int.eq_ofNat_of_zero_le hb0
    obtain ⟨hor,hbd⟩:=z7 i acc B (by omega) ha (by omega)
    have hshk:chk (shk (IntKind.i64.wrap (7*(i:Int))))=some ():=by
     rw [w64 (by omega) (by omega)]
     exact jt (by omega)
    unfold rdp
    rw [Int.toNat_natCast]
    by_cases hbig:(B:Int)>=128
    ·rw [bX (s':=(((i+1:Nat):Int),((acc+B % 128*128 ^ i:Nat):Int)))]
     ·rw [ih (i+1) (acc+B % 128*128 ^ i) (by omega) hbd (by omega),if_neg (by omega)]
     ·dsimp only
      rw [nW,decide_eq_true (by omega),cond_true,hx,aA,hshk,aA,decide_eq_true hbig,cond_true,hor,w64 (by omega) (by omega)]
      rfl
    ·rw [if_pos (by omega)]
     have hc:((bif (decide ((i:Int) > 0)) then (bif ((B:Int) == 0) then some true else some (decide (((acc+B % 128*128 ^ i:Nat):Int) > 4611686018427387904))) else some (decide (((acc+B % 128*128 ^ i:Nat):Int) > 4611686018427387904))):Option Bool)=some (decide ((i > 0/\(B:Int)=0)\/acc+B % 128*128 ^ i > most)):=by
      have hd: ∀ v:Nat,decide ((v:Int) > 4611686018427387904)=decide (v > most):=λv=>by
       unfold most
       congr 1
       apply propext
       omega
      rw [hd]
      by_cases c1:i > 0
      ·have c1':(i:Int) > 0:=by omega
       rw [decide_eq_true c1',cond_true]
       by_cases c2:(B:Int)=0
       ·have:((B:Int) == 0)=true:=by simpa using c2
        rw [this,cond_true,decide_eq_true (.inl ⟨c1,c2⟩)]
       ·have:((B:Int) == 0)=false:=by simpa using c2
        rw [this,cond_false]
        congr 1
        by_cases c3:acc+B % 128*128 ^ i > most
        ·rw [decide_eq_true c3,decide_eq_true (.inr c3)]
        ·rw [decide_eq_false c3,decide_eq_false (by rintro (h | h); exact c2 h.2; exact c3 h)]
      ·rw [decide_eq_false (by omega),cond_false]
       congr 1
       by_cases c3:acc+B % 128*128 ^ i > most
       ·rw [decide_eq_true c3,decide_eq_true (.inr c3)]
       ·rw [decide_eq_false c3,decide_eq_false (by rintro (h | h); exact c1 h.1; exact c3 h)]
     by_cases hf:(i > 0/\(B:Int)=0)\/acc+B % 128*128 ^ i > most
     ·rw [if_pos hf,bA (r:= .inr (0,⟨noS,1⟩))]
      ·rfl
      ·dsimp only
       rw [nW,decide_eq_true (by omega),cond_true,hx,aA,hshk,aA,decide_eq_false hbig,cond_false,hor,hc,aA,decide_eq_true hf,cond_true,nI _ _ (by decide),aA]
       rfl
     ·rw [if_neg hf,bA (r:= .inr (((acc+B % 128*128 ^ i:Nat):Int),⟨gD s ((i+1:Nat):Int) s.size,0⟩))]
      ·rfl
      ·dsimp only
       rw [nW,decide_eq_true (by omega),cond_true,hx,aA,hshk,aA,decide_eq_false hbig,cond_false,hor,hc,aA,decide_eq_false hf,cond_false,w64 (by omega) (by omega),cV (by omega) (by omega) (by omega),aA]
       rfl
   ·have hd:(sbs s).drop i=[]:=List.drop_eq_nil_of_le (by omega)
    rw [hd,bA (r:= .inl ())]
    ·rw [aA]
     dsimp only
     rw [decide_eq_false (by omega),cond_false,aA,nI _ _ (by decide),aA]
     rfl
    ·dsimp only
     rw [nW,decide_eq_false (by omega),cond_false]
 exact key 9 0 0 (by omega) (by omega) (by omega)
def F9 (s:ByteArray):Int ⊕ (Nat×Nat)->aW×Int
 | .inl e=>(⟨noS,e⟩,0)
 | .inr (v,j)=>(⟨gD s j s.size,0⟩,v)
theorem Ci (s:ByteArray) (hs:s.size<=1000000):bH ⟨s,0⟩=some (F9 s (rdp 9 0 0 (sbs s))):=by
 unfold bH
 have hl:(sbs s).length=s.size:=bB s
 have e0:((0:Int) != 0)=false:=rfl
 dsimp only
 rw [e0,cond_false]
 refine Eq.trans ?_ (congrArg (λl=>some (F9 s (rdp 9 0 0 l))) (List.drop_zero (l:=sbs s)))
 have key: ∀ (k i acc:Nat) (f:Int×Int×Int->Option ((Int×Int×Int) ⊕ (Unit ⊕ (aW×Int)))),f=(λ(s258:Int×Int×Int)=>(bif (decide (s258.2.2 < 9)) then (Option.bind ((bif (s258.2.2 == (s.size:Int)) then (nC (fp (some ((aW.mk (ByteArray.mk #[]) 2),0)))) else (Option.bind (tE s s258.2.2) λb475=>(bif (decide ((IntKind.i64.wrap b475) < 128)) then (Option.bind ((bif (decide (s258.2.2 > 0)) then (bif ((IntKind.i64.wrap b475) == 0) then some true else some (decide ((IntKind.i64.wrap (s258.1+(IntKind.i64.wrap (((IntKind.i64.wrap b475).tmod 128)*s258.2.1)))) > 4611686018427387904))) else some (decide ((IntKind.i64.wrap (s258.1+(IntKind.i64.wrap (((IntKind.i64.wrap b475).tmod 128)*s258.2.1)))) > 4611686018427387904))):Option Bool) λa=>(bif a then (nC (fp (some ((aW.mk (ByteArray.mk #[]) 1),0)))) else (Option.bind (chk (eK (IntKind.i64.wrap (s258.2.2+1)) (s.size:Int) s.size)) λ_=>(nC (fp (some ((aW.mk (gD s (IntKind.i64.wrap (s258.2.2+1)) (s.size:Int)) 0),(IntKind.i64.wrap (s258.1+(IntKind.i64.wrap (((IntKind.i64.wrap b475).tmod 128)*s258.2.1))))))))))) else (bif (decide (s258.2.2 < 8)) then some (.inl ((IntKind.i64.wrap (s258.1+(IntKind.i64.wrap (((IntKind.i64.wrap b475).tmod 128)*s258.2.1)))),(IntKind.i64.wrap (s258.2.1*128)))) else some (.inl ((IntKind.i64.wrap (s258.1+(IntKind.i64.wrap (((IntKind.i64.wrap b475).tmod 128)*s258.2.1)))),s258.2.1)))))):Option ((Int×Int) ⊕ ((Int×Int×Int) ⊕ (Unit ⊕ (aW×Int))))) λ | .inl e465=>some (.inl (e465.1,e465.2,(IntKind.i64.wrap (s258.2.2+1)))) | .inr w=>some w) else some (.inr (.inl ()))))->i+k=9->acc < 128 ^ i->i<=(sbs s).length -> ∀ M:Nat,(i<=8->M=128 ^ i)->Option.bind (iter f ((acc:Int),(M:Int),(i:Int))) (λ | .inl e381=>some ((aW.mk (ByteArray.mk #[]) 1),0) | .inr w=>some w)=some (F9 s (rdp k i acc ((sbs s).drop i))):=by
  intro k
  induction k with
  | zero =>
   intro i acc f hf hi ha hil M hM
   rw [bA (r:= .inl ())]
   ·rfl
   ·subst hf
    dsimp only
    rw [decide_eq_false (by omega),cond_false]
  | succ k ih =>
   intro i acc f hf hi ha hil M hM
   by_cases hlt:i < (sbs s).length
   ·obtain ⟨hb0,hb1⟩:=ql s _ (List.getElem_mem hlt)
    have hx:=qm s i hlt
    rw [List.drop_eq_getElem_cons hlt]
    generalize (sbs s)[i]=b at hb0 hb1 hx
    obtain ⟨B,rfl⟩:=Int.eq_ofNat_of_zero_le hb0
    obtain ⟨_,hbd⟩:=z7 i acc B (by omega) ha (by omega)
    have hP:=pw8 (i:=i) (by omega)
    obtain rfl:=hM (by omega)
    have hlt7:B % 128*128 ^ i<=127*128 ^ i:=Nat.mul_le_mul_right _ (by omega)
    have hw:IntKind.i64.wrap (B:Int)=(B:Int):=w64 (by omega) (by omega)
    have hm:(B:Int).tmod 128=((B % 128:Nat):Int):=by rw [Int.tmod_eq_emod_of_nonneg (by omega)]; omega
    have hv:IntKind.i64.wrap ((acc:Int)+IntKind.i64.wrap (((B % 128:Nat):Int)*((128 ^ i:Nat):Int)))=((acc+B % 128*128 ^ i:Nat):Int):=by
     have e2:((B % 128:Nat):Int)*((128 ^ i:Nat):Int)=((B % 128*128 ^ i:Nat):Int):=by simp
     rw [e2]
     generalize B % 128*128 ^ i=w at hlt7
     rw [w64 (x:=(w:Int)) (by omega) (by omega),w64 (by omega) (by omega)]
     omega
    have hne:((i:Int) == (s.size:Int))=false:=by simp; omega
    unfold rdp
    rw [Int.toNat_natCast]
    by_cases hbig:(B:Int) < 128
    ·rw [if_pos hbig]
     have hc:((bif (decide ((i:Int) > 0)) then (bif ((B:Int) == 0) then some true else some (decide (((acc+B % 128*128 ^ i:Nat):Int) > 4611686018427387904))) else some (decide (((acc+B % 128*128 ^ i:Nat):Int) > 4611686018427387904))):Option Bool)=some (decide ((i > 0/\(B:Int)=0)\/acc+B % 128*128 ^ i > most)):=by
      have hd: ∀ v:Nat,decide ((v:Int) > 4611686018427387904)=decide (v > most):=λv=>by
       unfold most
       congr 1
       apply propext
       omega
      rw [hd]
      by_cases c1:i > 0
      ·have c1':(i:Int) > 0:=by omega
       rw [decide_eq_true c1',cond_true]
       by_cases c2:(B:Int)=0
       ·have:((B:Int) == 0)=true:=by simpa using c2
        rw [this,cond_true,decide_eq_true (.inl ⟨c1,c2⟩)]
       ·have:((B:Int) == 0)=false:=by simpa using c2
        rw [this,cond_false]
        congr 1
        by_cases c3:acc+B % 128*128 ^ i > most
        ·rw [decide_eq_true c3,decide_eq_true (.inr c3)]
        ·rw [decide_eq_false c3,decide_eq_false (by rintro (h | h); exact c2 h.2; exact c3 h)]
      ·rw [decide_eq_false (by omega),cond_false]
       congr 1
       by_cases c3:acc+B % 128*128 ^ i > most
       ·rw [decide_eq_true c3,decide_eq_true (.inr c3)]
       ·rw [decide_eq_false c3,decide_eq_false (by rintro (h | h); exact c1 h.1; exact c3 h)]
     by_cases hfm:(i > 0/\(B:Int)=0)\/acc+B % 128*128 ^ i > most
     ·rw [if_pos hfm,bA (r:= .inr (⟨noS,1⟩,0))]
      ·rfl
      ·subst hf
       dsimp only
       rw [decide_eq_true (by omega),cond_true,hne,cond_false,hx,aA,hw,decide_eq_true hbig,cond_true,hm,hv,hc,aA,decide_eq_true hfm,cond_true]
       rfl
     ·rw [if_neg hfm,bA (r:= .inr (⟨gD s ((i+1:Nat):Int) s.size,0⟩,((acc+B % 128*128 ^ i:Nat):Int)))]
      ·rfl
      ·subst hf
       dsimp only
       rw [decide_eq_true (by omega),cond_true,hne,cond_false,hx,aA,hw,decide_eq_true hbig,cond_true,hm,hv,hc,aA,decide_eq_false hfm,cond_false,w64 (x:=(i:Int)+1) (by omega) (by omega),cV (by omega) (by omega) (by omega),aA]
       rfl
    ·rw [if_neg hbig]
     by_cases h8:i < 8
     ·rw [bX (s':=(((acc+B % 128*128 ^ i:Nat):Int),((128 ^ (i+1):Nat):Int),((i+1:Nat):Int)))]
      ·exact ih (i+1) _ f hf (by omega) hbd (by omega) _ (λ_=>rfl)
      ·subst hf
       dsimp only
       have hP1:(128:Nat) ^ (i+1)=128 ^ i*128:=Nat.pow_succ ..
       have hP7:128 ^ i<=562949953421312:=Nat.le_trans (Nat.pow_le_pow_right (by omega) (by omega:i<=7)) (by decide)
       have hmm:IntKind.i64.wrap (((128 ^ i:Nat):Int)*128)=((128 ^ (i+1):Nat):Int):=by
        rw [hP1,w64 (by omega) (by omega)]
        omega
       rw [decide_eq_true (by omega),cond_true,hne,cond_false,hx,aA,hw,decide_eq_false hbig,cond_false,hm,hv,decide_eq_true (by omega),cond_true,aA]
       dsimp only
       rw [hmm,w64 (x:=(i:Int)+1) (by omega) (by omega)]
       rfl
     ·rw [bX (s':=(((acc+B % 128*128 ^ i:Nat):Int),((128 ^ i:Nat):Int),((i+1:Nat):Int)))]
      ·exact ih (i+1) _ f hf (by omega) hbd (by omega) _ (λh=>by omega)
      ·subst hf
       dsimp only
       rw [decide_eq_true (by omega),cond_true,hne,cond_false,hx,aA,hw,decide_eq_false hbig,cond_false,hm,hv,decide_eq_false (by omega),cond_false,aA]
       dsimp only
       rw [w64 (x:=(i:Int)+1) (by omega) (by omega)]
       rfl
   ·have hd:(sbs s).drop i=[]:=List.drop_eq_nil_of_le (by omega)
    rw [hd,bA (r:= .inr (⟨noS,2⟩,0))]
    ·rfl
    ·subst hf
     dsimp only
     have hne:((i:Int) == (s.size:Int))=true:=by simp; omega
     rw [decide_eq_true (by omega),cond_true,hne,cond_true]
     rfl
 exact key 9 0 0 _ rfl (by omega) (by omega) (by omega) 1 (λ_=>rfl)
theorem mi (a b:ByteArray):(a.toList == b.toList)=decide (a=b):=by
 rw [ByteArray.toList_eq,ByteArray.toList_eq]
 by_cases h:a=b
 ·subst h
  rw [decide_eq_true rfl,beq_self_eq_true]
 ·rw [decide_eq_false h]
  have: ¬ a.data.toList=b.data.toList:=λe=>h (ByteArray.ext (Array.ext' e))
  simpa using this
theorem iz (s:ByteArray) (lo hi:Nat):sbs (gD s lo hi)=((sbs s).take hi).drop lo:=by
 unfold sbs gD
 rw [ByteArray.data_extract,Int.toNat_natCast,Int.toNat_natCast]
 rw [Array.toList_extract]
 rw [List.extract_eq_take_drop,List.map_take,List.map_drop,List.drop_take]
theorem oA (s:ByteArray):dL (sbs s)=s:=by
 rw [mX]
 unfold sbs
 rw [List.map_map]
 have:((λn:Int=>UInt8.ofNat n.toNat) ∘ λb:UInt8=>(b.toNat:Int))=id:=by
  funext b
  simp
 rw [this,List.map_id]
theorem kQ (l:List Int) (h: ∀ b∈l,0<=b/\b < 256):sbs (dL l)=l:=by
 rw [mX]
 unfold sbs
 simp only [List.map_map]
 induction l with
 | nil=>rfl
 | cons a l ih =>
  have ha:=h a (List.mem_cons_self ..)
  rw [List.map_cons,ih λb hb=>h b (List.mem_cons_of_mem _ hb)]
  congr 1
  show ((UInt8.ofNat a.toNat).toNat:Int)=a
  rw [UInt8.toNat_ofNat']
  omega
theorem oX {a b:ByteArray} (h:sbs a=sbs b):a=b:=by rw [<- oA a,h,oA]
theorem yO (a b:ByteArray):sbs (a++b)=sbs a++sbs b:=by
 unfold sbs
 rw [ByteArray.data_append]
 simp
def VI (i:aJ):Prop:=i.s.size<=1000000/\(i.e=0\/i.s=noS)
def asR (i:aJ):aW:=⟨i.s,i.e⟩
def rdS (i:aJ):Int×aJ:=if i.e=0 then Es i.s (rdp 9 0 0 (sbs i.s)) else (0,i)
theorem jg (i:aJ) (h:VI i):bM i=some (rdS i):=by
 obtain ⟨s,e⟩:=i
 obtain ⟨h1,h2⟩:=h
 unfold rdS
 by_cases he:e=0
 ·subst he
  rw [if_pos rfl]
  exact Eu s h1
 ·rw [if_neg he]
  obtain rfl:s=noS:=h2.resolve_left he
  unfold bM
  rw [bA (r:= .inl ())]
  ·rw [aA]
   have hz:(noS.size:Int)=0:=rfl
   dsimp only
   rw [hz,decide_eq_false (by omega),cond_false,aA,rE _ _ _ he,aA]
  ·dsimp only
   have hz:(noS.size:Int)=0:=rfl
   rw [nW,hz,decide_eq_false (by omega),cond_false]
theorem gi (i:aJ) (h:VI i):bH (asR i)=some (asR (rdS i).2,(rdS i).1):=by
 obtain ⟨s,e⟩:=i
 obtain ⟨h1,h2⟩:=h
 unfold rdS
 by_cases he:e=0
 ·subst he
  rw [if_pos rfl]
  have:=Ci s h1
  refine this.trans ?_
  cases rdp 9 0 0 (sbs s) <;> rfl
 ·rw [if_neg he]
  unfold bH asR
  have:(e != 0)=true:=by simpa using he
  dsimp only
  rw [this,cond_true]
theorem Cj: ∀ (k i acc:Nat) (l:List Int) (v j:Nat),(∀ b∈l,0<=b/\b < 256)->rdp k i acc l = .inr (v,j) -> ∃ w,v=acc+w*128 ^ i/\v<=most/\i < j/\j<=i+l.length/\gC w=l.take (j - i)/\(i > 0->w > 0):=by
 intro k
 induction k with
 | zero=>intro i acc l v j hb h; cases h
 | succ k ih =>
  intro i acc l v j hb h
  cases l with
  | nil=>cases h
  | cons b r =>
   unfold rdp at h
   have hb0:=hb b (List.mem_cons_self ..)
   obtain ⟨B,rfl⟩:=Int.eq_ofNat_of_zero_le hb0.1
   rw [Int.toNat_natCast] at h
   by_cases hbig:(B:Int) < 128
   ·rw [if_pos hbig] at h
    by_cases hf:(i > 0/\(B:Int)=0)\/acc+B % 128*128 ^ i > most
    ·rw [if_pos hf] at h
     cases h
    ·rw [if_neg hf] at h
     injection h with h
     injection h with hv hj
     have hm:B % 128=B:=Nat.mod_eq_of_lt (by omega)
     rw [hm] at hv hf
     refine ⟨B,hv.symm,?_,by omega,by simp; omega,?_,?_⟩
     ·rw [<- hv]
      exact Nat.le_of_not_lt λhh=>hf (.inr hh)
     ·rw [eV (by omega),<- hj]
      have:i+1 - i=1:=by omega
      rw [this]
      rfl
     ·intro hi
      exact Nat.pos_of_ne_zero λh0=>hf (.inl ⟨hi,by omega⟩)
   ·rw [if_neg hbig] at h
    obtain ⟨w,h1,h2,h3,h4,h5,h6⟩:=ih (i+1) _ r v j (λc hc=>hb c (List.mem_cons_of_mem _ hc)) h
    have hw:=h6 (by omega)
    refine ⟨B % 128+128*w,?_,h2,by omega,by simp; omega,?_,λ_=>by omega⟩
    ·rw [h1,Nat.pow_succ,Nat.add_mul,Nat.add_assoc]
     congr 2
     rw [Nat.mul_comm 128 w,Nat.mul_assoc,Nat.mul_comm 128]
    ·rw [lL (by omega)]
     have e1:(B % 128+128*w) / 128=w:=by omega
     have e2:128+(B % 128+128*w) % 128=B:=by omega
     have e3:j - i=(j - (i+1))+1:=by omega
     rw [e1,e2,h5,e3,List.take_succ_cons]
theorem Ew: ∀ (k i acc w:Nat) (R:List Int),w < 128 ^ (k+1)->k+1+i<=9->(i > 0->w > 0)->acc+w*128 ^ i<=most->rdp (k+1) i acc (gC w++R) = .inr (acc+w*128 ^ i,i+(gC w).length):=by
 intro k
 induction k with
 | zero =>
  intro i acc w R hw hk hi hm
  have hs:w < 128:=by simpa using hw
  rw [eV hs]
  show rdp (0+1) i acc ((w:Int)::R)=_
  unfold rdp
  have hmod:w % 128=w:=Nat.mod_eq_of_lt hs
  rw [if_pos (by omega),Int.toNat_natCast,hmod,if_neg]
  ·simp
  ·rintro (⟨h1,h2⟩ | h)
   ·have:=hi h1
    omega
   ·omega
 | succ k ih =>
  intro i acc w R hw hk hi hm
  by_cases hs:w < 128
  ·rw [eV hs]
   show rdp (k+1+1) i acc ((w:Int)::R)=_
   unfold rdp
   have hmod:w % 128=w:=Nat.mod_eq_of_lt hs
   rw [if_pos (by omega),Int.toNat_natCast,hmod,if_neg]
   ·simp
   ·rintro (⟨h1,h2⟩ | h)
    ·have:=hi h1
     omega
    ·omega
  ·rw [lL hs]
   have hq:w / 128 < 128 ^ (k+1):=by
    rw [Nat.pow_succ] at hw
    exact Nat.div_lt_of_lt_mul (by rw [Nat.mul_comm]; exact hw)
   have he:(128+w % 128) % 128=w % 128:=by omega
   have hsum:acc+w % 128*128 ^ i+w / 128*128 ^ (i+1)=acc+w*128 ^ i:=by
    rw [Nat.pow_succ,Nat.add_assoc]
    congr 1
    rw [Nat.mul_comm (128 ^ i) 128,<- Nat.mul_assoc,<- Nat.add_mul]
    congr 1
    omega
   show rdp (k+1+1) i acc (((128+w % 128:Nat):Int)::(gC (w / 128)++R))=_
   rw [rdp,if_neg (by omega),Int.toNat_natCast,he,ih (i+1) _ (w / 128) R hq (by omega) (λ_=>by omega) (by rw [hsum]; exact hm),hsum]
   simp only [List.length_cons]
   congr 2
   omega
theorem fr {i:aJ} (h:VI i):VI (rdS i).2:=by
 obtain ⟨s,e⟩:=i
 obtain ⟨h1,h2⟩:=h
 unfold rdS
 by_cases he:e=0
 ·rw [if_pos he]
  cases hr:rdp 9 0 0 (sbs (⟨s,e⟩:aJ).s) with
  | inl f=>exact ⟨by show noS.size<=1000000; decide,.inr rfl⟩
  | inr p =>
   refine ⟨?_,.inl rfl⟩
   show (gD s p.2 s.size).size<=1000000
   rw [<- bB,iz,List.length_drop,List.length_take,bB]
   simp only at h1
   omega
 ·rw [if_neg he]
  exact ⟨h1,h2⟩
theorem pL {i:aJ} (h:(rdS i).2.e≠0):(rdS i).1=0:=by
 unfold rdS at *
 split at h
 ·rename_i he
  rw [if_pos he]
  cases hr:rdp 9 0 0 (sbs i.s) with
  | inl f=>rfl
  | inr p =>
   rw [hr] at h
   exact absurd rfl h
 ·rename_i he
  rw [if_neg he]
theorem u6 {i:aJ} (h:(rdS i).2.e=0) (hV:VI i):i.e=0 /\ ∃ w:Nat,(rdS i).1=w/\w<=most/\sbs i.s=gC w++sbs (rdS i).2.s:=by
 unfold rdS at *
 by_cases he:i.e=0
 ·rw [if_pos he] at h ⊢
  refine ⟨he,?_⟩
  cases hr:rdp 9 0 0 (sbs i.s) with
  | inl f =>
   rw [hr] at h
   -- an error is never nought
   exfalso
   have key: ∀ (k i acc:Nat) (l:List Int) (e:Int),rdp k i acc l = .inl e->e≠0:=by
    intro k
    induction k with
    | zero=>intro i acc l e hh; injection hh with hh; omega
    | succ k ih =>
     intro i acc l e hh
     cases l with
     | nil=>injection hh with hh; omega
     | cons b r =>
      unfold rdp at hh
      split at hh
      ·split at hh
       ·injection hh with hh
        omega
       ·cases hh
      ·exact ih _ _ _ _ hh
   exact key _ _ _ _ _ hr h
  | inr p =>
   obtain ⟨v,j⟩:=p
   obtain ⟨w,h1,h2,h3,h4,h5,h6⟩:=Cj 9 0 0 (sbs i.s) v j (ql i.s) hr
   refine ⟨v,rfl,h2,?_⟩
   have hvw:v=w:=by rw [h1]; simp
   show sbs i.s=gC v++sbs (gD i.s j i.s.size)
   rw [hvw,h5,iz,Nat.sub_zero]
   have:(sbs i.s).take i.s.size=sbs i.s:=List.take_of_length_le (by rw [bB]; exact Nat.le_refl _)
   rw [this,List.take_append_drop]
 ·rw [if_neg he] at h
  exact absurd h he
theorem kd {i:aJ} (hV:VI i):0<=(rdS i).1/\(rdS i).1<=4611686018427387904:=by
 by_cases h:(rdS i).2.e=0
 ·obtain ⟨_,w,h1,h2,_⟩:=u6 h hV
  rw [h1]
  unfold most at h2
  omega
 ·rw [pL h]
  omega
theorem Ga (s:ByteArray) (w:Nat) (R:List Int) (hw:w<=most) (hs:sbs s=gC w++R):rdS ⟨s,0⟩=((w:Int),⟨dL R,0⟩):=by
 unfold rdS
 rw [if_pos rfl]
 have hl:=qk 8 w (by unfold most at hw; omega)
 have h:=Ew 8 0 0 w R (by unfold most at hw; omega) (by omega) (λh=>by omega) (by simpa using hw)
 dsimp only
 rw [hs,h]
 show (((0+w*128 ^ 0:Nat):Int),(⟨gD s ((0+(gC w).length:Nat):Int) s.size,0⟩:aJ))=_
 have e1:0+w*128 ^ 0=w:=by simp
 have e2:gD s ((0+(gC w).length:Nat):Int) s.size=dL R:=by
  rw [<- oA (gD s ((0+(gC w).length:Nat):Int) s.size),iz]
  have:(sbs s).take s.size=sbs s:=List.take_of_length_le (by rw [bB]; exact Nat.le_refl _)
  rw [this,hs,Nat.zero_add,List.drop_left]
 rw [e1,e2]
theorem Gb (r q:aY) (h:r.cells.length<=1000000) (hr:okR r.cells) (hq:okR q.cells):kl r (told q)=some (decide (r=q)):=by
 by_cases he:r=q
 ·subst he
  rw [G1 r h hr,decide_eq_true rfl]
 rw [decide_eq_false he]
 unfold kl told
 simp only [fm]
 by_cases h1:r.cells.length=q.cells.length
 ·by_cases h2:r.wrapped=q.wrapped
  ·have e6:((bif ((r.cells.length:Int) != (q.cells.length:Int)) then some true else some (!(r.wrapped == q.wrapped))):Option Bool)=some false:=by simp [h1,h2]
   rw [e6,aA,cond_false]
   refine qi (λi:Int=> ∃ n:Nat,i=n/\n<=r.cells.length/\r.cells.take n=q.cells.take n) (λi=>(r.cells.length - i).toNat) (λv=>v = .inr false) ⟨0,rfl,by omega,rfl⟩ ?_ (λv hv=>by rw [hv])
   rintro i ⟨n,rfl,hn,ht⟩
   by_cases hlt:n < r.cells.length
   ·have hlq:n < q.cells.length:=by omega
    have hi2:idx (q.cells.map tc) (n:Int)=some (tc q.cells[n]):=by rw [bE _ _ (by simpa using hlq),List.getElem_map]
    have k1:=hr _ (List.getElem_mem hlt)
    have k2:=hq _ (List.getElem_mem hlq)
    have hcmp:(Option.bind (some (tc q.cells[n])) λe=>(bif ((IntKind.i64.wrap r.cells[n].rune) != e.rune) then some true else (Option.bind (some (tc q.cells[n])) λf=>(bif (r.cells[n].bU != f.bU) then some true else (Option.bind (some (tc q.cells[n])) λg=>some (r.cells[n].part != g.part))))))=some (decide (r.cells[n]≠q.cells[n])):=by
     simp only [aA,tc,w32 k1]
     generalize r.cells[n]=a
     generalize q.cells[n]=b
     obtain ⟨a1,a2,a3⟩:=a
     obtain ⟨b1,b2,b3⟩:=b
     by_cases g1:a1=b1 <;> by_cases g2:a2=b2 <;> by_cases g3:a3=b3 <;> simp [g1,g2,g3]
     all_goals first | (have:(a1 != b1)=true:=by simpa using g1); simp [this] | (have:(a2 != b2)=true:=by simpa using g2); simp [this] | skip
    by_cases hc:r.cells[n]=q.cells[n]
    ·refine .inl ⟨((n+1:Nat):Int),?_,⟨n+1,rfl,hlt,?_⟩,by (try dsimp only); omega⟩
     ·rw [decide_eq_true (by omega),cond_true,bE _ _ hlt,aA,hi2,hcmp,aA,decide_eq_false (by simpa using hc),cond_false,w64 (by omega) (by omega)]
      rfl
     ·rw [List.take_succ_eq_append_getElem hlt,List.take_succ_eq_append_getElem hlq,ht,hc]
    ·refine .inr ⟨.inr false,?_,rfl⟩
     rw [decide_eq_true (by omega),cond_true,bE _ _ hlt,aA,hi2,hcmp,aA,decide_eq_true (by simpa using hc),cond_true]
     rfl
   ·exfalso
    have hn2:n=r.cells.length:=by omega
    subst hn2
    rw [List.take_length,h1,List.take_length] at ht
    apply he
    obtain ⟨a,b⟩:=r
    obtain ⟨c,d⟩:=q
    simp_all
  ·have e6:((bif ((r.cells.length:Int) != (q.cells.length:Int)) then some true else some (!(r.wrapped == q.wrapped))):Option Bool)=some true:=by simp [h1,h2]
   rw [e6,aA,cond_true]
 ·have e7:((r.cells.length:Int) != (q.cells.length:Int))=true:=by simp; omega
  rw [e7,cond_true,aA,cond_true]
def jh:aJ:=⟨noS,1⟩
theorem mH:VI jh:=⟨by show noS.size<=1000000; decide,.inr rfl⟩
theorem qn {i:aJ} (h:VI i):bQ i 1=some (if i.e=0 then jh else i):=by
 obtain ⟨s,e⟩:=i
 by_cases he:e=0
 ·subst he
  rw [if_pos rfl]
  exact nI s 1 (by decide)
 ·rw [if_neg he]
  exact rE s e 1 he
def cA (i:aJ) (m:Int):Int×aJ:=if (rdS i).1 > m then (0,jh) else rdS i
theorem fE {i:aJ} (m:Int) (h:VI i):VI (cA i m).2:=by
 unfold cA
 split
 ·exact mH
 ·exact fr h
theorem gj {i:aJ} {m:Int} (h:VI i) (hm:0<=m):0<=(cA i m).1/\(cA i m).1<=m:=by
 unfold cA
 split
 ·exact ⟨Int.le_refl _,hm⟩
 ·have:=kd h
  omega
theorem jR {i:aJ} {m:Int} (h:(cA i m).2.e=0) (hV:VI i):i.e=0 /\ ∃ w:Nat,(cA i m).1=w/\(w:Int)<=m/\w<=most/\sbs i.s=gC w++sbs (cA i m).2.s:=by
 unfold cA at *
 split at h
 ·exact absurd h (by decide)
 ·rename_i hh
  rw [if_neg hh]
  obtain ⟨h1,w,h2,h3,h4⟩:=u6 h hV
  exact ⟨h1,w,h2,by omega,h3,h4⟩
theorem oB {i:aJ} (hV:VI i) {m:Int} (hm:0<=m) (h:(rdS i).1 > m):(rdS i).2.e=0:=by
 by_cases he:(rdS i).2.e=0
 ·exact he
 ·have:=pL he
  omega
theorem n7 {i:aJ} (h:VI i) {m:Int} (hm:0<=m):cO (asR i) m=some (asR (cA i m).2,(cA i m).1):=by
 unfold cO cA
 rw [gi i h,aA]
 dsimp only
 by_cases hb:(rdS i).1 > m
 ·have he:=oB h hm hb
  have e1:((asR (rdS i).2).e == 0)=true:=by simpa [asR] using he
  rw [e1,cond_true,decide_eq_true hb,aA,cond_true,if_pos hb]
  rfl
 ·rw [if_neg hb,decide_eq_false hb]
  cases ((asR (rdS i).2).e == 0) <;> rfl
theorem size_eq {i:aJ} (h:VI i):sj i=some (cA i 1000):=by
 unfold sj cA
 rw [jg i h,aA]
 by_cases hb:(rdS i).1 > 1000
 ·have he:=oB h (by omega) hb
  rw [decide_eq_true hb,cond_true,qn (fr h),if_pos he,aA,if_pos hb]
 ·rw [decide_eq_false hb,cond_false,if_neg hb]
theorem vO {i:aJ} (h:VI i) {m:Int} (hm:0<=m):fH i m=some (cA i m):=by
 unfold fH cA
 rw [jg i h,aA]
 by_cases hb:(rdS i).1 > m
 ·have he:=oB h hm hb
  rw [decide_eq_true hb,cond_true,qn (fr h),if_pos he,aA,if_pos hb]
 ·rw [decide_eq_false hb,cond_false,if_neg hb]
def np (i:aJ) (left:Int):aJ:=if (cA i left).2.e=0/\(cA i left).1=0 then jh else (cA i left).2
theorem mY {i:aJ} (left:Int) (h:VI i):VI (np i left):=by
 unfold np
 split
 ·exact mH
 ·exact fE left h
def oC (i:aJ) (left:Int):Int×aJ:=cA (np i left) 1114111
def pc (i:aJ) (left:Int):Int×aJ:=cA (oC i left).2 647
def jP (i:aJ) (left:Int):Int×aJ:=cA (pc i left).2 3
theorem n8 {i:aJ} (left:Int) (h:VI i):VI (oC i left).2:=fE _ (mY left h)
theorem n9 {i:aJ} (left:Int) (h:VI i):VI (pc i left).2:=fE _ (n8 left h)
theorem lx {i:aJ} (left:Int) (h:VI i):VI (jP i left).2:=fE _ (n9 left h)
def gr (i:aJ) (left:Int):aO:=⟨(oC i left).1,(pc i left).1,(jP i left).1⟩
theorem tJ (i:aJ) (h:VI i) (m:Int) (hm:0<=m): ∃ v:Int,bM i=some (v,(rdS i).2)/\(if v > m then (if (rdS i).2.e=0 then jh else (rdS i).2) else (rdS i).2)=(cA i m).2/\((cA i m).2.e=0->v=(cA i m).1):=by
 refine ⟨(rdS i).1,jg i h,?_,?_⟩
 ·unfold cA
  by_cases hb:(rdS i).1 > m
  ·rw [if_pos hb,if_pos hb,if_pos (oB h hm hb)]
  ·rw [if_neg hb,if_neg hb]
 ·unfold cA
  by_cases hb:(rdS i).1 > m
  ·rw [if_pos hb]
   intro hh
   exact absurd hh (by decide)
  ·rw [if_neg hb]
   exact λ_=>rfl
theorem qo {i:aJ} (h:i.e≠0) (m:Int) (hm:0<=m):(cA i m).2=i:=by
 unfold cA rdS
 rw [if_neg h]
 dsimp only
 rw [if_neg (by omega)]
theorem run_eq (i:aJ) (left:Int) (h:VI i) (hl:0<=left):ld i left=some (if (jP i left).2.e=0 then ((cA i left).1,gr i left,true,(jP i left).2) else (0,⟨0,0,0⟩,false,(jP i left).2)):=by
 unfold ld
 rw [jg i h,aA]
 have hor:((bif ((rdS i).1 == 0) then some true else some (decide ((rdS i).1 > left))):Option Bool)=some (decide ((rdS i).1=0\/(rdS i).1 > left)):=by
  by_cases h0:(rdS i).1=0
  ·have:((rdS i).1 == 0)=true:=by simpa using h0
   rw [this,cond_true,decide_eq_true (.inl h0)]
  ·have:((rdS i).1 == 0)=false:=by simpa using h0
   rw [this,cond_false]
   by_cases h1:(rdS i).1 > left
   ·rw [decide_eq_true h1,decide_eq_true (.inr h1)]
   ·rw [decide_eq_false h1,decide_eq_false (by omega)]
 have hst:((bif decide ((rdS i).1=0\/(rdS i).1 > left) then (Option.bind (bQ (rdS i).2 1) λb=>some b) else some (rdS i).2):Option aJ)=some (np i left):=by
  unfold np cA
  by_cases hb:(rdS i).1 > left
  ·rw [decide_eq_true (.inr hb),cond_true,qn (fr h),if_pos (oB h hl hb),aA,if_pos hb]
   rfl
  ·rw [if_neg hb]
   by_cases h0:(rdS i).1=0
   ·rw [decide_eq_true (.inl h0),cond_true,qn (fr h),aA]
    by_cases he:(rdS i).2.e=0
    ·rw [if_pos he,if_pos ⟨he,h0⟩]
    ·rw [if_neg he,if_neg (λhh=>he hh.1)]
   ·rw [decide_eq_false (by omega),cond_false,if_neg (λhh=>h0 hh.2)]
 rw [hor,aA,hst,aA]
 obtain ⟨v1,n1,f1,g1⟩:=tJ (np i left) (mY left h) 1114111 (by omega)
 obtain ⟨v2,n2,f2,g2⟩:=tJ (oC i left).2 (n8 left h) 647 (by omega)
 obtain ⟨v3,n3,f3,g3⟩:=tJ (pc i left).2 (n9 left h) 3 (by omega)
 have fl: ∀ (j:aJ) (hj:VI j) (v m:Int) (a:kf) (out:aJ),(if v > m then (if j.e=0 then jh else j) else j)=out->((bif (decide (v > m)) then (Option.bind (bQ j 1) λc=>some (a,c)) else some (a,j)):Option (kf×aJ))=some (a,out):=by
  intro j hj v m a out ho
  by_cases hb:v > m
  ·rw [if_pos hb] at ho
   rw [decide_eq_true hb,cond_true,qn hj,aA,ho]
  ·rw [if_neg hb] at ho
   rw [decide_eq_false hb,cond_false,ho]
 have ab: ∀ k:Int,0<=k->k < 3->chk (BW k 3)=some ():=λk h0 h1=>jt ⟨h0,h1⟩
 rw [bX (s':=((⟨v1,0,0⟩:kf),(oC i left).2,(1:Int)))]
 ·rw [bX (s':=((⟨v1,v2,0⟩:kf),(pc i left).2,(2:Int)))]
  ·rw [bX (s':=((⟨v1,v2,v3⟩:kf),(jP i left).2,(3:Int)))]
   ·rw [bA (r:=((⟨v1,v2,v3⟩:kf),(jP i left).2))]
    ·rw [aA]
     unfold cX
     rw [aA]
     dsimp only
     by_cases he:(jP i left).2.e=0
     ·have hb:((jP i left).2.e != 0)=false:=by simpa using he
      rw [hb,cond_false,if_pos he]
      have eB:(pc i left).2.e=0:=(jR (i:=(pc i left).2) (m:=3) he (n9 left h)).1
      have eA:(oC i left).2.e=0:=(jR (i:=(oC i left).2) (m:=647) eB (n8 left h)).1
      have e0:(np i left).e=0:=(jR (i:=np i left) (m:=1114111) eA (mY left h)).1
      have q1:v1=(oC i left).1:=g1 eA
      have q2:v2=(pc i left).1:=g2 eB
      have q3:v3=(jP i left).1:=g3 he
      have hr:=gj (i:=np i left) (m:=1114111) (mY left h) (by omega)
      have hw:IntKind.i32.wrap v1=v1:=by
       rw [q1,IntKind.wrap_i32]
       unfold oC
       omega
      have hn:(rdS i).1=(cA i left).1:=by
       unfold np at e0
       unfold cA at *
       split
       ·rename_i hb2
        rw [if_pos hb2] at e0
        split at e0
        ·exact absurd e0 (by decide)
        ·exact absurd e0 (by decide)
       ·rfl
      rw [hw,q1,q2,q3,hn]
      rfl
     ·have hb:((jP i left).2.e != 0)=true:=by simpa using he
      rw [hb,cond_true,if_neg he]
    ·rfl
   ·dsimp only
    rw [decide_eq_true (by omega),cond_true,show idx ([1114111,647,3]:List Int) (2:Int)=some 3 from rfl,aA,n3,aA,ab 2 (by omega) (by omega),aA,aA]
    dsimp only
    rw [show idx [sel 2 0 v3 v1,sel 2 1 v3 v2,sel 2 2 v3 0] (2:Int)=some v3 from rfl,aA,fl _ (fr (n9 left h)) _ _ _ _ f3,aA]
    rfl
  ·dsimp only
   rw [decide_eq_true (by omega),cond_true,show idx ([1114111,647,3]:List Int) (1:Int)=some 647 from rfl,aA,n2,aA,ab 1 (by omega) (by omega),aA,aA]
   dsimp only
   rw [show idx [sel 1 0 v2 v1,sel 1 1 v2 0,sel 1 2 v2 0] (1:Int)=some v2 from rfl,aA,fl _ (fr (n8 left h)) _ _ _ _ f2,aA]
   rfl
 ·dsimp only
  rw [decide_eq_true (by omega),cond_true,show idx ([1114111,647,3]:List Int) (0:Int)=some 1114111 from rfl,aA,n1,aA,ab 0 (by omega) (by omega),aA,aA]
  dsimp only
  rw [show idx [sel 0 0 v1 0,sel 0 1 v1 0,sel 0 2 v1 0] (0:Int)=some v1 from rfl,aA,fl _ (fr (mY left h)) _ _ _ _ f1,aA]
  rfl
def rrS:Nat->Int->aJ->List aO->List aO×aJ
 | 0,_,i,l=>(l,i)
 | k+1,w,i,l=>if (l.length:Int) < w/\i.e=0 then
   (if (jP i (w - l.length)).2.e=0 then (if l.getLast?=some (gr i (w - l.length)) then rrS k w jh l else rrS k w (jP i (w - l.length)).2 (l++List.replicate (cA i (w - l.length)).1.toNat (gr i (w - l.length))))
   else rrS k w (jP i (w - l.length)).2 l)
  else (l,i)
theorem qp {i:aJ} {left:Int} (h:VI i) (hl:0<=left) (he:(jP i left).2.e=0):i.e=0/\1<=(cA i left).1/\(cA i left).1<=left/\(cA i left).2.e=0/\np i left=(cA i left).2:=by
 have eB:(pc i left).2.e=0:=(jR (i:=(pc i left).2) (m:=3) he (n9 left h)).1
 have eA:(oC i left).2.e=0:=(jR (i:=(oC i left).2) (m:=647) eB (n8 left h)).1
 have e0:(np i left).e=0:=(jR (i:=np i left) (m:=1114111) eA (mY left h)).1
 have hr:=gj (i:=i) (m:=left) h hl
 by_cases hc:(cA i left).2.e=0/\(cA i left).1=0
 ·unfold np at e0
  rw [if_pos hc] at e0
  exact absurd e0 (by decide)
 ·have e00:=e0
  unfold np at e0
  rw [if_neg hc] at e0
  refine ⟨(jR e0 h).1,?_,hr.2,e0,by unfold np; rw [if_neg hc]⟩
  have:(cA i left).1≠0:=λhh=>hc ⟨e0,hh⟩
  omega
theorem z8 (l:List aO) (c:aO) (h:l.length<=1000000):((bif (decide ((l.length:Int) > 0)) then (Option.bind (idx l (IntKind.i64.wrap ((l.length:Int) - 1))) λa=>some ((a.rune == c.rune) && ((a.bU == c.bU) && ((a.part == c.part) && true)))) else some false):Option Bool)=some (decide (l.getLast?=some c)):=by
 by_cases hl:l.length=0
 ·rw [decide_eq_false (by omega),cond_false]
  have:l=[]:=List.eq_nil_of_length_eq_zero hl
  subst this
  rfl
 ·have hlt:l.length - 1 < l.length:=by omega
  have e1:IntKind.i64.wrap ((l.length:Int) - 1)=((l.length - 1:Nat):Int):=by rw [w64 (by omega) (by omega)]; omega
  rw [decide_eq_true (by omega),cond_true,e1,bE _ _ hlt,aA,lK,List.getLast?_eq_getElem?,List.getElem?_eq_getElem hlt]
  simp
theorem Ck (l:List aO) (c:aO) (h:l.length<=1000000):((bif (decide (((l.map tc).length:Int) > 0)) then (Option.bind (idx (l.map tc) (IntKind.i64.wrap (((l.map tc).length:Int) - 1))) λa=>some ((a.rune == c.rune) && ((a.bU == c.bU) && ((a.part == c.part) && true)))) else some false):Option Bool)=some (decide (l.getLast?=some c)):=by
 rw [fm]
 by_cases hl:l.length=0
 ·rw [decide_eq_false (by omega),cond_false]
  have:l=[]:=List.eq_nil_of_length_eq_zero hl
  subst this
  rfl
 ·have hlt:l.length - 1 < l.length:=by omega
  have e1:IntKind.i64.wrap ((l.length:Int) - 1)=((l.length - 1:Nat):Int):=by rw [w64 (by omega) (by omega)]; omega
  rw [decide_eq_true (by omega),cond_true,e1,bE _ _ (by simpa using hlt),aA,List.getElem_map]
  show some ((l[l.length - 1].rune == c.rune) && ((l[l.length - 1].bU == c.bU) && ((l[l.length - 1].part == c.part) && true)))=_
  rw [lK,List.getLast?_eq_getElem?,List.getElem?_eq_getElem hlt]
  simp
theorem mZ (p:Prop) [Decidable p] (e:Int):((bif (decide p) then some (e == 0) else some false):Option Bool)=some (decide (p/\e=0)):=by
 by_cases h1:p
 ·by_cases h2:e=0
  ·have:(e == 0)=true:=by simpa using h2
   rw [decide_eq_true h1,cond_true,this,decide_eq_true ⟨h1,h2⟩]
  ·have:(e == 0)=false:=by simpa using h2
   rw [decide_eq_true h1,cond_true,this,decide_eq_false (λh=>h2 h.2)]
 ·rw [decide_eq_false h1,cond_false,decide_eq_false (λh=>h1 h.1)]
theorem vP: ∀ (k:Nat) (w:Int) (i:aJ) (l:List aO),VI i->(l.length:Int)<=max w 0->((rrS k w i l).1.length:Int)<=max w 0/\VI (rrS k w i l).2:=by
 intro k
 induction k with
 | zero=>intro w i l h hl; exact ⟨hl,h⟩
 | succ k ih =>
  intro w i l h hl
  unfold rrS
  by_cases hc:(l.length:Int) < w/\i.e=0
  ·rw [if_pos hc]
   by_cases he:(jP i (w - l.length)).2.e=0
   ·rw [if_pos he]
    obtain ⟨_,h1,h2,_⟩:=qp h (by omega) he
    split
    ·exact ih w _ l mH hl
    ·exact ih w _ _ (lx _ h) (by rw [List.length_append,List.length_replicate]; omega)
   ·rw [if_neg he]
    exact ih w _ l (lx _ h) hl
  ·rw [if_neg hc]
   exact ⟨hl,h⟩
theorem A9 (w:Int) (hw:w<=1000): ∀ (k:Nat) (i:aJ) (l:List aO),VI i->(l.length:Int)<=max w 0->(if i.e=0 then (w - l.length).toNat+1 else 1)<=k ->
  iter (σ:=aJ×(List aO)) (ρ:=(List aO)×aJ) (λa=>(Option.bind ((bif (decide ((a.2.length:Int) < w)) then (Option.bind (cX a.1) λf=>some (f == 0)) else some false):Option Bool) λg=>(bif g then (Option.bind (ld a.1 (IntKind.i64.wrap (w - (a.2.length:Int)))) λb=>(bif (!b.2.2.1) then some (.inl (b.2.2.2,a.2)) else (Option.bind ((bif (decide ((a.2.length:Int) > 0)) then (Option.bind (idx a.2 (IntKind.i64.wrap ((a.2.length:Int) - 1))) λc=>some ((c.rune == b.2.1.rune) && ((c.bU == b.2.1.bU) && ((c.part == b.2.1.part) && true)))) else some false):Option Bool) λj=>(bif j then (Option.bind (bQ b.2.2.2 1) λm=>some (.inl (m,a.2))) else (Option.bind (dX [b.2.1] b.1) λd=>(Option.bind (chk (cW a.2.length d.length 24)) λ_=>some (.inl (b.2.2.2,(a.2++d))))))))) else some (.inr (a.2,a.1))))) (i,l)=some (rrS k w i l):=by
 intro k
 induction k with
 | zero=>intro i l h hl hk; split at hk <;> omega
 | succ k ih =>
  intro i l h hl hk
  unfold rrS
  by_cases hc:(l.length:Int) < w/\i.e=0
  ·rw [if_pos hc]
   rw [if_pos hc.2] at hk
   have hwr:IntKind.i64.wrap (w - (l.length:Int))=w - l.length:=w64 (by omega) (by omega)
   by_cases he:(jP i (w - l.length)).2.e=0
   ·rw [if_pos he]
    obtain ⟨_,h1,h2,_⟩:=qp h (by omega) he
    by_cases hlast:l.getLast?=some (gr i (w - l.length))
    ·rw [if_pos hlast,bX (s':=(jh,l))]
     ·exact ih jh l mH hl (by rw [if_neg (by decide)]; omega)
     ·dsimp only
      unfold cX
      rw [aA,mZ,decide_eq_true hc,aA,cond_true,hwr,run_eq i _ h (by omega),if_pos he,aA]
      dsimp only
      rw [Bool.not_true,cond_false,z8 _ _ (by omega),aA,decide_eq_true hlast,cond_true,qn (lx _ h),if_pos he,aA]
    ·rw [if_neg hlast,bX (s':=((jP i (w - l.length)).2,l++List.replicate (cA i (w - l.length)).1.toNat (gr i (w - l.length))))]
     ·refine ih _ _ (lx _ h) (by rw [List.length_append,List.length_replicate]; omega) ?_
      rw [if_pos he,List.length_append,List.length_replicate]
      omega
     ·dsimp only
      unfold cX
      rw [aA,mZ,decide_eq_true hc,aA,cond_true,hwr,run_eq i _ h (by omega),if_pos he,aA]
      dsimp only
      rw [Bool.not_true,cond_false,z8 _ _ (by omega),aA,decide_eq_false hlast,cond_false,AY _ _ (by omega) (by omega),aA,bR (by rw [List.length_replicate]; omega),aA]
   ·rw [if_neg he,bX (s':=((jP i (w - l.length)).2,l))]
    ·exact ih _ l (lx _ h) hl (by rw [if_neg he]; omega)
    ·dsimp only
     unfold cX
     rw [aA,mZ,decide_eq_true hc,aA,cond_true,hwr,run_eq i _ h (by omega),if_neg he,aA]
     dsimp only
     rw [Bool.not_false,cond_true]
  ·rw [if_neg hc]
   refine bA ?_
   dsimp only
   unfold cX
   rw [aA,mZ,decide_eq_false hc,aA,cond_false]
def hZ (i:aJ) (w:Int):aY×aJ :=
 if (rrS (w.toNat+1) w (cA i 1).2 []).2.e=0 then (⟨(rrS (w.toNat+1) w (cA i 1).2 []).1,decide ((cA i 1).1=1)⟩,(rrS (w.toNat+1) w (cA i 1).2 []).2)
 else (tI,(rrS (w.toNat+1) w (cA i 1).2 []).2)
theorem xq: ∀ (k:Nat) (w:Int) (i:aJ) (l:List aO),(rrS k w i l).2.e=0->i.e=0:=by
 intro k
 induction k with
 | zero=>intro w i l h; exact h
 | succ k ih =>
  intro w i l h
  unfold rrS at h
  by_cases hc:(l.length:Int) < w/\i.e=0
  ·exact hc.2
  ·rw [if_neg hc] at h
   exact h
theorem yP (i:aJ) (w:Int) (h:VI i) (hw:w<=1000):iv i w=some (hZ i w):=by
 unfold iv
 rw [jg i h,aA]
 have hst:((bif (decide ((rdS i).1 > 1)) then (Option.bind (bQ (rdS i).2 1) λa=>some a) else some (rdS i).2):Option aJ)=some (cA i 1).2:=by
  unfold cA
  by_cases hb:(rdS i).1 > 1
  ·rw [decide_eq_true hb,cond_true,qn (fr h),if_pos (oB h (by omega) hb),aA,if_pos hb]
  ·rw [decide_eq_false hb,cond_false,if_neg hb]
 rw [hst,aA]
 have hV:=fE 1 h
 rw [A9 w hw (w.toNat+1) _ [] hV (by simp; omega) (by simp only [List.length_nil]; split <;> omega),aA]
 unfold cX hZ
 rw [aA]
 by_cases he:(rrS (w.toNat+1) w (cA i 1).2 []).2.e=0
 ·have hb:((rrS (w.toNat+1) w (cA i 1).2 []).2.e != 0)=false:=by simpa using he
  rw [hb,cond_false,if_pos he]
  have h0:=xq _ _ _ _ he
  have hn:(rdS i).1=(cA i 1).1:=by
   unfold cA at *
   split
   ·rename_i hb2
    rw [if_pos hb2] at h0
    exact absurd h0 (by decide)
   ·rfl
  rw [hn]
  congr 3
 ·have hb:((rrS (w.toNat+1) w (cA i 1).2 []).2.e != 0)=true:=by simpa using he
  rw [hb,cond_true,if_neg he]
  rfl
theorem vQ (p:Prop) [Decidable p] (e:Int):((bif (e == 0) then some (decide p) else some false):Option Bool)=some (decide (e=0/\p)):=by
 by_cases h2:e=0
 ·have:(e == 0)=true:=by simpa using h2
  rw [this,cond_true]
  by_cases h1:p
  ·rw [decide_eq_true h1,decide_eq_true ⟨h2,h1⟩]
  ·rw [decide_eq_false h1,decide_eq_false (λh=>h1 h.2)]
 ·have:(e == 0)=false:=by simpa using h2
  rw [this,cond_false,decide_eq_false (λh=>h2 h.1)]
theorem tK (e:Int) (n:Nat) (c:dE) (l:List dE) (hl:l.length+n<=1000000):iter (σ:=Int×(List dE)) (ρ:=(List dE)) (λa=>(Option.bind ((bif (decide (a.1 < (n:Int))) then some (e == 0) else some false):Option Bool) λb=>(bif b then (Option.bind (chk (cW a.2.length [c].length 24)) λ_=>some (.inl ((IntKind.i64.wrap (a.1+1)),(a.2++[c])))) else some (.inr a.2)))) (0,l)=some (if e=0 then l++List.replicate n c else l):=by
 by_cases he:e=0
 ·rw [if_pos he]
  have h:=mf (f:=λ(a:Int×(List dE))=>(Option.bind ((bif (decide (a.1 < (n:Int))) then some (e == 0) else some false):Option Bool) λb=>(bif b then (Option.bind (chk (cW a.2.length [c].length 24)) λ_=>some (.inl ((IntKind.i64.wrap (a.1+1)),(a.2++[c])))) else some (.inr a.2)))) (λk=>((k:Int),l++List.replicate k c)) n (l++List.replicate n c) ?_ ?_
  ·simpa using h
  ·intro k hk
   dsimp only
   rw [mZ,decide_eq_true ⟨by omega,he⟩,aA,cond_true,bR (by simp; omega),aA,w64 (by omega) (by omega),List.append_assoc,<- List.replicate_succ']
   rfl
  ·dsimp only
   rw [mZ,decide_eq_false (by omega),aA,cond_false]
 ·rw [if_neg he]
  refine bA ?_
  dsimp only
  rw [mZ,decide_eq_false (λh=>he h.2),aA,cond_false]
theorem nJ (i:aJ):(asR i).e=i.e:=rfl
theorem yQ (w:Int) (hw:w<=1000): ∀ (k:Nat) (i:aJ) (l:List aO),VI i->(l.length:Int)<=max w 0->(if i.e=0 then (w - l.length).toNat+1 else 1)<=k ->
  iter (σ:=aW×(List dE)) (ρ:=(List dE)×aW) (λa=>(Option.bind ((bif (decide ((a.2.length:Int) < w)) then some (a.1.e == 0) else some false):Option Bool) λo=>(bif o then (Option.bind (cO a.1 (IntKind.i64.wrap (w - (a.2.length:Int)))) λd=>(Option.bind ((bif (d.1.e == 0) then some (d.2 == 0) else some false):Option Bool) λp=>(Option.bind ((bif p then some (aW.mk (ByteArray.mk #[]) 1) else some d.1):Option aW) λq=>(Option.bind (cO q 1114111) λf=>(Option.bind (cO f.1 647) λg=>(Option.bind (cO g.1 3) λb=>(Option.bind ((bif (b.1.e == 0) then (bif (decide ((a.2.length:Int) > 0)) then (Option.bind (idx a.2 (IntKind.i64.wrap ((a.2.length:Int) - 1))) λj=>some ((j.rune == f.2) && ((j.bU == g.2) && ((j.part == b.2) && true)))) else some false) else some false):Option Bool) λr=>(Option.bind ((bif r then some (aW.mk (ByteArray.mk #[]) 1) else some b.1):Option aW) λn=>(Option.bind (iter (σ:=Int×(List dE)) (ρ:=(List dE)) (λc=>(Option.bind ((bif (decide (c.1 < d.2)) then some (n.e == 0) else some false):Option Bool) λs=>(bif s then (Option.bind (chk (cW c.2.length [(dE.mk f.2 g.2 b.2)].length 24)) λ_=>some (.inl ((IntKind.i64.wrap (c.1+1)),(c.2++[(dE.mk f.2 g.2 b.2)])))) else some (.inr c.2)))) (0,a.2)) λt=>some (.inl (n,t))))))))))) else some (.inr (a.2,a.1))))) (asR i,l.map tc)=some ((rrS k w i l).1.map tc,asR (rrS k w i l).2):=by
 intro k
 induction k with
 | zero=>intro i l h hl hk; split at hk <;> omega
 | succ k ih =>
  intro i l h hl hk
  unfold rrS
  by_cases hc:(l.length:Int) < w/\i.e=0
  ·rw [if_pos hc]
   rw [if_pos hc.2] at hk
   have hwr:IntKind.i64.wrap (w - (l.length:Int))=w - l.length:=w64 (by omega) (by omega)
   have hL:0<=w - (l.length:Int):=by omega
   -- the document's steps
   have s1:((bif ((asR (cA i (w - l.length)).2).e == 0) then some ((cA i (w - l.length)).1 == 0) else some false):Option Bool)=some (decide ((cA i (w - l.length)).2.e=0/\(cA i (w - l.length)).1=0)):=by
    have:((cA i (w - l.length)).1 == 0)=decide ((cA i (w - l.length)).1=0):=by
     by_cases h0:(cA i (w - l.length)).1=0 <;> simp [h0]
    rw [this,nJ,vQ]
   have s2:((bif decide ((cA i (w - l.length)).2.e=0/\(cA i (w - l.length)).1=0) then some (aW.mk (ByteArray.mk #[]) 1) else some (asR (cA i (w - l.length)).2)):Option aW)=some (asR (np i (w - l.length))):=by
    unfold np
    by_cases h0:(cA i (w - l.length)).2.e=0/\(cA i (w - l.length)).1=0
    ·rw [decide_eq_true h0,cond_true,if_pos h0]
     rfl
    ·rw [decide_eq_false h0,cond_false,if_neg h0]
   have s3:cO (asR (np i (w - l.length))) 1114111=some (asR (oC i (w - l.length)).2,(oC i (w - l.length)).1):=n7 (mY _ h) (by omega)
   have s4:cO (asR (oC i (w - l.length)).2) 647=some (asR (pc i (w - l.length)).2,(pc i (w - l.length)).1):=n7 (n8 _ h) (by omega)
   have s5:cO (asR (pc i (w - l.length)).2) 3=some (asR (jP i (w - l.length)).2,(jP i (w - l.length)).1):=n7 (n9 _ h) (by omega)
   have hnat: ∃ N:Nat,(cA i (w - l.length)).1=(N:Int)/\N<=1000:=by
    have:=gj (i:=i) (m:=w - l.length) h hL
    exact ⟨(cA i (w - l.length)).1.toNat,by omega,by omega⟩
   obtain ⟨N,hN,hN2⟩:=hnat
   have hlast:=Ck l (gr i (w - l.length)) (by omega)
   by_cases he:(jP i (w - l.length)).2.e=0
   ·rw [if_pos he]
    obtain ⟨_,h1,h2,_⟩:=qp h (by omega) he
    have he':((asR (jP i (w - l.length)).2).e == 0)=true:=by simpa [asR] using he
    by_cases hlst:l.getLast?=some (gr i (w - l.length))
    ·rw [if_pos hlst,bX (s':=(asR jh,l.map tc))]
     ·exact ih jh l mH hl (by rw [if_neg (by decide)]; omega)
     ·dsimp only
      rw [fm,mZ,decide_eq_true (show (l.length:Int) < w/\(asR i).e=0 from hc),aA,cond_true,hwr,n7 h hL,aA]
      dsimp only
      rw [s1,aA,s2,aA,s3,aA,s4,aA,s5,aA]
      dsimp only
      rw [he',cond_true]
      rw [fm] at hlast
      unfold gr at hlast hlst
      rw [hlast,aA,decide_eq_true hlst,cond_true,aA,hN]
      dsimp only
      rw [tK 1 N _ _ (by rw [fm]; omega),if_neg (by decide),aA]
      rfl
    ·rw [if_neg hlst,bX (s':=(asR (jP i (w - l.length)).2,(l++List.replicate (cA i (w - l.length)).1.toNat (gr i (w - l.length))).map tc))]
     ·refine ih _ _ (lx _ h) (by rw [List.length_append,List.length_replicate]; omega) ?_
      rw [if_pos he,List.length_append,List.length_replicate]
      omega
     ·dsimp only
      rw [fm,mZ,decide_eq_true (show (l.length:Int) < w/\(asR i).e=0 from hc),aA,cond_true,hwr,n7 h hL,aA]
      dsimp only
      rw [s1,aA,s2,aA,s3,aA,s4,aA,s5,aA]
      dsimp only
      rw [he',cond_true]
      rw [fm] at hlast
      have hlst':=hlst
      unfold gr at hlast hlst'
      rw [hlast,aA,decide_eq_false hlst',cond_false,aA,hN]
      rw [tK _ N _ _ (by rw [fm]; omega),if_pos (show (asR (jP i (w - l.length)).2).e=0 from he),aA]
      rw [List.map_append,List.map_replicate,Int.toNat_natCast]
      rfl
   ·rw [if_neg he,bX (s':=(asR (jP i (w - l.length)).2,l.map tc))]
    ·exact ih _ l (lx _ h) hl (by rw [if_neg he]; omega)
    ·have he':((asR (jP i (w - l.length)).2).e == 0)=false:=by simpa [asR] using he
     dsimp only
     rw [fm,mZ,decide_eq_true (show (l.length:Int) < w/\(asR i).e=0 from hc),aA,cond_true,hwr,n7 h hL,aA]
     dsimp only
     rw [s1,aA,s2,aA,s3,aA,s4,aA,s5,aA]
     dsimp only
     rw [he',cond_false,aA,cond_false,aA,hN]
     rw [tK _ N _ _ (by rw [fm]; omega),if_neg (show ¬ (asR (jP i (w - l.length)).2).e=0 from he),aA]
  ·rw [if_neg hc]
   refine bA ?_
   dsimp only
   rw [fm,mZ,decide_eq_false (show ¬ ((l.length:Int) < w/\(asR i).e=0) from hc),aA,cond_false]
theorem sn (i:aJ) (w:Int) (h:VI i) (hw:w<=1000):gI (asR i) w=some (asR (hZ i w).2,told (hZ i w).1):=by
 unfold gI
 rw [n7 h (by omega),aA]
 have hV:=fE 1 h
 have hl:=yQ w hw (w.toNat+1) _ [] hV (by simp; omega) (by simp only [List.length_nil]; split <;> omega)
 rw [List.map_nil] at hl
 dsimp only
 rw [hl,aA]
 unfold hZ
 dsimp only
 by_cases he:(rrS (w.toNat+1) w (cA i 1).2 []).2.e=0
 ·have hb:((asR (rrS (w.toNat+1) w (cA i 1).2 []).2).e != 0)=false:=by simpa [asR] using he
  rw [hb,cond_false,if_pos he]
  have:((cA i 1).1 == 1)=decide ((cA i 1).1=1):=by by_cases h0:(cA i 1).1=1 <;> simp [h0]
  rw [this]
  rfl
 ·have hb:((asR (rrS (w.toNat+1) w (cA i 1).2 []).2).e != 0)=true:=by simpa [asR] using he
  rw [hb,cond_true,if_neg he]
  rfl
def gE:List aO->List (Nat×aO)
 | []=>[]
 | c::r=>match gE r with
  | (n,d)::t=>if c=d then (n+1,d)::t else (1,c)::(n,d)::t
  | []=>[(1,c)]
def iA (p:Nat×aO):List Int:=[(p.1:Int),p.2.rune,p.2.bU,p.2.part].flatMap cI
def fF (r:aY):List Int:=cI (if r.wrapped then 1 else 0)++(gE r.cells).flatMap iA
theorem pM (c:aO) (r:List aO): ∃ n t,gE (c::r)=(n+1,c)::t:=by
 unfold gE
 split
 ·rename_i n d t h
  split
  ·rename_i e
   exact ⟨n,t,by rw [e]⟩
  ·exact ⟨0,_,rfl⟩
 ·exact ⟨0,[],rfl⟩
theorem tL (p:Nat×aO):(iA p).length<=36:=by
 unfold iA
 simp only [List.flatMap_cons,List.flatMap_nil,List.length_append,List.length_nil]
 have h1:=cJ (p.1:Int)
 have h2:=cJ p.2.rune
 have h3:=cJ p.2.bU
 have h4:=cJ p.2.part
 omega
def more (c:aO):List aO->Nat
 | []=>0
 | d::r=>if d=c then more c r+1 else 0
theorem z9 (c:aO): ∀ l,more c l<=l.length
 | []=>Nat.le_refl _
 | d::r=>by
  have:=z9 c r
  unfold more
  split <;> simp <;> omega
theorem tM (c:aO): ∀ r:List aO,gE (c::r)=(more c r+1,c)::gE (r.drop (more c r))
 | []=>rfl
 | d::r=>by
  have ih:=tM d r
  have hu:gE (c::d::r)=(match gE (d::r) with
   | (n,e)::t=>if c=e then (n+1,e)::t else (1,c)::(n,e)::t
   | []=>[(1,c)]):=rfl
  rw [hu,ih]
  try dsimp only
  by_cases h:c=d
  ·subst h
   rw [if_pos rfl]
   have hm:more c (c::r)=more c r+1:=by
    show (if c=c then more c r+1 else 0)=_
    rw [if_pos rfl]
   rw [hm,List.drop_succ_cons]
  ·rw [if_neg h]
   have hm:more c (d::r)=0:=by
    show (if d=c then more c r+1 else 0)=_
    rw [if_neg (λe=>h e.symm)]
   rw [hm,List.drop_zero,ih]
theorem xu (c:aO): ∀ (l:List aO) (k:Nat),k < more c l->l[k]?=some c
 | [],k,h=>by simp [more] at h
 | d::r,k,h=>by
  unfold more at h
  split at h
  ·rename_i e
   cases k with
   | zero=>rw [e]; rfl
   | succ k=>exact xu c r k (by omega)
  ·omega
theorem u7 (c:aO): ∀ (l:List aO),more c l < l.length->l[more c l]?≠some c
 | [],h=>by simp at h
 | d::r,h=>by
  have hu:more c (d::r)=if d=c then more c r+1 else 0:=rfl
  rw [hu] at h ⊢
  by_cases e:d=c
  ·rw [if_pos e] at h ⊢
   exact u7 c r (by simpa using h)
  ·rw [if_neg e]
   simpa using e
theorem Ey: ∀ (m:Nat) (l:List aO) (b:List Int),l.length<=m->b.length+36*l.length<=9000000->okR l -> ∃ q,iter (σ:=(List aO)×cK) (ρ:=((List aO)×cK) ⊕ (cK×(List aO))) (λa=>(bif (decide ((a.1.length:Int) > 0)) then (Option.bind (iter (σ:=Int) (ρ:=Int) (λf=>(Option.bind ((bif (decide (f < (a.1.length:Int))) then (Option.bind (idx a.1 f) λg=>(Option.bind (idx a.1 0) λh=>some ((g.rune == h.rune) && ((g.bU == h.bU) && ((g.part == h.part) && true))))) else some false):Option Bool) λj=>(bif j then some (.inl (IntKind.i64.wrap (f+1))) else some (.inr f)))) 1) λi=>(Option.bind (idx a.1 0) λn=>(Option.bind ((λ(s51:cK) (x21:Int×aO)=>(Option.bind (dH s51 [x21.1,(IntKind.i64.wrap x21.2.rune),x21.2.bU,x21.2.part]) λo=>some (o,true))) a.2 (i,n)) λz1399=>(bif (!z1399.2) then (fp (some (z1399.1,a.1))) else (Option.bind (chk (eK i (a.1.length:Int) a.1.length)) λ_=>some (.inl ((cut a.1 i (a.1.length:Int)),z1399.1))))))) else some (.inr (.inl (a.1,a.2))))) (l,⟨b⟩)=some (.inl (q,⟨b++(gE l).flatMap iA⟩)):=by
 intro m
 induction m with
 | zero =>
  intro l b hl hb hok
  have:l=[]:=List.eq_nil_of_length_eq_zero (by omega)
  subst this
  refine ⟨[],?_⟩
  refine bA ?_
  try dsimp only
  rw [decide_eq_false (by simp),cond_false]
  simp [gE]
 | succ m ih =>
  intro l b hl hb hok
  cases l with
  | nil =>
   refine ⟨[],?_⟩
   refine bA ?_
   try dsimp only
   rw [decide_eq_false (by simp),cond_false]
   simp [gE]
  | cons c r =>
   have hmr:=z9 c r
   have hcok:rok c.rune:=hok c (List.mem_cons_self ..)
   simp only [List.length_cons] at hl hb
   have hon:=mg b [((more c r+1:Nat):Int),c.rune,c.bU,c.part] (by first | (simp; omega) | simp)
   have hd:(r.drop (more c r)).length<=m:=by rw [List.length_drop]; omega
   have hel:=tL (more c r+1,c)
   obtain ⟨q,hq⟩:=ih (r.drop (more c r)) (b++iA (more c r+1,c)) hd (by rw [List.length_append,List.length_drop]; omega) (Cb (λd hd'=>hok d (List.mem_cons_of_mem _ hd')) _)
   refine ⟨q,?_⟩
   rw [bX (s':=(r.drop (more c r),(⟨b++iA (more c r+1,c)⟩:cK)))]
   ·rw [hq,tM,List.flatMap_cons,List.append_assoc]
   ·try dsimp only
    rw [decide_eq_true (by first | (simp; omega) | simp),cond_true]
    refine dV (λk=>((k+1:Nat):Int)) (more c r) ((more c r+1:Nat):Int) rfl ?_ ?_ ?_
    ·intro k hk
     have hg:=xu c r k hk
     have hgi:idx (c::r) ((k+1:Nat):Int)=some c:=by rw [qg,List.getElem?_cons_succ,hg]
     have hg0:idx (c::r) 0=some c:=rfl
     try dsimp only
     rw [decide_eq_true (by first | (simp; omega) | simp),cond_true,hgi,aA,hg0,aA,lK,decide_eq_true rfl,aA,cond_true,w64 (by omega) (by omega)]
     rfl
    ·try dsimp only
     by_cases hlt:more c r < r.length
     ·have hs:=u7 c r hlt
      have hgi:idx (c::r) ((more c r+1:Nat):Int)=some r[more c r]:=by rw [qg,List.getElem?_cons_succ,List.getElem?_eq_getElem hlt]
      have hg0:idx (c::r) 0=some c:=rfl
      have hne: ¬ r[more c r]=c:=λe=>hs (by rw [List.getElem?_eq_getElem hlt,e])
      rw [decide_eq_true (by first | (simp; omega) | simp),cond_true,hgi,aA,hg0,aA,lK,decide_eq_false hne,aA,cond_false]
     ·rw [decide_eq_false (by first | (simp; omega) | simp),cond_false,aA,cond_false]
    ·have hg0:idx (c::r) 0=some c:=rfl
     have hce:iA (more c r+1,c)=[((more c r+1:Nat):Int),c.rune,c.bU,c.part].flatMap cI:=rfl
     rw [hg0,aA,w32 hcok,hon,aA,aA]
     try dsimp only
     rw [Bool.not_true,cond_false,cV (by omega) (by first | (simp; omega) | simp) (by simp),aA,qj,List.take_length,List.drop_succ_cons,hce]
theorem yR (r:aY) (h:r.cells.length<=1000) (hok:okR r.cells):jv r=some (dL (fF r)):=by
 unfold jv n5 mT lu fq
 have E4:((bif r.wrapped then some 1 else some 0):Option Int)=some (if r.wrapped then 1 else 0):=by cases r.wrapped <;> rfl
 rw [E4,aA,mg [] _ (by simp),aA,aA]
 have hb:=cJ (if r.wrapped then 1 else 0)
 obtain ⟨q,hq⟩:=Ey r.cells.length r.cells (cI (if r.wrapped then 1 else 0)) (Nat.le_refl _) (by omega) hok
 have e0:([]++[(if r.wrapped then (1:Int) else 0)].flatMap cI)=cI (if r.wrapped then 1 else 0):=by simp
 rw [e0,hq,aA,aA,aA]
 rfl
def Ba (n:Nat):List (Nat×aO)->List (Nat×aO)
 | []=>[]
 | (m,c)::t=>(m+n,c)::t
theorem u9 (l:List (Nat×aO)):Ba 0 l=l:=by
 cases l with
 | nil=>rfl
 | cons a t=>rfl
theorem xv (r:aY) (h:r.cells.length<=1000):iW (told r)=some (dL (fF r)):=by
 unfold iW
 have E4:((bif (told r).wrapped then some (ByteArray.mk #[1]) else some (ByteArray.mk #[0])):Option ByteArray)=some (dL (cI (if r.wrapped then 1 else 0))):=by
  show ((bif r.wrapped then some (ByteArray.mk #[1]) else some (ByteArray.mk #[0])):Option ByteArray)=_
  have h0:cI 0=[0]:=by
   show gC 0=_
   rw [eV (by omega)]
   rfl
  have h1:cI 1=[1]:=by
   show gC 1=_
   rw [eV (by omega)]
   rfl
  cases r.wrapped
  ·show some (ByteArray.mk #[0])=some (dL (cI 0))
   rw [h0,mX]
   rfl
  ·show some (ByteArray.mk #[1])=some (dL (cI 1))
   rw [h1,mX]
   rfl
 rw [E4,aA]
 show Option.bind (iter _ (0,dL (cI (if r.wrapped then 1 else 0)),0)) _=_
 have hb0:=cJ (if r.wrapped then 1 else 0)
 unfold fF
 generalize cI (if r.wrapped then 1 else 0)=b0 at hb0
 have htl:(told r).l=r.cells.map tc:=rfl
 rw [htl,fm]
 have key: ∀ (s:List aO) (p:List aO) (b:List Int) (n:Nat) (f:Int×ByteArray×Int->Option ((Int×ByteArray×Int) ⊕ ByteArray)),f=(λ(s776:Int×ByteArray×Int)=>(bif (decide (s776.1 < (r.cells.length:Int))) then (Option.bind ((Option.bind (idx (r.cells.map tc) s776.1) λg=>(Option.bind ((bif (decide ((IntKind.i64.wrap (s776.1+1)) < (r.cells.length:Int))) then (Option.bind (idx (r.cells.map tc) (IntKind.i64.wrap (s776.1+1))) λa=>some ((a.rune == g.rune) && ((a.bU == g.bU) && ((a.part == g.part) && true)))) else some false):Option Bool) λu=>(bif u then some (s776.2.1,(IntKind.i64.wrap (s776.2.2+1))) else (Option.bind (cG (IntKind.i64.wrap (s776.2.2+1))) λi=>(Option.bind (cG g.rune) λj=>(Option.bind (chk (kB i.size j.size)) λ_=>(Option.bind (cG g.bU) λk=>(Option.bind (chk (kB (i++j).size k.size)) λ_=>(Option.bind (cG g.part) λo=>(Option.bind (chk (kB ((i++j)++k).size o.size)) λ_=>(Option.bind (chk (kB s776.2.1.size (((i++j)++k)++o).size)) λ_=>some ((s776.2.1++(((i++j)++k)++o)),0)))))))))))):Option (ByteArray×Int)) λq=>some (.inl ((IntKind.i64.wrap (s776.1+1)),q.1,q.2))) else some (.inr s776.2.1)))->p++s=r.cells->n<=p.length->b.length+36*s.length<=1000000->(s=[]->n=0)->iter f ((p.length:Int),dL b,(n:Int))=some (dL (b++(Ba n (gE s)).flatMap iA)):=by
  intro s
  induction s with
  | nil =>
   intro p b n f hf hp hn hb h0
   have hpl:p.length=r.cells.length:=by rw [<- hp]; simp
   rw [bA (r:=dL b)]
   ·simp [gE,Ba]
   ·subst hf
    dsimp only
    rw [decide_eq_false (by omega),cond_false]
  | cons c s ih =>
   intro p b n f hf hp hn hb h0
   have hpl:r.cells.length=p.length+s.length+1:=by rw [<- hp]; simp; omega
   simp only [List.length_cons] at hb
   have hx:idx (r.cells.map tc) (p.length:Int)=some (tc c):=by
    rw [<- hp,List.map_append,List.map_cons,<- fm p]
    exact oV _ _ _
   have hn1:IntKind.i64.wrap ((p.length:Int)+1)=((p.length+1:Nat):Int):=by rw [w64 (by omega) (by omega)]; omega
   have hn2:IntKind.i64.wrap ((n:Int)+1)=((n+1:Nat):Int):=by rw [w64 (by omega) (by omega)]; omega
   have hp1:p++[c]++s=r.cells:=by rw [<- hp]; simp
   have hlen1:((p++[c]).length:Int)=((p.length+1:Nat):Int):=by simp
   -- the cell behind
   have hnext:((bif (decide (((p.length+1:Nat):Int) < (r.cells.length:Int))) then (Option.bind (idx (r.cells.map tc) ((p.length+1:Nat):Int)) λa=>some ((a.rune == (tc c).rune) && ((a.bU == (tc c).bU) && ((a.part == (tc c).part) && true)))) else some false):Option Bool)=some (decide (s.head?=some c)):=by
    cases s with
    | nil =>
     rw [decide_eq_false (by simp at hpl ⊢; omega),cond_false]
     rfl
    | cons d s' =>
     have hx2:idx (r.cells.map tc) ((p.length+1:Nat):Int)=some (tc d):=by
      rw [<- hp,List.map_append,List.map_cons,List.map_cons,qg,List.getElem?_append_right (by simp)]
      simp
     rw [decide_eq_true (by simp at hpl ⊢; omega),cond_true,hx2,aA]
     show some ((d.rune == c.rune) && ((d.bU == c.bU) && ((d.part == c.part) && true)))=_
     rw [lK]
     simp
   by_cases hc:s.head?=some c
   ·rw [bX (s':=(((p++[c]).length:Int),dL b,((n+1:Nat):Int)))]
    ·rw [ih (p++[c]) b (n+1) f hf hp1 (by simp; omega) (by omega) (λe=>by rw [e] at hc; cases hc)]
     cases s with
     | nil=>cases hc
     | cons d s' =>
      obtain rfl:d=c:=by simpa using hc
      obtain ⟨m,t,hm⟩:=pM d s'
      have hu:gE (d::d::s')=(m+1+1,d)::t:=by
       show (match gE (d::s') with
        | (n,e)::t=>if d=e then (n+1,e)::t else (1,d)::(n,e)::t
        | []=>[(1,d)])=_
       rw [hm]
       dsimp only
       rw [if_pos rfl]
      have ha:Ba (n+1) ((m+1,d)::t)=Ba n ((m+1+1,d)::t):=by
       show (m+1+(n+1),d)::t=(m+1+1+n,d)::t
       congr 2
       omega
      rw [hu,hm,ha]
    ·subst hf
     dsimp only
     rw [decide_eq_true (by omega),cond_true,hx,aA,hn1,hnext,aA,decide_eq_true hc,cond_true,hn2,aA,hlen1]
   ·have e1:=cJ ((n+1:Nat):Int)
    have e2:=cJ c.rune
    have e3:=cJ c.bU
    have e4:=cJ c.part
    rw [bX (s':=(((p++[c]).length:Int),dL (b++iA (n+1,c)),((0:Nat):Int)))]
    ·have hel:=tL (n+1,c)
     rw [ih (p++[c]) (b++iA (n+1,c)) 0 f hf hp1 (by omega) (by rw [List.length_append]; omega) (λ_=>rfl),u9]
     have hu:gE (c::s)=(1,c)::gE s:=by
      cases s with
      | nil=>rfl
      | cons d s' =>
       have hne: ¬ c=d:=λe=>hc (by rw [e]; rfl)
       obtain ⟨m,t,hm⟩:=pM d s'
       show (match gE (d::s') with
        | (n,e)::t=>if c=e then (n+1,e)::t else (1,c)::(n,e)::t
        | []=>[(1,c)])=_
       rw [hm]
       dsimp only
       rw [if_neg hne]
     have ha:Ba n ((1,c)::gE s)=(n+1,c)::gE s:=by
      show (1+n,c)::gE s=_
      rw [Nat.add_comm 1 n]
     rw [hu,ha,List.flatMap_cons,List.append_assoc]
    ·subst hf
     have hE:iA (n+1,c)=cI ((n+1:Nat):Int)++cI c.rune++cI c.bU++cI c.part:=by
      unfold iA
      simp
     dsimp only
     rw [decide_eq_true (by omega),cond_true,hx,aA,hn1,hnext,aA,decide_eq_false hc,cond_false,hn2,iP,aA]
     show Option.bind (Option.bind (cG c.rune) _) _=_
     rw [iP,aA,dZ (by rw [bP,bP]; omega),aA]
     show Option.bind (Option.bind (cG c.bU) _) _=_
     rw [iP,aA,<- dG,dZ (by rw [bP,bP,List.length_append]; omega),aA]
     show Option.bind (Option.bind (cG c.part) _) _=_
     rw [iP,aA,<- dG,dZ (by rw [bP,bP,List.length_append,List.length_append]; omega),aA,<- dG,dZ (by rw [bP,bP,List.length_append,List.length_append,List.length_append]; omega),aA,aA,<- dG,hlen1,hE]
     rfl
 have hk:=key r.cells [] b0 0 _ rfl rfl (by omega) (by omega) (λ_=>rfl)
 rw [u9] at hk
 exact (congrArg (λx=>Option.bind x λv=>some v) hk).trans rfl
theorem Ez {w:Nat} (h:w<=most):clN (w:Int)=w:=by unfold clN; unfold most at h; omega
theorem jE {w:Nat} (h:w<=most):cI (w:Int)=gC w:=by unfold cI; rw [Ez h]
theorem pN (c:aO) (n:Nat): ∀ l:List aO,l.getLast?≠some c->gE (l++List.replicate (n+1) c)=gE l++[(n+1,c)]
 | [],_=>by
  rw [List.nil_append]
  induction n with
  | zero=>rfl
  | succ n ih =>
   rw [List.replicate_succ]
   show (match gE (List.replicate (n+1) c) with
    | (m,e)::t=>if c=e then (m+1,e)::t else (1,c)::(m,e)::t
    | []=>[(1,c)])=_
   rw [ih]
   show (if c=c then [(n+1+1,c)] else _)=_
   rw [if_pos rfl]
   rfl
 | x::r,h=>by
  cases r with
  | nil =>
   have hx: ¬ x=c:=λe=>h (by rw [e]; rfl)
   have ih:=pN c n [] (by simp)
   show (match gE ([]++List.replicate (n+1) c) with
    | (m,e)::t=>if x=e then (m+1,e)::t else (1,x)::(m,e)::t
    | []=>[(1,x)])=_
   rw [ih]
   show (if x=c then _ else (1,x)::(n+1,c)::[])=_
   rw [if_neg hx]
   rfl
  | cons y s =>
   have ih:=pN c n (y::s) (by simpa using h)
   show (match gE ((y::s)++List.replicate (n+1) c) with
    | (m,e)::t=>if x=e then (m+1,e)::t else (1,x)::(m,e)::t
    | []=>[(1,x)])=(match gE (y::s) with
    | (m,e)::t=>if x=e then (m+1,e)::t else (1,x)::(m,e)::t
    | []=>[(1,x)])++[(n+1,c)]
   rw [ih]
   obtain ⟨m,t,hm⟩:=pM y s
   rw [hm]
   show (if x=y then _ else _)=(if x=y then _ else _)++_
   split <;> rfl
theorem va {i:aJ} {left:Int} (h:VI i) (hl:0<=left) (he:(jP i left).2.e=0):sbs i.s=iA ((cA i left).1.toNat,gr i left)++sbs (jP i left).2.s/\0<=(gr i left).rune/\(gr i left).rune<=1114111:=by
 obtain ⟨_,h1,h2,h3,h4⟩:=qp h hl he
 obtain ⟨eB,c3,q3,_,m3,b3⟩:=jR (i:=(pc i left).2) (m:=3) he (n9 left h)
 obtain ⟨eA,c2,q2,_,m2,b2⟩:=jR (i:=(oC i left).2) (m:=647) eB (n8 left h)
 obtain ⟨e0,c1,q1,l1,m1,b1⟩:=jR (i:=np i left) (m:=1114111) eA (mY left h)
 obtain ⟨_,c0,q0,_,m0,b0⟩:=jR (i:=i) (m:=left) h3 h
 have qa:(gr i left).rune=(c1:Int):=q1
 have qb:(gr i left).bU=(c2:Int):=q2
 have qc:(gr i left).part=(c3:Int):=q3
 refine ⟨?_,by omega,by omega⟩
 have hE:iA ((cA i left).1.toNat,gr i left)=gC c0++gC c1++gC c2++gC c3:=by
  unfold iA
  dsimp only
  rw [qa,qb,qc,q0,Int.toNat_natCast]
  simp only [List.flatMap_cons,List.flatMap_nil,List.append_nil,jE m0,jE m1,jE m2,jE m3,List.append_assoc]
 have b1':sbs (cA i left).2.s=gC c1++sbs (oC i left).2.s:=by rw [<- h4]; exact b1
 have b2':sbs (oC i left).2.s=gC c2++sbs (pc i left).2.s:=b2
 have b3':sbs (pc i left).2.s=gC c3++sbs (jP i left).2.s:=b3
 rw [hE,b0,b1',b2',b3']
 simp only [List.append_assoc]
theorem Bb: ∀ (k:Nat) (w:Int) (i:aJ) (l:List aO),VI i->okR l->(rrS k w i l).2.e=0 -> ∃ D,(gE (rrS k w i l).1).flatMap iA=(gE l).flatMap iA++D/\sbs i.s=D++sbs (rrS k w i l).2.s/\okR (rrS k w i l).1:=by
 intro k
 induction k with
 | zero=>intro w i l h hok he; exact ⟨[],by simp [rrS],by simp [rrS],hok⟩
 | succ k ih =>
  intro w i l h hok he
  unfold rrS at he ⊢
  by_cases hc:(l.length:Int) < w/\i.e=0
  ·rw [if_pos hc] at he ⊢
   by_cases h2:(jP i (w - l.length)).2.e=0
   ·rw [if_pos h2] at he ⊢
    by_cases h3:l.getLast?=some (gr i (w - l.length))
    ·rw [if_pos h3] at he
     exact absurd (xq _ _ _ _ he) (by decide)
    ·rw [if_neg h3] at he ⊢
     obtain ⟨b1,b2,b3⟩:=va h (by omega) h2
     obtain ⟨_,p1,_⟩:=qp h (by omega) h2
     obtain ⟨n,hn⟩: ∃ n,(cA i (w - l.length)).1.toNat=n+1:=⟨(cA i (w - l.length)).1.toNat - 1,by omega⟩
     rw [hn] at he b1 ⊢
     obtain ⟨D,d1,d2,d3⟩:=ih w _ _ (lx _ h) (z6 hok (λc hc=>by rw [List.eq_of_mem_replicate hc]; unfold rok; omega)) he
     refine ⟨iA (n+1,gr i (w - l.length))++D,?_,?_,d3⟩
     ·rw [d1,pN _ _ _ h3,List.flatMap_append,List.flatMap_singleton,List.append_assoc]
     ·rw [b1,d2,List.append_assoc]
   ·rw [if_neg h2] at he
    exact absurd (xq _ _ _ _ he) h2
  ·rw [if_neg hc] at he ⊢
   exact ⟨[],by simp,by simp,hok⟩
theorem yS {i:aJ} {w:Int} (h:VI i) (he:(hZ i w).2.e=0):sbs i.s=fF (hZ i w).1++sbs (hZ i w).2.s:=by
 unfold hZ at *
 by_cases h0:(rrS (w.toNat+1) w (cA i 1).2 []).2.e=0
 ·rw [if_pos h0]
  obtain ⟨D,d1,d2,_⟩:=Bb _ w _ [] (fE 1 h) (λc hc=>by cases hc) h0
  obtain ⟨_,c,q,hc,hm,hb⟩:=jR (i:=i) (m:=1) (xq _ _ _ _ h0) h
  unfold fF
  dsimp only
  rw [d1,hb,d2,q]
  have:(if decide ((c:Int)=1)=true then (1:Int) else 0)=(c:Int):=by
   by_cases hc1:(c:Int)=1
   ·simp [hc1]
   ·rw [decide_eq_false hc1]
    simp
    omega
  rw [this,jE hm]
  simp [gE]
 ·rw [if_neg h0] at he
  exact absurd he h0
theorem qq {i:aJ} {w:Int} (h:VI i):VI (hZ i w).2:=by
 unfold hZ
 split
 ·exact (vP _ w _ [] (fE 1 h) (by simp; omega)).2
 ·exact (vP _ w _ [] (fE 1 h) (by simp; omega)).2
theorem Gc: ∀ (k:Nat) (w:Int) (i:aJ) (l:List aO),VI i->okR l->okR (rrS k w i l).1:=by
 intro k
 induction k with
 | zero=>intro w i l h hok; exact hok
 | succ k ih =>
  intro w i l h hok
  unfold rrS
  by_cases hc:(l.length:Int) < w/\i.e=0
  ·rw [if_pos hc]
   by_cases h2:(jP i (w - l.length)).2.e=0
   ·rw [if_pos h2]
    obtain ⟨b1,b2,b3⟩:=va h (by omega) h2
    split
    ·exact ih w _ l mH hok
    ·exact ih w _ _ (lx _ h) (z6 hok (λc hc=>by rw [List.eq_of_mem_replicate hc]; unfold rok; omega))
   ·rw [if_neg h2]
    exact ih w _ l (lx _ h) hok
  ·rw [if_neg hc]
   exact hok
theorem EA {i:aJ} {w:Int} (h:VI i) (hw:w<=1000):okR (hZ i w).1.cells/\(hZ i w).1.cells.length<=1000:=by
 unfold hZ
 split
 ·refine ⟨Gc _ w _ [] (fE 1 h) (λc hc=>by cases hc),?_⟩
  have:=(vP (w.toNat+1) w _ [] (fE 1 h) (by simp; omega)).1
  show (rrS (w.toNat+1) w (cA i 1).2 []).1.length<=1000
  omega
 ·exact ⟨λc hc=>(by cases hc),Nat.zero_le _⟩
theorem vS (a b:Bool):((bif a then some b else some false):Option Bool)=some (a && b):=by cases a <;> rfl
theorem bor (a b:Bool):((bif a then some true else some b):Option Bool)=some (a || b):=by cases a <;> rfl
def okG (r s:Int):Bool:=(decide (r>=0) && decide (r<=1114111)) && (decide (s>=0) && decide (s<=647))
def okC (c:aO):Bool:=okG c.rune c.bU && (decide (c.part>=0) && decide (c.part<=3))
def hG (s:aP):Bool:=(s.k == 0) && ((s.w == 0) && ((s.h == 0) && ((s.x == 0) && ((s.y == 0) && ((s.title.toList == (ByteArray.mk #[]).toList) && (((s.rows.length:Int) == 0) && ((s.len == 0) && ((s.chain == 0) && ((s.begun.length:Int) == 0)))))))))
def wi (n lo hi:Int):Bool:=decide (n>=lo) && decide (n<=hi)
def nq (s:aP):Bool:=wi s.k 1 1152921504606846976 && (wi s.w 1 1000 && (wi s.h 1 1000 && (wi s.x 0 (s.w - 1) && (wi s.y 0 (s.h - 1) && (((s.rows.length:Int) == s.h) && (decide ((s.title.size:Int)<=200) && (wi s.len 0 1152921504606846976 && (wi s.chain 0 281474976710656 && decide ((s.begun.length:Int)<=1024)))))))))
def om (w:Int) (r:aY):Bool:=((r.cells.length:Int) == w) && r.cells.all okC
def nr (s:aP):Bool:=hG s || (nq s && ((s.begun.all λg=>okG g.rune g.bU) && s.rows.all (om s.w)))
theorem empty_eq (s:aP):fJ s=some (hG s):=by
 unfold fJ hG
 simp only [vS,aA]
theorem pO (n lo hi:Int):dP n lo hi=some (wi n lo hi):=by
 unfold dP wi
 rw [vS,aA]
structure SW (s:aP):Prop where
 w1: -9223372036854775808<=s.w/\s.w<=9223372036854775807
 h1: -9223372036854775808<=s.h/\s.h<=9223372036854775807
 gl: ∀ g∈s.begun,rok g.rune
 ro: ∀ r∈s.rows,okR r.cells/\r.cells.length<=1000
 rl:s.rows.length<=1000
 bl:s.begun.length<=2000
 tl:s.title.size<=12000
theorem Cl (s:aP) (h:SW s):gO s=some (nq s):=by
 unfold gO nq
 simp only [pO,aA]
 by_cases hw:s.w>=1
 ·have e1:IntKind.i64.wrap (s.w - 1)=s.w - 1:=w64 (by omega) (by have:=h.w1; omega)
  by_cases hh:s.h>=1
  ·have e2:IntKind.i64.wrap (s.h - 1)=s.h - 1:=w64 (by omega) (by have:=h.h1; omega)
   simp only [e1,e2,vS,aA]
  ·have e2:wi s.h 1 1000=false:=by unfold wi; rw [decide_eq_false hh]; rfl
   simp only [e2,e1,cond_false,vS,Bool.false_and,Bool.and_false,aA]
 ·have e2:wi s.w 1 1000=false:=by unfold wi; rw [decide_eq_false hw]; rfl
  simp only [e2,cond_false,vS,Bool.false_and,Bool.and_false,aA]
theorem xw (r s:Int) (h:rok r):jJ r s=some (okG r s):=by
 unfold jJ okG
 simp only [pO,aA,w32 h,vS,wi]
theorem Bc (c:aO) (h:rok c.rune):lE c=some (okC c):=by
 unfold lE okC
 rw [xw _ _ h]
 simp only [pO,aA,vS,wi]
theorem find_eq {α:Type} (l:List α) (p:α->Bool) (hl:l.length<=1000000) (f:Int->Option (Int ⊕ (Unit ⊕ Int))) (hf: ∀ (n:Nat) (hn:n < l.length),f (n:Int)=if p l[n] then some (.inr (.inr (n:Int))) else some (.inl ((n+1:Nat):Int))) (he:f (l.length:Int)=some (.inr (.inl ()))): ∃ q,iter f 0=some q/\((q = .inl ()/\l.any p=false) \/ ∃ w:Int,q = .inr w/\0<=w/\l.any p=true):=by
 obtain ⟨q,h1,h2⟩:=nG (f:=f) (λi:Int=> ∃ n:Nat,i=n/\n<=l.length/\(l.take n).any p=false) (λi=>(l.length - i).toNat) (λq=>(q = .inl ()/\l.any p=false) \/ ∃ w:Int,q = .inr w/\0<=w/\l.any p=true) (by
  rintro i ⟨n,rfl,hn,ht⟩
  by_cases hlt:n < l.length
  ·by_cases hp:p l[n]=true
   ·refine .inr ⟨.inr (n:Int),by rw [hf n hlt,if_pos hp],.inr ⟨_,rfl,by omega,List.any_eq_true.2 ⟨l[n],List.getElem_mem hlt,hp⟩⟩⟩
   ·refine .inl ⟨((n+1:Nat):Int),by rw [hf n hlt,if_neg hp],⟨n+1,rfl,hlt,?_⟩,by omega⟩
    rw [List.take_succ_eq_append_getElem hlt,List.any_append,ht]
    simpa using hp
  ·have hnl:n=l.length:=by omega
   subst hnl
   refine .inr ⟨.inl (),he,.inl ⟨rfl,?_⟩⟩
   rwa [List.take_length] at ht) 0 ⟨0,rfl,by omega,rfl⟩
 exact ⟨q,h1,h2⟩
theorem EB (l:List aM) (hl:l.length<=1000000) (h: ∀ g∈l,rok g.rune):cH l=some (l.any λg=> !okG g.rune g.bU):=by
 unfold cH cU
 have hlen:l.length=l.length:=rfl
 obtain ⟨q,h1,h2⟩:=find_eq l (λg=> !okG g.rune g.bU) hl (λa=>(bif (decide (a < (l.length:Int))) then (Option.bind (idx l a) λb=>(Option.bind (gn b) λc=>(bif c then (fp (some a)) else some (.inl (IntKind.i64.wrap (a+1)))))) else some (.inr (.inl ())))) (by
  intro n hn
  unfold gn
  rw [decide_eq_true (by omega),cond_true,bE l n hn,aA,xw _ _ (h _ (List.getElem_mem hn)),aA,aA,w64 (by omega) (by omega)]
  cases okG l[n].rune l[n].bU <;> rfl) (by
  rw [decide_eq_false (by omega),cond_false])
 rw [h1,aA]
 rcases h2 with ⟨rfl,h3⟩ | ⟨w,rfl,h4,h3⟩
 ·rw [h3]
  rfl
 ·rw [h3]
  show some (decide (w>=0))=some true
  rw [decide_eq_true h4]
theorem EC (l:List aO) (hl:l.length<=1000000) (h:okR l):cC l=some (l.any λc=> !okC c):=by
 unfold cC cY
 obtain ⟨q,h1,h2⟩:=find_eq l (λc=> !okC c) hl (λa=>(bif (decide (a < (l.length:Int))) then (Option.bind (idx l a) λb=>(Option.bind (gp b) λd=>(bif d then (fp (some a)) else some (.inl (IntKind.i64.wrap (a+1)))))) else some (.inr (.inl ())))) (by
  intro n hn
  unfold gp
  rw [decide_eq_true (by omega),cond_true,bE l n hn,aA,Bc _ (h _ (List.getElem_mem hn)),aA,aA,w64 (by omega) (by omega)]
  cases okC l[n] <;> rfl) (by
  rw [decide_eq_false (by omega),cond_false])
 rw [h1,aA]
 rcases h2 with ⟨rfl,h3⟩ | ⟨w,rfl,h4,h3⟩
 ·rw [h3]
  rfl
 ·rw [h3]
  show some (decide (w>=0))=some true
  rw [decide_eq_true h4]
theorem Aa {α:Type} (l:List α) (p:α->Bool):(l.any λx=> !p x) = !(l.all p):=by
 induction l with
 | nil=>rfl
 | cons a l ih=>rw [List.any_cons,List.all_cons,ih,Bool.not_and]
theorem xx (s:aP) (h:SW s):fK s=some (if nr s then 0 else 1):=by
 unfold fK nr
 rw [empty_eq,aA]
 cases he:hG s with
 | true =>
  rw [cond_true]
  rfl
 | false =>
  rw [cond_false,Cl s h,aA,EB _ (by have:=h.bl; omega) h.gl,aA,bor,aA,Aa]
  cases hs:nq s with
  | false=>rfl
  | true =>
   cases hg:(s.begun.all λg=>okG g.rune g.bU) with
   | false=>rfl
   | true =>
    show Option.bind (iter _ 0) _=some (if s.rows.all (om s.w)=true then 0 else 1)
    have hrl:=h.rl
    refine qi (λi:Int=> ∃ n:Nat,i=n/\n<=s.rows.length/\(s.rows.take n).all (om s.w)=true) (λi=>(s.rows.length - i).toNat) (λq=>q=if s.rows.all (om s.w)=true then .inl () else .inr 1) ⟨0,rfl,by omega,rfl⟩ ?_ ?_
    ·rintro i ⟨n,rfl,hn,ht⟩
     by_cases hlt:n < s.rows.length
     ·have hro:=h.ro _ (List.getElem_mem hlt)
      have hcond:((bif ((s.rows[n].cells.length:Int) != s.w) then some true else (Option.bind (cC s.rows[n].cells) λa=>some a)):Option Bool)=some (!om s.w s.rows[n]):=by
       rw [EC _ (by omega) hro.1,aA,bor,Aa]
       unfold om
       rw [Bool.not_and]
       rfl
      try dsimp only
      rw [decide_eq_true (by omega),cond_true,bE _ _ hlt,aA,hcond,aA,w64 (by omega) (by omega)]
      cases hb:om s.w s.rows[n] with
      | true =>
       refine .inl ⟨((n+1:Nat):Int),rfl,⟨n+1,rfl,hlt,?_⟩,by omega⟩
       rw [List.take_succ_eq_append_getElem hlt,List.all_append,ht]
       simp [hb]
      | false =>
       refine .inr ⟨.inr 1,rfl,?_⟩
       rw [if_neg]
       intro hall
       have:=List.all_eq_true.1 hall _ (List.getElem_mem hlt)
       rw [hb] at this
       cases this
     ·refine .inr ⟨.inl (),?_,?_⟩
      ·try dsimp only
       rw [decide_eq_false (by omega),cond_false]
      ·have hnl:n=s.rows.length:=by omega
       subst hnl
       rw [List.take_length] at ht
       rw [if_pos ht]
    ·rintro q rfl
     by_cases hall:s.rows.all (om s.w)=true
     ·rw [if_pos hall,if_pos hall]
     ·rw [if_neg hall,if_neg hall]
def tg (g:aM):aN:=⟨g.rune,g.bU⟩
@[reducible] def fC (s:aP):bK:=⟨s.k,s.w,s.h,s.x,s.y,s.title,s.rows.map told,s.len,s.chain,s.begun.map tg⟩
theorem vb (s:aP):g0 (fC s)=some (hG s):=by
 unfold g0 hG fC
 simp only [vS,aA,List.length_map]
theorem Gd (r s:Int):(decide (r < 0) || (decide (r > 1114111) || (decide (s < 0) || decide (s > 647)))) = !okG r s:=by
 rw [Bool.eq_iff_iff,Bool.not_eq_true',<- Bool.not_eq_true]
 simp only [okG,Bool.or_eq_true,Bool.and_eq_true,decide_eq_true_eq]
 omega
theorem Ge (c:aO):(decide (c.rune < 0) || (decide (c.rune > 1114111) || (decide (c.bU < 0) || (decide (c.bU > 647) || (decide (c.part < 0) || decide (c.part > 3)))))) = !okC c:=by
 rw [Bool.eq_iff_iff,Bool.not_eq_true',<- Bool.not_eq_true]
 simp only [okC,okG,Bool.or_eq_true,Bool.and_eq_true,decide_eq_true_eq]
 omega
theorem tN {α ρ:Type} (l:List α) (p:α->Bool) (bad:ρ) (f:Int->Option (Int ⊕ (Unit ⊕ ρ))) (hl:l.length<=1000000) (hf: ∀ (n:Nat) (hn:n < l.length),f (n:Int)=if p l[n] then some (.inl ((n+1:Nat):Int)) else some (.inr (.inr bad))) (he:f (l.length:Int)=some (.inr (.inl ()))):iter f 0=some (if l.all p=true then .inl () else .inr bad):=by
 obtain ⟨q,h1,h2⟩:=nG (f:=f) (λi:Int=> ∃ n:Nat,i=n/\n<=l.length/\(l.take n).all p=true) (λi=>(l.length - i).toNat) (λq=>q=if l.all p=true then .inl () else .inr bad) (by
  rintro i ⟨n,rfl,hn,ht⟩
  by_cases hlt:n < l.length
  ·by_cases hp:p l[n]=true
   ·refine .inl ⟨((n+1:Nat):Int),by rw [hf n hlt,if_pos hp],⟨n+1,rfl,hlt,?_⟩,by omega⟩
    rw [List.take_succ_eq_append_getElem hlt,List.all_append,ht]
    simp [hp]
   ·refine .inr ⟨.inr bad,by rw [hf n hlt,if_neg hp],?_⟩
    rw [if_neg]
    intro hall
    exact hp (List.all_eq_true.1 hall _ (List.getElem_mem hlt))
  ·have hnl:n=l.length:=by omega
   subst hnl
   rw [List.take_length] at ht
   exact .inr ⟨.inl (),he,by rw [if_pos ht]⟩) 0 ⟨0,rfl,by omega,rfl⟩
 rw [h1,h2]
theorem Gf (c1 c2:Bool) (X out:Option Bool) (h1:(c1 || c2)=true->out=some false) (h2:(c1 || c2)=false->X=out):(bif c1 then some false else bif c2 then some false else X)=out:=by
 cases c1 with
 | true=>exact (h1 rfl).symm
 | false =>
  cases c2 with
  | true=>exact (h1 rfl).symm
  | false=>exact h2 rfl
theorem Cm (s:aP) (h:SW s):jA (fC s)=some (nr s):=by
 have hrl:=h.rl
 have hbl:=h.bl
 have hRl:(s.rows.map told).length=s.rows.length:=List.length_map _
 have hBl:(s.begun.map tg).length=s.begun.length:=List.length_map _
 unfold jA nr
 rw [vb,aA]
 cases he:hG s with
 | true=>rfl
 | false =>
  have hS:((decide (s.k < 1) || (decide (s.k > 1152921504606846976) || (decide (s.w < 1) || (decide (s.w > 1000) || (decide (s.h < 1) || (decide (s.h > 1000) || (decide (s.x < 0) || (decide (s.x>=s.w) || (decide (s.y < 0) || (decide (s.y>=s.h) || (((s.rows.map told).length:Int) != s.h))))))))))) || (decide ((s.title.size:Int) > 200) || (decide (s.len < 0) || (decide (s.len > 1152921504606846976) || (decide (s.chain < 0) || (decide (s.chain > 281474976710656) || decide (((s.begun.map tg).length:Int) > 1024))))))) = !nq s:=by
   rw [Bool.eq_iff_iff,Bool.not_eq_true',<- Bool.not_eq_true]
   simp only [nq,wi,Bool.or_eq_true,Bool.and_eq_true,decide_eq_true_eq,beq_iff_eq,bne_iff_ne,ne_eq]
   omega
  rw [cond_false]
  dsimp only [fC]
  simp only [bor,aA]
  refine Gf _ _ _ _ (λhh=> ?_) (λhh=> ?_)
  ·have hz:nq s=false:=by
    have h2:(!nq s)=true:=hS.symm.trans hh
    simpa using h2
   rw [hz]
   rfl
  ·have hz:nq s=true:=by
    have h2:(!nq s)=false:=hS.symm.trans hh
    simpa using h2
   rw [hz]
   ·skip
    rw [tN s.begun (λg=>okG g.rune g.bU) false _ (by have:=h.bl; omega) (λn hn=> ?hf1) ?he1,aA]
    ·cases hg:(s.begun.all λg=>okG g.rune g.bU) with
     | false=>rfl
     | true =>
      rw [if_pos rfl]
      dsimp only
      rw [tN s.rows (om s.w) false _ (by have:=h.rl; omega) (λn hn=> ?hf2) ?he2,aA]
      ·cases s.rows.all (om s.w) <;> rfl
      case hf2 =>
       have hro:=h.ro _ (List.getElem_mem hn)
       rw [decide_eq_true (by omega),cond_true,bE _ _ (by simpa using hn),aA,List.getElem_map]
       have htl:(told s.rows[n]).l=s.rows[n].cells.map tc:=rfl
       rw [htl,fm]
       by_cases hw:(s.rows[n].cells.length:Int)=s.w
       ·have hb:((s.rows[n].cells.length:Int) != s.w)=false:=by simpa using hw
        have hb2:((s.rows[n].cells.length:Int) == s.w)=true:=by simpa using hw
        rw [hb,cond_false]
        rw [tN s.rows[n].cells okC (.inr (.inr false)) _ (by omega) (λk hk=> ?hf3) ?he3,aA]
        ·unfold om
         rw [hb2,Bool.true_and]
         cases s.rows[n].cells.all okC with
         | true =>
          rw [if_pos rfl,if_pos rfl]
          dsimp only
          rw [w64 (by omega) (by omega)]
          rfl
         | false=>rfl
        case hf3 =>
         rw [decide_eq_true (by omega),cond_true,bE _ _ (by simpa using hk),aA,List.getElem_map]
         show (bif (decide ((s.rows[n].cells[k]).rune < 0) || (decide ((s.rows[n].cells[k]).rune > 1114111) || (decide ((s.rows[n].cells[k]).bU < 0) || (decide ((s.rows[n].cells[k]).bU > 647) || (decide ((s.rows[n].cells[k]).part < 0) || decide ((s.rows[n].cells[k]).part > 3)))))) then _ else _)=_
         rw [Ge,w64 (by omega) (by omega)]
         cases okC s.rows[n].cells[k] <;> rfl
        case he3 =>
         rw [decide_eq_false (by omega),cond_false]
       ·have hb:((s.rows[n].cells.length:Int) != s.w)=true:=by simpa using hw
        have hb2:((s.rows[n].cells.length:Int) == s.w)=false:=by simpa using hw
        rw [hb,cond_true]
        unfold om
        rw [hb2,Bool.false_and]
        rfl
      case he2 =>
       rw [decide_eq_false (by omega),cond_false]
    case hf1 =>
     rw [decide_eq_true (by omega),cond_true,bE _ _ (by simpa using hn),aA,List.getElem_map]
     show (bif (decide ((s.begun[n]).rune < 0) || (decide ((s.begun[n]).rune > 1114111) || (decide ((s.begun[n]).bU < 0) || decide ((s.begun[n]).bU > 647)))) then _ else _)=_
     rw [Gd,w64 (by omega) (by omega)]
     cases okG s.begun[n].rune s.begun[n].bU <;> rfl
    case he1 =>
     rw [decide_eq_false (by omega),cond_false]
theorem vU (b:List Int) (s:ByteArray) (hb:b.length+s.size<=10000000):gW ⟨b⟩ [s]=some ⟨b++sbs s⟩:=by
 unfold gW
 rw [bX (s':=((⟨b++sbs s⟩:cK),(1:Int)))]
 ·rw [bA (r:=(⟨b++sbs s⟩:cK))]
  ·rfl
  ·dsimp only
   rw [decide_eq_false (by simp),cond_false]
 ·dsimp only
  have h0:idx [s] 0=some s:=rfl
  rw [decide_eq_true (by simp),cond_true,h0,aA,bR (by omega),aA]
  rfl
theorem xy (b:List Int) (s:ByteArray) (hb:b.length+s.size<=1000000):il ⟨b⟩ [s]=some ⟨b++(cI s.size++sbs s)⟩:=by
 unfold il
 have he:=cJ (s.size:Int)
 rw [bX (s':=((⟨b++(cI s.size++sbs s)⟩:cK),(1:Int)))]
 ·rw [bA (r:=(⟨b++(cI s.size++sbs s)⟩:cK))]
  ·rfl
  ·dsimp only
   rw [decide_eq_false (by simp),cond_false]
 ·dsimp only
  have h0:idx [s] 0=some s:=rfl
  rw [decide_eq_true (by simp),cond_true,h0,aA,mg _ _ (by simp; omega),aA]
  simp only [List.flatMap_cons,List.flatMap_nil,List.append_nil]
  rw [vU _ _ (by rw [List.length_append]; omega),aA,List.append_assoc]
  rfl
def pP (g:aM):List Int:=[g.rune,g.bU].flatMap cI
def lM (l:List aM):List Int:=cI l.length++l.flatMap pP
theorem Cn (g:aM):(pP g).length<=18:=by
 unfold pP
 simp only [List.flatMap_cons,List.flatMap_nil,List.length_append,List.length_nil]
 have h1:=cJ g.rune
 have h2:=cJ g.bU
 omega
theorem rF (l:List aM):(l.flatMap pP).length<=18*l.length:=by
 induction l with
 | nil=>simp
 | cons a t ih =>
  rw [List.flatMap_cons,List.length_append,List.length_cons]
  have:=Cn a
  omega
theorem Co (l:List aM) (h:l.length<=2000) (hr: ∀ g∈l,rok g.rune):lB l=some (dL (lM l)):=by
 unfold lB fq lM
 have he:=cJ (l.length:Int)
 rw [mg [] _ (by simp),aA]
 have e0:([]++[(l.length:Int)].flatMap cI)=cI l.length:=by simp
 rw [e0]
 refine dV (λi=>((⟨cI l.length++(l.take i).flatMap pP⟩:cK),(i:Int))) l.length (⟨cI l.length++l.flatMap pP⟩:cK) (by simp) ?_ ?_ rfl
 ·intro i hi
  dsimp only
  have h2:=rF (l.take i)
  rw [List.length_take] at h2
  rw [decide_eq_true (by omega),cond_true,bE _ _ hi,aA,w32 (hr _ (List.getElem_mem hi)),mg _ _ (by simp only [List.length_append,List.length_cons,List.length_nil]; omega),aA,w64 (by omega) (by omega),List.take_succ_eq_append_getElem hi,List.flatMap_append,List.flatMap_singleton,List.append_assoc]
  rfl
 ·dsimp only
  rw [decide_eq_false (by omega),cond_false,List.take_length]
theorem Bd (l:List aM) (h:l.length<=2000):kJ (l.map tg)=some (dL (lM l)):=by
 unfold kJ lM
 have he:=cJ (l.length:Int)
 rw [List.length_map,iP,aA]
 refine dV (λi=>((i:Int),dL (cI l.length++(l.take i).flatMap pP))) l.length (dL (cI l.length++l.flatMap pP)) (by simp) ?_ ?_ rfl
 ·intro i hi
  dsimp only
  have h2:=rF (l.take i)
  rw [List.length_take] at h2
  have h3:=cJ l[i].rune
  have h4:=cJ l[i].bU
  rw [decide_eq_true (by omega),cond_true,bE _ _ (by simpa using hi),aA,List.getElem_map]
  show Option.bind (cG l[i].rune) _=_
  rw [iP,aA]
  show Option.bind (cG l[i].bU) _=_
  rw [iP,aA,dZ (by rw [bP,bP]; omega),aA,<- dG,dZ (by rw [bP,bP,List.length_append,List.length_append]; omega),aA,<- dG,w64 (by omega) (by omega),List.take_succ_eq_append_getElem hi,List.flatMap_append,List.flatMap_singleton,List.append_assoc]
  have hE:pP l[i]=cI l[i].rune++cI l[i].bU:=by unfold pP; simp
  rw [hE]
  rfl
 ·dsimp only
  rw [decide_eq_false (by omega),cond_false,List.take_length]
def mI (s:aP):List Int:=[s.k,s.w,s.h,s.x,s.y].flatMap cI++(cI s.title.size++sbs s.title)++[s.len,s.chain].flatMap cI++lM s.begun
def sq (s:aP):List Int:=mI s++s.rows.flatMap fF
theorem rG (s:aP) (h:SW s):(mI s).length<=52000:=by
 unfold mI lM
 simp only [List.flatMap_cons,List.flatMap_nil,List.length_append,List.length_nil,bB]
 have a1:=cJ s.k
 have a2:=cJ s.w
 have a3:=cJ s.h
 have a4:=cJ s.x
 have a5:=cJ s.y
 have a6:=cJ (s.title.size:Int)
 have a7:=cJ s.len
 have a8:=cJ s.chain
 have a9:=cJ (s.begun.length:Int)
 have b1:=rF s.begun
 have b2:=h.bl
 have b3:=h.tl
 omega
theorem Ab (l:List aY) (i:Nat):((l.take i).flatMap fF).length<=(l.flatMap fF).length:=by
 have:l.flatMap fF=(l.take i).flatMap fF++(l.drop i).flatMap fF:=by rw [<- List.flatMap_append,List.take_append_drop]
 rw [this,List.length_append]
 omega
def jn (s:aP):ByteArray:=if hG s=true\/nr s=false then noS else dL (sq s)
theorem Ad (s:aP) (h:SW s) (hp:(s.rows.flatMap fF).length<=1000000):gy s=some (jn s):=by
 unfold gy jn
 have hc:((Option.bind (fJ s) λa=>(bif a then some true else (Option.bind (fK s) λc=>some (c != 0)))):Option Bool)=some (hG s || !nr s):=by
  rw [empty_eq,aA,xx s h,aA]
  cases hG s <;> cases nr s <;> rfl
 rw [hc,aA]
 by_cases hb:hG s=true\/nr s=false
 ·rw [if_pos hb]
  have:(hG s || !nr s)=true:=by
   rcases hb with hb | hb <;> simp [hb]
  rw [this,cond_true]
  rfl
 ·rw [if_neg hb]
  have hne:hG s=false:=by cases he:hG s with | true=>exact absurd (.inl he) hb | false=>rfl
  have hm:nr s=true:=by cases he:nr s with | false=>exact absurd (.inr he) hb | true=>rfl
  rw [hne,hm]
  show Option.bind (dH ⟨[]⟩ [s.k,s.w,s.h,s.x,s.y]) _=_
  have hpl:=rG s h
  have htl:=h.tl
  have hph:(mI s).length=([s.k,s.w,s.h,s.x,s.y].flatMap cI).length+((cI s.title.size++sbs s.title).length+(([s.len,s.chain].flatMap cI).length+(lM s.begun).length)):=by
   unfold mI
   rw [List.length_append,List.length_append,List.length_append]
   omega
  have hts:(cI s.title.size++sbs s.title).length=(cI s.title.size).length+s.title.size:=by rw [List.length_append,bB]
  have hbs: ∀ b∈lM s.begun,0<=b/\b < 256:=by
   intro b hb
   unfold lM at hb
   rcases List.mem_append.1 hb with hb | hb
   ·exact nH _ b hb
   ·obtain ⟨g,_,hg⟩:=List.mem_flatMap.1 hb
    unfold pP at hg
    obtain ⟨x,_,hx⟩:=List.mem_flatMap.1 hg
    exact nH _ b hx
  rw [mg _ _ (by simp),aA,List.nil_append,xy _ _ (by omega),aA,mg _ _ (by rw [List.length_append]; simp only [List.length_cons,List.length_nil]; omega),aA,Co _ h.bl h.gl,aA,vU _ _ (by rw [bP,List.length_append,List.length_append]; omega),aA,kQ _ hbs]
  have hhead:[s.k,s.w,s.h,s.x,s.y].flatMap cI++(cI s.title.size++sbs s.title)++[s.len,s.chain].flatMap cI++lM s.begun=mI s:=rfl
  rw [hhead]
  refine dV (λi=>((⟨mI s++(s.rows.take i).flatMap fF⟩:cK),(i:Int))) s.rows.length (⟨sq s⟩:cK) (by simp) ?_ ?_ rfl
  ·intro i hi
   have hro:=h.ro _ (List.getElem_mem hi)
   have hl1:=Ab s.rows (i+1)
   rw [List.take_succ_eq_append_getElem hi,List.flatMap_append,List.flatMap_singleton,List.length_append] at hl1
   have hrl:=h.rl
   have hbr: ∀ b∈fF s.rows[i],0<=b/\b < 256:=by
    intro b hb
    unfold fF at hb
    rcases List.mem_append.1 hb with hb | hb
    ·exact nH _ b hb
    ·obtain ⟨g,_,hg⟩:=List.mem_flatMap.1 hb
     unfold iA at hg
     obtain ⟨x,_,hx⟩:=List.mem_flatMap.1 hg
     exact nH _ b hx
   dsimp only
   rw [decide_eq_true (by omega),cond_true,bE _ _ hi,aA,yR _ hro.2 hro.1,aA,vU _ _ (by rw [bP,List.length_append]; omega),aA,kQ _ hbr,w64 (by omega) (by omega),List.take_succ_eq_append_getElem hi,List.flatMap_append,List.flatMap_singleton,List.append_assoc]
   rfl
  ·have hrl:=h.rl
   dsimp only
   rw [decide_eq_false (by omega),cond_false,List.take_length]
   rfl
def uF (j:aJ) (n:Int):ByteArray×aJ:=if j.e≠0 then (noS,j) else if n > j.s.size then (noS,⟨noS,2⟩) else (gD j.s 0 n,⟨gD j.s n j.s.size,0⟩)
def lN (i:aJ):ByteArray×aJ:=uF (rdS i).2 (rdS i).1
theorem Ae:gD noS 0 0=noS:=by
 apply oX
 have:=iz noS 0 0
 exact this
theorem Gg (j:aJ) (n:Int) (h:VI j) (h0:0<=n) (he:j.e≠0->n=0):kE j n=some (uF j n):=by
 obtain ⟨s,e⟩:=j
 unfold kE uF
 have hm:imax 0 n=n:=by rw [vt]; omega
 have hsz:=h.1
 rw [hm]
 dsimp only at *
 by_cases hz:e=0
 ·subst hz
  rw [if_neg (by simp)]
  by_cases hb:n > s.size
  ·rw [decide_eq_true hb,cond_true,if_pos hb,nI _ _ (by decide),aA]
   rfl
  ·rw [decide_eq_false hb,cond_false,if_neg hb,cV (by omega) (by omega) (by omega),aA,cV (by omega) (by omega) (by omega),aA]
 ·obtain rfl:=he hz
  obtain rfl:s=noS:=h.2.resolve_left hz
  rw [if_pos hz,decide_eq_false (by decide),cond_false,cV (by decide) (by decide) (by decide),aA,cV (by decide) (by decide) (by decide),aA]
  have h2:gD noS 0 (noS.size:Int)=noS:=Ae
  rw [Ae,h2]
theorem Af (i:aJ) (h:VI i):gX i=some (lN i):=by
 unfold gX lN
 rw [jg i h,aA,Gg _ _ (fr h) (kd h).1 (λhe=>pL he),aA]
theorem vd (i:aJ) (h:VI i):fR (asR i)=some (asR (lN i).2,(lN i).1):=by
 unfold fR lN
 rw [gi i h,aA]
 have hr:=kd h
 have hV:=fr h
 generalize (rdS i).1=n at hr
 generalize (rdS i).2=j at hV
 obtain ⟨s,e⟩:=j
 have hsz:=hV.1
 dsimp only at *
 unfold mV uF asR
 have hm:imax 0 n=n:=by rw [vt]; omega
 rw [hm]
 dsimp only
 by_cases hz:e=0
 ·subst hz
  have e0:((0:Int) != 0)=false:=rfl
  rw [e0,cond_false,if_neg (by simp)]
  by_cases hb:n > s.size
  ·rw [decide_eq_true hb,cond_true,if_pos hb]
   rfl
  ·rw [decide_eq_false hb,cond_false,if_neg hb,cV (by omega) (by omega) (by omega),aA,cV (by omega) (by omega) (by omega),aA]
   rfl
 ·have e0:(e != 0)=true:=by simpa using hz
  rw [e0,cond_true,if_pos hz]
  rfl
theorem rH {i:aJ} (h:VI i):VI (lN i).2:=by
 unfold lN uF
 have hV:=fr h
 split
 ·exact hV
 ·split
  ·exact ⟨by show noS.size<=1000000; decide,.inr rfl⟩
  ·refine ⟨?_,.inl rfl⟩
   have hr:=kd h
   obtain ⟨n,hn⟩:=Int.eq_ofNat_of_zero_le hr.1
   show (gD (rdS i).2.s (rdS i).1 (rdS i).2.s.size).size<=1000000
   rw [hn,<- bB,iz,List.length_drop,List.length_take,bB]
   have:=hV.1
   omega
theorem tO {i:aJ} (h:VI i) {m:Nat} (hm:i.s.size<=m):(lN i).1.size<=m/\(i.e=0\/i.s=noS):=by
 refine ⟨?_,h.2⟩
 unfold lN uF
 split
 ·exact Nat.zero_le _
 ·split
  ·exact Nat.zero_le _
  ·rename_i he hn
   have he':(rdS i).2.e=0:=by simpa using he
   obtain ⟨_,w,hw,_,hb⟩:=u6 he' h
   have hl:=congrArg List.length hb
   rw [List.length_append,bB,bB] at hl
   show (gD (rdS i).2.s 0 (rdS i).1).size<=m
   rw [hw,show (0:Int)=((0:Nat):Int) from rfl,<- bB,iz,List.length_drop,List.length_take,bB]
   omega
theorem Cp {i:aJ} (h:VI i) (he:(lN i).2.e=0):i.e=0/\sbs i.s=cI (lN i).1.size++sbs (lN i).1++sbs (lN i).2.s:=by
 unfold lN uF at *
 by_cases h1:(rdS i).2.e=0
 ·rw [if_neg (by simpa using h1)] at he ⊢
  by_cases h2:(rdS i).1 > (rdS i).2.s.size
  ·rw [if_pos h2] at he
   exact absurd he (by decide)
  ·rw [if_neg h2] at he ⊢
   obtain ⟨e0,w,hw,hm,hb⟩:=u6 h1 h
   refine ⟨e0,?_⟩
   rw [hw] at h2 ⊢
   have hs1:sbs (gD (rdS i).2.s 0 (w:Int))=(sbs (rdS i).2.s).take w:=by
    have:=iz (rdS i).2.s 0 w
    simpa using this
   have hs2:sbs (gD (rdS i).2.s (w:Int) (rdS i).2.s.size)=(sbs (rdS i).2.s).drop w:=by
    rw [iz]
    congr 1
    exact List.take_of_length_le (by rw [bB]; exact Nat.le_refl _)
   have hsz:(gD (rdS i).2.s 0 (w:Int)).size=w:=by
    rw [<- bB,hs1,List.length_take,bB]
    omega
   dsimp only
   rw [hsz,hs1,hs2,jE hm,List.append_assoc,List.take_append_drop]
   exact hb
 ·rw [if_pos h1] at he
  exact absurd he h1
def bkL:Nat->aJ->List aM->List aM×aJ
 | 0,i,l=>(l,i)
 | k+1,i,l=>bkL k (cA (cA i 1114111).2 647).2 (l++[⟨(cA i 1114111).1,(cA (cA i 1114111).2 647).1⟩])
def bkS (i:aJ):List aM×aJ:=if (bkL (cA i 1024).1.toNat (cA i 1024).2 []).2.e=0 then bkL (cA i 1024).1.toNat (cA i 1024).2 [] else ([],(bkL (cA i 1024).1.toNat (cA i 1024).2 []).2)
theorem yT: ∀ (k:Nat) (i:aJ) (l:List aM),VI i->VI (bkL k i l).2
 | 0,i,l,h=>h
 | k+1,i,l,h=>yT k _ _ (fE _ (fE _ h))
theorem rI {i:aJ} (h:VI i):VI (bkS i).2:=by
 unfold bkS
 split
 ·exact yT _ _ _ (fE _ h)
 ·exact yT _ _ _ (fE _ h)
theorem sV: ∀ (k:Nat) (i:aJ) (l:List aM),i.e≠0->(bkL k i l).2=i
 | 0,i,l,h=>rfl
 | k+1,i,l,h=>by
  unfold bkL
  have h1:=qo h 1114111 (by omega)
  have h2:=qo (i:=(cA i 1114111).2) (by rw [h1]; exact h) 647 (by omega)
  rw [sV k _ _ (by rw [h2,h1]; exact h),h2,h1]
theorem xz (i:aJ) (h:VI i):iF i=some (bkS i):=by
 unfold iF
 rw [vO h (by omega),aA]
 have hr:=gj (m:=1024) h (by omega)
 have hV:=fE 1024 h
 unfold bkS
 generalize (cA i 1024).2=j at hV
 obtain ⟨N,hN⟩:=Int.eq_ofNat_of_zero_le hr.1
 rw [hN] at hr ⊢
 rw [Int.toNat_natCast]
 have key: ∀ (k n:Nat) (j:aJ) (l:List aM),n+k=N->VI j->l.length=n->iter (σ:=aJ×(List aM)×Int) (ρ:=(List aM)×aJ) (λa=>(bif (decide (a.2.2 < (N:Int))) then (Option.bind (fH a.1 1114111) λb=>(Option.bind (fH b.2 647) λc=>(Option.bind (chk (cW a.2.1.length [(aM.mk (IntKind.i32.wrap b.1) c.1)].length 16)) λ_=>some (.inl (c.2,(a.2.1++[(aM.mk (IntKind.i32.wrap b.1) c.1)]),(IntKind.i64.wrap (a.2.2+1))))))) else some (.inr (a.2.1,a.1)))) (j,l,(n:Int))=some (bkL k j l):=by
  intro k
  induction k with
  | zero =>
   intro n j l hn hV hl
   refine bA ?_
   dsimp only
   rw [decide_eq_false (by omega),cond_false]
   rfl
  | succ k ih =>
   intro n j l hn hV hl
   have hA:=gj (m:=1114111) hV (by omega)
   have hw:IntKind.i32.wrap (cA j 1114111).1=(cA j 1114111).1:=by rw [IntKind.wrap_i32]; omega
   rw [bX (s':=((cA (cA j 1114111).2 647).2,l++[⟨(cA j 1114111).1,(cA (cA j 1114111).2 647).1⟩],((n+1:Nat):Int)))]
   ·rw [ih (n+1) _ _ (by omega) (fE _ (fE _ hV)) (by simp [hl])]
    rfl
   ·dsimp only
    rw [decide_eq_true (by omega),cond_true,vO hV (by omega),aA,vO (fE _ hV) (by omega),aA,hw,bR (by simp; omega),aA,w64 (by omega) (by omega)]
    rfl
 have:=key N 0 j [] (by omega) hV rfl
 rw [show ((0:Nat):Int)=0 from rfl] at this
 rw [this,aA]
 unfold cX
 rw [aA]
 by_cases he:(bkL N j []).2.e=0
 ·have hb:((bkL N j []).2.e != 0)=false:=by simpa using he
  rw [hb,cond_false,if_pos he]
 ·have hb:((bkL N j []).2.e != 0)=true:=by simpa using he
  rw [hb,cond_true,if_neg he]
def Cq (r:List aM×aJ):List aM×aJ:=if r.2.e=0 then r else ([],r.2)
theorem tP {k:Nat} {i:aJ} {l:List aM} (h:i.e≠0):Cq (bkL k i l)=([],i):=by
 unfold Cq
 rw [sV k i l h,if_neg h]
theorem ve (i:aJ) (h:VI i):gS (asR i)=some (asR (bkS i).2,(bkS i).1.map tg):=by
 have hfin:bkS i=Cq (bkL (cA i 1024).1.toNat (cA i 1024).2 []):=rfl
 unfold gS
 rw [gi i h,aA]
 dsimp only
 rw [nJ,vQ,aA]
 by_cases hb:(rdS i).2.e=0/\(rdS i).1 > 1024
 ·rw [decide_eq_true hb,cond_true,hfin]
  have hl:cA i 1024=(0,jh):=by unfold cA; rw [if_pos hb.2]
  rw [hl]
  rfl
 ·rw [decide_eq_false hb,cond_false]
  have hr:=kd h
  have hle:(rdS i).1<=1024:=by
   by_cases he:(rdS i).2.e=0
   ·omega
   ·rw [pL he]
    omega
  have hl:cA i 1024=rdS i:=by unfold cA; rw [if_neg (by omega)]
  rw [hfin,hl]
  have hV:=fr h
  generalize (rdS i).2=j at hV
  obtain ⟨N,hN⟩:=Int.eq_ofNat_of_zero_le hr.1
  rw [hN] at hle ⊢
  rw [Int.toNat_natCast]
  have key: ∀ (k n:Nat) (j:aJ) (l:List aM) (f:aW×(List aN)×Int->Option ((aW×(List aN)×Int) ⊕ (((List aN)×aW) ⊕ (aW×(List aN))))),f=(λ(s182:aW×(List aN)×Int)=>(Option.bind ((bif (decide (s182.2.2 < (N:Int))) then some (s182.1.e == 0) else some false):Option Bool) λg=>(bif g then (Option.bind (bH s182.1) λb=>(Option.bind ((bif (b.1.e == 0) then some (decide (b.2 > 1114111)) else some false):Option Bool) λc=>(bif c then (fp (some ((aW.mk (ByteArray.mk #[]) 1),([]:List aN)))) else (Option.bind (bH b.1) λa=>(Option.bind ((bif (a.1.e == 0) then some (decide (a.2 > 647)) else some false):Option Bool) λd=>(bif d then (fp (some ((aW.mk (ByteArray.mk #[]) 1),([]:List aN)))) else (Option.bind (chk (cW s182.2.1.length [(aN.mk b.2 a.2)].length 16)) λ_=>some (.inl (a.1,(s182.2.1++[(aN.mk b.2 a.2)]),(IntKind.i64.wrap (s182.2.2+1))))))))))) else some (.inr (.inl (s182.2.1,s182.1))))))->n+k=N->VI j->l.length=n ->
    ∃ q,iter f (asR j,l.map tg,(n:Int))=some q/\((∃ l' j',q = .inl (l'.map tg,asR j')/\Cq (bkL k j l)=(if j'.e=0 then (l',j') else ([],j')))\/(∃ j',q = .inr (asR j',[])/\Cq (bkL k j l)=([],j'))):=by
   intro k
   induction k with
   | zero =>
    intro n j l f hf hn hV hl
    refine ⟨.inl (l.map tg,asR j),?_,.inl ⟨l,j,rfl,rfl⟩⟩
    refine bA ?_
    subst hf
    dsimp only
    rw [nJ,mZ,decide_eq_false (by omega),aA,cond_false]
   | succ k ih =>
    intro n j l f hf hn hV hl
    by_cases he:j.e=0
    ·have hVr:=fr hV
     have hstep:f (asR j,l.map tg,(n:Int))=(Option.bind ((bif ((asR (rdS j).2).e == 0) then some (decide ((rdS j).1 > 1114111)) else some false):Option Bool) λc=>(bif c then (fp (some ((aW.mk (ByteArray.mk #[]) 1),([]:List aN)))) else (Option.bind (bH (asR (rdS j).2)) λa=>(Option.bind ((bif (a.1.e == 0) then some (decide (a.2 > 647)) else some false):Option Bool) λd=>(bif d then (fp (some ((aW.mk (ByteArray.mk #[]) 1),([]:List aN)))) else (Option.bind (chk (cW (l.map tg).length [(aN.mk (rdS j).1 a.2)].length 16)) λ_=>some (.inl (a.1,((l.map tg)++[(aN.mk (rdS j).1 a.2)]),(IntKind.i64.wrap ((n:Int)+1)))))))))):=by
      subst hf
      dsimp only
      rw [nJ,mZ,decide_eq_true ⟨by omega,he⟩,aA,cond_true,gi j hV,aA]
     rw [nJ,vQ] at hstep
     by_cases hb1:(rdS j).2.e=0/\(rdS j).1 > 1114111
     ·refine ⟨.inr (asR jh,[]),?_,.inr ⟨jh,rfl,?_⟩⟩
      ·refine bA ?_
       rw [hstep,decide_eq_true hb1,aA,cond_true]
       rfl
      ·have h1:cA j 1114111=(0,jh):=by unfold cA; rw [if_pos hb1.2]
       unfold bkL
       rw [h1]
       have h2:(cA jh 647).2=jh:=qo (by decide) 647 (by omega)
       dsimp only
       rw [h2,tP (by decide)]
     ·have hle1:(rdS j).1<=1114111:=by
       by_cases he2:(rdS j).2.e=0
       ·omega
       ·rw [pL he2]
        omega
      have h1:cA j 1114111=rdS j:=by unfold cA; rw [if_neg (by omega)]
      rw [decide_eq_false hb1,aA,cond_false,gi _ hVr,aA] at hstep
      dsimp only at hstep
      rw [nJ,vQ] at hstep
      by_cases hb2:(rdS (rdS j).2).2.e=0/\(rdS (rdS j).2).1 > 647
      ·refine ⟨.inr (asR jh,[]),?_,.inr ⟨jh,rfl,?_⟩⟩
       ·refine bA ?_
        rw [hstep,decide_eq_true hb2,aA,cond_true]
        rfl
       ·have h2:cA (rdS j).2 647=(0,jh):=by unfold cA; rw [if_pos hb2.2]
        unfold bkL
        rw [h1,h2,tP (by decide)]
      ·have hle2:(rdS (rdS j).2).1<=647:=by
        by_cases he2:(rdS (rdS j).2).2.e=0
        ·omega
        ·rw [pL he2]
         omega
       have h2:cA (rdS j).2 647=rdS (rdS j).2:=by unfold cA; rw [if_neg (by omega)]
       obtain ⟨q,hq1,hq2⟩:=ih (n+1) (rdS (rdS j).2).2 (l++[(aM.mk (rdS j).1 (rdS (rdS j).2).1)]) f hf (by omega) (fr hVr) (by simp [hl])
       refine ⟨q,?_,?_⟩
       ·rw [bX (s':=(asR (rdS (rdS j).2).2,(l++[(aM.mk (rdS j).1 (rdS (rdS j).2).1)]).map tg,((n+1:Nat):Int)))]
        ·exact hq1
        ·rw [hstep,decide_eq_false hb2,aA,cond_false,bR (by simp; omega),aA,w64 (by omega) (by omega),List.map_append]
         rfl
       ·unfold bkL
        rw [h1,h2]
        exact hq2
    ·refine ⟨.inl (l.map tg,asR j),?_,.inl ⟨l,j,rfl,?_⟩⟩
     ·refine bA ?_
      subst hf
      dsimp only
      rw [nJ,mZ,decide_eq_false (λhh=>he hh.2),aA,cond_false]
     ·rw [tP he,if_neg he]
  obtain ⟨q,hq1,hq2⟩:=key N 0 j [] _ rfl (by omega) hV rfl
  have hq1':iter _ (asR j,([]:List aN),(0:Int))=some q:=hq1
  rw [hq1',aA]
  rcases hq2 with ⟨l',j',rfl,hf⟩ | ⟨j',rfl,hf⟩
  ·rw [hf]
   dsimp only
   by_cases he:j'.e=0
   ·have hb:((asR j').e != 0)=false:=by simpa [asR] using he
    rw [hb,cond_false,if_pos he]
   ·have hb:((asR j').e != 0)=true:=by simpa [asR] using he
    rw [hb,cond_true,if_neg he]
    rfl
  ·rw [hf]
   rfl
def jo (x:aP) (l:List aY):aP:=⟨x.k,x.w,x.h,x.x,x.y,x.title,l,x.len,x.chain,x.begun⟩
def iX:aP:=⟨0,0,0,0,0,noS,[],0,0,[]⟩
def jF (i:aJ):Int:=if i.s≠noS then 1 else i.e
theorem vV (i:aJ):iK i=some (jF i):=by
 unfold iK jF
 have:(i.s.toList == (ByteArray.mk #[]).toList)=decide (i.s=noS):=mi i.s noS
 rw [this]
 by_cases h:i.s=noS
 ·rw [decide_eq_true h,if_neg (λhh=>hh h)]; rfl
 ·rw [decide_eq_false h,if_pos h]; rfl
theorem Ag (i:aJ) (h:VI i):kx (asR i)=some (jF i):=by
 unfold kx jF
 have:((asR i).s.toList == (ByteArray.mk #[]).toList)=decide (i.s=noS):=mi i.s noS
 rw [this]
 by_cases he:i.e=0
 ·have h2:((asR i).e == 0)=true:=by simpa [asR] using he
  rw [h2,cond_true,aA]
  by_cases h:i.s=noS
  ·rw [decide_eq_true h,if_neg (λhh=>hh h)]; rfl
  ·rw [decide_eq_false h,if_pos h]; rfl
 ·have h2:((asR i).e == 0)=false:=by simpa [asR] using he
  rw [h2,cond_false,aA,cond_false]
  rcases h.2 with h | h
  ·exact absurd h he
  ·rw [if_neg (λhh=>hh h)]; rfl
def hA (s:ByteArray):=rdS ⟨s,0⟩
def hB (s:ByteArray):=cA (hA s).2 1000
def hC (s:ByteArray):=cA (hB s).2 1000
def hD (s:ByteArray):=rdS (hC s).2
def hE (s:ByteArray):=rdS (hD s).2
def hT (s:ByteArray):=lN (hE s).2
def SZ (m:Nat) (i:aJ):Prop:=VI i/\i.s.size<=m
theorem kR {i:aJ} {m:Nat} (h:SZ m i):SZ m (rdS i).2:=by
 refine ⟨fr h.1,?_⟩
 by_cases he:(rdS i).2.e=0
 ·obtain ⟨-,w, -, -,hw⟩:=u6 he h.1
  have:=congrArg List.length hw
  rw [List.length_append,bB,bB] at this
  have:=h.2
  omega
 ·rcases (fr h.1).2 with h1 | h1
  ·exact absurd h1 he
  ·rw [h1]; exact Nat.zero_le _
theorem vW {i:aJ} {m:Nat} (k:Int) (h:SZ m i):SZ m (cA i k).2:=by
 unfold cA
 split
 ·exact ⟨mH,Nat.zero_le _⟩
 ·exact kR h
theorem yU: ∀ (k:Nat) (i:aJ) (l:List aM),VI i->(∀ g∈l,rok g.rune)->(∀ g∈(bkL k i l).1,rok g.rune)/\(bkL k i l).1.length=l.length+k
 | 0,i,l,h,hl=>⟨hl,rfl⟩
 | k+1,i,l,h,hl=>by
  unfold bkL
  have:=yU k (cA (cA i 1114111).2 647).2 (l++[⟨(cA i 1114111).1,(cA (cA i 1114111).2 647).1⟩]) (fE _ (fE _ h)) (by
   intro g hg
   rcases List.mem_append.1 hg with h1 | h1
   ·exact hl g h1
   ·rw [List.mem_singleton.1 h1]
    have:=gj (m:=1114111) h (by omega)
    unfold rok
    dsimp only
    omega)
  refine ⟨this.1,this.2.trans ?_⟩
  simp only [List.length_append,List.length_cons,List.length_nil]
  omega
theorem Cr {i:aJ} (h:VI i):(∀ g∈(bkS i).1,rok g.rune)/\(bkS i).1.length<=1024:=by
 unfold bkS
 have hr:=gj (m:=1024) h (by omega)
 have:=yU (cA i 1024).1.toNat (cA i 1024).2 [] (fE _ h) (by intro g hg; cases hg)
 split
 ·refine ⟨this.1,?_⟩
  rw [this.2]
  simp only [List.length_nil]
  omega
 ·exact ⟨λg hg=>(by cases hg),Nat.zero_le _⟩
theorem rJ {α:Type} [DecidableEq α] (a b:List α) (hl:a.length=b.length) (f:Int->Option (Int ⊕ (Unit ⊕ Bool))) (hf: ∀ (n:Nat) (h1:n < a.length) (h2:n < b.length),f (n:Int)=if a[n]=b[n] then some (.inl ((n+1:Nat):Int)) else some (.inr (.inr false))) (he:f (a.length:Int)=some (.inr (.inl ()))):iter f 0=some (if a=b then .inl () else .inr false):=by
 obtain ⟨r,h1,h2⟩:=nG (f:=f) (λi:Int=> ∃ n:Nat,i=n/\n<=a.length/\a.take n=b.take n) (λi=>(a.length - i).toNat) (λr=>r=(if a=b then .inl () else .inr false)) (by
  rintro i ⟨n,rfl,hn,ht⟩
  by_cases h1:n < a.length
  ·have h2:n < b.length:=by omega
   by_cases he:a[n]=b[n]
   ·refine .inl ⟨((n+1:Nat):Int),?_,⟨n+1,rfl,by omega,?_⟩,by (try dsimp only); omega⟩
    ·rw [hf n h1 h2,if_pos he]
    ·rw [List.take_succ_eq_append_getElem h1,List.take_succ_eq_append_getElem h2,ht,he]
   ·refine .inr ⟨.inr false,?_,?_⟩
    ·rw [hf n h1 h2,if_neg he]
    ·rw [if_neg]
     intro hab
     subst hab
     exact he rfl
  ·refine .inr ⟨.inl (),?_,?_⟩
   ·have hn2:n=a.length:=by omega
    rw [hn2,he]
   ·rw [if_pos]
    have hn2:n=a.length:=by omega
    subst hn2
    rw [List.take_length] at ht
    rw [ht,hl,List.take_length]) 0 ⟨0,rfl,by omega,rfl⟩
 rw [h1,h2]
theorem tQ (a b:List aM) (ha:a.length<=1000000) (hr: ∀ g∈a,rok g.rune):iy a (b.map tg)=some (decide (a=b)):=by
 unfold iy
 rw [List.length_map]
 by_cases hl:a.length=b.length
 ·have e0:((a.length:Int) != (b.length:Int))=false:=by simp [hl]
  rw [e0,cond_false,rJ a b hl]
  ·by_cases h:a=b
   ·rw [if_pos h,decide_eq_true h]; rfl
   ·rw [if_neg h,decide_eq_false h]; rfl
  ·intro n h1 h2
   have hi2:idx (b.map tg) (n:Int)=some (tg b[n]):=by rw [bE _ _ (by simpa using h2),List.getElem_map]
   try dsimp only
   have k1:=hr _ (List.getElem_mem h1)
   rw [decide_eq_true (by omega),cond_true,bE a n h1,aA,hi2,w64 (x:=(n:Int)+1) (by omega) (by omega)]
   simp only [aA,w32 k1]
   generalize a[n]=x
   generalize b[n]=y
   obtain ⟨x1,x2⟩:=x
   obtain ⟨y1,y2⟩:=y
   unfold tg
   by_cases g1:x1=y1 <;> by_cases g2:x2=y2 <;> simp [g1,g2,fp]
   all_goals first | (have:(x1 != y1)=true:=by simpa using g1); simp [this] | (have:(x2 != y2)=true:=by simpa using g2); simp [this] | skip
  ·try dsimp only
   rw [decide_eq_false (by omega),cond_false]
 ·have e0:((a.length:Int) != (b.length:Int))=true:=by simp; omega
  rw [e0,cond_true,decide_eq_false (λh=>hl (by rw [h]))]
theorem Cs (a b:List aY) (ha:a.length<=1000000) (hr: ∀ r∈a,okR r.cells/\r.cells.length<=1000) (hq: ∀ r∈b,okR r.cells/\r.cells.length<=1000):kG a (b.map told)=some (decide (a=b)):=by
 unfold kG
 rw [List.length_map]
 by_cases hl:a.length=b.length
 ·have e0:((a.length:Int) != (b.length:Int))=false:=by simp [hl]
  rw [e0,cond_false,rJ a b hl]
  ·by_cases h:a=b
   ·rw [if_pos h,decide_eq_true h]; rfl
   ·rw [if_neg h,decide_eq_false h]; rfl
  ·intro n h1 h2
   have hi2:idx (b.map told) (n:Int)=some (told b[n]):=by rw [bE _ _ (by simpa using h2),List.getElem_map]
   try dsimp only
   have k1:=hr _ (List.getElem_mem h1)
   have k2:=hq _ (List.getElem_mem h2)
   rw [decide_eq_true (by omega),cond_true,bE a n h1,aA,hi2,aA,Gb _ _ (by omega) k1.1 k2.1,aA,w64 (by omega) (by omega)]
   by_cases he:a[n]=b[n]
   ·rw [if_pos he,decide_eq_true he]; rfl
   ·rw [if_neg he,decide_eq_false he]; rfl
  ·try dsimp only
   rw [decide_eq_false (by omega),cond_false]
 ·have e0:((a.length:Int) != (b.length:Int))=true:=by simp; omega
  rw [e0,cond_true,decide_eq_false (λh=>hl (by rw [h]))]
theorem Ct (s t:aP):decide (s=t)=((s.k == t.k) && ((s.w == t.w) && ((s.h == t.h) && ((s.x == t.x) && ((s.y == t.y) && ((s.title.toList == t.title.toList) && ((s.len == t.len) && ((s.chain == t.chain) && (decide (s.rows=t.rows) && decide (s.begun=t.begun)))))))))):=by
 rw [mi]
 obtain ⟨a1,a2,a3,a4,a5,a6,a7,a8,a9,a10⟩:=s
 obtain ⟨b1,b2,b3,b4,b5,b6,b7,b8,b9,b10⟩:=t
 rw [Bool.eq_iff_iff]
 simp only [decide_eq_true_eq,Bool.and_eq_true,beq_iff_eq,aP.mk.injEq]
 constructor
 ·rintro ⟨h1,h2,h3,h4,h5,h6,h7,h8,h9,h10⟩
  exact ⟨h1,h2,h3,h4,h5,h6,h8,h9,h7,h10⟩
 ·rintro ⟨h1,h2,h3,h4,h5,h6,h8,h9,h7,h10⟩
  exact ⟨h1,h2,h3,h4,h5,h6,h7,h8,h9,h10⟩
theorem ED (s t:aP) (h:SW s) (h2:SW t):mE s (fC t)=some (decide (s=t)):=by
 unfold mE
 rw [Cs _ _ (by have:=h.rl; omega) h.ro h2.ro,aA,tQ _ _ (by have:=h.bl; omega) h.gl,aA,Ct]
 simp only [vS,aA]
theorem nK (s:aP) (h:SW s):gf s=some s:=by
 unfold gf
 have hl:=h.rl
 refine dV (λi=>(s.rows.take i,(i:Int))) s.rows.length s.rows rfl ?_ ?_ ?_
 ·intro i hi
  dsimp only
  have hr:=(h.ro _ (List.getElem_mem hi)).2
  rw [decide_eq_true (by omega),cond_true,bE _ _ hi,aA,B9 _ (by omega),aA,bR (by simp; omega),aA,w64 (by omega) (by omega),List.take_succ_eq_append_getElem hi]
  rfl
 ·dsimp only
  rw [decide_eq_false (by omega),cond_false,List.take_length]
 ·have hb:=h.bl
  unfold cS
  rw [bR (by simp; omega),aA,aA]
  rfl
def BB (l:List Int):Prop:= ∀ b∈l,0<=b/\b < 256
theorem jS {a b:List Int} (h:BB a) (h2:BB b):BB (a++b):=by
 intro x hx
 rcases List.mem_append.1 hx with h' | h'
 ·exact h x h'
 ·exact h2 x h'
theorem lh (n:Int):BB (cI n):=nH _
theorem oa (s:ByteArray):BB (sbs s):=ql s
theorem mj {α:Type} {l:List α} {f:α->List Int} (h: ∀ a∈l,BB (f a)):BB (l.flatMap f):=by
 intro x hx
 obtain ⟨a,ha,hx⟩:=List.mem_flatMap.1 hx
 exact h a ha x hx
theorem Gh (p:Nat×aO):BB (iA p):=mj λa _=>lh a
theorem Gi (r:aY):BB (fF r):=jS (lh _) (mj λa _=>Gh a)
theorem Hr (g:aM):BB (pP g):=mj λa _=>lh a
def bI (l:List Int):aJ:=⟨dL l,0⟩
theorem yV {n:Int} (h0:0<=n) (h1:n<=4611686018427387904):cI n=gC n.toNat/\n.toNat<=most/\((n.toNat:Nat):Int)=n:=by
 have:((n.toNat:Nat):Int)=n:=by omega
 refine ⟨?_,by unfold most; omega,this⟩
 conv=>lhs; rw [<- this]
 exact jE (by unfold most; omega)
theorem Cu {n:Int} {R:List Int} (hR:BB R) (h0:0<=n) (h1:n<=4611686018427387904):rdS (bI (cI n++R))=(n,bI R):=by
 obtain ⟨e,m,q⟩:=yV h0 h1
 have:=Ga (dL (cI n++R)) n.toNat R m (by rw [kQ _ (jS (lh _) hR),e])
 rw [q] at this
 exact this
theorem G3 (t:ByteArray) {R:List Int} (hR:BB R) (ht:t.size<=100000):lN (bI (cI t.size++sbs t++R))=(t,bI R):=by
 unfold lN
 rw [List.append_assoc,Cu (jS (oa t) hR) (by omega) (by omega)]
 have hb:sbs (dL (sbs t++R))=sbs t++R:=kQ _ (jS (oa t) hR)
 have hsz:(dL (sbs t++R)).size=t.size+R.length:=by rw [<- bB,hb,List.length_append,bB]
 unfold uF bI
 dsimp only
 rw [if_neg (by simp),if_neg (by rw [hsz]; omega)]
 have h1:gD (dL (sbs t++R)) 0 (t.size:Int)=t:=by
  apply oX
  have:=iz (dL (sbs t++R)) 0 t.size
  rw [hb] at this
  refine Eq.trans this ?_
  have e:t.size=(sbs t).length:=(bB t).symm
  rw [e,List.take_left,List.drop_zero]
 have h2:gD (dL (sbs t++R)) (t.size:Int) ((dL (sbs t++R)).size:Int)=dL R:=by
  apply oX
  rw [iz,hb,kQ _ hR,hsz,List.take_of_length_le (by rw [List.length_append,bB]; exact Nat.le_refl _)]
  have e:t.size=(sbs t).length:=(bB t).symm
  rw [e,List.drop_left]
 rw [h1,h2]
theorem Ah (n:Nat):gC n≠[]:=by
 rw [gC]
 split <;> simp
theorem Cv (s:aP):BB (mI s):=by
 unfold mI lM
 exact jS (jS (jS (mj λa _=>lh a) (jS (lh _) (oa _))) (mj λa _=>lh a)) (jS (lh _) (mj λa _=>Hr a))
theorem EE (l:List aY):BB (l.flatMap fF):=mj λa _=>Gi a
theorem EF (s:aP):BB (sq s):=jS (Cv s) (EE _)
theorem Fv: ∀ (k:Nat) (i:aJ) (l:List aM),(bkL k i l).2.e=0->i.e=0
 | k,i,l,h=>by
  by_cases he:i.e=0
  ·exact he
  ·rw [sV _ _ _ he] at h
   exact h
theorem vf: ∀ (k:Nat) (i:aJ) (l:List aM),VI i->(bkL k i l).2.e=0 -> ∃ D,(bkL k i l).1.flatMap pP=l.flatMap pP++D/\sbs i.s=D++sbs (bkL k i l).2.s
 | 0,i,l,h,he=>⟨[],by simp [bkL],by simp [bkL]⟩
 | k+1,i,l,h,he=>by
  unfold bkL at he ⊢
  have v1:=fE 1114111 h
  have v2:=fE 647 v1
  obtain ⟨D,d1,d2⟩:=vf k _ _ v2 he
  obtain ⟨h1,c2,q2,_,m2,b2⟩:=jR (Fv _ _ _ he) v1
  obtain ⟨_,c1,q1,_,m1,b1⟩:=jR h1 h
  refine ⟨gC c1++gC c2++D,?_,?_⟩
  ·rw [d1,List.flatMap_append,List.flatMap_singleton,List.append_assoc]
   congr 2
   unfold pP
   simp only [List.flatMap_cons,List.flatMap_nil,List.append_nil,q1,q2,jE m1,jE m2]
  ·rw [b1,b2,d2]
   simp only [List.append_assoc]
theorem vg {i:aJ} (h:VI i) (he:(bkS i).2.e=0):i.e=0/\sbs i.s=lM (bkS i).1++sbs (bkS i).2.s:=by
 unfold bkS at he ⊢
 by_cases h0:(bkL (cA i 1024).1.toNat (cA i 1024).2 []).2.e=0
 ·rw [if_pos h0]
  have v1:=fE 1024 h
  obtain ⟨D,d1,d2⟩:=vf _ _ _ v1 h0
  obtain ⟨e0,c,q,_,m,b⟩:=jR (Fv _ _ _ h0) h
  refine ⟨e0,?_⟩
  have hl:=(yU (cA i 1024).1.toNat (cA i 1024).2 [] v1 (by intro g hg; cases hg)).2
  unfold lM
  rw [hl,d1,b,d2,q,Int.toNat_natCast]
  simp only [List.length_nil,Nat.zero_add,List.flatMap_nil,List.nil_append,jE m,List.append_assoc]
 ·rw [if_neg h0] at he
  exact absurd he h0
def Cw (s:ByteArray) (n:Nat):ByteArray:=if s.size > n then gD s 0 n else s
theorem Cx (s:ByteArray) (n:Nat):kv s n=some (Cw s n):=by
 unfold kv Cw
 by_cases h:s.size > n
 ·rw [decide_eq_true (by omega),cond_true,if_pos h,cV (by omega) (by omega) (by omega),aA]
 ·rw [decide_eq_false (by omega),cond_false,if_neg h]
theorem Be (s:ByteArray) (n:Nat):(Cw s n).size<=n:=by
 unfold Cw
 split
 ·have:=iz s 0 n
  have h2:=congrArg List.length this
  rw [bB] at h2
  have h3:(gD s 0 (n:Int)).size=(gD s ((0:Nat):Int) (n:Int)).size:=rfl
  rw [h3,h2,List.length_drop,List.length_take]
  omega
 ·omega
theorem qs:SW iX:=⟨by decide,by decide,λg hg=>(by cases hg),λr hr=>(by cases hr),by decide,by decide,by show noS.size<=12000; decide⟩
theorem Cy (s:aP):dL (sq s)≠noS:=by
 intro h
 have h2:sbs (dL (sq s))=[]:=by rw [h]; rfl
 rw [kQ _ (EF s)] at h2
 unfold sq mI at h2
 simp only [List.append_eq_nil_iff,List.flatMap_cons] at h2
 exact Ah _ h2.1.1.1.1.1
def pQ (a:Nat):Nat:=(a >>> 1) ^^^ (if a % 2=1 then 3988292384 else 0)
def oD (a:Nat):Nat:=pQ (pQ (pQ (pQ a)))
theorem pR {a b:Nat} (ha:a < 4294967296) (hb:b < 4294967296):a ^^^ b < 4294967296:=Nat.xor_lt_two_pow (n:=32) ha hb
theorem qt {a:Nat} (h:a < 4294967296):pQ a < 4294967296:=by
 unfold pQ
 have:a >>> 1 < 4294967296:=by rw [Nat.shiftRight_eq_div_pow]; omega
 exact pR this (by split <;> omega)
theorem EG (a b:Nat):(a ^^^ b) % 2=(a % 2+b % 2) % 2:=by
 have h:=Nat.testBit_xor a b 0
 rw [Nat.testBit_zero,Nat.testBit_zero,Nat.testBit_zero] at h
 have ha:a % 2=0\/a % 2=1:=by omega
 have hb:b % 2=0\/b % 2=1:=by omega
 have hc:(a ^^^ b) % 2=0\/(a ^^^ b) % 2=1:=by omega
 rcases ha with ha | ha <;> rcases hb with hb | hb <;> rcases hc with hc | hc <;> rw [ha,hb,hc] at h <;> first | (exact absurd h (by decide)) | (rw [ha,hb,hc])
theorem qu (a b:Nat):pQ (a ^^^ b)=pQ a ^^^ pQ b:=by
 unfold pQ
 rw [Nat.shiftRight_xor_distrib,EG]
 have ha:a % 2=0\/a % 2=1:=by omega
 have hb:b % 2=0\/b % 2=1:=by omega
 generalize a >>> 1=x
 generalize b >>> 1=y
 rcases ha with ha | ha <;> rcases hb with hb | hb <;> rw [ha,hb]
 ·simp
 ·simp [Nat.xor_assoc]
 ·simp only [Nat.zero_add,Nat.add_zero]
  simp
  rw [Nat.xor_assoc,Nat.xor_assoc,Nat.xor_comm y]
 ·simp
  have:x ^^^ 3988292384 ^^^ (y ^^^ 3988292384)=x ^^^ y ^^^ (3988292384 ^^^ 3988292384):=by
   rw [Nat.xor_assoc,Nat.xor_assoc,<- Nat.xor_assoc 3988292384 y,Nat.xor_comm 3988292384 y,Nat.xor_assoc]
  rw [this,Nat.xor_self,Nat.xor_zero]
theorem Cz (a b:Nat):oD (a ^^^ b)=oD a ^^^ oD b:=by
 unfold oD
 rw [qu,qu,qu,qu]
theorem oY (k:Nat):pQ (2*k)=k:=by
 unfold pQ
 rw [if_neg (by omega),Nat.xor_zero,Nat.shiftRight_eq_div_pow]
 omega
theorem EH (k:Nat):oD (16*k)=k:=by
 unfold oD
 rw [show 16*k=2*(2*(2*(2*k))) by omega,oY,oY,oY,oY]
theorem vh (x:Nat):oD x=(x / 16) ^^^ oD (x % 16):=by
 have h:x=(16*(x / 16)) ^^^ (x % 16):=by
  have h1:16*(x / 16)+x % 16=x:=Nat.div_add_mod x 16
  have h2:(16*(x / 16)) ^^^ (x % 16)=16*(x / 16)+x % 16:=by
   have h3:2 ^ 4*(x / 16)+x % 16=(2 ^ 4*(x / 16)) ||| (x % 16):=Nat.two_pow_add_eq_or_of_lt (by omega) _
   apply Nat.eq_of_testBit_eq
   intro i
   have h4:(16*(x / 16)+x % 16)=(2 ^ 4*(x / 16)) ||| (x % 16):=h3
   rw [h4,Nat.testBit_xor,Nat.testBit_or]
   show ((2 ^ 4*(x / 16)).testBit i ^^ (x % 16).testBit i)=_
   rw [Nat.testBit_two_pow_mul]
   by_cases hi:i>=4
   ·have:(x % 16).testBit i=false:=by
     apply Nat.testBit_lt_two_pow
     have:2 ^ 4<=2 ^ i:=Nat.pow_le_pow_right (by omega) hi
     omega
    rw [this]
    simp
   ·simp [hi]
  rw [h2,h1]
 conv=>lhs; rw [h]
 rw [Cz,EH]
theorem Ai: ∀ n:Nat,n < 16->idx dD (n:Int)=some ((oD n:Nat):Int):=by decide
theorem Gj {x:Int} (h0:0<=x) (h1:x < 4294967296):IntKind.u32.wrap x=x:=by
 unfold IntKind.wrap
 simp [IntKind.signed,IntKind.bits]
 omega
theorem Aj {a b:Nat} (ha:a < 4294967296) (hb:b < 4294967296):Go.bits .xor .u32 (a:Int) (b:Int)=((a ^^^ b:Nat):Int):=by
 show IntKind.u32.wrap ((BitVec.ofInt 32 (a:Int) ^^^ BitVec.ofInt 32 (b:Int)).toNat:Int)=_
 rw [BitVec.ofInt_natCast,BitVec.ofInt_natCast,BitVec.toNat_xor,BitVec.toNat_ofNat,BitVec.toNat_ofNat,Nat.mod_eq_of_lt ha,Nat.mod_eq_of_lt hb]
 have:=pR ha hb
 exact Gj (by omega) (by omega)
theorem Fw {a b:Nat} (ha:a < 4294967296) (hb:b < 4294967296):Go.bits .xor .i64 (a:Int) (b:Int)=((a ^^^ b:Nat):Int):=by
 show IntKind.i64.wrap ((BitVec.ofInt 64 (a:Int) ^^^ BitVec.ofInt 64 (b:Int)).toNat:Int)=_
 rw [BitVec.ofInt_natCast,BitVec.ofInt_natCast,BitVec.toNat_xor,BitVec.toNat_ofNat,BitVec.toNat_ofNat,Nat.mod_eq_of_lt (by omega),Nat.mod_eq_of_lt (by omega)]
 have:=pR ha hb
 exact w64 (by omega) (by omega)
theorem Fy {a:Nat} (ha:a < 4294967296):Go.bits .and .u32 (a:Int) 15=((a % 16:Nat):Int):=by
 show IntKind.u32.wrap ((BitVec.ofInt 32 (a:Int) &&& BitVec.ofInt 32 15).toNat:Int)=_
 rw [BitVec.ofInt_natCast,BitVec.toNat_and,BitVec.toNat_ofNat,Nat.mod_eq_of_lt ha]
 have h:(BitVec.ofInt 32 15).toNat=2 ^ 4 - 1:=by decide
 rw [h,Nat.and_two_pow_sub_one_eq_mod]
 exact Gj (by omega) (by omega)
theorem Fz (a:Nat):((a:Int)).fdiv (2 ^ (min 4 32))=((a / 16:Nat):Int):=by
 rw [Int.fdiv_eq_ediv_of_nonneg _ (by decide)]
 rfl
def xA (x b:Nat):Nat:=oD (oD (x ^^^ b))
theorem qv {a:Nat} (h:a < 4294967296):oD a < 4294967296:=qt (qt (qt (qt h)))
theorem CA {x b:Nat} (h:x < 4294967296) (hb:b < 256):xA x b < 4294967296:=qv (qv (pR h (by omega)))
theorem step_eq {x b:Nat} (hx:x < 4294967296) (hb:b < 256):k8 (x:Int) (b:Int)=some ((xA x b:Nat):Int):=by
 unfold k8 xA
 rw [Gj (by omega) (by omega),Aj hx (by omega)]
 have h1:=pR hx (show b < 4294967296 by omega)
 generalize x ^^^ b=y at h1
 rw [Fy h1,Ai _ (by omega),aA,Fz,Aj (by omega) (qv (by omega)),<- vh]
 have h2:=qv h1
 generalize oD y=z at h2
 rw [Fy h2,Ai _ (by omega),aA,Fz,Aj (by omega) (qv (by omega)),<- vh]
def CB (y:Nat):Nat->Nat
 | 0=>y
 | i+1=>pQ (CB y i)
theorem G4 {y:Nat} (hy:y < 4294967296):iter (σ:=Int×Int) (ρ:=Int) (λa=>(bif (decide (a.2 < 8)) then (Option.bind ((bif ((a.1.tmod 2) == 1) then some (Go.bits .xor .i64 (IntKind.i64.wrap (a.1.tdiv 2)) 3988292384) else some (IntKind.i64.wrap (a.1.tdiv 2))):Option Int) λc=>some (.inl (c,(IntKind.i64.wrap (a.2+1))))) else some (.inr a.1))) ((y:Int),0)=some ((oD (oD y):Nat):Int):=by
 have st: ∀ (z n:Nat),z < 4294967296->n < 8->(bif (decide ((n:Int) < 8)) then (Option.bind ((bif (((z:Int).tmod 2) == 1) then some (Go.bits .xor .i64 (IntKind.i64.wrap ((z:Int).tdiv 2)) 3988292384) else some (IntKind.i64.wrap ((z:Int).tdiv 2))):Option Int) λc=>some (.inl (c,(IntKind.i64.wrap ((n:Int)+1))))) else some (.inr (z:Int)):Option ((Int×Int) ⊕ Int))=some (.inl (((pQ z:Nat):Int),((n+1:Nat):Int))):=by
  intro z n hz hn
  have h1:(z:Int).tdiv 2=((z >>> 1:Nat):Int):=by
   rw [Int.tdiv_eq_ediv_of_nonneg (by omega),Nat.shiftRight_eq_div_pow]
   rfl
  have h2:(z:Int).tmod 2=((z % 2:Nat):Int):=by
   rw [Int.tmod_eq_emod_of_nonneg (by omega)]
   rfl
  have h3:z >>> 1 < 4294967296:=by rw [Nat.shiftRight_eq_div_pow]; omega
  rw [decide_eq_true (by omega),cond_true,h1,h2,w64 (by omega) (by omega),w64 (by omega) (by omega)]
  have hx:Go.bits .xor .i64 ((z >>> 1:Nat):Int) 3988292384=((z >>> 1 ^^^ 3988292384:Nat):Int):=Fw h3 (b:=3988292384) (by decide)
  rw [hx]
  unfold pQ
  by_cases ho:z % 2=1
  ·have:(((z % 2:Nat):Int) == 1)=true:=by rw [ho]; rfl
   rw [this,cond_true,if_pos ho]
   rfl
  ·have:(((z % 2:Nat):Int) == 1)=false:=by rw [show z % 2=0 by omega]; rfl
   rw [this,cond_false,if_neg ho,Nat.xor_zero]
   rfl
 have hB: ∀ i,CB y i < 4294967296:=by
  intro i
  induction i with
  | zero=>exact hy
  | succ i ih=>exact qt ih
 have h8:oD (oD y)=CB y 8:=rfl
 rw [h8]
 refine mf (λi=>(((CB y i:Nat):Int),(i:Int))) 8 _ ?_ ?_
 ·intro i hi
  exact st (CB y i) i (hB i) hi
 ·dsimp only
  rw [decide_eq_false (by omega),cond_false]
def qw (l:List Int):Nat:=l.foldl (λx b=>xA x b.toNat) 4294967295
theorem pS (l:List Int) (i:Nat) (h:i < l.length):qw (l.take (i+1))=xA (qw (l.take i)) (l[i]).toNat:=by
 unfold qw
 rw [List.take_succ_eq_append_getElem h,List.foldl_append]
 rfl
theorem vX {l:List Int} (h:BB l): ∀ i,qw (l.take i) < 4294967296:=by
 intro i
 induction i with
 | zero=>rw [List.take_zero]; decide
 | succ i ih =>
  by_cases hi:i < l.length
  ·rw [pS l i hi]
   have:=h _ (List.getElem_mem hi)
   exact CA ih (by omega)
  ·rw [List.take_of_length_le (by omega)]
   rw [List.take_of_length_le (by omega)] at ih
   exact ih
def ji (s:ByteArray):Nat:=4294967295 ^^^ qw (sbs s)
theorem yW (s:ByteArray) (hs:s.size<=1000000):mz [s]=some ((ji s:Nat):Int):=by
 unfold mz
 have hL:=vX (oa s)
 have hinner:iter (σ:=Int×Int) (ρ:=Int) (λa=>(bif (decide (a.1 < (s.size:Int))) then (Option.bind (tE s a.1) λb642=>(Option.bind (k8 a.2 b642) λb=>some (.inl ((IntKind.i64.wrap (a.1+1)),b)))) else some (.inr a.2))) (0,4294967295)=some ((qw (sbs s):Nat):Int):=by
  refine mf (λi=>((i:Int),((qw ((sbs s).take i):Nat):Int))) s.size _ ?_ ?_
  ·intro i hi
   have hi2:i < (sbs s).length:=by rw [bB]; exact hi
   have hb:=oa s _ (List.getElem_mem hi2)
   have hn:(sbs s)[i]=(((sbs s)[i].toNat:Nat):Int):=by omega
   dsimp only
   rw [decide_eq_true (by omega),cond_true,qm s i hi2,aA,pS _ _ hi2]
   conv=>lhs; rw [hn]
   rw [step_eq (hL i) (by omega),aA,w64 (by omega) (by omega)]
   rfl
  ·dsimp only
   rw [decide_eq_false (by omega),cond_false,List.take_of_length_le (by rw [bB]; exact Nat.le_refl _)]
 refine dV (λi=>(if i=0 then (4294967295:Int) else ((qw (sbs s):Nat):Int),(i:Int))) 1 ((qw (sbs s):Nat):Int) rfl ?_ ?_ ?_
 ·intro i hi
  have:i=0:=by omega
  subst this
  have h1:idx [s] 0=some s:=rfl
  show (bif (decide ((0:Int) < 1)) then (Option.bind (idx [s] 0) λc=>_) else _)=_
  rw [decide_eq_true (by omega),cond_true,h1,aA]
  show (Option.bind (iter _ (0,4294967295)) λd=>_)=_
  rw [hinner,aA]
  rfl
 ·rfl
 ·have h:=hL (sbs s).length
  rw [List.take_length] at h
  show some (Go.bits .xor .u32 ((4294967295:Nat):Int) ((qw (sbs s):Nat):Int))=_
  rw [Aj (by decide) h]
  rfl
theorem CC {x:Nat} (h:x < 4294967296):4294967295 ^^^ x=4294967295 - x:=by
 have h1:(2 ^ 32 - 1) - x=2 ^ 32 - (x+1):=by omega
 show 4294967295 ^^^ x=_
 apply Nat.eq_of_testBit_eq
 intro i
 have h2:4294967295 - x=2 ^ 32 - (x+1):=by omega
 rw [h2,Nat.testBit_two_pow_sub_succ h,Nat.testBit_xor]
 have h3:(4294967295:Nat).testBit i=decide (i < 32):=by
  show (2 ^ 32 - 1).testBit i=_
  rw [Nat.testBit_two_pow_sub_one]
 rw [h3]
 by_cases hi:i < 32
 ·simp [hi]
 ·have:x.testBit i=false:=by
   apply Nat.testBit_lt_two_pow
   have:2 ^ 32<=2 ^ i:=Nat.pow_le_pow_right (by omega) (by omega)
   omega
  simp [hi,this]
theorem Ak (s:ByteArray) (hs:s.size<=1000000):lg s=some ((ji s:Nat):Int):=by
 unfold lg
 have hL:=vX (oa s)
 refine dV (λi=>(((qw ((sbs s).take i):Nat):Int),(i:Int))) s.size ((qw (sbs s):Nat):Int) rfl ?_ ?_ ?_
 ·intro i hi
  have hi2:i < (sbs s).length:=by rw [bB]; exact hi
  have hb:=oa s _ (List.getElem_mem hi2)
  have hn:(sbs s)[i]=(((sbs s)[i].toNat:Nat):Int):=by omega
  dsimp only
  rw [decide_eq_true (by omega),cond_true,qm s i hi2,aA,pS _ _ hi2]
  have hx:Go.bits .xor .i64 ((qw ((sbs s).take i):Nat):Int) (IntKind.i64.wrap (sbs s)[i])=((qw ((sbs s).take i) ^^^ (sbs s)[i].toNat:Nat):Int):=by
   rw [w64 (by omega) (by omega)]
   conv=>lhs; rw [hn]
   exact Fw (hL i) (by omega)
  rw [hx,G4 (pR (hL i) (by omega)),aA,w64 (by omega) (by omega)]
  rfl
 ·dsimp only
  rw [decide_eq_false (by omega),cond_false,List.take_of_length_le (by rw [bB]; exact Nat.le_refl _)]
 ·have h:=hL (sbs s).length
  rw [List.take_length] at h
  unfold ji
  rw [CC h,w64 (by omega) (by omega)]
  congr 1
  omega
theorem vY (l:List Int) (s:ByteArray):dL l++s=dL (l++sbs s):=by
 rw [dG,oA]
theorem tR (s:ByteArray) (hs:s.size<=1000000):jM s=some (dL (cI s.size++sbs s)):=by
 unfold jM
 have h:=cJ (s.size:Int)
 rw [iP,aA,dZ (by rw [bP]; omega),aA,vY]
theorem xB (s:aP) (h:SW s) (hp:(s.rows.flatMap fF).length<=1000000):gT (fC s)=some (jn s):=by
 unfold gT jn
 have hc:((Option.bind (g0 (fC s)) λd=>(bif d then some true else (Option.bind (jA (fC s)) λe=>some (!e)))):Option Bool)=some (hG s || !nr s):=by
  rw [vb,aA,Cm s h,aA]
  cases hG s <;> cases nr s <;> rfl
 rw [hc,aA]
 by_cases hb:hG s=true\/nr s=false
 ·rw [if_pos hb]
  have:(hG s || !nr s)=true:=by
   rcases hb with hb | hb <;> simp [hb]
  rw [this,cond_true]
  rfl
 ·rw [if_neg hb]
  have hne:hG s=false:=by cases he:hG s with | true=>exact absurd (.inl he) hb | false=>rfl
  have hm:nr s=true:=by cases he:nr s with | false=>exact absurd (.inr he) hb | true=>rfl
  rw [hne,hm]
  have hpl:=rG s h
  have htl:=h.tl
  have hph:(mI s).length=([s.k,s.w,s.h,s.x,s.y].flatMap cI).length+((cI s.title.size++sbs s.title).length+(([s.len,s.chain].flatMap cI).length+(lM s.begun).length)):=by
   unfold mI
   rw [List.length_append,List.length_append,List.length_append]
   omega
  have hnum: ∀ L:List Int,L.length<=10->iter (σ:=Int×ByteArray) (ρ:=ByteArray) (λb=>(bif (decide (b.1 < (L.length:Int))) then (Option.bind (idx L b.1) λf=>(Option.bind (cG f) λc=>(Option.bind (chk (kB b.2.size c.size)) λ_=>some (.inl ((IntKind.i64.wrap (b.1+1)),(b.2++c)))))) else some (.inr b.2))) (0,(ByteArray.mk #[]))=some (dL (L.flatMap cI)):=by
   intro L hL
   have hlen: ∀ (M:List Int),(M.flatMap cI).length<=9*M.length:=by
    intro M
    induction M with
    | nil=>simp
    | cons a M ih =>
     rw [List.flatMap_cons,List.length_append,List.length_cons]
     have:=cJ a
     omega
   refine mf (λi=>((i:Int),dL ((L.take i).flatMap cI))) L.length _ ?_ ?_
   ·intro i hi
    have h2:=hlen (L.take i)
    rw [List.length_take] at h2
    have h3:=cJ L[i]
    dsimp only
    rw [decide_eq_true (by omega),cond_true,bE _ _ hi,aA,iP,aA,dZ (by rw [bP,bP]; omega),aA,<- dG,w64 (by omega) (by omega),List.take_succ_eq_append_getElem hi,List.flatMap_append,List.flatMap_singleton]
    rfl
   ·dsimp only
    rw [decide_eq_false (by omega),cond_false,List.take_length]
  have hn2:[s.len,s.chain].flatMap cI=cI s.len++cI s.chain:=by simp
  have hl1:=cJ s.len
  have hl2:=cJ s.chain
  have ht:(cI s.title.size++sbs s.title).length<=12009:=by
   rw [List.length_append,bB]
   have:=cJ (s.title.size:Int)
   omega
  dsimp only
  rw [Bool.not_true,Bool.or_false,cond_false,hnum _ (by simp),aA,tR _ (by omega),aA,iP,aA,dZ (by rw [bP,bP]; omega),aA,iP,aA,<- dG,dZ (by rw [bP,bP,List.length_append]; omega),aA,Bd _ h.bl,aA,<- dG,dZ (by rw [bP,bP,List.length_append,List.length_append]; omega),aA,<- dG,dZ (by rw [bP,bP,List.length_append,List.length_append,List.length_append]; omega),aA,<- dG]
  have hhead:[s.k,s.w,s.h,s.x,s.y].flatMap cI++(((cI s.title.size++sbs s.title)++cI s.len++cI s.chain)++lM s.begun)=mI s:=by
   unfold mI
   rw [hn2]
   simp only [List.append_assoc]
  rw [hhead]
  refine dV (λi=>(dL (mI s++(s.rows.take i).flatMap fF),(i:Int))) s.rows.length (dL (sq s)) (by simp) ?_ ?_ rfl
  ·intro i hi
   have hro:=h.ro _ (List.getElem_mem hi)
   have hl1:=Ab s.rows (i+1)
   rw [List.take_succ_eq_append_getElem hi,List.flatMap_append,List.flatMap_singleton,List.length_append] at hl1
   have hrl:=h.rl
   have hi2:i < (s.rows.map told).length:=by rw [List.length_map]; exact hi
   dsimp only
   rw [List.length_map,decide_eq_true (by omega),cond_true,bE _ _ hi2,aA,List.getElem_map,xv _ hro.2,aA,dZ (by rw [bP,bP,List.length_append]; omega),aA,<- dG,w64 (by omega) (by omega),List.take_succ_eq_append_getElem hi,List.flatMap_append,List.flatMap_singleton,List.append_assoc]
   rfl
  ·dsimp only
   rw [List.length_map,decide_eq_false (by omega),cond_false,List.take_length]
   rfl
theorem tS {s:aP} (h:SW s) (hp:(s.rows.flatMap fF).length<=12000):(jn s).size<=72000:=by
 unfold jn
 split
 ·exact Nat.zero_le _
 ·have:=rG s h
  rw [bP]
  unfold sq
  rw [List.length_append]
  omega
theorem sW (s:ByteArray):ji s < 4294967296:=by
 unfold ji
 have h:=vX (oa s) (sbs s).length
 rw [List.take_length] at h
 exact pR (by decide) h
theorem EJ (s:aP) (h:SW s) (hp:(s.rows.flatMap fF).length<=12000):iV s=some ((ji (jn s):Nat):Int):=by
 unfold iV
 have h1:=tS h hp
 have h2:=sW (jn s)
 rw [Ad s h (by omega),aA,yW _ (by omega),aA,w64 (by omega) (by omega)]
theorem CD (s:aP) (h:SW s) (hp:(s.rows.flatMap fF).length<=12000):lG (fC s)=some ((ji (jn s):Nat):Int):=by
 unfold lG
 have h1:=tS h hp
 rw [xB s h (by omega),aA,Ak _ (by omega),aA]
end Go.Tw.X
set_option maxHeartbeats 1000000
namespace Go.Tw.X
open Go Go.Tw
def ss (n:Nat):List Int:=[((n % 256:Nat):Int),((n / 256 % 256:Nat):Int),((n / 65536 % 256:Nat):Int),((n / 16777216 % 256:Nat):Int)]
theorem vZ (n:Nat):BB (ss n):=λb hb=>by
 simp only [ss,List.mem_cons,List.not_mem_nil,or_false] at hb
 rcases hb with rfl | rfl | rfl | rfl <;> omega
theorem w8 (n:Nat):IntKind.u8.wrap (n:Int)=((n % 256:Nat):Int):=by
 show (n:Int) % 256=_
 omega
theorem fdN (n k:Nat):((n:Int)).fdiv ((k:Int))=((n / k:Nat):Int):=by
 rw [Int.fdiv_eq_ediv_of_nonneg _ (by omega)]
 rfl
theorem Al {n:Nat} (h:n < 4294967296):k9 (n:Int)=some (dL (ss n)):=by
 unfold k9 ss
 rw [show ((2:Int) ^ (min 8 32))=((256:Nat):Int) from rfl,show ((2:Int) ^ (min 16 32))=((65536:Nat):Int) from rfl,show ((2:Int) ^ (min 24 32))=((16777216:Nat):Int) from rfl,fdN,fdN,fdN,w8,w8,w8,w8]
def nL (s:ByteArray):ByteArray:=s++dL (ss (ji s))
theorem qy (s:ByteArray):sbs (nL s)=sbs s++ss (ji s):=by
 unfold nL
 rw [yO,kQ _ (vZ _)]
theorem oZ (s:ByteArray):(nL s).size=s.size+4:=by
 rw [<- bB,qy,List.length_append,bB]
 rfl
theorem EK {s:ByteArray} (h:s.size<=900000):lb s=some (nL s):=by
 unfold lb
 rw [yW s (by omega),aA,Al (sW s),aA,dZ (by rw [bP]; simp [ss]; omega),aA]
 rfl
theorem xC {s:ByteArray} (h:s.size<=900000):jN s=some (nL s):=by
 unfold jN
 have hl:=sW s
 rw [Ak s (by omega),aA]
 have e1:IntKind.u8.wrap ((((ji s:Nat):Int)).tmod 256)=((ji s % 256:Nat):Int):=by
  rw [show (((ji s:Nat):Int)).tmod 256=((ji s % 256:Nat):Int) from rfl,w8]
  omega
 have e2:IntKind.u8.wrap ((IntKind.i64.wrap ((((ji s:Nat):Int)).tdiv 256)).tmod 256)=((ji s / 256 % 256:Nat):Int):=by
  rw [show (((ji s:Nat):Int)).tdiv 256=((ji s / 256:Nat):Int) from rfl,w64 (by omega) (by omega),show (((ji s / 256:Nat):Int)).tmod 256=((ji s / 256 % 256:Nat):Int) from rfl,w8]
  omega
 have e3:IntKind.u8.wrap ((IntKind.i64.wrap ((((ji s:Nat):Int)).tdiv 65536)).tmod 256)=((ji s / 65536 % 256:Nat):Int):=by
  rw [show (((ji s:Nat):Int)).tdiv 65536=((ji s / 65536:Nat):Int) from rfl,w64 (by omega) (by omega),show (((ji s / 65536:Nat):Int)).tmod 256=((ji s / 65536 % 256:Nat):Int) from rfl,w8]
  omega
 have e4:IntKind.u8.wrap (IntKind.i64.wrap ((((ji s:Nat):Int)).tdiv 16777216))=((ji s / 16777216 % 256:Nat):Int):=by
  rw [show (((ji s:Nat):Int)).tdiv 16777216=((ji s / 16777216:Nat):Int) from rfl,w64 (by omega) (by omega),w8]
 rw [e1,e2,e3,e4]
 rw [dZ (by rw [bP]; simp; omega),aA]
 rfl
def jT (s:ByteArray):ByteArray:=gD s 0 ((s.size - 4:Nat):Int)
def oo (s:ByteArray):Bool:=decide (4<=s.size/\nL (jT s)=s)
def qz (s:ByteArray):ByteArray×Bool:=if oo s=true then (jT s,true) else (noS,false)
theorem sX (s:ByteArray):sbs (jT s)=(sbs s).take (s.size - 4):=by
 unfold jT
 have:=iz s 0 (s.size - 4)
 simpa using this
theorem kS {s:ByteArray} (h:4<=s.size):(jT s).size=s.size - 4:=by
 rw [<- bB,sX,List.length_take,bB]
 omega
theorem CE {s:ByteArray} (h:s.size<=800000):kI s=some (qz s):=by
 unfold kI qz oo
 by_cases c:(s.size:Int) < 4
 ·rw [decide_eq_true c,cond_true,aA,cond_true,decide_eq_false (by omega),if_neg (by simp)]
  rfl
 ·have e:IntKind.i64.wrap ((s.size:Int) - 4)=((s.size - 4:Nat):Int):=by rw [w64 (by omega) (by omega)]; omega
  have hf:=kS (s:=s) (by omega)
  rw [decide_eq_false c,cond_false,e,cV (by omega) (by omega) (by omega),aA,show gD s 0 ((s.size - 4:Nat):Int)=jT s from rfl,xC (by omega),aA,mi,aA]
  by_cases d:nL (jT s)=s
  ·rw [decide_eq_true d,Bool.not_true,cond_false,aA,decide_eq_true ⟨by omega,d⟩,if_pos rfl]
  ·rw [decide_eq_false d,Bool.not_false,cond_true,decide_eq_false (λh=>d h.2),if_neg (by simp)]
   rfl
theorem EL {s:ByteArray} (h:s.size<=800000):mC s=some (qz s):=by
 unfold mC qz oo
 by_cases c:(s.size:Int) < 4
 ·have e:IntKind.i64.wrap ((s.size:Int) - 4)=(s.size:Int) - 4:=w64 (by omega) (by omega)
  rw [e,decide_eq_true (by omega),cond_true,aA,cond_true,decide_eq_false (by omega),if_neg (by simp)]
  rfl
 ·have e:IntKind.i64.wrap ((s.size:Int) - 4)=((s.size - 4:Nat):Int):=by rw [w64 (by omega) (by omega)]; omega
  have hf:=kS (s:=s) (by omega)
  rw [e,decide_eq_false (by omega),cond_false,cV (by omega) (by omega) (by omega),aA,cV (by omega) (by omega) (by omega),aA,show gD s 0 ((s.size - 4:Nat):Int)=jT s from rfl,yW _ (by omega),aA,Al (sW _),aA,mi,aA]
  have hd:sbs (gD s ((s.size - 4:Nat):Int) (s.size:Int))=(sbs s).drop (s.size - 4):=by
   rw [iz,List.take_of_length_le (by rw [bB]; omega)]
  have key:(gD s ((s.size - 4:Nat):Int) (s.size:Int)=dL (ss (ji (jT s))))↔nL (jT s)=s:=by
   constructor
   ·intro q
    apply oX
    rw [qy,sX]
    have q2:=congrArg sbs q
    rw [hd,kQ _ (vZ _)] at q2
    rw [<- q2,List.take_append_drop]
   ·intro q
    apply oX
    have q2:=congrArg sbs q
    rw [qy,sX] at q2
    rw [hd,kQ _ (vZ _)]
    exact (List.append_cancel_left (q2.trans (List.take_append_drop (s.size - 4) (sbs s)).symm)).symm
  by_cases d:nL (jT s)=s
  ·rw [decide_eq_true (key.2 d),Bool.not_true,cond_false,aA,decide_eq_true ⟨by omega,d⟩,if_pos rfl]
  ·rw [decide_eq_false (λh=>d (key.1 h)),Bool.not_false,cond_true,decide_eq_false (λh=>d h.2),if_neg (by simp)]
   rfl
theorem Bf (s:ByteArray):qz (nL s)=(s,true):=by
 have h1:=oZ s
 have h2:jT (nL s)=s:=by
  apply oX
  rw [sX,qy,h1,Nat.add_sub_cancel,<- bB]
  simp
 unfold qz oo
 rw [decide_eq_true ⟨by omega,by rw [h2]⟩,if_pos rfl,h2]
theorem tT (s:aP) (y:Nat) (h:y < s.rows.length):gu s (y:Int)=some (s.rows[y],true):=by
 unfold gu
 rw [decide_eq_false (show ¬ ((y:Int) < 0) by omega),cond_false,aA,decide_eq_false (show ¬ ((y:Int)>=(s.rows.length:Int)) by omega),cond_false,bE _ _ h,aA]
theorem vi (s:aP) (y:Nat) (h: ¬ y < s.rows.length):gu s (y:Int)=some (tI,false):=by
 unfold gu
 rw [decide_eq_false (show ¬ ((y:Int) < 0) by omega),cond_false,aA,decide_eq_true (show ((y:Int)>=(s.rows.length:Int)) by omega),cond_true]
 rfl
theorem xD (r q:aY) (h:r.cells.length<=1000000):gU (told r) (told q)=some (decide (r=q)):=by
 unfold gU
 have hw:(!((told r).wrapped == (told q).wrapped)) = !decide (r.wrapped=q.wrapped):=by
  show (!(r.wrapped == q.wrapped))=_
  cases r.wrapped <;> cases q.wrapped <;> rfl
 have hl:(((told r).l.length:Int) != ((told q).l.length:Int)) = !decide (r.cells.length=q.cells.length):=by
  show (((r.cells.map tc).length:Int) != ((q.cells.map tc).length:Int))=_
  rw [fm,fm]
  by_cases he:r.cells.length=q.cells.length
  ·simp [he]
  ·have: ¬ ((r.cells.length:Int)=(q.cells.length:Int)):=by omega
   simp [he,this]
 rw [hw,hl]
 by_cases h1:r.wrapped=q.wrapped
 ·rw [decide_eq_true h1,Bool.not_true,cond_false,aA]
  by_cases h2:r.cells.length=q.cells.length
  ·rw [decide_eq_true h2,Bool.not_true,cond_false]
   have:=rJ r.cells q.cells h2 (λa=>(bif (decide (a < ((told r).l.length:Int))) then (Option.bind (idx (told r).l a) λb=>(Option.bind (idx (told q).l a) λc=>(bif (!((b.rune == c.rune) && ((b.bU == c.bU) && ((b.part == c.part) && true)))) then (fp (some false)) else some (.inl (IntKind.i64.wrap (a+1)))))) else some (.inr (.inl ())))) (by
    intro n h1 h2
    have l1:(told r).l.length=r.cells.length:=fm _
    have l2:(told q).l.length=q.cells.length:=fm _
    rw [decide_eq_true (show (n:Int) < ((told r).l.length:Int) by omega),cond_true,bE _ _ (by omega),aA,bE _ _ (by omega),aA]
    have g1:(told r).l[n]'(by omega)=tc r.cells[n]:=List.getElem_map ..
    have g2:(told q).l[n]'(by omega)=tc q.cells[n]:=List.getElem_map ..
    rw [g1,g2]
    have:=lK r.cells[n] q.cells[n]
    show (bif !(((r.cells[n]).rune == (q.cells[n]).rune) && (((r.cells[n]).bU == (q.cells[n]).bU) && (((r.cells[n]).part == (q.cells[n]).part) && true))) then _ else _)=_
    rw [this]
    by_cases he:r.cells[n]=q.cells[n]
    ·rw [decide_eq_true he,if_pos he,Bool.not_true,cond_false,w64 (by omega) (by omega)]
     rfl
    ·rw [decide_eq_false he,if_neg he,Bool.not_false,cond_true]
     rfl) (by
    have l1:(told r).l.length=r.cells.length:=fm _
    rw [decide_eq_false (by omega),cond_false])
   rw [this,aA]
   by_cases he:r.cells=q.cells
   ·rw [if_pos he]
    have:r=q:=by cases r; cases q; simp_all
    rw [decide_eq_true this]
   ·rw [if_neg he]
    have: ¬ r=q:=λhh=>he (by rw [hh])
    rw [decide_eq_false this]
  ·have: ¬ r=q:=λhh=>h2 (by rw [hh])
   rw [decide_eq_false h2,decide_eq_false this]
   rfl
 ·have: ¬ r=q:=λhh=>h1 (by rw [hh])
  rw [decide_eq_false h1,decide_eq_false this]
  rfl
def oE (s:aP):Bool:=hG s || !nr s
theorem o2 {s:aP}:(jn s=noS)↔oE s=true:=by
 unfold jn oE
 constructor
 ·intro h
  split at h
  ·rename_i hb
   rcases hb with hb | hb <;> simp [hb]
  ·exact absurd h (Cy s)
 ·intro h
  rw [if_pos]
  simpa using h
theorem CF (s:aP) (h:SW s) (hp:(s.rows.flatMap fF).length<=1000000):jw s=some (!oE s):=by
 unfold jw
 rw [Ad s h hp,aA]
 have e:((jn s).toList == (ByteArray.mk #[]).toList)=decide (jn s=noS):=mi _ noS
 rw [e]
 cases hb:oE s with
 | true=>rw [decide_eq_true (o2.2 hb)]
 | false=>rw [decide_eq_false (λhh=>by rw [o2.1 hh] at hb; cases hb)]
def zA (s:ByteArray):=rdS ⟨s,0⟩
def zB (s:ByteArray):=rdS (zA s).2
def zC (s:ByteArray):=cA (zB s).2 1000
def zD (s:ByteArray):=cA (zC s).2 1000
def zE (s:ByteArray):=rdS (zD s).2
def zF (s:ByteArray):=rdS (zE s).2
def zT (s:ByteArray):=lN (zF s).2
def zG (s:ByteArray):=rdS (zT s).2
def zH (s:ByteArray):=rdS (zG s).2
def zK (s:ByteArray):=bkS (zH s).2
def zN (s:ByteArray):=rdS (zK s).2
def zS (s:ByteArray):aP:=⟨(zB s).1,(zC s).1,(zD s).1,(zE s).1,(zF s).1,(zT s).1,[],(zG s).1,(zH s).1,(zK s).1⟩
def su (j:aJ):aJ:=if j.e=0 then jh else j
theorem CH {j:aJ} (h:VI j):VI (su j):=by
 unfold su
 split
 ·exact mH
 ·exact h
theorem EN (j:aJ):(su j).e≠0:=by
 unfold su
 split
 ·decide
 ·assumption
def dlI (h:Int) (i:aJ) (last:Int):aJ:=if (rdS i).1<=last\/(rdS i).1>=h then su (rdS i).2 else (rdS i).2
def dlL:Nat->Int->Int->aJ->Int->List (Int×aY)->List (Int×aY)×aJ
 | 0,_,_,i,_,l=>(l,i)
 | k+1,w,h,i,last,l=>if i.e=0 then dlL k w h (hZ (dlI h i last) w).2 (rdS i).1 (l++[((rdS i).1,(hZ (dlI h i last) w).1)]) else (l,i)
def zR (s:ByteArray):=dlL (zN s).1.toNat (zC s).1 (zD s).1 (zN s).2 (-1) []
theorem kT {h:Int} {i:aJ} {last:Int} (hV:VI i):VI (dlI h i last):=by
 unfold dlI
 split
 ·exact CH (fr hV)
 ·exact fr hV
theorem yX {h:Int} {i:aJ} {last:Int} (he:(dlI h i last).e=0):last < (rdS i).1/\(rdS i).1 < h/\dlI h i last=(rdS i).2:=by
 unfold dlI at he ⊢
 split at he
 ·exact absurd he (EN _)
 ·rename_i hc
  rw [if_neg hc]
  exact ⟨by omega,by omega,rfl⟩
theorem qA (k:Nat) (w h:Int) (i:aJ) (last:Int) (l:List (Int×aY)) (he:i.e≠0):dlL k w h i last l=(l,i):=by
 cases k with
 | zero=>rfl
 | succ k=>unfold dlL; rw [if_neg he]
theorem v8 {i:aJ} {w:Int} (hV:VI i) (he:(hZ i w).2.e=0):i.e=0:=by
 unfold hZ at he
 have h1:(rrS (w.toNat+1) w (cA i 1).2 []).2.e=0:=by
  split at he
  ·exact he
  ·exact he
 have h2:=xq _ _ _ _ h1
 exact (jR h2 hV).1
theorem FA: ∀ (k:Nat) (w h:Int) (i:aJ) (last:Int) (l:List (Int×aY)),(dlL k w h i last l).2.e=0->i.e=0
 | 0,w,h,i,last,l,he=>he
 | k+1,w,h,i,last,l,he=>by
  unfold dlL at he
  split at he
  ·assumption
  ·exact he
theorem CI: ∀ (k:Nat) (w h:Int) (i:aJ) (last:Int) (l:List (Int×aY)),VI i->VI (dlL k w h i last l).2
 | 0,w,h,i,last,l,hV=>hV
 | k+1,w,h,i,last,l,hV=>by
  unfold dlL
  split
  ·exact CI k w h _ _ _ (qq (kT hV))
  ·exact hV
theorem v9 {α:Type} (k:Int) (x:α): ∀ l:List (Int×α),(∀ p∈l,p.1≠k)->msl k x l=l++[(k,x)]
 | [],_=>rfl
 | (j,y)::l,h=>by
  have h1:k≠j:=λe=>h (j,y) (by simp) e.symm
  simp only [msl,if_neg h1,List.cons_append]
  rw [v9 k x l λp hp=>h p (by simp [hp])]
theorem yY (sum:Int) (x:aP) (hx:x.rows=[]) (hw:x.w<=1000) (f:bT×aJ×Int×Int->Option ((bT×aJ×Int×Int) ⊕ (aJ×bT))) (hf:f=(λa=>(Option.bind ((bif (decide (a.2.2.2 > 0)) then (Option.bind (cX a.2.1) λg=>some (g == 0)) else some false):Option Bool) λj=>(bif j then (Option.bind (bM a.2.1) λb=>(Option.bind ((bif (decide (b.1<=a.2.2.1)) then some true else some (decide (b.1>=a.1.to.h))):Option Bool) λm=>(Option.bind ((bif m then (Option.bind (bQ b.2 1) λc=>some c) else some b.2):Option aJ) λn=>(Option.bind (iv n a.1.to.w) λd=>(Option.bind (chk a.1.rows.isSome) λ_=>some (.inl ((bT.mk a.1.sum (aP.mk a.1.to.k a.1.to.w a.1.to.h a.1.to.x a.1.to.y a.1.to.title ([]:List aY) a.1.to.len a.1.to.chain a.1.to.begun) (AR a.1.rows b.1 d.1)),d.2,b.1,(IntKind.i64.wrap (a.2.2.2 - 1))))))))) else some (.inr (a.2.1,(bT.mk a.1.sum (aP.mk a.1.to.k a.1.to.w a.1.to.h a.1.to.x a.1.to.y a.1.to.title ([]:List aY) a.1.to.len a.1.to.chain a.1.to.begun) a.1.rows)))))) ) :
  ∀ (k:Nat) (i:aJ) (last:Int) (l l':List (Int×aY)),k<=4611686018427387904->VI i->(i.e=0->l'=l /\ ∀ p∈l,p.1<=last) ->
  ∃ m',iter f (⟨sum,x,some l'⟩,i,last,(k:Int))=some ((dlL k x.w x.h i last l).2,⟨sum,x,some m'⟩)/\((dlL k x.w x.h i last l).2.e=0->m'=(dlL k x.w x.h i last l).1):=by
 have hx2:aP.mk x.k x.w x.h x.x x.y x.title ([]:List aY) x.len x.chain x.begun=x:=by
  obtain ⟨⟩:=x
  dsimp only at hx
  subst hx
  rfl
 intro k
 induction k with
 | zero =>
  intro i last l l' hk hV hl
  refine ⟨l',bA ?_,λhe=>(hl he).1⟩
  subst hf
  dsimp only
  rw [decide_eq_false (by omega),cond_false,aA,cond_false,hx2]
  rfl
 | succ k ih =>
  intro i last l l' hk hV hl
  by_cases he:i.e=0
  ·obtain ⟨rfl,hlast⟩:=hl he
   have hrr:=kd hV
   have hstep:f (⟨sum,x,some l'⟩,i,last,((k+1:Nat):Int))=some (.inl (⟨sum,x,some (msl (rdS i).1 (hZ (dlI x.h i last) x.w).1 l')⟩,(hZ (dlI x.h i last) x.w).2,(rdS i).1,(k:Int))):=by
    subst hf
    dsimp only
    have e1:cX i=some i.e:=rfl
    have e2:(i.e == 0)=true:=by simpa using he
    have e3:((bif (decide ((rdS i).1<=last)) then some true else some (decide ((rdS i).1>=x.h))):Option Bool)=some (decide ((rdS i).1<=last\/(rdS i).1>=x.h)):=or2 _ _
    have e4:((bif (decide ((rdS i).1<=last\/(rdS i).1>=x.h)) then (Option.bind (bQ (rdS i).2 1) λc=>some c) else some (rdS i).2):Option aJ)=some (dlI x.h i last):=by
     unfold dlI
     by_cases hc:(rdS i).1<=last\/(rdS i).1>=x.h
     ·rw [decide_eq_true hc,cond_true,if_pos hc,qn (fr hV)]
      rfl
     ·rw [decide_eq_false hc,cond_false,if_neg hc]
    rw [decide_eq_true (by omega),cond_true,e1,aA,e2,aA,cond_true,jg _ hV,aA,e3,aA,e4,aA,yP _ _ (kT hV) hw,aA,hx2,w64 (by omega) (by omega)]
    have e5:((k+1:Nat):Int) - 1=(k:Int):=by omega
    rw [e5]
    rfl
   have hnew:(hZ (dlI x.h i last) x.w).2.e=0->msl (rdS i).1 (hZ (dlI x.h i last) x.w).1 l'=l'++[((rdS i).1,(hZ (dlI x.h i last) x.w).1)] /\ ∀ p∈l'++[((rdS i).1,(hZ (dlI x.h i last) x.w).1)],p.1<=(rdS i).1:=by
    intro h0
    obtain ⟨h2,h3, -⟩:=yX (v8 (kT hV) h0)
    refine ⟨v9 _ _ _ λp hp e=> ?_,λp hp=> ?_⟩
    ·have:=hlast p hp
     omega
    ·rcases List.mem_append.1 hp with hp | hp
     ·have:=hlast p hp
      omega
     ·rw [List.mem_singleton.1 hp]
      exact Int.le_refl _
   obtain ⟨m',h1,h2⟩:=ih (hZ (dlI x.h i last) x.w).2 (rdS i).1 (l'++[((rdS i).1,(hZ (dlI x.h i last) x.w).1)]) (msl (rdS i).1 (hZ (dlI x.h i last) x.w).1 l') (by omega) (qq (kT hV)) hnew
   have hd:dlL (k+1) x.w x.h i last l'=dlL k x.w x.h (hZ (dlI x.h i last) x.w).2 (rdS i).1 (l'++[((rdS i).1,(hZ (dlI x.h i last) x.w).1)]):=by
    conv=>lhs; unfold dlL
    rw [if_pos he]
   rw [hd]
   exact ⟨m',by rw [bX hstep,h1],h2⟩
  ·rw [qA _ _ _ _ _ _ he]
   refine ⟨l',bA ?_,λh=>absurd h he⟩
   subst hf
   dsimp only
   have e1:cX i=some i.e:=rfl
   have e2:(i.e == 0)=false:=by simpa using he
   rw [decide_eq_true (by omega),cond_true,e1,aA,e2,aA,cond_false,hx2]
theorem xE {i:aJ} (h:VI i):iM i=some (cA i 1000):=size_eq h
theorem CJ (s:ByteArray) (h:s.size<=1000000): ∃ m',kF s=some (⟨(zA s).1,zS s,some m'⟩,jF (zR s).2)/\((zR s).2.e=0->m'=(zR s).1):=by
 have v0:VI (⟨s,0⟩:aJ):=⟨h,.inl rfl⟩
 have vA:VI (zA s).2:=fr v0
 have vB:VI (zB s).2:=fr vA
 have vC:VI (zC s).2:=fE _ vB
 have vD:VI (zD s).2:=fE _ vC
 have vE:VI (zE s).2:=fr vD
 have vF:VI (zF s).2:=fr vE
 have vT:VI (zT s).2:=rH vF
 have vG:VI (zG s).2:=fr vT
 have vH:VI (zH s).2:=fr vG
 have vK:VI (zK s).2:=rI vH
 have vN:VI (zN s).2:=fr vK
 have hn:=kd vK
 have hw:(zS s).w<=1000:=(gj (m:=1000) vB (by omega)).2
 obtain ⟨N,hN⟩:=Int.eq_ofNat_of_zero_le (show 0<=(zN s).1 from hn.1)
 have hN2:N<=4611686018427387904:=by have:(zN s).1<=4611686018427387904:=hn.2; omega
 obtain ⟨m',h1,h2⟩:=yY (zA s).1 (zS s) rfl hw _ rfl N (zN s).2 (-1) [] [] hN2 vN (λ_=>⟨rfl,λp hp=>by cases hp⟩)
 have hR:zR s=dlL N (zS s).w (zS s).h (zN s).2 (-1) []:=by
  unfold zR
  rw [hN,Int.toNat_natCast]
  rfl
 rw [<- hR] at h1 h2
 refine ⟨m',?_,h2⟩
 unfold kF
 have e0:kD s=some ⟨s,0⟩:=rfl
 have e1:bM ⟨s,0⟩=some (zA s):=jg _ v0
 have e2:bM (zA s).2=some (zB s):=jg _ vA
 have e3:iM (zB s).2=some (zC s):=xE vB
 have e4:iM (zC s).2=some (zD s):=xE vC
 have e5:bM (zD s).2=some (zE s):=jg _ vD
 have e6:bM (zE s).2=some (zF s):=jg _ vE
 have e7:gX (zF s).2=some (zT s):=Af _ vF
 have e8:bM (zT s).2=some (zG s):=jg _ vT
 have e9:bM (zG s).2=some (zH s):=jg _ vG
 have e10:iF (zH s).2=some (zK s):=xz _ vH
 have e11:bM (zK s).2=some (zN s):=jg _ vK
 rw [e0,aA,e1,aA,e2,aA,e3,aA,e4,aA,e5,aA,e6,aA,e7,aA,e8,aA,e9,aA,e10,aA,e11,aA]
 have hS:aP.mk (zB s).1 (zC s).1 (zD s).1 (zE s).1 (zF s).1 (zT s).1 ([]:List aY) (zG s).1 (zH s).1 (zK s).1=zS s:=rfl
 rw [hS,hN,h1,aA,vV,aA]
 rfl
def ib (A:List aY) (l:List (Int×aY)):Nat->Nat->List aY->Option (List aY)
 | 0,_,acc=>some acc
 | k+1,y,acc=>match mgl (y:Int) l,A[y]? with
  | some r,some q=>if q=r then none else ib A l k (y+1) (acc++[r])
  | some r,none=>ib A l k (y+1) (acc++[r])
  | none,some q=>ib A l k (y+1) (acc++[q])
  | none,none=>none
theorem yZ (sum:Int) (x a:aP) (l:List (Int×aY)) (H:Nat) (hH:H<=1000) (hh:x.h=(H:Int)) (ha: ∀ r∈a.rows,r.cells.length<=1000000) (f:bT×Int->Option ((bT×Int) ⊕ (bT ⊕ (Bool×bT)))) (hf:f=(λb=>(bif (decide (b.2 < x.h)) then (Option.bind (gu a b.2) λc=>(Option.bind ((Option.bind ((bif (gJ b.1.rows b.2) then (bif c.2 then (Option.bind (iq c.1 (mgd b.1.rows b.2 (aY.mk ([]:List aO) false))) λe=>some e) else some false) else some false):Option Bool) λd=>(Option.bind ((bif d then some d else (bif (!(gJ b.1.rows b.2)) then some (!c.2) else some false)):Option Bool) λg=>(bif g then (nC (fp (some (false,(bT.mk b.1.sum (aP.mk b.1.to.k b.1.to.w b.1.to.h b.1.to.x b.1.to.y b.1.to.title b.1.to.rows b.1.to.len b.1.to.chain b.1.to.begun) b.1.rows))))) else (bif (!(gJ b.1.rows b.2)) then some (.inl c.1) else some (.inl (mgd b.1.rows b.2 (aY.mk ([]:List aO) false))))))):Option (aY ⊕ ((bT×Int) ⊕ (bT ⊕ (Bool×bT))))) λ | .inl e1033=>(Option.bind (chk (cW b.1.to.rows.length [e1033].length 32)) λ_=>some (.inl ((bT.mk b.1.sum (aP.mk b.1.to.k b.1.to.w b.1.to.h b.1.to.x b.1.to.y b.1.to.title (b.1.to.rows++[e1033]) b.1.to.len b.1.to.chain b.1.to.begun) b.1.rows),(IntKind.i64.wrap (b.2+1))))) | .inr w=>some w)) else some (.inr (.inl (bT.mk b.1.sum (aP.mk b.1.to.k b.1.to.w b.1.to.h b.1.to.x b.1.to.y b.1.to.title b.1.to.rows b.1.to.len b.1.to.chain b.1.to.begun) b.1.rows))))) ) :
  ∀ (k y:Nat) (acc:List aY),y+k=H->acc.length=y ->
  (∀ out,ib a.rows l k y acc=some out->iter f (⟨sum,jo x acc,some l⟩,(y:Int))=some (.inl ⟨sum,jo x out,some l⟩))/\(ib a.rows l k y acc=none -> ∃ p',iter f (⟨sum,jo x acc,some l⟩,(y:Int))=some (.inr (false,p'))):=by
 intro k
 induction k with
 | zero =>
  intro y acc hy hl
  refine ⟨λout ho=> ?_,λho=>by cases ho⟩
  injection ho with ho
  subst ho
  refine bA ?_
  subst hf
  dsimp only
  rw [decide_eq_false (by omega),cond_false]
 | succ k ih =>
  intro y acc hy hl
  have hgo: ∀ r:aY,(∀ out,ib a.rows l k (y+1) (acc++[r])=some out->iter f (⟨sum,jo x (acc++[r]),some l⟩,((y+1:Nat):Int))=some (.inl ⟨sum,jo x out,some l⟩))/\(ib a.rows l k (y+1) (acc++[r])=none -> ∃ p',iter f (⟨sum,jo x (acc++[r]),some l⟩,((y+1:Nat):Int))=some (.inr (false,p'))):=λr=>ih (y+1) (acc++[r]) (by omega) (by simp [hl])
  have hap:chk (cW acc.length 1 32)=some ():=bR (by omega)
  have hwr:IntKind.i64.wrap ((y:Int)+1)=((y+1:Nat):Int):=by rw [w64 (by omega) (by omega)]; rfl
  -- a step that goes on with a row
  have hon: ∀ r:aY,f (⟨sum,jo x acc,some l⟩,(y:Int))=some (.inl (⟨sum,jo x (acc++[r]),some l⟩,((y+1:Nat):Int)))->ib a.rows l (k+1) y acc=ib a.rows l k (y+1) (acc++[r])->(∀ out,ib a.rows l (k+1) y acc=some out->iter f (⟨sum,jo x acc,some l⟩,(y:Int))=some (.inl ⟨sum,jo x out,some l⟩))/\(ib a.rows l (k+1) y acc=none -> ∃ p',iter f (⟨sum,jo x acc,some l⟩,(y:Int))=some (.inr (false,p'))):=by
   intro r h1 h2
   rw [h2,bX h1]
   exact hgo r
  have hoff:(∃ p',f (⟨sum,jo x acc,some l⟩,(y:Int))=some (.inr (.inr (false,p'))))->ib a.rows l (k+1) y acc=none->(∀ out,ib a.rows l (k+1) y acc=some out->iter f (⟨sum,jo x acc,some l⟩,(y:Int))=some (.inl ⟨sum,jo x out,some l⟩))/\(ib a.rows l (k+1) y acc=none -> ∃ p',iter f (⟨sum,jo x acc,some l⟩,(y:Int))=some (.inr (false,p'))):=by
   rintro ⟨p',h1⟩ h2
   rw [h2]
   exact ⟨λout ho=>(by cases ho),λ_=>⟨p',bA h1⟩⟩
  have hd:decide ((y:Int) < x.h)=true:=decide_eq_true (by omega)
  cases hm:mgl (y:Int) l with
  | some r =>
   have m1:gJ (some l) (y:Int)=true:=by simp [gJ,hm]
   have m2: ∀ z,mgd (some l) (y:Int) z=r:=λz=>by simp [mgd,hm]
   by_cases hya:y < a.rows.length
   ·have e1:a.rows[y]?=some a.rows[y]:=List.getElem?_eq_getElem hya
    by_cases hq:a.rows[y]=r
    ·refine hoff ⟨⟨sum,jo x acc,some l⟩,?_⟩ (by simp only [ib,hm,e1,if_pos hq])
     subst hf
     dsimp only
     rw [hd,cond_true,tT a y hya,aA]
     dsimp only
     rw [m1,m2,cond_true,cond_true,zZ _ _ (ha _ (List.getElem_mem hya)),decide_eq_true hq]
     rfl
    ·refine hon r ?_ (by simp only [ib,hm,e1,if_neg hq])
     subst hf
     dsimp only
     rw [hd,cond_true,tT a y hya,aA]
     dsimp only
     rw [m1,m2,cond_true,cond_true,zZ _ _ (ha _ (List.getElem_mem hya)),decide_eq_false hq]
     show Option.bind (chk (cW acc.length 1 32)) _=_
     rw [hap,aA,hwr]
     rfl
   ·have e1:a.rows[y]?=none:=List.getElem?_eq_none (by omega)
    refine hon r ?_ (by simp only [ib,hm,e1])
    subst hf
    dsimp only
    rw [hd,cond_true,vi a y hya,aA]
    dsimp only
    rw [m1,m2]
    show Option.bind (chk (cW acc.length 1 32)) _=_
    rw [hap,aA,hwr]
    rfl
  | none =>
   have m1:gJ (some l) (y:Int)=false:=by simp [gJ,hm]
   by_cases hya:y < a.rows.length
   ·have e1:a.rows[y]?=some a.rows[y]:=List.getElem?_eq_getElem hya
    refine hon a.rows[y] ?_ (by simp only [ib,hm,e1])
    subst hf
    dsimp only
    rw [hd,cond_true,tT a y hya,aA]
    dsimp only
    rw [m1]
    show Option.bind (chk (cW acc.length 1 32)) _=_
    rw [hap,aA,hwr]
    rfl
   ·have e1:a.rows[y]?=none:=List.getElem?_eq_none (by omega)
    refine hoff ⟨⟨sum,jo x acc,some l⟩,?_⟩ (by simp only [ib,hm,e1])
    subst hf
    dsimp only
    rw [hd,cond_true,vi a y hya,aA]
    dsimp only
    rw [m1]
    rfl
def mJ (a:aP) (s:ByteArray):aP×Int :=
 if nr a=false then (iX,1)
 else if jF (zR s).2≠0 then (iX,jF (zR s).2)
 else if (zA s).1≠((ji (jn a):Nat):Int) then (iX,7)
 else match ib a.rows (zR s).1 (zD s).1.toNat 0 [] with
  | none=>(iX,1)
  | some l=>if oE (jo (zS s) l) then (iX,1) else (jo (zS s) l,0)
theorem vj {i:aJ} (hV:VI i) (h:jF i=0):i.e=0/\i.s=noS:=by
 unfold jF at h
 split at h
 ·cases h
 ·rename_i h1
  exact ⟨h,Classical.not_not.1 h1⟩
theorem zVI {s:ByteArray} (h:s.size<=1000000):VI (zB s).2/\VI (zC s).2/\VI (zF s).2/\VI (zH s).2/\VI (zK s).2/\VI (zN s).2/\VI (zR s).2:=by
 have v0:VI (⟨s,0⟩:aJ):=⟨h,.inl rfl⟩
 have vB:VI (zB s).2:=fr (fr v0)
 have vC:VI (zC s).2:=fE _ vB
 have vF:VI (zF s).2:=fr (fr (fE _ vC))
 have vH:VI (zH s).2:=fr (fr (rH vF))
 have vK:VI (zK s).2:=rI vH
 have vN:VI (zN s).2:=fr vK
 exact ⟨vB,vC,vF,vH,vK,vN,CI _ _ _ _ _ _ vN⟩
def prl (l:List (Int×aY)):List Int:=l.flatMap λp=>cI p.1++fF p.2
theorem EO {i:aJ} (hV:VI i) (h:(rdS i).2.e=0):i.e=0/\sbs i.s=cI (rdS i).1++sbs (rdS i).2.s:=by
 obtain ⟨h1,w,h2,h3,h4⟩:=u6 h hV
 exact ⟨h1,by rw [h2,jE h3]; exact h4⟩
theorem vk: ∀ (k:Nat) (w h:Int) (i:aJ) (last:Int) (l:List (Int×aY)),VI i->(dlL k w h i last l).2.e=0 -> ∃ D,prl (dlL k w h i last l).1=prl l++D/\sbs i.s=D++sbs (dlL k w h i last l).2.s
 | 0,w,h,i,last,l,hV,he=>⟨[],by simp [dlL],by simp [dlL]⟩
 | k+1,w,h,i,last,l,hV,he=>by
  have hi:=FA _ _ _ _ _ _ he
  unfold dlL at he ⊢
  rw [if_pos hi] at he ⊢
  have h0:=FA _ _ _ _ _ _ he
  have h1:=v8 (kT hV) h0
  obtain ⟨h2,h3,h4⟩:=yX h1
  obtain ⟨D,d1,d2⟩:=vk k w h _ _ _ (qq (kT hV)) he
  have hr:(rdS i).2.e=0:=by rw [<- h4]; exact h1
  obtain ⟨-,h5⟩:=EO hV hr
  have h6:=yS (kT (h:=h) (last:=last) hV) h0
  refine ⟨cI (rdS i).1++fF (hZ (dlI h i last) w).1++D,?_,?_⟩
  ·rw [d1]
   unfold prl
   rw [List.flatMap_append,List.flatMap_singleton]
   simp only [List.append_assoc]
  ·rw [h5,<- h4,h6,d2]
   simp only [List.append_assoc]
theorem Gk {i:aJ} {m:Nat} (h:SZ m i):(lN i).2.s.size<=m:=by
 by_cases he:(lN i).2.e=0
 ·obtain ⟨-,hw⟩:=Cp h.1 he
  have:=congrArg List.length hw
  rw [List.length_append,bB,bB] at this
  have:=h.2
  omega
 ·rcases (rH h.1).2 with h1 | h1
  ·exact absurd h1 he
  ·rw [h1]; exact Nat.zero_le _
theorem G5 {i:aJ} {m:Nat} (h:SZ m i):(bkS i).2.s.size<=m:=by
 by_cases he:(bkS i).2.e=0
 ·obtain ⟨-,hw⟩:=vg h.1 he
  have:=congrArg List.length hw
  rw [List.length_append,bB,bB] at this
  have:=h.2
  omega
 ·rcases (rI h.1).2 with h1 | h1
  ·exact absurd h1 he
  ·rw [h1]; exact Nat.zero_le _
theorem tU: ∀ (k:Nat) (w h:Int) (i:aJ) (last:Int) (l:List (Int×aY)),VI i->w<=1000->(∀ p∈l,okR p.2.cells/\p.2.cells.length<=1000) -> ∀ p∈(dlL k w h i last l).1,okR p.2.cells/\p.2.cells.length<=1000
 | 0,w,h,i,last,l,hV,hw,hl=>hl
 | k+1,w,h,i,last,l,hV,hw,hl=>by
  unfold dlL
  split
  ·refine tU k w h _ _ _ (qq (kT hV)) hw ?_
   intro p hp
   rcases List.mem_append.1 hp with hp | hp
   ·exact hl p hp
   ·rw [List.mem_singleton.1 hp]
    exact EA (kT hV) hw
  ·exact hl
theorem kh {α:Type} {k:Int} {x:α}: ∀ {l:List (Int×α)},mgl k l=some x->(k,x)∈l
 | [],h=>by cases h
 | (j,y)::l,h=>by
  simp only [mgl] at h
  split at h
  ·rename_i hk
   injection h with h
   subst h hk
   exact List.mem_cons_self ..
  ·exact List.mem_cons_of_mem _ (kh h)
theorem tV {A:List aY} {l:List (Int×aY)} (Q:aY->Prop) (hA: ∀ r∈A,Q r) (hl: ∀ p∈l,Q p.2): ∀ (k y:Nat) (acc out:List aY),ib A l k y acc=some out->(∀ r∈acc,Q r)->(∀ r∈out,Q r)/\out.length=acc.length+k
 | 0,y,acc,out,h,hacc=>by
  injection h with h
  subst h
  exact ⟨hacc,rfl⟩
 | k+1,y,acc,out,h,hacc=>by
  have go: ∀ r,Q r->ib A l k (y+1) (acc++[r])=some out->(∀ r∈out,Q r)/\out.length=acc.length+(k+1):=by
   intro r hr h2
   obtain ⟨h3,h4⟩:=tV Q hA hl k (y+1) (acc++[r]) out h2 (λq hq=>by
    rcases List.mem_append.1 hq with hq | hq
    ·exact hacc q hq
    ·rw [List.mem_singleton.1 hq]; exact hr)
   refine ⟨h3,h4.trans ?_⟩
   simp only [List.length_append,List.length_cons,List.length_nil]
   omega
  simp only [ib] at h
  split at h
  ·rename_i r q h1 h2
   split at h
   ·cases h
   ·exact go r (hl _ (kh h1)) h
  ·rename_i r h1 h2
   exact go r (hl _ (kh h1)) h
  ·rename_i q h1 h2
   exact go q (hA _ (List.mem_of_getElem? h2)) h
  ·cases h
def tot (y:Int):List (Int×aY)->Nat
 | []=>0
 | (j,z)::l=>(if y<=j then (fF z).length else 0)+tot y l
theorem tW (y:Int): ∀ l,tot (y+1) l<=tot y l
 | []=>Nat.le_refl _
 | (j,z)::l=>by
  have:=tW y l
  simp only [tot]
  by_cases h1:y+1<=j
  ·rw [if_pos h1,if_pos (by omega)]; omega
  ·rw [if_neg h1]; omega
theorem wc (y:Int) {r:aY}: ∀ l,mgl y l=some r->(fF r).length+tot (y+1) l<=tot y l
 | [],h=>by cases h
 | (j,z)::l,h=>by
  simp only [mgl] at h
  simp only [tot]
  split at h
  ·rename_i hk
   injection h with h
   subst h hk
   have:=tW y l
   rw [if_neg (by omega),if_pos (Int.le_refl _)]
   omega
  ·have:=wc y l h
   by_cases h1:y+1<=j
   ·rw [if_pos h1,if_pos (by omega)]; omega
   ·rw [if_neg h1]; omega
theorem y4 (y:Int): ∀ l,tot y l<=(prl l).length
 | []=>Nat.le_refl _
 | (j,z)::l=>by
  have:=y4 y l
  unfold prl at this ⊢
  simp only [tot,List.flatMap_cons,List.length_append]
  split <;> omega
theorem tX {A:List aY} {l:List (Int×aY)}: ∀ (k y:Nat) (acc out:List aY),ib A l k y acc=some out->(out.flatMap fF).length<=(acc.flatMap fF).length+tot (y:Int) l+((A.drop y).flatMap fF).length
 | 0,y,acc,out,h=>by
  injection h with h
  subst h
  omega
 | k+1,y,acc,out,h=>by
  have hn:=tW (y:Int) l
  have e1:((y+1:Nat):Int)=(y:Int)+1:=rfl
  have hd: ∀ q,A[y]?=some q->((A.drop y).flatMap fF).length=(fF q).length+((A.drop (y+1)).flatMap fF).length:=by
   intro q hq
   obtain ⟨h1,h2⟩:=List.getElem?_eq_some_iff.1 hq
   rw [List.drop_eq_getElem_cons h1,List.flatMap_cons,List.length_append,h2]
  have go: ∀ r,ib A l k (y+1) (acc++[r])=some out->(out.flatMap fF).length<=(acc.flatMap fF).length+(fF r).length+tot ((y:Int)+1) l+((A.drop (y+1)).flatMap fF).length:=by
   intro r h2
   have:=tX k (y+1) (acc++[r]) out h2
   rw [List.flatMap_append,List.flatMap_singleton,List.length_append,e1] at this
   exact this
  have hdd:((A.drop (y+1)).flatMap fF).length<=((A.drop y).flatMap fF).length:=by
   by_cases hy:y < A.length
   ·rw [hd _ (List.getElem?_eq_getElem hy)]; omega
   ·rw [List.drop_eq_nil_of_le (by omega:A.length<=y+1)]
    exact Nat.zero_le _
  simp only [ib] at h
  split at h
  ·rename_i r q h1 h2
   split at h
   ·cases h
   ·have:=go r h
    have:=wc (y:Int) l h1
    omega
  ·rename_i r h1 h2
   have:=go r h
   have:=wc (y:Int) l h1
   omega
  ·rename_i q h1 h2
   have:=go q h
   have:=hd q h2
   omega
  ·cases h
theorem CK {s:ByteArray} (h:s.size<=1000000) (he:(zR s).2.e=0):(prl (zR s).1).length<=s.size:=by
 obtain ⟨vB,vC,vF,vH,vK,vN,vR⟩:=zVI h
 obtain ⟨D,h1,h2⟩:=vk _ _ _ _ _ _ vN he
 have hD:prl (zR s).1=D:=h1
 have h3:=congrArg List.length h2
 rw [List.length_append,bB,<- hD] at h3
 have v0:SZ s.size (⟨s,0⟩:aJ):=⟨⟨h,.inl rfl⟩,Nat.le_refl _⟩
 have s1:SZ s.size (zF s).2:=kR (kR (vW _ (vW _ (kR (kR v0)))))
 have s2:SZ s.size (zT s).2:=⟨rH s1.1,Gk s1⟩
 have s3:SZ s.size (zH s).2:=kR (kR s2)
 have s4:SZ s.size (zK s).2:=⟨rI s3.1,G5 s3⟩
 have s5:=(kR s4).2
 have:(zN s).2.s.size<=s.size:=s5
 omega
theorem qB {a:aP} {s:ByteArray} {l:List aY} (ha:SW a) (pa:(a.rows.flatMap fF).length<=12000) (h:s.size<=100000) (ht:(zT s).1.size<=12000) (he:(zR s).2.e=0) (hl:ib a.rows (zR s).1 (zD s).1.toNat 0 []=some l):SW (jo (zS s) l)/\(l.flatMap fF).length<=200000:=by
 obtain ⟨vB,vC,vF,vH,vK,vN,vR⟩:=zVI (s:=s) (by omega)
 have b1:=gj (m:=1000) vB (by omega)
 have c1:=gj (m:=1000) vC (by omega)
 have hw1:0<=(zC s).1:=b1.1
 have hw2:(zC s).1<=1000:=b1.2
 have hh1:0<=(zD s).1:=c1.1
 have hh2:(zD s).1<=1000:=c1.2
 have bo:=Cr vH
 have hrows:=tU (zN s).1.toNat (zC s).1 (zD s).1 (zN s).2 (-1) [] vN hw2 (λp hp=>by cases hp)
 obtain ⟨p1,p2⟩:=tV (λr=>okR r.cells/\r.cells.length<=1000) ha.ro hrows _ _ _ _ hl (λr hr=>by cases hr)
 have p3:=tX _ _ _ _ hl
 have p4:=y4 ((0:Nat):Int) (zR s).1
 have p5:=CK (by omega) he
 have p6:((a.rows.drop 0).flatMap fF).length<=12000:=by simpa using pa
 refine ⟨⟨?_,?_,bo.1,p1,?_,Nat.le_trans bo.2 (by decide),ht⟩,?_⟩
 ·show _<=(zC s).1/\(zC s).1<=_
  omega
 ·show _<=(zD s).1/\(zD s).1<=_
  omega
 ·show l.length<=1000
  rw [p2]
  simp only [List.length_nil]
  omega
 ·simp only [List.flatMap_nil,List.length_nil] at p3
  omega
theorem CN (a:aP) (s:ByteArray) (ha:SW a) (pa:(a.rows.flatMap fF).length<=12000) (h:s.size<=100000) (ht:(zT s).1.size<=12000) (he:(zR s).2.e=0) (sum:Int) :
  (∀ l,ib a.rows (zR s).1 (zD s).1.toNat 0 []=some l->eU ⟨sum,zS s,some (zR s).1⟩ a=some (!oE (jo (zS s) l),⟨sum,jo (zS s) l,some (zR s).1⟩))/\(ib a.rows (zR s).1 (zD s).1.toNat 0 []=none -> ∃ p',eU ⟨sum,zS s,some (zR s).1⟩ a=some (false,p')):=by
 obtain ⟨vB,vC,vF,vH,vK,vN,vR⟩:=zVI (s:=s) (by omega)
 have c1:=gj (m:=1000) vC (by omega)
 have hh1:0<=(zD s).1:=c1.1
 have hh2:(zD s).1<=1000:=c1.2
 have har: ∀ r∈a.rows,r.cells.length<=1000000:=λr hr=>by have:=(ha.ro r hr).2; omega
 obtain ⟨H,hH⟩:=Int.eq_ofNat_of_zero_le hh1
 obtain ⟨b1,b2⟩:=yZ sum (zS s) a (zR s).1 H (by omega) hH har _ rfl H 0 [] (by omega) rfl
 have hH2:(zD s).1.toNat=H:=by rw [hH,Int.toNat_natCast]
 have hz:jo (zS s) []=zS s:=rfl
 rw [hz] at b1 b2
 refine ⟨λl hl=> ?_,λhl=> ?_⟩
 ·obtain ⟨SWx,pl⟩:=qB ha pa h ht he hl
  rw [hH2] at hl
  have e:=b1 l hl
  unfold eU
  refine (congrArg (λz=>Option.bind z _) e).trans ?_
  rw [aA]
  dsimp only
  have hm:jw (jo (zS s) l)=some (!oE (jo (zS s) l)):=CF _ SWx (by show (l.flatMap fF).length<=1000000; omega)
  show Option.bind (jw (jo (zS s) l)) _=_
  rw [hm,aA]
 ·rw [hH2] at hl
  obtain ⟨p',this⟩:=b2 hl
  refine ⟨p',?_⟩
  unfold eU
  refine (congrArg (λz=>Option.bind z _) this).trans ?_
  rw [aA]
theorem CO (a:aP) (s:ByteArray) (ha:SW a) (pa:(a.rows.flatMap fF).length<=12000) (h:s.size<=100000) (ht:(zT s).1.size<=12000):jW a s=some (mJ a s):=by
 obtain ⟨vB,vC,vF,vH,vK,vN,vR⟩:=zVI (s:=s) (by omega)
 unfold jW mJ
 rw [xx a ha,aA]
 cases hm:nr a with
 | false=>rw [if_neg (by simp),if_pos rfl]; rfl
 | true =>
  rw [if_pos rfl,if_neg (by simp)]
  obtain ⟨m',r1,r2⟩:=CJ s (by omega)
  have k0:((0:Int) != 0)=false:=rfl
  rw [k0,cond_false,r1,aA]
  dsimp only
  by_cases he:jF (zR s).2=0
  ·have k1:(jF (zR s).2 != 0)=false:=by simp [he]
   rw [k1,cond_false,if_neg (λhh=>hh he),EJ a ha pa,aA]
   obtain ⟨he0, -⟩:=vj vR he
   obtain rfl:=r2 he0
   by_cases hs:(zA s).1=((ji (jn a):Nat):Int)
   ·have k2:((zA s).1 != ((ji (jn a):Nat):Int))=false:=by simp [hs]
    rw [k2,cond_false,if_neg (λhh=>hh hs)]
    obtain ⟨b1,b2⟩:=CN a s ha pa h ht he0 (zA s).1
    cases hl:ib a.rows (zR s).1 (zD s).1.toNat 0 [] with
    | none =>
     obtain ⟨p',b3⟩:=b2 hl
     rw [b3,aA]
     rfl
    | some l =>
     obtain ⟨SWx,pl⟩:=qB ha pa h ht he0 hl
     rw [b1 l hl,aA]
     dsimp only
     cases hn:oE (jo (zS s) l) with
     | true=>rfl
     | false =>
      rw [Bool.not_false,Bool.not_true,cond_false,if_neg (by simp),nK _ SWx,aA]
   ·have k2:((zA s).1 != ((ji (jn a):Nat):Int))=true:=by simp [hs]
    rw [k2,cond_true,if_pos hs]
    rfl
  ·have k1:(jF (zR s).2 != 0)=true:=by simp [he]
   rw [k1,cond_true,if_pos he]
   rfl
def pd (l:List (Int×aY)) (H:Nat):List Bool:=(List.range H).map λy:Nat=>(mgl (y:Int) l).isSome
def lO (l:List (Int×aY)) (H:Nat):List aY:=(List.range H).map λy:Nat=>(mgl (y:Int) l).getD tI
theorem CP (l:List (Int×aY)) (H:Nat):(pd l H).length=H:=by simp [pd]
theorem xF (l:List (Int×aY)) (H:Nat):(lO l H).length=H:=by simp [lO]
theorem qC (l:List (Int×aY)) (k j:Int) (x:aY) (hn: ∀ p∈l,p.1≠j):mgl k (l++[(j,x)])=if k=j then some x else mgl k l:=by
 induction l with
 | nil=>simp [mgl]
 | cons p l ih =>
  obtain ⟨i,z⟩:=p
  simp only [List.cons_append,mgl]
  have hi:i≠j:=hn (i,z) (by simp)
  by_cases h:k=i
  ·rw [if_pos h,if_neg (by omega),if_pos h]
  ·rw [if_neg h,ih λp hp=>hn p (by simp [hp]),if_neg h]
theorem CQ (l:List (Int×aY)) (H j:Nat) (x:aY) (hj:j < H) (hn: ∀ p∈l,p.1≠(j:Int)):(pd l H).set j true=pd (l++[((j:Int),x)]) H:=by
 apply List.ext_getElem?
 intro i
 rw [List.getElem?_set]
 unfold pd
 simp only [List.getElem?_map,List.length_map,List.length_range]
 by_cases h:j=i
 ·subst h
  rw [if_pos rfl,if_pos hj,List.getElem?_range hj]
  simp [qC _ _ _ _ hn]
 ·rw [if_neg h]
  by_cases hi:i < H
  ·rw [List.getElem?_range hi]
   simp only [Option.map_some]
   rw [qC _ _ _ _ hn,if_neg (by omega)]
  ·rw [List.getElem?_eq_none (by simpa using hi)]
   rfl
theorem CR (l:List (Int×aY)) (H j:Nat) (x:aY) (hj:j < H) (hn: ∀ p∈l,p.1≠(j:Int)):(lO l H).set j x=lO (l++[((j:Int),x)]) H:=by
 apply List.ext_getElem?
 intro i
 rw [List.getElem?_set]
 unfold lO
 simp only [List.getElem?_map,List.length_map,List.length_range]
 by_cases h:j=i
 ·subst h
  rw [if_pos rfl,if_pos hj,List.getElem?_range hj]
  simp [qC _ _ _ _ hn]
 ·rw [if_neg h]
  by_cases hi:i < H
  ·rw [List.getElem?_range hi]
   simp only [Option.map_some]
   rw [qC _ _ _ _ hn,if_neg (by omega)]
  ·rw [List.getElem?_eq_none (by simpa using hi)]
   rfl
theorem CU (H:Nat):pd [] H=List.replicate H false:=by
 apply List.ext_getElem?
 intro i
 unfold pd
 simp only [List.getElem?_map,List.getElem?_replicate]
 by_cases hi:i < H
 ·rw [List.getElem?_range hi,if_pos hi]; rfl
 ·rw [List.getElem?_eq_none (by simpa using hi),if_neg hi]; rfl
theorem CV (H:Nat):(lO [] H).map told=List.replicate H (told tI):=by
 apply List.ext_getElem?
 intro i
 unfold lO
 simp only [List.getElem?_map,List.getElem?_replicate]
 by_cases hi:i < H
 ·rw [List.getElem?_range hi,if_pos hi]; rfl
 ·rw [List.getElem?_eq_none (by simpa using hi),if_neg hi]; rfl
theorem nM (l:List (Int×aY)) {H y:Nat} (h:y < H):idx (pd l H) (y:Int)=some (mgl (y:Int) l).isSome:=by
 rw [bE _ _ (by rw [CP]; exact h)]
 simp [pd]
theorem CW (l:List (Int×aY)) {H y:Nat} (h:y < H):(lO l H)[y]?=some ((mgl (y:Int) l).getD tI):=by
 unfold lO
 rw [List.getElem?_map,List.getElem?_range h]
 rfl
theorem Gl (x:aP) (H N:Nat) (hH:H<=1000) (hh:x.h=(H:Int)) (hw:x.w<=1000) (hN:N<=4611686018427387904) (f:aW×(List Bool)×(List bJ)×Int×Int->Option ((aW×(List Bool)×(List bJ)×Int×Int) ⊕ (((List Bool)×(List bJ)×aW) ⊕ (bK×Int)))) (hf:f=(λa=>(bif (decide (a.2.2.2.2 < (N:Int))) then (Option.bind (bH a.1) λb=>(Option.bind ((bif (b.1.e == 0) then (bif (decide (b.2<=a.2.2.2.1)) then some true else some (decide (b.2>=x.h))) else some false):Option Bool) λd=>(bif d then (fp (some ((bK.mk 0 0 0 0 0 (ByteArray.mk #[]) ([]:List bJ) 0 0 ([]:List aN)),1))) else (Option.bind (gI b.1 x.w) λc=>(bif (c.1.e != 0) then (fp (some ((bK.mk 0 0 0 0 0 (ByteArray.mk #[]) ([]:List bJ) 0 0 ([]:List aN)),c.1.e))) else (Option.bind (idx a.2.1 b.2) λg=>(Option.bind (idx a.2.2.1 b.2) λj=>some (.inl (c.1,(a.2.1.set b.2.toNat true),(a.2.2.1.set b.2.toNat c.2),b.2,(IntKind.i64.wrap (a.2.2.2.2+1))))))))))) else some (.inr (.inl (a.2.1,a.2.2.1,a.1))))) ) :
  ∀ (k n:Nat) (i:aJ) (last:Int) (l:List (Int×aY)),n+k=N->VI i->i.e=0 -> -1<=last->(∀ p∈l,p.1<=last) ->
  iter f (asR i,pd l H,(lO l H).map told,last,(n:Int))=some (if (dlL k x.w x.h i last l).2.e=0 then .inl (pd (dlL k x.w x.h i last l).1 H,(lO (dlL k x.w x.h i last l).1 H).map told,asR (dlL k x.w x.h i last l).2) else .inr (fC iX,(dlL k x.w x.h i last l).2.e)):=by
 intro k
 induction k with
 | zero =>
  intro n i last l hn hV he h1 hl
  have e0:dlL 0 x.w x.h i last l=(l,i):=rfl
  rw [e0,if_pos he]
  refine bA ?_
  subst hf
  dsimp only
  rw [decide_eq_false (by omega),cond_false]
 | succ k ih =>
  intro n i last l hn hV he h1 hl
  have hrr:=kd hV
  have hd:dlL (k+1) x.w x.h i last l=dlL k x.w x.h (hZ (dlI x.h i last) x.w).2 (rdS i).1 (l++[((rdS i).1,(hZ (dlI x.h i last) x.w).1)]):=by
   conv=>lhs; unfold dlL
   rw [if_pos he]
  rw [hd]
  have hcond:((bif ((asR (rdS i).2).e == 0) then (bif (decide ((rdS i).1<=last)) then some true else some (decide ((rdS i).1>=x.h))) else some false):Option Bool)=some (decide ((rdS i).2.e=0/\((rdS i).1<=last\/(rdS i).1>=x.h))):=by
   rw [nJ,or2]
   by_cases h0:(rdS i).2.e=0
   ·have:((rdS i).2.e == 0)=true:=by simpa using h0
    rw [this,cond_true]
    simp [h0]
   ·have:((rdS i).2.e == 0)=false:=by simpa using h0
    rw [this,cond_false]
    simp [h0]
  by_cases hrow:(hZ (dlI x.h i last) x.w).2.e=0
  ·-- all right
   obtain ⟨h2,h3,h4⟩:=yX (v8 (kT hV) hrow)
   have h5:(rdS i).2.e=0:=by rw [<- h4]; exact v8 (kT hV) hrow
   obtain ⟨y,hy⟩:=Int.eq_ofNat_of_zero_le hrr.1
   have hyH:y < H:=by omega
   have hnew: ∀ p∈l,p.1≠(y:Int):=λp hp e=>by have:=hl p hp; omega
   rw [bX (s':=(asR (hZ (dlI x.h i last) x.w).2,pd (l++[((rdS i).1,(hZ (dlI x.h i last) x.w).1)]) H,(lO (l++[((rdS i).1,(hZ (dlI x.h i last) x.w).1)]) H).map told,(rdS i).1,((n+1:Nat):Int)))]
   ·refine ih (n+1) _ _ _ (by omega) (qq (kT hV)) hrow (by omega) ?_
    intro p hp
    rcases List.mem_append.1 hp with hp | hp
    ·have:=hl p hp
     omega
    ·rw [List.mem_singleton.1 hp]
     exact Int.le_refl _
   ·subst hf
    dsimp only
    rw [decide_eq_true (by omega),cond_true,gi _ hV,aA]
    dsimp only
    rw [hcond,decide_eq_false (by omega),aA,cond_false,<- h4,sn _ _ (kT hV) hw,aA]
    have k1:((asR (hZ (dlI x.h i last) x.w).2).e != 0)=false:=by rw [nJ]; simpa using hrow
    dsimp only
    rw [k1,cond_false,hy,nM l hyH,aA,bE _ _ (by rw [List.length_map,xF]; exact hyH),aA,Int.toNat_natCast,w64 (by omega) (by omega),<- CQ l H y _ hyH hnew,<- CR l H y _ hyH hnew,List.map_set]
    rfl
  ·rw [qA _ _ _ _ _ _ hrow,if_neg hrow]
   refine bA ?_
   subst hf
   dsimp only
   rw [decide_eq_true (by omega),cond_true,gi _ hV,aA]
   dsimp only
   rw [hcond]
   by_cases hc:(rdS i).2.e=0/\((rdS i).1<=last\/(rdS i).1>=x.h)
   ·rw [decide_eq_true hc,aA,cond_true]
    have h6:dlI x.h i last=jh:=by
     unfold dlI
     rw [if_pos hc.2]
     unfold su
     rw [if_pos hc.1]
    have h7:(hZ jh x.w).2.e=1:=by
     have:(cA jh 1).2=jh:=by
      have:=qo (i:=jh) (by decide) 1 (by omega)
      exact this
     unfold hZ
     rw [this]
     have h8:rrS (x.w.toNat+1) x.w jh []=([],jh):=by
      unfold rrS
      rw [if_neg (λhh=>absurd hh.2 (by decide))]
     rw [h8,if_neg (by decide)]
     rfl
    rw [h6,h7]
    rfl
   ·rw [decide_eq_false hc,aA,cond_false]
    have h6:dlI x.h i last=if (rdS i).2.e=0 then (rdS i).2 else (rdS i).2:=by
     unfold dlI
     by_cases h0:(rdS i).2.e=0
     ·rw [if_pos h0,if_neg (λhh=>hc ⟨h0,hh⟩)]
     ·rw [if_neg h0]
      split
      ·unfold su
       rw [if_neg h0]
      ·rfl
    have h7:dlI x.h i last=(rdS i).2:=by rw [h6]; split <;> rfl
    rw [<- h7,sn _ _ (kT hV) hw,aA]
    have k1:((asR (hZ (dlI x.h i last) x.w).2).e != 0)=true:=by rw [nJ]; simpa using hrow
    dsimp only
    rw [k1,cond_true]
    rfl
theorem Gm (a:aP) (l:List (Int×aY)) (H:Nat) (hH:H<=1000) (ha: ∀ r∈a.rows,r.cells.length<=1000000) (hl: ∀ p∈l,p.2.cells.length<=1000000) (f:(List bJ)×Int->Option (((List bJ)×Int) ⊕ ((List bJ) ⊕ (bK×Int)))) (hf:f=(λb=>(bif (decide (b.2 < (((lO l H).map told).length:Int))) then (Option.bind ((Option.bind ((Option.bind (idx (pd l H) b.2) λc=>(bif (!c) then (bif (decide (b.2>=((fC a).rows.length:Int))) then some true else (Option.bind (idx (pd l H) b.2) λd=>(bif d then (bif (decide (b.2 < ((fC a).rows.length:Int))) then (Option.bind (idx b.1 b.2) λe=>(Option.bind (idx (fC a).rows b.2) λg=>(Option.bind (gU e g) λh=>some h))) else some false) else some false))) else (Option.bind (idx (pd l H) b.2) λi=>(bif i then (bif (decide (b.2 < ((fC a).rows.length:Int))) then (Option.bind (idx b.1 b.2) λj=>(Option.bind (idx (fC a).rows b.2) λm=>(Option.bind (gU j m) λn=>some n))) else some false) else some false)))):Option Bool) λo=>(bif o then (nC (fp (some ((bK.mk 0 0 0 0 0 (ByteArray.mk #[]) ([]:List bJ) 0 0 ([]:List aN)),1)))) else (Option.bind (idx (pd l H) b.2) λq=>(bif (!q) then (Option.bind (idx (fC a).rows b.2) λs=>(Option.bind (idx b.1 b.2) λt=>some (.inl (b.1.set b.2.toNat s)))) else some (.inl b.1))))):Option ((List bJ) ⊕ (((List bJ)×Int) ⊕ ((List bJ) ⊕ (bK×Int))))) λ | .inl e4726=>some (.inl (e4726,(IntKind.i64.wrap (b.2+1)))) | .inr w=>some w) else some (.inr (.inl b.1)))) ) :
  ∀ (k y:Nat) (acc:List aY),y+k=H->acc.length=y ->
  iter f (acc.map told++((lO l H).map told).drop y,(y:Int))=some (match ib a.rows l k y acc with | some out=> .inl (out.map told) | none=> .inr (fC iX,1)):=by
 have lr:((lO l H).map told).length=H:=by rw [List.length_map,xF]
 have la:(fC a).rows.length=a.rows.length:=List.length_map ..
 intro k
 induction k with
 | zero =>
  intro y acc hy hacc
  refine bA ?_
  subst hf
  dsimp only
  rw [decide_eq_false (by omega),cond_false,List.drop_eq_nil_of_le (by omega),List.append_nil]
  rfl
 | succ k ih =>
  intro y acc hy hacc
  have hyH:y < H:=by omega
  have hcell:(((lO l H).map told).drop y)=told ((mgl (y:Int) l).getD tI)::((lO l H).map told).drop (y+1):=by
   rw [List.drop_eq_getElem_cons (by omega)]
   congr 1
   have:=CW l hyH
   rw [List.getElem_map]
   congr 1
   exact Option.some.inj ((List.getElem?_eq_getElem _).symm.trans this)
  have haccl:(acc.map told).length=y:=by rw [List.length_map]; exact hacc
  have hat:idx (acc.map told++told ((mgl (y:Int) l).getD tI)::((lO l H).map told).drop (y+1)) (y:Int)=some (told ((mgl (y:Int) l).getD tI)):=Cc (by rw [haccl])
  rw [hcell]
  have hset: ∀ r:aY,(acc.map told++told ((mgl (y:Int) l).getD tI)::((lO l H).map told).drop (y+1)).set y (told r)=(acc++[r]).map told++((lO l H).map told).drop (y+1):=by
   intro r
   rw [Cd (by rw [haccl]),List.map_append]
   simp
  have hon: ∀ r:aY,f (acc.map told++told ((mgl (y:Int) l).getD tI)::((lO l H).map told).drop (y+1),(y:Int))=some (.inl ((acc++[r]).map told++((lO l H).map told).drop (y+1),((y+1:Nat):Int)))->ib a.rows l (k+1) y acc=ib a.rows l k (y+1) (acc++[r])->iter f (acc.map told++told ((mgl (y:Int) l).getD tI)::((lO l H).map told).drop (y+1),(y:Int))=some (match ib a.rows l (k+1) y acc with | some out=> .inl (out.map told) | none=> .inr (fC iX,1)):=by
   intro r h1 h2
   rw [h2,bX h1]
   exact ih (y+1) (acc++[r]) (by omega) (by simp [hacc])
  have hd:decide ((y:Int) < (((lO l H).map told).length:Int))=true:=decide_eq_true (by omega)
  have hwr:IntKind.i64.wrap ((y:Int)+1)=((y+1:Nat):Int):=by rw [w64 (by omega) (by omega)]; rfl
  cases hm:mgl (y:Int) l with
  | some r =>
   rw [hm] at hat hset hon
   simp only [Option.getD_some] at hat hset hon ⊢
   have hrc:r.cells.length<=1000000:=hl _ (kh hm)
   have hself:(acc.map told++told r::((lO l H).map told).drop (y+1))=(acc++[r]).map told++((lO l H).map told).drop (y+1):=by simp
   by_cases hya:y < a.rows.length
   ·have e1:a.rows[y]?=some a.rows[y]:=List.getElem?_eq_getElem hya
    have ga:idx (fC a).rows (y:Int)=some (told a.rows[y]):=by rw [bE _ _ (by omega)]; simp
    by_cases hq:a.rows[y]=r
    ·have h2:ib a.rows l (k+1) y acc=none:=by simp only [ib,hm,e1,if_pos hq]
     rw [h2]
     refine bA ?_
     subst hf
     dsimp only
     rw [hd,cond_true,nM l hyH,hm,aA]
     simp only [Option.isSome_some,Bool.not_true,cond_false,aA,cond_true]
     rw [decide_eq_true (show (y:Int) < ((fC a).rows.length:Int) by omega),cond_true,hat,aA,ga,aA,xD _ _ hrc,decide_eq_true hq.symm]
     rfl
    ·refine hon r ?_ (by simp only [ib,hm,e1,if_neg hq])
     subst hf
     dsimp only
     rw [hd,cond_true,nM l hyH,hm,aA]
     simp only [Option.isSome_some,Bool.not_true,cond_false,aA,cond_true]
     rw [decide_eq_true (show (y:Int) < ((fC a).rows.length:Int) by omega),cond_true,hat,aA,ga,aA,xD _ _ hrc,decide_eq_false (λhh=>hq hh.symm),aA,aA,cond_false,aA,hwr,hself]
   ·have e1:a.rows[y]?=none:=List.getElem?_eq_none (by omega)
    refine hon r ?_ (by simp only [ib,hm,e1])
    subst hf
    dsimp only
    rw [hd,cond_true,nM l hyH,hm,aA]
    simp only [Option.isSome_some,Bool.not_true,cond_false,aA,cond_true]
    rw [decide_eq_false (show ¬ (y:Int) < ((fC a).rows.length:Int) by omega),cond_false,aA,cond_false,aA,hwr,hself]
  | none =>
   rw [hm] at hat hset hon
   simp only [Option.getD_none] at hat hset hon ⊢
   by_cases hya:y < a.rows.length
   ·have e1:a.rows[y]?=some a.rows[y]:=List.getElem?_eq_getElem hya
    have ga:idx (fC a).rows (y:Int)=some (told a.rows[y]):=by rw [bE _ _ (by omega)]; simp
    refine hon a.rows[y] ?_ (by simp only [ib,hm,e1])
    subst hf
    dsimp only
    rw [hd,cond_true,nM l hyH,hm,aA]
    simp only [Option.isSome_none,Bool.not_false,cond_true,aA,cond_false]
    rw [decide_eq_false (show ¬ (y:Int)>=((fC a).rows.length:Int) by omega),cond_false,aA,cond_false,ga,aA,hat,aA,aA,hwr,Int.toNat_natCast,hset]
   ·have e1:a.rows[y]?=none:=List.getElem?_eq_none (by omega)
    have h2:ib a.rows l (k+1) y acc=none:=by simp only [ib,hm,e1]
    rw [h2]
    refine bA ?_
    subst hf
    dsimp only
    rw [hd,cond_true,nM l hyH,hm,aA]
    simp only [Option.isSome_none,Bool.not_false,cond_true,aA,cond_false]
    rw [decide_eq_true (show (y:Int)>=((fC a).rows.length:Int) by omega)]
    rfl
theorem Am {α β:Type} {x:Option α} {y:α} {g:α->Option β} {out:Option β} (h:x=some y) (h2:g y=out):Option.bind x g=out:=by rw [h]; exact h2
theorem jQ {i:aJ} (h:i.e≠0):rdS i=(0,i):=by unfold rdS; rw [if_neg h]
theorem tY {i:aJ} (h:i.e≠0):lN i=(noS,i):=by
 unfold lN
 rw [jQ h]
 unfold uF
 rw [if_pos h]
theorem vl {i:aJ} (h:i.e≠0) (m:Int) (hm:0<=m):cA i m=(0,i):=by
 unfold cA
 rw [jQ h,if_neg (by dsimp only; omega)]
theorem we {i:aJ} (h:i.e≠0):bkS i=([],i):=by
 unfold bkS
 rw [vl h 1024 (by omega)]
 dsimp only
 rw [sV _ _ _ h,if_neg h]
theorem Gn {s:ByteArray} (h:(zC s).2.e≠0):(zR s).2=(zC s).2:=by
 have e1:(zD s).2=(zC s).2:=by unfold zD; rw [vl h _ (by omega)]
 have e2:(zE s).2=(zC s).2:=by unfold zE; rw [e1,jQ h]
 have e3:(zF s).2=(zC s).2:=by unfold zF; rw [e2,jQ h]
 have e4:(zT s).2=(zC s).2:=by unfold zT; rw [e3,tY h]
 have e5:(zG s).2=(zC s).2:=by unfold zG; rw [e4,jQ h]
 have e6:(zH s).2=(zC s).2:=by unfold zH; rw [e5,jQ h]
 have e7:(zK s).2=(zC s).2:=by unfold zK; rw [e6,we h]
 have e8:(zN s).2=(zC s).2:=by unfold zN; rw [e7,jQ h]
 unfold zR
 rw [e8,qA _ _ _ _ _ _ h]
theorem Gp {s:ByteArray} (h:(zD s).2.e≠0):(zR s).2=(zD s).2:=by
 have e2:(zE s).2=(zD s).2:=by unfold zE; rw [jQ h]
 have e3:(zF s).2=(zD s).2:=by unfold zF; rw [e2,jQ h]
 have e4:(zT s).2=(zD s).2:=by unfold zT; rw [e3,tY h]
 have e5:(zG s).2=(zD s).2:=by unfold zG; rw [e4,jQ h]
 have e6:(zH s).2=(zD s).2:=by unfold zH; rw [e5,jQ h]
 have e7:(zK s).2=(zD s).2:=by unfold zK; rw [e6,we h]
 have e8:(zN s).2=(zD s).2:=by unfold zN; rw [e7,jQ h]
 unfold zR
 rw [e8,qA _ _ _ _ _ _ h]
theorem CY {i:aJ} (hV:VI i) (h:i.e≠0):jF i=i.e:=by
 unfold jF
 rcases hV.2 with h1 | h1
 ·exact absurd h1 h
 ·rw [if_neg (λhh=>hh h1)]
theorem An {i:aJ} (hV:VI i):((bif ((asR (rdS i).2).e == 0) then some (decide ((rdS i).1 > 1000)) else some false):Option Bool)=some (decide ((rdS i).1 > 1000)):=by
 rw [nJ]
 by_cases h0:(rdS i).2.e=0
 ·have:((rdS i).2.e == 0)=true:=by simpa using h0
  rw [this,cond_true]
 ·have:((rdS i).2.e == 0)=false:=by simpa using h0
  rw [this,cond_false]
  have h1:(rdS i).1=0:=pL h0
  rw [h1]
  rfl
theorem Bg (a:aP) (s:ByteArray) (ha:SW a) (pa:(a.rows.flatMap fF).length<=12000) (h:s.size<=100000) (ht:(zT s).1.size<=12000):jZ (fC a) s=some (fC (mJ a s).1,(mJ a s).2):=by
 obtain ⟨vB,vC,vF,vH,vK,vN,vR⟩:=zVI (s:=s) (by omega)
 have v0:VI (⟨s,0⟩:aJ):=⟨by show s.size<=1000000; omega,.inl rfl⟩
 have vA:VI (zA s).2:=fr v0
 have vD:VI (zD s).2:=fE _ vC
 have vE:VI (zE s).2:=fr vD
 have vT:VI (zT s).2:=rH vF
 have vG:VI (zG s).2:=fr vT
 unfold jZ mJ
 rw [Cm a ha,aA]
 cases hm:nr a with
 | false=>rw [if_pos rfl]; rfl
 | true =>
  rw [if_neg (by simp),Bool.not_true,cond_false]
  have e1:bH ⟨s,0⟩=some (asR (zA s).2,(zA s).1):=gi ⟨s,0⟩ v0
  have e2:bH (asR (zA s).2)=some (asR (zB s).2,(zB s).1):=gi _ vA
  have e3:=gi _ vB
  rw [e1,aA]
  dsimp only
  rw [e2,aA]
  dsimp only
  rw [e3,aA]
  dsimp only
  rw [An vB,aA]
  by_cases hW:(rdS (zB s).2).1 > 1000
  ·have hC:(zC s).2=jh:=by unfold zC cA; rw [if_pos hW]
   have hR:(zR s).2=jh:=by rw [Gn (by rw [hC]; decide),hC]
   have hE:jF (zR s).2=1:=by rw [hR]; rfl
   rw [decide_eq_true hW,cond_true,hE,if_pos (by decide)]
   rfl
  rw [decide_eq_false hW,cond_false]
  have hC:zC s=((rdS (zB s).2).1,(rdS (zB s).2).2):=by unfold zC cA; rw [if_neg hW]
  have hC1:(rdS (zB s).2).1=(zC s).1:=by rw [hC]
  have hC2:(rdS (zB s).2).2=(zC s).2:=by rw [hC]
  rw [hC1,hC2]
  have e4:=gi _ vC
  rw [e4,aA]
  dsimp only
  rw [An vC,aA]
  by_cases hHH:(rdS (zC s).2).1 > 1000
  ·have hD:(zD s).2=jh:=by unfold zD cA; rw [if_pos hHH]
   have hR:(zR s).2=jh:=by rw [Gp (by rw [hD]; decide),hD]
   have hE:jF (zR s).2=1:=by rw [hR]; rfl
   rw [decide_eq_true hHH,cond_true,hE,if_pos (by decide)]
   rfl
  rw [decide_eq_false hHH,cond_false]
  have hD:zD s=((rdS (zC s).2).1,(rdS (zC s).2).2):=by unfold zD cA; rw [if_neg hHH]
  have hD1:(rdS (zC s).2).1=(zD s).1:=by rw [hD]
  have hD2:(rdS (zC s).2).2=(zD s).2:=by rw [hD]
  rw [hD1,hD2]
  have e5:bH (asR (zD s).2)=some (asR (zE s).2,(zE s).1):=gi _ vD
  have e6:bH (asR (zE s).2)=some (asR (zF s).2,(zF s).1):=gi _ vE
  have e7:fR (asR (zF s).2)=some (asR (zT s).2,(zT s).1):=vd _ vF
  have e8:bH (asR (zT s).2)=some (asR (zG s).2,(zG s).1):=gi _ vT
  have e9:bH (asR (zG s).2)=some (asR (zH s).2,(zH s).1):=gi _ vG
  rw [e5,aA]
  dsimp only
  rw [e6,aA]
  dsimp only
  rw [e7,aA]
  dsimp only
  rw [e8,aA]
  dsimp only
  rw [e9,aA]
  dsimp only
  have hbook:((bif ((asR (zH s).2).e == 0) then (Option.bind (gS (asR (zH s).2)) λb=>some ((bK.mk (zB s).1 (zC s).1 (zD s).1 (zE s).1 (zF s).1 (zT s).1 ([]:List bJ) (zG s).1 (zH s).1 b.2),b.1)) else some ((bK.mk (zB s).1 (zC s).1 (zD s).1 (zE s).1 (zF s).1 (zT s).1 ([]:List bJ) (zG s).1 (zH s).1 ([]:List aN)),(asR (zH s).2))):Option (bK×aW))=some (fC (zS s),asR (zK s).2):=by
   rw [nJ]
   by_cases h0:(zH s).2.e=0
   ·have:((zH s).2.e == 0)=true:=by simpa using h0
    rw [this,cond_true,ve _ vH,aA]
    rfl
   ·have:((zH s).2.e == 0)=false:=by simpa using h0
    rw [this,cond_false]
    have hk:zK s=([],(zH s).2):=we h0
    unfold zS
    rw [hk]
    rfl
  rw [hbook,aA]
  dsimp only
  have e10:bH (asR (zK s).2)=some (asR (zN s).2,(zN s).1):=gi _ vK
  rw [e10,aA]
  dsimp only
  rw [nJ]
  by_cases hN0:(zN s).2.e=0
  ·have k1:((zN s).2.e != 0)=false:=by simp [hN0]
   rw [k1,cond_false]
   have hn:=kd vK
   have c1:=gj (m:=1000) vC (by omega)
   have b1:=gj (m:=1000) vB (by omega)
   have hw:(zC s).1<=1000:=b1.2
   have hh1:0<=(zD s).1:=c1.1
   have hh2:(zD s).1<=1000:=c1.2
   obtain ⟨N,hN⟩:=Int.eq_ofNat_of_zero_le (show 0<=(zN s).1 from hn.1)
   have hN2:N<=4611686018427387904:=by have:(zN s).1<=4611686018427387904:=hn.2; omega
   obtain ⟨H,hH⟩:=Int.eq_ofNat_of_zero_le hh1
   have hR:zR s=dlL N (zS s).w (zS s).h (zN s).2 (-1) []:=by
    unfold zR
    rw [hN,Int.toNat_natCast]
    rfl
   have hHt:(zD s).1.toNat=H:=by rw [hH,Int.toNat_natCast]
   have hz:(zS s).h=(zD s).1:=rfl
   have hHt2:(zS s).h.toNat=H:=hHt
   have l1:=Gl (zS s) H N (by omega) hH hw hN2 _ rfl N 0 (zN s).2 (-1) [] (by omega) vN hN0 (by omega) (λp hp=>by cases hp)
   rw [<- hR,CU,CV] at l1
   rw [rD (by omega) (by omega) (by omega),aA,rD (by omega) (by omega) (by omega),aA,hHt2,hN,hHt]
   refine Am l1 ?_
   by_cases he:(zR s).2.e=0
   ·rw [if_pos he]
    dsimp only
    have hst:((zR s).2.s.toList == (ByteArray.mk #[]).toList)=decide ((zR s).2.s=noS):=mi _ noS
    show (bif !((zR s).2.s.toList == (ByteArray.mk #[]).toList) then _ else _)=_
    rw [hst]
    by_cases hs0:(zR s).2.s=noS
    ·have hE:jF (zR s).2=0:=by unfold jF; rw [if_neg (λhh=>hh hs0)]; exact he
     rw [decide_eq_true hs0,Bool.not_true,cond_false,CD a ha pa,aA,hE,if_neg (λhh=>hh rfl)]
     by_cases hs:(zA s).1=((ji (jn a):Nat):Int)
     ·have k2:((zA s).1 != ((ji (jn a):Nat):Int))=false:=by simp [hs]
      rw [k2,cond_false,if_neg (λhh=>hh hs)]
      have har: ∀ r∈a.rows,r.cells.length<=1000000:=λr hr=>by have:=(ha.ro r hr).2; omega
      have hrows:=tU (zN s).1.toNat (zC s).1 (zD s).1 (zN s).2 (-1) [] vN hw (λp hp=>by cases hp)
      have hrows2: ∀ p∈(zR s).1,p.2.cells.length<=1000000:=λp hp=>by have:=(hrows p hp).2; omega
      have l2:=Gm a (zR s).1 H (by omega) har hrows2 _ rfl H 0 [] (by omega) rfl
      simp only [List.map_nil,List.nil_append,List.drop_zero] at l2
      refine Am l2 ?_
      cases hb:ib a.rows (zR s).1 H 0 [] with
      | none=>rfl
      | some l =>
       rw [<- hHt] at hb
       obtain ⟨SWx,pl⟩:=qB ha pa h ht he hb
       dsimp only
       have hpk:gT (fC (jo (zS s) l))=some (jn (jo (zS s) l)):=xB _ SWx (by show (l.flatMap fF).length<=1000000; omega)
       show Option.bind (gT (fC (jo (zS s) l))) _=_
       rw [hpk,aA]
       have hst2:((jn (jo (zS s) l)).toList == (ByteArray.mk #[]).toList)=oE (jo (zS s) l):=by
        have e:((jn (jo (zS s) l)).toList == (ByteArray.mk #[]).toList)=decide (jn (jo (zS s) l)=noS):=mi _ noS
        rw [e]
        cases hn:oE (jo (zS s) l) with
        | true=>rw [decide_eq_true (o2.2 hn)]
        | false=>rw [decide_eq_false (λhh=>by rw [o2.1 hh] at hn; cases hn)]
       rw [hst2]
       cases oE (jo (zS s) l) with
       | true=>rfl
       | false=>rfl
     ·have k2:((zA s).1 != ((ji (jn a):Nat):Int))=true:=by simp [hs]
      rw [k2,cond_true,if_pos hs]
      rfl
    ·have hE:jF (zR s).2=1:=by unfold jF; rw [if_pos hs0]
     rw [decide_eq_false hs0,hE,if_pos (by decide)]
     rfl
   ·have hE:jF (zR s).2=(zR s).2.e:=CY vR he
    rw [if_neg he,hE,if_pos he]
  ·have k1:((zN s).2.e != 0)=true:=by simp [hN0]
   have hR:(zR s).2=(zN s).2:=by unfold zR; rw [qA _ _ _ _ _ _ hN0]
   have hE:jF (zR s).2=(zN s).2.e:=by rw [hR]; exact CY vN hN0
   rw [k1,cond_true,hE,if_pos hN0]
   rfl
end Go.Tw.X

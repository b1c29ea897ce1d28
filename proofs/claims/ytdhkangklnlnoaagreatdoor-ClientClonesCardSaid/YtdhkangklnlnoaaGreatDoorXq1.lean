import Derived.Test.YtdhkangklnlnoaaGreatDoorXp1
import Derived.Test.YtdhkangklnlnoaaGreatDoorFw2
import Derived.Laws.BitsLemmas
import Derived.Laws.Strings
set_option linter.unusedVariables false
set_option linter.unusedSimpArgs false
namespace Go.Tw.X
open Go Go.Tw
def tc (c:aP):dE:=⟨c.rune,c.bU,c.part⟩
def told (r:aY):bK:=⟨r.cells.map tc,r.wrapped⟩
theorem CU (n:Int):IntKind.u64.wrap n=n % 18446744073709551616:=by simp [IntKind.wrap,IntKind.bits,IntKind.signed]
theorem Fc (n:Int) (h0:0<=n) (h1:n < 2 ^ 63):IntKind.u64.wrap n=n:=by rw [CU]; omega
theorem zI (y:Int) (h0:0<=y) (h1:y < 4294967296):Go.bits .and .u64 y 4294967295=y:=by
 have h:=bits_mask .u64 63 (by decide) Fc 32 (by decide) y h0 (by omega)
 have e:((2:Int) ^ 32 - 1)=4294967295:=by decide
 have e2:((2:Int) ^ 32)=4294967296:=by decide
 rw [e,e2] at h
 rw [h]
 omega
theorem CV {x:Int} (h0:0<=x) (h1:x < 18446744073709551616):IntKind.u64.wrap x=x:=by rw [CU]; omega
theorem zJ (n:Int) (h0:0<=n) (h1:n<=1000000):ny 1 n=some (0,n):=by
 have e32:(2:Int) ^ (min 32 64)=4294967296:=by decide
 have f1:Int.fdiv 1 4294967296=0:=by decide
 have f2:Int.fdiv n 4294967296=0:=by rw [Int.fdiv_eq_ediv_of_nonneg _ (by decide)]; omega
 have f0:Int.fdiv 0 4294967296=0:=by decide
 have z0:IntKind.u64.wrap 0=0:=by rw [CU]; rfl
 have m0:Go.bits .and .u64 0 4294967295=0:=zI 0 (by omega) (by omega)
 have m1:Go.bits .and .u64 1 4294967295=1:=zI 1 (by omega) (by omega)
 have mn:=zI n h0 (by omega)
 have un:IntKind.u64.wrap n=n:=CV h0 (by omega)
 unfold ny nh
 simp only [e32,f1,f2,m1,mn,Int.zero_mul,Int.mul_zero,Int.one_mul,z0,un,f0,Int.add_zero,Int.zero_add,m0,aA]
theorem BP (c:aP) (n:Int) (h0:0<=n) (h1:n<=1000000):dZ [c] n=some (List.replicate n.toNat c):=by
 unfold dZ
 have hn:decide (n < 0)=false:=decide_eq_false (by omega)
 have u1:IntKind.u64.wrap (([c].length:Nat):Int)=1:=CV (by simp) (by simp)
 rw [hn,cond_false,u1,CV h0 (by omega),zJ n h0 h1]
 simp only [aA]
 have g1:decide ((0:Int) > 0)=false:=by decide
 have g2:decide (n > 9223372036854775807)=false:=decide_eq_false (by omega)
 rw [g1,cond_false,aA,g2,cond_false,w64 (by omega) (by omega),sM h0 (by omega) (by omega),aA]
 obtain ⟨k,rfl⟩: ∃ k:Nat,n=k:=⟨n.toNat,by omega⟩
 simp only [Int.toNat_natCast,List.length_cons,List.length_nil,List.length_replicate]
 have key: ∀ m j,k - j=m->j<=k->(1<=j\/k=0)->iter (σ:=(List aP)×Int) (ρ:=(List aP)) (λa=>(bif (decide (a.2 < (a.1.length:Int))) then (Option.bind (chk (eL a.2 (a.1.length:Int) a.1.length)) λ_=>(Option.bind (chk (eL 0 a.2 a.1.length)) λ_=>some (.inl ((vn a.1 a.2.toNat),(IntKind.i64.wrap (a.2+((Nat.min a.2.toNat (a.1.length - a.2.toNat):Nat):Int))))))) else some (.inr a.1))) (List.replicate j c++List.replicate (k - j) (aP.mk 0 0 0),(j:Int))=some (List.replicate k c):=by
  intro m
  induction m using Nat.strongRecOn with
  | _ m ih =>
   intro j hm hj h1j
   have hlen:(List.replicate j c++List.replicate (k - j) (aP.mk 0 0 0)).length=k:=by simp; omega
   by_cases hjk:j < k
   ·have hmin:Nat.min j (k - j)=min j (k - j):=rfl
    rw [bY (s':=(List.replicate (j+min j (k - j)) c++List.replicate (k - (j+min j (k - j))) (aP.mk 0 0 0),((j+min j (k - j):Nat):Int)))]
    ·exact ih (k - (j+min j (k - j))) (by omega) _ rfl (by omega) (by omega)
    ·have hc:decide ((j:Int) < ((List.replicate j c++List.replicate (k - j) (aP.mk 0 0 0)).length:Int))=true:=by rw [hlen]; simp; omega
     simp only [hc,cond_true]
     rw [hlen,cV (by omega) (by omega) (by omega),aA,cV (by omega) (by omega) (by omega),aA,Int.toNat_natCast,hmin,w64 (by omega) (by omega)]
     congr 2
     refine Prod.ext ?_ ?_
     ·show vn _ _=_
      unfold vn
      rw [hlen]
      have t1:(List.replicate j c++List.replicate (k - j) (aP.mk 0 0 0)).take j=List.replicate j c:=by rw [List.take_left']; simp
      rw [t1,List.take_replicate,List.drop_append,List.drop_of_length_le (by simp),List.nil_append,List.length_replicate,List.drop_replicate,List.replicate_append_replicate,Nat.min_comm (k - j) j]
      congr 2
      omega
     ·show ((j:Int)+((min j (k - j):Nat):Int))=_
      omega
   ·have hjk':j=k:=by omega
    subst hjk'
    rw [bC (r:=List.replicate j c)]
    simp
 have hs:cpy (List.replicate k (aP.mk 0 0 0)) [c]=List.replicate (min 1 k) c++List.replicate (k - min 1 k) (aP.mk 0 0 0):=by
  unfold cpy
  cases k with
  | zero=>simp
  | succ k=>simp [Nat.min_eq_left]
 have hmin:Nat.min (0+1) k=min 1 k:=rfl
 rw [hs,hmin,key _ (min 1 k) rfl (by omega) (by omega),aA]
theorem CW (l:List aP) (h:l.length<=1000000):fK l=some l:=by
 unfold fK
 rw [bP (by simp; omega),aA]
 rfl
theorem mK (x y:aP):((x.rune == y.rune) && ((x.bU == y.bU) && ((x.part == y.part) && true)))=decide (x=y):=by
 obtain ⟨a,b,c⟩:=x
 obtain ⟨d,e,f⟩:=y
 by_cases h1:a=d <;> by_cases h2:b=e <;> by_cases h3:c=f <;> simp [h1,h2,h3]
theorem CY (a b:List aP) (h:a.length<=1000000):fL a b=some (decide (a=b)):=by
 unfold fL
 by_cases hl:a.length=b.length
 ·have e:((a.length:Int) != (b.length:Int))=false:=by simp [hl]
  rw [e,cond_false]
  have key: ∀ (x y d d2:List aP),d++x=a->d2++y=b->d=d2->x.length=y.length->iter (σ:=Int) (ρ:=Unit ⊕ Bool) (λf=>(bif (decide (f < (a.length:Int))) then (Option.bind (idx a f) λg=>(Option.bind (idx b f) λi=>(bif (!((g.rune == i.rune) && ((g.bU == i.bU) && ((g.part == i.part) && true)))) then (fD (some false)) else some (.inl (IntKind.i64.wrap (f+1)))))) else some (.inr (.inl ())))) (d.length:Int)=some (if x=y then .inl () else .inr false):=by
   intro x
   induction x with
   | nil =>
    intro y d d2 hd hd2 hdd hxy
    have:y=[]:=List.eq_nil_of_length_eq_zero hxy.symm
    subst this
    simp at hd
    subst hd
    rw [bC (r:= .inl ())]
    ·simp
    ·simp
   | cons c x ih =>
    intro y d d2 hd hd2 hdd hxy
    cases y with
    | nil=>simp at hxy
    | cons c2 y =>
     subst hdd
     have hal:a.length=d.length+x.length+1:=by rw [<- hd]; simp; omega
     have hc:decide ((d.length:Int) < (a.length:Int))=true:=by simp; omega
     have hx:idx a (d.length:Int)=some c:=by rw [<- hd]; exact pR d x c
     have hx2:idx b (d.length:Int)=some c2:=by rw [<- hd2]; exact pR d y c2
     by_cases hcc:c=c2
     ·subst hcc
      rw [bY (s':=((d++[c]).length:Int))]
      ·rw [ih y (d++[c]) (d++[c]) (by simpa using hd) (by simpa using hd2) rfl (by simpa using hxy)]
       simp
      ·simp only [hc,cond_true,hx,hx2,aA,mK]
       rw [w64 (by omega) (by omega)]
       simp
     ·rw [bC (r:= .inr false)]
      ·simp [hcc]
      ·simp only [hc,cond_true,hx,hx2,aA,mK]
       have:decide (c=c2)=false:=decide_eq_false hcc
       rw [this]
       rfl
  have h0:=key a b [] [] rfl rfl rfl hl
  have e0:((([]:List aP).length:Nat):Int)=0:=rfl
  rw [e0] at h0
  rw [h0,aA]
  by_cases hab:a=b
  ·rw [if_pos hab]; simp [hab]
  ·rw [if_neg hab]; simp [hab]
 ·have e:((a.length:Int) != (b.length:Int))=true:=by simp; omega
  rw [e,cond_true]
  have:a≠b:=λh=>hl (by rw [h])
  simp [this]
theorem AK (r q:aY) (h:r.cells.length<=1000000):jb r q=some (decide (r=q)):=by
 unfold jb
 obtain ⟨a,x⟩:=r
 obtain ⟨b,y⟩:=q
 rw [CY a b h]
 cases x <;> cases y <;> simp
theorem fF (l:List aP):(l.map tc).length=l.length:=List.length_map _
def rok (x:Int):Prop:= -2147483648<=x/\x<=2147483647
def okR (l:List aP):Prop:= ∀ c∈l,rok c.rune
theorem AL {a b:List aP} (ha:okR a) (hb:okR b):okR (a++b):=λc hc=>(List.mem_append.1 hc).elim (ha c) (hb c)
theorem CZ {a:List aP} (ha:okR a) (n:Nat):okR (a.drop n):=λc hc=>ha c (List.mem_of_mem_drop hc)
theorem w32 {x:Int} (h:rok x):IntKind.i64.wrap x=x:=by obtain ⟨h1,h2⟩:=h; exact w64 (by omega) (by omega)
theorem HK (r:aY) (h:r.cells.length<=1000000) (hr:okR r.cells):k7 r (told r)=some true:=by
 unfold k7 told
 simp only [fF]
 have e6:((bif ((r.cells.length:Int) != (r.cells.length:Int)) then some true else some (!(r.wrapped == r.wrapped))):Option Bool)=some false:=by simp
 rw [e6,aA,cond_false]
 have key: ∀ (b d:List aP),d++b=r.cells->iter (σ:=Int) (ρ:=Unit ⊕ Bool) (λa=>(bif (decide (a < (r.cells.length:Int))) then (Option.bind (idx r.cells a) λe=>(Option.bind ((Option.bind (idx (r.cells.map tc) a) λf=>(bif ((IntKind.i64.wrap e.rune) != f.rune) then some true else (Option.bind (idx (r.cells.map tc) a) λg=>(bif (e.bU != g.bU) then some true else (Option.bind (idx (r.cells.map tc) a) λi=>some (e.part != i.part)))))):Option Bool) λj=>(bif j then (fD (some false)) else some (.inl (IntKind.i64.wrap (a+1)))))) else some (.inr (.inl ())))) (d.length:Int)=some (.inl ()):=by
  intro b
  induction b with
  | nil =>
   intro d hd
   simp at hd
   subst hd
   rw [bC (r:= .inl ())]
   simp
  | cons c b ih =>
   intro d hd
   have hl:r.cells.length=d.length+b.length+1:=by rw [<- hd]; simp; omega
   have hc:decide ((d.length:Int) < (r.cells.length:Int))=true:=by simp; omega
   have hx:idx r.cells (d.length:Int)=some c:=by rw [<- hd]; exact pR d b c
   have hx2:idx (r.cells.map tc) (d.length:Int)=some (tc c):=by
    rw [<- hd,List.map_append,List.map_cons,<- fF d]
    exact pR _ _ _
   have hcr:rok c.rune:=hr c (by rw [<- hd]; simp)
   rw [bY (s':=((d++[c]).length:Int))]
   ·exact ih (d++[c]) (by simpa using hd)
   ·simp only [hc,cond_true,hx,hx2,aA,w32 hcr,tc,bne_self_eq_false,cond_false]
    rw [w64 (by omega) (by omega)]
    simp
 have h0:=key r.cells [] rfl
 have e0:((([]:List aP).length:Nat):Int)=0:=rfl
 rw [e0] at h0
 rw [h0,aA]
theorem nk {σ ρ:Type} {f:σ->Option (σ ⊕ ρ)} (S:Nat->σ) (n:Nat) (r:ρ) (hs: ∀ i,i < n->f (S i)=some (.inl (S (i+1)))) (he:f (S n)=some (.inr r)):iter f (S 0)=some r:=by
 have key: ∀ i,i<=n->iter f (S 0)=iter f (S i):=by
  intro i
  induction i with
  | zero=>intro _; rfl
  | succ i ih =>
   intro hi
   rw [ih (by omega),bY (hs i (by omega))]
 rw [key n (Nat.le_refl n),bC he]
theorem dX {σ ρ β:Type} {f:σ->Option (σ ⊕ ρ)} {s:σ} {g:ρ->Option β} {out:Option β} (S:Nat->σ) (n:Nat) (r:ρ) (h0:s=S 0) (hs: ∀ i,i < n->f (S i)=some (.inl (S (i+1)))) (he:f (S n)=some (.inr r)) (hg:g r=out):Option.bind (iter f s) g=out:=by
 rw [h0,nk S n r hs he]
 exact hg
theorem ox {σ ρ:Type} {f:σ->Option (σ ⊕ ρ)} (Inv:σ->Prop) (m:σ->Nat) (n5:ρ->Prop)
  (hs: ∀ s,Inv s->(∃ s',f s=some (.inl s')/\Inv s'/\m s' < m s)\/(∃ r,f s=some (.inr r)/\n5 r)): ∀ s,Inv s -> ∃ r,iter f s=some r/\n5 r:=by
 have key: ∀ (n:Nat) s,m s<=n->Inv s -> ∃ r,iter f s=some r/\n5 r:=by
  intro n
  induction n with
  | zero =>
   intro s hm hi
   rcases hs s hi with ⟨s',hf,hi',hlt⟩ | ⟨r,hf,hp⟩
   ·omega
   ·exact ⟨r,bC hf,hp⟩
  | succ n ih =>
   intro s hm hi
   rcases hs s hi with ⟨s',hf,hi',hlt⟩ | ⟨r,hf,hp⟩
   ·rw [bY hf]
    exact ih s' (by omega) hi'
   ·exact ⟨r,bC hf,hp⟩
 intro s hi
 exact key (m s) s (Nat.le_refl _) hi
theorem pj {σ ρ β:Type} {f:σ->Option (σ ⊕ ρ)} {s:σ} {g:ρ->Option β} {out:Option β} (Inv:σ->Prop) (m:σ->Nat) (n5:ρ->Prop) (h0:Inv s)
  (hs: ∀ s,Inv s->(∃ s',f s=some (.inl s')/\Inv s'/\m s' < m s)\/(∃ r,f s=some (.inr r)/\n5 r)) (hg: ∀ r,n5 r->g r=out):Option.bind (iter f s) g=out:=by
 obtain ⟨r,h1,h2⟩:=ox Inv m n5 hs s h0
 rw [h1]
 exact hg r h2
theorem or2 (p q:Prop) [Decidable p] [Decidable q]:((bif decide p then some true else some (decide q)):Option Bool)=some (decide (p\/q)):=by
 by_cases a1:p <;> by_cases a2:q <;> simp [a1,a2]
theorem bG {α:Type} (l:List α) (n:Nat) (h:n < l.length):idx l (n:Int)=some l[n]:=by rw [qZ,List.getElem?_eq_getElem h]
theorem Fe {α:Type} (l r:List α) (x y:α):(l++x::r).set l.length y=l++y::r:=by simp
theorem q6 {α:Type} (l:List α) (a b:Nat):cut l (a:Int) (b:Int)=(l.take b).drop a:=by simp [cut]
def uC:aY:=⟨[],false⟩
theorem C9 {α:Type} {l r:List α} {x:α} {k:Int} (h:k=l.length):idx (l++x::r) k=some x:=by rw [h,pR]
theorem Dc {α:Type} {l r:List α} {x y:α} {k:Nat} (h:k=l.length):(l++x::r).set k y=l++y::r:=by rw [h,Fe]
theorem GU {x:Int} (h0:0<=x) (h1:x < 256):IntKind.u8.wrap x=x:=by rw [IntKind.wrap_u8]; omega
theorem foldl_push (xs:List Int): ∀ l:List UInt8,xs.foldl (λr n=>r.push (UInt8.ofNat n.toNat)) (ByteArray.mk l.toArray)=ByteArray.mk (l++xs.map (λn=>UInt8.ofNat n.toNat)).toArray:=by
 induction xs with
 | nil=>intro l; simp
 | cons a xs ih =>
  intro l
  rw [List.foldl_cons]
  have:(ByteArray.mk l.toArray).push (UInt8.ofNat a.toNat)=ByteArray.mk (l++[UInt8.ofNat a.toNat]).toArray:=by
   show ByteArray.mk (l.toArray.push _)=_
   rw [List.push_toArray]
  rw [this,ih]
  simp
theorem nQ (xs:List Int):dL xs=ByteArray.mk (xs.map (λn=>UInt8.ofNat n.toNat)).toArray:=foldl_push xs []
theorem dG (a b:List Int):dL (a++b)=dL a++dL b:=by
 rw [nQ,nQ,nQ,ByteArray.mk_append_mk,List.map_append]
theorem bQ (a:List Int):(dL a).size=a.length:=by
 rw [nQ]
 simp [ByteArray.size]
theorem eD {n m:Nat} (h:n+m<=4611686018427387904):chk (lu n m)=some ():=kg h
def ij (n:Nat):List Int:=if n < 128 then [(n:Int)] else ((128+n % 128:Nat):Int)::ij (n / 128)
termination_by n
decreasing_by omega
def clN (n:Int):Nat:=(max 0 (min n 4611686018427387904)).toNat
theorem Dd (n:Int):imax 0 (cD n 4611686018427387904)=(clN n:Int):=by rw [wF,oM]; unfold clN; omega
theorem zL (n:Int):clN n<=4611686018427387904:=by unfold clN; omega
def cI (n:Int):List Int:=ij (clN n)
theorem eW {n:Nat} (h:n < 128):ij n=[(n:Int)]:=by rw [ij,if_pos h]
theorem mL {n:Nat} (h: ¬ n < 128):ij n=((128+n % 128:Nat):Int)::ij (n / 128):=by rw [ij,if_neg h]
theorem q7: ∀ (k n:Nat),n < 128 ^ (k+1)->(ij n).length<=k+1:=by
 intro k
 induction k with
 | zero =>
  intro n h
  rw [eW (by omega)]
  simp
 | succ k ih =>
  intro n h
  by_cases hn:n < 128
  ·rw [eW hn]
   simp
  ·rw [mL hn,List.length_cons]
   have:n / 128 < 128 ^ (k+1):=by
    rw [Nat.pow_succ] at h
    exact Nat.div_lt_of_lt_mul (by rw [Nat.mul_comm]; exact h)
   have:=ih _ this
   omega
theorem cJ (n:Int):(cI n).length<=9:=q7 8 _ (by have:=zL n; omega)
theorem oy: ∀ (n:Nat),∀ b∈ij n,0<=b/\b < 256:=by
 intro n
 induction n using Nat.strongRecOn with
 | _ n ih =>
  intro b hb
  by_cases hn:n < 128
  ·rw [eW hn,List.mem_singleton] at hb
   omega
  ·rw [mL hn] at hb
   rcases List.mem_cons.1 hb with rfl | hb
   ·omega
   ·exact ih (n / 128) (by omega) b hb
theorem De (x:Int) (h0:0<=x) (h1:x < 256):Go.bits .and .u8 x 127=x % 128:=by
 have h:=bits_mask .u8 8 (by decide) wraps_u8 7 (by decide) x h0 (by omega)
 have e:((2:Int) ^ 7 - 1)=127:=by decide
 have e2:((2:Int) ^ 7)=128:=by decide
 rw [e,e2] at h
 exact h
theorem or_comm (k:IntKind) (x y:Int):Go.bits .or k x y=Go.bits .or k y x:=by
 show k.wrap ((BitVec.ofInt k.bits x ||| BitVec.ofInt k.bits y).toNat:Int)=k.wrap ((BitVec.ofInt k.bits y ||| BitVec.ofInt k.bits x).toNat:Int)
 rw [BitVec.or_comm]
theorem Ff (y:Int) (h0:0<=y) (h1:y < 128):Go.bits .or .u8 y 128=128+y:=by
 rw [or_comm]
 exact bits_join .u8 8 (by decide) wraps_u8 7 128 y (by decide) (by decide) (by decide) h0 (by omega) (by omega)
theorem HL (n:Nat):(n:Int).fdiv (2 ^ (min 7 64))=((n / 128:Nat):Int):=by
 rw [Int.fdiv_eq_ediv_of_nonneg _ (by decide)]
 show (n:Int) / 128=_
 omega
theorem BQ (b:List Int) (x:Int) (hb:b.length<=100000000): ∃ e,kh (λ(s661:cK) (x619:Int)=>(Option.bind (chk (cW s661.b.length [x619].length 1)) λ_=>some ((cK.mk (s661.b++[x619])),true))) (⟨b⟩:cK) x=some ((⟨b++cI x⟩:cK),e):=by
 unfold kh oQ
 rw [Dd,aA]
 unfold cI
 have hle:=zL x
 generalize clN x=n at hle
 have key: ∀ (k n:Nat) (b:List Int),n < 128 ^ (k+1)->b.length+(k+1)<=100000010 -> ∃ e,iter (σ:=Int×cK) (ρ:=(Int×cK) ⊕ (cK×Int)) (λa=>(bif (decide (a.1>=128)) then (Option.bind ((λ(s661:cK) (x619:Int)=>(Option.bind (chk (cW s661.b.length [x619].length 1)) λ_=>some ((cK.mk (s661.b++[x619])),true))) a.2 (Go.bits .or .u8 (Go.bits .and .u8 (IntKind.u8.wrap a.1) 127) 128)) λz68=>(bif (!z68.2) then (fD (some (z68.1,a.1))) else some (.inl ((a.1.fdiv (2 ^ (min 7 64))),z68.1)))) else some (.inr (.inl (a.1,a.2))))) ((n:Int),(⟨b⟩:cK))=some (.inl ((e:Int),(⟨b++(ij n).dropLast⟩:cK)))/\0<=e/\e < 128/\ij n=(ij n).dropLast++[e]:=by
  intro k
  induction k with
  | zero =>
   intro n b h hb
   refine ⟨n,?_,by omega,by omega,?_⟩
   ·rw [eW (by omega)]
    refine bC ?_
    dsimp only
    rw [decide_eq_false (by omega),cond_false]
    simp
   ·rw [eW (by omega)]
    rfl
  | succ k ih =>
   intro n b h hb
   by_cases hn:n < 128
   ·refine ⟨n,?_,by omega,by omega,?_⟩
    ·rw [eW hn]
     refine bC ?_
     dsimp only
     rw [decide_eq_false (by omega),cond_false]
     simp
    ·rw [eW hn]
     rfl
   ·have hlt:n / 128 < 128 ^ (k+1):=by
     rw [Nat.pow_succ] at h
     exact Nat.div_lt_of_lt_mul (by rw [Nat.mul_comm]; exact h)
    obtain ⟨e,h1,h2,h3,h4⟩:=ih (n / 128) (b++[((128+n % 128:Nat):Int)]) hlt (by simp; omega)
    refine ⟨e,?_,h2,h3,?_⟩
    ·rw [bY (s':=(((n / 128:Nat):Int),(⟨b++[((128+n % 128:Nat):Int)]⟩:cK)))]
     ·rw [h1,mL hn]
      have hne:ij (n / 128)≠[]:=by rw [h4]; simp
      rw [List.dropLast_cons_of_ne_nil hne]
      simp
     ·dsimp only
      have hw:IntKind.u8.wrap (n:Int)=((n % 256:Nat):Int):=by rw [IntKind.wrap_u8]; omega
      have hv:Go.bits .or .u8 (Go.bits .and .u8 (IntKind.u8.wrap (n:Int)) 127) 128=((128+n % 128:Nat):Int):=by
       rw [hw,De _ (by omega) (by omega),Ff _ (by omega) (by omega)]
       omega
      rw [decide_eq_true (by omega),cond_true,hv,bP (by simp; omega),aA,aA]
      dsimp only
      rw [Bool.not_true,cond_false,HL]
    ·rw [mL hn]
     have hne:ij (n / 128)≠[]:=by rw [h4]; simp
     rw [List.dropLast_cons_of_ne_nil hne,List.cons_append,<- h4]
 obtain ⟨e,h1,h2,h3,h4⟩:=key 8 n b (by omega) (by omega)
 have hl:=q7 8 n (by omega)
 have hd:(ij n).dropLast.length<=9:=by rw [List.length_dropLast]; omega
 refine ⟨e,?_⟩
 rw [h1,aA]
 dsimp only
 have hu:IntKind.u8.wrap e=e:=by rw [IntKind.wrap_u8]; omega
 rw [hu,bP (by simp only [List.length_append,List.length_singleton]; omega),aA,aA,List.append_assoc,<- h4]
theorem nm (b:List Int) (l:List Int) (hb:b.length+9*l.length<=10000000):dH ⟨b⟩ l=some ⟨b++l.flatMap cI⟩:=by
 unfold dH ng
 have hfl: ∀ l:List Int,(l.flatMap cI).length<=9*l.length:=by
  intro l
  induction l with
  | nil=>simp
  | cons a l ih =>
   rw [List.flatMap_cons,List.length_append,List.length_cons]
   have:=cJ a
   omega
 refine dX (λi=>((⟨b++(l.take i).flatMap cI⟩:cK),(i:Int))) l.length (⟨b++l.flatMap cI⟩:cK) ?_ ?_ ?_ rfl
 ·simp
 ·intro i hi
  dsimp only
  have h4:=hfl (l.take i)
  rw [List.length_take] at h4
  obtain ⟨e,he⟩:=BQ (b++(l.take i).flatMap cI) l[i] (by rw [List.length_append]; omega)
  rw [decide_eq_true (by omega),cond_true,bG l i hi,aA,aA,he,aA,w64 (by omega) (by omega),List.take_succ_eq_append_getElem hi,List.flatMap_append,List.flatMap_singleton,List.append_assoc]
  rfl
 ·dsimp only
  rw [decide_eq_false (by omega),cond_false,List.take_length]
theorem jE (x:Int):cG x=some (dL (cI x)):=by
 unfold cG
 rw [Dd]
 unfold cI
 have hle:=zL x
 generalize clN x=n at hle
 have key: ∀ (k n:Nat) (b:List Int),n < 128 ^ (k+1)->n<=4611686018427387904->b.length+(k+1)<=1000 -> ∃ e,iter (σ:=Int×(List Int)) (ρ:=Int×(List Int)) (λa=>(bif (decide (a.1>=128)) then (Option.bind (chk (cW a.2.length [(IntKind.u8.wrap (IntKind.i64.wrap (128+(a.1.tmod 128))))].length 1)) λ_=>some (.inl ((IntKind.i64.wrap (a.1.tdiv 128)),(a.2++[(IntKind.u8.wrap (IntKind.i64.wrap (128+(a.1.tmod 128))))])))) else some (.inr (a.1,a.2)))) ((n:Int),b)=some ((e:Int),b++(ij n).dropLast)/\0<=e/\e < 128/\ij n=(ij n).dropLast++[e]:=by
  intro k
  induction k with
  | zero =>
   intro n b h hmx hb
   refine ⟨n,?_,by omega,by omega,?_⟩
   ·rw [eW (by omega)]
    refine bC ?_
    dsimp only
    rw [decide_eq_false (by omega),cond_false]
    simp
   ·rw [eW (by omega)]
    rfl
  | succ k ih =>
   intro n b h hmx hb
   by_cases hn:n < 128
   ·refine ⟨n,?_,by omega,by omega,?_⟩
    ·rw [eW hn]
     refine bC ?_
     dsimp only
     rw [decide_eq_false (by omega),cond_false]
     simp
    ·rw [eW hn]
     rfl
   ·have hlt:n / 128 < 128 ^ (k+1):=by
     rw [Nat.pow_succ] at h
     exact Nat.div_lt_of_lt_mul (by rw [Nat.mul_comm]; exact h)
    obtain ⟨e,h1,h2,h3,h4⟩:=ih (n / 128) (b++[((128+n % 128:Nat):Int)]) hlt (by omega) (by simp; omega)
    refine ⟨e,?_,h2,h3,?_⟩
    ·have hbig:n < 9223372036854775808:=by omega
     ·rw [bY (s':=(((n / 128:Nat):Int),b++[((128+n % 128:Nat):Int)]))]
      ·rw [h1,mL hn]
       have hne:ij (n / 128)≠[]:=by rw [h4]; simp
       rw [List.dropLast_cons_of_ne_nil hne]
       simp
      ·dsimp only
       have m1:(n:Int).tmod 128=((n % 128:Nat):Int):=by rw [Int.tmod_eq_emod_of_nonneg (by omega)]; omega
       have d1:(n:Int).tdiv 128=((n / 128:Nat):Int):=by rw [Int.tdiv_eq_ediv_of_nonneg (by omega)]; omega
       rw [decide_eq_true (by omega),cond_true,m1,d1,w64 (by omega) (by omega),w64 (by omega) (by omega),GU (by omega) (by omega),bP (by simp; omega),aA]
       have:(128:Int)+((n % 128:Nat):Int)=((128+n % 128:Nat):Int):=by omega
       rw [this]
    ·rw [mL hn]
     have hne:ij (n / 128)≠[]:=by rw [h4]; simp
     rw [List.dropLast_cons_of_ne_nil hne,List.cons_append,<- h4]
 obtain ⟨e,h1,h2,h3,h4⟩:=key 8 n [] (by omega) hle (by simp)
 have hl:=q7 8 n (by omega)
 have hd:(ij n).dropLast.length<=9:=by rw [List.length_dropLast]; omega
 rw [h1,aA]
 dsimp only
 rw [GU h2 (by omega),bP (by simp only [List.length_append,List.length_singleton,List.length_nil]; omega),aA,List.nil_append,<- h4]
def most:Nat:=4611686018427387904
def rdp:Nat->Nat->Nat->List Int->Int ⊕ (Nat×Nat)
 | 0,_,_,_=> .inl 1
 | _+1,_,_,[]=> .inl 2
 | k+1,i,acc,b::r=>if b < 128 then (if (i > 0/\b=0)\/acc+b.toNat % 128*128 ^ i > most then .inl 1 else .inr (acc+b.toNat % 128*128 ^ i,i+1)) else rdp k (i+1) (acc+b.toNat % 128*128 ^ i) r
def noS:ByteArray:=ByteArray.mk #[]
theorem q8 (s:ByteArray): ∀ b∈sbs s,0<=b/\b < 256:=by
 intro b hb
 unfold sbs at hb
 obtain ⟨c,_,rfl⟩:=List.mem_map.1 hb
 have:=c.toNat_lt
 omega
theorem q9 (s:ByteArray) (i:Nat) (h:i < (sbs s).length):uz s (i:Int)=some (sbs s)[i]:=by
 unfold uz
 rw [decide_eq_true (by omega),cond_true,Int.toNat_natCast]
 have h2:i < s.data.size:=by rw [bD] at h; exact h
 rw [Array.getElem?_eq_getElem h2]
 simp only [sbs,Option.map_some,List.getElem_map,Array.getElem_toList]
theorem p2 (i:Nat):2 ^ (7*i)=128 ^ i:=by rw [Nat.pow_mul]
theorem pw8 {i:Nat} (h:i<=8):128 ^ i<=72057594037927936:=Nat.le_trans (Nat.pow_le_pow_right (by omega) h) (by decide)
theorem AM (i acc b:Nat) (hi:i<=8) (ha:acc < 128 ^ i) (hb:b < 256) :
  Go.bits .or .i64 (acc:Int) (IntKind.i64.wrap ((IntKind.i64.wrap (Go.bits .and .u8 (b:Int) 127))*2 ^ (min (IntKind.i64.wrap (7*(i:Int))).toNat 64)))=((acc+b % 128*128 ^ i:Nat):Int)/\acc+b % 128*128 ^ i < 128 ^ (i+1):=by
 have hP:=pw8 hi
 have h7:(IntKind.i64.wrap (7*(i:Int))).toNat=7*i:=by rw [w64 (by omega) (by omega)]; omega
 have hm:min (7*i) 64=7*i:=by omega
 have hp:(2:Int) ^ (7*i)=((128 ^ i:Nat):Int):=by rw [<- p2]; simp
 rw [h7,hm,hp,De _ (by omega) (by omega)]
 have hlt:b % 128*128 ^ i<=127*128 ^ i:=Nat.mul_le_mul_right _ (by omega)
 have hP1:128 ^ (i+1)=128*128 ^ i:=by rw [Nat.pow_succ,Nat.mul_comm]
 have e1:IntKind.i64.wrap ((b:Int) % 128)=((b % 128:Nat):Int):=by rw [w64 (by omega) (by omega)]; omega
 have e2:((b % 128:Nat):Int)*((128 ^ i:Nat):Int)=((b % 128*128 ^ i:Nat):Int):=by simp
 rw [e1,e2]
 generalize hw:b % 128*128 ^ i=w at hlt
 rw [w64 (by omega) (by omega),or_comm]
 have hmod:(w:Int) % 2 ^ (7*i)=0:=by
  rw [hp,<- hw]
  rw [<- Int.natCast_emod,Nat.mul_mod_left]
  rfl
 have:=bits_join .i64 63 (by decide) (λn h0 h1=>w64 (by omega) (by omega)) (7*i) (w:Int) (acc:Int) (by omega) hmod (by omega) (by omega) (by rw [hp]; omega) (by omega)
 rw [this]
 constructor
 ·omega
 ·omega
def Fg (s:ByteArray):Int ⊕ (Nat×Nat)->Int×aK
 | .inl e=>(0,⟨noS,e⟩)
 | .inr (v,j)=>(v,⟨ik s j s.size,0⟩)
theorem oz (s:ByteArray) (e:Int) (h:e≠0):bR ⟨s,0⟩ e=some ⟨noS,e⟩:=by
 unfold bR
 have:(e != 0)=true:=by simpa using h
 simp [this,noS]
theorem sN (s:ByteArray) (e f:Int) (h:e≠0):bR ⟨s,e⟩ f=some ⟨s,e⟩:=by
 unfold bR
 have:(e == 0)=false:=by simpa using h
 simp [this]
theorem Fh (s:ByteArray) (hs:s.size<=1000000):bO ⟨s,0⟩=some (Fg s (rdp 9 0 0 (sbs s))):=by
 unfold bO
 have hl:(sbs s).length=s.size:=bD s
 refine Eq.trans ?_ (congrArg (λl=>some (Fg s (rdp 9 0 0 l))) (List.drop_zero (l:=sbs s)))
 have key: ∀ (k i acc:Nat),i+k=9->acc < 128 ^ i->i<=(sbs s).length->Option.bind (iter (σ:=Int×Int) (ρ:=Unit ⊕ (Int×aK)) (λa=>(bif (decide (a.1 < (cD ((⟨s,0⟩:aK).s.size:Int) 9))) then (Option.bind (uz (⟨s,0⟩:aK).s a.1) λb213=>(Option.bind (chk (shk (IntKind.i64.wrap (7*a.1)))) λ_=>(bif (decide (b213>=128)) then some (.inl ((IntKind.i64.wrap (a.1+1)),(Go.bits .or .i64 a.2 (IntKind.i64.wrap ((IntKind.i64.wrap (Go.bits .and .u8 b213 127))*2 ^ (min (IntKind.i64.wrap (7*a.1)).toNat 64)))))) else (Option.bind ((bif (decide (a.1 > 0)) then (bif (b213 == 0) then some true else some (decide ((Go.bits .or .i64 a.2 (IntKind.i64.wrap ((IntKind.i64.wrap (Go.bits .and .u8 b213 127))*2 ^ (min (IntKind.i64.wrap (7*a.1)).toNat 64)))) > 4611686018427387904))) else some (decide ((Go.bits .or .i64 a.2 (IntKind.i64.wrap ((IntKind.i64.wrap (Go.bits .and .u8 b213 127))*2 ^ (min (IntKind.i64.wrap (7*a.1)).toNat 64)))) > 4611686018427387904))):Option Bool) λc=>(bif c then (Option.bind (bR (⟨s,0⟩:aK) 1) λd=>(fD (some (0,d)))) else (Option.bind (chk (eL (IntKind.i64.wrap (a.1+1)) ((⟨s,0⟩:aK).s.size:Int) (⟨s,0⟩:aK).s.size)) λ_=>(fD (some ((Go.bits .or .i64 a.2 (IntKind.i64.wrap ((IntKind.i64.wrap (Go.bits .and .u8 b213 127))*2 ^ (min (IntKind.i64.wrap (7*a.1)).toNat 64)))),(aK.mk (ik (⟨s,0⟩:aK).s (IntKind.i64.wrap (a.1+1)) ((⟨s,0⟩:aK).s.size:Int)) (⟨s,0⟩:aK).e)))))))))) else some (.inr (.inl ())))) ((i:Int),(acc:Int))) (λ | .inl e176=>(Option.bind ((bif (decide (((⟨s,0⟩:aK).s.size:Int)>=9)) then (Option.bind (bR (⟨s,0⟩:aK) 1) λf=>some f) else some (⟨s,0⟩:aK)):Option aK) λg=>(Option.bind (bR g 2) λj=>some (0,j))) | .inr w=>some w)=some (Fg s (rdp k i acc ((sbs s).drop i))):=by
  intro k
  induction k with
  | zero =>
   intro i acc hi ha hil
   rw [bC (r:= .inl ())]
   ·rw [aA]
    dsimp only
    rw [decide_eq_true (by omega),cond_true,oz _ _ (by decide),aA,aA,sN _ _ _ (by decide),aA]
    rfl
   ·dsimp only
    rw [oM,decide_eq_false (by omega),cond_false]
  | succ k ih =>
   intro i acc hi ha hil
   by_cases hlt:i < (sbs s).length
   ·obtain ⟨hb0,hb1⟩:=q8 s _ (List.getElem_mem hlt)
    have hx:=q9 s i hlt
    rw [List.drop_eq_getElem_cons hlt]
    generalize (sbs s)[i]=b at hb0 hb1 hx
    obtain ⟨B,rfl⟩:=Int.eq_ofNat_of_zero_le hb0
    obtain ⟨hor,hbd⟩:=AM i acc B (by omega) ha (by omega)
    have hshk:chk (shk (IntKind.i64.wrap (7*(i:Int))))=some ():=by
     rw [w64 (by omega) (by omega)]
     exact kg (by omega)
    unfold rdp
    rw [Int.toNat_natCast]
    by_cases hbig:(B:Int)>=128
    ·rw [bY (s':=(((i+1:Nat):Int),((acc+B % 128*128 ^ i:Nat):Int)))]
     ·rw [ih (i+1) (acc+B % 128*128 ^ i) (by omega) hbd (by omega),if_neg (by omega)]
     ·dsimp only
      rw [oM,decide_eq_true (by omega),cond_true,hx,aA,hshk,aA,decide_eq_true hbig,cond_true,hor,w64 (by omega) (by omega)]
      rfl
    ·rw [if_pos (by omega)]
     have hc:((bif (decide ((i:Int) > 0)) then (bif ((B:Int) == 0) then some true else some (decide (((acc+B % 128*128 ^ i:Nat):Int) > 4611686018427387904))) else some (decide (((acc+B % 128*128 ^ i:Nat):Int) > 4611686018427387904))):Option Bool)=some (decide ((i > 0/\(B:Int)=0)\/acc+B % 128*128 ^ i > most)):=by
      have hd: ∀ v:Nat,decide ((v:Int) > 4611686018427387904)=decide (v > most):=λv=>by
       unfold most
       congr 1
       apply propext
       omega
      rw [hd]
      by_cases c1:i > 0
      ·have c1':(i:Int) > 0:=by omega
       rw [decide_eq_true c1',cond_true]
       by_cases c2:(B:Int)=0
       ·have:((B:Int) == 0)=true:=by simpa using c2
        rw [this,cond_true,decide_eq_true (.inl ⟨c1,c2⟩)]
       ·have:((B:Int) == 0)=false:=by simpa using c2
        rw [this,cond_false]
        congr 1
        by_cases c3:acc+B % 128*128 ^ i > most
        ·rw [decide_eq_true c3,decide_eq_true (.inr c3)]
        ·rw [decide_eq_false c3,decide_eq_false (by rintro (h | h); exact c2 h.2; exact c3 h)]
      ·rw [decide_eq_false (by omega),cond_false]
       congr 1
       by_cases c3:acc+B % 128*128 ^ i > most
       ·rw [decide_eq_true c3,decide_eq_true (.inr c3)]
       ·rw [decide_eq_false c3,decide_eq_false (by rintro (h | h); exact c1 h.1; exact c3 h)]
     by_cases hf:(i > 0/\(B:Int)=0)\/acc+B % 128*128 ^ i > most
     ·rw [if_pos hf,bC (r:= .inr (0,⟨noS,1⟩))]
      ·rfl
      ·dsimp only
       rw [oM,decide_eq_true (by omega),cond_true,hx,aA,hshk,aA,decide_eq_false hbig,cond_false,hor,hc,aA,decide_eq_true hf,cond_true,oz _ _ (by decide),aA]
       rfl
     ·rw [if_neg hf,bC (r:= .inr (((acc+B % 128*128 ^ i:Nat):Int),⟨ik s ((i+1:Nat):Int) s.size,0⟩))]
      ·rfl
      ·dsimp only
       rw [oM,decide_eq_true (by omega),cond_true,hx,aA,hshk,aA,decide_eq_false hbig,cond_false,hor,hc,aA,decide_eq_false hf,cond_false,w64 (by omega) (by omega),cV (by omega) (by omega) (by omega),aA]
       rfl
   ·have hd:(sbs s).drop i=[]:=List.drop_eq_nil_of_le (by omega)
    rw [hd,bC (r:= .inl ())]
    ·rw [aA]
     dsimp only
     rw [decide_eq_false (by omega),cond_false,aA,oz _ _ (by decide),aA]
     rfl
    ·dsimp only
     rw [oM,decide_eq_false (by omega),cond_false]
 exact key 9 0 0 (by omega) (by omega) (by omega)
def GV (s:ByteArray):Int ⊕ (Nat×Nat)->aX×Int
 | .inl e=>(⟨noS,e⟩,0)
 | .inr (v,j)=>(⟨ik s j s.size,0⟩,v)
theorem Df (s:ByteArray) (hs:s.size<=1000000):bJ ⟨s,0⟩=some (GV s (rdp 9 0 0 (sbs s))):=by
 unfold bJ
 have hl:(sbs s).length=s.size:=bD s
 have e0:((0:Int) != 0)=false:=rfl
 dsimp only
 rw [e0,cond_false]
 refine Eq.trans ?_ (congrArg (λl=>some (GV s (rdp 9 0 0 l))) (List.drop_zero (l:=sbs s)))
 have key: ∀ (k i acc:Nat) (f:Int×Int×Int->Option ((Int×Int×Int) ⊕ (Unit ⊕ (aX×Int)))),f=(λ(s258:Int×Int×Int)=>(bif (decide (s258.2.2 < 9)) then (Option.bind ((bif (s258.2.2 == (s.size:Int)) then (ot (fD (some ((aX.mk (ByteArray.mk #[]) 2),0)))) else (Option.bind (uz s s258.2.2) λb475=>(bif (decide ((IntKind.i64.wrap b475) < 128)) then (Option.bind ((bif (decide (s258.2.2 > 0)) then (bif ((IntKind.i64.wrap b475) == 0) then some true else some (decide ((IntKind.i64.wrap (s258.1+(IntKind.i64.wrap (((IntKind.i64.wrap b475).tmod 128)*s258.2.1)))) > 4611686018427387904))) else some (decide ((IntKind.i64.wrap (s258.1+(IntKind.i64.wrap (((IntKind.i64.wrap b475).tmod 128)*s258.2.1)))) > 4611686018427387904))):Option Bool) λa=>(bif a then (ot (fD (some ((aX.mk (ByteArray.mk #[]) 1),0)))) else (Option.bind (chk (eL (IntKind.i64.wrap (s258.2.2+1)) (s.size:Int) s.size)) λ_=>(ot (fD (some ((aX.mk (ik s (IntKind.i64.wrap (s258.2.2+1)) (s.size:Int)) 0),(IntKind.i64.wrap (s258.1+(IntKind.i64.wrap (((IntKind.i64.wrap b475).tmod 128)*s258.2.1))))))))))) else (bif (decide (s258.2.2 < 8)) then some (.inl ((IntKind.i64.wrap (s258.1+(IntKind.i64.wrap (((IntKind.i64.wrap b475).tmod 128)*s258.2.1)))),(IntKind.i64.wrap (s258.2.1*128)))) else some (.inl ((IntKind.i64.wrap (s258.1+(IntKind.i64.wrap (((IntKind.i64.wrap b475).tmod 128)*s258.2.1)))),s258.2.1)))))):Option ((Int×Int) ⊕ ((Int×Int×Int) ⊕ (Unit ⊕ (aX×Int))))) λ | .inl e465=>some (.inl (e465.1,e465.2,(IntKind.i64.wrap (s258.2.2+1)))) | .inr w=>some w) else some (.inr (.inl ()))))->i+k=9->acc < 128 ^ i->i<=(sbs s).length -> ∀ M:Nat,(i<=8->M=128 ^ i)->Option.bind (iter f ((acc:Int),(M:Int),(i:Int))) (λ | .inl e381=>some ((aX.mk (ByteArray.mk #[]) 1),0) | .inr w=>some w)=some (GV s (rdp k i acc ((sbs s).drop i))):=by
  intro k
  induction k with
  | zero =>
   intro i acc f hf hi ha hil M hM
   rw [bC (r:= .inl ())]
   ·rfl
   ·subst hf
    dsimp only
    rw [decide_eq_false (by omega),cond_false]
  | succ k ih =>
   intro i acc f hf hi ha hil M hM
   by_cases hlt:i < (sbs s).length
   ·obtain ⟨hb0,hb1⟩:=q8 s _ (List.getElem_mem hlt)
    have hx:=q9 s i hlt
    rw [List.drop_eq_getElem_cons hlt]
    generalize (sbs s)[i]=b at hb0 hb1 hx
    obtain ⟨B,rfl⟩:=Int.eq_ofNat_of_zero_le hb0
    obtain ⟨_,hbd⟩:=AM i acc B (by omega) ha (by omega)
    have hP:=pw8 (i:=i) (by omega)
    obtain rfl:=hM (by omega)
    have hlt7:B % 128*128 ^ i<=127*128 ^ i:=Nat.mul_le_mul_right _ (by omega)
    have hw:IntKind.i64.wrap (B:Int)=(B:Int):=w64 (by omega) (by omega)
    have hm:(B:Int).tmod 128=((B % 128:Nat):Int):=by rw [Int.tmod_eq_emod_of_nonneg (by omega)]; omega
    have hv:IntKind.i64.wrap ((acc:Int)+IntKind.i64.wrap (((B % 128:Nat):Int)*((128 ^ i:Nat):Int)))=((acc+B % 128*128 ^ i:Nat):Int):=by
     have e2:((B % 128:Nat):Int)*((128 ^ i:Nat):Int)=((B % 128*128 ^ i:Nat):Int):=by simp
     rw [e2]
     generalize B % 128*128 ^ i=w at hlt7
     rw [w64 (x:=(w:Int)) (by omega) (by omega),w64 (by omega) (by omega)]
     omega
    have hne:((i:Int) == (s.size:Int))=false:=by simp; omega
    unfold rdp
    rw [Int.toNat_natCast]
    by_cases hbig:(B:Int) < 128
    ·rw [if_pos hbig]
     have hc:((bif (decide ((i:Int) > 0)) then (bif ((B:Int) == 0) then some true else some (decide (((acc+B % 128*128 ^ i:Nat):Int) > 4611686018427387904))) else some (decide (((acc+B % 128*128 ^ i:Nat):Int) > 4611686018427387904))):Option Bool)=some (decide ((i > 0/\(B:Int)=0)\/acc+B % 128*128 ^ i > most)):=by
      have hd: ∀ v:Nat,decide ((v:Int) > 4611686018427387904)=decide (v > most):=λv=>by
       unfold most
       congr 1
       apply propext
       omega
      rw [hd]
      by_cases c1:i > 0
      ·have c1':(i:Int) > 0:=by omega
       rw [decide_eq_true c1',cond_true]
       by_cases c2:(B:Int)=0
       ·have:((B:Int) == 0)=true:=by simpa using c2
        rw [this,cond_true,decide_eq_true (.inl ⟨c1,c2⟩)]
       ·have:((B:Int) == 0)=false:=by simpa using c2
        rw [this,cond_false]
        congr 1
        by_cases c3:acc+B % 128*128 ^ i > most
        ·rw [decide_eq_true c3,decide_eq_true (.inr c3)]
        ·rw [decide_eq_false c3,decide_eq_false (by rintro (h | h); exact c2 h.2; exact c3 h)]
      ·rw [decide_eq_false (by omega),cond_false]
       congr 1
       by_cases c3:acc+B % 128*128 ^ i > most
       ·rw [decide_eq_true c3,decide_eq_true (.inr c3)]
       ·rw [decide_eq_false c3,decide_eq_false (by rintro (h | h); exact c1 h.1; exact c3 h)]
     by_cases hfm:(i > 0/\(B:Int)=0)\/acc+B % 128*128 ^ i > most
     ·rw [if_pos hfm,bC (r:= .inr (⟨noS,1⟩,0))]
      ·rfl
      ·subst hf
       dsimp only
       rw [decide_eq_true (by omega),cond_true,hne,cond_false,hx,aA,hw,decide_eq_true hbig,cond_true,hm,hv,hc,aA,decide_eq_true hfm,cond_true]
       rfl
     ·rw [if_neg hfm,bC (r:= .inr (⟨ik s ((i+1:Nat):Int) s.size,0⟩,((acc+B % 128*128 ^ i:Nat):Int)))]
      ·rfl
      ·subst hf
       dsimp only
       rw [decide_eq_true (by omega),cond_true,hne,cond_false,hx,aA,hw,decide_eq_true hbig,cond_true,hm,hv,hc,aA,decide_eq_false hfm,cond_false,w64 (x:=(i:Int)+1) (by omega) (by omega),cV (by omega) (by omega) (by omega),aA]
       rfl
    ·rw [if_neg hbig]
     by_cases h8:i < 8
     ·rw [bY (s':=(((acc+B % 128*128 ^ i:Nat):Int),((128 ^ (i+1):Nat):Int),((i+1:Nat):Int)))]
      ·exact ih (i+1) _ f hf (by omega) hbd (by omega) _ (λ_=>rfl)
      ·subst hf
       dsimp only
       have hP1:(128:Nat) ^ (i+1)=128 ^ i*128:=Nat.pow_succ ..
       have hP7:128 ^ i<=562949953421312:=Nat.le_trans (Nat.pow_le_pow_right (by omega) (by omega:i<=7)) (by decide)
       have hmm:IntKind.i64.wrap (((128 ^ i:Nat):Int)*128)=((128 ^ (i+1):Nat):Int):=by
        rw [hP1,w64 (by omega) (by omega)]
        omega
       rw [decide_eq_true (by omega),cond_true,hne,cond_false,hx,aA,hw,decide_eq_false hbig,cond_false,hm,hv,decide_eq_true (by omega),cond_true,aA]
       dsimp only
       rw [hmm,w64 (x:=(i:Int)+1) (by omega) (by omega)]
       rfl
     ·rw [bY (s':=(((acc+B % 128*128 ^ i:Nat):Int),((128 ^ i:Nat):Int),((i+1:Nat):Int)))]
      ·exact ih (i+1) _ f hf (by omega) hbd (by omega) _ (λh=>by omega)
      ·subst hf
       dsimp only
       rw [decide_eq_true (by omega),cond_true,hne,cond_false,hx,aA,hw,decide_eq_false hbig,cond_false,hm,hv,decide_eq_false (by omega),cond_false,aA]
       dsimp only
       rw [w64 (x:=(i:Int)+1) (by omega) (by omega)]
       rfl
   ·have hd:(sbs s).drop i=[]:=List.drop_eq_nil_of_le (by omega)
    rw [hd,bC (r:= .inr (⟨noS,2⟩,0))]
    ·rfl
    ·subst hf
     dsimp only
     have hne:((i:Int) == (s.size:Int))=true:=by simp; omega
     rw [decide_eq_true (by omega),cond_true,hne,cond_true]
     rfl
 exact key 9 0 0 _ rfl (by omega) (by omega) (by omega) 1 (λ_=>rfl)
theorem np (a b:ByteArray):(a.toList == b.toList)=decide (a=b):=by
 rw [ByteArray.toList_eq,ByteArray.toList_eq]
 by_cases h:a=b
 ·subst h
  rw [decide_eq_true rfl,beq_self_eq_true]
 ·rw [decide_eq_false h]
  have: ¬ a.data.toList=b.data.toList:=λe=>h (ByteArray.ext (Array.ext' e))
  simpa using this
theorem ji (s:ByteArray) (lo hi:Nat):sbs (ik s lo hi)=((sbs s).take hi).drop lo:=by
 unfold sbs ik
 rw [ByteArray.data_extract,Int.toNat_natCast,Int.toNat_natCast]
 rw [Array.toList_extract]
 rw [List.extract_eq_take_drop,List.map_take,List.map_drop,List.drop_take]
theorem po (s:ByteArray):dL (sbs s)=s:=by
 rw [nQ]
 unfold sbs
 rw [List.map_map]
 have:((λn:Int=>UInt8.ofNat n.toNat) ∘ λb:UInt8=>(b.toNat:Int))=id:=by
  funext b
  simp
 rw [this,List.map_id]
theorem lL (l:List Int) (h: ∀ b∈l,0<=b/\b < 256):sbs (dL l)=l:=by
 rw [nQ]
 unfold sbs
 simp only [List.map_map]
 induction l with
 | nil=>rfl
 | cons a l ih =>
  have ha:=h a (List.mem_cons_self ..)
  rw [List.map_cons,ih λb hb=>h b (List.mem_cons_of_mem _ hb)]
  congr 1
  show ((UInt8.ofNat a.toNat).toNat:Int)=a
  rw [UInt8.toNat_ofNat']
  omega
theorem pT {a b:ByteArray} (h:sbs a=sbs b):a=b:=by rw [<- po a,h,po]
theorem zM (a b:ByteArray):sbs (a++b)=sbs a++sbs b:=by
 unfold sbs
 rw [ByteArray.data_append]
 simp
def VI (i:aK):Prop:=i.s.size<=1000000/\(i.e=0\/i.s=noS)
def asR (i:aK):aX:=⟨i.s,i.e⟩
def rdS (i:aK):Int×aK:=if i.e=0 then Fg i.s (rdp 9 0 0 (sbs i.s)) else (0,i)
theorem jV (i:aK) (h:VI i):bO i=some (rdS i):=by
 obtain ⟨s,e⟩:=i
 obtain ⟨h1,h2⟩:=h
 unfold rdS
 by_cases he:e=0
 ·subst he
  rw [if_pos rfl]
  exact Fh s h1
 ·rw [if_neg he]
  obtain rfl:s=noS:=h2.resolve_left he
  unfold bO
  rw [bC (r:= .inl ())]
  ·rw [aA]
   have hz:(noS.size:Int)=0:=rfl
   dsimp only
   rw [hz,decide_eq_false (by omega),cond_false,aA,sN _ _ _ he,aA]
  ·dsimp only
   have hz:(noS.size:Int)=0:=rfl
   rw [oM,hz,decide_eq_false (by omega),cond_false]
theorem gR (i:aK) (h:VI i):bJ (asR i)=some (asR (rdS i).2,(rdS i).1):=by
 obtain ⟨s,e⟩:=i
 obtain ⟨h1,h2⟩:=h
 unfold rdS
 by_cases he:e=0
 ·subst he
  rw [if_pos rfl]
  have:=Df s h1
  refine this.trans ?_
  cases rdp 9 0 0 (sbs s) <;> rfl
 ·rw [if_neg he]
  unfold bJ asR
  have:(e != 0)=true:=by simpa using he
  dsimp only
  rw [this,cond_true]
theorem Dg: ∀ (k i acc:Nat) (l:List Int) (v j:Nat),(∀ b∈l,0<=b/\b < 256)->rdp k i acc l = .inr (v,j) -> ∃ w,v=acc+w*128 ^ i/\v<=most/\i < j/\j<=i+l.length/\ij w=l.take (j - i)/\(i > 0->w > 0):=by
 intro k
 induction k with
 | zero=>intro i acc l v j hb h; cases h
 | succ k ih =>
  intro i acc l v j hb h
  cases l with
  | nil=>cases h
  | cons b r =>
   unfold rdp at h
   have hb0:=hb b (List.mem_cons_self ..)
   obtain ⟨B,rfl⟩:=Int.eq_ofNat_of_zero_le hb0.1
   rw [Int.toNat_natCast] at h
   by_cases hbig:(B:Int) < 128
   ·rw [if_pos hbig] at h
    by_cases hf:(i > 0/\(B:Int)=0)\/acc+B % 128*128 ^ i > most
    ·rw [if_pos hf] at h
     cases h
    ·rw [if_neg hf] at h
     injection h with h
     injection h with hv hj
     have hm:B % 128=B:=Nat.mod_eq_of_lt (by omega)
     rw [hm] at hv hf
     refine ⟨B,hv.symm,?_,by omega,by simp; omega,?_,?_⟩
     ·rw [<- hv]
      exact Nat.le_of_not_lt λhh=>hf (.inr hh)
     ·rw [eW (by omega),<- hj]
      have:i+1 - i=1:=by omega
      rw [this]
      rfl
     ·intro hi
      exact Nat.pos_of_ne_zero λh0=>hf (.inl ⟨hi,by omega⟩)
   ·rw [if_neg hbig] at h
    obtain ⟨w,h1,h2,h3,h4,h5,h6⟩:=ih (i+1) _ r v j (λc hc=>hb c (List.mem_cons_of_mem _ hc)) h
    have hw:=h6 (by omega)
    refine ⟨B % 128+128*w,?_,h2,by omega,by simp; omega,?_,λ_=>by omega⟩
    ·rw [h1,Nat.pow_succ,Nat.add_mul,Nat.add_assoc]
     congr 2
     rw [Nat.mul_comm 128 w,Nat.mul_assoc,Nat.mul_comm 128]
    ·rw [mL (by omega)]
     have e1:(B % 128+128*w) / 128=w:=by omega
     have e2:128+(B % 128+128*w) % 128=B:=by omega
     have e3:j - i=(j - (i+1))+1:=by omega
     rw [e1,e2,h5,e3,List.take_succ_cons]
theorem Fi: ∀ (k i acc w:Nat) (R:List Int),w < 128 ^ (k+1)->k+1+i<=9->(i > 0->w > 0)->acc+w*128 ^ i<=most->rdp (k+1) i acc (ij w++R) = .inr (acc+w*128 ^ i,i+(ij w).length):=by
 intro k
 induction k with
 | zero =>
  intro i acc w R hw hk hi hm
  have hs:w < 128:=by simpa using hw
  rw [eW hs]
  show rdp (0+1) i acc ((w:Int)::R)=_
  unfold rdp
  have hmod:w % 128=w:=Nat.mod_eq_of_lt hs
  rw [if_pos (by omega),Int.toNat_natCast,hmod,if_neg]
  ·simp
  ·rintro (⟨h1,h2⟩ | h)
   ·have:=hi h1
    omega
   ·omega
 | succ k ih =>
  intro i acc w R hw hk hi hm
  by_cases hs:w < 128
  ·rw [eW hs]
   show rdp (k+1+1) i acc ((w:Int)::R)=_
   unfold rdp
   have hmod:w % 128=w:=Nat.mod_eq_of_lt hs
   rw [if_pos (by omega),Int.toNat_natCast,hmod,if_neg]
   ·simp
   ·rintro (⟨h1,h2⟩ | h)
    ·have:=hi h1
     omega
    ·omega
  ·rw [mL hs]
   have hq:w / 128 < 128 ^ (k+1):=by
    rw [Nat.pow_succ] at hw
    exact Nat.div_lt_of_lt_mul (by rw [Nat.mul_comm]; exact hw)
   have he:(128+w % 128) % 128=w % 128:=by omega
   have hsum:acc+w % 128*128 ^ i+w / 128*128 ^ (i+1)=acc+w*128 ^ i:=by
    rw [Nat.pow_succ,Nat.add_assoc]
    congr 1
    rw [Nat.mul_comm (128 ^ i) 128,<- Nat.mul_assoc,<- Nat.add_mul]
    congr 1
    omega
   show rdp (k+1+1) i acc (((128+w % 128:Nat):Int)::(ij (w / 128)++R))=_
   rw [rdp,if_neg (by omega),Int.toNat_natCast,he,ih (i+1) _ (w / 128) R hq (by omega) (λ_=>by omega) (by rw [hsum]; exact hm),hsum]
   simp only [List.length_cons]
   congr 2
   omega
theorem fH {i:aK} (h:VI i):VI (rdS i).2:=by
 obtain ⟨s,e⟩:=i
 obtain ⟨h1,h2⟩:=h
 unfold rdS
 by_cases he:e=0
 ·rw [if_pos he]
  cases hr:rdp 9 0 0 (sbs (⟨s,e⟩:aK).s) with
  | inl f=>exact ⟨by show noS.size<=1000000; decide,.inr rfl⟩
  | inr p =>
   refine ⟨?_,.inl rfl⟩
   show (ik s p.2 s.size).size<=1000000
   rw [<- bD,ji,List.length_drop,List.length_take,bD]
   simp only at h1
   omega
 ·rw [if_neg he]
  exact ⟨h1,h2⟩
theorem qF {i:aK} (h:(rdS i).2.e≠0):(rdS i).1=0:=by
 unfold rdS at *
 split at h
 ·rename_i he
  rw [if_pos he]
  cases hr:rdp 9 0 0 (sbs i.s) with
  | inl f=>rfl
  | inr p =>
   rw [hr] at h
   exact absurd rfl h
 ·rename_i he
  rw [if_neg he]
theorem v9 {i:aK} (h:(rdS i).2.e=0) (hV:VI i):i.e=0 /\ ∃ w:Nat,(rdS i).1=w/\w<=most/\sbs i.s=ij w++sbs (rdS i).2.s:=by
 unfold rdS at *
 by_cases he:i.e=0
 ·rw [if_pos he] at h ⊢
  refine ⟨he,?_⟩
  cases hr:rdp 9 0 0 (sbs i.s) with
  | inl f =>
   rw [hr] at h
   -- an error is never nought
   exfalso
   have key: ∀ (k i acc:Nat) (l:List Int) (e:Int),rdp k i acc l = .inl e->e≠0:=by
    intro k
    induction k with
    | zero=>intro i acc l e hh; injection hh with hh; omega
    | succ k ih =>
     intro i acc l e hh
     cases l with
     | nil=>injection hh with hh; omega
     | cons b r =>
      unfold rdp at hh
      split at hh
      ·split at hh
       ·injection hh with hh
        omega
       ·cases hh
      ·exact ih _ _ _ _ hh
   exact key _ _ _ _ _ hr h
  | inr p =>
   obtain ⟨v,j⟩:=p
   obtain ⟨w,h1,h2,h3,h4,h5,h6⟩:=Dg 9 0 0 (sbs i.s) v j (q8 i.s) hr
   refine ⟨v,rfl,h2,?_⟩
   have hvw:v=w:=by rw [h1]; simp
   show sbs i.s=ij v++sbs (ik i.s j i.s.size)
   rw [hvw,h5,ji,Nat.sub_zero]
   have:(sbs i.s).take i.s.size=sbs i.s:=List.take_of_length_le (by rw [bD]; exact Nat.le_refl _)
   rw [this,List.take_append_drop]
 ·rw [if_neg he] at h
  exact absurd h he
theorem kT {i:aK} (hV:VI i):0<=(rdS i).1/\(rdS i).1<=4611686018427387904:=by
 by_cases h:(rdS i).2.e=0
 ·obtain ⟨_,w,h1,h2,_⟩:=v9 h hV
  rw [h1]
  unfold most at h2
  omega
 ·rw [qF h]
  omega
theorem GW (s:ByteArray) (w:Nat) (R:List Int) (hw:w<=most) (hs:sbs s=ij w++R):rdS ⟨s,0⟩=((w:Int),⟨dL R,0⟩):=by
 unfold rdS
 rw [if_pos rfl]
 have hl:=q7 8 w (by unfold most at hw; omega)
 have h:=Fi 8 0 0 w R (by unfold most at hw; omega) (by omega) (λh=>by omega) (by simpa using hw)
 dsimp only
 rw [hs,h]
 show (((0+w*128 ^ 0:Nat):Int),(⟨ik s ((0+(ij w).length:Nat):Int) s.size,0⟩:aK))=_
 have e1:0+w*128 ^ 0=w:=by simp
 have e2:ik s ((0+(ij w).length:Nat):Int) s.size=dL R:=by
  rw [<- po (ik s ((0+(ij w).length:Nat):Int) s.size),ji]
  have:(sbs s).take s.size=sbs s:=List.take_of_length_le (by rw [bD]; exact Nat.le_refl _)
  rw [this,hs,Nat.zero_add,List.drop_left]
 rw [e1,e2]
theorem GX (r q:aY) (h:r.cells.length<=1000000) (hr:okR r.cells) (hq:okR q.cells):k7 r (told q)=some (decide (r=q)):=by
 by_cases he:r=q
 ·subst he
  rw [HK r h hr,decide_eq_true rfl]
 rw [decide_eq_false he]
 unfold k7 told
 simp only [fF]
 by_cases h1:r.cells.length=q.cells.length
 ·by_cases h2:r.wrapped=q.wrapped
  ·have e6:((bif ((r.cells.length:Int) != (q.cells.length:Int)) then some true else some (!(r.wrapped == q.wrapped))):Option Bool)=some false:=by simp [h1,h2]
   rw [e6,aA,cond_false]
   refine pj (λi:Int=> ∃ n:Nat,i=n/\n<=r.cells.length/\r.cells.take n=q.cells.take n) (λi=>(r.cells.length - i).toNat) (λv=>v = .inr false) ⟨0,rfl,by omega,rfl⟩ ?_ (λv hv=>by rw [hv])
   rintro i ⟨n,rfl,hn,ht⟩
   by_cases hlt:n < r.cells.length
   ·have hlq:n < q.cells.length:=by omega
    have hi2:idx (q.cells.map tc) (n:Int)=some (tc q.cells[n]):=by rw [bG _ _ (by simpa using hlq),List.getElem_map]
    have k1:=hr _ (List.getElem_mem hlt)
    have k2:=hq _ (List.getElem_mem hlq)
    have hcmp:(Option.bind (some (tc q.cells[n])) λe=>(bif ((IntKind.i64.wrap r.cells[n].rune) != e.rune) then some true else (Option.bind (some (tc q.cells[n])) λf=>(bif (r.cells[n].bU != f.bU) then some true else (Option.bind (some (tc q.cells[n])) λg=>some (r.cells[n].part != g.part))))))=some (decide (r.cells[n]≠q.cells[n])):=by
     simp only [aA,tc,w32 k1]
     generalize r.cells[n]=a
     generalize q.cells[n]=b
     obtain ⟨a1,a2,a3⟩:=a
     obtain ⟨b1,b2,b3⟩:=b
     by_cases g1:a1=b1 <;> by_cases g2:a2=b2 <;> by_cases g3:a3=b3 <;> simp [g1,g2,g3]
     all_goals first | (have:(a1 != b1)=true:=by simpa using g1); simp [this] | (have:(a2 != b2)=true:=by simpa using g2); simp [this] | skip
    by_cases hc:r.cells[n]=q.cells[n]
    ·refine .inl ⟨((n+1:Nat):Int),?_,⟨n+1,rfl,hlt,?_⟩,by (try dsimp only); omega⟩
     ·rw [decide_eq_true (by omega),cond_true,bG _ _ hlt,aA,hi2,hcmp,aA,decide_eq_false (by simpa using hc),cond_false,w64 (by omega) (by omega)]
      rfl
     ·rw [List.take_succ_eq_append_getElem hlt,List.take_succ_eq_append_getElem hlq,ht,hc]
    ·refine .inr ⟨.inr false,?_,rfl⟩
     rw [decide_eq_true (by omega),cond_true,bG _ _ hlt,aA,hi2,hcmp,aA,decide_eq_true (by simpa using hc),cond_true]
     rfl
   ·exfalso
    have hn2:n=r.cells.length:=by omega
    subst hn2
    rw [List.take_length,h1,List.take_length] at ht
    apply he
    obtain ⟨a,b⟩:=r
    obtain ⟨c,d⟩:=q
    simp_all
  ·have e6:((bif ((r.cells.length:Int) != (q.cells.length:Int)) then some true else some (!(r.wrapped == q.wrapped))):Option Bool)=some true:=by simp [h1,h2]
   rw [e6,aA,cond_true]
 ·have e7:((r.cells.length:Int) != (q.cells.length:Int))=true:=by simp; omega
  rw [e7,cond_true,aA,cond_true]
def jW:aK:=⟨noS,1⟩
theorem nE:VI jW:=⟨by show noS.size<=1000000; decide,.inr rfl⟩
theorem re {i:aK} (h:VI i):bR i 1=some (if i.e=0 then jW else i):=by
 obtain ⟨s,e⟩:=i
 by_cases he:e=0
 ·subst he
  rw [if_pos rfl]
  exact oz s 1 (by decide)
 ·rw [if_neg he]
  exact sN s e 1 he
def cC (i:aK) (m:Int):Int×aK:=if (rdS i).1 > m then (0,jW) else rdS i
theorem fR {i:aK} (m:Int) (h:VI i):VI (cC i m).2:=by
 unfold cC
 split
 ·exact nE
 ·exact fH h
theorem gS {i:aK} {m:Int} (h:VI i) (hm:0<=m):0<=(cC i m).1/\(cC i m).1<=m:=by
 unfold cC
 split
 ·exact ⟨Int.le_refl _,hm⟩
 ·have:=kT h
  omega
theorem kI {i:aK} {m:Int} (h:(cC i m).2.e=0) (hV:VI i):i.e=0 /\ ∃ w:Nat,(cC i m).1=w/\(w:Int)<=m/\w<=most/\sbs i.s=ij w++sbs (cC i m).2.s:=by
 unfold cC at *
 split at h
 ·exact absurd h (by decide)
 ·rename_i hh
  rw [if_neg hh]
  obtain ⟨h1,w,h2,h3,h4⟩:=v9 h hV
  exact ⟨h1,w,h2,by omega,h3,h4⟩
theorem pq {i:aK} (hV:VI i) {m:Int} (hm:0<=m) (h:(rdS i).1 > m):(rdS i).2.e=0:=by
 by_cases he:(rdS i).2.e=0
 ·exact he
 ·have:=qF he
  omega
theorem oS {i:aK} (h:VI i) {m:Int} (hm:0<=m):cP (asR i) m=some (asR (cC i m).2,(cC i m).1):=by
 unfold cP cC
 rw [gR i h,aA]
 dsimp only
 by_cases hb:(rdS i).1 > m
 ·have he:=pq h hm hb
  have e1:((asR (rdS i).2).e == 0)=true:=by simpa [asR] using he
  rw [e1,cond_true,decide_eq_true hb,aA,cond_true,if_pos hb]
  rfl
 ·rw [if_neg hb,decide_eq_false hb]
  cases ((asR (rdS i).2).e == 0) <;> rfl
theorem size_eq {i:aK} (h:VI i):tu i=some (cC i 1000):=by
 unfold tu cC
 rw [jV i h,aA]
 by_cases hb:(rdS i).1 > 1000
 ·have he:=pq h (by omega) hb
  rw [decide_eq_true hb,cond_true,re (fH h),if_pos he,aA,if_pos hb]
 ·rw [decide_eq_false hb,cond_false,if_neg hb]
theorem wQ {i:aK} (h:VI i) {m:Int} (hm:0<=m):fU i m=some (cC i m):=by
 unfold fU cC
 rw [jV i h,aA]
 by_cases hb:(rdS i).1 > m
 ·have he:=pq h hm hb
  rw [decide_eq_true hb,cond_true,re (fH h),if_pos he,aA,if_pos hb]
 ·rw [decide_eq_false hb,cond_false,if_neg hb]
def n6 (i:aK) (left:Int):aK:=if (cC i left).2.e=0/\(cC i left).1=0 then jW else (cC i left).2
theorem nR {i:aK} (left:Int) (h:VI i):VI (n6 i left):=by
 unfold n6
 split
 ·exact nE
 ·exact fR left h
def pw (i:aK) (left:Int):Int×aK:=cC (n6 i left) 1114111
def qg (i:aK) (left:Int):Int×aK:=cC (pw i left).2 647
def kE (i:aK) (left:Int):Int×aK:=cC (qg i left).2 3
theorem oT {i:aK} (left:Int) (h:VI i):VI (pw i left).2:=fR _ (nR left h)
theorem oU {i:aK} (left:Int) (h:VI i):VI (qg i left).2:=fR _ (oT left h)
theorem mm {i:aK} (left:Int) (h:VI i):VI (kE i left).2:=fR _ (oU left h)
def gZ (i:aK) (left:Int):aP:=⟨(pw i left).1,(qg i left).1,(kE i left).1⟩
theorem uD (i:aK) (h:VI i) (m:Int) (hm:0<=m): ∃ v:Int,bO i=some (v,(rdS i).2)/\(if v > m then (if (rdS i).2.e=0 then jW else (rdS i).2) else (rdS i).2)=(cC i m).2/\((cC i m).2.e=0->v=(cC i m).1):=by
 refine ⟨(rdS i).1,jV i h,?_,?_⟩
 ·unfold cC
  by_cases hb:(rdS i).1 > m
  ·rw [if_pos hb,if_pos hb,if_pos (pq h hm hb)]
  ·rw [if_neg hb,if_neg hb]
 ·unfold cC
  by_cases hb:(rdS i).1 > m
  ·rw [if_pos hb]
   intro hh
   exact absurd hh (by decide)
  ·rw [if_neg hb]
   exact λ_=>rfl
theorem rh {i:aK} (h:i.e≠0) (m:Int) (hm:0<=m):(cC i m).2=i:=by
 unfold cC rdS
 rw [if_neg h]
 dsimp only
 rw [if_neg (by omega)]
theorem run_eq (i:aK) (left:Int) (h:VI i) (hl:0<=left):l7 i left=some (if (kE i left).2.e=0 then ((cC i left).1,gZ i left,true,(kE i left).2) else (0,⟨0,0,0⟩,false,(kE i left).2)):=by
 unfold l7
 rw [jV i h,aA]
 have hor:((bif ((rdS i).1 == 0) then some true else some (decide ((rdS i).1 > left))):Option Bool)=some (decide ((rdS i).1=0\/(rdS i).1 > left)):=by
  by_cases h0:(rdS i).1=0
  ·have:((rdS i).1 == 0)=true:=by simpa using h0
   rw [this,cond_true,decide_eq_true (.inl h0)]
  ·have:((rdS i).1 == 0)=false:=by simpa using h0
   rw [this,cond_false]
   by_cases h1:(rdS i).1 > left
   ·rw [decide_eq_true h1,decide_eq_true (.inr h1)]
   ·rw [decide_eq_false h1,decide_eq_false (by omega)]
 have hst:((bif decide ((rdS i).1=0\/(rdS i).1 > left) then (Option.bind (bR (rdS i).2 1) λb=>some b) else some (rdS i).2):Option aK)=some (n6 i left):=by
  unfold n6 cC
  by_cases hb:(rdS i).1 > left
  ·rw [decide_eq_true (.inr hb),cond_true,re (fH h),if_pos (pq h hl hb),aA,if_pos hb]
   rfl
  ·rw [if_neg hb]
   by_cases h0:(rdS i).1=0
   ·rw [decide_eq_true (.inl h0),cond_true,re (fH h),aA]
    by_cases he:(rdS i).2.e=0
    ·rw [if_pos he,if_pos ⟨he,h0⟩]
    ·rw [if_neg he,if_neg (λhh=>he hh.1)]
   ·rw [decide_eq_false (by omega),cond_false,if_neg (λhh=>h0 hh.2)]
 rw [hor,aA,hst,aA]
 obtain ⟨v1,n1,f1,g1⟩:=uD (n6 i left) (nR left h) 1114111 (by omega)
 obtain ⟨v2,n2,f2,g2⟩:=uD (pw i left).2 (oT left h) 647 (by omega)
 obtain ⟨v3,n3,f3,g3⟩:=uD (qg i left).2 (oU left h) 3 (by omega)
 have fl: ∀ (j:aK) (hj:VI j) (v m:Int) (a:kV) (out:aK),(if v > m then (if j.e=0 then jW else j) else j)=out->((bif (decide (v > m)) then (Option.bind (bR j 1) λc=>some (a,c)) else some (a,j)):Option (kV×aK))=some (a,out):=by
  intro j hj v m a out ho
  by_cases hb:v > m
  ·rw [if_pos hb] at ho
   rw [decide_eq_true hb,cond_true,re hj,aA,ho]
  ·rw [if_neg hb] at ho
   rw [decide_eq_false hb,cond_false,ho]
 have ab: ∀ k:Int,0<=k->k < 3->chk (CJ k 3)=some ():=λk h0 h1=>kg ⟨h0,h1⟩
 rw [bY (s':=((⟨v1,0,0⟩:kV),(pw i left).2,(1:Int)))]
 ·rw [bY (s':=((⟨v1,v2,0⟩:kV),(qg i left).2,(2:Int)))]
  ·rw [bY (s':=((⟨v1,v2,v3⟩:kV),(kE i left).2,(3:Int)))]
   ·rw [bC (r:=((⟨v1,v2,v3⟩:kV),(kE i left).2))]
    ·rw [aA]
     unfold cX
     rw [aA]
     dsimp only
     by_cases he:(kE i left).2.e=0
     ·have hb:((kE i left).2.e != 0)=false:=by simpa using he
      rw [hb,cond_false,if_pos he]
      have eB:(qg i left).2.e=0:=(kI (i:=(qg i left).2) (m:=3) he (oU left h)).1
      have eA:(pw i left).2.e=0:=(kI (i:=(pw i left).2) (m:=647) eB (oT left h)).1
      have e0:(n6 i left).e=0:=(kI (i:=n6 i left) (m:=1114111) eA (nR left h)).1
      have q1:v1=(pw i left).1:=g1 eA
      have q2:v2=(qg i left).1:=g2 eB
      have q3:v3=(kE i left).1:=g3 he
      have hr:=gS (i:=n6 i left) (m:=1114111) (nR left h) (by omega)
      have hw:IntKind.i32.wrap v1=v1:=by
       rw [q1,IntKind.wrap_i32]
       unfold pw
       omega
      have hn:(rdS i).1=(cC i left).1:=by
       unfold n6 at e0
       unfold cC at *
       split
       ·rename_i hb2
        rw [if_pos hb2] at e0
        split at e0
        ·exact absurd e0 (by decide)
        ·exact absurd e0 (by decide)
       ·rfl
      rw [hw,q1,q2,q3,hn]
      rfl
     ·have hb:((kE i left).2.e != 0)=true:=by simpa using he
      rw [hb,cond_true,if_neg he]
    ·rfl
   ·dsimp only
    rw [decide_eq_true (by omega),cond_true,show idx ([1114111,647,3]:List Int) (2:Int)=some 3 from rfl,aA,n3,aA,ab 2 (by omega) (by omega),aA,aA]
    dsimp only
    rw [show idx [sel 2 0 v3 v1,sel 2 1 v3 v2,sel 2 2 v3 0] (2:Int)=some v3 from rfl,aA,fl _ (fH (oU left h)) _ _ _ _ f3,aA]
    rfl
  ·dsimp only
   rw [decide_eq_true (by omega),cond_true,show idx ([1114111,647,3]:List Int) (1:Int)=some 647 from rfl,aA,n2,aA,ab 1 (by omega) (by omega),aA,aA]
   dsimp only
   rw [show idx [sel 1 0 v2 v1,sel 1 1 v2 0,sel 1 2 v2 0] (1:Int)=some v2 from rfl,aA,fl _ (fH (oT left h)) _ _ _ _ f2,aA]
   rfl
 ·dsimp only
  rw [decide_eq_true (by omega),cond_true,show idx ([1114111,647,3]:List Int) (0:Int)=some 1114111 from rfl,aA,n1,aA,ab 0 (by omega) (by omega),aA,aA]
  dsimp only
  rw [show idx [sel 0 0 v1 0,sel 0 1 v1 0,sel 0 2 v1 0] (0:Int)=some v1 from rfl,aA,fl _ (fH (nR left h)) _ _ _ _ f1,aA]
  rfl
def rrS:Nat->Int->aK->List aP->List aP×aK
 | 0,_,i,l=>(l,i)
 | k+1,w,i,l=>if (l.length:Int) < w/\i.e=0 then
   (if (kE i (w - l.length)).2.e=0 then (if l.getLast?=some (gZ i (w - l.length)) then rrS k w jW l else rrS k w (kE i (w - l.length)).2 (l++List.replicate (cC i (w - l.length)).1.toNat (gZ i (w - l.length))))
   else rrS k w (kE i (w - l.length)).2 l)
  else (l,i)
theorem ri {i:aK} {left:Int} (h:VI i) (hl:0<=left) (he:(kE i left).2.e=0):i.e=0/\1<=(cC i left).1/\(cC i left).1<=left/\(cC i left).2.e=0/\n6 i left=(cC i left).2:=by
 have eB:(qg i left).2.e=0:=(kI (i:=(qg i left).2) (m:=3) he (oU left h)).1
 have eA:(pw i left).2.e=0:=(kI (i:=(pw i left).2) (m:=647) eB (oT left h)).1
 have e0:(n6 i left).e=0:=(kI (i:=n6 i left) (m:=1114111) eA (nR left h)).1
 have hr:=gS (i:=i) (m:=left) h hl
 by_cases hc:(cC i left).2.e=0/\(cC i left).1=0
 ·unfold n6 at e0
  rw [if_pos hc] at e0
  exact absurd e0 (by decide)
 ·have e00:=e0
  unfold n6 at e0
  rw [if_neg hc] at e0
  refine ⟨(kI e0 h).1,?_,hr.2,e0,by unfold n6; rw [if_neg hc]⟩
  have:(cC i left).1≠0:=λhh=>hc ⟨e0,hh⟩
  omega
theorem AN (l:List aP) (c:aP) (h:l.length<=1000000):((bif (decide ((l.length:Int) > 0)) then (Option.bind (idx l (IntKind.i64.wrap ((l.length:Int) - 1))) λa=>some ((a.rune == c.rune) && ((a.bU == c.bU) && ((a.part == c.part) && true)))) else some false):Option Bool)=some (decide (l.getLast?=some c)):=by
 by_cases hl:l.length=0
 ·rw [decide_eq_false (by omega),cond_false]
  have:l=[]:=List.eq_nil_of_length_eq_zero hl
  subst this
  rfl
 ·have hlt:l.length - 1 < l.length:=by omega
  have e1:IntKind.i64.wrap ((l.length:Int) - 1)=((l.length - 1:Nat):Int):=by rw [w64 (by omega) (by omega)]; omega
  rw [decide_eq_true (by omega),cond_true,e1,bG _ _ hlt,aA,mK,List.getLast?_eq_getElem?,List.getElem?_eq_getElem hlt]
  simp
theorem Dh (l:List aP) (c:aP) (h:l.length<=1000000):((bif (decide (((l.map tc).length:Int) > 0)) then (Option.bind (idx (l.map tc) (IntKind.i64.wrap (((l.map tc).length:Int) - 1))) λa=>some ((a.rune == c.rune) && ((a.bU == c.bU) && ((a.part == c.part) && true)))) else some false):Option Bool)=some (decide (l.getLast?=some c)):=by
 rw [fF]
 by_cases hl:l.length=0
 ·rw [decide_eq_false (by omega),cond_false]
  have:l=[]:=List.eq_nil_of_length_eq_zero hl
  subst this
  rfl
 ·have hlt:l.length - 1 < l.length:=by omega
  have e1:IntKind.i64.wrap ((l.length:Int) - 1)=((l.length - 1:Nat):Int):=by rw [w64 (by omega) (by omega)]; omega
  rw [decide_eq_true (by omega),cond_true,e1,bG _ _ (by simpa using hlt),aA,List.getElem_map]
  show some ((l[l.length - 1].rune == c.rune) && ((l[l.length - 1].bU == c.bU) && ((l[l.length - 1].part == c.part) && true)))=_
  rw [mK,List.getLast?_eq_getElem?,List.getElem?_eq_getElem hlt]
  simp
theorem nS (p:Prop) [Decidable p] (e:Int):((bif (decide p) then some (e == 0) else some false):Option Bool)=some (decide (p/\e=0)):=by
 by_cases h1:p
 ·by_cases h2:e=0
  ·have:(e == 0)=true:=by simpa using h2
   rw [decide_eq_true h1,cond_true,this,decide_eq_true ⟨h1,h2⟩]
  ·have:(e == 0)=false:=by simpa using h2
   rw [decide_eq_true h1,cond_true,this,decide_eq_false (λh=>h2 h.2)]
 ·rw [decide_eq_false h1,cond_false,decide_eq_false (λh=>h1 h.1)]
theorem wR: ∀ (k:Nat) (w:Int) (i:aK) (l:List aP),VI i->(l.length:Int)<=max w 0->((rrS k w i l).1.length:Int)<=max w 0/\VI (rrS k w i l).2:=by
 intro k
 induction k with
 | zero=>intro w i l h hl; exact ⟨hl,h⟩
 | succ k ih =>
  intro w i l h hl
  unfold rrS
  by_cases hc:(l.length:Int) < w/\i.e=0
  ·rw [if_pos hc]
   by_cases he:(kE i (w - l.length)).2.e=0
   ·rw [if_pos he]
    obtain ⟨_,h1,h2,_⟩:=ri h (by omega) he
    split
    ·exact ih w _ l nE hl
    ·exact ih w _ _ (mm _ h) (by rw [List.length_append,List.length_replicate]; omega)
   ·rw [if_neg he]
    exact ih w _ l (mm _ h) hl
  ·rw [if_neg hc]
   exact ⟨hl,h⟩
theorem BR (w:Int) (hw:w<=1000): ∀ (k:Nat) (i:aK) (l:List aP),VI i->(l.length:Int)<=max w 0->(if i.e=0 then (w - l.length).toNat+1 else 1)<=k ->
  iter (σ:=aK×(List aP)) (ρ:=(List aP)×aK) (λa=>(Option.bind ((bif (decide ((a.2.length:Int) < w)) then (Option.bind (cX a.1) λf=>some (f == 0)) else some false):Option Bool) λg=>(bif g then (Option.bind (l7 a.1 (IntKind.i64.wrap (w - (a.2.length:Int)))) λb=>(bif (!b.2.2.1) then some (.inl (b.2.2.2,a.2)) else (Option.bind ((bif (decide ((a.2.length:Int) > 0)) then (Option.bind (idx a.2 (IntKind.i64.wrap ((a.2.length:Int) - 1))) λc=>some ((c.rune == b.2.1.rune) && ((c.bU == b.2.1.bU) && ((c.part == b.2.1.part) && true)))) else some false):Option Bool) λj=>(bif j then (Option.bind (bR b.2.2.2 1) λm=>some (.inl (m,a.2))) else (Option.bind (dZ [b.2.1] b.1) λd=>(Option.bind (chk (cW a.2.length d.length 24)) λ_=>some (.inl (b.2.2.2,(a.2++d))))))))) else some (.inr (a.2,a.1))))) (i,l)=some (rrS k w i l):=by
 intro k
 induction k with
 | zero=>intro i l h hl hk; split at hk <;> omega
 | succ k ih =>
  intro i l h hl hk
  unfold rrS
  by_cases hc:(l.length:Int) < w/\i.e=0
  ·rw [if_pos hc]
   rw [if_pos hc.2] at hk
   have hwr:IntKind.i64.wrap (w - (l.length:Int))=w - l.length:=w64 (by omega) (by omega)
   by_cases he:(kE i (w - l.length)).2.e=0
   ·rw [if_pos he]
    obtain ⟨_,h1,h2,_⟩:=ri h (by omega) he
    by_cases hlast:l.getLast?=some (gZ i (w - l.length))
    ·rw [if_pos hlast,bY (s':=(jW,l))]
     ·exact ih jW l nE hl (by rw [if_neg (by decide)]; omega)
     ·dsimp only
      unfold cX
      rw [aA,nS,decide_eq_true hc,aA,cond_true,hwr,run_eq i _ h (by omega),if_pos he,aA]
      dsimp only
      rw [Bool.not_true,cond_false,AN _ _ (by omega),aA,decide_eq_true hlast,cond_true,re (mm _ h),if_pos he,aA]
    ·rw [if_neg hlast,bY (s':=((kE i (w - l.length)).2,l++List.replicate (cC i (w - l.length)).1.toNat (gZ i (w - l.length))))]
     ·refine ih _ _ (mm _ h) (by rw [List.length_append,List.length_replicate]; omega) ?_
      rw [if_pos he,List.length_append,List.length_replicate]
      omega
     ·dsimp only
      unfold cX
      rw [aA,nS,decide_eq_true hc,aA,cond_true,hwr,run_eq i _ h (by omega),if_pos he,aA]
      dsimp only
      rw [Bool.not_true,cond_false,AN _ _ (by omega),aA,decide_eq_false hlast,cond_false,BP _ _ (by omega) (by omega),aA,bP (by rw [List.length_replicate]; omega),aA]
   ·rw [if_neg he,bY (s':=((kE i (w - l.length)).2,l))]
    ·exact ih _ l (mm _ h) hl (by rw [if_neg he]; omega)
    ·dsimp only
     unfold cX
     rw [aA,nS,decide_eq_true hc,aA,cond_true,hwr,run_eq i _ h (by omega),if_neg he,aA]
     dsimp only
     rw [Bool.not_false,cond_true]
  ·rw [if_neg hc]
   refine bC ?_
   dsimp only
   unfold cX
   rw [aA,nS,decide_eq_false hc,aA,cond_false]
def iS (i:aK) (w:Int):aY×aK :=
 if (rrS (w.toNat+1) w (cC i 1).2 []).2.e=0 then (⟨(rrS (w.toNat+1) w (cC i 1).2 []).1,decide ((cC i 1).1=1)⟩,(rrS (w.toNat+1) w (cC i 1).2 []).2)
 else (uC,(rrS (w.toNat+1) w (cC i 1).2 []).2)
theorem ye: ∀ (k:Nat) (w:Int) (i:aK) (l:List aP),(rrS k w i l).2.e=0->i.e=0:=by
 intro k
 induction k with
 | zero=>intro w i l h; exact h
 | succ k ih =>
  intro w i l h
  unfold rrS at h
  by_cases hc:(l.length:Int) < w/\i.e=0
  ·exact hc.2
  ·rw [if_neg hc] at h
   exact h
theorem zO (i:aK) (w:Int) (h:VI i) (hw:w<=1000):je i w=some (iS i w):=by
 unfold je
 rw [jV i h,aA]
 have hst:((bif (decide ((rdS i).1 > 1)) then (Option.bind (bR (rdS i).2 1) λa=>some a) else some (rdS i).2):Option aK)=some (cC i 1).2:=by
  unfold cC
  by_cases hb:(rdS i).1 > 1
  ·rw [decide_eq_true hb,cond_true,re (fH h),if_pos (pq h (by omega) hb),aA,if_pos hb]
  ·rw [decide_eq_false hb,cond_false,if_neg hb]
 rw [hst,aA]
 have hV:=fR 1 h
 rw [BR w hw (w.toNat+1) _ [] hV (by simp; omega) (by simp only [List.length_nil]; split <;> omega),aA]
 unfold cX iS
 rw [aA]
 by_cases he:(rrS (w.toNat+1) w (cC i 1).2 []).2.e=0
 ·have hb:((rrS (w.toNat+1) w (cC i 1).2 []).2.e != 0)=false:=by simpa using he
  rw [hb,cond_false,if_pos he]
  have h0:=ye _ _ _ _ he
  have hn:(rdS i).1=(cC i 1).1:=by
   unfold cC at *
   split
   ·rename_i hb2
    rw [if_pos hb2] at h0
    exact absurd h0 (by decide)
   ·rfl
  rw [hn]
  congr 3
 ·have hb:((rrS (w.toNat+1) w (cC i 1).2 []).2.e != 0)=true:=by simpa using he
  rw [hb,cond_true,if_neg he]
  rfl
theorem wS (p:Prop) [Decidable p] (e:Int):((bif (e == 0) then some (decide p) else some false):Option Bool)=some (decide (e=0/\p)):=by
 by_cases h2:e=0
 ·have:(e == 0)=true:=by simpa using h2
  rw [this,cond_true]
  by_cases h1:p
  ·rw [decide_eq_true h1,decide_eq_true ⟨h2,h1⟩]
  ·rw [decide_eq_false h1,decide_eq_false (λh=>h1 h.2)]
 ·have:(e == 0)=false:=by simpa using h2
  rw [this,cond_false,decide_eq_false (λh=>h2 h.1)]
theorem uE (e:Int) (n:Nat) (c:dE) (l:List dE) (hl:l.length+n<=1000000):iter (σ:=Int×(List dE)) (ρ:=(List dE)) (λa=>(Option.bind ((bif (decide (a.1 < (n:Int))) then some (e == 0) else some false):Option Bool) λb=>(bif b then (Option.bind (chk (cW a.2.length [c].length 24)) λ_=>some (.inl ((IntKind.i64.wrap (a.1+1)),(a.2++[c])))) else some (.inr a.2)))) (0,l)=some (if e=0 then l++List.replicate n c else l):=by
 by_cases he:e=0
 ·rw [if_pos he]
  have h:=nk (f:=λ(a:Int×(List dE))=>(Option.bind ((bif (decide (a.1 < (n:Int))) then some (e == 0) else some false):Option Bool) λb=>(bif b then (Option.bind (chk (cW a.2.length [c].length 24)) λ_=>some (.inl ((IntKind.i64.wrap (a.1+1)),(a.2++[c])))) else some (.inr a.2)))) (λk=>((k:Int),l++List.replicate k c)) n (l++List.replicate n c) ?_ ?_
  ·simpa using h
  ·intro k hk
   dsimp only
   rw [nS,decide_eq_true ⟨by omega,he⟩,aA,cond_true,bP (by simp; omega),aA,w64 (by omega) (by omega),List.append_assoc,<- List.replicate_succ']
   rfl
  ·dsimp only
   rw [nS,decide_eq_false (by omega),aA,cond_false]
 ·rw [if_neg he]
  refine bC ?_
  dsimp only
  rw [nS,decide_eq_false (λh=>he h.2),aA,cond_false]
theorem oA (i:aK):(asR i).e=i.e:=rfl
theorem zP (w:Int) (hw:w<=1000): ∀ (k:Nat) (i:aK) (l:List aP),VI i->(l.length:Int)<=max w 0->(if i.e=0 then (w - l.length).toNat+1 else 1)<=k ->
  iter (σ:=aX×(List dE)) (ρ:=(List dE)×aX) (λa=>(Option.bind ((bif (decide ((a.2.length:Int) < w)) then some (a.1.e == 0) else some false):Option Bool) λo=>(bif o then (Option.bind (cP a.1 (IntKind.i64.wrap (w - (a.2.length:Int)))) λd=>(Option.bind ((bif (d.1.e == 0) then some (d.2 == 0) else some false):Option Bool) λp=>(Option.bind ((bif p then some (aX.mk (ByteArray.mk #[]) 1) else some d.1):Option aX) λq=>(Option.bind (cP q 1114111) λf=>(Option.bind (cP f.1 647) λg=>(Option.bind (cP g.1 3) λb=>(Option.bind ((bif (b.1.e == 0) then (bif (decide ((a.2.length:Int) > 0)) then (Option.bind (idx a.2 (IntKind.i64.wrap ((a.2.length:Int) - 1))) λj=>some ((j.rune == f.2) && ((j.bU == g.2) && ((j.part == b.2) && true)))) else some false) else some false):Option Bool) λr=>(Option.bind ((bif r then some (aX.mk (ByteArray.mk #[]) 1) else some b.1):Option aX) λn=>(Option.bind (iter (σ:=Int×(List dE)) (ρ:=(List dE)) (λc=>(Option.bind ((bif (decide (c.1 < d.2)) then some (n.e == 0) else some false):Option Bool) λs=>(bif s then (Option.bind (chk (cW c.2.length [(dE.mk f.2 g.2 b.2)].length 24)) λ_=>some (.inl ((IntKind.i64.wrap (c.1+1)),(c.2++[(dE.mk f.2 g.2 b.2)])))) else some (.inr c.2)))) (0,a.2)) λt=>some (.inl (n,t))))))))))) else some (.inr (a.2,a.1))))) (asR i,l.map tc)=some ((rrS k w i l).1.map tc,asR (rrS k w i l).2):=by
 intro k
 induction k with
 | zero=>intro i l h hl hk; split at hk <;> omega
 | succ k ih =>
  intro i l h hl hk
  unfold rrS
  by_cases hc:(l.length:Int) < w/\i.e=0
  ·rw [if_pos hc]
   rw [if_pos hc.2] at hk
   have hwr:IntKind.i64.wrap (w - (l.length:Int))=w - l.length:=w64 (by omega) (by omega)
   have hL:0<=w - (l.length:Int):=by omega
   -- the document's steps
   have s1:((bif ((asR (cC i (w - l.length)).2).e == 0) then some ((cC i (w - l.length)).1 == 0) else some false):Option Bool)=some (decide ((cC i (w - l.length)).2.e=0/\(cC i (w - l.length)).1=0)):=by
    have:((cC i (w - l.length)).1 == 0)=decide ((cC i (w - l.length)).1=0):=by
     by_cases h0:(cC i (w - l.length)).1=0 <;> simp [h0]
    rw [this,oA,wS]
   have s2:((bif decide ((cC i (w - l.length)).2.e=0/\(cC i (w - l.length)).1=0) then some (aX.mk (ByteArray.mk #[]) 1) else some (asR (cC i (w - l.length)).2)):Option aX)=some (asR (n6 i (w - l.length))):=by
    unfold n6
    by_cases h0:(cC i (w - l.length)).2.e=0/\(cC i (w - l.length)).1=0
    ·rw [decide_eq_true h0,cond_true,if_pos h0]
     rfl
    ·rw [decide_eq_false h0,cond_false,if_neg h0]
   have s3:cP (asR (n6 i (w - l.length))) 1114111=some (asR (pw i (w - l.length)).2,(pw i (w - l.length)).1):=oS (nR _ h) (by omega)
   have s4:cP (asR (pw i (w - l.length)).2) 647=some (asR (qg i (w - l.length)).2,(qg i (w - l.length)).1):=oS (oT _ h) (by omega)
   have s5:cP (asR (qg i (w - l.length)).2) 3=some (asR (kE i (w - l.length)).2,(kE i (w - l.length)).1):=oS (oU _ h) (by omega)
   have hnat: ∃ N:Nat,(cC i (w - l.length)).1=(N:Int)/\N<=1000:=by
    have:=gS (i:=i) (m:=w - l.length) h hL
    exact ⟨(cC i (w - l.length)).1.toNat,by omega,by omega⟩
   obtain ⟨N,hN,hN2⟩:=hnat
   have hlast:=Dh l (gZ i (w - l.length)) (by omega)
   by_cases he:(kE i (w - l.length)).2.e=0
   ·rw [if_pos he]
    obtain ⟨_,h1,h2,_⟩:=ri h (by omega) he
    have he':((asR (kE i (w - l.length)).2).e == 0)=true:=by simpa [asR] using he
    by_cases hlst:l.getLast?=some (gZ i (w - l.length))
    ·rw [if_pos hlst,bY (s':=(asR jW,l.map tc))]
     ·exact ih jW l nE hl (by rw [if_neg (by decide)]; omega)
     ·dsimp only
      rw [fF,nS,decide_eq_true (show (l.length:Int) < w/\(asR i).e=0 from hc),aA,cond_true,hwr,oS h hL,aA]
      dsimp only
      rw [s1,aA,s2,aA,s3,aA,s4,aA,s5,aA]
      dsimp only
      rw [he',cond_true]
      rw [fF] at hlast
      unfold gZ at hlast hlst
      rw [hlast,aA,decide_eq_true hlst,cond_true,aA,hN]
      dsimp only
      rw [uE 1 N _ _ (by rw [fF]; omega),if_neg (by decide),aA]
      rfl
    ·rw [if_neg hlst,bY (s':=(asR (kE i (w - l.length)).2,(l++List.replicate (cC i (w - l.length)).1.toNat (gZ i (w - l.length))).map tc))]
     ·refine ih _ _ (mm _ h) (by rw [List.length_append,List.length_replicate]; omega) ?_
      rw [if_pos he,List.length_append,List.length_replicate]
      omega
     ·dsimp only
      rw [fF,nS,decide_eq_true (show (l.length:Int) < w/\(asR i).e=0 from hc),aA,cond_true,hwr,oS h hL,aA]
      dsimp only
      rw [s1,aA,s2,aA,s3,aA,s4,aA,s5,aA]
      dsimp only
      rw [he',cond_true]
      rw [fF] at hlast
      have hlst':=hlst
      unfold gZ at hlast hlst'
      rw [hlast,aA,decide_eq_false hlst',cond_false,aA,hN]
      rw [uE _ N _ _ (by rw [fF]; omega),if_pos (show (asR (kE i (w - l.length)).2).e=0 from he),aA]
      rw [List.map_append,List.map_replicate,Int.toNat_natCast]
      rfl
   ·rw [if_neg he,bY (s':=(asR (kE i (w - l.length)).2,l.map tc))]
    ·exact ih _ l (mm _ h) hl (by rw [if_neg he]; omega)
    ·have he':((asR (kE i (w - l.length)).2).e == 0)=false:=by simpa [asR] using he
     dsimp only
     rw [fF,nS,decide_eq_true (show (l.length:Int) < w/\(asR i).e=0 from hc),aA,cond_true,hwr,oS h hL,aA]
     dsimp only
     rw [s1,aA,s2,aA,s3,aA,s4,aA,s5,aA]
     dsimp only
     rw [he',cond_false,aA,cond_false,aA,hN]
     rw [uE _ N _ _ (by rw [fF]; omega),if_neg (show ¬ (asR (kE i (w - l.length)).2).e=0 from he),aA]
  ·rw [if_neg hc]
   refine bC ?_
   dsimp only
   rw [fF,nS,decide_eq_false (show ¬ ((l.length:Int) < w/\(asR i).e=0) from hc),aA,cond_false]
theorem tv (i:aK) (w:Int) (h:VI i) (hw:w<=1000):iu (asR i) w=some (asR (iS i w).2,told (iS i w).1):=by
 unfold iu
 rw [oS h (by omega),aA]
 have hV:=fR 1 h
 have hl:=zP w hw (w.toNat+1) _ [] hV (by simp; omega) (by simp only [List.length_nil]; split <;> omega)
 rw [List.map_nil] at hl
 dsimp only
 rw [hl,aA]
 unfold iS
 dsimp only
 by_cases he:(rrS (w.toNat+1) w (cC i 1).2 []).2.e=0
 ·have hb:((asR (rrS (w.toNat+1) w (cC i 1).2 []).2).e != 0)=false:=by simpa [asR] using he
  rw [hb,cond_false,if_pos he]
  have:((cC i 1).1 == 1)=decide ((cC i 1).1=1):=by by_cases h0:(cC i 1).1=1 <;> simp [h0]
  rw [this]
  rfl
 ·have hb:((asR (rrS (w.toNat+1) w (cC i 1).2 []).2).e != 0)=true:=by simpa [asR] using he
  rw [hb,cond_true,if_neg he]
  rfl
def il:List aP->List (Nat×aP)
 | []=>[]
 | c::r=>match il r with
  | (n,d)::t=>if c=d then (n+1,d)::t else (1,c)::(n,d)::t
  | []=>[(1,c)]
def jj (p:Nat×aP):List Int:=[(p.1:Int),p.2.rune,p.2.bU,p.2.part].flatMap cI
def fS (r:aY):List Int:=cI (if r.wrapped then 1 else 0)++(il r.cells).flatMap jj
theorem qG (c:aP) (r:List aP): ∃ n t,il (c::r)=(n+1,c)::t:=by
 unfold il
 split
 ·rename_i n d t h
  split
  ·rename_i e
   exact ⟨n,t,by rw [e]⟩
  ·exact ⟨0,_,rfl⟩
 ·exact ⟨0,[],rfl⟩
theorem uF (p:Nat×aP):(jj p).length<=36:=by
 unfold jj
 simp only [List.flatMap_cons,List.flatMap_nil,List.length_append,List.length_nil]
 have h1:=cJ (p.1:Int)
 have h2:=cJ p.2.rune
 have h3:=cJ p.2.bU
 have h4:=cJ p.2.part
 omega
def more (c:aP):List aP->Nat
 | []=>0
 | d::r=>if d=c then more c r+1 else 0
theorem AO (c:aP): ∀ l,more c l<=l.length
 | []=>Nat.le_refl _
 | d::r=>by
  have:=AO c r
  unfold more
  split <;> simp <;> omega
theorem uG (c:aP): ∀ r:List aP,il (c::r)=(more c r+1,c)::il (r.drop (more c r))
 | []=>rfl
 | d::r=>by
  have ih:=uG d r
  have hu:il (c::d::r)=(match il (d::r) with
   | (n,e)::t=>if c=e then (n+1,e)::t else (1,c)::(n,e)::t
   | []=>[(1,c)]):=rfl
  rw [hu,ih]
  try dsimp only
  by_cases h:c=d
  ·subst h
   rw [if_pos rfl]
   have hm:more c (c::r)=more c r+1:=by
    show (if c=c then more c r+1 else 0)=_
    rw [if_pos rfl]
   rw [hm,List.drop_succ_cons]
  ·rw [if_neg h]
   have hm:more c (d::r)=0:=by
    show (if d=c then more c r+1 else 0)=_
    rw [if_neg (λe=>h e.symm)]
   rw [hm,List.drop_zero,ih]
theorem yf (c:aP): ∀ (l:List aP) (k:Nat),k < more c l->l[k]?=some c
 | [],k,h=>by simp [more] at h
 | d::r,k,h=>by
  unfold more at h
  split at h
  ·rename_i e
   cases k with
   | zero=>rw [e]; rfl
   | succ k=>exact yf c r k (by omega)
  ·omega
theorem wc (c:aP): ∀ (l:List aP),more c l < l.length->l[more c l]?≠some c
 | [],h=>by simp at h
 | d::r,h=>by
  have hu:more c (d::r)=if d=c then more c r+1 else 0:=rfl
  rw [hu] at h ⊢
  by_cases e:d=c
  ·rw [if_pos e] at h ⊢
   exact wc c r (by simpa using h)
  ·rw [if_neg e]
   simpa using e
theorem Fj: ∀ (m:Nat) (l:List aP) (b:List Int),l.length<=m->b.length+36*l.length<=9000000->okR l -> ∃ q,iter (σ:=(List aP)×cK) (ρ:=((List aP)×cK) ⊕ (cK×(List aP))) (λa=>(bif (decide ((a.1.length:Int) > 0)) then (Option.bind (iter (σ:=Int) (ρ:=Int) (λf=>(Option.bind ((bif (decide (f < (a.1.length:Int))) then (Option.bind (idx a.1 f) λg=>(Option.bind (idx a.1 0) λh=>some ((g.rune == h.rune) && ((g.bU == h.bU) && ((g.part == h.part) && true))))) else some false):Option Bool) λj=>(bif j then some (.inl (IntKind.i64.wrap (f+1))) else some (.inr f)))) 1) λi=>(Option.bind (idx a.1 0) λn=>(Option.bind ((λ(s51:cK) (x21:Int×aP)=>(Option.bind (dH s51 [x21.1,(IntKind.i64.wrap x21.2.rune),x21.2.bU,x21.2.part]) λo=>some (o,true))) a.2 (i,n)) λz1399=>(bif (!z1399.2) then (fD (some (z1399.1,a.1))) else (Option.bind (chk (eL i (a.1.length:Int) a.1.length)) λ_=>some (.inl ((cut a.1 i (a.1.length:Int)),z1399.1))))))) else some (.inr (.inl (a.1,a.2))))) (l,⟨b⟩)=some (.inl (q,⟨b++(il l).flatMap jj⟩)):=by
 intro m
 induction m with
 | zero =>
  intro l b hl hb hok
  have:l=[]:=List.eq_nil_of_length_eq_zero (by omega)
  subst this
  refine ⟨[],?_⟩
  refine bC ?_
  try dsimp only
  rw [decide_eq_false (by simp),cond_false]
  simp [il]
 | succ m ih =>
  intro l b hl hb hok
  cases l with
  | nil =>
   refine ⟨[],?_⟩
   refine bC ?_
   try dsimp only
   rw [decide_eq_false (by simp),cond_false]
   simp [il]
  | cons c r =>
   have hmr:=AO c r
   have hcok:rok c.rune:=hok c (List.mem_cons_self ..)
   simp only [List.length_cons] at hl hb
   have hon:=nm b [((more c r+1:Nat):Int),c.rune,c.bU,c.part] (by first | (simp; omega) | simp)
   have hd:(r.drop (more c r)).length<=m:=by rw [List.length_drop]; omega
   have hel:=uF (more c r+1,c)
   obtain ⟨q,hq⟩:=ih (r.drop (more c r)) (b++jj (more c r+1,c)) hd (by rw [List.length_append,List.length_drop]; omega) (CZ (λd hd'=>hok d (List.mem_cons_of_mem _ hd')) _)
   refine ⟨q,?_⟩
   rw [bY (s':=(r.drop (more c r),(⟨b++jj (more c r+1,c)⟩:cK)))]
   ·rw [hq,uG,List.flatMap_cons,List.append_assoc]
   ·try dsimp only
    rw [decide_eq_true (by first | (simp; omega) | simp),cond_true]
    refine dX (λk=>((k+1:Nat):Int)) (more c r) ((more c r+1:Nat):Int) rfl ?_ ?_ ?_
    ·intro k hk
     have hg:=yf c r k hk
     have hgi:idx (c::r) ((k+1:Nat):Int)=some c:=by rw [qZ,List.getElem?_cons_succ,hg]
     have hg0:idx (c::r) 0=some c:=rfl
     try dsimp only
     rw [decide_eq_true (by first | (simp; omega) | simp),cond_true,hgi,aA,hg0,aA,mK,decide_eq_true rfl,aA,cond_true,w64 (by omega) (by omega)]
     rfl
    ·try dsimp only
     by_cases hlt:more c r < r.length
     ·have hs:=wc c r hlt
      have hgi:idx (c::r) ((more c r+1:Nat):Int)=some r[more c r]:=by rw [qZ,List.getElem?_cons_succ,List.getElem?_eq_getElem hlt]
      have hg0:idx (c::r) 0=some c:=rfl
      have hne: ¬ r[more c r]=c:=λe=>hs (by rw [List.getElem?_eq_getElem hlt,e])
      rw [decide_eq_true (by first | (simp; omega) | simp),cond_true,hgi,aA,hg0,aA,mK,decide_eq_false hne,aA,cond_false]
     ·rw [decide_eq_false (by first | (simp; omega) | simp),cond_false,aA,cond_false]
    ·have hg0:idx (c::r) 0=some c:=rfl
     have hce:jj (more c r+1,c)=[((more c r+1:Nat):Int),c.rune,c.bU,c.part].flatMap cI:=rfl
     rw [hg0,aA,w32 hcok,hon,aA,aA]
     try dsimp only
     rw [Bool.not_true,cond_false,cV (by omega) (by first | (simp; omega) | simp) (by simp),aA,q6,List.take_length,List.drop_succ_cons,hce]
theorem zQ (r:aY) (h:r.cells.length<=1000) (hok:okR r.cells):ki r=some (dL (fS r)):=by
 unfold ki oR nM mj fG
 have FM:((bif r.wrapped then some 1 else some 0):Option Int)=some (if r.wrapped then 1 else 0):=by cases r.wrapped <;> rfl
 rw [FM,aA,nm [] _ (by simp),aA,aA]
 have hb:=cJ (if r.wrapped then 1 else 0)
 obtain ⟨q,hq⟩:=Fj r.cells.length r.cells (cI (if r.wrapped then 1 else 0)) (Nat.le_refl _) (by omega) hok
 have e0:([]++[(if r.wrapped then (1:Int) else 0)].flatMap cI)=cI (if r.wrapped then 1 else 0):=by simp
 rw [e0,hq,aA,aA,aA]
 rfl
def BS (n:Nat):List (Nat×aP)->List (Nat×aP)
 | []=>[]
 | (m,c)::t=>(m+n,c)::t
theorem we (l:List (Nat×aP)):BS 0 l=l:=by
 cases l with
 | nil=>rfl
 | cons a t=>rfl
theorem yg (r:aY) (h:r.cells.length<=1000):jL (told r)=some (dL (fS r)):=by
 unfold jL
 have FM:((bif (told r).wrapped then some (ByteArray.mk #[1]) else some (ByteArray.mk #[0])):Option ByteArray)=some (dL (cI (if r.wrapped then 1 else 0))):=by
  show ((bif r.wrapped then some (ByteArray.mk #[1]) else some (ByteArray.mk #[0])):Option ByteArray)=_
  have h0:cI 0=[0]:=by
   show ij 0=_
   rw [eW (by omega)]
   rfl
  have h1:cI 1=[1]:=by
   show ij 1=_
   rw [eW (by omega)]
   rfl
  cases r.wrapped
  ·show some (ByteArray.mk #[0])=some (dL (cI 0))
   rw [h0,nQ]
   rfl
  ·show some (ByteArray.mk #[1])=some (dL (cI 1))
   rw [h1,nQ]
   rfl
 rw [FM,aA]
 show Option.bind (iter _ (0,dL (cI (if r.wrapped then 1 else 0)),0)) _=_
 have hb0:=cJ (if r.wrapped then 1 else 0)
 unfold fS
 generalize cI (if r.wrapped then 1 else 0)=b0 at hb0
 have htl:(told r).l=r.cells.map tc:=rfl
 rw [htl,fF]
 have key: ∀ (s:List aP) (p:List aP) (b:List Int) (n:Nat) (f:Int×ByteArray×Int->Option ((Int×ByteArray×Int) ⊕ ByteArray)),f=(λ(s776:Int×ByteArray×Int)=>(bif (decide (s776.1 < (r.cells.length:Int))) then (Option.bind ((Option.bind (idx (r.cells.map tc) s776.1) λg=>(Option.bind ((bif (decide ((IntKind.i64.wrap (s776.1+1)) < (r.cells.length:Int))) then (Option.bind (idx (r.cells.map tc) (IntKind.i64.wrap (s776.1+1))) λa=>some ((a.rune == g.rune) && ((a.bU == g.bU) && ((a.part == g.part) && true)))) else some false):Option Bool) λu=>(bif u then some (s776.2.1,(IntKind.i64.wrap (s776.2.2+1))) else (Option.bind (cG (IntKind.i64.wrap (s776.2.2+1))) λi=>(Option.bind (cG g.rune) λj=>(Option.bind (chk (lu i.size j.size)) λ_=>(Option.bind (cG g.bU) λk=>(Option.bind (chk (lu (i++j).size k.size)) λ_=>(Option.bind (cG g.part) λo=>(Option.bind (chk (lu ((i++j)++k).size o.size)) λ_=>(Option.bind (chk (lu s776.2.1.size (((i++j)++k)++o).size)) λ_=>some ((s776.2.1++(((i++j)++k)++o)),0)))))))))))):Option (ByteArray×Int)) λq=>some (.inl ((IntKind.i64.wrap (s776.1+1)),q.1,q.2))) else some (.inr s776.2.1)))->p++s=r.cells->n<=p.length->b.length+36*s.length<=1000000->(s=[]->n=0)->iter f ((p.length:Int),dL b,(n:Int))=some (dL (b++(BS n (il s)).flatMap jj)):=by
  intro s
  induction s with
  | nil =>
   intro p b n f hf hp hn hb h0
   have hpl:p.length=r.cells.length:=by rw [<- hp]; simp
   rw [bC (r:=dL b)]
   ·simp [il,BS]
   ·subst hf
    dsimp only
    rw [decide_eq_false (by omega),cond_false]
  | cons c s ih =>
   intro p b n f hf hp hn hb h0
   have hpl:r.cells.length=p.length+s.length+1:=by rw [<- hp]; simp; omega
   simp only [List.length_cons] at hb
   have hx:idx (r.cells.map tc) (p.length:Int)=some (tc c):=by
    rw [<- hp,List.map_append,List.map_cons,<- fF p]
    exact pR _ _ _
   have hn1:IntKind.i64.wrap ((p.length:Int)+1)=((p.length+1:Nat):Int):=by rw [w64 (by omega) (by omega)]; omega
   have hn2:IntKind.i64.wrap ((n:Int)+1)=((n+1:Nat):Int):=by rw [w64 (by omega) (by omega)]; omega
   have hp1:p++[c]++s=r.cells:=by rw [<- hp]; simp
   have hlen1:((p++[c]).length:Int)=((p.length+1:Nat):Int):=by simp
   -- the cell behind
   have hnext:((bif (decide (((p.length+1:Nat):Int) < (r.cells.length:Int))) then (Option.bind (idx (r.cells.map tc) ((p.length+1:Nat):Int)) λa=>some ((a.rune == (tc c).rune) && ((a.bU == (tc c).bU) && ((a.part == (tc c).part) && true)))) else some false):Option Bool)=some (decide (s.head?=some c)):=by
    cases s with
    | nil =>
     rw [decide_eq_false (by simp at hpl ⊢; omega),cond_false]
     rfl
    | cons d s' =>
     have hx2:idx (r.cells.map tc) ((p.length+1:Nat):Int)=some (tc d):=by
      rw [<- hp,List.map_append,List.map_cons,List.map_cons,qZ,List.getElem?_append_right (by simp)]
      simp
     rw [decide_eq_true (by simp at hpl ⊢; omega),cond_true,hx2,aA]
     show some ((d.rune == c.rune) && ((d.bU == c.bU) && ((d.part == c.part) && true)))=_
     rw [mK]
     simp
   by_cases hc:s.head?=some c
   ·rw [bY (s':=(((p++[c]).length:Int),dL b,((n+1:Nat):Int)))]
    ·rw [ih (p++[c]) b (n+1) f hf hp1 (by simp; omega) (by omega) (λe=>by rw [e] at hc; cases hc)]
     cases s with
     | nil=>cases hc
     | cons d s' =>
      obtain rfl:d=c:=by simpa using hc
      obtain ⟨m,t,hm⟩:=qG d s'
      have hu:il (d::d::s')=(m+1+1,d)::t:=by
       show (match il (d::s') with
        | (n,e)::t=>if d=e then (n+1,e)::t else (1,d)::(n,e)::t
        | []=>[(1,d)])=_
       rw [hm]
       dsimp only
       rw [if_pos rfl]
      have ha:BS (n+1) ((m+1,d)::t)=BS n ((m+1+1,d)::t):=by
       show (m+1+(n+1),d)::t=(m+1+1+n,d)::t
       congr 2
       omega
      rw [hu,hm,ha]
    ·subst hf
     dsimp only
     rw [decide_eq_true (by omega),cond_true,hx,aA,hn1,hnext,aA,decide_eq_true hc,cond_true,hn2,aA,hlen1]
   ·have e1:=cJ ((n+1:Nat):Int)
    have e2:=cJ c.rune
    have e3:=cJ c.bU
    have e4:=cJ c.part
    rw [bY (s':=(((p++[c]).length:Int),dL (b++jj (n+1,c)),((0:Nat):Int)))]
    ·have hel:=uF (n+1,c)
     rw [ih (p++[c]) (b++jj (n+1,c)) 0 f hf hp1 (by omega) (by rw [List.length_append]; omega) (λ_=>rfl),we]
     have hu:il (c::s)=(1,c)::il s:=by
      cases s with
      | nil=>rfl
      | cons d s' =>
       have hne: ¬ c=d:=λe=>hc (by rw [e]; rfl)
       obtain ⟨m,t,hm⟩:=qG d s'
       show (match il (d::s') with
        | (n,e)::t=>if c=e then (n+1,e)::t else (1,c)::(n,e)::t
        | []=>[(1,c)])=_
       rw [hm]
       dsimp only
       rw [if_neg hne]
     have ha:BS n ((1,c)::il s)=(n+1,c)::il s:=by
      show (1+n,c)::il s=_
      rw [Nat.add_comm 1 n]
     rw [hu,ha,List.flatMap_cons,List.append_assoc]
    ·subst hf
     have hE:jj (n+1,c)=cI ((n+1:Nat):Int)++cI c.rune++cI c.bU++cI c.part:=by
      unfold jj
      simp
     dsimp only
     rw [decide_eq_true (by omega),cond_true,hx,aA,hn1,hnext,aA,decide_eq_false hc,cond_false,hn2,jE,aA]
     show Option.bind (Option.bind (cG c.rune) _) _=_
     rw [jE,aA,eD (by rw [bQ,bQ]; omega),aA]
     show Option.bind (Option.bind (cG c.bU) _) _=_
     rw [jE,aA,<- dG,eD (by rw [bQ,bQ,List.length_append]; omega),aA]
     show Option.bind (Option.bind (cG c.part) _) _=_
     rw [jE,aA,<- dG,eD (by rw [bQ,bQ,List.length_append,List.length_append]; omega),aA,<- dG,eD (by rw [bQ,bQ,List.length_append,List.length_append,List.length_append]; omega),aA,aA,<- dG,hlen1,hE]
     rfl
 have hk:=key r.cells [] b0 0 _ rfl rfl (by omega) (by omega) (λ_=>rfl)
 rw [we] at hk
 exact (congrArg (λx=>Option.bind x λv=>some v) hk).trans rfl
theorem Fk {w:Nat} (h:w<=most):clN (w:Int)=w:=by unfold clN; unfold most at h; omega
theorem kr {w:Nat} (h:w<=most):cI (w:Int)=ij w:=by unfold cI; rw [Fk h]
theorem qH (c:aP) (n:Nat): ∀ l:List aP,l.getLast?≠some c->il (l++List.replicate (n+1) c)=il l++[(n+1,c)]
 | [],_=>by
  rw [List.nil_append]
  induction n with
  | zero=>rfl
  | succ n ih =>
   rw [List.replicate_succ]
   show (match il (List.replicate (n+1) c) with
    | (m,e)::t=>if c=e then (m+1,e)::t else (1,c)::(m,e)::t
    | []=>[(1,c)])=_
   rw [ih]
   show (if c=c then [(n+1+1,c)] else _)=_
   rw [if_pos rfl]
   rfl
 | x::r,h=>by
  cases r with
  | nil =>
   have hx: ¬ x=c:=λe=>h (by rw [e]; rfl)
   have ih:=qH c n [] (by simp)
   show (match il ([]++List.replicate (n+1) c) with
    | (m,e)::t=>if x=e then (m+1,e)::t else (1,x)::(m,e)::t
    | []=>[(1,x)])=_
   rw [ih]
   show (if x=c then _ else (1,x)::(n+1,c)::[])=_
   rw [if_neg hx]
   rfl
  | cons y s =>
   have ih:=qH c n (y::s) (by simpa using h)
   show (match il ((y::s)++List.replicate (n+1) c) with
    | (m,e)::t=>if x=e then (m+1,e)::t else (1,x)::(m,e)::t
    | []=>[(1,x)])=(match il (y::s) with
    | (m,e)::t=>if x=e then (m+1,e)::t else (1,x)::(m,e)::t
    | []=>[(1,x)])++[(n+1,c)]
   rw [ih]
   obtain ⟨m,t,hm⟩:=qG y s
   rw [hm]
   show (if x=y then _ else _)=(if x=y then _ else _)++_
   split <;> rfl
theorem wh {i:aK} {left:Int} (h:VI i) (hl:0<=left) (he:(kE i left).2.e=0):sbs i.s=jj ((cC i left).1.toNat,gZ i left)++sbs (kE i left).2.s/\0<=(gZ i left).rune/\(gZ i left).rune<=1114111:=by
 obtain ⟨_,h1,h2,h3,h4⟩:=ri h hl he
 obtain ⟨eB,c3,q3,_,m3,b3⟩:=kI (i:=(qg i left).2) (m:=3) he (oU left h)
 obtain ⟨eA,c2,q2,_,m2,b2⟩:=kI (i:=(pw i left).2) (m:=647) eB (oT left h)
 obtain ⟨e0,c1,q1,l1,m1,b1⟩:=kI (i:=n6 i left) (m:=1114111) eA (nR left h)
 obtain ⟨_,c0,q0,_,m0,b0⟩:=kI (i:=i) (m:=left) h3 h
 have qa:(gZ i left).rune=(c1:Int):=q1
 have qb:(gZ i left).bU=(c2:Int):=q2
 have qc:(gZ i left).part=(c3:Int):=q3
 refine ⟨?_,by omega,by omega⟩
 have hE:jj ((cC i left).1.toNat,gZ i left)=ij c0++ij c1++ij c2++ij c3:=by
  unfold jj
  dsimp only
  rw [qa,qb,qc,q0,Int.toNat_natCast]
  simp only [List.flatMap_cons,List.flatMap_nil,List.append_nil,kr m0,kr m1,kr m2,kr m3,List.append_assoc]
 have b1':sbs (cC i left).2.s=ij c1++sbs (pw i left).2.s:=by rw [<- h4]; exact b1
 have b2':sbs (pw i left).2.s=ij c2++sbs (qg i left).2.s:=b2
 have b3':sbs (qg i left).2.s=ij c3++sbs (kE i left).2.s:=b3
 rw [hE,b0,b1',b2',b3']
 simp only [List.append_assoc]
theorem BT: ∀ (k:Nat) (w:Int) (i:aK) (l:List aP),VI i->okR l->(rrS k w i l).2.e=0 -> ∃ D,(il (rrS k w i l).1).flatMap jj=(il l).flatMap jj++D/\sbs i.s=D++sbs (rrS k w i l).2.s/\okR (rrS k w i l).1:=by
 intro k
 induction k with
 | zero=>intro w i l h hok he; exact ⟨[],by simp [rrS],by simp [rrS],hok⟩
 | succ k ih =>
  intro w i l h hok he
  unfold rrS at he ⊢
  by_cases hc:(l.length:Int) < w/\i.e=0
  ·rw [if_pos hc] at he ⊢
   by_cases h2:(kE i (w - l.length)).2.e=0
   ·rw [if_pos h2] at he ⊢
    by_cases h3:l.getLast?=some (gZ i (w - l.length))
    ·rw [if_pos h3] at he
     exact absurd (ye _ _ _ _ he) (by decide)
    ·rw [if_neg h3] at he ⊢
     obtain ⟨b1,b2,b3⟩:=wh h (by omega) h2
     obtain ⟨_,p1,_⟩:=ri h (by omega) h2
     obtain ⟨n,hn⟩: ∃ n,(cC i (w - l.length)).1.toNat=n+1:=⟨(cC i (w - l.length)).1.toNat - 1,by omega⟩
     rw [hn] at he b1 ⊢
     obtain ⟨D,d1,d2,d3⟩:=ih w _ _ (mm _ h) (AL hok (λc hc=>by rw [List.eq_of_mem_replicate hc]; unfold rok; omega)) he
     refine ⟨jj (n+1,gZ i (w - l.length))++D,?_,?_,d3⟩
     ·rw [d1,qH _ _ _ h3,List.flatMap_append,List.flatMap_singleton,List.append_assoc]
     ·rw [b1,d2,List.append_assoc]
   ·rw [if_neg h2] at he
    exact absurd (ye _ _ _ _ he) h2
  ·rw [if_neg hc] at he ⊢
   exact ⟨[],by simp,by simp,hok⟩
theorem zU {i:aK} {w:Int} (h:VI i) (he:(iS i w).2.e=0):sbs i.s=fS (iS i w).1++sbs (iS i w).2.s:=by
 unfold iS at *
 by_cases h0:(rrS (w.toNat+1) w (cC i 1).2 []).2.e=0
 ·rw [if_pos h0]
  obtain ⟨D,d1,d2,_⟩:=BT _ w _ [] (fR 1 h) (λc hc=>by cases hc) h0
  obtain ⟨_,c,q,hc,hm,hb⟩:=kI (i:=i) (m:=1) (ye _ _ _ _ h0) h
  unfold fS
  dsimp only
  rw [d1,hb,d2,q]
  have:(if decide ((c:Int)=1)=true then (1:Int) else 0)=(c:Int):=by
   by_cases hc1:(c:Int)=1
   ·simp [hc1]
   ·rw [decide_eq_false hc1]
    simp
    omega
  rw [this,kr hm]
  simp [il]
 ·rw [if_neg h0] at he
  exact absurd he h0
theorem rj {i:aK} {w:Int} (h:VI i):VI (iS i w).2:=by
 unfold iS
 split
 ·exact (wR _ w _ [] (fR 1 h) (by simp; omega)).2
 ·exact (wR _ w _ [] (fR 1 h) (by simp; omega)).2
theorem GY: ∀ (k:Nat) (w:Int) (i:aK) (l:List aP),VI i->okR l->okR (rrS k w i l).1:=by
 intro k
 induction k with
 | zero=>intro w i l h hok; exact hok
 | succ k ih =>
  intro w i l h hok
  unfold rrS
  by_cases hc:(l.length:Int) < w/\i.e=0
  ·rw [if_pos hc]
   by_cases h2:(kE i (w - l.length)).2.e=0
   ·rw [if_pos h2]
    obtain ⟨b1,b2,b3⟩:=wh h (by omega) h2
    split
    ·exact ih w _ l nE hok
    ·exact ih w _ _ (mm _ h) (AL hok (λc hc=>by rw [List.eq_of_mem_replicate hc]; unfold rok; omega))
   ·rw [if_neg h2]
    exact ih w _ l (mm _ h) hok
  ·rw [if_neg hc]
   exact hok
theorem Fl {i:aK} {w:Int} (h:VI i) (hw:w<=1000):okR (iS i w).1.cells/\(iS i w).1.cells.length<=1000:=by
 unfold iS
 split
 ·refine ⟨GY _ w _ [] (fR 1 h) (λc hc=>by cases hc),?_⟩
  have:=(wR (w.toNat+1) w _ [] (fR 1 h) (by simp; omega)).1
  show (rrS (w.toNat+1) w (cC i 1).2 []).1.length<=1000
  omega
 ·exact ⟨λc hc=>(by cases hc),Nat.zero_le _⟩
theorem wT (a b:Bool):((bif a then some b else some false):Option Bool)=some (a && b):=by cases a <;> rfl
theorem bor (a b:Bool):((bif a then some true else some b):Option Bool)=some (a || b):=by cases a <;> rfl
def okG (r s:Int):Bool:=(decide (r>=0) && decide (r<=1114111)) && (decide (s>=0) && decide (s<=647))
def okC (c:aP):Bool:=okG c.rune c.bU && (decide (c.part>=0) && decide (c.part<=3))
def iQ (s:aS):Bool:=(s.k == 0) && ((s.w == 0) && ((s.h == 0) && ((s.x == 0) && ((s.y == 0) && ((s.title.toList == (ByteArray.mk #[]).toList) && (((s.rows.length:Int) == 0) && ((s.len == 0) && ((s.chain == 0) && ((s.begun.length:Int) == 0)))))))))
def wi (n lo hi:Int):Bool:=decide (n>=lo) && decide (n<=hi)
def n7 (s:aS):Bool:=wi s.k 1 1152921504606846976 && (wi s.w 1 1000 && (wi s.h 1 1000 && (wi s.x 0 (s.w - 1) && (wi s.y 0 (s.h - 1) && (((s.rows.length:Int) == s.h) && (decide ((s.title.size:Int)<=200) && (wi s.len 0 1152921504606846976 && (wi s.chain 0 281474976710656 && decide ((s.begun.length:Int)<=1024)))))))))
def o3 (w:Int) (r:aY):Bool:=((r.cells.length:Int) == w) && r.cells.all okC
def n8 (s:aS):Bool:=iQ s || (n7 s && ((s.begun.all λg=>okG g.rune g.bU) && s.rows.all (o3 s.w)))
theorem empty_eq (s:aS):fW s=some (iQ s):=by
 unfold fW iQ
 simp only [wT,aA]
theorem qI (n lo hi:Int):dR n lo hi=some (wi n lo hi):=by
 unfold dR wi
 rw [wT,aA]
structure SW (s:aS):Prop where
 w1: -9223372036854775808<=s.w/\s.w<=9223372036854775807
 h1: -9223372036854775808<=s.h/\s.h<=9223372036854775807
 gl: ∀ g∈s.begun,rok g.rune
 ro: ∀ r∈s.rows,okR r.cells/\r.cells.length<=1000
 rl:s.rows.length<=1000
 bl:s.begun.length<=2000
 tl:s.title.size<=12000
theorem Di (s:aS) (h:SW s):iB s=some (n7 s):=by
 unfold iB n7
 simp only [qI,aA]
 by_cases hw:s.w>=1
 ·have e1:IntKind.i64.wrap (s.w - 1)=s.w - 1:=w64 (by omega) (by have:=h.w1; omega)
  by_cases hh:s.h>=1
  ·have e2:IntKind.i64.wrap (s.h - 1)=s.h - 1:=w64 (by omega) (by have:=h.h1; omega)
   simp only [e1,e2,wT,aA]
  ·have e2:wi s.h 1 1000=false:=by unfold wi; rw [decide_eq_false hh]; rfl
   simp only [e2,e1,cond_false,wT,Bool.false_and,Bool.and_false,aA]
 ·have e2:wi s.w 1 1000=false:=by unfold wi; rw [decide_eq_false hw]; rfl
  simp only [e2,cond_false,wT,Bool.false_and,Bool.and_false,aA]
theorem yh (r s:Int) (h:rok r):ky r s=some (okG r s):=by
 unfold ky okG
 simp only [qI,aA,w32 h,wT,wi]
theorem BU (c:aP) (h:rok c.rune):mD c=some (okC c):=by
 unfold mD okC
 rw [yh _ _ h]
 simp only [qI,aA,wT,wi]
theorem find_eq {α:Type} (l:List α) (p:α->Bool) (hl:l.length<=1000000) (f:Int->Option (Int ⊕ (Unit ⊕ Int))) (hf: ∀ (n:Nat) (hn:n < l.length),f (n:Int)=if p l[n] then some (.inr (.inr (n:Int))) else some (.inl ((n+1:Nat):Int))) (he:f (l.length:Int)=some (.inr (.inl ()))): ∃ q,iter f 0=some q/\((q = .inl ()/\l.any p=false) \/ ∃ w:Int,q = .inr w/\0<=w/\l.any p=true):=by
 obtain ⟨q,h1,h2⟩:=ox (f:=f) (λi:Int=> ∃ n:Nat,i=n/\n<=l.length/\(l.take n).any p=false) (λi=>(l.length - i).toNat) (λq=>(q = .inl ()/\l.any p=false) \/ ∃ w:Int,q = .inr w/\0<=w/\l.any p=true) (by
  rintro i ⟨n,rfl,hn,ht⟩
  by_cases hlt:n < l.length
  ·by_cases hp:p l[n]=true
   ·refine .inr ⟨.inr (n:Int),by rw [hf n hlt,if_pos hp],.inr ⟨_,rfl,by omega,List.any_eq_true.2 ⟨l[n],List.getElem_mem hlt,hp⟩⟩⟩
   ·refine .inl ⟨((n+1:Nat):Int),by rw [hf n hlt,if_neg hp],⟨n+1,rfl,hlt,?_⟩,by omega⟩
    rw [List.take_succ_eq_append_getElem hlt,List.any_append,ht]
    simpa using hp
  ·have hnl:n=l.length:=by omega
   subst hnl
   refine .inr ⟨.inl (),he,.inl ⟨rfl,?_⟩⟩
   rwa [List.take_length] at ht) 0 ⟨0,rfl,by omega,rfl⟩
 exact ⟨q,h1,h2⟩
theorem Fm (l:List aN) (hl:l.length<=1000000) (h: ∀ g∈l,rok g.rune):cH l=some (l.any λg=> !okG g.rune g.bU):=by
 unfold cH cU
 have hlen:l.length=l.length:=rfl
 obtain ⟨q,h1,h2⟩:=find_eq l (λg=> !okG g.rune g.bU) hl (λa=>(bif (decide (a < (l.length:Int))) then (Option.bind (idx l a) λb=>(Option.bind (gW b) λc=>(bif c then (fD (some a)) else some (.inl (IntKind.i64.wrap (a+1)))))) else some (.inr (.inl ())))) (by
  intro n hn
  unfold gW
  rw [decide_eq_true (by omega),cond_true,bG l n hn,aA,yh _ _ (h _ (List.getElem_mem hn)),aA,aA,w64 (by omega) (by omega)]
  cases okG l[n].rune l[n].bU <;> rfl) (by
  rw [decide_eq_false (by omega),cond_false])
 rw [h1,aA]
 rcases h2 with ⟨rfl,h3⟩ | ⟨w,rfl,h4,h3⟩
 ·rw [h3]
  rfl
 ·rw [h3]
  show some (decide (w>=0))=some true
  rw [decide_eq_true h4]
theorem Fo (l:List aP) (hl:l.length<=1000000) (h:okR l):cE l=some (l.any λc=> !okC c):=by
 unfold cE cY
 obtain ⟨q,h1,h2⟩:=find_eq l (λc=> !okC c) hl (λa=>(bif (decide (a < (l.length:Int))) then (Option.bind (idx l a) λb=>(Option.bind (gX b) λd=>(bif d then (fD (some a)) else some (.inl (IntKind.i64.wrap (a+1)))))) else some (.inr (.inl ())))) (by
  intro n hn
  unfold gX
  rw [decide_eq_true (by omega),cond_true,bG l n hn,aA,BU _ (h _ (List.getElem_mem hn)),aA,aA,w64 (by omega) (by omega)]
  cases okC l[n] <;> rfl) (by
  rw [decide_eq_false (by omega),cond_false])
 rw [h1,aA]
 rcases h2 with ⟨rfl,h3⟩ | ⟨w,rfl,h4,h3⟩
 ·rw [h3]
  rfl
 ·rw [h3]
  show some (decide (w>=0))=some true
  rw [decide_eq_true h4]
theorem AP {α:Type} (l:List α) (p:α->Bool):(l.any λx=> !p x) = !(l.all p):=by
 induction l with
 | nil=>rfl
 | cons a l ih=>rw [List.any_cons,List.all_cons,ih,Bool.not_and]
theorem yi (s:aS) (h:SW s):fX s=some (if n8 s then 0 else 1):=by
 unfold fX n8
 rw [empty_eq,aA]
 cases he:iQ s with
 | true =>
  rw [cond_true]
  rfl
 | false =>
  rw [cond_false,Di s h,aA,Fm _ (by have:=h.bl; omega) h.gl,aA,bor,aA,AP]
  cases hs:n7 s with
  | false=>rfl
  | true =>
   cases hg:(s.begun.all λg=>okG g.rune g.bU) with
   | false=>rfl
   | true =>
    show Option.bind (iter _ 0) _=some (if s.rows.all (o3 s.w)=true then 0 else 1)
    have hrl:=h.rl
    refine pj (λi:Int=> ∃ n:Nat,i=n/\n<=s.rows.length/\(s.rows.take n).all (o3 s.w)=true) (λi=>(s.rows.length - i).toNat) (λq=>q=if s.rows.all (o3 s.w)=true then .inl () else .inr 1) ⟨0,rfl,by omega,rfl⟩ ?_ ?_
    ·rintro i ⟨n,rfl,hn,ht⟩
     by_cases hlt:n < s.rows.length
     ·have hro:=h.ro _ (List.getElem_mem hlt)
      have hcond:((bif ((s.rows[n].cells.length:Int) != s.w) then some true else (Option.bind (cE s.rows[n].cells) λa=>some a)):Option Bool)=some (!o3 s.w s.rows[n]):=by
       rw [Fo _ (by omega) hro.1,aA,bor,AP]
       unfold o3
       rw [Bool.not_and]
       rfl
      try dsimp only
      rw [decide_eq_true (by omega),cond_true,bG _ _ hlt,aA,hcond,aA,w64 (by omega) (by omega)]
      cases hb:o3 s.w s.rows[n] with
      | true =>
       refine .inl ⟨((n+1:Nat):Int),rfl,⟨n+1,rfl,hlt,?_⟩,by omega⟩
       rw [List.take_succ_eq_append_getElem hlt,List.all_append,ht]
       simp [hb]
      | false =>
       refine .inr ⟨.inr 1,rfl,?_⟩
       rw [if_neg]
       intro hall
       have:=List.all_eq_true.1 hall _ (List.getElem_mem hlt)
       rw [hb] at this
       cases this
     ·refine .inr ⟨.inl (),?_,?_⟩
      ·try dsimp only
       rw [decide_eq_false (by omega),cond_false]
      ·have hnl:n=s.rows.length:=by omega
       subst hnl
       rw [List.take_length] at ht
       rw [if_pos ht]
    ·rintro q rfl
     by_cases hall:s.rows.all (o3 s.w)=true
     ·rw [if_pos hall,if_pos hall]
     ·rw [if_neg hall,if_neg hall]
def tg (g:aN):aO:=⟨g.rune,g.bU⟩
@[reducible] def fP (s:aS):bL:=⟨s.k,s.w,s.h,s.x,s.y,s.title,s.rows.map told,s.len,s.chain,s.begun.map tg⟩
theorem wj (s:aS):iP (fP s)=some (iQ s):=by
 unfold iP iQ fP
 simp only [wT,aA,List.length_map]
theorem GZ (r s:Int):(decide (r < 0) || (decide (r > 1114111) || (decide (s < 0) || decide (s > 647)))) = !okG r s:=by
 rw [Bool.eq_iff_iff,Bool.not_eq_true',<- Bool.not_eq_true]
 simp only [okG,Bool.or_eq_true,Bool.and_eq_true,decide_eq_true_eq]
 omega
theorem G0 (c:aP):(decide (c.rune < 0) || (decide (c.rune > 1114111) || (decide (c.bU < 0) || (decide (c.bU > 647) || (decide (c.part < 0) || decide (c.part > 3)))))) = !okC c:=by
 rw [Bool.eq_iff_iff,Bool.not_eq_true',<- Bool.not_eq_true]
 simp only [okC,okG,Bool.or_eq_true,Bool.and_eq_true,decide_eq_true_eq]
 omega
theorem uH {α ρ:Type} (l:List α) (p:α->Bool) (bad:ρ) (f:Int->Option (Int ⊕ (Unit ⊕ ρ))) (hl:l.length<=1000000) (hf: ∀ (n:Nat) (hn:n < l.length),f (n:Int)=if p l[n] then some (.inl ((n+1:Nat):Int)) else some (.inr (.inr bad))) (he:f (l.length:Int)=some (.inr (.inl ()))):iter f 0=some (if l.all p=true then .inl () else .inr bad):=by
 obtain ⟨q,h1,h2⟩:=ox (f:=f) (λi:Int=> ∃ n:Nat,i=n/\n<=l.length/\(l.take n).all p=true) (λi=>(l.length - i).toNat) (λq=>q=if l.all p=true then .inl () else .inr bad) (by
  rintro i ⟨n,rfl,hn,ht⟩
  by_cases hlt:n < l.length
  ·by_cases hp:p l[n]=true
   ·refine .inl ⟨((n+1:Nat):Int),by rw [hf n hlt,if_pos hp],⟨n+1,rfl,hlt,?_⟩,by omega⟩
    rw [List.take_succ_eq_append_getElem hlt,List.all_append,ht]
    simp [hp]
   ·refine .inr ⟨.inr bad,by rw [hf n hlt,if_neg hp],?_⟩
    rw [if_neg]
    intro hall
    exact hp (List.all_eq_true.1 hall _ (List.getElem_mem hlt))
  ·have hnl:n=l.length:=by omega
   subst hnl
   rw [List.take_length] at ht
   exact .inr ⟨.inl (),he,by rw [if_pos ht]⟩) 0 ⟨0,rfl,by omega,rfl⟩
 rw [h1,h2]
theorem G1 (c1 c2:Bool) (X out:Option Bool) (h1:(c1 || c2)=true->out=some false) (h2:(c1 || c2)=false->X=out):(bif c1 then some false else bif c2 then some false else X)=out:=by
 cases c1 with
 | true=>exact (h1 rfl).symm
 | false =>
  cases c2 with
  | true=>exact (h1 rfl).symm
  | false=>exact h2 rfl
theorem Dj (s:aS) (h:SW s):ko (fP s)=some (n8 s):=by
 have hrl:=h.rl
 have hbl:=h.bl
 have hRl:(s.rows.map told).length=s.rows.length:=List.length_map _
 have hBl:(s.begun.map tg).length=s.begun.length:=List.length_map _
 unfold ko n8
 rw [wj,aA]
 cases he:iQ s with
 | true=>rfl
 | false =>
  have hS:((decide (s.k < 1) || (decide (s.k > 1152921504606846976) || (decide (s.w < 1) || (decide (s.w > 1000) || (decide (s.h < 1) || (decide (s.h > 1000) || (decide (s.x < 0) || (decide (s.x>=s.w) || (decide (s.y < 0) || (decide (s.y>=s.h) || (((s.rows.map told).length:Int) != s.h))))))))))) || (decide ((s.title.size:Int) > 200) || (decide (s.len < 0) || (decide (s.len > 1152921504606846976) || (decide (s.chain < 0) || (decide (s.chain > 281474976710656) || decide (((s.begun.map tg).length:Int) > 1024))))))) = !n7 s:=by
   rw [Bool.eq_iff_iff,Bool.not_eq_true',<- Bool.not_eq_true]
   simp only [n7,wi,Bool.or_eq_true,Bool.and_eq_true,decide_eq_true_eq,beq_iff_eq,bne_iff_ne,ne_eq]
   omega
  rw [cond_false]
  dsimp only [fP]
  simp only [bor,aA]
  refine G1 _ _ _ _ (λhh=> ?_) (λhh=> ?_)
  ·have hz:n7 s=false:=by
    have h2:(!n7 s)=true:=hS.symm.trans hh
    simpa using h2
   rw [hz]
   rfl
  ·have hz:n7 s=true:=by
    have h2:(!n7 s)=false:=hS.symm.trans hh
    simpa using h2
   rw [hz]
   ·skip
    rw [uH s.begun (λg=>okG g.rune g.bU) false _ (by have:=h.bl; omega) (λn hn=> ?hf1) ?he1,aA]
    ·cases hg:(s.begun.all λg=>okG g.rune g.bU) with
     | false=>rfl
     | true =>
      rw [if_pos rfl]
      dsimp only
      rw [uH s.rows (o3 s.w) false _ (by have:=h.rl; omega) (λn hn=> ?hf2) ?he2,aA]
      ·cases s.rows.all (o3 s.w) <;> rfl
      case hf2 =>
       have hro:=h.ro _ (List.getElem_mem hn)
       rw [decide_eq_true (by omega),cond_true,bG _ _ (by simpa using hn),aA,List.getElem_map]
       have htl:(told s.rows[n]).l=s.rows[n].cells.map tc:=rfl
       rw [htl,fF]
       by_cases hw:(s.rows[n].cells.length:Int)=s.w
       ·have hb:((s.rows[n].cells.length:Int) != s.w)=false:=by simpa using hw
        have hb2:((s.rows[n].cells.length:Int) == s.w)=true:=by simpa using hw
        rw [hb,cond_false]
        rw [uH s.rows[n].cells okC (.inr (.inr false)) _ (by omega) (λk hk=> ?hf3) ?he3,aA]
        ·unfold o3
         rw [hb2,Bool.true_and]
         cases s.rows[n].cells.all okC with
         | true =>
          rw [if_pos rfl,if_pos rfl]
          dsimp only
          rw [w64 (by omega) (by omega)]
          rfl
         | false=>rfl
        case hf3 =>
         rw [decide_eq_true (by omega),cond_true,bG _ _ (by simpa using hk),aA,List.getElem_map]
         show (bif (decide ((s.rows[n].cells[k]).rune < 0) || (decide ((s.rows[n].cells[k]).rune > 1114111) || (decide ((s.rows[n].cells[k]).bU < 0) || (decide ((s.rows[n].cells[k]).bU > 647) || (decide ((s.rows[n].cells[k]).part < 0) || decide ((s.rows[n].cells[k]).part > 3)))))) then _ else _)=_
         rw [G0,w64 (by omega) (by omega)]
         cases okC s.rows[n].cells[k] <;> rfl
        case he3 =>
         rw [decide_eq_false (by omega),cond_false]
       ·have hb:((s.rows[n].cells.length:Int) != s.w)=true:=by simpa using hw
        have hb2:((s.rows[n].cells.length:Int) == s.w)=false:=by simpa using hw
        rw [hb,cond_true]
        unfold o3
        rw [hb2,Bool.false_and]
        rfl
      case he2 =>
       rw [decide_eq_false (by omega),cond_false]
    case hf1 =>
     rw [decide_eq_true (by omega),cond_true,bG _ _ (by simpa using hn),aA,List.getElem_map]
     show (bif (decide ((s.begun[n]).rune < 0) || (decide ((s.begun[n]).rune > 1114111) || (decide ((s.begun[n]).bU < 0) || decide ((s.begun[n]).bU > 647)))) then _ else _)=_
     rw [GZ,w64 (by omega) (by omega)]
     cases okG s.begun[n].rune s.begun[n].bU <;> rfl
    case he1 =>
     rw [decide_eq_false (by omega),cond_false]
theorem wU (b:List Int) (s:ByteArray) (hb:b.length+s.size<=10000000):iK ⟨b⟩ [s]=some ⟨b++sbs s⟩:=by
 unfold iK
 rw [bY (s':=((⟨b++sbs s⟩:cK),(1:Int)))]
 ·rw [bC (r:=(⟨b++sbs s⟩:cK))]
  ·rfl
  ·dsimp only
   rw [decide_eq_false (by simp),cond_false]
 ·dsimp only
  have h0:idx [s] 0=some s:=rfl
  rw [decide_eq_true (by simp),cond_true,h0,aA,bP (by omega),aA]
  rfl
theorem yj (b:List Int) (s:ByteArray) (hb:b.length+s.size<=1000000):ja ⟨b⟩ [s]=some ⟨b++(cI s.size++sbs s)⟩:=by
 unfold ja
 have he:=cJ (s.size:Int)
 rw [bY (s':=((⟨b++(cI s.size++sbs s)⟩:cK),(1:Int)))]
 ·rw [bC (r:=(⟨b++(cI s.size++sbs s)⟩:cK))]
  ·rfl
  ·dsimp only
   rw [decide_eq_false (by simp),cond_false]
 ·dsimp only
  have h0:idx [s] 0=some s:=rfl
  rw [decide_eq_true (by simp),cond_true,h0,aA,nm _ _ (by simp; omega),aA]
  simp only [List.flatMap_cons,List.flatMap_nil,List.append_nil]
  rw [wU _ _ (by rw [List.length_append]; omega),aA,List.append_assoc]
  rfl
def qJ (g:aN):List Int:=[g.rune,g.bU].flatMap cI
def mN (l:List aN):List Int:=cI l.length++l.flatMap qJ
theorem Dl (g:aN):(qJ g).length<=18:=by
 unfold qJ
 simp only [List.flatMap_cons,List.flatMap_nil,List.length_append,List.length_nil]
 have h1:=cJ g.rune
 have h2:=cJ g.bU
 omega
theorem sO (l:List aN):(l.flatMap qJ).length<=18*l.length:=by
 induction l with
 | nil=>simp
 | cons a t ih =>
  rw [List.flatMap_cons,List.length_append,List.length_cons]
  have:=Dl a
  omega
theorem Dm (l:List aN) (h:l.length<=2000) (hr: ∀ g∈l,rok g.rune):mw l=some (dL (mN l)):=by
 unfold mw fG mN
 have he:=cJ (l.length:Int)
 rw [nm [] _ (by simp),aA]
 have e0:([]++[(l.length:Int)].flatMap cI)=cI l.length:=by simp
 rw [e0]
 refine dX (λi=>((⟨cI l.length++(l.take i).flatMap qJ⟩:cK),(i:Int))) l.length (⟨cI l.length++l.flatMap qJ⟩:cK) (by simp) ?_ ?_ rfl
 ·intro i hi
  dsimp only
  have h2:=sO (l.take i)
  rw [List.length_take] at h2
  rw [decide_eq_true (by omega),cond_true,bG _ _ hi,aA,w32 (hr _ (List.getElem_mem hi)),nm _ _ (by simp only [List.length_append,List.length_cons,List.length_nil]; omega),aA,w64 (by omega) (by omega),List.take_succ_eq_append_getElem hi,List.flatMap_append,List.flatMap_singleton,List.append_assoc]
  rfl
 ·dsimp only
  rw [decide_eq_false (by omega),cond_false,List.take_length]
theorem BV (l:List aN) (h:l.length<=2000):lE (l.map tg)=some (dL (mN l)):=by
 unfold lE mN
 have he:=cJ (l.length:Int)
 rw [List.length_map,jE,aA]
 refine dX (λi=>((i:Int),dL (cI l.length++(l.take i).flatMap qJ))) l.length (dL (cI l.length++l.flatMap qJ)) (by simp) ?_ ?_ rfl
 ·intro i hi
  dsimp only
  have h2:=sO (l.take i)
  rw [List.length_take] at h2
  have h3:=cJ l[i].rune
  have h4:=cJ l[i].bU
  rw [decide_eq_true (by omega),cond_true,bG _ _ (by simpa using hi),aA,List.getElem_map]
  show Option.bind (cG l[i].rune) _=_
  rw [jE,aA]
  show Option.bind (cG l[i].bU) _=_
  rw [jE,aA,eD (by rw [bQ,bQ]; omega),aA,<- dG,eD (by rw [bQ,bQ,List.length_append,List.length_append]; omega),aA,<- dG,w64 (by omega) (by omega),List.take_succ_eq_append_getElem hi,List.flatMap_append,List.flatMap_singleton,List.append_assoc]
  have hE:qJ l[i]=cI l[i].rune++cI l[i].bU:=by unfold qJ; simp
  rw [hE]
  rfl
 ·dsimp only
  rw [decide_eq_false (by omega),cond_false,List.take_length]
def nF (s:aS):List Int:=[s.k,s.w,s.h,s.x,s.y].flatMap cI++(cI s.title.size++sbs s.title)++[s.len,s.chain].flatMap cI++mN s.begun
def tw (s:aS):List Int:=nF s++s.rows.flatMap fS
theorem sP (s:aS) (h:SW s):(nF s).length<=52000:=by
 unfold nF mN
 simp only [List.flatMap_cons,List.flatMap_nil,List.length_append,List.length_nil,bD]
 have a1:=cJ s.k
 have a2:=cJ s.w
 have a3:=cJ s.h
 have a4:=cJ s.x
 have a5:=cJ s.y
 have a6:=cJ (s.title.size:Int)
 have a7:=cJ s.len
 have a8:=cJ s.chain
 have a9:=cJ (s.begun.length:Int)
 have b1:=sO s.begun
 have b2:=h.bl
 have b3:=h.tl
 omega
theorem AQ (l:List aY) (i:Nat):((l.take i).flatMap fS).length<=(l.flatMap fS).length:=by
 have:l.flatMap fS=(l.take i).flatMap fS++(l.drop i).flatMap fS:=by rw [<- List.flatMap_append,List.take_append_drop]
 rw [this,List.length_append]
 omega
def kc (s:aS):ByteArray:=if iQ s=true\/n8 s=false then noS else dL (tw s)
theorem AR (s:aS) (h:SW s) (hp:(s.rows.flatMap fS).length<=1000000):ic s=some (kc s):=by
 unfold ic kc
 have hc:((Option.bind (fW s) λa=>(bif a then some true else (Option.bind (fX s) λc=>some (c != 0)))):Option Bool)=some (iQ s || !n8 s):=by
  rw [empty_eq,aA,yi s h,aA]
  cases iQ s <;> cases n8 s <;> rfl
 rw [hc,aA]
 by_cases hb:iQ s=true\/n8 s=false
 ·rw [if_pos hb]
  have:(iQ s || !n8 s)=true:=by
   rcases hb with hb | hb <;> simp [hb]
  rw [this,cond_true]
  rfl
 ·rw [if_neg hb]
  have hne:iQ s=false:=by cases he:iQ s with | true=>exact absurd (.inl he) hb | false=>rfl
  have hm:n8 s=true:=by cases he:n8 s with | false=>exact absurd (.inr he) hb | true=>rfl
  rw [hne,hm]
  show Option.bind (dH ⟨[]⟩ [s.k,s.w,s.h,s.x,s.y]) _=_
  have hpl:=sP s h
  have htl:=h.tl
  have hph:(nF s).length=([s.k,s.w,s.h,s.x,s.y].flatMap cI).length+((cI s.title.size++sbs s.title).length+(([s.len,s.chain].flatMap cI).length+(mN s.begun).length)):=by
   unfold nF
   rw [List.length_append,List.length_append,List.length_append]
   omega
  have hts:(cI s.title.size++sbs s.title).length=(cI s.title.size).length+s.title.size:=by rw [List.length_append,bD]
  have hbs: ∀ b∈mN s.begun,0<=b/\b < 256:=by
   intro b hb
   unfold mN at hb
   rcases List.mem_append.1 hb with hb | hb
   ·exact oy _ b hb
   ·obtain ⟨g,_,hg⟩:=List.mem_flatMap.1 hb
    unfold qJ at hg
    obtain ⟨x,_,hx⟩:=List.mem_flatMap.1 hg
    exact oy _ b hx
  rw [nm _ _ (by simp),aA,List.nil_append,yj _ _ (by omega),aA,nm _ _ (by rw [List.length_append]; simp only [List.length_cons,List.length_nil]; omega),aA,Dm _ h.bl h.gl,aA,wU _ _ (by rw [bQ,List.length_append,List.length_append]; omega),aA,lL _ hbs]
  have hhead:[s.k,s.w,s.h,s.x,s.y].flatMap cI++(cI s.title.size++sbs s.title)++[s.len,s.chain].flatMap cI++mN s.begun=nF s:=rfl
  rw [hhead]
  refine dX (λi=>((⟨nF s++(s.rows.take i).flatMap fS⟩:cK),(i:Int))) s.rows.length (⟨tw s⟩:cK) (by simp) ?_ ?_ rfl
  ·intro i hi
   have hro:=h.ro _ (List.getElem_mem hi)
   have hl1:=AQ s.rows (i+1)
   rw [List.take_succ_eq_append_getElem hi,List.flatMap_append,List.flatMap_singleton,List.length_append] at hl1
   have hrl:=h.rl
   have hbr: ∀ b∈fS s.rows[i],0<=b/\b < 256:=by
    intro b hb
    unfold fS at hb
    rcases List.mem_append.1 hb with hb | hb
    ·exact oy _ b hb
    ·obtain ⟨g,_,hg⟩:=List.mem_flatMap.1 hb
     unfold jj at hg
     obtain ⟨x,_,hx⟩:=List.mem_flatMap.1 hg
     exact oy _ b hx
   dsimp only
   rw [decide_eq_true (by omega),cond_true,bG _ _ hi,aA,zQ _ hro.2 hro.1,aA,wU _ _ (by rw [bQ,List.length_append]; omega),aA,lL _ hbr,w64 (by omega) (by omega),List.take_succ_eq_append_getElem hi,List.flatMap_append,List.flatMap_singleton,List.append_assoc]
   rfl
  ·have hrl:=h.rl
   dsimp only
   rw [decide_eq_false (by omega),cond_false,List.take_length]
   rfl
def vq (j:aK) (n:Int):ByteArray×aK:=if j.e≠0 then (noS,j) else if n > j.s.size then (noS,⟨noS,2⟩) else (ik j.s 0 n,⟨ik j.s n j.s.size,0⟩)
def mO (i:aK):ByteArray×aK:=vq (rdS i).2 (rdS i).1
theorem AS:ik noS 0 0=noS:=by
 apply pT
 have:=ji noS 0 0
 exact this
theorem G2 (j:aK) (n:Int) (h:VI j) (h0:0<=n) (he:j.e≠0->n=0):lz j n=some (vq j n):=by
 obtain ⟨s,e⟩:=j
 unfold lz vq
 have hm:imax 0 n=n:=by rw [wF]; omega
 have hsz:=h.1
 rw [hm]
 dsimp only at *
 by_cases hz:e=0
 ·subst hz
  rw [if_neg (by simp)]
  by_cases hb:n > s.size
  ·rw [decide_eq_true hb,cond_true,if_pos hb,oz _ _ (by decide),aA]
   rfl
  ·rw [decide_eq_false hb,cond_false,if_neg hb,cV (by omega) (by omega) (by omega),aA,cV (by omega) (by omega) (by omega),aA]
 ·obtain rfl:=he hz
  obtain rfl:s=noS:=h.2.resolve_left hz
  rw [if_pos hz,decide_eq_false (by decide),cond_false,cV (by decide) (by decide) (by decide),aA,cV (by decide) (by decide) (by decide),aA]
  have h2:ik noS 0 (noS.size:Int)=noS:=AS
  rw [AS,h2]
theorem AT (i:aK) (h:VI i):iL i=some (mO i):=by
 unfold iL mO
 rw [jV i h,aA,G2 _ _ (fH h) (kT h).1 (λhe=>qF he),aA]
theorem wk (i:aK) (h:VI i):gG (asR i)=some (asR (mO i).2,(mO i).1):=by
 unfold gG mO
 rw [gR i h,aA]
 have hr:=kT h
 have hV:=fH h
 generalize (rdS i).1=n at hr
 generalize (rdS i).2=j at hV
 obtain ⟨s,e⟩:=j
 have hsz:=hV.1
 dsimp only at *
 unfold nO vq asR
 have hm:imax 0 n=n:=by rw [wF]; omega
 rw [hm]
 dsimp only
 by_cases hz:e=0
 ·subst hz
  have e0:((0:Int) != 0)=false:=rfl
  rw [e0,cond_false,if_neg (by simp)]
  by_cases hb:n > s.size
  ·rw [decide_eq_true hb,cond_true,if_pos hb]
   rfl
  ·rw [decide_eq_false hb,cond_false,if_neg hb,cV (by omega) (by omega) (by omega),aA,cV (by omega) (by omega) (by omega),aA]
   rfl
 ·have e0:(e != 0)=true:=by simpa using hz
  rw [e0,cond_true,if_pos hz]
  rfl
theorem sQ {i:aK} (h:VI i):VI (mO i).2:=by
 unfold mO vq
 have hV:=fH h
 split
 ·exact hV
 ·split
  ·exact ⟨by show noS.size<=1000000; decide,.inr rfl⟩
  ·refine ⟨?_,.inl rfl⟩
   have hr:=kT h
   obtain ⟨n,hn⟩:=Int.eq_ofNat_of_zero_le hr.1
   show (ik (rdS i).2.s (rdS i).1 (rdS i).2.s.size).size<=1000000
   rw [hn,<- bD,ji,List.length_drop,List.length_take,bD]
   have:=hV.1
   omega
theorem uI {i:aK} (h:VI i) {m:Nat} (hm:i.s.size<=m):(mO i).1.size<=m/\(i.e=0\/i.s=noS):=by
 refine ⟨?_,h.2⟩
 unfold mO vq
 split
 ·exact Nat.zero_le _
 ·split
  ·exact Nat.zero_le _
  ·rename_i he hn
   have he':(rdS i).2.e=0:=by simpa using he
   obtain ⟨_,w,hw,_,hb⟩:=v9 he' h
   have hl:=congrArg List.length hb
   rw [List.length_append,bD,bD] at hl
   show (ik (rdS i).2.s 0 (rdS i).1).size<=m
   rw [hw,show (0:Int)=((0:Nat):Int) from rfl,<- bD,ji,List.length_drop,List.length_take,bD]
   omega
theorem Dr {i:aK} (h:VI i) (he:(mO i).2.e=0):i.e=0/\sbs i.s=cI (mO i).1.size++sbs (mO i).1++sbs (mO i).2.s:=by
 unfold mO vq at *
 by_cases h1:(rdS i).2.e=0
 ·rw [if_neg (by simpa using h1)] at he ⊢
  by_cases h2:(rdS i).1 > (rdS i).2.s.size
  ·rw [if_pos h2] at he
   exact absurd he (by decide)
  ·rw [if_neg h2] at he ⊢
   obtain ⟨e0,w,hw,hm,hb⟩:=v9 h1 h
   refine ⟨e0,?_⟩
   rw [hw] at h2 ⊢
   have hs1:sbs (ik (rdS i).2.s 0 (w:Int))=(sbs (rdS i).2.s).take w:=by
    have:=ji (rdS i).2.s 0 w
    simpa using this
   have hs2:sbs (ik (rdS i).2.s (w:Int) (rdS i).2.s.size)=(sbs (rdS i).2.s).drop w:=by
    rw [ji]
    congr 1
    exact List.take_of_length_le (by rw [bD]; exact Nat.le_refl _)
   have hsz:(ik (rdS i).2.s 0 (w:Int)).size=w:=by
    rw [<- bD,hs1,List.length_take,bD]
    omega
   dsimp only
   rw [hsz,hs1,hs2,kr hm,List.append_assoc,List.take_append_drop]
   exact hb
 ·rw [if_pos h1] at he
  exact absurd he h1
def bkL:Nat->aK->List aN->List aN×aK
 | 0,i,l=>(l,i)
 | k+1,i,l=>bkL k (cC (cC i 1114111).2 647).2 (l++[⟨(cC i 1114111).1,(cC (cC i 1114111).2 647).1⟩])
def bkS (i:aK):List aN×aK:=if (bkL (cC i 1024).1.toNat (cC i 1024).2 []).2.e=0 then bkL (cC i 1024).1.toNat (cC i 1024).2 [] else ([],(bkL (cC i 1024).1.toNat (cC i 1024).2 []).2)
theorem zV: ∀ (k:Nat) (i:aK) (l:List aN),VI i->VI (bkL k i l).2
 | 0,i,l,h=>h
 | k+1,i,l,h=>zV k _ _ (fR _ (fR _ h))
theorem sR {i:aK} (h:VI i):VI (bkS i).2:=by
 unfold bkS
 split
 ·exact zV _ _ _ (fR _ h)
 ·exact zV _ _ _ (fR _ h)
theorem tV: ∀ (k:Nat) (i:aK) (l:List aN),i.e≠0->(bkL k i l).2=i
 | 0,i,l,h=>rfl
 | k+1,i,l,h=>by
  unfold bkL
  have h1:=rh h 1114111 (by omega)
  have h2:=rh (i:=(cC i 1114111).2) (by rw [h1]; exact h) 647 (by omega)
  rw [tV k _ _ (by rw [h2,h1]; exact h),h2,h1]
theorem yk (i:aK) (h:VI i):jr i=some (bkS i):=by
 unfold jr
 rw [wQ h (by omega),aA]
 have hr:=gS (m:=1024) h (by omega)
 have hV:=fR 1024 h
 unfold bkS
 generalize (cC i 1024).2=j at hV
 obtain ⟨N,hN⟩:=Int.eq_ofNat_of_zero_le hr.1
 rw [hN] at hr ⊢
 rw [Int.toNat_natCast]
 have key: ∀ (k n:Nat) (j:aK) (l:List aN),n+k=N->VI j->l.length=n->iter (σ:=aK×(List aN)×Int) (ρ:=(List aN)×aK) (λa=>(bif (decide (a.2.2 < (N:Int))) then (Option.bind (fU a.1 1114111) λb=>(Option.bind (fU b.2 647) λc=>(Option.bind (chk (cW a.2.1.length [(aN.mk (IntKind.i32.wrap b.1) c.1)].length 16)) λ_=>some (.inl (c.2,(a.2.1++[(aN.mk (IntKind.i32.wrap b.1) c.1)]),(IntKind.i64.wrap (a.2.2+1))))))) else some (.inr (a.2.1,a.1)))) (j,l,(n:Int))=some (bkL k j l):=by
  intro k
  induction k with
  | zero =>
   intro n j l hn hV hl
   refine bC ?_
   dsimp only
   rw [decide_eq_false (by omega),cond_false]
   rfl
  | succ k ih =>
   intro n j l hn hV hl
   have hA:=gS (m:=1114111) hV (by omega)
   have hw:IntKind.i32.wrap (cC j 1114111).1=(cC j 1114111).1:=by rw [IntKind.wrap_i32]; omega
   rw [bY (s':=((cC (cC j 1114111).2 647).2,l++[⟨(cC j 1114111).1,(cC (cC j 1114111).2 647).1⟩],((n+1:Nat):Int)))]
   ·rw [ih (n+1) _ _ (by omega) (fR _ (fR _ hV)) (by simp [hl])]
    rfl
   ·dsimp only
    rw [decide_eq_true (by omega),cond_true,wQ hV (by omega),aA,wQ (fR _ hV) (by omega),aA,hw,bP (by simp; omega),aA,w64 (by omega) (by omega)]
    rfl
 have:=key N 0 j [] (by omega) hV rfl
 rw [show ((0:Nat):Int)=0 from rfl] at this
 rw [this,aA]
 unfold cX
 rw [aA]
 by_cases he:(bkL N j []).2.e=0
 ·have hb:((bkL N j []).2.e != 0)=false:=by simpa using he
  rw [hb,cond_false,if_pos he]
 ·have hb:((bkL N j []).2.e != 0)=true:=by simpa using he
  rw [hb,cond_true,if_neg he]
def Du (r:List aN×aK):List aN×aK:=if r.2.e=0 then r else ([],r.2)
theorem uJ {k:Nat} {i:aK} {l:List aN} (h:i.e≠0):Du (bkL k i l)=([],i):=by
 unfold Du
 rw [tV k i l h,if_neg h]
theorem wm (i:aK) (h:VI i):iF (asR i)=some (asR (bkS i).2,(bkS i).1.map tg):=by
 have hfin:bkS i=Du (bkL (cC i 1024).1.toNat (cC i 1024).2 []):=rfl
 unfold iF
 rw [gR i h,aA]
 dsimp only
 rw [oA,wS,aA]
 by_cases hb:(rdS i).2.e=0/\(rdS i).1 > 1024
 ·rw [decide_eq_true hb,cond_true,hfin]
  have hl:cC i 1024=(0,jW):=by unfold cC; rw [if_pos hb.2]
  rw [hl]
  rfl
 ·rw [decide_eq_false hb,cond_false]
  have hr:=kT h
  have hle:(rdS i).1<=1024:=by
   by_cases he:(rdS i).2.e=0
   ·omega
   ·rw [qF he]
    omega
  have hl:cC i 1024=rdS i:=by unfold cC; rw [if_neg (by omega)]
  rw [hfin,hl]
  have hV:=fH h
  generalize (rdS i).2=j at hV
  obtain ⟨N,hN⟩:=Int.eq_ofNat_of_zero_le hr.1
  rw [hN] at hle ⊢
  rw [Int.toNat_natCast]
  have key: ∀ (k n:Nat) (j:aK) (l:List aN) (f:aX×(List aO)×Int->Option ((aX×(List aO)×Int) ⊕ (((List aO)×aX) ⊕ (aX×(List aO))))),f=(λ(s182:aX×(List aO)×Int)=>(Option.bind ((bif (decide (s182.2.2 < (N:Int))) then some (s182.1.e == 0) else some false):Option Bool) λg=>(bif g then (Option.bind (bJ s182.1) λb=>(Option.bind ((bif (b.1.e == 0) then some (decide (b.2 > 1114111)) else some false):Option Bool) λc=>(bif c then (fD (some ((aX.mk (ByteArray.mk #[]) 1),([]:List aO)))) else (Option.bind (bJ b.1) λa=>(Option.bind ((bif (a.1.e == 0) then some (decide (a.2 > 647)) else some false):Option Bool) λd=>(bif d then (fD (some ((aX.mk (ByteArray.mk #[]) 1),([]:List aO)))) else (Option.bind (chk (cW s182.2.1.length [(aO.mk b.2 a.2)].length 16)) λ_=>some (.inl (a.1,(s182.2.1++[(aO.mk b.2 a.2)]),(IntKind.i64.wrap (s182.2.2+1))))))))))) else some (.inr (.inl (s182.2.1,s182.1))))))->n+k=N->VI j->l.length=n ->
    ∃ q,iter f (asR j,l.map tg,(n:Int))=some q/\((∃ l' j',q = .inl (l'.map tg,asR j')/\Du (bkL k j l)=(if j'.e=0 then (l',j') else ([],j')))\/(∃ j',q = .inr (asR j',[])/\Du (bkL k j l)=([],j'))):=by
   intro k
   induction k with
   | zero =>
    intro n j l f hf hn hV hl
    refine ⟨.inl (l.map tg,asR j),?_,.inl ⟨l,j,rfl,rfl⟩⟩
    refine bC ?_
    subst hf
    dsimp only
    rw [oA,nS,decide_eq_false (by omega),aA,cond_false]
   | succ k ih =>
    intro n j l f hf hn hV hl
    by_cases he:j.e=0
    ·have hVr:=fH hV
     have hstep:f (asR j,l.map tg,(n:Int))=(Option.bind ((bif ((asR (rdS j).2).e == 0) then some (decide ((rdS j).1 > 1114111)) else some false):Option Bool) λc=>(bif c then (fD (some ((aX.mk (ByteArray.mk #[]) 1),([]:List aO)))) else (Option.bind (bJ (asR (rdS j).2)) λa=>(Option.bind ((bif (a.1.e == 0) then some (decide (a.2 > 647)) else some false):Option Bool) λd=>(bif d then (fD (some ((aX.mk (ByteArray.mk #[]) 1),([]:List aO)))) else (Option.bind (chk (cW (l.map tg).length [(aO.mk (rdS j).1 a.2)].length 16)) λ_=>some (.inl (a.1,((l.map tg)++[(aO.mk (rdS j).1 a.2)]),(IntKind.i64.wrap ((n:Int)+1)))))))))):=by
      subst hf
      dsimp only
      rw [oA,nS,decide_eq_true ⟨by omega,he⟩,aA,cond_true,gR j hV,aA]
     rw [oA,wS] at hstep
     by_cases hb1:(rdS j).2.e=0/\(rdS j).1 > 1114111
     ·refine ⟨.inr (asR jW,[]),?_,.inr ⟨jW,rfl,?_⟩⟩
      ·refine bC ?_
       rw [hstep,decide_eq_true hb1,aA,cond_true]
       rfl
      ·have h1:cC j 1114111=(0,jW):=by unfold cC; rw [if_pos hb1.2]
       unfold bkL
       rw [h1]
       have h2:(cC jW 647).2=jW:=rh (by decide) 647 (by omega)
       dsimp only
       rw [h2,uJ (by decide)]
     ·have hle1:(rdS j).1<=1114111:=by
       by_cases he2:(rdS j).2.e=0
       ·omega
       ·rw [qF he2]
        omega
      have h1:cC j 1114111=rdS j:=by unfold cC; rw [if_neg (by omega)]
      rw [decide_eq_false hb1,aA,cond_false,gR _ hVr,aA] at hstep
      dsimp only at hstep
      rw [oA,wS] at hstep
      by_cases hb2:(rdS (rdS j).2).2.e=0/\(rdS (rdS j).2).1 > 647
      ·refine ⟨.inr (asR jW,[]),?_,.inr ⟨jW,rfl,?_⟩⟩
       ·refine bC ?_
        rw [hstep,decide_eq_true hb2,aA,cond_true]
        rfl
       ·have h2:cC (rdS j).2 647=(0,jW):=by unfold cC; rw [if_pos hb2.2]
        unfold bkL
        rw [h1,h2,uJ (by decide)]
      ·have hle2:(rdS (rdS j).2).1<=647:=by
        by_cases he2:(rdS (rdS j).2).2.e=0
        ·omega
        ·rw [qF he2]
         omega
       have h2:cC (rdS j).2 647=rdS (rdS j).2:=by unfold cC; rw [if_neg (by omega)]
       obtain ⟨q,hq1,hq2⟩:=ih (n+1) (rdS (rdS j).2).2 (l++[(aN.mk (rdS j).1 (rdS (rdS j).2).1)]) f hf (by omega) (fH hVr) (by simp [hl])
       refine ⟨q,?_,?_⟩
       ·rw [bY (s':=(asR (rdS (rdS j).2).2,(l++[(aN.mk (rdS j).1 (rdS (rdS j).2).1)]).map tg,((n+1:Nat):Int)))]
        ·exact hq1
        ·rw [hstep,decide_eq_false hb2,aA,cond_false,bP (by simp; omega),aA,w64 (by omega) (by omega),List.map_append]
         rfl
       ·unfold bkL
        rw [h1,h2]
        exact hq2
    ·refine ⟨.inl (l.map tg,asR j),?_,.inl ⟨l,j,rfl,?_⟩⟩
     ·refine bC ?_
      subst hf
      dsimp only
      rw [oA,nS,decide_eq_false (λhh=>he hh.2),aA,cond_false]
     ·rw [uJ he,if_neg he]
  obtain ⟨q,hq1,hq2⟩:=key N 0 j [] _ rfl (by omega) hV rfl
  have hq1':iter _ (asR j,([]:List aO),(0:Int))=some q:=hq1
  rw [hq1',aA]
  rcases hq2 with ⟨l',j',rfl,hf⟩ | ⟨j',rfl,hf⟩
  ·rw [hf]
   dsimp only
   by_cases he:j'.e=0
   ·have hb:((asR j').e != 0)=false:=by simpa [asR] using he
    rw [hb,cond_false,if_pos he]
   ·have hb:((asR j').e != 0)=true:=by simpa [asR] using he
    rw [hb,cond_true,if_neg he]
    rfl
  ·rw [hf]
   rfl
def kd (x:aS) (l:List aY):aS:=⟨x.k,x.w,x.h,x.x,x.y,x.title,l,x.len,x.chain,x.begun⟩
def jM:aS:=⟨0,0,0,0,0,noS,[],0,0,[]⟩
def ku (i:aK):Int:=if i.s≠noS then 1 else i.e
theorem wV (i:aK):jy i=some (ku i):=by
 unfold jy ku
 have:(i.s.toList == (ByteArray.mk #[]).toList)=decide (i.s=noS):=np i.s noS
 rw [this]
 by_cases h:i.s=noS
 ·rw [decide_eq_true h,if_neg (λhh=>hh h)]; rfl
 ·rw [decide_eq_false h,if_pos h]; rfl
theorem AU (i:aK) (h:VI i):lk (asR i)=some (ku i):=by
 unfold lk ku
 have:((asR i).s.toList == (ByteArray.mk #[]).toList)=decide (i.s=noS):=np i.s noS
 rw [this]
 by_cases he:i.e=0
 ·have h2:((asR i).e == 0)=true:=by simpa [asR] using he
  rw [h2,cond_true,aA]
  by_cases h:i.s=noS
  ·rw [decide_eq_true h,if_neg (λhh=>hh h)]; rfl
  ·rw [decide_eq_false h,if_pos h]; rfl
 ·have h2:((asR i).e == 0)=false:=by simpa [asR] using he
  rw [h2,cond_false,aA,cond_false]
  rcases h.2 with h | h
  ·exact absurd h he
  ·rw [if_neg (λhh=>hh h)]; rfl
def hA (s:ByteArray):=rdS ⟨s,0⟩
def hB (s:ByteArray):=cC (hA s).2 1000
def hC (s:ByteArray):=cC (hB s).2 1000
def hD (s:ByteArray):=rdS (hC s).2
def hE (s:ByteArray):=rdS (hD s).2
def hT (s:ByteArray):=mO (hE s).2
def SZ (m:Nat) (i:aK):Prop:=VI i/\i.s.size<=m
theorem lM {i:aK} {m:Nat} (h:SZ m i):SZ m (rdS i).2:=by
 refine ⟨fH h.1,?_⟩
 by_cases he:(rdS i).2.e=0
 ·obtain ⟨-,w, -, -,hw⟩:=v9 he h.1
  have:=congrArg List.length hw
  rw [List.length_append,bD,bD] at this
  have:=h.2
  omega
 ·rcases (fH h.1).2 with h1 | h1
  ·exact absurd h1 he
  ·rw [h1]; exact Nat.zero_le _
theorem wW {i:aK} {m:Nat} (k:Int) (h:SZ m i):SZ m (cC i k).2:=by
 unfold cC
 split
 ·exact ⟨nE,Nat.zero_le _⟩
 ·exact lM h
theorem zW: ∀ (k:Nat) (i:aK) (l:List aN),VI i->(∀ g∈l,rok g.rune)->(∀ g∈(bkL k i l).1,rok g.rune)/\(bkL k i l).1.length=l.length+k
 | 0,i,l,h,hl=>⟨hl,rfl⟩
 | k+1,i,l,h,hl=>by
  unfold bkL
  have:=zW k (cC (cC i 1114111).2 647).2 (l++[⟨(cC i 1114111).1,(cC (cC i 1114111).2 647).1⟩]) (fR _ (fR _ h)) (by
   intro g hg
   rcases List.mem_append.1 hg with h1 | h1
   ·exact hl g h1
   ·rw [List.mem_singleton.1 h1]
    have:=gS (m:=1114111) h (by omega)
    unfold rok
    dsimp only
    omega)
  refine ⟨this.1,this.2.trans ?_⟩
  simp only [List.length_append,List.length_cons,List.length_nil]
  omega
theorem Dv {i:aK} (h:VI i):(∀ g∈(bkS i).1,rok g.rune)/\(bkS i).1.length<=1024:=by
 unfold bkS
 have hr:=gS (m:=1024) h (by omega)
 have:=zW (cC i 1024).1.toNat (cC i 1024).2 [] (fR _ h) (by intro g hg; cases hg)
 split
 ·refine ⟨this.1,?_⟩
  rw [this.2]
  simp only [List.length_nil]
  omega
 ·exact ⟨λg hg=>(by cases hg),Nat.zero_le _⟩
theorem sS {α:Type} [DecidableEq α] (a b:List α) (hl:a.length=b.length) (f:Int->Option (Int ⊕ (Unit ⊕ Bool))) (hf: ∀ (n:Nat) (h1:n < a.length) (h2:n < b.length),f (n:Int)=if a[n]=b[n] then some (.inl ((n+1:Nat):Int)) else some (.inr (.inr false))) (he:f (a.length:Int)=some (.inr (.inl ()))):iter f 0=some (if a=b then .inl () else .inr false):=by
 obtain ⟨r,h1,h2⟩:=ox (f:=f) (λi:Int=> ∃ n:Nat,i=n/\n<=a.length/\a.take n=b.take n) (λi=>(a.length - i).toNat) (λr=>r=(if a=b then .inl () else .inr false)) (by
  rintro i ⟨n,rfl,hn,ht⟩
  by_cases h1:n < a.length
  ·have h2:n < b.length:=by omega
   by_cases he:a[n]=b[n]
   ·refine .inl ⟨((n+1:Nat):Int),?_,⟨n+1,rfl,by omega,?_⟩,by (try dsimp only); omega⟩
    ·rw [hf n h1 h2,if_pos he]
    ·rw [List.take_succ_eq_append_getElem h1,List.take_succ_eq_append_getElem h2,ht,he]
   ·refine .inr ⟨.inr false,?_,?_⟩
    ·rw [hf n h1 h2,if_neg he]
    ·rw [if_neg]
     intro hab
     subst hab
     exact he rfl
  ·refine .inr ⟨.inl (),?_,?_⟩
   ·have hn2:n=a.length:=by omega
    rw [hn2,he]
   ·rw [if_pos]
    have hn2:n=a.length:=by omega
    subst hn2
    rw [List.take_length] at ht
    rw [ht,hl,List.take_length]) 0 ⟨0,rfl,by omega,rfl⟩
 rw [h1,h2]
theorem uK (a b:List aN) (ha:a.length<=1000000) (hr: ∀ g∈a,rok g.rune):jg a (b.map tg)=some (decide (a=b)):=by
 unfold jg
 rw [List.length_map]
 by_cases hl:a.length=b.length
 ·have e0:((a.length:Int) != (b.length:Int))=false:=by simp [hl]
  rw [e0,cond_false,sS a b hl]
  ·by_cases h:a=b
   ·rw [if_pos h,decide_eq_true h]; rfl
   ·rw [if_neg h,decide_eq_false h]; rfl
  ·intro n h1 h2
   have hi2:idx (b.map tg) (n:Int)=some (tg b[n]):=by rw [bG _ _ (by simpa using h2),List.getElem_map]
   try dsimp only
   have k1:=hr _ (List.getElem_mem h1)
   rw [decide_eq_true (by omega),cond_true,bG a n h1,aA,hi2,w64 (x:=(n:Int)+1) (by omega) (by omega)]
   simp only [aA,w32 k1]
   generalize a[n]=x
   generalize b[n]=y
   obtain ⟨x1,x2⟩:=x
   obtain ⟨y1,y2⟩:=y
   unfold tg
   by_cases g1:x1=y1 <;> by_cases g2:x2=y2 <;> simp [g1,g2,fD]
   all_goals first | (have:(x1 != y1)=true:=by simpa using g1); simp [this] | (have:(x2 != y2)=true:=by simpa using g2); simp [this] | skip
  ·try dsimp only
   rw [decide_eq_false (by omega),cond_false]
 ·have e0:((a.length:Int) != (b.length:Int))=true:=by simp; omega
  rw [e0,cond_true,decide_eq_false (λh=>hl (by rw [h]))]
theorem Dw (a b:List aY) (ha:a.length<=1000000) (hr: ∀ r∈a,okR r.cells/\r.cells.length<=1000) (hq: ∀ r∈b,okR r.cells/\r.cells.length<=1000):lB a (b.map told)=some (decide (a=b)):=by
 unfold lB
 rw [List.length_map]
 by_cases hl:a.length=b.length
 ·have e0:((a.length:Int) != (b.length:Int))=false:=by simp [hl]
  rw [e0,cond_false,sS a b hl]
  ·by_cases h:a=b
   ·rw [if_pos h,decide_eq_true h]; rfl
   ·rw [if_neg h,decide_eq_false h]; rfl
  ·intro n h1 h2
   have hi2:idx (b.map told) (n:Int)=some (told b[n]):=by rw [bG _ _ (by simpa using h2),List.getElem_map]
   try dsimp only
   have k1:=hr _ (List.getElem_mem h1)
   have k2:=hq _ (List.getElem_mem h2)
   rw [decide_eq_true (by omega),cond_true,bG a n h1,aA,hi2,aA,GX _ _ (by omega) k1.1 k2.1,aA,w64 (by omega) (by omega)]
   by_cases he:a[n]=b[n]
   ·rw [if_pos he,decide_eq_true he]; rfl
   ·rw [if_neg he,decide_eq_false he]; rfl
  ·try dsimp only
   rw [decide_eq_false (by omega),cond_false]
 ·have e0:((a.length:Int) != (b.length:Int))=true:=by simp; omega
  rw [e0,cond_true,decide_eq_false (λh=>hl (by rw [h]))]
theorem Dx (s t:aS):decide (s=t)=((s.k == t.k) && ((s.w == t.w) && ((s.h == t.h) && ((s.x == t.x) && ((s.y == t.y) && ((s.title.toList == t.title.toList) && ((s.len == t.len) && ((s.chain == t.chain) && (decide (s.rows=t.rows) && decide (s.begun=t.begun)))))))))):=by
 rw [np]
 obtain ⟨a1,a2,a3,a4,a5,a6,a7,a8,a9,a10⟩:=s
 obtain ⟨b1,b2,b3,b4,b5,b6,b7,b8,b9,b10⟩:=t
 rw [Bool.eq_iff_iff]
 simp only [decide_eq_true_eq,Bool.and_eq_true,beq_iff_eq,aS.mk.injEq]
 constructor
 ·rintro ⟨h1,h2,h3,h4,h5,h6,h7,h8,h9,h10⟩
  exact ⟨h1,h2,h3,h4,h5,h6,h8,h9,h7,h10⟩
 ·rintro ⟨h1,h2,h3,h4,h5,h6,h8,h9,h7,h10⟩
  exact ⟨h1,h2,h3,h4,h5,h6,h7,h8,h9,h10⟩
theorem Fp (s t:aS) (h:SW s) (h2:SW t):nC s (fP t)=some (decide (s=t)):=by
 unfold nC
 rw [Dw _ _ (by have:=h.rl; omega) h.ro h2.ro,aA,uK _ _ (by have:=h.bl; omega) h.gl,aA,Dx]
 simp only [wT,aA]
theorem nu (s:aS) (h:SW s):fY s=some s:=by
 unfold fY
 have hl:=h.rl
 refine dX (λi=>(s.rows.take i,(i:Int))) s.rows.length s.rows rfl ?_ ?_ ?_
 ·intro i hi
  dsimp only
  have hr:=(h.ro _ (List.getElem_mem hi)).2
  rw [decide_eq_true (by omega),cond_true,bG _ _ hi,aA,CW _ (by omega),aA,bP (by simp; omega),aA,w64 (by omega) (by omega),List.take_succ_eq_append_getElem hi]
  rfl
 ·dsimp only
  rw [decide_eq_false (by omega),cond_false,List.take_length]
 ·have hb:=h.bl
  unfold cS
  rw [bP (by simp; omega),aA,aA]
  rfl
def BB (l:List Int):Prop:= ∀ b∈l,0<=b/\b < 256
theorem kJ {a b:List Int} (h:BB a) (h2:BB b):BB (a++b):=by
 intro x hx
 rcases List.mem_append.1 hx with h' | h'
 ·exact h x h'
 ·exact h2 x h'
theorem mc (n:Int):BB (cI n):=oy _
theorem oV (s:ByteArray):BB (sbs s):=q8 s
theorem nq {α:Type} {l:List α} {f:α->List Int} (h: ∀ a∈l,BB (f a)):BB (l.flatMap f):=by
 intro x hx
 obtain ⟨a,ha,hx⟩:=List.mem_flatMap.1 hx
 exact h a ha x hx
theorem G3 (p:Nat×aP):BB (jj p):=nq λa _=>mc a
theorem G4 (r:aY):BB (fS r):=kJ (mc _) (nq λa _=>G3 a)
theorem Ig (g:aN):BB (qJ g):=nq λa _=>mc a
def bI (l:List Int):aK:=⟨dL l,0⟩
theorem zX {n:Int} (h0:0<=n) (h1:n<=4611686018427387904):cI n=ij n.toNat/\n.toNat<=most/\((n.toNat:Nat):Int)=n:=by
 have:((n.toNat:Nat):Int)=n:=by omega
 refine ⟨?_,by unfold most; omega,this⟩
 conv=>lhs; rw [<- this]
 exact kr (by unfold most; omega)
theorem Dz {n:Int} {R:List Int} (hR:BB R) (h0:0<=n) (h1:n<=4611686018427387904):rdS (bI (cI n++R))=(n,bI R):=by
 obtain ⟨e,m,q⟩:=zX h0 h1
 have:=GW (dL (cI n++R)) n.toNat R m (by rw [lL _ (kJ (mc _) hR),e])
 rw [q] at this
 exact this
theorem HM (t:ByteArray) {R:List Int} (hR:BB R) (ht:t.size<=100000):mO (bI (cI t.size++sbs t++R))=(t,bI R):=by
 unfold mO
 rw [List.append_assoc,Dz (kJ (oV t) hR) (by omega) (by omega)]
 have hb:sbs (dL (sbs t++R))=sbs t++R:=lL _ (kJ (oV t) hR)
 have hsz:(dL (sbs t++R)).size=t.size+R.length:=by rw [<- bD,hb,List.length_append,bD]
 unfold vq bI
 dsimp only
 rw [if_neg (by simp),if_neg (by rw [hsz]; omega)]
 have h1:ik (dL (sbs t++R)) 0 (t.size:Int)=t:=by
  apply pT
  have:=ji (dL (sbs t++R)) 0 t.size
  rw [hb] at this
  refine Eq.trans this ?_
  have e:t.size=(sbs t).length:=(bD t).symm
  rw [e,List.take_left,List.drop_zero]
 have h2:ik (dL (sbs t++R)) (t.size:Int) ((dL (sbs t++R)).size:Int)=dL R:=by
  apply pT
  rw [ji,hb,lL _ hR,hsz,List.take_of_length_le (by rw [List.length_append,bD]; exact Nat.le_refl _)]
  have e:t.size=(sbs t).length:=(bD t).symm
  rw [e,List.drop_left]
 rw [h1,h2]
theorem AV (n:Nat):ij n≠[]:=by
 rw [ij]
 split <;> simp
theorem DA (s:aS):BB (nF s):=by
 unfold nF mN
 exact kJ (kJ (kJ (nq λa _=>mc a) (kJ (mc _) (oV _))) (nq λa _=>mc a)) (kJ (mc _) (nq λa _=>Ig a))
theorem Fq (l:List aY):BB (l.flatMap fS):=nq λa _=>G4 a
theorem Fs (s:aS):BB (tw s):=kJ (DA s) (Fq _)
theorem Ge: ∀ (k:Nat) (i:aK) (l:List aN),(bkL k i l).2.e=0->i.e=0
 | k,i,l,h=>by
  by_cases he:i.e=0
  ·exact he
  ·rw [tV _ _ _ he] at h
   exact h
theorem wo: ∀ (k:Nat) (i:aK) (l:List aN),VI i->(bkL k i l).2.e=0 -> ∃ D,(bkL k i l).1.flatMap qJ=l.flatMap qJ++D/\sbs i.s=D++sbs (bkL k i l).2.s
 | 0,i,l,h,he=>⟨[],by simp [bkL],by simp [bkL]⟩
 | k+1,i,l,h,he=>by
  unfold bkL at he ⊢
  have v1:=fR 1114111 h
  have v2:=fR 647 v1
  obtain ⟨D,d1,d2⟩:=wo k _ _ v2 he
  obtain ⟨h1,c2,q2,_,m2,b2⟩:=kI (Ge _ _ _ he) v1
  obtain ⟨_,c1,q1,_,m1,b1⟩:=kI h1 h
  refine ⟨ij c1++ij c2++D,?_,?_⟩
  ·rw [d1,List.flatMap_append,List.flatMap_singleton,List.append_assoc]
   congr 2
   unfold qJ
   simp only [List.flatMap_cons,List.flatMap_nil,List.append_nil,q1,q2,kr m1,kr m2]
  ·rw [b1,b2,d2]
   simp only [List.append_assoc]
theorem wq {i:aK} (h:VI i) (he:(bkS i).2.e=0):i.e=0/\sbs i.s=mN (bkS i).1++sbs (bkS i).2.s:=by
 unfold bkS at he ⊢
 by_cases h0:(bkL (cC i 1024).1.toNat (cC i 1024).2 []).2.e=0
 ·rw [if_pos h0]
  have v1:=fR 1024 h
  obtain ⟨D,d1,d2⟩:=wo _ _ _ v1 h0
  obtain ⟨e0,c,q,_,m,b⟩:=kI (Ge _ _ _ h0) h
  refine ⟨e0,?_⟩
  have hl:=(zW (cC i 1024).1.toNat (cC i 1024).2 [] v1 (by intro g hg; cases hg)).2
  unfold mN
  rw [hl,d1,b,d2,q,Int.toNat_natCast]
  simp only [List.length_nil,Nat.zero_add,List.flatMap_nil,List.nil_append,kr m,List.append_assoc]
 ·rw [if_neg h0] at he
  exact absurd he h0
def DB (s:ByteArray) (n:Nat):ByteArray:=if s.size > n then ik s 0 n else s
theorem DD (s:ByteArray) (n:Nat):lj s n=some (DB s n):=by
 unfold lj DB
 by_cases h:s.size > n
 ·rw [decide_eq_true (by omega),cond_true,if_pos h,cV (by omega) (by omega) (by omega),aA]
 ·rw [decide_eq_false (by omega),cond_false,if_neg h]
theorem BW (s:ByteArray) (n:Nat):(DB s n).size<=n:=by
 unfold DB
 split
 ·have:=ji s 0 n
  have h2:=congrArg List.length this
  rw [bD] at h2
  have h3:(ik s 0 (n:Int)).size=(ik s ((0:Nat):Int) (n:Int)).size:=rfl
  rw [h3,h2,List.length_drop,List.length_take]
  omega
 ·omega
theorem rk:SW jM:=⟨by decide,by decide,λg hg=>(by cases hg),λr hr=>(by cases hr),by decide,by decide,by show noS.size<=12000; decide⟩
theorem DE (s:aS):dL (tw s)≠noS:=by
 intro h
 have h2:sbs (dL (tw s))=[]:=by rw [h]; rfl
 rw [lL _ (Fs s)] at h2
 unfold tw nF at h2
 simp only [List.append_eq_nil_iff,List.flatMap_cons] at h2
 exact AV _ h2.1.1.1.1.1
def qK (a:Nat):Nat:=(a >>> 1) ^^^ (if a % 2=1 then 3988292384 else 0)
def px (a:Nat):Nat:=qK (qK (qK (qK a)))
theorem qL {a b:Nat} (ha:a < 4294967296) (hb:b < 4294967296):a ^^^ b < 4294967296:=Nat.xor_lt_two_pow (n:=32) ha hb
theorem rm {a:Nat} (h:a < 4294967296):qK a < 4294967296:=by
 unfold qK
 have:a >>> 1 < 4294967296:=by rw [Nat.shiftRight_eq_div_pow]; omega
 exact qL this (by split <;> omega)
theorem Ft (a b:Nat):(a ^^^ b) % 2=(a % 2+b % 2) % 2:=by
 have h:=Nat.testBit_xor a b 0
 rw [Nat.testBit_zero,Nat.testBit_zero,Nat.testBit_zero] at h
 have ha:a % 2=0\/a % 2=1:=by omega
 have hb:b % 2=0\/b % 2=1:=by omega
 have hc:(a ^^^ b) % 2=0\/(a ^^^ b) % 2=1:=by omega
 rcases ha with ha | ha <;> rcases hb with hb | hb <;> rcases hc with hc | hc <;> rw [ha,hb,hc] at h <;> first | (exact absurd h (by decide)) | (rw [ha,hb,hc])
theorem rn (a b:Nat):qK (a ^^^ b)=qK a ^^^ qK b:=by
 unfold qK
 rw [Nat.shiftRight_xor_distrib,Ft]
 have ha:a % 2=0\/a % 2=1:=by omega
 have hb:b % 2=0\/b % 2=1:=by omega
 generalize a >>> 1=x
 generalize b >>> 1=y
 rcases ha with ha | ha <;> rcases hb with hb | hb <;> rw [ha,hb]
 ·simp
 ·simp [Nat.xor_assoc]
 ·simp only [Nat.zero_add,Nat.add_zero]
  simp
  rw [Nat.xor_assoc,Nat.xor_assoc,Nat.xor_comm y]
 ·simp
  have:x ^^^ 3988292384 ^^^ (y ^^^ 3988292384)=x ^^^ y ^^^ (3988292384 ^^^ 3988292384):=by
   rw [Nat.xor_assoc,Nat.xor_assoc,<- Nat.xor_assoc 3988292384 y,Nat.xor_comm 3988292384 y,Nat.xor_assoc]
  rw [this,Nat.xor_self,Nat.xor_zero]
theorem DG (a b:Nat):px (a ^^^ b)=px a ^^^ px b:=by
 unfold px
 rw [rn,rn,rn,rn]
theorem pU (k:Nat):qK (2*k)=k:=by
 unfold qK
 rw [if_neg (by omega),Nat.xor_zero,Nat.shiftRight_eq_div_pow]
 omega
theorem Fu (k:Nat):px (16*k)=k:=by
 unfold px
 rw [show 16*k=2*(2*(2*(2*k))) by omega,pU,pU,pU,pU]
theorem wu (x:Nat):px x=(x / 16) ^^^ px (x % 16):=by
 have h:x=(16*(x / 16)) ^^^ (x % 16):=by
  have h1:16*(x / 16)+x % 16=x:=Nat.div_add_mod x 16
  have h2:(16*(x / 16)) ^^^ (x % 16)=16*(x / 16)+x % 16:=by
   have h3:2 ^ 4*(x / 16)+x % 16=(2 ^ 4*(x / 16)) ||| (x % 16):=Nat.two_pow_add_eq_or_of_lt (by omega) _
   apply Nat.eq_of_testBit_eq
   intro i
   have h4:(16*(x / 16)+x % 16)=(2 ^ 4*(x / 16)) ||| (x % 16):=h3
   rw [h4,Nat.testBit_xor,Nat.testBit_or]
   show ((2 ^ 4*(x / 16)).testBit i ^^ (x % 16).testBit i)=_
   rw [Nat.testBit_two_pow_mul]
   by_cases hi:i>=4
   ·have:(x % 16).testBit i=false:=by
     apply Nat.testBit_lt_two_pow
     have:2 ^ 4<=2 ^ i:=Nat.pow_le_pow_right (by omega) hi
     omega
    rw [this]
    simp
   ·simp [hi]
  rw [h2,h1]
 conv=>lhs; rw [h]
 rw [DG,Fu]
theorem AW: ∀ n:Nat,n < 16->idx dD (n:Int)=some ((px n:Nat):Int):=by decide
theorem G5 {x:Int} (h0:0<=x) (h1:x < 4294967296):IntKind.u32.wrap x=x:=by
 unfold IntKind.wrap
 simp [IntKind.signed,IntKind.bits]
 omega
theorem AX {a b:Nat} (ha:a < 4294967296) (hb:b < 4294967296):Go.bits .xor .u32 (a:Int) (b:Int)=((a ^^^ b:Nat):Int):=by
 show IntKind.u32.wrap ((BitVec.ofInt 32 (a:Int) ^^^ BitVec.ofInt 32 (b:Int)).toNat:Int)=_
 rw [BitVec.ofInt_natCast,BitVec.ofInt_natCast,BitVec.toNat_xor,BitVec.toNat_ofNat,BitVec.toNat_ofNat,Nat.mod_eq_of_lt ha,Nat.mod_eq_of_lt hb]
 have:=qL ha hb
 exact G5 (by omega) (by omega)
theorem Gf {a b:Nat} (ha:a < 4294967296) (hb:b < 4294967296):Go.bits .xor .i64 (a:Int) (b:Int)=((a ^^^ b:Nat):Int):=by
 show IntKind.i64.wrap ((BitVec.ofInt 64 (a:Int) ^^^ BitVec.ofInt 64 (b:Int)).toNat:Int)=_
 rw [BitVec.ofInt_natCast,BitVec.ofInt_natCast,BitVec.toNat_xor,BitVec.toNat_ofNat,BitVec.toNat_ofNat,Nat.mod_eq_of_lt (by omega),Nat.mod_eq_of_lt (by omega)]
 have:=qL ha hb
 exact w64 (by omega) (by omega)
theorem Gg {a:Nat} (ha:a < 4294967296):Go.bits .and .u32 (a:Int) 15=((a % 16:Nat):Int):=by
 show IntKind.u32.wrap ((BitVec.ofInt 32 (a:Int) &&& BitVec.ofInt 32 15).toNat:Int)=_
 rw [BitVec.ofInt_natCast,BitVec.toNat_and,BitVec.toNat_ofNat,Nat.mod_eq_of_lt ha]
 have h:(BitVec.ofInt 32 15).toNat=2 ^ 4 - 1:=by decide
 rw [h,Nat.and_two_pow_sub_one_eq_mod]
 exact G5 (by omega) (by omega)
theorem Gh (a:Nat):((a:Int)).fdiv (2 ^ (min 4 32))=((a / 16:Nat):Int):=by
 rw [Int.fdiv_eq_ediv_of_nonneg _ (by decide)]
 rfl
def ym (x b:Nat):Nat:=px (px (x ^^^ b))
theorem rp {a:Nat} (h:a < 4294967296):px a < 4294967296:=rm (rm (rm (rm h)))
theorem DH {x b:Nat} (h:x < 4294967296) (hb:b < 256):ym x b < 4294967296:=rp (rp (qL h (by omega)))
theorem step_eq {x b:Nat} (hx:x < 4294967296) (hb:b < 256):lY (x:Int) (b:Int)=some ((ym x b:Nat):Int):=by
 unfold lY ym
 rw [G5 (by omega) (by omega),AX hx (by omega)]
 have h1:=qL hx (show b < 4294967296 by omega)
 generalize x ^^^ b=y at h1
 rw [Gg h1,AW _ (by omega),aA,Gh,AX (by omega) (rp (by omega)),<- wu]
 have h2:=rp h1
 generalize px y=z at h2
 rw [Gg h2,AW _ (by omega),aA,Gh,AX (by omega) (rp (by omega)),<- wu]
def DI (y:Nat):Nat->Nat
 | 0=>y
 | i+1=>qK (DI y i)
theorem HN {y:Nat} (hy:y < 4294967296):iter (σ:=Int×Int) (ρ:=Int) (λa=>(bif (decide (a.2 < 8)) then (Option.bind ((bif ((a.1.tmod 2) == 1) then some (Go.bits .xor .i64 (IntKind.i64.wrap (a.1.tdiv 2)) 3988292384) else some (IntKind.i64.wrap (a.1.tdiv 2))):Option Int) λc=>some (.inl (c,(IntKind.i64.wrap (a.2+1))))) else some (.inr a.1))) ((y:Int),0)=some ((px (px y):Nat):Int):=by
 have st: ∀ (z n:Nat),z < 4294967296->n < 8->(bif (decide ((n:Int) < 8)) then (Option.bind ((bif (((z:Int).tmod 2) == 1) then some (Go.bits .xor .i64 (IntKind.i64.wrap ((z:Int).tdiv 2)) 3988292384) else some (IntKind.i64.wrap ((z:Int).tdiv 2))):Option Int) λc=>some (.inl (c,(IntKind.i64.wrap ((n:Int)+1))))) else some (.inr (z:Int)):Option ((Int×Int) ⊕ Int))=some (.inl (((qK z:Nat):Int),((n+1:Nat):Int))):=by
  intro z n hz hn
  have h1:(z:Int).tdiv 2=((z >>> 1:Nat):Int):=by
   rw [Int.tdiv_eq_ediv_of_nonneg (by omega),Nat.shiftRight_eq_div_pow]
   rfl
  have h2:(z:Int).tmod 2=((z % 2:Nat):Int):=by
   rw [Int.tmod_eq_emod_of_nonneg (by omega)]
   rfl
  have h3:z >>> 1 < 4294967296:=by rw [Nat.shiftRight_eq_div_pow]; omega
  rw [decide_eq_true (by omega),cond_true,h1,h2,w64 (by omega) (by omega),w64 (by omega) (by omega)]
  have hx:Go.bits .xor .i64 ((z >>> 1:Nat):Int) 3988292384=((z >>> 1 ^^^ 3988292384:Nat):Int):=Gf h3 (b:=3988292384) (by decide)
  rw [hx]
  unfold qK
  by_cases ho:z % 2=1
  ·have:(((z % 2:Nat):Int) == 1)=true:=by rw [ho]; rfl
   rw [this,cond_true,if_pos ho]
   rfl
  ·have:(((z % 2:Nat):Int) == 1)=false:=by rw [show z % 2=0 by omega]; rfl
   rw [this,cond_false,if_neg ho,Nat.xor_zero]
   rfl
 have hB: ∀ i,DI y i < 4294967296:=by
  intro i
  induction i with
  | zero=>exact hy
  | succ i ih=>exact rm ih
 have h8:px (px y)=DI y 8:=rfl
 rw [h8]
 refine nk (λi=>(((DI y i:Nat):Int),(i:Int))) 8 _ ?_ ?_
 ·intro i hi
  exact st (DI y i) i (hB i) hi
 ·dsimp only
  rw [decide_eq_false (by omega),cond_false]
def rq (l:List Int):Nat:=l.foldl (λx b=>ym x b.toNat) 4294967295
theorem qM (l:List Int) (i:Nat) (h:i < l.length):rq (l.take (i+1))=ym (rq (l.take i)) (l[i]).toNat:=by
 unfold rq
 rw [List.take_succ_eq_append_getElem h,List.foldl_append]
 rfl
theorem wX {l:List Int} (h:BB l): ∀ i,rq (l.take i) < 4294967296:=by
 intro i
 induction i with
 | zero=>rw [List.take_zero]; decide
 | succ i ih =>
  by_cases hi:i < l.length
  ·rw [qM l i hi]
   have:=h _ (List.getElem_mem hi)
   exact DH ih (by omega)
  ·rw [List.take_of_length_le (by omega)]
   rw [List.take_of_length_le (by omega)] at ih
   exact ih
def jX (s:ByteArray):Nat:=4294967295 ^^^ rq (sbs s)
theorem zY (s:ByteArray) (hs:s.size<=1000000):nz [s]=some ((jX s:Nat):Int):=by
 unfold nz
 have hL:=wX (oV s)
 have hinner:iter (σ:=Int×Int) (ρ:=Int) (λa=>(bif (decide (a.1 < (s.size:Int))) then (Option.bind (uz s a.1) λb642=>(Option.bind (lY a.2 b642) λb=>some (.inl ((IntKind.i64.wrap (a.1+1)),b)))) else some (.inr a.2))) (0,4294967295)=some ((rq (sbs s):Nat):Int):=by
  refine nk (λi=>((i:Int),((rq ((sbs s).take i):Nat):Int))) s.size _ ?_ ?_
  ·intro i hi
   have hi2:i < (sbs s).length:=by rw [bD]; exact hi
   have hb:=oV s _ (List.getElem_mem hi2)
   have hn:(sbs s)[i]=(((sbs s)[i].toNat:Nat):Int):=by omega
   dsimp only
   rw [decide_eq_true (by omega),cond_true,q9 s i hi2,aA,qM _ _ hi2]
   conv=>lhs; rw [hn]
   rw [step_eq (hL i) (by omega),aA,w64 (by omega) (by omega)]
   rfl
  ·dsimp only
   rw [decide_eq_false (by omega),cond_false,List.take_of_length_le (by rw [bD]; exact Nat.le_refl _)]
 refine dX (λi=>(if i=0 then (4294967295:Int) else ((rq (sbs s):Nat):Int),(i:Int))) 1 ((rq (sbs s):Nat):Int) rfl ?_ ?_ ?_
 ·intro i hi
  have:i=0:=by omega
  subst this
  have h1:idx [s] 0=some s:=rfl
  show (bif (decide ((0:Int) < 1)) then (Option.bind (idx [s] 0) λc=>_) else _)=_
  rw [decide_eq_true (by omega),cond_true,h1,aA]
  show (Option.bind (iter _ (0,4294967295)) λd=>_)=_
  rw [hinner,aA]
  rfl
 ·rfl
 ·have h:=hL (sbs s).length
  rw [List.take_length] at h
  show some (Go.bits .xor .u32 ((4294967295:Nat):Int) ((rq (sbs s):Nat):Int))=_
  rw [AX (by decide) h]
  rfl
theorem DJ {x:Nat} (h:x < 4294967296):4294967295 ^^^ x=4294967295 - x:=by
 have h1:(2 ^ 32 - 1) - x=2 ^ 32 - (x+1):=by omega
 show 4294967295 ^^^ x=_
 apply Nat.eq_of_testBit_eq
 intro i
 have h2:4294967295 - x=2 ^ 32 - (x+1):=by omega
 rw [h2,Nat.testBit_two_pow_sub_succ h,Nat.testBit_xor]
 have h3:(4294967295:Nat).testBit i=decide (i < 32):=by
  show (2 ^ 32 - 1).testBit i=_
  rw [Nat.testBit_two_pow_sub_one]
 rw [h3]
 by_cases hi:i < 32
 ·simp [hi]
 ·have:x.testBit i=false:=by
   apply Nat.testBit_lt_two_pow
   have:2 ^ 32<=2 ^ i:=Nat.pow_le_pow_right (by omega) (by omega)
   omega
  simp [hi,this]
theorem AY (s:ByteArray) (hs:s.size<=1000000):l9 s=some ((jX s:Nat):Int):=by
 unfold l9
 have hL:=wX (oV s)
 refine dX (λi=>(((rq ((sbs s).take i):Nat):Int),(i:Int))) s.size ((rq (sbs s):Nat):Int) rfl ?_ ?_ ?_
 ·intro i hi
  have hi2:i < (sbs s).length:=by rw [bD]; exact hi
  have hb:=oV s _ (List.getElem_mem hi2)
  have hn:(sbs s)[i]=(((sbs s)[i].toNat:Nat):Int):=by omega
  dsimp only
  rw [decide_eq_true (by omega),cond_true,q9 s i hi2,aA,qM _ _ hi2]
  have hx:Go.bits .xor .i64 ((rq ((sbs s).take i):Nat):Int) (IntKind.i64.wrap (sbs s)[i])=((rq ((sbs s).take i) ^^^ (sbs s)[i].toNat:Nat):Int):=by
   rw [w64 (by omega) (by omega)]
   conv=>lhs; rw [hn]
   exact Gf (hL i) (by omega)
  rw [hx,HN (qL (hL i) (by omega)),aA,w64 (by omega) (by omega)]
  rfl
 ·dsimp only
  rw [decide_eq_false (by omega),cond_false,List.take_of_length_le (by rw [bD]; exact Nat.le_refl _)]
 ·have h:=hL (sbs s).length
  rw [List.take_length] at h
  unfold jX
  rw [DJ h,w64 (by omega) (by omega)]
  congr 1
  omega
theorem wY (l:List Int) (s:ByteArray):dL l++s=dL (l++sbs s):=by
 rw [dG,po]
theorem uL (s:ByteArray) (hs:s.size<=1000000):kB s=some (dL (cI s.size++sbs s)):=by
 unfold kB
 have h:=cJ (s.size:Int)
 rw [jE,aA,eD (by rw [bQ]; omega),aA,wY]
theorem yn (s:aS) (h:SW s) (hp:(s.rows.flatMap fS).length<=1000000):iG (fP s)=some (kc s):=by
 unfold iG kc
 have hc:((Option.bind (iP (fP s)) λd=>(bif d then some true else (Option.bind (ko (fP s)) λe=>some (!e)))):Option Bool)=some (iQ s || !n8 s):=by
  rw [wj,aA,Dj s h,aA]
  cases iQ s <;> cases n8 s <;> rfl
 rw [hc,aA]
 by_cases hb:iQ s=true\/n8 s=false
 ·rw [if_pos hb]
  have:(iQ s || !n8 s)=true:=by
   rcases hb with hb | hb <;> simp [hb]
  rw [this,cond_true]
  rfl
 ·rw [if_neg hb]
  have hne:iQ s=false:=by cases he:iQ s with | true=>exact absurd (.inl he) hb | false=>rfl
  have hm:n8 s=true:=by cases he:n8 s with | false=>exact absurd (.inr he) hb | true=>rfl
  rw [hne,hm]
  have hpl:=sP s h
  have htl:=h.tl
  have hph:(nF s).length=([s.k,s.w,s.h,s.x,s.y].flatMap cI).length+((cI s.title.size++sbs s.title).length+(([s.len,s.chain].flatMap cI).length+(mN s.begun).length)):=by
   unfold nF
   rw [List.length_append,List.length_append,List.length_append]
   omega
  have hnum: ∀ L:List Int,L.length<=10->iter (σ:=Int×ByteArray) (ρ:=ByteArray) (λb=>(bif (decide (b.1 < (L.length:Int))) then (Option.bind (idx L b.1) λf=>(Option.bind (cG f) λc=>(Option.bind (chk (lu b.2.size c.size)) λ_=>some (.inl ((IntKind.i64.wrap (b.1+1)),(b.2++c)))))) else some (.inr b.2))) (0,(ByteArray.mk #[]))=some (dL (L.flatMap cI)):=by
   intro L hL
   have hlen: ∀ (M:List Int),(M.flatMap cI).length<=9*M.length:=by
    intro M
    induction M with
    | nil=>simp
    | cons a M ih =>
     rw [List.flatMap_cons,List.length_append,List.length_cons]
     have:=cJ a
     omega
   refine nk (λi=>((i:Int),dL ((L.take i).flatMap cI))) L.length _ ?_ ?_
   ·intro i hi
    have h2:=hlen (L.take i)
    rw [List.length_take] at h2
    have h3:=cJ L[i]
    dsimp only
    rw [decide_eq_true (by omega),cond_true,bG _ _ hi,aA,jE,aA,eD (by rw [bQ,bQ]; omega),aA,<- dG,w64 (by omega) (by omega),List.take_succ_eq_append_getElem hi,List.flatMap_append,List.flatMap_singleton]
    rfl
   ·dsimp only
    rw [decide_eq_false (by omega),cond_false,List.take_length]
  have hn2:[s.len,s.chain].flatMap cI=cI s.len++cI s.chain:=by simp
  have hl1:=cJ s.len
  have hl2:=cJ s.chain
  have ht:(cI s.title.size++sbs s.title).length<=12009:=by
   rw [List.length_append,bD]
   have:=cJ (s.title.size:Int)
   omega
  dsimp only
  rw [Bool.not_true,Bool.or_false,cond_false,hnum _ (by simp),aA,uL _ (by omega),aA,jE,aA,eD (by rw [bQ,bQ]; omega),aA,jE,aA,<- dG,eD (by rw [bQ,bQ,List.length_append]; omega),aA,BV _ h.bl,aA,<- dG,eD (by rw [bQ,bQ,List.length_append,List.length_append]; omega),aA,<- dG,eD (by rw [bQ,bQ,List.length_append,List.length_append,List.length_append]; omega),aA,<- dG]
  have hhead:[s.k,s.w,s.h,s.x,s.y].flatMap cI++(((cI s.title.size++sbs s.title)++cI s.len++cI s.chain)++mN s.begun)=nF s:=by
   unfold nF
   rw [hn2]
   simp only [List.append_assoc]
  rw [hhead]
  refine dX (λi=>(dL (nF s++(s.rows.take i).flatMap fS),(i:Int))) s.rows.length (dL (tw s)) (by simp) ?_ ?_ rfl
  ·intro i hi
   have hro:=h.ro _ (List.getElem_mem hi)
   have hl1:=AQ s.rows (i+1)
   rw [List.take_succ_eq_append_getElem hi,List.flatMap_append,List.flatMap_singleton,List.length_append] at hl1
   have hrl:=h.rl
   have hi2:i < (s.rows.map told).length:=by rw [List.length_map]; exact hi
   dsimp only
   rw [List.length_map,decide_eq_true (by omega),cond_true,bG _ _ hi2,aA,List.getElem_map,yg _ hro.2,aA,eD (by rw [bQ,bQ,List.length_append]; omega),aA,<- dG,w64 (by omega) (by omega),List.take_succ_eq_append_getElem hi,List.flatMap_append,List.flatMap_singleton,List.append_assoc]
   rfl
  ·dsimp only
   rw [List.length_map,decide_eq_false (by omega),cond_false,List.take_length]
   rfl
theorem uM {s:aS} (h:SW s) (hp:(s.rows.flatMap fS).length<=12000):(kc s).size<=72000:=by
 unfold kc
 split
 ·exact Nat.zero_le _
 ·have:=sP s h
  rw [bQ]
  unfold tw
  rw [List.length_append]
  omega
theorem tW (s:ByteArray):jX s < 4294967296:=by
 unfold jX
 have h:=wX (oV s) (sbs s).length
 rw [List.take_length] at h
 exact qL (by decide) h
theorem Fv (s:aS) (h:SW s) (hp:(s.rows.flatMap fS).length<=12000):jK s=some ((jX (kc s):Nat):Int):=by
 unfold jK
 have h1:=uM h hp
 have h2:=tW (kc s)
 rw [AR s h (by omega),aA,zY _ (by omega),aA,w64 (by omega) (by omega)]
theorem DK (s:aS) (h:SW s) (hp:(s.rows.flatMap fS).length<=12000):mF (fP s)=some ((jX (kc s):Nat):Int):=by
 unfold mF
 have h1:=uM h hp
 rw [yn s h (by omega),aA,AY _ (by omega),aA]
end Go.Tw.X
set_option maxHeartbeats 1000000
namespace Go.Tw.X
open Go Go.Tw
def tx (n:Nat):List Int:=[((n % 256:Nat):Int),((n / 256 % 256:Nat):Int),((n / 65536 % 256:Nat):Int),((n / 16777216 % 256:Nat):Int)]
theorem wZ (n:Nat):BB (tx n):=λb hb=>by
 simp only [tx,List.mem_cons,List.not_mem_nil,or_false] at hb
 rcases hb with rfl | rfl | rfl | rfl <;> omega
theorem w8 (n:Nat):IntKind.u8.wrap (n:Int)=((n % 256:Nat):Int):=by
 show (n:Int) % 256=_
 omega
theorem fdN (n k:Nat):((n:Int)).fdiv ((k:Int))=((n / k:Nat):Int):=by
 rw [Int.fdiv_eq_ediv_of_nonneg _ (by omega)]
 rfl
theorem AZ {n:Nat} (h:n < 4294967296):lZ (n:Int)=some (dL (tx n)):=by
 unfold lZ tx
 rw [show ((2:Int) ^ (min 8 32))=((256:Nat):Int) from rfl,show ((2:Int) ^ (min 16 32))=((65536:Nat):Int) from rfl,show ((2:Int) ^ (min 24 32))=((16777216:Nat):Int) from rfl,fdN,fdN,fdN,w8,w8,w8,w8]
def oB (s:ByteArray):ByteArray:=s++dL (tx (jX s))
theorem rr (s:ByteArray):sbs (oB s)=sbs s++tx (jX s):=by
 unfold oB
 rw [zM,lL _ (wZ _)]
theorem pV (s:ByteArray):(oB s).size=s.size+4:=by
 rw [<- bD,rr,List.length_append,bD]
 rfl
theorem Fw {s:ByteArray} (h:s.size<=900000):l0 s=some (oB s):=by
 unfold l0
 rw [zY s (by omega),aA,AZ (tW s),aA,eD (by rw [bQ]; simp [tx]; omega),aA]
 rfl
theorem yo {s:ByteArray} (h:s.size<=900000):kC s=some (oB s):=by
 unfold kC
 have hl:=tW s
 rw [AY s (by omega),aA]
 have e1:IntKind.u8.wrap ((((jX s:Nat):Int)).tmod 256)=((jX s % 256:Nat):Int):=by
  rw [show (((jX s:Nat):Int)).tmod 256=((jX s % 256:Nat):Int) from rfl,w8]
  omega
 have e2:IntKind.u8.wrap ((IntKind.i64.wrap ((((jX s:Nat):Int)).tdiv 256)).tmod 256)=((jX s / 256 % 256:Nat):Int):=by
  rw [show (((jX s:Nat):Int)).tdiv 256=((jX s / 256:Nat):Int) from rfl,w64 (by omega) (by omega),show (((jX s / 256:Nat):Int)).tmod 256=((jX s / 256 % 256:Nat):Int) from rfl,w8]
  omega
 have e3:IntKind.u8.wrap ((IntKind.i64.wrap ((((jX s:Nat):Int)).tdiv 65536)).tmod 256)=((jX s / 65536 % 256:Nat):Int):=by
  rw [show (((jX s:Nat):Int)).tdiv 65536=((jX s / 65536:Nat):Int) from rfl,w64 (by omega) (by omega),show (((jX s / 65536:Nat):Int)).tmod 256=((jX s / 65536 % 256:Nat):Int) from rfl,w8]
  omega
 have e4:IntKind.u8.wrap (IntKind.i64.wrap ((((jX s:Nat):Int)).tdiv 16777216))=((jX s / 16777216 % 256:Nat):Int):=by
  rw [show (((jX s:Nat):Int)).tdiv 16777216=((jX s / 16777216:Nat):Int) from rfl,w64 (by omega) (by omega),w8]
 rw [e1,e2,e3,e4]
 rw [eD (by rw [bQ]; simp; omega),aA]
 rfl
def kK (s:ByteArray):ByteArray:=ik s 0 ((s.size - 4:Nat):Int)
def o4 (s:ByteArray):Bool:=decide (4<=s.size/\oB (kK s)=s)
def ru (s:ByteArray):ByteArray×Bool:=if o4 s=true then (kK s,true) else (noS,false)
theorem tX (s:ByteArray):sbs (kK s)=(sbs s).take (s.size - 4):=by
 unfold kK
 have:=ji s 0 (s.size - 4)
 simpa using this
theorem lN {s:ByteArray} (h:4<=s.size):(kK s).size=s.size - 4:=by
 rw [<- bD,tX,List.length_take,bD]
 omega
theorem DL {s:ByteArray} (h:s.size<=800000):lD s=some (ru s):=by
 unfold lD ru o4
 by_cases c:(s.size:Int) < 4
 ·rw [decide_eq_true c,cond_true,aA,cond_true,decide_eq_false (by omega),if_neg (by simp)]
  rfl
 ·have e:IntKind.i64.wrap ((s.size:Int) - 4)=((s.size - 4:Nat):Int):=by rw [w64 (by omega) (by omega)]; omega
  have hf:=lN (s:=s) (by omega)
  rw [decide_eq_false c,cond_false,e,cV (by omega) (by omega) (by omega),aA,show ik s 0 ((s.size - 4:Nat):Int)=kK s from rfl,yo (by omega),aA,np,aA]
  by_cases d:oB (kK s)=s
  ·rw [decide_eq_true d,Bool.not_true,cond_false,aA,decide_eq_true ⟨by omega,d⟩,if_pos rfl]
  ·rw [decide_eq_false d,Bool.not_false,cond_true,decide_eq_false (λh=>d h.2),if_neg (by simp)]
   rfl
theorem Fy {s:ByteArray} (h:s.size<=800000):nA s=some (ru s):=by
 unfold nA ru o4
 by_cases c:(s.size:Int) < 4
 ·have e:IntKind.i64.wrap ((s.size:Int) - 4)=(s.size:Int) - 4:=w64 (by omega) (by omega)
  rw [e,decide_eq_true (by omega),cond_true,aA,cond_true,decide_eq_false (by omega),if_neg (by simp)]
  rfl
 ·have e:IntKind.i64.wrap ((s.size:Int) - 4)=((s.size - 4:Nat):Int):=by rw [w64 (by omega) (by omega)]; omega
  have hf:=lN (s:=s) (by omega)
  rw [e,decide_eq_false (by omega),cond_false,cV (by omega) (by omega) (by omega),aA,cV (by omega) (by omega) (by omega),aA,show ik s 0 ((s.size - 4:Nat):Int)=kK s from rfl,zY _ (by omega),aA,AZ (tW _),aA,np,aA]
  have hd:sbs (ik s ((s.size - 4:Nat):Int) (s.size:Int))=(sbs s).drop (s.size - 4):=by
   rw [ji,List.take_of_length_le (by rw [bD]; omega)]
  have key:(ik s ((s.size - 4:Nat):Int) (s.size:Int)=dL (tx (jX (kK s))))↔oB (kK s)=s:=by
   constructor
   ·intro q
    apply pT
    rw [rr,tX]
    have q2:=congrArg sbs q
    rw [hd,lL _ (wZ _)] at q2
    rw [<- q2,List.take_append_drop]
   ·intro q
    apply pT
    have q2:=congrArg sbs q
    rw [rr,tX] at q2
    rw [hd,lL _ (wZ _)]
    exact (List.append_cancel_left (q2.trans (List.take_append_drop (s.size - 4) (sbs s)).symm)).symm
  by_cases d:oB (kK s)=s
  ·rw [decide_eq_true (key.2 d),Bool.not_true,cond_false,aA,decide_eq_true ⟨by omega,d⟩,if_pos rfl]
  ·rw [decide_eq_false (λh=>d (key.1 h)),Bool.not_false,cond_true,decide_eq_false (λh=>d h.2),if_neg (by simp)]
   rfl
theorem BX (s:ByteArray):ru (oB s)=(s,true):=by
 have h1:=pV s
 have h2:kK (oB s)=s:=by
  apply pT
  rw [tX,rr,h1,Nat.add_sub_cancel,<- bD]
  simp
 unfold ru o4
 rw [decide_eq_true ⟨by omega,by rw [h2]⟩,if_pos rfl,h2]
theorem uN (s:aS) (y:Nat) (h:y < s.rows.length):hG s (y:Int)=some (s.rows[y],true):=by
 unfold hG
 rw [decide_eq_false (show ¬ ((y:Int) < 0) by omega),cond_false,aA,decide_eq_false (show ¬ ((y:Int)>=(s.rows.length:Int)) by omega),cond_false,bG _ _ h,aA]
theorem wv (s:aS) (y:Nat) (h: ¬ y < s.rows.length):hG s (y:Int)=some (uC,false):=by
 unfold hG
 rw [decide_eq_false (show ¬ ((y:Int) < 0) by omega),cond_false,aA,decide_eq_true (show ((y:Int)>=(s.rows.length:Int)) by omega),cond_true]
 rfl
theorem yp (r q:aY) (h:r.cells.length<=1000000):iH (told r) (told q)=some (decide (r=q)):=by
 unfold iH
 have hw:(!((told r).wrapped == (told q).wrapped)) = !decide (r.wrapped=q.wrapped):=by
  show (!(r.wrapped == q.wrapped))=_
  cases r.wrapped <;> cases q.wrapped <;> rfl
 have hl:(((told r).l.length:Int) != ((told q).l.length:Int)) = !decide (r.cells.length=q.cells.length):=by
  show (((r.cells.map tc).length:Int) != ((q.cells.map tc).length:Int))=_
  rw [fF,fF]
  by_cases he:r.cells.length=q.cells.length
  ·simp [he]
  ·have: ¬ ((r.cells.length:Int)=(q.cells.length:Int)):=by omega
   simp [he,this]
 rw [hw,hl]
 by_cases h1:r.wrapped=q.wrapped
 ·rw [decide_eq_true h1,Bool.not_true,cond_false,aA]
  by_cases h2:r.cells.length=q.cells.length
  ·rw [decide_eq_true h2,Bool.not_true,cond_false]
   have:=sS r.cells q.cells h2 (λa=>(bif (decide (a < ((told r).l.length:Int))) then (Option.bind (idx (told r).l a) λb=>(Option.bind (idx (told q).l a) λc=>(bif (!((b.rune == c.rune) && ((b.bU == c.bU) && ((b.part == c.part) && true)))) then (fD (some false)) else some (.inl (IntKind.i64.wrap (a+1)))))) else some (.inr (.inl ())))) (by
    intro n h1 h2
    have l1:(told r).l.length=r.cells.length:=fF _
    have l2:(told q).l.length=q.cells.length:=fF _
    rw [decide_eq_true (show (n:Int) < ((told r).l.length:Int) by omega),cond_true,bG _ _ (by omega),aA,bG _ _ (by omega),aA]
    have g1:(told r).l[n]'(by omega)=tc r.cells[n]:=List.getElem_map ..
    have g2:(told q).l[n]'(by omega)=tc q.cells[n]:=List.getElem_map ..
    rw [g1,g2]
    have:=mK r.cells[n] q.cells[n]
    show (bif !(((r.cells[n]).rune == (q.cells[n]).rune) && (((r.cells[n]).bU == (q.cells[n]).bU) && (((r.cells[n]).part == (q.cells[n]).part) && true))) then _ else _)=_
    rw [this]
    by_cases he:r.cells[n]=q.cells[n]
    ·rw [decide_eq_true he,if_pos he,Bool.not_true,cond_false,w64 (by omega) (by omega)]
     rfl
    ·rw [decide_eq_false he,if_neg he,Bool.not_false,cond_true]
     rfl) (by
    have l1:(told r).l.length=r.cells.length:=fF _
    rw [decide_eq_false (by omega),cond_false])
   rw [this,aA]
   by_cases he:r.cells=q.cells
   ·rw [if_pos he]
    have:r=q:=by cases r; cases q; simp_all
    rw [decide_eq_true this]
   ·rw [if_neg he]
    have: ¬ r=q:=λhh=>he (by rw [hh])
    rw [decide_eq_false this]
  ·have: ¬ r=q:=λhh=>h2 (by rw [hh])
   rw [decide_eq_false h2,decide_eq_false this]
   rfl
 ·have: ¬ r=q:=λhh=>h1 (by rw [hh])
  rw [decide_eq_false h1,decide_eq_false this]
  rfl
def py (s:aS):Bool:=iQ s || !n8 s
theorem pW {s:aS}:(kc s=noS)↔py s=true:=by
 unfold kc py
 constructor
 ·intro h
  split at h
  ·rename_i hb
   rcases hb with hb | hb <;> simp [hb]
  ·exact absurd h (DE s)
 ·intro h
  rw [if_pos]
  simpa using h
theorem DM (s:aS) (h:SW s) (hp:(s.rows.flatMap fS).length<=1000000):kj s=some (!py s):=by
 unfold kj
 rw [AR s h hp,aA]
 have e:((kc s).toList == (ByteArray.mk #[]).toList)=decide (kc s=noS):=np _ noS
 rw [e]
 cases hb:py s with
 | true=>rw [decide_eq_true (pW.2 hb)]
 | false=>rw [decide_eq_false (λhh=>by rw [pW.1 hh] at hb; cases hb)]
def zA (s:ByteArray):=rdS ⟨s,0⟩
def zB (s:ByteArray):=rdS (zA s).2
def zC (s:ByteArray):=cC (zB s).2 1000
def zD (s:ByteArray):=cC (zC s).2 1000
def zE (s:ByteArray):=rdS (zD s).2
def zF (s:ByteArray):=rdS (zE s).2
def zT (s:ByteArray):=mO (zF s).2
def zG (s:ByteArray):=rdS (zT s).2
def zH (s:ByteArray):=rdS (zG s).2
def zK (s:ByteArray):=bkS (zH s).2
def zN (s:ByteArray):=rdS (zK s).2
def zS (s:ByteArray):aS:=⟨(zB s).1,(zC s).1,(zD s).1,(zE s).1,(zF s).1,(zT s).1,[],(zG s).1,(zH s).1,(zK s).1⟩
def tz (j:aK):aK:=if j.e=0 then jW else j
theorem DN {j:aK} (h:VI j):VI (tz j):=by
 unfold tz
 split
 ·exact nE
 ·exact h
theorem Fz (j:aK):(tz j).e≠0:=by
 unfold tz
 split
 ·decide
 ·assumption
def dlI (h:Int) (i:aK) (last:Int):aK:=if (rdS i).1<=last\/(rdS i).1>=h then tz (rdS i).2 else (rdS i).2
def dlL:Nat->Int->Int->aK->Int->List (Int×aY)->List (Int×aY)×aK
 | 0,_,_,i,_,l=>(l,i)
 | k+1,w,h,i,last,l=>if i.e=0 then dlL k w h (iS (dlI h i last) w).2 (rdS i).1 (l++[((rdS i).1,(iS (dlI h i last) w).1)]) else (l,i)
def zR (s:ByteArray):=dlL (zN s).1.toNat (zC s).1 (zD s).1 (zN s).2 (-1) []
theorem lO {h:Int} {i:aK} {last:Int} (hV:VI i):VI (dlI h i last):=by
 unfold dlI
 split
 ·exact DN (fH hV)
 ·exact fH hV
theorem zZ {h:Int} {i:aK} {last:Int} (he:(dlI h i last).e=0):last < (rdS i).1/\(rdS i).1 < h/\dlI h i last=(rdS i).2:=by
 unfold dlI at he ⊢
 split at he
 ·exact absurd he (Fz _)
 ·rename_i hc
  rw [if_neg hc]
  exact ⟨by omega,by omega,rfl⟩
theorem rv (k:Nat) (w h:Int) (i:aK) (last:Int) (l:List (Int×aY)) (he:i.e≠0):dlL k w h i last l=(l,i):=by
 cases k with
 | zero=>rfl
 | succ k=>unfold dlL; rw [if_neg he]
theorem w6 {i:aK} {w:Int} (hV:VI i) (he:(iS i w).2.e=0):i.e=0:=by
 unfold iS at he
 have h1:(rrS (w.toNat+1) w (cC i 1).2 []).2.e=0:=by
  split at he
  ·exact he
  ·exact he
 have h2:=ye _ _ _ _ h1
 exact (kI h2 hV).1
theorem Gi: ∀ (k:Nat) (w h:Int) (i:aK) (last:Int) (l:List (Int×aY)),(dlL k w h i last l).2.e=0->i.e=0
 | 0,w,h,i,last,l,he=>he
 | k+1,w,h,i,last,l,he=>by
  unfold dlL at he
  split at he
  ·assumption
  ·exact he
theorem DO: ∀ (k:Nat) (w h:Int) (i:aK) (last:Int) (l:List (Int×aY)),VI i->VI (dlL k w h i last l).2
 | 0,w,h,i,last,l,hV=>hV
 | k+1,w,h,i,last,l,hV=>by
  unfold dlL
  split
  ·exact DO k w h _ _ _ (rj (lO hV))
  ·exact hV
theorem w7 {α:Type} (k:Int) (x:α): ∀ l:List (Int×α),(∀ p∈l,p.1≠k)->msl k x l=l++[(k,x)]
 | [],_=>rfl
 | (j,y)::l,h=>by
  have h1:k≠j:=λe=>h (j,y) (by simp) e.symm
  simp only [msl,if_neg h1,List.cons_append]
  rw [w7 k x l λp hp=>h p (by simp [hp])]
theorem z6 (sum:Int) (x:aS) (hx:x.rows=[]) (hw:x.w<=1000) (f:bT×aK×Int×Int->Option ((bT×aK×Int×Int) ⊕ (aK×bT))) (hf:f=(λa=>(Option.bind ((bif (decide (a.2.2.2 > 0)) then (Option.bind (cX a.2.1) λg=>some (g == 0)) else some false):Option Bool) λj=>(bif j then (Option.bind (bO a.2.1) λb=>(Option.bind ((bif (decide (b.1<=a.2.2.1)) then some true else some (decide (b.1>=a.1.to.h))):Option Bool) λm=>(Option.bind ((bif m then (Option.bind (bR b.2 1) λc=>some c) else some b.2):Option aK) λn=>(Option.bind (je n a.1.to.w) λd=>(Option.bind (chk a.1.rows.isSome) λ_=>some (.inl ((bT.mk a.1.sum (aS.mk a.1.to.k a.1.to.w a.1.to.h a.1.to.x a.1.to.y a.1.to.title ([]:List aY) a.1.to.len a.1.to.chain a.1.to.begun) (BI a.1.rows b.1 d.1)),d.2,b.1,(IntKind.i64.wrap (a.2.2.2 - 1))))))))) else some (.inr (a.2.1,(bT.mk a.1.sum (aS.mk a.1.to.k a.1.to.w a.1.to.h a.1.to.x a.1.to.y a.1.to.title ([]:List aY) a.1.to.len a.1.to.chain a.1.to.begun) a.1.rows)))))) ) :
  ∀ (k:Nat) (i:aK) (last:Int) (l l':List (Int×aY)),k<=4611686018427387904->VI i->(i.e=0->l'=l /\ ∀ p∈l,p.1<=last) ->
  ∃ m',iter f (⟨sum,x,some l'⟩,i,last,(k:Int))=some ((dlL k x.w x.h i last l).2,⟨sum,x,some m'⟩)/\((dlL k x.w x.h i last l).2.e=0->m'=(dlL k x.w x.h i last l).1):=by
 have hx2:aS.mk x.k x.w x.h x.x x.y x.title ([]:List aY) x.len x.chain x.begun=x:=by
  obtain ⟨⟩:=x
  dsimp only at hx
  subst hx
  rfl
 intro k
 induction k with
 | zero =>
  intro i last l l' hk hV hl
  refine ⟨l',bC ?_,λhe=>(hl he).1⟩
  subst hf
  dsimp only
  rw [decide_eq_false (by omega),cond_false,aA,cond_false,hx2]
  rfl
 | succ k ih =>
  intro i last l l' hk hV hl
  by_cases he:i.e=0
  ·obtain ⟨rfl,hlast⟩:=hl he
   have hrr:=kT hV
   have hstep:f (⟨sum,x,some l'⟩,i,last,((k+1:Nat):Int))=some (.inl (⟨sum,x,some (msl (rdS i).1 (iS (dlI x.h i last) x.w).1 l')⟩,(iS (dlI x.h i last) x.w).2,(rdS i).1,(k:Int))):=by
    subst hf
    dsimp only
    have e1:cX i=some i.e:=rfl
    have e2:(i.e == 0)=true:=by simpa using he
    have e3:((bif (decide ((rdS i).1<=last)) then some true else some (decide ((rdS i).1>=x.h))):Option Bool)=some (decide ((rdS i).1<=last\/(rdS i).1>=x.h)):=or2 _ _
    have e4:((bif (decide ((rdS i).1<=last\/(rdS i).1>=x.h)) then (Option.bind (bR (rdS i).2 1) λc=>some c) else some (rdS i).2):Option aK)=some (dlI x.h i last):=by
     unfold dlI
     by_cases hc:(rdS i).1<=last\/(rdS i).1>=x.h
     ·rw [decide_eq_true hc,cond_true,if_pos hc,re (fH hV)]
      rfl
     ·rw [decide_eq_false hc,cond_false,if_neg hc]
    rw [decide_eq_true (by omega),cond_true,e1,aA,e2,aA,cond_true,jV _ hV,aA,e3,aA,e4,aA,zO _ _ (lO hV) hw,aA,hx2,w64 (by omega) (by omega)]
    have e5:((k+1:Nat):Int) - 1=(k:Int):=by omega
    rw [e5]
    rfl
   have hnew:(iS (dlI x.h i last) x.w).2.e=0->msl (rdS i).1 (iS (dlI x.h i last) x.w).1 l'=l'++[((rdS i).1,(iS (dlI x.h i last) x.w).1)] /\ ∀ p∈l'++[((rdS i).1,(iS (dlI x.h i last) x.w).1)],p.1<=(rdS i).1:=by
    intro h0
    obtain ⟨h2,h3, -⟩:=zZ (w6 (lO hV) h0)
    refine ⟨w7 _ _ _ λp hp e=> ?_,λp hp=> ?_⟩
    ·have:=hlast p hp
     omega
    ·rcases List.mem_append.1 hp with hp | hp
     ·have:=hlast p hp
      omega
     ·rw [List.mem_singleton.1 hp]
      exact Int.le_refl _
   obtain ⟨m',h1,h2⟩:=ih (iS (dlI x.h i last) x.w).2 (rdS i).1 (l'++[((rdS i).1,(iS (dlI x.h i last) x.w).1)]) (msl (rdS i).1 (iS (dlI x.h i last) x.w).1 l') (by omega) (rj (lO hV)) hnew
   have hd:dlL (k+1) x.w x.h i last l'=dlL k x.w x.h (iS (dlI x.h i last) x.w).2 (rdS i).1 (l'++[((rdS i).1,(iS (dlI x.h i last) x.w).1)]):=by
    conv=>lhs; unfold dlL
    rw [if_pos he]
   rw [hd]
   exact ⟨m',by rw [bY hstep,h1],h2⟩
  ·rw [rv _ _ _ _ _ _ he]
   refine ⟨l',bC ?_,λh=>absurd h he⟩
   subst hf
   dsimp only
   have e1:cX i=some i.e:=rfl
   have e2:(i.e == 0)=false:=by simpa using he
   rw [decide_eq_true (by omega),cond_true,e1,aA,e2,aA,cond_false,hx2]
theorem yq {i:aK} (h:VI i):jA i=some (cC i 1000):=size_eq h
theorem DP (s:ByteArray) (h:s.size<=1000000): ∃ m',lA s=some (⟨(zA s).1,zS s,some m'⟩,ku (zR s).2)/\((zR s).2.e=0->m'=(zR s).1):=by
 have v0:VI (⟨s,0⟩:aK):=⟨h,.inl rfl⟩
 have vA:VI (zA s).2:=fH v0
 have vB:VI (zB s).2:=fH vA
 have vC:VI (zC s).2:=fR _ vB
 have vD:VI (zD s).2:=fR _ vC
 have vE:VI (zE s).2:=fH vD
 have vF:VI (zF s).2:=fH vE
 have vT:VI (zT s).2:=sQ vF
 have vG:VI (zG s).2:=fH vT
 have vH:VI (zH s).2:=fH vG
 have vK:VI (zK s).2:=sR vH
 have vN:VI (zN s).2:=fH vK
 have hn:=kT vK
 have hw:(zS s).w<=1000:=(gS (m:=1000) vB (by omega)).2
 obtain ⟨N,hN⟩:=Int.eq_ofNat_of_zero_le (show 0<=(zN s).1 from hn.1)
 have hN2:N<=4611686018427387904:=by have:(zN s).1<=4611686018427387904:=hn.2; omega
 obtain ⟨m',h1,h2⟩:=z6 (zA s).1 (zS s) rfl hw _ rfl N (zN s).2 (-1) [] [] hN2 vN (λ_=>⟨rfl,λp hp=>by cases hp⟩)
 have hR:zR s=dlL N (zS s).w (zS s).h (zN s).2 (-1) []:=by
  unfold zR
  rw [hN,Int.toNat_natCast]
  rfl
 rw [<- hR] at h1 h2
 refine ⟨m',?_,h2⟩
 unfold lA
 have e0:ly s=some ⟨s,0⟩:=rfl
 have e1:bO ⟨s,0⟩=some (zA s):=jV _ v0
 have e2:bO (zA s).2=some (zB s):=jV _ vA
 have e3:jA (zB s).2=some (zC s):=yq vB
 have e4:jA (zC s).2=some (zD s):=yq vC
 have e5:bO (zD s).2=some (zE s):=jV _ vD
 have e6:bO (zE s).2=some (zF s):=jV _ vE
 have e7:iL (zF s).2=some (zT s):=AT _ vF
 have e8:bO (zT s).2=some (zG s):=jV _ vT
 have e9:bO (zG s).2=some (zH s):=jV _ vG
 have e10:jr (zH s).2=some (zK s):=yk _ vH
 have e11:bO (zK s).2=some (zN s):=jV _ vK
 rw [e0,aA,e1,aA,e2,aA,e3,aA,e4,aA,e5,aA,e6,aA,e7,aA,e8,aA,e9,aA,e10,aA,e11,aA]
 have hS:aS.mk (zB s).1 (zC s).1 (zD s).1 (zE s).1 (zF s).1 (zT s).1 ([]:List aY) (zG s).1 (zH s).1 (zK s).1=zS s:=rfl
 rw [hS,hN,h1,aA,wV,aA]
 rfl
def iT (A:List aY) (l:List (Int×aY)):Nat->Nat->List aY->Option (List aY)
 | 0,_,acc=>some acc
 | k+1,y,acc=>match mgl (y:Int) l,A[y]? with
  | some r,some q=>if q=r then none else iT A l k (y+1) (acc++[r])
  | some r,none=>iT A l k (y+1) (acc++[r])
  | none,some q=>iT A l k (y+1) (acc++[q])
  | none,none=>none
theorem z7 (sum:Int) (x a:aS) (l:List (Int×aY)) (H:Nat) (hH:H<=1000) (hh:x.h=(H:Int)) (ha: ∀ r∈a.rows,r.cells.length<=1000000) (f:bT×Int->Option ((bT×Int) ⊕ (bT ⊕ (Bool×bT)))) (hf:f=(λb=>(bif (decide (b.2 < x.h)) then (Option.bind (hG a b.2) λc=>(Option.bind ((Option.bind ((bif (iv b.1.rows b.2) then (bif c.2 then (Option.bind (jb c.1 (mgd b.1.rows b.2 (aY.mk ([]:List aP) false))) λe=>some e) else some false) else some false):Option Bool) λd=>(Option.bind ((bif d then some d else (bif (!(iv b.1.rows b.2)) then some (!c.2) else some false)):Option Bool) λg=>(bif g then (ot (fD (some (false,(bT.mk b.1.sum (aS.mk b.1.to.k b.1.to.w b.1.to.h b.1.to.x b.1.to.y b.1.to.title b.1.to.rows b.1.to.len b.1.to.chain b.1.to.begun) b.1.rows))))) else (bif (!(iv b.1.rows b.2)) then some (.inl c.1) else some (.inl (mgd b.1.rows b.2 (aY.mk ([]:List aP) false))))))):Option (aY ⊕ ((bT×Int) ⊕ (bT ⊕ (Bool×bT))))) λ | .inl e1033=>(Option.bind (chk (cW b.1.to.rows.length [e1033].length 32)) λ_=>some (.inl ((bT.mk b.1.sum (aS.mk b.1.to.k b.1.to.w b.1.to.h b.1.to.x b.1.to.y b.1.to.title (b.1.to.rows++[e1033]) b.1.to.len b.1.to.chain b.1.to.begun) b.1.rows),(IntKind.i64.wrap (b.2+1))))) | .inr w=>some w)) else some (.inr (.inl (bT.mk b.1.sum (aS.mk b.1.to.k b.1.to.w b.1.to.h b.1.to.x b.1.to.y b.1.to.title b.1.to.rows b.1.to.len b.1.to.chain b.1.to.begun) b.1.rows))))) ) :
  ∀ (k y:Nat) (acc:List aY),y+k=H->acc.length=y ->
  (∀ out,iT a.rows l k y acc=some out->iter f (⟨sum,kd x acc,some l⟩,(y:Int))=some (.inl ⟨sum,kd x out,some l⟩))/\(iT a.rows l k y acc=none -> ∃ p',iter f (⟨sum,kd x acc,some l⟩,(y:Int))=some (.inr (false,p'))):=by
 intro k
 induction k with
 | zero =>
  intro y acc hy hl
  refine ⟨λout ho=> ?_,λho=>by cases ho⟩
  injection ho with ho
  subst ho
  refine bC ?_
  subst hf
  dsimp only
  rw [decide_eq_false (by omega),cond_false]
 | succ k ih =>
  intro y acc hy hl
  have hgo: ∀ r:aY,(∀ out,iT a.rows l k (y+1) (acc++[r])=some out->iter f (⟨sum,kd x (acc++[r]),some l⟩,((y+1:Nat):Int))=some (.inl ⟨sum,kd x out,some l⟩))/\(iT a.rows l k (y+1) (acc++[r])=none -> ∃ p',iter f (⟨sum,kd x (acc++[r]),some l⟩,((y+1:Nat):Int))=some (.inr (false,p'))):=λr=>ih (y+1) (acc++[r]) (by omega) (by simp [hl])
  have hap:chk (cW acc.length 1 32)=some ():=bP (by omega)
  have hwr:IntKind.i64.wrap ((y:Int)+1)=((y+1:Nat):Int):=by rw [w64 (by omega) (by omega)]; rfl
  -- a step that goes on with a row
  have hon: ∀ r:aY,f (⟨sum,kd x acc,some l⟩,(y:Int))=some (.inl (⟨sum,kd x (acc++[r]),some l⟩,((y+1:Nat):Int)))->iT a.rows l (k+1) y acc=iT a.rows l k (y+1) (acc++[r])->(∀ out,iT a.rows l (k+1) y acc=some out->iter f (⟨sum,kd x acc,some l⟩,(y:Int))=some (.inl ⟨sum,kd x out,some l⟩))/\(iT a.rows l (k+1) y acc=none -> ∃ p',iter f (⟨sum,kd x acc,some l⟩,(y:Int))=some (.inr (false,p'))):=by
   intro r h1 h2
   rw [h2,bY h1]
   exact hgo r
  have hoff:(∃ p',f (⟨sum,kd x acc,some l⟩,(y:Int))=some (.inr (.inr (false,p'))))->iT a.rows l (k+1) y acc=none->(∀ out,iT a.rows l (k+1) y acc=some out->iter f (⟨sum,kd x acc,some l⟩,(y:Int))=some (.inl ⟨sum,kd x out,some l⟩))/\(iT a.rows l (k+1) y acc=none -> ∃ p',iter f (⟨sum,kd x acc,some l⟩,(y:Int))=some (.inr (false,p'))):=by
   rintro ⟨p',h1⟩ h2
   rw [h2]
   exact ⟨λout ho=>(by cases ho),λ_=>⟨p',bC h1⟩⟩
  have hd:decide ((y:Int) < x.h)=true:=decide_eq_true (by omega)
  cases hm:mgl (y:Int) l with
  | some r =>
   have m1:iv (some l) (y:Int)=true:=by simp [iv,hm]
   have m2: ∀ z,mgd (some l) (y:Int) z=r:=λz=>by simp [mgd,hm]
   by_cases hya:y < a.rows.length
   ·have e1:a.rows[y]?=some a.rows[y]:=List.getElem?_eq_getElem hya
    by_cases hq:a.rows[y]=r
    ·refine hoff ⟨⟨sum,kd x acc,some l⟩,?_⟩ (by simp only [iT,hm,e1,if_pos hq])
     subst hf
     dsimp only
     rw [hd,cond_true,uN a y hya,aA]
     dsimp only
     rw [m1,m2,cond_true,cond_true,AK _ _ (ha _ (List.getElem_mem hya)),decide_eq_true hq]
     rfl
    ·refine hon r ?_ (by simp only [iT,hm,e1,if_neg hq])
     subst hf
     dsimp only
     rw [hd,cond_true,uN a y hya,aA]
     dsimp only
     rw [m1,m2,cond_true,cond_true,AK _ _ (ha _ (List.getElem_mem hya)),decide_eq_false hq]
     show Option.bind (chk (cW acc.length 1 32)) _=_
     rw [hap,aA,hwr]
     rfl
   ·have e1:a.rows[y]?=none:=List.getElem?_eq_none (by omega)
    refine hon r ?_ (by simp only [iT,hm,e1])
    subst hf
    dsimp only
    rw [hd,cond_true,wv a y hya,aA]
    dsimp only
    rw [m1,m2]
    show Option.bind (chk (cW acc.length 1 32)) _=_
    rw [hap,aA,hwr]
    rfl
  | none =>
   have m1:iv (some l) (y:Int)=false:=by simp [iv,hm]
   by_cases hya:y < a.rows.length
   ·have e1:a.rows[y]?=some a.rows[y]:=List.getElem?_eq_getElem hya
    refine hon a.rows[y] ?_ (by simp only [iT,hm,e1])
    subst hf
    dsimp only
    rw [hd,cond_true,uN a y hya,aA]
    dsimp only
    rw [m1]
    show Option.bind (chk (cW acc.length 1 32)) _=_
    rw [hap,aA,hwr]
    rfl
   ·have e1:a.rows[y]?=none:=List.getElem?_eq_none (by omega)
    refine hoff ⟨⟨sum,kd x acc,some l⟩,?_⟩ (by simp only [iT,hm,e1])
    subst hf
    dsimp only
    rw [hd,cond_true,wv a y hya,aA]
    dsimp only
    rw [m1]
    rfl
def nG (a:aS) (s:ByteArray):aS×Int :=
 if n8 a=false then (jM,1)
 else if ku (zR s).2≠0 then (jM,ku (zR s).2)
 else if (zA s).1≠((jX (kc a):Nat):Int) then (jM,7)
 else match iT a.rows (zR s).1 (zD s).1.toNat 0 [] with
  | none=>(jM,1)
  | some l=>if py (kd (zS s) l) then (jM,1) else (kd (zS s) l,0)
theorem wx {i:aK} (hV:VI i) (h:ku i=0):i.e=0/\i.s=noS:=by
 unfold ku at h
 split at h
 ·cases h
 ·rename_i h1
  exact ⟨h,Classical.not_not.1 h1⟩
theorem zVI {s:ByteArray} (h:s.size<=1000000):VI (zB s).2/\VI (zC s).2/\VI (zF s).2/\VI (zH s).2/\VI (zK s).2/\VI (zN s).2/\VI (zR s).2:=by
 have v0:VI (⟨s,0⟩:aK):=⟨h,.inl rfl⟩
 have vB:VI (zB s).2:=fH (fH v0)
 have vC:VI (zC s).2:=fR _ vB
 have vF:VI (zF s).2:=fH (fH (fR _ vC))
 have vH:VI (zH s).2:=fH (fH (sQ vF))
 have vK:VI (zK s).2:=sR vH
 have vN:VI (zN s).2:=fH vK
 exact ⟨vB,vC,vF,vH,vK,vN,DO _ _ _ _ _ _ vN⟩
def prl (l:List (Int×aY)):List Int:=l.flatMap λp=>cI p.1++fS p.2
theorem FA {i:aK} (hV:VI i) (h:(rdS i).2.e=0):i.e=0/\sbs i.s=cI (rdS i).1++sbs (rdS i).2.s:=by
 obtain ⟨h1,w,h2,h3,h4⟩:=v9 h hV
 exact ⟨h1,by rw [h2,kr h3]; exact h4⟩
theorem wy: ∀ (k:Nat) (w h:Int) (i:aK) (last:Int) (l:List (Int×aY)),VI i->(dlL k w h i last l).2.e=0 -> ∃ D,prl (dlL k w h i last l).1=prl l++D/\sbs i.s=D++sbs (dlL k w h i last l).2.s
 | 0,w,h,i,last,l,hV,he=>⟨[],by simp [dlL],by simp [dlL]⟩
 | k+1,w,h,i,last,l,hV,he=>by
  have hi:=Gi _ _ _ _ _ _ he
  unfold dlL at he ⊢
  rw [if_pos hi] at he ⊢
  have h0:=Gi _ _ _ _ _ _ he
  have h1:=w6 (lO hV) h0
  obtain ⟨h2,h3,h4⟩:=zZ h1
  obtain ⟨D,d1,d2⟩:=wy k w h _ _ _ (rj (lO hV)) he
  have hr:(rdS i).2.e=0:=by rw [<- h4]; exact h1
  obtain ⟨-,h5⟩:=FA hV hr
  have h6:=zU (lO (h:=h) (last:=last) hV) h0
  refine ⟨cI (rdS i).1++fS (iS (dlI h i last) w).1++D,?_,?_⟩
  ·rw [d1]
   unfold prl
   rw [List.flatMap_append,List.flatMap_singleton]
   simp only [List.append_assoc]
  ·rw [h5,<- h4,h6,d2]
   simp only [List.append_assoc]
theorem G6 {i:aK} {m:Nat} (h:SZ m i):(mO i).2.s.size<=m:=by
 by_cases he:(mO i).2.e=0
 ·obtain ⟨-,hw⟩:=Dr h.1 he
  have:=congrArg List.length hw
  rw [List.length_append,bD,bD] at this
  have:=h.2
  omega
 ·rcases (sQ h.1).2 with h1 | h1
  ·exact absurd h1 he
  ·rw [h1]; exact Nat.zero_le _
theorem HO {i:aK} {m:Nat} (h:SZ m i):(bkS i).2.s.size<=m:=by
 by_cases he:(bkS i).2.e=0
 ·obtain ⟨-,hw⟩:=wq h.1 he
  have:=congrArg List.length hw
  rw [List.length_append,bD,bD] at this
  have:=h.2
  omega
 ·rcases (sR h.1).2 with h1 | h1
  ·exact absurd h1 he
  ·rw [h1]; exact Nat.zero_le _
theorem uO: ∀ (k:Nat) (w h:Int) (i:aK) (last:Int) (l:List (Int×aY)),VI i->w<=1000->(∀ p∈l,okR p.2.cells/\p.2.cells.length<=1000) -> ∀ p∈(dlL k w h i last l).1,okR p.2.cells/\p.2.cells.length<=1000
 | 0,w,h,i,last,l,hV,hw,hl=>hl
 | k+1,w,h,i,last,l,hV,hw,hl=>by
  unfold dlL
  split
  ·refine uO k w h _ _ _ (rj (lO hV)) hw ?_
   intro p hp
   rcases List.mem_append.1 hp with hp | hp
   ·exact hl p hp
   ·rw [List.mem_singleton.1 hp]
    exact Fl (lO hV) hw
  ·exact hl
theorem kX {α:Type} {k:Int} {x:α}: ∀ {l:List (Int×α)},mgl k l=some x->(k,x)∈l
 | [],h=>by cases h
 | (j,y)::l,h=>by
  simp only [mgl] at h
  split at h
  ·rename_i hk
   injection h with h
   subst h hk
   exact List.mem_cons_self ..
  ·exact List.mem_cons_of_mem _ (kX h)
theorem uP {A:List aY} {l:List (Int×aY)} (Q:aY->Prop) (hA: ∀ r∈A,Q r) (hl: ∀ p∈l,Q p.2): ∀ (k y:Nat) (acc out:List aY),iT A l k y acc=some out->(∀ r∈acc,Q r)->(∀ r∈out,Q r)/\out.length=acc.length+k
 | 0,y,acc,out,h,hacc=>by
  injection h with h
  subst h
  exact ⟨hacc,rfl⟩
 | k+1,y,acc,out,h,hacc=>by
  have go: ∀ r,Q r->iT A l k (y+1) (acc++[r])=some out->(∀ r∈out,Q r)/\out.length=acc.length+(k+1):=by
   intro r hr h2
   obtain ⟨h3,h4⟩:=uP Q hA hl k (y+1) (acc++[r]) out h2 (λq hq=>by
    rcases List.mem_append.1 hq with hq | hq
    ·exact hacc q hq
    ·rw [List.mem_singleton.1 hq]; exact hr)
   refine ⟨h3,h4.trans ?_⟩
   simp only [List.length_append,List.length_cons,List.length_nil]
   omega
  simp only [iT] at h
  split at h
  ·rename_i r q h1 h2
   split at h
   ·cases h
   ·exact go r (hl _ (kX h1)) h
  ·rename_i r h1 h2
   exact go r (hl _ (kX h1)) h
  ·rename_i q h1 h2
   exact go q (hA _ (List.mem_of_getElem? h2)) h
  ·cases h
def tot (y:Int):List (Int×aY)->Nat
 | []=>0
 | (j,z)::l=>(if y<=j then (fS z).length else 0)+tot y l
theorem uQ (y:Int): ∀ l,tot (y+1) l<=tot y l
 | []=>Nat.le_refl _
 | (j,z)::l=>by
  have:=uQ y l
  simp only [tot]
  by_cases h1:y+1<=j
  ·rw [if_pos h1,if_pos (by omega)]; omega
  ·rw [if_neg h1]; omega
theorem w9 (y:Int) {r:aY}: ∀ l,mgl y l=some r->(fS r).length+tot (y+1) l<=tot y l
 | [],h=>by cases h
 | (j,z)::l,h=>by
  simp only [mgl] at h
  simp only [tot]
  split at h
  ·rename_i hk
   injection h with h
   subst h hk
   have:=uQ y l
   rw [if_neg (by omega),if_pos (Int.le_refl _)]
   omega
  ·have:=w9 y l h
   by_cases h1:y+1<=j
   ·rw [if_pos h1,if_pos (by omega)]; omega
   ·rw [if_neg h1]; omega
theorem z8 (y:Int): ∀ l,tot y l<=(prl l).length
 | []=>Nat.le_refl _
 | (j,z)::l=>by
  have:=z8 y l
  unfold prl at this ⊢
  simp only [tot,List.flatMap_cons,List.length_append]
  split <;> omega
theorem uR {A:List aY} {l:List (Int×aY)}: ∀ (k y:Nat) (acc out:List aY),iT A l k y acc=some out->(out.flatMap fS).length<=(acc.flatMap fS).length+tot (y:Int) l+((A.drop y).flatMap fS).length
 | 0,y,acc,out,h=>by
  injection h with h
  subst h
  omega
 | k+1,y,acc,out,h=>by
  have hn:=uQ (y:Int) l
  have e1:((y+1:Nat):Int)=(y:Int)+1:=rfl
  have hd: ∀ q,A[y]?=some q->((A.drop y).flatMap fS).length=(fS q).length+((A.drop (y+1)).flatMap fS).length:=by
   intro q hq
   obtain ⟨h1,h2⟩:=List.getElem?_eq_some_iff.1 hq
   rw [List.drop_eq_getElem_cons h1,List.flatMap_cons,List.length_append,h2]
  have go: ∀ r,iT A l k (y+1) (acc++[r])=some out->(out.flatMap fS).length<=(acc.flatMap fS).length+(fS r).length+tot ((y:Int)+1) l+((A.drop (y+1)).flatMap fS).length:=by
   intro r h2
   have:=uR k (y+1) (acc++[r]) out h2
   rw [List.flatMap_append,List.flatMap_singleton,List.length_append,e1] at this
   exact this
  have hdd:((A.drop (y+1)).flatMap fS).length<=((A.drop y).flatMap fS).length:=by
   by_cases hy:y < A.length
   ·rw [hd _ (List.getElem?_eq_getElem hy)]; omega
   ·rw [List.drop_eq_nil_of_le (by omega:A.length<=y+1)]
    exact Nat.zero_le _
  simp only [iT] at h
  split at h
  ·rename_i r q h1 h2
   split at h
   ·cases h
   ·have:=go r h
    have:=w9 (y:Int) l h1
    omega
  ·rename_i r h1 h2
   have:=go r h
   have:=w9 (y:Int) l h1
   omega
  ·rename_i q h1 h2
   have:=go q h
   have:=hd q h2
   omega
  ·cases h
theorem DQ {s:ByteArray} (h:s.size<=1000000) (he:(zR s).2.e=0):(prl (zR s).1).length<=s.size:=by
 obtain ⟨vB,vC,vF,vH,vK,vN,vR⟩:=zVI h
 obtain ⟨D,h1,h2⟩:=wy _ _ _ _ _ _ vN he
 have hD:prl (zR s).1=D:=h1
 have h3:=congrArg List.length h2
 rw [List.length_append,bD,<- hD] at h3
 have v0:SZ s.size (⟨s,0⟩:aK):=⟨⟨h,.inl rfl⟩,Nat.le_refl _⟩
 have s1:SZ s.size (zF s).2:=lM (lM (wW _ (wW _ (lM (lM v0)))))
 have s2:SZ s.size (zT s).2:=⟨sQ s1.1,G6 s1⟩
 have s3:SZ s.size (zH s).2:=lM (lM s2)
 have s4:SZ s.size (zK s).2:=⟨sR s3.1,HO s3⟩
 have s5:=(lM s4).2
 have:(zN s).2.s.size<=s.size:=s5
 omega
theorem ry {a:aS} {s:ByteArray} {l:List aY} (ha:SW a) (pa:(a.rows.flatMap fS).length<=12000) (h:s.size<=100000) (ht:(zT s).1.size<=12000) (he:(zR s).2.e=0) (hl:iT a.rows (zR s).1 (zD s).1.toNat 0 []=some l):SW (kd (zS s) l)/\(l.flatMap fS).length<=200000:=by
 obtain ⟨vB,vC,vF,vH,vK,vN,vR⟩:=zVI (s:=s) (by omega)
 have b1:=gS (m:=1000) vB (by omega)
 have c1:=gS (m:=1000) vC (by omega)
 have hw1:0<=(zC s).1:=b1.1
 have hw2:(zC s).1<=1000:=b1.2
 have hh1:0<=(zD s).1:=c1.1
 have hh2:(zD s).1<=1000:=c1.2
 have bo:=Dv vH
 have hrows:=uO (zN s).1.toNat (zC s).1 (zD s).1 (zN s).2 (-1) [] vN hw2 (λp hp=>by cases hp)
 obtain ⟨p1,p2⟩:=uP (λr=>okR r.cells/\r.cells.length<=1000) ha.ro hrows _ _ _ _ hl (λr hr=>by cases hr)
 have p3:=uR _ _ _ _ hl
 have p4:=z8 ((0:Nat):Int) (zR s).1
 have p5:=DQ (by omega) he
 have p6:((a.rows.drop 0).flatMap fS).length<=12000:=by simpa using pa
 refine ⟨⟨?_,?_,bo.1,p1,?_,Nat.le_trans bo.2 (by decide),ht⟩,?_⟩
 ·show _<=(zC s).1/\(zC s).1<=_
  omega
 ·show _<=(zD s).1/\(zD s).1<=_
  omega
 ·show l.length<=1000
  rw [p2]
  simp only [List.length_nil]
  omega
 ·simp only [List.flatMap_nil,List.length_nil] at p3
  omega
theorem DR (a:aS) (s:ByteArray) (ha:SW a) (pa:(a.rows.flatMap fS).length<=12000) (h:s.size<=100000) (ht:(zT s).1.size<=12000) (he:(zR s).2.e=0) (sum:Int) :
  (∀ l,iT a.rows (zR s).1 (zD s).1.toNat 0 []=some l->eV ⟨sum,zS s,some (zR s).1⟩ a=some (!py (kd (zS s) l),⟨sum,kd (zS s) l,some (zR s).1⟩))/\(iT a.rows (zR s).1 (zD s).1.toNat 0 []=none -> ∃ p',eV ⟨sum,zS s,some (zR s).1⟩ a=some (false,p')):=by
 obtain ⟨vB,vC,vF,vH,vK,vN,vR⟩:=zVI (s:=s) (by omega)
 have c1:=gS (m:=1000) vC (by omega)
 have hh1:0<=(zD s).1:=c1.1
 have hh2:(zD s).1<=1000:=c1.2
 have har: ∀ r∈a.rows,r.cells.length<=1000000:=λr hr=>by have:=(ha.ro r hr).2; omega
 obtain ⟨H,hH⟩:=Int.eq_ofNat_of_zero_le hh1
 obtain ⟨b1,b2⟩:=z7 sum (zS s) a (zR s).1 H (by omega) hH har _ rfl H 0 [] (by omega) rfl
 have hH2:(zD s).1.toNat=H:=by rw [hH,Int.toNat_natCast]
 have hz:kd (zS s) []=zS s:=rfl
 rw [hz] at b1 b2
 refine ⟨λl hl=> ?_,λhl=> ?_⟩
 ·obtain ⟨SWx,pl⟩:=ry ha pa h ht he hl
  rw [hH2] at hl
  have e:=b1 l hl
  unfold eV
  refine (congrArg (λz=>Option.bind z _) e).trans ?_
  rw [aA]
  dsimp only
  have hm:kj (kd (zS s) l)=some (!py (kd (zS s) l)):=DM _ SWx (by show (l.flatMap fS).length<=1000000; omega)
  show Option.bind (kj (kd (zS s) l)) _=_
  rw [hm,aA]
 ·rw [hH2] at hl
  obtain ⟨p',this⟩:=b2 hl
  refine ⟨p',?_⟩
  unfold eV
  refine (congrArg (λz=>Option.bind z _) this).trans ?_
  rw [aA]
theorem DS (a:aS) (s:ByteArray) (ha:SW a) (pa:(a.rows.flatMap fS).length<=12000) (h:s.size<=100000) (ht:(zT s).1.size<=12000):kN a s=some (nG a s):=by
 obtain ⟨vB,vC,vF,vH,vK,vN,vR⟩:=zVI (s:=s) (by omega)
 unfold kN nG
 rw [yi a ha,aA]
 cases hm:n8 a with
 | false=>rw [if_neg (by simp),if_pos rfl]; rfl
 | true =>
  rw [if_pos rfl,if_neg (by simp)]
  obtain ⟨m',r1,r2⟩:=DP s (by omega)
  have k0:((0:Int) != 0)=false:=rfl
  rw [k0,cond_false,r1,aA]
  dsimp only
  by_cases he:ku (zR s).2=0
  ·have k1:(ku (zR s).2 != 0)=false:=by simp [he]
   rw [k1,cond_false,if_neg (λhh=>hh he),Fv a ha pa,aA]
   obtain ⟨he0, -⟩:=wx vR he
   obtain rfl:=r2 he0
   by_cases hs:(zA s).1=((jX (kc a):Nat):Int)
   ·have k2:((zA s).1 != ((jX (kc a):Nat):Int))=false:=by simp [hs]
    rw [k2,cond_false,if_neg (λhh=>hh hs)]
    obtain ⟨b1,b2⟩:=DR a s ha pa h ht he0 (zA s).1
    cases hl:iT a.rows (zR s).1 (zD s).1.toNat 0 [] with
    | none =>
     obtain ⟨p',b3⟩:=b2 hl
     rw [b3,aA]
     rfl
    | some l =>
     obtain ⟨SWx,pl⟩:=ry ha pa h ht he0 hl
     rw [b1 l hl,aA]
     dsimp only
     cases hn:py (kd (zS s) l) with
     | true=>rfl
     | false =>
      rw [Bool.not_false,Bool.not_true,cond_false,if_neg (by simp),nu _ SWx,aA]
   ·have k2:((zA s).1 != ((jX (kc a):Nat):Int))=true:=by simp [hs]
    rw [k2,cond_true,if_pos hs]
    rfl
  ·have k1:(ku (zR s).2 != 0)=true:=by simp [he]
   rw [k1,cond_true,if_pos he]
   rfl
def qh (l:List (Int×aY)) (H:Nat):List Bool:=(List.range H).map λy:Nat=>(mgl (y:Int) l).isSome
def mP (l:List (Int×aY)) (H:Nat):List aY:=(List.range H).map λy:Nat=>(mgl (y:Int) l).getD uC
theorem DT (l:List (Int×aY)) (H:Nat):(qh l H).length=H:=by simp [qh]
theorem yr (l:List (Int×aY)) (H:Nat):(mP l H).length=H:=by simp [mP]
theorem rz (l:List (Int×aY)) (k j:Int) (x:aY) (hn: ∀ p∈l,p.1≠j):mgl k (l++[(j,x)])=if k=j then some x else mgl k l:=by
 induction l with
 | nil=>simp [mgl]
 | cons p l ih =>
  obtain ⟨i,z⟩:=p
  simp only [List.cons_append,mgl]
  have hi:i≠j:=hn (i,z) (by simp)
  by_cases h:k=i
  ·rw [if_pos h,if_neg (by omega),if_pos h]
  ·rw [if_neg h,ih λp hp=>hn p (by simp [hp]),if_neg h]
theorem DU (l:List (Int×aY)) (H j:Nat) (x:aY) (hj:j < H) (hn: ∀ p∈l,p.1≠(j:Int)):(qh l H).set j true=qh (l++[((j:Int),x)]) H:=by
 apply List.ext_getElem?
 intro i
 rw [List.getElem?_set]
 unfold qh
 simp only [List.getElem?_map,List.length_map,List.length_range]
 by_cases h:j=i
 ·subst h
  rw [if_pos rfl,if_pos hj,List.getElem?_range hj]
  simp [rz _ _ _ _ hn]
 ·rw [if_neg h]
  by_cases hi:i < H
  ·rw [List.getElem?_range hi]
   simp only [Option.map_some]
   rw [rz _ _ _ _ hn,if_neg (by omega)]
  ·rw [List.getElem?_eq_none (by simpa using hi)]
   rfl
theorem DV (l:List (Int×aY)) (H j:Nat) (x:aY) (hj:j < H) (hn: ∀ p∈l,p.1≠(j:Int)):(mP l H).set j x=mP (l++[((j:Int),x)]) H:=by
 apply List.ext_getElem?
 intro i
 rw [List.getElem?_set]
 unfold mP
 simp only [List.getElem?_map,List.length_map,List.length_range]
 by_cases h:j=i
 ·subst h
  rw [if_pos rfl,if_pos hj,List.getElem?_range hj]
  simp [rz _ _ _ _ hn]
 ·rw [if_neg h]
  by_cases hi:i < H
  ·rw [List.getElem?_range hi]
   simp only [Option.map_some]
   rw [rz _ _ _ _ hn,if_neg (by omega)]
  ·rw [List.getElem?_eq_none (by simpa using hi)]
   rfl
theorem DW (H:Nat):qh [] H=List.replicate H false:=by
 apply List.ext_getElem?
 intro i
 unfold qh
 simp only [List.getElem?_map,List.getElem?_replicate]
 by_cases hi:i < H
 ·rw [List.getElem?_range hi,if_pos hi]; rfl
 ·rw [List.getElem?_eq_none (by simpa using hi),if_neg hi]; rfl
theorem DX (H:Nat):(mP [] H).map told=List.replicate H (told uC):=by
 apply List.ext_getElem?
 intro i
 unfold mP
 simp only [List.getElem?_map,List.getElem?_replicate]
 by_cases hi:i < H
 ·rw [List.getElem?_range hi,if_pos hi]; rfl
 ·rw [List.getElem?_eq_none (by simpa using hi),if_neg hi]; rfl
theorem oC (l:List (Int×aY)) {H y:Nat} (h:y < H):idx (qh l H) (y:Int)=some (mgl (y:Int) l).isSome:=by
 rw [bG _ _ (by rw [DT]; exact h)]
 simp [qh]
theorem DY (l:List (Int×aY)) {H y:Nat} (h:y < H):(mP l H)[y]?=some ((mgl (y:Int) l).getD uC):=by
 unfold mP
 rw [List.getElem?_map,List.getElem?_range h]
 rfl
theorem G7 (x:aS) (H N:Nat) (hH:H<=1000) (hh:x.h=(H:Int)) (hw:x.w<=1000) (hN:N<=4611686018427387904) (f:aX×(List Bool)×(List bK)×Int×Int->Option ((aX×(List Bool)×(List bK)×Int×Int) ⊕ (((List Bool)×(List bK)×aX) ⊕ (bL×Int)))) (hf:f=(λa=>(bif (decide (a.2.2.2.2 < (N:Int))) then (Option.bind (bJ a.1) λb=>(Option.bind ((bif (b.1.e == 0) then (bif (decide (b.2<=a.2.2.2.1)) then some true else some (decide (b.2>=x.h))) else some false):Option Bool) λd=>(bif d then (fD (some ((bL.mk 0 0 0 0 0 (ByteArray.mk #[]) ([]:List bK) 0 0 ([]:List aO)),1))) else (Option.bind (iu b.1 x.w) λc=>(bif (c.1.e != 0) then (fD (some ((bL.mk 0 0 0 0 0 (ByteArray.mk #[]) ([]:List bK) 0 0 ([]:List aO)),c.1.e))) else (Option.bind (idx a.2.1 b.2) λg=>(Option.bind (idx a.2.2.1 b.2) λj=>some (.inl (c.1,(a.2.1.set b.2.toNat true),(a.2.2.1.set b.2.toNat c.2),b.2,(IntKind.i64.wrap (a.2.2.2.2+1))))))))))) else some (.inr (.inl (a.2.1,a.2.2.1,a.1))))) ) :
  ∀ (k n:Nat) (i:aK) (last:Int) (l:List (Int×aY)),n+k=N->VI i->i.e=0 -> -1<=last->(∀ p∈l,p.1<=last) ->
  iter f (asR i,qh l H,(mP l H).map told,last,(n:Int))=some (if (dlL k x.w x.h i last l).2.e=0 then .inl (qh (dlL k x.w x.h i last l).1 H,(mP (dlL k x.w x.h i last l).1 H).map told,asR (dlL k x.w x.h i last l).2) else .inr (fP jM,(dlL k x.w x.h i last l).2.e)):=by
 intro k
 induction k with
 | zero =>
  intro n i last l hn hV he h1 hl
  have e0:dlL 0 x.w x.h i last l=(l,i):=rfl
  rw [e0,if_pos he]
  refine bC ?_
  subst hf
  dsimp only
  rw [decide_eq_false (by omega),cond_false]
 | succ k ih =>
  intro n i last l hn hV he h1 hl
  have hrr:=kT hV
  have hd:dlL (k+1) x.w x.h i last l=dlL k x.w x.h (iS (dlI x.h i last) x.w).2 (rdS i).1 (l++[((rdS i).1,(iS (dlI x.h i last) x.w).1)]):=by
   conv=>lhs; unfold dlL
   rw [if_pos he]
  rw [hd]
  have hcond:((bif ((asR (rdS i).2).e == 0) then (bif (decide ((rdS i).1<=last)) then some true else some (decide ((rdS i).1>=x.h))) else some false):Option Bool)=some (decide ((rdS i).2.e=0/\((rdS i).1<=last\/(rdS i).1>=x.h))):=by
   rw [oA,or2]
   by_cases h0:(rdS i).2.e=0
   ·have:((rdS i).2.e == 0)=true:=by simpa using h0
    rw [this,cond_true]
    simp [h0]
   ·have:((rdS i).2.e == 0)=false:=by simpa using h0
    rw [this,cond_false]
    simp [h0]
  by_cases hrow:(iS (dlI x.h i last) x.w).2.e=0
  ·-- all right
   obtain ⟨h2,h3,h4⟩:=zZ (w6 (lO hV) hrow)
   have h5:(rdS i).2.e=0:=by rw [<- h4]; exact w6 (lO hV) hrow
   obtain ⟨y,hy⟩:=Int.eq_ofNat_of_zero_le hrr.1
   have hyH:y < H:=by omega
   have hnew: ∀ p∈l,p.1≠(y:Int):=λp hp e=>by have:=hl p hp; omega
   rw [bY (s':=(asR (iS (dlI x.h i last) x.w).2,qh (l++[((rdS i).1,(iS (dlI x.h i last) x.w).1)]) H,(mP (l++[((rdS i).1,(iS (dlI x.h i last) x.w).1)]) H).map told,(rdS i).1,((n+1:Nat):Int)))]
   ·refine ih (n+1) _ _ _ (by omega) (rj (lO hV)) hrow (by omega) ?_
    intro p hp
    rcases List.mem_append.1 hp with hp | hp
    ·have:=hl p hp
     omega
    ·rw [List.mem_singleton.1 hp]
     exact Int.le_refl _
   ·subst hf
    dsimp only
    rw [decide_eq_true (by omega),cond_true,gR _ hV,aA]
    dsimp only
    rw [hcond,decide_eq_false (by omega),aA,cond_false,<- h4,tv _ _ (lO hV) hw,aA]
    have k1:((asR (iS (dlI x.h i last) x.w).2).e != 0)=false:=by rw [oA]; simpa using hrow
    dsimp only
    rw [k1,cond_false,hy,oC l hyH,aA,bG _ _ (by rw [List.length_map,yr]; exact hyH),aA,Int.toNat_natCast,w64 (by omega) (by omega),<- DU l H y _ hyH hnew,<- DV l H y _ hyH hnew,List.map_set]
    rfl
  ·rw [rv _ _ _ _ _ _ hrow,if_neg hrow]
   refine bC ?_
   subst hf
   dsimp only
   rw [decide_eq_true (by omega),cond_true,gR _ hV,aA]
   dsimp only
   rw [hcond]
   by_cases hc:(rdS i).2.e=0/\((rdS i).1<=last\/(rdS i).1>=x.h)
   ·rw [decide_eq_true hc,aA,cond_true]
    have h6:dlI x.h i last=jW:=by
     unfold dlI
     rw [if_pos hc.2]
     unfold tz
     rw [if_pos hc.1]
    have h7:(iS jW x.w).2.e=1:=by
     have:(cC jW 1).2=jW:=by
      have:=rh (i:=jW) (by decide) 1 (by omega)
      exact this
     unfold iS
     rw [this]
     have h8:rrS (x.w.toNat+1) x.w jW []=([],jW):=by
      unfold rrS
      rw [if_neg (λhh=>absurd hh.2 (by decide))]
     rw [h8,if_neg (by decide)]
     rfl
    rw [h6,h7]
    rfl
   ·rw [decide_eq_false hc,aA,cond_false]
    have h6:dlI x.h i last=if (rdS i).2.e=0 then (rdS i).2 else (rdS i).2:=by
     unfold dlI
     by_cases h0:(rdS i).2.e=0
     ·rw [if_pos h0,if_neg (λhh=>hc ⟨h0,hh⟩)]
     ·rw [if_neg h0]
      split
      ·unfold tz
       rw [if_neg h0]
      ·rfl
    have h7:dlI x.h i last=(rdS i).2:=by rw [h6]; split <;> rfl
    rw [<- h7,tv _ _ (lO hV) hw,aA]
    have k1:((asR (iS (dlI x.h i last) x.w).2).e != 0)=true:=by rw [oA]; simpa using hrow
    dsimp only
    rw [k1,cond_true]
    rfl
theorem G8 (a:aS) (l:List (Int×aY)) (H:Nat) (hH:H<=1000) (ha: ∀ r∈a.rows,r.cells.length<=1000000) (hl: ∀ p∈l,p.2.cells.length<=1000000) (f:(List bK)×Int->Option (((List bK)×Int) ⊕ ((List bK) ⊕ (bL×Int)))) (hf:f=(λb=>(bif (decide (b.2 < (((mP l H).map told).length:Int))) then (Option.bind ((Option.bind ((Option.bind (idx (qh l H) b.2) λc=>(bif (!c) then (bif (decide (b.2>=((fP a).rows.length:Int))) then some true else (Option.bind (idx (qh l H) b.2) λd=>(bif d then (bif (decide (b.2 < ((fP a).rows.length:Int))) then (Option.bind (idx b.1 b.2) λe=>(Option.bind (idx (fP a).rows b.2) λg=>(Option.bind (iH e g) λh=>some h))) else some false) else some false))) else (Option.bind (idx (qh l H) b.2) λi=>(bif i then (bif (decide (b.2 < ((fP a).rows.length:Int))) then (Option.bind (idx b.1 b.2) λj=>(Option.bind (idx (fP a).rows b.2) λm=>(Option.bind (iH j m) λn=>some n))) else some false) else some false)))):Option Bool) λo=>(bif o then (ot (fD (some ((bL.mk 0 0 0 0 0 (ByteArray.mk #[]) ([]:List bK) 0 0 ([]:List aO)),1)))) else (Option.bind (idx (qh l H) b.2) λq=>(bif (!q) then (Option.bind (idx (fP a).rows b.2) λs=>(Option.bind (idx b.1 b.2) λt=>some (.inl (b.1.set b.2.toNat s)))) else some (.inl b.1))))):Option ((List bK) ⊕ (((List bK)×Int) ⊕ ((List bK) ⊕ (bL×Int))))) λ | .inl e4726=>some (.inl (e4726,(IntKind.i64.wrap (b.2+1)))) | .inr w=>some w) else some (.inr (.inl b.1)))) ) :
  ∀ (k y:Nat) (acc:List aY),y+k=H->acc.length=y ->
  iter f (acc.map told++((mP l H).map told).drop y,(y:Int))=some (match iT a.rows l k y acc with | some out=> .inl (out.map told) | none=> .inr (fP jM,1)):=by
 have lr:((mP l H).map told).length=H:=by rw [List.length_map,yr]
 have la:(fP a).rows.length=a.rows.length:=List.length_map ..
 intro k
 induction k with
 | zero =>
  intro y acc hy hacc
  refine bC ?_
  subst hf
  dsimp only
  rw [decide_eq_false (by omega),cond_false,List.drop_eq_nil_of_le (by omega),List.append_nil]
  rfl
 | succ k ih =>
  intro y acc hy hacc
  have hyH:y < H:=by omega
  have hcell:(((mP l H).map told).drop y)=told ((mgl (y:Int) l).getD uC)::((mP l H).map told).drop (y+1):=by
   rw [List.drop_eq_getElem_cons (by omega)]
   congr 1
   have:=DY l hyH
   rw [List.getElem_map]
   congr 1
   exact Option.some.inj ((List.getElem?_eq_getElem _).symm.trans this)
  have haccl:(acc.map told).length=y:=by rw [List.length_map]; exact hacc
  have hat:idx (acc.map told++told ((mgl (y:Int) l).getD uC)::((mP l H).map told).drop (y+1)) (y:Int)=some (told ((mgl (y:Int) l).getD uC)):=C9 (by rw [haccl])
  rw [hcell]
  have hset: ∀ r:aY,(acc.map told++told ((mgl (y:Int) l).getD uC)::((mP l H).map told).drop (y+1)).set y (told r)=(acc++[r]).map told++((mP l H).map told).drop (y+1):=by
   intro r
   rw [Dc (by rw [haccl]),List.map_append]
   simp
  have hon: ∀ r:aY,f (acc.map told++told ((mgl (y:Int) l).getD uC)::((mP l H).map told).drop (y+1),(y:Int))=some (.inl ((acc++[r]).map told++((mP l H).map told).drop (y+1),((y+1:Nat):Int)))->iT a.rows l (k+1) y acc=iT a.rows l k (y+1) (acc++[r])->iter f (acc.map told++told ((mgl (y:Int) l).getD uC)::((mP l H).map told).drop (y+1),(y:Int))=some (match iT a.rows l (k+1) y acc with | some out=> .inl (out.map told) | none=> .inr (fP jM,1)):=by
   intro r h1 h2
   rw [h2,bY h1]
   exact ih (y+1) (acc++[r]) (by omega) (by simp [hacc])
  have hd:decide ((y:Int) < (((mP l H).map told).length:Int))=true:=decide_eq_true (by omega)
  have hwr:IntKind.i64.wrap ((y:Int)+1)=((y+1:Nat):Int):=by rw [w64 (by omega) (by omega)]; rfl
  cases hm:mgl (y:Int) l with
  | some r =>
   rw [hm] at hat hset hon
   simp only [Option.getD_some] at hat hset hon ⊢
   have hrc:r.cells.length<=1000000:=hl _ (kX hm)
   have hself:(acc.map told++told r::((mP l H).map told).drop (y+1))=(acc++[r]).map told++((mP l H).map told).drop (y+1):=by simp
   by_cases hya:y < a.rows.length
   ·have e1:a.rows[y]?=some a.rows[y]:=List.getElem?_eq_getElem hya
    have ga:idx (fP a).rows (y:Int)=some (told a.rows[y]):=by rw [bG _ _ (by omega)]; simp
    by_cases hq:a.rows[y]=r
    ·have h2:iT a.rows l (k+1) y acc=none:=by simp only [iT,hm,e1,if_pos hq]
     rw [h2]
     refine bC ?_
     subst hf
     dsimp only
     rw [hd,cond_true,oC l hyH,hm,aA]
     simp only [Option.isSome_some,Bool.not_true,cond_false,aA,cond_true]
     rw [decide_eq_true (show (y:Int) < ((fP a).rows.length:Int) by omega),cond_true,hat,aA,ga,aA,yp _ _ hrc,decide_eq_true hq.symm]
     rfl
    ·refine hon r ?_ (by simp only [iT,hm,e1,if_neg hq])
     subst hf
     dsimp only
     rw [hd,cond_true,oC l hyH,hm,aA]
     simp only [Option.isSome_some,Bool.not_true,cond_false,aA,cond_true]
     rw [decide_eq_true (show (y:Int) < ((fP a).rows.length:Int) by omega),cond_true,hat,aA,ga,aA,yp _ _ hrc,decide_eq_false (λhh=>hq hh.symm),aA,aA,cond_false,aA,hwr,hself]
   ·have e1:a.rows[y]?=none:=List.getElem?_eq_none (by omega)
    refine hon r ?_ (by simp only [iT,hm,e1])
    subst hf
    dsimp only
    rw [hd,cond_true,oC l hyH,hm,aA]
    simp only [Option.isSome_some,Bool.not_true,cond_false,aA,cond_true]
    rw [decide_eq_false (show ¬ (y:Int) < ((fP a).rows.length:Int) by omega),cond_false,aA,cond_false,aA,hwr,hself]
  | none =>
   rw [hm] at hat hset hon
   simp only [Option.getD_none] at hat hset hon ⊢
   by_cases hya:y < a.rows.length
   ·have e1:a.rows[y]?=some a.rows[y]:=List.getElem?_eq_getElem hya
    have ga:idx (fP a).rows (y:Int)=some (told a.rows[y]):=by rw [bG _ _ (by omega)]; simp
    refine hon a.rows[y] ?_ (by simp only [iT,hm,e1])
    subst hf
    dsimp only
    rw [hd,cond_true,oC l hyH,hm,aA]
    simp only [Option.isSome_none,Bool.not_false,cond_true,aA,cond_false]
    rw [decide_eq_false (show ¬ (y:Int)>=((fP a).rows.length:Int) by omega),cond_false,aA,cond_false,ga,aA,hat,aA,aA,hwr,Int.toNat_natCast,hset]
   ·have e1:a.rows[y]?=none:=List.getElem?_eq_none (by omega)
    have h2:iT a.rows l (k+1) y acc=none:=by simp only [iT,hm,e1]
    rw [h2]
    refine bC ?_
    subst hf
    dsimp only
    rw [hd,cond_true,oC l hyH,hm,aA]
    simp only [Option.isSome_none,Bool.not_false,cond_true,aA,cond_false]
    rw [decide_eq_true (show (y:Int)>=((fP a).rows.length:Int) by omega)]
    rfl
theorem A9 {α β:Type} {x:Option α} {y:α} {g:α->Option β} {out:Option β} (h:x=some y) (h2:g y=out):Option.bind x g=out:=by rw [h]; exact h2
theorem kF {i:aK} (h:i.e≠0):rdS i=(0,i):=by unfold rdS; rw [if_neg h]
theorem uS {i:aK} (h:i.e≠0):mO i=(noS,i):=by
 unfold mO
 rw [kF h]
 unfold vq
 rw [if_pos h]
theorem wz {i:aK} (h:i.e≠0) (m:Int) (hm:0<=m):cC i m=(0,i):=by
 unfold cC
 rw [kF h,if_neg (by dsimp only; omega)]
theorem xb {i:aK} (h:i.e≠0):bkS i=([],i):=by
 unfold bkS
 rw [wz h 1024 (by omega)]
 dsimp only
 rw [tV _ _ _ h,if_neg h]
theorem G9 {s:ByteArray} (h:(zC s).2.e≠0):(zR s).2=(zC s).2:=by
 have e1:(zD s).2=(zC s).2:=by unfold zD; rw [wz h _ (by omega)]
 have e2:(zE s).2=(zC s).2:=by unfold zE; rw [e1,kF h]
 have e3:(zF s).2=(zC s).2:=by unfold zF; rw [e2,kF h]
 have e4:(zT s).2=(zC s).2:=by unfold zT; rw [e3,uS h]
 have e5:(zG s).2=(zC s).2:=by unfold zG; rw [e4,kF h]
 have e6:(zH s).2=(zC s).2:=by unfold zH; rw [e5,kF h]
 have e7:(zK s).2=(zC s).2:=by unfold zK; rw [e6,xb h]
 have e8:(zN s).2=(zC s).2:=by unfold zN; rw [e7,kF h]
 unfold zR
 rw [e8,rv _ _ _ _ _ _ h]
theorem Ha {s:ByteArray} (h:(zD s).2.e≠0):(zR s).2=(zD s).2:=by
 have e2:(zE s).2=(zD s).2:=by unfold zE; rw [kF h]
 have e3:(zF s).2=(zD s).2:=by unfold zF; rw [e2,kF h]
 have e4:(zT s).2=(zD s).2:=by unfold zT; rw [e3,uS h]
 have e5:(zG s).2=(zD s).2:=by unfold zG; rw [e4,kF h]
 have e6:(zH s).2=(zD s).2:=by unfold zH; rw [e5,kF h]
 have e7:(zK s).2=(zD s).2:=by unfold zK; rw [e6,xb h]
 have e8:(zN s).2=(zD s).2:=by unfold zN; rw [e7,kF h]
 unfold zR
 rw [e8,rv _ _ _ _ _ _ h]
theorem DZ {i:aK} (hV:VI i) (h:i.e≠0):ku i=i.e:=by
 unfold ku
 rcases hV.2 with h1 | h1
 ·exact absurd h1 h
 ·rw [if_neg (λhh=>hh h1)]
theorem Ba {i:aK} (hV:VI i):((bif ((asR (rdS i).2).e == 0) then some (decide ((rdS i).1 > 1000)) else some false):Option Bool)=some (decide ((rdS i).1 > 1000)):=by
 rw [oA]
 by_cases h0:(rdS i).2.e=0
 ·have:((rdS i).2.e == 0)=true:=by simpa using h0
  rw [this,cond_true]
 ·have:((rdS i).2.e == 0)=false:=by simpa using h0
  rw [this,cond_false]
  have h1:(rdS i).1=0:=qF h0
  rw [h1]
  rfl
theorem BY (a:aS) (s:ByteArray) (ha:SW a) (pa:(a.rows.flatMap fS).length<=12000) (h:s.size<=100000) (ht:(zT s).1.size<=12000):kQ (fP a) s=some (fP (nG a s).1,(nG a s).2):=by
 obtain ⟨vB,vC,vF,vH,vK,vN,vR⟩:=zVI (s:=s) (by omega)
 have v0:VI (⟨s,0⟩:aK):=⟨by show s.size<=1000000; omega,.inl rfl⟩
 have vA:VI (zA s).2:=fH v0
 have vD:VI (zD s).2:=fR _ vC
 have vE:VI (zE s).2:=fH vD
 have vT:VI (zT s).2:=sQ vF
 have vG:VI (zG s).2:=fH vT
 unfold kQ nG
 rw [Dj a ha,aA]
 cases hm:n8 a with
 | false=>rw [if_pos rfl]; rfl
 | true =>
  rw [if_neg (by simp),Bool.not_true,cond_false]
  have e1:bJ ⟨s,0⟩=some (asR (zA s).2,(zA s).1):=gR ⟨s,0⟩ v0
  have e2:bJ (asR (zA s).2)=some (asR (zB s).2,(zB s).1):=gR _ vA
  have e3:=gR _ vB
  rw [e1,aA]
  dsimp only
  rw [e2,aA]
  dsimp only
  rw [e3,aA]
  dsimp only
  rw [Ba vB,aA]
  by_cases hW:(rdS (zB s).2).1 > 1000
  ·have hC:(zC s).2=jW:=by unfold zC cC; rw [if_pos hW]
   have hR:(zR s).2=jW:=by rw [G9 (by rw [hC]; decide),hC]
   have hE:ku (zR s).2=1:=by rw [hR]; rfl
   rw [decide_eq_true hW,cond_true,hE,if_pos (by decide)]
   rfl
  rw [decide_eq_false hW,cond_false]
  have hC:zC s=((rdS (zB s).2).1,(rdS (zB s).2).2):=by unfold zC cC; rw [if_neg hW]
  have hC1:(rdS (zB s).2).1=(zC s).1:=by rw [hC]
  have hC2:(rdS (zB s).2).2=(zC s).2:=by rw [hC]
  rw [hC1,hC2]
  have e4:=gR _ vC
  rw [e4,aA]
  dsimp only
  rw [Ba vC,aA]
  by_cases hHH:(rdS (zC s).2).1 > 1000
  ·have hD:(zD s).2=jW:=by unfold zD cC; rw [if_pos hHH]
   have hR:(zR s).2=jW:=by rw [Ha (by rw [hD]; decide),hD]
   have hE:ku (zR s).2=1:=by rw [hR]; rfl
   rw [decide_eq_true hHH,cond_true,hE,if_pos (by decide)]
   rfl
  rw [decide_eq_false hHH,cond_false]
  have hD:zD s=((rdS (zC s).2).1,(rdS (zC s).2).2):=by unfold zD cC; rw [if_neg hHH]
  have hD1:(rdS (zC s).2).1=(zD s).1:=by rw [hD]
  have hD2:(rdS (zC s).2).2=(zD s).2:=by rw [hD]
  rw [hD1,hD2]
  have e5:bJ (asR (zD s).2)=some (asR (zE s).2,(zE s).1):=gR _ vD
  have e6:bJ (asR (zE s).2)=some (asR (zF s).2,(zF s).1):=gR _ vE
  have e7:gG (asR (zF s).2)=some (asR (zT s).2,(zT s).1):=wk _ vF
  have e8:bJ (asR (zT s).2)=some (asR (zG s).2,(zG s).1):=gR _ vT
  have e9:bJ (asR (zG s).2)=some (asR (zH s).2,(zH s).1):=gR _ vG
  rw [e5,aA]
  dsimp only
  rw [e6,aA]
  dsimp only
  rw [e7,aA]
  dsimp only
  rw [e8,aA]
  dsimp only
  rw [e9,aA]
  dsimp only
  have hbook:((bif ((asR (zH s).2).e == 0) then (Option.bind (iF (asR (zH s).2)) λb=>some ((bL.mk (zB s).1 (zC s).1 (zD s).1 (zE s).1 (zF s).1 (zT s).1 ([]:List bK) (zG s).1 (zH s).1 b.2),b.1)) else some ((bL.mk (zB s).1 (zC s).1 (zD s).1 (zE s).1 (zF s).1 (zT s).1 ([]:List bK) (zG s).1 (zH s).1 ([]:List aO)),(asR (zH s).2))):Option (bL×aX))=some (fP (zS s),asR (zK s).2):=by
   rw [oA]
   by_cases h0:(zH s).2.e=0
   ·have:((zH s).2.e == 0)=true:=by simpa using h0
    rw [this,cond_true,wm _ vH,aA]
    rfl
   ·have:((zH s).2.e == 0)=false:=by simpa using h0
    rw [this,cond_false]
    have hk:zK s=([],(zH s).2):=xb h0
    unfold zS
    rw [hk]
    rfl
  rw [hbook,aA]
  dsimp only
  have e10:bJ (asR (zK s).2)=some (asR (zN s).2,(zN s).1):=gR _ vK
  rw [e10,aA]
  dsimp only
  rw [oA]
  by_cases hN0:(zN s).2.e=0
  ·have k1:((zN s).2.e != 0)=false:=by simp [hN0]
   rw [k1,cond_false]
   have hn:=kT vK
   have c1:=gS (m:=1000) vC (by omega)
   have b1:=gS (m:=1000) vB (by omega)
   have hw:(zC s).1<=1000:=b1.2
   have hh1:0<=(zD s).1:=c1.1
   have hh2:(zD s).1<=1000:=c1.2
   obtain ⟨N,hN⟩:=Int.eq_ofNat_of_zero_le (show 0<=(zN s).1 from hn.1)
   have hN2:N<=4611686018427387904:=by have:(zN s).1<=4611686018427387904:=hn.2; omega
   obtain ⟨H,hH⟩:=Int.eq_ofNat_of_zero_le hh1
   have hR:zR s=dlL N (zS s).w (zS s).h (zN s).2 (-1) []:=by
    unfold zR
    rw [hN,Int.toNat_natCast]
    rfl
   have hHt:(zD s).1.toNat=H:=by rw [hH,Int.toNat_natCast]
   have hz:(zS s).h=(zD s).1:=rfl
   have hHt2:(zS s).h.toNat=H:=hHt
   have l1:=G7 (zS s) H N (by omega) hH hw hN2 _ rfl N 0 (zN s).2 (-1) [] (by omega) vN hN0 (by omega) (λp hp=>by cases hp)
   rw [<- hR,DW,DX] at l1
   rw [sM (by omega) (by omega) (by omega),aA,sM (by omega) (by omega) (by omega),aA,hHt2,hN,hHt]
   refine A9 l1 ?_
   by_cases he:(zR s).2.e=0
   ·rw [if_pos he]
    dsimp only
    have hst:((zR s).2.s.toList == (ByteArray.mk #[]).toList)=decide ((zR s).2.s=noS):=np _ noS
    show (bif !((zR s).2.s.toList == (ByteArray.mk #[]).toList) then _ else _)=_
    rw [hst]
    by_cases hs0:(zR s).2.s=noS
    ·have hE:ku (zR s).2=0:=by unfold ku; rw [if_neg (λhh=>hh hs0)]; exact he
     rw [decide_eq_true hs0,Bool.not_true,cond_false,DK a ha pa,aA,hE,if_neg (λhh=>hh rfl)]
     by_cases hs:(zA s).1=((jX (kc a):Nat):Int)
     ·have k2:((zA s).1 != ((jX (kc a):Nat):Int))=false:=by simp [hs]
      rw [k2,cond_false,if_neg (λhh=>hh hs)]
      have har: ∀ r∈a.rows,r.cells.length<=1000000:=λr hr=>by have:=(ha.ro r hr).2; omega
      have hrows:=uO (zN s).1.toNat (zC s).1 (zD s).1 (zN s).2 (-1) [] vN hw (λp hp=>by cases hp)
      have hrows2: ∀ p∈(zR s).1,p.2.cells.length<=1000000:=λp hp=>by have:=(hrows p hp).2; omega
      have l2:=G8 a (zR s).1 H (by omega) har hrows2 _ rfl H 0 [] (by omega) rfl
      simp only [List.map_nil,List.nil_append,List.drop_zero] at l2
      refine A9 l2 ?_
      cases hb:iT a.rows (zR s).1 H 0 [] with
      | none=>rfl
      | some l =>
       rw [<- hHt] at hb
       obtain ⟨SWx,pl⟩:=ry ha pa h ht he hb
       dsimp only
       have hpk:iG (fP (kd (zS s) l))=some (kc (kd (zS s) l)):=yn _ SWx (by show (l.flatMap fS).length<=1000000; omega)
       show Option.bind (iG (fP (kd (zS s) l))) _=_
       rw [hpk,aA]
       have hst2:((kc (kd (zS s) l)).toList == (ByteArray.mk #[]).toList)=py (kd (zS s) l):=by
        have e:((kc (kd (zS s) l)).toList == (ByteArray.mk #[]).toList)=decide (kc (kd (zS s) l)=noS):=np _ noS
        rw [e]
        cases hn:py (kd (zS s) l) with
        | true=>rw [decide_eq_true (pW.2 hn)]
        | false=>rw [decide_eq_false (λhh=>by rw [pW.1 hh] at hn; cases hn)]
       rw [hst2]
       cases py (kd (zS s) l) with
       | true=>rfl
       | false=>rfl
     ·have k2:((zA s).1 != ((jX (kc a):Nat):Int))=true:=by simp [hs]
      rw [k2,cond_true,if_pos hs]
      rfl
    ·have hE:ku (zR s).2=1:=by unfold ku; rw [if_pos hs0]
     rw [decide_eq_false hs0,hE,if_pos (by decide)]
     rfl
   ·have hE:ku (zR s).2=(zR s).2.e:=DZ vR he
    rw [if_neg he,hE,if_pos he]
  ·have k1:((zN s).2.e != 0)=true:=by simp [hN0]
   have hR:(zR s).2=(zN s).2:=by unfold zR; rw [rv _ _ _ _ _ _ hN0]
   have hE:ku (zR s).2=(zN s).2.e:=by rw [hR]; exact DZ vN hN0
   rw [k1,cond_true,hE,if_pos hN0]
   rfl
end Go.Tw.X

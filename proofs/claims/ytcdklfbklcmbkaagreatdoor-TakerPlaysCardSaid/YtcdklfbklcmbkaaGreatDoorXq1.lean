import Derived.Test.YtcdklfbklcmbkaaGreatDoorXp1
import Derived.Test.YtcdklfbklcmbkaaGreatDoorFw2
import Derived.Laws.BitsLemmas
import Derived.Laws.Strings
set_option linter.unusedVariables false
set_option linter.unusedSimpArgs false
namespace Go.Tw.X
open Go Go.Tw
def tc (c:aF):cP:=⟨c.rune,c.aM,c.part⟩
def told (r:aE):aU:=⟨r.cells.map tc,r.wrapped⟩
theorem yB (s:Int):kZ s=some ⟨32,s,0⟩:=rfl
theorem yC (n:Int):IntKind.u64.wrap n=n % 18446744073709551616:=by simp [IntKind.wrap,IntKind.bits,IntKind.signed]
theorem AF (n:Int) (h0:0<=n) (h1:n < 2 ^ 63):IntKind.u64.wrap n=n:=by rw [yC]; omega
theorem u5 (y:Int) (h0:0<=y) (h1:y < 4294967296):Go.bits .and .u64 y 4294967295=y:=by
 have h:=bits_mask .u64 63 (by decide) AF 32 (by decide) y h0 (by omega)
 have e:((2:Int) ^ 32 - 1)=4294967295:=by decide
 have e2:((2:Int) ^ 32)=4294967296:=by decide
 rw [e,e2] at h
 rw [h]
 omega
theorem yD {x:Int} (h0:0<=x) (h1:x < 18446744073709551616):IntKind.u64.wrap x=x:=by rw [yC]; omega
theorem u6 (n:Int) (h0:0<=n) (h1:n<=1000000):kA 1 n=some (0,n):=by
 have e32:(2:Int) ^ (min 32 64)=4294967296:=by decide
 have f1:Int.fdiv 1 4294967296=0:=by decide
 have f2:Int.fdiv n 4294967296=0:=by rw [Int.fdiv_eq_ediv_of_nonneg _ (by decide)]; omega
 have f0:Int.fdiv 0 4294967296=0:=by decide
 have z0:IntKind.u64.wrap 0=0:=by rw [yC]; rfl
 have m0:Go.bits .and .u64 0 4294967295=0:=u5 0 (by omega) (by omega)
 have m1:Go.bits .and .u64 1 4294967295=1:=u5 1 (by omega) (by omega)
 have mn:=u5 n h0 (by omega)
 have un:IntKind.u64.wrap n=n:=yD h0 (by omega)
 unfold kA kq
 simp only [e32,f1,f2,m1,mn,Int.zero_mul,Int.mul_zero,Int.one_mul,z0,un,f0,Int.add_zero,Int.zero_add,m0,aA]
theorem rJ (c:aF) (n:Int) (h0:0<=n) (h1:n<=1000000):cS [c] n=some (List.replicate n.toNat c):=by
 unfold cS
 have hn:decide (n < 0)=false:=decide_eq_false (by omega)
 have u1:IntKind.u64.wrap (([c].length:Nat):Int)=1:=yD (by simp) (by simp)
 rw [hn,cond_false,u1,yD h0 (by omega),u6 n h0 h1]
 simp only [aA]
 have g1:decide ((0:Int) > 0)=false:=by decide
 have g2:decide (n > 9223372036854775807)=false:=decide_eq_false (by omega)
 rw [g1,cond_false,aA,g2,cond_false,w64 (by omega) (by omega),mV h0 (by omega) (by omega),aA]
 obtain ⟨k,rfl⟩: ∃ k:Nat,n=k:=⟨n.toNat,by omega⟩
 simp only [Int.toNat_natCast,List.length_cons,List.length_nil,List.length_replicate]
 have key: ∀ m j,k - j=m->j<=k->(1<=j\/k=0)->iter (σ:=(List aF)×Int) (ρ:=(List aF)) (λa=>(bif (decide (a.2 < (a.1.length:Int))) then (Option.bind (chk (fE a.2 (a.1.length:Int) a.1.length)) λ_=>(Option.bind (chk (fE 0 a.2 a.1.length)) λ_=>some (.inl ((qW a.1 a.2.toNat),(IntKind.i64.wrap (a.2+((Nat.min a.2.toNat (a.1.length - a.2.toNat):Nat):Int))))))) else some (.inr a.1))) (List.replicate j c++List.replicate (k - j) (aF.mk 0 0 0),(j:Int))=some (List.replicate k c):=by
  intro m
  induction m using Nat.strongRecOn with
  | _ m ih =>
   intro j hm hj h1j
   have hlen:(List.replicate j c++List.replicate (k - j) (aF.mk 0 0 0)).length=k:=by simp; omega
   by_cases hjk:j < k
   ·have hmin:Nat.min j (k - j)=min j (k - j):=rfl
    rw [cM (s':=(List.replicate (j+min j (k - j)) c++List.replicate (k - (j+min j (k - j))) (aF.mk 0 0 0),((j+min j (k - j):Nat):Int)))]
    ·exact ih (k - (j+min j (k - j))) (by omega) _ rfl (by omega) (by omega)
    ·have hc:decide ((j:Int) < ((List.replicate j c++List.replicate (k - j) (aF.mk 0 0 0)).length:Int))=true:=by rw [hlen]; simp; omega
     simp only [hc,cond_true]
     rw [hlen,dI (by omega) (by omega) (by omega),aA,dI (by omega) (by omega) (by omega),aA,Int.toNat_natCast,hmin,w64 (by omega) (by omega)]
     congr 2
     refine Prod.ext ?_ ?_
     ·show qW _ _=_
      unfold qW
      rw [hlen]
      have t1:(List.replicate j c++List.replicate (k - j) (aF.mk 0 0 0)).take j=List.replicate j c:=by rw [List.take_left']; simp
      rw [t1,List.take_replicate,List.drop_append,List.drop_of_length_le (by simp),List.nil_append,List.length_replicate,List.drop_replicate,List.replicate_append_replicate,Nat.min_comm (k - j) j]
      congr 2
      omega
     ·show ((j:Int)+((min j (k - j):Nat):Int))=_
      omega
   ·have hjk':j=k:=by omega
    subst hjk'
    rw [bM (r:=List.replicate j c)]
    simp
 have hs:cpy (List.replicate k (aF.mk 0 0 0)) [c]=List.replicate (min 1 k) c++List.replicate (k - min 1 k) (aF.mk 0 0 0):=by
  unfold cpy
  cases k with
  | zero=>simp
  | succ k=>simp [Nat.min_eq_left]
 have hmin:Nat.min (0+1) k=min 1 k:=rfl
 rw [hs,hmin,key _ (min 1 k) rfl (by omega) (by omega),aA]
theorem xu (n s:Int) (h:n<=1000000):jk n s=some (List.replicate n.toNat ⟨32,s,0⟩):=by
 unfold jk
 rw [yB,aA]
 rw [jO,rJ _ (max 0 n) (by omega) (by omega),aA]
 have:(max 0 n).toNat=n.toNat:=by omega
 rw [this]
theorem AG (n lo hi:Int):kB n lo hi=some (max lo (min n hi)):=by
 unfold kB
 rw [jO,iQ]
theorem tT (l:List aF) (h:l.length<=1000000):dE l=some l:=by
 unfold dE
 rw [cF (by simp; omega),aA]
 rfl
def blk (s:Int):aF:=⟨32,s,0⟩
theorem sF (w s:Int):jb w s=some ⟨List.replicate (max 0 (min w 1000)).toNat (blk s),false⟩:=by
 unfold jb
 rw [AG,aA,xu _ _ (by omega),aA]
 rfl
theorem kb (x y:aF):((x.rune == y.rune) && ((x.aM == y.aM) && ((x.part == y.part) && true)))=decide (x=y):=by
 obtain ⟨a,b,c⟩:=x
 obtain ⟨d,e,f⟩:=y
 by_cases h1:a=d <;> by_cases h2:b=e <;> by_cases h3:c=f <;> simp [h1,h2,h3]
theorem yE (a b:List aF) (h:a.length<=1000000):eF a b=some (decide (a=b)):=by
 unfold eF
 by_cases hl:a.length=b.length
 ·have e:((a.length:Int) != (b.length:Int))=false:=by simp [hl]
  rw [e,cond_false]
  have key: ∀ (x y d d2:List aF),d++x=a->d2++y=b->d=d2->x.length=y.length->iter (σ:=Int) (ρ:=Unit ⊕ Bool) (λf=>(bif (decide (f < (a.length:Int))) then (Option.bind (idx a f) λg=>(Option.bind (idx b f) λi=>(bif (!((g.rune == i.rune) && ((g.aM == i.aM) && ((g.part == i.part) && true)))) then (eJ (some false)) else some (.inl (IntKind.i64.wrap (f+1)))))) else some (.inr (.inl ())))) (d.length:Int)=some (if x=y then .inl () else .inr false):=by
   intro x
   induction x with
   | nil =>
    intro y d d2 hd hd2 hdd hxy
    have:y=[]:=List.eq_nil_of_length_eq_zero hxy.symm
    subst this
    simp at hd
    subst hd
    rw [bM (r:= .inl ())]
    ·simp
    ·simp
   | cons c x ih =>
    intro y d d2 hd hd2 hdd hxy
    cases y with
    | nil=>simp at hxy
    | cons c2 y =>
     subst hdd
     have hal:a.length=d.length+x.length+1:=by rw [<- hd]; simp; omega
     have hc:decide ((d.length:Int) < (a.length:Int))=true:=by simp; omega
     have hx:idx a (d.length:Int)=some c:=by rw [<- hd]; exact mU d x c
     have hx2:idx b (d.length:Int)=some c2:=by rw [<- hd2]; exact mU d y c2
     by_cases hcc:c=c2
     ·subst hcc
      rw [cM (s':=((d++[c]).length:Int))]
      ·rw [ih y (d++[c]) (d++[c]) (by simpa using hd) (by simpa using hd2) rfl (by simpa using hxy)]
       simp
      ·simp only [hc,cond_true,hx,hx2,aA,kb]
       rw [w64 (by omega) (by omega)]
       simp
     ·rw [bM (r:= .inr false)]
      ·simp [hcc]
      ·simp only [hc,cond_true,hx,hx2,aA,kb]
       have:decide (c=c2)=false:=decide_eq_false hcc
       rw [this]
       rfl
  have h0:=key a b [] [] rfl rfl rfl hl
  have e0:((([]:List aF).length:Nat):Int)=0:=rfl
  rw [e0] at h0
  rw [h0,aA]
  by_cases hab:a=b
  ·rw [if_pos hab]; simp [hab]
  ·rw [if_neg hab]; simp [hab]
 ·have e:((a.length:Int) != (b.length:Int))=true:=by simp; omega
  rw [e,cond_true]
  have:a≠b:=λh=>hl (by rw [h])
  simp [this]
theorem pU (r q:aE) (h:r.cells.length<=1000000):fm r q=some (decide (r=q)):=by
 unfold fm
 obtain ⟨a,x⟩:=r
 obtain ⟨b,y⟩:=q
 rw [yE a b h]
 cases x <;> cases y <;> simp
theorem dW (l:List aF):(l.map tc).length=l.length:=List.length_map _
def rok (x:Int):Prop:= -2147483648<=x/\x<=2147483647
def okR (l:List aF):Prop:= ∀ c∈l,rok c.rune
theorem AH (s:Int):rok (blk s).rune:=by unfold rok blk; simp
theorem AI (n:Nat) (s:Int):okR (List.replicate n (blk s)):=λc hc=>by rw [List.eq_of_mem_replicate hc]; exact AH s
theorem wB {a b:List aF} (ha:okR a) (hb:okR b):okR (a++b):=λc hc=>(List.mem_append.1 hc).elim (ha c) (hb c)
theorem yF {a:List aF} (ha:okR a) (n:Nat):okR (a.drop n):=λc hc=>ha c (List.mem_of_mem_drop hc)
theorem w32 {x:Int} (h:rok x):IntKind.i64.wrap x=x:=by obtain ⟨h1,h2⟩:=h; exact w64 (by omega) (by omega)
theorem D5 (r:aE) (h:r.cells.length<=1000000) (hr:okR r.cells):iV r (told r)=some true:=by
 unfold iV told
 simp only [dW]
 have e6:((bif ((r.cells.length:Int) != (r.cells.length:Int)) then some true else some (!(r.wrapped == r.wrapped))):Option Bool)=some false:=by simp
 rw [e6,aA,cond_false]
 have key: ∀ (b d:List aF),d++b=r.cells->iter (σ:=Int) (ρ:=Unit ⊕ Bool) (λa=>(bif (decide (a < (r.cells.length:Int))) then (Option.bind (idx r.cells a) λe=>(Option.bind ((Option.bind (idx (r.cells.map tc) a) λf=>(bif ((IntKind.i64.wrap e.rune) != f.rune) then some true else (Option.bind (idx (r.cells.map tc) a) λg=>(bif (e.aM != g.aM) then some true else (Option.bind (idx (r.cells.map tc) a) λi=>some (e.part != i.part)))))):Option Bool) λj=>(bif j then (eJ (some false)) else some (.inl (IntKind.i64.wrap (a+1)))))) else some (.inr (.inl ())))) (d.length:Int)=some (.inl ()):=by
  intro b
  induction b with
  | nil =>
   intro d hd
   simp at hd
   subst hd
   rw [bM (r:= .inl ())]
   simp
  | cons c b ih =>
   intro d hd
   have hl:r.cells.length=d.length+b.length+1:=by rw [<- hd]; simp; omega
   have hc:decide ((d.length:Int) < (r.cells.length:Int))=true:=by simp; omega
   have hx:idx r.cells (d.length:Int)=some c:=by rw [<- hd]; exact mU d b c
   have hx2:idx (r.cells.map tc) (d.length:Int)=some (tc c):=by
    rw [<- hd,List.map_append,List.map_cons,<- dW d]
    exact mU _ _ _
   have hcr:rok c.rune:=hr c (by rw [<- hd]; simp)
   rw [cM (s':=((d++[c]).length:Int))]
   ·exact ih (d++[c]) (by simpa using hd)
   ·simp only [hc,cond_true,hx,hx2,aA,w32 hcr,tc,bne_self_eq_false,cond_false]
    rw [w64 (by omega) (by omega)]
    simp
 have h0:=key r.cells [] rfl
 have e0:((([]:List aF).length:Nat):Int)=0:=rfl
 rw [e0] at h0
 rw [h0,aA]
theorem mY {σ ρ:Type} {f:σ->Option (σ ⊕ ρ)} (S:Nat->σ) (n:Nat) (r:ρ) (hs: ∀ i,i < n->f (S i)=some (.inl (S (i+1)))) (he:f (S n)=some (.inr r)):iter f (S 0)=some r:=by
 have key: ∀ i,i<=n->iter f (S 0)=iter f (S i):=by
  intro i
  induction i with
  | zero=>intro _; rfl
  | succ i ih =>
   intro hi
   rw [ih (by omega),cM (hs i (by omega))]
 rw [key n (Nat.le_refl n),bM he]
theorem fw {σ ρ β:Type} {f:σ->Option (σ ⊕ ρ)} {s:σ} {g:ρ->Option β} {out:Option β} (S:Nat->σ) (n:Nat) (r:ρ) (h0:s=S 0) (hs: ∀ i,i < n->f (S i)=some (.inl (S (i+1)))) (he:f (S n)=some (.inr r)) (hg:g r=out):Option.bind (iter f s) g=out:=by
 rw [h0,mY S n r hs he]
 exact hg
theorem od {σ ρ:Type} {f:σ->Option (σ ⊕ ρ)} (Inv:σ->Prop) (m:σ->Nat) (mw:ρ->Prop)
  (hs: ∀ s,Inv s->(∃ s',f s=some (.inl s')/\Inv s'/\m s' < m s)\/(∃ r,f s=some (.inr r)/\mw r)): ∀ s,Inv s -> ∃ r,iter f s=some r/\mw r:=by
 have key: ∀ (n:Nat) s,m s<=n->Inv s -> ∃ r,iter f s=some r/\mw r:=by
  intro n
  induction n with
  | zero =>
   intro s hm hi
   rcases hs s hi with ⟨s',hf,hi',hlt⟩ | ⟨r,hf,hp⟩
   ·omega
   ·exact ⟨r,bM hf,hp⟩
  | succ n ih =>
   intro s hm hi
   rcases hs s hi with ⟨s',hf,hi',hlt⟩ | ⟨r,hf,hp⟩
   ·rw [cM hf]
    exact ih s' (by omega) hi'
   ·exact ⟨r,bM hf,hp⟩
 intro s hi
 exact key (m s) s (Nat.le_refl _) hi
theorem mD {σ ρ β:Type} {f:σ->Option (σ ⊕ ρ)} {s:σ} {g:ρ->Option β} {out:Option β} (Inv:σ->Prop) (m:σ->Nat) (mw:ρ->Prop) (h0:Inv s)
  (hs: ∀ s,Inv s->(∃ s',f s=some (.inl s')/\Inv s'/\m s' < m s)\/(∃ r,f s=some (.inr r)/\mw r)) (hg: ∀ r,mw r->g r=out):Option.bind (iter f s) g=out:=by
 obtain ⟨r,h1,h2⟩:=od Inv m mw hs s h0
 rw [h1]
 exact hg r h2
theorem or2 (p q:Prop) [Decidable p] [Decidable q]:((bif decide p then some true else some (decide q)):Option Bool)=some (decide (p\/q)):=by
 by_cases a1:p <;> by_cases a2:q <;> simp [a1,a2]
theorem bN {α:Type} (l:List α) (n:Nat) (h:n < l.length):idx l (n:Int)=some l[n]:=by rw [oa,List.getElem?_eq_getElem h]
theorem AJ {α:Type} (l r:List α) (x y:α):(l++x::r).set l.length y=l++y::r:=by simp
theorem wC {α:Type} (l:List α) (a b:Nat):cut l (a:Int) (b:Int)=(l.take b).drop a:=by simp [cut]
def szN (n:Int):Nat:=(max 1 (min n 1000)).toNat
theorem Cz (n:Int):imax 1 (gG n 1000)=(szN n:Int):=by rw [jO,iQ]; unfold szN; omega
theorem pV (n:Int):1<=szN n:=by unfold szN; omega
theorem qs (n:Int):szN n<=1000:=by unfold szN; omega
def u7 (W:Nat) (s:Int):aE:=⟨List.replicate W (blk s),false⟩
def D6 (g:cN):rH:=⟨g.w,g.l.map told⟩
def gok (W:Nat) (r:aE):Prop:=r.cells.length=W/\okR r.cells
structure GI (W:Nat) (l:List aE):Prop where
 w1:1<=W
 w2:W<=1000
 l1:1<=l.length
 l2:l.length<=1000
 rs: ∀ r∈l,gok W r
theorem tU (n:Int):je n=some (szN n:Int):=by
 unfold je k6
 rw [Cz]
 rfl
theorem CA (W:Nat) (s:Int) (h:W<=1000):jb W s=some (u7 W s):=by
 rw [sF]
 have:(max 0 (min (W:Int) 1000)).toNat=W:=by omega
 rw [this]
 rfl
theorem xv (W:Nat) (s:Int):gok W (u7 W s):=⟨by simp [u7],AI W s⟩
def tV (w h:Int):cN:=⟨(szN w:Int),List.replicate (szN h) (u7 (szN w) 0)⟩
theorem CB (w h:Int):GI (szN w) (tV w h).l:=by
 refine ⟨pV w,qs w,?_,?_,?_⟩
 ·simpa [tV] using pV h
 ·simpa [tV] using qs h
 ·intro r hr
  rw [List.eq_of_mem_replicate hr]
  exact xv _ _
theorem CC (w h:Int):kC w h=some (tV w h):=by
 unfold kC
 rw [tU,aA,tU,aA]
 have hw:=qs w
 have hh:=qs h
 refine fw (λi=>((⟨(szN w:Int),List.replicate i (u7 (szN w) 0)⟩:cN),(i:Int))) (szN h) _ rfl ?_ ?_ rfl
 ·intro i hi
  try dsimp only
  rw [decide_eq_true (by omega),cond_true,CA _ _ hw,aA,cF (by simp; omega),aA,w64 (by omega) (by omega),<- List.replicate_succ']
  rfl
 ·try dsimp only
  rw [decide_eq_false (by omega),cond_false]
  rfl
theorem CD (r:aE) (h:r.cells.length<=1000000):kD r=some r:=by
 unfold kD
 rw [tT _ h,aA]
def ng:aE:=⟨[],false⟩
theorem AK {σ:Type} (Y:σ->aE->Option (σ×Bool)) (S:Nat->σ) (l:List aE) (hl:l.length<=1000000) (h: ∀ r∈l,r.cells.length<=1000000) (hY: ∀ i (hi:i < l.length),Y (S i) l[i]=some (S (i+1),true)):fI Y (S 0) l=some (S l.length):=by
 unfold fI
 refine fw (λi=>((i:Int),S i)) l.length (.inl (S l.length)) rfl ?_ ?_ rfl
 ·intro i hi
  try dsimp only
  rw [decide_eq_true (by omega),cond_true,bN l i hi,aA,CD _ (h _ (List.getElem_mem hi)),aA,hY i hi,aA]
  try dsimp only
  rw [Bool.not_true,cond_false,w64 (by omega) (by omega)]
  rfl
 ·try dsimp only
  rw [decide_eq_false (by omega),cond_false]
theorem qt (l:List aE) (hl:l.length<=1000000) (h: ∀ r∈l,r.cells.length<=1000000):fJ l=some (l,l):=by
 unfold fJ jm
 rw [aA]
 have key:=AK (λ(s40:List aE) (x9:aE)=>(Option.bind (chk (fu s40.length [x9].length 32)) λ_=>some ((s40++[x9]),true))) (λi=>l.take i) l hl h (by
  intro i hi
  try dsimp only
  rw [cF (by simp; omega),aA,<- List.take_succ_eq_append_getElem hi])
 rw [List.take_length] at key
 change fI _ ([]:List aE) l=some l at key
 rw [key]
 rfl
theorem pS (w:Int) (l:List aE) (hl:l.length<=1000000) (h: ∀ r∈l,r.cells.length<=1000000):gK ⟨w,l⟩=some (l,⟨w,l⟩):=by
 unfold gK
 try dsimp only
 rw [qt l hl h,aA,gI rfl,aA]
theorem u9 (w:Int) (l:List aE) (hl:l.length<=1000000) (h: ∀ r∈l,r.cells.length<=1000000):gk ⟨w,l⟩=some (⟨w,l⟩,⟨w,l⟩):=by
 unfold gk
 try dsimp only
 rw [qt l hl h,aA,gI rfl,aA]
theorem yG (a b:List aE) (ha:a.length<=1000000) (h: ∀ r∈a,r.cells.length<=1000000):cE a b=some (decide (a=b)):=by
 unfold cE
 by_cases hl:a.length=b.length
 ·have e0:((a.length:Int) != (b.length:Int))=false:=by simp [hl]
  rw [e0,cond_false]
  refine mD (λi:Int=> ∃ n:Nat,i=n/\n<=a.length/\a.take n=b.take n) (λi=>(a.length - i).toNat) (λr=>r=(if a=b then .inl () else .inr false)) ⟨0,rfl,by omega,rfl⟩ ?_ ?_
  ·rintro i ⟨n,rfl,hn,ht⟩
   by_cases h1:n < a.length
   ·have h2:n < b.length:=by omega
    try dsimp only
    rw [decide_eq_true (by omega),cond_true,bN a n h1,bN b n h2,aA,aA,pU _ _ (h _ (List.getElem_mem h1)),aA]
    by_cases he:a[n]=b[n]
    ·refine .inl ⟨((n+1:Nat):Int),?_,⟨n+1,rfl,by omega,?_⟩,by (try dsimp only); omega⟩
     ·rw [decide_eq_true he,w64 (by omega) (by omega)]
      rfl
     ·rw [List.take_succ_eq_append_getElem h1,List.take_succ_eq_append_getElem h2,ht,he]
    ·refine .inr ⟨.inr false,?_,?_⟩
     ·rw [decide_eq_false he]
      rfl
     ·rw [if_neg]
      intro hab
      subst hab
      exact he rfl
   ·refine .inr ⟨.inl (),?_,?_⟩
    ·try dsimp only
     rw [decide_eq_false (by omega),cond_false]
    ·rw [if_pos]
     have hn2:n=a.length:=by omega
     subst hn2
     rw [List.take_length] at ht
     rw [ht,hl,List.take_length]
  ·intro r hr
   subst hr
   by_cases hab:a=b
   ·rw [if_pos hab,decide_eq_true hab]
   ·rw [if_neg hab,decide_eq_false hab]
 ·have e0:((a.length:Int) != (b.length:Int))=true:=by simp; omega
  rw [e0,cond_true,decide_eq_false]
  intro h
  exact hl (by rw [h])
theorem yH {α:Type} {l r:List α} {x:α} {k:Int} (h:k=l.length):idx (l++x::r) k=some x:=by rw [h,mU]
theorem yI {α:Type} {l r:List α} {x y:α} {k:Nat} (h:k=l.length):(l++x::r).set k y=l++y::r:=by rw [h,AJ]
theorem GI.len {W:Nat} {l:List aE} (h:GI W l): ∀ r∈l,r.cells.length<=1000000:=λr hr=>by
 have:=(h.rs r hr).1
 have:=h.w2
 omega
theorem CE {x:Int} (h0:0<=x) (h1:x < 256):IntKind.u8.wrap x=x:=by rw [IntKind.wrap_u8]; omega
theorem foldl_push (xs:List Int): ∀ l:List UInt8,xs.foldl (λr n=>r.push (UInt8.ofNat n.toNat)) (ByteArray.mk l.toArray)=ByteArray.mk (l++xs.map (λn=>UInt8.ofNat n.toNat)).toArray:=by
 induction xs with
 | nil=>intro l; simp
 | cons a xs ih =>
  intro l
  rw [List.foldl_cons]
  have:(ByteArray.mk l.toArray).push (UInt8.ofNat a.toNat)=ByteArray.mk (l++[UInt8.ofNat a.toNat]).toArray:=by
   show ByteArray.mk (l.toArray.push _)=_
   rw [List.push_toArray]
  rw [this,ih]
  simp
theorem k9 (xs:List Int):cO xs=ByteArray.mk (xs.map (λn=>UInt8.ofNat n.toNat)).toArray:=foldl_push xs []
theorem dN (a b:List Int):cO (a++b)=cO a++cO b:=by
 rw [k9,k9,k9,ByteArray.mk_append_mk,List.map_append]
theorem bO (a:List Int):(cO a).size=a.length:=by
 rw [k9]
 simp [ByteArray.size]
theorem fg {n m:Nat} (h:n+m<=4611686018427387904):chk (kz n m)=some ():=gI h
def fQ (n:Nat):List Int:=if n < 128 then [(n:Int)] else ((128+n % 128:Nat):Int)::fQ (n / 128)
termination_by n
decreasing_by omega
def clN (n:Int):Nat:=(max 0 (min n 4611686018427387904)).toNat
theorem yJ (n:Int):imax 0 (gG n 4611686018427387904)=(clN n:Int):=by rw [jO,iQ]; unfold clN; omega
theorem va (n:Int):clN n<=4611686018427387904:=by unfold clN; omega
def bK (n:Int):List Int:=fQ (clN n)
theorem dQ {n:Nat} (h:n < 128):fQ n=[(n:Int)]:=by rw [fQ,if_pos h]
theorem kc {n:Nat} (h: ¬ n < 128):fQ n=((128+n % 128:Nat):Int)::fQ (n / 128):=by rw [fQ,if_neg h]
theorem mE: ∀ (k n:Nat),n < 128 ^ (k+1)->(fQ n).length<=k+1:=by
 intro k
 induction k with
 | zero =>
  intro n h
  rw [dQ (by omega)]
  simp
 | succ k ih =>
  intro n h
  by_cases hn:n < 128
  ·rw [dQ hn]
   simp
  ·rw [kc hn,List.length_cons]
   have:n / 128 < 128 ^ (k+1):=by
    rw [Nat.pow_succ] at h
    exact Nat.div_lt_of_lt_mul (by rw [Nat.mul_comm]; exact h)
   have:=ih _ this
   omega
theorem bL (n:Int):(bK n).length<=9:=mE 8 _ (by have:=va n; omega)
theorem lE: ∀ (n:Nat),∀ b∈fQ n,0<=b/\b < 256:=by
 intro n
 induction n using Nat.strongRecOn with
 | _ n ih =>
  intro b hb
  by_cases hn:n < 128
  ·rw [dQ hn,List.mem_singleton] at hb
   omega
  ·rw [kc hn] at hb
   rcases List.mem_cons.1 hb with rfl | hb
   ·omega
   ·exact ih (n / 128) (by omega) b hb
theorem yK (x:Int) (h0:0<=x) (h1:x < 256):Go.bits .and .u8 x 127=x % 128:=by
 have h:=bits_mask .u8 8 (by decide) wraps_u8 7 (by decide) x h0 (by omega)
 have e:((2:Int) ^ 7 - 1)=127:=by decide
 have e2:((2:Int) ^ 7)=128:=by decide
 rw [e,e2] at h
 exact h
theorem or_comm (k:IntKind) (x y:Int):Go.bits .or k x y=Go.bits .or k y x:=by
 show k.wrap ((BitVec.ofInt k.bits x ||| BitVec.ofInt k.bits y).toNat:Int)=k.wrap ((BitVec.ofInt k.bits y ||| BitVec.ofInt k.bits x).toNat:Int)
 rw [BitVec.or_comm]
theorem AL (y:Int) (h0:0<=y) (h1:y < 128):Go.bits .or .u8 y 128=128+y:=by
 rw [or_comm]
 exact bits_join .u8 8 (by decide) wraps_u8 7 128 y (by decide) (by decide) (by decide) h0 (by omega) (by omega)
theorem D7 (n:Nat):(n:Int).fdiv (2 ^ (min 7 64))=((n / 128:Nat):Int):=by
 rw [Int.fdiv_eq_ediv_of_nonneg _ (by decide)]
 show (n:Int) / 128=_
 omega
theorem xw (b:List Int) (x:Int) (hb:b.length<=100000000): ∃ e,ir (λ(s661:bJ) (x619:Int)=>(Option.bind (chk (fu s661.b.length [x619].length 1)) λ_=>some ((bJ.mk (s661.b++[x619])),true))) (⟨b⟩:bJ) x=some ((⟨b++bK x⟩:bJ),e):=by
 unfold ir lU
 rw [yJ,aA]
 unfold bK
 have hle:=va x
 generalize clN x=n at hle
 have key: ∀ (k n:Nat) (b:List Int),n < 128 ^ (k+1)->b.length+(k+1)<=100000010 -> ∃ e,iter (σ:=Int×bJ) (ρ:=(Int×bJ) ⊕ (bJ×Int)) (λa=>(bif (decide (a.1>=128)) then (Option.bind ((λ(s661:bJ) (x619:Int)=>(Option.bind (chk (fu s661.b.length [x619].length 1)) λ_=>some ((bJ.mk (s661.b++[x619])),true))) a.2 (Go.bits .or .u8 (Go.bits .and .u8 (IntKind.u8.wrap a.1) 127) 128)) λz68=>(bif (!z68.2) then (eJ (some (z68.1,a.1))) else some (.inl ((a.1.fdiv (2 ^ (min 7 64))),z68.1)))) else some (.inr (.inl (a.1,a.2))))) ((n:Int),(⟨b⟩:bJ))=some (.inl ((e:Int),(⟨b++(fQ n).dropLast⟩:bJ)))/\0<=e/\e < 128/\fQ n=(fQ n).dropLast++[e]:=by
  intro k
  induction k with
  | zero =>
   intro n b h hb
   refine ⟨n,?_,by omega,by omega,?_⟩
   ·rw [dQ (by omega)]
    refine bM ?_
    dsimp only
    rw [decide_eq_false (by omega),cond_false]
    simp
   ·rw [dQ (by omega)]
    rfl
  | succ k ih =>
   intro n b h hb
   by_cases hn:n < 128
   ·refine ⟨n,?_,by omega,by omega,?_⟩
    ·rw [dQ hn]
     refine bM ?_
     dsimp only
     rw [decide_eq_false (by omega),cond_false]
     simp
    ·rw [dQ hn]
     rfl
   ·have hlt:n / 128 < 128 ^ (k+1):=by
     rw [Nat.pow_succ] at h
     exact Nat.div_lt_of_lt_mul (by rw [Nat.mul_comm]; exact h)
    obtain ⟨e,h1,h2,h3,h4⟩:=ih (n / 128) (b++[((128+n % 128:Nat):Int)]) hlt (by simp; omega)
    refine ⟨e,?_,h2,h3,?_⟩
    ·rw [cM (s':=(((n / 128:Nat):Int),(⟨b++[((128+n % 128:Nat):Int)]⟩:bJ)))]
     ·rw [h1,kc hn]
      have hne:fQ (n / 128)≠[]:=by rw [h4]; simp
      rw [List.dropLast_cons_of_ne_nil hne]
      simp
     ·dsimp only
      have hw:IntKind.u8.wrap (n:Int)=((n % 256:Nat):Int):=by rw [IntKind.wrap_u8]; omega
      have hv:Go.bits .or .u8 (Go.bits .and .u8 (IntKind.u8.wrap (n:Int)) 127) 128=((128+n % 128:Nat):Int):=by
       rw [hw,yK _ (by omega) (by omega),AL _ (by omega) (by omega)]
       omega
      rw [decide_eq_true (by omega),cond_true,hv,cF (by simp; omega),aA,aA]
      dsimp only
      rw [Bool.not_true,cond_false,D7]
    ·rw [kc hn]
     have hne:fQ (n / 128)≠[]:=by rw [h4]; simp
     rw [List.dropLast_cons_of_ne_nil hne,List.cons_append,<- h4]
 obtain ⟨e,h1,h2,h3,h4⟩:=key 8 n b (by omega) (by omega)
 have hl:=mE 8 n (by omega)
 have hd:(fQ n).dropLast.length<=9:=by rw [List.length_dropLast]; omega
 refine ⟨e,?_⟩
 rw [h1,aA]
 dsimp only
 have hu:IntKind.u8.wrap e=e:=by rw [IntKind.wrap_u8]; omega
 rw [hu,cF (by simp only [List.length_append,List.length_singleton]; omega),aA,aA,List.append_assoc,<- h4]
theorem jy (b:List Int) (l:List Int) (hb:b.length+9*l.length<=10000000):cB ⟨b⟩ l=some ⟨b++l.flatMap bK⟩:=by
 unfold cB ko
 have hfl: ∀ l:List Int,(l.flatMap bK).length<=9*l.length:=by
  intro l
  induction l with
  | nil=>simp
  | cons a l ih =>
   rw [List.flatMap_cons,List.length_append,List.length_cons]
   have:=bL a
   omega
 refine fw (λi=>((⟨b++(l.take i).flatMap bK⟩:bJ),(i:Int))) l.length (⟨b++l.flatMap bK⟩:bJ) ?_ ?_ ?_ rfl
 ·simp
 ·intro i hi
  dsimp only
  have h4:=hfl (l.take i)
  rw [List.length_take] at h4
  obtain ⟨e,he⟩:=xw (b++(l.take i).flatMap bK) l[i] (by rw [List.length_append]; omega)
  rw [decide_eq_true (by omega),cond_true,bN l i hi,aA,aA,he,aA,w64 (by omega) (by omega),List.take_succ_eq_append_getElem hi,List.flatMap_append,List.flatMap_singleton,List.append_assoc]
  rfl
 ·dsimp only
  rw [decide_eq_false (by omega),cond_false,List.take_length]
theorem jz (x:Int):bT x=some (cO (bK x)):=by
 unfold bT
 rw [yJ]
 unfold bK
 have hle:=va x
 generalize clN x=n at hle
 have key: ∀ (k n:Nat) (b:List Int),n < 128 ^ (k+1)->n<=4611686018427387904->b.length+(k+1)<=1000 -> ∃ e,iter (σ:=Int×(List Int)) (ρ:=Int×(List Int)) (λa=>(bif (decide (a.1>=128)) then (Option.bind (chk (fu a.2.length [(IntKind.u8.wrap (IntKind.i64.wrap (128+(a.1.tmod 128))))].length 1)) λ_=>some (.inl ((IntKind.i64.wrap (a.1.tdiv 128)),(a.2++[(IntKind.u8.wrap (IntKind.i64.wrap (128+(a.1.tmod 128))))])))) else some (.inr (a.1,a.2)))) ((n:Int),b)=some ((e:Int),b++(fQ n).dropLast)/\0<=e/\e < 128/\fQ n=(fQ n).dropLast++[e]:=by
  intro k
  induction k with
  | zero =>
   intro n b h hmx hb
   refine ⟨n,?_,by omega,by omega,?_⟩
   ·rw [dQ (by omega)]
    refine bM ?_
    dsimp only
    rw [decide_eq_false (by omega),cond_false]
    simp
   ·rw [dQ (by omega)]
    rfl
  | succ k ih =>
   intro n b h hmx hb
   by_cases hn:n < 128
   ·refine ⟨n,?_,by omega,by omega,?_⟩
    ·rw [dQ hn]
     refine bM ?_
     dsimp only
     rw [decide_eq_false (by omega),cond_false]
     simp
    ·rw [dQ hn]
     rfl
   ·have hlt:n / 128 < 128 ^ (k+1):=by
     rw [Nat.pow_succ] at h
     exact Nat.div_lt_of_lt_mul (by rw [Nat.mul_comm]; exact h)
    obtain ⟨e,h1,h2,h3,h4⟩:=ih (n / 128) (b++[((128+n % 128:Nat):Int)]) hlt (by omega) (by simp; omega)
    refine ⟨e,?_,h2,h3,?_⟩
    ·have hbig:n < 9223372036854775808:=by omega
     ·rw [cM (s':=(((n / 128:Nat):Int),b++[((128+n % 128:Nat):Int)]))]
      ·rw [h1,kc hn]
       have hne:fQ (n / 128)≠[]:=by rw [h4]; simp
       rw [List.dropLast_cons_of_ne_nil hne]
       simp
      ·dsimp only
       have m1:(n:Int).tmod 128=((n % 128:Nat):Int):=by rw [Int.tmod_eq_emod_of_nonneg (by omega)]; omega
       have d1:(n:Int).tdiv 128=((n / 128:Nat):Int):=by rw [Int.tdiv_eq_ediv_of_nonneg (by omega)]; omega
       rw [decide_eq_true (by omega),cond_true,m1,d1,w64 (by omega) (by omega),w64 (by omega) (by omega),CE (by omega) (by omega),cF (by simp; omega),aA]
       have:(128:Int)+((n % 128:Nat):Int)=((128+n % 128:Nat):Int):=by omega
       rw [this]
    ·rw [kc hn]
     have hne:fQ (n / 128)≠[]:=by rw [h4]; simp
     rw [List.dropLast_cons_of_ne_nil hne,List.cons_append,<- h4]
 obtain ⟨e,h1,h2,h3,h4⟩:=key 8 n [] (by omega) hle (by simp)
 have hl:=mE 8 n (by omega)
 have hd:(fQ n).dropLast.length<=9:=by rw [List.length_dropLast]; omega
 rw [h1,aA]
 dsimp only
 rw [CE h2 (by omega),cF (by simp only [List.length_append,List.length_singleton,List.length_nil]; omega),aA,List.nil_append,<- h4]
def most:Nat:=4611686018427387904
def rdp:Nat->Nat->Nat->List Int->Int ⊕ (Nat×Nat)
 | 0,_,_,_=> .inl 1
 | _+1,_,_,[]=> .inl 2
 | k+1,i,acc,b::r=>if b < 128 then (if (i > 0/\b=0)\/acc+b.toNat % 128*128 ^ i > most then .inl 1 else .inr (acc+b.toNat % 128*128 ^ i,i+1)) else rdp k (i+1) (acc+b.toNat % 128*128 ^ i) r
def noS:ByteArray:=ByteArray.mk #[]
theorem oe (s:ByteArray): ∀ b∈sbs s,0<=b/\b < 256:=by
 intro b hb
 unfold sbs at hb
 obtain ⟨c,_,rfl⟩:=List.mem_map.1 hb
 have:=c.toNat_lt
 omega
theorem og (s:ByteArray) (i:Nat) (h:i < (sbs s).length):qo s (i:Int)=some (sbs s)[i]:=by
 unfold qo
 rw [decide_eq_true (by omega),cond_true,Int.toNat_natCast]
 have h2:i < s.data.size:=by rw [aR] at h; exact h
 rw [Array.getElem?_eq_getElem h2]
 simp only [sbs,Option.map_some,List.getElem_map,Array.getElem_toList]
theorem p2 (i:Nat):2 ^ (7*i)=128 ^ i:=by rw [Nat.pow_mul]
theorem pw8 {i:Nat} (h:i<=8):128 ^ i<=72057594037927936:=Nat.le_trans (Nat.pow_le_pow_right (by omega) h) (by decide)
theorem wD (i acc b:Nat) (hi:i<=8) (ha:acc < 128 ^ i) (hb:b < 256) :
  Go.bits .or .i64 (acc:Int) (IntKind.i64.wrap ((IntKind.i64.wrap (Go.bits .and .u8 (b:Int) 127))*2 ^ (min (IntKind.i64.wrap (7*(i:Int))).toNat 64)))=((acc+b % 128*128 ^ i:Nat):Int)/\acc+b % 128*128 ^ i < 128 ^ (i+1):=by
 have hP:=pw8 hi
 have h7:(IntKind.i64.wrap (7*(i:Int))).toNat=7*i:=by rw [w64 (by omega) (by omega)]; omega
 have hm:min (7*i) 64=7*i:=by omega
 have hp:(2:Int) ^ (7*i)=((128 ^ i:Nat):Int):=by rw [<- p2]; simp
 rw [h7,hm,hp,yK _ (by omega) (by omega)]
 have hlt:b % 128*128 ^ i<=127*128 ^ i:=Nat.mul_le_mul_right _ (by omega)
 have hP1:128 ^ (i+1)=128*128 ^ i:=by rw [Nat.pow_succ,Nat.mul_comm]
 have e1:IntKind.i64.wrap ((b:Int) % 128)=((b % 128:Nat):Int):=by rw [w64 (by omega) (by omega)]; omega
 have e2:((b % 128:Nat):Int)*((128 ^ i:Nat):Int)=((b % 128*128 ^ i:Nat):Int):=by simp
 rw [e1,e2]
 generalize hw:b % 128*128 ^ i=w at hlt
 rw [w64 (by omega) (by omega),or_comm]
 have hmod:(w:Int) % 2 ^ (7*i)=0:=by
  rw [hp,<- hw]
  rw [<- Int.natCast_emod,Nat.mul_mod_left]
  rfl
 have:=bits_join .i64 63 (by decide) (λn h0 h1=>w64 (by omega) (by omega)) (7*i) (w:Int) (acc:Int) (by omega) hmod (by omega) (by omega) (by rw [hp]; omega) (by omega)
 rw [this]
 constructor
 ·omega
 ·omega
def AM (s:ByteArray):Int ⊕ (Nat×Nat)->Int×aI
 | .inl e=>(0,⟨noS,e⟩)
 | .inr (v,j)=>(v,⟨eK s j s.size,0⟩)
theorem lF (s:ByteArray) (e:Int) (h:e≠0):bB ⟨s,0⟩ e=some ⟨noS,e⟩:=by
 unfold bB
 have:(e != 0)=true:=by simpa using h
 simp [this,noS]
theorem oV (s:ByteArray) (e f:Int) (h:e≠0):bB ⟨s,e⟩ f=some ⟨s,e⟩:=by
 unfold bB
 have:(e == 0)=false:=by simpa using h
 simp [this]
theorem AN (s:ByteArray) (hs:s.size<=1000000):bC ⟨s,0⟩=some (AM s (rdp 9 0 0 (sbs s))):=by
 unfold bC
 have hl:(sbs s).length=s.size:=aR s
 refine Eq.trans ?_ (congrArg (λl=>some (AM s (rdp 9 0 0 l))) (List.drop_zero (l:=sbs s)))
 have key: ∀ (k i acc:Nat),i+k=9->acc < 128 ^ i->i<=(sbs s).length->Option.bind (iter (σ:=Int×Int) (ρ:=Unit ⊕ (Int×aI)) (λa=>(bif (decide (a.1 < (gG ((⟨s,0⟩:aI).s.size:Int) 9))) then (Option.bind (qo (⟨s,0⟩:aI).s a.1) λb213=>(Option.bind (chk (shk (IntKind.i64.wrap (7*a.1)))) λ_=>(bif (decide (b213>=128)) then some (.inl ((IntKind.i64.wrap (a.1+1)),(Go.bits .or .i64 a.2 (IntKind.i64.wrap ((IntKind.i64.wrap (Go.bits .and .u8 b213 127))*2 ^ (min (IntKind.i64.wrap (7*a.1)).toNat 64)))))) else (Option.bind ((bif (decide (a.1 > 0)) then (bif (b213 == 0) then some true else some (decide ((Go.bits .or .i64 a.2 (IntKind.i64.wrap ((IntKind.i64.wrap (Go.bits .and .u8 b213 127))*2 ^ (min (IntKind.i64.wrap (7*a.1)).toNat 64)))) > 4611686018427387904))) else some (decide ((Go.bits .or .i64 a.2 (IntKind.i64.wrap ((IntKind.i64.wrap (Go.bits .and .u8 b213 127))*2 ^ (min (IntKind.i64.wrap (7*a.1)).toNat 64)))) > 4611686018427387904))):Option Bool) λc=>(bif c then (Option.bind (bB (⟨s,0⟩:aI) 1) λd=>(eJ (some (0,d)))) else (Option.bind (chk (fE (IntKind.i64.wrap (a.1+1)) ((⟨s,0⟩:aI).s.size:Int) (⟨s,0⟩:aI).s.size)) λ_=>(eJ (some ((Go.bits .or .i64 a.2 (IntKind.i64.wrap ((IntKind.i64.wrap (Go.bits .and .u8 b213 127))*2 ^ (min (IntKind.i64.wrap (7*a.1)).toNat 64)))),(aI.mk (eK (⟨s,0⟩:aI).s (IntKind.i64.wrap (a.1+1)) ((⟨s,0⟩:aI).s.size:Int)) (⟨s,0⟩:aI).e)))))))))) else some (.inr (.inl ())))) ((i:Int),(acc:Int))) (λ | .inl e176=>(Option.bind ((bif (decide (((⟨s,0⟩:aI).s.size:Int)>=9)) then (Option.bind (bB (⟨s,0⟩:aI) 1) λf=>some f) else some (⟨s,0⟩:aI)):Option aI) λg=>(Option.bind (bB g 2) λj=>some (0,j))) | .inr w=>some w)=some (AM s (rdp k i acc ((sbs s).drop i))):=by
  intro k
  induction k with
  | zero =>
   intro i acc hi ha hil
   rw [bM (r:= .inl ())]
   ·rw [aA]
    dsimp only
    rw [decide_eq_true (by omega),cond_true,lF _ _ (by decide),aA,aA,oV _ _ _ (by decide),aA]
    rfl
   ·dsimp only
    rw [iQ,decide_eq_false (by omega),cond_false]
  | succ k ih =>
   intro i acc hi ha hil
   by_cases hlt:i < (sbs s).length
   ·obtain ⟨hb0,hb1⟩:=oe s _ (List.getElem_mem hlt)
    have hx:=og s i hlt
    rw [List.drop_eq_getElem_cons hlt]
    generalize (sbs s)[i]=b at hb0 hb1 hx
    obtain ⟨B,rfl⟩:=Int.eq_ofNat_of_zero_le hb0
    obtain ⟨hor,hbd⟩:=wD i acc B (by omega) ha (by omega)
    have hshk:chk (shk (IntKind.i64.wrap (7*(i:Int))))=some ():=by
     rw [w64 (by omega) (by omega)]
     exact gI (by omega)
    unfold rdp
    rw [Int.toNat_natCast]
    by_cases hbig:(B:Int)>=128
    ·rw [cM (s':=(((i+1:Nat):Int),((acc+B % 128*128 ^ i:Nat):Int)))]
     ·rw [ih (i+1) (acc+B % 128*128 ^ i) (by omega) hbd (by omega),if_neg (by omega)]
     ·dsimp only
      rw [iQ,decide_eq_true (by omega),cond_true,hx,aA,hshk,aA,decide_eq_true hbig,cond_true,hor,w64 (by omega) (by omega)]
      rfl
    ·rw [if_pos (by omega)]
     have hc:((bif (decide ((i:Int) > 0)) then (bif ((B:Int) == 0) then some true else some (decide (((acc+B % 128*128 ^ i:Nat):Int) > 4611686018427387904))) else some (decide (((acc+B % 128*128 ^ i:Nat):Int) > 4611686018427387904))):Option Bool)=some (decide ((i > 0/\(B:Int)=0)\/acc+B % 128*128 ^ i > most)):=by
      have hd: ∀ v:Nat,decide ((v:Int) > 4611686018427387904)=decide (v > most):=λv=>by
       unfold most
       congr 1
       apply propext
       omega
      rw [hd]
      by_cases c1:i > 0
      ·have c1':(i:Int) > 0:=by omega
       rw [decide_eq_true c1',cond_true]
       by_cases c2:(B:Int)=0
       ·have:((B:Int) == 0)=true:=by simpa using c2
        rw [this,cond_true,decide_eq_true (.inl ⟨c1,c2⟩)]
       ·have:((B:Int) == 0)=false:=by simpa using c2
        rw [this,cond_false]
        congr 1
        by_cases c3:acc+B % 128*128 ^ i > most
        ·rw [decide_eq_true c3,decide_eq_true (.inr c3)]
        ·rw [decide_eq_false c3,decide_eq_false (by rintro (h | h); exact c2 h.2; exact c3 h)]
      ·rw [decide_eq_false (by omega),cond_false]
       congr 1
       by_cases c3:acc+B % 128*128 ^ i > most
       ·rw [decide_eq_true c3,decide_eq_true (.inr c3)]
       ·rw [decide_eq_false c3,decide_eq_false (by rintro (h | h); exact c1 h.1; exact c3 h)]
     by_cases hf:(i > 0/\(B:Int)=0)\/acc+B % 128*128 ^ i > most
     ·rw [if_pos hf,bM (r:= .inr (0,⟨noS,1⟩))]
      ·rfl
      ·dsimp only
       rw [iQ,decide_eq_true (by omega),cond_true,hx,aA,hshk,aA,decide_eq_false hbig,cond_false,hor,hc,aA,decide_eq_true hf,cond_true,lF _ _ (by decide),aA]
       rfl
     ·rw [if_neg hf,bM (r:= .inr (((acc+B % 128*128 ^ i:Nat):Int),⟨eK s ((i+1:Nat):Int) s.size,0⟩))]
      ·rfl
      ·dsimp only
       rw [iQ,decide_eq_true (by omega),cond_true,hx,aA,hshk,aA,decide_eq_false hbig,cond_false,hor,hc,aA,decide_eq_false hf,cond_false,w64 (by omega) (by omega),dI (by omega) (by omega) (by omega),aA]
       rfl
   ·have hd:(sbs s).drop i=[]:=List.drop_eq_nil_of_le (by omega)
    rw [hd,bM (r:= .inl ())]
    ·rw [aA]
     dsimp only
     rw [decide_eq_false (by omega),cond_false,aA,lF _ _ (by decide),aA]
     rfl
    ·dsimp only
     rw [iQ,decide_eq_false (by omega),cond_false]
 exact key 9 0 0 (by omega) (by omega) (by omega)
def CF (s:ByteArray):Int ⊕ (Nat×Nat)->aQ×Int
 | .inl e=>(⟨noS,e⟩,0)
 | .inr (v,j)=>(⟨eK s j s.size,0⟩,v)
theorem yL (s:ByteArray) (hs:s.size<=1000000):aY ⟨s,0⟩=some (CF s (rdp 9 0 0 (sbs s))):=by
 unfold aY
 have hl:(sbs s).length=s.size:=aR s
 have e0:((0:Int) != 0)=false:=rfl
 dsimp only
 rw [e0,cond_false]
 refine Eq.trans ?_ (congrArg (λl=>some (CF s (rdp 9 0 0 l))) (List.drop_zero (l:=sbs s)))
 have key: ∀ (k i acc:Nat) (f:Int×Int×Int->Option ((Int×Int×Int) ⊕ (Unit ⊕ (aQ×Int)))),f=(λ(s258:Int×Int×Int)=>(bif (decide (s258.2.2 < 9)) then (Option.bind ((bif (s258.2.2 == (s.size:Int)) then (my (eJ (some ((aQ.mk (ByteArray.mk #[]) 2),0)))) else (Option.bind (qo s s258.2.2) λb475=>(bif (decide ((IntKind.i64.wrap b475) < 128)) then (Option.bind ((bif (decide (s258.2.2 > 0)) then (bif ((IntKind.i64.wrap b475) == 0) then some true else some (decide ((IntKind.i64.wrap (s258.1+(IntKind.i64.wrap (((IntKind.i64.wrap b475).tmod 128)*s258.2.1)))) > 4611686018427387904))) else some (decide ((IntKind.i64.wrap (s258.1+(IntKind.i64.wrap (((IntKind.i64.wrap b475).tmod 128)*s258.2.1)))) > 4611686018427387904))):Option Bool) λa=>(bif a then (my (eJ (some ((aQ.mk (ByteArray.mk #[]) 1),0)))) else (Option.bind (chk (fE (IntKind.i64.wrap (s258.2.2+1)) (s.size:Int) s.size)) λ_=>(my (eJ (some ((aQ.mk (eK s (IntKind.i64.wrap (s258.2.2+1)) (s.size:Int)) 0),(IntKind.i64.wrap (s258.1+(IntKind.i64.wrap (((IntKind.i64.wrap b475).tmod 128)*s258.2.1))))))))))) else (bif (decide (s258.2.2 < 8)) then some (.inl ((IntKind.i64.wrap (s258.1+(IntKind.i64.wrap (((IntKind.i64.wrap b475).tmod 128)*s258.2.1)))),(IntKind.i64.wrap (s258.2.1*128)))) else some (.inl ((IntKind.i64.wrap (s258.1+(IntKind.i64.wrap (((IntKind.i64.wrap b475).tmod 128)*s258.2.1)))),s258.2.1)))))):Option ((Int×Int) ⊕ ((Int×Int×Int) ⊕ (Unit ⊕ (aQ×Int))))) λ | .inl e465=>some (.inl (e465.1,e465.2,(IntKind.i64.wrap (s258.2.2+1)))) | .inr w=>some w) else some (.inr (.inl ()))))->i+k=9->acc < 128 ^ i->i<=(sbs s).length -> ∀ M:Nat,(i<=8->M=128 ^ i)->Option.bind (iter f ((acc:Int),(M:Int),(i:Int))) (λ | .inl e381=>some ((aQ.mk (ByteArray.mk #[]) 1),0) | .inr w=>some w)=some (CF s (rdp k i acc ((sbs s).drop i))):=by
  intro k
  induction k with
  | zero =>
   intro i acc f hf hi ha hil M hM
   rw [bM (r:= .inl ())]
   ·rfl
   ·subst hf
    dsimp only
    rw [decide_eq_false (by omega),cond_false]
  | succ k ih =>
   intro i acc f hf hi ha hil M hM
   by_cases hlt:i < (sbs s).length
   ·obtain ⟨hb0,hb1⟩:=oe s _ (List.getElem_mem hlt)
    have hx:=og s i hlt
    rw [List.drop_eq_getElem_cons hlt]
    generalize (sbs s)[i]=b at hb0 hb1 hx
    obtain ⟨B,rfl⟩:=Int.eq_ofNat_of_zero_le hb0
    obtain ⟨_,hbd⟩:=wD i acc B (by omega) ha (by omega)
    have hP:=pw8 (i:=i) (by omega)
    obtain rfl:=hM (by omega)
    have hlt7:B % 128*128 ^ i<=127*128 ^ i:=Nat.mul_le_mul_right _ (by omega)
    have hw:IntKind.i64.wrap (B:Int)=(B:Int):=w64 (by omega) (by omega)
    have hm:(B:Int).tmod 128=((B % 128:Nat):Int):=by rw [Int.tmod_eq_emod_of_nonneg (by omega)]; omega
    have hv:IntKind.i64.wrap ((acc:Int)+IntKind.i64.wrap (((B % 128:Nat):Int)*((128 ^ i:Nat):Int)))=((acc+B % 128*128 ^ i:Nat):Int):=by
     have e2:((B % 128:Nat):Int)*((128 ^ i:Nat):Int)=((B % 128*128 ^ i:Nat):Int):=by simp
     rw [e2]
     generalize B % 128*128 ^ i=w at hlt7
     rw [w64 (x:=(w:Int)) (by omega) (by omega),w64 (by omega) (by omega)]
     omega
    have hne:((i:Int) == (s.size:Int))=false:=by simp; omega
    unfold rdp
    rw [Int.toNat_natCast]
    by_cases hbig:(B:Int) < 128
    ·rw [if_pos hbig]
     have hc:((bif (decide ((i:Int) > 0)) then (bif ((B:Int) == 0) then some true else some (decide (((acc+B % 128*128 ^ i:Nat):Int) > 4611686018427387904))) else some (decide (((acc+B % 128*128 ^ i:Nat):Int) > 4611686018427387904))):Option Bool)=some (decide ((i > 0/\(B:Int)=0)\/acc+B % 128*128 ^ i > most)):=by
      have hd: ∀ v:Nat,decide ((v:Int) > 4611686018427387904)=decide (v > most):=λv=>by
       unfold most
       congr 1
       apply propext
       omega
      rw [hd]
      by_cases c1:i > 0
      ·have c1':(i:Int) > 0:=by omega
       rw [decide_eq_true c1',cond_true]
       by_cases c2:(B:Int)=0
       ·have:((B:Int) == 0)=true:=by simpa using c2
        rw [this,cond_true,decide_eq_true (.inl ⟨c1,c2⟩)]
       ·have:((B:Int) == 0)=false:=by simpa using c2
        rw [this,cond_false]
        congr 1
        by_cases c3:acc+B % 128*128 ^ i > most
        ·rw [decide_eq_true c3,decide_eq_true (.inr c3)]
        ·rw [decide_eq_false c3,decide_eq_false (by rintro (h | h); exact c2 h.2; exact c3 h)]
      ·rw [decide_eq_false (by omega),cond_false]
       congr 1
       by_cases c3:acc+B % 128*128 ^ i > most
       ·rw [decide_eq_true c3,decide_eq_true (.inr c3)]
       ·rw [decide_eq_false c3,decide_eq_false (by rintro (h | h); exact c1 h.1; exact c3 h)]
     by_cases hfm:(i > 0/\(B:Int)=0)\/acc+B % 128*128 ^ i > most
     ·rw [if_pos hfm,bM (r:= .inr (⟨noS,1⟩,0))]
      ·rfl
      ·subst hf
       dsimp only
       rw [decide_eq_true (by omega),cond_true,hne,cond_false,hx,aA,hw,decide_eq_true hbig,cond_true,hm,hv,hc,aA,decide_eq_true hfm,cond_true]
       rfl
     ·rw [if_neg hfm,bM (r:= .inr (⟨eK s ((i+1:Nat):Int) s.size,0⟩,((acc+B % 128*128 ^ i:Nat):Int)))]
      ·rfl
      ·subst hf
       dsimp only
       rw [decide_eq_true (by omega),cond_true,hne,cond_false,hx,aA,hw,decide_eq_true hbig,cond_true,hm,hv,hc,aA,decide_eq_false hfm,cond_false,w64 (x:=(i:Int)+1) (by omega) (by omega),dI (by omega) (by omega) (by omega),aA]
       rfl
    ·rw [if_neg hbig]
     by_cases h8:i < 8
     ·rw [cM (s':=(((acc+B % 128*128 ^ i:Nat):Int),((128 ^ (i+1):Nat):Int),((i+1:Nat):Int)))]
      ·exact ih (i+1) _ f hf (by omega) hbd (by omega) _ (λ_=>rfl)
      ·subst hf
       dsimp only
       have hP1:(128:Nat) ^ (i+1)=128 ^ i*128:=Nat.pow_succ ..
       have hP7:128 ^ i<=562949953421312:=Nat.le_trans (Nat.pow_le_pow_right (by omega) (by omega:i<=7)) (by decide)
       have hmm:IntKind.i64.wrap (((128 ^ i:Nat):Int)*128)=((128 ^ (i+1):Nat):Int):=by
        rw [hP1,w64 (by omega) (by omega)]
        omega
       rw [decide_eq_true (by omega),cond_true,hne,cond_false,hx,aA,hw,decide_eq_false hbig,cond_false,hm,hv,decide_eq_true (by omega),cond_true,aA]
       dsimp only
       rw [hmm,w64 (x:=(i:Int)+1) (by omega) (by omega)]
       rfl
     ·rw [cM (s':=(((acc+B % 128*128 ^ i:Nat):Int),((128 ^ i:Nat):Int),((i+1:Nat):Int)))]
      ·exact ih (i+1) _ f hf (by omega) hbd (by omega) _ (λh=>by omega)
      ·subst hf
       dsimp only
       rw [decide_eq_true (by omega),cond_true,hne,cond_false,hx,aA,hw,decide_eq_false hbig,cond_false,hm,hv,decide_eq_false (by omega),cond_false,aA]
       dsimp only
       rw [w64 (x:=(i:Int)+1) (by omega) (by omega)]
       rfl
   ·have hd:(sbs s).drop i=[]:=List.drop_eq_nil_of_le (by omega)
    rw [hd,bM (r:= .inr (⟨noS,2⟩,0))]
    ·rfl
    ·subst hf
     dsimp only
     have hne:((i:Int) == (s.size:Int))=true:=by simp; omega
     rw [decide_eq_true (by omega),cond_true,hne,cond_true]
     rfl
 exact key 9 0 0 _ rfl (by omega) (by omega) (by omega) 1 (λ_=>rfl)
theorem mZ (a b:ByteArray):(a.toList == b.toList)=decide (a=b):=by
 rw [ByteArray.toList_eq,ByteArray.toList_eq]
 by_cases h:a=b
 ·subst h
  rw [decide_eq_true rfl,beq_self_eq_true]
 ·rw [decide_eq_false h]
  have: ¬ a.data.toList=b.data.toList:=λe=>h (ByteArray.ext (Array.ext' e))
  simpa using this
theorem eS (s:ByteArray) (lo hi:Nat):sbs (eK s lo hi)=((sbs s).take hi).drop lo:=by
 unfold sbs eK
 rw [ByteArray.data_extract,Int.toNat_natCast,Int.toNat_natCast]
 rw [Array.toList_extract]
 rw [List.extract_eq_take_drop,List.map_take,List.map_drop,List.drop_take]
theorem lG (s:ByteArray):cO (sbs s)=s:=by
 rw [k9]
 unfold sbs
 rw [List.map_map]
 have:((λn:Int=>UInt8.ofNat n.toNat) ∘ λb:UInt8=>(b.toNat:Int))=id:=by
  funext b
  simp
 rw [this,List.map_id]
theorem kd (l:List Int) (h: ∀ b∈l,0<=b/\b < 256):sbs (cO l)=l:=by
 rw [k9]
 unfold sbs
 simp only [List.map_map]
 induction l with
 | nil=>rfl
 | cons a l ih =>
  have ha:=h a (List.mem_cons_self ..)
  rw [List.map_cons,ih λb hb=>h b (List.mem_cons_of_mem _ hb)]
  congr 1
  show ((UInt8.ofNat a.toNat).toNat:Int)=a
  rw [UInt8.toNat_ofNat']
  omega
theorem m4 {a b:ByteArray} (h:sbs a=sbs b):a=b:=by rw [<- lG a,h,lG]
theorem qu (a b:ByteArray):sbs (a++b)=sbs a++sbs b:=by
 unfold sbs
 rw [ByteArray.data_append]
 simp
theorem yM:cO []=noS:=rfl
def VI (i:aI):Prop:=i.s.size<=1000000/\(i.e=0\/i.s=noS)
def asR (i:aI):aQ:=⟨i.s,i.e⟩
def rdS (i:aI):Int×aI:=if i.e=0 then AM i.s (rdp 9 0 0 (sbs i.s)) else (0,i)
theorem jA (i:aI) (h:VI i):bC i=some (rdS i):=by
 obtain ⟨s,e⟩:=i
 obtain ⟨h1,h2⟩:=h
 unfold rdS
 by_cases he:e=0
 ·subst he
  rw [if_pos rfl]
  exact AN s h1
 ·rw [if_neg he]
  obtain rfl:s=noS:=h2.resolve_left he
  unfold bC
  rw [bM (r:= .inl ())]
  ·rw [aA]
   have hz:(noS.size:Int)=0:=rfl
   dsimp only
   rw [hz,decide_eq_false (by omega),cond_false,aA,oV _ _ _ he,aA]
  ·dsimp only
   have hz:(noS.size:Int)=0:=rfl
   rw [iQ,hz,decide_eq_false (by omega),cond_false]
theorem gF (i:aI) (h:VI i):aY (asR i)=some (asR (rdS i).2,(rdS i).1):=by
 obtain ⟨s,e⟩:=i
 obtain ⟨h1,h2⟩:=h
 unfold rdS
 by_cases he:e=0
 ·subst he
  rw [if_pos rfl]
  have:=yL s h1
  refine this.trans ?_
  cases rdp 9 0 0 (sbs s) <;> rfl
 ·rw [if_neg he]
  unfold aY asR
  have:(e != 0)=true:=by simpa using he
  dsimp only
  rw [this,cond_true]
theorem yN: ∀ (k i acc:Nat) (l:List Int) (v j:Nat),(∀ b∈l,0<=b/\b < 256)->rdp k i acc l = .inr (v,j) -> ∃ w,v=acc+w*128 ^ i/\v<=most/\i < j/\j<=i+l.length/\fQ w=l.take (j - i)/\(i > 0->w > 0):=by
 intro k
 induction k with
 | zero=>intro i acc l v j hb h; cases h
 | succ k ih =>
  intro i acc l v j hb h
  cases l with
  | nil=>cases h
  | cons b r =>
   unfold rdp at h
   have hb0:=hb b (List.mem_cons_self ..)
   obtain ⟨B,rfl⟩:=Int.eq_ofNat_of_zero_le hb0.1
   rw [Int.toNat_natCast] at h
   by_cases hbig:(B:Int) < 128
   ·rw [if_pos hbig] at h
    by_cases hf:(i > 0/\(B:Int)=0)\/acc+B % 128*128 ^ i > most
    ·rw [if_pos hf] at h
     cases h
    ·rw [if_neg hf] at h
     injection h with h
     injection h with hv hj
     have hm:B % 128=B:=Nat.mod_eq_of_lt (by omega)
     rw [hm] at hv hf
     refine ⟨B,hv.symm,?_,by omega,by simp; omega,?_,?_⟩
     ·rw [<- hv]
      exact Nat.le_of_not_lt λhh=>hf (.inr hh)
     ·rw [dQ (by omega),<- hj]
      have:i+1 - i=1:=by omega
      rw [this]
      rfl
     ·intro hi
      exact Nat.pos_of_ne_zero λh0=>hf (.inl ⟨hi,by omega⟩)
   ·rw [if_neg hbig] at h
    obtain ⟨w,h1,h2,h3,h4,h5,h6⟩:=ih (i+1) _ r v j (λc hc=>hb c (List.mem_cons_of_mem _ hc)) h
    have hw:=h6 (by omega)
    refine ⟨B % 128+128*w,?_,h2,by omega,by simp; omega,?_,λ_=>by omega⟩
    ·rw [h1,Nat.pow_succ,Nat.add_mul,Nat.add_assoc]
     congr 2
     rw [Nat.mul_comm 128 w,Nat.mul_assoc,Nat.mul_comm 128]
    ·rw [kc (by omega)]
     have e1:(B % 128+128*w) / 128=w:=by omega
     have e2:128+(B % 128+128*w) % 128=B:=by omega
     have e3:j - i=(j - (i+1))+1:=by omega
     rw [e1,e2,h5,e3,List.take_succ_cons]
theorem AO: ∀ (k i acc w:Nat) (R:List Int),w < 128 ^ (k+1)->k+1+i<=9->(i > 0->w > 0)->acc+w*128 ^ i<=most->rdp (k+1) i acc (fQ w++R) = .inr (acc+w*128 ^ i,i+(fQ w).length):=by
 intro k
 induction k with
 | zero =>
  intro i acc w R hw hk hi hm
  have hs:w < 128:=by simpa using hw
  rw [dQ hs]
  show rdp (0+1) i acc ((w:Int)::R)=_
  unfold rdp
  have hmod:w % 128=w:=Nat.mod_eq_of_lt hs
  rw [if_pos (by omega),Int.toNat_natCast,hmod,if_neg]
  ·simp
  ·rintro (⟨h1,h2⟩ | h)
   ·have:=hi h1
    omega
   ·omega
 | succ k ih =>
  intro i acc w R hw hk hi hm
  by_cases hs:w < 128
  ·rw [dQ hs]
   show rdp (k+1+1) i acc ((w:Int)::R)=_
   unfold rdp
   have hmod:w % 128=w:=Nat.mod_eq_of_lt hs
   rw [if_pos (by omega),Int.toNat_natCast,hmod,if_neg]
   ·simp
   ·rintro (⟨h1,h2⟩ | h)
    ·have:=hi h1
     omega
    ·omega
  ·rw [kc hs]
   have hq:w / 128 < 128 ^ (k+1):=by
    rw [Nat.pow_succ] at hw
    exact Nat.div_lt_of_lt_mul (by rw [Nat.mul_comm]; exact hw)
   have he:(128+w % 128) % 128=w % 128:=by omega
   have hsum:acc+w % 128*128 ^ i+w / 128*128 ^ (i+1)=acc+w*128 ^ i:=by
    rw [Nat.pow_succ,Nat.add_assoc]
    congr 1
    rw [Nat.mul_comm (128 ^ i) 128,<- Nat.mul_assoc,<- Nat.add_mul]
    congr 1
    omega
   show rdp (k+1+1) i acc (((128+w % 128:Nat):Int)::(fQ (w / 128)++R))=_
   rw [rdp,if_neg (by omega),Int.toNat_natCast,he,ih (i+1) _ (w / 128) R hq (by omega) (λ_=>by omega) (by rw [hsum]; exact hm),hsum]
   simp only [List.length_cons]
   congr 2
   omega
theorem eX {i:aI} (h:VI i):VI (rdS i).2:=by
 obtain ⟨s,e⟩:=i
 obtain ⟨h1,h2⟩:=h
 unfold rdS
 by_cases he:e=0
 ·rw [if_pos he]
  cases hr:rdp 9 0 0 (sbs (⟨s,e⟩:aI).s) with
  | inl f=>exact ⟨by show noS.size<=1000000; decide,.inr rfl⟩
  | inr p =>
   refine ⟨?_,.inl rfl⟩
   show (eK s p.2 s.size).size<=1000000
   rw [<- aR,eS,List.length_drop,List.length_take,aR]
   simp only at h1
   omega
 ·rw [if_neg he]
  exact ⟨h1,h2⟩
theorem nH {i:aI} (h:(rdS i).2.e≠0):(rdS i).1=0:=by
 unfold rdS at *
 split at h
 ·rename_i he
  rw [if_pos he]
  cases hr:rdp 9 0 0 (sbs i.s) with
  | inl f=>rfl
  | inr p =>
   rw [hr] at h
   exact absurd rfl h
 ·rename_i he
  rw [if_neg he]
theorem rK {i:aI} (h:(rdS i).2.e=0) (hV:VI i):i.e=0 /\ ∃ w:Nat,(rdS i).1=w/\w<=most/\sbs i.s=fQ w++sbs (rdS i).2.s:=by
 unfold rdS at *
 by_cases he:i.e=0
 ·rw [if_pos he] at h ⊢
  refine ⟨he,?_⟩
  cases hr:rdp 9 0 0 (sbs i.s) with
  | inl f =>
   rw [hr] at h
   -- an error is never nought
   exfalso
   have key: ∀ (k i acc:Nat) (l:List Int) (e:Int),rdp k i acc l = .inl e->e≠0:=by
    intro k
    induction k with
    | zero=>intro i acc l e hh; injection hh with hh; omega
    | succ k ih =>
     intro i acc l e hh
     cases l with
     | nil=>injection hh with hh; omega
     | cons b r =>
      unfold rdp at hh
      split at hh
      ·split at hh
       ·injection hh with hh
        omega
       ·cases hh
      ·exact ih _ _ _ _ hh
   exact key _ _ _ _ _ hr h
  | inr p =>
   obtain ⟨v,j⟩:=p
   obtain ⟨w,h1,h2,h3,h4,h5,h6⟩:=yN 9 0 0 (sbs i.s) v j (oe i.s) hr
   refine ⟨v,rfl,h2,?_⟩
   have hvw:v=w:=by rw [h1]; simp
   show sbs i.s=fQ v++sbs (eK i.s j i.s.size)
   rw [hvw,h5,eS,Nat.sub_zero]
   have:(sbs i.s).take i.s.size=sbs i.s:=List.take_of_length_le (by rw [aR]; exact Nat.le_refl _)
   rw [this,List.take_append_drop]
 ·rw [if_neg he] at h
  exact absurd h he
theorem jB {i:aI} (hV:VI i):0<=(rdS i).1/\(rdS i).1<=4611686018427387904:=by
 by_cases h:(rdS i).2.e=0
 ·obtain ⟨_,w,h1,h2,_⟩:=rK h hV
  rw [h1]
  unfold most at h2
  omega
 ·rw [nH h]
  omega
theorem CG (s:ByteArray) (w:Nat) (R:List Int) (hw:w<=most) (hs:sbs s=fQ w++R):rdS ⟨s,0⟩=((w:Int),⟨cO R,0⟩):=by
 unfold rdS
 rw [if_pos rfl]
 have hl:=mE 8 w (by unfold most at hw; omega)
 have h:=AO 8 0 0 w R (by unfold most at hw; omega) (by omega) (λh=>by omega) (by simpa using hw)
 dsimp only
 rw [hs,h]
 show (((0+w*128 ^ 0:Nat):Int),(⟨eK s ((0+(fQ w).length:Nat):Int) s.size,0⟩:aI))=_
 have e1:0+w*128 ^ 0=w:=by simp
 have e2:eK s ((0+(fQ w).length:Nat):Int) s.size=cO R:=by
  rw [<- lG (eK s ((0+(fQ w).length:Nat):Int) s.size),eS]
  have:(sbs s).take s.size=sbs s:=List.take_of_length_le (by rw [aR]; exact Nat.le_refl _)
  rw [this,hs,Nat.zero_add,List.drop_left]
 rw [e1,e2]
theorem CH (r q:aE) (h:r.cells.length<=1000000) (hr:okR r.cells) (hq:okR q.cells):iV r (told q)=some (decide (r=q)):=by
 by_cases he:r=q
 ·subst he
  rw [D5 r h hr,decide_eq_true rfl]
 rw [decide_eq_false he]
 unfold iV told
 simp only [dW]
 by_cases h1:r.cells.length=q.cells.length
 ·by_cases h2:r.wrapped=q.wrapped
  ·have e6:((bif ((r.cells.length:Int) != (q.cells.length:Int)) then some true else some (!(r.wrapped == q.wrapped))):Option Bool)=some false:=by simp [h1,h2]
   rw [e6,aA,cond_false]
   refine mD (λi:Int=> ∃ n:Nat,i=n/\n<=r.cells.length/\r.cells.take n=q.cells.take n) (λi=>(r.cells.length - i).toNat) (λv=>v = .inr false) ⟨0,rfl,by omega,rfl⟩ ?_ (λv hv=>by rw [hv])
   rintro i ⟨n,rfl,hn,ht⟩
   by_cases hlt:n < r.cells.length
   ·have hlq:n < q.cells.length:=by omega
    have hi2:idx (q.cells.map tc) (n:Int)=some (tc q.cells[n]):=by rw [bN _ _ (by simpa using hlq),List.getElem_map]
    have k1:=hr _ (List.getElem_mem hlt)
    have k2:=hq _ (List.getElem_mem hlq)
    have hcmp:(Option.bind (some (tc q.cells[n])) λe=>(bif ((IntKind.i64.wrap r.cells[n].rune) != e.rune) then some true else (Option.bind (some (tc q.cells[n])) λf=>(bif (r.cells[n].aM != f.aM) then some true else (Option.bind (some (tc q.cells[n])) λg=>some (r.cells[n].part != g.part))))))=some (decide (r.cells[n]≠q.cells[n])):=by
     simp only [aA,tc,w32 k1]
     generalize r.cells[n]=a
     generalize q.cells[n]=b
     obtain ⟨a1,a2,a3⟩:=a
     obtain ⟨b1,b2,b3⟩:=b
     by_cases g1:a1=b1 <;> by_cases g2:a2=b2 <;> by_cases g3:a3=b3 <;> simp [g1,g2,g3]
     all_goals first | (have:(a1 != b1)=true:=by simpa using g1); simp [this] | (have:(a2 != b2)=true:=by simpa using g2); simp [this] | skip
    by_cases hc:r.cells[n]=q.cells[n]
    ·refine .inl ⟨((n+1:Nat):Int),?_,⟨n+1,rfl,hlt,?_⟩,by (try dsimp only); omega⟩
     ·rw [decide_eq_true (by omega),cond_true,bN _ _ hlt,aA,hi2,hcmp,aA,decide_eq_false (by simpa using hc),cond_false,w64 (by omega) (by omega)]
      rfl
     ·rw [List.take_succ_eq_append_getElem hlt,List.take_succ_eq_append_getElem hlq,ht,hc]
    ·refine .inr ⟨.inr false,?_,rfl⟩
     rw [decide_eq_true (by omega),cond_true,bN _ _ hlt,aA,hi2,hcmp,aA,decide_eq_true (by simpa using hc),cond_true]
     rfl
   ·exfalso
    have hn2:n=r.cells.length:=by omega
    subst hn2
    rw [List.take_length,h1,List.take_length] at ht
    apply he
    obtain ⟨a,b⟩:=r
    obtain ⟨c,d⟩:=q
    simp_all
  ·have e6:((bif ((r.cells.length:Int) != (q.cells.length:Int)) then some true else some (!(r.wrapped == q.wrapped))):Option Bool)=some true:=by simp [h1,h2]
   rw [e6,aA,cond_true]
 ·have e7:((r.cells.length:Int) != (q.cells.length:Int))=true:=by simp; omega
  rw [e7,cond_true,aA,cond_true]
def iM:aI:=⟨noS,1⟩
theorem mF:VI iM:=⟨by show noS.size<=1000000; decide,.inr rfl⟩
theorem py {i:aI} (h:VI i):bB i 1=some (if i.e=0 then iM else i):=by
 obtain ⟨s,e⟩:=i
 by_cases he:e=0
 ·subst he
  rw [if_pos rfl]
  exact lF s 1 (by decide)
 ·rw [if_neg he]
  exact oV s e 1 he
def bE (i:aI) (m:Int):Int×aI:=if (rdS i).1 > m then (0,iM) else rdS i
theorem eI {i:aI} (m:Int) (h:VI i):VI (bE i m).2:=by
 unfold bE
 split
 ·exact mF
 ·exact eX h
theorem fN {i:aI} {m:Int} (h:VI i) (hm:0<=m):0<=(bE i m).1/\(bE i m).1<=m:=by
 unfold bE
 split
 ·exact ⟨Int.le_refl _,hm⟩
 ·have:=jB h
  omega
theorem iF {i:aI} {m:Int} (h:(bE i m).2.e=0) (hV:VI i):i.e=0 /\ ∃ w:Nat,(bE i m).1=w/\(w:Int)<=m/\w<=most/\sbs i.s=fQ w++sbs (bE i m).2.s:=by
 unfold bE at *
 split at h
 ·exact absurd h (by decide)
 ·rename_i hh
  rw [if_neg hh]
  obtain ⟨h1,w,h2,h3,h4⟩:=rK h hV
  exact ⟨h1,w,h2,by omega,h3,h4⟩
theorem oW {i:aI} (hV:VI i) {m:Int} (hm:0<=m) (h:(rdS i).1 > m):(rdS i).2.e=0:=by
 by_cases he:(rdS i).2.e=0
 ·exact he
 ·have:=nH he
  omega
theorem lZ {i:aI} (h:VI i) {m:Int} (hm:0<=m):cA (asR i) m=some (asR (bE i m).2,(bE i m).1):=by
 unfold cA bE
 rw [gF i h,aA]
 dsimp only
 by_cases hb:(rdS i).1 > m
 ·have he:=oW h hm hb
  have e1:((asR (rdS i).2).e == 0)=true:=by simpa [asR] using he
  rw [e1,cond_true,decide_eq_true hb,aA,cond_true,if_pos hb]
  rfl
 ·rw [if_neg hb,decide_eq_false hb]
  cases ((asR (rdS i).2).e == 0) <;> rfl
theorem size_eq {i:aI} (h:VI i):pw i=some (bE i 1000):=by
 unfold pw bE
 rw [jA i h,aA]
 by_cases hb:(rdS i).1 > 1000
 ·have he:=oW h (by omega) hb
  rw [decide_eq_true hb,cond_true,py (eX h),if_pos he,aA,if_pos hb]
 ·rw [decide_eq_false hb,cond_false,if_neg hb]
theorem sG {i:aI} (h:VI i) {m:Int} (hm:0<=m):eO i m=some (bE i m):=by
 unfold eO bE
 rw [jA i h,aA]
 by_cases hb:(rdS i).1 > m
 ·have he:=oW h hm hb
  rw [decide_eq_true hb,cond_true,py (eX h),if_pos he,aA,if_pos hb]
 ·rw [decide_eq_false hb,cond_false,if_neg hb]
def kV (i:aI) (left:Int):aI:=if (bE i left).2.e=0/\(bE i left).1=0 then iM else (bE i left).2
theorem lb {i:aI} (left:Int) (h:VI i):VI (kV i left):=by
 unfold kV
 split
 ·exact mF
 ·exact eI left h
def l0 (i:aI) (left:Int):Int×aI:=bE (kV i left) 1114111
def mm (i:aI) (left:Int):Int×aI:=bE (l0 i left).2 647
def il (i:aI) (left:Int):Int×aI:=bE (mm i left).2 3
theorem l3 {i:aI} (left:Int) (h:VI i):VI (l0 i left).2:=eI _ (lb left h)
theorem l4 {i:aI} (left:Int) (h:VI i):VI (mm i left).2:=eI _ (l3 left h)
theorem jQ {i:aI} (left:Int) (h:VI i):VI (il i left).2:=eI _ (l4 left h)
def fj (i:aI) (left:Int):aF:=⟨(l0 i left).1,(mm i left).1,(il i left).1⟩
theorem qv (i:aI) (h:VI i) (m:Int) (hm:0<=m): ∃ v:Int,bC i=some (v,(rdS i).2)/\(if v > m then (if (rdS i).2.e=0 then iM else (rdS i).2) else (rdS i).2)=(bE i m).2/\((bE i m).2.e=0->v=(bE i m).1):=by
 refine ⟨(rdS i).1,jA i h,?_,?_⟩
 ·unfold bE
  by_cases hb:(rdS i).1 > m
  ·rw [if_pos hb,if_pos hb,if_pos (oW h hm hb)]
  ·rw [if_neg hb,if_neg hb]
 ·unfold bE
  by_cases hb:(rdS i).1 > m
  ·rw [if_pos hb]
   intro hh
   exact absurd hh (by decide)
  ·rw [if_neg hb]
   exact λ_=>rfl
theorem oh {i:aI} (h:i.e≠0) (m:Int) (hm:0<=m):(bE i m).2=i:=by
 unfold bE rdS
 rw [if_neg h]
 dsimp only
 rw [if_neg (by omega)]
theorem run_eq (i:aI) (left:Int) (h:VI i) (hl:0<=left):jJ i left=some (if (il i left).2.e=0 then ((bE i left).1,fj i left,true,(il i left).2) else (0,⟨0,0,0⟩,false,(il i left).2)):=by
 unfold jJ
 rw [jA i h,aA]
 have hor:((bif ((rdS i).1 == 0) then some true else some (decide ((rdS i).1 > left))):Option Bool)=some (decide ((rdS i).1=0\/(rdS i).1 > left)):=by
  by_cases h0:(rdS i).1=0
  ·have:((rdS i).1 == 0)=true:=by simpa using h0
   rw [this,cond_true,decide_eq_true (.inl h0)]
  ·have:((rdS i).1 == 0)=false:=by simpa using h0
   rw [this,cond_false]
   by_cases h1:(rdS i).1 > left
   ·rw [decide_eq_true h1,decide_eq_true (.inr h1)]
   ·rw [decide_eq_false h1,decide_eq_false (by omega)]
 have hst:((bif decide ((rdS i).1=0\/(rdS i).1 > left) then (Option.bind (bB (rdS i).2 1) λb=>some b) else some (rdS i).2):Option aI)=some (kV i left):=by
  unfold kV bE
  by_cases hb:(rdS i).1 > left
  ·rw [decide_eq_true (.inr hb),cond_true,py (eX h),if_pos (oW h hl hb),aA,if_pos hb]
   rfl
  ·rw [if_neg hb]
   by_cases h0:(rdS i).1=0
   ·rw [decide_eq_true (.inl h0),cond_true,py (eX h),aA]
    by_cases he:(rdS i).2.e=0
    ·rw [if_pos he,if_pos ⟨he,h0⟩]
    ·rw [if_neg he,if_neg (λhh=>he hh.1)]
   ·rw [decide_eq_false (by omega),cond_false,if_neg (λhh=>h0 hh.2)]
 rw [hor,aA,hst,aA]
 obtain ⟨v1,n1,f1,g1⟩:=qv (kV i left) (lb left h) 1114111 (by omega)
 obtain ⟨v2,n2,f2,g2⟩:=qv (l0 i left).2 (l3 left h) 647 (by omega)
 obtain ⟨v3,n3,f3,g3⟩:=qv (mm i left).2 (l4 left h) 3 (by omega)
 have fl: ∀ (j:aI) (hj:VI j) (v m:Int) (a:iR) (out:aI),(if v > m then (if j.e=0 then iM else j) else j)=out->((bif (decide (v > m)) then (Option.bind (bB j 1) λc=>some (a,c)) else some (a,j)):Option (iR×aI))=some (a,out):=by
  intro j hj v m a out ho
  by_cases hb:v > m
  ·rw [if_pos hb] at ho
   rw [decide_eq_true hb,cond_true,py hj,aA,ho]
  ·rw [if_neg hb] at ho
   rw [decide_eq_false hb,cond_false,ho]
 have ab: ∀ k:Int,0<=k->k < 3->chk (yu k 3)=some ():=λk h0 h1=>gI ⟨h0,h1⟩
 rw [cM (s':=((⟨v1,0,0⟩:iR),(l0 i left).2,(1:Int)))]
 ·rw [cM (s':=((⟨v1,v2,0⟩:iR),(mm i left).2,(2:Int)))]
  ·rw [cM (s':=((⟨v1,v2,v3⟩:iR),(il i left).2,(3:Int)))]
   ·rw [bM (r:=((⟨v1,v2,v3⟩:iR),(il i left).2))]
    ·rw [aA]
     unfold cI
     rw [aA]
     dsimp only
     by_cases he:(il i left).2.e=0
     ·have hb:((il i left).2.e != 0)=false:=by simpa using he
      rw [hb,cond_false,if_pos he]
      have eB:(mm i left).2.e=0:=(iF (i:=(mm i left).2) (m:=3) he (l4 left h)).1
      have eA:(l0 i left).2.e=0:=(iF (i:=(l0 i left).2) (m:=647) eB (l3 left h)).1
      have e0:(kV i left).e=0:=(iF (i:=kV i left) (m:=1114111) eA (lb left h)).1
      have q1:v1=(l0 i left).1:=g1 eA
      have q2:v2=(mm i left).1:=g2 eB
      have q3:v3=(il i left).1:=g3 he
      have hr:=fN (i:=kV i left) (m:=1114111) (lb left h) (by omega)
      have hw:IntKind.i32.wrap v1=v1:=by
       rw [q1,IntKind.wrap_i32]
       unfold l0
       omega
      have hn:(rdS i).1=(bE i left).1:=by
       unfold kV at e0
       unfold bE at *
       split
       ·rename_i hb2
        rw [if_pos hb2] at e0
        split at e0
        ·exact absurd e0 (by decide)
        ·exact absurd e0 (by decide)
       ·rfl
      rw [hw,q1,q2,q3,hn]
      rfl
     ·have hb:((il i left).2.e != 0)=true:=by simpa using he
      rw [hb,cond_true,if_neg he]
    ·rfl
   ·dsimp only
    rw [decide_eq_true (by omega),cond_true,show idx ([1114111,647,3]:List Int) (2:Int)=some 3 from rfl,aA,n3,aA,ab 2 (by omega) (by omega),aA,aA]
    dsimp only
    rw [show idx [sel 2 0 v3 v1,sel 2 1 v3 v2,sel 2 2 v3 0] (2:Int)=some v3 from rfl,aA,fl _ (eX (l4 left h)) _ _ _ _ f3,aA]
    rfl
  ·dsimp only
   rw [decide_eq_true (by omega),cond_true,show idx ([1114111,647,3]:List Int) (1:Int)=some 647 from rfl,aA,n2,aA,ab 1 (by omega) (by omega),aA,aA]
   dsimp only
   rw [show idx [sel 1 0 v2 v1,sel 1 1 v2 0,sel 1 2 v2 0] (1:Int)=some v2 from rfl,aA,fl _ (eX (l3 left h)) _ _ _ _ f2,aA]
   rfl
 ·dsimp only
  rw [decide_eq_true (by omega),cond_true,show idx ([1114111,647,3]:List Int) (0:Int)=some 1114111 from rfl,aA,n1,aA,ab 0 (by omega) (by omega),aA,aA]
  dsimp only
  rw [show idx [sel 0 0 v1 0,sel 0 1 v1 0,sel 0 2 v1 0] (0:Int)=some v1 from rfl,aA,fl _ (eX (lb left h)) _ _ _ _ f1,aA]
  rfl
def rrS:Nat->Int->aI->List aF->List aF×aI
 | 0,_,i,l=>(l,i)
 | k+1,w,i,l=>if (l.length:Int) < w/\i.e=0 then
   (if (il i (w - l.length)).2.e=0 then (if l.getLast?=some (fj i (w - l.length)) then rrS k w iM l else rrS k w (il i (w - l.length)).2 (l++List.replicate (bE i (w - l.length)).1.toNat (fj i (w - l.length))))
   else rrS k w (il i (w - l.length)).2 l)
  else (l,i)
theorem om {i:aI} {left:Int} (h:VI i) (hl:0<=left) (he:(il i left).2.e=0):i.e=0/\1<=(bE i left).1/\(bE i left).1<=left/\(bE i left).2.e=0/\kV i left=(bE i left).2:=by
 have eB:(mm i left).2.e=0:=(iF (i:=(mm i left).2) (m:=3) he (l4 left h)).1
 have eA:(l0 i left).2.e=0:=(iF (i:=(l0 i left).2) (m:=647) eB (l3 left h)).1
 have e0:(kV i left).e=0:=(iF (i:=kV i left) (m:=1114111) eA (lb left h)).1
 have hr:=fN (i:=i) (m:=left) h hl
 by_cases hc:(bE i left).2.e=0/\(bE i left).1=0
 ·unfold kV at e0
  rw [if_pos hc] at e0
  exact absurd e0 (by decide)
 ·have e00:=e0
  unfold kV at e0
  rw [if_neg hc] at e0
  refine ⟨(iF e0 h).1,?_,hr.2,e0,by unfold kV; rw [if_neg hc]⟩
  have:(bE i left).1≠0:=λhh=>hc ⟨e0,hh⟩
  omega
theorem wE (l:List aF) (c:aF) (h:l.length<=1000000):((bif (decide ((l.length:Int) > 0)) then (Option.bind (idx l (IntKind.i64.wrap ((l.length:Int) - 1))) λa=>some ((a.rune == c.rune) && ((a.aM == c.aM) && ((a.part == c.part) && true)))) else some false):Option Bool)=some (decide (l.getLast?=some c)):=by
 by_cases hl:l.length=0
 ·rw [decide_eq_false (by omega),cond_false]
  have:l=[]:=List.eq_nil_of_length_eq_zero hl
  subst this
  rfl
 ·have hlt:l.length - 1 < l.length:=by omega
  have e1:IntKind.i64.wrap ((l.length:Int) - 1)=((l.length - 1:Nat):Int):=by rw [w64 (by omega) (by omega)]; omega
  rw [decide_eq_true (by omega),cond_true,e1,bN _ _ hlt,aA,kb,List.getLast?_eq_getElem?,List.getElem?_eq_getElem hlt]
  simp
theorem yO (l:List aF) (c:aF) (h:l.length<=1000000):((bif (decide (((l.map tc).length:Int) > 0)) then (Option.bind (idx (l.map tc) (IntKind.i64.wrap (((l.map tc).length:Int) - 1))) λa=>some ((a.rune == c.rune) && ((a.aM == c.aM) && ((a.part == c.part) && true)))) else some false):Option Bool)=some (decide (l.getLast?=some c)):=by
 rw [dW]
 by_cases hl:l.length=0
 ·rw [decide_eq_false (by omega),cond_false]
  have:l=[]:=List.eq_nil_of_length_eq_zero hl
  subst this
  rfl
 ·have hlt:l.length - 1 < l.length:=by omega
  have e1:IntKind.i64.wrap ((l.length:Int) - 1)=((l.length - 1:Nat):Int):=by rw [w64 (by omega) (by omega)]; omega
  rw [decide_eq_true (by omega),cond_true,e1,bN _ _ (by simpa using hlt),aA,List.getElem_map]
  show some ((l[l.length - 1].rune == c.rune) && ((l[l.length - 1].aM == c.aM) && ((l[l.length - 1].part == c.part) && true)))=_
  rw [kb,List.getLast?_eq_getElem?,List.getElem?_eq_getElem hlt]
  simp
theorem ld (p:Prop) [Decidable p] (e:Int):((bif (decide p) then some (e == 0) else some false):Option Bool)=some (decide (p/\e=0)):=by
 by_cases h1:p
 ·by_cases h2:e=0
  ·have:(e == 0)=true:=by simpa using h2
   rw [decide_eq_true h1,cond_true,this,decide_eq_true ⟨h1,h2⟩]
  ·have:(e == 0)=false:=by simpa using h2
   rw [decide_eq_true h1,cond_true,this,decide_eq_false (λh=>h2 h.2)]
 ·rw [decide_eq_false h1,cond_false,decide_eq_false (λh=>h1 h.1)]
theorem sH: ∀ (k:Nat) (w:Int) (i:aI) (l:List aF),VI i->(l.length:Int)<=max w 0->((rrS k w i l).1.length:Int)<=max w 0/\VI (rrS k w i l).2:=by
 intro k
 induction k with
 | zero=>intro w i l h hl; exact ⟨hl,h⟩
 | succ k ih =>
  intro w i l h hl
  unfold rrS
  by_cases hc:(l.length:Int) < w/\i.e=0
  ·rw [if_pos hc]
   by_cases he:(il i (w - l.length)).2.e=0
   ·rw [if_pos he]
    obtain ⟨_,h1,h2,_⟩:=om h (by omega) he
    split
    ·exact ih w _ l mF hl
    ·exact ih w _ _ (jQ _ h) (by rw [List.length_append,List.length_replicate]; omega)
   ·rw [if_neg he]
    exact ih w _ l (jQ _ h) hl
  ·rw [if_neg hc]
   exact ⟨hl,h⟩
theorem xx (w:Int) (hw:w<=1000): ∀ (k:Nat) (i:aI) (l:List aF),VI i->(l.length:Int)<=max w 0->(if i.e=0 then (w - l.length).toNat+1 else 1)<=k ->
  iter (σ:=aI×(List aF)) (ρ:=(List aF)×aI) (λa=>(Option.bind ((bif (decide ((a.2.length:Int) < w)) then (Option.bind (cI a.1) λf=>some (f == 0)) else some false):Option Bool) λg=>(bif g then (Option.bind (jJ a.1 (IntKind.i64.wrap (w - (a.2.length:Int)))) λb=>(bif (!b.2.2.1) then some (.inl (b.2.2.2,a.2)) else (Option.bind ((bif (decide ((a.2.length:Int) > 0)) then (Option.bind (idx a.2 (IntKind.i64.wrap ((a.2.length:Int) - 1))) λc=>some ((c.rune == b.2.1.rune) && ((c.aM == b.2.1.aM) && ((c.part == b.2.1.part) && true)))) else some false):Option Bool) λj=>(bif j then (Option.bind (bB b.2.2.2 1) λm=>some (.inl (m,a.2))) else (Option.bind (cS [b.2.1] b.1) λd=>(Option.bind (chk (fu a.2.length d.length 24)) λ_=>some (.inl (b.2.2.2,(a.2++d))))))))) else some (.inr (a.2,a.1))))) (i,l)=some (rrS k w i l):=by
 intro k
 induction k with
 | zero=>intro i l h hl hk; split at hk <;> omega
 | succ k ih =>
  intro i l h hl hk
  unfold rrS
  by_cases hc:(l.length:Int) < w/\i.e=0
  ·rw [if_pos hc]
   rw [if_pos hc.2] at hk
   have hwr:IntKind.i64.wrap (w - (l.length:Int))=w - l.length:=w64 (by omega) (by omega)
   by_cases he:(il i (w - l.length)).2.e=0
   ·rw [if_pos he]
    obtain ⟨_,h1,h2,_⟩:=om h (by omega) he
    by_cases hlast:l.getLast?=some (fj i (w - l.length))
    ·rw [if_pos hlast,cM (s':=(iM,l))]
     ·exact ih iM l mF hl (by rw [if_neg (by decide)]; omega)
     ·dsimp only
      unfold cI
      rw [aA,ld,decide_eq_true hc,aA,cond_true,hwr,run_eq i _ h (by omega),if_pos he,aA]
      dsimp only
      rw [Bool.not_true,cond_false,wE _ _ (by omega),aA,decide_eq_true hlast,cond_true,py (jQ _ h),if_pos he,aA]
    ·rw [if_neg hlast,cM (s':=((il i (w - l.length)).2,l++List.replicate (bE i (w - l.length)).1.toNat (fj i (w - l.length))))]
     ·refine ih _ _ (jQ _ h) (by rw [List.length_append,List.length_replicate]; omega) ?_
      rw [if_pos he,List.length_append,List.length_replicate]
      omega
     ·dsimp only
      unfold cI
      rw [aA,ld,decide_eq_true hc,aA,cond_true,hwr,run_eq i _ h (by omega),if_pos he,aA]
      dsimp only
      rw [Bool.not_true,cond_false,wE _ _ (by omega),aA,decide_eq_false hlast,cond_false,rJ _ _ (by omega) (by omega),aA,cF (by rw [List.length_replicate]; omega),aA]
   ·rw [if_neg he,cM (s':=((il i (w - l.length)).2,l))]
    ·exact ih _ l (jQ _ h) hl (by rw [if_neg he]; omega)
    ·dsimp only
     unfold cI
     rw [aA,ld,decide_eq_true hc,aA,cond_true,hwr,run_eq i _ h (by omega),if_neg he,aA]
     dsimp only
     rw [Bool.not_false,cond_true]
  ·rw [if_neg hc]
   refine bM ?_
   dsimp only
   unfold cI
   rw [aA,ld,decide_eq_false hc,aA,cond_false]
def gv (i:aI) (w:Int):aE×aI :=
 if (rrS (w.toNat+1) w (bE i 1).2 []).2.e=0 then (⟨(rrS (w.toNat+1) w (bE i 1).2 []).1,decide ((bE i 1).1=1)⟩,(rrS (w.toNat+1) w (bE i 1).2 []).2)
 else (ng,(rrS (w.toNat+1) w (bE i 1).2 []).2)
theorem tW: ∀ (k:Nat) (w:Int) (i:aI) (l:List aF),(rrS k w i l).2.e=0->i.e=0:=by
 intro k
 induction k with
 | zero=>intro w i l h; exact h
 | succ k ih =>
  intro w i l h
  unfold rrS at h
  by_cases hc:(l.length:Int) < w/\i.e=0
  ·exact hc.2
  ·rw [if_neg hc] at h
   exact h
theorem vb (i:aI) (w:Int) (h:VI i) (hw:w<=1000):gL i w=some (gv i w):=by
 unfold gL
 rw [jA i h,aA]
 have hst:((bif (decide ((rdS i).1 > 1)) then (Option.bind (bB (rdS i).2 1) λa=>some a) else some (rdS i).2):Option aI)=some (bE i 1).2:=by
  unfold bE
  by_cases hb:(rdS i).1 > 1
  ·rw [decide_eq_true hb,cond_true,py (eX h),if_pos (oW h (by omega) hb),aA,if_pos hb]
  ·rw [decide_eq_false hb,cond_false,if_neg hb]
 rw [hst,aA]
 have hV:=eI 1 h
 rw [xx w hw (w.toNat+1) _ [] hV (by simp; omega) (by simp only [List.length_nil]; split <;> omega),aA]
 unfold cI gv
 rw [aA]
 by_cases he:(rrS (w.toNat+1) w (bE i 1).2 []).2.e=0
 ·have hb:((rrS (w.toNat+1) w (bE i 1).2 []).2.e != 0)=false:=by simpa using he
  rw [hb,cond_false,if_pos he]
  have h0:=tW _ _ _ _ he
  have hn:(rdS i).1=(bE i 1).1:=by
   unfold bE at *
   split
   ·rename_i hb2
    rw [if_pos hb2] at h0
    exact absurd h0 (by decide)
   ·rfl
  rw [hn]
  congr 3
 ·have hb:((rrS (w.toNat+1) w (bE i 1).2 []).2.e != 0)=true:=by simpa using he
  rw [hb,cond_true,if_neg he]
  rfl
theorem sI (p:Prop) [Decidable p] (e:Int):((bif (e == 0) then some (decide p) else some false):Option Bool)=some (decide (e=0/\p)):=by
 by_cases h2:e=0
 ·have:(e == 0)=true:=by simpa using h2
  rw [this,cond_true]
  by_cases h1:p
  ·rw [decide_eq_true h1,decide_eq_true ⟨h2,h1⟩]
  ·rw [decide_eq_false h1,decide_eq_false (λh=>h1 h.2)]
 ·have:(e == 0)=false:=by simpa using h2
  rw [this,cond_false,decide_eq_false (λh=>h2 h.1)]
theorem qw (e:Int) (n:Nat) (c:cP) (l:List cP) (hl:l.length+n<=1000000):iter (σ:=Int×(List cP)) (ρ:=(List cP)) (λa=>(Option.bind ((bif (decide (a.1 < (n:Int))) then some (e == 0) else some false):Option Bool) λb=>(bif b then (Option.bind (chk (fu a.2.length [c].length 24)) λ_=>some (.inl ((IntKind.i64.wrap (a.1+1)),(a.2++[c])))) else some (.inr a.2)))) (0,l)=some (if e=0 then l++List.replicate n c else l):=by
 by_cases he:e=0
 ·rw [if_pos he]
  have h:=mY (f:=λ(a:Int×(List cP))=>(Option.bind ((bif (decide (a.1 < (n:Int))) then some (e == 0) else some false):Option Bool) λb=>(bif b then (Option.bind (chk (fu a.2.length [c].length 24)) λ_=>some (.inl ((IntKind.i64.wrap (a.1+1)),(a.2++[c])))) else some (.inr a.2)))) (λk=>((k:Int),l++List.replicate k c)) n (l++List.replicate n c) ?_ ?_
  ·simpa using h
  ·intro k hk
   dsimp only
   rw [ld,decide_eq_true ⟨by omega,he⟩,aA,cond_true,cF (by simp; omega),aA,w64 (by omega) (by omega),List.append_assoc,<- List.replicate_succ']
   rfl
  ·dsimp only
   rw [ld,decide_eq_false (by omega),aA,cond_false]
 ·rw [if_neg he]
  refine bM ?_
  dsimp only
  rw [ld,decide_eq_false (λh=>he h.2),aA,cond_false]
theorem lH (i:aI):(asR i).e=i.e:=rfl
theorem vd (w:Int) (hw:w<=1000): ∀ (k:Nat) (i:aI) (l:List aF),VI i->(l.length:Int)<=max w 0->(if i.e=0 then (w - l.length).toNat+1 else 1)<=k ->
  iter (σ:=aQ×(List cP)) (ρ:=(List cP)×aQ) (λa=>(Option.bind ((bif (decide ((a.2.length:Int) < w)) then some (a.1.e == 0) else some false):Option Bool) λo=>(bif o then (Option.bind (cA a.1 (IntKind.i64.wrap (w - (a.2.length:Int)))) λd=>(Option.bind ((bif (d.1.e == 0) then some (d.2 == 0) else some false):Option Bool) λp=>(Option.bind ((bif p then some (aQ.mk (ByteArray.mk #[]) 1) else some d.1):Option aQ) λq=>(Option.bind (cA q 1114111) λf=>(Option.bind (cA f.1 647) λg=>(Option.bind (cA g.1 3) λb=>(Option.bind ((bif (b.1.e == 0) then (bif (decide ((a.2.length:Int) > 0)) then (Option.bind (idx a.2 (IntKind.i64.wrap ((a.2.length:Int) - 1))) λj=>some ((j.rune == f.2) && ((j.aM == g.2) && ((j.part == b.2) && true)))) else some false) else some false):Option Bool) λr=>(Option.bind ((bif r then some (aQ.mk (ByteArray.mk #[]) 1) else some b.1):Option aQ) λn=>(Option.bind (iter (σ:=Int×(List cP)) (ρ:=(List cP)) (λc=>(Option.bind ((bif (decide (c.1 < d.2)) then some (n.e == 0) else some false):Option Bool) λs=>(bif s then (Option.bind (chk (fu c.2.length [(cP.mk f.2 g.2 b.2)].length 24)) λ_=>some (.inl ((IntKind.i64.wrap (c.1+1)),(c.2++[(cP.mk f.2 g.2 b.2)])))) else some (.inr c.2)))) (0,a.2)) λt=>some (.inl (n,t))))))))))) else some (.inr (a.2,a.1))))) (asR i,l.map tc)=some ((rrS k w i l).1.map tc,asR (rrS k w i l).2):=by
 intro k
 induction k with
 | zero=>intro i l h hl hk; split at hk <;> omega
 | succ k ih =>
  intro i l h hl hk
  unfold rrS
  by_cases hc:(l.length:Int) < w/\i.e=0
  ·rw [if_pos hc]
   rw [if_pos hc.2] at hk
   have hwr:IntKind.i64.wrap (w - (l.length:Int))=w - l.length:=w64 (by omega) (by omega)
   have hL:0<=w - (l.length:Int):=by omega
   -- the document's steps
   have s1:((bif ((asR (bE i (w - l.length)).2).e == 0) then some ((bE i (w - l.length)).1 == 0) else some false):Option Bool)=some (decide ((bE i (w - l.length)).2.e=0/\(bE i (w - l.length)).1=0)):=by
    have:((bE i (w - l.length)).1 == 0)=decide ((bE i (w - l.length)).1=0):=by
     by_cases h0:(bE i (w - l.length)).1=0 <;> simp [h0]
    rw [this,lH,sI]
   have s2:((bif decide ((bE i (w - l.length)).2.e=0/\(bE i (w - l.length)).1=0) then some (aQ.mk (ByteArray.mk #[]) 1) else some (asR (bE i (w - l.length)).2)):Option aQ)=some (asR (kV i (w - l.length))):=by
    unfold kV
    by_cases h0:(bE i (w - l.length)).2.e=0/\(bE i (w - l.length)).1=0
    ·rw [decide_eq_true h0,cond_true,if_pos h0]
     rfl
    ·rw [decide_eq_false h0,cond_false,if_neg h0]
   have s3:cA (asR (kV i (w - l.length))) 1114111=some (asR (l0 i (w - l.length)).2,(l0 i (w - l.length)).1):=lZ (lb _ h) (by omega)
   have s4:cA (asR (l0 i (w - l.length)).2) 647=some (asR (mm i (w - l.length)).2,(mm i (w - l.length)).1):=lZ (l3 _ h) (by omega)
   have s5:cA (asR (mm i (w - l.length)).2) 3=some (asR (il i (w - l.length)).2,(il i (w - l.length)).1):=lZ (l4 _ h) (by omega)
   have hnat: ∃ N:Nat,(bE i (w - l.length)).1=(N:Int)/\N<=1000:=by
    have:=fN (i:=i) (m:=w - l.length) h hL
    exact ⟨(bE i (w - l.length)).1.toNat,by omega,by omega⟩
   obtain ⟨N,hN,hN2⟩:=hnat
   have hlast:=yO l (fj i (w - l.length)) (by omega)
   by_cases he:(il i (w - l.length)).2.e=0
   ·rw [if_pos he]
    obtain ⟨_,h1,h2,_⟩:=om h (by omega) he
    have he':((asR (il i (w - l.length)).2).e == 0)=true:=by simpa [asR] using he
    by_cases hlst:l.getLast?=some (fj i (w - l.length))
    ·rw [if_pos hlst,cM (s':=(asR iM,l.map tc))]
     ·exact ih iM l mF hl (by rw [if_neg (by decide)]; omega)
     ·dsimp only
      rw [dW,ld,decide_eq_true (show (l.length:Int) < w/\(asR i).e=0 from hc),aA,cond_true,hwr,lZ h hL,aA]
      dsimp only
      rw [s1,aA,s2,aA,s3,aA,s4,aA,s5,aA]
      dsimp only
      rw [he',cond_true]
      rw [dW] at hlast
      unfold fj at hlast hlst
      rw [hlast,aA,decide_eq_true hlst,cond_true,aA,hN]
      dsimp only
      rw [qw 1 N _ _ (by rw [dW]; omega),if_neg (by decide),aA]
      rfl
    ·rw [if_neg hlst,cM (s':=(asR (il i (w - l.length)).2,(l++List.replicate (bE i (w - l.length)).1.toNat (fj i (w - l.length))).map tc))]
     ·refine ih _ _ (jQ _ h) (by rw [List.length_append,List.length_replicate]; omega) ?_
      rw [if_pos he,List.length_append,List.length_replicate]
      omega
     ·dsimp only
      rw [dW,ld,decide_eq_true (show (l.length:Int) < w/\(asR i).e=0 from hc),aA,cond_true,hwr,lZ h hL,aA]
      dsimp only
      rw [s1,aA,s2,aA,s3,aA,s4,aA,s5,aA]
      dsimp only
      rw [he',cond_true]
      rw [dW] at hlast
      have hlst':=hlst
      unfold fj at hlast hlst'
      rw [hlast,aA,decide_eq_false hlst',cond_false,aA,hN]
      rw [qw _ N _ _ (by rw [dW]; omega),if_pos (show (asR (il i (w - l.length)).2).e=0 from he),aA]
      rw [List.map_append,List.map_replicate,Int.toNat_natCast]
      rfl
   ·rw [if_neg he,cM (s':=(asR (il i (w - l.length)).2,l.map tc))]
    ·exact ih _ l (jQ _ h) hl (by rw [if_neg he]; omega)
    ·have he':((asR (il i (w - l.length)).2).e == 0)=false:=by simpa [asR] using he
     dsimp only
     rw [dW,ld,decide_eq_true (show (l.length:Int) < w/\(asR i).e=0 from hc),aA,cond_true,hwr,lZ h hL,aA]
     dsimp only
     rw [s1,aA,s2,aA,s3,aA,s4,aA,s5,aA]
     dsimp only
     rw [he',cond_false,aA,cond_false,aA,hN]
     rw [qw _ N _ _ (by rw [dW]; omega),if_neg (show ¬ (asR (il i (w - l.length)).2).e=0 from he),aA]
  ·rw [if_neg hc]
   refine bM ?_
   dsimp only
   rw [dW,ld,decide_eq_false (show ¬ ((l.length:Int) < w/\(asR i).e=0) from hc),aA,cond_false]
theorem pA (i:aI) (w:Int) (h:VI i) (hw:w<=1000):fY (asR i) w=some (asR (gv i w).2,told (gv i w).1):=by
 unfold fY
 rw [lZ h (by omega),aA]
 have hV:=eI 1 h
 have hl:=vd w hw (w.toNat+1) _ [] hV (by simp; omega) (by simp only [List.length_nil]; split <;> omega)
 rw [List.map_nil] at hl
 dsimp only
 rw [hl,aA]
 unfold gv
 dsimp only
 by_cases he:(rrS (w.toNat+1) w (bE i 1).2 []).2.e=0
 ·have hb:((asR (rrS (w.toNat+1) w (bE i 1).2 []).2).e != 0)=false:=by simpa [asR] using he
  rw [hb,cond_false,if_pos he]
  have:((bE i 1).1 == 1)=decide ((bE i 1).1=1):=by by_cases h0:(bE i 1).1=1 <;> simp [h0]
  rw [this]
  rfl
 ·have hb:((asR (rrS (w.toNat+1) w (bE i 1).2 []).2).e != 0)=true:=by simpa [asR] using he
  rw [hb,cond_true,if_neg he]
  rfl
def eV:List aF->List (Nat×aF)
 | []=>[]
 | c::r=>match eV r with
  | (n,d)::t=>if c=d then (n+1,d)::t else (1,c)::(n,d)::t
  | []=>[(1,c)]
def dX (p:Nat×aF):List Int:=[(p.1:Int),p.2.rune,p.2.aM,p.2.part].flatMap bK
def cV (r:aE):List Int:=bK (if r.wrapped then 1 else 0)++(eV r.cells).flatMap dX
theorem nI (c:aF) (r:List aF): ∃ n t,eV (c::r)=(n+1,c)::t:=by
 unfold eV
 split
 ·rename_i n d t h
  split
  ·rename_i e
   exact ⟨n,t,by rw [e]⟩
  ·exact ⟨0,_,rfl⟩
 ·exact ⟨0,[],rfl⟩
theorem rL: ∀ l:List aF,(eV l).length<=l.length
 | []=>Nat.le_refl _
 | c::r=>by
  have ih:=rL r
  unfold eV
  split
  ·rename_i n d t h
   rw [h] at ih
   split <;> (simp at ih ⊢; omega)
  ·simp
theorem nJ (p:Nat×aF):(dX p).length<=36:=by
 unfold dX
 simp only [List.flatMap_cons,List.flatMap_nil,List.length_append,List.length_nil]
 have h1:=bL (p.1:Int)
 have h2:=bL p.2.rune
 have h3:=bL p.2.aM
 have h4:=bL p.2.part
 omega
theorem tX (t:List (Nat×aF)):(t.flatMap dX).length<=36*t.length:=by
 induction t with
 | nil=>simp
 | cons a t ih =>
  rw [List.flatMap_cons,List.length_append,List.length_cons]
  have:=nJ a
  omega
def more (c:aF):List aF->Nat
 | []=>0
 | d::r=>if d=c then more c r+1 else 0
theorem sJ (c:aF): ∀ l,more c l<=l.length
 | []=>Nat.le_refl _
 | d::r=>by
  have:=sJ c r
  unfold more
  split <;> simp <;> omega
theorem nK (c:aF): ∀ r:List aF,eV (c::r)=(more c r+1,c)::eV (r.drop (more c r))
 | []=>rfl
 | d::r=>by
  have ih:=nK d r
  have hu:eV (c::d::r)=(match eV (d::r) with
   | (n,e)::t=>if c=e then (n+1,e)::t else (1,c)::(n,e)::t
   | []=>[(1,c)]):=rfl
  rw [hu,ih]
  try dsimp only
  by_cases h:c=d
  ·subst h
   rw [if_pos rfl]
   have hm:more c (c::r)=more c r+1:=by
    show (if c=c then more c r+1 else 0)=_
    rw [if_pos rfl]
   rw [hm,List.drop_succ_cons]
  ·rw [if_neg h]
   have hm:more c (d::r)=0:=by
    show (if d=c then more c r+1 else 0)=_
    rw [if_neg (λe=>h e.symm)]
   rw [hm,List.drop_zero,ih]
theorem tY (c:aF): ∀ (l:List aF) (k:Nat),k < more c l->l[k]?=some c
 | [],k,h=>by simp [more] at h
 | d::r,k,h=>by
  unfold more at h
  split at h
  ·rename_i e
   cases k with
   | zero=>rw [e]; rfl
   | succ k=>exact tY c r k (by omega)
  ·omega
theorem oX (c:aF): ∀ (l:List aF),more c l < l.length->l[more c l]?≠some c
 | [],h=>by simp at h
 | d::r,h=>by
  have hu:more c (d::r)=if d=c then more c r+1 else 0:=rfl
  rw [hu] at h ⊢
  by_cases e:d=c
  ·rw [if_pos e] at h ⊢
   exact oX c r (by simpa using h)
  ·rw [if_neg e]
   simpa using e
theorem AP: ∀ (m:Nat) (l:List aF) (b:List Int),l.length<=m->b.length+36*l.length<=9000000->okR l -> ∃ q,iter (σ:=(List aF)×bJ) (ρ:=((List aF)×bJ) ⊕ (bJ×(List aF))) (λa=>(bif (decide ((a.1.length:Int) > 0)) then (Option.bind (iter (σ:=Int) (ρ:=Int) (λf=>(Option.bind ((bif (decide (f < (a.1.length:Int))) then (Option.bind (idx a.1 f) λg=>(Option.bind (idx a.1 0) λh=>some ((g.rune == h.rune) && ((g.aM == h.aM) && ((g.part == h.part) && true))))) else some false):Option Bool) λj=>(bif j then some (.inl (IntKind.i64.wrap (f+1))) else some (.inr f)))) 1) λi=>(Option.bind (idx a.1 0) λn=>(Option.bind ((λ(s51:bJ) (x21:Int×aF)=>(Option.bind (cB s51 [x21.1,(IntKind.i64.wrap x21.2.rune),x21.2.aM,x21.2.part]) λo=>some (o,true))) a.2 (i,n)) λz1399=>(bif (!z1399.2) then (eJ (some (z1399.1,a.1))) else (Option.bind (chk (fE i (a.1.length:Int) a.1.length)) λ_=>some (.inl ((cut a.1 i (a.1.length:Int)),z1399.1))))))) else some (.inr (.inl (a.1,a.2))))) (l,⟨b⟩)=some (.inl (q,⟨b++(eV l).flatMap dX⟩)):=by
 intro m
 induction m with
 | zero =>
  intro l b hl hb hok
  have:l=[]:=List.eq_nil_of_length_eq_zero (by omega)
  subst this
  refine ⟨[],?_⟩
  refine bM ?_
  try dsimp only
  rw [decide_eq_false (by simp),cond_false]
  simp [eV]
 | succ m ih =>
  intro l b hl hb hok
  cases l with
  | nil =>
   refine ⟨[],?_⟩
   refine bM ?_
   try dsimp only
   rw [decide_eq_false (by simp),cond_false]
   simp [eV]
  | cons c r =>
   have hmr:=sJ c r
   have hcok:rok c.rune:=hok c (List.mem_cons_self ..)
   simp only [List.length_cons] at hl hb
   have hon:=jy b [((more c r+1:Nat):Int),c.rune,c.aM,c.part] (by first | (simp; omega) | simp)
   have hd:(r.drop (more c r)).length<=m:=by rw [List.length_drop]; omega
   have hel:=nJ (more c r+1,c)
   obtain ⟨q,hq⟩:=ih (r.drop (more c r)) (b++dX (more c r+1,c)) hd (by rw [List.length_append,List.length_drop]; omega) (yF (λd hd'=>hok d (List.mem_cons_of_mem _ hd')) _)
   refine ⟨q,?_⟩
   rw [cM (s':=(r.drop (more c r),(⟨b++dX (more c r+1,c)⟩:bJ)))]
   ·rw [hq,nK,List.flatMap_cons,List.append_assoc]
   ·try dsimp only
    rw [decide_eq_true (by first | (simp; omega) | simp),cond_true]
    refine fw (λk=>((k+1:Nat):Int)) (more c r) ((more c r+1:Nat):Int) rfl ?_ ?_ ?_
    ·intro k hk
     have hg:=tY c r k hk
     have hgi:idx (c::r) ((k+1:Nat):Int)=some c:=by rw [oa,List.getElem?_cons_succ,hg]
     have hg0:idx (c::r) 0=some c:=rfl
     try dsimp only
     rw [decide_eq_true (by first | (simp; omega) | simp),cond_true,hgi,aA,hg0,aA,kb,decide_eq_true rfl,aA,cond_true,w64 (by omega) (by omega)]
     rfl
    ·try dsimp only
     by_cases hlt:more c r < r.length
     ·have hs:=oX c r hlt
      have hgi:idx (c::r) ((more c r+1:Nat):Int)=some r[more c r]:=by rw [oa,List.getElem?_cons_succ,List.getElem?_eq_getElem hlt]
      have hg0:idx (c::r) 0=some c:=rfl
      have hne: ¬ r[more c r]=c:=λe=>hs (by rw [List.getElem?_eq_getElem hlt,e])
      rw [decide_eq_true (by first | (simp; omega) | simp),cond_true,hgi,aA,hg0,aA,kb,decide_eq_false hne,aA,cond_false]
     ·rw [decide_eq_false (by first | (simp; omega) | simp),cond_false,aA,cond_false]
    ·have hg0:idx (c::r) 0=some c:=rfl
     have hce:dX (more c r+1,c)=[((more c r+1:Nat):Int),c.rune,c.aM,c.part].flatMap bK:=rfl
     rw [hg0,aA,w32 hcok,hon,aA,aA]
     try dsimp only
     rw [Bool.not_true,cond_false,dI (by omega) (by first | (simp; omega) | simp) (by simp),aA,wC,List.take_length,List.drop_succ_cons,hce]
theorem qy (r:aE) (h:r.cells.length<=1000) (hok:okR r.cells):fO r=some (cO (cV r)):=by
 unfold fO lX k7 jP eU
 have BH:((bif r.wrapped then some 1 else some 0):Option Int)=some (if r.wrapped then 1 else 0):=by cases r.wrapped <;> rfl
 rw [BH,aA,jy [] _ (by simp),aA,aA]
 have hb:=bL (if r.wrapped then 1 else 0)
 obtain ⟨q,hq⟩:=AP r.cells.length r.cells (bK (if r.wrapped then 1 else 0)) (Nat.le_refl _) (by omega) hok
 have e0:([]++[(if r.wrapped then (1:Int) else 0)].flatMap bK)=bK (if r.wrapped then 1 else 0):=by simp
 rw [e0,hq,aA,aA,aA]
 rfl
def xy (n:Nat):List (Nat×aF)->List (Nat×aF)
 | []=>[]
 | (m,c)::t=>(m+n,c)::t
theorem rM (l:List (Nat×aF)):xy 0 l=l:=by
 cases l with
 | nil=>rfl
 | cons a t=>rfl
theorem tZ (r:aE) (h:r.cells.length<=1000):gY (told r)=some (cO (cV r)):=by
 unfold gY
 have BH:((bif (told r).wrapped then some (ByteArray.mk #[1]) else some (ByteArray.mk #[0])):Option ByteArray)=some (cO (bK (if r.wrapped then 1 else 0))):=by
  show ((bif r.wrapped then some (ByteArray.mk #[1]) else some (ByteArray.mk #[0])):Option ByteArray)=_
  have h0:bK 0=[0]:=by
   show fQ 0=_
   rw [dQ (by omega)]
   rfl
  have h1:bK 1=[1]:=by
   show fQ 1=_
   rw [dQ (by omega)]
   rfl
  cases r.wrapped
  ·show some (ByteArray.mk #[0])=some (cO (bK 0))
   rw [h0,k9]
   rfl
  ·show some (ByteArray.mk #[1])=some (cO (bK 1))
   rw [h1,k9]
   rfl
 rw [BH,aA]
 show Option.bind (iter _ (0,cO (bK (if r.wrapped then 1 else 0)),0)) _=_
 have hb0:=bL (if r.wrapped then 1 else 0)
 unfold cV
 generalize bK (if r.wrapped then 1 else 0)=b0 at hb0
 have htl:(told r).l=r.cells.map tc:=rfl
 rw [htl,dW]
 have key: ∀ (s:List aF) (p:List aF) (b:List Int) (n:Nat) (f:Int×ByteArray×Int->Option ((Int×ByteArray×Int) ⊕ ByteArray)),f=(λ(s776:Int×ByteArray×Int)=>(bif (decide (s776.1 < (r.cells.length:Int))) then (Option.bind ((Option.bind (idx (r.cells.map tc) s776.1) λg=>(Option.bind ((bif (decide ((IntKind.i64.wrap (s776.1+1)) < (r.cells.length:Int))) then (Option.bind (idx (r.cells.map tc) (IntKind.i64.wrap (s776.1+1))) λa=>some ((a.rune == g.rune) && ((a.aM == g.aM) && ((a.part == g.part) && true)))) else some false):Option Bool) λu=>(bif u then some (s776.2.1,(IntKind.i64.wrap (s776.2.2+1))) else (Option.bind (bT (IntKind.i64.wrap (s776.2.2+1))) λi=>(Option.bind (bT g.rune) λj=>(Option.bind (chk (kz i.size j.size)) λ_=>(Option.bind (bT g.aM) λk=>(Option.bind (chk (kz (i++j).size k.size)) λ_=>(Option.bind (bT g.part) λo=>(Option.bind (chk (kz ((i++j)++k).size o.size)) λ_=>(Option.bind (chk (kz s776.2.1.size (((i++j)++k)++o).size)) λ_=>some ((s776.2.1++(((i++j)++k)++o)),0)))))))))))):Option (ByteArray×Int)) λq=>some (.inl ((IntKind.i64.wrap (s776.1+1)),q.1,q.2))) else some (.inr s776.2.1)))->p++s=r.cells->n<=p.length->b.length+36*s.length<=1000000->(s=[]->n=0)->iter f ((p.length:Int),cO b,(n:Int))=some (cO (b++(xy n (eV s)).flatMap dX)):=by
  intro s
  induction s with
  | nil =>
   intro p b n f hf hp hn hb h0
   have hpl:p.length=r.cells.length:=by rw [<- hp]; simp
   rw [bM (r:=cO b)]
   ·simp [eV,xy]
   ·subst hf
    dsimp only
    rw [decide_eq_false (by omega),cond_false]
  | cons c s ih =>
   intro p b n f hf hp hn hb h0
   have hpl:r.cells.length=p.length+s.length+1:=by rw [<- hp]; simp; omega
   simp only [List.length_cons] at hb
   have hx:idx (r.cells.map tc) (p.length:Int)=some (tc c):=by
    rw [<- hp,List.map_append,List.map_cons,<- dW p]
    exact mU _ _ _
   have hn1:IntKind.i64.wrap ((p.length:Int)+1)=((p.length+1:Nat):Int):=by rw [w64 (by omega) (by omega)]; omega
   have hn2:IntKind.i64.wrap ((n:Int)+1)=((n+1:Nat):Int):=by rw [w64 (by omega) (by omega)]; omega
   have hp1:p++[c]++s=r.cells:=by rw [<- hp]; simp
   have hlen1:((p++[c]).length:Int)=((p.length+1:Nat):Int):=by simp
   -- the cell behind
   have hnext:((bif (decide (((p.length+1:Nat):Int) < (r.cells.length:Int))) then (Option.bind (idx (r.cells.map tc) ((p.length+1:Nat):Int)) λa=>some ((a.rune == (tc c).rune) && ((a.aM == (tc c).aM) && ((a.part == (tc c).part) && true)))) else some false):Option Bool)=some (decide (s.head?=some c)):=by
    cases s with
    | nil =>
     rw [decide_eq_false (by simp at hpl ⊢; omega),cond_false]
     rfl
    | cons d s' =>
     have hx2:idx (r.cells.map tc) ((p.length+1:Nat):Int)=some (tc d):=by
      rw [<- hp,List.map_append,List.map_cons,List.map_cons,oa,List.getElem?_append_right (by simp)]
      simp
     rw [decide_eq_true (by simp at hpl ⊢; omega),cond_true,hx2,aA]
     show some ((d.rune == c.rune) && ((d.aM == c.aM) && ((d.part == c.part) && true)))=_
     rw [kb]
     simp
   by_cases hc:s.head?=some c
   ·rw [cM (s':=(((p++[c]).length:Int),cO b,((n+1:Nat):Int)))]
    ·rw [ih (p++[c]) b (n+1) f hf hp1 (by simp; omega) (by omega) (λe=>by rw [e] at hc; cases hc)]
     cases s with
     | nil=>cases hc
     | cons d s' =>
      obtain rfl:d=c:=by simpa using hc
      obtain ⟨m,t,hm⟩:=nI d s'
      have hu:eV (d::d::s')=(m+1+1,d)::t:=by
       show (match eV (d::s') with
        | (n,e)::t=>if d=e then (n+1,e)::t else (1,d)::(n,e)::t
        | []=>[(1,d)])=_
       rw [hm]
       dsimp only
       rw [if_pos rfl]
      have ha:xy (n+1) ((m+1,d)::t)=xy n ((m+1+1,d)::t):=by
       show (m+1+(n+1),d)::t=(m+1+1+n,d)::t
       congr 2
       omega
      rw [hu,hm,ha]
    ·subst hf
     dsimp only
     rw [decide_eq_true (by omega),cond_true,hx,aA,hn1,hnext,aA,decide_eq_true hc,cond_true,hn2,aA,hlen1]
   ·have e1:=bL ((n+1:Nat):Int)
    have e2:=bL c.rune
    have e3:=bL c.aM
    have e4:=bL c.part
    rw [cM (s':=(((p++[c]).length:Int),cO (b++dX (n+1,c)),((0:Nat):Int)))]
    ·have hel:=nJ (n+1,c)
     rw [ih (p++[c]) (b++dX (n+1,c)) 0 f hf hp1 (by omega) (by rw [List.length_append]; omega) (λ_=>rfl),rM]
     have hu:eV (c::s)=(1,c)::eV s:=by
      cases s with
      | nil=>rfl
      | cons d s' =>
       have hne: ¬ c=d:=λe=>hc (by rw [e]; rfl)
       obtain ⟨m,t,hm⟩:=nI d s'
       show (match eV (d::s') with
        | (n,e)::t=>if c=e then (n+1,e)::t else (1,c)::(n,e)::t
        | []=>[(1,c)])=_
       rw [hm]
       dsimp only
       rw [if_neg hne]
     have ha:xy n ((1,c)::eV s)=(n+1,c)::eV s:=by
      show (1+n,c)::eV s=_
      rw [Nat.add_comm 1 n]
     rw [hu,ha,List.flatMap_cons,List.append_assoc]
    ·subst hf
     have hE:dX (n+1,c)=bK ((n+1:Nat):Int)++bK c.rune++bK c.aM++bK c.part:=by
      unfold dX
      simp
     dsimp only
     rw [decide_eq_true (by omega),cond_true,hx,aA,hn1,hnext,aA,decide_eq_false hc,cond_false,hn2,jz,aA]
     show Option.bind (Option.bind (bT c.rune) _) _=_
     rw [jz,aA,fg (by rw [bO,bO]; omega),aA]
     show Option.bind (Option.bind (bT c.aM) _) _=_
     rw [jz,aA,<- dN,fg (by rw [bO,bO,List.length_append]; omega),aA]
     show Option.bind (Option.bind (bT c.part) _) _=_
     rw [jz,aA,<- dN,fg (by rw [bO,bO,List.length_append,List.length_append]; omega),aA,<- dN,fg (by rw [bO,bO,List.length_append,List.length_append,List.length_append]; omega),aA,aA,<- dN,hlen1,hE]
     rfl
 have hk:=key r.cells [] b0 0 _ rfl rfl (by omega) (by omega) (λ_=>rfl)
 rw [rM] at hk
 exact (congrArg (λx=>Option.bind x λv=>some v) hk).trans rfl
theorem AQ {w:Nat} (h:w<=most):clN (w:Int)=w:=by unfold clN; unfold most at h; omega
theorem iz {w:Nat} (h:w<=most):bK (w:Int)=fQ w:=by unfold bK; rw [AQ h]
theorem nL (c:aF) (n:Nat): ∀ l:List aF,l.getLast?≠some c->eV (l++List.replicate (n+1) c)=eV l++[(n+1,c)]
 | [],_=>by
  rw [List.nil_append]
  induction n with
  | zero=>rfl
  | succ n ih =>
   rw [List.replicate_succ]
   show (match eV (List.replicate (n+1) c) with
    | (m,e)::t=>if c=e then (m+1,e)::t else (1,c)::(m,e)::t
    | []=>[(1,c)])=_
   rw [ih]
   show (if c=c then [(n+1+1,c)] else _)=_
   rw [if_pos rfl]
   rfl
 | x::r,h=>by
  cases r with
  | nil =>
   have hx: ¬ x=c:=λe=>h (by rw [e]; rfl)
   have ih:=nL c n [] (by simp)
   show (match eV ([]++List.replicate (n+1) c) with
    | (m,e)::t=>if x=e then (m+1,e)::t else (1,x)::(m,e)::t
    | []=>[(1,x)])=_
   rw [ih]
   show (if x=c then _ else (1,x)::(n+1,c)::[])=_
   rw [if_neg hx]
   rfl
  | cons y s =>
   have ih:=nL c n (y::s) (by simpa using h)
   show (match eV ((y::s)++List.replicate (n+1) c) with
    | (m,e)::t=>if x=e then (m+1,e)::t else (1,x)::(m,e)::t
    | []=>[(1,x)])=(match eV (y::s) with
    | (m,e)::t=>if x=e then (m+1,e)::t else (1,x)::(m,e)::t
    | []=>[(1,x)])++[(n+1,c)]
   rw [ih]
   obtain ⟨m,t,hm⟩:=nI y s
   rw [hm]
   show (if x=y then _ else _)=(if x=y then _ else _)++_
   split <;> rfl
theorem rN {i:aI} {left:Int} (h:VI i) (hl:0<=left) (he:(il i left).2.e=0):sbs i.s=dX ((bE i left).1.toNat,fj i left)++sbs (il i left).2.s/\0<=(fj i left).rune/\(fj i left).rune<=1114111:=by
 obtain ⟨_,h1,h2,h3,h4⟩:=om h hl he
 obtain ⟨eB,c3,q3,_,m3,b3⟩:=iF (i:=(mm i left).2) (m:=3) he (l4 left h)
 obtain ⟨eA,c2,q2,_,m2,b2⟩:=iF (i:=(l0 i left).2) (m:=647) eB (l3 left h)
 obtain ⟨e0,c1,q1,l1,m1,b1⟩:=iF (i:=kV i left) (m:=1114111) eA (lb left h)
 obtain ⟨_,c0,q0,_,m0,b0⟩:=iF (i:=i) (m:=left) h3 h
 have qa:(fj i left).rune=(c1:Int):=q1
 have qb:(fj i left).aM=(c2:Int):=q2
 have qc:(fj i left).part=(c3:Int):=q3
 refine ⟨?_,by omega,by omega⟩
 have hE:dX ((bE i left).1.toNat,fj i left)=fQ c0++fQ c1++fQ c2++fQ c3:=by
  unfold dX
  dsimp only
  rw [qa,qb,qc,q0,Int.toNat_natCast]
  simp only [List.flatMap_cons,List.flatMap_nil,List.append_nil,iz m0,iz m1,iz m2,iz m3,List.append_assoc]
 have b1':sbs (bE i left).2.s=fQ c1++sbs (l0 i left).2.s:=by rw [<- h4]; exact b1
 have b2':sbs (l0 i left).2.s=fQ c2++sbs (mm i left).2.s:=b2
 have b3':sbs (mm i left).2.s=fQ c3++sbs (il i left).2.s:=b3
 rw [hE,b0,b1',b2',b3']
 simp only [List.append_assoc]
theorem xz: ∀ (k:Nat) (w:Int) (i:aI) (l:List aF),VI i->okR l->(rrS k w i l).2.e=0 -> ∃ D,(eV (rrS k w i l).1).flatMap dX=(eV l).flatMap dX++D/\sbs i.s=D++sbs (rrS k w i l).2.s/\okR (rrS k w i l).1:=by
 intro k
 induction k with
 | zero=>intro w i l h hok he; exact ⟨[],by simp [rrS],by simp [rrS],hok⟩
 | succ k ih =>
  intro w i l h hok he
  unfold rrS at he ⊢
  by_cases hc:(l.length:Int) < w/\i.e=0
  ·rw [if_pos hc] at he ⊢
   by_cases h2:(il i (w - l.length)).2.e=0
   ·rw [if_pos h2] at he ⊢
    by_cases h3:l.getLast?=some (fj i (w - l.length))
    ·rw [if_pos h3] at he
     exact absurd (tW _ _ _ _ he) (by decide)
    ·rw [if_neg h3] at he ⊢
     obtain ⟨b1,b2,b3⟩:=rN h (by omega) h2
     obtain ⟨_,p1,_⟩:=om h (by omega) h2
     obtain ⟨n,hn⟩: ∃ n,(bE i (w - l.length)).1.toNat=n+1:=⟨(bE i (w - l.length)).1.toNat - 1,by omega⟩
     rw [hn] at he b1 ⊢
     obtain ⟨D,d1,d2,d3⟩:=ih w _ _ (jQ _ h) (wB hok (λc hc=>by rw [List.eq_of_mem_replicate hc]; unfold rok; omega)) he
     refine ⟨dX (n+1,fj i (w - l.length))++D,?_,?_,d3⟩
     ·rw [d1,nL _ _ _ h3,List.flatMap_append,List.flatMap_singleton,List.append_assoc]
     ·rw [b1,d2,List.append_assoc]
   ·rw [if_neg h2] at he
    exact absurd (tW _ _ _ _ he) h2
  ·rw [if_neg hc] at he ⊢
   exact ⟨[],by simp,by simp,hok⟩
theorem ve {i:aI} {w:Int} (h:VI i) (he:(gv i w).2.e=0):sbs i.s=cV (gv i w).1++sbs (gv i w).2.s:=by
 unfold gv at *
 by_cases h0:(rrS (w.toNat+1) w (bE i 1).2 []).2.e=0
 ·rw [if_pos h0]
  obtain ⟨D,d1,d2,_⟩:=xz _ w _ [] (eI 1 h) (λc hc=>by cases hc) h0
  obtain ⟨_,c,q,hc,hm,hb⟩:=iF (i:=i) (m:=1) (tW _ _ _ _ h0) h
  unfold cV
  dsimp only
  rw [d1,hb,d2,q]
  have:(if decide ((c:Int)=1)=true then (1:Int) else 0)=(c:Int):=by
   by_cases hc1:(c:Int)=1
   ·simp [hc1]
   ·rw [decide_eq_false hc1]
    simp
    omega
  rw [this,iz hm]
  simp [eV]
 ·rw [if_neg h0] at he
  exact absurd he h0
theorem oo {i:aI} {w:Int} (h:VI i):VI (gv i w).2:=by
 unfold gv
 split
 ·exact (sH _ w _ [] (eI 1 h) (by simp; omega)).2
 ·exact (sH _ w _ [] (eI 1 h) (by simp; omega)).2
theorem CI: ∀ (k:Nat) (w:Int) (i:aI) (l:List aF),VI i->okR l->okR (rrS k w i l).1:=by
 intro k
 induction k with
 | zero=>intro w i l h hok; exact hok
 | succ k ih =>
  intro w i l h hok
  unfold rrS
  by_cases hc:(l.length:Int) < w/\i.e=0
  ·rw [if_pos hc]
   by_cases h2:(il i (w - l.length)).2.e=0
   ·rw [if_pos h2]
    obtain ⟨b1,b2,b3⟩:=rN h (by omega) h2
    split
    ·exact ih w _ l mF hok
    ·exact ih w _ _ (jQ _ h) (wB hok (λc hc=>by rw [List.eq_of_mem_replicate hc]; unfold rok; omega))
   ·rw [if_neg h2]
    exact ih w _ l (jQ _ h) hok
  ·rw [if_neg hc]
   exact hok
theorem AR {i:aI} {w:Int} (h:VI i) (hw:w<=1000):okR (gv i w).1.cells/\(gv i w).1.cells.length<=1000:=by
 unfold gv
 split
 ·refine ⟨CI _ w _ [] (eI 1 h) (λc hc=>by cases hc),?_⟩
  have:=(sH (w.toNat+1) w _ [] (eI 1 h) (by simp; omega)).1
  show (rrS (w.toNat+1) w (bE i 1).2 []).1.length<=1000
  omega
 ·exact ⟨λc hc=>(by cases hc),Nat.zero_le _⟩
theorem re (a b:Bool):((bif a then some b else some false):Option Bool)=some (a && b):=by cases a <;> rfl
theorem bor (a b:Bool):((bif a then some true else some b):Option Bool)=some (a || b):=by cases a <;> rfl
def okG (r s:Int):Bool:=(decide (r>=0) && decide (r<=1114111)) && (decide (s>=0) && decide (s<=647))
def okC (c:aF):Bool:=okG c.rune c.aM && (decide (c.part>=0) && decide (c.part<=3))
def dR (s:aC):Bool:=(s.k == 0) && ((s.w == 0) && ((s.h == 0) && ((s.x == 0) && ((s.y == 0) && ((s.title.toList == (ByteArray.mk #[]).toList) && (((s.rows.length:Int) == 0) && ((s.len == 0) && ((s.chain == 0) && ((s.begun.length:Int) == 0)))))))))
def wi (n lo hi:Int):Bool:=decide (n>=lo) && decide (n<=hi)
def jL (s:aC):Bool:=wi s.k 1 1152921504606846976 && (wi s.w 1 1000 && (wi s.h 1 1000 && (wi s.x 0 (s.w - 1) && (wi s.y 0 (s.h - 1) && (((s.rows.length:Int) == s.h) && (decide ((s.title.size:Int)<=200) && (wi s.len 0 1152921504606846976 && (wi s.chain 0 281474976710656 && decide ((s.begun.length:Int)<=1024)))))))))
def kH (w:Int) (r:aE):Bool:=((r.cells.length:Int) == w) && r.cells.all okC
def ie (s:aC):Bool:=dR s || (jL s && ((s.begun.all λg=>okG g.rune g.aM) && s.rows.all (kH s.w)))
theorem empty_eq (s:aC):eP s=some (dR s):=by
 unfold eP dR
 simp only [re,aA]
theorem nM (n lo hi:Int):cW n lo hi=some (wi n lo hi):=by
 unfold cW wi
 rw [re,aA]
structure SW (s:aC):Prop where
 w1: -9223372036854775808<=s.w/\s.w<=9223372036854775807
 h1: -9223372036854775808<=s.h/\s.h<=9223372036854775807
 gl: ∀ g∈s.begun,rok g.rune
 ro: ∀ r∈s.rows,okR r.cells/\r.cells.length<=1000
 rl:s.rows.length<=1000
 bl:s.begun.length<=2000
 tl:s.title.size<=6000
theorem yP (s:aC) (h:SW s):gm s=some (jL s):=by
 unfold gm jL
 simp only [nM,aA]
 by_cases hw:s.w>=1
 ·have e1:IntKind.i64.wrap (s.w - 1)=s.w - 1:=w64 (by omega) (by have:=h.w1; omega)
  by_cases hh:s.h>=1
  ·have e2:IntKind.i64.wrap (s.h - 1)=s.h - 1:=w64 (by omega) (by have:=h.h1; omega)
   simp only [e1,e2,re,aA]
  ·have e2:wi s.h 1 1000=false:=by unfold wi; rw [decide_eq_false hh]; rfl
   simp only [e2,e1,cond_false,re,Bool.false_and,Bool.and_false,aA]
 ·have e2:wi s.w 1 1000=false:=by unfold wi; rw [decide_eq_false hw]; rfl
  simp only [e2,cond_false,re,Bool.false_and,Bool.and_false,aA]
theorem ua (r s:Int) (h:rok r):iB r s=some (okG r s):=by
 unfold iB okG
 simp only [nM,aA,w32 h,re,wi]
theorem xA (c:aF) (h:rok c.rune):jS c=some (okC c):=by
 unfold jS okC
 rw [ua _ _ h]
 simp only [nM,aA,re,wi]
theorem find_eq {α:Type} (l:List α) (p:α->Bool) (hl:l.length<=1000000) (f:Int->Option (Int ⊕ (Unit ⊕ Int))) (hf: ∀ (n:Nat) (hn:n < l.length),f (n:Int)=if p l[n] then some (.inr (.inr (n:Int))) else some (.inl ((n+1:Nat):Int))) (he:f (l.length:Int)=some (.inr (.inl ()))): ∃ q,iter f 0=some q/\((q = .inl ()/\l.any p=false) \/ ∃ w:Int,q = .inr w/\0<=w/\l.any p=true):=by
 obtain ⟨q,h1,h2⟩:=od (f:=f) (λi:Int=> ∃ n:Nat,i=n/\n<=l.length/\(l.take n).any p=false) (λi=>(l.length - i).toNat) (λq=>(q = .inl ()/\l.any p=false) \/ ∃ w:Int,q = .inr w/\0<=w/\l.any p=true) (by
  rintro i ⟨n,rfl,hn,ht⟩
  by_cases hlt:n < l.length
  ·by_cases hp:p l[n]=true
   ·refine .inr ⟨.inr (n:Int),by rw [hf n hlt,if_pos hp],.inr ⟨_,rfl,by omega,List.any_eq_true.2 ⟨l[n],List.getElem_mem hlt,hp⟩⟩⟩
   ·refine .inl ⟨((n+1:Nat):Int),by rw [hf n hlt,if_neg hp],⟨n+1,rfl,hlt,?_⟩,by omega⟩
    rw [List.take_succ_eq_append_getElem hlt,List.any_append,ht]
    simpa using hp
  ·have hnl:n=l.length:=by omega
   subst hnl
   refine .inr ⟨.inl (),he,.inl ⟨rfl,?_⟩⟩
   rwa [List.take_length] at ht) 0 ⟨0,rfl,by omega,rfl⟩
 exact ⟨q,h1,h2⟩
theorem AS (l:List aG) (hl:l.length<=1000000) (h: ∀ g∈l,rok g.rune):bR l=some (l.any λg=> !okG g.rune g.aM):=by
 unfold bR cG
 have hlen:l.length=l.length:=rfl
 obtain ⟨q,h1,h2⟩:=find_eq l (λg=> !okG g.rune g.aM) hl (λa=>(bif (decide (a < (l.length:Int))) then (Option.bind (idx l a) λb=>(Option.bind (fy b) λc=>(bif c then (eJ (some a)) else some (.inl (IntKind.i64.wrap (a+1)))))) else some (.inr (.inl ())))) (by
  intro n hn
  unfold fy
  rw [decide_eq_true (by omega),cond_true,bN l n hn,aA,ua _ _ (h _ (List.getElem_mem hn)),aA,aA,w64 (by omega) (by omega)]
  cases okG l[n].rune l[n].aM <;> rfl) (by
  rw [decide_eq_false (by omega),cond_false])
 rw [h1,aA]
 rcases h2 with ⟨rfl,h3⟩ | ⟨w,rfl,h4,h3⟩
 ·rw [h3]
  rfl
 ·rw [h3]
  show some (decide (w>=0))=some true
  rw [decide_eq_true h4]
theorem AT (l:List aF) (hl:l.length<=1000000) (h:okR l):bF l=some (l.any λc=> !okC c):=by
 unfold bF cJ
 obtain ⟨q,h1,h2⟩:=find_eq l (λc=> !okC c) hl (λa=>(bif (decide (a < (l.length:Int))) then (Option.bind (idx l a) λb=>(Option.bind (fz b) λd=>(bif d then (eJ (some a)) else some (.inl (IntKind.i64.wrap (a+1)))))) else some (.inr (.inl ())))) (by
  intro n hn
  unfold fz
  rw [decide_eq_true (by omega),cond_true,bN l n hn,aA,xA _ (h _ (List.getElem_mem hn)),aA,aA,w64 (by omega) (by omega)]
  cases okC l[n] <;> rfl) (by
  rw [decide_eq_false (by omega),cond_false])
 rw [h1,aA]
 rcases h2 with ⟨rfl,h3⟩ | ⟨w,rfl,h4,h3⟩
 ·rw [h3]
  rfl
 ·rw [h3]
  show some (decide (w>=0))=some true
  rw [decide_eq_true h4]
theorem wF {α:Type} (l:List α) (p:α->Bool):(l.any λx=> !p x) = !(l.all p):=by
 induction l with
 | nil=>rfl
 | cons a l ih=>rw [List.any_cons,List.all_cons,ih,Bool.not_and]
theorem oq (s:aC) (h:SW s):cX s=some (if ie s then 0 else 1):=by
 unfold cX ie
 rw [empty_eq,aA]
 cases he:dR s with
 | true =>
  rw [cond_true]
  rfl
 | false =>
  rw [cond_false,yP s h,aA,AS _ (by have:=h.bl; omega) h.gl,aA,bor,aA,wF]
  cases hs:jL s with
  | false=>rfl
  | true =>
   cases hg:(s.begun.all λg=>okG g.rune g.aM) with
   | false=>rfl
   | true =>
    show Option.bind (iter _ 0) _=some (if s.rows.all (kH s.w)=true then 0 else 1)
    have hrl:=h.rl
    refine mD (λi:Int=> ∃ n:Nat,i=n/\n<=s.rows.length/\(s.rows.take n).all (kH s.w)=true) (λi=>(s.rows.length - i).toNat) (λq=>q=if s.rows.all (kH s.w)=true then .inl () else .inr 1) ⟨0,rfl,by omega,rfl⟩ ?_ ?_
    ·rintro i ⟨n,rfl,hn,ht⟩
     by_cases hlt:n < s.rows.length
     ·have hro:=h.ro _ (List.getElem_mem hlt)
      have hcond:((bif ((s.rows[n].cells.length:Int) != s.w) then some true else (Option.bind (bF s.rows[n].cells) λa=>some a)):Option Bool)=some (!kH s.w s.rows[n]):=by
       rw [AT _ (by omega) hro.1,aA,bor,wF]
       unfold kH
       rw [Bool.not_and]
       rfl
      try dsimp only
      rw [decide_eq_true (by omega),cond_true,bN _ _ hlt,aA,hcond,aA,w64 (by omega) (by omega)]
      cases hb:kH s.w s.rows[n] with
      | true =>
       refine .inl ⟨((n+1:Nat):Int),rfl,⟨n+1,rfl,hlt,?_⟩,by omega⟩
       rw [List.take_succ_eq_append_getElem hlt,List.all_append,ht]
       simp [hb]
      | false =>
       refine .inr ⟨.inr 1,rfl,?_⟩
       rw [if_neg]
       intro hall
       have:=List.all_eq_true.1 hall _ (List.getElem_mem hlt)
       rw [hb] at this
       cases this
     ·refine .inr ⟨.inl (),?_,?_⟩
      ·try dsimp only
       rw [decide_eq_false (by omega),cond_false]
      ·have hnl:n=s.rows.length:=by omega
       subst hnl
       rw [List.take_length] at ht
       rw [if_pos ht]
    ·rintro q rfl
     by_cases hall:s.rows.all (kH s.w)=true
     ·rw [if_pos hall,if_pos hall]
     ·rw [if_neg hall,if_neg hall]
def tg (g:aG):aN:=⟨g.rune,g.aM⟩
@[reducible] def eW (s:aC):aV:=⟨s.k,s.w,s.h,s.x,s.y,s.title,s.rows.map told,s.len,s.chain,s.begun.map tg⟩
theorem rO (s:aC):gA (eW s)=some (dR s):=by
 unfold gA dR eW
 simp only [re,aA,List.length_map]
theorem CJ (r s:Int):(decide (r < 0) || (decide (r > 1114111) || (decide (s < 0) || decide (s > 647)))) = !okG r s:=by
 rw [Bool.eq_iff_iff,Bool.not_eq_true',<- Bool.not_eq_true]
 simp only [okG,Bool.or_eq_true,Bool.and_eq_true,decide_eq_true_eq]
 omega
theorem CK (c:aF):(decide (c.rune < 0) || (decide (c.rune > 1114111) || (decide (c.aM < 0) || (decide (c.aM > 647) || (decide (c.part < 0) || decide (c.part > 3)))))) = !okC c:=by
 rw [Bool.eq_iff_iff,Bool.not_eq_true',<- Bool.not_eq_true]
 simp only [okC,okG,Bool.or_eq_true,Bool.and_eq_true,decide_eq_true_eq]
 omega
theorem qz {α ρ:Type} (l:List α) (p:α->Bool) (bad:ρ) (f:Int->Option (Int ⊕ (Unit ⊕ ρ))) (hl:l.length<=1000000) (hf: ∀ (n:Nat) (hn:n < l.length),f (n:Int)=if p l[n] then some (.inl ((n+1:Nat):Int)) else some (.inr (.inr bad))) (he:f (l.length:Int)=some (.inr (.inl ()))):iter f 0=some (if l.all p=true then .inl () else .inr bad):=by
 obtain ⟨q,h1,h2⟩:=od (f:=f) (λi:Int=> ∃ n:Nat,i=n/\n<=l.length/\(l.take n).all p=true) (λi=>(l.length - i).toNat) (λq=>q=if l.all p=true then .inl () else .inr bad) (by
  rintro i ⟨n,rfl,hn,ht⟩
  by_cases hlt:n < l.length
  ·by_cases hp:p l[n]=true
   ·refine .inl ⟨((n+1:Nat):Int),by rw [hf n hlt,if_pos hp],⟨n+1,rfl,hlt,?_⟩,by omega⟩
    rw [List.take_succ_eq_append_getElem hlt,List.all_append,ht]
    simp [hp]
   ·refine .inr ⟨.inr bad,by rw [hf n hlt,if_neg hp],?_⟩
    rw [if_neg]
    intro hall
    exact hp (List.all_eq_true.1 hall _ (List.getElem_mem hlt))
  ·have hnl:n=l.length:=by omega
   subst hnl
   rw [List.take_length] at ht
   exact .inr ⟨.inl (),he,by rw [if_pos ht]⟩) 0 ⟨0,rfl,by omega,rfl⟩
 rw [h1,h2]
theorem CL (c1 c2:Bool) (X out:Option Bool) (h1:(c1 || c2)=true->out=some false) (h2:(c1 || c2)=false->X=out):(bif c1 then some false else bif c2 then some false else X)=out:=by
 cases c1 with
 | true=>exact (h1 rfl).symm
 | false =>
  cases c2 with
  | true=>exact (h1 rfl).symm
  | false=>exact h2 rfl
theorem yQ (s:aC) (h:SW s):iy (eW s)=some (ie s):=by
 have hrl:=h.rl
 have hbl:=h.bl
 have hRl:(s.rows.map told).length=s.rows.length:=List.length_map _
 have hBl:(s.begun.map tg).length=s.begun.length:=List.length_map _
 unfold iy ie
 rw [rO,aA]
 cases he:dR s with
 | true=>rfl
 | false =>
  have hS:((decide (s.k < 1) || (decide (s.k > 1152921504606846976) || (decide (s.w < 1) || (decide (s.w > 1000) || (decide (s.h < 1) || (decide (s.h > 1000) || (decide (s.x < 0) || (decide (s.x>=s.w) || (decide (s.y < 0) || (decide (s.y>=s.h) || (((s.rows.map told).length:Int) != s.h))))))))))) || (decide ((s.title.size:Int) > 200) || (decide (s.len < 0) || (decide (s.len > 1152921504606846976) || (decide (s.chain < 0) || (decide (s.chain > 281474976710656) || decide (((s.begun.map tg).length:Int) > 1024))))))) = !jL s:=by
   rw [Bool.eq_iff_iff,Bool.not_eq_true',<- Bool.not_eq_true]
   simp only [jL,wi,Bool.or_eq_true,Bool.and_eq_true,decide_eq_true_eq,beq_iff_eq,bne_iff_ne,ne_eq]
   omega
  rw [cond_false]
  dsimp only [eW]
  simp only [bor,aA]
  refine CL _ _ _ _ (λhh=> ?_) (λhh=> ?_)
  ·have hz:jL s=false:=by
    have h2:(!jL s)=true:=hS.symm.trans hh
    simpa using h2
   rw [hz]
   rfl
  ·have hz:jL s=true:=by
    have h2:(!jL s)=false:=hS.symm.trans hh
    simpa using h2
   rw [hz]
   ·skip
    rw [qz s.begun (λg=>okG g.rune g.aM) false _ (by have:=h.bl; omega) (λn hn=> ?hf1) ?he1,aA]
    ·cases hg:(s.begun.all λg=>okG g.rune g.aM) with
     | false=>rfl
     | true =>
      rw [if_pos rfl]
      dsimp only
      rw [qz s.rows (kH s.w) false _ (by have:=h.rl; omega) (λn hn=> ?hf2) ?he2,aA]
      ·cases s.rows.all (kH s.w) <;> rfl
      case hf2 =>
       have hro:=h.ro _ (List.getElem_mem hn)
       rw [decide_eq_true (by omega),cond_true,bN _ _ (by simpa using hn),aA,List.getElem_map]
       have htl:(told s.rows[n]).l=s.rows[n].cells.map tc:=rfl
       rw [htl,dW]
       by_cases hw:(s.rows[n].cells.length:Int)=s.w
       ·have hb:((s.rows[n].cells.length:Int) != s.w)=false:=by simpa using hw
        have hb2:((s.rows[n].cells.length:Int) == s.w)=true:=by simpa using hw
        rw [hb,cond_false]
        rw [qz s.rows[n].cells okC (.inr (.inr false)) _ (by omega) (λk hk=> ?hf3) ?he3,aA]
        ·unfold kH
         rw [hb2,Bool.true_and]
         cases s.rows[n].cells.all okC with
         | true =>
          rw [if_pos rfl,if_pos rfl]
          dsimp only
          rw [w64 (by omega) (by omega)]
          rfl
         | false=>rfl
        case hf3 =>
         rw [decide_eq_true (by omega),cond_true,bN _ _ (by simpa using hk),aA,List.getElem_map]
         show (bif (decide ((s.rows[n].cells[k]).rune < 0) || (decide ((s.rows[n].cells[k]).rune > 1114111) || (decide ((s.rows[n].cells[k]).aM < 0) || (decide ((s.rows[n].cells[k]).aM > 647) || (decide ((s.rows[n].cells[k]).part < 0) || decide ((s.rows[n].cells[k]).part > 3)))))) then _ else _)=_
         rw [CK,w64 (by omega) (by omega)]
         cases okC s.rows[n].cells[k] <;> rfl
        case he3 =>
         rw [decide_eq_false (by omega),cond_false]
       ·have hb:((s.rows[n].cells.length:Int) != s.w)=true:=by simpa using hw
        have hb2:((s.rows[n].cells.length:Int) == s.w)=false:=by simpa using hw
        rw [hb,cond_true]
        unfold kH
        rw [hb2,Bool.false_and]
        rfl
      case he2 =>
       rw [decide_eq_false (by omega),cond_false]
    case hf1 =>
     rw [decide_eq_true (by omega),cond_true,bN _ _ (by simpa using hn),aA,List.getElem_map]
     show (bif (decide ((s.begun[n]).rune < 0) || (decide ((s.begun[n]).rune > 1114111) || (decide ((s.begun[n]).aM < 0) || decide ((s.begun[n]).aM > 647)))) then _ else _)=_
     rw [CJ,w64 (by omega) (by omega)]
     cases okG s.begun[n].rune s.begun[n].aM <;> rfl
    case he1 =>
     rw [decide_eq_false (by omega),cond_false]
theorem ot (b:List Int) (s:ByteArray) (hb:b.length+s.size<=10000000):eL ⟨b⟩ [s]=some ⟨b++sbs s⟩:=by
 unfold eL
 rw [cM (s':=((⟨b++sbs s⟩:bJ),(1:Int)))]
 ·rw [bM (r:=(⟨b++sbs s⟩:bJ))]
  ·rfl
  ·dsimp only
   rw [decide_eq_false (by simp),cond_false]
 ·dsimp only
  have h0:idx [s] 0=some s:=rfl
  rw [decide_eq_true (by simp),cond_true,h0,aA,cF (by omega),aA]
  rfl
theorem ub (b:List Int) (s:ByteArray) (hb:b.length+s.size<=1000000):gJ ⟨b⟩ [s]=some ⟨b++(bK s.size++sbs s)⟩:=by
 unfold gJ
 have he:=bL (s.size:Int)
 rw [cM (s':=((⟨b++(bK s.size++sbs s)⟩:bJ),(1:Int)))]
 ·rw [bM (r:=(⟨b++(bK s.size++sbs s)⟩:bJ))]
  ·rfl
  ·dsimp only
   rw [decide_eq_false (by simp),cond_false]
 ·dsimp only
  have h0:idx [s] 0=some s:=rfl
  rw [decide_eq_true (by simp),cond_true,h0,aA,jy _ _ (by simp; omega),aA]
  simp only [List.flatMap_cons,List.flatMap_nil,List.append_nil]
  rw [ot _ _ (by rw [List.length_append]; omega),aA,List.append_assoc]
  rfl
def ku (g:aG):List Int:=[g.rune,g.aM].flatMap bK
def gR (l:List aG):List Int:=bK l.length++l.flatMap ku
theorem yR (g:aG):(ku g).length<=18:=by
 unfold ku
 simp only [List.flatMap_cons,List.flatMap_nil,List.length_append,List.length_nil]
 have h1:=bL g.rune
 have h2:=bL g.aM
 omega
theorem m5 (l:List aG):(l.flatMap ku).length<=18*l.length:=by
 induction l with
 | nil=>simp
 | cons a t ih =>
  rw [List.flatMap_cons,List.length_append,List.length_cons]
  have:=yR a
  omega
theorem uc (l:List aG) (h:l.length<=2000) (hr: ∀ g∈l,rok g.rune):jc l=some (cO (gR l)):=by
 unfold jc eU gR
 have he:=bL (l.length:Int)
 rw [jy [] _ (by simp),aA]
 have e0:([]++[(l.length:Int)].flatMap bK)=bK l.length:=by simp
 rw [e0]
 refine fw (λi=>((⟨bK l.length++(l.take i).flatMap ku⟩:bJ),(i:Int))) l.length (⟨bK l.length++l.flatMap ku⟩:bJ) (by simp) ?_ ?_ rfl
 ·intro i hi
  dsimp only
  have h2:=m5 (l.take i)
  rw [List.length_take] at h2
  rw [decide_eq_true (by omega),cond_true,bN _ _ hi,aA,w32 (hr _ (List.getElem_mem hi)),jy _ _ (by simp only [List.length_append,List.length_cons,List.length_nil]; omega),aA,w64 (by omega) (by omega),List.take_succ_eq_append_getElem hi,List.flatMap_append,List.flatMap_singleton,List.append_assoc]
  rfl
 ·dsimp only
  rw [decide_eq_false (by omega),cond_false,List.take_length]
theorem xB (l:List aG) (h:l.length<=2000):jv (l.map tg)=some (cO (gR l)):=by
 unfold jv gR
 have he:=bL (l.length:Int)
 rw [List.length_map,jz,aA]
 refine fw (λi=>((i:Int),cO (bK l.length++(l.take i).flatMap ku))) l.length (cO (bK l.length++l.flatMap ku)) (by simp) ?_ ?_ rfl
 ·intro i hi
  dsimp only
  have h2:=m5 (l.take i)
  rw [List.length_take] at h2
  have h3:=bL l[i].rune
  have h4:=bL l[i].aM
  rw [decide_eq_true (by omega),cond_true,bN _ _ (by simpa using hi),aA,List.getElem_map]
  show Option.bind (bT l[i].rune) _=_
  rw [jz,aA]
  show Option.bind (bT l[i].aM) _=_
  rw [jz,aA,fg (by rw [bO,bO]; omega),aA,<- dN,fg (by rw [bO,bO,List.length_append,List.length_append]; omega),aA,<- dN,w64 (by omega) (by omega),List.take_succ_eq_append_getElem hi,List.flatMap_append,List.flatMap_singleton,List.append_assoc]
  have hE:ku l[i]=bK l[i].rune++bK l[i].aM:=by unfold ku; simp
  rw [hE]
  rfl
 ·dsimp only
  rw [decide_eq_false (by omega),cond_false,List.take_length]
def kI (s:aC):List Int:=[s.k,s.w,s.h,s.x,s.y].flatMap bK++(bK s.title.size++sbs s.title)++[s.len,s.chain].flatMap bK++gR s.begun
def pB (s:aC):List Int:=kI s++s.rows.flatMap cV
theorem oY (s:aC) (h:SW s):(kI s).length<=46000:=by
 unfold kI gR
 simp only [List.flatMap_cons,List.flatMap_nil,List.length_append,List.length_nil,aR]
 have a1:=bL s.k
 have a2:=bL s.w
 have a3:=bL s.h
 have a4:=bL s.x
 have a5:=bL s.y
 have a6:=bL (s.title.size:Int)
 have a7:=bL s.len
 have a8:=bL s.chain
 have a9:=bL (s.begun.length:Int)
 have b1:=m5 s.begun
 have b2:=h.bl
 have b3:=h.tl
 omega
theorem pW (l:List aE) (i:Nat):((l.take i).flatMap cV).length<=(l.flatMap cV).length:=by
 have:l.flatMap cV=(l.take i).flatMap cV++(l.drop i).flatMap cV:=by rw [<- List.flatMap_append,List.take_append_drop]
 rw [this,List.length_append]
 omega
def fF (s:aC):ByteArray:=if dR s=true\/ie s=false then noS else cO (pB s)
theorem wG (s:aC) (h:SW s) (hp:(s.rows.flatMap cV).length<=1000000):fK s=some (fF s):=by
 unfold fK fF
 have hc:((Option.bind (eP s) λa=>(bif a then some true else (Option.bind (cX s) λc=>some (c != 0)))):Option Bool)=some (dR s || !ie s):=by
  rw [empty_eq,aA,oq s h,aA]
  cases dR s <;> cases ie s <;> rfl
 rw [hc,aA]
 by_cases hb:dR s=true\/ie s=false
 ·rw [if_pos hb]
  have:(dR s || !ie s)=true:=by
   rcases hb with hb | hb <;> simp [hb]
  rw [this,cond_true]
  rfl
 ·rw [if_neg hb]
  have hne:dR s=false:=by cases he:dR s with | true=>exact absurd (.inl he) hb | false=>rfl
  have hm:ie s=true:=by cases he:ie s with | false=>exact absurd (.inr he) hb | true=>rfl
  rw [hne,hm]
  show Option.bind (cB ⟨[]⟩ [s.k,s.w,s.h,s.x,s.y]) _=_
  have hpl:=oY s h
  have htl:=h.tl
  have hph:(kI s).length=([s.k,s.w,s.h,s.x,s.y].flatMap bK).length+((bK s.title.size++sbs s.title).length+(([s.len,s.chain].flatMap bK).length+(gR s.begun).length)):=by
   unfold kI
   rw [List.length_append,List.length_append,List.length_append]
   omega
  have hts:(bK s.title.size++sbs s.title).length=(bK s.title.size).length+s.title.size:=by rw [List.length_append,aR]
  have hbs: ∀ b∈gR s.begun,0<=b/\b < 256:=by
   intro b hb
   unfold gR at hb
   rcases List.mem_append.1 hb with hb | hb
   ·exact lE _ b hb
   ·obtain ⟨g,_,hg⟩:=List.mem_flatMap.1 hb
    unfold ku at hg
    obtain ⟨x,_,hx⟩:=List.mem_flatMap.1 hg
    exact lE _ b hx
  rw [jy _ _ (by simp),aA,List.nil_append,ub _ _ (by omega),aA,jy _ _ (by rw [List.length_append]; simp only [List.length_cons,List.length_nil]; omega),aA,uc _ h.bl h.gl,aA,ot _ _ (by rw [bO,List.length_append,List.length_append]; omega),aA,kd _ hbs]
  have hhead:[s.k,s.w,s.h,s.x,s.y].flatMap bK++(bK s.title.size++sbs s.title)++[s.len,s.chain].flatMap bK++gR s.begun=kI s:=rfl
  rw [hhead]
  refine fw (λi=>((⟨kI s++(s.rows.take i).flatMap cV⟩:bJ),(i:Int))) s.rows.length (⟨pB s⟩:bJ) (by simp) ?_ ?_ rfl
  ·intro i hi
   have hro:=h.ro _ (List.getElem_mem hi)
   have hl1:=pW s.rows (i+1)
   rw [List.take_succ_eq_append_getElem hi,List.flatMap_append,List.flatMap_singleton,List.length_append] at hl1
   have hrl:=h.rl
   have hbr: ∀ b∈cV s.rows[i],0<=b/\b < 256:=by
    intro b hb
    unfold cV at hb
    rcases List.mem_append.1 hb with hb | hb
    ·exact lE _ b hb
    ·obtain ⟨g,_,hg⟩:=List.mem_flatMap.1 hb
     unfold dX at hg
     obtain ⟨x,_,hx⟩:=List.mem_flatMap.1 hg
     exact lE _ b hx
   dsimp only
   rw [decide_eq_true (by omega),cond_true,bN _ _ hi,aA,qy _ hro.2 hro.1,aA,ot _ _ (by rw [bO,List.length_append]; omega),aA,kd _ hbr,w64 (by omega) (by omega),List.take_succ_eq_append_getElem hi,List.flatMap_append,List.flatMap_singleton,List.append_assoc]
   rfl
  ·have hrl:=h.rl
   dsimp only
   rw [decide_eq_false (by omega),cond_false,List.take_length]
   rfl
def sK (j:aI) (n:Int):ByteArray×aI:=if j.e≠0 then (noS,j) else if n > j.s.size then (noS,⟨noS,2⟩) else (eK j.s 0 n,⟨eK j.s n j.s.size,0⟩)
def kW (i:aI):ByteArray×aI:=sK (rdS i).2 (rdS i).1
theorem wH:eK noS 0 0=noS:=by
 apply m4
 have:=eS noS 0 0
 exact this
theorem CM (j:aI) (n:Int) (h:VI j) (h0:0<=n) (he:j.e≠0->n=0):ji j n=some (sK j n):=by
 obtain ⟨s,e⟩:=j
 unfold ji sK
 have hm:imax 0 n=n:=by rw [jO]; omega
 have hsz:=h.1
 rw [hm]
 dsimp only at *
 by_cases hz:e=0
 ·subst hz
  rw [if_neg (by simp)]
  by_cases hb:n > s.size
  ·rw [decide_eq_true hb,cond_true,if_pos hb,lF _ _ (by decide),aA]
   rfl
  ·rw [decide_eq_false hb,cond_false,if_neg hb,dI (by omega) (by omega) (by omega),aA,dI (by omega) (by omega) (by omega),aA]
 ·obtain rfl:=he hz
  obtain rfl:s=noS:=h.2.resolve_left hz
  rw [if_pos hz,decide_eq_false (by decide),cond_false,dI (by decide) (by decide) (by decide),aA,dI (by decide) (by decide) (by decide),aA]
  have h2:eK noS 0 (noS.size:Int)=noS:=wH
  rw [wH,h2]
theorem AU (i:aI) (h:VI i):hZ i=some (kW i):=by
 unfold hZ kW
 rw [jA i h,aA,CM _ _ (eX h) (jB h).1 (λhe=>nH he),aA]
theorem xC (i:aI) (h:VI i):fM (asR i)=some (asR (kW i).2,(kW i).1):=by
 unfold fM kW
 rw [gF i h,aA]
 have hr:=jB h
 have hV:=eX h
 generalize (rdS i).1=n at hr
 generalize (rdS i).2=j at hV
 obtain ⟨s,e⟩:=j
 have hsz:=hV.1
 dsimp only at *
 unfold k8 sK asR
 have hm:imax 0 n=n:=by rw [jO]; omega
 rw [hm]
 dsimp only
 by_cases hz:e=0
 ·subst hz
  have e0:((0:Int) != 0)=false:=rfl
  rw [e0,cond_false,if_neg (by simp)]
  by_cases hb:n > s.size
  ·rw [decide_eq_true hb,cond_true,if_pos hb]
   rfl
  ·rw [decide_eq_false hb,cond_false,if_neg hb,dI (by omega) (by omega) (by omega),aA,dI (by omega) (by omega) (by omega),aA]
   rfl
 ·have e0:(e != 0)=true:=by simpa using hz
  rw [e0,cond_true,if_pos hz]
  rfl
theorem qA {i:aI} (h:VI i):VI (kW i).2:=by
 unfold kW sK
 have hV:=eX h
 split
 ·exact hV
 ·split
  ·exact ⟨by show noS.size<=1000000; decide,.inr rfl⟩
  ·refine ⟨?_,.inl rfl⟩
   have hr:=jB h
   obtain ⟨n,hn⟩:=Int.eq_ofNat_of_zero_le hr.1
   show (eK (rdS i).2.s (rdS i).1 (rdS i).2.s.size).size<=1000000
   rw [hn,<- aR,eS,List.length_drop,List.length_take,aR]
   have:=hV.1
   omega
theorem yS {i:aI} (h:VI i) {m:Nat} (hm:i.s.size<=m):(kW i).1.size<=m/\(i.e=0\/i.s=noS):=by
 refine ⟨?_,h.2⟩
 unfold kW sK
 split
 ·exact Nat.zero_le _
 ·split
  ·exact Nat.zero_le _
  ·rename_i he hn
   have he':(rdS i).2.e=0:=by simpa using he
   obtain ⟨_,w,hw,_,hb⟩:=rK he' h
   have hl:=congrArg List.length hb
   rw [List.length_append,aR,aR] at hl
   show (eK (rdS i).2.s 0 (rdS i).1).size<=m
   rw [hw,show (0:Int)=((0:Nat):Int) from rfl,<- aR,eS,List.length_drop,List.length_take,aR]
   omega
theorem CN {i:aI} (h:VI i) (he:(kW i).2.e=0):i.e=0/\sbs i.s=bK (kW i).1.size++sbs (kW i).1++sbs (kW i).2.s:=by
 unfold kW sK at *
 by_cases h1:(rdS i).2.e=0
 ·rw [if_neg (by simpa using h1)] at he ⊢
  by_cases h2:(rdS i).1 > (rdS i).2.s.size
  ·rw [if_pos h2] at he
   exact absurd he (by decide)
  ·rw [if_neg h2] at he ⊢
   obtain ⟨e0,w,hw,hm,hb⟩:=rK h1 h
   refine ⟨e0,?_⟩
   rw [hw] at h2 ⊢
   have hs1:sbs (eK (rdS i).2.s 0 (w:Int))=(sbs (rdS i).2.s).take w:=by
    have:=eS (rdS i).2.s 0 w
    simpa using this
   have hs2:sbs (eK (rdS i).2.s (w:Int) (rdS i).2.s.size)=(sbs (rdS i).2.s).drop w:=by
    rw [eS]
    congr 1
    exact List.take_of_length_le (by rw [aR]; exact Nat.le_refl _)
   have hsz:(eK (rdS i).2.s 0 (w:Int)).size=w:=by
    rw [<- aR,hs1,List.length_take,aR]
    omega
   dsimp only
   rw [hsz,hs1,hs2,iz hm,List.append_assoc,List.take_append_drop]
   exact hb
 ·rw [if_pos h1] at he
  exact absurd he h1
def bkL:Nat->aI->List aG->List aG×aI
 | 0,i,l=>(l,i)
 | k+1,i,l=>bkL k (bE (bE i 1114111).2 647).2 (l++[⟨(bE i 1114111).1,(bE (bE i 1114111).2 647).1⟩])
def bkS (i:aI):List aG×aI:=if (bkL (bE i 1024).1.toNat (bE i 1024).2 []).2.e=0 then bkL (bE i 1024).1.toNat (bE i 1024).2 [] else ([],(bkL (bE i 1024).1.toNat (bE i 1024).2 []).2)
theorem vf: ∀ (k:Nat) (i:aI) (l:List aG),VI i->VI (bkL k i l).2
 | 0,i,l,h=>h
 | k+1,i,l,h=>vf k _ _ (eI _ (eI _ h))
theorem sL {i:aI} (h:VI i):VI (bkS i).2:=by
 unfold bkS
 split
 ·exact vf _ _ _ (eI _ h)
 ·exact vf _ _ _ (eI _ h)
theorem pX: ∀ (k:Nat) (i:aI) (l:List aG),i.e≠0->(bkL k i l).2=i
 | 0,i,l,h=>rfl
 | k+1,i,l,h=>by
  unfold bkL
  have h1:=oh h 1114111 (by omega)
  have h2:=oh (i:=(bE i 1114111).2) (by rw [h1]; exact h) 647 (by omega)
  rw [pX k _ _ (by rw [h2,h1]; exact h),h2,h1]
theorem yT (i:aI) (h:VI i):jd i=some (bkS i):=by
 unfold jd
 rw [sG h (by omega),aA]
 have hr:=fN (m:=1024) h (by omega)
 have hV:=eI 1024 h
 unfold bkS
 generalize (bE i 1024).2=j at hV
 obtain ⟨N,hN⟩:=Int.eq_ofNat_of_zero_le hr.1
 rw [hN] at hr ⊢
 rw [Int.toNat_natCast]
 have key: ∀ (k n:Nat) (j:aI) (l:List aG),n+k=N->VI j->l.length=n->iter (σ:=aI×(List aG)×Int) (ρ:=(List aG)×aI) (λa=>(bif (decide (a.2.2 < (N:Int))) then (Option.bind (eO a.1 1114111) λb=>(Option.bind (eO b.2 647) λc=>(Option.bind (chk (fu a.2.1.length [(aG.mk (IntKind.i32.wrap b.1) c.1)].length 16)) λ_=>some (.inl (c.2,(a.2.1++[(aG.mk (IntKind.i32.wrap b.1) c.1)]),(IntKind.i64.wrap (a.2.2+1))))))) else some (.inr (a.2.1,a.1)))) (j,l,(n:Int))=some (bkL k j l):=by
  intro k
  induction k with
  | zero =>
   intro n j l hn hV hl
   refine bM ?_
   dsimp only
   rw [decide_eq_false (by omega),cond_false]
   rfl
  | succ k ih =>
   intro n j l hn hV hl
   have hA:=fN (m:=1114111) hV (by omega)
   have hw:IntKind.i32.wrap (bE j 1114111).1=(bE j 1114111).1:=by rw [IntKind.wrap_i32]; omega
   rw [cM (s':=((bE (bE j 1114111).2 647).2,l++[⟨(bE j 1114111).1,(bE (bE j 1114111).2 647).1⟩],((n+1:Nat):Int)))]
   ·rw [ih (n+1) _ _ (by omega) (eI _ (eI _ hV)) (by simp [hl])]
    rfl
   ·dsimp only
    rw [decide_eq_true (by omega),cond_true,sG hV (by omega),aA,sG (eI _ hV) (by omega),aA,hw,cF (by simp; omega),aA,w64 (by omega) (by omega)]
    rfl
 have:=key N 0 j [] (by omega) hV rfl
 rw [show ((0:Nat):Int)=0 from rfl] at this
 rw [this,aA]
 unfold cI
 rw [aA]
 by_cases he:(bkL N j []).2.e=0
 ·have hb:((bkL N j []).2.e != 0)=false:=by simpa using he
  rw [hb,cond_false,if_pos he]
 ·have hb:((bkL N j []).2.e != 0)=true:=by simpa using he
  rw [hb,cond_true,if_neg he]
def yU (r:List aG×aI):List aG×aI:=if r.2.e=0 then r else ([],r.2)
theorem qB {k:Nat} {i:aI} {l:List aG} (h:i.e≠0):yU (bkL k i l)=([],i):=by
 unfold yU
 rw [pX k i l h,if_neg h]
theorem xD (i:aI) (h:VI i):iD (asR i)=some (asR (bkS i).2,(bkS i).1.map tg):=by
 have hfin:bkS i=yU (bkL (bE i 1024).1.toNat (bE i 1024).2 []):=rfl
 unfold iD
 rw [gF i h,aA]
 dsimp only
 rw [lH,sI,aA]
 by_cases hb:(rdS i).2.e=0/\(rdS i).1 > 1024
 ·rw [decide_eq_true hb,cond_true,hfin]
  have hl:bE i 1024=(0,iM):=by unfold bE; rw [if_pos hb.2]
  rw [hl]
  rfl
 ·rw [decide_eq_false hb,cond_false]
  have hr:=jB h
  have hle:(rdS i).1<=1024:=by
   by_cases he:(rdS i).2.e=0
   ·omega
   ·rw [nH he]
    omega
  have hl:bE i 1024=rdS i:=by unfold bE; rw [if_neg (by omega)]
  rw [hfin,hl]
  have hV:=eX h
  generalize (rdS i).2=j at hV
  obtain ⟨N,hN⟩:=Int.eq_ofNat_of_zero_le hr.1
  rw [hN] at hle ⊢
  rw [Int.toNat_natCast]
  have key: ∀ (k n:Nat) (j:aI) (l:List aG) (f:aQ×(List aN)×Int->Option ((aQ×(List aN)×Int) ⊕ (((List aN)×aQ) ⊕ (aQ×(List aN))))),f=(λ(s182:aQ×(List aN)×Int)=>(Option.bind ((bif (decide (s182.2.2 < (N:Int))) then some (s182.1.e == 0) else some false):Option Bool) λg=>(bif g then (Option.bind (aY s182.1) λb=>(Option.bind ((bif (b.1.e == 0) then some (decide (b.2 > 1114111)) else some false):Option Bool) λc=>(bif c then (eJ (some ((aQ.mk (ByteArray.mk #[]) 1),([]:List aN)))) else (Option.bind (aY b.1) λa=>(Option.bind ((bif (a.1.e == 0) then some (decide (a.2 > 647)) else some false):Option Bool) λd=>(bif d then (eJ (some ((aQ.mk (ByteArray.mk #[]) 1),([]:List aN)))) else (Option.bind (chk (fu s182.2.1.length [(aN.mk b.2 a.2)].length 16)) λ_=>some (.inl (a.1,(s182.2.1++[(aN.mk b.2 a.2)]),(IntKind.i64.wrap (s182.2.2+1))))))))))) else some (.inr (.inl (s182.2.1,s182.1))))))->n+k=N->VI j->l.length=n ->
    ∃ q,iter f (asR j,l.map tg,(n:Int))=some q/\((∃ l' j',q = .inl (l'.map tg,asR j')/\yU (bkL k j l)=(if j'.e=0 then (l',j') else ([],j')))\/(∃ j',q = .inr (asR j',[])/\yU (bkL k j l)=([],j'))):=by
   intro k
   induction k with
   | zero =>
    intro n j l f hf hn hV hl
    refine ⟨.inl (l.map tg,asR j),?_,.inl ⟨l,j,rfl,rfl⟩⟩
    refine bM ?_
    subst hf
    dsimp only
    rw [lH,ld,decide_eq_false (by omega),aA,cond_false]
   | succ k ih =>
    intro n j l f hf hn hV hl
    by_cases he:j.e=0
    ·have hVr:=eX hV
     have hstep:f (asR j,l.map tg,(n:Int))=(Option.bind ((bif ((asR (rdS j).2).e == 0) then some (decide ((rdS j).1 > 1114111)) else some false):Option Bool) λc=>(bif c then (eJ (some ((aQ.mk (ByteArray.mk #[]) 1),([]:List aN)))) else (Option.bind (aY (asR (rdS j).2)) λa=>(Option.bind ((bif (a.1.e == 0) then some (decide (a.2 > 647)) else some false):Option Bool) λd=>(bif d then (eJ (some ((aQ.mk (ByteArray.mk #[]) 1),([]:List aN)))) else (Option.bind (chk (fu (l.map tg).length [(aN.mk (rdS j).1 a.2)].length 16)) λ_=>some (.inl (a.1,((l.map tg)++[(aN.mk (rdS j).1 a.2)]),(IntKind.i64.wrap ((n:Int)+1)))))))))):=by
      subst hf
      dsimp only
      rw [lH,ld,decide_eq_true ⟨by omega,he⟩,aA,cond_true,gF j hV,aA]
     rw [lH,sI] at hstep
     by_cases hb1:(rdS j).2.e=0/\(rdS j).1 > 1114111
     ·refine ⟨.inr (asR iM,[]),?_,.inr ⟨iM,rfl,?_⟩⟩
      ·refine bM ?_
       rw [hstep,decide_eq_true hb1,aA,cond_true]
       rfl
      ·have h1:bE j 1114111=(0,iM):=by unfold bE; rw [if_pos hb1.2]
       unfold bkL
       rw [h1]
       have h2:(bE iM 647).2=iM:=oh (by decide) 647 (by omega)
       dsimp only
       rw [h2,qB (by decide)]
     ·have hle1:(rdS j).1<=1114111:=by
       by_cases he2:(rdS j).2.e=0
       ·omega
       ·rw [nH he2]
        omega
      have h1:bE j 1114111=rdS j:=by unfold bE; rw [if_neg (by omega)]
      rw [decide_eq_false hb1,aA,cond_false,gF _ hVr,aA] at hstep
      dsimp only at hstep
      rw [lH,sI] at hstep
      by_cases hb2:(rdS (rdS j).2).2.e=0/\(rdS (rdS j).2).1 > 647
      ·refine ⟨.inr (asR iM,[]),?_,.inr ⟨iM,rfl,?_⟩⟩
       ·refine bM ?_
        rw [hstep,decide_eq_true hb2,aA,cond_true]
        rfl
       ·have h2:bE (rdS j).2 647=(0,iM):=by unfold bE; rw [if_pos hb2.2]
        unfold bkL
        rw [h1,h2,qB (by decide)]
      ·have hle2:(rdS (rdS j).2).1<=647:=by
        by_cases he2:(rdS (rdS j).2).2.e=0
        ·omega
        ·rw [nH he2]
         omega
       have h2:bE (rdS j).2 647=rdS (rdS j).2:=by unfold bE; rw [if_neg (by omega)]
       obtain ⟨q,hq1,hq2⟩:=ih (n+1) (rdS (rdS j).2).2 (l++[(aG.mk (rdS j).1 (rdS (rdS j).2).1)]) f hf (by omega) (eX hVr) (by simp [hl])
       refine ⟨q,?_,?_⟩
       ·rw [cM (s':=(asR (rdS (rdS j).2).2,(l++[(aG.mk (rdS j).1 (rdS (rdS j).2).1)]).map tg,((n+1:Nat):Int)))]
        ·exact hq1
        ·rw [hstep,decide_eq_false hb2,aA,cond_false,cF (by simp; omega),aA,w64 (by omega) (by omega),List.map_append]
         rfl
       ·unfold bkL
        rw [h1,h2]
        exact hq2
    ·refine ⟨.inl (l.map tg,asR j),?_,.inl ⟨l,j,rfl,?_⟩⟩
     ·refine bM ?_
      subst hf
      dsimp only
      rw [lH,ld,decide_eq_false (λhh=>he hh.2),aA,cond_false]
     ·rw [qB he,if_neg he]
  obtain ⟨q,hq1,hq2⟩:=key N 0 j [] _ rfl (by omega) hV rfl
  have hq1':iter _ (asR j,([]:List aN),(0:Int))=some q:=hq1
  rw [hq1',aA]
  rcases hq2 with ⟨l',j',rfl,hf⟩ | ⟨j',rfl,hf⟩
  ·rw [hf]
   dsimp only
   by_cases he:j'.e=0
   ·have hb:((asR j').e != 0)=false:=by simpa [asR] using he
    rw [hb,cond_false,if_pos he]
   ·have hb:((asR j').e != 0)=true:=by simpa [asR] using he
    rw [hb,cond_true,if_neg he]
    rfl
  ·rw [hf]
   rfl
def rwL:Nat->Int->aI->List aE->List aE×aI
 | 0,_,i,l=>(l,i)
 | k+1,w,i,l=>if i.e=0 then rwL k w (gv i w).2 (l++[(gv i w).1]) else (l,i)
def gZ (x:aC) (l:List aE):aC:=⟨x.k,x.w,x.h,x.x,x.y,x.title,l,x.len,x.chain,x.begun⟩
def fq:aC:=⟨0,0,0,0,0,noS,[],0,0,[]⟩
def kJ (i:aI):Int:=if i.s≠noS then 1 else i.e
theorem CO (i:aI):jj i=some (kJ i):=by
 unfold jj kJ
 have:(i.s.toList == (ByteArray.mk #[]).toList)=decide (i.s=noS):=mZ i.s noS
 rw [this]
 by_cases h:i.s=noS
 ·rw [decide_eq_true h,if_neg (λhh=>hh h)]; rfl
 ·rw [decide_eq_false h,if_pos h]; rfl
def hA (s:ByteArray):=rdS ⟨s,0⟩
def hB (s:ByteArray):=bE (hA s).2 1000
def hC (s:ByteArray):=bE (hB s).2 1000
def hD (s:ByteArray):=rdS (hC s).2
def hE (s:ByteArray):=rdS (hD s).2
def hT (s:ByteArray):=kW (hE s).2
def hF (s:ByteArray):=rdS (hT s).2
def hG (s:ByteArray):=rdS (hF s).2
def hK (s:ByteArray):=bkS (hG s).2
def hR (s:ByteArray):List aE×aI:=rwL (hC s).1.toNat (hB s).1 (hK s).2 []
def SZ (m:Nat) (i:aI):Prop:=VI i/\i.s.size<=m
theorem me {i:aI} {m:Nat} (h:SZ m i):SZ m (rdS i).2:=by
 refine ⟨eX h.1,?_⟩
 by_cases he:(rdS i).2.e=0
 ·obtain ⟨-,w, -, -,hw⟩:=rK he h.1
  have:=congrArg List.length hw
  rw [List.length_append,aR,aR] at this
  have:=h.2
  omega
 ·rcases (eX h.1).2 with h1 | h1
  ·exact absurd h1 he
  ·rw [h1]; exact Nat.zero_le _
theorem sM {i:aI} {m:Nat} (k:Int) (h:SZ m i):SZ m (bE i k).2:=by
 unfold bE
 split
 ·exact ⟨mF,Nat.zero_le _⟩
 ·exact me h
theorem vg: ∀ (k:Nat) (i:aI) (l:List aG),VI i->(∀ g∈l,rok g.rune)->(∀ g∈(bkL k i l).1,rok g.rune)/\(bkL k i l).1.length=l.length+k
 | 0,i,l,h,hl=>⟨hl,rfl⟩
 | k+1,i,l,h,hl=>by
  unfold bkL
  have:=vg k (bE (bE i 1114111).2 647).2 (l++[⟨(bE i 1114111).1,(bE (bE i 1114111).2 647).1⟩]) (eI _ (eI _ h)) (by
   intro g hg
   rcases List.mem_append.1 hg with h1 | h1
   ·exact hl g h1
   ·rw [List.mem_singleton.1 h1]
    have:=fN (m:=1114111) h (by omega)
    unfold rok
    dsimp only
    omega)
  refine ⟨this.1,this.2.trans ?_⟩
  simp only [List.length_append,List.length_cons,List.length_nil]
  omega
theorem CP {i:aI} (h:VI i):(∀ g∈(bkS i).1,rok g.rune)/\(bkS i).1.length<=1024:=by
 unfold bkS
 have hr:=fN (m:=1024) h (by omega)
 have:=vg (bE i 1024).1.toNat (bE i 1024).2 [] (eI _ h) (by intro g hg; cases hg)
 split
 ·refine ⟨this.1,?_⟩
  rw [this.2]
  simp only [List.length_nil]
  omega
 ·exact ⟨λg hg=>(by cases hg),Nat.zero_le _⟩
theorem lI {α:Type} [DecidableEq α] (a b:List α) (hl:a.length=b.length) (f:Int->Option (Int ⊕ (Unit ⊕ Bool))) (hf: ∀ (n:Nat) (h1:n < a.length) (h2:n < b.length),f (n:Int)=if a[n]=b[n] then some (.inl ((n+1:Nat):Int)) else some (.inr (.inr false))) (he:f (a.length:Int)=some (.inr (.inl ()))):iter f 0=some (if a=b then .inl () else .inr false):=by
 obtain ⟨r,h1,h2⟩:=od (f:=f) (λi:Int=> ∃ n:Nat,i=n/\n<=a.length/\a.take n=b.take n) (λi=>(a.length - i).toNat) (λr=>r=(if a=b then .inl () else .inr false)) (by
  rintro i ⟨n,rfl,hn,ht⟩
  by_cases h1:n < a.length
  ·have h2:n < b.length:=by omega
   by_cases he:a[n]=b[n]
   ·refine .inl ⟨((n+1:Nat):Int),?_,⟨n+1,rfl,by omega,?_⟩,by (try dsimp only); omega⟩
    ·rw [hf n h1 h2,if_pos he]
    ·rw [List.take_succ_eq_append_getElem h1,List.take_succ_eq_append_getElem h2,ht,he]
   ·refine .inr ⟨.inr false,?_,?_⟩
    ·rw [hf n h1 h2,if_neg he]
    ·rw [if_neg]
     intro hab
     subst hab
     exact he rfl
  ·refine .inr ⟨.inl (),?_,?_⟩
   ·have hn2:n=a.length:=by omega
    rw [hn2,he]
   ·rw [if_pos]
    have hn2:n=a.length:=by omega
    subst hn2
    rw [List.take_length] at ht
    rw [ht,hl,List.take_length]) 0 ⟨0,rfl,by omega,rfl⟩
 rw [h1,h2]
theorem xE (a b:List aG) (ha:a.length<=1000000):dV a b=some (decide (a=b)):=by
 unfold dV
 by_cases hl:a.length=b.length
 ·have e0:((a.length:Int) != (b.length:Int))=false:=by simp [hl]
  rw [e0,cond_false,lI a b hl]
  ·by_cases h:a=b
   ·rw [if_pos h,decide_eq_true h]; rfl
   ·rw [if_neg h,decide_eq_false h]; rfl
  ·intro n h1 h2
   try dsimp only
   rw [decide_eq_true (by omega),cond_true,bN a n h1,aA,bN b n h2,aA,w64 (by omega) (by omega)]
   generalize a[n]=x
   generalize b[n]=y
   obtain ⟨x1,x2⟩:=x
   obtain ⟨y1,y2⟩:=y
   by_cases g1:x1=y1 <;> by_cases g2:x2=y2 <;> simp [g1,g2,eJ]
   ·have k:(x2 == y2)=false:=by simpa using g2
    simp [k]
   ·have k:(x1 == y1)=false:=by simpa using g1
    simp [k]
   ·have k:(x1 == y1)=false:=by simpa using g1
    simp [k]
  ·try dsimp only
   rw [decide_eq_false (by omega),cond_false]
 ·have e0:((a.length:Int) != (b.length:Int))=true:=by simp; omega
  rw [e0,cond_true,decide_eq_false (λh=>hl (by rw [h]))]
theorem vh (a b:List aG) (ha:a.length<=1000000) (hr: ∀ g∈a,rok g.rune):iw a (b.map tg)=some (decide (a=b)):=by
 unfold iw
 rw [List.length_map]
 by_cases hl:a.length=b.length
 ·have e0:((a.length:Int) != (b.length:Int))=false:=by simp [hl]
  rw [e0,cond_false,lI a b hl]
  ·by_cases h:a=b
   ·rw [if_pos h,decide_eq_true h]; rfl
   ·rw [if_neg h,decide_eq_false h]; rfl
  ·intro n h1 h2
   have hi2:idx (b.map tg) (n:Int)=some (tg b[n]):=by rw [bN _ _ (by simpa using h2),List.getElem_map]
   try dsimp only
   have k1:=hr _ (List.getElem_mem h1)
   rw [decide_eq_true (by omega),cond_true,bN a n h1,aA,hi2,w64 (x:=(n:Int)+1) (by omega) (by omega)]
   simp only [aA,w32 k1]
   generalize a[n]=x
   generalize b[n]=y
   obtain ⟨x1,x2⟩:=x
   obtain ⟨y1,y2⟩:=y
   unfold tg
   by_cases g1:x1=y1 <;> by_cases g2:x2=y2 <;> simp [g1,g2,eJ]
   all_goals first | (have:(x1 != y1)=true:=by simpa using g1); simp [this] | (have:(x2 != y2)=true:=by simpa using g2); simp [this] | skip
  ·try dsimp only
   rw [decide_eq_false (by omega),cond_false]
 ·have e0:((a.length:Int) != (b.length:Int))=true:=by simp; omega
  rw [e0,cond_true,decide_eq_false (λh=>hl (by rw [h]))]
theorem yV (a b:List aE) (ha:a.length<=1000000) (hr: ∀ r∈a,okR r.cells/\r.cells.length<=1000) (hq: ∀ r∈b,okR r.cells/\r.cells.length<=1000):jt a (b.map told)=some (decide (a=b)):=by
 unfold jt
 rw [List.length_map]
 by_cases hl:a.length=b.length
 ·have e0:((a.length:Int) != (b.length:Int))=false:=by simp [hl]
  rw [e0,cond_false,lI a b hl]
  ·by_cases h:a=b
   ·rw [if_pos h,decide_eq_true h]; rfl
   ·rw [if_neg h,decide_eq_false h]; rfl
  ·intro n h1 h2
   have hi2:idx (b.map told) (n:Int)=some (told b[n]):=by rw [bN _ _ (by simpa using h2),List.getElem_map]
   try dsimp only
   have k1:=hr _ (List.getElem_mem h1)
   have k2:=hq _ (List.getElem_mem h2)
   rw [decide_eq_true (by omega),cond_true,bN a n h1,aA,hi2,aA,CH _ _ (by omega) k1.1 k2.1,aA,w64 (by omega) (by omega)]
   by_cases he:a[n]=b[n]
   ·rw [if_pos he,decide_eq_true he]; rfl
   ·rw [if_neg he,decide_eq_false he]; rfl
  ·try dsimp only
   rw [decide_eq_false (by omega),cond_false]
 ·have e0:((a.length:Int) != (b.length:Int))=true:=by simp; omega
  rw [e0,cond_true,decide_eq_false (λh=>hl (by rw [h]))]
theorem ud (s t:aC):decide (s=t)=((s.k == t.k) && ((s.w == t.w) && ((s.h == t.h) && ((s.x == t.x) && ((s.y == t.y) && ((s.title.toList == t.title.toList) && ((s.len == t.len) && ((s.chain == t.chain) && (decide (s.rows=t.rows) && decide (s.begun=t.begun)))))))))):=by
 rw [mZ]
 obtain ⟨a1,a2,a3,a4,a5,a6,a7,a8,a9,a10⟩:=s
 obtain ⟨b1,b2,b3,b4,b5,b6,b7,b8,b9,b10⟩:=t
 rw [Bool.eq_iff_iff]
 simp only [decide_eq_true_eq,Bool.and_eq_true,beq_iff_eq,aC.mk.injEq]
 constructor
 ·rintro ⟨h1,h2,h3,h4,h5,h6,h7,h8,h9,h10⟩
  exact ⟨h1,h2,h3,h4,h5,h6,h8,h9,h7,h10⟩
 ·rintro ⟨h1,h2,h3,h4,h5,h6,h8,h9,h7,h10⟩
  exact ⟨h1,h2,h3,h4,h5,h6,h7,h8,h9,h10⟩
theorem yW (s t:aC) (h:SW s):fL s t=some (decide (s=t)):=by
 unfold fL
 rw [yG _ _ (by have:=h.rl; omega) (λr hr=>by have:=(h.ro r hr).2; omega),aA,xE _ _ (by have:=h.bl; omega),aA,ud]
 simp only [re,aA]
theorem AV (s t:aC) (h:SW s) (h2:SW t):kG s (eW t)=some (decide (s=t)):=by
 unfold kG
 rw [yV _ _ (by have:=h.rl; omega) h.ro h2.ro,aA,vh _ _ (by have:=h.bl; omega) h.gl,aA,ud]
 simp only [re,aA]
theorem lJ (s:aC) (h:SW s):dT s=some s:=by
 unfold dT
 have hl:=h.rl
 refine fw (λi=>(s.rows.take i,(i:Int))) s.rows.length s.rows rfl ?_ ?_ ?_
 ·intro i hi
  dsimp only
  have hr:=(h.ro _ (List.getElem_mem hi)).2
  rw [decide_eq_true (by omega),cond_true,bN _ _ hi,aA,tT _ (by omega),aA,cF (by simp; omega),aA,w64 (by omega) (by omega),List.take_succ_eq_append_getElem hi]
  rfl
 ·dsimp only
  rw [decide_eq_false (by omega),cond_false,List.take_length]
 ·have hb:=h.bl
  unfold cC
  rw [cF (by simp; omega),aA,aA]
  rfl
def BB (l:List Int):Prop:= ∀ b∈l,0<=b/\b < 256
theorem dS {a b:List Int} (h:BB a) (h2:BB b):BB (a++b):=by
 intro x hx
 rcases List.mem_append.1 hx with h' | h'
 ·exact h x h'
 ·exact h2 x h'
theorem CQ:BB []:=λx hx=>by cases hx
theorem fR (n:Int):BB (bK n):=lE _
theorem l5 (s:ByteArray):BB (sbs s):=oe s
theorem iE {α:Type} {l:List α} {f:α->List Int} (h: ∀ a∈l,BB (f a)):BB (l.flatMap f):=by
 intro x hx
 obtain ⟨a,ha,hx⟩:=List.mem_flatMap.1 hx
 exact h a ha x hx
theorem vi (p:Nat×aF):BB (dX p):=iE λa _=>fR a
theorem sN (r:aE):BB (cV r):=dS (fR _) (iE λa _=>vi a)
theorem AW (g:aG):BB (ku g):=iE λa _=>fR a
def bI (l:List Int):aI:=⟨cO l,0⟩
theorem vj {n:Int} (h0:0<=n) (h1:n<=4611686018427387904):bK n=fQ n.toNat/\n.toNat<=most/\((n.toNat:Nat):Int)=n:=by
 have:((n.toNat:Nat):Int)=n:=by omega
 refine ⟨?_,by unfold most; omega,this⟩
 conv=>lhs; rw [<- this]
 exact iz (by unfold most; omega)
theorem rh {n:Int} {R:List Int} (hR:BB R) (h0:0<=n) (h1:n<=4611686018427387904):rdS (bI (bK n++R))=(n,bI R):=by
 obtain ⟨e,m,q⟩:=vj h0 h1
 have:=CG (cO (bK n++R)) n.toNat R m (by rw [kd _ (dS (fR _) hR),e])
 rw [q] at this
 exact this
theorem nu {n m:Int} {R:List Int} (hR:BB R) (h0:0<=n) (h1:n<=4611686018427387904) (hm:n<=m):bE (bI (bK n++R)) m=(n,bI R):=by
 unfold bE
 rw [rh hR h0 h1,if_neg (by dsimp only; omega)]
theorem D8 (t:ByteArray) {R:List Int} (hR:BB R) (ht:t.size<=6000):kW (bI (bK t.size++sbs t++R))=(t,bI R):=by
 unfold kW
 rw [List.append_assoc,rh (dS (l5 t) hR) (by omega) (by omega)]
 have hb:sbs (cO (sbs t++R))=sbs t++R:=kd _ (dS (l5 t) hR)
 have hsz:(cO (sbs t++R)).size=t.size+R.length:=by rw [<- aR,hb,List.length_append,aR]
 unfold sK bI
 dsimp only
 rw [if_neg (by simp),if_neg (by rw [hsz]; omega)]
 have h1:eK (cO (sbs t++R)) 0 (t.size:Int)=t:=by
  apply m4
  have:=eS (cO (sbs t++R)) 0 t.size
  rw [hb] at this
  refine Eq.trans this ?_
  have e:t.size=(sbs t).length:=(aR t).symm
  rw [e,List.take_left,List.drop_zero]
 have h2:eK (cO (sbs t++R)) (t.size:Int) ((cO (sbs t++R)).size:Int)=cO R:=by
  apply m4
  rw [eS,hb,kd _ hR,hsz,List.take_of_length_le (by rw [List.length_append,aR]; exact Nat.le_refl _)]
  have e:t.size=(sbs t).length:=(aR t).symm
  rw [e,List.drop_left]
 rw [h1,h2]
theorem wI {r s:Int}:okG r s=true↔(0<=r/\r<=1114111)/\0<=s/\s<=647:=by
 unfold okG
 simp only [Bool.and_eq_true,decide_eq_true_eq,ge_iff_le]
theorem AX {c:aF}:okC c=true↔((0<=c.rune/\c.rune<=1114111)/\0<=c.aM/\c.aM<=647)/\0<=c.part/\c.part<=3:=by
 unfold okC
 rw [Bool.and_eq_true,wI]
 simp only [Bool.and_eq_true,decide_eq_true_eq,ge_iff_le]
theorem BX: ∀ (l acc:List aG) {R:List Int},BB R->(∀ g∈l,okG g.rune g.aM=true)->bkL l.length (bI (l.flatMap ku++R)) acc=(acc++l,bI R)
 | [],acc,R,hR,h=>by
  rw [List.append_nil]
  rfl
 | g::l,acc,R,hR,h=>by
  have hg:=wI.1 (h g List.mem_cons_self)
  have hT:BB (l.flatMap ku++R):=dS (iE λa _=>AW a) hR
  have e:(g::l).flatMap ku++R=bK g.rune++(bK g.aM++(l.flatMap ku++R)):=by
   unfold ku
   simp only [List.flatMap_cons,List.flatMap_nil,List.append_nil,List.append_assoc]
  rw [e]
  show bkL (l.length+1) _ _=_
  unfold bkL
  rw [nu (dS (fR _) hT) hg.1.1 (by omega) hg.1.2]
  dsimp only
  rw [nu hT hg.2.1 (by omega) hg.2.2]
  dsimp only
  rw [BX l _ hR (λx hx=>h x (List.mem_cons_of_mem _ hx)),List.append_assoc]
  rfl
theorem D9 (l:List aG) {R:List Int} (hR:BB R) (h: ∀ g∈l,okG g.rune g.aM=true) (hl:l.length<=1024):bkS (bI (gR l++R))=(l,bI R):=by
 have hT:BB (l.flatMap ku++R):=dS (iE λa _=>AW a) hR
 have e:gR l++R=bK l.length++(l.flatMap ku++R):=by
  unfold gR
  rw [List.append_assoc]
 unfold bkS
 rw [e,nu hT (by omega) (by omega) (by omega)]
 dsimp only
 rw [Int.toNat_natCast,BX l [] hR h]
 rfl
theorem Ea {n:Nat} {c:aF} {left:Int} {R:List Int} (hR:BB R) (h1:1<=n) (h2:(n:Int)<=left) (h3:n<=1000) (hc:okC c=true) :
  bE (bI (dX (n,c)++R)) left=((n:Int),bI (bK c.rune++(bK c.aM++(bK c.part++R))))/\(il (bI (dX (n,c)++R)) left).2=bI R/\fj (bI (dX (n,c)++R)) left=c:=by
 have hk:=AX.1 hc
 have e:dX (n,c)++R=bK n++(bK c.rune++(bK c.aM++(bK c.part++R))):=by
  unfold dX
  simp only [List.flatMap_cons,List.flatMap_nil,List.append_nil,List.append_assoc]
 have t1:=dS (fR c.part) hR
 have t2:=dS (fR c.aM) t1
 have t3:=dS (fR c.rune) t2
 rw [e]
 have q0:=nu (m:=left) t3 (n:=(n:Int)) (by omega) (by omega) h2
 have q1:kV (bI (bK n++(bK c.rune++(bK c.aM++(bK c.part++R))))) left=bI (bK c.rune++(bK c.aM++(bK c.part++R))):=by
  unfold kV
  rw [q0,if_neg (by dsimp only; omega)]
 have q2:l0 (bI (bK n++(bK c.rune++(bK c.aM++(bK c.part++R))))) left=(c.rune,bI (bK c.aM++(bK c.part++R))):=by
  unfold l0
  rw [q1,nu t2 (by omega) (by omega) (by omega)]
 have q3:mm (bI (bK n++(bK c.rune++(bK c.aM++(bK c.part++R))))) left=(c.aM,bI (bK c.part++R)):=by
  unfold mm
  rw [q2]
  exact nu t1 (by omega) (by omega) (by omega)
 have q4:il (bI (bK n++(bK c.rune++(bK c.aM++(bK c.part++R))))) left=(c.part,bI R):=by
  unfold il
  rw [q3]
  exact nu hR (by omega) (by omega) (by omega)
 refine ⟨q0,by rw [q4],?_⟩
 unfold fj
 rw [q2,q3,q4]
theorem qC (c:aF): ∀ r:List aF,List.replicate (more c r) c++r.drop (more c r)=r
 | []=>rfl
 | d::r=>by
  unfold more
  by_cases h:d=c
  ·rw [if_pos h,List.replicate_succ,List.drop_succ_cons,List.cons_append,qC c r,h]
  ·rw [if_neg h]
   rfl
theorem Ec: ∀ (k:Nat) (w:Int) (cells acc:List aF) {R:List Int},BB R->w<=1000->(∀ c∈cells,okC c=true)->((acc.length+cells.length:Nat):Int)=w->cells.length < k->(∀ c,cells.head?=some c->acc.getLast?≠some c) ->
  rrS k w (bI ((eV cells).flatMap dX++R)) acc=(acc++cells,bI R):=by
 intro k
 induction k with
 | zero=>intro w cells acc R _ _ _ _ hk; omega
 | succ k ih =>
  intro w cells acc R hR hw hok hl hk hd
  unfold rrS
  cases cells with
  | nil =>
   rw [if_neg (by simp at hl; omega),List.append_nil]
   rfl
  | cons c r =>
   rw [List.length_cons] at hl hk
   have hm:=sJ c r
   rw [nK,List.flatMap_cons,List.append_assoc]
   have hT:BB ((eV (r.drop (more c r))).flatMap dX++R):=dS (iE λa _=>vi a) hR
   obtain ⟨q1,q2,q3⟩:=Ea (n:=more c r+1) (c:=c) (left:=w - acc.length) hT (by omega) (by omega) (by omega) (hok c List.mem_cons_self)
   have e0:(bI ((eV (r.drop (more c r))).flatMap dX++R)).e=0:=rfl
   have e1:(acc.length:Int) < w/\(bI (dX (more c r+1,c)++((eV (r.drop (more c r))).flatMap dX++R))).e=0:=⟨by omega,rfl⟩
   rw [if_pos e1,q1,q2,q3,if_pos e0,if_neg (hd c rfl)]
   dsimp only
   rw [Int.toNat_natCast,ih w (r.drop (more c r)) (acc++List.replicate (more c r+1) c) hR hw (λx hx=>hok x (List.mem_cons_of_mem _ (List.mem_of_mem_drop hx))) (by simp only [List.length_append,List.length_replicate,List.length_drop]; omega) (by rw [List.length_drop]; omega) ?_]
   ·rw [List.append_assoc,List.replicate_succ,List.cons_append,qC]
   ·intro d hd2 hl2
    rw [List.getLast?_append,List.getLast?_replicate] at hl2
    simp at hl2
    subst hl2
    rw [List.head?_drop] at hd2
    by_cases hlt:more c r < r.length
    ·exact oX c r hlt hd2
    ·rw [List.getElem?_eq_none (by omega)] at hd2
     cases hd2
theorem CR (r:aE) (w:Int) {R:List Int} (hR:BB R) (hw:w<=1000) (hl:(r.cells.length:Int)=w) (hok: ∀ c∈r.cells,okC c=true):gv (bI (cV r++R)) w=(r,bI R):=by
 have hT:BB ((eV r.cells).flatMap dX++R):=dS (iE λa _=>vi a) hR
 unfold gv cV
 rw [List.append_assoc,nu hT (by split <;> omega) (by split <;> omega) (by split <;> omega)]
 dsimp only
 rw [Ec (w.toNat+1) w r.cells [] hR hw hok (by simpa using hl) (by omega) (λc _ h=>by cases h)]
 have e0:(bI R).e=0:=rfl
 rw [if_pos e0]
 obtain ⟨a,b⟩:=r
 cases b <;> rfl
theorem AY (n:Nat):fQ n≠[]:=by
 rw [fQ]
 split <;> simp
theorem AZ:kJ (bI [])=0:=by
 unfold kJ bI
 rw [yM,if_neg (λh=>h rfl)]
theorem yX (s:aC):BB (kI s):=by
 unfold kI gR
 exact dS (dS (dS (iE λa _=>fR a) (dS (fR _) (l5 _))) (iE λa _=>fR a)) (dS (fR _) (iE λa _=>AW a))
theorem A9 (l:List aE):BB (l.flatMap cV):=iE λa _=>sN a
theorem Ba (s:aC):BB (pB s):=dS (yX s) (A9 _)
structure May (s:aC):Prop where
 k:1<=s.k/\s.k<=1152921504606846976
 w:1<=s.w/\s.w<=1000
 h:1<=s.h/\s.h<=1000
 x:0<=s.x/\s.x<=s.w - 1
 y:0<=s.y/\s.y<=s.h - 1
 r:(s.rows.length:Int)=s.h
 t:s.title.size<=200
 l:0<=s.len/\s.len<=1152921504606846976
 c:0<=s.chain/\s.chain<=281474976710656
 b:s.begun.length<=1024
 g: ∀ g∈s.begun,okG g.rune g.aM=true
 rr: ∀ r∈s.rows,(r.cells.length:Int)=s.w /\ ∀ c∈r.cells,okC c=true
theorem CS {n lo hi:Int}:wi n lo hi=true↔lo<=n/\n<=hi:=by
 unfold wi
 simp only [Bool.and_eq_true,decide_eq_true_eq,ge_iff_le]
theorem Bb {s:aC} (he:dR s=false):ie s=true↔May s:=by
 unfold ie jL
 rw [he,Bool.false_or]
 simp only [Bool.and_eq_true,CS,beq_iff_eq,decide_eq_true_eq,List.all_eq_true,kH]
 constructor
 ·rintro ⟨⟨k,w,h,x,y,r,t,l,c,b⟩,g,rr⟩
  exact ⟨k,w,h,x,y,r,by omega,l,c,by omega,g,rr⟩
 ·rintro ⟨k,w,h,x,y,r,t,l,c,b,g,rr⟩
  exact ⟨⟨k,w,h,x,y,r,by omega,l,c,by omega⟩,g,rr⟩
theorem BY: ∀ (k:Nat) (i:aI) (l:List aG),(bkL k i l).2.e=0->i.e=0
 | k,i,l,h=>by
  by_cases he:i.e=0
  ·exact he
  ·rw [pX _ _ _ he] at h
   exact h
theorem rQ: ∀ (k:Nat) (i:aI) (l:List aG),VI i->(bkL k i l).2.e=0 -> ∃ D,(bkL k i l).1.flatMap ku=l.flatMap ku++D/\sbs i.s=D++sbs (bkL k i l).2.s
 | 0,i,l,h,he=>⟨[],by simp [bkL],by simp [bkL]⟩
 | k+1,i,l,h,he=>by
  unfold bkL at he ⊢
  have v1:=eI 1114111 h
  have v2:=eI 647 v1
  obtain ⟨D,d1,d2⟩:=rQ k _ _ v2 he
  obtain ⟨h1,c2,q2,_,m2,b2⟩:=iF (BY _ _ _ he) v1
  obtain ⟨_,c1,q1,_,m1,b1⟩:=iF h1 h
  refine ⟨fQ c1++fQ c2++D,?_,?_⟩
  ·rw [d1,List.flatMap_append,List.flatMap_singleton,List.append_assoc]
   congr 2
   unfold ku
   simp only [List.flatMap_cons,List.flatMap_nil,List.append_nil,q1,q2,iz m1,iz m2]
  ·rw [b1,b2,d2]
   simp only [List.append_assoc]
theorem xF {i:aI} (h:VI i) (he:(bkS i).2.e=0):i.e=0/\sbs i.s=gR (bkS i).1++sbs (bkS i).2.s:=by
 unfold bkS at he ⊢
 by_cases h0:(bkL (bE i 1024).1.toNat (bE i 1024).2 []).2.e=0
 ·rw [if_pos h0]
  have v1:=eI 1024 h
  obtain ⟨D,d1,d2⟩:=rQ _ _ _ v1 h0
  obtain ⟨e0,c,q,_,m,b⟩:=iF (BY _ _ _ h0) h
  refine ⟨e0,?_⟩
  have hl:=(vg (bE i 1024).1.toNat (bE i 1024).2 [] v1 (by intro g hg; cases hg)).2
  unfold gR
  rw [hl,d1,b,d2,q,Int.toNat_natCast]
  simp only [List.length_nil,Nat.zero_add,List.flatMap_nil,List.nil_append,iz m,List.append_assoc]
 ·rw [if_neg h0] at he
  exact absurd he h0
def CU (s:ByteArray) (n:Nat):ByteArray:=if s.size > n then eK s 0 n else s
theorem yY (s:ByteArray) (n:Nat):gp s n=some (CU s n):=by
 unfold gp CU
 by_cases h:s.size > n
 ·rw [decide_eq_true (by omega),cond_true,if_pos h,dI (by omega) (by omega) (by omega),aA]
 ·rw [decide_eq_false (by omega),cond_false,if_neg h]
theorem mG:SW fq:=⟨by decide,by decide,λg hg=>(by cases hg),λr hr=>(by cases hr),by decide,by decide,by show noS.size<=6000; decide⟩
theorem yZ (r:aE):(cV r).length<=9+36*r.cells.length:=by
 unfold cV
 rw [List.length_append]
 have h1:=bL (if r.wrapped then 1 else 0)
 have h2:=tX (eV r.cells)
 have h3:=rL r.cells
 omega
theorem oZ (m:Nat): ∀ l:List aE,(∀ r∈l,r.cells.length<=m)->(l.flatMap cV).length<=l.length*(9+36*m)
 | [],_=>by simp
 | r::l,h=>by
  have h1:=oZ m l (λx hx=>h x (List.mem_cons_of_mem _ hx))
  have h2:=yZ r
  have h3:=h r List.mem_cons_self
  rw [List.flatMap_cons,List.length_append,List.length_cons,Nat.succ_mul]
  omega
theorem xG {s:aC}:dR s=true↔s=fq:=by
 unfold dR
 rw [mZ]
 obtain ⟨a1,a2,a3,a4,a5,a6,a7,a8,a9,a10⟩:=s
 simp only [Bool.and_eq_true,beq_iff_eq,decide_eq_true_eq,fq,aC.mk.injEq]
 constructor
 ·rintro ⟨h1,h2,h3,h4,h5,h6,h7,h8,h9,h10⟩
  exact ⟨h1,h2,h3,h4,h5,h6,List.eq_nil_of_length_eq_zero (by omega),h8,h9,List.eq_nil_of_length_eq_zero (by omega)⟩
 ·rintro ⟨h1,h2,h3,h4,h5,h6,h7,h8,h9,h10⟩
  exact ⟨h1,h2,h3,h4,h5,h6,by rw [h7]; rfl,h8,h9,by rw [h10]; rfl⟩
theorem y3 (s:aC):cO (pB s)≠noS:=by
 intro h
 have h2:sbs (cO (pB s))=[]:=by rw [h]; rfl
 rw [kd _ (Ba s)] at h2
 unfold pB kI at h2
 simp only [List.append_eq_nil_iff,List.flatMap_cons] at h2
 exact AY _ h2.1.1.1.1.1
def nN (a:Nat):Nat:=(a >>> 1) ^^^ (if a % 2=1 then 3988292384 else 0)
def mH (a:Nat):Nat:=nN (nN (nN (nN a)))
theorem nO {a b:Nat} (ha:a < 4294967296) (hb:b < 4294967296):a ^^^ b < 4294967296:=Nat.xor_lt_two_pow (n:=32) ha hb
theorem ou {a:Nat} (h:a < 4294967296):nN a < 4294967296:=by
 unfold nN
 have:a >>> 1 < 4294967296:=by rw [Nat.shiftRight_eq_div_pow]; omega
 exact nO this (by split <;> omega)
theorem Bc (a b:Nat):(a ^^^ b) % 2=(a % 2+b % 2) % 2:=by
 have h:=Nat.testBit_xor a b 0
 rw [Nat.testBit_zero,Nat.testBit_zero,Nat.testBit_zero] at h
 have ha:a % 2=0\/a % 2=1:=by omega
 have hb:b % 2=0\/b % 2=1:=by omega
 have hc:(a ^^^ b) % 2=0\/(a ^^^ b) % 2=1:=by omega
 rcases ha with ha | ha <;> rcases hb with hb | hb <;> rcases hc with hc | hc <;> rw [ha,hb,hc] at h <;> first | (exact absurd h (by decide)) | (rw [ha,hb,hc])
theorem ov (a b:Nat):nN (a ^^^ b)=nN a ^^^ nN b:=by
 unfold nN
 rw [Nat.shiftRight_xor_distrib,Bc]
 have ha:a % 2=0\/a % 2=1:=by omega
 have hb:b % 2=0\/b % 2=1:=by omega
 generalize a >>> 1=x
 generalize b >>> 1=y
 rcases ha with ha | ha <;> rcases hb with hb | hb <;> rw [ha,hb]
 ·simp
 ·simp [Nat.xor_assoc]
 ·simp only [Nat.zero_add,Nat.add_zero]
  simp
  rw [Nat.xor_assoc,Nat.xor_assoc,Nat.xor_comm y]
 ·simp
  have:x ^^^ 3988292384 ^^^ (y ^^^ 3988292384)=x ^^^ y ^^^ (3988292384 ^^^ 3988292384):=by
   rw [Nat.xor_assoc,Nat.xor_assoc,<- Nat.xor_assoc 3988292384 y,Nat.xor_comm 3988292384 y,Nat.xor_assoc]
  rw [this,Nat.xor_self,Nat.xor_zero]
theorem y4 (a b:Nat):mH (a ^^^ b)=mH a ^^^ mH b:=by
 unfold mH
 rw [ov,ov,ov,ov]
theorem m6 (k:Nat):nN (2*k)=k:=by
 unfold nN
 rw [if_neg (by omega),Nat.xor_zero,Nat.shiftRight_eq_div_pow]
 omega
theorem Bd (k:Nat):mH (16*k)=k:=by
 unfold mH
 rw [show 16*k=2*(2*(2*(2*k))) by omega,m6,m6,m6,m6]
theorem rR (x:Nat):mH x=(x / 16) ^^^ mH (x % 16):=by
 have h:x=(16*(x / 16)) ^^^ (x % 16):=by
  have h1:16*(x / 16)+x % 16=x:=Nat.div_add_mod x 16
  have h2:(16*(x / 16)) ^^^ (x % 16)=16*(x / 16)+x % 16:=by
   have h3:2 ^ 4*(x / 16)+x % 16=(2 ^ 4*(x / 16)) ||| (x % 16):=Nat.two_pow_add_eq_or_of_lt (by omega) _
   apply Nat.eq_of_testBit_eq
   intro i
   have h4:(16*(x / 16)+x % 16)=(2 ^ 4*(x / 16)) ||| (x % 16):=h3
   rw [h4,Nat.testBit_xor,Nat.testBit_or]
   show ((2 ^ 4*(x / 16)).testBit i ^^ (x % 16).testBit i)=_
   rw [Nat.testBit_two_pow_mul]
   by_cases hi:i>=4
   ·have:(x % 16).testBit i=false:=by
     apply Nat.testBit_lt_two_pow
     have:2 ^ 4<=2 ^ i:=Nat.pow_le_pow_right (by omega) hi
     omega
    rw [this]
    simp
   ·simp [hi]
  rw [h2,h1]
 conv=>lhs; rw [h]
 rw [y4,Bd]
theorem wJ: ∀ n:Nat,n < 16->idx cT (n:Int)=some ((mH n:Nat):Int):=by decide
theorem CV {x:Int} (h0:0<=x) (h1:x < 4294967296):IntKind.u32.wrap x=x:=by
 unfold IntKind.wrap
 simp [IntKind.signed,IntKind.bits]
 omega
theorem wK {a b:Nat} (ha:a < 4294967296) (hb:b < 4294967296):Go.bits .xor .u32 (a:Int) (b:Int)=((a ^^^ b:Nat):Int):=by
 show IntKind.u32.wrap ((BitVec.ofInt 32 (a:Int) ^^^ BitVec.ofInt 32 (b:Int)).toNat:Int)=_
 rw [BitVec.ofInt_natCast,BitVec.ofInt_natCast,BitVec.toNat_xor,BitVec.toNat_ofNat,BitVec.toNat_ofNat,Nat.mod_eq_of_lt ha,Nat.mod_eq_of_lt hb]
 have:=nO ha hb
 exact CV (by omega) (by omega)
theorem BZ {a b:Nat} (ha:a < 4294967296) (hb:b < 4294967296):Go.bits .xor .i64 (a:Int) (b:Int)=((a ^^^ b:Nat):Int):=by
 show IntKind.i64.wrap ((BitVec.ofInt 64 (a:Int) ^^^ BitVec.ofInt 64 (b:Int)).toNat:Int)=_
 rw [BitVec.ofInt_natCast,BitVec.ofInt_natCast,BitVec.toNat_xor,BitVec.toNat_ofNat,BitVec.toNat_ofNat,Nat.mod_eq_of_lt (by omega),Nat.mod_eq_of_lt (by omega)]
 have:=nO ha hb
 exact w64 (by omega) (by omega)
theorem B0 {a:Nat} (ha:a < 4294967296):Go.bits .and .u32 (a:Int) 15=((a % 16:Nat):Int):=by
 show IntKind.u32.wrap ((BitVec.ofInt 32 (a:Int) &&& BitVec.ofInt 32 15).toNat:Int)=_
 rw [BitVec.ofInt_natCast,BitVec.toNat_and,BitVec.toNat_ofNat,Nat.mod_eq_of_lt ha]
 have h:(BitVec.ofInt 32 15).toNat=2 ^ 4 - 1:=by decide
 rw [h,Nat.and_two_pow_sub_one_eq_mod]
 exact CV (by omega) (by omega)
theorem B1 (a:Nat):((a:Int)).fdiv (2 ^ (min 4 32))=((a / 16:Nat):Int):=by
 rw [Int.fdiv_eq_ediv_of_nonneg _ (by decide)]
 rfl
def ue (x b:Nat):Nat:=mH (mH (x ^^^ b))
theorem ow {a:Nat} (h:a < 4294967296):mH a < 4294967296:=ou (ou (ou (ou h)))
theorem y5 {x b:Nat} (h:x < 4294967296) (hb:b < 256):ue x b < 4294967296:=ow (ow (nO h (by omega)))
theorem step_eq {x b:Nat} (hx:x < 4294967296) (hb:b < 256):jI (x:Int) (b:Int)=some ((ue x b:Nat):Int):=by
 unfold jI ue
 rw [CV (by omega) (by omega),wK hx (by omega)]
 have h1:=nO hx (show b < 4294967296 by omega)
 generalize x ^^^ b=y at h1
 rw [B0 h1,wJ _ (by omega),aA,B1,wK (by omega) (ow (by omega)),<- rR]
 have h2:=ow h1
 generalize mH y=z at h2
 rw [B0 h2,wJ _ (by omega),aA,B1,wK (by omega) (ow (by omega)),<- rR]
def y6 (y:Nat):Nat->Nat
 | 0=>y
 | i+1=>nN (y6 y i)
theorem Ed {y:Nat} (hy:y < 4294967296):iter (σ:=Int×Int) (ρ:=Int) (λa=>(bif (decide (a.2 < 8)) then (Option.bind ((bif ((a.1.tmod 2) == 1) then some (Go.bits .xor .i64 (IntKind.i64.wrap (a.1.tdiv 2)) 3988292384) else some (IntKind.i64.wrap (a.1.tdiv 2))):Option Int) λc=>some (.inl (c,(IntKind.i64.wrap (a.2+1))))) else some (.inr a.1))) ((y:Int),0)=some ((mH (mH y):Nat):Int):=by
 have st: ∀ (z n:Nat),z < 4294967296->n < 8->(bif (decide ((n:Int) < 8)) then (Option.bind ((bif (((z:Int).tmod 2) == 1) then some (Go.bits .xor .i64 (IntKind.i64.wrap ((z:Int).tdiv 2)) 3988292384) else some (IntKind.i64.wrap ((z:Int).tdiv 2))):Option Int) λc=>some (.inl (c,(IntKind.i64.wrap ((n:Int)+1))))) else some (.inr (z:Int)):Option ((Int×Int) ⊕ Int))=some (.inl (((nN z:Nat):Int),((n+1:Nat):Int))):=by
  intro z n hz hn
  have h1:(z:Int).tdiv 2=((z >>> 1:Nat):Int):=by
   rw [Int.tdiv_eq_ediv_of_nonneg (by omega),Nat.shiftRight_eq_div_pow]
   rfl
  have h2:(z:Int).tmod 2=((z % 2:Nat):Int):=by
   rw [Int.tmod_eq_emod_of_nonneg (by omega)]
   rfl
  have h3:z >>> 1 < 4294967296:=by rw [Nat.shiftRight_eq_div_pow]; omega
  rw [decide_eq_true (by omega),cond_true,h1,h2,w64 (by omega) (by omega),w64 (by omega) (by omega)]
  have hx:Go.bits .xor .i64 ((z >>> 1:Nat):Int) 3988292384=((z >>> 1 ^^^ 3988292384:Nat):Int):=BZ h3 (b:=3988292384) (by decide)
  rw [hx]
  unfold nN
  by_cases ho:z % 2=1
  ·have:(((z % 2:Nat):Int) == 1)=true:=by rw [ho]; rfl
   rw [this,cond_true,if_pos ho]
   rfl
  ·have:(((z % 2:Nat):Int) == 1)=false:=by rw [show z % 2=0 by omega]; rfl
   rw [this,cond_false,if_neg ho,Nat.xor_zero]
   rfl
 have hB: ∀ i,y6 y i < 4294967296:=by
  intro i
  induction i with
  | zero=>exact hy
  | succ i ih=>exact ou ih
 have h8:mH (mH y)=y6 y 8:=rfl
 rw [h8]
 refine mY (λi=>(((y6 y i:Nat):Int),(i:Int))) 8 _ ?_ ?_
 ·intro i hi
  exact st (y6 y i) i (hB i) hi
 ·dsimp only
  rw [decide_eq_false (by omega),cond_false]
def ox (l:List Int):Nat:=l.foldl (λx b=>ue x b.toNat) 4294967295
theorem nP (l:List Int) (i:Nat) (h:i < l.length):ox (l.take (i+1))=ue (ox (l.take i)) (l[i]).toNat:=by
 unfold ox
 rw [List.take_succ_eq_append_getElem h,List.foldl_append]
 rfl
theorem sO {l:List Int} (h:BB l): ∀ i,ox (l.take i) < 4294967296:=by
 intro i
 induction i with
 | zero=>rw [List.take_zero]; decide
 | succ i ih =>
  by_cases hi:i < l.length
  ·rw [nP l i hi]
   have:=h _ (List.getElem_mem hi)
   exact y5 ih (by omega)
  ·rw [List.take_of_length_le (by omega)]
   rw [List.take_of_length_le (by omega)] at ih
   exact ih
def kX (s:ByteArray):Nat:=4294967295 ^^^ ox (sbs s)
theorem CW (s:ByteArray) (hs:s.size<=1000000):mC [s]=some ((kX s:Nat):Int):=by
 unfold mC
 have hL:=sO (l5 s)
 have hinner:iter (σ:=Int×Int) (ρ:=Int) (λa=>(bif (decide (a.1 < (s.size:Int))) then (Option.bind (qo s a.1) λb642=>(Option.bind (jI a.2 b642) λb=>some (.inl ((IntKind.i64.wrap (a.1+1)),b)))) else some (.inr a.2))) (0,4294967295)=some ((ox (sbs s):Nat):Int):=by
  refine mY (λi=>((i:Int),((ox ((sbs s).take i):Nat):Int))) s.size _ ?_ ?_
  ·intro i hi
   have hi2:i < (sbs s).length:=by rw [aR]; exact hi
   have hb:=l5 s _ (List.getElem_mem hi2)
   have hn:(sbs s)[i]=(((sbs s)[i].toNat:Nat):Int):=by omega
   dsimp only
   rw [decide_eq_true (by omega),cond_true,og s i hi2,aA,nP _ _ hi2]
   conv=>lhs; rw [hn]
   rw [step_eq (hL i) (by omega),aA,w64 (by omega) (by omega)]
   rfl
  ·dsimp only
   rw [decide_eq_false (by omega),cond_false,List.take_of_length_le (by rw [aR]; exact Nat.le_refl _)]
 refine fw (λi=>(if i=0 then (4294967295:Int) else ((ox (sbs s):Nat):Int),(i:Int))) 1 ((ox (sbs s):Nat):Int) rfl ?_ ?_ ?_
 ·intro i hi
  have:i=0:=by omega
  subst this
  have h1:idx [s] 0=some s:=rfl
  show (bif (decide ((0:Int) < 1)) then (Option.bind (idx [s] 0) λc=>_) else _)=_
  rw [decide_eq_true (by omega),cond_true,h1,aA]
  show (Option.bind (iter _ (0,4294967295)) λd=>_)=_
  rw [hinner,aA]
  rfl
 ·rfl
 ·have h:=hL (sbs s).length
  rw [List.take_length] at h
  show some (Go.bits .xor .u32 ((4294967295:Nat):Int) ((ox (sbs s):Nat):Int))=_
  rw [wK (by decide) h]
  rfl
theorem y7 {x:Nat} (h:x < 4294967296):4294967295 ^^^ x=4294967295 - x:=by
 have h1:(2 ^ 32 - 1) - x=2 ^ 32 - (x+1):=by omega
 show 4294967295 ^^^ x=_
 apply Nat.eq_of_testBit_eq
 intro i
 have h2:4294967295 - x=2 ^ 32 - (x+1):=by omega
 rw [h2,Nat.testBit_two_pow_sub_succ h,Nat.testBit_xor]
 have h3:(4294967295:Nat).testBit i=decide (i < 32):=by
  show (2 ^ 32 - 1).testBit i=_
  rw [Nat.testBit_two_pow_sub_one]
 rw [h3]
 by_cases hi:i < 32
 ·simp [hi]
 ·have:x.testBit i=false:=by
   apply Nat.testBit_lt_two_pow
   have:2 ^ 32<=2 ^ i:=Nat.pow_le_pow_right (by omega) (by omega)
   omega
  simp [hi,this]
theorem Be (s:ByteArray) (hs:s.size<=1000000):kF s=some ((kX s:Nat):Int):=by
 unfold kF
 have hL:=sO (l5 s)
 refine fw (λi=>(((ox ((sbs s).take i):Nat):Int),(i:Int))) s.size ((ox (sbs s):Nat):Int) rfl ?_ ?_ ?_
 ·intro i hi
  have hi2:i < (sbs s).length:=by rw [aR]; exact hi
  have hb:=l5 s _ (List.getElem_mem hi2)
  have hn:(sbs s)[i]=(((sbs s)[i].toNat:Nat):Int):=by omega
  dsimp only
  rw [decide_eq_true (by omega),cond_true,og s i hi2,aA,nP _ _ hi2]
  have hx:Go.bits .xor .i64 ((ox ((sbs s).take i):Nat):Int) (IntKind.i64.wrap (sbs s)[i])=((ox ((sbs s).take i) ^^^ (sbs s)[i].toNat:Nat):Int):=by
   rw [w64 (by omega) (by omega)]
   conv=>lhs; rw [hn]
   exact BZ (hL i) (by omega)
  rw [hx,Ed (nO (hL i) (by omega)),aA,w64 (by omega) (by omega)]
  rfl
 ·dsimp only
  rw [decide_eq_false (by omega),cond_false,List.take_of_length_le (by rw [aR]; exact Nat.le_refl _)]
 ·have h:=hL (sbs s).length
  rw [List.take_length] at h
  unfold kX
  rw [y7 h,w64 (by omega) (by omega)]
  congr 1
  omega
theorem sP (l:List Int) (s:ByteArray):cO l++s=cO (l++sbs s):=by
 rw [dN,lG]
theorem vk (s:ByteArray) (hs:s.size<=1000000):ju s=some (cO (bK s.size++sbs s)):=by
 unfold ju
 have h:=bL (s.size:Int)
 rw [jz,aA,fg (by rw [bO]; omega),aA,sP]
theorem uf (s:aC) (h:SW s) (hp:(s.rows.flatMap cV).length<=1000000):gq (eW s)=some (fF s):=by
 unfold gq fF
 have hc:((Option.bind (gA (eW s)) λd=>(bif d then some true else (Option.bind (iy (eW s)) λe=>some (!e)))):Option Bool)=some (dR s || !ie s):=by
  rw [rO,aA,yQ s h,aA]
  cases dR s <;> cases ie s <;> rfl
 rw [hc,aA]
 by_cases hb:dR s=true\/ie s=false
 ·rw [if_pos hb]
  have:(dR s || !ie s)=true:=by
   rcases hb with hb | hb <;> simp [hb]
  rw [this,cond_true]
  rfl
 ·rw [if_neg hb]
  have hne:dR s=false:=by cases he:dR s with | true=>exact absurd (.inl he) hb | false=>rfl
  have hm:ie s=true:=by cases he:ie s with | false=>exact absurd (.inr he) hb | true=>rfl
  rw [hne,hm]
  have hpl:=oY s h
  have htl:=h.tl
  have hph:(kI s).length=([s.k,s.w,s.h,s.x,s.y].flatMap bK).length+((bK s.title.size++sbs s.title).length+(([s.len,s.chain].flatMap bK).length+(gR s.begun).length)):=by
   unfold kI
   rw [List.length_append,List.length_append,List.length_append]
   omega
  have hnum: ∀ L:List Int,L.length<=10->iter (σ:=Int×ByteArray) (ρ:=ByteArray) (λb=>(bif (decide (b.1 < (L.length:Int))) then (Option.bind (idx L b.1) λf=>(Option.bind (bT f) λc=>(Option.bind (chk (kz b.2.size c.size)) λ_=>some (.inl ((IntKind.i64.wrap (b.1+1)),(b.2++c)))))) else some (.inr b.2))) (0,(ByteArray.mk #[]))=some (cO (L.flatMap bK)):=by
   intro L hL
   have hlen: ∀ (M:List Int),(M.flatMap bK).length<=9*M.length:=by
    intro M
    induction M with
    | nil=>simp
    | cons a M ih =>
     rw [List.flatMap_cons,List.length_append,List.length_cons]
     have:=bL a
     omega
   refine mY (λi=>((i:Int),cO ((L.take i).flatMap bK))) L.length _ ?_ ?_
   ·intro i hi
    have h2:=hlen (L.take i)
    rw [List.length_take] at h2
    have h3:=bL L[i]
    dsimp only
    rw [decide_eq_true (by omega),cond_true,bN _ _ hi,aA,jz,aA,fg (by rw [bO,bO]; omega),aA,<- dN,w64 (by omega) (by omega),List.take_succ_eq_append_getElem hi,List.flatMap_append,List.flatMap_singleton]
    rfl
   ·dsimp only
    rw [decide_eq_false (by omega),cond_false,List.take_length]
  have hn2:[s.len,s.chain].flatMap bK=bK s.len++bK s.chain:=by simp
  have hl1:=bL s.len
  have hl2:=bL s.chain
  have ht:(bK s.title.size++sbs s.title).length<=6009:=by
   rw [List.length_append,aR]
   have:=bL (s.title.size:Int)
   omega
  dsimp only
  rw [Bool.not_true,Bool.or_false,cond_false,hnum _ (by simp),aA,vk _ (by omega),aA,jz,aA,fg (by rw [bO,bO]; omega),aA,jz,aA,<- dN,fg (by rw [bO,bO,List.length_append]; omega),aA,xB _ h.bl,aA,<- dN,fg (by rw [bO,bO,List.length_append,List.length_append]; omega),aA,<- dN,fg (by rw [bO,bO,List.length_append,List.length_append,List.length_append]; omega),aA,<- dN]
  have hhead:[s.k,s.w,s.h,s.x,s.y].flatMap bK++(((bK s.title.size++sbs s.title)++bK s.len++bK s.chain)++gR s.begun)=kI s:=by
   unfold kI
   rw [hn2]
   simp only [List.append_assoc]
  rw [hhead]
  refine fw (λi=>(cO (kI s++(s.rows.take i).flatMap cV),(i:Int))) s.rows.length (cO (pB s)) (by simp) ?_ ?_ rfl
  ·intro i hi
   have hro:=h.ro _ (List.getElem_mem hi)
   have hl1:=pW s.rows (i+1)
   rw [List.take_succ_eq_append_getElem hi,List.flatMap_append,List.flatMap_singleton,List.length_append] at hl1
   have hrl:=h.rl
   have hi2:i < (s.rows.map told).length:=by rw [List.length_map]; exact hi
   dsimp only
   rw [List.length_map,decide_eq_true (by omega),cond_true,bN _ _ hi2,aA,List.getElem_map,tZ _ hro.2,aA,fg (by rw [bO,bO,List.length_append]; omega),aA,<- dN,w64 (by omega) (by omega),List.take_succ_eq_append_getElem hi,List.flatMap_append,List.flatMap_singleton,List.append_assoc]
   rfl
  ·dsimp only
   rw [List.length_map,decide_eq_false (by omega),cond_false,List.take_length]
   rfl
theorem qD {s:aC} (h:SW s) (hp:(s.rows.flatMap cV).length<=12000):(fF s).size<=66000:=by
 unfold fF
 split
 ·exact Nat.zero_le _
 ·have:=oY s h
  rw [bO]
  unfold pB
  rw [List.length_append]
  omega
theorem wL (s:ByteArray):kX s < 4294967296:=by
 unfold kX
 have h:=sO (l5 s) (sbs s).length
 rw [List.take_length] at h
 exact nO (by decide) h
theorem wM (s:aC) (h:SW s) (hp:(s.rows.flatMap cV).length<=12000):fV s=some ((kX (fF s):Nat):Int):=by
 unfold fV
 have h1:=qD h hp
 have h2:=wL (fF s)
 rw [wG s h (by omega),aA,CW _ (by omega),aA,w64 (by omega) (by omega)]
theorem y8 (s:aC) (h:SW s) (hp:(s.rows.flatMap cV).length<=12000):jW (eW s)=some ((kX (fF s):Nat):Int):=by
 unfold jW
 have h1:=qD h hp
 rw [uf s h (by omega),aA,Be _ (by omega),aA]
def okO {α:Type _} (x:Option α) (P:α->Prop):Prop:= ∃ r,x=some r/\P r
theorem wN {α:Type _} {P:α->Prop} {r:α} (h:P r):okO (some r) P:=⟨r,rfl,h⟩
theorem Bf {α β:Type _} {P:α->Prop} {Q:β->Prop} {x:Option α} {f:α->Option β} (h:okO x P) (k: ∀ r,P r->okO (f r) Q):okO (Option.bind x f) Q:=by
 obtain ⟨r,rfl,hp⟩:=h
 exact k r hp
theorem CX {α:Type _} {P:α->Prop} {b:Bool} {x y:Option α} (h1:b=true->okO x P) (h2:b=false->okO y P):okO (bif b then x else y) P:=by
 cases b
 ·exact h2 rfl
 ·exact h1 rfl
theorem Ee {α:Type _} {P:α->Prop} {p:Prop} [Decidable p] {x y:Option α} (h1:p->okO x P) (h2: ¬ p->okO y P):okO (bif decide p then x else y) P :=
 CX (λh=>h1 (of_decide_eq_true h)) (λh=>h2 (of_decide_eq_false h))
theorem Bg {α:Type _} {P Q:α->Prop} {x:Option α} (h:okO x P) (k: ∀ r,P r->Q r):okO x Q:=by
 obtain ⟨r,e,hp⟩:=h
 exact ⟨r,e,k r hp⟩
theorem CY {lo hi n:Int} (h0:0<=lo) (h1:lo<=hi) (h2:hi<=n):okO (chk (fE lo hi n)) (λ_=>True):=⟨(),dI h0 h1 h2,trivial⟩
end Go.Tw.X
set_option maxHeartbeats 1000000
namespace Go.Tw.X
open Go Go.Tw
def chM:Int:=281474976710597
def rS (x:Int) (l:List aG):Int:=(x*65536 % chM+(kX (cO (gR l)):Nat)) % chM
def o2 (l:List (List aG)):Int:=l.foldl rS 0
theorem ug (x:Int) (l:List aG):0<=rS x l/\rS x l < chM:=⟨Int.emod_nonneg _ (by decide),Int.emod_lt_of_pos _ (by decide)⟩
theorem uh: ∀ (l:List (List aG)) (x:Int),0<=x->x < chM->0<=l.foldl rS x/\l.foldl rS x < chM
 | [],x,h0,h1=>⟨h0,h1⟩
 | g::l,x,_,_=>uh l (rS x g) (ug x g).1 (ug x g).2
theorem xH (l:List (List aG)):0<=o2 l/\o2 l < chM:=uh l 0 (by decide) (by decide)
def CZ (l:List aG):Prop:=l.length<=2000 /\ ∀ g∈l,rok g.rune
def chs (l:List (List aG)):List Int:=(List.range (l.length+1)).map λk=>o2 (l.take k)
theorem Bh (l:List (List aG)):(chs l).length=l.length+1:=by simp [chs]
theorem Bi (l:List (List aG)) (k:Nat) (h:k<=l.length):idx (chs l) (k:Int)=some (o2 (l.take k)):=by
 rw [bN _ k (by rw [Bh]; omega)]
 simp [chs]
theorem xI (l:List aG) (h:l.length<=1000000):cC l=some l:=by
 unfold cC
 rw [cF (by simp; omega)]
 simp
def y9 (z:List (List aG)×List aG):rI:=⟨z.1.map (λg=>g.map tg),z.2.map tg⟩
def mI (z:List (List aG)×List aG):fZ:=⟨z.1,chs z.1,z.2⟩
def EG (g:List aG):Prop:= ∀ x∈g,rok x.rune
structure ZI (k:Nat) (z:List (List aG)×List aG):Prop where
 n:z.1.length<=k
 b:z.2.length < 1024
 g:EG z.2
 ls: ∀ x∈z.1,CZ x
def tst (s:kE):nF:=⟨s.AE,s.back,s.bold,s.under,s.pT⟩
theorem C9 {a b:Int} (h: ¬ a=b):(a == b)=false:=by simpa using h
def B2 (s:aT):px:=⟨D6 s.g,s.spot.x,s.spot.y,tst s.spot.aM,s.saved.x,s.saved.y,tst s.saved.aM,s.waiting,s.top,s.iX,s.lD,s.title⟩
structure SJ (W:Nat) (s:aT):Prop where
 gw:s.g.w=W
 gi:GI W s.g.l
 x0:0<=s.spot.x
 x1:s.spot.x < W
 y0:0<=s.spot.y
 y1:s.spot.y < s.g.l.length
 t0:0<=s.top
 tb:s.top<=s.iX
 b1:s.iX < s.g.l.length
structure SI (W:Nat) (s:aT):Prop extends SJ W s where
 wt:s.waiting=true->s.spot.x=W - 1
theorem Dc (g:cN):fH g=some (g.w,(g.l.length:Int)):=rfl
section
variable {W : Nat} {s : aT}
end
def nlS:kE:=⟨0,0,false,false,false⟩
def vl (w h:Int):aT:=⟨tV w h,⟨0,0,nlS⟩,⟨0,0,nlS⟩,false,0,(szN h:Int) - 1,true,ByteArray.mk #[]⟩
theorem ui (w h:Int):(vl w h).g.l.length=szN h:=by simp [vl,tV]
theorem Bj (w h:Int):jn w h=some (vl w h):=by
 unfold jn
 have h1:=qs h
 rw [CC,aA,Dc,aA]
 dsimp only
 rw [show ((tV w h).l.length:Int)=(szN h:Int) by simp [tV],w64 (by omega) (by omega)]
 rfl
theorem Bk (w h:Int):SI (szN w) (vl w h):=by
 have h1:=pV h
 have h2:=pV w
 refine ⟨⟨rfl,CB w h,Int.le_refl 0,?_,Int.le_refl 0,?_,Int.le_refl 0,?_,?_⟩,λe=>by cases e⟩
 ·show (0:Int) < _; omega
 ·rw [ui]; show (0:Int) < _; omega
 ·show (0:Int)<=(szN h:Int) - 1; omega
 ·rw [ui]; show (szN h:Int) - 1 < _; omega
section
variable {W : Nat} {s : aT}
end
theorem za (s:ByteArray) {lo hi:Int} (h0:0<=lo) (h1:lo<=hi) (h2:hi<=s.size):(eK s lo hi).size=(hi - lo).toNat:=by
 unfold eK
 rw [ByteArray.size_extract]
 omega
theorem Bl (s:ByteArray) {n:Int} (h:0<=n):okO (gp s n) (λr=>(r.size:Int)<=n):=by
 unfold gp
 refine Ee (λhc=> ?_) λhc=>wN (by omega)
 refine Bf (CY (by omega) h (by omega)) λ_ _=>wN ?_
 rw [za _ (by omega) h (by omega)]
 omega
section
variable {W : Nat} {s : aT}
theorem zb (h:SJ W s):fp s=some (s.g,s):=by
 unfold fp
 have e:=u9 s.g.w s.g.l (by have:=h.gi.l2; omega) h.gi.len
 rw [show (cN.mk s.g.w s.g.l)=s.g from rfl] at e
 rw [e]
 rfl
end
end Go.Tw.X
set_option maxRecDepth 20000
namespace Go.Tw.X
open Go Go.Tw
def qE (b:Int):Int×Int×Int:=if 194<=b/\b<=223 then (1,128,191) else if b=224 then (2,160,191) else if b=237 then (2,128,159) else if 225<=b/\b<=239 then (2,128,191) else if b=240 then (3,144,191) else if b=244 then (3,128,143) else if 241<=b/\b<=243 then (3,128,191) else (0,0,0)
def EH (l:List mW) (b:Int):Option mW:=l.find? λx=>decide (x.first<=b) && decide (b<=x.last)
def fnd (b:Int):mW×Bool:=match EH qY b with
 | some x=>(x,true)
 | none=>(⟨0,0,0,0,0⟩,false)
def d0:fC:=⟨0,0,0⟩
def EJ (b:Int):Int:=if (qE b).1=1 then b % 32 else if (qE b).1=2 then b % 16 else b % 8
def Dd (b:Int):fC×List Int:=if b < 128 then (d0,[b]) else if (qE b).1=0 then (d0,[65533]) else (⟨b,EJ b,(qE b).1⟩,[])
def EK (d:fC) (b:Int):Bool:=if d.qZ < (qE d.lead).1 then decide (128<=b/\b<=191) else decide ((qE d.lead).2.1<=b/\b<=(qE d.lead).2.2)
def B3 (d:fC) (b:Int):fC×List Int:=if d.qZ<=0 then Dd b else if EK d b then (if d.qZ=1 then (d0,[d.rune*64+b % 64]) else (⟨d.lead,d.rune*64+b % 64,d.qZ - 1⟩,[])) else ((Dd b).1,65533::(Dd b).2)
def B4 (p:bV) (a:iA):bV:=⟨p.state,p.order,p.text,p.jF,p.out++[a]⟩
def prA (r:Int):iA:=⟨1,r,0,false,[],ByteArray.mk #[]⟩
def De (p:bV) (l:List Int):bV:=⟨p.state,p.order,p.text,p.jF,p.out++l.map prA⟩
def stP (p:bV) (s:Int):bV:=⟨s,p.order,p.text,p.jF,p.out⟩
def ctA (b:Int):iA:=⟨2,0,b,false,[],ByteArray.mk #[]⟩
def l6 (p:bV) (b:Int):Bool×bV:=if b=24\/b=26 then (true,stP p 0) else if b=27 then (true,stP p 1) else if b < 32 then (true,B4 p (ctA b)) else (b == 127,p)
def EL (d:fC):List Int:=if d.qZ<=0 then [] else [65533]
def Bm (p:bV) (b:Int):bV:=if b < 32\/b=127 then (l6 ⟨p.state,p.order,p.text,d0,p.out++(EL p.jF).map prA⟩ b).2 else De ⟨p.state,p.order,p.text,(B3 p.jF b).1,p.out⟩ (B3 p.jF b).2
def o0:iH:=⟨false,false,false,false,0,[]⟩
def EN (b:Int):iA:=⟨3,0,b,false,[],ByteArray.mk #[]⟩
def wO (p:bV) (b:Int):bV :=
 if (l6 p b).1 then (l6 p b).2 else
 if b=91 then ⟨3,o0,p.text,p.jF,p.out⟩ else if b=93 then ⟨4,p.order,ByteArray.mk #[],p.jF,p.out⟩ else if b < 48 then stP p 2 else if b < 127 then stP (B4 p (EN b)) 0 else stP p 0
def Ef (p:bV) (b:Int):bV:=if (l6 p b).1 then (l6 p b).2 else if 48<=b then stP p 0 else p
def B5 (o:iH):iH:=⟨o.ka,o.qq,o.any,o.some,0,if o.bW.length < 16 then o.bW++[o.n] else o.bW⟩
def cmA (o:iH) (b:Int):iA:=⟨4,0,b,o.ka,o.bW,ByteArray.mk #[]⟩
def Bn (p:bV) (b:Int):bV:=if p.order.qq then stP p 0 else
 let o:=if p.order.some then B5 p.order else p.order
 ⟨0,o,p.text,p.jF,p.out++[cmA o b]⟩
def EO (o:iH):iH:=⟨o.ka,o.qq,true,o.some,o.n,o.bW⟩
def zc (o:iH) (b:Int):iH :=
 if 48<=b/\b<=57 then ⟨o.ka,o.qq,true,true,gG (10*o.n+(b - 48)) 9999,o.bW⟩ else
 if b=59\/b=58 then ⟨o.ka,o.qq,true,true,0,(B5 o).bW⟩ else
 if b=63/\o.any=false then ⟨true,o.qq,true,o.some,o.n,o.bW⟩ else
 ⟨o.ka,true,true,o.some,o.n,o.bW⟩
def zd (p:bV) (b:Int):bV:=if (l6 p b).1 then (l6 p b).2 else
 if 64<=b/\b < 127 then Bn ⟨p.state,EO p.order,p.text,p.jF,p.out⟩ b else ⟨p.state,zc p.order b,p.text,p.jF,p.out⟩
def tiA (t:ByteArray):iA:=⟨5,0,0,false,[],eK t 2 t.size⟩
def ttl (t:ByteArray):List iA:=match sbs t with
 | x::y::_=>if (x=48\/x=50)/\y=59 then [tiA t] else []
 | _=>[]
def B6 (p:bV):bV:=⟨0,p.order,p.text,p.jF,p.out++ttl p.text⟩
def Df (p:bV) (b:Int):bV:=if b=7 then B6 p else if b=24\/b=26 then stP p 0 else if b=27 then stP p 5 else if p.text.size < 200 then ⟨p.state,p.order,p.text++cO [b],p.jF,p.out⟩ else p
def EP (p:bV) (b:Int):bV :=
 if p.state=0 then Bm p b else if p.state=1 then wO p b else if p.state=2 then Ef p b else if p.state=3 then zd p b else if p.state=4 then Df p b else if b=92 then B6 p else wO (stP p 1) b
def clr (p:bV):bV:=⟨p.state,p.order,p.text,p.jF,[]⟩
def prun (p:bV) (bs:List Int):bV:=bs.foldl EP p
end Go.Tw.X
set_option maxHeartbeats 2000000
namespace Go.Tw.X
open Go Go.Tw
def p0:bV:=⟨0,o0,ByteArray.mk #[],d0,[]⟩
end Go.Tw.X
set_option maxHeartbeats 1000000
namespace Go.Tw.X
open Go Go.Tw
def ru (x:Int):Prop:=0<=x/\x<=1114111
structure D2 (d:fC):Prop where
 r0:0<=d.rune
 r3:d.qZ=3->d.rune<=4/\(d.rune=4->d.lead=244)
 r2:d.qZ=2->d.rune<=271
 r1:d.qZ=1->d.rune<=17407
theorem D20:D2 d0:=⟨by decide,by decide,by decide,by decide⟩
def sy (x:Int):Prop:=0<=x/\x<=647
def cOk (c:aF):Prop:=ru c.rune/\sy c.aM/\0<=c.part/\c.part<=3
theorem Dg {c:aF} (h:cOk c):okC c=true:=by
 obtain ⟨⟨a,b⟩,⟨d,e⟩,f,g⟩:=h
 simp [okC,okG,a,b,d,e,f,g]
theorem ER:ru 32:=⟨by decide,by decide⟩
theorem Bo {s:Int} (h:sy s):cOk (blk s):=⟨ER,h,by show (0:Int)<=0; decide,by show (0:Int)<=3; decide⟩
theorem sy0:sy 0:=⟨by decide,by decide⟩
def cR (l:List aF):Prop:= ∀ c∈l,cOk c
theorem Dh (n:Nat) {s:Int} (h:sy s):cR (List.replicate n (blk s)):=λc hc=>by rw [List.eq_of_mem_replicate hc]; exact Bo h
def gR2 (l:List aE):Prop:= ∀ r∈l,cR r.cells
theorem Bp (k W:Nat) {s:Int} (h:sy s):gR2 (List.replicate k (u7 W s)):=λc hc=>by rw [List.eq_of_mem_replicate hc]; exact Dh W h
structure SC (s:aT):Prop where
 g:gR2 s.g.l
 t:s.title.size<=200
variable {W : Nat} {s : aT}
theorem Bq (w h:Int):SC (vl w h):=⟨Bp _ _ sy0,by show (ByteArray.mk #[]).size<=200; decide⟩
end Go.Tw.X
namespace Go.Tw.X
open Go Go.Tw
structure MX (W k N:Nat) (z:List (List aG)×List aG) (m:dJ) (x:nG):Prop where
 si:SI W m.bP
 zi:ZI k z
 bk:m.book=mI z
 xs:x.s=B2 m.bP
 xb:x.b=y9 z
 pa:m.parser=clr (prun p0 (sbs x.all))
 ac:x.EF=((prun p0 (sbs x.all)).out.length:Int)
 ke:m.k=x.k
 k0:0<=m.k
 kN:m.k<=N
 al:x.all.size<=1000*N
def zf (w h:Int):dJ:=⟨mI ([],[]),p0,vl w h,0⟩
def ET (w h:Int):nG:=⟨B2 (vl w h),y9 ([],[]),ByteArray.mk #[],0,0⟩
theorem Br (w h:Int):jT w h=some (zf w h):=by
 unfold jT
 rw [show lV=some (fZ.mk [] [0] []) from rfl,Option.bind_some,Bj,Option.bind_some]
 rfl
theorem Di (w h:Int):MX (szN w) 0 0 ([],[]) (zf w h) (ET w h) :=
 ⟨Bk w h,⟨Nat.le_refl 0,by show 0 < 1024; decide,λx hx=>(by cases hx),λx hx=>(by cases hx)⟩,rfl,rfl,rfl,rfl,rfl,rfl,Int.le_refl 0,Int.le_refl 0,Nat.le_refl 0⟩
def gOk (g:aG):Prop:=ru g.rune/\sy g.aM
def gls (l:List aG):Prop:= ∀ g∈l,gOk g
theorem Bs:gls []:=λc h=>by cases h
structure ZG (z:List (List aG)×List aG):Prop where
 b:gls z.2
 l: ∀ x∈z.1,gls x
structure MG (m:dJ) (z:List (List aG)×List aG):Prop where
 sc:SC m.bP
 zg:ZG z
 d2:D2 m.parser.jF
theorem Dj (w h:Int):MG (zf w h) ([],[]):=⟨Bq w h,⟨Bs,λx hx=>by cases hx⟩,D20⟩
def sOf (m:dJ) (z:List (List aG)×List aG):aC:=⟨m.k+1,m.bP.g.w,(m.bP.g.l.length:Int),m.bP.spot.x,m.bP.spot.y,m.bP.title,m.bP.g.l,(z.1.length:Int),o2 z.1,z.2⟩
theorem Bt {l:List aG} (h:gls l): ∀ g∈l,rok g.rune:=λg hg=>by
 obtain ⟨⟨a,b⟩,_⟩:=h g hg
 exact ⟨by omega,by omega⟩
section
variable {W k N : Nat} {z : List (List aG) × List aG} {m : dJ} {x : nG}
theorem Bu (l:List (List aG)) (g:List aG) (h:l.length<=1000000000):gg (mI (l,g)) (l.length:Int)=some (o2 l):=by
 unfold gg mI
 dsimp only
 rw [iQ,jO,show max 0 (min (l.length:Int) (l.length:Int))=((l.length:Nat):Int) by omega,Bi _ _ (Nat.le_refl _),List.take_length]
 rfl
theorem zh (h:MX W k N z m x) (hk:k<=100000000) (hN:N<=1000000):eC m=some (sOf m z,m):=by
 have hk0:=h.k0
 have hkN:=h.kN
 have hzn:=h.zi.n
 have hzb:=h.zi.b
 unfold eC mX
 rw [w64 (by omega) (by omega)]
 rw [show (aT.mk m.bP.g m.bP.spot m.bP.saved m.bP.waiting m.bP.top m.bP.iX m.bP.lD m.bP.title)=m.bP from rfl,zb h.si.toSJ,aA]
 dsimp only
 have hr:=pS m.bP.g.w m.bP.g.l (by have:=h.si.gi.l2; omega) h.si.gi.len
 rw [show (cN.mk m.bP.g.w m.bP.g.l)=m.bP.g from rfl] at hr
 rw [show fS (aT.mk m.bP.g m.bP.spot m.bP.saved m.bP.waiting m.bP.top m.bP.iX m.bP.lD m.bP.title)=some m.bP.title from rfl,aA,hr,aA]
 rw [h.bk,show ∀ b,gW b=some (b.l.length:Int) from λb=>rfl,aA,aA]
 dsimp only
 have hc:=Bu z.1 z.2 (by omega)
 rw [show (mI z).l=z.1 from rfl,show mI (z.1,z.2)=mI z from rfl] at *
 rw [hc,aA]
 have hb:gj (mI z)=some z.2:=by
  unfold gj
  rw [xI _ (by show z.2.length<=_; omega)]
  rfl
 rw [hb,aA,show ∀ g,fH g=some (g.w,(g.l.length:Int)) from λg=>rfl,aA,show ∀ s,fD s=some (s.spot.x,s.spot.y) from λs=>rfl,aA,aA,<- h.bk]
 rfl
theorem Dl (h:MX W k N z m x) (g:MG m z):SW (sOf m z):=by
 have h1:=h.si.gi.w2
 have h2:=h.si.gi.l2
 have h3:=h.si.gw
 have h4:=h.zi.b
 have h5:=g.sc.t
 refine ⟨?_,?_,Bt g.zg.b,λr hr=> ?_,h2,by show z.2.length<=2000; omega,by show m.bP.title.size<=6000; omega⟩
 ·show -9223372036854775808<=m.bP.g.w/\m.bP.g.w<=9223372036854775807
  omega
 ·show -9223372036854775808<=(m.bP.g.l.length:Int)/\(m.bP.g.l.length:Int)<=9223372036854775807
  omega
 ·have hg:=h.si.gi.rs r hr
  exact ⟨hg.2,by have:=hg.1; omega⟩
theorem Bv (h:MX W k N z m x) (g:MG m z) (hk:k<=100000000) (hN:N<=1000000):ie (sOf m z)=true:=by
 have h1:=h.si.gi.w1
 have h1':=h.si.gi.w2
 have h2:=h.si.gi.l1
 have h2':=h.si.gi.l2
 have h3:=h.si.gw
 have h4:=h.zi.b
 have h5:=g.sc.t
 have h6:=xH z.1
 have h7:=h.zi.n
 have hk0:=h.k0
 have hkN:=h.kN
 have a1:=h.si.x0
 have a2:=h.si.x1
 have a3:=h.si.y0
 have a4:=h.si.y1
 have hch:chM=281474976710597:=rfl
 unfold ie
 rw [Bool.or_eq_true]
 right
 have e1:jL (sOf m z)=true:=by
  unfold jL wi sOf
  simp only [Bool.and_eq_true,decide_eq_true_eq,beq_iff_eq]
  repeat' apply And.intro
  all_goals first | trivial | omega
 have e2:((sOf m z).begun.all λg=>okG g.rune g.aM)=true:=by
  rw [List.all_eq_true]
  intro q hq
  obtain ⟨⟨b1,b2⟩,b3,b4⟩:=g.zg.b q hq
  simp [okG,b1,b2,b3,b4]
 have e3:(sOf m z).rows.all (kH (sOf m z).w)=true:=by
  rw [List.all_eq_true]
  intro r hr
  have hg:=h.si.gi.rs r hr
  unfold kH
  rw [Bool.and_eq_true]
  refine ⟨?_,?_⟩
  ·show ((r.cells.length:Int) == m.bP.g.w)=true
   rw [beq_iff_eq]
   have:=hg.1
   omega
  ·rw [List.all_eq_true]
   exact λc hc=>Dg (g.sc.g r hr c hc)
 rw [e1,e2,e3]
 rfl
end
theorem Bx {n:Nat} {a b:Int} (h:(n:Int) < a/\(n:Int) < b):((bif (decide ((n:Int) < a)) then some (decide ((n:Int) < b)) else some false):Option Bool)=some true:=by
 rw [decide_eq_true h.1,decide_eq_true h.2]; rfl
theorem By {n:Nat} {a b:Int} (h: ¬ ((n:Int) < a/\(n:Int) < b)):((bif (decide ((n:Int) < a)) then some (decide ((n:Int) < b)) else some false):Option Bool)=some false:=by
 by_cases c:(n:Int) < a
 ·rw [decide_eq_true c,decide_eq_false (by omega: ¬ (n:Int) < b)]; rfl
 ·rw [decide_eq_false c]; rfl
theorem zj {a:Int}:(a != a)=false:=by simp
abbrev Zt:=List (List aG)×List aG
theorem Dm (s:ByteArray):okO (gp s 200) (λr=>r.size<=200):=Bg (Bl s (n:=200) (by decide)) λr hr=>by omega
theorem oy (s:aC) (y:Nat) (h:y < s.rows.length):fh s (y:Int)=some (s.rows[y],true):=by
 unfold fh
 rw [decide_eq_false (show ¬ ((y:Int) < 0) by omega),cond_false,aA,decide_eq_false (show ¬ ((y:Int)>=(s.rows.length:Int)) by omega),cond_false,bN _ _ h,aA]
theorem o3 (s:aC) (y:Nat) (h: ¬ y < s.rows.length):fh s (y:Int)=some (ng,false):=by
 unfold fh
 rw [decide_eq_false (show ¬ ((y:Int) < 0) by omega),cond_false,aA,decide_eq_true (show ((y:Int)>=(s.rows.length:Int)) by omega),cond_true]
 rfl
theorem oz {σ:Type} (Y:σ->(Int×aE)->Option (σ×Bool)) (S:Nat->σ) (a b:aC) (hl:b.rows.length<=1000000) (hr: ∀ r∈a.rows,r.cells.length<=1000000)
  (h: ∀ i (hi:i < b.rows.length),if a.rows[i]?=some b.rows[i] then S (i+1)=S i else Y (S i) ((i:Int),b.rows[i])=some (S (i+1),true)) :
  eQ Y (S 0) b a=some (S b.rows.length):=by
 unfold eQ
 refine fw (S:=λi=>((i:Int),S i)) (n:=b.rows.length) (r:= .inl (S b.rows.length)) rfl ?_ ?_ rfl
 ·intro i hi
  dsimp only
  have hi2:=h i hi
  rw [decide_eq_true (show (i:Int) < (b.rows.length:Int) by omega),cond_true,bN _ _ hi,aA]
  by_cases ha:i < a.rows.length
  ·rw [oy a i ha,aA]
   dsimp only
   rw [cond_true,pU _ _ (hr _ (List.getElem_mem ha)),aA,aA]
   have e1:a.rows[i]?=some a.rows[i]:=List.getElem?_eq_getElem ha
   rw [e1] at hi2
   by_cases he:a.rows[i]=b.rows[i]
   ·rw [if_pos (by rw [he])] at hi2
    rw [decide_eq_true he,cond_true,aA,w64 (by omega) (by omega),hi2]
    rfl
   ·rw [if_neg (λhh=>he (Option.some.inj hh))] at hi2
    rw [decide_eq_false he,cond_false,hi2,aA]
    dsimp only
    rw [Bool.not_true,cond_false,aA,w64 (by omega) (by omega)]
    rfl
  ·rw [o3 a i ha,aA]
   dsimp only
   rw [cond_false,aA,cond_false]
   have e1:a.rows[i]?=none:=List.getElem?_eq_none (by omega)
   rw [e1,if_neg (by simp)] at hi2
   rw [hi2,aA]
   dsimp only
   rw [Bool.not_true,cond_false,aA,w64 (by omega) (by omega)]
   rfl
 ·dsimp only
  rw [decide_eq_false (by omega),cond_false]
def chN (a b:List aE):Nat->List Nat
 | 0=>[]
 | i+1=>if a[i]?=b[i]? then chN a b i else chN a b i++[i]
theorem kK (a b:List aE) (i:Nat):chN a b (i+1)=if a[i]?=b[i]? then chN a b i else chN a b i++[i]:=rfl
def ints (l:List Nat):List Int:=l.map λy:Nat=>(y:Int)
theorem uj (l:List Nat):(ints l).length=l.length:=List.length_map ..
theorem xJ (l:List Nat) (i:Nat):ints (l++[i])=ints l++[(i:Int)]:=by simp [ints]
def chg (a b:List aE):List Nat:=chN a b b.length
theorem sQ (a b:List aE): ∀ i,(chN a b i).length<=i
 | 0=>Nat.le_refl _
 | i+1=>by
  have:=sQ a b i
  unfold chN
  split
  ·omega
  ·simp; omega
theorem sR (a b:List aE): ∀ i,∀ y∈chN a b i,y < i
 | 0,y,h=>by cases h
 | i+1,y,h=>by
  unfold chN at h
  split at h
  ·exact Nat.lt_succ_of_lt (sR a b i y h)
  ·rcases List.mem_append.1 h with h | h
   ·exact Nat.lt_succ_of_lt (sR a b i y h)
   ·rw [List.mem_singleton.1 h]; exact Nat.lt_succ_self _
theorem vm (a b:aC) (hl:b.rows.length<=1000) (hr: ∀ r∈a.rows,r.cells.length<=1000000):gX a b=some (ints (chg a.rows b.rows)):=by
 unfold gX
 have e0:fW a b=some (b,a):=rfl
 rw [e0,aA]
 have h:=oz (σ:=List Int) (λ(s44:List Int) (x15:Int×aE)=>(Option.bind (chk (fu s44.length [x15.1].length 8)) λ_=>some ((s44++[x15.1]),true))) (λi=>ints (chN a.rows b.rows i)) a b (by omega) hr (by
  intro i hi
  have e1:b.rows[i]?=some b.rows[i]:=List.getElem?_eq_getElem hi
  split
  ·rename_i he
   rw [kK,if_pos (he.trans e1.symm)]
  ·rename_i he
   have:=sQ a.rows b.rows i
   rw [cF (by rw [uj]; simp; omega),aA]
   rw [kK,if_neg (λhh=>he (Eq.trans hh e1)),xJ])
 show Option.bind (eQ _ (ints (chN a.rows b.rows 0)) b a) _=_
 rw [h,aA]
 rfl
theorem uk (r q:aE) (h:r.cells.length<=1000000):gu (told r) (told q)=some (decide (r=q)):=by
 unfold gu
 have hw:(!((told r).wrapped == (told q).wrapped)) = !decide (r.wrapped=q.wrapped):=by
  show (!(r.wrapped == q.wrapped))=_
  cases r.wrapped <;> cases q.wrapped <;> rfl
 have hl:(((told r).l.length:Int) != ((told q).l.length:Int)) = !decide (r.cells.length=q.cells.length):=by
  show (((r.cells.map tc).length:Int) != ((q.cells.map tc).length:Int))=_
  rw [dW,dW]
  by_cases he:r.cells.length=q.cells.length
  ·simp [he]
  ·have: ¬ ((r.cells.length:Int)=(q.cells.length:Int)):=by omega
   simp [he,this]
 rw [hw,hl]
 by_cases h1:r.wrapped=q.wrapped
 ·rw [decide_eq_true h1,Bool.not_true,cond_false,aA]
  by_cases h2:r.cells.length=q.cells.length
  ·rw [decide_eq_true h2,Bool.not_true,cond_false]
   have:=lI r.cells q.cells h2 (λa=>(bif (decide (a < ((told r).l.length:Int))) then (Option.bind (idx (told r).l a) λb=>(Option.bind (idx (told q).l a) λc=>(bif (!((b.rune == c.rune) && ((b.aM == c.aM) && ((b.part == c.part) && true)))) then (eJ (some false)) else some (.inl (IntKind.i64.wrap (a+1)))))) else some (.inr (.inl ())))) (by
    intro n h1 h2
    have l1:(told r).l.length=r.cells.length:=dW _
    have l2:(told q).l.length=q.cells.length:=dW _
    rw [decide_eq_true (show (n:Int) < ((told r).l.length:Int) by omega),cond_true,bN _ _ (by omega),aA,bN _ _ (by omega),aA]
    have g1:(told r).l[n]'(by omega)=tc r.cells[n]:=List.getElem_map ..
    have g2:(told q).l[n]'(by omega)=tc q.cells[n]:=List.getElem_map ..
    rw [g1,g2]
    have:=kb r.cells[n] q.cells[n]
    show (bif !(((r.cells[n]).rune == (q.cells[n]).rune) && (((r.cells[n]).aM == (q.cells[n]).aM) && (((r.cells[n]).part == (q.cells[n]).part) && true))) then _ else _)=_
    rw [this]
    by_cases he:r.cells[n]=q.cells[n]
    ·rw [decide_eq_true he,if_pos he,Bool.not_true,cond_false,w64 (by omega) (by omega)]
     rfl
    ·rw [decide_eq_false he,if_neg he,Bool.not_false,cond_true]
     rfl) (by
    have l1:(told r).l.length=r.cells.length:=dW _
    rw [decide_eq_false (by omega),cond_false])
   rw [this,aA]
   by_cases he:r.cells=q.cells
   ·rw [if_pos he]
    have:r=q:=by cases r; cases q; simp_all
    rw [decide_eq_true this]
   ·rw [if_neg he]
    have: ¬ r=q:=λhh=>he (by rw [hh])
    rw [decide_eq_false this]
  ·have: ¬ r=q:=λhh=>h2 (by rw [hh])
   rw [decide_eq_false h2,decide_eq_false this]
   rfl
 ·have: ¬ r=q:=λhh=>h1 (by rw [hh])
  rw [decide_eq_false h1,decide_eq_false this]
  rfl
def kf (s:aC):Bool:=dR s || !ie s
theorem m7 {s:aC}:(fF s=noS)↔kf s=true:=by
 unfold fF kf
 constructor
 ·intro h
  split at h
  ·rename_i hb
   rcases hb with hb | hb <;> simp [hb]
  ·exact absurd h (y3 s)
 ·intro h
  rw [if_pos]
  simpa using h
theorem um (s:aC) (h:SW s) (hp:(s.rows.flatMap cV).length<=1000000):gn s=some (!kf s):=by
 unfold gn
 rw [wG s h hp,aA]
 have e:((fF s).toList == (ByteArray.mk #[]).toList)=decide (fF s=noS):=mZ _ noS
 rw [e]
 cases hb:kf s with
 | true=>rw [decide_eq_true (m7.2 hb)]
 | false=>rw [decide_eq_false (λhh=>by rw [m7.1 hh] at hb; cases hb)]
def pch (b:List aE) (l:List Nat):List Int:=l.flatMap λy:Nat=>bK (y:Int)++cV (b[y]?.getD ng)
def mJ (a b:aC):List Int:=[((kX (fF a):Nat):Int),b.k,b.w,b.h,b.x,b.y].flatMap bK++(bK b.title.size++sbs b.title)++[b.len,b.chain].flatMap bK++gR b.begun++bK ((chg a.rows b.rows).length:Int)
def l7 (a b:aC):List Int:=mJ a b++pch b.rows (chg a.rows b.rows)
def xK (a b:aC):Bool:= !ie a || kf b
def gM (a b:aC):ByteArray:=if xK a b then noS else cO (l7 a b)
theorem uo (b:List aE) (l:List Nat) (i:Nat) (hi:i < b.length):pch b (l++[i])=pch b l++(bK (i:Int)++cV b[i]):=by
 unfold pch
 rw [List.flatMap_append,List.flatMap_singleton,List.getElem?_eq_getElem hi]
 rfl
theorem sT (a b:List aE): ∀ i,i<=b.length->(pch b (chN a b i)).length<=9*i+((b.take i).flatMap cV).length
 | 0,_=>by simp [chN,pch]
 | i+1,hi=>by
  have ih:=sT a b i (by omega)
  have h9:=bL (i:Int)
  rw [List.take_succ_eq_append_getElem (show i < b.length by omega),List.flatMap_append,List.flatMap_singleton,List.length_append,kK]
  split
  ·omega
  ·rw [uo _ _ _ (by omega),List.length_append,List.length_append]
   omega
theorem zl (a b:List aE) (hb:(b.flatMap cV).length<=12000) (hl:b.length<=1000) (i:Nat) (hi:i<=b.length):(pch b (chN a b i)).length<=21000:=by
 have h1:=sT a b i hi
 have h2:=pW b i
 omega
theorem lK (L:List Int):(L.flatMap bK).length<=9*L.length:=by
 induction L with
 | nil=>simp
 | cons a M ih =>
  rw [List.flatMap_cons,List.length_append,List.length_cons]
  have:=bL a
  omega
theorem rT (l:List aG):(gR l).length<=9+18*l.length:=by
 unfold gR
 have h1:=bL (l.length:Int)
 have h2:=m5 l
 rw [List.length_append]
 omega
theorem rU (a b:aC) (h:SW b):(mJ a b).length<=46000:=by
 unfold mJ
 have h1:=lK [((kX (fF a):Nat):Int),b.k,b.w,b.h,b.x,b.y]
 have h2:=lK [b.len,b.chain]
 have h3:=bL (b.title.size:Int)
 have h4:=bL ((chg a.rows b.rows).length:Int)
 have h5:=rT b.begun
 have h6:=h.bl
 have h7:=h.tl
 have h8:=aR b.title
 simp only [List.length_append,List.length_cons,List.length_nil] at h1 h2 ⊢
 omega
theorem wP (l:List aG):BB (gR l):=dS (fR _) (iE λg _=>AW g)
theorem zm (b:List aE) (l:List Nat):BB (pch b l):=iE λy _=>dS (fR _) (sN _)
theorem diff_eq (a b:aC) (ha:SW a) (hb:SW b) (pa:(a.rows.flatMap cV).length<=12000) (pb:(b.rows.flatMap cV).length<=12000):jq a b=some (gM a b):=by
 unfold jq gM
 have hc:((Option.bind (cX a) λc=>(bif (c != 0) then some true else (Option.bind (gn b) λd=>some (!d)))):Option Bool)=some (xK a b):=by
  rw [oq a ha,aA,um b hb (by omega),aA]
  unfold xK
  cases ie a <;> cases kf b <;> rfl
 rw [hc,aA]
 cases hd:xK a b with
 | true=>rw [cond_true,if_pos rfl]; rfl
 | false =>
  rw [cond_false,if_neg (by simp),wM a ha pa,aA]
  have har: ∀ r∈a.rows,r.cells.length<=1000000:=λr hr=>by have:=(ha.ro r hr).2; omega
  have hrl:=hb.rl
  have htl:=hb.tl
  have hbl:=hb.bl
  have h1:=lK [((kX (fF a):Nat):Int),b.k,b.w,b.h,b.x,b.y]
  have h2:=lK [b.len,b.chain]
  have h3:=bL (b.title.size:Int)
  have h5:=rT b.begun
  have h8:=aR b.title
  have hdl:=rU a b hb
  simp only [List.length_cons,List.length_nil] at h1 h2
  show Option.bind (cB ⟨[]⟩ _) _=_
  rw [jy _ _ (by simp),aA,List.nil_append,ub _ _ (by omega),aA,jy _ _ (by simp only [List.length_append,List.length_cons,List.length_nil]; omega),aA,uc _ hbl hb.gl,aA,ot _ _ (by rw [bO]; simp only [List.length_append]; omega),aA,kd _ (wP _),vm a b hrl har,aA,jy _ _ (by simp only [List.length_append,List.length_cons,List.length_nil]; omega),aA]
  have e0:fW a b=some (b,a):=rfl
  rw [e0,aA]
  have hh:([((kX (fF a):Nat):Int),b.k,b.w,b.h,b.x,b.y].flatMap bK++(bK b.title.size++sbs b.title)++[b.len,b.chain].flatMap bK++gR b.begun++[((ints (chg a.rows b.rows)).length:Int)].flatMap bK)=mJ a b:=by
   unfold mJ
   rw [uj,List.flatMap_singleton]
  rw [hh]
  have h:=oz (σ:=bJ) (λ(s376:bJ) (x278:Int×aE)=>(Option.bind (cB s376 [x278.1]) λe=>(Option.bind (fO x278.2) λf=>(Option.bind (eL e [f]) λg=>some (g,true))))) (λi=>⟨mJ a b++pch b.rows (chN a.rows b.rows i)⟩) a b (by omega) har (by
   intro i hi
   have e1:b.rows[i]?=some b.rows[i]:=List.getElem?_eq_getElem hi
   split
   ·rename_i he
    rw [kK,if_pos (he.trans e1.symm)]
   ·rename_i he
    have hp1:=zl a.rows b.rows pb hrl i (by omega)
    have hro:=hb.ro _ (List.getElem_mem hi)
    have h9:=bL (i:Int)
    have hl1:=pW b.rows (i+1)
    rw [List.take_succ_eq_append_getElem hi,List.flatMap_append,List.flatMap_singleton,List.length_append] at hl1
    rw [jy _ _ (by simp only [List.length_append,List.length_cons,List.length_nil]; omega),aA,qy _ hro.2 hro.1,aA,List.flatMap_singleton,ot _ _ (by rw [bO]; simp only [List.length_append]; omega),aA,kd _ (sN _),kK,if_neg (λhh=>he (Eq.trans hh e1)),uo _ _ _ hi]
    simp only [List.append_assoc])
  have e1:(⟨mJ a b++pch b.rows (chN a.rows b.rows 0)⟩:bJ)=⟨mJ a b⟩:=by
   show (⟨mJ a b++[]⟩:bJ)=_
   rw [List.append_nil]
  rw [e1] at h
  rw [h,aA]
  rfl
def zA (s:ByteArray):=rdS ⟨s,0⟩
def zB (s:ByteArray):=rdS (zA s).2
def zC (s:ByteArray):=bE (zB s).2 1000
def zD (s:ByteArray):=bE (zC s).2 1000
def zE (s:ByteArray):=rdS (zD s).2
def zF (s:ByteArray):=rdS (zE s).2
def zT (s:ByteArray):=kW (zF s).2
def zG (s:ByteArray):=rdS (zT s).2
def zH (s:ByteArray):=rdS (zG s).2
def zK (s:ByteArray):=bkS (zH s).2
def zN (s:ByteArray):=rdS (zK s).2
def zS (s:ByteArray):aC:=⟨(zB s).1,(zC s).1,(zD s).1,(zE s).1,(zF s).1,(zT s).1,[],(zG s).1,(zH s).1,(zK s).1⟩
def qF (j:aI):aI:=if j.e=0 then iM else j
theorem zn {j:aI} (h:VI j):VI (qF j):=by
 unfold qF
 split
 ·exact mF
 ·exact h
theorem Bz (j:aI):(qF j).e≠0:=by
 unfold qF
 split
 ·decide
 ·assumption
def dlI (h:Int) (i:aI) (last:Int):aI:=if (rdS i).1<=last\/(rdS i).1>=h then qF (rdS i).2 else (rdS i).2
def dlL:Nat->Int->Int->aI->Int->List (Int×aE)->List (Int×aE)×aI
 | 0,_,_,i,_,l=>(l,i)
 | k+1,w,h,i,last,l=>if i.e=0 then dlL k w h (gv (dlI h i last) w).2 (rdS i).1 (l++[((rdS i).1,(gv (dlI h i last) w).1)]) else (l,i)
def zR (s:ByteArray):=dlL (zN s).1.toNat (zC s).1 (zD s).1 (zN s).2 (-1) []
theorem jC {h:Int} {i:aI} {last:Int} (hV:VI i):VI (dlI h i last):=by
 unfold dlI
 split
 ·exact zn (eX hV)
 ·exact eX hV
theorem vn {h:Int} {i:aI} {last:Int} (he:(dlI h i last).e=0):last < (rdS i).1/\(rdS i).1 < h/\dlI h i last=(rdS i).2:=by
 unfold dlI at he ⊢
 split at he
 ·exact absurd he (Bz _)
 ·rename_i hc
  rw [if_neg hc]
  exact ⟨by omega,by omega,rfl⟩
theorem oA (k:Nat) (w h:Int) (i:aI) (last:Int) (l:List (Int×aE)) (he:i.e≠0):dlL k w h i last l=(l,i):=by
 cases k with
 | zero=>rfl
 | succ k=>unfold dlL; rw [if_neg he]
theorem sU {i:aI} {w:Int} (hV:VI i) (he:(gv i w).2.e=0):i.e=0:=by
 unfold gv at he
 have h1:(rrS (w.toNat+1) w (bE i 1).2 []).2.e=0:=by
  split at he
  ·exact he
  ·exact he
 have h2:=tW _ _ _ _ h1
 exact (iF h2 hV).1
theorem B7: ∀ (k:Nat) (w h:Int) (i:aI) (last:Int) (l:List (Int×aE)),(dlL k w h i last l).2.e=0->i.e=0
 | 0,w,h,i,last,l,he=>he
 | k+1,w,h,i,last,l,he=>by
  unfold dlL at he
  split at he
  ·assumption
  ·exact he
theorem zo: ∀ (k:Nat) (w h:Int) (i:aI) (last:Int) (l:List (Int×aE)),VI i->VI (dlL k w h i last l).2
 | 0,w,h,i,last,l,hV=>hV
 | k+1,w,h,i,last,l,hV=>by
  unfold dlL
  split
  ·exact zo k w h _ _ _ (oo (jC hV))
  ·exact hV
theorem sV {α:Type} (k:Int) (x:α): ∀ l:List (Int×α),(∀ p∈l,p.1≠k)->msl k x l=l++[(k,x)]
 | [],_=>rfl
 | (j,y)::l,h=>by
  have h1:k≠j:=λe=>h (j,y) (by simp) e.symm
  simp only [msl,if_neg h1,List.cons_append]
  rw [sV k x l λp hp=>h p (by simp [hp])]
theorem vo (sum:Int) (x:aC) (hx:x.rows=[]) (hw:x.w<=1000) (f:aZ×aI×Int×Int->Option ((aZ×aI×Int×Int) ⊕ (aI×aZ))) (hf:f=(λa=>(Option.bind ((bif (decide (a.2.2.2 > 0)) then (Option.bind (cI a.2.1) λg=>some (g == 0)) else some false):Option Bool) λj=>(bif j then (Option.bind (bC a.2.1) λb=>(Option.bind ((bif (decide (b.1<=a.2.2.1)) then some true else some (decide (b.1>=a.1.to.h))):Option Bool) λm=>(Option.bind ((bif m then (Option.bind (bB b.2 1) λc=>some c) else some b.2):Option aI) λn=>(Option.bind (gL n a.1.to.w) λd=>(Option.bind (chk a.1.rows.isSome) λ_=>some (.inl ((aZ.mk a.1.sum (aC.mk a.1.to.k a.1.to.w a.1.to.h a.1.to.x a.1.to.y a.1.to.title ([]:List aE) a.1.to.len a.1.to.chain a.1.to.begun) (yv a.1.rows b.1 d.1)),d.2,b.1,(IntKind.i64.wrap (a.2.2.2 - 1))))))))) else some (.inr (a.2.1,(aZ.mk a.1.sum (aC.mk a.1.to.k a.1.to.w a.1.to.h a.1.to.x a.1.to.y a.1.to.title ([]:List aE) a.1.to.len a.1.to.chain a.1.to.begun) a.1.rows)))))) ) :
  ∀ (k:Nat) (i:aI) (last:Int) (l l':List (Int×aE)),k<=4611686018427387904->VI i->(i.e=0->l'=l /\ ∀ p∈l,p.1<=last) ->
  ∃ m',iter f (⟨sum,x,some l'⟩,i,last,(k:Int))=some ((dlL k x.w x.h i last l).2,⟨sum,x,some m'⟩)/\((dlL k x.w x.h i last l).2.e=0->m'=(dlL k x.w x.h i last l).1):=by
 have hx2:aC.mk x.k x.w x.h x.x x.y x.title ([]:List aE) x.len x.chain x.begun=x:=by
  obtain ⟨⟩:=x
  dsimp only at hx
  subst hx
  rfl
 intro k
 induction k with
 | zero =>
  intro i last l l' hk hV hl
  refine ⟨l',bM ?_,λhe=>(hl he).1⟩
  subst hf
  dsimp only
  rw [decide_eq_false (by omega),cond_false,aA,cond_false,hx2]
  rfl
 | succ k ih =>
  intro i last l l' hk hV hl
  by_cases he:i.e=0
  ·obtain ⟨rfl,hlast⟩:=hl he
   have hrr:=jB hV
   have hstep:f (⟨sum,x,some l'⟩,i,last,((k+1:Nat):Int))=some (.inl (⟨sum,x,some (msl (rdS i).1 (gv (dlI x.h i last) x.w).1 l')⟩,(gv (dlI x.h i last) x.w).2,(rdS i).1,(k:Int))):=by
    subst hf
    dsimp only
    have e1:cI i=some i.e:=rfl
    have e2:(i.e == 0)=true:=by simpa using he
    have e3:((bif (decide ((rdS i).1<=last)) then some true else some (decide ((rdS i).1>=x.h))):Option Bool)=some (decide ((rdS i).1<=last\/(rdS i).1>=x.h)):=or2 _ _
    have e4:((bif (decide ((rdS i).1<=last\/(rdS i).1>=x.h)) then (Option.bind (bB (rdS i).2 1) λc=>some c) else some (rdS i).2):Option aI)=some (dlI x.h i last):=by
     unfold dlI
     by_cases hc:(rdS i).1<=last\/(rdS i).1>=x.h
     ·rw [decide_eq_true hc,cond_true,if_pos hc,py (eX hV)]
      rfl
     ·rw [decide_eq_false hc,cond_false,if_neg hc]
    rw [decide_eq_true (by omega),cond_true,e1,aA,e2,aA,cond_true,jA _ hV,aA,e3,aA,e4,aA,vb _ _ (jC hV) hw,aA,hx2,w64 (by omega) (by omega)]
    have e5:((k+1:Nat):Int) - 1=(k:Int):=by omega
    rw [e5]
    rfl
   have hnew:(gv (dlI x.h i last) x.w).2.e=0->msl (rdS i).1 (gv (dlI x.h i last) x.w).1 l'=l'++[((rdS i).1,(gv (dlI x.h i last) x.w).1)] /\ ∀ p∈l'++[((rdS i).1,(gv (dlI x.h i last) x.w).1)],p.1<=(rdS i).1:=by
    intro h0
    obtain ⟨h2,h3, -⟩:=vn (sU (jC hV) h0)
    refine ⟨sV _ _ _ λp hp e=> ?_,λp hp=> ?_⟩
    ·have:=hlast p hp
     omega
    ·rcases List.mem_append.1 hp with hp | hp
     ·have:=hlast p hp
      omega
     ·rw [List.mem_singleton.1 hp]
      exact Int.le_refl _
   obtain ⟨m',h1,h2⟩:=ih (gv (dlI x.h i last) x.w).2 (rdS i).1 (l'++[((rdS i).1,(gv (dlI x.h i last) x.w).1)]) (msl (rdS i).1 (gv (dlI x.h i last) x.w).1 l') (by omega) (oo (jC hV)) hnew
   have hd:dlL (k+1) x.w x.h i last l'=dlL k x.w x.h (gv (dlI x.h i last) x.w).2 (rdS i).1 (l'++[((rdS i).1,(gv (dlI x.h i last) x.w).1)]):=by
    conv=>lhs; unfold dlL
    rw [if_pos he]
   rw [hd]
   exact ⟨m',by rw [cM hstep,h1],h2⟩
  ·rw [oA _ _ _ _ _ _ he]
   refine ⟨l',bM ?_,λh=>absurd h he⟩
   subst hf
   dsimp only
   have e1:cI i=some i.e:=rfl
   have e2:(i.e == 0)=false:=by simpa using he
   rw [decide_eq_true (by omega),cond_true,e1,aA,e2,aA,cond_false,hx2]
theorem uq {i:aI} (h:VI i):gS i=some (bE i 1000):=size_eq h
theorem zp (s:ByteArray) (h:s.size<=1000000): ∃ m',jr s=some (⟨(zA s).1,zS s,some m'⟩,kJ (zR s).2)/\((zR s).2.e=0->m'=(zR s).1):=by
 have v0:VI (⟨s,0⟩:aI):=⟨h,.inl rfl⟩
 have vA:VI (zA s).2:=eX v0
 have vB:VI (zB s).2:=eX vA
 have vC:VI (zC s).2:=eI _ vB
 have vD:VI (zD s).2:=eI _ vC
 have vE:VI (zE s).2:=eX vD
 have vF:VI (zF s).2:=eX vE
 have vT:VI (zT s).2:=qA vF
 have vG:VI (zG s).2:=eX vT
 have vH:VI (zH s).2:=eX vG
 have vK:VI (zK s).2:=sL vH
 have vN:VI (zN s).2:=eX vK
 have hn:=jB vK
 have hw:(zS s).w<=1000:=(fN (m:=1000) vB (by omega)).2
 obtain ⟨N,hN⟩:=Int.eq_ofNat_of_zero_le (show 0<=(zN s).1 from hn.1)
 have hN2:N<=4611686018427387904:=by have:(zN s).1<=4611686018427387904:=hn.2; omega
 obtain ⟨m',h1,h2⟩:=vo (zA s).1 (zS s) rfl hw _ rfl N (zN s).2 (-1) [] [] hN2 vN (λ_=>⟨rfl,λp hp=>by cases hp⟩)
 have hR:zR s=dlL N (zS s).w (zS s).h (zN s).2 (-1) []:=by
  unfold zR
  rw [hN,Int.toNat_natCast]
  rfl
 rw [<- hR] at h1 h2
 refine ⟨m',?_,h2⟩
 unfold jr
 have e0:oc s=some ⟨s,0⟩:=rfl
 have e1:bC ⟨s,0⟩=some (zA s):=jA _ v0
 have e2:bC (zA s).2=some (zB s):=jA _ vA
 have e3:gS (zB s).2=some (zC s):=uq vB
 have e4:gS (zC s).2=some (zD s):=uq vC
 have e5:bC (zD s).2=some (zE s):=jA _ vD
 have e6:bC (zE s).2=some (zF s):=jA _ vE
 have e7:hZ (zF s).2=some (zT s):=AU _ vF
 have e8:bC (zT s).2=some (zG s):=jA _ vT
 have e9:bC (zG s).2=some (zH s):=jA _ vG
 have e10:jd (zH s).2=some (zK s):=yT _ vH
 have e11:bC (zK s).2=some (zN s):=jA _ vK
 rw [e0,aA,e1,aA,e2,aA,e3,aA,e4,aA,e5,aA,e6,aA,e7,aA,e8,aA,e9,aA,e10,aA,e11,aA]
 have hS:aC.mk (zB s).1 (zC s).1 (zD s).1 (zE s).1 (zF s).1 (zT s).1 ([]:List aE) (zG s).1 (zH s).1 (zK s).1=zS s:=rfl
 rw [hS,hN,h1,aA,CO,aA]
 rfl
def fU (A:List aE) (l:List (Int×aE)):Nat->Nat->List aE->Option (List aE)
 | 0,_,acc=>some acc
 | k+1,y,acc=>match mgl (y:Int) l,A[y]? with
  | some r,some q=>if q=r then none else fU A l k (y+1) (acc++[r])
  | some r,none=>fU A l k (y+1) (acc++[r])
  | none,some q=>fU A l k (y+1) (acc++[q])
  | none,none=>none
theorem vp (sum:Int) (x a:aC) (l:List (Int×aE)) (H:Nat) (hH:H<=1000) (hh:x.h=(H:Int)) (ha: ∀ r∈a.rows,r.cells.length<=1000000) (f:aZ×Int->Option ((aZ×Int) ⊕ (aZ ⊕ (Bool×aZ)))) (hf:f=(λb=>(bif (decide (b.2 < x.h)) then (Option.bind (fh a b.2) λc=>(Option.bind ((Option.bind ((bif (kU b.1.rows b.2) then (bif c.2 then (Option.bind (fm c.1 (mgd b.1.rows b.2 (aE.mk ([]:List aF) false))) λe=>some e) else some false) else some false):Option Bool) λd=>(Option.bind ((bif d then some d else (bif (!(kU b.1.rows b.2)) then some (!c.2) else some false)):Option Bool) λg=>(bif g then (my (eJ (some (false,(aZ.mk b.1.sum (aC.mk b.1.to.k b.1.to.w b.1.to.h b.1.to.x b.1.to.y b.1.to.title b.1.to.rows b.1.to.len b.1.to.chain b.1.to.begun) b.1.rows))))) else (bif (!(kU b.1.rows b.2)) then some (.inl c.1) else some (.inl (mgd b.1.rows b.2 (aE.mk ([]:List aF) false))))))):Option (aE ⊕ ((aZ×Int) ⊕ (aZ ⊕ (Bool×aZ))))) λ | .inl e1033=>(Option.bind (chk (fu b.1.to.rows.length [e1033].length 32)) λ_=>some (.inl ((aZ.mk b.1.sum (aC.mk b.1.to.k b.1.to.w b.1.to.h b.1.to.x b.1.to.y b.1.to.title (b.1.to.rows++[e1033]) b.1.to.len b.1.to.chain b.1.to.begun) b.1.rows),(IntKind.i64.wrap (b.2+1))))) | .inr w=>some w)) else some (.inr (.inl (aZ.mk b.1.sum (aC.mk b.1.to.k b.1.to.w b.1.to.h b.1.to.x b.1.to.y b.1.to.title b.1.to.rows b.1.to.len b.1.to.chain b.1.to.begun) b.1.rows))))) ) :
  ∀ (k y:Nat) (acc:List aE),y+k=H->acc.length=y ->
  (∀ out,fU a.rows l k y acc=some out->iter f (⟨sum,gZ x acc,some l⟩,(y:Int))=some (.inl ⟨sum,gZ x out,some l⟩))/\(fU a.rows l k y acc=none -> ∃ p',iter f (⟨sum,gZ x acc,some l⟩,(y:Int))=some (.inr (false,p'))):=by
 intro k
 induction k with
 | zero =>
  intro y acc hy hl
  refine ⟨λout ho=> ?_,λho=>by cases ho⟩
  injection ho with ho
  subst ho
  refine bM ?_
  subst hf
  dsimp only
  rw [decide_eq_false (by omega),cond_false]
 | succ k ih =>
  intro y acc hy hl
  have hgo: ∀ r:aE,(∀ out,fU a.rows l k (y+1) (acc++[r])=some out->iter f (⟨sum,gZ x (acc++[r]),some l⟩,((y+1:Nat):Int))=some (.inl ⟨sum,gZ x out,some l⟩))/\(fU a.rows l k (y+1) (acc++[r])=none -> ∃ p',iter f (⟨sum,gZ x (acc++[r]),some l⟩,((y+1:Nat):Int))=some (.inr (false,p'))):=λr=>ih (y+1) (acc++[r]) (by omega) (by simp [hl])
  have hap:chk (fu acc.length 1 32)=some ():=cF (by omega)
  have hwr:IntKind.i64.wrap ((y:Int)+1)=((y+1:Nat):Int):=by rw [w64 (by omega) (by omega)]; rfl
  -- a step that goes on with a row
  have hon: ∀ r:aE,f (⟨sum,gZ x acc,some l⟩,(y:Int))=some (.inl (⟨sum,gZ x (acc++[r]),some l⟩,((y+1:Nat):Int)))->fU a.rows l (k+1) y acc=fU a.rows l k (y+1) (acc++[r])->(∀ out,fU a.rows l (k+1) y acc=some out->iter f (⟨sum,gZ x acc,some l⟩,(y:Int))=some (.inl ⟨sum,gZ x out,some l⟩))/\(fU a.rows l (k+1) y acc=none -> ∃ p',iter f (⟨sum,gZ x acc,some l⟩,(y:Int))=some (.inr (false,p'))):=by
   intro r h1 h2
   rw [h2,cM h1]
   exact hgo r
  have hoff:(∃ p',f (⟨sum,gZ x acc,some l⟩,(y:Int))=some (.inr (.inr (false,p'))))->fU a.rows l (k+1) y acc=none->(∀ out,fU a.rows l (k+1) y acc=some out->iter f (⟨sum,gZ x acc,some l⟩,(y:Int))=some (.inl ⟨sum,gZ x out,some l⟩))/\(fU a.rows l (k+1) y acc=none -> ∃ p',iter f (⟨sum,gZ x acc,some l⟩,(y:Int))=some (.inr (false,p'))):=by
   rintro ⟨p',h1⟩ h2
   rw [h2]
   exact ⟨λout ho=>(by cases ho),λ_=>⟨p',bM h1⟩⟩
  have hd:decide ((y:Int) < x.h)=true:=decide_eq_true (by omega)
  cases hm:mgl (y:Int) l with
  | some r =>
   have m1:kU (some l) (y:Int)=true:=by simp [kU,hm]
   have m2: ∀ z,mgd (some l) (y:Int) z=r:=λz=>by simp [mgd,hm]
   by_cases hya:y < a.rows.length
   ·have e1:a.rows[y]?=some a.rows[y]:=List.getElem?_eq_getElem hya
    by_cases hq:a.rows[y]=r
    ·refine hoff ⟨⟨sum,gZ x acc,some l⟩,?_⟩ (by simp only [fU,hm,e1,if_pos hq])
     subst hf
     dsimp only
     rw [hd,cond_true,oy a y hya,aA]
     dsimp only
     rw [m1,m2,cond_true,cond_true,pU _ _ (ha _ (List.getElem_mem hya)),decide_eq_true hq]
     rfl
    ·refine hon r ?_ (by simp only [fU,hm,e1,if_neg hq])
     subst hf
     dsimp only
     rw [hd,cond_true,oy a y hya,aA]
     dsimp only
     rw [m1,m2,cond_true,cond_true,pU _ _ (ha _ (List.getElem_mem hya)),decide_eq_false hq]
     show Option.bind (chk (fu acc.length 1 32)) _=_
     rw [hap,aA,hwr]
     rfl
   ·have e1:a.rows[y]?=none:=List.getElem?_eq_none (by omega)
    refine hon r ?_ (by simp only [fU,hm,e1])
    subst hf
    dsimp only
    rw [hd,cond_true,o3 a y hya,aA]
    dsimp only
    rw [m1,m2]
    show Option.bind (chk (fu acc.length 1 32)) _=_
    rw [hap,aA,hwr]
    rfl
  | none =>
   have m1:kU (some l) (y:Int)=false:=by simp [kU,hm]
   by_cases hya:y < a.rows.length
   ·have e1:a.rows[y]?=some a.rows[y]:=List.getElem?_eq_getElem hya
    refine hon a.rows[y] ?_ (by simp only [fU,hm,e1])
    subst hf
    dsimp only
    rw [hd,cond_true,oy a y hya,aA]
    dsimp only
    rw [m1]
    show Option.bind (chk (fu acc.length 1 32)) _=_
    rw [hap,aA,hwr]
    rfl
   ·have e1:a.rows[y]?=none:=List.getElem?_eq_none (by omega)
    refine hoff ⟨⟨sum,gZ x acc,some l⟩,?_⟩ (by simp only [fU,hm,e1])
    subst hf
    dsimp only
    rw [hd,cond_true,o3 a y hya,aA]
    dsimp only
    rw [m1]
    rfl
end Go.Tw.X

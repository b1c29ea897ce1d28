import Derived.Test.YtgiokjfkjaoeiaaGreatDoorXq2
import Derived.Test.YtgiokjfkjaoeiaaGreatDoorXp1
import Derived.Test.YtgiokjfkjaoeiaaGreatDoorFw2
set_option linter.unusedVariables false
set_option linter.unusedSimpArgs false
namespace Go.Tw.X
open Go Go.Tw
def ptN (size:Int):Nat:=(max 1 (min size 8000)).toNat
theorem NR (size:Int):imax 1 (eN size 8000)=(ptN size:Int):=by rw [gy,dQ]; unfold ptN; omega
theorem FM (n:Int):1≤ptN n:=by unfold ptN; omega
theorem NS (n:Int):ptN n≤8000:=by unfold ptN; omega
def ny (z n:Nat):Nat:=max 1 ((z+n - 1) / n)
def tR (s:ByteArray) (n i:Nat):ByteArray:=ie s ((i*n:Nat):Int) ((min s.size (i*n+n):Nat):Int)
def qU (s:ByteArray) (n:Nat):List ByteArray:=(List.range (ny s.size n)).map (tR s n)
theorem vg (s:ByteArray) (n:Nat):(qU s n).length=ny s.size n:=by unfold qU; rw [List.length_map,List.length_range]
theorem Bh (z n:Nat):1≤ny z n:=by unfold ny; omega
theorem JF (z n:Nat) (h:1≤n):ny z n≤z+1:=by
 unfold ny
 have:(z+n - 1) / n≤z+1:=Nat.le_of_lt_succ ((Nat.div_lt_iff_lt_mul (by omega)).2 (by
  have h1:z*1≤z*n:=Nat.mul_le_mul_left _ h
  have h2:(z+1+1)*n=z*n+n+n:=by rw [Nat.add_mul,Nat.add_mul,Nat.one_mul]
  rw [Nat.succ_eq_add_one,h2]
  omega))
 omega
theorem yN {z n i:Nat} (h:1≤n):i+1 < ny z n↔i*n+n < z:=by
 unfold ny
 have h2:(i+2)*n=i*n+n+n:=by rw [Nat.add_mul]; omega
 have key:i+2≤(z+n - 1) / n↔(i+2)*n≤z+n - 1:=Nat.le_div_iff_mul_le (by omega)
 omega
theorem NT {z n i:Nat} (h:1≤n) (hi:i < ny z n):i*n≤z:=by
 cases i with
 | zero=>omega
 | succ i =>
  have:=(yN h).1 hi
  rw [Nat.add_mul]
  omega
theorem GR (s:ByteArray) (a b:Nat) (h:b≤s.size):(ie s a b).size=b - a:=by
 rw [← bD,gI,List.length_drop,List.length_take,bD]
 omega
theorem Ae (s:ByteArray):ie s 0 (s.size:Int)=s:=by
 apply qM
 have:=gI s 0 s.size
 rw [show ie s 0 (s.size:Int)=ie s ((0:Nat):Int) (s.size:Int) from rfl,this,List.drop_zero,← bD,List.take_length]
theorem Af (s:ByteArray) (a b c d:Nat) (h:a+d≤b):ie (ie s a b) c d=ie s ((a+c:Nat):Int) ((a+d:Nat):Int):=by
 apply qM
 rw [gI,gI,gI,List.take_drop,List.take_take,List.drop_drop]
 rw [show min (a+d) b=a+d by omega]
theorem GS (s:ByteArray) (size:Int) (h:s.size≤1000000):mm s size=some (qU s (ptN size)):=by
 unfold mm
 rw [NR]
 have hp:=FM size
 have hl:=NS size
 generalize ptN size=n at hp hl
 have hc:=Bh s.size n
 have hcl:=JF s.size n hp
 have hz: ∀ i,(ie s ((i*n:Nat):Int) (s.size:Int)).size=s.size - i*n:=fun i=>GR _ _ _ (Nat.le_refl _)
 refine gA (fun i=>(ie s ((i*n:Nat):Int) (s.size:Int),(List.range i).map (tR s n))) (ny s.size n - 1) (ie s (((ny s.size n - 1)*n:Nat):Int) (s.size:Int),(List.range (ny s.size n - 1)).map (tR s n)) ?_ ?_ ?_ ?_
 ·rw [Nat.zero_mul,show ((0:Nat):Int)=0 from rfl,Ae]
  rfl
 ·intro i hi
  have h1:i*n+n < s.size:=(yN hp).1 (by omega)
  dsimp only
  rw [hz,decide_eq_true (by omega),cond_true,bM (by omega) (by omega) (by omega),aA,bL (by simp; omega),aA,bM (by omega) (by omega) (by omega),aA]
  have e1:ie (ie s ((i*n:Nat):Int) (s.size:Int)) (n:Int) ((s.size - i*n:Nat):Int)=ie s (((i+1)*n:Nat):Int) (s.size:Int):=by
   rw [Af _ _ _ _ _ (by omega),Nat.add_mul,Nat.one_mul,show i*n+(s.size - i*n)=s.size by omega]
  have e2:ie (ie s ((i*n:Nat):Int) (s.size:Int)) 0 (n:Int)=tR s n i:=by
   rw [show (0:Int)=((0:Nat):Int) from rfl,Af _ _ _ _ _ (by omega),Nat.add_zero]
   unfold tR
   rw [show min s.size (i*n+n)=i*n+n by omega]
  rw [e1,e2,List.range_succ,List.map_append]
  rfl
 ·have h1: ¬ ((ny s.size n - 1)*n+n < s.size):=fun hh=>by
   have:=(yN (z:=s.size) hp).2 hh
   omega
  dsimp only
  rw [hz,decide_eq_false (by omega),cond_false]
 ·dsimp only
  rw [bL (by simp; omega),aA]
  have h1: ¬ ((ny s.size n - 1)*n+n < s.size):=fun hh=>by
   have:=(yN (z:=s.size) hp).2 hh
   omega
  have e:ie s (((ny s.size n - 1)*n:Nat):Int) (s.size:Int)=tR s n (ny s.size n - 1):=by
   unfold tR
   rw [show min s.size ((ny s.size n - 1)*n+n)=s.size by omega]
  rw [e]
  unfold qU
  conv=>rhs; rw [show ny s.size n=(ny s.size n - 1)+1 by omega,List.range_succ,List.map_append]
  rfl
end Go.Tw.X
set_option linter.unusedVariables false
set_option linter.unusedSimpArgs false
namespace Go.Tw.X
open Go Go.Tw
theorem NU (s:aP):aP.mk (dF.mk s.config.part s.config.every s.config.most) (aI.mk s.current.k s.current.w s.current.h s.current.x s.current.y s.current.title s.current.rows s.current.len s.current.chain s.current.begun) (aI.mk s.aY.k s.aY.w s.aY.h s.aY.x s.aY.y s.aY.title s.aY.rows s.aY.len s.aY.chain s.aY.begun) s.kept (bU.mk s.message.id s.message.key s.message.base s.message.parts s.message.there s.message.due) s.next=s:=rfl
def JG (m:bU) (i:Nat):Option (Int×ByteArray):=if m.there[i]?=some true then none else some ((i:Int),(m.parts[i]?).getD noS)
def yO (m:bU) (n:Nat):List (Int×ByteArray):=(List.range n).filterMap (JG m)
def FN (m:bU):List (Int×ByteArray):=yO m m.parts.length
theorem GU (m:bU) (n:Nat):(yO m n).length≤n:=by
 have:=List.length_filterMap_le (JG m) (List.range n)
 rw [List.length_range] at this
 exact this
theorem yP (m:bU) (n:Nat):yO m (n+1)=yO m n++(if m.there[n]?=some true then [] else [((n:Int),(m.parts[n]?).getD noS)]):=by
 unfold yO
 rw [List.range_succ,List.filterMap_append]
 congr 1
 unfold JG
 by_cases h:m.there[n]?=some true
 ·simp [h]
 ·simp [h]
theorem JH {α:Type} (m:bU) (F:Int×ByteArray→α) (Y:List α→Int×ByteArray→Option (List α×Bool)) (hl:m.there.length=m.parts.length) (hp:m.parts.length≤1000000) (hY: ∀ (l:List α) x,l.length≤1000000→Y l x=some (l++[F x],true)):gY m Y []=some ((FN m).map F):=by
 unfold gY
 refine gA (fun i:Nat=>((i:Int),(yO m i).map F)) m.parts.length (.inl ((FN m).map F)) rfl ?_ ?_ rfl
 ·intro i hi
  have hi2:i < m.there.length:=by omega
  have hn:=GU m i
  dsimp only
  rw [decide_eq_true (by omega),cond_true,dG _ _ hi,aA,dG _ _ hi2,aA,yP,List.getElem?_eq_getElem hi2,List.getElem?_eq_getElem hi]
  cases hb:m.there[i] with
  | true =>
   rw [Bool.not_true,cond_false,aA,cond_false,w64 (by omega) (by omega),if_pos rfl,List.append_nil]
   rfl
  | false =>
   rw [Bool.not_false,cond_true,hY _ _ (by rw [List.length_map]; omega),aA,Bool.not_true,aA,cond_false,w64 (by omega) (by omega),if_neg (by simp),List.map_append]
   rfl
 ·dsimp only
  rw [decide_eq_false (by omega),cond_false]
  rfl
def gr (m:bU) (x:Int×ByteArray):eR:=⟨1,1,[m.id,m.key,m.base,x.1,(m.parts.length:Int)],x.2⟩
def Bi (m:bU):List eR:=(FN m).map (gr m)
def has (k:Int) (l:List aI):Bool:=l.any fun x=>x.k == k
def NV (s:aP) (now:Int):bU:=⟨s.next,s.current.k,s.aY.k,qU (kq s.aY s.current) (ptN s.config.part),List.replicate (qU (kq s.aY s.current) (ptN s.config.part)).length false,now⟩
def uz (s:aP):List aI:=if has s.current.k s.kept then s.kept else s.kept++[s.current]
def Ea (s:aP) (now:Int):aP:=⟨s.config,s.current,s.aY,(uz s).drop ((uz s).length - s.config.most.toNat),NV s now,IntKind.i64.wrap (s.next+1)⟩
structure SNI (s:aP):Prop where
 cur:CT1 s.current
 ack:CT1 s.aY
 kp: ∀ x∈s.kept,CT1 x
 m0:1≤s.config.most∧s.config.most≤64
 kl:(s.kept.length:Int)≤s.config.most
 pl:s.message.parts.length≤61001
 tl:s.message.there.length=s.message.parts.length
 so:s.kept.Pairwise fun x y=>x.k < y.k
 ck: ∀ x∈s.kept,x.k≤s.current.k
theorem NW (l:List aI) (S:aP) (hl:l.length≤1000000):cB l S=some (has S.current.k l):=by
 unfold cB cZ has
 obtain ⟨q,h1,h2⟩:=find_eq l (fun x=>x.k == S.current.k) hl (fun a=>(bif (decide (a < (l.length:Int))) then (Option.bind (idx l a) fun b=>(Option.bind (fJ b S) fun c=>(bif c then (kY (some a)) else some (.inl (IntKind.i64.wrap (a+1)))))) else some (.inr (.inl ())))) (by
  intro n hn
  unfold fJ
  rw [decide_eq_true (by omega),cond_true,dG l n hn,aA,aA,w64 (by omega) (by omega)]
  cases (l[n].k == S.current.k) <;> rfl) (by
  rw [decide_eq_false (by omega),cond_false])
 rw [h1,aA]
 rcases h2 with ⟨rfl,h3⟩ | ⟨w,rfl,h4,h3⟩
 ·rw [h3]
  rfl
 ·rw [h3]
  show some (decide (w≥0))=some true
  rw [decide_eq_true h4]
theorem JI (s:aP):(uz s).length≤s.kept.length+1:=by
 unfold uz
 split
 ·omega
 ·simp
theorem Ag (s:aP) (h:SNI s):(qU (kq s.aY s.current) (ptN s.config.part)).length≤61001:=by
 have h1:=uy s.aY s.current h.cur.sw (by have:=h.cur.pk; omega)
 have h2:=JF (kq s.aY s.current).size (ptN s.config.part) (FM _)
 rw [vg]
 omega
theorem JJ {α:Type} (l:List α) (a:Nat):cut l (a:Int) (l.length:Int)=l.drop a:=by rw [qL,List.take_length]
theorem CE (s:aP) (now:Int) (h:SNI s):fZ s now=some (Ea s now):=by
 unfold fZ
 have h1:=uy s.aY s.current h.cur.sw (by have:=h.cur.pk; omega)
 have h2:=Ag s h
 have hk:=h.kl
 have hm:=h.m0
 rw [diff_eq _ _ h.ack.sw h.cur.sw (by have:=h.ack.pk; omega) (by have:=h.cur.pk; omega),aA,GS _ _ (by omega),aA,zy (by omega) (by omega) (by omega),aA,NW _ _ (by omega),aA,Int.toNat_natCast]
 dsimp only
 have hlen:=JI s
 have fin: ∀ e:aP,e=⟨s.config,s.current,s.aY,uz s,NV s now,IntKind.i64.wrap (s.next+1)⟩→(Option.bind (chk (dB (imax 0 (IntKind.i64.wrap ((e.kept.length:Int) - e.config.most))) (e.kept.length:Int) e.kept.length)) fun _=>some (aP.mk (dF.mk e.config.part e.config.every e.config.most) (aI.mk e.current.k e.current.w e.current.h e.current.x e.current.y e.current.title e.current.rows e.current.len e.current.chain e.current.begun) (aI.mk e.aY.k e.aY.w e.aY.h e.aY.x e.aY.y e.aY.title e.aY.rows e.aY.len e.aY.chain e.aY.begun) (cut e.kept (imax 0 (IntKind.i64.wrap ((e.kept.length:Int) - e.config.most))) (e.kept.length:Int)) (bU.mk e.message.id e.message.key e.message.base e.message.parts e.message.there e.message.due) e.next))=some (Ea s now):=by
  rintro e rfl
  dsimp only
  rw [w64 (by omega) (by omega),show imax 0 (((uz s).length:Int) - s.config.most)=(((uz s).length - s.config.most.toNat:Nat):Int) by rw [gy]; omega,bM (by omega) (by omega) (by omega),aA,JJ]
  rfl
 cases hh:has s.current.k s.kept with
 | true =>
  rw [Bool.not_true,cond_false,aA]
  exact fin _ (by unfold uz; rw [hh,if_pos rfl]; rfl)
 | false =>
  rw [Bool.not_false,cond_true,bL (by simp; omega),aA,aA]
  exact fin _ (by unfold uz; rw [hh,if_neg (by simp)]; rfl)
theorem GV {k:Int} {l:List aI} (h:has k l=false): ∀ x∈l,x.k≠k:=by
 intro x hx he
 have:has k l=true:=List.any_eq_true.2 ⟨x,hx,by simp [he]⟩
 rw [h] at this
 cases this
theorem NX {s:aP} (now:Int) (h:SNI s):SNI (Ea s now):=by
 have hm:=h.m0
 have hk: ∀ x∈uz s,CT1 x∧x.k≤s.current.k:=by
  unfold uz
  split
  ·exact fun x hx=>⟨h.kp x hx,h.ck x hx⟩
  ·intro x hx
   rcases List.mem_append.1 hx with hx | hx
   ·exact ⟨h.kp x hx,h.ck x hx⟩
   ·rw [List.mem_singleton.1 hx]
    exact ⟨h.cur,Int.le_refl _⟩
 have hs:(uz s).Pairwise fun x y=>x.k < y.k:=by
  unfold uz
  split
  ·exact h.so
  ·rename_i hh
   rw [List.pairwise_append]
   refine ⟨h.so,List.pairwise_singleton ..,?_⟩
   intro x hx y hy
   rw [List.mem_singleton.1 hy]
   have h1:=h.ck x hx
   have h2:=GV (by simpa using hh) x hx
   omega
 refine ⟨h.cur,h.ack,fun x hx=>(hk x (List.mem_of_mem_drop hx)).1,hm,?_,Ag s h,by show (List.replicate _ false).length=_; rw [List.length_replicate]; rfl,hs.sublist (List.drop_sublist _ _),fun x hx=>(hk x (List.mem_of_mem_drop hx)).2⟩
 show (((uz s).drop ((uz s).length - s.config.most.toNat)).length:Int)≤s.config.most
 rw [List.length_drop]
 omega
def Ms:bU:=⟨0,0,0,[],[],0⟩
def Pk (s:aP) (d:Int):aP:=⟨s.config,s.current,s.aY,s.kept,⟨s.message.id,s.message.key,s.message.base,s.message.parts,s.message.there,d⟩,s.next⟩
def wy (s:aP):Bool:=(s.message.id == 0) || ((s.message.key != s.current.k) || (s.message.base != s.aY.k))
def nQ (s:aP) (now:Int):aP:=if wy s then Ea s now else s
def yQ (s:aP) (now:Int):List eR×aP :=
 if s.current.k=s.aY.k then ([],⟨s.config,s.current,s.aY,s.kept,Ms,s.next⟩)
 else if now < (nQ s now).message.due then ([],nQ s now)
 else (Bi (nQ s now).message,Pk (nQ s now) (IntKind.i64.wrap (now+s.config.every)))
theorem JK {s:aP} (now:Int) (h:SNI s):SNI (nQ s now):=by
 unfold nQ
 split
 ·exact NX now h
 ·exact h
theorem GW (s:aP) (now:Int):(nQ s now).config=s.config:=by unfold nQ; split <;> rfl
theorem JL (s:aP):((bif (s.message.id == 0) then some true else (bif (s.message.key != s.current.k) then some true else some (s.message.base != s.aY.k))):Option Bool)=some (wy s):=by
 unfold wy
 cases (s.message.id == 0) <;> cases (s.message.key != s.current.k) <;> rfl
theorem GX (s:aP) (now:Int) (h:SNI s):fK s now=some (yQ s now):=by
 unfold fK
 simp only [NU]
 by_cases hk:s.current.k=s.aY.k
 ·rw [show (s.current.k == s.aY.k)=true by simp [hk],cond_true]
  unfold yQ
  rw [if_pos hk]
  rfl
 ·rw [show (s.current.k == s.aY.k)=false by simp [hk],cond_false,JL,aA]
  have hb:((bif wy s then (Option.bind (fZ s now) fun c=>some c) else some s):Option aP)=some (nQ s now):=by
   unfold nQ
   cases wy s with
   | true=>rw [cond_true,CE s now h,aA,if_pos rfl]
   | false=>rw [cond_false,if_neg (by simp)]
  rw [hb,aA]
  have hS:=JK now h
  have hc:=GW s now
  unfold yQ
  rw [if_neg hk]
  generalize nQ s now=e at hS hc
  by_cases hd:now < e.message.due
  ·rw [decide_eq_true hd,cond_true,if_pos hd]
  ·rw [decide_eq_false hd,cond_false,if_neg hd]
   have hpl:=hS.pl
   have:=JH ⟨e.message.id,e.message.key,e.message.base,e.message.parts,e.message.there,IntKind.i64.wrap (now+e.config.every)⟩ (gr e.message) (fun b a=>(Option.bind (chk (eO b.length ([(eR.mk 1 1 [e.message.id,e.message.key,e.message.base,a.1,(e.message.parts.length:Int)] a.2)]).length 56)) fun _=>some ((b++[(eR.mk 1 1 [e.message.id,e.message.key,e.message.base,a.1,(e.message.parts.length:Int)] a.2)]),true))) hS.tl (by show e.message.parts.length≤_; omega) (by
    intro l x hl
    rw [bL (by simp; omega),aA]
    rfl)
   rw [this,aA,← hc]
   rfl
end Go.Tw.X
set_option linter.unusedVariables false
set_option linter.unusedSimpArgs false
namespace Go.Tw.X
open Go Go.Tw
def Pm (h:ByteArray) (i:Nat):Bool:=match (sbs h)[i / 8]? with | some b=>decide ((b / 2 ^ (i % 8)) % 2=1) | none=>false
theorem FP:CT1 jn:=⟨BV,by decide⟩
end Go.Tw.X
set_option linter.unusedVariables false
set_option linter.unusedSimpArgs false
namespace Go.Tw.X
open Go Go.Tw
def nuS (c:dF):aP:=⟨⟨imax 1 (eN c.part 8000),imax 1 (eN c.every 1048576),imax 1 (eN c.most 64)⟩,jn,jn,[],Ms,1⟩
theorem yR (c:dF):m9 c=some (nuS c):=rfl
theorem NY (c:dF):SNI (nuS c):=by
 have hm:imax 1 (eN c.most 64)=max 1 (min c.most 64):=by rw [gy,dQ]
 refine ⟨FP,FP,fun x hx=>(by cases hx),?_,?_,Nat.zero_le _,rfl,List.Pairwise.nil,fun x hx=>(by cases hx)⟩
 ·show 1≤imax 1 (eN c.most 64)∧imax 1 (eN c.most 64)≤64
  omega
 ·show (0:Int)≤imax 1 (eN c.most 64)
  omega
def setCur (s:aP) (x:aI):aP:=⟨s.config,x,s.aY,s.kept,s.message,s.next⟩
def Ah (s:aP) (x:aI):Bool×aP:=if nC x=false∨x.k≤s.current.k then (false,s) else (true,setCur s x)
theorem JM (s:aP) (x:aI) (h:SW x):fI s x=some (Ah s x):=by
 unfold fI Ah
 rw [uU x h,aA,v7 x h]
 by_cases hm:nC x=true
 ·rw [hm,if_pos rfl,show ((0:Int) != 0)=false from rfl,cond_false,aA]
  by_cases hk:x.k≤s.current.k
  ·rw [decide_eq_true hk,cond_true,if_pos (.inr hk)]
  ·rw [decide_eq_false hk,cond_false,if_neg (by simp [hk]),aA]
   rfl
 ·have hm2:nC x=false:=by simpa using hm
  rw [hm2,if_neg (by simp),show ((1:Int) != 0)=true from rfl,cond_true,aA,cond_true,if_pos (Or.inl rfl)]
theorem LY {s:aP} {x:aI} (h:SNI s) (hx:CT1 x):SNI (Ah s x).2:=by
 unfold Ah
 split
 ·exact h
 ·rename_i hn
  exact ⟨hx,h.ack,h.kp,h.m0,h.kl,h.pl,h.tl,h.so,fun y hy=>by have:=h.ck y hy; show y.k≤x.k; omega⟩
theorem Ec {s:aP} (now:Int) (hk:s.current.k≠s.aY.k) (hf:wy s=true):yQ s now=(Bi (NV s now),Pk (Ea s now) (IntKind.i64.wrap (now+s.config.every))):=by
 have e:nQ s now=Ea s now:=by unfold nQ; rw [hf,if_pos rfl]
 unfold yQ
 rw [if_neg hk,e,if_neg (show ¬ now < (Ea s now).message.due from Int.lt_irrefl now)]
 rfl
theorem JN {m:bU} (h:m.there=List.replicate m.parts.length false):FN m=(List.range m.parts.length).map fun i:Nat=>((i:Int),(m.parts[i]?).getD noS):=by
 have key: ∀ n,n≤m.parts.length→yO m n=(List.range n).map fun i:Nat=>((i:Int),(m.parts[i]?).getD noS):=by
  intro n
  induction n with
  | zero=>intro _; rfl
  | succ n ih =>
   intro hn
   rw [yP,ih (by omega),List.range_succ,List.map_append,show m.there[n]?=some false by rw [h,List.getElem?_replicate,if_pos (by omega)],if_neg (by simp)]
   rfl
 exact key _ (Nat.le_refl _)
end Go.Tw.X
set_option linter.unusedVariables false
set_option linter.unusedSimpArgs false
namespace Go.Tw.X
open Go Go.Tw
theorem GY (s:ByteArray) (n i:Nat) (hi:i*n≤s.size):ie s 0 ((min s.size (i*n):Nat):Int)++tR s n i=ie s 0 ((min s.size ((i+1)*n):Nat):Int):=by
 apply qM
 unfold tR
 rw [oV,show (0:Int)=((0:Nat):Int) from rfl,gI,gI,gI,List.drop_zero,List.drop_zero,show min s.size (i*n)=i*n by omega,Nat.add_mul,Nat.one_mul]
 have h2:i*n≤min s.size (i*n+n):=by omega
 generalize min s.size (i*n+n)=b at h2
 have:=List.take_append_drop (i*n) ((sbs s).take b)
 rw [List.take_take,show min (i*n) b=i*n by omega] at this
 exact this
end Go.Tw.X
set_option linter.unusedVariables false
set_option linter.unusedSimpArgs false
set_option maxHeartbeats 1000000
namespace Go.Tw.X
open Go Go.Tw
theorem Ed: ∀ (n:Nat) (l:List Nat),l.Nodup→(∀ x∈l,x < n)→l.length≤n∧(l.length=n → ∀ i,i < n→i∈l)
 | 0,l,_,h=>by
  have:l=[]:=by
   cases l with
   | nil=>rfl
   | cons a l=>exact absurd (h a List.mem_cons_self) (Nat.not_lt_zero a)
  subst this
  exact ⟨Nat.le_refl _,fun _ i hi=>absurd hi (Nat.not_lt_zero i)⟩
 | n+1,l,hn,h=>by
  by_cases hm:n∈l
  ·have hl:=List.length_erase_of_mem hm
   have hpos:0 < l.length:=List.length_pos_of_mem hm
   obtain ⟨h1,h2⟩:=Ed n (l.erase n) (hn.erase n) (fun x hx=>by
    have h3:=(hn.mem_erase_iff.1 hx)
    have:=h x h3.2
    have:=h3.1
    omega)
   refine ⟨by omega,fun e i hi=> ?_⟩
   by_cases hin:i=n
   ·rw [hin]; exact hm
   ·exact List.mem_of_mem_erase (h2 (by omega) i (by omega))
  ·obtain ⟨h1,h2⟩:=Ed n l hn (fun x hx=>by
    have:=h x hx
    have:x≠n:=fun e=>hm (e ▸ hx)
    omega)
   exact ⟨by omega,fun e=>by omega⟩
structure SL (P:List ByteArray) (l:List (Int×ByteArray)):Prop where
 nd:(l.map Prod.fst).Nodup
 at_: ∀ p∈l,∃ i:Nat,p.1=(i:Int)∧P[i]?=some p.2
theorem JO (P:List ByteArray):SL P []:=⟨List.nodup_nil,fun p hp=>by cases hp⟩
theorem yS {α:Type} {k:Int}: ∀ {l:List (Int×α)},mgl k l=none → ∀ p∈l,p.1≠k
 | [],_,p,hp=>by cases hp
 | (j,y)::l,h,p,hp=>by
  unfold mgl at h
  split at h
  ·cases h
  ·rename_i hne
   rcases List.mem_cons.1 hp with rfl | hp
   ·exact fun e=>hne e.symm
   ·exact yS h p hp
theorem qV {α:Type} {k:Int} {x:α}: ∀ {l:List (Int×α)},(l.map Prod.fst).Nodup→(k,x)∈l→mgl k l=some x
 | (j,y)::l,hn,hm=>by
  rw [List.map_cons,List.nodup_cons] at hn
  unfold mgl
  rcases List.mem_cons.1 hm with h | h
  ·injection h with h1 h2
   rw [if_pos h1,h2]
  ·split
   ·rename_i e
    exact absurd (List.mem_map_of_mem (f:=Prod.fst) h) (by rw [e]; exact hn.1)
   ·exact qV hn.2 h
theorem SL.add {P:List ByteArray} {l:List (Int×ByteArray)} (h:SL P l) {i:Nat} {d:ByteArray} (hi:P[i]?=some d) (hn:mgl (i:Int) l=none):SL P (msl (i:Int) d l)∧msl (i:Int) d l=l++[((i:Int),d)]:=by
 have e:=Bf (i:Int) d l (yS hn)
 refine ⟨?_,e⟩
 rw [e]
 refine ⟨?_,fun p hp=> ?_⟩
 ·rw [List.map_append,List.nodup_append]
  refine ⟨h.nd,by simp,fun a ha b hb=> ?_⟩
  obtain ⟨p,hp,rfl⟩:=List.mem_map.1 ha
  simp at hb
  rw [hb]
  exact yS hn p hp
 ·rcases List.mem_append.1 hp with hp | hp
  ·exact h.at_ p hp
  ·rw [List.mem_singleton.1 hp]; exact ⟨i,rfl,hi⟩
theorem SL.le {P:List ByteArray} {l:List (Int×ByteArray)} (h:SL P l):l.length≤P.length∧(l.length=P.length → ∀ i (hi:i < P.length),mgl (i:Int) l=some P[i]):=by
 have hk: ∀ p∈l,p.1=((p.1.toNat:Nat):Int):=fun p hp=>by
  obtain ⟨i,e,_⟩:=h.at_ p hp
  rw [e]; simp
 have hnd:(l.map fun p=>p.1.toNat).Nodup:=by
  have h1:=h.nd
  rw [List.nodup_iff_pairwise_ne] at h1 ⊢
  rw [List.pairwise_map] at h1 ⊢
  refine List.Pairwise.imp_of_mem ?_ h1
  intro a b ha hb hne e
  exact hne (by rw [hk a ha,hk b hb,e])
 obtain ⟨p1,p2⟩:=Ed P.length (l.map fun p=>p.1.toNat) hnd (fun x hx=>by
  obtain ⟨p,hp,rfl⟩:=List.mem_map.1 hx
  obtain ⟨i,e,hi⟩:=h.at_ p hp
  rw [e,Int.toNat_natCast]
  exact (List.getElem?_eq_some_iff.1 hi).1)
 rw [List.length_map] at p1 p2
 refine ⟨p1,fun e i hi=> ?_⟩
 obtain ⟨p,hp,hpi⟩:=List.mem_map.1 (p2 e i hi)
 obtain ⟨j,ej,hj⟩:=h.at_ p hp
 have hji:j=i:=by rw [ej,Int.toNat_natCast] at hpi; exact hpi
 subst hji
 rw [List.getElem?_eq_getElem hi] at hj
 refine qV h.nd ?_
 rw [Option.some.inj hj,← ej]
 exact hp
theorem wz {σ:Type} {s:cG} {n:Nat} (hc:s.count=(n:Int)) (hn:n≤1000000) (Y:σ→Int×Bool→Option (σ×Bool)) (S:Nat→σ) (h: ∀ i,i < n→Y (S i) ((i:Int),rB s.parts (i:Int))=some (S (i+1),true)):iZ s Y (S 0)=some (S n):=by
 unfold iZ
 refine gA (fun i:Nat=>((i:Int),S i)) n (.inl (S n)) rfl ?_ ?_ rfl
 ·intro i hi
  dsimp only
  rw [hc,decide_eq_true (by omega),cond_true,h i hi,aA]
  dsimp only
  rw [Bool.not_true,cond_false,w64 (by omega) (by omega)]
  rfl
 ·dsimp only
  rw [hc,decide_eq_false (by omega),cond_false]
def oa (P:List ByteArray):List Int:=P.flatMap sbs
theorem uA (P:List ByteArray) (i:Nat) (h:i < P.length):oa (P.take (i+1))=oa (P.take i)++sbs P[i]:=by
 unfold oa
 rw [List.take_succ_eq_append_getElem h,List.flatMap_append]
 simp
theorem Ee {P:List ByteArray} {l:List (Int×ByteArray)} {id b:Int} (hid:1≤id) (h:SL P l) (hP:P.length≤4096) (hb:(oa P).length≤1000000) :
  jH ⟨id,(P.length:Int),some l,b⟩=some (if l.length < P.length then (noS,false) else (gZ (oa P),true)):=by
 obtain ⟨h1,h2⟩:=h.le
 unfold jH
 dsimp only
 rw [eF (by omega),cond_false,aA]
 show (bif decide (((l.length:Nat):Int) < (P.length:Int)) then _ else _)=_
 by_cases c:l.length < P.length
 ·rw [decide_eq_true (by omega),cond_true,if_pos c]
  rfl
 ·rw [decide_eq_false (by omega),cond_false,if_neg c]
  have hall:=h2 (by omega)
  have hpre: ∀ i,(oa (P.take i)).length≤(oa P).length:=fun i=>by
   have e:oa P=oa (P.take i)++oa (P.drop i):=by
    unfold oa
    rw [← List.flatMap_append,List.take_append_drop]
   rw [e,List.length_append]
   omega
  have e:=wz (s:=⟨id,(P.length:Int),some l,b⟩) (n:=P.length) rfl (by omega) (fun a f=>(Option.bind (eW (cT.mk a.addr a.buf) (mgd (some l) f.1 (ByteArray.mk #[]))) fun d=>some ((cT.mk d.addr d.buf),true))) (fun i=>cT.mk (decide (0 < i)) (oa (P.take i))) (fun i hi=>by
   dsimp only
   have hg:mgd (some l) (i:Int) (ByteArray.mk #[])=P[i]:=by
    unfold mgd
    rw [Option.getD_some,hall i hi,Option.getD_some]
   have h3:=hpre (i+1)
   rw [uA P i hi,List.length_append,bD] at h3
   rw [hg]
   unfold eW
   rw [bL (by dsimp only; omega),aA,aA,uA P i hi]
   rfl)
  try dsimp only at e
  rw [show (cT.mk false ([]:List Int))=cT.mk (decide (0 < 0)) (oa (P.take 0)) from rfl,e,aA]
  try dsimp only
  rw [List.take_length]
  rfl
end Go.Tw.X
set_option linter.unusedVariables false
set_option linter.unusedSimpArgs false
set_option maxHeartbeats 1000000
namespace Go.Tw.X
open Go Go.Tw
theorem Ai {α:Type} [BEq α] [LawfulBEq α]: ∀ (A B:List α),A.Nodup→(∀ x∈A,x∈B)→A.length≤B.length
 | [],B,_,_=>Nat.zero_le _
 | a::A,B,h,hs=>by
  rw [List.nodup_cons] at h
  have ha:=hs a List.mem_cons_self
  have e:=List.length_erase_of_mem ha
  have hp:0 < B.length:=List.length_pos_of_mem ha
  have:=Ai A (B.erase a) h.2 fun x hx=>by
   have hne:x≠a:=fun e=>h.1 (e ▸ hx)
   exact (List.mem_erase_of_ne hne).2 (hs x (List.mem_cons_of_mem _ hx))
  rw [List.length_cons]
  omega
theorem SL.full {P:List ByteArray} {l:List (Int×ByteArray)} (hall: ∀ i:Nat,i < P.length→(mgl (i:Int) l).isSome=true):P.length≤l.length:=by
 have h:=Ai ((List.range P.length).map fun i:Nat=>(i:Int)) (l.map Prod.fst) (by
  rw [List.nodup_iff_pairwise_ne,List.pairwise_map]
  exact (List.nodup_iff_pairwise_ne.1 List.nodup_range).imp fun h e=>h (by omega)) (fun x hx=>by
   obtain ⟨i,hi,rfl⟩:=List.mem_map.1 hx
   have:=hall i (List.mem_range.1 hi)
   rw [Option.isSome_iff_exists] at this
   obtain ⟨d,hd⟩:=this
   exact List.mem_map.2 ⟨((i:Int),d),vf hd,rfl⟩)
 simpa using h
def tu (l:List (Int×ByteArray)) (i:Nat) (d:ByteArray):List (Int×ByteArray):=if (mgl (i:Int) l).isSome then l else msl (i:Int) d l
def AtL (id:Int) (n:Nat) (s:cG) (l:List (Int×ByteArray)):Prop:=(s.key < id∧l=[]) ∨ ∃ b,s=⟨id,(n:Int),some l,b⟩
theorem NZ {P:List ByteArray} {s:cG} {l:List (Int×ByteArray)} {id:Int} {i:Nat} (d:ByteArray) (h:AtL id P.length s l) (hid:1≤id) (hn:P.length≤4096) (hi:i < P.length) :
  ∃ b,kT s id (i:Int) (P.length:Int) d=some (0,⟨id,(P.length:Int),some (tu l i d),b⟩):=by
 unfold kT
 rw [decide_eq_false (by omega),cond_false,decide_eq_false (by omega),cond_false,decide_eq_false (by omega),cond_false,decide_eq_false (by omega),cond_false,decide_eq_false (by omega),aA,cond_false]
 rcases h with ⟨h1,rfl⟩ | ⟨b,rfl⟩
 ·rw [decide_eq_false (by omega),cond_false,decide_eq_true (by omega),cond_true,aA]
  dsimp only
  exact ⟨_,rfl⟩
 ·dsimp only
  rw [decide_eq_false (by omega),cond_false,cond_false,LR,cond_false,aA]
  dsimp only
  unfold tu
  show ∃ b',Option.bind (bif !(mgl (i:Int) l).isSome then _ else _) _=_
  cases hm:(mgl (i:Int) l).isSome with
  | true=>exact ⟨b,rfl⟩
  | false=>exact ⟨_,rfl⟩
theorem SL.tu {P:List ByteArray} {l:List (Int×ByteArray)} (h:SL P l) {i:Nat} (hi:i < P.length) :
  SL P (tu l i P[i])∧(mgl (i:Int) (X.tu l i P[i])).isSome=true∧(∀ j,(mgl j l).isSome=true→(mgl j (X.tu l i P[i])).isSome=true):=by
 unfold X.tu
 cases hm:(mgl (i:Int) l).isSome with
 | true=>exact ⟨h,hm,fun _ h=>h⟩
 | false =>
  have hn:mgl (i:Int) l=none:=by
   cases hg:mgl (i:Int) l with
   | none=>rfl
   | some x=>rw [hg] at hm; cases hm
  obtain ⟨h1,h2⟩:=h.add (List.getElem?_eq_getElem hi) hn
  refine ⟨h1,?_,fun j hj=> ?_⟩
  ·have:mgl (i:Int) (msl (i:Int) P[i] l)=some P[i]:=qV h1.nd (by rw [h2]; exact List.mem_append_right _ (List.mem_singleton.2 rfl))
   rw [if_neg (by simp),this]
   rfl
  ·rw [Option.isSome_iff_exists] at hj
   obtain ⟨d,hd⟩:=hj
   have:mgl j (msl (i:Int) P[i] l)=some d:=qV h1.nd (by rw [h2]; exact List.mem_append_left _ (vf hd))
   rw [if_neg (by simp),this]
   rfl
theorem JP (d:ByteArray) (n:Nat) (h:1≤n):oa (qU d n)=sbs d:=by
 have hl:=vg d n
 have key: ∀ i,i≤ny d.size n→oa ((qU d n).take i)=sbs (ie d 0 ((min d.size (i*n):Nat):Int)):=by
  intro i
  induction i with
  | zero =>
   intro _
   rw [List.take_zero,Nat.zero_mul,Nat.min_zero,show (0:Int)=((0:Nat):Int) from rfl,gI]
   rfl
  | succ i ih =>
   intro hi
   have hil:i < (qU d n).length:=by omega
   have hg:(qU d n)[i]=tR d n i:=by simp [qU]
   rw [uA _ i hil,ih (by omega),hg,← oV,GY d n i (NT h (by omega))]
 have hc:=Bh d.size n
 have hge:d.size≤ny d.size n*n:=by
  have h2: ¬ (ny d.size n - 1)*n+n < d.size:=fun e=>by have:=(yN (z:=d.size) (i:=ny d.size n - 1) h).2 e; omega
  have h3:(ny d.size n - 1)*n+n=ny d.size n*n:=by
   have:ny d.size n=(ny d.size n - 1)+1:=by omega
   rw [this,Nat.add_sub_cancel,Nat.add_mul,Nat.one_mul]
  omega
 have e:=key (ny d.size n) (Nat.le_refl _)
 rw [← hl,List.take_length,hl,Nat.min_eq_left hge,Ae] at e
 exact e
structure Msg (P:List ByteArray) (f x:aI):Prop where
 jo:gZ (oa P)=kq f x
 jl:(oa P).length≤1000000
 np:P.length≤4096
 gf:SG f
 gx:SG x
 nx:ju x=false
theorem JQ {t:bB} {P:List ByteArray} {l:List (Int×ByteArray)} {id key base:Int} {i:Nat} (d:ByteArray) (hk:t.cN.k < key) (hb:base=0∨base=t.cN.k) (hA:AtL id P.length t.slot l) (hid:1≤id) (hn:P.length≤4096) (hi:i < P.length) :
  ∃ b,fR t ⟨1,1,[id,key,base,(i:Int),(P.length:Int)],d⟩=some (0,⟨⟨id,(P.length:Int),some (tu l i d),b⟩,t.cN⟩):=by
 obtain ⟨b,e⟩:=NZ d hA hid hn hi
 refine ⟨b,?_⟩
 unfold fR
 have x0:idx [id,key,base,(i:Int),(P.length:Int)] 0=some id:=rfl
 have x1:idx [id,key,base,(i:Int),(P.length:Int)] 1=some key:=rfl
 have x2:idx [id,key,base,(i:Int),(P.length:Int)] 2=some base:=rfl
 have x3:idx [id,key,base,(i:Int),(P.length:Int)] 3=some (i:Int):=rfl
 have x4:idx [id,key,base,(i:Int),(P.length:Int)] 4=some (P.length:Int):=rfl
 dsimp only
 rw [show ((1:Int) != 1)=false from rfl,cond_false,show (([id,key,base,(i:Int),(P.length:Int)].length:Int) != 5)=false from rfl,cond_false,x1,aA,decide_eq_false (by omega),cond_false,x2]
 simp only [aA]
 have hq:((bif base != 0 then some (base != t.cN.k) else some false):Option Bool)=some false:=by
  rcases hb with h | h
  ·rw [h]; rfl
  ·rw [h,LR]; cases t.cN.k != 0 <;> rfl
 rw [hq,aA,cond_false,x0,aA,x3,aA,x4,aA,e,aA]
theorem Aj {t:bB} {f x:aI} {P:List ByteArray} {l:List (Int×ByteArray)} {id base:Int} {i:Nat} (hM:Msg P f x) (hk:t.cN.k < x.k) (hb:base=0∧f=jn∨base≠0∧base=t.cN.k∧f=t.cN) (hA:AtL id P.length t.slot l) (hl:SL P l) (hid:1≤id) (hi:i < P.length) :
  ∃ t',cW t ⟨1,1,[id,x.k,base,(i:Int),(P.length:Int)],P[i]⟩=some (0,t')∧((t'.slot=⟨0,0,none,0⟩∧t'.cN=x ∧ ¬ (tu l i P[i]).length < P.length) ∨ ∃ l' b,t'=⟨⟨id,(P.length:Int),some l',b⟩,t.cN⟩∧SL P l'∧l'.length < P.length∧l'=tu l i P[i]):=by
 obtain ⟨b,e⟩:=JQ P[i] hk (hb.imp (fun h=>h.1) fun h=>h.2.1) hA hid hM.np hi
 obtain ⟨s1,s2,s3⟩:=hl.tu hi
 have hw:=Ee (b:=b) hid s1 hM.np hM.jl
 unfold cW
 rw [e,aA]
 dsimp only
 rw [show ((0:Int) != 0)=false from rfl,cond_false,hw,aA]
 by_cases c:(tu l i P[i]).length < P.length
 ·rw [if_pos c]
  dsimp only
  rw [Bool.not_false,cond_true]
  exact ⟨_,rfl,.inr ⟨_,b,rfl,s1,c,rfl⟩⟩
 ·rw [if_neg c]
  dsimp only
  have x1:idx [id,x.k,base,(i:Int),(P.length:Int)] 1=some x.k:=rfl
  have x2:idx [id,x.k,base,(i:Int),(P.length:Int)] 2=some base:=rfl
  have hf:((bif base != 0 then some t.cN else some (aI.mk 0 0 0 0 0 (ByteArray.mk #[]) ([]:List aE) 0 0 ([]:List aJ))):Option aI)=some f:=by
   rcases hb with ⟨h1,h2⟩ | ⟨h1,h2,h3⟩
   ·rw [h1,h2]; rfl
   ·rw [show (base != 0)=true by simpa using h1,cond_true,h3]
  rw [Bool.not_true,cond_false,show ∀ s,kG s=some ⟨0,0,none,0⟩ from fun s=>rfl,aA,x2,aA,hf,aA,hM.jo,JE hM.gf hM.gx hM.nx hM.gf,CD hM.gf hM.gx hM.nx,aA]
  dsimp only
  rw [show ((0:Int) == 0)=true from rfl,cond_true,x1,aA,LR,aA,cond_false,aA,show ((0:Int) == 0)=true from rfl,cond_true,aA]
  exact ⟨_,rfl,.inl ⟨rfl,rfl,c⟩⟩
theorem JR {t:bB} {id key base i n:Int} (d:ByteArray) (hk:key≤t.cN.k):cW t ⟨1,1,[id,key,base,i,n],d⟩=some (8,t):=by
 have e:fR t ⟨1,1,[id,key,base,i,n],d⟩=some (8,t):=by
  unfold fR
  dsimp only
  rw [show ((1:Int) != 1)=false from rfl,cond_false,show (([id,key,base,i,n].length:Int) != 5)=false from rfl,cond_false,show idx [id,key,base,i,n] 1=some key from rfl,aA,decide_eq_true hk,cond_true]
 unfold cW
 rw [e,aA]
 rfl
end Go.Tw.X
set_option linter.unusedVariables false
set_option linter.unusedSimpArgs false
set_option maxHeartbeats 1000000
namespace Go.Tw.X
open Go Go.Tw
theorem FQ (k:Nat) {v:Int} (h1:v < 128 ^ (k+1)):(dC v).length≤k+1:=by
 refine uR k _ ?_
 unfold clN
 have h2:((max 0 (min v 4611686018427387904)).toNat:Int) < ((128 ^ (k+1):Nat):Int):=by
  have h3:(0:Int) < 128 ^ (k+1):=Int.pow_pos (by decide)
  rw [Int.natCast_pow]
  show ((max 0 (min v 4611686018427387904)).toNat:Int) < (128:Int) ^ (k+1)
  omega
 exact Int.ofNat_lt.1 h2
theorem N5 {g:aJ} (h:gOk g):(qe g).length≤5:=by
 obtain ⟨⟨_,a⟩,_,b⟩:=h
 have h1:=FQ 2 (v:=g.rune) (by omega)
 have h2:=FQ 1 (v:=g.aL) (by omega)
 show ([g.rune,g.aL].flatMap dC).length≤5
 simp only [List.flatMap_cons,List.flatMap_nil,List.append_nil,List.length_append]
 omega
theorem FR: ∀ (l:List aJ),gls l→(l.flatMap qe).length≤5*l.length
 | [],_=>Nat.le_refl _
 | g::l,h=>by
  have h1:=N5 (h g List.mem_cons_self)
  have h2:=FR l fun q hq=>h q (List.mem_cons_of_mem _ hq)
  rw [List.flatMap_cons,List.length_append,List.length_cons]
  omega
structure SQ (s:aI):Prop where
 g:SG s
 ne:ju s=false
 bg:gls s.begun
 bl:s.begun.length < 1024
 tl:s.title.size≤200
 rl:s.rows.length≤6
 rw_: ∀ r∈s.rows,r.cells.length≤10
theorem SQ.pk {s:aI} (h:SQ s):(s.rows.flatMap gL).length≤2214:=by
 have h1:=v8 10 s.rows h.rw_
 have:=h.rl
 have:s.rows.length*(9+36*10)≤6*369:=Nat.mul_le_mul this (by decide)
 omega
theorem SQ.ct {s:aI} (h:SQ s):CT1 s:=⟨h.g.sw,by have:=h.pk; omega⟩
theorem JS (l:List Int):(gZ l).size=l.length:=lH l
theorem yT {a x:aI} (hx:SQ x):(kq a x).size≤8000:=by
 unfold kq
 split
 ·show noS.size≤8000; decide
 ·rw [JS]
  unfold qS sn k8
  have h1:=qk [((sf (mc a):Nat):Int),x.k,x.w,x.h,x.x,x.y]
  have h2:=qk [x.len,x.chain]
  have h3:=dP (x.title.size:Int)
  have h4:=dP ((chg a.rows x.rows).length:Int)
  have h5:=dP (x.begun.length:Int)
  have h6:=FR x.begun hx.bg
  have h7:=Be a.rows x.rows x.rows.length (Nat.le_refl _)
  have h8:=hx.pk
  have h9:=hx.rl
  have h10:=hx.bl
  have h11:=hx.tl
  rw [List.take_length] at h7
  simp only [List.length_append,bD]
  simp only [List.length_cons,List.length_nil] at h1 h2
  show _≤8000
  have h12:(pch x.rows (chg a.rows x.rows)).length≤9*x.rows.length+(x.rows.flatMap gL).length:=h7
  omega
theorem GZ {a x:aI} (hx:SQ x) {p:Nat} (hp:4≤p):(qU (kq a x) p).length≤2001:=by
 rw [vg]
 unfold ny
 have h:=yT (a:=a) hx
 have:((kq a x).size+p - 1) / p≤2001:=by
  refine Nat.div_le_of_le_mul ?_
  have:4*2001≤p*2001:=Nat.mul_le_mul_right _ hp
  have e:p*2001=p*2000+p:=by omega
  have:4*2000≤p*2000:=Nat.mul_le_mul_right _ hp
  omega
 omega
theorem JT {a x:aI} (ga:SG a) (hx:SQ x) {p:Nat} (hp:4≤p):Msg (qU (kq a x) p) a x:=by
 have hj:=JP (kq a x) p (by omega)
 have hs:=yT (a:=a) hx
 exact ⟨by rw [hj,uT],by rw [hj,bD]; omega,by have:=GZ (a:=a) hx hp; omega,ga,hx.g,hx.ne⟩
def grm (id key base:Int) (P:List ByteArray) (i:Nat):eR:=⟨1,1,[id,key,base,(i:Int),(P.length:Int)],(P[i]?).getD noS⟩
theorem JU {id key base:Int} {P:List ByteArray} {i:Nat} (h:i < P.length):grm id key base P i=⟨1,1,[id,key,base,(i:Int),(P.length:Int)],P[i]⟩:=by
 unfold grm
 rw [List.getElem?_eq_getElem h]
 rfl
def AtZ (id:Int) (n:Nat) (s:cG) (l:List (Int×ByteArray)):Prop:=(s=⟨0,0,none,0⟩∧l=[]) ∨ ∃ b,s=⟨id,(n:Int),some l,b⟩
theorem AtZ.toL {id:Int} {n:Nat} {s:cG} {l:List (Int×ByteArray)} (h:AtZ id n s l) (hid:1≤id):AtL id n s l:=h.imp (fun ⟨h1,h2⟩=>⟨by rw [h1]; show (0:Int) < id; omega,h2⟩) fun h=>h
inductive On (P:List ByteArray) (id:Int) (a x:aI) (t:bB) (hs:Nat→Prop):Prop where
 | done (h1:t.slot=⟨0,0,none,0⟩) (h2:t.cN=x)
 | part (l:List (Int×ByteArray)) (h1:AtZ id P.length t.slot l) (h2:SL P l) (h3:l.length < P.length) (h4:t.cN=a) (h5: ∀ i,hs i→(mgl (i:Int) l).isSome=true)
theorem FT {P:List ByteArray} {id base:Int} {a f x:aI} {t:bB} {hs:Nat→Prop} (hM:Msg P f x) (hk:a.k < x.k) (hb:base=0∧f=jn∨base≠0∧base=a.k∧f=a) (hid:1≤id) (h:On P id a x t hs) {i:Nat} (hi:i < P.length) :
  ∃ e t',cW t (grm id x.k base P i)=some (e,t')∧On P id a x t' (fun j=>hs j∨j=i)∧(e=0∨e=8∧t'.cN=x):=by
 rw [JU hi]
 cases h with
 | done h1 h2=>exact ⟨8,t,JR _ (by rw [h2]; exact Int.le_refl _),.done h1 h2,.inr ⟨rfl,h2⟩⟩
 | part l h1 h2 h3 h4 h5 =>
  obtain ⟨t',e1,e2⟩:=Aj (t:=t) (i:=i) hM (by rw [h4]; exact hk) (by rw [h4]; exact hb) (h1.toL hid) h2 hid hi
  refine ⟨0,t',e1,?_,.inl rfl⟩
  rcases e2 with ⟨e2,e3,_⟩ | ⟨l',b,rfl,e3,e4,rfl⟩
  ·exact .done e2 e3
  ·obtain ⟨_,s2,s3⟩:=h2.tu hi
   refine .part _ (.inr ⟨b,rfl⟩) e3 e4 h4 fun j hj=> ?_
   rcases hj with hj | rfl
   ·exact s3 _ (h5 j hj)
   ·exact s2
theorem N6 {P:List ByteArray} {id:Int} {a x:aI} {t:bB} {hs:Nat→Prop} (h:On P id a x t hs) (hall: ∀ i,i < P.length→hs i):t.slot=⟨0,0,none,0⟩∧t.cN=x:=by
 cases h with
 | done h1 h2=>exact ⟨h1,h2⟩
 | part l h1 h2 h3 h4 h5 =>
  have:=SL.full (l:=l) (P:=P) fun i hi=>h5 i (hall i hi)
  omega
theorem On.mono {P:List ByteArray} {id:Int} {a x:aI} {t:bB} {hs hs':Nat→Prop} (h:On P id a x t hs) (hh: ∀ i,hs' i→hs i):On P id a x t hs':=by
 cases h with
 | done h1 h2=>exact .done h1 h2
 | part l h1 h2 h3 h4 h5=>exact .part l h1 h2 h3 h4 fun i hi=>h5 i (hh i hi)
theorem G0 {m:bU} (h:m.there=List.replicate m.parts.length false):Bi m=(List.range m.parts.length).map (grm m.id m.key m.base m.parts):=by
 unfold Bi
 rw [JN h,List.map_map]
 rfl
inductive In_ (P:List ByteArray) (id:Int) (a x:aI) (t:bB) (i:Nat):Prop where
 | done (h1:t.slot=⟨0,0,none,0⟩) (h2:t.cN=x) (h3:P.length≤i)
 | part (l:List (Int×ByteArray)) (h1:AtL id P.length t.slot l) (h2:SL P l) (h3:l.length=i) (h4:t.cN=a) (h5: ∀ j:Nat,i≤j→mgl (j:Int) l=none) (h6:i < P.length)
theorem tS {α:Type} {k j:Int} {x:α} (hne:k≠j): ∀ {l:List (Int×α)},mgl k l=none→mgl k (l++[(j,x)])=none
 | [],_=>by
  show (if k=j then _ else _)=_
  rw [if_neg hne]
  rfl
 | (q,y)::l,h=>by
  unfold mgl at h
  rw [List.cons_append]
  unfold mgl
  split at h
  ·cases h
  ·rename_i hq
   rw [if_neg hq]
   exact tS hne h
theorem LZ {P:List ByteArray} {id base:Int} {a f x:aI} {t:bB} {i:Nat} (hM:Msg P f x) (hk:a.k < x.k) (hb:base=0∧f=jn∨base≠0∧base=a.k∧f=a) (hid:1≤id) (h:In_ P id a x t i) (hi:i < P.length) :
  ∃ t',cW t (grm id x.k base P i)=some (0,t')∧In_ P id a x t' (i+1):=by
 rw [JU hi]
 cases h with
 | done h1 h2 h3=>omega
 | part l h1 h2 h3 h4 h5 h6 =>
  obtain ⟨t',e1,e2⟩:=Aj (t:=t) (i:=i) hM (by rw [h4]; exact hk) (by rw [h4]; exact hb) h1 h2 hid hi
  have hn:=h5 i (Nat.le_refl _)
  have ha:tu l i P[i]=l++[((i:Int),P[i])]:=by
   unfold tu
   rw [hn,if_neg (by simp)]
   exact (h2.add (List.getElem?_eq_getElem hi) hn).2
  have hlen:(tu l i P[i]).length=i+1:=by rw [ha]; simp [h3]
  refine ⟨t',e1,?_⟩
  rcases e2 with ⟨e2,e3,e4⟩ | ⟨l',b,rfl,e3,e4,rfl⟩
  ·exact .done e2 e3 (by omega)
  ·refine .part _ (.inr ⟨b,rfl⟩) e3 hlen h4 (fun j hj=> ?_) (by omega)
   rw [ha]
   exact tS (by omega) (h5 j (by omega))
theorem N7 {P:List ByteArray} {id:Int} {a x:aI} {t:bB} (h:In_ P id a x t P.length):t.slot=⟨0,0,none,0⟩∧t.cN=x:=by
 cases h with
 | done h1 h2 h3=>exact ⟨h1,h2⟩
 | part l h1 h2 h3 h4 h5 h6=>omega
theorem JV {t:bB} (h:t.slot=⟨0,0,none,0⟩):kj t=some ⟨1,2,[t.cN.k,0],gZ []⟩:=by
 unfold kj
 rw [h,show lb ⟨0,0,none,0⟩=some 0 from rfl,aA]
 have e1:IntKind.i64.wrap ((IntKind.i64.wrap ((IntKind.i64.wrap ((0:Int)+8)) - 1)).tdiv 8)=0:=by decide
 have e2:ki ⟨0,0,none,0⟩=some []:=by
  unfold ki gC
  have:=wz (s:=⟨0,0,none,0⟩) (n:=0) rfl (by decide) (fun s32 x3=>(bif (x3.2 == true) then (Option.bind (chk (eO s32.length [x3.1].length 8)) fun _=>some ((s32++[x3.1]),true)) else some (s32,true))) (fun _=>([]:List Int)) (fun i hi=>absurd hi (Nat.not_lt_zero i))
  rw [this]
  rfl
 rw [e1,show chk (F4 0 1)=some () from lq (by decide),aA,e2,aA]
 refine gA (fun _=>((0:Int),([]:List Int))) 0 [] rfl (fun i hi=>absurd hi (Nat.not_lt_zero i)) rfl ?_
 rfl
theorem yU {c:dF} {x:aI} (hx:SQ x) (hk:1≤x.k) {now:Int} :
  fI (nuS c) x=some (true,setCur (nuS c) x)∧fK (setCur (nuS c) x) now=some (yQ (setCur (nuS c) x) now) ∧
   (yQ (setCur (nuS c) x) now).1=(List.range (qU (kq jn x) (ptN (nuS c).config.part)).length).map (grm 1 x.k 0 (qU (kq jn x) (ptN (nuS c).config.part))):=by
 have hn:=JM (nuS c) x hx.g.sw
 have hc: ¬ (nC x=false∨x.k≤(nuS c).current.k):=by
  rw [hx.g.may]
  rintro (h | h)
  ·cases h
  ·have:(nuS c).current.k=0:=rfl
   omega
 have e:Ah (nuS c) x=(true,setCur (nuS c) x):=by
  unfold Ah
  rw [if_neg hc]
 rw [e] at hn
 have hs:SNI (setCur (nuS c) x):=by
  have:=LY (NY c) hx.ct
  rw [e] at this
  exact this
 refine ⟨hn,GX _ now hs,?_⟩
 rw [Ec now (by show x.k≠0; omega) rfl]
 rw [G0 rfl]
 rfl
end Go.Tw.X
set_option linter.unusedVariables false
set_option linter.unusedSimpArgs false
set_option maxHeartbeats 1000000
namespace Go.Tw.X
open Go Go.Tw
theorem N8 (e:cH):okO (lV e) (fun r=>r.text.size≤60∧(r.w≤10∨1000 < r.w)∧(r.h≤6∨1000 < r.h)):=by
 unfold lV
 refine dT (Lp e.text (n:=60) (by decide)) fun r hr=> ?_
 have hr':r.size≤60:=by omega
 by_cases h1:e.w > 10
 ·rw [decide_eq_true h1,cond_true]
  refine dT (P:=fun b=>b=decide (e.w≤1000)) (cA rfl) fun b hb=> ?_
  subst hb
  by_cases h2:e.w≤1000
  ·rw [decide_eq_true h2,cond_true]
   refine dT (P:=fun q=>q=cH.mk e.kind r 10 e.h) (cA rfl) fun q hq=> ?_
   subst hq
   dsimp only
   by_cases h3:e.h > 6
   ·rw [decide_eq_true h3,cond_true]
    refine dT (P:=fun b=>b=decide (e.h≤1000)) (cA rfl) fun b hb=> ?_
    subst hb
    by_cases h4:e.h≤1000
    ·rw [decide_eq_true h4,cond_true]
     exact dT (P:=fun q=>q=cH.mk e.kind r 10 6) (cA rfl) fun q hq=>by subst hq; exact cA ⟨hr',.inl (Int.le_refl _),.inl (Int.le_refl _)⟩
    ·rw [decide_eq_false h4,cond_false]
     exact dT (P:=fun q=>q=cH.mk e.kind r 10 e.h) (cA rfl) fun q hq=>by subst hq; exact cA ⟨hr',.inl (Int.le_refl _),.inr (by dsimp only; omega)⟩
   ·rw [decide_eq_false h3,cond_false]
    refine dT (P:=fun b=>b=false) (cA rfl) fun b hb=> ?_
    subst hb
    rw [cond_false]
    exact dT (P:=fun q=>q=cH.mk e.kind r 10 e.h) (cA rfl) fun q hq=>by subst hq; exact cA ⟨hr',.inl (Int.le_refl _),.inl (by dsimp only; omega)⟩
  ·rw [decide_eq_false h2,cond_false]
   refine dT (P:=fun q=>q=cH.mk e.kind r e.w e.h) (cA rfl) fun q hq=> ?_
   subst hq
   dsimp only
   by_cases h3:e.h > 6
   ·rw [decide_eq_true h3,cond_true]
    refine dT (P:=fun b=>b=decide (e.h≤1000)) (cA rfl) fun b hb=> ?_
    subst hb
    by_cases h4:e.h≤1000
    ·rw [decide_eq_true h4,cond_true]
     exact dT (P:=fun q=>q=cH.mk e.kind r e.w 6) (cA rfl) fun q hq=>by subst hq; exact cA ⟨hr',.inr (by dsimp only; omega),.inl (Int.le_refl _)⟩
    ·rw [decide_eq_false h4,cond_false]
     exact dT (P:=fun q=>q=cH.mk e.kind r e.w e.h) (cA rfl) fun q hq=>by subst hq; exact cA ⟨hr',.inr (by dsimp only; omega),.inr (by dsimp only; omega)⟩
   ·rw [decide_eq_false h3,cond_false]
    refine dT (P:=fun b=>b=false) (cA rfl) fun b hb=> ?_
    subst hb
    rw [cond_false]
    exact dT (P:=fun q=>q=cH.mk e.kind r e.w e.h) (cA rfl) fun q hq=>by subst hq; exact cA ⟨hr',.inr (by dsimp only; omega),.inl (by dsimp only; omega)⟩
 ·rw [decide_eq_false h1,cond_false]
  refine dT (P:=fun b=>b=false) (cA rfl) fun b hb=> ?_
  subst hb
  rw [cond_false]
  refine dT (P:=fun q=>q=cH.mk e.kind r e.w e.h) (cA rfl) fun q hq=> ?_
  subst hq
  dsimp only
  by_cases h3:e.h > 6
  ·rw [decide_eq_true h3,cond_true]
   refine dT (P:=fun b=>b=decide (e.h≤1000)) (cA rfl) fun b hb=> ?_
   subst hb
   by_cases h4:e.h≤1000
   ·rw [decide_eq_true h4,cond_true]
    exact dT (P:=fun q=>q=cH.mk e.kind r e.w 6) (cA rfl) fun q hq=>by subst hq; exact cA ⟨hr',.inl (by dsimp only; omega),.inl (Int.le_refl _)⟩
   ·rw [decide_eq_false h4,cond_false]
    exact dT (P:=fun q=>q=cH.mk e.kind r e.w e.h) (cA rfl) fun q hq=>by subst hq; exact cA ⟨hr',.inl (by dsimp only; omega),.inr (by dsimp only; omega)⟩
  ·rw [decide_eq_false h3,cond_false]
   refine dT (P:=fun b=>b=false) (cA rfl) fun b hb=> ?_
   subst hb
   rw [cond_false]
   exact dT (P:=fun q=>q=cH.mk e.kind r e.w e.h) (cA rfl) fun q hq=>by subst hq; exact cA ⟨hr',.inl (by dsimp only; omega),.inl (by dsimp only; omega)⟩
structure MQ (N:Nat) (m:bA) (z:Zt):Prop where
 ex: ∃ W x,W≤10∧MX W (484000*N) N z m x
 g:MG m z
 h:m.aR.g.l.length≤6
theorem JW {w h:Int} (hw:w≤10) (hh:h≤6):MQ 0 (Jj w h) ([],[]):=by
 refine ⟨⟨szN w,_,by unfold szN; omega,NJ w h⟩,NL w h,?_⟩
 show (List.replicate (szN h) (iT (szN w) 0)).length≤6
 rw [List.length_replicate]
 unfold szN
 omega
theorem Pn {N:Nat} {m:bA} {z:Zt} (h:MQ N m z) (hN:N≤90) {e:cH} (ht:e.text.size≤60) (hw:e.w≤10∨1000 < e.w) (hh:e.h≤6∨1000 < e.h) :
  ∃ f m' z',dZ m ⟨e.kind,e.text,e.w,e.h⟩=some (f,m')∧MQ (N+1) m' z'∧m.k≤m'.k∧(f=0→m'.k=m.k+1)∧(f≠0→m'=m∧z'=z):=by
 obtain ⟨W,x,hW,hx⟩:=h.ex
 by_cases hc:yK e.kind e.text.size e.w e.h=0
 ·by_cases hk0:e.kind=0
  ·obtain ⟨ek,et,ew,eh⟩:=e
   dsimp only at hk0 ht hc hw hh ⊢
   subst hk0
   have e1:=D6 hx (by omega) (by omega) (t:=et) (by omega) ew eh
   have h1:=Ji hx (t:=et) (by omega)
   have hl1:=hx.si.gi.l1
   have hl2:=hx.si.gi.l2
   refine ⟨0,_,_,e1,⟨⟨W,_,hW,h1.mono (by omega) (Nat.le_refl _)⟩,Jo hx h.g et _ _,?_⟩,by dsimp only; omega,fun _=>rfl,fun e=>absurd rfl e⟩
   have:=(Ct (W:=W) (prun m.parser (sbs et)).out (y:=(m.aR,z)) ⟨rfl,hl1,hl2⟩).e
   dsimp only at this ⊢
   rw [this]
   exact h.h
  ·by_cases hk1:e.kind=1
   ·obtain ⟨ek,et,ew,eh⟩:=e
    dsimp only at hk1 ht hc hw hh ⊢
    subst hk1
    have hb:1≤ew∧ew≤1000∧1≤eh∧eh≤1000:=by
     unfold yK at hc
     rw [if_neg (by decide),if_pos rfl] at hc
     split at hc
     ·exact absurd hc (by decide)
     ·omega
    refine ⟨0,_,_,Jk hx (by omega) hN hc,⟨⟨szN ew,_,by unfold szN; omega,(LL hx ew eh).mono (by omega) (Nat.le_refl _)⟩,LN h.g ew eh _ _,?_⟩,by dsimp only; omega,fun _=>rfl,fun e=>absurd rfl e⟩
    show (rzL (szN ew) m.aR.g.l _ (szN eh)).length≤6
    rw [oU]
    unfold szN
    omega
   ·exfalso
    unfold yK at hc
    rw [if_neg hk0,if_neg hk1] at hc
    exact absurd hc (by decide)
 ·exact ⟨_,m,z,LK m ⟨e.kind,e.text,e.w,e.h⟩ hc,⟨⟨W,x,hW,hx.mono (by omega) (by omega)⟩,h.g,h.h⟩,Int.le_refl _,fun e=>absurd e hc,fun _=>⟨rfl,rfl⟩⟩
theorem FU {N:Nat} {m:bA} {z:Zt} (h:MQ N m z) (hN:N≤90):dO m=some (sOf m z,m)∧SQ (sOf m z)∧1≤(sOf m z).k∧(sOf m z).k=m.k+1∧m.k≤N:=by
 obtain ⟨W,x,hW,hx⟩:=h.ex
 have hk0:=hx.k0
 have hkN:=hx.kN
 have hrw: ∀ r∈(sOf m z).rows,r.cells.length≤10:=fun r hr=>by
  have:=(hx.si.gi.rs r hr).1
  omega
 have hpk:((sOf m z).rows.flatMap gL).length≤12000:=by
  have h1:=v8 10 (sOf m z).rows hrw
  have h2:(sOf m z).rows.length≤6:=h.h
  have:(sOf m z).rows.length*(9+36*10)≤6*369:=Nat.mul_le_mul h2 (by decide)
  omega
 refine ⟨Jp hx (by omega) (by omega),⟨⟨NM hx h.g,hpk,LQ hx h.g (by omega) (by omega)⟩,?_,h.g.zg.b,hx.zi.b,h.g.sc.t,h.h,hrw⟩,?_,rfl,hkN⟩
 ·unfold ju
  rw [show (sOf m z).k=m.k+1 from rfl,eF (by omega)]
  rfl
 ·show 1≤m.k+1
  omega
theorem G1 {n:Nat} (hn:n≤40) (events:List cH) {m0:bA} {z0:Zt} (h0:MQ 0 m0 z0) :
  ∃ m z,iter (σ:=bA×Int) (ρ:=bA) (fun s=>(Option.bind ((bif (decide (s.2 < (events.length:Int))) then some (decide (s.2 < (n:Int))) else some false):Option Bool) fun b=>(bif b then (Option.bind (idx events s.2) fun x=>(Option.bind (lV x) fun r=>(Option.bind (dZ s.1 (ky.mk r.kind r.text r.w r.h)) fun q=>some (.inl (q.2,(IntKind.i64.wrap (s.2+1))))))) else some (.inr s.1)))) (m0,0)=some m∧MQ n m z:=by
 have key:=pZ (σ:=bA×Int) (ρ:=bA) (f:=fun s=>(Option.bind ((bif (decide (s.2 < (events.length:Int))) then some (decide (s.2 < (n:Int))) else some false):Option Bool) fun b=>(bif b then (Option.bind (idx events s.2) fun x=>(Option.bind (lV x) fun r=>(Option.bind (dZ s.1 (ky.mk r.kind r.text r.w r.h)) fun q=>some (.inl (q.2,(IntKind.i64.wrap (s.2+1))))))) else some (.inr s.1))))
  (fun s=> ∃ (i:Nat) (z:Zt),s.2=(i:Int)∧i≤n∧MQ i s.1 z) (fun s=>n - s.2.toNat) (fun m=> ∃ z,MQ n m z) (by
   rintro ⟨m,j⟩ ⟨i,z,h1,h2,h3⟩
   dsimp only at h1 h2 h3 ⊢
   subst h1
   by_cases c:(i:Int) < (events.length:Int)∧(i:Int) < (n:Int)
   ·left
    obtain ⟨r,er,h4,h5,h6⟩:=N8 events[i]
    obtain ⟨f,m',z',e1,h7,_⟩:=Pn h3 (by omega) h4 h5 h6
    rw [FB c,aA,cond_true,dG events i (by omega),aA,er,aA,e1,aA,w64 (by omega) (by omega)]
    exact ⟨_,rfl,⟨i+1,z',by dsimp only; omega,by omega,h7⟩,by dsimp only; omega⟩
   ·right
    rw [FC c,aA,cond_false]
    obtain ⟨W,x,hW,hx⟩:=h3.ex
    exact ⟨_,rfl,z,⟨W,x,hW,hx.mono (by omega) h2⟩,h3.g,h3.h⟩) (m0,0) ⟨0,z0,rfl,Nat.zero_le _,h0⟩
 obtain ⟨m,e,z,h⟩:=key
 exact ⟨m,z,e,h⟩
end Go.Tw.X
set_option linter.unusedVariables false
set_option linter.unusedSimpArgs false
set_option maxHeartbeats 1000000
namespace Go.Tw.X
open Go Go.Tw
theorem FV (d:ByteArray) (p:Nat):0 < (qU d p).length:=by rw [vg]; exact Bh _ _
def N9:bB:=⟨⟨0,0,none,0⟩,jn⟩
theorem FW:nZ=some N9:=rfl
theorem Oa (P:List ByteArray) (x:aI) (h:0 < P.length):On P 1 jn x N9 (fun _=>False):= .part [] (.inl ⟨rfl,rfl⟩) (JO P) h rfl fun _ h=>h.elim
theorem Ob (P:List ByteArray) (x:aI) (h:0 < P.length):In_ P 1 jn x N9 0:= .part [] (.inl ⟨by decide,rfl⟩) (JO P) rfl rfl (fun _ _=>rfl) h
theorem CF {t:bB} (h:SW t.cN):iB t=some t.cN:=by
 unfold iB
 rw [v7 _ h,aA]
theorem Ak {α:Type} (f:Nat→α) (n i:Nat) (h:i < n):idx ((List.range n).map f) (i:Int)=some (f i):=by
 rw [dG _ i (by simpa using h)]
 simp
theorem Ef:mr=some true:=by
 unfold mr
 obtain ⟨e1,hx,hk,hk2,_⟩:=FU (JW (w:=3) (h:=2) (by decide) (by decide)) (by decide)
 generalize hX:sOf (Jj 3 2) ([],[])=x at e1 hx hk hk2
 have hx1:x.k=1:=by rw [hk2]; rfl
 obtain ⟨s1,s2,s3⟩:=yU (c:=⟨5,1,2⟩) hx hk (now:=0)
 have hp:ptN (nuS ⟨5,1,2⟩).config.part=5:=by decide
 rw [hp] at s3
 have hM:=JT FJ hx (p:=5) (by decide)
 have hpos:=FV (kq jn x) 5
 generalize qU (kq jn x) 5=P at s3 hM hpos
 rw [yR,aA,FW,aA,Fz,aA,e1,aA]
 dsimp only
 rw [s1,aA]
 dsimp only
 rw [s2,aA,s3]
 have hkz:jn.k < x.k:=by show (0:Int) < x.k; omega
 refine oR (fun s:bB×Int=> ∃ i:Nat,s.2=i∧i≤P.length∧In_ P 1 jn x s.1 i) (fun s=>P.length - s.2.toNat) (fun r=> ∃ t,r = .inl t∧t.slot=⟨0,0,none,0⟩∧t.cN=x) ⟨0,rfl,Nat.zero_le _,Ob P x hpos⟩ ?_ ?_
 ·rintro ⟨t,j⟩ ⟨i,h1,h2,h3⟩
  dsimp only at h1 h2 h3 ⊢
  subst h1
  rw [List.length_map,List.length_range]
  by_cases c:i < P.length
  ·left
   obtain ⟨t',e,h4⟩:=LZ hM hkz (.inl ⟨rfl,rfl⟩) (Int.le_refl 1) h3 c
   rw [decide_eq_true (by omega),cond_true,Ak _ _ _ c,aA,e,aA]
   dsimp only
   rw [show ((0:Int) != 0)=false from rfl,cond_false,w64 (by omega) (by have:=hM.np; omega)]
   exact ⟨_,rfl,⟨i+1,by dsimp only; omega,by omega,h4⟩,by dsimp only; omega⟩
  ·right
   rw [decide_eq_false (by omega),cond_false]
   have hi:i=P.length:=by omega
   subst hi
   obtain ⟨h4,h5⟩:=N7 h3
   exact ⟨_,rfl,t,rfl,h4,h5⟩
 ·rintro r ⟨t,rfl,h4,h5⟩
  dsimp only
  rw [show jc t=some t.cN.k from rfl,aA,h5,hx1,show ((1:Int) == 1)=true from rfl,cond_true,CF (by rw [h5]; exact hx.g.sw),aA,e1,aA]
  dsimp only
  rw [h5,FL hx.g,aA,decide_eq_true rfl,cond_true,JV h4,aA,h5,hx1]
  rfl
end Go.Tw.X
set_option linter.unusedVariables false
set_option linter.unusedSimpArgs false
set_option maxHeartbeats 1000000
namespace Go.Tw.X
open Go Go.Tw
section
variable {P : List ByteArray} {id base : Int} {a f x : aI}
theorem L0 (hM:Msg P f x) (hk:a.k < x.k) (hb:base=0∧f=jn∨base≠0∧base=a.k∧f=a) (hid:1≤id) {G:List eR} (hn:G.length≤1000000) (ix:Nat→Nat) (hG: ∀ j (hj:j < G.length),G[j]=grm id x.k base P (ix j)∧ix j < P.length) (sk:Nat→Bool)
  (F:bB×Int→Option ((bB×Int) ⊕ bB)) (hF: ∀ (t:bB) (j:Nat) (hj:j < G.length),F (t,(j:Int))=if sk j=true then some (.inl (t,((j+1:Nat):Int))) else Option.bind (cW t G[j]) fun r=>some (.inl (r.2,((j+1:Nat):Int)))) (hE: ∀ t,F (t,(G.length:Int))=some (.inr t))
  {t:bB} {hs:Nat→Prop} (h:On P id a x t hs): ∃ t',iter F (t,0)=some t'∧On P id a x t' (fun i=>hs i ∨ ∃ j,j < G.length∧sk j=false∧ix j=i):=by
 have key:=pZ (f:=F) (fun s=> ∃ j:Nat,s.2=(j:Int)∧j≤G.length∧On P id a x s.1 (fun i=>hs i ∨ ∃ q,q < j∧sk q=false∧ix q=i)) (fun s=>G.length - s.2.toNat) (fun t'=>On P id a x t' (fun i=>hs i ∨ ∃ j,j < G.length∧sk j=false∧ix j=i)) (by
  rintro ⟨t,q⟩ ⟨j,h1,h2,h3⟩
  dsimp only at h1 h2 h3
  subst h1
  by_cases c:j < G.length
  ·left
   rw [hF t j c]
   by_cases hsk:sk j=true
   ·rw [if_pos hsk]
    refine ⟨_,rfl,⟨j+1,rfl,by omega,h3.mono ?_⟩,by dsimp only; omega⟩
    rintro i (hi | ⟨q,q1,q2,q3⟩)
    ·exact .inl hi
    ·by_cases e:q=j
     ·rw [e,hsk] at q2; cases q2
     ·exact .inr ⟨q,by omega,q2,q3⟩
   ·rw [if_neg hsk]
    obtain ⟨g1,g2⟩:=hG j c
    obtain ⟨e,t',e1,e2,_⟩:=FT hM hk hb hid h3 g2
    rw [g1,e1]
    refine ⟨_,rfl,⟨j+1,rfl,by omega,e2.mono ?_⟩,by dsimp only; omega⟩
    rintro i (hi | ⟨q,q1,q2,q3⟩)
    ·exact .inl (.inl hi)
    ·by_cases e:q=j
     ·exact .inr (by rw [← q3,e])
     ·exact .inl (.inr ⟨q,by omega,q2,q3⟩)
  ·right
   have hj:j=G.length:=by omega
   subst hj
   exact ⟨_,hE t,h3⟩) (t,0) ⟨0,rfl,Nat.zero_le _,h.mono fun i hi=>hi.elim (fun h=>h) fun ⟨q,q1,_⟩=>absurd q1 (Nat.not_lt_zero q)⟩
 exact key
end
end Go.Tw.X
set_option linter.unusedVariables false
set_option linter.unusedSimpArgs false
set_option maxHeartbeats 1000000
namespace Go.Tw.X
open Go Go.Tw
theorem Ei (b:Bool):gC ⟨0,0,none,0⟩ b=some []:=by
 unfold gC
 have:=wz (s:=⟨0,0,none,0⟩) (n:=0) rfl (by decide) (fun s32 x3=>(bif (x3.2 == b) then (Option.bind (chk (eO s32.length [x3.1].length 8)) fun _=>some ((s32++[x3.1]),true)) else some (s32,true))) (fun _=>([]:List Int)) (fun i hi=>absurd hi (Nat.not_lt_zero i))
 rw [this]
 rfl
theorem Ej {t:bB} (h:t.slot=⟨0,0,none,0⟩):jI t.slot=some []:=by
 unfold jI
 rw [h,Ei]
 rfl
theorem G2 {q:Int} (h0:0≤q) (h1:q≤100):4≤ptN (nuS ⟨4+q,1,3⟩).config.part∧ptN (nuS ⟨4+q,1,3⟩).config.part≤104:=by
 show 4≤ptN (imax 1 (eN (4+q) 8000))∧ptN (imax 1 (eN (4+q) 8000))≤104
 rw [dQ,gy]
 unfold ptN
 omega
end Go.Tw.X
set_option linter.unusedVariables false
set_option linter.unusedSimpArgs false
set_option maxHeartbeats 1000000
namespace Go.Tw.X
open Go Go.Tw
theorem FX (x:Int) (m:Nat) (hm:m < 9223372036854775808):0≤Go.bits .and .i64 x (m:Int)∧Go.bits .and .i64 x (m:Int)≤(m:Int):=KW x m hm
theorem xm {events:List cH} {order:List Int} {part:Int} (a0: ∀ x∈events,oD x) (a1: ∀ x∈order,inK .i64 x) (a2:inK .i64 part):ld events order part=some true:=by
 unfold ld
 obtain ⟨m,z,em,hm⟩:=G1 (n:=6) (by decide) events (JW (w:=6) (h:=3) (by decide) (by decide))
 rw [show ((6:Nat):Int)=6 from rfl] at em
 have hq:=FX part 31 (by decide)
 rw [show ((31:Nat):Int)=31 from rfl] at hq
 generalize Go.bits .and .i64 part 31=q at hq
 obtain ⟨e1,hx,hk,hk2,_⟩:=FU hm (by decide)
 obtain ⟨s1,s2,s3⟩:=yU (c:=⟨4+q,1,3⟩) hx hk (now:=0)
 obtain ⟨p1,p2⟩:=G2 (q:=q) hq.1 (by omega)
 have hM:=JT FJ hx p1
 have hpos:=FV (kq jn (sOf m z)) (ptN (nuS ⟨4+q,1,3⟩).config.part)
 generalize hP:qU (kq jn (sOf m z)) (ptN (nuS ⟨4+q,1,3⟩).config.part)=P at s3 hM hpos
 generalize sOf m z=x at *
 have hkz:jn.k < x.k:=by show (0:Int) < x.k; omega
 have hnp:=hM.np
 rw [Ef,aA,Bool.not_true,cond_false,Fz,aA,w64 (by omega) (by omega),yR,aA,FW,aA,em,aA,e1,aA]
 dsimp only
 rw [s1,aA]
 dsimp only
 rw [s2,aA,s3,List.length_map,List.length_range,eF (by omega),cond_false]
 refine oR (fun s:bB×bA×Int=> ∃ i:Nat,s.2.2=i∧i≤30∧s.2.1=m∧On P 1 jn x s.1 (fun _=>False)) (fun s=>30 - s.2.2.toNat) (fun r=> ∃ t,r = .inl (m,t)∧On P 1 jn x t (fun _=>False)) ⟨0,rfl,by decide,rfl,Oa P x hpos⟩ ?_ ?_
 ·rintro ⟨t,m',j⟩ ⟨i,h1,h2,h3,h4⟩
  dsimp only at h1 h2 h3 h4 ⊢
  subst h1 h3
  by_cases c:(i:Int) < (order.length:Int)∧(i:Int) < 30
  ·left
   have hv:=FX order[i] 65535 (by decide)
   rw [show ((65535:Nat):Int)=65535 from rfl] at hv
   rw [FB c,aA,cond_true,dG order i (by omega),aA,show chk (decide ((P.length:Int)≠0))=some () from lq (by omega),aA]
   generalize Go.bits .and .i64 order[i] 65535=v at hv
   obtain ⟨w,rfl⟩:=Int.eq_ofNat_of_zero_le hv.1
   have hw:((w:Int)).tmod (P.length:Int)=((w % P.length:Nat):Int):=rfl
   have hlt:w % P.length < P.length:=Nat.mod_lt _ hpos
   rw [hw,Ak _ _ _ hlt,aA]
   obtain ⟨e,t',e2,h5,h6⟩:=FT hM hkz (.inl ⟨rfl,rfl⟩) (Int.le_refl 1) h4 hlt
   rw [e2,aA]
   dsimp only
   have hq2:((bif (e != 0) then (bif (e != 8) then some (true,m') else (Option.bind (jc t') fun d=>(Option.bind (dO m') fun b=>some ((d != b.1.k),b.2)))) else some (false,m')):Option (Bool×bA))=some (false,m'):=by
    rcases h6 with rfl | ⟨rfl,h6⟩
    ·rfl
    ·rw [show ((8:Int) != 0)=true from rfl,cond_true,show ((8:Int) != 8)=false from rfl,cond_false,show jc t'=some t'.cN.k from rfl,aA,e1,aA,h6]
     dsimp only
     rw [LR]
   rw [hq2,aA,cond_false,w64 (by omega) (by omega)]
   exact ⟨_,rfl,⟨i+1,by dsimp only; omega,by omega,rfl,h5.mono fun _ h=> .inl h⟩,by dsimp only; omega⟩
  ·right
   rw [FC c,aA,cond_false]
   exact ⟨_,rfl,t,rfl,h4⟩
 ·rintro r ⟨t,rfl,h4⟩
  dsimp only
  obtain ⟨t',e2,h5⟩:=L0 (G:=(List.range P.length).map (grm 1 x.k 0 P)) hM hkz (.inl ⟨rfl,rfl⟩) (Int.le_refl 1) (by simp; omega) (fun j=>j) (fun j hj=>⟨by simp,by simpa using hj⟩) (fun _=>false) (fun a=>(bif (decide (a.2 < (P.length:Int))) then (Option.bind (idx ((List.range P.length).map (grm 1 x.k 0 P)) a.2) fun f=>(Option.bind (cW a.1 f) fun l=>some (.inl (l.2,(IntKind.i64.wrap (a.2+1)))))) else some (.inr a.1))) (fun t j hj=>by
    have hj':j < P.length:=by simpa using hj
    dsimp only
    rw [decide_eq_true (by omega),cond_true,dG _ j hj,aA,w64 (by omega) (by omega),if_neg (by simp)]
    rfl) (fun t=>by
    dsimp only
    rw [List.length_map,List.length_range,decide_eq_false (by omega),cond_false]) h4
  rw [e2,aA]
  obtain ⟨h6,h7⟩:=N6 h5 fun i hi=> .inr ⟨i,by simpa using hi,rfl,rfl⟩
  rw [CF (by rw [h7]; exact hx.g.sw),aA,e1,aA]
  dsimp only
  rw [h7,FL hx.g,aA,decide_eq_true rfl,cond_true,Ej h6,aA,aA]
  rfl
end Go.Tw.X

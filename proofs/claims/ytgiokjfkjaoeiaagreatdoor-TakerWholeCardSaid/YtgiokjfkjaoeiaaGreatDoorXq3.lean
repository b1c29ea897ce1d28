import Derived.Test.YtgiokjfkjaoeiaaGreatDoorXq2
import Derived.Test.YtgiokjfkjaoeiaaGreatDoorXp1
import Derived.Test.YtgiokjfkjaoeiaaGreatDoorFw2
set_option linter.unusedVariables false
set_option linter.unusedSimpArgs false
namespace Go.Tw.X
open Go Go.Tw
def ptN (size:Int):Nat:=(max 1 (min size 8000)).toNat
theorem Pe (size:Int):imax 1 (dZ size 8000)=(ptN size:Int):=by rw [gO,dN]; unfold ptN; omega
theorem GA (n:Int):1<=ptN n:=by unfold ptN; omega
theorem Pf (n:Int):ptN n<=8000:=by unfold ptN; omega
def nU (z n:Nat):Nat:=max 1 ((z+n - 1) / n)
def uI (s:ByteArray) (n i:Nat):ByteArray:=iE s ((i*n:Nat):Int) ((min s.size (i*n+n):Nat):Int)
def pP (s:ByteArray) (n:Nat):List ByteArray:=(List.range (nU s.size n)).map (uI s n)
theorem wm (s:ByteArray) (n:Nat):(pP s n).length=nU s.size n:=by unfold pP; rw [List.length_map,List.length_range]
theorem B2 (z n:Nat):1<=nU z n:=by unfold nU; omega
theorem Kw (z n:Nat) (h:1<=n):nU z n<=z+1:=by
 unfold nU
 have:(z+n - 1) / n<=z+1:=Nat.le_of_lt_succ ((Nat.div_lt_iff_lt_mul (by omega)).2 (by
  have h1:z*1<=z*n:=Nat.mul_le_mul_left _ h
  have h2:(z+1+1)*n=z*n+n+n:=by rw [Nat.add_mul,Nat.add_mul,Nat.one_mul]
  rw [Nat.succ_eq_add_one,h2]
  omega))
 omega
theorem zL {z n i:Nat} (h:1<=n):i+1 < nU z n↔i*n+n < z:=by
 unfold nU
 have h2:(i+2)*n=i*n+n+n:=by rw [Nat.add_mul]; omega
 have key:i+2<=(z+n - 1) / n↔(i+2)*n<=z+n - 1:=Nat.le_div_iff_mul_le (by omega)
 omega
theorem Ph {z n i:Nat} (h:1<=n) (hi:i < nU z n):i*n<=z:=by
 cases i with
 | zero=>omega
 | succ i =>
  have:=(zL h).1 hi
  rw [Nat.add_mul]
  omega
theorem HB (s:ByteArray) (a b:Nat) (h:b<=s.size):(iE s a b).size=b - a:=by
 rw [<- bD,gW,List.length_drop,List.length_take,bD]
 omega
theorem AW (s:ByteArray):iE s 0 (s.size:Int)=s:=by
 apply rF
 have:=gW s 0 s.size
 rw [show iE s 0 (s.size:Int)=iE s ((0:Nat):Int) (s.size:Int) from rfl,this,List.drop_zero,<- bD,List.take_length]
theorem AX (s:ByteArray) (a b c d:Nat) (h:a+d<=b):iE (iE s a b) c d=iE s ((a+c:Nat):Int) ((a+d:Nat):Int):=by
 apply rF
 rw [gW,gW,gW,List.take_drop,List.take_take,List.drop_drop]
 rw [show min (a+d) b=a+d by omega]
theorem HC (s:ByteArray) (size:Int) (h:s.size<=1000000):mO s size=some (pP s (ptN size)):=by
 unfold mO
 rw [Pe]
 have hp:=GA size
 have hl:=Pf size
 generalize ptN size=n at hp hl
 have hc:=B2 s.size n
 have hcl:=Kw s.size n hp
 have hz: ∀ i,(iE s ((i*n:Nat):Int) (s.size:Int)).size=s.size - i*n:=λi=>HB _ _ _ (Nat.le_refl _)
 refine fL (λi=>(iE s ((i*n:Nat):Int) (s.size:Int),(List.range i).map (uI s n))) (nU s.size n - 1) (iE s (((nU s.size n - 1)*n:Nat):Int) (s.size:Int),(List.range (nU s.size n - 1)).map (uI s n)) ?_ ?_ ?_ ?_
 ·rw [Nat.zero_mul,show ((0:Nat):Int)=0 from rfl,AW]
  rfl
 ·intro i hi
  have h1:i*n+n < s.size:=(zL hp).1 (by omega)
  dsimp only
  rw [hz,decide_eq_true (by omega),cond_true,bO (by omega) (by omega) (by omega),aA,bL (by simp; omega),aA,bO (by omega) (by omega) (by omega),aA]
  have e1:iE (iE s ((i*n:Nat):Int) (s.size:Int)) (n:Int) ((s.size - i*n:Nat):Int)=iE s (((i+1)*n:Nat):Int) (s.size:Int):=by
   rw [AX _ _ _ _ _ (by omega),Nat.add_mul,Nat.one_mul,show i*n+(s.size - i*n)=s.size by omega]
  have e2:iE (iE s ((i*n:Nat):Int) (s.size:Int)) 0 (n:Int)=uI s n i:=by
   rw [show (0:Int)=((0:Nat):Int) from rfl,AX _ _ _ _ _ (by omega),Nat.add_zero]
   unfold uI
   rw [show min s.size (i*n+n)=i*n+n by omega]
  rw [e1,e2,List.range_succ,List.map_append]
  rfl
 ·have h1: ¬ ((nU s.size n - 1)*n+n < s.size):=λhh=>by
   have:=(zL (z:=s.size) hp).2 hh
   omega
  dsimp only
  rw [hz,decide_eq_false (by omega),cond_false]
 ·dsimp only
  rw [bL (by simp; omega),aA]
  have h1: ¬ ((nU s.size n - 1)*n+n < s.size):=λhh=>by
   have:=(zL (z:=s.size) hp).2 hh
   omega
  have e:iE s (((nU s.size n - 1)*n:Nat):Int) (s.size:Int)=uI s n (nU s.size n - 1):=by
   unfold uI
   rw [show min s.size ((nU s.size n - 1)*n+n)=s.size by omega]
  rw [e]
  unfold pP
  conv=>rhs; rw [show nU s.size n=(nU s.size n - 1)+1 by omega,List.range_succ,List.map_append]
  rfl
theorem Fb (s:aK):aK.mk (cE.mk s.config.part s.config.every s.config.most) (aH.mk s.current.k s.current.w s.current.h s.current.x s.current.y s.current.title s.current.rows s.current.len s.current.chain s.current.begun) (aH.mk s.aN.k s.aN.w s.aN.h s.aN.x s.aN.y s.aN.title s.aN.rows s.aN.len s.aN.chain s.aN.begun) s.kept (bA.mk s.message.id s.message.key s.message.base s.message.parts s.message.there s.message.due) s.next=s:=rfl
def DK (m:bA) (i:Nat):Option (Int×ByteArray):=if m.there[i]?=some true then none else some ((i:Int),(m.parts[i]?).getD noS)
def wo (m:bA) (n:Nat):List (Int×ByteArray):=(List.range n).filterMap (DK m)
def pE (m:bA):List (Int×ByteArray):=wo m m.parts.length
theorem AY (m:bA) (n:Nat):(wo m n).length<=n:=by
 have:=List.length_filterMap_le (DK m) (List.range n)
 rw [List.length_range] at this
 exact this
theorem zM (m:bA) (n:Nat):wo m (n+1)=wo m n++(if m.there[n]?=some true then [] else [((n:Int),(m.parts[n]?).getD noS)]):=by
 unfold wo
 rw [List.range_succ,List.filterMap_append]
 congr 1
 unfold DK
 by_cases h:m.there[n]?=some true
 ·simp [h]
 ·simp [h]
theorem Kx {α:Type} (m:bA) (F:Int×ByteArray->α) (Y:List α->Int×ByteArray->Option (List α×Bool)) (hl:m.there.length=m.parts.length) (hp:m.parts.length<=1000000) (hY: ∀ (l:List α) x,l.length<=1000000->Y l x=some (l++[F x],true)):iA m Y []=some ((pE m).map F):=by
 unfold iA
 refine fL (λi:Nat=>((i:Int),(wo m i).map F)) m.parts.length (.inl ((pE m).map F)) rfl ?_ ?_ rfl
 ·intro i hi
  have hi2:i < m.there.length:=by omega
  have hn:=AY m i
  dsimp only
  rw [decide_eq_true (by omega),cond_true,cZ _ _ hi,aA,cZ _ _ hi2,aA,zM,List.getElem?_eq_getElem hi2,List.getElem?_eq_getElem hi]
  cases hb:m.there[i] with
  | true =>
   rw [Bool.not_true,cond_false,aA,cond_false,w64 (by omega) (by omega),if_pos rfl,List.append_nil]
   rfl
  | false =>
   rw [Bool.not_false,cond_true,hY _ _ (by rw [List.length_map]; omega),aA,Bool.not_true,aA,cond_false,w64 (by omega) (by omega),if_neg (by simp),List.map_append]
   rfl
 ·dsimp only
  rw [decide_eq_false (by omega),cond_false]
  rfl
def gr (m:bA) (x:Int×ByteArray):dV:=⟨1,1,[m.id,m.key,m.base,x.1,(m.parts.length:Int)],x.2⟩
def l7 (m:bA):List dV:=(pE m).map (gr m)
def has (k:Int) (l:List aH):Bool:=l.any λx=>x.k == k
def HD (s:aK) (now:Int):bA:=⟨s.next,s.current.k,s.aN.k,pP (jZ s.aN s.current) (ptN s.config.part),List.replicate (pP (jZ s.aN s.current) (ptN s.config.part)).length false,now⟩
def ui (s:aK):List aH:=if has s.current.k s.kept then s.kept else s.kept++[s.current]
def DL (s:aK) (now:Int):aK:=⟨s.config,s.current,s.aN,(ui s).drop ((ui s).length - s.config.most.toNat),HD s now,IntKind.i64.wrap (s.next+1)⟩
structure SNI (s:aK):Prop where
 cur:CT1 s.current
 ack:CT1 s.aN
 kp: ∀ x∈s.kept,CT1 x
 m0:1<=s.config.most/\s.config.most<=64
 kl:(s.kept.length:Int)<=s.config.most
 pl:s.message.parts.length<=61001
 tl:s.message.there.length=s.message.parts.length
 so:s.kept.Pairwise λx y=>x.k < y.k
 ck: ∀ x∈s.kept,x.k<=s.current.k
theorem Pj (l:List aH) (S:aK) (hl:l.length<=1000000):cD l S=some (has S.current.k l):=by
 unfold cD dD has
 obtain ⟨q,h1,h2⟩:=find_eq l (λx=>x.k == S.current.k) hl (λa=>(bif (decide (a < (l.length:Int))) then (Option.bind (idx l a) λb=>(Option.bind (fO b S) λc=>(bif c then (lx (some a)) else some (.inl (IntKind.i64.wrap (a+1)))))) else some (.inr (.inl ())))) (by
  intro n hn
  unfold fO
  rw [decide_eq_true (by omega),cond_true,cZ l n hn,aA,aA,w64 (by omega) (by omega)]
  cases (l[n].k == S.current.k) <;> rfl) (by
  rw [decide_eq_false (by omega),cond_false])
 rw [h1,aA]
 rcases h2 with ⟨rfl,h3⟩ | ⟨w,rfl,h4,h3⟩
 ·rw [h3]
  rfl
 ·rw [h3]
  show some (decide (w>=0))=some true
  rw [decide_eq_true h4]
theorem Ky (s:aK):(ui s).length<=s.kept.length+1:=by
 unfold ui
 split
 ·omega
 ·simp
theorem AZ (s:aK) (h:SNI s):(pP (jZ s.aN s.current) (ptN s.config.part)).length<=61001:=by
 have h1:=ve s.aN s.current h.cur.sw (by have:=h.cur.pk; omega)
 have h2:=Kw (jZ s.aN s.current).size (ptN s.config.part) (GA _)
 rw [wm]
 omega
theorem DM {α:Type} (l:List α) (a:Nat):cut l (a:Int) (l.length:Int)=l.drop a:=by rw [rE,List.take_length]
theorem DN (s:aK) (now:Int) (h:SNI s):gF s now=some (DL s now):=by
 unfold gF
 have h1:=ve s.aN s.current h.cur.sw (by have:=h.cur.pk; omega)
 have h2:=AZ s h
 have hk:=h.kl
 have hm:=h.m0
 rw [diff_eq _ _ h.ack.sw h.cur.sw (by have:=h.ack.pk; omega) (by have:=h.cur.pk; omega),aA,HC _ _ (by omega),aA,Aw (by omega) (by omega) (by omega),aA,Pj _ _ (by omega),aA,Int.toNat_natCast]
 dsimp only
 have hlen:=Ky s
 have fin: ∀ e:aK,e=⟨s.config,s.current,s.aN,ui s,HD s now,IntKind.i64.wrap (s.next+1)⟩->(Option.bind (chk (dE (imax 0 (IntKind.i64.wrap ((e.kept.length:Int) - e.config.most))) (e.kept.length:Int) e.kept.length)) λ_=>some (aK.mk (cE.mk e.config.part e.config.every e.config.most) (aH.mk e.current.k e.current.w e.current.h e.current.x e.current.y e.current.title e.current.rows e.current.len e.current.chain e.current.begun) (aH.mk e.aN.k e.aN.w e.aN.h e.aN.x e.aN.y e.aN.title e.aN.rows e.aN.len e.aN.chain e.aN.begun) (cut e.kept (imax 0 (IntKind.i64.wrap ((e.kept.length:Int) - e.config.most))) (e.kept.length:Int)) (bA.mk e.message.id e.message.key e.message.base e.message.parts e.message.there e.message.due) e.next))=some (DL s now):=by
  rintro e rfl
  dsimp only
  rw [w64 (by omega) (by omega),show imax 0 (((ui s).length:Int) - s.config.most)=(((ui s).length - s.config.most.toNat:Nat):Int) by rw [gO]; omega,bO (by omega) (by omega) (by omega),aA,DM]
  rfl
 cases hh:has s.current.k s.kept with
 | true =>
  rw [Bool.not_true,cond_false,aA]
  exact fin _ (by unfold ui; rw [hh,if_pos rfl]; rfl)
 | false =>
  rw [Bool.not_false,cond_true,bL (by simp; omega),aA,aA]
  exact fin _ (by unfold ui; rw [hh,if_neg (by simp)]; rfl)
theorem HE {k:Int} {l:List aH} (h:has k l=false): ∀ x∈l,x.k≠k:=by
 intro x hx he
 have:has k l=true:=List.any_eq_true.2 ⟨x,hx,by simp [he]⟩
 rw [h] at this
 cases this
theorem Pk {s:aK} (now:Int) (h:SNI s):SNI (DL s now):=by
 have hm:=h.m0
 have hk: ∀ x∈ui s,CT1 x/\x.k<=s.current.k:=by
  unfold ui
  split
  ·exact λx hx=>⟨h.kp x hx,h.ck x hx⟩
  ·intro x hx
   rcases List.mem_append.1 hx with hx | hx
   ·exact ⟨h.kp x hx,h.ck x hx⟩
   ·rw [List.mem_singleton.1 hx]
    exact ⟨h.cur,Int.le_refl _⟩
 have hs:(ui s).Pairwise λx y=>x.k < y.k:=by
  unfold ui
  split
  ·exact h.so
  ·rename_i hh
   rw [List.pairwise_append]
   refine ⟨h.so,List.pairwise_singleton ..,?_⟩
   intro x hx y hy
   rw [List.mem_singleton.1 hy]
   have h1:=h.ck x hx
   have h2:=HE (by simpa using hh) x hx
   omega
 refine ⟨h.cur,h.ack,λx hx=>(hk x (List.mem_of_mem_drop hx)).1,hm,?_,AZ s h,by show (List.replicate _ false).length=_; rw [List.length_replicate]; rfl,hs.sublist (List.drop_sublist _ _),λx hx=>(hk x (List.mem_of_mem_drop hx)).2⟩
 show (((ui s).drop ((ui s).length - s.config.most.toNat)).length:Int)<=s.config.most
 rw [List.length_drop]
 omega
def zO:bA:=⟨0,0,0,[],[],0⟩
def Kz (s:aK) (d:Int):aK:=⟨s.config,s.current,s.aN,s.kept,⟨s.message.id,s.message.key,s.message.base,s.message.parts,s.message.there,d⟩,s.next⟩
def rN (s:aK):Bool:=(s.message.id == 0) || ((s.message.key != s.current.k) || (s.message.base != s.aN.k))
def ng (s:aK) (now:Int):aK:=if rN s then DL s now else s
def p7 (s:aK) (now:Int):List dV×aK :=
 if s.current.k=s.aN.k then ([],⟨s.config,s.current,s.aN,s.kept,zO,s.next⟩)
 else if now < (ng s now).message.due then ([],ng s now)
 else (l7 (ng s now).message,Kz (ng s now) (IntKind.i64.wrap (now+s.config.every)))
theorem KA {s:aK} (now:Int) (h:SNI s):SNI (ng s now):=by
 unfold ng
 split
 ·exact Pk now h
 ·exact h
theorem HF (s:aK) (now:Int):(ng s now).config=s.config:=by unfold ng; split <;> rfl
theorem KB (s:aK):((bif (s.message.id == 0) then some true else (bif (s.message.key != s.current.k) then some true else some (s.message.base != s.aN.k))):Option Bool)=some (rN s):=by
 unfold rN
 cases (s.message.id == 0) <;> cases (s.message.key != s.current.k) <;> rfl
theorem uc (s:aK) (now:Int) (h:SNI s):eI s now=some (p7 s now):=by
 unfold eI
 simp only [Fb]
 by_cases hk:s.current.k=s.aN.k
 ·rw [show (s.current.k == s.aN.k)=true by simp [hk],cond_true]
  unfold p7
  rw [if_pos hk]
  rfl
 ·rw [show (s.current.k == s.aN.k)=false by simp [hk],cond_false,KB,aA]
  have hb:((bif rN s then (Option.bind (gF s now) λc=>some c) else some s):Option aK)=some (ng s now):=by
   unfold ng
   cases rN s with
   | true=>rw [cond_true,DN s now h,aA,if_pos rfl]
   | false=>rw [cond_false,if_neg (by simp)]
  rw [hb,aA]
  have hS:=KA now h
  have hc:=HF s now
  unfold p7
  rw [if_neg hk]
  generalize ng s now=e at hS hc
  by_cases hd:now < e.message.due
  ·rw [decide_eq_true hd,cond_true,if_pos hd]
  ·rw [decide_eq_false hd,cond_false,if_neg hd]
   have hpl:=hS.pl
   have:=Kx ⟨e.message.id,e.message.key,e.message.base,e.message.parts,e.message.there,IntKind.i64.wrap (now+e.config.every)⟩ (gr e.message) (λb a=>(Option.bind (chk (eP b.length ([(dV.mk 1 1 [e.message.id,e.message.key,e.message.base,a.1,(e.message.parts.length:Int)] a.2)]).length 56)) λ_=>some ((b++[(dV.mk 1 1 [e.message.id,e.message.key,e.message.base,a.1,(e.message.parts.length:Int)] a.2)]),true))) hS.tl (by show e.message.parts.length<=_; omega) (by
    intro l x hl
    rw [bL (by simp; omega),aA]
    rfl)
   rw [this,aA,<- hc]
   rfl
def wq (h:ByteArray) (i:Nat):Bool:=match (sbs h)[i / 8]? with | some b=>decide ((b / 2 ^ (i % 8)) % 2=1) | none=>false
def mkI (t:List Bool) (h:ByteArray) (n:Nat):List Bool:=t.mapIdx λi b=>b || (decide (i < n) && wq h i)
theorem ox (t:List Bool) (h:ByteArray) (n:Nat):(mkI t h n).length=t.length:=by unfold mkI; rw [List.length_mapIdx]
theorem rO (t:List Bool) (h:ByteArray) (n i:Nat) (hi:i < t.length):(mkI t h n)[i]?=some (t[i] || (decide (i < n) && wq h i)):=by
 unfold mkI
 rw [List.getElem?_mapIdx,List.getElem?_eq_getElem hi]
 rfl
theorem KC (t:List Bool) (h:ByteArray):mkI t h 0=t:=by
 apply List.ext_getElem?
 intro i
 by_cases hi:i < t.length
 ·rw [rO _ _ _ _ hi,List.getElem?_eq_getElem hi]
  simp
 ·rw [List.getElem?_eq_none (by rw [ox]; omega),List.getElem?_eq_none (by omega)]
theorem KD (t:List Bool) (h:ByteArray) (n:Nat) (hn:n < t.length):mkI t h (n+1)=if wq h n then (mkI t h n).set n true else mkI t h n:=by
 apply List.ext_getElem?
 intro i
 by_cases hi:i < t.length
 ·rw [rO _ _ _ _ hi]
  by_cases hb:wq h n=true
  ·rw [if_pos hb,List.getElem?_set]
   by_cases hin:n=i
   ·subst hin
    rw [if_pos rfl,if_pos (by rw [ox]; exact hi),hb]
    simp
   ·rw [if_neg hin,rO _ _ _ _ hi]
    have:decide (i < n+1)=decide (i < n):=by rw [decide_eq_decide]; omega
    rw [this]
  ·rw [if_neg hb,rO _ _ _ _ hi]
   by_cases hin:n=i
   ·subst hin
    have:wq h n=false:=by simpa using hb
    rw [this]
    simp
   ·have:decide (i < n+1)=decide (i < n):=by rw [decide_eq_decide]; omega
    rw [this]
 ·rw [List.getElem?_eq_none (by rw [ox]; omega)]
  split
  ·rw [List.getElem?_eq_none (by rw [List.length_set,ox]; omega)]
  ·rw [List.getElem?_eq_none (by rw [ox]; omega)]
theorem KE (h:ByteArray) (i:Nat) (hi:8*h.size<=i):wq h i=false:=by
 unfold wq
 rw [List.getElem?_eq_none (by rw [bD]; omega)]
theorem MY (t:List Bool) (h:ByteArray) (n:Nat) (hn:min t.length (8*h.size)<=n):mkI t h n=mkI t h t.length:=by
 apply List.ext_getElem?
 intro i
 by_cases hi:i < t.length
 ·rw [rO _ _ _ _ hi,rO _ _ _ _ hi]
  by_cases hin:i < n
  ·rw [decide_eq_true hin,decide_eq_true hi]
  ·rw [KE h i (by omega),Bool.and_false,Bool.and_false]
 ·rw [List.getElem?_eq_none (by rw [ox]; omega),List.getElem?_eq_none (by rw [ox]; omega)]
theorem MZ (h:ByteArray) (i:Nat) (hi:i / 8 < (sbs h).length):wq h i=decide (((sbs h)[i / 8] / 2 ^ (i % 8)) % 2=1):=by
 unfold wq
 rw [List.getElem?_eq_getElem hi]
theorem HG (b:Int) (i:Nat) (h0:0<=b):b.fdiv (2 ^ (min (((i:Int).tmod 8)).toNat 8))=b / 2 ^ (i % 8):=by
 have e:min (((i:Int).tmod 8)).toNat 8=i % 8:=by
  rw [show ((i:Int).tmod 8)=((i % 8:Nat):Int) from rfl,Int.toNat_natCast]
  omega
 rw [e,Int.fdiv_eq_ediv_of_nonneg _ (Int.pow_nonneg (by decide))]
theorem HH (b:Int) (j:Nat) (h0:0<=b) (h1:b < 256):0<=b / 2 ^ j/\b / 2 ^ j < 256:=by
 refine ⟨Int.ediv_nonneg h0 (Int.pow_nonneg (by decide)),?_⟩
 have:=Int.ediv_le_self (2 ^ j) h0
 omega
theorem M1 (x:Int) (h0:0<=x) (h1:x < 256):Go.bits .and .u8 x 1=x % 2:=by
 have h:=bits_mask .u8 8 (by decide) wraps_u8 1 (by decide) x h0 (by omega)
 have e:((2:Int) ^ 1 - 1)=1:=by decide
 have e2:((2:Int) ^ 1)=2:=by decide
 rw [e,e2] at h
 exact h
def DO (s:aK) (t:List Bool):aK:=⟨s.config,s.current,s.aN,s.kept,⟨s.message.id,s.message.key,s.message.base,s.message.parts,t,s.message.due⟩,s.next⟩
theorem M3 (s:aK) (h:ByteArray) (hl:s.message.there.length<=1000000) (hs:h.size<=1000000):gV s h=some (DO s (mkI s.message.there h s.message.there.length)):=by
 unfold gV
 simp only [Fb]
 rw [w64 (x:=8*(h.size:Int)) (by omega) (by omega),show dZ (s.message.there.length:Int) (8*(h.size:Int))=((min s.message.there.length (8*h.size):Nat):Int) by rw [dN]; omega]
 refine fL (λi:Nat=>(DO s (mkI s.message.there h i),(i:Int))) (min s.message.there.length (8*h.size)) (DO s (mkI s.message.there h (min s.message.there.length (8*h.size)))) ?_ ?_ ?_ ?_
 ·rw [KC]
  rfl
 ·intro i hi
  have hi2:i / 8 < (sbs h).length:=by rw [bD]; omega
  have hb:=ln h _ (List.getElem_mem hi2)
  have hr:=HH _ (i % 8) hb.1 hb.2
  dsimp only
  rw [decide_eq_true (by omega),cond_true,show (i:Int).tdiv 8=((i / 8:Nat):Int) from rfl,w64 (x:=((i / 8:Nat):Int)) (by omega) (by omega),vI h _ hi2,aA,show chk (shk ((i:Int).tmod 8))=some () from kq (show (0:Int)<=((i % 8:Nat):Int) by omega),aA,HG _ _ hb.1,M1 _ hr.1 hr.2,KD _ _ _ (by omega),MZ h i hi2,w64 (by omega) (by omega)]
  by_cases hq:((sbs h)[i / 8] / 2 ^ (i % 8)) % 2=1
  ·rw [show (((sbs h)[i / 8] / 2 ^ (i % 8)) % 2 == 1)=true by simp [hq],cond_true,decide_eq_true hq,if_pos rfl]
   have hg:idx (DO s (mkI s.message.there h i)).message.there (i:Int)=some ((mkI s.message.there h i)[i]'(by rw [ox]; omega)):=cZ (mkI s.message.there h i) i (by rw [ox]; omega)
   rw [hg,aA]
   rfl
  ·rw [show (((sbs h)[i / 8] / 2 ^ (i % 8)) % 2 == 1)=false by simp [hq],cond_false,decide_eq_false hq,if_neg (by simp)]
   rfl
 ·dsimp only
  rw [decide_eq_false (by omega),cond_false]
 ·rw [MY _ _ _ (Nat.le_refl _)]
def fk (k:Int):List aH->Nat | []=>0 | x::l=>if x.k=k then 0 else fk k l+1
theorem NJ (k:Int): ∀ l,fk k l<=l.length
 | []=>Nat.le_refl _
 | x::l=>by
  unfold fk
  have:=NJ k l
  split
  ·exact Nat.zero_le _
  ·rw [List.length_cons]; omega
theorem NK (k:Int): ∀ (l:List aH) (n:Nat) (hn:n < l.length),n < fk k l->l[n].k≠k
 | x::l,n,hn,h=>by
  unfold fk at h
  split at h
  ·omega
  ·rename_i hx
   cases n with
   | zero=>exact hx
   | succ n=>exact NK k l n (by simpa using hn) (by omega)
theorem NL (k:Int): ∀ (l:List aH) (hn:fk k l < l.length),l[fk k l].k=k
 | x::l,hn=>by
  by_cases hx:x.k=k
  ·have e:fk k (x::l)=0:=by unfold fk; rw [if_pos hx]
   simp only [e]
   exact hx
  ·have e:fk k (x::l)=fk k l+1:=by conv=>lhs; unfold fk; rw [if_neg hx]
   simp only [e]
   rw [e] at hn
   exact NL k l (by simpa using hn)
theorem KF (l:List aH) (k:Int) (hl:l.length<=1000000):cP l k=some (if fk k l < l.length then (fk k l:Int) else -1):=by
 unfold cP
 have hle:=NJ k l
 refine fL (λi:Nat=>(i:Int)) (fk k l) (if fk k l < l.length then .inr (fk k l:Int) else .inl ()) rfl ?_ ?_ ?_
 ·intro i hi
  have hil:i < l.length:=by omega
  have hne:=NK k l i hil hi
  unfold gK
  rw [decide_eq_true (by omega),cond_true,cZ _ _ hil,aA,aA,show (l[i].k == k)=false by simp [hne],cond_false,w64 (by omega) (by omega)]
  rfl
 ·by_cases hlt:fk k l < l.length
  ·have ha:=NL k l hlt
   unfold gK
   rw [decide_eq_true (by omega),cond_true,cZ _ _ hlt,aA,aA,show (l[fk k l].k == k)=true by simp [ha],cond_true,if_pos hlt]
   rfl
  ·rw [decide_eq_false (by omega),cond_false,if_neg hlt]
 ·by_cases hlt:fk k l < l.length
  ·rw [if_pos hlt,if_pos hlt]
  ·rw [if_neg hlt,if_neg hlt]
def ju (s:aK) (id:Int) (h:ByteArray):aK:=if id=s.message.id/\id > 0 then DO s (mkI s.message.there h s.message.there.length) else s
def wu (s:aK) (k id:Int) (h:ByteArray):Bool×aK :=
 if k<=s.aN.k\/k > s.current.k then (false,ju s id h)
 else if fk k s.kept < s.kept.length then (true,⟨s.config,s.current,s.kept[fk k s.kept]?.getD gL,s.kept.drop (fk k s.kept+1),(ju s id h).message,s.next⟩)
 else (false,⟨s.config,s.current,gL,s.kept,(ju s id h).message,s.next⟩)
theorem B3:CT1 gL:=⟨CG,by decide⟩
theorem HI (l:List aH) (h:l.length<=1000000):gJ l=some l:=by
 unfold gJ
 rw [bL (by simp; omega),aA]
 rfl
theorem yA (s:aK) (k id:Int) (h:ByteArray) (hS:SNI s) (hs:h.size<=1000000):fW s k id h=some (wu s k id h):=by
 unfold fW
 simp only [Fb]
 have hk:=hS.kl
 have hm:=hS.m0
 have e1:((bif (id == s.message.id) then some (decide (id > 0)) else some false):Option Bool)=some (decide (id=s.message.id/\id > 0)):=by
  by_cases h1:id=s.message.id
  ·rw [show (id == s.message.id)=true by simp [h1],cond_true]
   by_cases h2:id > 0
   ·rw [decide_eq_true h2,decide_eq_true ⟨h1,h2⟩]
   ·rw [decide_eq_false h2,decide_eq_false (λhh=>h2 hh.2)]
  ·rw [show (id == s.message.id)=false by simp [h1],cond_false,decide_eq_false (λhh=>h1 hh.1)]
 have e2:((bif (decide (id=s.message.id/\id > 0)) then (Option.bind (gV s h) λa=>some a) else some s):Option aK)=some (ju s id h):=by
  unfold ju
  by_cases h1:id=s.message.id/\id > 0
  ·rw [decide_eq_true h1,cond_true,M3 s h (by have:=hS.pl; have:=hS.tl; omega) hs,aA,if_pos h1]
  ·rw [decide_eq_false h1,cond_false,if_neg h1]
 have a1:(ju s id h).aN=s.aN:=by unfold ju; split <;> rfl
 have a2:(ju s id h).current=s.current:=by unfold ju; split <;> rfl
 have a3:(ju s id h).kept=s.kept:=by unfold ju; split <;> rfl
 have a4:(ju s id h).config=s.config:=by unfold ju; split <;> rfl
 have a5:(ju s id h).next=s.next:=by unfold ju; split <;> rfl
 rw [e1,aA,e2,aA]
 unfold wu
 generalize ju s id h=m at a1 a2 a3 a4 a5
 rw [or2,aA,a1,a2,a3]
 by_cases hc:k<=s.aN.k\/k > s.current.k
 ·rw [decide_eq_true hc,cond_true,if_pos hc]
 ·rw [decide_eq_false hc,cond_false,if_neg hc,KF _ _ (by omega),aA]
  by_cases hlt:fk k s.kept < s.kept.length
  ·rw [if_pos hlt,if_pos hlt,decide_eq_false (by omega),cond_false,cZ _ _ hlt,aA,w64 (by omega) (by omega),bO (by omega) (by omega) (by omega),aA,show ((fk k s.kept:Int)+1)=((fk k s.kept+1:Nat):Int) by omega,DM,HI _ (by rw [List.length_drop]; omega),aA,List.getElem?_eq_getElem hlt,<- a2,<- a4,<- a5]
   rfl
  ·rw [if_neg hlt,if_neg hlt,decide_eq_true (by omega),cond_true,<- a2,<- a4,<- a5]
   rfl
def nuS (c:cE):aK:=⟨⟨imax 1 (dZ c.part 8000),imax 1 (dZ c.every 1048576),imax 1 (dZ c.most 64)⟩,gL,gL,[],zO,1⟩
theorem zP (c:cE):nE c=some (nuS c):=rfl
theorem Fc (c:cE):SNI (nuS c):=by
 have hm:imax 1 (dZ c.most 64)=max 1 (min c.most 64):=by rw [gO,dN]
 refine ⟨B3,B3,λx hx=>(by cases hx),?_,?_,Nat.zero_le _,rfl,List.Pairwise.nil,λx hx=>(by cases hx)⟩
 ·show 1<=imax 1 (dZ c.most 64)/\imax 1 (dZ c.most 64)<=64
  omega
 ·show (0:Int)<=imax 1 (dZ c.most 64)
  omega
def setCur (s:aK) (x:aH):aK:=⟨s.config,x,s.aN,s.kept,s.message,s.next⟩
def A9 (s:aK) (x:aH):Bool×aK:=if nY x=false\/x.k<=s.current.k then (false,s) else (true,setCur s x)
theorem KG (s:aK) (x:aH) (h:SW x):fN s x=some (A9 s x):=by
 unfold fN A9
 rw [vM x h,aA,w9 x h]
 by_cases hm:nY x=true
 ·rw [hm,if_pos rfl,show ((0:Int) != 0)=false from rfl,cond_false,aA]
  by_cases hk:x.k<=s.current.k
  ·rw [decide_eq_true hk,cond_true,if_pos (.inr hk)]
  ·rw [decide_eq_false hk,cond_false,if_neg (by simp [hk]),aA]
   rfl
 ·have hm2:nY x=false:=by simpa using hm
  rw [hm2,if_neg (by simp),show ((1:Int) != 0)=true from rfl,cond_true,aA,cond_true,if_pos (Or.inl rfl)]
theorem M4 {s:aK} {x:aH} (h:SNI s) (hx:CT1 x):SNI (A9 s x).2:=by
 unfold A9
 split
 ·exact h
 ·rename_i hn
  exact ⟨hx,h.ack,h.kp,h.m0,h.kl,h.pl,h.tl,h.so,λy hy=>by have:=h.ck y hy; show y.k<=x.k; omega⟩
theorem HJ {s:aK} (now:Int) (hk:s.current.k=s.aN.k):p7 s now=([],⟨s.config,s.current,s.aN,s.kept,zO,s.next⟩):=by
 unfold p7
 rw [if_pos hk]
theorem zQ {s:aK} (now:Int) (hk:s.current.k≠s.aN.k) (hf:rN s=true):p7 s now=(l7 (HD s now),Kz (DL s now) (IntKind.i64.wrap (now+s.config.every))):=by
 have e:ng s now=DL s now:=by unfold ng; rw [hf,if_pos rfl]
 unfold p7
 rw [if_neg hk,e,if_neg (show ¬ now < (DL s now).message.due from Int.lt_irrefl now)]
 rfl
theorem Fe {s:aK} (now:Int) (hk:s.current.k≠s.aN.k) (hf:rN s=false) (hd: ¬ now < s.message.due):p7 s now=(l7 s.message,Kz s (IntKind.i64.wrap (now+s.config.every))):=by
 have e:ng s now=s:=by unfold ng; rw [hf,if_neg (by simp)]
 unfold p7
 rw [if_neg hk,e,if_neg hd]
theorem qP (m:bA):(l7 m).length=(pE m).length:=by unfold l7; rw [List.length_map]
theorem KH {m:bA} (h:m.there=List.replicate m.parts.length false):pE m=(List.range m.parts.length).map λi:Nat=>((i:Int),(m.parts[i]?).getD noS):=by
 have key: ∀ n,n<=m.parts.length->wo m n=(List.range n).map λi:Nat=>((i:Int),(m.parts[i]?).getD noS):=by
  intro n
  induction n with
  | zero=>intro _; rfl
  | succ n ih =>
   intro hn
   rw [zM,ih (by omega),List.range_succ,List.map_append,show m.there[n]?=some false by rw [h,List.getElem?_replicate,if_pos (by omega)],if_neg (by simp)]
   rfl
 exact key _ (Nat.le_refl _)
theorem HK (s:ByteArray) (n i:Nat) (hi:i*n<=s.size):iE s 0 ((min s.size (i*n):Nat):Int)++uI s n i=iE s 0 ((min s.size ((i+1)*n):Nat):Int):=by
 apply rF
 unfold uI
 rw [pw,show (0:Int)=((0:Nat):Int) from rfl,gW,gW,gW,List.drop_zero,List.drop_zero,show min s.size (i*n)=i*n by omega,Nat.add_mul,Nat.one_mul]
 have h2:i*n<=min s.size (i*n+n):=by omega
 generalize min s.size (i*n+n)=b at h2
 have:=List.take_append_drop (i*n) ((sbs s).take b)
 rw [List.take_take,show min (i*n) b=i*n by omega] at this
 exact this
end Go.Tw.X
set_option maxHeartbeats 1000000
namespace Go.Tw.X
open Go Go.Tw
theorem Ff: ∀ (n:Nat) (l:List Nat),l.Nodup->(∀ x∈l,x < n)->l.length<=n/\(l.length=n -> ∀ i,i < n->i∈l)
 | 0,l,_,h=>by
  have:l=[]:=by
   cases l with
   | nil=>rfl
   | cons a l=>exact absurd (h a List.mem_cons_self) (Nat.not_lt_zero a)
  subst this
  exact ⟨Nat.le_refl _,λ_ i hi=>absurd hi (Nat.not_lt_zero i)⟩
 | n+1,l,hn,h=>by
  by_cases hm:n∈l
  ·have hl:=List.length_erase_of_mem hm
   have hpos:0 < l.length:=List.length_pos_of_mem hm
   obtain ⟨h1,h2⟩:=Ff n (l.erase n) (hn.erase n) (λx hx=>by
    have h3:=(hn.mem_erase_iff.1 hx)
    have:=h x h3.2
    have:=h3.1
    omega)
   refine ⟨by omega,λe i hi=> ?_⟩
   by_cases hin:i=n
   ·rw [hin]; exact hm
   ·exact List.mem_of_mem_erase (h2 (by omega) i (by omega))
  ·obtain ⟨h1,h2⟩:=Ff n l hn (λx hx=>by
    have:=h x hx
    have:x≠n:=λe=>hm (e ▸ hx)
    omega)
   exact ⟨by omega,λe=>by omega⟩
structure SL (P:List ByteArray) (l:List (Int×ByteArray)):Prop where
 nd:(l.map Prod.fst).Nodup
 at_: ∀ p∈l,∃ i:Nat,p.1=(i:Int)/\P[i]?=some p.2
theorem KI (P:List ByteArray):SL P []:=⟨List.nodup_nil,λp hp=>by cases hp⟩
theorem zU {α:Type} {k:Int}: ∀ {l:List (Int×α)},mgl k l=none -> ∀ p∈l,p.1≠k
 | [],_,p,hp=>by cases hp
 | (j,y)::l,h,p,hp=>by
  unfold mgl at h
  split at h
  ·cases h
  ·rename_i hne
   rcases List.mem_cons.1 hp with rfl | hp
   ·exact λe=>hne e.symm
   ·exact zU h p hp
theorem rQ {α:Type} {k:Int} {x:α}: ∀ {l:List (Int×α)},(l.map Prod.fst).Nodup->(k,x)∈l->mgl k l=some x
 | (j,y)::l,hn,hm=>by
  rw [List.map_cons,List.nodup_cons] at hn
  unfold mgl
  rcases List.mem_cons.1 hm with h | h
  ·injection h with h1 h2
   rw [if_pos h1,h2]
  ·split
   ·rename_i e
    exact absurd (List.mem_map_of_mem (f:=Prod.fst) h) (by rw [e]; exact hn.1)
   ·exact rQ hn.2 h
theorem SL.add {P:List ByteArray} {l:List (Int×ByteArray)} (h:SL P l) {i:Nat} {d:ByteArray} (hi:P[i]?=some d) (hn:mgl (i:Int) l=none):SL P (msl (i:Int) d l)/\msl (i:Int) d l=l++[((i:Int),d)]:=by
 have e:=B0 (i:Int) d l (zU hn)
 refine ⟨?_,e⟩
 rw [e]
 refine ⟨?_,λp hp=> ?_⟩
 ·rw [List.map_append,List.nodup_append]
  refine ⟨h.nd,by simp,λa ha b hb=> ?_⟩
  obtain ⟨p,hp,rfl⟩:=List.mem_map.1 ha
  simp at hb
  rw [hb]
  exact zU hn p hp
 ·rcases List.mem_append.1 hp with hp | hp
  ·exact h.at_ p hp
  ·rw [List.mem_singleton.1 hp]; exact ⟨i,rfl,hi⟩
theorem SL.le {P:List ByteArray} {l:List (Int×ByteArray)} (h:SL P l):l.length<=P.length/\(l.length=P.length -> ∀ i (hi:i < P.length),mgl (i:Int) l=some P[i]):=by
 have hk: ∀ p∈l,p.1=((p.1.toNat:Nat):Int):=λp hp=>by
  obtain ⟨i,e,_⟩:=h.at_ p hp
  rw [e]; simp
 have hnd:(l.map λp=>p.1.toNat).Nodup:=by
  have h1:=h.nd
  rw [List.nodup_iff_pairwise_ne] at h1 ⊢
  rw [List.pairwise_map] at h1 ⊢
  refine List.Pairwise.imp_of_mem ?_ h1
  intro a b ha hb hne e
  exact hne (by rw [hk a ha,hk b hb,e])
 obtain ⟨p1,p2⟩:=Ff P.length (l.map λp=>p.1.toNat) hnd (λx hx=>by
  obtain ⟨p,hp,rfl⟩:=List.mem_map.1 hx
  obtain ⟨i,e,hi⟩:=h.at_ p hp
  rw [e,Int.toNat_natCast]
  exact (List.getElem?_eq_some_iff.1 hi).1)
 rw [List.length_map] at p1 p2
 refine ⟨p1,λe i hi=> ?_⟩
 obtain ⟨p,hp,hpi⟩:=List.mem_map.1 (p2 e i hi)
 obtain ⟨j,ej,hj⟩:=h.at_ p hp
 have hji:j=i:=by rw [ej,Int.toNat_natCast] at hpi; exact hpi
 subst hji
 rw [List.getElem?_eq_getElem hi] at hj
 refine rQ h.nd ?_
 rw [Option.some.inj hj,<- ej]
 exact hp
theorem xu {σ:Type} {s:cO} {n:Nat} (hc:s.count=(n:Int)) (hn:n<=1000000) (Y:σ->Int×Bool->Option (σ×Bool)) (S:Nat->σ) (h: ∀ i,i < n->Y (S i) ((i:Int),rn s.parts (i:Int))=some (S (i+1),true)):jr s Y (S 0)=some (S n):=by
 unfold jr
 refine fL (λi:Nat=>((i:Int),S i)) n (.inl (S n)) rfl ?_ ?_ rfl
 ·intro i hi
  dsimp only
  rw [hc,decide_eq_true (by omega),cond_true,h i hi,aA]
  dsimp only
  rw [Bool.not_true,cond_false,w64 (by omega) (by omega)]
  rfl
 ·dsimp only
  rw [hc,decide_eq_false (by omega),cond_false]
def oF (P:List ByteArray):List Int:=P.flatMap sbs
theorem vf (P:List ByteArray) (i:Nat) (h:i < P.length):oF (P.take (i+1))=oF (P.take i)++sbs P[i]:=by
 unfold oF
 rw [List.take_succ_eq_append_getElem h,List.flatMap_append]
 simp
theorem Fg {P:List ByteArray} {l:List (Int×ByteArray)} {id b:Int} (hid:1<=id) (h:SL P l) (hP:P.length<=4096) (hb:(oF P).length<=1000000) :
  jW ⟨id,(P.length:Int),some l,b⟩=some (if l.length < P.length then (noS,false) else (fU (oF P),true)):=by
 obtain ⟨h1,h2⟩:=h.le
 unfold jW
 dsimp only
 rw [eF (by omega),cond_false,aA]
 show (bif decide (((l.length:Nat):Int) < (P.length:Int)) then _ else _)=_
 by_cases c:l.length < P.length
 ·rw [decide_eq_true (by omega),cond_true,if_pos c]
  rfl
 ·rw [decide_eq_false (by omega),cond_false,if_neg c]
  have hall:=h2 (by omega)
  have hpre: ∀ i,(oF (P.take i)).length<=(oF P).length:=λi=>by
   have e:oF P=oF (P.take i)++oF (P.drop i):=by
    unfold oF
    rw [<- List.flatMap_append,List.take_append_drop]
   rw [e,List.length_append]
   omega
  have e:=xu (s:=⟨id,(P.length:Int),some l,b⟩) (n:=P.length) rfl (by omega) (λa f=>(Option.bind (eY (cX.mk a.addr a.buf) (mgd (some l) f.1 (ByteArray.mk #[]))) λd=>some ((cX.mk d.addr d.buf),true))) (λi=>cX.mk (decide (0 < i)) (oF (P.take i))) (λi hi=>by
   dsimp only
   have hg:mgd (some l) (i:Int) (ByteArray.mk #[])=P[i]:=by
    unfold mgd
    rw [Option.getD_some,hall i hi,Option.getD_some]
   have h3:=hpre (i+1)
   rw [vf P i hi,List.length_append,bD] at h3
   rw [hg]
   unfold eY
   rw [bL (by dsimp only; omega),aA,aA,vf P i hi]
   rfl)
  try dsimp only at e
  rw [show (cX.mk false ([]:List Int))=cX.mk (decide (0 < 0)) (oF (P.take 0)) from rfl,e,aA]
  try dsimp only
  rw [List.take_length]
  rfl
theorem Ba {α:Type} [BEq α] [LawfulBEq α]: ∀ (A B:List α),A.Nodup->(∀ x∈A,x∈B)->A.length<=B.length
 | [],B,_,_=>Nat.zero_le _
 | a::A,B,h,hs=>by
  rw [List.nodup_cons] at h
  have ha:=hs a List.mem_cons_self
  have e:=List.length_erase_of_mem ha
  have hp:0 < B.length:=List.length_pos_of_mem ha
  have:=Ba A (B.erase a) h.2 λx hx=>by
   have hne:x≠a:=λe=>h.1 (e ▸ hx)
   exact (List.mem_erase_of_ne hne).2 (hs x (List.mem_cons_of_mem _ hx))
  rw [List.length_cons]
  omega
theorem SL.full {P:List ByteArray} {l:List (Int×ByteArray)} (hall: ∀ i:Nat,i < P.length->(mgl (i:Int) l).isSome=true):P.length<=l.length:=by
 have h:=Ba ((List.range P.length).map λi:Nat=>(i:Int)) (l.map Prod.fst) (by
  rw [List.nodup_iff_pairwise_ne,List.pairwise_map]
  exact (List.nodup_iff_pairwise_ne.1 List.nodup_range).imp λh e=>h (by omega)) (λx hx=>by
   obtain ⟨i,hi,rfl⟩:=List.mem_map.1 hx
   have:=hall i (List.mem_range.1 hi)
   rw [Option.isSome_iff_exists] at this
   obtain ⟨d,hd⟩:=this
   exact List.mem_map.2 ⟨((i:Int),d),wj hd,rfl⟩)
 simpa using h
def uj (l:List (Int×ByteArray)) (i:Nat) (d:ByteArray):List (Int×ByteArray):=if (mgl (i:Int) l).isSome then l else msl (i:Int) d l
def AtL (id:Int) (n:Nat) (s:cO) (l:List (Int×ByteArray)):Prop:=(s.key < id/\l=[]) \/ ∃ b,s=⟨id,(n:Int),some l,b⟩
theorem Pm {P:List ByteArray} {s:cO} {l:List (Int×ByteArray)} {id:Int} {i:Nat} (d:ByteArray) (h:AtL id P.length s l) (hid:1<=id) (hn:P.length<=4096) (hi:i < P.length) :
  ∃ b,lk s id (i:Int) (P.length:Int) d=some (0,⟨id,(P.length:Int),some (uj l i d),b⟩):=by
 unfold lk
 rw [decide_eq_false (by omega),cond_false,decide_eq_false (by omega),cond_false,decide_eq_false (by omega),cond_false,decide_eq_false (by omega),cond_false,decide_eq_false (by omega),aA,cond_false]
 rcases h with ⟨h1,rfl⟩ | ⟨b,rfl⟩
 ·rw [decide_eq_false (by omega),cond_false,decide_eq_true (by omega),cond_true,aA]
  dsimp only
  exact ⟨_,rfl⟩
 ·dsimp only
  rw [decide_eq_false (by omega),cond_false,cond_false,Pa,cond_false,aA]
  dsimp only
  unfold uj
  show ∃ b',Option.bind (bif !(mgl (i:Int) l).isSome then _ else _) _=_
  cases hm:(mgl (i:Int) l).isSome with
  | true=>exact ⟨b,rfl⟩
  | false=>exact ⟨_,rfl⟩
theorem SL.uj {P:List ByteArray} {l:List (Int×ByteArray)} (h:SL P l) {i:Nat} (hi:i < P.length) :
  SL P (uj l i P[i])/\(mgl (i:Int) (X.uj l i P[i])).isSome=true/\(∀ j,(mgl j l).isSome=true->(mgl j (X.uj l i P[i])).isSome=true):=by
 unfold X.uj
 cases hm:(mgl (i:Int) l).isSome with
 | true=>exact ⟨h,hm,λ_ h=>h⟩
 | false =>
  have hn:mgl (i:Int) l=none:=by
   cases hg:mgl (i:Int) l with
   | none=>rfl
   | some x=>rw [hg] at hm; cases hm
  obtain ⟨h1,h2⟩:=h.add (List.getElem?_eq_getElem hi) hn
  refine ⟨h1,?_,λj hj=> ?_⟩
  ·have:mgl (i:Int) (msl (i:Int) P[i] l)=some P[i]:=rQ h1.nd (by rw [h2]; exact List.mem_append_right _ (List.mem_singleton.2 rfl))
   rw [if_neg (by simp),this]
   rfl
  ·rw [Option.isSome_iff_exists] at hj
   obtain ⟨d,hd⟩:=hj
   have:mgl j (msl (i:Int) P[i] l)=some d:=rQ h1.nd (by rw [h2]; exact List.mem_append_left _ (wj hd))
   rw [if_neg (by simp),this]
   rfl
theorem KJ (d:ByteArray) (n:Nat) (h:1<=n):oF (pP d n)=sbs d:=by
 have hl:=wm d n
 have key: ∀ i,i<=nU d.size n->oF ((pP d n).take i)=sbs (iE d 0 ((min d.size (i*n):Nat):Int)):=by
  intro i
  induction i with
  | zero =>
   intro _
   rw [List.take_zero,Nat.zero_mul,Nat.min_zero,show (0:Int)=((0:Nat):Int) from rfl,gW]
   rfl
  | succ i ih =>
   intro hi
   have hil:i < (pP d n).length:=by omega
   have hg:(pP d n)[i]=uI d n i:=by simp [pP]
   rw [vf _ i hil,ih (by omega),hg,<- pw,HK d n i (Ph h (by omega))]
 have hc:=B2 d.size n
 have hge:d.size<=nU d.size n*n:=by
  have h2: ¬ (nU d.size n - 1)*n+n < d.size:=λe=>by have:=(zL (z:=d.size) (i:=nU d.size n - 1) h).2 e; omega
  have h3:(nU d.size n - 1)*n+n=nU d.size n*n:=by
   have:nU d.size n=(nU d.size n - 1)+1:=by omega
   rw [this,Nat.add_sub_cancel,Nat.add_mul,Nat.one_mul]
  omega
 have e:=key (nU d.size n) (Nat.le_refl _)
 rw [<- hl,List.take_length,hl,Nat.min_eq_left hge,AW] at e
 exact e
structure Msg (P:List ByteArray) (f x:aH):Prop where
 jo:fU (oF P)=jZ f x
 jl:(oF P).length<=1000000
 np:P.length<=4096
 gf:SG f
 gx:SG x
 nx:jI x=false
theorem KK {t:aV} {P:List ByteArray} {l:List (Int×ByteArray)} {id key base:Int} {i:Nat} (d:ByteArray) (hk:t.bU.k < key) (hb:base=0\/base=t.bU.k) (hA:AtL id P.length t.slot l) (hid:1<=id) (hn:P.length<=4096) (hi:i < P.length) :
  ∃ b,fX t ⟨1,1,[id,key,base,(i:Int),(P.length:Int)],d⟩=some (0,⟨⟨id,(P.length:Int),some (uj l i d),b⟩,t.bU⟩):=by
 obtain ⟨b,e⟩:=Pm d hA hid hn hi
 refine ⟨b,?_⟩
 unfold fX
 have x0:idx [id,key,base,(i:Int),(P.length:Int)] 0=some id:=rfl
 have x1:idx [id,key,base,(i:Int),(P.length:Int)] 1=some key:=rfl
 have x2:idx [id,key,base,(i:Int),(P.length:Int)] 2=some base:=rfl
 have x3:idx [id,key,base,(i:Int),(P.length:Int)] 3=some (i:Int):=rfl
 have x4:idx [id,key,base,(i:Int),(P.length:Int)] 4=some (P.length:Int):=rfl
 dsimp only
 rw [show ((1:Int) != 1)=false from rfl,cond_false,show (([id,key,base,(i:Int),(P.length:Int)].length:Int) != 5)=false from rfl,cond_false,x1,aA,decide_eq_false (by omega),cond_false,x2]
 simp only [aA]
 have hq:((bif base != 0 then some (base != t.bU.k) else some false):Option Bool)=some false:=by
  rcases hb with h | h
  ·rw [h]; rfl
  ·rw [h,Pa]; cases t.bU.k != 0 <;> rfl
 rw [hq,aA,cond_false,x0,aA,x3,aA,x4,aA,e,aA]
theorem Bb {t:aV} {f x:aH} {P:List ByteArray} {l:List (Int×ByteArray)} {id base:Int} {i:Nat} (hM:Msg P f x) (hk:t.bU.k < x.k) (hb:base=0/\f=gL\/base≠0/\base=t.bU.k/\f=t.bU) (hA:AtL id P.length t.slot l) (hl:SL P l) (hid:1<=id) (hi:i < P.length) :
  ∃ t',cH t ⟨1,1,[id,x.k,base,(i:Int),(P.length:Int)],P[i]⟩=some (0,t')/\((t'.slot=⟨0,0,none,0⟩/\t'.bU=x /\ ¬ (uj l i P[i]).length < P.length) \/ ∃ l' b,t'=⟨⟨id,(P.length:Int),some l',b⟩,t.bU⟩/\SL P l'/\l'.length < P.length/\l'=uj l i P[i]):=by
 obtain ⟨b,e⟩:=KK P[i] hk (hb.imp (λh=>h.1) λh=>h.2.1) hA hid hM.np hi
 obtain ⟨s1,s2,s3⟩:=hl.uj hi
 have hw:=Fg (b:=b) hid s1 hM.np hM.jl
 unfold cH
 rw [e,aA]
 dsimp only
 rw [show ((0:Int) != 0)=false from rfl,cond_false,hw,aA]
 by_cases c:(uj l i P[i]).length < P.length
 ·rw [if_pos c]
  dsimp only
  rw [Bool.not_false,cond_true]
  exact ⟨_,rfl,.inr ⟨_,b,rfl,s1,c,rfl⟩⟩
 ·rw [if_neg c]
  dsimp only
  have x1:idx [id,x.k,base,(i:Int),(P.length:Int)] 1=some x.k:=rfl
  have x2:idx [id,x.k,base,(i:Int),(P.length:Int)] 2=some base:=rfl
  have hf:((bif base != 0 then some t.bU else some (aH.mk 0 0 0 0 0 (ByteArray.mk #[]) ([]:List aE) 0 0 ([]:List aJ))):Option aH)=some f:=by
   rcases hb with ⟨h1,h2⟩ | ⟨h1,h2,h3⟩
   ·rw [h1,h2]; rfl
   ·rw [show (base != 0)=true by simpa using h1,cond_true,h3]
  rw [Bool.not_true,cond_false,show ∀ s,kW s=some ⟨0,0,none,0⟩ from λs=>rfl,aA,x2,aA,hf,aA,hM.jo,Kv hM.gf hM.gx hM.nx hM.gf,DJ hM.gf hM.gx hM.nx,aA]
  dsimp only
  rw [show ((0:Int) == 0)=true from rfl,cond_true,x1,aA,Pa,aA,cond_false,aA,show ((0:Int) == 0)=true from rfl,cond_true,aA]
  exact ⟨_,rfl,.inl ⟨rfl,rfl,c⟩⟩
theorem KL {t:aV} {id key base i n:Int} (d:ByteArray) (hk:key<=t.bU.k):cH t ⟨1,1,[id,key,base,i,n],d⟩=some (8,t):=by
 have e:fX t ⟨1,1,[id,key,base,i,n],d⟩=some (8,t):=by
  unfold fX
  dsimp only
  rw [show ((1:Int) != 1)=false from rfl,cond_false,show (([id,key,base,i,n].length:Int) != 5)=false from rfl,cond_false,show idx [id,key,base,i,n] 1=some key from rfl,aA,decide_eq_true hk,cond_true]
 unfold cH
 rw [e,aA]
 rfl
theorem GB (k:Nat) {v:Int} (h1:v < 128 ^ (k+1)):(dG v).length<=k+1:=by
 refine vz k _ ?_
 unfold clN
 have h2:((max 0 (min v 4611686018427387904)).toNat:Int) < ((128 ^ (k+1):Nat):Int):=by
  have h3:(0:Int) < 128 ^ (k+1):=Int.pow_pos (by decide)
  rw [Int.natCast_pow]
  show ((max 0 (min v 4611686018427387904)).toNat:Int) < (128:Int) ^ (k+1)
  omega
 exact Int.ofNat_lt.1 h2
theorem Pn {g:aJ} (h:gOk g):(qI g).length<=5:=by
 obtain ⟨⟨_,a⟩,_,b⟩:=h
 have h1:=GB 2 (v:=g.rune) (by omega)
 have h2:=GB 1 (v:=g.aM) (by omega)
 show ([g.rune,g.aM].flatMap dG).length<=5
 simp only [List.flatMap_cons,List.flatMap_nil,List.append_nil,List.length_append]
 omega
theorem GC: ∀ (l:List aJ),gls l->(l.flatMap qI).length<=5*l.length
 | [],_=>Nat.le_refl _
 | g::l,h=>by
  have h1:=Pn (h g List.mem_cons_self)
  have h2:=GC l λq hq=>h q (List.mem_cons_of_mem _ hq)
  rw [List.flatMap_cons,List.length_append,List.length_cons]
  omega
structure SQ (s:aH):Prop where
 g:SG s
 ne:jI s=false
 bg:gls s.begun
 bl:s.begun.length < 1024
 tl:s.title.size<=200
 rl:s.rows.length<=6
 rw_: ∀ r∈s.rows,r.cells.length<=10
theorem SQ.pk {s:aH} (h:SQ s):(s.rows.flatMap hU).length<=2214:=by
 have h1:=xc 10 s.rows h.rw_
 have:=h.rl
 have:s.rows.length*(9+36*10)<=6*369:=Nat.mul_le_mul this (by decide)
 omega
theorem SQ.ct {s:aH} (h:SQ s):CT1 s:=⟨h.g.sw,by have:=h.pk; omega⟩
theorem zV (l:List Int):(fU l).size=l.length:=l4 l
theorem zW {a x:aH} (hx:SQ x):(jZ a x).size<=8000:=by
 unfold jZ
 split
 ·show noS.size<=8000; decide
 ·rw [zV]
  unfold rL tj lC
  have h1:=qO [((s9 (mI a):Nat):Int),x.k,x.w,x.h,x.x,x.y]
  have h2:=qO [x.len,x.chain]
  have h3:=dQ (x.title.size:Int)
  have h4:=dQ ((chg a.rows x.rows).length:Int)
  have h5:=dQ (x.begun.length:Int)
  have h6:=GC x.begun hx.bg
  have h7:=BZ a.rows x.rows x.rows.length (Nat.le_refl _)
  have h8:=hx.pk
  have h9:=hx.rl
  have h10:=hx.bl
  have h11:=hx.tl
  rw [List.take_length] at h7
  simp only [List.length_append,bD]
  simp only [List.length_cons,List.length_nil] at h1 h2
  show _<=8000
  have h12:(pch x.rows (chg a.rows x.rows)).length<=9*x.rows.length+(x.rows.flatMap hU).length:=h7
  omega
theorem HL {a x:aH} (hx:SQ x) {p:Nat} (hp:4<=p):(pP (jZ a x) p).length<=2001:=by
 rw [wm]
 unfold nU
 have h:=zW (a:=a) hx
 have:((jZ a x).size+p - 1) / p<=2001:=by
  refine Nat.div_le_of_le_mul ?_
  have:4*2001<=p*2001:=Nat.mul_le_mul_right _ hp
  have e:p*2001=p*2000+p:=by omega
  have:4*2000<=p*2000:=Nat.mul_le_mul_right _ hp
  omega
 omega
theorem KM {a x:aH} (ga:SG a) (hx:SQ x) {p:Nat} (hp:4<=p):Msg (pP (jZ a x) p) a x:=by
 have hj:=KJ (jZ a x) p (by omega)
 have hs:=zW (a:=a) hx
 exact ⟨by rw [hj,vL],by rw [hj,bD]; omega,by have:=HL (a:=a) hx hp; omega,ga,hx.g,hx.ne⟩
def grm (id key base:Int) (P:List ByteArray) (i:Nat):dV:=⟨1,1,[id,key,base,(i:Int),(P.length:Int)],(P[i]?).getD noS⟩
theorem KN {id key base:Int} {P:List ByteArray} {i:Nat} (h:i < P.length):grm id key base P i=⟨1,1,[id,key,base,(i:Int),(P.length:Int)],P[i]⟩:=by
 unfold grm
 rw [List.getElem?_eq_getElem h]
 rfl
def AtZ (id:Int) (n:Nat) (s:cO) (l:List (Int×ByteArray)):Prop:=(s=⟨0,0,none,0⟩/\l=[]) \/ ∃ b,s=⟨id,(n:Int),some l,b⟩
theorem AtZ.toL {id:Int} {n:Nat} {s:cO} {l:List (Int×ByteArray)} (h:AtZ id n s l) (hid:1<=id):AtL id n s l:=h.imp (λ⟨h1,h2⟩=>⟨by rw [h1]; show (0:Int) < id; omega,h2⟩) λh=>h
inductive On (P:List ByteArray) (id:Int) (a x:aH) (t:aV) (hs:Nat->Prop):Prop where
 | done (h1:t.slot=⟨0,0,none,0⟩) (h2:t.bU=x)
 | part (l:List (Int×ByteArray)) (h1:AtZ id P.length t.slot l) (h2:SL P l) (h3:l.length < P.length) (h4:t.bU=a) (h5: ∀ i,hs i->(mgl (i:Int) l).isSome=true)
theorem M5 {P:List ByteArray} {id base:Int} {a f x:aH} {t:aV} {hs:Nat->Prop} (hM:Msg P f x) (hk:a.k < x.k) (hb:base=0/\f=gL\/base≠0/\base=a.k/\f=a) (hid:1<=id) (h:On P id a x t hs) {i:Nat} (hi:i < P.length) :
  ∃ e t',cH t (grm id x.k base P i)=some (e,t')/\On P id a x t' (λj=>hs j\/j=i)/\(e=0\/e=8/\t'.bU=x):=by
 rw [KN hi]
 cases h with
 | done h1 h2=>exact ⟨8,t,KL _ (by rw [h2]; exact Int.le_refl _),.done h1 h2,.inr ⟨rfl,h2⟩⟩
 | part l h1 h2 h3 h4 h5 =>
  obtain ⟨t',e1,e2⟩:=Bb (t:=t) (i:=i) hM (by rw [h4]; exact hk) (by rw [h4]; exact hb) (h1.toL hid) h2 hid hi
  refine ⟨0,t',e1,?_,.inl rfl⟩
  rcases e2 with ⟨e2,e3,_⟩ | ⟨l',b,rfl,e3,e4,rfl⟩
  ·exact .done e2 e3
  ·obtain ⟨_,s2,s3⟩:=h2.uj hi
   refine .part _ (.inr ⟨b,rfl⟩) e3 e4 h4 λj hj=> ?_
   rcases hj with hj | rfl
   ·exact s3 _ (h5 j hj)
   ·exact s2
theorem On.mono {P:List ByteArray} {id:Int} {a x:aH} {t:aV} {hs hs':Nat->Prop} (h:On P id a x t hs) (hh: ∀ i,hs' i->hs i):On P id a x t hs':=by
 cases h with
 | done h1 h2=>exact .done h1 h2
 | part l h1 h2 h3 h4 h5=>exact .part l h1 h2 h3 h4 λi hi=>h5 i (hh i hi)
theorem HM {m:bA} (h:m.there=List.replicate m.parts.length false):l7 m=(List.range m.parts.length).map (grm m.id m.key m.base m.parts):=by
 unfold l7
 rw [KH h,List.map_map]
 rfl
inductive In_ (P:List ByteArray) (id:Int) (a x:aH) (t:aV) (i:Nat):Prop where
 | done (h1:t.slot=⟨0,0,none,0⟩) (h2:t.bU=x) (h3:P.length<=i)
 | part (l:List (Int×ByteArray)) (h1:AtL id P.length t.slot l) (h2:SL P l) (h3:l.length=i) (h4:t.bU=a) (h5: ∀ j:Nat,i<=j->mgl (j:Int) l=none) (h6:i < P.length)
theorem uJ {α:Type} {k j:Int} {x:α} (hne:k≠j): ∀ {l:List (Int×α)},mgl k l=none->mgl k (l++[(j,x)])=none
 | [],_=>by
  show (if k=j then _ else _)=_
  rw [if_neg hne]
  rfl
 | (q,y)::l,h=>by
  unfold mgl at h
  rw [List.cons_append]
  unfold mgl
  split at h
  ·cases h
  ·rename_i hq
   rw [if_neg hq]
   exact uJ hne h
theorem M6 {P:List ByteArray} {id base:Int} {a f x:aH} {t:aV} {i:Nat} (hM:Msg P f x) (hk:a.k < x.k) (hb:base=0/\f=gL\/base≠0/\base=a.k/\f=a) (hid:1<=id) (h:In_ P id a x t i) (hi:i < P.length) :
  ∃ t',cH t (grm id x.k base P i)=some (0,t')/\In_ P id a x t' (i+1):=by
 rw [KN hi]
 cases h with
 | done h1 h2 h3=>omega
 | part l h1 h2 h3 h4 h5 h6 =>
  obtain ⟨t',e1,e2⟩:=Bb (t:=t) (i:=i) hM (by rw [h4]; exact hk) (by rw [h4]; exact hb) h1 h2 hid hi
  have hn:=h5 i (Nat.le_refl _)
  have ha:uj l i P[i]=l++[((i:Int),P[i])]:=by
   unfold uj
   rw [hn,if_neg (by simp)]
   exact (h2.add (List.getElem?_eq_getElem hi) hn).2
  have hlen:(uj l i P[i]).length=i+1:=by rw [ha]; simp [h3]
  refine ⟨t',e1,?_⟩
  rcases e2 with ⟨e2,e3,e4⟩ | ⟨l',b,rfl,e3,e4,rfl⟩
  ·exact .done e2 e3 (by omega)
  ·refine .part _ (.inr ⟨b,rfl⟩) e3 hlen h4 (λj hj=> ?_) (by omega)
   rw [ha]
   exact uJ (by omega) (h5 j (by omega))
theorem Po {P:List ByteArray} {id:Int} {a x:aH} {t:aV} (h:In_ P id a x t P.length):t.slot=⟨0,0,none,0⟩/\t.bU=x:=by
 cases h with
 | done h1 h2 h3=>exact ⟨h1,h2⟩
 | part l h1 h2 h3 h4 h5 h6=>omega
theorem wv {t:aV} (h:t.slot=⟨0,0,none,0⟩):eX t=some ⟨1,2,[t.bU.k,0],fU []⟩:=by
 unfold eX
 rw [h,show jU ⟨0,0,none,0⟩=some 0 from rfl,aA]
 have e1:IntKind.i64.wrap ((IntKind.i64.wrap ((IntKind.i64.wrap ((0:Int)+8)) - 1)).tdiv 8)=0:=by decide
 have e2:iz ⟨0,0,none,0⟩=some []:=by
  unfold iz jV
  have:=xu (s:=⟨0,0,none,0⟩) (n:=0) rfl (by decide) (λs32 x3=>(bif (x3.2 == true) then (Option.bind (chk (eP s32.length [x3.1].length 8)) λ_=>some ((s32++[x3.1]),true)) else some (s32,true))) (λ_=>([]:List Int)) (λi hi=>absurd hi (Nat.not_lt_zero i))
  rw [this]
  rfl
 rw [e1,show chk (Ea 0 1)=some () from kq (by decide),aA,e2,aA]
 refine fL (λ_=>((0:Int),([]:List Int))) 0 [] rfl (λi hi=>absurd hi (Nat.not_lt_zero i)) rfl ?_
 rfl
theorem vg {c:cE} {x:aH} (hx:SQ x) (hk:1<=x.k) {now:Int} :
  fN (nuS c) x=some (true,setCur (nuS c) x)/\eI (setCur (nuS c) x) now=some (p7 (setCur (nuS c) x) now) /\
   (p7 (setCur (nuS c) x) now).1=(List.range (pP (jZ gL x) (ptN (nuS c).config.part)).length).map (grm 1 x.k 0 (pP (jZ gL x) (ptN (nuS c).config.part))):=by
 have hn:=KG (nuS c) x hx.g.sw
 have hc: ¬ (nY x=false\/x.k<=(nuS c).current.k):=by
  rw [hx.g.may]
  rintro (h | h)
  ·cases h
  ·have:(nuS c).current.k=0:=rfl
   omega
 have e:A9 (nuS c) x=(true,setCur (nuS c) x):=by
  unfold A9
  rw [if_neg hc]
 rw [e] at hn
 have hs:SNI (setCur (nuS c) x):=by
  have:=M4 (Fc c) hx.ct
  rw [e] at this
  exact this
 refine ⟨hn,uc _ now hs,?_⟩
 rw [zQ now (by show x.k≠0; omega) rfl]
 rw [HM rfl]
 rfl
theorem Pp (e:cJ):okO (mj e) (λr=>r.text.size<=60/\(r.w<=10\/1000 < r.w)/\(r.h<=6\/1000 < r.h)):=by
 unfold mj
 refine dT (Ms e.text (n:=60) (by decide)) λr hr=> ?_
 have hr':r.size<=60:=by omega
 by_cases h1:e.w > 10
 ·rw [decide_eq_true h1,cond_true]
  refine dT (P:=λb=>b=decide (e.w<=1000)) (cC rfl) λb hb=> ?_
  subst hb
  by_cases h2:e.w<=1000
  ·rw [decide_eq_true h2,cond_true]
   refine dT (P:=λq=>q=cJ.mk e.kind r 10 e.h) (cC rfl) λq hq=> ?_
   subst hq
   dsimp only
   by_cases h3:e.h > 6
   ·rw [decide_eq_true h3,cond_true]
    refine dT (P:=λb=>b=decide (e.h<=1000)) (cC rfl) λb hb=> ?_
    subst hb
    by_cases h4:e.h<=1000
    ·rw [decide_eq_true h4,cond_true]
     exact dT (P:=λq=>q=cJ.mk e.kind r 10 6) (cC rfl) λq hq=>by subst hq; exact cC ⟨hr',.inl (Int.le_refl _),.inl (Int.le_refl _)⟩
    ·rw [decide_eq_false h4,cond_false]
     exact dT (P:=λq=>q=cJ.mk e.kind r 10 e.h) (cC rfl) λq hq=>by subst hq; exact cC ⟨hr',.inl (Int.le_refl _),.inr (by dsimp only; omega)⟩
   ·rw [decide_eq_false h3,cond_false]
    refine dT (P:=λb=>b=false) (cC rfl) λb hb=> ?_
    subst hb
    rw [cond_false]
    exact dT (P:=λq=>q=cJ.mk e.kind r 10 e.h) (cC rfl) λq hq=>by subst hq; exact cC ⟨hr',.inl (Int.le_refl _),.inl (by dsimp only; omega)⟩
  ·rw [decide_eq_false h2,cond_false]
   refine dT (P:=λq=>q=cJ.mk e.kind r e.w e.h) (cC rfl) λq hq=> ?_
   subst hq
   dsimp only
   by_cases h3:e.h > 6
   ·rw [decide_eq_true h3,cond_true]
    refine dT (P:=λb=>b=decide (e.h<=1000)) (cC rfl) λb hb=> ?_
    subst hb
    by_cases h4:e.h<=1000
    ·rw [decide_eq_true h4,cond_true]
     exact dT (P:=λq=>q=cJ.mk e.kind r e.w 6) (cC rfl) λq hq=>by subst hq; exact cC ⟨hr',.inr (by dsimp only; omega),.inl (Int.le_refl _)⟩
    ·rw [decide_eq_false h4,cond_false]
     exact dT (P:=λq=>q=cJ.mk e.kind r e.w e.h) (cC rfl) λq hq=>by subst hq; exact cC ⟨hr',.inr (by dsimp only; omega),.inr (by dsimp only; omega)⟩
   ·rw [decide_eq_false h3,cond_false]
    refine dT (P:=λb=>b=false) (cC rfl) λb hb=> ?_
    subst hb
    rw [cond_false]
    exact dT (P:=λq=>q=cJ.mk e.kind r e.w e.h) (cC rfl) λq hq=>by subst hq; exact cC ⟨hr',.inr (by dsimp only; omega),.inl (by dsimp only; omega)⟩
 ·rw [decide_eq_false h1,cond_false]
  refine dT (P:=λb=>b=false) (cC rfl) λb hb=> ?_
  subst hb
  rw [cond_false]
  refine dT (P:=λq=>q=cJ.mk e.kind r e.w e.h) (cC rfl) λq hq=> ?_
  subst hq
  dsimp only
  by_cases h3:e.h > 6
  ·rw [decide_eq_true h3,cond_true]
   refine dT (P:=λb=>b=decide (e.h<=1000)) (cC rfl) λb hb=> ?_
   subst hb
   by_cases h4:e.h<=1000
   ·rw [decide_eq_true h4,cond_true]
    exact dT (P:=λq=>q=cJ.mk e.kind r e.w 6) (cC rfl) λq hq=>by subst hq; exact cC ⟨hr',.inl (by dsimp only; omega),.inl (Int.le_refl _)⟩
   ·rw [decide_eq_false h4,cond_false]
    exact dT (P:=λq=>q=cJ.mk e.kind r e.w e.h) (cC rfl) λq hq=>by subst hq; exact cC ⟨hr',.inl (by dsimp only; omega),.inr (by dsimp only; omega)⟩
  ·rw [decide_eq_false h3,cond_false]
   refine dT (P:=λb=>b=false) (cC rfl) λb hb=> ?_
   subst hb
   rw [cond_false]
   exact dT (P:=λq=>q=cJ.mk e.kind r e.w e.h) (cC rfl) λq hq=>by subst hq; exact cC ⟨hr',.inl (by dsimp only; omega),.inl (by dsimp only; omega)⟩
structure MQ (N:Nat) (m:bC) (z:Zt):Prop where
 ex: ∃ W x,W<=10/\MX W (484000*N) N z m x
 g:MG m z
 h:m.aW.g.l.length<=6
theorem KO {w h:Int} (hw:w<=10) (hh:h<=6):MQ 0 (J9 w h) ([],[]):=by
 refine ⟨⟨szN w,_,by unfold szN; omega,O6 w h⟩,O8 w h,?_⟩
 show (List.replicate (szN h) (ji (szN w) 0)).length<=6
 rw [List.length_replicate]
 unfold szN
 omega
theorem Qy {N:Nat} {m:bC} {z:Zt} (h:MQ N m z) (hN:N<=90) {e:cJ} (ht:e.text.size<=60) (hw:e.w<=10\/1000 < e.w) (hh:e.h<=6\/1000 < e.h) :
  ∃ f m' z',eE m ⟨e.kind,e.text,e.w,e.h⟩=some (f,m')/\MQ (N+1) m' z'/\m.k<=m'.k/\(f=0->m'.k=m.k+1)/\(f≠0->m'=m/\z'=z):=by
 obtain ⟨W,x,hW,hx⟩:=h.ex
 by_cases hc:zz e.kind e.text.size e.w e.h=0
 ·by_cases hk0:e.kind=0
  ·obtain ⟨ek,et,ew,eh⟩:=e
   dsimp only at hk0 ht hc hw hh ⊢
   subst hk0
   have e1:=E7 hx (by omega) (by omega) (t:=et) (by omega) ew eh
   have h1:=J8 hx (t:=et) (by omega)
   have hl1:=hx.si.gi.l1
   have hl2:=hx.si.gi.l2
   refine ⟨0,_,_,e1,⟨⟨W,_,hW,h1.mono (by omega) (Nat.le_refl _)⟩,Kf hx h.g et _ _,?_⟩,by dsimp only; omega,λ_=>rfl,λe=>absurd rfl e⟩
   have:=(Dv (W:=W) (prun m.parser (sbs et)).out (y:=(m.aW,z)) ⟨rfl,hl1,hl2⟩).e
   dsimp only at this ⊢
   rw [this]
   exact h.h
  ·by_cases hk1:e.kind=1
   ·obtain ⟨ek,et,ew,eh⟩:=e
    dsimp only at hk1 ht hc hw hh ⊢
    subst hk1
    have hb:1<=ew/\ew<=1000/\1<=eh/\eh<=1000:=by
     unfold zz at hc
     rw [if_neg (by decide),if_pos rfl] at hc
     split at hc
     ·exact absurd hc (by decide)
     ·omega
    refine ⟨0,_,_,Ka hx (by omega) hN hc,⟨⟨szN ew,_,by unfold szN; omega,(MJ hx ew eh).mono (by omega) (Nat.le_refl _)⟩,ML h.g ew eh _ _,?_⟩,by dsimp only; omega,λ_=>rfl,λe=>absurd rfl e⟩
    show (rzL (szN ew) m.aW.g.l _ (szN eh)).length<=6
    rw [pr]
    unfold szN
    omega
   ·exfalso
    unfold zz at hc
    rw [if_neg hk0,if_neg hk1] at hc
    exact absurd hc (by decide)
 ·exact ⟨_,m,z,MI m ⟨e.kind,e.text,e.w,e.h⟩ hc,⟨⟨W,x,hW,hx.mono (by omega) (by omega)⟩,h.g,h.h⟩,Int.le_refl _,λe=>absurd e hc,λ_=>⟨rfl,rfl⟩⟩
theorem GD {N:Nat} {m:bC} {z:Zt} (h:MQ N m z) (hN:N<=90):fB m=some (sOf m z,m)/\SQ (sOf m z)/\1<=(sOf m z).k/\(sOf m z).k=m.k+1/\m.k<=N:=by
 obtain ⟨W,x,hW,hx⟩:=h.ex
 have hk0:=hx.k0
 have hkN:=hx.kN
 have hrw: ∀ r∈(sOf m z).rows,r.cells.length<=10:=λr hr=>by
  have:=(hx.si.gi.rs r hr).1
  omega
 have hpk:((sOf m z).rows.flatMap hU).length<=12000:=by
  have h1:=xc 10 (sOf m z).rows hrw
  have h2:(sOf m z).rows.length<=6:=h.h
  have:(sOf m z).rows.length*(9+36*10)<=6*369:=Nat.mul_le_mul h2 (by decide)
  omega
 refine ⟨Kg hx (by omega) (by omega),⟨⟨O9 hx h.g,hpk,MO hx h.g (by omega) (by omega)⟩,?_,h.g.zg.b,hx.zi.b,h.g.sc.t,h.h,hrw⟩,?_,rfl,hkN⟩
 ·unfold jI
  rw [show (sOf m z).k=m.k+1 from rfl,eF (by omega)]
  rfl
 ·show 1<=m.k+1
  omega
theorem HO {n:Nat} (hn:n<=40) (events:List cJ) {m0:bC} {z0:Zt} (h0:MQ 0 m0 z0) :
  ∃ m z,iter (σ:=bC×Int) (ρ:=bC) (λs=>(Option.bind ((bif (decide (s.2 < (events.length:Int))) then some (decide (s.2 < (n:Int))) else some false):Option Bool) λb=>(bif b then (Option.bind (idx events s.2) λx=>(Option.bind (mj x) λr=>(Option.bind (eE s.1 (kM.mk r.kind r.text r.w r.h)) λq=>some (.inl (q.2,(IntKind.i64.wrap (s.2+1))))))) else some (.inr s.1)))) (m0,0)=some m/\MQ n m z:=by
 have key:=qD (σ:=bC×Int) (ρ:=bC) (f:=λs=>(Option.bind ((bif (decide (s.2 < (events.length:Int))) then some (decide (s.2 < (n:Int))) else some false):Option Bool) λb=>(bif b then (Option.bind (idx events s.2) λx=>(Option.bind (mj x) λr=>(Option.bind (eE s.1 (kM.mk r.kind r.text r.w r.h)) λq=>some (.inl (q.2,(IntKind.i64.wrap (s.2+1))))))) else some (.inr s.1))))
  (λs=> ∃ (i:Nat) (z:Zt),s.2=(i:Int)/\i<=n/\MQ i s.1 z) (λs=>n - s.2.toNat) (λm=> ∃ z,MQ n m z) (by
   rintro ⟨m,j⟩ ⟨i,z,h1,h2,h3⟩
   dsimp only at h1 h2 h3 ⊢
   subst h1
   by_cases c:(i:Int) < (events.length:Int)/\(i:Int) < (n:Int)
   ·left
    obtain ⟨r,er,h4,h5,h6⟩:=Pp events[i]
    obtain ⟨f,m',z',e1,h7,_⟩:=Qy h3 (by omega) h4 h5 h6
    rw [MP c,aA,cond_true,cZ events i (by omega),aA,er,aA,e1,aA,w64 (by omega) (by omega)]
    exact ⟨_,rfl,⟨i+1,z',by dsimp only; omega,by omega,h7⟩,by dsimp only; omega⟩
   ·right
    rw [MR c,aA,cond_false]
    obtain ⟨W,x,hW,hx⟩:=h3.ex
    exact ⟨_,rfl,z,⟨W,x,hW,hx.mono (by omega) h2⟩,h3.g,h3.h⟩) (m0,0) ⟨0,z0,rfl,Nat.zero_le _,h0⟩
 obtain ⟨m,e,z,h⟩:=key
 exact ⟨m,z,e,h⟩
theorem GF (d:ByteArray) (p:Nat):0 < (pP d p).length:=by rw [wm]; exact B2 _ _
def M7:aV:=⟨⟨0,0,none,0⟩,gL⟩
theorem GG:oA=some M7:=rfl
theorem Pq (P:List ByteArray) (x:aH) (h:0 < P.length):On P 1 gL x M7 (λ_=>False):= .part [] (.inl ⟨rfl,rfl⟩) (KI P) h rfl λ_ h=>h.elim
theorem Pr (P:List ByteArray) (x:aH) (h:0 < P.length):In_ P 1 gL x M7 0:= .part [] (.inl ⟨by decide,rfl⟩) (KI P) rfl rfl (λ_ _=>rfl) h
theorem DP {t:aV} (h:SW t.bU):iP t=some t.bU:=by
 unfold iP
 rw [w9 _ h,aA]
theorem HP {α:Type} (f:Nat->α) (n i:Nat) (h:i < n):idx ((List.range n).map f) (i:Int)=some (f i):=by
 rw [cZ _ i (by simpa using h)]
 simp
theorem Fh:mQ=some true:=by
 unfold mQ
 obtain ⟨e1,hx,hk,hk2,_⟩:=GD (KO (w:=3) (h:=2) (by decide) (by decide)) (by decide)
 generalize hX:sOf (J9 3 2) ([],[])=x at e1 hx hk hk2
 have hx1:x.k=1:=by rw [hk2]; rfl
 obtain ⟨s1,s2,s3⟩:=vg (c:=⟨5,1,2⟩) hx hk (now:=0)
 have hp:ptN (nuS ⟨5,1,2⟩).config.part=5:=by decide
 rw [hp] at s3
 have hM:=KM Gx hx (p:=5) (by decide)
 have hpos:=GF (jZ gL x) 5
 generalize pP (jZ gL x) 5=P at s3 hM hpos
 rw [zP,aA,GG,aA,Gp,aA,e1,aA]
 dsimp only
 rw [s1,aA]
 dsimp only
 rw [s2,aA,s3]
 have hkz:gL.k < x.k:=by show (0:Int) < x.k; omega
 refine pj (λs:aV×Int=> ∃ i:Nat,s.2=i/\i<=P.length/\In_ P 1 gL x s.1 i) (λs=>P.length - s.2.toNat) (λr=> ∃ t,r = .inl t/\t.slot=⟨0,0,none,0⟩/\t.bU=x) ⟨0,rfl,Nat.zero_le _,Pr P x hpos⟩ ?_ ?_
 ·rintro ⟨t,j⟩ ⟨i,h1,h2,h3⟩
  dsimp only at h1 h2 h3 ⊢
  subst h1
  rw [List.length_map,List.length_range]
  by_cases c:i < P.length
  ·left
   obtain ⟨t',e,h4⟩:=M6 hM hkz (.inl ⟨rfl,rfl⟩) (Int.le_refl 1) h3 c
   rw [decide_eq_true (by omega),cond_true,HP _ _ _ c,aA,e,aA]
   dsimp only
   rw [show ((0:Int) != 0)=false from rfl,cond_false,w64 (by omega) (by have:=hM.np; omega)]
   exact ⟨_,rfl,⟨i+1,by dsimp only; omega,by omega,h4⟩,by dsimp only; omega⟩
  ·right
   rw [decide_eq_false (by omega),cond_false]
   have hi:i=P.length:=by omega
   subst hi
   obtain ⟨h4,h5⟩:=Po h3
   exact ⟨_,rfl,t,rfl,h4,h5⟩
 ·rintro r ⟨t,rfl,h4,h5⟩
  dsimp only
  rw [show kj t=some t.bU.k from rfl,aA,h5,hx1,show ((1:Int) == 1)=true from rfl,cond_true,DP (by rw [h5]; exact hx.g.sw),aA,e1,aA]
  dsimp only
  rw [h5,Gz hx.g,aA,decide_eq_true rfl,cond_true,wv h4,aA,h5,hx1]
  rfl
theorem or8 {a b:Nat} (ha:a < 256) (hb:b < 256):Go.bits .or .u8 (a:Int) (b:Int)=((a ||| b:Nat):Int):=by
 show IntKind.u8.wrap ((BitVec.ofInt 8 (a:Int) ||| BitVec.ofInt 8 (b:Int)).toNat:Int)=_
 rw [BitVec.ofInt_natCast,BitVec.ofInt_natCast,BitVec.toNat_or,BitVec.toNat_ofNat,BitVec.toNat_ofNat,Nat.mod_eq_of_lt ha,Nat.mod_eq_of_lt hb]
 have:=Nat.or_lt_two_pow (n:=8) ha hb
 exact PL (by omega) (by omega)
theorem GH (b j:Nat):(((b:Int) / 2 ^ j) % 2=1)↔b.testBit j=true:=by
 rw [Nat.testBit_eq_decide_div_mod_eq,decide_eq_true_eq]
 have:((b:Int) / 2 ^ j) % 2=((b / 2 ^ j % 2:Nat):Int):=by
  rw [Int.natCast_emod,Int.natCast_ediv,Int.natCast_pow]
  rfl
 rw [this]
 omega
def wx (B:List Int) (i:Nat):List Int:=B.set (i / 8) (Go.bits .or .u8 ((B[i / 8]?).getD 0) (IntKind.u8.wrap (1*2 ^ (min (i % 8) 8))))
theorem M8 (k:Nat) (h:k < 8):IntKind.u8.wrap (1*2 ^ (min k 8))=((2 ^ k:Nat):Int):=by
 have:k=0\/k=1\/k=2\/k=3\/k=4\/k=5\/k=6\/k=7:=by omega
 rcases this with rfl | rfl | rfl | rfl | rfl | rfl | rfl | rfl <;> decide
theorem M9 (k:Nat) (h:k < 8):2 ^ k < 256:=by
 have:k=0\/k=1\/k=2\/k=3\/k=4\/k=5\/k=6\/k=7:=by omega
 rcases this with rfl | rfl | rfl | rfl | rfl | rfl | rfl | rfl <;> decide
def zX (B:List Int) (i:Nat):Bool:=match B[i / 8]? with
 | some b=>decide ((b / 2 ^ (i % 8)) % 2=1)
 | none=>false
theorem Na {B:List Int} (h:BB B) {i:Nat} (hi:i / 8 < B.length):BB (wx B i)/\(wx B i).length=B.length /\ ∀ j,zX (wx B i) j=(decide (j=i) || zX B j):=by
 have hb:=h _ (List.getElem_mem hi)
 obtain ⟨b,hbn⟩:=Int.eq_ofNat_of_zero_le hb.1
 have hb2:b < 256:=by omega
 have hk:i % 8 < 8:=Nat.mod_lt _ (by decide)
 have hp:=M9 (i % 8) hk
 have hv:Go.bits .or .u8 ((B[i / 8]?).getD 0) (IntKind.u8.wrap (1*2 ^ (min (i % 8) 8)))=((b ||| 2 ^ (i % 8):Nat):Int):=by
  rw [List.getElem?_eq_getElem hi,Option.getD_some,hbn,M8 _ hk,or8 hb2 hp]
 have hlt:=Nat.or_lt_two_pow (n:=8) hb2 hp
 have hlen:(wx B i).length=B.length:=by unfold wx; rw [List.length_set]
 refine ⟨?_,hlen,λj=> ?_⟩
 ·unfold wx
  rw [hv]
  intro x hx
  rcases List.mem_or_eq_of_mem_set hx with hx | rfl
  ·exact h x hx
  ·omega
 ·unfold zX wx
  rw [hv,List.getElem?_set]
  by_cases hq:i / 8=j / 8
  ·rw [if_pos hq,if_pos hi,<- hq,List.getElem?_eq_getElem hi,hbn]
   dsimp only
   have e1:decide ((((b ||| 2 ^ (i % 8):Nat):Int) / 2 ^ (j % 8)) % 2=1)=(b ||| 2 ^ (i % 8)).testBit (j % 8):=by
    rw [Bool.eq_iff_iff,decide_eq_true_eq]
    exact GH _ _
   have e2:decide (((b:Int) / 2 ^ (j % 8)) % 2=1)=b.testBit (j % 8):=by
    rw [Bool.eq_iff_iff,decide_eq_true_eq]
    exact GH _ _
   rw [e1,e2,Nat.testBit_or,Nat.testBit_two_pow]
   have e3:decide (i % 8=j % 8)=decide (j=i):=by
    rw [Bool.eq_iff_iff,decide_eq_true_eq,decide_eq_true_eq]
    omega
   rw [e3,Bool.or_comm]
  ·rw [if_neg hq,show decide (j=i)=false from decide_eq_false (λe=>hq (by rw [e])),Bool.false_or]
theorem zY: ∀ (L:List Nat) {B:List Int},BB B->(∀ i∈L,i / 8 < B.length)->BB (L.foldl wx B)/\(L.foldl wx B).length=B.length /\ ∀ j,zX (L.foldl wx B) j=(decide (j∈L) || zX B j)
 | [],B,h,_=>⟨h,rfl,λj=>by simp⟩
 | i::L,B,h,hl=>by
  obtain ⟨h1,h2,h3⟩:=Na h (hl i List.mem_cons_self)
  obtain ⟨k1,k2,k3⟩:=zY L h1 λq hq=>by rw [h2]; exact hl q (List.mem_cons_of_mem _ hq)
  refine ⟨k1,k2.trans h2,λj=> ?_⟩
  rw [List.foldl_cons,k3 j,h3 j]
  by_cases h4:j=i
  ·subst h4; simp
  ·simp [h4]
def lD (l:List (Int×ByteArray)) (n:Nat):List Nat:=(List.range n).filter λi=>(mgl (i:Int) l).isSome
theorem Nb {l:List (Int×ByteArray)} {n:Nat} {id b:Int} (hn:n<=5000):iz ⟨id,(n:Int),some l,b⟩=some ((lD l n).map λi:Nat=>(i:Int)):=by
 unfold iz jV
 have hlen: ∀ i,(lD l i).length<=i:=λi=>by
  unfold lD
  have:=List.length_filter_le (λq:Nat=>(mgl (q:Int) l).isSome) (List.range i)
  rw [List.length_range] at this
  exact this
 have:=xu (s:=⟨id,(n:Int),some l,b⟩) (n:=n) rfl (by omega) (λs32 x3=>(bif (x3.2 == true) then (Option.bind (chk (eP s32.length [x3.1].length 8)) λ_=>some ((s32++[x3.1]),true)) else some (s32,true))) (λi=>(lD l i).map λi:Nat=>(i:Int)) (λi hi=>by
  dsimp only
  have hs:lD l (i+1)=lD l i++(if (mgl (i:Int) l).isSome=true then [i] else []):=by
   unfold lD
   rw [List.range_succ,List.filter_append]
   congr 1
   rw [List.filter_cons]
   rfl
  have hh:rn (some l) (i:Int)=(mgl (i:Int) l).isSome:=rfl
  have:=hlen i
  rw [hh,hs]
  cases hm:(mgl (i:Int) l).isSome with
  | true =>
   rw [show (true == true)=true from rfl,cond_true,bL (by simp; omega),aA,if_pos rfl,List.map_append]
   rfl
  | false =>
   rw [show (false == true)=false from rfl,cond_false,if_neg (by simp),List.append_nil])
 rw [show ((lD l 0).map λi:Nat=>(i:Int))=([]:List Int) from rfl] at this
 rw [this]
 rfl
def yf (l:List (Int×ByteArray)) (n:Nat):List Int:=(lD l n).foldl wx (List.replicate ((n+7) / 8) 0)
theorem GJ (l:List (Int×ByteArray)) (n:Nat):BB (yf l n)/\(yf l n).length=(n+7) / 8 /\ ∀ j,zX (yf l n) j=decide (j∈lD l n):=by
 have h0:BB (List.replicate ((n+7) / 8) (0:Int)):=λx hx=>by rw [List.eq_of_mem_replicate hx]; exact ⟨by decide,by decide⟩
 obtain ⟨h1,h2,h3⟩:=zY (lD l n) h0 λi hi=>by
  have:=List.mem_range.1 (List.mem_filter.1 hi).1
  rw [List.length_replicate]
  omega
 refine ⟨h1,by rw [show (yf l n).length=_ from h2,List.length_replicate],λj=> ?_⟩
 rw [show zX (yf l n) j=_ from h3 j]
 have:zX (List.replicate ((n+7) / 8) (0:Int)) j=false:=by
  unfold zX
  rw [List.getElem?_replicate]
  split
  ·rename_i b hb
   split at hb
   ·injection hb with hb
    rw [<- hb]
    simp
   ·cases hb
  ·rfl
 rw [this,Bool.or_false]
theorem KP {t:aV} {l:List (Int×ByteArray)} {n:Nat} {id b:Int} (h:t.slot=⟨id,(n:Int),some l,b⟩) (hn:n<=5000):eX t=some ⟨1,2,[t.bU.k,id],fU (yf l n)⟩:=by
 unfold eX
 have e1:IntKind.i64.wrap ((IntKind.i64.wrap ((IntKind.i64.wrap ((n:Int)+8)) - 1)).tdiv 8)=(((n+7) / 8:Nat):Int):=by
  rw [w64 (x:=(n:Int)+8) (by omega) (by omega),w64 (x:=(n:Int)+8 - 1) (by omega) (by omega)]
  have:((n:Int)+8 - 1).tdiv 8=(((n+7) / 8:Nat):Int):=by
   rw [show (n:Int)+8 - 1=((n+7:Nat):Int) by omega]
   rfl
  rw [this,w64 (by omega) (by omega)]
 rw [h,show jU ⟨id,(n:Int),some l,b⟩=some (n:Int) from rfl,aA,e1,show chk (Ea (((n+7) / 8:Nat):Int) 1)=some () from kq (by unfold big; omega),aA,Nb hn,aA,Int.toNat_natCast]
 have hlen: ∀ i,(((lD l n).take i).foldl wx (List.replicate ((n+7) / 8) (0:Int))).length=(n+7) / 8:=λi=>by
  have h0:BB (List.replicate ((n+7) / 8) (0:Int)):=λx hx=>by rw [List.eq_of_mem_replicate hx]; exact ⟨by decide,by decide⟩
  have:=(zY ((lD l n).take i) h0 λi hi=>by
   have:=List.mem_range.1 (List.mem_filter.1 (List.mem_of_mem_take hi)).1
   rw [List.length_replicate]
   omega).2.1
  rw [this,List.length_replicate]
 refine fL (λi:Nat=>((i:Int),((lD l n).take i).foldl wx (List.replicate ((n+7) / 8) (0:Int)))) (lD l n).length (yf l n) rfl ?_ ?_ ?_
 ·intro i hi
  dsimp only
  have hm:=List.mem_range.1 (List.mem_filter.1 (List.getElem_mem hi)).1
  have hl:=hlen i
  have hh:(lD l n).length<=n:=by
   unfold lD
   have:=List.length_filter_le (λq:Nat=>(mgl (q:Int) l).isSome) (List.range n)
   rw [List.length_range] at this
   exact this
  have e2:(((lD l n)[i]:Nat):Int).tdiv 8=(((lD l n)[i] / 8:Nat):Int):=rfl
  have e3:(((lD l n)[i]:Nat):Int).tmod 8=(((lD l n)[i] % 8:Nat):Int):=rfl
  have hmod:(lD l n)[i] % 8 < 8:=Nat.mod_lt _ (by decide)
  rw [List.length_map,decide_eq_true (by omega),cond_true,cZ _ i (by rw [List.length_map]; exact hi),aA,List.getElem_map,e2,e3,w64 (x:=(((lD l n)[i] / 8:Nat):Int)) (by omega) (by omega),cZ _ ((lD l n)[i] / 8) (by rw [hl]; omega),aA,show chk (shk (((lD l n)[i] % 8:Nat):Int))=some () from kq (by omega),aA,aA,w64 (by omega) (by have:=hh; omega),List.take_succ_eq_append_getElem hi,List.foldl_append]
  simp only [List.foldl_cons,List.foldl_nil]
  rw [wx,List.getElem?_eq_getElem (by rw [hl]; omega),Option.getD_some,Int.toNat_natCast,Int.toNat_natCast]
  rfl
 ·dsimp only
  rw [List.length_map,decide_eq_false (by omega),cond_false,List.take_length]
  rfl
 ·rfl
theorem KQ (l:List (Int×ByteArray)) (n j:Nat) (hj:j < n):wq (fU (yf l n)) j=(mgl (j:Int) l).isSome:=by
 obtain ⟨h1,h2,h3⟩:=GJ l n
 have:wq (fU (yf l n)) j=zX (yf l n) j:=by
  unfold wq zX
  rw [nP _ h1]
  all_goals cases (yf l n)[j / 8]? <;> rfl
 rw [this,h3 j]
 unfold lD
 rw [Bool.eq_iff_iff,decide_eq_true_eq,List.mem_filter,List.mem_range]
 exact ⟨λh=>h.2,λh=>⟨hj,h⟩⟩
section
variable {P : List ByteArray} {id base : Int} {a f x : aH}
theorem Nc (hM:Msg P f x) (hk:a.k < x.k) (hb:base=0/\f=gL\/base≠0/\base=a.k/\f=a) (hid:1<=id) {G:List dV} (hn:G.length<=1000000) (ix:Nat->Nat) (hG: ∀ j (hj:j < G.length),G[j]=grm id x.k base P (ix j)/\ix j < P.length) (sk:Nat->Bool)
  (F:aV×Int->Option ((aV×Int) ⊕ aV)) (hF: ∀ (t:aV) (j:Nat) (hj:j < G.length),F (t,(j:Int))=if sk j=true then some (.inl (t,((j+1:Nat):Int))) else Option.bind (cH t G[j]) λr=>some (.inl (r.2,((j+1:Nat):Int)))) (hE: ∀ t,F (t,(G.length:Int))=some (.inr t))
  {t:aV} {hs:Nat->Prop} (h:On P id a x t hs): ∃ t',iter F (t,0)=some t'/\On P id a x t' (λi=>hs i \/ ∃ j,j < G.length/\sk j=false/\ix j=i):=by
 have key:=qD (f:=F) (λs=> ∃ j:Nat,s.2=(j:Int)/\j<=G.length/\On P id a x s.1 (λi=>hs i \/ ∃ q,q < j/\sk q=false/\ix q=i)) (λs=>G.length - s.2.toNat) (λt'=>On P id a x t' (λi=>hs i \/ ∃ j,j < G.length/\sk j=false/\ix j=i)) (by
  rintro ⟨t,q⟩ ⟨j,h1,h2,h3⟩
  dsimp only at h1 h2 h3
  subst h1
  by_cases c:j < G.length
  ·left
   rw [hF t j c]
   by_cases hsk:sk j=true
   ·rw [if_pos hsk]
    refine ⟨_,rfl,⟨j+1,rfl,by omega,h3.mono ?_⟩,by dsimp only; omega⟩
    rintro i (hi | ⟨q,q1,q2,q3⟩)
    ·exact .inl hi
    ·by_cases e:q=j
     ·rw [e,hsk] at q2; cases q2
     ·exact .inr ⟨q,by omega,q2,q3⟩
   ·rw [if_neg hsk]
    obtain ⟨g1,g2⟩:=hG j c
    obtain ⟨e,t',e1,e2,_⟩:=M5 hM hk hb hid h3 g2
    rw [g1,e1]
    refine ⟨_,rfl,⟨j+1,rfl,by omega,e2.mono ?_⟩,by dsimp only; omega⟩
    rintro i (hi | ⟨q,q1,q2,q3⟩)
    ·exact .inl (.inl hi)
    ·by_cases e:q=j
     ·exact .inr (by rw [<- q3,e])
     ·exact .inl (.inr ⟨q,by omega,q2,q3⟩)
  ·right
   have hj:j=G.length:=by omega
   subst hj
   exact ⟨_,hE t,h3⟩) (t,0) ⟨0,rfl,Nat.zero_le _,h.mono λi hi=>hi.elim (λh=>h) λ⟨q,q1,_⟩=>absurd q1 (Nat.not_lt_zero q)⟩
 exact key
end
def sB (q:Int) (x:aH) (P:List ByteArray) (th:List Bool) (du:Int):aK:=⟨(nuS ⟨q,1,3⟩).config,x,gL,[x],⟨1,x.k,0,P,th,du⟩,2⟩
def sC (q:Int) (x:aH) (m:bA):aK:=⟨(nuS ⟨q,1,3⟩).config,x,x,[],m,2⟩
theorem KR {q:Int} {x:aH} (hk:1<=x.k):p7 (setCur (nuS ⟨q,1,3⟩) x) 0=(l7 (HD (setCur (nuS ⟨q,1,3⟩) x) 0),sB q x (pP (jZ gL x) (ptN (nuS ⟨q,1,3⟩).config.part)) (List.replicate (pP (jZ gL x) (ptN (nuS ⟨q,1,3⟩).config.part)).length false) 1):=by
 rw [zQ 0 (by show x.k≠0; omega) rfl]
 have e1:ui (setCur (nuS ⟨q,1,3⟩) x)=[x]:=rfl
 have e2:(nuS ⟨q,1,3⟩).config.every=1:=by show imax 1 (dZ 1 1048576)=1; decide
 have e3:(nuS ⟨q,1,3⟩).config.most=3:=by show imax 1 (dZ 3 64)=3; decide
 unfold Kz DL sB
 rw [e1]
 have e4:(setCur (nuS ⟨q,1,3⟩) x).config=(nuS ⟨q,1,3⟩).config:=rfl
 rw [e4,e2,e3]
 rfl
theorem B4 {q:Int} {x:aH} (hx:SQ x) {P:List ByteArray} {th:List Bool} {du:Int} (hP:P.length<=4096) (ht:th.length=P.length):SNI (sB q x P th du):=by
 have h:=(Fc ⟨q,1,3⟩).m0
 have e3:(nuS ⟨q,1,3⟩).config.most=3:=by show imax 1 (dZ 3 64)=3; decide
 refine ⟨hx.ct,B3,λy hy=> ?_,h,?_,?_,ht,List.pairwise_singleton _ _,λy hy=> ?_⟩
 ·rw [List.mem_singleton.1 hy]; exact hx.ct
 ·show ((1:Nat):Int)<=(nuS ⟨q,1,3⟩).config.most
  rw [e3]; decide
 ·show P.length<=61001; omega
 ·rw [List.mem_singleton.1 hy]; exact Int.le_refl _
theorem Fi {q:Int} {x:aH} (hx:SQ x) {m:bA} (hP:m.parts.length<=4096) (ht:m.there.length=m.parts.length):SNI (sC q x m):=by
 have h:=(Fc ⟨q,1,3⟩).m0
 have e3:(nuS ⟨q,1,3⟩).config.most=3:=by show imax 1 (dZ 3 64)=3; decide
 refine ⟨hx.ct,hx.ct,λy hy=>(by cases hy),h,?_,?_,ht,List.Pairwise.nil,λy hy=>(by cases hy)⟩
 ·show ((0:Nat):Int)<=(nuS ⟨q,1,3⟩).config.most
  rw [e3]; decide
 ·show m.parts.length<=61001; omega
theorem HQ {q:Int} {x:aH} (hk:1<=x.k) {P:List ByteArray} {th:List Bool} {du:Int} (h:ByteArray):(wu (sB q x P th du) 0 1 h).2=sB q x P (mkI th h th.length) du:=by
 unfold wu
 rw [if_pos (.inl (Int.le_refl _))]
 unfold ju
 rw [if_pos ⟨rfl,by decide⟩]
 rfl
theorem HR {q:Int} {x:aH} (hk:1<=x.k) {P:List ByteArray} {th:List Bool} {du:Int} (h:ByteArray):(wu (sB q x P th du) x.k 0 h).2=sC q x ⟨1,x.k,0,P,th,du⟩:=by
 unfold wu
 have e: ¬ (x.k<=(sB q x P th du).aN.k\/x.k > (sB q x P th du).current.k):=by
  show ¬ (x.k<=0\/x.k > x.k)
  omega
 have e2:fk x.k [x]=0:=by
  unfold fk
  rw [if_pos rfl]
 have e3:(sB q x P th du).kept=[x]:=rfl
 rw [if_neg e,e3,e2,if_pos (show 0 < [x].length from Nat.succ_pos 0)]
 unfold ju
 rw [if_neg (by rintro ⟨h,_⟩; exact absurd h (show ¬ (0:Int)=1 by decide))]
 rfl
theorem Q7 {q:Int} {x:aH} {m:bA} (h:ByteArray):(wu (sC q x m) x.k 0 h).2=sC q x m:=by
 unfold wu
 rw [if_pos (.inl (Int.le_refl _))]
 unfold ju
 rw [if_neg (by rintro ⟨_,h⟩; exact absurd h (by decide))]
theorem NM {q:Int} {x:aH} {m:bA} (now:Int):p7 (sC q x m) now=([],sC q x zO):=by
 rw [HJ now rfl]
 rfl
theorem Qz {q:Int} {x:aH} (hk:1<=x.k) {P:List ByteArray} {th:List Bool} {du now:Int} (hd:du<=now) (h0:0<=now) (h1:now<=100):p7 (sB q x P th du) now=(l7 ⟨1,x.k,0,P,th,du⟩,sB q x P th (now+1)):=by
 have e2:(nuS ⟨q,1,3⟩).config.every=1:=by show imax 1 (dZ 1 1048576)=1; decide
 have hf:rN (sB q x P th du)=false:=by
  unfold rN
  show (((1:Int) == 0) || ((x.k != x.k) || ((0:Int) != 0)))=false
  simp
 rw [Fe now (by show x.k≠0; omega) hf (by show ¬ now < du; omega)]
 unfold Kz
 rw [show (sB q x P th du).config.every=1 from e2,w64 (by omega) (by omega)]
 rfl
theorem HS {q:Int} (h0:0<=q) (h1:q<=100):4<=ptN (nuS ⟨4+q,1,3⟩).config.part/\ptN (nuS ⟨4+q,1,3⟩).config.part<=104:=by
 show 4<=ptN (imax 1 (dZ (4+q) 8000))/\ptN (imax 1 (dZ (4+q) 8000))<=104
 rw [dN,gO]
 unfold ptN
 omega
theorem Nf (x:Int) (m:Nat) (hm:m < 9223372036854775808):0<=Go.bits .and .i64 x (m:Int)/\Go.bits .and .i64 x (m:Int)<=(m:Int):=L7 x m hm
theorem GK (a b:Int) (d:ByteArray):fE ⟨1,2,[a,b],d⟩ 0=some a:=rfl
theorem num_1 (a b:Int) (d:ByteArray):fE ⟨1,2,[a,b],d⟩ 1=some b:=rfl
theorem KS {m:bA} {i:Nat} (hi:i < m.parts.length) (ht:m.there[i]?≠some true):((i:Int),(m.parts[i]?).getD noS)∈pE m:=by
 unfold pE wo
 rw [List.mem_filterMap]
 exact ⟨i,List.mem_range.2 hi,by unfold DK; rw [if_neg ht]⟩
theorem Ng {m:bA} {p:Int×ByteArray} (h:p∈pE m): ∃ i:Nat,i < m.parts.length/\p=((i:Int),(m.parts[i]?).getD noS):=by
 unfold pE wo at h
 obtain ⟨i,hi,e⟩:=List.mem_filterMap.1 h
 refine ⟨i,List.mem_range.1 hi,?_⟩
 unfold DK at e
 split at e
 ·cases e
 ·exact (Option.some.inj e).symm
inductive RW_ (q:Int) (x:aH) (P:List ByteArray):aK->aV->Nat->Prop where
 | start:RW_ q x P (setCur (nuS ⟨q,1,3⟩) x) M7 0
 | some_ (th:List Bool) (l:List (Int×ByteArray)) (t:aV) (h1:th.length=P.length) (h2:AtZ 1 P.length t.slot l) (h3:SL P l) (h4:l.length < P.length) (h5:t.bU=gL) (h6: ∀ i:Nat,i < P.length->th[i]?=some (mgl (i:Int) l).isSome):RW_ q x P (sB q x P th 1) t 1
 | done (m:bA) (t:aV) (j:Nat) (h1:t.slot=⟨0,0,none,0⟩) (h2:t.bU=x) (h3:m.parts.length<=4096) (h4:m.there.length=m.parts.length):RW_ q x P (sC q x m) t (j+1)
theorem zZ:(fU []).size<=1000000:=by rw [zV]; show 0<=1000000; decide
theorem said {q:Int} {x:aH} {P:List ByteArray} (hx:SQ x) (hk:1<=x.k) (hM:Msg P gL x) {th:List Bool} {t:aV} {hs:Nat->Prop} (hth:th.length=P.length) (h:On P 1 gL x t hs) (h0: ∀ i:Nat,i < P.length->th[i]?=some true->hs i) (j:Nat) (hj:j=0 \/ ∀ i,i < P.length->hs i) (du:Int) (hdu:j=0->du=1) :
  ∃ a s',eX t=some a/\(∃ k id,fE a 0=some k/\fE a 1=some id /\ ∃ b,fW (sB q x P th du) k id a.data=some (b,s'))/\RW_ q x P s' t (j+1):=by
 have hnp:=hM.np
 cases h with
 | done h1 h2 =>
  refine ⟨_,_,wv h1,⟨t.bU.k,0,GK _ _ _,num_1 _ _ _,_,yA _ _ _ _ (B4 hx hM.np hth) zZ⟩,?_⟩
  show RW_ q x P (wu (sB q x P th du) t.bU.k 0 (fU [])).2 t (j+1)
  rw [h2,HR hk]
  exact .done _ t j h1 h2 hM.np hth
 | part l h1 h2 h3 h4 h5 =>
  have hj0:j=0:=by
   rcases hj with hj | hj
   ·exact hj
   ·exfalso
    have:=SL.full (l:=l) (P:=P) λi hi=>h5 i (hj i hi)
    omega
  subst hj0
  obtain rfl:=hdu rfl
  rcases h1 with ⟨h1,rfl⟩ | ⟨b,h1⟩
  ·refine ⟨_,_,wv h1,⟨t.bU.k,0,GK _ _ _,num_1 _ _ _,_,yA _ _ _ _ (B4 hx hM.np hth) zZ⟩,?_⟩
   have e:(wu (sB q x P th 1) t.bU.k 0 (fU [])).2=sB q x P th 1:=by
    unfold wu
    rw [if_pos (.inl (by rw [h4]; exact Int.le_refl _))]
    unfold ju
    rw [if_neg (by rintro ⟨_,h⟩; exact absurd h (by decide))]
   show RW_ q x P (wu (sB q x P th 1) t.bU.k 0 (fU [])).2 t 1
   rw [e]
   refine .some_ th [] t hth (.inl ⟨h1,rfl⟩) h2 h3 h4 λi hi=> ?_
   rw [List.getElem?_eq_getElem (by omega)]
   cases hb:th[i] with
   | false=>rfl
   | true=>exact absurd (h5 i (h0 i hi (by rw [List.getElem?_eq_getElem (by omega),hb]))) (by simp [mgl])
  ·refine ⟨_,_,KP h1 (by omega),⟨t.bU.k,1,GK _ _ _,num_1 _ _ _,_,yA _ _ _ _ (B4 hx hM.np hth) (by rw [zV,(GJ l P.length).2.1]; omega)⟩,?_⟩
   show RW_ q x P (wu (sB q x P th 1) t.bU.k 1 (fU (yf l P.length))).2 t 1
   rw [h4,show gL.k=0 from rfl,HQ hk]
   refine .some_ _ l t (by rw [ox,hth]) (.inr ⟨b,h1⟩) h2 h3 h4 λi hi=> ?_
   rw [rO _ _ _ _ (by omega),decide_eq_true (show i < th.length by omega),Bool.true_and,KQ l P.length i hi]
   cases hb:th[i] with
   | false=>rw [Bool.false_or]
   | true =>
    rw [Bool.true_or,h5 i (h0 i hi (by rw [List.getElem?_eq_getElem (by omega),hb]))]
theorem KT {q:Int} {x:aH} {P:List ByteArray} (hx:SQ x) (hk:1<=x.k) (hP:pP (jZ gL x) (ptN (nuS ⟨q,1,3⟩).config.part)=P) (hM:Msg P gL x) {s:aK} {t:aV} {j:Nat} (hj:j < 3) (h:RW_ q x P s t j) (drop:Int) :
  ∃ G s1 t1 a s',eI s (j:Int)=some (G,s1)/\G.length<=4096 /\
   iter (σ:=aV×Int) (ρ:=aV) (λd=>(bif (decide (d.2 < (G.length:Int))) then (Option.bind ((Option.bind (idx G d.2) λg=>(Option.bind ((bif ((j:Int) == 0) then some (d.2 == drop) else some false):Option Bool) λn=>(bif n then some d.1 else (Option.bind (cH d.1 g) λo=>some o.2)))):Option aV) λu=>some (.inl (u,(IntKind.i64.wrap (d.2+1))))) else some (.inr d.1))) (t,0)=some t1 /\
   eX t1=some a/\(∃ k id,fE a 0=some k/\fE a 1=some id /\ ∃ b,fW s1 k id a.data=some (b,s'))/\RW_ q x P s' t1 (j+1):=by
 have hnp:=hM.np
 have hkz:gL.k < x.k:=by show (0:Int) < x.k; omega
 have hpos:0 < P.length:=by rw [<- hP]; exact GF _ _
 -- the loop
 have loop: ∀ (G:List dV) (hn:G.length<=4096) (ix:Nat->Nat) (hG: ∀ p (hp:p < G.length),G[p]=grm 1 x.k 0 P (ix p)/\ix p < P.length) {t:aV} {hs:Nat->Prop} (h:On P 1 gL x t hs),
   ∃ t1,iter (σ:=aV×Int) (ρ:=aV) (λd=>(bif (decide (d.2 < (G.length:Int))) then (Option.bind ((Option.bind (idx G d.2) λg=>(Option.bind ((bif ((j:Int) == 0) then some (d.2 == drop) else some false):Option Bool) λn=>(bif n then some d.1 else (Option.bind (cH d.1 g) λo=>some o.2)))):Option aV) λu=>some (.inl (u,(IntKind.i64.wrap (d.2+1))))) else some (.inr d.1))) (t,0)=some t1/\On P 1 gL x t1 (λi=>hs i \/ ∃ p,p < G.length/\(decide (j=0) && decide ((p:Int)=drop))=false/\ix p=i):=by
  intro G hn ix hG t hs h
  refine Nc hM hkz (.inl ⟨rfl,rfl⟩) (Int.le_refl 1) (by omega) ix hG (λp=>decide (j=0) && decide ((p:Int)=drop)) _ (λt p hp=> ?_) (λt=> ?_) h
  ·dsimp only
   rw [decide_eq_true (by omega),cond_true,cZ _ p hp,aA,w64 (by omega) (by omega)]
   by_cases hj0:j=0
   ·subst hj0
    rw [show (((0:Nat):Int) == 0)=true from rfl,cond_true,aA]
    by_cases hd:(p:Int)=drop
    ·rw [mG hd,cond_true,aA,if_pos (by simp [hd])]
     rfl
    ·rw [eF hd,cond_false,if_neg (by simp [hd])]
     cases cH t G[p] with
     | none=>rfl
     | some r=>rfl
   ·rw [eF (by omega),cond_false,aA,cond_false,if_neg (by simp [hj0])]
    cases cH t G[p] with
    | none=>rfl
    | some r=>rfl
  ·dsimp only
   rw [decide_eq_false (by omega),cond_false]
 cases h with
 | start =>
  have e0:=KR (q:=q) hk
  rw [hP] at e0
  obtain ⟨s1,s2,s3⟩:=vg (c:=⟨q,1,3⟩) hx hk (now:=0)
  rw [hP] at s3
  rw [e0] at s2 s3
  dsimp only at s3
  have hGl:(l7 (HD (setCur (nuS ⟨q,1,3⟩) x) 0)).length=P.length:=by rw [s3]; simp
  obtain ⟨t1,e1,h1⟩:=loop (l7 (HD (setCur (nuS ⟨q,1,3⟩) x) 0)) (by omega) (λp=>p) (λp hp=>⟨by simp only [s3]; simp,by rw [hGl] at hp; exact hp⟩) (Pq P x hpos)
  obtain ⟨a,s',e2,e3,h2⟩:=said hx hk hM (q:=q) (th:=List.replicate P.length false) (by simp) h1 (λi hi ht=>by
   rw [List.getElem?_replicate,if_pos hi] at ht
   cases ht) 0 (.inl rfl) 1 (λ_=>rfl)
  exact ⟨_,_,t1,a,s',s2,by omega,e1,e2,e3,h2⟩
 | some_ th l t h1 h2 h3 h4 h5 h6 =>
  have hs:=B4 (q:=q) (x:=x) (P:=P) (th:=th) (du:=1) hx hM.np h1
  have es:=uc _ 1 hs
  rw [Qz hk (Int.le_refl 1) (by decide) (by decide)] at es
  generalize hm:(⟨1,x.k,0,P,th,1⟩:bA)=m at es
  have hmp:m.parts=P:=by rw [<- hm]
  have hmt:m.there=th:=by rw [<- hm]
  have hgl:(l7 m).length<=P.length:=by
   rw [qP,<- hmp]
   exact AY _ _
  have hgr: ∀ p (hp:p < (l7 m).length),∃ i:Nat,i < P.length/\(l7 m)[p]=grm 1 x.k 0 P i/\((pE m)[p]'(by rw [<- qP]; exact hp)).1.toNat=i:=by
   intro p hp
   have hp':p < (pE m).length:=by rw [<- qP]; exact hp
   obtain ⟨i,hi,e⟩:=Ng (List.getElem_mem hp')
   rw [hmp] at hi e
   refine ⟨i,hi,?_,by rw [e]; simp⟩
   have:(l7 m)[p]=gr m ((pE m)[p]):=by simp [l7]
   rw [this,e,<- hm]
   rfl
  obtain ⟨t1,e1,h7⟩:=loop (l7 m) (by omega) (λp=>(((pE m)[p]?).map λp=>p.1.toNat).getD 0) (λp hp=>by
   obtain ⟨i,hi,e,e2⟩:=hgr p hp
   have hp':p < (pE m).length:=by rw [<- qP]; exact hp
   try dsimp only
   rw [List.getElem?_eq_getElem hp']
   simp only [Option.map_some,Option.getD_some]
   rw [e2]
   exact ⟨e,hi⟩) (hs:=λi=>(mgl (i:Int) l).isSome=true) (.part l h2 h3 h4 h5 λi h=>h)
  have hall: ∀ i,i < P.length->((mgl (i:Int) l).isSome=true \/ ∃ p,p < (l7 m).length/\(decide (1=0) && decide ((p:Int)=drop))=false/\(((pE m)[p]?).map λp=>p.1.toNat).getD 0=i):=by
   intro i hi
   cases hb:(mgl (i:Int) l).isSome with
   | true=>exact .inl rfl
   | false =>
    right
    have:=KS (m:=m) (i:=i) (by rw [hmp]; exact hi) (by rw [hmt,h6 i hi,hb]; simp)
    obtain ⟨p,hp,e⟩:=List.getElem_of_mem this
    refine ⟨p,by rw [qP]; exact hp,rfl,?_⟩
    rw [List.getElem?_eq_getElem hp,e]
    simp
  obtain ⟨a,s',e2,e3,h8⟩:=said hx hk hM (q:=q) h1 h7 (λi hi ht=>by
   rw [h6 i hi] at ht
   exact .inl (Option.some.inj ht)) 1 (.inr hall) (1+1) (λe=>absurd e (by decide))
  exact ⟨_,_,t1,a,s',es,by omega,e1,e2,e3,h8⟩
 | done m t j' h1 h2 h3 h4 =>
  have hs:=Fi (q:=q) hx h3 h4
  have es:=uc _ ((j'+1:Nat):Int) hs
  rw [NM] at es
  have hs0:=Fi (q:=q) (x:=x) (m:=zO) hx (by decide) rfl
  refine ⟨[],_,t,_,_,es,by decide,?_,wv h1,⟨t.bU.k,0,GK _ _ _,num_1 _ _ _,_,yA _ _ _ _ hs0 zZ⟩,?_⟩
  ·have:=Bt (f:=(λd:aV×Int=>(bif (decide (d.2 < (([]:List dV).length:Int))) then (Option.bind ((Option.bind (idx ([]:List dV) d.2) λg=>(Option.bind ((bif (((j'+1:Nat):Int) == 0) then some (d.2 == drop) else some false):Option Bool) λn=>(bif n then some d.1 else (Option.bind (cH d.1 g) λo=>some o.2)))):Option aV) λu=>some (.inl (u,(IntKind.i64.wrap (d.2+1))))) else some (.inr d.1):Option ((aV×Int) ⊕ aV)))) (λ_=>(t,(0:Int))) 0 t (λi hi=>absurd hi (Nat.not_lt_zero i)) rfl
   exact this
  ·show RW_ q x P (wu (sC q x zO) t.bU.k 0 (fU [])).2 t (j'+1+1)
   rw [h2,Q7]
   exact .done zO t (j'+1) h1 h2 (by decide) rfl
theorem yg {events:List cJ} {part drop:Int} (a0: ∀ x∈events,oX x) (a1:inK .i64 part) (a2:inK .i64 drop):lG events part drop=some true:=by
 unfold lG
 obtain ⟨m,z,em,hm⟩:=HO (n:=8) (by decide) events (KO (w:=6) (h:=3) (by decide) (by decide))
 rw [show ((8:Nat):Int)=8 from rfl] at em
 have hq:=Nf part 63 (by decide)
 rw [show ((63:Nat):Int)=63 from rfl] at hq
 generalize Go.bits .and .i64 part 63=q at hq
 obtain ⟨e1,hx,hk,hk2,_⟩:=GD hm (by decide)
 obtain ⟨s1,_,_⟩:=vg (c:=⟨4+q,1,3⟩) hx hk (now:=0)
 obtain ⟨p1,p2⟩:=HS (q:=q) hq.1 (by omega)
 have hM:=KM Gx hx p1
 generalize hP:pP (jZ gL (sOf m z)) (ptN (nuS ⟨4+q,1,3⟩).config.part)=P at hM
 generalize sOf m z=x at *
 rw [Fh,aA,Bool.not_true,cond_false,Gp,aA,w64 (by omega) (by omega),zP,aA,GG,aA,em,aA,e1,aA]
 dsimp only
 rw [s1,aA]
 dsimp only
 refine pj (λs:aK×aV×Int=> ∃ j:Nat,s.2.2=j/\j<=3/\RW_ (4+q) x P s.1 s.2.1 j) (λs=>3 - s.2.2.toNat) (λr=>RW_ (4+q) x P r.1 r.2 3) ⟨0,rfl,by decide,.start⟩ ?_ ?_
 ·rintro ⟨s,t,j'⟩ ⟨j,h1,h2,h3⟩
  dsimp only at h1 h2 h3 ⊢
  subst h1
  by_cases c:j < 3
  ·left
   obtain ⟨G,s2,t1,a,s',k1,k2,k3,k4,⟨k,id,k5,k6,b,k7⟩,k8⟩:=KT hx hk hP hM c h3 drop
   rw [decide_eq_true (by omega),cond_true,k1,aA]
   dsimp only
   rw [k3,aA,k4,aA,k5,aA,k6,aA,k7,aA,w64 (by omega) (by omega)]
   exact ⟨_,rfl,⟨j+1,by dsimp only; omega,by omega,k8⟩,by dsimp only; omega⟩
  ·right
   have hj:j=3:=by omega
   subst hj
   rw [decide_eq_false (by decide),cond_false]
   exact ⟨_,rfl,h3⟩
 ·rintro ⟨s,t⟩ h
  dsimp only at h ⊢
  generalize h3:3=n3 at h
  cases h with
  | start=>omega
  | some_=>omega
  | done m' t j h1 h2 h4 h5 =>
   have es:=uc _ 9 (Fi (q:=4+q) hx h4 h5)
   rw [NM] at es
   rw [DP (by rw [h2]; exact hx.g.sw),aA,e1,aA]
   dsimp only
   rw [h2,Gz hx.g,aA,decide_eq_true rfl,cond_true,show kb (sC (4+q) x m')=some x.k from rfl,aA,show kj t=some t.bU.k from rfl,aA,h2,beq_self_eq_true,cond_true,es,aA]
   rfl
end Go.Tw.X

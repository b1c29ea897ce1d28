import Derived.Test.YtgiokjfkjaoeiaaGreatDoorXq2
import Derived.Test.YtgiokjfkjaoeiaaGreatDoorXp1
import Derived.Test.YtgiokjfkjaoeiaaGreatDoorFw2
set_option linter.unusedVariables false
set_option linter.unusedSimpArgs false
namespace Go.Tw.X
open Go Go.Tw
def ptN (size:Int):Nat:=(max 1 (min size 8000)).toNat
theorem Pf (size:Int):imax 1 (eO size 8000)=(ptN size:Int):=by rw [gN,dP]; unfold ptN; omega
theorem GD (n:Int):1<=ptN n:=by unfold ptN; omega
theorem Ph (n:Int):ptN n<=8000:=by unfold ptN; omega
def n8 (z n:Nat):Nat:=max 1 ((z+n - 1) / n)
def uO (s:ByteArray) (n i:Nat):ByteArray:=iU s ((i*n:Nat):Int) ((min s.size (i*n+n):Nat):Int)
def rW (s:ByteArray) (n:Nat):List ByteArray:=(List.range (n8 s.size n)).map (uO s n)
theorem wv (s:ByteArray) (n:Nat):(rW s n).length=n8 s.size n:=by unfold rW; rw [List.length_map,List.length_range]
theorem B3 (z n:Nat):1<=n8 z n:=by unfold n8; omega
theorem Kx (z n:Nat) (h:1<=n):n8 z n<=z+1:=by
 unfold n8
 have:(z+n - 1) / n<=z+1:=Nat.le_of_lt_succ ((Nat.div_lt_iff_lt_mul (by omega)).2 (by
  have h1:z*1<=z*n:=Nat.mul_le_mul_left _ h
  have h2:(z+1+1)*n=z*n+n+n:=by rw [Nat.add_mul,Nat.add_mul,Nat.one_mul]
  rw [Nat.succ_eq_add_one,h2]
  omega))
 omega
theorem zO {z n i:Nat} (h:1<=n):i+1 < n8 z n↔i*n+n < z:=by
 unfold n8
 have h2:(i+2)*n=i*n+n+n:=by rw [Nat.add_mul]; omega
 have key:i+2<=(z+n - 1) / n↔(i+2)*n<=z+n - 1:=Nat.le_div_iff_mul_le (by omega)
 omega
theorem Pj {z n i:Nat} (h:1<=n) (hi:i < n8 z n):i*n<=z:=by
 cases i with
 | zero=>omega
 | succ i =>
  have:=(zO h).1 hi
  rw [Nat.add_mul]
  omega
theorem HE (s:ByteArray) (a b:Nat) (h:b<=s.size):(iU s a b).size=b - a:=by
 rw [<- bD,gW,List.length_drop,List.length_take,bD]
 omega
theorem AX (s:ByteArray):iU s 0 (s.size:Int)=s:=by
 apply rN
 have:=gW s 0 s.size
 rw [show iU s 0 (s.size:Int)=iU s ((0:Nat):Int) (s.size:Int) from rfl,this,List.drop_zero,<- bD,List.take_length]
theorem AY (s:ByteArray) (a b c d:Nat) (h:a+d<=b):iU (iU s a b) c d=iU s ((a+c:Nat):Int) ((a+d:Nat):Int):=by
 apply rN
 rw [gW,gW,gW,List.take_drop,List.take_take,List.drop_drop]
 rw [show min (a+d) b=a+d by omega]
theorem HF (s:ByteArray) (size:Int) (h:s.size<=1000000):mW s size=some (rW s (ptN size)):=by
 unfold mW
 rw [Pf]
 have hp:=GD size
 have hl:=Ph size
 generalize ptN size=n at hp hl
 have hc:=B3 s.size n
 have hcl:=Kx s.size n hp
 have hz: ∀ i,(iU s ((i*n:Nat):Int) (s.size:Int)).size=s.size - i*n:=λi=>HE _ _ _ (Nat.le_refl _)
 refine fM (λi=>(iU s ((i*n:Nat):Int) (s.size:Int),(List.range i).map (uO s n))) (n8 s.size n - 1) (iU s (((n8 s.size n - 1)*n:Nat):Int) (s.size:Int),(List.range (n8 s.size n - 1)).map (uO s n)) ?_ ?_ ?_ ?_
 ·rw [Nat.zero_mul,show ((0:Nat):Int)=0 from rfl,AX]
  rfl
 ·intro i hi
  have h1:i*n+n < s.size:=(zO hp).1 (by omega)
  dsimp only
  rw [hz,decide_eq_true (by omega),cond_true,bP (by omega) (by omega) (by omega),aA,bL (by simp; omega),aA,bP (by omega) (by omega) (by omega),aA]
  have e1:iU (iU s ((i*n:Nat):Int) (s.size:Int)) (n:Int) ((s.size - i*n:Nat):Int)=iU s (((i+1)*n:Nat):Int) (s.size:Int):=by
   rw [AY _ _ _ _ _ (by omega),Nat.add_mul,Nat.one_mul,show i*n+(s.size - i*n)=s.size by omega]
  have e2:iU (iU s ((i*n:Nat):Int) (s.size:Int)) 0 (n:Int)=uO s n i:=by
   rw [show (0:Int)=((0:Nat):Int) from rfl,AY _ _ _ _ _ (by omega),Nat.add_zero]
   unfold uO
   rw [show min s.size (i*n+n)=i*n+n by omega]
  rw [e1,e2,List.range_succ,List.map_append]
  rfl
 ·have h1: ¬ ((n8 s.size n - 1)*n+n < s.size):=λhh=>by
   have:=(zO (z:=s.size) hp).2 hh
   omega
  dsimp only
  rw [hz,decide_eq_false (by omega),cond_false]
 ·dsimp only
  rw [bL (by simp; omega),aA]
  have h1: ¬ ((n8 s.size n - 1)*n+n < s.size):=λhh=>by
   have:=(zO (z:=s.size) hp).2 hh
   omega
  have e:iU s (((n8 s.size n - 1)*n:Nat):Int) (s.size:Int)=uO s n (n8 s.size n - 1):=by
   unfold uO
   rw [show min s.size ((n8 s.size n - 1)*n+n)=s.size by omega]
  rw [e]
  unfold rW
  conv=>rhs; rw [show n8 s.size n=(n8 s.size n - 1)+1 by omega,List.range_succ,List.map_append]
  rfl
theorem Ff (s:aK):aK.mk (cE.mk s.config.part s.config.every s.config.most) (aH.mk s.current.k s.current.w s.current.h s.current.x s.current.y s.current.title s.current.rows s.current.len s.current.chain s.current.begun) (aH.mk s.aN.k s.aN.w s.aN.h s.aN.x s.aN.y s.aN.title s.aN.rows s.aN.len s.aN.chain s.aN.begun) s.kept (bC.mk s.message.id s.message.key s.message.base s.message.parts s.message.there s.message.due) s.next=s:=rfl
def GF (m:bC) (i:Nat):Option (Int×ByteArray):=if m.there[i]?=some true then none else some ((i:Int),(m.parts[i]?).getD noS)
def xX (m:bC) (n:Nat):List (Int×ByteArray):=(List.range n).filterMap (GF m)
def xY (m:bC):List (Int×ByteArray):=xX m m.parts.length
theorem AZ (m:bC) (n:Nat):(xX m n).length<=n:=by
 have:=List.length_filterMap_le (GF m) (List.range n)
 rw [List.length_range] at this
 exact this
theorem zP (m:bC) (n:Nat):xX m (n+1)=xX m n++(if m.there[n]?=some true then [] else [((n:Int),(m.parts[n]?).getD noS)]):=by
 unfold xX
 rw [List.range_succ,List.filterMap_append]
 congr 1
 unfold GF
 by_cases h:m.there[n]?=some true
 ·simp [h]
 ·simp [h]
theorem Ky {α:Type} (m:bC) (F:Int×ByteArray->α) (Y:List α->Int×ByteArray->Option (List α×Bool)) (hl:m.there.length=m.parts.length) (hp:m.parts.length<=1000000) (hY: ∀ (l:List α) x,l.length<=1000000->Y l x=some (l++[F x],true)):iN m Y []=some ((xY m).map F):=by
 unfold iN
 refine fM (λi:Nat=>((i:Int),(xX m i).map F)) m.parts.length (.inl ((xY m).map F)) rfl ?_ ?_ rfl
 ·intro i hi
  have hi2:i < m.there.length:=by omega
  have hn:=AZ m i
  dsimp only
  rw [decide_eq_true (by omega),cond_true,cU _ _ hi,aA,cU _ _ hi2,aA,zP,List.getElem?_eq_getElem hi2,List.getElem?_eq_getElem hi]
  cases hb:m.there[i] with
  | true =>
   rw [Bool.not_true,cond_false,aA,cond_false,w64 (by omega) (by omega),if_pos rfl,List.append_nil]
   rfl
  | false =>
   rw [Bool.not_false,cond_true,hY _ _ (by rw [List.length_map]; omega),aA,Bool.not_true,aA,cond_false,w64 (by omega) (by omega),if_neg (by simp),List.map_append]
   rfl
 ·dsimp only
  rw [decide_eq_false (by omega),cond_false]
  rfl
def gr (m:bC) (x:Int×ByteArray):dN:=⟨1,1,[m.id,m.key,m.base,x.1,(m.parts.length:Int)],x.2⟩
def rX (m:bC):List dN:=(xY m).map (gr m)
def has (k:Int) (l:List aH):Bool:=l.any λx=>x.k == k
def Pk (s:aK) (now:Int):bC:=⟨s.next,s.current.k,s.aN.k,rW (lf s.aN s.current) (ptN s.config.part),List.replicate (rW (lf s.aN s.current) (ptN s.config.part)).length false,now⟩
def tv (s:aK):List aH:=if has s.current.k s.kept then s.kept else s.kept++[s.current]
def B4 (s:aK) (now:Int):aK:=⟨s.config,s.current,s.aN,(tv s).drop ((tv s).length - s.config.most.toNat),Pk s now,IntKind.i64.wrap (s.next+1)⟩
structure SNI (s:aK):Prop where
 cur:CT1 s.current
 ack:CT1 s.aN
 kp: ∀ x∈s.kept,CT1 x
 m0:1<=s.config.most/\s.config.most<=64
 kl:(s.kept.length:Int)<=s.config.most
 pl:s.message.parts.length<=67001
 tl:s.message.there.length=s.message.parts.length
 so:s.kept.Pairwise λx y=>x.k < y.k
 ck: ∀ x∈s.kept,x.k<=s.current.k
theorem Pm (l:List aH) (S:aK) (hl:l.length<=1000000):cD l S=some (has S.current.k l):=by
 unfold cD dD has
 obtain ⟨q,h1,h2⟩:=find_eq l (λx=>x.k == S.current.k) hl (λa=>(bif (decide (a < (l.length:Int))) then (Option.bind (idx l a) λb=>(Option.bind (fO b S) λc=>(bif c then (ln (some a)) else some (.inl (IntKind.i64.wrap (a+1)))))) else some (.inr (.inl ())))) (by
  intro n hn
  unfold fO
  rw [decide_eq_true (by omega),cond_true,cU l n hn,aA,aA,w64 (by omega) (by omega)]
  cases (l[n].k == S.current.k) <;> rfl) (by
  rw [decide_eq_false (by omega),cond_false])
 rw [h1,aA]
 rcases h2 with ⟨rfl,h3⟩ | ⟨w,rfl,h4,h3⟩
 ·rw [h3]
  rfl
 ·rw [h3]
  show some (decide (w>=0))=some true
  rw [decide_eq_true h4]
theorem Kz (s:aK):(tv s).length<=s.kept.length+1:=by
 unfold tv
 split
 ·omega
 ·simp
theorem A9 (s:aK) (h:SNI s):(rW (lf s.aN s.current) (ptN s.config.part)).length<=67001:=by
 have h1:=vk s.aN s.current h.cur.sw (by have:=h.cur.pk; omega)
 have h2:=Kx (lf s.aN s.current).size (ptN s.config.part) (GD _)
 rw [wv]
 omega
theorem DM {α:Type} (l:List α) (a:Nat):cut l (a:Int) (l.length:Int)=l.drop a:=by rw [rM,List.take_length]
theorem DN (s:aK) (now:Int) (h:SNI s):gE s now=some (B4 s now):=by
 unfold gE
 have h1:=vk s.aN s.current h.cur.sw (by have:=h.cur.pk; omega)
 have h2:=A9 s h
 have hk:=h.kl
 have hm:=h.m0
 rw [diff_eq _ _ h.ack.sw h.cur.sw (by have:=h.ack.pk; omega) (by have:=h.cur.pk; omega),aA,HF _ _ (by omega),aA,Ax (by omega) (by omega) (by omega),aA,Pm _ _ (by omega),aA,Int.toNat_natCast]
 dsimp only
 have hlen:=Kz s
 have fin: ∀ e:aK,e=⟨s.config,s.current,s.aN,tv s,Pk s now,IntKind.i64.wrap (s.next+1)⟩->(Option.bind (chk (dE (imax 0 (IntKind.i64.wrap ((e.kept.length:Int) - e.config.most))) (e.kept.length:Int) e.kept.length)) λ_=>some (aK.mk (cE.mk e.config.part e.config.every e.config.most) (aH.mk e.current.k e.current.w e.current.h e.current.x e.current.y e.current.title e.current.rows e.current.len e.current.chain e.current.begun) (aH.mk e.aN.k e.aN.w e.aN.h e.aN.x e.aN.y e.aN.title e.aN.rows e.aN.len e.aN.chain e.aN.begun) (cut e.kept (imax 0 (IntKind.i64.wrap ((e.kept.length:Int) - e.config.most))) (e.kept.length:Int)) (bC.mk e.message.id e.message.key e.message.base e.message.parts e.message.there e.message.due) e.next))=some (B4 s now):=by
  rintro e rfl
  dsimp only
  rw [w64 (by omega) (by omega),show imax 0 (((tv s).length:Int) - s.config.most)=(((tv s).length - s.config.most.toNat:Nat):Int) by rw [gN]; omega,bP (by omega) (by omega) (by omega),aA,DM]
  rfl
 cases hh:has s.current.k s.kept with
 | true =>
  rw [Bool.not_true,cond_false,aA]
  exact fin _ (by unfold tv; rw [hh,if_pos rfl]; rfl)
 | false =>
  rw [Bool.not_false,cond_true,bL (by simp; omega),aA,aA]
  exact fin _ (by unfold tv; rw [hh,if_neg (by simp)]; rfl)
theorem HG {k:Int} {l:List aH} (h:has k l=false): ∀ x∈l,x.k≠k:=by
 intro x hx he
 have:has k l=true:=List.any_eq_true.2 ⟨x,hx,by simp [he]⟩
 rw [h] at this
 cases this
theorem Pn {s:aK} (now:Int) (h:SNI s):SNI (B4 s now):=by
 have hm:=h.m0
 have hk: ∀ x∈tv s,CT1 x/\x.k<=s.current.k:=by
  unfold tv
  split
  ·exact λx hx=>⟨h.kp x hx,h.ck x hx⟩
  ·intro x hx
   rcases List.mem_append.1 hx with hx | hx
   ·exact ⟨h.kp x hx,h.ck x hx⟩
   ·rw [List.mem_singleton.1 hx]
    exact ⟨h.cur,Int.le_refl _⟩
 have hs:(tv s).Pairwise λx y=>x.k < y.k:=by
  unfold tv
  split
  ·exact h.so
  ·rename_i hh
   rw [List.pairwise_append]
   refine ⟨h.so,List.pairwise_singleton ..,?_⟩
   intro x hx y hy
   rw [List.mem_singleton.1 hy]
   have h1:=h.ck x hx
   have h2:=HG (by simpa using hh) x hx
   omega
 refine ⟨h.cur,h.ack,λx hx=>(hk x (List.mem_of_mem_drop hx)).1,hm,?_,A9 s h,by show (List.replicate _ false).length=_; rw [List.length_replicate]; rfl,hs.sublist (List.drop_sublist _ _),λx hx=>(hk x (List.mem_of_mem_drop hx)).2⟩
 show (((tv s).drop ((tv s).length - s.config.most.toNat)).length:Int)<=s.config.most
 rw [List.length_drop]
 omega
def NM:bC:=⟨0,0,0,[],[],0⟩
def Po (s:aK) (d:Int):aK:=⟨s.config,s.current,s.aN,s.kept,⟨s.message.id,s.message.key,s.message.base,s.message.parts,s.message.there,d⟩,s.next⟩
def rY (s:aK):Bool:=(s.message.id == 0) || ((s.message.key != s.current.k) || (s.message.base != s.aN.k))
def mE (s:aK) (now:Int):aK:=if rY s then B4 s now else s
def qj (s:aK) (now:Int):List dN×aK :=
 if s.current.k=s.aN.k then ([],⟨s.config,s.current,s.aN,s.kept,NM,s.next⟩)
 else if now < (mE s now).message.due then ([],mE s now)
 else (rX (mE s now).message,Po (mE s now) (IntKind.i64.wrap (now+s.config.every)))
theorem zQ {s:aK} (now:Int) (h:SNI s):SNI (mE s now):=by
 unfold mE
 split
 ·exact Pn now h
 ·exact h
theorem HH (s:aK) (now:Int):(mE s now).config=s.config:=by unfold mE; split <;> rfl
theorem Pp {s:aK} (d:Int) (h:SNI s):SNI (Po s d):=⟨h.cur,h.ack,h.kp,h.m0,h.kl,h.pl,h.tl,h.so,h.ck⟩
theorem MY {s:aK} (now:Int) (h:SNI s):SNI (qj s now).2:=by
 unfold qj
 split
 ·exact ⟨h.cur,h.ack,h.kp,h.m0,h.kl,Nat.zero_le _,rfl,h.so,h.ck⟩
 ·split
  ·exact zQ now h
  ·exact Pp _ (zQ now h)
theorem KA (s:aK):((bif (s.message.id == 0) then some true else (bif (s.message.key != s.current.k) then some true else some (s.message.base != s.aN.k))):Option Bool)=some (rY s):=by
 unfold rY
 cases (s.message.id == 0) <;> cases (s.message.key != s.current.k) <;> rfl
theorem Ba (s:aK) (now:Int) (h:SNI s):fP s now=some (qj s now):=by
 unfold fP
 simp only [Ff]
 by_cases hk:s.current.k=s.aN.k
 ·rw [show (s.current.k == s.aN.k)=true by simp [hk],cond_true]
  unfold qj
  rw [if_pos hk]
  rfl
 ·rw [show (s.current.k == s.aN.k)=false by simp [hk],cond_false,KA,aA]
  have hb:((bif rY s then (Option.bind (gE s now) λc=>some c) else some s):Option aK)=some (mE s now):=by
   unfold mE
   cases rY s with
   | true=>rw [cond_true,DN s now h,aA,if_pos rfl]
   | false=>rw [cond_false,if_neg (by simp)]
  rw [hb,aA]
  have hS:=zQ now h
  have hc:=HH s now
  unfold qj
  rw [if_neg hk]
  generalize mE s now=e at hS hc
  by_cases hd:now < e.message.due
  ·rw [decide_eq_true hd,cond_true,if_pos hd]
  ·rw [decide_eq_false hd,cond_false,if_neg hd]
   have hpl:=hS.pl
   have:=Ky ⟨e.message.id,e.message.key,e.message.base,e.message.parts,e.message.there,IntKind.i64.wrap (now+e.config.every)⟩ (gr e.message) (λb a=>(Option.bind (chk (eI b.length ([(dN.mk 1 1 [e.message.id,e.message.key,e.message.base,a.1,(e.message.parts.length:Int)] a.2)]).length 56)) λ_=>some ((b++[(dN.mk 1 1 [e.message.id,e.message.key,e.message.base,a.1,(e.message.parts.length:Int)] a.2)]),true))) hS.tl (by show e.message.parts.length<=_; omega) (by
    intro l x hl
    rw [bL (by simp; omega),aA]
    rfl)
   rw [this,aA,<- hc]
   rfl
def zU (h:ByteArray) (i:Nat):Bool:=match (sbs h)[i / 8]? with | some b=>decide ((b / 2 ^ (i % 8)) % 2=1) | none=>false
def mkI (t:List Bool) (h:ByteArray) (n:Nat):List Bool:=t.mapIdx λi b=>b || (decide (i < n) && zU h i)
theorem oF (t:List Bool) (h:ByteArray) (n:Nat):(mkI t h n).length=t.length:=by unfold mkI; rw [List.length_mapIdx]
theorem uj (t:List Bool) (h:ByteArray) (n i:Nat) (hi:i < t.length):(mkI t h n)[i]?=some (t[i] || (decide (i < n) && zU h i)):=by
 unfold mkI
 rw [List.getElem?_mapIdx,List.getElem?_eq_getElem hi]
 rfl
theorem KB (t:List Bool) (h:ByteArray):mkI t h 0=t:=by
 apply List.ext_getElem?
 intro i
 by_cases hi:i < t.length
 ·rw [uj _ _ _ _ hi,List.getElem?_eq_getElem hi]
  simp
 ·rw [List.getElem?_eq_none (by rw [oF]; omega),List.getElem?_eq_none (by omega)]
theorem KC (t:List Bool) (h:ByteArray) (n:Nat) (hn:n < t.length):mkI t h (n+1)=if zU h n then (mkI t h n).set n true else mkI t h n:=by
 apply List.ext_getElem?
 intro i
 by_cases hi:i < t.length
 ·rw [uj _ _ _ _ hi]
  by_cases hb:zU h n=true
  ·rw [if_pos hb,List.getElem?_set]
   by_cases hin:n=i
   ·subst hin
    rw [if_pos rfl,if_pos (by rw [oF]; exact hi),hb]
    simp
   ·rw [if_neg hin,uj _ _ _ _ hi]
    have:decide (i < n+1)=decide (i < n):=by rw [decide_eq_decide]; omega
    rw [this]
  ·rw [if_neg hb,uj _ _ _ _ hi]
   by_cases hin:n=i
   ·subst hin
    have:zU h n=false:=by simpa using hb
    rw [this]
    simp
   ·have:decide (i < n+1)=decide (i < n):=by rw [decide_eq_decide]; omega
    rw [this]
 ·rw [List.getElem?_eq_none (by rw [oF]; omega)]
  split
  ·rw [List.getElem?_eq_none (by rw [List.length_set,oF]; omega)]
  ·rw [List.getElem?_eq_none (by rw [oF]; omega)]
theorem KD (h:ByteArray) (i:Nat) (hi:8*h.size<=i):zU h i=false:=by
 unfold zU
 rw [List.getElem?_eq_none (by rw [bD]; omega)]
theorem MZ (t:List Bool) (h:ByteArray) (n:Nat) (hn:min t.length (8*h.size)<=n):mkI t h n=mkI t h t.length:=by
 apply List.ext_getElem?
 intro i
 by_cases hi:i < t.length
 ·rw [uj _ _ _ _ hi,uj _ _ _ _ hi]
  by_cases hin:i < n
  ·rw [decide_eq_true hin,decide_eq_true hi]
  ·rw [KD h i (by omega),Bool.and_false,Bool.and_false]
 ·rw [List.getElem?_eq_none (by rw [oF]; omega),List.getElem?_eq_none (by rw [oF]; omega)]
theorem M1 (h:ByteArray) (i:Nat) (hi:i / 8 < (sbs h).length):zU h i=decide (((sbs h)[i / 8] / 2 ^ (i % 8)) % 2=1):=by
 unfold zU
 rw [List.getElem?_eq_getElem hi]
theorem HI (b:Int) (i:Nat) (h0:0<=b):b.fdiv (2 ^ (min (((i:Int).tmod 8)).toNat 8))=b / 2 ^ (i % 8):=by
 have e:min (((i:Int).tmod 8)).toNat 8=i % 8:=by
  rw [show ((i:Int).tmod 8)=((i % 8:Nat):Int) from rfl,Int.toNat_natCast]
  omega
 rw [e,Int.fdiv_eq_ediv_of_nonneg _ (Int.pow_nonneg (by decide))]
theorem HJ (b:Int) (j:Nat) (h0:0<=b) (h1:b < 256):0<=b / 2 ^ j/\b / 2 ^ j < 256:=by
 refine ⟨Int.ediv_nonneg h0 (Int.pow_nonneg (by decide)),?_⟩
 have:=Int.ediv_le_self (2 ^ j) h0
 omega
theorem M3 (x:Int) (h0:0<=x) (h1:x < 256):Go.bits .and .u8 x 1=x % 2:=by
 have h:=bits_mask .u8 8 (by decide) wraps_u8 1 (by decide) x h0 (by omega)
 have e:((2:Int) ^ 1 - 1)=1:=by decide
 have e2:((2:Int) ^ 1)=2:=by decide
 rw [e,e2] at h
 exact h
def DO (s:aK) (t:List Bool):aK:=⟨s.config,s.current,s.aN,s.kept,⟨s.message.id,s.message.key,s.message.base,s.message.parts,t,s.message.due⟩,s.next⟩
theorem M4 (s:aK) (h:ByteArray) (hl:s.message.there.length<=1000000) (hs:h.size<=1000000):gV s h=some (DO s (mkI s.message.there h s.message.there.length)):=by
 unfold gV
 simp only [Ff]
 rw [w64 (x:=8*(h.size:Int)) (by omega) (by omega),show eO (s.message.there.length:Int) (8*(h.size:Int))=((min s.message.there.length (8*h.size):Nat):Int) by rw [dP]; omega]
 refine fM (λi:Nat=>(DO s (mkI s.message.there h i),(i:Int))) (min s.message.there.length (8*h.size)) (DO s (mkI s.message.there h (min s.message.there.length (8*h.size)))) ?_ ?_ ?_ ?_
 ·rw [KB]
  rfl
 ·intro i hi
  have hi2:i / 8 < (sbs h).length:=by rw [bD]; omega
  have hb:=lC h _ (List.getElem_mem hi2)
  have hr:=HJ _ (i % 8) hb.1 hb.2
  dsimp only
  rw [decide_eq_true (by omega),cond_true,show (i:Int).tdiv 8=((i / 8:Nat):Int) from rfl,w64 (x:=((i / 8:Nat):Int)) (by omega) (by omega),vP h _ hi2,aA,show chk (shk ((i:Int).tmod 8))=some () from kj (show (0:Int)<=((i % 8:Nat):Int) by omega),aA,HI _ _ hb.1,M3 _ hr.1 hr.2,KC _ _ _ (by omega),M1 h i hi2,w64 (by omega) (by omega)]
  by_cases hq:((sbs h)[i / 8] / 2 ^ (i % 8)) % 2=1
  ·rw [show (((sbs h)[i / 8] / 2 ^ (i % 8)) % 2 == 1)=true by simp [hq],cond_true,decide_eq_true hq,if_pos rfl]
   have hg:idx (DO s (mkI s.message.there h i)).message.there (i:Int)=some ((mkI s.message.there h i)[i]'(by rw [oF]; omega)):=cU (mkI s.message.there h i) i (by rw [oF]; omega)
   rw [hg,aA]
   rfl
  ·rw [show (((sbs h)[i / 8] / 2 ^ (i % 8)) % 2 == 1)=false by simp [hq],cond_false,decide_eq_false hq,if_neg (by simp)]
   rfl
 ·dsimp only
  rw [decide_eq_false (by omega),cond_false]
 ·rw [MZ _ _ _ (Nat.le_refl _)]
def fk (k:Int):List aH->Nat | []=>0 | x::l=>if x.k=k then 0 else fk k l+1
theorem NN (k:Int): ∀ l,fk k l<=l.length
 | []=>Nat.le_refl _
 | x::l=>by
  unfold fk
  have:=NN k l
  split
  ·exact Nat.zero_le _
  ·rw [List.length_cons]; omega
theorem NO (k:Int): ∀ (l:List aH) (n:Nat) (hn:n < l.length),n < fk k l->l[n].k≠k
 | x::l,n,hn,h=>by
  unfold fk at h
  split at h
  ·omega
  ·rename_i hx
   cases n with
   | zero=>exact hx
   | succ n=>exact NO k l n (by simpa using hn) (by omega)
theorem NQ (k:Int): ∀ (l:List aH) (hn:fk k l < l.length),l[fk k l].k=k
 | x::l,hn=>by
  by_cases hx:x.k=k
  ·have e:fk k (x::l)=0:=by unfold fk; rw [if_pos hx]
   simp only [e]
   exact hx
  ·have e:fk k (x::l)=fk k l+1:=by conv=>lhs; unfold fk; rw [if_neg hx]
   simp only [e]
   rw [e] at hn
   exact NQ k l (by simpa using hn)
theorem KE (l:List aH) (k:Int) (hl:l.length<=1000000):cN l k=some (if fk k l < l.length then (fk k l:Int) else -1):=by
 unfold cN
 have hle:=NN k l
 refine fM (λi:Nat=>(i:Int)) (fk k l) (if fk k l < l.length then .inr (fk k l:Int) else .inl ()) rfl ?_ ?_ ?_
 ·intro i hi
  have hil:i < l.length:=by omega
  have hne:=NO k l i hil hi
  unfold gK
  rw [decide_eq_true (by omega),cond_true,cU _ _ hil,aA,aA,show (l[i].k == k)=false by simp [hne],cond_false,w64 (by omega) (by omega)]
  rfl
 ·by_cases hlt:fk k l < l.length
  ·have ha:=NQ k l hlt
   unfold gK
   rw [decide_eq_true (by omega),cond_true,cU _ _ hlt,aA,aA,show (l[fk k l].k == k)=true by simp [ha],cond_true,if_pos hlt]
   rfl
  ·rw [decide_eq_false (by omega),cond_false,if_neg hlt]
 ·by_cases hlt:fk k l < l.length
  ·rw [if_pos hlt,if_pos hlt]
  ·rw [if_neg hlt,if_neg hlt]
def eN (s:aK) (id:Int) (h:ByteArray):aK:=if id=s.message.id/\id > 0 then DO s (mkI s.message.there h s.message.there.length) else s
def HK (s:aK) (k id:Int) (h:ByteArray):Bool×aK :=
 if k<=s.aN.k\/k > s.current.k then (false,eN s id h)
 else if fk k s.kept < s.kept.length then (true,⟨s.config,s.current,s.kept[fk k s.kept]?.getD iR,s.kept.drop (fk k s.kept+1),(eN s id h).message,s.next⟩)
 else (false,⟨s.config,s.current,iR,s.kept,(eN s id h).message,s.next⟩)
theorem HL {s:aK} (id:Int) (h:ByteArray) (hS:SNI s):SNI (eN s id h):=by
 unfold eN
 split
 ·exact ⟨hS.cur,hS.ack,hS.kp,hS.m0,hS.kl,hS.pl,by show (mkI _ _ _).length=_; rw [oF]; exact hS.tl,hS.so,hS.ck⟩
 ·exact hS
theorem B5:CT1 iR:=⟨CI,by decide⟩
theorem Pq {s:aK} (k id:Int) (h:ByteArray) (hS:SNI s):SNI (HK s k id h).2:=by
 have hM:=HL id h hS
 unfold HK
 split
 ·exact hM
 ·split
  ·rename_i hlt
   have hk:=hS.kl
   have e:s.kept[fk k s.kept]?.getD iR=s.kept[fk k s.kept]:=by rw [List.getElem?_eq_getElem hlt]; rfl
   refine ⟨hS.cur,by show CT1 (s.kept[fk k s.kept]?.getD iR); rw [e]; exact hS.kp _ (List.getElem_mem hlt),λx hx=>hS.kp x (List.mem_of_mem_drop hx),hS.m0,?_,hM.pl,hM.tl,hS.so.sublist (List.drop_sublist _ _),λx hx=>hS.ck x (List.mem_of_mem_drop hx)⟩
   show ((s.kept.drop _).length:Int)<=s.config.most
   rw [List.length_drop]
   omega
  ·exact ⟨hS.cur,B5,hS.kp,hS.m0,hS.kl,hM.pl,hM.tl,hS.so,hS.ck⟩
theorem HM (l:List aH) (h:l.length<=1000000):gJ l=some l:=by
 unfold gJ
 rw [bL (by simp; omega),aA]
 rfl
theorem M5 (s:aK) (k id:Int) (h:ByteArray) (hS:SNI s) (hs:h.size<=1000000):iO s k id h=some (HK s k id h):=by
 unfold iO
 simp only [Ff]
 have hk:=hS.kl
 have hm:=hS.m0
 have e1:((bif (id == s.message.id) then some (decide (id > 0)) else some false):Option Bool)=some (decide (id=s.message.id/\id > 0)):=by
  by_cases h1:id=s.message.id
  ·rw [show (id == s.message.id)=true by simp [h1],cond_true]
   by_cases h2:id > 0
   ·rw [decide_eq_true h2,decide_eq_true ⟨h1,h2⟩]
   ·rw [decide_eq_false h2,decide_eq_false (λhh=>h2 hh.2)]
  ·rw [show (id == s.message.id)=false by simp [h1],cond_false,decide_eq_false (λhh=>h1 hh.1)]
 have e2:((bif (decide (id=s.message.id/\id > 0)) then (Option.bind (gV s h) λa=>some a) else some s):Option aK)=some (eN s id h):=by
  unfold eN
  by_cases h1:id=s.message.id/\id > 0
  ·rw [decide_eq_true h1,cond_true,M4 s h (by have:=hS.pl; have:=hS.tl; omega) hs,aA,if_pos h1]
  ·rw [decide_eq_false h1,cond_false,if_neg h1]
 have a1:(eN s id h).aN=s.aN:=by unfold eN; split <;> rfl
 have a2:(eN s id h).current=s.current:=by unfold eN; split <;> rfl
 have a3:(eN s id h).kept=s.kept:=by unfold eN; split <;> rfl
 have a4:(eN s id h).config=s.config:=by unfold eN; split <;> rfl
 have a5:(eN s id h).next=s.next:=by unfold eN; split <;> rfl
 rw [e1,aA,e2,aA]
 unfold HK
 generalize eN s id h=m at a1 a2 a3 a4 a5
 rw [or2,aA,a1,a2,a3]
 by_cases hc:k<=s.aN.k\/k > s.current.k
 ·rw [decide_eq_true hc,cond_true,if_pos hc]
 ·rw [decide_eq_false hc,cond_false,if_neg hc,KE _ _ (by omega),aA]
  by_cases hlt:fk k s.kept < s.kept.length
  ·rw [if_pos hlt,if_pos hlt,decide_eq_false (by omega),cond_false,cU _ _ hlt,aA,w64 (by omega) (by omega),bP (by omega) (by omega) (by omega),aA,show ((fk k s.kept:Int)+1)=((fk k s.kept+1:Nat):Int) by omega,DM,HM _ (by rw [List.length_drop]; omega),aA,List.getElem?_eq_getElem hlt,<- a2,<- a4,<- a5]
   rfl
  ·rw [if_neg hlt,if_neg hlt,decide_eq_true (by omega),cond_true,<- a2,<- a4,<- a5]
   rfl
def nuS (c:cE):aK:=⟨⟨imax 1 (eO c.part 8000),imax 1 (eO c.every 1048576),imax 1 (eO c.most 64)⟩,iR,iR,[],NM,1⟩
theorem zV (c:cE):nM c=some (nuS c):=rfl
theorem KF (c:cE):SNI (nuS c):=by
 have hm:imax 1 (eO c.most 64)=max 1 (min c.most 64):=by rw [gN,dP]
 refine ⟨B5,B5,λx hx=>(by cases hx),?_,?_,Nat.zero_le _,rfl,List.Pairwise.nil,λx hx=>(by cases hx)⟩
 ·show 1<=imax 1 (eO c.most 64)/\imax 1 (eO c.most 64)<=64
  omega
 ·show (0:Int)<=imax 1 (eO c.most 64)
  omega
def setCur (s:aK) (x:aH):aK:=⟨s.config,x,s.aN,s.kept,s.message,s.next⟩
def oO (s:aK) (x:aH):Bool×aK:=if nZ x=false\/x.k<=s.current.k then (false,s) else (true,setCur s x)
theorem DP (s:aK) (x:aH) (h:SW x):fC s x=some (oO s x):=by
 unfold fC oO
 rw [vU x h,aA,xc x h]
 by_cases hm:nZ x=true
 ·rw [hm,if_pos rfl,show ((0:Int) != 0)=false from rfl,cond_false,aA]
  by_cases hk:x.k<=s.current.k
  ·rw [decide_eq_true hk,cond_true,if_pos (.inr hk)]
  ·rw [decide_eq_false hk,cond_false,if_neg (by simp [hk]),aA]
   rfl
 ·have hm2:nZ x=false:=by simpa using hm
  rw [hm2,if_neg (by simp),show ((1:Int) != 0)=true from rfl,cond_true,aA,cond_true,if_pos (Or.inl rfl)]
theorem GG {s:aK} {x:aH} (h:SNI s) (hx:CT1 x):SNI (oO s x).2:=by
 unfold oO
 split
 ·exact h
 ·rename_i hn
  exact ⟨hx,h.ack,h.kp,h.m0,h.kl,h.pl,h.tl,h.so,λy hy=>by have:=h.ck y hy; show y.k<=x.k; omega⟩
theorem Fg {s:aK} (now:Int) (hk:s.current.k≠s.aN.k) (hf:rY s=true):qj s now=(rX (Pk s now),Po (B4 s now) (IntKind.i64.wrap (now+s.config.every))):=by
 have e:mE s now=B4 s now:=by unfold mE; rw [hf,if_pos rfl]
 unfold qj
 rw [if_neg hk,e,if_neg (show ¬ now < (B4 s now).message.due from Int.lt_irrefl now)]
 rfl
theorem HO (m:bC):(rX m).length=(xY m).length:=by unfold rX; rw [List.length_map]
theorem KG {m:bC} (h:m.there=List.replicate m.parts.length false):xY m=(List.range m.parts.length).map λi:Nat=>((i:Int),(m.parts[i]?).getD noS):=by
 have key: ∀ n,n<=m.parts.length->xX m n=(List.range n).map λi:Nat=>((i:Int),(m.parts[i]?).getD noS):=by
  intro n
  induction n with
  | zero=>intro _; rfl
  | succ n ih =>
   intro hn
   rw [zP,ih (by omega),List.range_succ,List.map_append,show m.there[n]?=some false by rw [h,List.getElem?_replicate,if_pos (by omega)],if_neg (by simp)]
   rfl
 exact key _ (Nat.le_refl _)
theorem HP (s:ByteArray) (n i:Nat) (hi:i*n<=s.size):iU s 0 ((min s.size (i*n):Nat):Int)++uO s n i=iU s 0 ((min s.size ((i+1)*n):Nat):Int):=by
 apply rN
 unfold uO
 rw [pJ,show (0:Int)=((0:Nat):Int) from rfl,gW,gW,gW,List.drop_zero,List.drop_zero,show min s.size (i*n)=i*n by omega,Nat.add_mul,Nat.one_mul]
 have h2:i*n<=min s.size (i*n+n):=by omega
 generalize min s.size (i*n+n)=b at h2
 have:=List.take_append_drop (i*n) ((sbs s).take b)
 rw [List.take_take,show min (i*n) b=i*n by omega] at this
 exact this
end Go.Tw.X
set_option maxHeartbeats 1000000
namespace Go.Tw.X
open Go Go.Tw
theorem Fh: ∀ (n:Nat) (l:List Nat),l.Nodup->(∀ x∈l,x < n)->l.length<=n/\(l.length=n -> ∀ i,i < n->i∈l)
 | 0,l,_,h=>by
  have:l=[]:=by
   cases l with
   | nil=>rfl
   | cons a l=>exact absurd (h a List.mem_cons_self) (Nat.not_lt_zero a)
  subst this
  exact ⟨Nat.le_refl _,λ_ i hi=>absurd hi (Nat.not_lt_zero i)⟩
 | n+1,l,hn,h=>by
  by_cases hm:n∈l
  ·have hl:=List.length_erase_of_mem hm
   have hpos:0 < l.length:=List.length_pos_of_mem hm
   obtain ⟨h1,h2⟩:=Fh n (l.erase n) (hn.erase n) (λx hx=>by
    have h3:=(hn.mem_erase_iff.1 hx)
    have:=h x h3.2
    have:=h3.1
    omega)
   refine ⟨by omega,λe i hi=> ?_⟩
   by_cases hin:i=n
   ·rw [hin]; exact hm
   ·exact List.mem_of_mem_erase (h2 (by omega) i (by omega))
  ·obtain ⟨h1,h2⟩:=Fh n l hn (λx hx=>by
    have:=h x hx
    have:x≠n:=λe=>hm (e ▸ hx)
    omega)
   exact ⟨by omega,λe=>by omega⟩
structure SL (P:List ByteArray) (l:List (Int×ByteArray)):Prop where
 nd:(l.map Prod.fst).Nodup
 at_: ∀ p∈l,∃ i:Nat,p.1=(i:Int)/\P[i]?=some p.2
theorem Fi (P:List ByteArray):SL P []:=⟨List.nodup_nil,λp hp=>by cases hp⟩
theorem zW {α:Type} {k:Int}: ∀ {l:List (Int×α)},mgl k l=none -> ∀ p∈l,p.1≠k
 | [],_,p,hp=>by cases hp
 | (j,y)::l,h,p,hp=>by
  unfold mgl at h
  split at h
  ·cases h
  ·rename_i hne
   rcases List.mem_cons.1 hp with rfl | hp
   ·exact λe=>hne e.symm
   ·exact zW h p hp
theorem rZ {α:Type} {k:Int} {x:α}: ∀ {l:List (Int×α)},(l.map Prod.fst).Nodup->(k,x)∈l->mgl k l=some x
 | (j,y)::l,hn,hm=>by
  rw [List.map_cons,List.nodup_cons] at hn
  unfold mgl
  rcases List.mem_cons.1 hm with h | h
  ·injection h with h1 h2
   rw [if_pos h1,h2]
  ·split
   ·rename_i e
    exact absurd (List.mem_map_of_mem (f:=Prod.fst) h) (by rw [e]; exact hn.1)
   ·exact rZ hn.2 h
theorem SL.add {P:List ByteArray} {l:List (Int×ByteArray)} (h:SL P l) {i:Nat} {d:ByteArray} (hi:P[i]?=some d) (hn:mgl (i:Int) l=none):SL P (msl (i:Int) d l)/\msl (i:Int) d l=l++[((i:Int),d)]:=by
 have e:=B0 (i:Int) d l (zW hn)
 refine ⟨?_,e⟩
 rw [e]
 refine ⟨?_,λp hp=> ?_⟩
 ·rw [List.map_append,List.nodup_append]
  refine ⟨h.nd,by simp,λa ha b hb=> ?_⟩
  obtain ⟨p,hp,rfl⟩:=List.mem_map.1 ha
  simp at hb
  rw [hb]
  exact zW hn p hp
 ·rcases List.mem_append.1 hp with hp | hp
  ·exact h.at_ p hp
  ·rw [List.mem_singleton.1 hp]; exact ⟨i,rfl,hi⟩
theorem SL.le {P:List ByteArray} {l:List (Int×ByteArray)} (h:SL P l):l.length<=P.length/\(l.length=P.length -> ∀ i (hi:i < P.length),mgl (i:Int) l=some P[i]):=by
 have hk: ∀ p∈l,p.1=((p.1.toNat:Nat):Int):=λp hp=>by
  obtain ⟨i,e,_⟩:=h.at_ p hp
  rw [e]; simp
 have hnd:(l.map λp=>p.1.toNat).Nodup:=by
  have h1:=h.nd
  rw [List.nodup_iff_pairwise_ne] at h1 ⊢
  rw [List.pairwise_map] at h1 ⊢
  refine List.Pairwise.imp_of_mem ?_ h1
  intro a b ha hb hne e
  exact hne (by rw [hk a ha,hk b hb,e])
 obtain ⟨p1,p2⟩:=Fh P.length (l.map λp=>p.1.toNat) hnd (λx hx=>by
  obtain ⟨p,hp,rfl⟩:=List.mem_map.1 hx
  obtain ⟨i,e,hi⟩:=h.at_ p hp
  rw [e,Int.toNat_natCast]
  exact (List.getElem?_eq_some_iff.1 hi).1)
 rw [List.length_map] at p1 p2
 refine ⟨p1,λe i hi=> ?_⟩
 obtain ⟨p,hp,hpi⟩:=List.mem_map.1 (p2 e i hi)
 obtain ⟨j,ej,hj⟩:=h.at_ p hp
 have hji:j=i:=by rw [ej,Int.toNat_natCast] at hpi; exact hpi
 subst hji
 rw [List.getElem?_eq_getElem hi] at hj
 refine rZ h.nd ?_
 rw [Option.some.inj hj,<- ej]
 exact hp
theorem xv {σ:Type} {s:cQ} {n:Nat} (hc:s.count=(n:Int)) (hn:n<=1000000) (Y:σ->Int×Bool->Option (σ×Bool)) (S:Nat->σ) (h: ∀ i,i < n->Y (S i) ((i:Int),rD s.parts (i:Int))=some (S (i+1),true)):jK s Y (S 0)=some (S n):=by
 unfold jK
 refine fM (λi:Nat=>((i:Int),S i)) n (.inl (S n)) rfl ?_ ?_ rfl
 ·intro i hi
  dsimp only
  rw [hc,decide_eq_true (by omega),cond_true,h i hi,aA]
  dsimp only
  rw [Bool.not_true,cond_false,w64 (by omega) (by omega)]
  rfl
 ·dsimp only
  rw [hc,decide_eq_false (by omega),cond_false]
def oP (P:List ByteArray):List Int:=P.flatMap sbs
theorem vl (P:List ByteArray) (i:Nat) (h:i < P.length):oP (P.take (i+1))=oP (P.take i)++sbs P[i]:=by
 unfold oP
 rw [List.take_succ_eq_append_getElem h,List.flatMap_append]
 simp
theorem Fj {P:List ByteArray} {l:List (Int×ByteArray)} {id b:Int} (hid:1<=id) (h:SL P l) (hP:P.length<=4096) (hb:(oP P).length<=1000000) :
  ku ⟨id,(P.length:Int),some l,b⟩=some (if l.length < P.length then (noS,false) else (hU (oP P),true)):=by
 obtain ⟨h1,h2⟩:=h.le
 unfold ku
 dsimp only
 rw [eH (by omega),cond_false,aA]
 show (bif decide (((l.length:Nat):Int) < (P.length:Int)) then _ else _)=_
 by_cases c:l.length < P.length
 ·rw [decide_eq_true (by omega),cond_true,if_pos c]
  rfl
 ·rw [decide_eq_false (by omega),cond_false,if_neg c]
  have hall:=h2 (by omega)
  have hpre: ∀ i,(oP (P.take i)).length<=(oP P).length:=λi=>by
   have e:oP P=oP (P.take i)++oP (P.drop i):=by
    unfold oP
    rw [<- List.flatMap_append,List.take_append_drop]
   rw [e,List.length_append]
   omega
  have e:=xv (s:=⟨id,(P.length:Int),some l,b⟩) (n:=P.length) rfl (by omega) (λa f=>(Option.bind (fA (cY.mk a.addr a.buf) (mgd (some l) f.1 (ByteArray.mk #[]))) λd=>some ((cY.mk d.addr d.buf),true))) (λi=>cY.mk (decide (0 < i)) (oP (P.take i))) (λi hi=>by
   dsimp only
   have hg:mgd (some l) (i:Int) (ByteArray.mk #[])=P[i]:=by
    unfold mgd
    rw [Option.getD_some,hall i hi,Option.getD_some]
   have h3:=hpre (i+1)
   rw [vl P i hi,List.length_append,bD] at h3
   rw [hg]
   unfold fA
   rw [bL (by dsimp only; omega),aA,aA,vl P i hi]
   rfl)
  try dsimp only at e
  rw [show (cY.mk false ([]:List Int))=cY.mk (decide (0 < 0)) (oP (P.take 0)) from rfl,e,aA]
  try dsimp only
  rw [List.take_length]
  rfl
def vm (l:List (Int×ByteArray)) (i:Nat) (d:ByteArray):List (Int×ByteArray):=if (mgl (i:Int) l).isSome then l else msl (i:Int) d l
def AtL (id:Int) (n:Nat) (s:cQ) (l:List (Int×ByteArray)):Prop:=(s.key < id/\l=[]) \/ ∃ b,s=⟨id,(n:Int),some l,b⟩
theorem Pr {P:List ByteArray} {s:cQ} {l:List (Int×ByteArray)} {id:Int} {i:Nat} (d:ByteArray) (h:AtL id P.length s l) (hid:1<=id) (hn:P.length<=4096) (hi:i < P.length) :
  ∃ b,jf s id (i:Int) (P.length:Int) d=some (0,⟨id,(P.length:Int),some (vm l i d),b⟩):=by
 unfold jf
 rw [decide_eq_false (by omega),cond_false,decide_eq_false (by omega),cond_false,decide_eq_false (by omega),cond_false,decide_eq_false (by omega),cond_false,decide_eq_false (by omega),aA,cond_false]
 rcases h with ⟨h1,rfl⟩ | ⟨b,rfl⟩
 ·rw [decide_eq_false (by omega),cond_false,decide_eq_true (by omega),cond_true,aA]
  dsimp only
  exact ⟨_,rfl⟩
 ·dsimp only
  rw [decide_eq_false (by omega),cond_false,cond_false,MR,cond_false,aA]
  dsimp only
  unfold vm
  show ∃ b',Option.bind (bif !(mgl (i:Int) l).isSome then _ else _) _=_
  cases hm:(mgl (i:Int) l).isSome with
  | true=>exact ⟨b,rfl⟩
  | false=>exact ⟨_,rfl⟩
theorem SL.vm {P:List ByteArray} {l:List (Int×ByteArray)} (h:SL P l) {i:Nat} (hi:i < P.length) :
  SL P (vm l i P[i])/\(mgl (i:Int) (X.vm l i P[i])).isSome=true/\(∀ j,(mgl j l).isSome=true->(mgl j (X.vm l i P[i])).isSome=true):=by
 unfold X.vm
 cases hm:(mgl (i:Int) l).isSome with
 | true=>exact ⟨h,hm,λ_ h=>h⟩
 | false =>
  have hn:mgl (i:Int) l=none:=by
   cases hg:mgl (i:Int) l with
   | none=>rfl
   | some x=>rw [hg] at hm; cases hm
  obtain ⟨h1,h2⟩:=h.add (List.getElem?_eq_getElem hi) hn
  refine ⟨h1,?_,λj hj=> ?_⟩
  ·have:mgl (i:Int) (msl (i:Int) P[i] l)=some P[i]:=rZ h1.nd (by rw [h2]; exact List.mem_append_right _ (List.mem_singleton.2 rfl))
   rw [if_neg (by simp),this]
   rfl
  ·rw [Option.isSome_iff_exists] at hj
   obtain ⟨d,hd⟩:=hj
   have:mgl j (msl (i:Int) P[i] l)=some d:=rZ h1.nd (by rw [h2]; exact List.mem_append_left _ (yC hd))
   rw [if_neg (by simp),this]
   rfl
theorem KH (d:ByteArray) (n:Nat) (h:1<=n):oP (rW d n)=sbs d:=by
 have hl:=wv d n
 have key: ∀ i,i<=n8 d.size n->oP ((rW d n).take i)=sbs (iU d 0 ((min d.size (i*n):Nat):Int)):=by
  intro i
  induction i with
  | zero =>
   intro _
   rw [List.take_zero,Nat.zero_mul,Nat.min_zero,show (0:Int)=((0:Nat):Int) from rfl,gW]
   rfl
  | succ i ih =>
   intro hi
   have hil:i < (rW d n).length:=by omega
   have hg:(rW d n)[i]=uO d n i:=by simp [rW]
   rw [vl _ i hil,ih (by omega),hg,<- pJ,HP d n i (Pj h (by omega))]
 have hc:=B3 d.size n
 have hge:d.size<=n8 d.size n*n:=by
  have h2: ¬ (n8 d.size n - 1)*n+n < d.size:=λe=>by have:=(zO (z:=d.size) (i:=n8 d.size n - 1) h).2 e; omega
  have h3:(n8 d.size n - 1)*n+n=n8 d.size n*n:=by
   have:n8 d.size n=(n8 d.size n - 1)+1:=by omega
   rw [this,Nat.add_sub_cancel,Nat.add_mul,Nat.one_mul]
  omega
 have e:=key (n8 d.size n) (Nat.le_refl _)
 rw [<- hl,List.take_length,hl,Nat.min_eq_left hge,AX] at e
 exact e
structure Msg (P:List ByteArray) (f x:aH):Prop where
 jo:hU (oP P)=lf f x
 jl:(oP P).length<=1000000
 np:P.length<=4096
 gf:SG f
 gx:SG x
 nx:jY x=false
theorem KI {t:bA} {P:List ByteArray} {l:List (Int×ByteArray)} {id key base:Int} {i:Nat} (d:ByteArray) (hk:t.bR.k < key) (hb:base=0\/base=t.bR.k) (hA:AtL id P.length t.slot l) (hid:1<=id) (hn:P.length<=4096) (hi:i < P.length) :
  ∃ b,dH t ⟨1,1,[id,key,base,(i:Int),(P.length:Int)],d⟩=some (0,⟨⟨id,(P.length:Int),some (vm l i d),b⟩,t.bR⟩):=by
 obtain ⟨b,e⟩:=Pr d hA hid hn hi
 refine ⟨b,?_⟩
 unfold dH
 have x0:idx [id,key,base,(i:Int),(P.length:Int)] 0=some id:=rfl
 have x1:idx [id,key,base,(i:Int),(P.length:Int)] 1=some key:=rfl
 have x2:idx [id,key,base,(i:Int),(P.length:Int)] 2=some base:=rfl
 have x3:idx [id,key,base,(i:Int),(P.length:Int)] 3=some (i:Int):=rfl
 have x4:idx [id,key,base,(i:Int),(P.length:Int)] 4=some (P.length:Int):=rfl
 dsimp only
 rw [show ((1:Int) != 1)=false from rfl,cond_false,show (([id,key,base,(i:Int),(P.length:Int)].length:Int) != 5)=false from rfl,cond_false,x1,aA,decide_eq_false (by omega),cond_false,x2]
 simp only [aA]
 have hq:((bif base != 0 then some (base != t.bR.k) else some false):Option Bool)=some false:=by
  rcases hb with h | h
  ·rw [h]; rfl
  ·rw [h,MR]; cases t.bR.k != 0 <;> rfl
 rw [hq,aA,cond_false,x0,aA,x3,aA,x4,aA,e,aA]
theorem Bb {t:bA} {f x:aH} {P:List ByteArray} {l:List (Int×ByteArray)} {id base:Int} {i:Nat} (hM:Msg P f x) (hk:t.bR.k < x.k) (hb:base=0/\f=iR\/base≠0/\base=t.bR.k/\f=t.bR) (hA:AtL id P.length t.slot l) (hl:SL P l) (hid:1<=id) (hi:i < P.length) :
  ∃ t',cT t ⟨1,1,[id,x.k,base,(i:Int),(P.length:Int)],P[i]⟩=some (0,t')/\((t'.slot=⟨0,0,none,0⟩/\t'.bR=x /\ ¬ (vm l i P[i]).length < P.length) \/ ∃ l' b,t'=⟨⟨id,(P.length:Int),some l',b⟩,t.bR⟩/\SL P l'/\l'.length < P.length/\l'=vm l i P[i]):=by
 obtain ⟨b,e⟩:=KI P[i] hk (hb.imp (λh=>h.1) λh=>h.2.1) hA hid hM.np hi
 obtain ⟨s1,s2,s3⟩:=hl.vm hi
 have hw:=Fj (b:=b) hid s1 hM.np hM.jl
 unfold cT
 rw [e,aA]
 dsimp only
 rw [show ((0:Int) != 0)=false from rfl,cond_false,hw,aA]
 by_cases c:(vm l i P[i]).length < P.length
 ·rw [if_pos c]
  dsimp only
  rw [Bool.not_false,cond_true]
  exact ⟨_,rfl,.inr ⟨_,b,rfl,s1,c,rfl⟩⟩
 ·rw [if_neg c]
  dsimp only
  have x1:idx [id,x.k,base,(i:Int),(P.length:Int)] 1=some x.k:=rfl
  have x2:idx [id,x.k,base,(i:Int),(P.length:Int)] 2=some base:=rfl
  have hf:((bif base != 0 then some t.bR else some (aH.mk 0 0 0 0 0 (ByteArray.mk #[]) ([]:List aE) 0 0 ([]:List aJ))):Option aH)=some f:=by
   rcases hb with ⟨h1,h2⟩ | ⟨h1,h2,h3⟩
   ·rw [h1,h2]; rfl
   ·rw [show (base != 0)=true by simpa using h1,cond_true,h3]
  rw [Bool.not_true,cond_false,show ∀ s,lg s=some ⟨0,0,none,0⟩ from λs=>rfl,aA,x2,aA,hf,aA,hM.jo,Kw hM.gf hM.gx hM.nx hM.gf,DL hM.gf hM.gx hM.nx,aA]
  dsimp only
  rw [show ((0:Int) == 0)=true from rfl,cond_true,x1,aA,MR,aA,cond_false,aA,show ((0:Int) == 0)=true from rfl,cond_true,aA]
  exact ⟨_,rfl,.inl ⟨rfl,rfl,c⟩⟩
theorem KJ {t:bA} {id key base i n:Int} (d:ByteArray) (hk:key<=t.bR.k):cT t ⟨1,1,[id,key,base,i,n],d⟩=some (8,t):=by
 have e:dH t ⟨1,1,[id,key,base,i,n],d⟩=some (8,t):=by
  unfold dH
  dsimp only
  rw [show ((1:Int) != 1)=false from rfl,cond_false,show (([id,key,base,i,n].length:Int) != 5)=false from rfl,cond_false,show idx [id,key,base,i,n] 1=some key from rfl,aA,decide_eq_true hk,cond_true]
 unfold cT
 rw [e,aA]
 rfl
theorem GH (k:Nat) {v:Int} (h1:v < 128 ^ (k+1)):(dG v).length<=k+1:=by
 refine vO k _ ?_
 unfold clN
 have h2:((max 0 (min v 4611686018427387904)).toNat:Int) < ((128 ^ (k+1):Nat):Int):=by
  have h3:(0:Int) < 128 ^ (k+1):=Int.pow_pos (by decide)
  rw [Int.natCast_pow]
  show ((max 0 (min v 4611686018427387904)).toNat:Int) < (128:Int) ^ (k+1)
  omega
 exact Int.ofNat_lt.1 h2
theorem Ps {g:aJ} (h:gOk g):(qR g).length<=5:=by
 obtain ⟨⟨_,a⟩,_,b⟩:=h
 have h1:=GH 2 (v:=g.rune) (by omega)
 have h2:=GH 1 (v:=g.aM) (by omega)
 show ([g.rune,g.aM].flatMap dG).length<=5
 simp only [List.flatMap_cons,List.flatMap_nil,List.append_nil,List.length_append]
 omega
theorem GJ: ∀ (l:List aJ),gls l->(l.flatMap qR).length<=5*l.length
 | [],_=>Nat.le_refl _
 | g::l,h=>by
  have h1:=Ps (h g List.mem_cons_self)
  have h2:=GJ l λq hq=>h q (List.mem_cons_of_mem _ hq)
  rw [List.flatMap_cons,List.length_append,List.length_cons]
  omega
structure SQ (s:aH):Prop where
 g:SG s
 ne:jY s=false
 bg:gls s.begun
 bl:s.begun.length < 1024
 tl:s.title.size<=200
 rl:s.rows.length<=6
 rw_: ∀ r∈s.rows,r.cells.length<=10
theorem SQ.pk {s:aH} (h:SQ s):(s.rows.flatMap gZ).length<=2214:=by
 have h1:=xd 10 s.rows h.rw_
 have:=h.rl
 have:s.rows.length*(9+36*10)<=6*369:=Nat.mul_le_mul this (by decide)
 omega
theorem SQ.ct {s:aH} (h:SQ s):CT1 s:=⟨h.g.sw,by have:=h.pk; omega⟩
theorem zX (l:List Int):(hU l).size=l.length:=me l
theorem zY {a x:aH} (hx:SQ x):(lf a x).size<=8000:=by
 unfold lf
 split
 ·show noS.size<=8000; decide
 ·rw [zX]
  unfold rU tu lL
  have h1:=qX [((tq (mP a):Nat):Int),x.k,x.w,x.h,x.x,x.y]
  have h2:=qX [x.len,x.chain]
  have h3:=dT (x.title.size:Int)
  have h4:=dT ((chg a.rows x.rows).length:Int)
  have h5:=dT (x.begun.length:Int)
  have h6:=GJ x.begun hx.bg
  have h7:=BZ a.rows x.rows x.rows.length (Nat.le_refl _)
  have h8:=hx.pk
  have h9:=hx.rl
  have h10:=hx.bl
  have h11:=hx.tl
  rw [List.take_length] at h7
  simp only [List.length_append,bD]
  simp only [List.length_cons,List.length_nil] at h1 h2
  show _<=8000
  have h12:(pch x.rows (chg a.rows x.rows)).length<=9*x.rows.length+(x.rows.flatMap gZ).length:=h7
  omega
theorem HQ {a x:aH} (hx:SQ x) {p:Nat} (hp:4<=p):(rW (lf a x) p).length<=2001:=by
 rw [wv]
 unfold n8
 have h:=zY (a:=a) hx
 have:((lf a x).size+p - 1) / p<=2001:=by
  refine Nat.div_le_of_le_mul ?_
  have:4*2001<=p*2001:=Nat.mul_le_mul_right _ hp
  have e:p*2001=p*2000+p:=by omega
  have:4*2000<=p*2000:=Nat.mul_le_mul_right _ hp
  omega
 omega
theorem KK {a x:aH} (ga:SG a) (hx:SQ x) {p:Nat} (hp:4<=p):Msg (rW (lf a x) p) a x:=by
 have hj:=KH (lf a x) p (by omega)
 have hs:=zY (a:=a) hx
 exact ⟨by rw [hj,vS],by rw [hj,bD]; omega,by have:=HQ (a:=a) hx hp; omega,ga,hx.g,hx.ne⟩
def grm (id key base:Int) (P:List ByteArray) (i:Nat):dN:=⟨1,1,[id,key,base,(i:Int),(P.length:Int)],(P[i]?).getD noS⟩
theorem KL {id key base:Int} {P:List ByteArray} {i:Nat} (h:i < P.length):grm id key base P i=⟨1,1,[id,key,base,(i:Int),(P.length:Int)],P[i]⟩:=by
 unfold grm
 rw [List.getElem?_eq_getElem h]
 rfl
theorem HR {m:bC} (h:m.there=List.replicate m.parts.length false):rX m=(List.range m.parts.length).map (grm m.id m.key m.base m.parts):=by
 unfold rX
 rw [KG h,List.map_map]
 rfl
inductive In_ (P:List ByteArray) (id:Int) (a x:aH) (t:bA) (i:Nat):Prop where
 | done (h1:t.slot=⟨0,0,none,0⟩) (h2:t.bR=x) (h3:P.length<=i)
 | part (l:List (Int×ByteArray)) (h1:AtL id P.length t.slot l) (h2:SL P l) (h3:l.length=i) (h4:t.bR=a) (h5: ∀ j:Nat,i<=j->mgl (j:Int) l=none) (h6:i < P.length)
theorem uP {α:Type} {k j:Int} {x:α} (hne:k≠j): ∀ {l:List (Int×α)},mgl k l=none->mgl k (l++[(j,x)])=none
 | [],_=>by
  show (if k=j then _ else _)=_
  rw [if_neg hne]
  rfl
 | (q,y)::l,h=>by
  unfold mgl at h
  rw [List.cons_append]
  unfold mgl
  split at h
  ·cases h
  ·rename_i hq
   rw [if_neg hq]
   exact uP hne h
theorem M6 {P:List ByteArray} {id base:Int} {a f x:aH} {t:bA} {i:Nat} (hM:Msg P f x) (hk:a.k < x.k) (hb:base=0/\f=iR\/base≠0/\base=a.k/\f=a) (hid:1<=id) (h:In_ P id a x t i) (hi:i < P.length) :
  ∃ t',cT t (grm id x.k base P i)=some (0,t')/\In_ P id a x t' (i+1):=by
 rw [KL hi]
 cases h with
 | done h1 h2 h3=>omega
 | part l h1 h2 h3 h4 h5 h6 =>
  obtain ⟨t',e1,e2⟩:=Bb (t:=t) (i:=i) hM (by rw [h4]; exact hk) (by rw [h4]; exact hb) h1 h2 hid hi
  have hn:=h5 i (Nat.le_refl _)
  have ha:vm l i P[i]=l++[((i:Int),P[i])]:=by
   unfold vm
   rw [hn,if_neg (by simp)]
   exact (h2.add (List.getElem?_eq_getElem hi) hn).2
  have hlen:(vm l i P[i]).length=i+1:=by rw [ha]; simp [h3]
  refine ⟨t',e1,?_⟩
  rcases e2 with ⟨e2,e3,e4⟩ | ⟨l',b,rfl,e3,e4,rfl⟩
  ·exact .done e2 e3 (by omega)
  ·refine .part _ (.inr ⟨b,rfl⟩) e3 hlen h4 (λj hj=> ?_) (by omega)
   rw [ha]
   exact uP (by omega) (h5 j (by omega))
theorem Pt {P:List ByteArray} {id:Int} {a x:aH} {t:bA} (h:In_ P id a x t P.length):t.slot=⟨0,0,none,0⟩/\t.bR=x:=by
 cases h with
 | done h1 h2 h3=>exact ⟨h1,h2⟩
 | part l h1 h2 h3 h4 h5 h6=>omega
theorem DQ {t:bA} (h:t.slot=⟨0,0,none,0⟩):eZ t=some ⟨1,2,[t.bR.k,0],hU []⟩:=by
 unfold eZ
 rw [h,show kq ⟨0,0,none,0⟩=some 0 from rfl,aA]
 have e1:IntKind.i64.wrap ((IntKind.i64.wrap ((IntKind.i64.wrap ((0:Int)+8)) - 1)).tdiv 8)=0:=by decide
 have e2:iM ⟨0,0,none,0⟩=some []:=by
  unfold iM kr
  have:=xv (s:=⟨0,0,none,0⟩) (n:=0) rfl (by decide) (λs32 x3=>(bif (x3.2 == true) then (Option.bind (chk (eI s32.length [x3.1].length 8)) λ_=>some ((s32++[x3.1]),true)) else some (s32,true))) (λ_=>([]:List Int)) (λi hi=>absurd hi (Nat.not_lt_zero i))
  rw [this]
  rfl
 rw [e1,show chk (Ee 0 1)=some () from kj (by decide),aA,e2,aA]
 refine fM (λ_=>((0:Int),([]:List Int))) 0 [] rfl (λi hi=>absurd hi (Nat.not_lt_zero i)) rfl ?_
 rfl
theorem Fk {c:cE} {x:aH} (hx:SQ x) (hk:1<=x.k) {now:Int} :
  fC (nuS c) x=some (true,setCur (nuS c) x)/\fP (setCur (nuS c) x) now=some (qj (setCur (nuS c) x) now) /\
   (qj (setCur (nuS c) x) now).1=(List.range (rW (lf iR x) (ptN (nuS c).config.part)).length).map (grm 1 x.k 0 (rW (lf iR x) (ptN (nuS c).config.part))):=by
 have hn:=DP (nuS c) x hx.g.sw
 have hc: ¬ (nZ x=false\/x.k<=(nuS c).current.k):=by
  rw [hx.g.may]
  rintro (h | h)
  ·cases h
  ·have:(nuS c).current.k=0:=rfl
   omega
 have e:oO (nuS c) x=(true,setCur (nuS c) x):=by
  unfold oO
  rw [if_neg hc]
 rw [e] at hn
 have hs:SNI (setCur (nuS c) x):=by
  have:=GG (KF c) hx.ct
  rw [e] at this
  exact this
 refine ⟨hn,Ba _ now hs,?_⟩
 rw [Fg now (by show x.k≠0; omega) rfl]
 rw [HR rfl]
 rfl
theorem Pu (e:cK):okO (nA e) (λr=>r.text.size<=60/\(r.w<=10\/1000 < r.w)/\(r.h<=6\/1000 < r.h)):=by
 unfold nA
 refine dW (Mr e.text (n:=60) (by decide)) λr hr=> ?_
 have hr':r.size<=60:=by omega
 by_cases h1:e.w > 10
 ·rw [decide_eq_true h1,cond_true]
  refine dW (P:=λb=>b=decide (e.w<=1000)) (cC rfl) λb hb=> ?_
  subst hb
  by_cases h2:e.w<=1000
  ·rw [decide_eq_true h2,cond_true]
   refine dW (P:=λq=>q=cK.mk e.kind r 10 e.h) (cC rfl) λq hq=> ?_
   subst hq
   dsimp only
   by_cases h3:e.h > 6
   ·rw [decide_eq_true h3,cond_true]
    refine dW (P:=λb=>b=decide (e.h<=1000)) (cC rfl) λb hb=> ?_
    subst hb
    by_cases h4:e.h<=1000
    ·rw [decide_eq_true h4,cond_true]
     exact dW (P:=λq=>q=cK.mk e.kind r 10 6) (cC rfl) λq hq=>by subst hq; exact cC ⟨hr',.inl (Int.le_refl _),.inl (Int.le_refl _)⟩
    ·rw [decide_eq_false h4,cond_false]
     exact dW (P:=λq=>q=cK.mk e.kind r 10 e.h) (cC rfl) λq hq=>by subst hq; exact cC ⟨hr',.inl (Int.le_refl _),.inr (by dsimp only; omega)⟩
   ·rw [decide_eq_false h3,cond_false]
    refine dW (P:=λb=>b=false) (cC rfl) λb hb=> ?_
    subst hb
    rw [cond_false]
    exact dW (P:=λq=>q=cK.mk e.kind r 10 e.h) (cC rfl) λq hq=>by subst hq; exact cC ⟨hr',.inl (Int.le_refl _),.inl (by dsimp only; omega)⟩
  ·rw [decide_eq_false h2,cond_false]
   refine dW (P:=λq=>q=cK.mk e.kind r e.w e.h) (cC rfl) λq hq=> ?_
   subst hq
   dsimp only
   by_cases h3:e.h > 6
   ·rw [decide_eq_true h3,cond_true]
    refine dW (P:=λb=>b=decide (e.h<=1000)) (cC rfl) λb hb=> ?_
    subst hb
    by_cases h4:e.h<=1000
    ·rw [decide_eq_true h4,cond_true]
     exact dW (P:=λq=>q=cK.mk e.kind r e.w 6) (cC rfl) λq hq=>by subst hq; exact cC ⟨hr',.inr (by dsimp only; omega),.inl (Int.le_refl _)⟩
    ·rw [decide_eq_false h4,cond_false]
     exact dW (P:=λq=>q=cK.mk e.kind r e.w e.h) (cC rfl) λq hq=>by subst hq; exact cC ⟨hr',.inr (by dsimp only; omega),.inr (by dsimp only; omega)⟩
   ·rw [decide_eq_false h3,cond_false]
    refine dW (P:=λb=>b=false) (cC rfl) λb hb=> ?_
    subst hb
    rw [cond_false]
    exact dW (P:=λq=>q=cK.mk e.kind r e.w e.h) (cC rfl) λq hq=>by subst hq; exact cC ⟨hr',.inr (by dsimp only; omega),.inl (by dsimp only; omega)⟩
 ·rw [decide_eq_false h1,cond_false]
  refine dW (P:=λb=>b=false) (cC rfl) λb hb=> ?_
  subst hb
  rw [cond_false]
  refine dW (P:=λq=>q=cK.mk e.kind r e.w e.h) (cC rfl) λq hq=> ?_
  subst hq
  dsimp only
  by_cases h3:e.h > 6
  ·rw [decide_eq_true h3,cond_true]
   refine dW (P:=λb=>b=decide (e.h<=1000)) (cC rfl) λb hb=> ?_
   subst hb
   by_cases h4:e.h<=1000
   ·rw [decide_eq_true h4,cond_true]
    exact dW (P:=λq=>q=cK.mk e.kind r e.w 6) (cC rfl) λq hq=>by subst hq; exact cC ⟨hr',.inl (by dsimp only; omega),.inl (Int.le_refl _)⟩
   ·rw [decide_eq_false h4,cond_false]
    exact dW (P:=λq=>q=cK.mk e.kind r e.w e.h) (cC rfl) λq hq=>by subst hq; exact cC ⟨hr',.inl (by dsimp only; omega),.inr (by dsimp only; omega)⟩
  ·rw [decide_eq_false h3,cond_false]
   refine dW (P:=λb=>b=false) (cC rfl) λb hb=> ?_
   subst hb
   rw [cond_false]
   exact dW (P:=λq=>q=cK.mk e.kind r e.w e.h) (cC rfl) λq hq=>by subst hq; exact cC ⟨hr',.inl (by dsimp only; omega),.inl (by dsimp only; omega)⟩
structure MQ (N:Nat) (m:bB) (z:Zt):Prop where
 ex: ∃ W x,W<=10/\MX W (484000*N) N z m x
 g:MG m z
 h:m.aV.g.l.length<=6
theorem KM {w h:Int} (hw:w<=10) (hh:h<=6):MQ 0 (Ka w h) ([],[]):=by
 refine ⟨⟨szN w,_,by unfold szN; omega,O8 w h⟩,Pa w h,?_⟩
 show (List.replicate (szN h) (jE (szN w) 0)).length<=6
 rw [List.length_replicate]
 unfold szN
 omega
theorem QH {N:Nat} {m:bB} {z:Zt} (h:MQ N m z) (hN:N<=90) {e:cK} (ht:e.text.size<=60) (hw:e.w<=10\/1000 < e.w) (hh:e.h<=6\/1000 < e.h) :
  ∃ f m' z',eV m ⟨e.kind,e.text,e.w,e.h⟩=some (f,m')/\MQ (N+1) m' z'/\m.k<=m'.k/\(f=0->m'.k=m.k+1)/\(f≠0->m'=m/\z'=z):=by
 obtain ⟨W,x,hW,hx⟩:=h.ex
 by_cases hc:zJ e.kind e.text.size e.w e.h=0
 ·by_cases hk0:e.kind=0
  ·obtain ⟨ek,et,ew,eh⟩:=e
   dsimp only at hk0 ht hc hw hh ⊢
   subst hk0
   have e1:=Fa hx (by omega) (by omega) (t:=et) (by omega) ew eh
   have h1:=J9 hx (t:=et) (by omega)
   have hl1:=hx.si.gi.l1
   have hl2:=hx.si.gi.l2
   refine ⟨0,_,_,e1,⟨⟨W,_,hW,h1.mono (by omega) (Nat.le_refl _)⟩,Kg hx h.g et _ _,?_⟩,by dsimp only; omega,λ_=>rfl,λe=>absurd rfl e⟩
   have:=(Dx (W:=W) (prun m.parser (sbs et)).out (y:=(m.aV,z)) ⟨rfl,hl1,hl2⟩).e
   dsimp only at this ⊢
   rw [this]
   exact h.h
  ·by_cases hk1:e.kind=1
   ·obtain ⟨ek,et,ew,eh⟩:=e
    dsimp only at hk1 ht hc hw hh ⊢
    subst hk1
    have hb:1<=ew/\ew<=1000/\1<=eh/\eh<=1000:=by
     unfold zJ at hc
     rw [if_neg (by decide),if_pos rfl] at hc
     split at hc
     ·exact absurd hc (by decide)
     ·omega
    refine ⟨0,_,_,Kb hx (by omega) hN hc,⟨⟨szN ew,_,by unfold szN; omega,(MI hx ew eh).mono (by omega) (Nat.le_refl _)⟩,MK h.g ew eh _ _,?_⟩,by dsimp only; omega,λ_=>rfl,λe=>absurd rfl e⟩
    show (rzL (szN ew) m.aV.g.l _ (szN eh)).length<=6
    rw [pI]
    unfold szN
    omega
   ·exfalso
    unfold zJ at hc
    rw [if_neg hk0,if_neg hk1] at hc
    exact absurd hc (by decide)
 ·exact ⟨_,m,z,MH m ⟨e.kind,e.text,e.w,e.h⟩ hc,⟨⟨W,x,hW,hx.mono (by omega) (by omega)⟩,h.g,h.h⟩,Int.le_refl _,λe=>absurd e hc,λ_=>⟨rfl,rfl⟩⟩
theorem GK {N:Nat} {m:bB} {z:Zt} (h:MQ N m z) (hN:N<=90):eM m=some (sOf m z,m)/\SQ (sOf m z)/\1<=(sOf m z).k/\(sOf m z).k=m.k+1/\m.k<=N:=by
 obtain ⟨W,x,hW,hx⟩:=h.ex
 have hk0:=hx.k0
 have hkN:=hx.kN
 have hrw: ∀ r∈(sOf m z).rows,r.cells.length<=10:=λr hr=>by
  have:=(hx.si.gi.rs r hr).1
  omega
 have hpk:((sOf m z).rows.flatMap gZ).length<=12000:=by
  have h1:=xd 10 (sOf m z).rows hrw
  have h2:(sOf m z).rows.length<=6:=h.h
  have:(sOf m z).rows.length*(9+36*10)<=6*369:=Nat.mul_le_mul h2 (by decide)
  omega
 refine ⟨Kh hx (by omega) (by omega),⟨⟨Pb hx h.g,hpk,MN hx h.g (by omega) (by omega)⟩,?_,h.g.zg.b,hx.zi.b,h.g.sc.t,h.h,hrw⟩,?_,rfl,hkN⟩
 ·unfold jY
  rw [show (sOf m z).k=m.k+1 from rfl,eH (by omega)]
  rfl
 ·show 1<=m.k+1
  omega
theorem M7 (d:ByteArray) (p:Nat):0 < (rW d p).length:=by rw [wv]; exact B3 _ _
def Pv:bA:=⟨⟨0,0,none,0⟩,iR⟩
theorem GL:oI=some Pv:=rfl
theorem Pw (P:List ByteArray) (x:aH) (h:0 < P.length):In_ P 1 iR x Pv 0:= .part [] (.inl ⟨by decide,rfl⟩) (Fi P) rfl rfl (λ_ _=>rfl) h
theorem DR {t:bA} (h:SW t.bR):jg t=some t.bR:=by
 unfold jg
 rw [xc _ h,aA]
theorem HS {α:Type} (f:Nat->α) (n i:Nat) (h:i < n):idx ((List.range n).map f) (i:Int)=some (f i):=by
 rw [cU _ i (by simpa using h)]
 simp
theorem Fl:mY=some true:=by
 unfold mY
 obtain ⟨e1,hx,hk,hk2,_⟩:=GK (KM (w:=3) (h:=2) (by decide) (by decide)) (by decide)
 generalize hX:sOf (Ka 3 2) ([],[])=x at e1 hx hk hk2
 have hx1:x.k=1:=by rw [hk2]; rfl
 obtain ⟨s1,s2,s3⟩:=Fk (c:=⟨5,1,2⟩) hx hk (now:=0)
 have hp:ptN (nuS ⟨5,1,2⟩).config.part=5:=by decide
 rw [hp] at s3
 have hM:=KK B2 hx (p:=5) (by decide)
 have hpos:=M7 (lf iR x) 5
 generalize rW (lf iR x) 5=P at s3 hM hpos
 rw [zV,aA,GL,aA,Gt,aA,e1,aA]
 dsimp only
 rw [s1,aA]
 dsimp only
 rw [s2,aA,s3]
 have hkz:iR.k < x.k:=by show (0:Int) < x.k; omega
 refine pF (λs:bA×Int=> ∃ i:Nat,s.2=i/\i<=P.length/\In_ P 1 iR x s.1 i) (λs=>P.length - s.2.toNat) (λr=> ∃ t,r = .inl t/\t.slot=⟨0,0,none,0⟩/\t.bR=x) ⟨0,rfl,Nat.zero_le _,Pw P x hpos⟩ ?_ ?_
 ·rintro ⟨t,j⟩ ⟨i,h1,h2,h3⟩
  dsimp only at h1 h2 h3 ⊢
  subst h1
  rw [List.length_map,List.length_range]
  by_cases c:i < P.length
  ·left
   obtain ⟨t',e,h4⟩:=M6 hM hkz (.inl ⟨rfl,rfl⟩) (Int.le_refl 1) h3 c
   rw [decide_eq_true (by omega),cond_true,HS _ _ _ c,aA,e,aA]
   dsimp only
   rw [show ((0:Int) != 0)=false from rfl,cond_false,w64 (by omega) (by have:=hM.np; omega)]
   exact ⟨_,rfl,⟨i+1,by dsimp only; omega,by omega,h4⟩,by dsimp only; omega⟩
  ·right
   rw [decide_eq_false (by omega),cond_false]
   have hi:i=P.length:=by omega
   subst hi
   obtain ⟨h4,h5⟩:=Pt h3
   exact ⟨_,rfl,t,rfl,h4,h5⟩
 ·rintro r ⟨t,rfl,h4,h5⟩
  dsimp only
  rw [show iQ t=some t.bR.k from rfl,aA,h5,hx1,show ((1:Int) == 1)=true from rfl,cond_true,DR (by rw [h5]; exact hx.g.sw),aA,e1,aA]
  dsimp only
  rw [h5,GC hx.g,aA,decide_eq_true rfl,cond_true,DQ h4,aA,h5,hx1]
  rfl
theorem or8 {a b:Nat} (ha:a < 256) (hb:b < 256):Go.bits .or .u8 (a:Int) (b:Int)=((a ||| b:Nat):Int):=by
 show IntKind.u8.wrap ((BitVec.ofInt 8 (a:Int) ||| BitVec.ofInt 8 (b:Int)).toNat:Int)=_
 rw [BitVec.ofInt_natCast,BitVec.ofInt_natCast,BitVec.toNat_or,BitVec.toNat_ofNat,BitVec.toNat_ofNat,Nat.mod_eq_of_lt ha,Nat.mod_eq_of_lt hb]
 have:=Nat.or_lt_two_pow (n:=8) ha hb
 exact PX (by omega) (by omega)
theorem GM (b j:Nat):(((b:Int) / 2 ^ j) % 2=1)↔b.testBit j=true:=by
 rw [Nat.testBit_eq_decide_div_mod_eq,decide_eq_true_eq]
 have:((b:Int) / 2 ^ j) % 2=((b / 2 ^ j % 2:Nat):Int):=by
  rw [Int.natCast_emod,Int.natCast_ediv,Int.natCast_pow]
  rfl
 rw [this]
 omega
def wx (B:List Int) (i:Nat):List Int:=B.set (i / 8) (Go.bits .or .u8 ((B[i / 8]?).getD 0) (IntKind.u8.wrap (1*2 ^ (min (i % 8) 8))))
theorem M8 (k:Nat) (h:k < 8):IntKind.u8.wrap (1*2 ^ (min k 8))=((2 ^ k:Nat):Int):=by
 have:k=0\/k=1\/k=2\/k=3\/k=4\/k=5\/k=6\/k=7:=by omega
 rcases this with rfl | rfl | rfl | rfl | rfl | rfl | rfl | rfl <;> decide
theorem M9 (k:Nat) (h:k < 8):2 ^ k < 256:=by
 have:k=0\/k=1\/k=2\/k=3\/k=4\/k=5\/k=6\/k=7:=by omega
 rcases this with rfl | rfl | rfl | rfl | rfl | rfl | rfl | rfl <;> decide
def B6 (B:List Int) (i:Nat):Bool:=match B[i / 8]? with
 | some b=>decide ((b / 2 ^ (i % 8)) % 2=1)
 | none=>false
theorem Na {B:List Int} (h:BB B) {i:Nat} (hi:i / 8 < B.length):BB (wx B i)/\(wx B i).length=B.length /\ ∀ j,B6 (wx B i) j=(decide (j=i) || B6 B j):=by
 have hb:=h _ (List.getElem_mem hi)
 obtain ⟨b,hbn⟩:=Int.eq_ofNat_of_zero_le hb.1
 have hb2:b < 256:=by omega
 have hk:i % 8 < 8:=Nat.mod_lt _ (by decide)
 have hp:=M9 (i % 8) hk
 have hv:Go.bits .or .u8 ((B[i / 8]?).getD 0) (IntKind.u8.wrap (1*2 ^ (min (i % 8) 8)))=((b ||| 2 ^ (i % 8):Nat):Int):=by
  rw [List.getElem?_eq_getElem hi,Option.getD_some,hbn,M8 _ hk,or8 hb2 hp]
 have hlt:=Nat.or_lt_two_pow (n:=8) hb2 hp
 have hlen:(wx B i).length=B.length:=by unfold wx; rw [List.length_set]
 refine ⟨?_,hlen,λj=> ?_⟩
 ·unfold wx
  rw [hv]
  intro x hx
  rcases List.mem_or_eq_of_mem_set hx with hx | rfl
  ·exact h x hx
  ·omega
 ·unfold B6 wx
  rw [hv,List.getElem?_set]
  by_cases hq:i / 8=j / 8
  ·rw [if_pos hq,if_pos hi,<- hq,List.getElem?_eq_getElem hi,hbn]
   dsimp only
   have e1:decide ((((b ||| 2 ^ (i % 8):Nat):Int) / 2 ^ (j % 8)) % 2=1)=(b ||| 2 ^ (i % 8)).testBit (j % 8):=by
    rw [Bool.eq_iff_iff,decide_eq_true_eq]
    exact GM _ _
   have e2:decide (((b:Int) / 2 ^ (j % 8)) % 2=1)=b.testBit (j % 8):=by
    rw [Bool.eq_iff_iff,decide_eq_true_eq]
    exact GM _ _
   rw [e1,e2,Nat.testBit_or,Nat.testBit_two_pow]
   have e3:decide (i % 8=j % 8)=decide (j=i):=by
    rw [Bool.eq_iff_iff,decide_eq_true_eq,decide_eq_true_eq]
    omega
   rw [e3,Bool.or_comm]
  ·rw [if_neg hq,show decide (j=i)=false from decide_eq_false (λe=>hq (by rw [e])),Bool.false_or]
theorem zZ: ∀ (L:List Nat) {B:List Int},BB B->(∀ i∈L,i / 8 < B.length)->BB (L.foldl wx B)/\(L.foldl wx B).length=B.length /\ ∀ j,B6 (L.foldl wx B) j=(decide (j∈L) || B6 B j)
 | [],B,h,_=>⟨h,rfl,λj=>by simp⟩
 | i::L,B,h,hl=>by
  obtain ⟨h1,h2,h3⟩:=Na h (hl i List.mem_cons_self)
  obtain ⟨k1,k2,k3⟩:=zZ L h1 λq hq=>by rw [h2]; exact hl q (List.mem_cons_of_mem _ hq)
  refine ⟨k1,k2.trans h2,λj=> ?_⟩
  rw [List.foldl_cons,k3 j,h3 j]
  by_cases h4:j=i
  ·subst h4; simp
  ·simp [h4]
def l5 (l:List (Int×ByteArray)) (n:Nat):List Nat:=(List.range n).filter λi=>(mgl (i:Int) l).isSome
theorem Nb {l:List (Int×ByteArray)} {n:Nat} {id b:Int} (hn:n<=5000):iM ⟨id,(n:Int),some l,b⟩=some ((l5 l n).map λi:Nat=>(i:Int)):=by
 unfold iM kr
 have hlen: ∀ i,(l5 l i).length<=i:=λi=>by
  unfold l5
  have:=List.length_filter_le (λq:Nat=>(mgl (q:Int) l).isSome) (List.range i)
  rw [List.length_range] at this
  exact this
 have:=xv (s:=⟨id,(n:Int),some l,b⟩) (n:=n) rfl (by omega) (λs32 x3=>(bif (x3.2 == true) then (Option.bind (chk (eI s32.length [x3.1].length 8)) λ_=>some ((s32++[x3.1]),true)) else some (s32,true))) (λi=>(l5 l i).map λi:Nat=>(i:Int)) (λi hi=>by
  dsimp only
  have hs:l5 l (i+1)=l5 l i++(if (mgl (i:Int) l).isSome=true then [i] else []):=by
   unfold l5
   rw [List.range_succ,List.filter_append]
   congr 1
   rw [List.filter_cons]
   rfl
  have hh:rD (some l) (i:Int)=(mgl (i:Int) l).isSome:=rfl
  have:=hlen i
  rw [hh,hs]
  cases hm:(mgl (i:Int) l).isSome with
  | true =>
   rw [show (true == true)=true from rfl,cond_true,bL (by simp; omega),aA,if_pos rfl,List.map_append]
   rfl
  | false =>
   rw [show (false == true)=false from rfl,cond_false,if_neg (by simp),List.append_nil])
 rw [show ((l5 l 0).map λi:Nat=>(i:Int))=([]:List Int) from rfl] at this
 rw [this]
 rfl
def Fm (l:List (Int×ByteArray)) (n:Nat):List Int:=(l5 l n).foldl wx (List.replicate ((n+7) / 8) 0)
theorem Nc (l:List (Int×ByteArray)) (n:Nat):BB (Fm l n)/\(Fm l n).length=(n+7) / 8 /\ ∀ j,B6 (Fm l n) j=decide (j∈l5 l n):=by
 have h0:BB (List.replicate ((n+7) / 8) (0:Int)):=λx hx=>by rw [List.eq_of_mem_replicate hx]; exact ⟨by decide,by decide⟩
 obtain ⟨h1,h2,h3⟩:=zZ (l5 l n) h0 λi hi=>by
  have:=List.mem_range.1 (List.mem_filter.1 hi).1
  rw [List.length_replicate]
  omega
 refine ⟨h1,by rw [show (Fm l n).length=_ from h2,List.length_replicate],λj=> ?_⟩
 rw [show B6 (Fm l n) j=_ from h3 j]
 have:B6 (List.replicate ((n+7) / 8) (0:Int)) j=false:=by
  unfold B6
  rw [List.getElem?_replicate]
  split
  ·rename_i b hb
   split at hb
   ·injection hb with hb
    rw [<- hb]
    simp
   ·cases hb
  ·rfl
 rw [this,Bool.or_false]
theorem KN {t:bA} {l:List (Int×ByteArray)} {n:Nat} {id b:Int} (h:t.slot=⟨id,(n:Int),some l,b⟩) (hn:n<=5000):eZ t=some ⟨1,2,[t.bR.k,id],hU (Fm l n)⟩:=by
 unfold eZ
 have e1:IntKind.i64.wrap ((IntKind.i64.wrap ((IntKind.i64.wrap ((n:Int)+8)) - 1)).tdiv 8)=(((n+7) / 8:Nat):Int):=by
  rw [w64 (x:=(n:Int)+8) (by omega) (by omega),w64 (x:=(n:Int)+8 - 1) (by omega) (by omega)]
  have:((n:Int)+8 - 1).tdiv 8=(((n+7) / 8:Nat):Int):=by
   rw [show (n:Int)+8 - 1=((n+7:Nat):Int) by omega]
   rfl
  rw [this,w64 (by omega) (by omega)]
 rw [h,show kq ⟨id,(n:Int),some l,b⟩=some (n:Int) from rfl,aA,e1,show chk (Ee (((n+7) / 8:Nat):Int) 1)=some () from kj (by unfold big; omega),aA,Nb hn,aA,Int.toNat_natCast]
 have hlen: ∀ i,(((l5 l n).take i).foldl wx (List.replicate ((n+7) / 8) (0:Int))).length=(n+7) / 8:=λi=>by
  have h0:BB (List.replicate ((n+7) / 8) (0:Int)):=λx hx=>by rw [List.eq_of_mem_replicate hx]; exact ⟨by decide,by decide⟩
  have:=(zZ ((l5 l n).take i) h0 λi hi=>by
   have:=List.mem_range.1 (List.mem_filter.1 (List.mem_of_mem_take hi)).1
   rw [List.length_replicate]
   omega).2.1
  rw [this,List.length_replicate]
 refine fM (λi:Nat=>((i:Int),((l5 l n).take i).foldl wx (List.replicate ((n+7) / 8) (0:Int)))) (l5 l n).length (Fm l n) rfl ?_ ?_ ?_
 ·intro i hi
  dsimp only
  have hm:=List.mem_range.1 (List.mem_filter.1 (List.getElem_mem hi)).1
  have hl:=hlen i
  have hh:(l5 l n).length<=n:=by
   unfold l5
   have:=List.length_filter_le (λq:Nat=>(mgl (q:Int) l).isSome) (List.range n)
   rw [List.length_range] at this
   exact this
  have e2:(((l5 l n)[i]:Nat):Int).tdiv 8=(((l5 l n)[i] / 8:Nat):Int):=rfl
  have e3:(((l5 l n)[i]:Nat):Int).tmod 8=(((l5 l n)[i] % 8:Nat):Int):=rfl
  have hmod:(l5 l n)[i] % 8 < 8:=Nat.mod_lt _ (by decide)
  rw [List.length_map,decide_eq_true (by omega),cond_true,cU _ i (by rw [List.length_map]; exact hi),aA,List.getElem_map,e2,e3,w64 (x:=(((l5 l n)[i] / 8:Nat):Int)) (by omega) (by omega),cU _ ((l5 l n)[i] / 8) (by rw [hl]; omega),aA,show chk (shk (((l5 l n)[i] % 8:Nat):Int))=some () from kj (by omega),aA,aA,w64 (by omega) (by have:=hh; omega),List.take_succ_eq_append_getElem hi,List.foldl_append]
  simp only [List.foldl_cons,List.foldl_nil]
  rw [wx,List.getElem?_eq_getElem (by rw [hl]; omega),Option.getD_some,Int.toNat_natCast,Int.toNat_natCast]
  rfl
 ·dsimp only
  rw [List.length_map,decide_eq_false (by omega),cond_false,List.take_length]
  rfl
 ·rfl
theorem HT {q:Int} (h0:0<=q) (h1:q<=100):4<=ptN (nuS ⟨4+q,1,3⟩).config.part/\ptN (nuS ⟨4+q,1,3⟩).config.part<=104:=by
 show 4<=ptN (imax 1 (eO (4+q) 8000))/\ptN (imax 1 (eO (4+q) 8000))<=104
 rw [dP,gN]
 unfold ptN
 omega
theorem GN (x:Int) (m:Nat) (hm:m < 9223372036854775808):0<=Go.bits .and .i64 x (m:Int)/\Go.bits .and .i64 x (m:Int)<=(m:Int):=L6 x m hm
theorem QI (a b:Int) (d:ByteArray):gO ⟨1,2,[a,b],d⟩ 0=some a:=rfl
theorem num_1 (a b:Int) (d:ByteArray):gO ⟨1,2,[a,b],d⟩ 1=some b:=rfl
theorem Nf {m:bC} {p:Int×ByteArray} (h:p∈xY m): ∃ i:Nat,i < m.parts.length/\p=((i:Int),(m.parts[i]?).getD noS):=by
 unfold xY xX at h
 obtain ⟨i,hi,e⟩:=List.mem_filterMap.1 h
 refine ⟨i,List.mem_range.1 hi,?_⟩
 unfold GF at e
 split at e
 ·cases e
 ·exact (Option.some.inj e).symm
theorem KO:(hU []).size<=1000000:=by rw [zX]; show 0<=1000000; decide
structure Rec where
 id:Int
 a:aH
 x:aH
 P:List ByteArray
structure Tbl (had:List aH) (tb:List Rec):Prop where
 z:iR∈had
 hd: ∀ y∈had,y=iR\/SQ y/\1<=y.k
 uk: ∀ y∈had,∀ y'∈had,y.k=y'.k->y=y'
 ok: ∀ r∈tb,1<=r.id/\r.a∈had/\r.x∈had/\r.a.k < r.x.k/\Msg r.P r.a r.x
 ui: ∀ r∈tb,∀ r'∈tb,r.id=r'.id->r=r'
def GOf (tb:List Rec) (g:dN):Prop:= ∃ r∈tb,∃ i:Nat,i < r.P.length/\g=grm r.id r.x.k r.a.k r.P i
structure TT (had:List aH) (tb:List Rec) (t:bA):Prop where
 h:t.bR∈had
 s:t.slot=⟨0,0,none,0⟩ \/ ∃ r∈tb,∃ l b,t.slot=⟨r.id,(r.P.length:Int),some l,b⟩/\SL r.P l/\l.length < r.P.length
theorem Ng {s:cQ} {id i n:Int} (d:ByteArray) (h1:1<=n) (h2:n<=4096) (h3:0<=i) (h4:i < n) (h5:1<=id) (h6:id < s.key):jf s id i n d=some (8,s):=by
 unfold jf
 rw [decide_eq_false (by omega),cond_false,decide_eq_false (by omega),cond_false,decide_eq_false (by omega),cond_false,decide_eq_false (by omega),cond_false,decide_eq_false (by omega),aA,cond_false,decide_eq_true h6,cond_true]
 rfl
theorem KP {had:List aH} {tb:List Rec} (h:Tbl had tb) {y:aH} (hy:y∈had) (hk:y.k=0):y=iR:=h.uk y hy iR h.z hk
theorem Nh {had:List aH} {tb:List Rec} (h:Tbl had tb) {t:bA} (ht:TT had tb t) {g:dN} (hg:GOf tb g) :
  ∃ e t',cT t g=some (e,t')/\TT had tb t'/\t.bR.k<=t'.bR.k:=by
 obtain ⟨r,hr,i,hi,rfl⟩:=hg
 obtain ⟨r1,r2,r3,r4,hM⟩:=h.ok r hr
 rw [KL hi]
 by_cases hk:r.x.k<=t.bR.k
 ·exact ⟨8,t,KJ _ hk,ht,Int.le_refl _⟩
 by_cases hb:r.a.k≠0/\r.a.k≠t.bR.k
 ·refine ⟨7,t,?_,ht,Int.le_refl _⟩
  have e:dH t ⟨1,1,[r.id,r.x.k,r.a.k,(i:Int),(r.P.length:Int)],r.P[i]⟩=some (7,t):=by
   unfold dH
   dsimp only
   have x1:idx [r.id,r.x.k,r.a.k,(i:Int),(r.P.length:Int)] 1=some r.x.k:=rfl
   have x2:idx [r.id,r.x.k,r.a.k,(i:Int),(r.P.length:Int)] 2=some r.a.k:=rfl
   rw [show ((1:Int) != 1)=false from rfl,cond_false,show (([r.id,r.x.k,r.a.k,(i:Int),(r.P.length:Int)].length:Int) != 5)=false from rfl,cond_false,x1,aA,decide_eq_false hk,cond_false,x2]
   simp only [aA]
   rw [show (r.a.k != 0)=true by simpa using hb.1,cond_true,show (r.a.k != t.bR.k)=true by simpa using hb.2,aA,cond_true]
  unfold cT
  rw [e,aA]
  rfl
 have hb':r.a.k=0/\r.a=iR\/r.a.k≠0/\r.a.k=t.bR.k/\r.a=t.bR:=by
  by_cases h0:r.a.k=0
  ·exact .inl ⟨h0,KP h r2 h0⟩
  ·have:r.a.k=t.bR.k:=by
    apply Classical.byContradiction
    intro hne
    exact hb ⟨h0,hne⟩
   exact .inr ⟨h0,this,h.uk _ r2 _ ht.h this⟩
 have at_:(∃ l,AtL r.id r.P.length t.slot l/\SL r.P l)\/r.id < t.slot.key:=by
  rcases ht.s with hs | ⟨q,hq,l,b,hs,hl,hlt⟩
  ·exact .inl ⟨[],.inl ⟨by rw [hs]; show (0:Int) < r.id; omega,rfl⟩,Fi _⟩
  ·have hqk:t.slot.key=q.id:=by rw [hs]
   by_cases h1:q.id < r.id
   ·exact .inl ⟨[],.inl ⟨by omega,rfl⟩,Fi _⟩
   ·by_cases h2:q.id=r.id
    ·have e:=h.ui q hq r hr h2
     subst e
     exact .inl ⟨l,.inr ⟨b,hs⟩,hl⟩
    ·exact .inr (by omega)
 rcases at_ with ⟨l,hA,hl⟩ | hold
 ·obtain ⟨t',e1,e2⟩:=Bb (t:=t) (i:=i) hM (by omega) hb' hA hl r1 hi
  refine ⟨0,t',e1,?_,?_⟩
  ·rcases e2 with ⟨e2,e3,_⟩ | ⟨l',b,rfl,e3,e4,rfl⟩
   ·exact ⟨by rw [e3]; exact r3,.inl e2⟩
   ·exact ⟨ht.h,.inr ⟨r,hr,_,b,rfl,e3,e4⟩⟩
  ·rcases e2 with ⟨e2,e3,_⟩ | ⟨l',b,rfl,e3,e4,rfl⟩
   ·rw [e3]; omega
   ·exact Int.le_refl _
 ·refine ⟨8,t,?_,ht,Int.le_refl _⟩
  have hp:=Ng (s:=t.slot) (id:=r.id) (i:=(i:Int)) (n:=(r.P.length:Int)) r.P[i] (by omega) (by have:=hM.np; omega) (by omega) (by omega) r1 hold
  have e:dH t ⟨1,1,[r.id,r.x.k,r.a.k,(i:Int),(r.P.length:Int)],r.P[i]⟩=some (8,t):=by
   unfold dH
   dsimp only
   have x0:idx [r.id,r.x.k,r.a.k,(i:Int),(r.P.length:Int)] 0=some r.id:=rfl
   have x1:idx [r.id,r.x.k,r.a.k,(i:Int),(r.P.length:Int)] 1=some r.x.k:=rfl
   have x2:idx [r.id,r.x.k,r.a.k,(i:Int),(r.P.length:Int)] 2=some r.a.k:=rfl
   have x3:idx [r.id,r.x.k,r.a.k,(i:Int),(r.P.length:Int)] 3=some (i:Int):=rfl
   have x4:idx [r.id,r.x.k,r.a.k,(i:Int),(r.P.length:Int)] 4=some (r.P.length:Int):=rfl
   rw [show ((1:Int) != 1)=false from rfl,cond_false,show (([r.id,r.x.k,r.a.k,(i:Int),(r.P.length:Int)].length:Int) != 5)=false from rfl,cond_false,x1,aA,decide_eq_false hk,cond_false,x2]
   simp only [aA]
   have hq:((bif r.a.k != 0 then some (r.a.k != t.bR.k) else some false):Option Bool)=some false:=by
    rcases hb' with ⟨h1,_⟩ | ⟨_,h1,_⟩
    ·rw [h1]; rfl
    ·rw [h1,MR]; cases t.bR.k != 0 <;> rfl
   rw [hq,aA,cond_false,x0,aA,x3,aA,x4,aA,hp,aA]
  unfold cT
  rw [e,aA]
  rfl
theorem TT.more {had:List aH} {tb:List Rec} {t:bA} (h:TT had tb t) {had':List aH} {tb':List Rec} (h1: ∀ y∈had,y∈had') (h2: ∀ r∈tb,r∈tb'):TT had' tb' t :=
 ⟨h1 _ h.h,h.s.imp id λ⟨r,hr,q⟩=>⟨r,h2 r hr,q⟩⟩
theorem GOf.more {tb tb':List Rec} {g:dN} (h:GOf tb g) (h2: ∀ r∈tb,r∈tb'):GOf tb' g:=by
 obtain ⟨r,hr,q⟩:=h
 exact ⟨r,h2 r hr,q⟩
structure TS (p:Nat) (had:List aH) (tb:List Rec) (s:aK) (N:Nat):Prop where
 si:SNI s
 pt:ptN s.config.part=p
 cu:s.current∈had
 ac:s.aN∈had
 le:s.aN.k<=s.current.k
 mx: ∀ y∈had,y.k<=s.current.k
 kp: ∀ y∈s.kept,y∈had
 ms:s.message.id=0 \/ ∃ r∈tb,s.message.id=r.id/\s.message.key=r.x.k/\s.message.base=r.a.k/\s.message.parts=r.P
 nx: ∀ r∈tb,r.id < s.next
 n1:1<=s.next
 nN:s.next<=N+1
theorem DS {tb:List Rec} {m:bC} {r:Rec} (hr:r∈tb) (h1:m.id=r.id) (h2:m.key=r.x.k) (h3:m.base=r.a.k) (h4:m.parts=r.P): ∀ g∈rX m,GOf tb g:=by
 intro g hg
 unfold rX at hg
 obtain ⟨p,hp,rfl⟩:=List.mem_map.1 hg
 obtain ⟨i,hi,rfl⟩:=Nf hp
 refine ⟨r,hr,i,by rw [<- h4]; exact hi,?_⟩
 unfold gr grm
 rw [h1,h2,h3,h4]
theorem xZ {tb:List Rec} {had:List aH} (hT:Tbl had tb) {m:bC} {r:Rec} (hr:r∈tb) (h4:m.parts=r.P):(rX m).length<=4096:=by
 rw [HO]
 have h1:=AZ m m.parts.length
 have h2:=(hT.ok r hr).2.2.2.2.np
 have:(xY m).length<=m.parts.length:=h1
 rw [h4] at this
 omega
theorem Ni {p N:Nat} (hp:4<=p) {had:List aH} {tb:List Rec} (hT:Tbl had tb) {s:aK} (h:TS p had tb s N) (hN:N<=100000) (now:Int) :
  ∃ tb',Tbl had tb'/\(∀ r∈tb,r∈tb')/\TS p had tb' (qj s now).2 (N+1)/\(∀ g∈(qj s now).1,GOf tb' g)/\(qj s now).1.length<=4096:=by
 have hs2:=MY now h.si
 have hn1:=h.n1
 have hnN:=h.nN
 unfold qj at hs2 ⊢
 by_cases hk:s.current.k=s.aN.k
 ·rw [if_pos hk] at hs2 ⊢
  exact ⟨tb,hT,λ_ h=>h,⟨hs2,h.pt,h.cu,h.ac,h.le,h.mx,h.kp,.inl rfl,h.nx,h.n1,by show s.next<=_; omega⟩,λg hg=>(by cases hg),by show 0<=4096; omega⟩
 ·rw [if_neg hk] at hs2 ⊢
  by_cases hf:rY s=true
  ·have eb:mE s now=B4 s now:=by unfold mE; rw [if_pos hf]
   rw [eb] at hs2 ⊢
   have hd: ¬ now < (B4 s now).message.due:=by show ¬ now < now; omega
   rw [if_neg hd] at hs2 ⊢
   have hcq:SQ s.current:=by
    rcases hT.hd _ h.cu with e | ⟨q,_⟩
    ·exfalso
     have h1:=h.le
     have h2:s.current.k=0:=by rw [e]; rfl
     rcases hT.hd _ h.ac with e2 | ⟨_,q2⟩
     ·exact hk (by rw [e,e2])
     ·omega
    ·exact q
   have hag:SG s.aN:=by
    rcases hT.hd _ h.ac with e | ⟨q,_⟩
    ·rw [e]; exact B2
    ·exact q.g
   have hlt:s.aN.k < s.current.k:=by have:=h.le; omega
   let r:Rec:=⟨s.next,s.aN,s.current,rW (lf s.aN s.current) (ptN s.config.part)⟩
   have hM:Msg r.P r.a r.x:=by
    have:=KK hag hcq (p:=ptN s.config.part) (by rw [h.pt]; exact hp)
    exact this
   have hw:IntKind.i64.wrap (s.next+1)=s.next+1:=w64 (by omega) (by omega)
   have hT':Tbl had (tb++[r]):=by
    refine ⟨hT.z,hT.hd,hT.uk,λq hq=> ?_,λq hq q' hq' e=> ?_⟩
    ·rcases List.mem_append.1 hq with hq | hq
     ·exact hT.ok q hq
     ·rw [List.mem_singleton.1 hq]
      exact ⟨h.n1,h.ac,h.cu,hlt,hM⟩
    ·rcases List.mem_append.1 hq with hq | hq
     ·rcases List.mem_append.1 hq' with hq' | hq'
      ·exact hT.ui q hq q' hq' e
      ·rw [List.mem_singleton.1 hq'] at e
       have:=h.nx q hq
       have e2:q.id=s.next:=e
       omega
     ·rw [List.mem_singleton.1 hq] at e ⊢
      rcases List.mem_append.1 hq' with hq' | hq'
      ·have:=h.nx q' hq'
       have e2:s.next=q'.id:=e
       omega
      ·rw [List.mem_singleton.1 hq']
   have hmem:r∈tb++[r]:=List.mem_append_right _ (List.mem_singleton.2 rfl)
   refine ⟨tb++[r],hT',λq hq=>List.mem_append_left _ hq,⟨hs2,h.pt,h.cu,h.ac,h.le,h.mx,λy hy=> ?_,.inr ⟨r,hmem,rfl,rfl,rfl,rfl⟩,λq hq=> ?_,?_,?_⟩,DS hmem rfl rfl rfl rfl,xZ hT' hmem rfl⟩
   ·have hy':y∈tv s:=List.mem_of_mem_drop hy
    unfold tv at hy'
    split at hy'
    ·exact h.kp y hy'
    ·rcases List.mem_append.1 hy' with hy' | hy'
     ·exact h.kp y hy'
     ·rw [List.mem_singleton.1 hy']; exact h.cu
   ·show q.id < IntKind.i64.wrap (s.next+1)
    rw [hw]
    rcases List.mem_append.1 hq with hq | hq
    ·have:=h.nx q hq; omega
    ·rw [List.mem_singleton.1 hq]
     show s.next < s.next+1
     omega
   ·show 1<=IntKind.i64.wrap (s.next+1)
    rw [hw]; omega
   ·show IntKind.i64.wrap (s.next+1)<=_
    rw [hw]; omega
  ·have hf':rY s=false:=by simpa using hf
   have eb:mE s now=s:=by unfold mE; rw [if_neg hf]
   rw [eb] at hs2 ⊢
   have hid:s.message.id≠0:=by
    intro e
    unfold rY at hf'
    rw [e] at hf'
    cases hf'
   by_cases hd:now < s.message.due
   ·rw [if_pos hd] at hs2 ⊢
    exact ⟨tb,hT,λ_ h=>h,⟨h.si,h.pt,h.cu,h.ac,h.le,h.mx,h.kp,h.ms,h.nx,h.n1,by show s.next<=_; omega⟩,λg hg=>(by cases hg),by show 0<=4096; omega⟩
   ·rw [if_neg hd] at hs2 ⊢
    rcases h.ms with hm | ⟨r,hr,m1,m2,m3,m4⟩
    ·exact absurd hm hid
    ·exact ⟨tb,hT,λ_ h=>h,⟨hs2,h.pt,h.cu,h.ac,h.le,h.mx,h.kp,.inr ⟨r,hr,m1,m2,m3,m4⟩,h.nx,h.n1,by show s.next<=_; omega⟩,DS hr m1 m2 m3 m4,xZ hT hr m4⟩
theorem Px {p N:Nat} {had:List aH} {tb:List Rec} (hT:Tbl had tb) {s:aK} (h:TS p had tb s N) (k id:Int) (d:ByteArray):TS p had tb (HK s k id d).2 N:=by
 have hs2:=Pq k id d h.si
 have hmark:(eN s id d).message.id=s.message.id/\(eN s id d).message.key=s.message.key/\(eN s id d).message.base=s.message.base/\(eN s id d).message.parts=s.message.parts:=by
  unfold eN
  split <;> exact ⟨rfl,rfl,rfl,rfl⟩
 have hms:(eN s id d).message.id=0 \/ ∃ r∈tb,(eN s id d).message.id=r.id/\(eN s id d).message.key=r.x.k/\(eN s id d).message.base=r.a.k/\(eN s id d).message.parts=r.P:=by
  rw [hmark.1,hmark.2.1,hmark.2.2.1,hmark.2.2.2]
  exact h.ms
 have hcfg:(eN s id d).config=s.config/\(eN s id d).current=s.current/\(eN s id d).aN=s.aN/\(eN s id d).kept=s.kept/\(eN s id d).next=s.next:=by
  unfold eN
  split <;> exact ⟨rfl,rfl,rfl,rfl,rfl⟩
 obtain ⟨c1,c2,c3,c4,c5⟩:=hcfg
 unfold HK at hs2 ⊢
 by_cases hk:k<=s.aN.k\/k > s.current.k
 ·rw [if_pos hk] at hs2 ⊢
  exact ⟨hs2,by rw [c1]; exact h.pt,by rw [c2]; exact h.cu,by rw [c3]; exact h.ac,by rw [c2,c3]; exact h.le,by rw [c2]; exact h.mx,by rw [c4]; exact h.kp,hms,by rw [c5]; exact h.nx,by rw [c5]; exact h.n1,by rw [c5]; exact h.nN⟩
 ·rw [if_neg hk] at hs2 ⊢
  by_cases hl:fk k s.kept < s.kept.length
  ·rw [if_pos hl] at hs2 ⊢
   have hm:(s.kept[fk k s.kept]?).getD iR∈had:=by
    rw [List.getElem?_eq_getElem hl]
    exact h.kp _ (List.getElem_mem hl)
   exact ⟨hs2,h.pt,h.cu,hm,h.mx _ hm,h.mx,λy hy=>h.kp y (List.mem_of_mem_drop hy),hms,h.nx,h.n1,h.nN⟩
  ·rw [if_neg hl] at hs2 ⊢
   exact ⟨hs2,h.pt,h.cu,hT.z,h.mx _ hT.z,h.mx,h.kp,hms,h.nx,h.n1,h.nN⟩
end Go.Tw.X
set_option maxHeartbeats 2000000
namespace Go.Tw.X
open Go Go.Tw
theorem Nj {p N:Nat} {had:List aH} {tb:List Rec} (hT:Tbl had tb) {s:aK} (h:TS p had tb s N) {x:aH} (hx:SQ x) (hk:1<=x.k) :
  fC s x=some (oO s x)/\(oO s x=(false,s)\/((oO s x).1=true/\Tbl (had++[x]) tb/\TS p (had++[x]) tb (oO s x).2 N/\(oO s x).2.current=x/\s.current.k < x.k))/\(s.current.k < x.k->(oO s x).1=true):=by
 have hn:=GG h.si hx.ct
 refine ⟨DP s x hx.g.sw,?_,?_⟩
 ·unfold oO at hn ⊢
  by_cases c:nZ x=false\/x.k<=s.current.k
  ·rw [if_pos c]
   exact .inl rfl
  ·rw [if_neg c] at hn ⊢
   have hlt:s.current.k < x.k:=by
    have:=c
    rw [hx.g.may] at this
    omega
   right
   refine ⟨rfl,⟨List.mem_append_left _ hT.z,λy hy=> ?_,λy hy y' hy' e=> ?_,λr hr=> ?_,hT.ui⟩,⟨hn,h.pt,List.mem_append_right _ (List.mem_singleton.2 rfl),List.mem_append_left _ h.ac,by show s.aN.k<=x.k; have:=h.le; omega,λy hy=> ?_,λy hy=>List.mem_append_left _ (h.kp y hy),h.ms,h.nx,h.n1,h.nN⟩,rfl,hlt⟩
   ·rcases List.mem_append.1 hy with hy | hy
    ·exact hT.hd y hy
    ·rw [List.mem_singleton.1 hy]; exact .inr ⟨hx,hk⟩
   ·rcases List.mem_append.1 hy with hy | hy
    ·rcases List.mem_append.1 hy' with hy' | hy'
     ·exact hT.uk y hy y' hy' e
     ·rw [List.mem_singleton.1 hy'] at e
      have:=h.mx y hy
      omega
    ·rw [List.mem_singleton.1 hy] at e ⊢
     rcases List.mem_append.1 hy' with hy' | hy'
     ·have:=h.mx y' hy'
      omega
     ·rw [List.mem_singleton.1 hy']
   ·obtain ⟨r1,r2,r3,r4,r5⟩:=hT.ok r hr
    exact ⟨r1,List.mem_append_left _ r2,List.mem_append_left _ r3,r4,r5⟩
   ·show y.k<=x.k
    rcases List.mem_append.1 hy with hy | hy
    ·have:=h.mx y hy; omega
    ·rw [List.mem_singleton.1 hy]; exact Int.le_refl _
 ·intro hlt
  unfold oO
  rw [if_neg (by rw [hx.g.may]; exact λh=>h.elim (λh=>by cases h) (λh=>by omega))]
theorem Py {had:List aH} {tb:List Rec} (hT:Tbl had tb) {t:bA} (h:TT had tb t): ∃ id d,eZ t=some ⟨1,2,[t.bR.k,id],d⟩/\d.size<=1000000:=by
 rcases h.s with hs | ⟨r,hr,l,b,hs,_,_⟩
 ·exact ⟨0,_,DQ hs,KO⟩
 ·have hn:=(hT.ok r hr).2.2.2.2.np
  exact ⟨r.id,_,KN hs (by omega),by rw [zX,(Nc l r.P.length).2.1]; omega⟩
theorem KQ {had:List aH} {tb:List Rec} (hT:Tbl had tb) {y:aH} (h:y∈had):SG y:=by
 rcases hT.hd y h with e | ⟨q,_⟩
 ·rw [e]; exact B2
 ·exact q.g
theorem KR {had:List aH} {tb:List Rec} (hT:Tbl had tb) {out:List dN} (ho: ∀ g∈out,GOf tb g) (hol:out.length<=1000000) {v:Int} (h0:0<=v) (h1:v<=65535) {t:bA} (h:TT had tb t) :
  ∃ t',iter (σ:=bA×Int) (ρ:=bA) (λa=>(Option.bind ((bif (decide (a.2 < 3)) then some (decide ((out.length:Int) > 0)) else some false):Option Bool) λb=>(bif b then (Option.bind (chk (decide ((out.length:Int)≠0))) λ_=>(Option.bind (idx out ((IntKind.i64.wrap (v+(IntKind.i64.wrap (7*a.2)))).tmod (out.length:Int))) λd=>(Option.bind (cT a.1 d) λi=>some (.inl (i.2,(IntKind.i64.wrap (a.2+1))))))) else some (.inr a.1)))) (t,0)=some t'/\TT had tb t'/\t.bR.k<=t'.bR.k:=by
 obtain ⟨t',e,h2,h3⟩:=s8 (σ:=bA×Int) (ρ:=bA) (f:=λa=>(Option.bind ((bif (decide (a.2 < 3)) then some (decide ((out.length:Int) > 0)) else some false):Option Bool) λb=>(bif b then (Option.bind (chk (decide ((out.length:Int)≠0))) λ_=>(Option.bind (idx out ((IntKind.i64.wrap (v+(IntKind.i64.wrap (7*a.2)))).tmod (out.length:Int))) λd=>(Option.bind (cT a.1 d) λi=>some (.inl (i.2,(IntKind.i64.wrap (a.2+1))))))) else some (.inr a.1))))
  (λs=> ∃ j:Nat,s.2=(j:Int)/\j<=3/\TT had tb s.1/\t.bR.k<=s.1.bR.k) (λs=>3 - s.2.toNat) (λt'=>TT had tb t'/\t.bR.k<=t'.bR.k) (by
   rintro ⟨q,j'⟩ ⟨j,k1,k2,k3,k4⟩
   dsimp only at k1 k2 k3 k4 ⊢
   subst k1
   by_cases c:j < 3/\0 < out.length
   ·left
    rw [decide_eq_true (by omega),cond_true,decide_eq_true (by omega),aA,cond_true,show chk (decide ((out.length:Int)≠0))=some () from kj (by omega),aA,w64 (x:=7*(j:Int)) (by omega) (by omega),w64 (x:=v+7*(j:Int)) (by omega) (by omega)]
    obtain ⟨w,hw⟩:=Int.eq_ofNat_of_zero_le (show 0<=v+7*(j:Int) by omega)
    rw [hw]
    have hlt:w % out.length < out.length:=Nat.mod_lt _ c.2
    rw [show ((w:Int)).tmod (out.length:Int)=((w % out.length:Nat):Int) from rfl,cU out _ hlt,aA]
    obtain ⟨e,t',e1,h2,h3⟩:=Nh hT k3 (ho _ (List.getElem_mem hlt))
    rw [e1,aA,w64 (by omega) (by omega)]
    exact ⟨_,rfl,⟨j+1,by dsimp only; omega,by omega,h2,by dsimp only; omega⟩,by dsimp only; omega⟩
   ·right
    have hb:((bif (decide ((j:Int) < 3)) then some (decide ((out.length:Int) > 0)) else some false):Option Bool)=some false:=by
     by_cases c1:j < 3
     ·rw [decide_eq_true (by omega),cond_true,decide_eq_false (by omega)]
     ·rw [decide_eq_false (by omega),cond_false]
    rw [hb,aA,cond_false]
    exact ⟨_,rfl,k3,k4⟩) (t,0) ⟨0,rfl,by decide,h,Int.le_refl _⟩
 exact ⟨t',e,h2,h3⟩
theorem KS {had:List aH} {tb:List Rec} (hT:Tbl had tb) (hl:had.length<=1000000) {x:aH} (hx:x∈had) :
  iter (σ:=Int×Bool) (ρ:=Bool) (λa=>(bif (decide (a.1 < (had.length:Int))) then (Option.bind ((Option.bind (idx had a.1) λb=>(bif a.2 then some true else (Option.bind (fT b x) λd=>some d))):Option Bool) λg=>some (.inl ((IntKind.i64.wrap (a.1+1)),g))) else some (.inr a.2))) (0,false)=some true:=by
 have key:=Bt (f:=(λa:Int×Bool=>(bif (decide (a.1 < (had.length:Int))) then (Option.bind ((Option.bind (idx had a.1) λb=>(bif a.2 then some true else (Option.bind (fT b x) λd=>some d))):Option Bool) λg=>some (.inl ((IntKind.i64.wrap (a.1+1)),g))) else some (.inr a.2):Option ((Int×Bool) ⊕ Bool)))) (λi=>((i:Int),decide (x∈had.take i))) had.length (decide (x∈had.take had.length)) (λi hi=>by
  dsimp only
  rw [decide_eq_true (by omega),cond_true,cU had i hi,aA,w64 (by omega) (by omega),List.take_succ_eq_append_getElem hi]
  by_cases c:x∈had.take i
  ·rw [decide_eq_true c,cond_true,aA,decide_eq_true (List.mem_append_left _ c)]
   rfl
  ·rw [decide_eq_false c,cond_false,GC (KQ hT (List.getElem_mem hi)),aA,aA]
   have:decide (had[i]=x)=decide (x∈had.take i++[had[i]]):=by
    rw [Bool.eq_iff_iff,decide_eq_true_eq,decide_eq_true_eq]
    constructor
    ·intro e; rw [<- e]; exact List.mem_append_right _ (List.mem_singleton.2 rfl)
    ·intro hm
     rcases List.mem_append.1 hm with hm | hm
     ·exact absurd hm c
     ·exact (List.mem_singleton.1 hm).symm
   rw [this]
   rfl) (by
  dsimp only
  rw [decide_eq_false (by omega),cond_false])
 rw [List.take_length,decide_eq_true hx] at key
 exact key
theorem Nk {a b c:Bool}: ∃ r,((bif a then (bif b then some c else some false) else some false):Option Bool)=some r/\(r=true->a=true/\b=true/\c=true):=by
 cases a
 ·exact ⟨false,rfl,λh=>by cases h⟩
 ·cases b
  ·exact ⟨false,rfl,λh=>by cases h⟩
  ·exact ⟨c,rfl,λh=>⟨rfl,rfl,h⟩⟩
theorem z3 {events:List cK} {picks:List Int} {part:Int} (a0: ∀ x∈events,pg x) (a1: ∀ x∈picks,inK .i64 x) (a2:inK .i64 part):mq events picks part=some true:=by
 unfold mq
 have hq:=GN part 63 (by decide)
 rw [show ((63:Nat):Int)=63 from rfl] at hq
 generalize Go.bits .and .i64 part 63=q at hq
 obtain ⟨p1,p2⟩:=HT (q:=q) hq.1 (by omega)
 generalize hp:ptN (nuS ⟨4+q,1,3⟩).config.part=p at p1 p2
 rw [Fl,aA,Bool.not_true,cond_false,Gt,aA,w64 (by omega) (by omega),zV,aA,GL,aA]
 have hT0:Tbl [iR] []:=⟨List.mem_singleton.2 rfl,λy hy=> .inl (List.mem_singleton.1 hy),λy hy y' hy' _=>(by rw [List.mem_singleton.1 hy,List.mem_singleton.1 hy']),λr hr=>(by cases hr),λr hr=>(by cases hr)⟩
 have hS0:TS p [iR] [] (nuS ⟨4+q,1,3⟩) 0:=⟨KF _,hp,List.mem_singleton.2 rfl,List.mem_singleton.2 rfl,Int.le_refl _,λy hy=>(by rw [List.mem_singleton.1 hy]; exact Int.le_refl _),λy hy=>(by cases hy),.inl rfl,λr hr=>(by cases hr),Int.le_refl 1,Int.le_refl _⟩
 have hTT0:TT [iR] [] Pv:=⟨List.mem_singleton.2 rfl,.inl rfl⟩
 refine pF (λs:aK×bA×bB×List aH×List dN×Int×Int=> ∃ (n j:Nat) (z:Zt) (tb:List Rec),s.2.2.2.2.2.2=n/\n<=40/\s.2.2.2.2.2.1=j/\j<=10/\MQ j s.2.2.1 z/\Tbl s.2.2.2.1 tb/\TS p s.2.2.2.1 tb s.1 n/\TT s.2.2.2.1 tb s.2.1/\(∀ g∈s.2.2.2.2.1,GOf tb g)/\s.2.2.2.1.length<=n+1/\s.2.2.2.2.1.length<=4096*n) (λs=>40 - s.2.2.2.2.2.2.toNat) (λr=> ∃ w,r = .inl w)
  ⟨0,0,([],[]),[],rfl,by decide,rfl,by decide,KM (by decide) (by decide),hT0,hS0,hTT0,λg hg=>(by cases hg),Nat.le_refl _,Nat.le_refl _⟩ ?_ ?_
 ·rintro ⟨s,t,m,had,out,at',now⟩ ⟨n,j,z,tb,h1,h2,h3,h4,h5,h6,h7,h8,h9,h10,h11⟩
  dsimp only at h1 h2 h3 h4 h5 h6 h7 h8 h9 h10 h11 ⊢
  subst h1 h3
  by_cases c:(n:Int) < (picks.length:Int)/\(n:Int) < 40
  ·left
   have hv:=GN picks[n] 65535 (by decide)
   rw [show ((65535:Nat):Int)=65535 from rfl] at hv
   rw [MO c,aA,cond_true,cU picks n (by omega),aA]
   generalize Go.bits .and .i64 picks[n] 65535=v at hv
   obtain ⟨b0,eb0,hb0⟩:=Nk (a:=(Go.bits .and .i64 v 3 == 0)) (b:=decide ((j:Int) < (events.length:Int))) (c:=decide ((j:Int) < 10))
   rw [eb0,aA]
   -- perhaps an event
   have hev: ∃ (j':Nat) (m':bB) (z':Zt),((bif b0 then (Option.bind (idx events (j:Int)) λo=>(Option.bind (nA o) λe=>(Option.bind (eV m (lO.mk e.kind e.text e.w e.h)) λu=>some ((IntKind.i64.wrap ((j:Int)+1)),u.2)))) else some ((j:Int),m)):Option (Int×bB))=some ((j':Int),m')/\j'<=10/\MQ j' m' z':=by
    cases b0 with
    | false=>exact ⟨j,m,z,rfl,h4,h5⟩
    | true =>
     obtain ⟨_,hb1,hb2⟩:=hb0 rfl
     have hb1:=of_decide_eq_true hb1
     have hb2:=of_decide_eq_true hb2
     obtain ⟨r,er,k1,k2,k3⟩:=Pu events[j]
     obtain ⟨f,m',z',e1,k4,_⟩:=QH h5 (by omega) k1 k2 k3
     rw [cond_true,cU events j (by omega),aA,er,aA,e1,aA,w64 (by omega) (by omega)]
     exact ⟨j+1,m',z',by rw [show (j:Int)+1=((j+1:Nat):Int) by omega],by omega,k4⟩
   obtain ⟨j',m',z',ev,hj',hm'⟩:=hev
   obtain ⟨es,hx,hxk,_,_⟩:=GK hm' (by omega)
   generalize sOf m' z'=x at es hx hxk
   rw [ev,aA]
   dsimp only
   rw [es,aA]
   dsimp only
   obtain ⟨en,hn,_⟩:=Nj h6 h7 hx hxk
   rw [en,aA]
   have hnote: ∃ had',((bif (oO s x).1 then (Option.bind (eM m') λi=>(Option.bind (chk (eI had.length [i.1].length 120)) λ_=>some ((had++[i.1]),i.2))) else some (had,m')):Option ((List aH)×bB))=some (had',m')/\(∀ y∈had,y∈had')/\had'.length<=n+2/\Tbl had' tb/\TS p had' tb (oO s x).2 n:=by
    rcases hn with hn | ⟨q1,q2,q3,_,_⟩
    ·rw [hn]
     exact ⟨had,rfl,λy hy=>hy,by omega,h6,h7⟩
    ·rw [q1,cond_true,es,aA]
     dsimp only
     rw [bL (by simp; omega),aA]
     exact ⟨_,rfl,λy hy=>List.mem_append_left _ hy,by simp; omega,q2,q3⟩
   obtain ⟨had',en2,hsub,hlen,hT',hS'⟩:=hnote
   rw [en2,aA]
   dsimp only
   obtain ⟨tb',hT2,hsub2,hS2,hG,hGl⟩:=Ni p1 hT' hS' (by omega) (n:Int)
   rw [Ba _ _ hS'.si,aA]
   generalize qj (oO s x).2 (n:Int)=G at hS2 hG hGl
   obtain ⟨G,S2⟩:=G
   dsimp only at hS2 hG hGl ⊢
   have hTT1:TT had' tb' t:=(h8.more hsub hsub2)
   have ho': ∀ g∈out++G,GOf tb' g:=λg hg=>(List.mem_append.1 hg).elim (λh=>(h9 g h).more hsub2) (hG g)
   have hol:(out++G).length<=4096*(n+1):=by rw [List.length_append]; omega
   rw [bL (by omega),aA,show iQ t=some t.bR.k from rfl,aA]
   obtain ⟨t',et,hTT2,hle⟩:=KR hT2 ho' (by omega) hv.1 hv.2 hTT1
   rw [et,aA]
   obtain ⟨id,d,ea,hd⟩:=Py hT2 hTT2
   have hack: ∃ S3,((bif ((Go.bits .and .i64 v 4) != 0) then (Option.bind (eZ t') λl=>(Option.bind (gO l 0) λA=>(Option.bind (gO l 1) λB=>(Option.bind (iO S2 A B l.data) λC=>some C.2)))) else some S2):Option aK)=some S3/\TS p had' tb' S3 (n+1):=by
    cases (Go.bits .and .i64 v 4) != 0 with
    | false=>exact ⟨S2,rfl,hS2⟩
    | true =>
     rw [cond_true,ea,aA,QI,aA,num_1,aA,M5 _ _ _ _ hS2.si hd,aA]
     exact ⟨_,rfl,Px hT2 hS2 _ _ _⟩
   obtain ⟨S3,ek,hS3⟩:=hack
   rw [ek,aA,DR (KQ hT2 hTT2.h).sw,aA,KS hT2 (by omega) hTT2.h,aA,show iQ t'=some t'.bR.k from rfl,aA,decide_eq_false (by omega),cond_false,Bool.not_true,aA,cond_false,w64 (by omega) (by omega)]
   exact ⟨_,rfl,⟨n+1,j',z',tb',by dsimp only; omega,by omega,rfl,hj',hm',hT2,hS3,hTT2,ho',by omega,hol⟩,by dsimp only; omega⟩
  ·right
   rw [MP c,aA,cond_false]
   exact ⟨_,rfl,_,rfl⟩
 ·rintro r ⟨w,rfl⟩
  rfl
end Go.Tw.X

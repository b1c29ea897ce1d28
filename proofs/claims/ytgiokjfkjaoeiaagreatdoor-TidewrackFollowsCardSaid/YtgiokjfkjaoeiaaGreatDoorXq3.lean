import Derived.Test.YtgiokjfkjaoeiaaGreatDoorXq2
import Derived.Test.YtgiokjfkjaoeiaaGreatDoorXp1
import Derived.Test.YtgiokjfkjaoeiaaGreatDoorFw2
set_option linter.unusedVariables false
set_option linter.unusedSimpArgs false
namespace Go.Tw.X
open Go Go.Tw
def ptN (size:Int):Nat:=(max 1 (min size 8000)).toNat
theorem PW (size:Int):imax 1 (eM size 8000)=(ptN size:Int):=by rw [gQ,dP]; unfold ptN; omega
theorem Ho (n:Int):1<=ptN n:=by unfold ptN; omega
theorem PX (n:Int):ptN n<=8000:=by unfold ptN; omega
def pw (z n:Nat):Nat:=max 1 ((z+n - 1) / n)
def vX (s:ByteArray) (n i:Nat):ByteArray:=iN s ((i*n:Nat):Int) ((min s.size (i*n+n):Nat):Int)
def uG (s:ByteArray) (n:Nat):List ByteArray:=(List.range (pw s.size n)).map (vX s n)
theorem xC (s:ByteArray) (n:Nat):(uG s n).length=pw s.size n:=by unfold uG; rw [List.length_map,List.length_range]
theorem CM (z n:Nat):1<=pw z n:=by unfold pw; omega
theorem Lm (z n:Nat) (h:1<=n):pw z n<=z+1:=by
 unfold pw
 have:(z+n - 1) / n<=z+1:=Nat.le_of_lt_succ ((Nat.div_lt_iff_lt_mul (by omega)).2 (by
  have h1:z*1<=z*n:=Nat.mul_le_mul_left _ h
  have h2:(z+1+1)*n=z*n+n+n:=by rw [Nat.add_mul,Nat.add_mul,Nat.one_mul]
  rw [Nat.succ_eq_add_one,h2]
  omega))
 omega
theorem AI {z n i:Nat} (h:1<=n):i+1 < pw z n↔i*n+n < z:=by
 unfold pw
 have h2:(i+2)*n=i*n+n+n:=by rw [Nat.add_mul]; omega
 have key:i+2<=(z+n - 1) / n↔(i+2)*n<=z+n - 1:=Nat.le_div_iff_mul_le (by omega)
 omega
theorem PY {z n i:Nat} (h:1<=n) (hi:i < pw z n):i*n<=z:=by
 cases i with
 | zero=>omega
 | succ i =>
  have:=(AI h).1 hi
  rw [Nat.add_mul]
  omega
theorem IB (s:ByteArray) (a b:Nat) (h:b<=s.size):(iN s a b).size=b - a:=by
 rw [<- bB,gO,List.length_drop,List.length_take,bB]
 omega
theorem BS (s:ByteArray):iN s 0 (s.size:Int)=s:=by
 apply tv
 have:=gO s 0 s.size
 rw [show iN s 0 (s.size:Int)=iN s ((0:Nat):Int) (s.size:Int) from rfl,this,List.drop_zero,<- bB,List.take_length]
theorem BT (s:ByteArray) (a b c d:Nat) (h:a+d<=b):iN (iN s a b) c d=iN s ((a+c:Nat):Int) ((a+d:Nat):Int):=by
 apply tv
 rw [gO,gO,gO,List.take_drop,List.take_take,List.drop_drop]
 rw [show min (a+d) b=a+d by omega]
theorem IC (s:ByteArray) (size:Int) (h:s.size<=1000000):oo s size=some (uG s (ptN size)):=by
 unfold oo
 rw [PW]
 have hp:=Ho size
 have hl:=PX size
 generalize ptN size=n at hp hl
 have hc:=CM s.size n
 have hcl:=Lm s.size n hp
 have hz: ∀ i,(iN s ((i*n:Nat):Int) (s.size:Int)).size=s.size - i*n:=λi=>IB _ _ _ (Nat.le_refl _)
 refine fM (λi=>(iN s ((i*n:Nat):Int) (s.size:Int),(List.range i).map (vX s n))) (pw s.size n - 1) (iN s (((pw s.size n - 1)*n:Nat):Int) (s.size:Int),(List.range (pw s.size n - 1)).map (vX s n)) ?_ ?_ ?_ ?_
 ·rw [Nat.zero_mul,show ((0:Nat):Int)=0 from rfl,BS]
  rfl
 ·intro i hi
  have h1:i*n+n < s.size:=(AI hp).1 (by omega)
  dsimp only
  rw [hz,decide_eq_true (by omega),cond_true,bP (by omega) (by omega) (by omega),aA,bL (by simp; omega),aA,bP (by omega) (by omega) (by omega),aA]
  have e1:iN (iN s ((i*n:Nat):Int) (s.size:Int)) (n:Int) ((s.size - i*n:Nat):Int)=iN s (((i+1)*n:Nat):Int) (s.size:Int):=by
   rw [BT _ _ _ _ _ (by omega),Nat.add_mul,Nat.one_mul,show i*n+(s.size - i*n)=s.size by omega]
  have e2:iN (iN s ((i*n:Nat):Int) (s.size:Int)) 0 (n:Int)=vX s n i:=by
   rw [show (0:Int)=((0:Nat):Int) from rfl,BT _ _ _ _ _ (by omega),Nat.add_zero]
   unfold vX
   rw [show min s.size (i*n+n)=i*n+n by omega]
  rw [e1,e2,List.range_succ,List.map_append]
  rfl
 ·have h1: ¬ ((pw s.size n - 1)*n+n < s.size):=λhh=>by
   have:=(AI (z:=s.size) hp).2 hh
   omega
  dsimp only
  rw [hz,decide_eq_false (by omega),cond_false]
 ·dsimp only
  rw [bL (by simp; omega),aA]
  have h1: ¬ ((pw s.size n - 1)*n+n < s.size):=λhh=>by
   have:=(AI (z:=s.size) hp).2 hh
   omega
  have e:iN s (((pw s.size n - 1)*n:Nat):Int) (s.size:Int)=vX s n (pw s.size n - 1):=by
   unfold vX
   rw [show min s.size ((pw s.size n - 1)*n+n)=s.size by omega]
  rw [e]
  unfold uG
  conv=>rhs; rw [show pw s.size n=(pw s.size n - 1)+1 by omega,List.range_succ,List.map_append]
  rfl
theorem F3 (s:aK):aK.mk (cK.mk s.config.part s.config.every s.config.most) (aH.mk s.current.k s.current.w s.current.h s.current.x s.current.y s.current.title s.current.rows s.current.len s.current.chain s.current.begun) (aH.mk s.aN.k s.aN.w s.aN.h s.aN.x s.aN.y s.aN.title s.aN.rows s.aN.len s.aN.chain s.aN.begun) s.kept (bH.mk s.message.id s.message.key s.message.base s.message.parts s.message.there s.message.due) s.next=s:=rfl
def Lo (m:bH) (i:Nat):Option (Int×ByteArray):=if m.there[i]?=some true then none else some ((i:Int),(m.parts[i]?).getD noS)
def AJ (m:bH) (n:Nat):List (Int×ByteArray):=(List.range n).filterMap (Lo m)
def Hp (m:bH):List (Int×ByteArray):=AJ m m.parts.length
theorem ID (m:bH) (n:Nat):(AJ m n).length<=n:=by
 have:=List.length_filterMap_le (Lo m) (List.range n)
 rw [List.length_range] at this
 exact this
theorem AK (m:bH) (n:Nat):AJ m (n+1)=AJ m n++(if m.there[n]?=some true then [] else [((n:Int),(m.parts[n]?).getD noS)]):=by
 unfold AJ
 rw [List.range_succ,List.filterMap_append]
 congr 1
 unfold Lo
 by_cases h:m.there[n]?=some true
 ·simp [h]
 ·simp [h]
theorem Lp {α:Type} (m:bH) (F:Int×ByteArray->α) (Y:List α->Int×ByteArray->Option (List α×Bool)) (hl:m.there.length=m.parts.length) (hp:m.parts.length<=1000000) (hY: ∀ (l:List α) x,l.length<=1000000->Y l x=some (l++[F x],true)):iG m Y []=some ((Hp m).map F):=by
 unfold iG
 refine fM (λi:Nat=>((i:Int),(AJ m i).map F)) m.parts.length (.inl ((Hp m).map F)) rfl ?_ ?_ rfl
 ·intro i hi
  have hi2:i < m.there.length:=by omega
  have hn:=ID m i
  dsimp only
  rw [decide_eq_true (by omega),cond_true,dB _ _ hi,aA,dB _ _ hi2,aA,AK,List.getElem?_eq_getElem hi2,List.getElem?_eq_getElem hi]
  cases hb:m.there[i] with
  | true =>
   rw [Bool.not_true,cond_false,aA,cond_false,w64 (by omega) (by omega),if_pos rfl,List.append_nil]
   rfl
  | false =>
   rw [Bool.not_false,cond_true,hY _ _ (by rw [List.length_map]; omega),aA,Bool.not_true,aA,cond_false,w64 (by omega) (by omega),if_neg (by simp),List.map_append]
   rfl
 ·dsimp only
  rw [decide_eq_false (by omega),cond_false]
  rfl
def gr (m:bH) (x:Int×ByteArray):cH:=⟨1,1,[m.id,m.key,m.base,x.1,(m.parts.length:Int)],x.2⟩
def CN (m:bH):List cH:=(Hp m).map (gr m)
def has (k:Int) (l:List aH):Bool:=l.any λx=>x.k == k
def NJ (s:aK) (now:Int):bH:=⟨s.next,s.current.k,s.aN.k,uG (m4 s.aN s.current) (ptN s.config.part),List.replicate (uG (m4 s.aN s.current) (ptN s.config.part)).length false,now⟩
def sM (s:aK):List aH:=if has s.current.k s.kept then s.kept else s.kept++[s.current]
def EE (s:aK) (now:Int):aK:=⟨s.config,s.current,s.aN,(sM s).drop ((sM s).length - s.config.most.toNat),NJ s now,IntKind.i64.wrap (s.next+1)⟩
structure SNI (s:aK):Prop where
 cur:CT1 s.current
 ack:CT1 s.aN
 kp: ∀ x∈s.kept,CT1 x
 m0:1<=s.config.most/\s.config.most<=64
 kl:(s.kept.length:Int)<=s.config.most
 pl:s.message.parts.length<=61001
 tl:s.message.there.length=s.message.parts.length
 so:s.kept.Pairwise λx y=>x.k < y.k
 ck: ∀ x∈s.kept,x.k<=s.current.k
theorem PZ (l:List aH) (S:aK) (hl:l.length<=1000000):cD l S=some (has S.current.k l):=by
 unfold cD dA has
 obtain ⟨q,h1,h2⟩:=find_eq l (λx=>x.k == S.current.k) hl (λa=>(bif (decide (a < (l.length:Int))) then (Option.bind (idx l a) λb=>(Option.bind (fG b S) λc=>(bif c then (m6 (some a)) else some (.inl (IntKind.i64.wrap (a+1)))))) else some (.inr (.inl ())))) (by
  intro n hn
  unfold fG
  rw [decide_eq_true (by omega),cond_true,dB l n hn,aA,aA,w64 (by omega) (by omega)]
  cases (l[n].k == S.current.k) <;> rfl) (by
  rw [decide_eq_false (by omega),cond_false])
 rw [h1,aA]
 rcases h2 with ⟨rfl,h3⟩ | ⟨w,rfl,h4,h3⟩
 ·rw [h3]
  rfl
 ·rw [h3]
  show some (decide (w>=0))=some true
  rw [decide_eq_true h4]
theorem Lr (s:aK):(sM s).length<=s.kept.length+1:=by
 unfold sM
 split
 ·omega
 ·simp
theorem BU (s:aK) (h:SNI s):(uG (m4 s.aN s.current) (ptN s.config.part)).length<=61001:=by
 have h1:=wH s.aN s.current h.cur.sw (by have:=h.cur.pk; omega)
 have h2:=Lm (m4 s.aN s.current).size (ptN s.config.part) (Ho _)
 rw [xC]
 omega
theorem EF {α:Type} (l:List α) (a:Nat):cut l (a:Int) (l.length:Int)=l.drop a:=by rw [tu,List.take_length]
theorem EG (s:aK) (now:Int) (h:SNI s):fY s now=some (EE s now):=by
 unfold fY
 have h1:=wH s.aN s.current h.cur.sw (by have:=h.cur.pk; omega)
 have h2:=BU s h
 have hk:=h.kl
 have hm:=h.m0
 rw [diff_eq _ _ h.ack.sw h.cur.sw (by have:=h.ack.pk; omega) (by have:=h.cur.pk; omega),aA,IC _ _ (by omega),aA,Bq (by omega) (by omega) (by omega),aA,PZ _ _ (by omega),aA,Int.toNat_natCast]
 dsimp only
 have hlen:=Lr s
 have fin: ∀ e:aK,e=⟨s.config,s.current,s.aN,sM s,NJ s now,IntKind.i64.wrap (s.next+1)⟩->(Option.bind (chk (dC (imax 0 (IntKind.i64.wrap ((e.kept.length:Int) - e.config.most))) (e.kept.length:Int) e.kept.length)) λ_=>some (aK.mk (cK.mk e.config.part e.config.every e.config.most) (aH.mk e.current.k e.current.w e.current.h e.current.x e.current.y e.current.title e.current.rows e.current.len e.current.chain e.current.begun) (aH.mk e.aN.k e.aN.w e.aN.h e.aN.x e.aN.y e.aN.title e.aN.rows e.aN.len e.aN.chain e.aN.begun) (cut e.kept (imax 0 (IntKind.i64.wrap ((e.kept.length:Int) - e.config.most))) (e.kept.length:Int)) (bH.mk e.message.id e.message.key e.message.base e.message.parts e.message.there e.message.due) e.next))=some (EE s now):=by
  rintro e rfl
  dsimp only
  rw [w64 (by omega) (by omega),show imax 0 (((sM s).length:Int) - s.config.most)=(((sM s).length - s.config.most.toNat:Nat):Int) by rw [gQ]; omega,bP (by omega) (by omega) (by omega),aA,EF]
  rfl
 cases hh:has s.current.k s.kept with
 | true =>
  rw [Bool.not_true,cond_false,aA]
  exact fin _ (by unfold sM; rw [hh,if_pos rfl]; rfl)
 | false =>
  rw [Bool.not_false,cond_true,bL (by simp; omega),aA,aA]
  exact fin _ (by unfold sM; rw [hh,if_neg (by simp)]; rfl)
theorem IE {k:Int} {l:List aH} (h:has k l=false): ∀ x∈l,x.k≠k:=by
 intro x hx he
 have:has k l=true:=List.any_eq_true.2 ⟨x,hx,by simp [he]⟩
 rw [h] at this
 cases this
theorem P0 {s:aK} (now:Int) (h:SNI s):SNI (EE s now):=by
 have hm:=h.m0
 have hk: ∀ x∈sM s,CT1 x/\x.k<=s.current.k:=by
  unfold sM
  split
  ·exact λx hx=>⟨h.kp x hx,h.ck x hx⟩
  ·intro x hx
   rcases List.mem_append.1 hx with hx | hx
   ·exact ⟨h.kp x hx,h.ck x hx⟩
   ·rw [List.mem_singleton.1 hx]
    exact ⟨h.cur,Int.le_refl _⟩
 have hs:(sM s).Pairwise λx y=>x.k < y.k:=by
  unfold sM
  split
  ·exact h.so
  ·rename_i hh
   rw [List.pairwise_append]
   refine ⟨h.so,List.pairwise_singleton ..,?_⟩
   intro x hx y hy
   rw [List.mem_singleton.1 hy]
   have h1:=h.ck x hx
   have h2:=IE (by simpa using hh) x hx
   omega
 refine ⟨h.cur,h.ack,λx hx=>(hk x (List.mem_of_mem_drop hx)).1,hm,?_,BU s h,by show (List.replicate _ false).length=_; rw [List.length_replicate]; rfl,hs.sublist (List.drop_sublist _ _),λx hx=>(hk x (List.mem_of_mem_drop hx)).2⟩
 show (((sM s).drop ((sM s).length - s.config.most.toNat)).length:Int)<=s.config.most
 rw [List.length_drop]
 omega
def EH:bH:=⟨0,0,0,[],[],0⟩
def NK (s:aK) (d:Int):aK:=⟨s.config,s.current,s.aN,s.kept,⟨s.message.id,s.message.key,s.message.base,s.message.parts,s.message.there,d⟩,s.next⟩
def uH (s:aK):Bool:=(s.message.id == 0) || ((s.message.key != s.current.k) || (s.message.base != s.aN.k))
def pO (s:aK) (now:Int):aK:=if uH s then EE s now else s
def rI (s:aK) (now:Int):List cH×aK :=
 if s.current.k=s.aN.k then ([],⟨s.config,s.current,s.aN,s.kept,EH,s.next⟩)
 else if now < (pO s now).message.due then ([],pO s now)
 else (CN (pO s now).message,NK (pO s now) (IntKind.i64.wrap (now+s.config.every)))
theorem AL {s:aK} (now:Int) (h:SNI s):SNI (pO s now):=by
 unfold pO
 split
 ·exact P0 now h
 ·exact h
theorem IF (s:aK) (now:Int):(pO s now).config=s.config:=by unfold pO; split <;> rfl
theorem P1 {s:aK} (d:Int) (h:SNI s):SNI (NK s d):=⟨h.cur,h.ack,h.kp,h.m0,h.kl,h.pl,h.tl,h.so,h.ck⟩
theorem NL {s:aK} (now:Int) (h:SNI s):SNI (rI s now).2:=by
 unfold rI
 split
 ·exact ⟨h.cur,h.ack,h.kp,h.m0,h.kl,Nat.zero_le _,rfl,h.so,h.ck⟩
 ·split
  ·exact AL now h
  ·exact P1 _ (AL now h)
theorem Ls (s:aK):((bif (s.message.id == 0) then some true else (bif (s.message.key != s.current.k) then some true else some (s.message.base != s.aN.k))):Option Bool)=some (uH s):=by
 unfold uH
 cases (s.message.id == 0) <;> cases (s.message.key != s.current.k) <;> rfl
theorem BV (s:aK) (now:Int) (h:SNI s):gM s now=some (rI s now):=by
 unfold gM
 simp only [F3]
 by_cases hk:s.current.k=s.aN.k
 ·rw [show (s.current.k == s.aN.k)=true by simp [hk],cond_true]
  unfold rI
  rw [if_pos hk]
  rfl
 ·rw [show (s.current.k == s.aN.k)=false by simp [hk],cond_false,Ls,aA]
  have hb:((bif uH s then (Option.bind (fY s now) λc=>some c) else some s):Option aK)=some (pO s now):=by
   unfold pO
   cases uH s with
   | true=>rw [cond_true,EG s now h,aA,if_pos rfl]
   | false=>rw [cond_false,if_neg (by simp)]
  rw [hb,aA]
  have hS:=AL now h
  have hc:=IF s now
  unfold rI
  rw [if_neg hk]
  generalize pO s now=e at hS hc
  by_cases hd:now < e.message.due
  ·rw [decide_eq_true hd,cond_true,if_pos hd]
  ·rw [decide_eq_false hd,cond_false,if_neg hd]
   have hpl:=hS.pl
   have:=Lp ⟨e.message.id,e.message.key,e.message.base,e.message.parts,e.message.there,IntKind.i64.wrap (now+e.config.every)⟩ (gr e.message) (λb a=>(Option.bind (chk (eH b.length ([(cH.mk 1 1 [e.message.id,e.message.key,e.message.base,a.1,(e.message.parts.length:Int)] a.2)]).length 56)) λ_=>some ((b++[(cH.mk 1 1 [e.message.id,e.message.key,e.message.base,a.1,(e.message.parts.length:Int)] a.2)]),true))) hS.tl (by show e.message.parts.length<=_; omega) (by
    intro l x hl
    rw [bL (by simp; omega),aA]
    rfl)
   rw [this,aA,<- hc]
   rfl
def AM (h:ByteArray) (i:Nat):Bool:=match (sbs h)[i / 8]? with | some b=>decide ((b / 2 ^ (i % 8)) % 2=1) | none=>false
def mkI (t:List Bool) (h:ByteArray) (n:Nat):List Bool:=t.mapIdx λi b=>b || (decide (i < n) && AM h i)
theorem pV (t:List Bool) (h:ByteArray) (n:Nat):(mkI t h n).length=t.length:=by unfold mkI; rw [List.length_mapIdx]
theorem vl (t:List Bool) (h:ByteArray) (n i:Nat) (hi:i < t.length):(mkI t h n)[i]?=some (t[i] || (decide (i < n) && AM h i)):=by
 unfold mkI
 rw [List.getElem?_mapIdx,List.getElem?_eq_getElem hi]
 rfl
theorem Lu (t:List Bool) (h:ByteArray):mkI t h 0=t:=by
 apply List.ext_getElem?
 intro i
 by_cases hi:i < t.length
 ·rw [vl _ _ _ _ hi,List.getElem?_eq_getElem hi]
  simp
 ·rw [List.getElem?_eq_none (by rw [pV]; omega),List.getElem?_eq_none (by omega)]
theorem Lv (t:List Bool) (h:ByteArray) (n:Nat) (hn:n < t.length):mkI t h (n+1)=if AM h n then (mkI t h n).set n true else mkI t h n:=by
 apply List.ext_getElem?
 intro i
 by_cases hi:i < t.length
 ·rw [vl _ _ _ _ hi]
  by_cases hb:AM h n=true
  ·rw [if_pos hb,List.getElem?_set]
   by_cases hin:n=i
   ·subst hin
    rw [if_pos rfl,if_pos (by rw [pV]; exact hi),hb]
    simp
   ·rw [if_neg hin,vl _ _ _ _ hi]
    have:decide (i < n+1)=decide (i < n):=by rw [decide_eq_decide]; omega
    rw [this]
  ·rw [if_neg hb,vl _ _ _ _ hi]
   by_cases hin:n=i
   ·subst hin
    have:AM h n=false:=by simpa using hb
    rw [this]
    simp
   ·have:decide (i < n+1)=decide (i < n):=by rw [decide_eq_decide]; omega
    rw [this]
 ·rw [List.getElem?_eq_none (by rw [pV]; omega)]
  split
  ·rw [List.getElem?_eq_none (by rw [List.length_set,pV]; omega)]
  ·rw [List.getElem?_eq_none (by rw [pV]; omega)]
theorem Lz (h:ByteArray) (i:Nat) (hi:8*h.size<=i):AM h i=false:=by
 unfold AM
 rw [List.getElem?_eq_none (by rw [bB]; omega)]
theorem NM (t:List Bool) (h:ByteArray) (n:Nat) (hn:min t.length (8*h.size)<=n):mkI t h n=mkI t h t.length:=by
 apply List.ext_getElem?
 intro i
 by_cases hi:i < t.length
 ·rw [vl _ _ _ _ hi,vl _ _ _ _ hi]
  by_cases hin:i < n
  ·rw [decide_eq_true hin,decide_eq_true hi]
  ·rw [Lz h i (by omega),Bool.and_false,Bool.and_false]
 ·rw [List.getElem?_eq_none (by rw [pV]; omega),List.getElem?_eq_none (by rw [pV]; omega)]
theorem NN (h:ByteArray) (i:Nat) (hi:i / 8 < (sbs h).length):AM h i=decide (((sbs h)[i / 8] / 2 ^ (i % 8)) % 2=1):=by
 unfold AM
 rw [List.getElem?_eq_getElem hi]
theorem IG (b:Int) (i:Nat) (h0:0<=b):b.fdiv (2 ^ (min (((i:Int).tmod 8)).toNat 8))=b / 2 ^ (i % 8):=by
 have e:min (((i:Int).tmod 8)).toNat 8=i % 8:=by
  rw [show ((i:Int).tmod 8)=((i % 8:Nat):Int) from rfl,Int.toNat_natCast]
  omega
 rw [e,Int.fdiv_eq_ediv_of_nonneg _ (Int.pow_nonneg (by decide))]
theorem IH (b:Int) (j:Nat) (h0:0<=b) (h1:b < 256):0<=b / 2 ^ j/\b / 2 ^ j < 256:=by
 refine ⟨Int.ediv_nonneg h0 (Int.pow_nonneg (by decide)),?_⟩
 have:=Int.ediv_le_self (2 ^ j) h0
 omega
theorem NO (x:Int) (h0:0<=x) (h1:x < 256):Go.bits .and .u8 x 1=x % 2:=by
 have h:=bits_mask .u8 8 (by decide) wraps_u8 1 (by decide) x h0 (by omega)
 have e:((2:Int) ^ 1 - 1)=1:=by decide
 have e2:((2:Int) ^ 1)=2:=by decide
 rw [e,e2] at h
 exact h
def EJ (s:aK) (t:List Bool):aK:=⟨s.config,s.current,s.aN,s.kept,⟨s.message.id,s.message.key,s.message.base,s.message.parts,t,s.message.due⟩,s.next⟩
theorem NQ (s:aK) (h:ByteArray) (hl:s.message.there.length<=1000000) (hs:h.size<=1000000):gN s h=some (EJ s (mkI s.message.there h s.message.there.length)):=by
 unfold gN
 simp only [F3]
 rw [w64 (x:=8*(h.size:Int)) (by omega) (by omega),show eM (s.message.there.length:Int) (8*(h.size:Int))=((min s.message.there.length (8*h.size):Nat):Int) by rw [dP]; omega]
 refine fM (λi:Nat=>(EJ s (mkI s.message.there h i),(i:Int))) (min s.message.there.length (8*h.size)) (EJ s (mkI s.message.there h (min s.message.there.length (8*h.size)))) ?_ ?_ ?_ ?_
 ·rw [Lu]
  rfl
 ·intro i hi
  have hi2:i / 8 < (sbs h).length:=by rw [bB]; omega
  have hb:=mR h _ (List.getElem_mem hi2)
  have hr:=IH _ (i % 8) hb.1 hb.2
  dsimp only
  rw [decide_eq_true (by omega),cond_true,show (i:Int).tdiv 8=((i / 8:Nat):Int) from rfl,w64 (x:=((i / 8:Nat):Int)) (by omega) (by omega),w7 h _ hi2,aA,show chk (shk ((i:Int).tmod 8))=some () from nq (show (0:Int)<=((i % 8:Nat):Int) by omega),aA,IG _ _ hb.1,NO _ hr.1 hr.2,Lv _ _ _ (by omega),NN h i hi2,w64 (by omega) (by omega)]
  by_cases hq:((sbs h)[i / 8] / 2 ^ (i % 8)) % 2=1
  ·rw [show (((sbs h)[i / 8] / 2 ^ (i % 8)) % 2 == 1)=true by simp [hq],cond_true,decide_eq_true hq,if_pos rfl]
   have hg:idx (EJ s (mkI s.message.there h i)).message.there (i:Int)=some ((mkI s.message.there h i)[i]'(by rw [pV]; omega)):=dB (mkI s.message.there h i) i (by rw [pV]; omega)
   rw [hg,aA]
   rfl
  ·rw [show (((sbs h)[i / 8] / 2 ^ (i % 8)) % 2 == 1)=false by simp [hq],cond_false,decide_eq_false hq,if_neg (by simp)]
   rfl
 ·dsimp only
  rw [decide_eq_false (by omega),cond_false]
 ·rw [NM _ _ _ (Nat.le_refl _)]
def fk (k:Int):List aH->Nat | []=>0 | x::l=>if x.k=k then 0 else fk k l+1
theorem Ou (k:Int): ∀ l,fk k l<=l.length
 | []=>Nat.le_refl _
 | x::l=>by
  unfold fk
  have:=Ou k l
  split
  ·exact Nat.zero_le _
  ·rw [List.length_cons]; omega
theorem Ov (k:Int): ∀ (l:List aH) (n:Nat) (hn:n < l.length),n < fk k l->l[n].k≠k
 | x::l,n,hn,h=>by
  unfold fk at h
  split at h
  ·omega
  ·rename_i hx
   cases n with
   | zero=>exact hx
   | succ n=>exact Ov k l n (by simpa using hn) (by omega)
theorem Ow (k:Int): ∀ (l:List aH) (hn:fk k l < l.length),l[fk k l].k=k
 | x::l,hn=>by
  by_cases hx:x.k=k
  ·have e:fk k (x::l)=0:=by unfold fk; rw [if_pos hx]
   simp only [e]
   exact hx
  ·have e:fk k (x::l)=fk k l+1:=by conv=>lhs; unfold fk; rw [if_neg hx]
   simp only [e]
   rw [e] at hn
   exact Ow k l (by simpa using hn)
theorem LA (l:List aH) (k:Int) (hl:l.length<=1000000):cO l k=some (if fk k l < l.length then (fk k l:Int) else -1):=by
 unfold cO
 have hle:=Ou k l
 refine fM (λi:Nat=>(i:Int)) (fk k l) (if fk k l < l.length then .inr (fk k l:Int) else .inl ()) rfl ?_ ?_ ?_
 ·intro i hi
  have hil:i < l.length:=by omega
  have hne:=Ov k l i hil hi
  unfold gD
  rw [decide_eq_true (by omega),cond_true,dB _ _ hil,aA,aA,show (l[i].k == k)=false by simp [hne],cond_false,w64 (by omega) (by omega)]
  rfl
 ·by_cases hlt:fk k l < l.length
  ·have ha:=Ow k l hlt
   unfold gD
   rw [decide_eq_true (by omega),cond_true,dB _ _ hlt,aA,aA,show (l[fk k l].k == k)=true by simp [ha],cond_true,if_pos hlt]
   rfl
  ·rw [decide_eq_false (by omega),cond_false,if_neg hlt]
 ·by_cases hlt:fk k l < l.length
  ·rw [if_pos hlt,if_pos hlt]
  ·rw [if_neg hlt,if_neg hlt]
def jC (s:aK) (id:Int) (h:ByteArray):aK:=if id=s.message.id/\id > 0 then EJ s (mkI s.message.there h s.message.there.length) else s
def EK (s:aK) (k id:Int) (h:ByteArray):Bool×aK :=
 if k<=s.aN.k\/k > s.current.k then (false,jC s id h)
 else if fk k s.kept < s.kept.length then (true,⟨s.config,s.current,s.kept[fk k s.kept]?.getD kR,s.kept.drop (fk k s.kept+1),(jC s id h).message,s.next⟩)
 else (false,⟨s.config,s.current,kR,s.kept,(jC s id h).message,s.next⟩)
theorem II {s:aK} (id:Int) (h:ByteArray) (hS:SNI s):SNI (jC s id h):=by
 unfold jC
 split
 ·exact ⟨hS.cur,hS.ack,hS.kp,hS.m0,hS.kl,hS.pl,by show (mkI _ _ _).length=_; rw [pV]; exact hS.tl,hS.so,hS.ck⟩
 ·exact hS
theorem CO:CT1 kR:=⟨DM,by decide⟩
theorem P2 {s:aK} (k id:Int) (h:ByteArray) (hS:SNI s):SNI (EK s k id h).2:=by
 have hM:=II id h hS
 unfold EK
 split
 ·exact hM
 ·split
  ·rename_i hlt
   have hk:=hS.kl
   have e:s.kept[fk k s.kept]?.getD kR=s.kept[fk k s.kept]:=by rw [List.getElem?_eq_getElem hlt]; rfl
   refine ⟨hS.cur,by show CT1 (s.kept[fk k s.kept]?.getD kR); rw [e]; exact hS.kp _ (List.getElem_mem hlt),λx hx=>hS.kp x (List.mem_of_mem_drop hx),hS.m0,?_,hM.pl,hM.tl,hS.so.sublist (List.drop_sublist _ _),λx hx=>hS.ck x (List.mem_of_mem_drop hx)⟩
   show ((s.kept.drop _).length:Int)<=s.config.most
   rw [List.length_drop]
   omega
  ·exact ⟨hS.cur,CO,hS.kp,hS.m0,hS.kl,hM.pl,hM.tl,hS.so,hS.ck⟩
theorem IJ (l:List aH) (h:l.length<=1000000):gC l=some l:=by
 unfold gC
 rw [bL (by simp; omega),aA]
 rfl
theorem Hq (s:aK) (k id:Int) (h:ByteArray) (hS:SNI s) (hs:h.size<=1000000):iI s k id h=some (EK s k id h):=by
 unfold iI
 simp only [F3]
 have hk:=hS.kl
 have hm:=hS.m0
 have e1:((bif (id == s.message.id) then some (decide (id > 0)) else some false):Option Bool)=some (decide (id=s.message.id/\id > 0)):=by
  by_cases h1:id=s.message.id
  ·rw [show (id == s.message.id)=true by simp [h1],cond_true]
   by_cases h2:id > 0
   ·rw [decide_eq_true h2,decide_eq_true ⟨h1,h2⟩]
   ·rw [decide_eq_false h2,decide_eq_false (λhh=>h2 hh.2)]
  ·rw [show (id == s.message.id)=false by simp [h1],cond_false,decide_eq_false (λhh=>h1 hh.1)]
 have e2:((bif (decide (id=s.message.id/\id > 0)) then (Option.bind (gN s h) λa=>some a) else some s):Option aK)=some (jC s id h):=by
  unfold jC
  by_cases h1:id=s.message.id/\id > 0
  ·rw [decide_eq_true h1,cond_true,NQ s h (by have:=hS.pl; have:=hS.tl; omega) hs,aA,if_pos h1]
  ·rw [decide_eq_false h1,cond_false,if_neg h1]
 have a1:(jC s id h).aN=s.aN:=by unfold jC; split <;> rfl
 have a2:(jC s id h).current=s.current:=by unfold jC; split <;> rfl
 have a3:(jC s id h).kept=s.kept:=by unfold jC; split <;> rfl
 have a4:(jC s id h).config=s.config:=by unfold jC; split <;> rfl
 have a5:(jC s id h).next=s.next:=by unfold jC; split <;> rfl
 rw [e1,aA,e2,aA]
 unfold EK
 generalize jC s id h=m at a1 a2 a3 a4 a5
 rw [or2,aA,a1,a2,a3]
 by_cases hc:k<=s.aN.k\/k > s.current.k
 ·rw [decide_eq_true hc,cond_true,if_pos hc]
 ·rw [decide_eq_false hc,cond_false,if_neg hc,LA _ _ (by omega),aA]
  by_cases hlt:fk k s.kept < s.kept.length
  ·rw [if_pos hlt,if_pos hlt,decide_eq_false (by omega),cond_false,dB _ _ hlt,aA,w64 (by omega) (by omega),bP (by omega) (by omega) (by omega),aA,show ((fk k s.kept:Int)+1)=((fk k s.kept+1:Nat):Int) by omega,EF,IJ _ (by rw [List.length_drop]; omega),aA,List.getElem?_eq_getElem hlt,<- a2,<- a4,<- a5]
   rfl
  ·rw [if_neg hlt,if_neg hlt,decide_eq_true (by omega),cond_true,<- a2,<- a4,<- a5]
   rfl
def nuS (c:cK):aK:=⟨⟨imax 1 (eM c.part 8000),imax 1 (eM c.every 1048576),imax 1 (eM c.most 64)⟩,kR,kR,[],EH,1⟩
theorem F4 (c:cK):qy c=some (nuS c):=rfl
theorem P3 (c:cK):SNI (nuS c):=by
 have hm:imax 1 (eM c.most 64)=max 1 (min c.most 64):=by rw [gQ,dP]
 refine ⟨CO,CO,λx hx=>(by cases hx),?_,?_,Nat.zero_le _,rfl,List.Pairwise.nil,λx hx=>(by cases hx)⟩
 ·show 1<=imax 1 (eM c.most 64)/\imax 1 (eM c.most 64)<=64
  omega
 ·show (0:Int)<=imax 1 (eM c.most 64)
  omega
def setCur (s:aK) (x:aH):aK:=⟨s.config,x,s.aN,s.kept,s.message,s.next⟩
def xD (s:aK) (x:aH):Bool×aK:=if pA x=false\/x.k<=s.current.k then (false,s) else (true,setCur s x)
theorem LB (s:aK) (x:aH) (h:SW x):fF s x=some (xD s x):=by
 unfold fF xD
 rw [xd x h,aA,yh x h]
 by_cases hm:pA x=true
 ·rw [hm,if_pos rfl,show ((0:Int) != 0)=false from rfl,cond_false,aA]
  by_cases hk:x.k<=s.current.k
  ·rw [decide_eq_true hk,cond_true,if_pos (.inr hk)]
  ·rw [decide_eq_false hk,cond_false,if_neg (by simp [hk]),aA]
   rfl
 ·have hm2:pA x=false:=by simpa using hm
  rw [hm2,if_neg (by simp),show ((1:Int) != 0)=true from rfl,cond_true,aA,cond_true,if_pos (Or.inl rfl)]
theorem NR {s:aK} {x:aH} (h:SNI s) (hx:CT1 x):SNI (xD s x).2:=by
 unfold xD
 split
 ·exact h
 ·rename_i hn
  exact ⟨hx,h.ack,h.kp,h.m0,h.kl,h.pl,h.tl,h.so,λy hy=>by have:=h.ck y hy; show y.k<=x.k; omega⟩
theorem IK {s:aK} (now:Int) (hk:s.current.k=s.aN.k):rI s now=([],⟨s.config,s.current,s.aN,s.kept,EH,s.next⟩):=by
 unfold rI
 rw [if_pos hk]
theorem F5 {s:aK} (now:Int) (hk:s.current.k≠s.aN.k) (hf:uH s=true):rI s now=(CN (NJ s now),NK (EE s now) (IntKind.i64.wrap (now+s.config.every))):=by
 have e:pO s now=EE s now:=by unfold pO; rw [hf,if_pos rfl]
 unfold rI
 rw [if_neg hk,e,if_neg (show ¬ now < (EE s now).message.due from Int.lt_irrefl now)]
 rfl
theorem LC {m:bH} (h:m.there=List.replicate m.parts.length false):Hp m=(List.range m.parts.length).map λi:Nat=>((i:Int),(m.parts[i]?).getD noS):=by
 have key: ∀ n,n<=m.parts.length->AJ m n=(List.range n).map λi:Nat=>((i:Int),(m.parts[i]?).getD noS):=by
  intro n
  induction n with
  | zero=>intro _; rfl
  | succ n ih =>
   intro hn
   rw [AK,ih (by omega),List.range_succ,List.map_append,show m.there[n]?=some false by rw [h,List.getElem?_replicate,if_pos (by omega)],if_neg (by simp)]
   rfl
 exact key _ (Nat.le_refl _)
theorem IM (s:ByteArray) (n i:Nat) (hi:i*n<=s.size):iN s 0 ((min s.size (i*n):Nat):Int)++vX s n i=iN s 0 ((min s.size ((i+1)*n):Nat):Int):=by
 apply tv
 unfold vX
 rw [qU,show (0:Int)=((0:Nat):Int) from rfl,gO,gO,gO,List.drop_zero,List.drop_zero,show min s.size (i*n)=i*n by omega,Nat.add_mul,Nat.one_mul]
 have h2:i*n<=min s.size (i*n+n):=by omega
 generalize min s.size (i*n+n)=b at h2
 have:=List.take_append_drop (i*n) ((sbs s).take b)
 rw [List.take_take,show min (i*n) b=i*n by omega] at this
 exact this
end Go.Tw.X
set_option maxHeartbeats 1000000
namespace Go.Tw.X
open Go Go.Tw
theorem F6: ∀ (n:Nat) (l:List Nat),l.Nodup->(∀ x∈l,x < n)->l.length<=n/\(l.length=n -> ∀ i,i < n->i∈l)
 | 0,l,_,h=>by
  have:l=[]:=by
   cases l with
   | nil=>rfl
   | cons a l=>exact absurd (h a List.mem_cons_self) (Nat.not_lt_zero a)
  subst this
  exact ⟨Nat.le_refl _,λ_ i hi=>absurd hi (Nat.not_lt_zero i)⟩
 | n+1,l,hn,h=>by
  by_cases hm:n∈l
  ·have hl:=List.length_erase_of_mem hm
   have hpos:0 < l.length:=List.length_pos_of_mem hm
   obtain ⟨h1,h2⟩:=F6 n (l.erase n) (hn.erase n) (λx hx=>by
    have h3:=(hn.mem_erase_iff.1 hx)
    have:=h x h3.2
    have:=h3.1
    omega)
   refine ⟨by omega,λe i hi=> ?_⟩
   by_cases hin:i=n
   ·rw [hin]; exact hm
   ·exact List.mem_of_mem_erase (h2 (by omega) i (by omega))
  ·obtain ⟨h1,h2⟩:=F6 n l hn (λx hx=>by
    have:=h x hx
    have:x≠n:=λe=>hm (e ▸ hx)
    omega)
   exact ⟨by omega,λe=>by omega⟩
structure SL (P:List ByteArray) (l:List (Int×ByteArray)):Prop where
 nd:(l.map Prod.fst).Nodup
 at_: ∀ p∈l,∃ i:Nat,p.1=(i:Int)/\P[i]?=some p.2
theorem P4 (P:List ByteArray):SL P []:=⟨List.nodup_nil,λp hp=>by cases hp⟩
theorem AN {α:Type} {k:Int}: ∀ {l:List (Int×α)},mgl k l=none -> ∀ p∈l,p.1≠k
 | [],_,p,hp=>by cases hp
 | (j,y)::l,h,p,hp=>by
  unfold mgl at h
  split at h
  ·cases h
  ·rename_i hne
   rcases List.mem_cons.1 hp with rfl | hp
   ·exact λe=>hne e.symm
   ·exact AN h p hp
theorem tG {α:Type} {k:Int} {x:α}: ∀ {l:List (Int×α)},(l.map Prod.fst).Nodup->(k,x)∈l->mgl k l=some x
 | (j,y)::l,hn,hm=>by
  rw [List.map_cons,List.nodup_cons] at hn
  unfold mgl
  rcases List.mem_cons.1 hm with h | h
  ·injection h with h1 h2
   rw [if_pos h1,h2]
  ·split
   ·rename_i e
    exact absurd (List.mem_map_of_mem (f:=Prod.fst) h) (by rw [e]; exact hn.1)
   ·exact tG hn.2 h
theorem SL.add {P:List ByteArray} {l:List (Int×ByteArray)} (h:SL P l) {i:Nat} {d:ByteArray} (hi:P[i]?=some d) (hn:mgl (i:Int) l=none):SL P (msl (i:Int) d l)/\msl (i:Int) d l=l++[((i:Int),d)]:=by
 have e:=CK (i:Int) d l (AN hn)
 refine ⟨?_,e⟩
 rw [e]
 refine ⟨?_,λp hp=> ?_⟩
 ·rw [List.map_append,List.nodup_append]
  refine ⟨h.nd,by simp,λa ha b hb=> ?_⟩
  obtain ⟨p,hp,rfl⟩:=List.mem_map.1 ha
  simp at hb
  rw [hb]
  exact AN hn p hp
 ·rcases List.mem_append.1 hp with hp | hp
  ·exact h.at_ p hp
  ·rw [List.mem_singleton.1 hp]; exact ⟨i,rfl,hi⟩
theorem SL.le {P:List ByteArray} {l:List (Int×ByteArray)} (h:SL P l):l.length<=P.length/\(l.length=P.length -> ∀ i (hi:i < P.length),mgl (i:Int) l=some P[i]):=by
 have hk: ∀ p∈l,p.1=((p.1.toNat:Nat):Int):=λp hp=>by
  obtain ⟨i,e,_⟩:=h.at_ p hp
  rw [e]; simp
 have hnd:(l.map λp=>p.1.toNat).Nodup:=by
  have h1:=h.nd
  rw [List.nodup_iff_pairwise_ne] at h1 ⊢
  rw [List.pairwise_map] at h1 ⊢
  refine List.Pairwise.imp_of_mem ?_ h1
  intro a b ha hb hne e
  exact hne (by rw [hk a ha,hk b hb,e])
 obtain ⟨p1,p2⟩:=F6 P.length (l.map λp=>p.1.toNat) hnd (λx hx=>by
  obtain ⟨p,hp,rfl⟩:=List.mem_map.1 hx
  obtain ⟨i,e,hi⟩:=h.at_ p hp
  rw [e,Int.toNat_natCast]
  exact (List.getElem?_eq_some_iff.1 hi).1)
 rw [List.length_map] at p1 p2
 refine ⟨p1,λe i hi=> ?_⟩
 obtain ⟨p,hp,hpi⟩:=List.mem_map.1 (p2 e i hi)
 obtain ⟨j,ej,hj⟩:=h.at_ p hp
 have hji:j=i:=by rw [ej,Int.toNat_natCast] at hpi; exact hpi
 subst hji
 rw [List.getElem?_eq_getElem hi] at hj
 refine tG h.nd ?_
 rw [Option.some.inj hj,<- ej]
 exact hp
theorem BW {σ:Type} {s:cN} {n:Nat} (hc:s.count=(n:Int)) (hn:n<=1000000) (Y:σ->Int×Bool->Option (σ×Bool)) (S:Nat->σ) (h: ∀ i,i < n->Y (S i) ((i:Int),tW s.parts (i:Int))=some (S (i+1),true)):jW s Y (S 0)=some (S n):=by
 unfold jW
 refine fM (λi:Nat=>((i:Int),S i)) n (.inl (S n)) rfl ?_ ?_ rfl
 ·intro i hi
  dsimp only
  rw [hc,decide_eq_true (by omega),cond_true,h i hi,aA]
  dsimp only
  rw [Bool.not_true,cond_false,w64 (by omega) (by omega)]
  rfl
 ·dsimp only
  rw [hc,decide_eq_false (by omega),cond_false]
def qe (P:List ByteArray):List Int:=P.flatMap sbs
theorem wI (P:List ByteArray) (i:Nat) (h:i < P.length):qe (P.take (i+1))=qe (P.take i)++sbs P[i]:=by
 unfold qe
 rw [List.take_succ_eq_append_getElem h,List.flatMap_append]
 simp
theorem F7 {P:List ByteArray} {l:List (Int×ByteArray)} {id b:Int} (hid:1<=id) (h:SL P l) (hP:P.length<=4096) (hb:(qe P).length<=1000000) :
  lC ⟨id,(P.length:Int),some l,b⟩=some (if l.length < P.length then (noS,false) else (gX (qe P),true)):=by
 obtain ⟨h1,h2⟩:=h.le
 unfold lC
 dsimp only
 rw [eD (by omega),cond_false,aA]
 show (bif decide (((l.length:Nat):Int) < (P.length:Int)) then _ else _)=_
 by_cases c:l.length < P.length
 ·rw [decide_eq_true (by omega),cond_true,if_pos c]
  rfl
 ·rw [decide_eq_false (by omega),cond_false,if_neg c]
  have hall:=h2 (by omega)
  have hpre: ∀ i,(qe (P.take i)).length<=(qe P).length:=λi=>by
   have e:qe P=qe (P.take i)++qe (P.drop i):=by
    unfold qe
    rw [<- List.flatMap_append,List.take_append_drop]
   rw [e,List.length_append]
   omega
  have e:=BW (s:=⟨id,(P.length:Int),some l,b⟩) (n:=P.length) rfl (by omega) (λa f=>(Option.bind (eS (cW.mk a.addr a.buf) (mgd (some l) f.1 (ByteArray.mk #[]))) λd=>some ((cW.mk d.addr d.buf),true))) (λi=>cW.mk (decide (0 < i)) (qe (P.take i))) (λi hi=>by
   dsimp only
   have hg:mgd (some l) (i:Int) (ByteArray.mk #[])=P[i]:=by
    unfold mgd
    rw [Option.getD_some,hall i hi,Option.getD_some]
   have h3:=hpre (i+1)
   rw [wI P i hi,List.length_append,bB] at h3
   rw [hg]
   unfold eS
   rw [bL (by dsimp only; omega),aA,aA,wI P i hi]
   rfl)
  try dsimp only at e
  rw [show (cW.mk false ([]:List Int))=cW.mk (decide (0 < 0)) (qe (P.take 0)) from rfl,e,aA]
  try dsimp only
  rw [List.take_length]
  rfl
theorem BX {α:Type} [BEq α] [LawfulBEq α]: ∀ (A B:List α),A.Nodup->(∀ x∈A,x∈B)->A.length<=B.length
 | [],B,_,_=>Nat.zero_le _
 | a::A,B,h,hs=>by
  rw [List.nodup_cons] at h
  have ha:=hs a List.mem_cons_self
  have e:=List.length_erase_of_mem ha
  have hp:0 < B.length:=List.length_pos_of_mem ha
  have:=BX A (B.erase a) h.2 λx hx=>by
   have hne:x≠a:=λe=>h.1 (e ▸ hx)
   exact (List.mem_erase_of_ne hne).2 (hs x (List.mem_cons_of_mem _ hx))
  rw [List.length_cons]
  omega
theorem SL.full {P:List ByteArray} {l:List (Int×ByteArray)} (hall: ∀ i:Nat,i < P.length->(mgl (i:Int) l).isSome=true):P.length<=l.length:=by
 have h:=BX ((List.range P.length).map λi:Nat=>(i:Int)) (l.map Prod.fst) (by
  rw [List.nodup_iff_pairwise_ne,List.pairwise_map]
  exact (List.nodup_iff_pairwise_ne.1 List.nodup_range).imp λh e=>h (by omega)) (λx hx=>by
   obtain ⟨i,hi,rfl⟩:=List.mem_map.1 hx
   have:=hall i (List.mem_range.1 hi)
   rw [Option.isSome_iff_exists] at this
   obtain ⟨d,hd⟩:=this
   exact List.mem_map.2 ⟨((i:Int),d),xB hd,rfl⟩)
 simpa using h
def yz (l:List (Int×ByteArray)) (i:Nat) (d:ByteArray):List (Int×ByteArray):=if (mgl (i:Int) l).isSome then l else msl (i:Int) d l
def AtL (id:Int) (n:Nat) (s:cN) (l:List (Int×ByteArray)):Prop:=(s.key < id/\l=[]) \/ ∃ b,s=⟨id,(n:Int),some l,b⟩
theorem P5 {P:List ByteArray} {s:cN} {l:List (Int×ByteArray)} {id:Int} {i:Nat} (d:ByteArray) (h:AtL id P.length s l) (hid:1<=id) (hn:P.length<=4096) (hi:i < P.length) :
  ∃ b,mP s id (i:Int) (P.length:Int) d=some (0,⟨id,(P.length:Int),some (yz l i d),b⟩):=by
 unfold mP
 rw [decide_eq_false (by omega),cond_false,decide_eq_false (by omega),cond_false,decide_eq_false (by omega),cond_false,decide_eq_false (by omega),cond_false,decide_eq_false (by omega),aA,cond_false]
 rcases h with ⟨h1,rfl⟩ | ⟨b,rfl⟩
 ·rw [decide_eq_false (by omega),cond_false,decide_eq_true (by omega),cond_true,aA]
  dsimp only
  exact ⟨_,rfl⟩
 ·dsimp only
  rw [decide_eq_false (by omega),cond_false,cond_false,PR,cond_false,aA]
  dsimp only
  unfold yz
  show ∃ b',Option.bind (bif !(mgl (i:Int) l).isSome then _ else _) _=_
  cases hm:(mgl (i:Int) l).isSome with
  | true=>exact ⟨b,rfl⟩
  | false=>exact ⟨_,rfl⟩
theorem SL.yz {P:List ByteArray} {l:List (Int×ByteArray)} (h:SL P l) {i:Nat} (hi:i < P.length) :
  SL P (yz l i P[i])/\(mgl (i:Int) (X.yz l i P[i])).isSome=true/\(∀ j,(mgl j l).isSome=true->(mgl j (X.yz l i P[i])).isSome=true):=by
 unfold X.yz
 cases hm:(mgl (i:Int) l).isSome with
 | true=>exact ⟨h,hm,λ_ h=>h⟩
 | false =>
  have hn:mgl (i:Int) l=none:=by
   cases hg:mgl (i:Int) l with
   | none=>rfl
   | some x=>rw [hg] at hm; cases hm
  obtain ⟨h1,h2⟩:=h.add (List.getElem?_eq_getElem hi) hn
  refine ⟨h1,?_,λj hj=> ?_⟩
  ·have:mgl (i:Int) (msl (i:Int) P[i] l)=some P[i]:=tG h1.nd (by rw [h2]; exact List.mem_append_right _ (List.mem_singleton.2 rfl))
   rw [if_neg (by simp),this]
   rfl
  ·rw [Option.isSome_iff_exists] at hj
   obtain ⟨d,hd⟩:=hj
   have:mgl j (msl (i:Int) P[i] l)=some d:=tG h1.nd (by rw [h2]; exact List.mem_append_left _ (xB hd))
   rw [if_neg (by simp),this]
   rfl
theorem LD (d:ByteArray) (n:Nat) (h:1<=n):qe (uG d n)=sbs d:=by
 have hl:=xC d n
 have key: ∀ i,i<=pw d.size n->qe ((uG d n).take i)=sbs (iN d 0 ((min d.size (i*n):Nat):Int)):=by
  intro i
  induction i with
  | zero =>
   intro _
   rw [List.take_zero,Nat.zero_mul,Nat.min_zero,show (0:Int)=((0:Nat):Int) from rfl,gO]
   rfl
  | succ i ih =>
   intro hi
   have hil:i < (uG d n).length:=by omega
   have hg:(uG d n)[i]=vX d n i:=by simp [uG]
   rw [wI _ i hil,ih (by omega),hg,<- qU,IM d n i (PY h (by omega))]
 have hc:=CM d.size n
 have hge:d.size<=pw d.size n*n:=by
  have h2: ¬ (pw d.size n - 1)*n+n < d.size:=λe=>by have:=(AI (z:=d.size) (i:=pw d.size n - 1) h).2 e; omega
  have h3:(pw d.size n - 1)*n+n=pw d.size n*n:=by
   have:pw d.size n=(pw d.size n - 1)+1:=by omega
   rw [this,Nat.add_sub_cancel,Nat.add_mul,Nat.one_mul]
  omega
 have e:=key (pw d.size n) (Nat.le_refl _)
 rw [<- hl,List.take_length,hl,Nat.min_eq_left hge,BS] at e
 exact e
structure Msg (P:List ByteArray) (f x:aH):Prop where
 jo:gX (qe P)=m4 f x
 jl:(qe P).length<=1000000
 np:P.length<=4096
 gf:SG f
 gx:SG x
 nx:kO x=false
theorem LF {t:aV} {P:List ByteArray} {l:List (Int×ByteArray)} {id key base:Int} {i:Nat} (d:ByteArray) (hk:t.bZ.k < key) (hb:base=0\/base=t.bZ.k) (hA:AtL id P.length t.slot l) (hid:1<=id) (hn:P.length<=4096) (hi:i < P.length) :
  ∃ b,fQ t ⟨1,1,[id,key,base,(i:Int),(P.length:Int)],d⟩=some (0,⟨⟨id,(P.length:Int),some (yz l i d),b⟩,t.bZ⟩):=by
 obtain ⟨b,e⟩:=P5 d hA hid hn hi
 refine ⟨b,?_⟩
 unfold fQ
 have x0:idx [id,key,base,(i:Int),(P.length:Int)] 0=some id:=rfl
 have x1:idx [id,key,base,(i:Int),(P.length:Int)] 1=some key:=rfl
 have x2:idx [id,key,base,(i:Int),(P.length:Int)] 2=some base:=rfl
 have x3:idx [id,key,base,(i:Int),(P.length:Int)] 3=some (i:Int):=rfl
 have x4:idx [id,key,base,(i:Int),(P.length:Int)] 4=some (P.length:Int):=rfl
 dsimp only
 rw [show ((1:Int) != 1)=false from rfl,cond_false,show (([id,key,base,(i:Int),(P.length:Int)].length:Int) != 5)=false from rfl,cond_false,x1,aA,decide_eq_false (by omega),cond_false,x2]
 simp only [aA]
 have hq:((bif base != 0 then some (base != t.bZ.k) else some false):Option Bool)=some false:=by
  rcases hb with h | h
  ·rw [h]; rfl
  ·rw [h,PR]; cases t.bZ.k != 0 <;> rfl
 rw [hq,aA,cond_false,x0,aA,x3,aA,x4,aA,e,aA]
theorem IN {t:aV} {f x:aH} {P:List ByteArray} {l:List (Int×ByteArray)} {id base:Int} {i:Nat} (hM:Msg P f x) (hk:t.bZ.k < x.k) (hb:base=0/\f=kR\/base≠0/\base=t.bZ.k/\f=t.bZ) (hA:AtL id P.length t.slot l) (hl:SL P l) (hid:1<=id) (hi:i < P.length) :
  ∃ t',bO t ⟨1,1,[id,x.k,base,(i:Int),(P.length:Int)],P[i]⟩=some (0,t')/\((t'.slot=⟨0,0,none,0⟩/\t'.bZ=x /\ ¬ (yz l i P[i]).length < P.length) \/ ∃ l' b,t'=⟨⟨id,(P.length:Int),some l',b⟩,t.bZ⟩/\SL P l'/\l'.length < P.length/\l'=yz l i P[i]):=by
 obtain ⟨b,e⟩:=LF P[i] hk (hb.imp (λh=>h.1) λh=>h.2.1) hA hid hM.np hi
 obtain ⟨s1,s2,s3⟩:=hl.yz hi
 have hw:=F7 (b:=b) hid s1 hM.np hM.jl
 unfold bO
 rw [e,aA]
 dsimp only
 rw [show ((0:Int) != 0)=false from rfl,cond_false,hw,aA]
 by_cases c:(yz l i P[i]).length < P.length
 ·rw [if_pos c]
  dsimp only
  rw [Bool.not_false,cond_true]
  exact ⟨_,rfl,.inr ⟨_,b,rfl,s1,c,rfl⟩⟩
 ·rw [if_neg c]
  dsimp only
  have x1:idx [id,x.k,base,(i:Int),(P.length:Int)] 1=some x.k:=rfl
  have x2:idx [id,x.k,base,(i:Int),(P.length:Int)] 2=some base:=rfl
  have hf:((bif base != 0 then some t.bZ else some (aH.mk 0 0 0 0 0 (ByteArray.mk #[]) ([]:List aE) 0 0 ([]:List aJ))):Option aH)=some f:=by
   rcases hb with ⟨h1,h2⟩ | ⟨h1,h2,h3⟩
   ·rw [h1,h2]; rfl
   ·rw [show (base != 0)=true by simpa using h1,cond_true,h3]
  rw [Bool.not_true,cond_false,show ∀ s,mC s=some ⟨0,0,none,0⟩ from λs=>rfl,aA,x2,aA,hf,aA,hM.jo,Lj hM.gf hM.gx hM.nx hM.gf,ED hM.gf hM.gx hM.nx,aA]
  dsimp only
  rw [show ((0:Int) == 0)=true from rfl,cond_true,x1,aA,PR,aA,cond_false,aA,show ((0:Int) == 0)=true from rfl,cond_true,aA]
  exact ⟨_,rfl,.inl ⟨rfl,rfl,c⟩⟩
theorem AO {t:aV} {id key base i n:Int} (d:ByteArray) (hk:key<=t.bZ.k):bO t ⟨1,1,[id,key,base,i,n],d⟩=some (8,t):=by
 have e:fQ t ⟨1,1,[id,key,base,i,n],d⟩=some (8,t):=by
  unfold fQ
  dsimp only
  rw [show ((1:Int) != 1)=false from rfl,cond_false,show (([id,key,base,i,n].length:Int) != 5)=false from rfl,cond_false,show idx [id,key,base,i,n] 1=some key from rfl,aA,decide_eq_true hk,cond_true]
 unfold bO
 rw [e,aA]
 rfl
theorem Hr (k:Nat) {v:Int} (h1:v < 128 ^ (k+1)):(dF v).length<=k+1:=by
 refine wZ k _ ?_
 unfold clN
 have h2:((max 0 (min v 4611686018427387904)).toNat:Int) < ((128 ^ (k+1):Nat):Int):=by
  have h3:(0:Int) < 128 ^ (k+1):=Int.pow_pos (by decide)
  rw [Int.natCast_pow]
  show ((max 0 (min v 4611686018427387904)).toNat:Int) < (128:Int) ^ (k+1)
  omega
 exact Int.ofNat_lt.1 h2
theorem P6 {g:aJ} (h:gOk g):(sF g).length<=5:=by
 obtain ⟨⟨_,a⟩,_,b⟩:=h
 have h1:=Hr 2 (v:=g.rune) (by omega)
 have h2:=Hr 1 (v:=g.aM) (by omega)
 show ([g.rune,g.aM].flatMap dF).length<=5
 simp only [List.flatMap_cons,List.flatMap_nil,List.append_nil,List.length_append]
 omega
theorem Hs: ∀ (l:List aJ),gls l->(l.flatMap sF).length<=5*l.length
 | [],_=>Nat.le_refl _
 | g::l,h=>by
  have h1:=P6 (h g List.mem_cons_self)
  have h2:=Hs l λq hq=>h q (List.mem_cons_of_mem _ hq)
  rw [List.flatMap_cons,List.length_append,List.length_cons]
  omega
structure SQ (s:aH):Prop where
 g:SG s
 ne:kO s=false
 bg:gls s.begun
 bl:s.begun.length < 1024
 tl:s.title.size<=200
 rl:s.rows.length<=6
 rw_: ∀ r∈s.rows,r.cells.length<=10
theorem SQ.pk {s:aH} (h:SQ s):(s.rows.flatMap gT).length<=2214:=by
 have h1:=yi 10 s.rows h.rw_
 have:=h.rl
 have:s.rows.length*(9+36*10)<=6*369:=Nat.mul_le_mul this (by decide)
 omega
theorem SQ.ct {s:aH} (h:SQ s):CT1 s:=⟨h.g.sw,by have:=h.pk; omega⟩
theorem EL (l:List Int):(gX l).size=l.length:=nD l
theorem AP {a x:aH} (hx:SQ x):(m4 a x).size<=8000:=by
 unfold m4
 split
 ·show noS.size<=8000; decide
 ·rw [EL]
  unfold tE uF mZ
  have h1:=sL [((uC (n9 a):Nat):Int),x.k,x.w,x.h,x.x,x.y]
  have h2:=sL [x.len,x.chain]
  have h3:=dO (x.title.size:Int)
  have h4:=dO ((chg a.rows x.rows).length:Int)
  have h5:=dO (x.begun.length:Int)
  have h6:=Hs x.begun hx.bg
  have h7:=CJ a.rows x.rows x.rows.length (Nat.le_refl _)
  have h8:=hx.pk
  have h9:=hx.rl
  have h10:=hx.bl
  have h11:=hx.tl
  rw [List.take_length] at h7
  simp only [List.length_append,bB]
  simp only [List.length_cons,List.length_nil] at h1 h2
  show _<=8000
  have h12:(pch x.rows (chg a.rows x.rows)).length<=9*x.rows.length+(x.rows.flatMap gT).length:=h7
  omega
theorem IP {a x:aH} (hx:SQ x) {p:Nat} (hp:4<=p):(uG (m4 a x) p).length<=2001:=by
 rw [xC]
 unfold pw
 have h:=AP (a:=a) hx
 have:((m4 a x).size+p - 1) / p<=2001:=by
  refine Nat.div_le_of_le_mul ?_
  have:4*2001<=p*2001:=Nat.mul_le_mul_right _ hp
  have e:p*2001=p*2000+p:=by omega
  have:4*2000<=p*2000:=Nat.mul_le_mul_right _ hp
  omega
 omega
theorem P7 {a x:aH} (ga:SG a) (hx:SQ x) {p:Nat} (hp:4<=p):Msg (uG (m4 a x) p) a x:=by
 have hj:=LD (m4 a x) p (by omega)
 have hs:=AP (a:=a) hx
 exact ⟨by rw [hj,xc],by rw [hj,bB]; omega,by have:=IP (a:=a) hx hp; omega,ga,hx.g,hx.ne⟩
def grm (id key base:Int) (P:List ByteArray) (i:Nat):cH:=⟨1,1,[id,key,base,(i:Int),(P.length:Int)],(P[i]?).getD noS⟩
theorem LG {id key base:Int} {P:List ByteArray} {i:Nat} (h:i < P.length):grm id key base P i=⟨1,1,[id,key,base,(i:Int),(P.length:Int)],P[i]⟩:=by
 unfold grm
 rw [List.getElem?_eq_getElem h]
 rfl
def AtZ (id:Int) (n:Nat) (s:cN) (l:List (Int×ByteArray)):Prop:=(s=⟨0,0,none,0⟩/\l=[]) \/ ∃ b,s=⟨id,(n:Int),some l,b⟩
theorem AtZ.toL {id:Int} {n:Nat} {s:cN} {l:List (Int×ByteArray)} (h:AtZ id n s l) (hid:1<=id):AtL id n s l:=h.imp (λ⟨h1,h2⟩=>⟨by rw [h1]; show (0:Int) < id; omega,h2⟩) λh=>h
inductive On (P:List ByteArray) (id:Int) (a x:aH) (t:aV) (hs:Nat->Prop):Prop where
 | done (h1:t.slot=⟨0,0,none,0⟩) (h2:t.bZ=x)
 | part (l:List (Int×ByteArray)) (h1:AtZ id P.length t.slot l) (h2:SL P l) (h3:l.length < P.length) (h4:t.bZ=a) (h5: ∀ i,hs i->(mgl (i:Int) l).isSome=true)
theorem NS {P:List ByteArray} {id base:Int} {a f x:aH} {t:aV} {hs:Nat->Prop} (hM:Msg P f x) (hk:a.k < x.k) (hb:base=0/\f=kR\/base≠0/\base=a.k/\f=a) (hid:1<=id) (h:On P id a x t hs) {i:Nat} (hi:i < P.length) :
  ∃ e t',bO t (grm id x.k base P i)=some (e,t')/\On P id a x t' (λj=>hs j\/j=i)/\(e=0\/e=8/\t'.bZ=x):=by
 rw [LG hi]
 cases h with
 | done h1 h2=>exact ⟨8,t,AO _ (by rw [h2]; exact Int.le_refl _),.done h1 h2,.inr ⟨rfl,h2⟩⟩
 | part l h1 h2 h3 h4 h5 =>
  obtain ⟨t',e1,e2⟩:=IN (t:=t) (i:=i) hM (by rw [h4]; exact hk) (by rw [h4]; exact hb) (h1.toL hid) h2 hid hi
  refine ⟨0,t',e1,?_,.inl rfl⟩
  rcases e2 with ⟨e2,e3,_⟩ | ⟨l',b,rfl,e3,e4,rfl⟩
  ·exact .done e2 e3
  ·obtain ⟨_,s2,s3⟩:=h2.yz hi
   refine .part _ (.inr ⟨b,rfl⟩) e3 e4 h4 λj hj=> ?_
   rcases hj with hj | rfl
   ·exact s3 _ (h5 j hj)
   ·exact s2
theorem LH {P:List ByteArray} {id:Int} {a x:aH} {t:aV} {hs:Nat->Prop} (h:On P id a x t hs) (hall: ∀ i,i < P.length->hs i):t.slot=⟨0,0,none,0⟩/\t.bZ=x:=by
 cases h with
 | done h1 h2=>exact ⟨h1,h2⟩
 | part l h1 h2 h3 h4 h5 =>
  have:=SL.full (l:=l) (P:=P) λi hi=>h5 i (hall i hi)
  omega
theorem On.mono {P:List ByteArray} {id:Int} {a x:aH} {t:aV} {hs hs':Nat->Prop} (h:On P id a x t hs) (hh: ∀ i,hs' i->hs i):On P id a x t hs':=by
 cases h with
 | done h1 h2=>exact .done h1 h2
 | part l h1 h2 h3 h4 h5=>exact .part l h1 h2 h3 h4 λi hi=>h5 i (hh i hi)
theorem IQ {m:bH} (h:m.there=List.replicate m.parts.length false):CN m=(List.range m.parts.length).map (grm m.id m.key m.base m.parts):=by
 unfold CN
 rw [LC h,List.map_map]
 rfl
theorem EN {t:aV} (h:t.slot=⟨0,0,none,0⟩):jX t=some ⟨1,2,[t.bZ.k,0],gX []⟩:=by
 unfold jX
 rw [h,show m8 ⟨0,0,none,0⟩=some 0 from rfl,aA]
 have e1:IntKind.i64.wrap ((IntKind.i64.wrap ((IntKind.i64.wrap ((0:Int)+8)) - 1)).tdiv 8)=0:=by decide
 have e2:mc ⟨0,0,none,0⟩=some []:=by
  unfold mc m9
  have:=BW (s:=⟨0,0,none,0⟩) (n:=0) rfl (by decide) (λs32 x3=>(bif (x3.2 == true) then (Option.bind (chk (eH s32.length [x3.1].length 8)) λ_=>some ((s32++[x3.1]),true)) else some (s32,true))) (λ_=>([]:List Int)) (λi hi=>absurd hi (Nat.not_lt_zero i))
  rw [this]
  rfl
 rw [e1,show chk (HD 0 1)=some () from nq (by decide),aA,e2,aA]
 refine fM (λ_=>((0:Int),([]:List Int))) 0 [] rfl (λi hi=>absurd hi (Nat.not_lt_zero i)) rfl ?_
 rfl
structure MQ (N:Nat) (m:bD) (z:Zt):Prop where
 ex: ∃ W x,W<=10/\MX W (484000*N) N z m x
 g:MG m z
 h:m.aW.g.l.length<=6
theorem P8 {w h:Int} (hw:w<=10) (hh:h<=6):MQ 0 (Nr w h) ([],[]):=by
 refine ⟨⟨szN w,_,by unfold szN; omega,PL w h⟩,PO w h,?_⟩
 show (List.replicate (szN h) (jQ (szN w) 0)).length<=6
 rw [List.length_replicate]
 unfold szN
 omega
theorem Rc {N:Nat} {m:bD} {z:Zt} (h:MQ N m z) (hN:N<=90) {e:Ff} (ht:e.text.size<=60) (hw:e.w<=10\/1000 < e.w) (hh:e.h<=6\/1000 < e.h) :
  ∃ f m' z',eZ m ⟨e.kind,e.text,e.w,e.h⟩=some (f,m')/\MQ (N+1) m' z'/\m.k<=m'.k/\(f=0->m'.k=m.k+1)/\(f≠0->m'=m/\z'=z):=by
 obtain ⟨W,x,hW,hx⟩:=h.ex
 by_cases hc:AF e.kind e.text.size e.w e.h=0
 ·by_cases hk0:e.kind=0
  ·obtain ⟨ek,et,ew,eh⟩:=e
   dsimp only at hk0 ht hc hw hh ⊢
   subst hk0
   have e1:=FZ hx (by omega) (by omega) (t:=et) (by omega) ew eh
   have h1:=KS hx (t:=et) (by omega)
   have hl1:=hx.si.gi.l1
   have hl2:=hx.si.gi.l2
   refine ⟨0,_,_,e1,⟨⟨W,_,hW,h1.mono (by omega) (Nat.le_refl _)⟩,KX hx h.g et _ _,?_⟩,by dsimp only; omega,λ_=>rfl,λe=>absurd rfl e⟩
   have:=(En (W:=W) (prun m.parser (sbs et)).out (y:=(m.aW,z)) ⟨rfl,hl1,hl2⟩).e
   dsimp only at this ⊢
   rw [this]
   exact h.h
  ·by_cases hk1:e.kind=1
   ·obtain ⟨ek,et,ew,eh⟩:=e
    dsimp only at hk1 ht hc hw hh ⊢
    subst hk1
    have hb:1<=ew/\ew<=1000/\1<=eh/\eh<=1000:=by
     unfold AF at hc
     rw [if_neg (by decide),if_pos rfl] at hc
     split at hc
     ·exact absurd hc (by decide)
     ·omega
    refine ⟨0,_,_,KT hx (by omega) hN hc,⟨⟨szN ew,_,by unfold szN; omega,(Nt hx ew eh).mono (by omega) (Nat.le_refl _)⟩,Nv h.g ew eh _ _,?_⟩,by dsimp only; omega,λ_=>rfl,λe=>absurd rfl e⟩
    show (rzL (szN ew) m.aW.g.l _ (szN eh)).length<=6
    rw [qT]
    unfold szN
    omega
   ·exfalso
    unfold AF at hc
    rw [if_neg hk0,if_neg hk1] at hc
    exact absurd hc (by decide)
 ·exact ⟨_,m,z,Nq m ⟨e.kind,e.text,e.w,e.h⟩ hc,⟨⟨W,x,hW,hx.mono (by omega) (by omega)⟩,h.g,h.h⟩,Int.le_refl _,λe=>absurd e hc,λ_=>⟨rfl,rfl⟩⟩
theorem zx {N:Nat} {m:bD} {z:Zt} (h:MQ N m z) (hN:N<=90):fE m=some (sOf m z,m)/\SQ (sOf m z)/\1<=(sOf m z).k/\(sOf m z).k=m.k+1/\m.k<=N:=by
 obtain ⟨W,x,hW,hx⟩:=h.ex
 have hk0:=hx.k0
 have hkN:=hx.kN
 have hrw: ∀ r∈(sOf m z).rows,r.cells.length<=10:=λr hr=>by
  have:=(hx.si.gi.rs r hr).1
  omega
 have hpk:((sOf m z).rows.flatMap gT).length<=12000:=by
  have h1:=yi 10 (sOf m z).rows hrw
  have h2:(sOf m z).rows.length<=6:=h.h
  have:(sOf m z).rows.length*(9+36*10)<=6*369:=Nat.mul_le_mul h2 (by decide)
  omega
 refine ⟨KY hx (by omega) (by omega),⟨⟨PQ hx h.g,hpk,Ny hx h.g (by omega) (by omega)⟩,?_,h.g.zg.b,hx.zi.b,h.g.sc.t,h.h,hrw⟩,?_,rfl,hkN⟩
 ·unfold kO
  rw [show (sOf m z).k=m.k+1 from rfl,eD (by omega)]
  rfl
 ·show 1<=m.k+1
  omega
theorem NT (d:ByteArray) (p:Nat):0 < (uG d p).length:=by rw [xC]; exact CM _ _
def Re:aV:=⟨⟨0,0,none,0⟩,kR⟩
theorem NU:rA=some Re:=rfl
theorem LI {t:aV} (h:SW t.bZ):lD t=some t.bZ:=by
 unfold lD
 rw [yh _ h,aA]
theorem BY {α:Type} (f:Nat->α) (n i:Nat) (h:i < n):idx ((List.range n).map f) (i:Int)=some (f i):=by
 rw [dB _ i (by simpa using h)]
 simp
theorem Ox (a b:Int) (d:ByteArray):iK ⟨1,2,[a,b],d⟩ 0=some a:=rfl
theorem num_1 (a b:Int) (d:ByteArray):iK ⟨1,2,[a,b],d⟩ 1=some b:=rfl
theorem EO:(gX []).size<=1000000:=by rw [EL]; show 0<=1000000; decide
end Go.Tw.X
set_option maxHeartbeats 2000000
namespace Go.Tw.X
open Go Go.Tw
structure MD (N:Nat) (y x:aH) (s:aK) (t:aV):Prop where
 si:SNI s
 cf:s.config=(nuS ⟨25,1,5⟩).config
 cu:s.current=x
 ac:s.aN=y
 hv:t.bZ=y
 sl:t.slot=⟨0,0,none,0⟩
 gy:SG y
 xy:x=y\/SQ x/\y.k < x.k
 y0:y.k=0->y=kR
 yp:0<=y.k
 mg:s.message.id=0\/s.message.key<=y.k
 kp: ∀ z∈s.kept,z.k<=y.k
 n1:1<=s.next
 nN:s.next<=N+1
theorem MD.le {N:Nat} {y x:aH} {s:aK} {t:aV} (h:MD N y x s t):y.k<=x.k:=by
 rcases h.xy with e | ⟨_,q⟩
 ·rw [e]; exact Int.le_refl _
 ·omega
theorem P9:MD 0 kR kR (nuS ⟨25,1,5⟩) Re:=⟨P3 _,rfl,rfl,rfl,rfl,rfl,NH,.inl rfl,λ_=>rfl,Int.le_refl _,.inl rfl,λz hz=>(by cases hz),Int.le_refl _,Int.le_refl _⟩
theorem Ht {N:Nat} {y x:aH} {s:aK} {t:aV} (h:MD N y y s t) (hx:SQ x) (hxy:x=y\/y.k < x.k):fF s x=some (xD s x)/\MD N y x (xD s x).2 t:=by
 have hn:=NR h.si hx.ct
 refine ⟨LB s x hx.g.sw,?_⟩
 unfold xD at hn ⊢
 rcases hxy with e | e
 ·subst e
  rw [if_pos (.inr (by rw [h.cu]; exact Int.le_refl _))]
  exact h
 ·have c: ¬ (pA x=false\/x.k<=s.current.k):=by
   rw [hx.g.may,h.cu]
   exact λh=>h.elim (λh=>by cases h) (λh=>by omega)
  rw [if_neg c] at hn ⊢
  exact ⟨hn,h.cf,rfl,h.ac,h.hv,h.sl,h.gy,.inr ⟨hx,e⟩,h.y0,h.yp,h.mg,h.kp,h.n1,h.nN⟩
theorem Hu {x:aH}: ∀ {l:List aH},(∀ z∈l,z.k < x.k)->fk x.k (l++[x])=l.length
 | [],_=>by
  show (if x.k=x.k then 0 else _)=0
  rw [if_pos rfl]
 | z::l,h=>by
  have h1:=h z (List.mem_cons_self ..)
  rw [List.cons_append]
  unfold fk
  rw [if_neg (by omega),Hu λq hq=>h q (List.mem_cons_of_mem _ hq),List.length_cons]
theorem Hv {N:Nat} {y x:aH} {s:aK} {t:aV} (h:MD N y x s t) (hN:N<=1000) (now:Int) :
  ∃ (id:Int) (P:List ByteArray),1<=id/\(rI s now).1=(List.range P.length).map (grm id x.k y.k P)/\P.length<=4096/\(x=y/\P=[]\/y.k < x.k/\Msg P y x/\0 < P.length)/\SNI (rI s now).2 /\
   ∀ d t',t'.bZ=x->t'.slot=⟨0,0,none,0⟩->MD (N+1) x x (EK (rI s now).2 x.k 0 d).2 t':=by
 have hs2:=NL now h.si
 have hn1:=h.n1
 have hnN:=h.nN
 by_cases c:x=y
 ·have hk:s.current.k=s.aN.k:=by rw [h.cu,h.ac,c]
  rw [IK now hk] at hs2 ⊢
  refine ⟨1,[],Int.le_refl _,rfl,Nat.zero_le _,.inl ⟨c,rfl⟩,hs2,λd t' e1 e2=> ?_⟩
  have ha:EK ⟨s.config,s.current,s.aN,s.kept,EH,s.next⟩ x.k 0 d=(false,⟨s.config,s.current,s.aN,s.kept,EH,s.next⟩):=by
   unfold EK
   dsimp only
   rw [if_pos (.inl (by rw [h.ac,c]; exact Int.le_refl _))]
   unfold jC
   rw [if_neg (λh=>absurd h.2 (by decide))]
  rw [ha]
  subst c
  exact ⟨hs2,h.cf,h.cu,h.ac,e1,e2,h.gy,.inl rfl,h.y0,h.yp,.inl rfl,h.kp,h.n1,by show s.next<=_; omega⟩
 ·obtain ⟨hq,hlt⟩:SQ x/\y.k < x.k:=by
   rcases h.xy with e | e
   ·exact absurd e c
   ·exact e
  have hk:s.current.k≠s.aN.k:=by rw [h.cu,h.ac]; omega
  have hf:uH s=true:=by
   unfold uH
   rcases h.mg with e | e
   ·rw [e]; rfl
   ·have:(s.message.key != s.current.k)=true:=by
     rw [h.cu]
     simp
     omega
    rw [this]
    simp
  rw [F5 now hk hf] at hs2 ⊢
  have hp4:4<=ptN s.config.part:=by rw [h.cf]; decide
  have hM:Msg (uG (m4 y x) (ptN s.config.part)) y x:=P7 h.gy hq hp4
  have hnp:=hM.np
  have hpos:=NT (m4 y x) (ptN s.config.part)
  have hw:IntKind.i64.wrap (s.next+1)=s.next+1:=w64 (by omega) (by omega)
  refine ⟨s.next,uG (m4 y x) (ptN s.config.part),hn1,?_,by omega,.inr ⟨hlt,hM,by omega⟩,hs2,λd t' e1 e2=> ?_⟩
  ·rw [<- h.cu,<- h.ac]
   exact IQ (m:=NJ s now) rfl
  ·have hkp: ∀ z∈s.kept,z.k < x.k:=λz hz=>by have:=h.kp z hz; omega
   have hnk:sM s=s.kept++[x]:=by
    unfold sM
    have:has s.current.k s.kept=false:=by
     unfold has
     rw [List.any_eq_false]
     intro z hz
     have:=hkp z hz
     rw [h.cu]
     simp
     omega
    rw [this,h.cu]
    rfl
   generalize hS:NK (EE s now) (IntKind.i64.wrap (now+s.config.every))=S at hs2 ⊢
   have g1:S.config=s.config:=by rw [<- hS]; rfl
   have g2:S.current=x:=by rw [<- hS]; exact h.cu
   have g3:S.aN=y:=by rw [<- hS]; exact h.ac
   have g4:S.next=s.next+1:=by rw [<- hS]; exact hw
   have g5:S.message.key=x.k:=by rw [<- hS,<- h.cu]; rfl
   obtain ⟨l,g6,hl⟩: ∃ l,S.kept=l++[x] /\ ∀ z∈l,z.k < x.k:=by
    refine ⟨s.kept.drop ((sM s).length - s.config.most.toNat),?_,λz hz=>hkp z (List.mem_of_mem_drop hz)⟩
    rw [<- hS]
    show (sM s).drop ((sM s).length - s.config.most.toNat)=_
    have hm:s.config.most.toNat=5:=by rw [h.cf]; rfl
    rw [hm,hnk,List.drop_append_of_le_length (by rw [List.length_append,List.length_singleton]; omega)]
   have hfk:fk x.k S.kept=l.length:=by rw [g6]; exact Hu hl
   have ha:=P2 x.k 0 d hs2
   unfold EK at ha ⊢
   rw [if_neg (by rw [g2,g3]; omega),if_pos (by rw [hfk,g6,List.length_append,List.length_singleton]; omega)] at ha ⊢
   have hm0:jC S 0 d=S:=by
    unfold jC
    rw [if_neg (λh=>absurd h.2 (by decide))]
   have hget:(S.kept[fk x.k S.kept]?).getD kR=x:=by
    rw [hfk,g6,List.getElem?_append_right (Nat.le_refl _),Nat.sub_self]
    rfl
   have hdr:S.kept.drop (fk x.k S.kept+1)=[]:=by
    rw [hfk,g6]
    exact List.drop_eq_nil_of_le (by rw [List.length_append,List.length_singleton]; omega)
   rw [hm0,hget,hdr] at ha ⊢
   exact ⟨ha,by rw [<- h.cf]; exact g1,g2,rfl,e1,e2,hq.g,.inl rfl,λe=>(by have:=h.yp; omega),by have:=h.yp; omega,.inr (by show S.message.key<=x.k; rw [g5]; exact Int.le_refl _),λz hz=>(by cases hz),by show 1<=S.next; omega,by show S.next<=_; omega⟩
def Old (k:Int) (g:cH):Prop:= ∃ (id key base:Int) (P:List ByteArray) (i:Nat),i < P.length/\key<=k/\g=grm id key base P i
theorem Old.more {k k':Int} {g:cH} (h:Old k g) (hk:k<=k'):Old k' g:=by
 obtain ⟨id,key,base,P,i,h1,h2,h3⟩:=h
 exact ⟨id,key,base,P,i,h1,by omega,h3⟩
theorem LJ {P:List ByteArray} {id:Int} {y x:aH} {t:aV} {hs:Nat->Prop} (h:On P id y x t hs) (hle:y.k<=x.k) {g:cH} (hg:Old y.k g):bO t g=some (8,t):=by
 obtain ⟨id',key,base,P',i,h1,h2,rfl⟩:=hg
 rw [LG h1]
 cases h with
 | done k1 k2=>exact AO _ (by rw [k2]; omega)
 | part l k1 k2 k3 k4 k5=>exact AO _ (by rw [k4]; exact h2)
theorem xE {P:List ByteArray} {id:Int} {y x:aH} {t:aV} {hs:Nat->Prop} (hid:1<=id) (hc:x=y/\P=[]\/y.k < x.k/\Msg P y x/\0 < P.length) (hy:y.k=0->y=kR) (h:On P id y x t hs) {i:Nat} (hi:i < P.length) :
  ∃ e t',bO t (grm id x.k y.k P i)=some (e,t')/\On P id y x t' (λj=>hs j\/j=i):=by
 rcases hc with ⟨_,e⟩ | ⟨h1,h2,_⟩
 ·rw [e] at hi
  exact absurd hi (Nat.not_lt_zero _)
 ·obtain ⟨e,t',e1,e2,_⟩:=NS h2 h1 (base:=y.k) (by
   by_cases c:y.k=0
   ·exact .inl ⟨c,hy c⟩
   ·exact .inr ⟨c,rfl,rfl⟩) hid h hi
  exact ⟨e,t',e1,e2⟩
theorem EP {N:Nat} {y x:aH} {s:aK} {t:aV} (h:MD N y x s t) {P:List ByteArray} {id:Int} (hc:x=y/\P=[]\/y.k < x.k/\Msg P y x/\0 < P.length):On P id y x t (λ_=>False):=by
 rcases hc with ⟨e1,_⟩ | ⟨_,_,e3⟩
 ·exact .done h.sl (by rw [h.hv,e1])
 ·exact .part [] (.inl ⟨h.sl,rfl⟩) (P4 P) e3 h.hv λ_ h=>h.elim
theorem NV {id key base:Int} {P:List ByteArray} {i j:Nat} (h:grm id key base P i=grm id key base P j):i=j:=by
 have:=congrArg (λg=>g.bJ) h
 simp [grm] at this
 omega
theorem IS {P:List ByteArray} {id:Int} {y x:aH} {t:aV} (hid:1<=id) (hP:P.length<=4096) (hc:x=y/\P=[]\/y.k < x.k/\Msg P y x/\0 < P.length) (hy:y.k=0->y=kR) (h:On P id y x t (λ_=>False)) {G:List cH} (hG:G=(List.range P.length).map (grm id x.k y.k P)) :
  ∃ t',iter (σ:=aV×Int) (ρ:=aV) (λa=>(bif (decide (a.2 < (G.length:Int))) then (Option.bind (idx G a.2) λb=>(Option.bind (bO a.1 b) λd=>some (.inl (d.2,(IntKind.i64.wrap (a.2+1)))))) else some (.inr a.1))) (t,0)=some t'/\t'.slot=⟨0,0,none,0⟩/\t'.bZ=x:=by
 have hGl:G.length=P.length:=by rw [hG]; simp
 have key:=qP (σ:=aV×Int) (ρ:=aV) (f:=λa=>(bif (decide (a.2 < (G.length:Int))) then (Option.bind (idx G a.2) λb=>(Option.bind (bO a.1 b) λd=>some (.inl (d.2,(IntKind.i64.wrap (a.2+1)))))) else some (.inr a.1)))
  (λs=> ∃ k:Nat,s.2=(k:Int)/\k<=P.length/\On P id y x s.1 (λj=>j < k)) (λs=>P.length - s.2.toNat) (λt'=>On P id y x t' (λj=>j < P.length)) (by
   rintro ⟨q,k'⟩ ⟨k,k1,k2,k3⟩
   dsimp only at k1 k2 k3 ⊢
   subst k1
   by_cases c:k < P.length
   ·left
    obtain ⟨e,t',e1,e2⟩:=xE hid hc hy k3 c
    rw [decide_eq_true (by omega),cond_true,hG,BY _ _ _ c,aA,e1,aA,w64 (by omega) (by omega)]
    exact ⟨_,rfl,⟨k+1,by dsimp only; omega,by omega,e2.mono λi hi=>by omega⟩,by dsimp only; omega⟩
   ·right
    rw [decide_eq_false (by omega),cond_false]
    exact ⟨_,rfl,k3.mono λi hi=>by omega⟩) (t,0) ⟨0,rfl,Nat.zero_le _,h.mono λi hi=>absurd hi (Nat.not_lt_zero _)⟩
 obtain ⟨t',e,h2⟩:=key
 obtain ⟨h3,h4⟩:=LH h2 λi hi=>hi
 exact ⟨t',e,h3,h4⟩
structure MV (m:bD) (z:Zt) (y:aH):Prop where
 v:y=kR\/y=sOf m z
theorem Hw {N:Nat} {m m':bD} {z z':Zt} {y:aH} (h:MV m z y) (hm:MQ N m z) (hm':MQ (N+1) m' z') (hN:N<=40) {f:Int} (h1:f=0->m'.k=m.k+1) (h2:f≠0->m'=m/\z'=z):sOf m' z'=y\/y.k < (sOf m' z').k:=by
 obtain ⟨_,_,q1,q2,_⟩:=zx hm' (by omega)
 obtain ⟨_,_,r1,r2,_⟩:=zx hm (by omega)
 rcases h.v with e | e
 ·right
  rw [e]
  show (0:Int) < _
  omega
 ·by_cases c:f=0
  ·right
   have:=h1 c
   rw [e]
   omega
  ·left
   obtain ⟨e1,e2⟩:=h2 c
   rw [e1,e2,e]
theorem LK {N:Nat} {m:bD} {z:Zt} {y:aH} (h:MV m z y) (hm:MQ N m z) (hN:N<=40):sOf m z=y\/y.k < (sOf m z).k:=Hw h hm (MQ.mk (by
 obtain ⟨W,x,hW,hx⟩:=hm.ex
 exact ⟨W,x,hW,hx.mono (by omega) (by omega)⟩) hm.g hm.h) hN (f:=1) (λe=>absurd e (by decide)) (λ_=>⟨rfl,rfl⟩)
theorem F8 {P:List ByteArray} {id:Int} {y x:aH} {t:aV} (hid:1<=id) (hP:P.length<=4096) (hc:x=y/\P=[]\/y.k < x.k/\Msg P y x/\0 < P.length) (hle:y.k<=x.k) (hy:y.k=0->y=kR) (h:On P id y x t (λ_=>False)) {G:List cH} (hG:G=(List.range P.length).map (grm id x.k y.k P)) (late:List Int) (n:Nat) (kl:List cH) (hk: ∀ g∈kl,Old y.k g) (hkl:kl.length<=1000000) :
  ∃ kl' t',iter (σ:=aV×Int×(List cH)) (ρ:=(List cH)×aV) (λa=>(bif (decide (a.2.1 < (G.length:Int))) then (Option.bind ((Option.bind (idx G a.2.1) λd=>(Option.bind ((bif (decide ((n:Int) < (late.length:Int))) then (Option.bind (idx late (n:Int)) λm=>some (a.2.1 == m)) else some false):Option Bool) λp=>(bif p then (Option.bind (chk (eH a.2.2.length [d].length 56)) λ_=>some ((a.2.2++[d]),a.1)) else (Option.bind (bO a.1 d) λu=>(Option.bind (bO u.2 d) λv=>some (a.2.2,v.2)))))):Option ((List cH)×aV)) λo=>some (.inl (o.2,(IntKind.i64.wrap (a.2.1+1)),o.1))) else some (.inr (a.2.2,a.1)))) (t,0,kl)=some (kl',t')/\kl'.length<=kl.length+P.length/\(∀ g∈kl',Old y.k g \/ ∃ j:Nat,j < P.length/\g=grm id x.k y.k P j)/\On P id y x t' (λj=>j < P.length/\grm id x.k y.k P j ∉ kl'):=by
 have hGl:G.length=P.length:=by rw [hG]; simp
 have key:=qP (σ:=aV×Int×(List cH)) (ρ:=(List cH)×aV) (f:=λa=>(bif (decide (a.2.1 < (G.length:Int))) then (Option.bind ((Option.bind (idx G a.2.1) λd=>(Option.bind ((bif (decide ((n:Int) < (late.length:Int))) then (Option.bind (idx late (n:Int)) λm=>some (a.2.1 == m)) else some false):Option Bool) λp=>(bif p then (Option.bind (chk (eH a.2.2.length [d].length 56)) λ_=>some ((a.2.2++[d]),a.1)) else (Option.bind (bO a.1 d) λu=>(Option.bind (bO u.2 d) λv=>some (a.2.2,v.2)))))):Option ((List cH)×aV)) λo=>some (.inl (o.2,(IntKind.i64.wrap (a.2.1+1)),o.1))) else some (.inr (a.2.2,a.1))))
  (λs=> ∃ k:Nat,s.2.1=(k:Int)/\k<=P.length/\s.2.2.length<=kl.length+k/\(∀ g∈s.2.2,Old y.k g \/ ∃ j:Nat,j < P.length/\g=grm id x.k y.k P j)/\On P id y x s.1 (λj=>j < k/\grm id x.k y.k P j ∉ s.2.2)) (λs=>P.length - s.2.1.toNat)
  (λr=>r.1.length<=kl.length+P.length/\(∀ g∈r.1,Old y.k g \/ ∃ j:Nat,j < P.length/\g=grm id x.k y.k P j)/\On P id y x r.2 (λj=>j < P.length/\grm id x.k y.k P j ∉ r.1)) (by
   rintro ⟨q,k',l⟩ ⟨k,k1,k2,k3,k4,k5⟩
   dsimp only at k1 k2 k3 k4 k5 ⊢
   subst k1
   by_cases c:k < P.length
   ·left
    have hb: ∃ b:Bool,((bif (decide ((n:Int) < (late.length:Int))) then (Option.bind (idx late (n:Int)) λm=>some ((k:Int) == m)) else some false):Option Bool)=some b:=by
     by_cases c1:n < late.length
     ·rw [decide_eq_true (by omega),cond_true,dB late n c1,aA]
      exact ⟨_,rfl⟩
     ·rw [decide_eq_false (by omega),cond_false]
      exact ⟨_,rfl⟩
    obtain ⟨b,eb⟩:=hb
    rw [decide_eq_true (by omega),cond_true,hG,BY _ _ _ c,aA,eb,aA]
    cases b with
    | true =>
     rw [cond_true,bL (by simp; omega),aA,aA,w64 (by omega) (by omega)]
     refine ⟨_,rfl,⟨k+1,by dsimp only; omega,by omega,by dsimp only; simp; omega,λg hg=> ?_,k5.mono λi hi=> ?_⟩,by dsimp only; omega⟩
     ·rcases List.mem_append.1 hg with hg | hg
      ·exact k4 g hg
      ·exact .inr ⟨k,c,List.mem_singleton.1 hg⟩
     ·refine ⟨?_,λhm=>hi.2 (List.mem_append_left _ hm)⟩
      have h1:=hi.1
      have h2:i≠k:=λe=>hi.2 (by rw [e]; exact List.mem_append_right _ (List.mem_singleton.2 rfl))
      omega
    | false =>
     obtain ⟨e,t',e1,e2⟩:=xE hid hc hy k5 c
     obtain ⟨e',t2,e3,e4⟩:=xE hid hc hy e2 c
     rw [cond_false,e1,aA,e3,aA,aA,w64 (by omega) (by omega)]
     refine ⟨_,rfl,⟨k+1,by dsimp only; omega,by omega,by dsimp only; omega,k4,e4.mono λi hi=> ?_⟩,by dsimp only; omega⟩
     by_cases h2:i=k
     ·exact .inr h2
     ·exact .inl (.inl ⟨by have:=hi.1; omega,hi.2⟩)
   ·right
    have hk:k=P.length:=by omega
    subst hk
    rw [decide_eq_false (by omega),cond_false]
    exact ⟨_,rfl,k3,k4,k5⟩) (t,0,kl) ⟨0,rfl,Nat.zero_le _,Nat.le_refl _,λg hg=> .inl (hk g hg),h.mono λi hi=>absurd hi.1 (Nat.not_lt_zero _)⟩
 obtain ⟨⟨kl',t'⟩,e,h2,h3,h4⟩:=key
 exact ⟨kl',t',e,h2,h3,h4⟩
theorem F9 {P:List ByteArray} {id:Int} {y x:aH} {t:aV} (hid:1<=id) (hc:x=y/\P=[]\/y.k < x.k/\Msg P y x/\0 < P.length) (hle:y.k<=x.k) (hy:y.k=0->y=kR) {kl:List cH} (hkl:kl.length<=1000000) (hk: ∀ g∈kl,Old y.k g \/ ∃ j:Nat,j < P.length/\g=grm id x.k y.k P j) (h:On P id y x t (λj=>j < P.length/\grm id x.k y.k P j ∉ kl)) :
  ∃ t',iter (σ:=aV×Int) (ρ:=aV) (λa=>(bif (decide (a.2 < (kl.length:Int))) then (Option.bind (idx kl a.2) λb=>(Option.bind (bO a.1 b) λd=>some (.inl (d.2,(IntKind.i64.wrap (a.2+1)))))) else some (.inr a.1))) (t,0)=some t'/\t'.slot=⟨0,0,none,0⟩/\t'.bZ=x:=by
 have key:=qP (σ:=aV×Int) (ρ:=aV) (f:=λa=>(bif (decide (a.2 < (kl.length:Int))) then (Option.bind (idx kl a.2) λb=>(Option.bind (bO a.1 b) λd=>some (.inl (d.2,(IntKind.i64.wrap (a.2+1)))))) else some (.inr a.1)))
  (λs=> ∃ k:Nat,s.2=(k:Int)/\k<=kl.length/\On P id y x s.1 (λj=>j < P.length/\(grm id x.k y.k P j ∉ kl\/grm id x.k y.k P j∈kl.take k))) (λs=>kl.length - s.2.toNat) (λt'=>On P id y x t' (λj=>j < P.length/\(grm id x.k y.k P j ∉ kl\/grm id x.k y.k P j∈kl.take kl.length))) (by
   rintro ⟨q,k'⟩ ⟨k,k1,k2,k3⟩
   dsimp only at k1 k2 k3 ⊢
   subst k1
   by_cases c:k < kl.length
   ·left
    rw [decide_eq_true (by omega),cond_true,dB kl k c,aA]
    by_cases hcur: ∃ j:Nat,j < P.length/\kl[k]=grm id x.k y.k P j
    ·obtain ⟨j,hj,ej⟩:=hcur
     obtain ⟨e,t',e1,e2⟩:=xE hid hc hy k3 hj
     rw [ej,e1,aA,w64 (by omega) (by omega)]
     refine ⟨_,rfl,⟨k+1,by dsimp only; omega,by omega,e2.mono λi hi=> ?_⟩,by dsimp only; omega⟩
     obtain ⟨h1,h2⟩:=hi
     rcases h2 with h2 | h2
     ·exact .inl ⟨h1,.inl h2⟩
     ·rw [List.take_succ_eq_append_getElem c] at h2
      rcases List.mem_append.1 h2 with h2 | h2
      ·exact .inl ⟨h1,.inr h2⟩
      ·have:=List.mem_singleton.1 h2
       rw [ej] at this
       exact .inr (NV this)
    ·have ho:Old y.k kl[k]:=by
      rcases hk _ (List.getElem_mem c) with h | h
      ·exact h
      ·exact absurd h hcur
     rw [LJ k3 hle ho,aA,w64 (by omega) (by omega)]
     refine ⟨_,rfl,⟨k+1,by dsimp only; omega,by omega,k3.mono λi hi=> ?_⟩,by dsimp only; omega⟩
     obtain ⟨h1,h2⟩:=hi
     refine ⟨h1,h2.imp (λh=>h) λh2=> ?_⟩
     rw [List.take_succ_eq_append_getElem c] at h2
     rcases List.mem_append.1 h2 with h2 | h2
     ·exact h2
     ·exact absurd ⟨i,h1,(List.mem_singleton.1 h2).symm⟩ hcur
   ·right
    have hk:k=kl.length:=by omega
    subst hk
    rw [decide_eq_false (by omega),cond_false]
    exact ⟨_,rfl,k3⟩) (t,0) ⟨0,rfl,Nat.zero_le _,h.mono λi hi=>⟨hi.1,hi.2.elim (λh=>h) λh=>(by cases h)⟩⟩
 obtain ⟨t',e,h2⟩:=key
 obtain ⟨h3,h4⟩:=LH h2 λi hi=>⟨hi,by
  rw [List.take_length]
  exact (Classical.em (grm id x.k y.k P i∈kl)).symm⟩
 exact ⟨t',e,h3,h4⟩
theorem tY {events:List ByteArray} {late:List Int} (a0: ∀ x∈events,x.size<=maxLen) (a1: ∀ x∈late,inK .i64 x):kM events late=some true:=by
 unfold kM
 rw [Ns,aA,F4,aA,NU,aA]
 refine qQ (λs:aK×bD×aV×Int×List cH×Int=> ∃ (n:Nat) (z:Zt) (y:aH),s.2.2.2.1=n/\n<=10/\s.2.2.2.2.2=n/\MQ n s.2.1 z/\MV s.2.1 z y/\MD n y y s.1 s.2.2.1/\(∀ g∈s.2.2.2.2.1,Old y.k g)/\s.2.2.2.2.1.length<=4096*n) (λs=>10 - s.2.2.2.1.toNat)
  (λr=> ∃ (n:Nat) (z:Zt) (y:aH),n<=10/\r.1=n/\MQ n r.2.2.2 z/\MV r.2.2.2 z y/\MD n y y r.2.2.1 r.2.1)
  ⟨0,([],[]),kR,rfl,by decide,rfl,P8 (by decide) (by decide),⟨.inl rfl⟩,P9,λg hg=>(by cases hg),Nat.le_refl _⟩ ?_ ?_
 ·rintro ⟨s,m,t,at',kl,now⟩ ⟨n,z,y,h1,h2,h3,h4,h5,h6,h7,h8⟩
  dsimp only at h1 h2 h3 h4 h5 h6 h7 h8 ⊢
  subst h1 h3
  by_cases c:(n:Int) < (events.length:Int)/\(n:Int) < 10
  ·left
   obtain ⟨e,ee,he⟩:=M9 events[n] (n:=60) (by decide)
   obtain ⟨f,m',z',e1,h9,_,hf1,hf2⟩:=Rc h4 (by omega) (e:=⟨0,e,0,0⟩) (by dsimp only; omega) (.inl (by dsimp only; decide)) (.inl (by dsimp only; decide))
   have hxy:=Hw h5 h4 h9 (by omega) hf1 hf2
   obtain ⟨es,hx,hxk,_,_⟩:=zx h9 (by omega)
   rw [Nz c,aA,cond_true,dB events n (by omega),aA,ee,aA,e1,aA]
   dsimp only
   rw [es,aA]
   dsimp only
   have hmv: ∀ x,x=sOf m' z'->MV m' z' x:=λx e=>⟨.inr e⟩
   have hmv:=hmv _ rfl
   generalize sOf m' z'=x at es hx hxk hxy hmv ⊢
   obtain ⟨en,hm⟩:=Ht h6 hx hxy
   rw [en,aA]
   generalize (xD s x).2=s1 at hm ⊢
   obtain ⟨id,P,g1,g2,g3,g4,g5,g6⟩:=Hv hm (by omega) (n:Int)
   rw [BV _ _ hm.si,aA]
   generalize rI s1 (n:Int)=G at g2 g5 g6 ⊢
   obtain ⟨G,S⟩:=G
   dsimp only at g2 g5 g6 ⊢
   obtain ⟨kl',t1,k1,k2,k3,k4⟩:=F8 g1 g3 g4 hm.le hm.y0 (EP hm g4) g2 late n kl h7 (by omega)
   rw [k1,aA]
   dsimp only
   obtain ⟨t2,k5,k6,k7⟩:=F9 g1 g4 hm.le hm.y0 (by omega) k3 k4
   rw [k5,aA,EN k6,aA,Ox,aA,num_1,aA,Hq _ _ _ _ g5 EO,aA,k7,w64 (by omega) (by omega)]
   refine ⟨_,rfl,⟨n+1,z',x,by dsimp only; omega,by omega,by dsimp only; omega,h9,hmv,g6 _ _ k7 k6,λg hg=> ?_,by dsimp only; omega⟩,by dsimp only; omega⟩
   rcases k3 g hg with h | ⟨j,hj,e⟩
   ·exact h.more hm.le
   ·exact ⟨id,x.k,y.k,P,j,hj,Int.le_refl _,e⟩
  ·right
   rw [NA c,aA,cond_false]
   exact ⟨_,rfl,n,z,y,h2,rfl,h4,h5,h6⟩
 ·rintro ⟨now,t,s,m⟩ ⟨n,z,y,h2,h3,h4,h5,h6⟩
  dsimp only at h3 h4 h5 h6 ⊢
  subst h3
  have hxy:=LK h5 h4 (by omega)
  obtain ⟨es,hx,hxk,_,_⟩:=zx h4 (by omega)
  have hlen:jZ m.book=some (sOf m z).len:=by
   obtain ⟨W,q,hW,hq⟩:=h4.ex
   rw [hq.bk]
   rfl
  rw [es,aA]
  dsimp only
  generalize sOf m z=x at es hx hxk hxy hlen ⊢
  obtain ⟨en,hm⟩:=Ht h6 hx hxy
  rw [en,aA]
  generalize (xD s x).2=s1 at hm ⊢
  refine qQ (λs:aK×aV×Int×Int=> ∃ (j:Nat) (y:aH),s.2.2.1=j/\j<=6/\s.2.2.2=((n+j:Nat):Int)/\MD (n+j) y x s.1 s.2.1/\(1<=j->y=x)) (λs=>6 - s.2.2.1.toNat)
   (λr=> ∃ N,MD N x x r.1 r.2) ⟨0,y,rfl,by decide,rfl,hm,λh=>absurd h (by decide)⟩ ?_ ?_
  ·rintro ⟨s,t,j',now⟩ ⟨j,y,k1,k2,k3,k4,k5⟩
   dsimp only at k1 k2 k3 k4 k5 ⊢
   subst k1 k3
   by_cases c:j < 6
   ·left
    obtain ⟨id,P,g1,g2,g3,g4,g5,g6⟩:=Hv k4 (by omega) ((n+j:Nat):Int)
    rw [decide_eq_true (by omega),cond_true,BV _ _ k4.si,aA]
    generalize rI s ((n+j:Nat):Int)=G at g2 g5 g6 ⊢
    obtain ⟨G,S⟩:=G
    dsimp only at g2 g5 g6 ⊢
    obtain ⟨t2,e5,e6,e7⟩:=IS g1 g3 g4 k4.y0 (EP k4 g4) g2
    rw [e5,aA,EN e6,aA,Ox,aA,num_1,aA,Hq _ _ _ _ g5 EO,aA,e7,w64 (by omega) (by omega),w64 (by omega) (by omega)]
    exact ⟨_,rfl,⟨j+1,x,by dsimp only; omega,by omega,by dsimp only; omega,g6 _ _ e7 e6,λ_=>rfl⟩,by dsimp only; omega⟩
   ·right
    rw [decide_eq_false (by omega),cond_false]
    exact ⟨_,rfl,n+j,by have:=k5 (by omega); subst this; exact k4⟩
  ·rintro ⟨s,t⟩ ⟨N,hN⟩
   dsimp only at hN ⊢
   rw [LI (by rw [hN.hv]; exact hx.g.sw),aA,es,aA,hN.hv,NI hx.g,aA,decide_eq_true rfl,cond_true,hlen,aA,beq_self_eq_true,cond_true,show lH s=some s.aN.k from rfl,aA,hN.ac,beq_self_eq_true]
   rfl
end Go.Tw.X

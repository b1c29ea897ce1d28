import Derived.Test.YtgiokjfkjaoeiaaGreatDoorFw2
set_option linter.unusedVariables false
set_option linter.unusedSimpArgs false
set_option maxRecDepth 10000
noncomputable section
namespace Go.Tw.X
open Go Go.Tw
structure cG where
 b:List Int
 deriving DecidableEq,Inhabited
structure aT where
 s:ByteArray
 e:Int
 deriving DecidableEq,Inhabited
def o9 (n_:Int):Option Int :=
 some n_
def rE (n_:Int):Option Int :=
 some (imax 0 (eO n_ 4611686018427387904))
def my {σ:Type} (Y:σ->Int->Option (σ×Bool)) (y0:σ) (x1:Int):Option (σ×Int) :=
 ((rE x1).bind λr1=>((iter (σ:=Int×σ) (ρ:=(Int×σ) ⊕ (σ×Int)) (λa=>(bif (decide (a.1>=128)) then ((Y a.2 (Go.bits .or .u8 (Go.bits .and .u8 (IntKind.u8.wrap a.1) 127) 128)).bind λz68=>(bif (!z68.2) then (ln (some (z68.1,a.1))) else some (.inl ((a.1.fdiv (2 ^ (min 7 64))),z68.1)))) else some (.inr (.inl (a.1,a.2))))) (r1,y0)).bind λ | .inl e53=>((Y e53.2 (IntKind.u8.wrap e53.1)).bind λz75=>some (z75.1,e53.1)) | .inr w=>some w))
def dB (o:cG) (l:List Int):Option cG :=
 ((iter (σ:=cG×Int) (ρ:=cG) (λa=>(bif (decide (a.2 < (l.length:Int))) then ((idx l a.2).bind λe=>((o9 e).bind λf=>((my (λc d=>((chk (eI c.b.length [d].length 1)).bind λ_=>some ((cG.mk (c.b++[d])),true))) (a.1:cG) f).bind λg=>some (.inl (g.1,(IntKind.i64.wrap (a.2+1))))))) else some (.inr a.1))) (o,0)).bind λh=>some h)
def iA (o:cG) (l:List ByteArray):Option cG :=
 ((iter (σ:=cG×Int) (ρ:=cG) (λa=>(bif (decide (a.2 < (l.length:Int))) then ((idx l a.2).bind λc=>((chk (eI a.1.b.length c.size 1)).bind λ_=>some (.inl ((cG.mk (a.1.b++sbs c)),(IntKind.i64.wrap (a.2+1)))))) else some (.inr a.1))) (o,0)).bind λd=>some d)
def lq (o:cG) (l:List ByteArray):Option cG :=
 ((iter (σ:=cG×Int) (ρ:=cG) (λa=>(bif (decide (a.2 < (l.length:Int))) then ((idx l a.2).bind λb=>((dB a.1 [(b.size:Int)]).bind λc=>((iA c [b]).bind λd=>some (.inl (d,(IntKind.i64.wrap (a.2+1))))))) else some (.inr a.1))) (o,0)).bind λe=>some e)
def iP (o:cG):Option ByteArray :=
 some (hU o.b)
def vI (s_:ByteArray):Option aT :=
 some (aT.mk s_ 0)
def bU (in_:aT) (e:Int):Option aT :=
 (((bif (in_.e == 0) then some (e != 0) else some false):Option Bool).bind λe4=>(bif e4 then some (aT.mk (ByteArray.mk #[]) e) else some in_))
def bW (in_:aT):Option (Int×aT) :=
 ((iter (σ:=Int×Int) (ρ:=Unit ⊕ (Int×aT)) (λa=>(bif (decide (a.1 < (eO (in_.s.size:Int) 9))) then ((yV in_.s a.1).bind λb213=>((chk (shk (IntKind.i64.wrap (7*a.1)))).bind λ_=>(bif (decide (b213>=128)) then some (.inl ((IntKind.i64.wrap (a.1+1)),(Go.bits .or .i64 a.2 (IntKind.i64.wrap ((IntKind.i64.wrap (Go.bits .and .u8 b213 127))*2 ^ (min (IntKind.i64.wrap (7*a.1)).toNat 64)))))) else (((bif (decide (a.1 > 0)) then (bif (b213 == 0) then some true else some (decide ((Go.bits .or .i64 a.2 (IntKind.i64.wrap ((IntKind.i64.wrap (Go.bits .and .u8 b213 127))*2 ^ (min (IntKind.i64.wrap (7*a.1)).toNat 64)))) > 4611686018427387904))) else some (decide ((Go.bits .or .i64 a.2 (IntKind.i64.wrap ((IntKind.i64.wrap (Go.bits .and .u8 b213 127))*2 ^ (min (IntKind.i64.wrap (7*a.1)).toNat 64)))) > 4611686018427387904))):Option Bool).bind λb=>(bif b then ((bU in_ 1).bind λc=>(ln (some (0,c)))) else ((chk (dE (IntKind.i64.wrap (a.1+1)) (in_.s.size:Int) in_.s.size)).bind λ_=>(ln (some ((Go.bits .or .i64 a.2 (IntKind.i64.wrap ((IntKind.i64.wrap (Go.bits .and .u8 b213 127))*2 ^ (min (IntKind.i64.wrap (7*a.1)).toNat 64)))),(aT.mk (iU in_.s (IntKind.i64.wrap (a.1+1)) (in_.s.size:Int)) in_.e)))))))))) else some (.inr (.inl ())))) (0,0)).bind λ | .inl e176=>(((bif (decide ((in_.s.size:Int)>=9)) then ((bU in_ 1).bind λd=>some d) else some in_):Option aT).bind λf=>((bU f 2).bind λg=>some (0,g))) | .inr w=>some w)
def nG (in_:aT) (n_:Int):Option (ByteArray×aT) :=
 (bif (decide ((imax 0 n_) > (in_.s.size:Int))) then ((bU in_ 2).bind λr6=>some ((ByteArray.mk #[]),r6)) else ((chk (dE 0 (imax 0 n_) in_.s.size)).bind λ_=>((chk (dE (imax 0 n_) (in_.s.size:Int) in_.s.size)).bind λ_=>some ((iU in_.s 0 (imax 0 n_)),(aT.mk (iU in_.s (imax 0 n_) (in_.s.size:Int)) in_.e)))))
def l9 (in_:aT):Option (ByteArray×aT) :=
 ((bW in_).bind λr1=>((nG r1.2 r1.1).bind λr4=>some (r4.1,r4.2)))
def dU (in_:aT):Option Int :=
 some in_.e
def nH (in_:aT):Option Int :=
 (bif (!(in_.s.toList == (ByteArray.mk #[]).toList)) then some 1 else some in_.e)
structure bT where
 lead:Int
 rune:Int
 jV:Int
 deriving DecidableEq,Inhabited
structure lr where
 first:Int
 last:Int
 jV:Int
 low:Int
 high:Int
 deriving DecidableEq,Inhabited
def bX:List lr:=[⟨194,223,1,128,191⟩,⟨224,224,2,160,191⟩,⟨225,236,2,128,191⟩,⟨237,237,2,128,159⟩,⟨238,239,2,128,191⟩,⟨240,240,3,144,191⟩,⟨241,243,3,128,191⟩,⟨244,244,3,128,143⟩]
def jN (d:bT):Option (List Int) :=
 (bif (decide (d.jV<=0)) then some ([]:List Int) else some [65533])
def mJ (b:Int):Option (lr×Bool) :=
 ((iter (σ:=Int) (ρ:=Unit ⊕ (lr×Bool)) (λa=>(bif (decide (a < 8)) then ((idx bX a).bind λc=>(((bif (decide (b>=c.first)) then some (decide (b<=c.last)) else some false):Option Bool).bind λd=>(bif d then (ln (some (c,true))) else some (.inl (IntKind.i64.wrap (a+1)))))) else some (.inr (.inl ())))) 0).bind λ | .inl e84=>some ((lr.mk 0 0 0 0 0),false) | .inr w=>some w)
def ma (b:Int):Option (bT×(List Int)) :=
 (bif (decide (b < 128)) then some ((bT.mk 0 0 0),[(IntKind.i32.wrap b)]) else ((mJ b).bind λr8=>(bif (!r8.2) then some ((bT.mk 0 0 0),[65533]) else ((chk (shk r8.1.jV)).bind λ_=>some ((bT.mk b (Go.bits .and .i32 (IntKind.i32.wrap b) ((63:Int).fdiv (2 ^ (min r8.1.jV.toNat 32)))) r8.1.jV),([]:List Int))))))
def jr (d:bT) (b:Int):Option Bool :=
 ((mJ d.lead).bind λr2=>(bif (decide (d.jV < r2.1.jV)) then (((bif (decide (b>=128)) then some (decide (b<=191)) else some false):Option Bool).bind λa=>some a) else (((bif (decide (b>=r2.1.low)) then some (decide (b<=r2.1.high)) else some false):Option Bool).bind λc=>some c)))
def jt (d:bT) (b:Int):Option (bT×(List Int)) :=
 (bif (decide (d.jV<=0)) then ((ma b).bind λc=>some (c.1,c.2)) else ((jr d b).bind λe=>(bif (!e) then ((ma b).bind λa=>((chk (eI [65533].length a.2.length 4)).bind λ_=>some (a.1,([65533]++a.2)))) else (bif ((IntKind.i64.wrap (d.jV - 1)) == 0) then ((some [(Go.bits .or .i32 (IntKind.i32.wrap (d.rune*2 ^ (min 6 32))) (Go.bits .and .i32 (IntKind.i32.wrap b) 63))]:Option (List Int)).bind λf=>some ((bT.mk 0 0 0),f)) else some ((bT.mk d.lead (Go.bits .or .i32 (IntKind.i32.wrap (d.rune*2 ^ (min 6 32))) (Go.bits .and .i32 (IntKind.i32.wrap b) 63)) (IntKind.i64.wrap (d.jV - 1))),([]:List Int))))))
structure cY where
 addr:Bool
 buf:List Int
 deriving DecidableEq,Inhabited
structure cH where
 e0:Int
 e1:Int
 deriving DecidableEq,Inhabited
structure ni where
 e0:Int
 e1:Int
 e2:Int
 deriving DecidableEq,Inhabited
def pc (x_:Int) (y:Int):Option (Int×Int) :=
 some ((IntKind.u64.wrap ((IntKind.u64.wrap ((IntKind.u64.wrap ((x_.fdiv (2 ^ (min 32 64)))*(y.fdiv (2 ^ (min 32 64)))))+((IntKind.u64.wrap ((IntKind.u64.wrap ((x_.fdiv (2 ^ (min 32 64)))*(Go.bits .and .u64 y 4294967295)))+((IntKind.u64.wrap ((Go.bits .and .u64 x_ 4294967295)*(Go.bits .and .u64 y 4294967295))).fdiv (2 ^ (min 32 64))))).fdiv (2 ^ (min 32 64)))))+((IntKind.u64.wrap ((Go.bits .and .u64 (IntKind.u64.wrap ((IntKind.u64.wrap ((x_.fdiv (2 ^ (min 32 64)))*(Go.bits .and .u64 y 4294967295)))+((IntKind.u64.wrap ((Go.bits .and .u64 x_ 4294967295)*(Go.bits .and .u64 y 4294967295))).fdiv (2 ^ (min 32 64))))) 4294967295)+(IntKind.u64.wrap ((Go.bits .and .u64 x_ 4294967295)*(y.fdiv (2 ^ (min 32 64))))))).fdiv (2 ^ (min 32 64))))),(IntKind.u64.wrap (x_*y)))
def pB (x_:Int) (y:Int):Option (Int×Int) :=
 ((pc x_ y).bind λr1=>some (r1.1,r1.2))
def gQ (s_:ByteArray) (prefix_:ByteArray):Option Bool :=
 (((bif (decide ((s_.size:Int)>=(prefix_.size:Int))) then ((chk (dE 0 (prefix_.size:Int) s_.size)).bind λ_=>some ((iU s_ 0 (prefix_.size:Int)).toList == prefix_.toList)) else some false):Option Bool).bind λe8=>some e8)
def jF (s_:ByteArray) (prefix_:ByteArray):Option (ByteArray×Bool) :=
 ((gQ s_ prefix_).bind λr1=>(bif (!r1) then some (s_,false) else ((chk (dE (prefix_.size:Int) (s_.size:Int) s_.size)).bind λ_=>some ((iU s_ (prefix_.size:Int) (s_.size:Int)),true))))
def jO (s_:ByteArray) (prefix_:ByteArray):Option (ByteArray×Bool) :=
 ((jF s_ prefix_).bind λr1=>some (r1.1,r1.2))
def fA (b:cY) (s_:ByteArray):Option cY :=
 ((chk (eI b.buf.length s_.size 1)).bind λ_=>some (cY.mk true (b.buf++sbs s_)))
def kY (b:cY):Option ByteArray :=
 some (hU b.buf)
structure ju where
 from_:Int
 to:Int
 deriving DecidableEq,Inhabited
def dC:List ju:=[⟨(-2147483648),31⟩,⟨127,159⟩,⟨768,879⟩,⟨6832,6911⟩,⟨7616,7679⟩,⟨8203,8207⟩,⟨8400,8447⟩,⟨55296,57343⟩,⟨65024,65039⟩,⟨65056,65071⟩,⟨65279,65279⟩,⟨917760,917999⟩,⟨1114112,2147483647⟩]
def dK:List ju:=[⟨4352,4447⟩,⟨11904,12350⟩,⟨12353,13311⟩,⟨13312,19903⟩,⟨19968,40959⟩,⟨40960,42191⟩,⟨44032,55203⟩,⟨63744,64255⟩,⟨65072,65135⟩,⟨65280,65376⟩,⟨65504,65510⟩,⟨127744,128591⟩,⟨129280,129535⟩,⟨131072,262141⟩]
def pw (l:List ju) (r_:Int):Option Bool :=
 ((iter (σ:=Int×Int) (ρ:=Int) (λa=>(bif (decide (a.1 < a.2)) then ((idx l (IntKind.i64.wrap ((IntKind.i64.wrap (a.1+a.2)).tdiv 2))).bind λc=>(bif (decide (c.to < r_)) then some (.inl ((IntKind.i64.wrap ((IntKind.i64.wrap ((IntKind.i64.wrap (a.1+a.2)).tdiv 2))+1)),a.2)) else some (.inl (a.1,(IntKind.i64.wrap ((IntKind.i64.wrap (a.1+a.2)).tdiv 2)))))) else some (.inr a.1))) (0,(l.length:Int))).bind λb=>(((bif (decide (b < (l.length:Int))) then ((idx l b).bind λd=>some (decide (d.from_<=r_))) else some false):Option Bool).bind λe=>some e))
def px (r_:Int):Option Int :=
 ((pw dC r_).bind λr9=>(bif r9 then some 0 else ((pw dK r_).bind λa=>(bif a then some 2 else some 1))))
structure aG where
 rune:Int
 aM:Int
 part:Int
 deriving DecidableEq,Inhabited
structure aE where
 cells:List aG
 wrapped:Bool
 deriving DecidableEq,Inhabited
structure aJ where
 rune:Int
 aM:Int
 deriving DecidableEq,Inhabited
def kZ (n_:Int) (lo:Int) (hi:Int):Option Int :=
 some (imax lo (eO n_ hi))
def jv (aM:Int):Option aG :=
 some (aG.mk 32 aM 0)
def eJ (x_:List aG) (count:Int):Option (List aG) :=
 (bif (decide (count < 0)) then none else ((pB (IntKind.u64.wrap (x_.length:Int)) (IntKind.u64.wrap count)).bind λr3=>(((bif (decide (r3.1 > 0)) then some true else some (decide (r3.2 > 9223372036854775807))):Option Bool).bind λe9=>(bif e9 then none else ((chk (Ee (IntKind.i64.wrap r3.2) 24)).bind λ_=>((iter (σ:=(List aG)×Int) (ρ:=(List aG)) (λa=>(bif (decide (a.2 < (a.1.length:Int))) then ((chk (dE a.2 (a.1.length:Int) a.1.length)).bind λ_=>((chk (dE 0 a.2 a.1.length)).bind λ_=>some (.inl ((Aa a.1 a.2.toNat),(IntKind.i64.wrap (a.2+((Nat.min a.2.toNat (a.1.length - a.2.toNat):Nat):Int))))))) else some (.inr a.1))) ((cpy (List.replicate (IntKind.i64.wrap r3.2).toNat (aG.mk 0 0 0)) x_),((Nat.min x_.length (List.replicate (IntKind.i64.wrap r3.2).toNat (aG.mk 0 0 0)).length:Nat):Int))).bind λb=>some b))))))
def kH (n_:Int) (aM:Int):Option (List aG) :=
 ((jv aM).bind λr1=>((eJ [r1] (imax 0 n_)).bind λr7=>some r7))
def kI (w:Int) (aM:Int):Option aE :=
 ((kZ w 0 1000).bind λr2=>((kH r2 aM).bind λr5=>some (aE.mk r5 false)))
def eT (s_:List aG):Option (List aG) :=
 ((chk (eI ([]:List aG).length s_.length 24)).bind λ_=>some (([]:List aG)++s_))
def fR (r_:aE):Option (List aG) :=
 ((eT r_.cells).bind λr2=>some r2)
def mK (l:List aG) (i:Int):Option Bool :=
 ((idx l i).bind λx1=>(bif (x1.part == 1) then (((bif (decide ((IntKind.i64.wrap (i+1))>=(l.length:Int))) then some true else ((idx l (IntKind.i64.wrap (i+1))).bind λa=>some (a.part != 2))):Option Bool).bind λb=>some b) else (bif (x1.part == 2) then (((bif (i == 0) then some true else ((idx l (IntKind.i64.wrap (i - 1))).bind λc=>some (c.part != 1))):Option Bool).bind λd=>some d) else (bif (x1.part == 3) then some (i != (IntKind.i64.wrap ((l.length:Int) - 1))) else some false))))
def fN (l:List aG):Option aE :=
 ((iter (σ:=(List aG)×Int) (ρ:=(List aG)) (λa=>(bif (decide (a.2 < (l.length:Int))) then ((((mK a.1 a.2).bind λb=>(bif b then ((idx a.1 a.2).bind λc=>((jv c.aM).bind λd=>((idx a.1 a.2).bind λg=>some (a.1.set a.2.toNat d)))) else some a.1)):Option (List aG)).bind λe=>some (.inl (e,(IntKind.i64.wrap (a.2+1))))) else some (.inr a.1))) (l,0)).bind λf=>some (aE.mk f false))
def mV (r_:aE) (at_:Int) (x_:Int) (aM:Int):Option aE :=
 ((fR r_).bind λr3=>((px x_).bind λr9=>(((((bif (r9 == 0) then some true else (bif (decide (at_ < 0)) then some true else some (decide (at_ > (IntKind.i64.wrap ((r3.length:Int) - r9)))))):Option Bool).bind λa=>(bif a then some r3 else (bif (r9 == 1) then ((idx r3 at_).bind λh=>some (r3.set at_.toNat (aG.mk x_ aM 0))) else ((idx r3 at_).bind λi=>((idx (r3.set at_.toNat (aG.mk x_ aM 1)) (IntKind.i64.wrap (at_+1))).bind λj=>(((bif (decide (at_ > 0)) then ((idx ((r3.set at_.toNat (aG.mk x_ aM 1)).set ((IntKind.i64.wrap (at_+1)).toNat) (aG.mk x_ aM 2)) (IntKind.i64.wrap (at_ - 1))).bind λb=>some (b.part == 1)) else some false):Option Bool).bind λc=>(bif c then ((idx ((r3.set at_.toNat (aG.mk x_ aM 1)).set ((IntKind.i64.wrap (at_+1)).toNat) (aG.mk x_ aM 2)) (IntKind.i64.wrap (at_ - 1))).bind λd=>((jv d.aM).bind λe=>((idx ((r3.set at_.toNat (aG.mk x_ aM 1)).set ((IntKind.i64.wrap (at_+1)).toNat) (aG.mk x_ aM 2)) (IntKind.i64.wrap (at_ - 1))).bind λk=>some (((r3.set at_.toNat (aG.mk x_ aM 1)).set ((IntKind.i64.wrap (at_+1)).toNat) (aG.mk x_ aM 2)).set ((IntKind.i64.wrap (at_ - 1)).toNat) e)))) else some ((r3.set at_.toNat (aG.mk x_ aM 1)).set ((IntKind.i64.wrap (at_+1)).toNat) (aG.mk x_ aM 2))))))))):Option (List aG)).bind λf=>((fN f).bind λg=>some g))))
def kb (r_:aE):Option (List aJ) :=
 ((iter (σ:=(List aG)) (ρ:=(List aG)) (λa=>(((bif (!r_.wrapped) then (bif (decide ((a.length:Int) > 0)) then ((idx a (IntKind.i64.wrap ((a.length:Int) - 1))).bind λd=>((jv 0).bind λe=>some ((d.rune == e.rune) && ((d.aM == e.aM) && ((d.part == e.part) && true))))) else some false) else some false):Option Bool).bind λg=>(bif g then ((chk (dE 0 (IntKind.i64.wrap ((a.length:Int) - 1)) a.length)).bind λ_=>some (.inl (cut a 0 (IntKind.i64.wrap ((a.length:Int) - 1))))) else some (.inr a)))) r_.cells).bind λf=>((iter (σ:=Int×(List aJ)) (ρ:=(List aJ)) (λb=>(bif (decide (b.1 < (f.length:Int))) then ((((idx f b.1).bind λc=>(((bif (c.part == 0) then some true else some (c.part == 1)):Option Bool).bind λh=>(bif h then ((chk (eI b.2.length [(aJ.mk c.rune c.aM)].length 16)).bind λ_=>some (b.2++[(aJ.mk c.rune c.aM)])) else some b.2))):Option (List aJ)).bind λi=>some (.inl ((IntKind.i64.wrap (b.1+1)),i))) else some (.inr b.2))) (0,[])).bind λj=>some j))
def kC (r_:aE) (from_:Int) (to:Int) (aM:Int):Option aE :=
 ((fR r_).bind λr3=>((kZ from_ 0 (r3.length:Int)).bind λr9=>((iter (σ:=Int×(List aG)) (ρ:=(List aG)) (λa=>((kZ to 0 (a.2.length:Int)).bind λb=>(bif (decide (a.1 < b)) then ((jv aM).bind λc=>((idx a.2 a.1).bind λf=>some (.inl ((IntKind.i64.wrap (a.1+1)),(a.2.set a.1.toNat c))))) else some (.inr a.2)))) (r9,r3)).bind λd=>((fN d).bind λe=>some e))))
def kc (r_:aE) (at_:Int) (n_:Int):Option Int :=
 (((bif (decide (at_ < 0)) then some true else some (decide (at_>=(r_.cells.length:Int)))):Option Bool).bind λe5=>(bif e5 then some 0 else ((kZ n_ 0 (IntKind.i64.wrap ((r_.cells.length:Int) - at_))).bind λa=>some a)))
def iD (n_:Int):Option (List aG) :=
 (bif (decide (n_ < 0)) then none else (((bif (decide ((IntKind.i64.wrap (n_ - (IntKind.i64.wrap (0 - 0)))) > 0)) then ((chk (Ob (IntKind.i64.wrap (n_ - (IntKind.i64.wrap (0 - 0)))) 24)).bind λ_=>((chk (dE 0 0 (List.replicate (IntKind.i64.wrap (n_ - (IntKind.i64.wrap (0 - 0)))).toNat (aG.mk 0 0 0)).length)).bind λ_=>some (cut (List.replicate (IntKind.i64.wrap (n_ - (IntKind.i64.wrap (0 - 0)))).toNat (aG.mk 0 0 0)) 0 0))) else some []):Option (List aG)).bind λa=>some a))
def fI (slices:List (List aG)):Option (List aG) :=
 ((iter (σ:=Int×Int) (ρ:=Int) (λa=>(bif (decide (a.1 < (slices.length:Int))) then ((idx slices a.1).bind λc=>(bif (decide ((IntKind.i64.wrap (a.2+(c.length:Int))) < 0)) then none else some (.inl ((IntKind.i64.wrap (a.1+1)),(IntKind.i64.wrap (a.2+(c.length:Int))))))) else some (.inr a.2))) (0,0)).bind λe=>((iD e).bind λf=>((iter (σ:=Int×(List aG)) (ρ:=(List aG)) (λb=>(bif (decide (b.1 < (slices.length:Int))) then ((idx slices b.1).bind λd=>((chk (eI b.2.length d.length 24)).bind λ_=>some (.inl ((IntKind.i64.wrap (b.1+1)),(b.2++d))))) else some (.inr b.2))) (0,f)).bind λg=>some g)))
def lu (r_:aE) (at_:Int) (n_:Int) (aM:Int):Option aE :=
 ((kc r_ at_ n_).bind λr3=>(bif (r3 == 0) then ((fR r_).bind λb=>((fN b).bind λc=>some c)) else ((chk (dE 0 at_ r_.cells.length)).bind λ_=>((chk (dE at_ (r_.cells.length:Int) r_.cells.length)).bind λ_=>((kH r3 aM).bind λd=>((fI [(cut r_.cells 0 at_),d,(cut r_.cells at_ (r_.cells.length:Int))]).bind λa=>((chk (dE 0 (r_.cells.length:Int) a.length)).bind λ_=>((fN (cut a 0 (r_.cells.length:Int))).bind λe=>some e))))))))
def lx (r_:aE) (at_:Int) (n_:Int) (aM:Int):Option aE :=
 ((kc r_ at_ n_).bind λr3=>(bif (r3 == 0) then ((fR r_).bind λa=>((fN a).bind λb=>some b)) else ((chk (dE 0 at_ r_.cells.length)).bind λ_=>((chk (dE (IntKind.i64.wrap (at_+r3)) (r_.cells.length:Int) r_.cells.length)).bind λ_=>((kH r3 aM).bind λc=>((fI [(cut r_.cells 0 at_),(cut r_.cells (IntKind.i64.wrap (at_+r3)) (r_.cells.length:Int)),c]).bind λd=>((fN d).bind λe=>some e)))))))
def mz (r_:aE) (aM:Int):Option aE :=
 ((fR r_).bind λr3=>(((bif (decide ((r3.length:Int) > 0)) then ((idx r3 (IntKind.i64.wrap ((r3.length:Int) - 1))).bind λc=>some (r3.set ((IntKind.i64.wrap ((r3.length:Int) - 1)).toNat) (aG.mk 32 aM 3))) else some r3):Option (List aG)).bind λa=>((fN a).bind λb=>some (aE.mk b.cells true))))
def kd (r_:aE) (w:Int):Option aE :=
 ((kZ w 0 1000).bind λr3=>((fR r_).bind λr6=>(bif (r3 == (r6.length:Int)) then some (aE.mk r6 r_.wrapped) else ((kH (IntKind.i64.wrap (r3 - (r6.length:Int))) 0).bind λa=>((chk (dE 0 (eO r3 (r6.length:Int)) r6.length)).bind λ_=>((chk (eI (cut r6 0 (eO r3 (r6.length:Int))).length a.length 24)).bind λ_=>((fN ((cut r6 0 (eO r3 (r6.length:Int)))++a)).bind λb=>some b)))))))
def gR (s1_:List aG) (s2_:List aG):Option Bool :=
 (bif ((s1_.length:Int) != (s2_.length:Int)) then some false else ((iter (σ:=Int) (ρ:=Unit ⊕ Bool) (λa=>(bif (decide (a < (s1_.length:Int))) then ((idx s1_ a).bind λb=>((idx s2_ a).bind λc=>(bif (!((b.rune == c.rune) && ((b.aM == c.aM) && ((b.part == c.part) && true)))) then (ln (some false)) else some (.inl (IntKind.i64.wrap (a+1)))))) else some (.inr (.inl ())))) 0).bind λ | .inl e355=>some true | .inr w=>some w))
def jw (r_:aE) (q:aE):Option Bool :=
 (((bif (r_.wrapped == q.wrapped) then ((gR r_.cells q.cells).bind λa=>some a) else some false):Option Bool).bind λb=>some b)
def eE (s_:List aE):Option (List aE) :=
 ((chk (eI ([]:List aE).length s_.length 32)).bind λ_=>some (([]:List aE)++s_))
def gG (s_:List aE):Option (List aE) :=
 ((iter (σ:=(List aE)×Int×Int) (ρ:=(List aE)) (λa=>(bif (decide (a.2.1 < a.2.2)) then ((((idx a.1 a.2.2).bind λb=>((idx a.1 a.2.1).bind λc=>((idx a.1 a.2.1).bind λf=>((idx a.1 a.2.2).bind λg=>some ((a.1.set a.2.1.toNat b).set a.2.2.toNat c))))):Option (List aE)).bind λd=>some (.inl (d,(IntKind.i64.wrap (a.2.1+1)),(IntKind.i64.wrap (a.2.2 - 1))))) else some (.inr a.1))) (s_,0,(IntKind.i64.wrap ((s_.length:Int) - 1)))).bind λe=>some e)
def dL (s1_:List aE) (s2_:List aE):Option Bool :=
 (bif ((s1_.length:Int) != (s2_.length:Int)) then some false else ((iter (σ:=Int) (ρ:=Unit ⊕ Bool) (λa=>(bif (decide (a < (s1_.length:Int))) then ((idx s1_ a).bind λb=>((idx s2_ a).bind λc=>((jw b c).bind λd=>(bif (!d) then (ln (some false)) else some (.inl (IntKind.i64.wrap (a+1))))))) else some (.inr (.inl ())))) 0).bind λ | .inl e169=>some true | .inr w=>some w))
def cB (s_:List aJ):Option (List aJ) :=
 ((chk (eI ([]:List aJ).length s_.length 16)).bind λ_=>some (([]:List aJ)++s_))
def gH (s1_:List aJ) (s2_:List aJ):Option Bool :=
 (bif ((s1_.length:Int) != (s2_.length:Int)) then some false else ((iter (σ:=Int) (ρ:=Unit ⊕ Bool) (λa=>(bif (decide (a < (s1_.length:Int))) then ((idx s1_ a).bind λb=>((idx s2_ a).bind λc=>(bif (!((b.rune == c.rune) && ((b.aM == c.aM) && true))) then (ln (some false)) else some (.inl (IntKind.i64.wrap (a+1)))))) else some (.inr (.inl ())))) 0).bind λ | .inl e355=>some true | .inr w=>some w))
def dA:List Int:=[0,498536548,997073096,651767980,1994146192,1802195444,1303535960,1342533948,3988292384,4027552580,3604390888,3412177804,2607071920,2262029012,2685067896,3183342108]
def oq (x_:Int) (b:Int):Option Int :=
 ((idx dA (Go.bits .and .u32 (Go.bits .xor .u32 x_ (IntKind.u32.wrap b)) 15)).bind λx1=>((idx dA (Go.bits .and .u32 (Go.bits .xor .u32 ((Go.bits .xor .u32 x_ (IntKind.u32.wrap b)).fdiv (2 ^ (min 4 32))) x1) 15)).bind λx5=>some (Go.bits .xor .u32 ((Go.bits .xor .u32 ((Go.bits .xor .u32 x_ (IntKind.u32.wrap b)).fdiv (2 ^ (min 4 32))) x1).fdiv (2 ^ (min 4 32))) x5)))
def qJ (l:List ByteArray):Option Int :=
 ((iter (σ:=Int×Int) (ρ:=Int) (λa=>(bif (decide (a.2 < (l.length:Int))) then ((idx l a.2).bind λc=>((iter (σ:=Int×Int) (ρ:=Int) (λb=>(bif (decide (b.1 < (c.size:Int))) then ((yV c b.1).bind λb642=>((oq b.2 b642).bind λd=>some (.inl ((IntKind.i64.wrap (b.1+1)),d)))) else some (.inr b.2))) (0,a.1)).bind λe=>some (.inl (e,(IntKind.i64.wrap (a.2+1)))))) else some (.inr a.1))) (4294967295,0)).bind λf=>some (Go.bits .xor .u32 4294967295 f))
structure cF where
 l:List (List aJ)
 bV:List Int
 begun:List aJ
 deriving DecidableEq,Inhabited
def rF:Option cF :=
 some (cF.mk ([]:List (List aJ)) [0] ([]:List aJ))
def lX (b:cF):Option Int :=
 some (b.l.length:Int)
def kJ (b:cF) (n_:Int):Option Int :=
 ((idx b.bV (imax 0 (eO n_ (b.l.length:Int)))).bind λa=>some a)
def kK (b:cF):Option (List aJ) :=
 ((cB b.begun).bind λr1=>some r1)
def mA (l:List aJ):Option ByteArray :=
 ((dB (cG.mk ([]:List Int)) [(l.length:Int)]).bind λr6=>((iter (σ:=cG×Int) (ρ:=cG) (λa=>(bif (decide (a.2 < (l.length:Int))) then ((idx l a.2).bind λb=>((dB a.1 [(IntKind.i64.wrap b.rune),b.aM]).bind λc=>some (.inl (c,(IntKind.i64.wrap (a.2+1)))))) else some (.inr a.1))) (r6,0)).bind λd=>((iP d).bind λe=>some e)))
def iE (in_:aT) (most:Int):Option (Int×aT) :=
 ((bW in_).bind λr1=>(bif (decide (r1.1 > most)) then ((bU r1.2 1).bind λr9=>some (0,r9)) else some (r1.1,r1.2)))
def nw (in_:aT):Option ((List aJ)×aT) :=
 ((iE in_ 1024).bind λr1=>((iter (σ:=aT×(List aJ)×Int) (ρ:=(List aJ)×aT) (λa=>(bif (decide (a.2.2 < r1.1)) then ((iE a.1 1114111).bind λc=>((iE c.2 647).bind λd=>((chk (eI a.2.1.length [(aJ.mk (IntKind.i32.wrap c.1) d.1)].length 16)).bind λ_=>some (.inl (d.2,(a.2.1++[(aJ.mk (IntKind.i32.wrap c.1) d.1)]),(IntKind.i64.wrap (a.2.2+1))))))) else some (.inr (a.2.1,a.1)))) (r1.2,[],0)).bind λb=>((dU b.2).bind λe=>(bif (e != 0) then some (([]:List aJ),b.2) else some (b.1,b.2)))))
def oG (chain:Int) (l:List aJ):Option Int :=
 ((mA l).bind λr1=>((qJ [r1]).bind λr6=>some ((IntKind.i64.wrap (((IntKind.i64.wrap (((IntKind.i64.wrap (chain*256)).tmod 281474976710597)*256)).tmod 281474976710597)+(IntKind.i64.wrap r6))).tmod 281474976710597)))
def gA (b:cF) (l:List aJ):Option cF :=
 ((cB l).bind λa=>((chk (eI b.l.length [a].length 24)).bind λ_=>((idx b.bV (IntKind.i64.wrap ((b.bV.length:Int) - 1))).bind λd=>((oG d l).bind λc=>((chk (eI b.bV.length [c].length 8)).bind λ_=>some (cF.mk (b.l++[a]) (b.bV++[c]) b.begun))))))
def jM (b:cF) (rows:List aE):Option (Int×cF) :=
 ((iter (σ:=cF×Int) (ρ:=cF) (λa=>(bif (decide (a.2 < (rows.length:Int))) then ((((idx rows a.2).bind λf=>((kb f).bind λg=>((chk (eI a.1.begun.length g.length 16)).bind λ_=>((iter (σ:=cF) (ρ:=cF) (λd=>(bif (decide ((d.begun.length:Int)>=1024)) then ((chk (dE 0 1024 d.begun.length)).bind λ_=>((gA d (cut d.begun 0 1024)).bind λc=>((chk (dE 1024 (c.begun.length:Int) c.begun.length)).bind λ_=>((cB (cut c.begun 1024 (c.begun.length:Int))).bind λj=>some (.inl (cF.mk c.l c.bV j)))))) else some (.inr d))) (cF.mk a.1.l a.1.bV (a.1.begun++g))).bind λe=>(bif (!f.wrapped) then ((gA e e.begun).bind λh=>some (cF.mk h.l h.bV ([]:List aJ))) else some e))))):Option cF).bind λk=>some (.inl (k,(IntKind.i64.wrap (a.2+1))))) else some (.inr a.1))) (b,0)).bind λi=>some ((IntKind.i64.wrap ((i.l.length:Int) - (b.l.length:Int))),i))
structure aX where
 w:Int
 l:List aE
 deriving DecidableEq,Inhabited
def jy (n_:Int) (lo:Int) (hi:Int):Option Int :=
 some (imax lo (eO n_ hi))
def jZ (n_:Int):Option Int :=
 ((jy n_ 1 1000).bind λr1=>some r1)
def pC (w:Int) (h_:Int):Option aX :=
 ((jZ w).bind λr1=>((jZ h_).bind λr5=>((iter (σ:=aX×Int) (ρ:=aX) (λa=>(bif (decide (a.2 < r5)) then ((kI a.1.w 0).bind λb=>((chk (eI a.1.l.length [b].length 32)).bind λ_=>some (.inl ((aX.mk a.1.w (a.1.l++[b])),(IntKind.i64.wrap (a.2+1)))))) else some (.inr a.1))) ((aX.mk r1 ([]:List aE)),0)).bind λc=>some c)))
def ot (r_:aE):Option aE :=
 ((eT r_.cells).bind λa=>some (aE.mk a r_.wrapped))
def fS (g:aX) (y:Int):Option aE :=
 (((bif (decide (y < 0)) then some true else some (decide (y>=(g.l.length:Int)))):Option Bool).bind λe5=>(bif e5 then some (aE.mk ([]:List aG) false) else ((idx g.l y).bind λa=>((ot a).bind λb=>some b))))
def fF (g:aX) (y:Int) (r_:aE):Option (Bool×aX) :=
 (((bif (decide (y < 0)) then some true else some (decide (y>=(g.l.length:Int)))):Option Bool).bind λe5=>(bif e5 then some (false,g) else ((kd r_ g.w).bind λa=>((idx g.l y).bind λb=>some (true,(aX.mk g.w (g.l.set y.toNat a)))))))
def eK (g:aX) (top:Int) (aL:Int):Option (Unit ⊕ (Int×Int)) :=
 ((jy top 0 (IntKind.i64.wrap ((g.l.length:Int) - 1))).bind λr1=>((jy aL 0 (IntKind.i64.wrap ((g.l.length:Int) - 1))).bind λr4=>(bif (decide (r4 < r1)) then some (.inl ()) else ((chk (dE r1 (IntKind.i64.wrap (r4+1)) g.l.length)).bind λ_=>some (.inr (r1,(IntKind.i64.wrap (r4+1))))))))
def gI (g:aX) (top:Int) (aL:Int) (n_:Int) (aM:Int):Option ((List aE)×aX) :=
 ((eK g top aL).bind λ | .inl r1=>some (([]:List aE),g) | .inr r1=>((chk (dE r1.1 r1.2 g.l.length)).bind λ_=>((jy n_ 0 ((cut g.l r1.1 r1.2).length:Int)).bind λr9=>((chk (dE 0 r9 (cut g.l r1.1 r1.2).length)).bind λ_=>((eE (cut g.l (r1.1+0) (r1.1+r9))).bind λb=>((chk (dE r9 ((cut g.l r1.1 r1.2).length:Int) (cut g.l r1.1 r1.2).length)).bind λ_=>((iter (σ:=aX×Int) (ρ:=aX) (λa=>(bif (decide (a.2 < ((cut a.1.l r1.1 r1.2).length:Int))) then ((kI a.1.w aM).bind λc=>((chk (dE r1.1 r1.2 a.1.l.length)).bind λ_=>((idx (cut a.1.l r1.1 r1.2) a.2).bind λe=>some (.inl ((aX.mk a.1.w (a.1.l.set (r1.1.toNat+a.2.toNat) c)),(IntKind.i64.wrap (a.2+1))))))) else some (.inr a.1))) ((aX.mk g.w (sF g.l r1.1 r1.2 (r1.1+r9) (r1.1+((cut g.l r1.1 r1.2).length:Int)))),(IntKind.i64.wrap (((cut (sF g.l r1.1 r1.2 (r1.1+r9) (r1.1+((cut g.l r1.1 r1.2).length:Int))) r1.1 r1.2).length:Int) - r9)))).bind λd=>some (b,d))))))))
def eU (g:aX) (top:Int) (aL:Int) (n_:Int) (aM:Int):Option ((List aE)×aX) :=
 ((eK g top aL).bind λ | .inl r1=>some (([]:List aE),g) | .inr r1=>((chk (dE r1.1 r1.2 g.l.length)).bind λ_=>((jy n_ 0 ((cut g.l r1.1 r1.2).length:Int)).bind λr9=>((chk (dE (IntKind.i64.wrap (((cut g.l r1.1 r1.2).length:Int) - r9)) ((cut g.l r1.1 r1.2).length:Int) (cut g.l r1.1 r1.2).length)).bind λ_=>((eE (cut g.l (r1.1+(IntKind.i64.wrap (((cut g.l r1.1 r1.2).length:Int) - r9))) (r1.1+((cut g.l r1.1 r1.2).length:Int)))).bind λb=>((gG b).bind λc=>((chk (decide (c.length=b.length))).bind λ_=>((chk (dE r9 ((cut g.l r1.1 r1.2).length:Int) (cut g.l r1.1 r1.2).length)).bind λ_=>((chk (dE 0 (IntKind.i64.wrap (((cut g.l r1.1 r1.2).length:Int) - r9)) (cut g.l r1.1 r1.2).length)).bind λ_=>((iter (σ:=aX×Int) (ρ:=aX) (λa=>(bif (decide (a.2 < r9)) then ((kI a.1.w aM).bind λd=>((chk (dE r1.1 r1.2 a.1.l.length)).bind λ_=>((idx (cut a.1.l r1.1 r1.2) a.2).bind λf=>some (.inl ((aX.mk a.1.w (a.1.l.set (r1.1.toNat+a.2.toNat) d)),(IntKind.i64.wrap (a.2+1))))))) else some (.inr a.1))) ((aX.mk g.w (sF g.l (r1.1+r9) (r1.1+((cut g.l r1.1 r1.2).length:Int)) (r1.1+0) (r1.1+(IntKind.i64.wrap (((cut g.l r1.1 r1.2).length:Int) - r9))))),0)).bind λe=>some (c,e)))))))))))
def km (g:aX) (w:Int) (h_:Int) (off:Int):Option ((List aE)×aX) :=
 ((jy off 0 (IntKind.i64.wrap ((g.l.length:Int) - 1))).bind λr1=>((chk (dE 0 r1 g.l.length)).bind λ_=>((eE (cut g.l 0 r1)).bind λh=>((chk (dE r1 (g.l.length:Int) g.l.length)).bind λ_=>((eE (cut g.l r1 (g.l.length:Int))).bind λb=>((jZ h_).bind λd=>((chk (dE 0 (eO (b.length:Int) d) b.length)).bind λ_=>((iter (σ:=(List aE)) (ρ:=(List aE)) (λc=>((jZ h_).bind λi=>(bif (decide ((c.length:Int) < i)) then ((jZ w).bind λj=>((kI j 0).bind λe=>((chk (eI c.length [e].length 32)).bind λ_=>some (.inl (c++[e]))))) else some (.inr c)))) (cut b 0 (eO (b.length:Int) d))).bind λf=>((jZ w).bind λk=>((iter (σ:=aX×Int) (ρ:=aX) (λa=>(bif (decide (a.2 < (f.length:Int))) then ((idx a.1.l a.2).bind λm=>((fF a.1 a.2 m).bind λn=>some (.inl (n.2,(IntKind.i64.wrap (a.2+1)))))) else some (.inr a.1))) ((aX.mk k f),0)).bind λo=>some (h,o)))))))))))
def eD (g:aX):Option (Int×Int) :=
 some (g.w,(g.l.length:Int))
def nI (l:List aE):Option (List aE) :=
 some l
def kf {σ:Type} (Y:σ->aE->Option (σ×Bool)) (y0:σ) (x1:List aE):Option σ :=
 ((iter (σ:=Int×σ) (ρ:=σ ⊕ σ) (λa=>(bif (decide (a.1 < (x1.length:Int))) then ((idx x1 a.1).bind λb=>((ot b).bind λc=>((Y a.2 c).bind λz184=>(bif (!z184.2) then (ln (some z184.1)) else some (.inl ((IntKind.i64.wrap (a.1+1)),z184.1)))))) else some (.inr (.inl a.2)))) (0,y0)).bind λ | .inl e139=>some e139 | .inr w=>some w)
def kg (l:List aE):Option ((List aE)×(List aE)) :=
 ((nI l).bind λr2=>((kf (λs40 x9=>((chk (eI s40.length [x9].length 32)).bind λ_=>some ((s40++[x9]),true))) ([]:(List aE)) r2).bind λa=>some (a,r2)))
def ly (g:aX):Option ((List aE)×aX) :=
 ((kg g.l).bind λr1=>((chk (decide (r1.2.length=g.l.length))).bind λ_=>some (r1.1,(aX.mk g.w r1.2))))
def kL (g:aX):Option (aX×aX) :=
 ((kg g.l).bind λa=>((chk (decide (a.2.length=g.l.length))).bind λ_=>some ((aX.mk g.w a.1),(aX.mk g.w a.2))))
structure aZ where
 kind:Int
 rune:Int
 byte:Int
 eG:Bool
 bJ:List Int
 text:ByteArray
 deriving DecidableEq,Inhabited
structure fK where
 eG:Bool
 nB:Bool
 any:Bool
 some:Bool
 n:Int
 bJ:List Int
 deriving DecidableEq,Inhabited
structure aI where
 state:Int
 order:fK
 text:ByteArray
 cO:bT
 out:List aZ
 deriving DecidableEq,Inhabited
def gB (p:aI) (a:aZ):Option aI :=
 ((chk (eI p.out.length [a].length 56)).bind λ_=>some (aI.mk p.state p.order p.text p.cO (p.out++[a])))
def jd (p:aI) (l:List Int):Option aI :=
 ((iter (σ:=aI×Int) (ρ:=aI) (λa=>(bif (decide (a.2 < (l.length:Int))) then ((idx l a.2).bind λb=>((gB a.1 (aZ.mk 1 b 0 false ([]:List Int) (ByteArray.mk #[]))).bind λc=>some (.inl (c,(IntKind.i64.wrap (a.2+1)))))) else some (.inr a.1))) (p,0)).bind λd=>some d)
def fJ (p:aI) (b:Int):Option (Bool×aI) :=
 (((((bif (b == 24) then some true else some (b == 26)):Option Bool).bind λa=>(bif a then some (.inl (aI.mk 0 p.order p.text p.cO p.out)) else (bif (b == 27) then some (.inl (aI.mk 1 p.order p.text p.cO p.out)) else (bif (decide (b < 32)) then ((gB p (aZ.mk 2 0 b false ([]:List Int) (ByteArray.mk #[]))).bind λc=>some (.inl c)) else (ll (some ((b == 127),p))))))):Option (aI ⊕ (Bool×aI))).bind λ | .inl e42=>some (true,e42) | .inr w=>some w)
def iV (p:aI) (b:Int):Option aI :=
 (((bif (decide (b < 32)) then some true else some (b == 127)):Option Bool).bind λe4=>(bif e4 then ((jN p.cO).bind λd=>((jd p d).bind λa=>((fJ (aI.mk a.state a.order a.text (bT.mk 0 0 0) a.out) b).bind λe=>some e.2))) else ((jt p.cO b).bind λc=>((jd (aI.mk p.state p.order p.text c.1 p.out) c.2).bind λf=>some f))))
def gC (p:aI) (b:Int):Option aI :=
 ((fJ p b).bind λr1=>(bif r1.1 then some r1.2 else (((bif (b == 91) then (ll (some (aI.mk 3 (fK.mk false false false false 0 ([]:List Int)) r1.2.text r1.2.cO r1.2.out))) else (bif (b == 93) then (ll (some (aI.mk 4 r1.2.order (ByteArray.mk #[]) r1.2.cO r1.2.out))) else (bif (decide (b < 48)) then (ll (some (aI.mk 2 r1.2.order r1.2.text r1.2.cO r1.2.out))) else (bif (decide (b < 127)) then ((gB r1.2 (aZ.mk 3 0 b false ([]:List Int) (ByteArray.mk #[]))).bind λa=>some (.inl a)) else some (.inl r1.2))))):Option (aI ⊕ aI)).bind λ | .inl e39=>some (aI.mk 0 e39.order e39.text e39.cO e39.out) | .inr w=>some w)))
def jP (p:aI) (b:Int):Option aI :=
 ((((fJ p b).bind λc=>(bif (!c.1) then some ((decide (b>=48)),c.2) else some (false,c.2))):Option (Bool×aI)).bind λa=>(bif a.1 then some (aI.mk 0 a.2.order a.2.text a.2.cO a.2.out) else some a.2))
def kh (o:aI):Option aI :=
 (((bif (decide ((o.order.bJ.length:Int) < 16)) then ((chk (eI o.order.bJ.length [o.order.n].length 8)).bind λ_=>some (aI.mk o.state (fK.mk o.order.eG o.order.nB o.order.any o.order.some o.order.n (o.order.bJ++[o.order.n])) o.text o.cO o.out)) else some o):Option aI).bind λa=>some (aI.mk a.state (fK.mk a.order.eG a.order.nB a.order.any a.order.some 0 a.order.bJ) a.text a.cO a.out))
def jz (p:aI) (a:aZ):Option aI :=
 ((chk (eI p.out.length [a].length 56)).bind λ_=>some (aI.mk p.state p.order p.text p.cO (p.out++[a])))
def jQ (p:aI) (b:Int):Option aI :=
 (bif p.order.nB then some (aI.mk 0 p.order p.text p.cO p.out) else (((bif p.order.some then ((kh (aI.mk 0 p.order p.text p.cO p.out)).bind λd=>some d) else some (aI.mk 0 p.order p.text p.cO p.out)):Option aI).bind λa=>((jz a (aZ.mk 4 0 b a.order.eG a.order.bJ (ByteArray.mk #[]))).bind λc=>((chk (!(c.state == (3:Int)))).bind λ_=>some c))))
def iF (p:aI) (b:Int):Option aI :=
 ((fJ p b).bind λr1=>(bif r1.1 then some r1.2 else (((bif (decide (b>=48)) then some (decide (b<=57)) else some false):Option Bool).bind λc=>(bif c then some (aI.mk r1.2.state (fK.mk r1.2.order.eG r1.2.order.nB true true (eO (IntKind.i64.wrap ((IntKind.i64.wrap (10*r1.2.order.n))+(IntKind.i64.wrap (IntKind.u8.wrap (b - 48))))) 9999) r1.2.order.bJ) r1.2.text r1.2.cO r1.2.out) else (((bif (b == 59) then some true else some (b == 58)):Option Bool).bind λd=>(bif d then ((chk (r1.2.state == (3:Int))).bind λ_=>((kh (aI.mk r1.2.state (fK.mk r1.2.order.eG r1.2.order.nB true r1.2.order.some r1.2.order.n r1.2.order.bJ) r1.2.text r1.2.cO r1.2.out)).bind λa=>some (aI.mk a.state (fK.mk a.order.eG a.order.nB a.order.any true a.order.n a.order.bJ) a.text a.cO a.out))) else (((bif (b == 63) then some (!r1.2.order.any) else some false):Option Bool).bind λe=>(bif e then some (aI.mk r1.2.state (fK.mk true r1.2.order.nB true r1.2.order.some r1.2.order.n r1.2.order.bJ) r1.2.text r1.2.cO r1.2.out) else (((bif (decide (b>=64)) then some (decide (b < 127)) else some false):Option Bool).bind λf=>(bif f then ((chk (r1.2.state == (3:Int))).bind λ_=>((jQ (aI.mk r1.2.state (fK.mk r1.2.order.eG r1.2.order.nB true r1.2.order.some r1.2.order.n r1.2.order.bJ) r1.2.text r1.2.cO r1.2.out) b).bind λg=>some g)) else some (aI.mk r1.2.state (fK.mk r1.2.order.eG true true r1.2.order.some r1.2.order.n r1.2.order.bJ) r1.2.text r1.2.cO r1.2.out)))))))))))
def jG (p:aI):Option aI :=
 ((iter (σ:=aI×Int) (ρ:=aI) (λa=>(bif (decide (a.2 < (([(ByteArray.mk #[48,59]),(ByteArray.mk #[50,59])]).length:Int))) then ((((idx ([(ByteArray.mk #[48,59]),(ByteArray.mk #[50,59])]) a.2).bind λc=>((jO a.1.text c).bind λb=>(bif b.2 then ((gB a.1 (aZ.mk 5 0 0 false ([]:List Int) b.1)).bind λd=>some d) else some a.1))):Option aI).bind λe=>some (.inl (e,(IntKind.i64.wrap (a.2+1))))) else some (.inr a.1))) ((aI.mk 0 p.order p.text p.cO p.out),0)).bind λf=>some f)
def jA (p:aI) (b:Int):Option aI :=
 (bif (b == 7) then ((jG p).bind λr2=>some r2) else (((bif (b == 24) then some true else some (b == 26)):Option Bool).bind λa=>(bif a then some (aI.mk 0 p.order p.text p.cO p.out) else (bif (b == 27) then some (aI.mk 5 p.order p.text p.cO p.out) else (bif (decide ((p.text.size:Int) < 200)) then ((chk (Od p.text.size (hU [b]).size)).bind λ_=>some (aI.mk p.state p.order (p.text++(hU [b])) p.cO p.out)) else some p)))))
def lz (p:aI) (b:Int):Option aI :=
 (bif (p.state == 0) then ((iV p b).bind λr2=>some r2) else (bif (p.state == 1) then ((gC p b).bind λa=>some a) else (bif (p.state == 2) then ((jP p b).bind λc=>some c) else (bif (p.state == 3) then ((iF p b).bind λd=>some d) else (bif (p.state == 4) then ((jA p b).bind λe=>some e) else (bif (b == 92) then ((jG p).bind λf=>some f) else ((gC (aI.mk 1 p.order p.text p.cO p.out) b).bind λg=>some g)))))))
def kM (p:aI) (s_:ByteArray):Option ((List aZ)×aI) :=
 ((iter (σ:=aI×Int) (ρ:=aI) (λa=>(bif (decide (a.2 < (s_.size:Int))) then ((yV s_ a.2).bind λb134=>((lz a.1 b134).bind λc=>some (.inl (c,(IntKind.i64.wrap (a.2+1)))))) else some (.inr a.1))) ((aI.mk p.state p.order p.text p.cO ([]:List aZ)),0)).bind λb=>some (b.out,(aI.mk b.state b.order b.text b.cO ([]:List aZ))))
structure bE where
 ji:Int
 back:Int
 bold:Bool
 under:Bool
 dX:Bool
 deriving DecidableEq,Inhabited
def kO (s_:bE):Option Bool :=
 (((bif (decide (s_.ji>=0)) then (bif (decide (s_.ji < 9)) then (bif (decide (s_.back>=0)) then some (decide (s_.back < 9)) else some false) else some false) else some false):Option Bool).bind λe9=>some e9)
def ny (is:Bool) (n_:Int):Option Int :=
 (bif is then some n_ else some 0)
def kP (s_:bE):Option Int :=
 ((kO s_).bind λr2=>(bif (!r2) then some 0 else ((ny s_.bold 81).bind λa=>((ny s_.under 162).bind λb=>((ny s_.dX 324).bind λc=>some (IntKind.i64.wrap ((IntKind.i64.wrap ((IntKind.i64.wrap ((IntKind.i64.wrap (s_.ji+(IntKind.i64.wrap (9*s_.back))))+a))+b))+c)))))))
def nJ (l:List Int):Option Int :=
 (((bif (decide ((l.length:Int) > 0)) then ((idx l 0).bind λa=>some (a == 5)) else some false):Option Bool).bind λb=>(bif b then some (eO 2 (l.length:Int)) else (((bif (decide ((l.length:Int) > 0)) then ((idx l 0).bind λc=>some (c == 2)) else some false):Option Bool).bind λd=>(bif d then some (eO 4 (l.length:Int)) else some 0))))
def kQ (s_:bE) (n_:Int):Option bE :=
 (((bif (n_ == 0) then (ll (some (bE.mk 0 0 false false false))) else (((bif (n_ == 1) then some true else some (n_ == 22)):Option Bool).bind λa=>(bif a then some (.inl (bE.mk s_.ji s_.back (n_ == 1) s_.under s_.dX)) else (((bif (n_ == 4) then some true else some (n_ == 24)):Option Bool).bind λb=>(bif b then some (.inl (bE.mk s_.ji s_.back s_.bold (n_ == 4) s_.dX)) else (((bif (n_ == 7) then some true else some (n_ == 27)):Option Bool).bind λc=>(bif c then some (.inl (bE.mk s_.ji s_.back s_.bold s_.under (n_ == 7))) else (((bif (decide (n_>=30)) then some (decide (n_ < 38)) else some false):Option Bool).bind λd=>(bif d then some (.inl (bE.mk (IntKind.i64.wrap ((IntKind.i64.wrap (n_ - 30))+1)) s_.back s_.bold s_.under s_.dX)) else (bif (n_ == 39) then some (.inl (bE.mk 0 s_.back s_.bold s_.under s_.dX)) else (((bif (decide (n_>=40)) then some (decide (n_ < 48)) else some false):Option Bool).bind λe=>(bif e then some (.inl (bE.mk s_.ji (IntKind.i64.wrap ((IntKind.i64.wrap (n_ - 40))+1)) s_.bold s_.under s_.dX)) else (bif (n_ == 49) then some (.inl (bE.mk s_.ji 0 s_.bold s_.under s_.dX)) else some (.inl s_)))))))))))))):Option (bE ⊕ bE)).bind λ | .inl e90=>some e90 | .inr w=>some w)
def kR (s_:bE) (bJ:List Int):Option bE :=
 (bif ((bJ.length:Int) == 0) then some (bE.mk 0 0 false false false) else ((iter (σ:=bE×Int) (ρ:=bE) (λa=>(bif (decide (a.2 < (bJ.length:Int))) then ((((idx bJ a.2).bind λb=>(((bif (b == 38) then some true else some (b == 48)):Option Bool).bind λd=>(bif d then ((chk (dE (IntKind.i64.wrap (a.2+1)) (bJ.length:Int) bJ.length)).bind λ_=>((nJ (cut bJ (IntKind.i64.wrap (a.2+1)) (bJ.length:Int))).bind λe=>some ((IntKind.i64.wrap (a.2+e)),a.1))) else ((idx bJ a.2).bind λf=>((kQ a.1 f).bind λh=>some (a.2,h)))))):Option (Int×bE)).bind λc=>some (.inl (c.2,(IntKind.i64.wrap (c.1+1))))) else some (.inr a.1))) (s_,0)).bind λi=>some i))
structure eL where
 x:Int
 y:Int
 aM:bE
 deriving DecidableEq,Inhabited
structure aB where
 g:aX
 spot:eL
 saved:eL
 waiting:Bool
 top:Int
 aL:Int
 aY:Bool
 title:ByteArray
 deriving DecidableEq,Inhabited
def mL (w:Int) (h_:Int):Option aB :=
 ((pC w h_).bind λr1=>((eD r1).bind λr9=>some (aB.mk r1 (eL.mk 0 0 (bE.mk 0 0 false false false)) (eL.mk 0 0 (bE.mk 0 0 false false false)) false 0 (IntKind.i64.wrap (r9.2 - 1)) true (ByteArray.mk #[]))))
def jB (s_:aB):Option (aX×aB) :=
 ((kL s_.g).bind λr1=>some (r1.1,(aB.mk r1.2 s_.spot s_.saved s_.waiting s_.top s_.aL s_.aY s_.title)))
def ky (s_:aB):Option ByteArray :=
 some s_.title
def jX (s_:aB):Option (Int×Int) :=
 some (s_.spot.x,s_.spot.y)
def jH (r_:aE):Option aE :=
 some (aE.mk r_.cells true)
def cW (s_:aB):Option aB :=
 ((fS s_.g s_.spot.y).bind λa=>((jH a).bind λb=>((fF s_.g s_.spot.y b).bind λc=>some (aB.mk c.2 s_.spot s_.saved s_.waiting s_.top s_.aL s_.aY s_.title))))
def bY (s_:aB):Option Int :=
 ((kP s_.spot.aM).bind λr1=>some r1)
def je (s_:aB) (n_:Int):Option ((List aE)×aB) :=
 ((bY s_).bind λb=>((gI s_.g s_.top s_.aL n_ b).bind λa=>(bif (decide (s_.top > 0)) then some (([]:List aE),(aB.mk a.2 s_.spot s_.saved s_.waiting s_.top s_.aL s_.aY s_.title)) else some (a.1,(aB.mk a.2 s_.spot s_.saved s_.waiting s_.top s_.aL s_.aY s_.title)))))
def eF (s_:aB):Option (Int×Int) :=
 ((eD s_.g).bind λr1=>some ((IntKind.i64.wrap (r1.1 - 1)),(IntKind.i64.wrap (r1.2 - 1))))
def iB (n_:Int) (lo:Int) (hi:Int):Option Int :=
 some (imax lo (eO n_ hi))
def bH (s_:aB) (x_:Int) (y:Int):Option aB :=
 ((eF s_).bind λr1=>((iB x_ 0 r1.1).bind λr4=>((iB y 0 r1.2).bind λr7=>some (aB.mk s_.g (eL.mk r4 r7 s_.spot.aM) s_.saved false s_.top s_.aL s_.aY s_.title))))
def dF (s_:aB):Option ((List aE)×aB) :=
 (bif (s_.spot.y == s_.aL) then ((je (aB.mk s_.g s_.spot s_.saved false s_.top s_.aL s_.aY s_.title) 1).bind λa=>some (a.1,a.2)) else ((bH (aB.mk s_.g s_.spot s_.saved false s_.top s_.aL s_.aY s_.title) s_.spot.x (IntKind.i64.wrap (s_.spot.y+1))).bind λb=>some (([]:List aE),b)))
def jI (r_:aE) (x1:aB):Option aE :=
 ((bY x1).bind λa=>((mz r_ a).bind λb=>some b))
def cX (s_:aB):Option aB :=
 ((fS s_.g s_.spot.y).bind λa=>((jI a s_).bind λb=>((fF s_.g s_.spot.y b).bind λc=>some (aB.mk c.2 s_.spot s_.saved s_.waiting s_.top s_.aL s_.aY s_.title))))
def jJ (q:aE) (x1:aB) (x2:Int):Option aE :=
 ((bY x1).bind λa=>((mV q x1.spot.x x2 a).bind λb=>some b))
def dM (s_:aB) (f_1:Int):Option aB :=
 ((fS s_.g s_.spot.y).bind λa=>((jJ a s_ f_1).bind λb=>((fF s_.g s_.spot.y b).bind λc=>some (aB.mk c.2 s_.spot s_.saved s_.waiting s_.top s_.aL s_.aY s_.title))))
def iW (s_:aB) (r_:Int):Option ((List aE)×aB) :=
 ((px r_).bind λr3=>((eD s_.g).bind λr6=>(((bif (r3 == 0) then some true else some (decide (r3 > r6.1))):Option Bool).bind λi=>(bif i then some (([]:List aE),s_) else (((bif s_.waiting then some s_.aY else some false):Option Bool).bind λj=>(((bif j then ((cW s_).bind λc=>((dF (aB.mk c.g (eL.mk 0 c.spot.y c.spot.aM) c.saved c.waiting c.top c.aL c.aY c.title)).bind λf=>((chk (eI ([]:List aE).length f.1.length 32)).bind λ_=>some ((([]:List aE)++f.1),f.2.g,f.2)))) else some ([],s_.g,s_)):Option ((List aE)×aX×aB)).bind λa=>(((bif (decide ((IntKind.i64.wrap (a.2.2.spot.x+r3)) > r6.1)) then (bif a.2.2.aY then ((cX (aB.mk a.2.1 a.2.2.spot a.2.2.saved a.2.2.waiting a.2.2.top a.2.2.aL a.2.2.aY a.2.2.title)).bind λd=>((dF (aB.mk d.g (eL.mk 0 d.spot.y d.spot.aM) d.saved d.waiting d.top d.aL d.aY d.title)).bind λh=>((chk (eI a.1.length h.1.length 32)).bind λ_=>some ((a.1++h.1),h.2.g,h.2)))) else some (a.1,a.2.1,(aB.mk a.2.1 (eL.mk (IntKind.i64.wrap (a.2.2.spot.x - 1)) a.2.2.spot.y a.2.2.spot.aM) a.2.2.saved a.2.2.waiting a.2.2.top a.2.2.aL a.2.2.aY a.2.2.title))) else some (a.1,a.2.1,(aB.mk a.2.1 a.2.2.spot a.2.2.saved a.2.2.waiting a.2.2.top a.2.2.aL a.2.2.aY a.2.2.title))):Option ((List aE)×aX×aB)).bind λe=>((dM (aB.mk e.2.1 e.2.2.spot e.2.2.saved e.2.2.waiting e.2.2.top e.2.2.aL e.2.2.aY e.2.2.title) r_).bind λb=>some (e.1,(aB.mk b.g (eL.mk (eO (IntKind.i64.wrap (b.spot.x+r3)) (IntKind.i64.wrap (r6.1 - 1))) b.spot.y b.spot.aM) b.saved ((IntKind.i64.wrap (b.spot.x+r3)) == r6.1) b.top b.aL b.aY b.title))))))))))
def gS (s_:aB) (b:Int):Option ((List aE)×aB) :=
 (((bif (b == 8) then ((bH s_ (IntKind.i64.wrap (s_.spot.x - 1)) s_.spot.y).bind λa=>some (.inl (a,a.g))) else (bif (b == 9) then ((bH s_ (IntKind.i64.wrap ((IntKind.i64.wrap ((IntKind.i64.wrap (s_.spot.x.tdiv 8))+1))*8)) s_.spot.y).bind λc=>some (.inl (c,c.g))) else (((bif (b == 10) then some (b == 10) else (bif (b == 11) then some (b == 11) else some (b == 12))):Option Bool).bind λf=>(bif f then ((dF s_).bind λd=>(ll (some (d.1,d.2)))) else (bif (b == 13) then ((bH s_ 0 s_.spot.y).bind λe=>some (.inl (e,e.g))) else some (.inl (s_,s_.g))))))):Option ((aB×aX) ⊕ ((List aE)×aB))).bind λ | .inl e86=>some (([]:List aE),(aB.mk e86.2 e86.1.spot e86.1.saved e86.1.waiting e86.1.top e86.1.aL e86.1.aY e86.1.title)) | .inr w=>some w)
def jC (s_:aB):Option aB :=
 (bif (s_.spot.y == s_.top) then ((bY (aB.mk s_.g s_.spot s_.saved false s_.top s_.aL s_.aY s_.title)).bind λa=>((eU s_.g s_.top s_.aL 1 a).bind λb=>some (aB.mk b.2 s_.spot s_.saved false s_.top s_.aL s_.aY s_.title))) else ((bH (aB.mk s_.g s_.spot s_.saved false s_.top s_.aL s_.aY s_.title) s_.spot.x (IntKind.i64.wrap (s_.spot.y - 1))).bind λc=>some c))
def iG (s_:aB) (b:Int):Option ((List aE)×aB) :=
 (((((bif (b == 69) then some (.inl (aB.mk s_.g (eL.mk 0 s_.spot.y s_.spot.aM) s_.saved s_.waiting s_.top s_.aL s_.aY s_.title)) else (bif (b == 68) then some (.inl s_) else (bif (b == 77) then (ll ((jC s_).bind λd=>some (.inl d))) else (bif (b == 55) then (ll (some (.inl (aB.mk s_.g s_.spot s_.spot s_.waiting s_.top s_.aL s_.aY s_.title)))) else (bif (b == 56) then (ll ((bH (aB.mk s_.g (eL.mk s_.spot.x s_.spot.y s_.saved.aM) s_.saved s_.waiting s_.top s_.aL s_.aY s_.title) s_.saved.x s_.saved.y).bind λe=>some (.inl e))) else (bif (b == 99) then (ll ((eD s_.g).bind λa=>((mL a.1 a.2).bind λf=>some (.inl f)))) else (ll (some (.inl s_))))))))):Option (aB ⊕ (aB ⊕ ((List aE)×aB)))).bind λ | .inl e4671=>((dF (aB.mk s_.g e4671.spot e4671.saved e4671.waiting e4671.top e4671.aL e4671.aY e4671.title)).bind λc=>(ll (some (c.1,c.2)))) | .inr w=>some w):Option (aB ⊕ ((List aE)×aB))).bind λ | .inl e3164=>some (([]:List aE),e3164) | .inr w=>some w)
def fB (a:aZ) (i:Int) (d:Int):Option Int :=
 (((bif (decide (i>=(a.bJ.length:Int))) then some true else ((idx a.bJ i).bind λb=>some (decide (b<=0)))):Option Bool).bind λc=>(bif c then some d else ((idx a.bJ i).bind λe=>some (eO e 9999))))
def gD (s_:aB) (n_:Int):Option aB :=
 ((eF s_).bind λr1=>(((bif (decide (s_.spot.y>=s_.top)) then some (decide (n_ < 0)) else some false):Option Bool).bind λe9=>(((bif e9 then some s_.top else some 0):Option Int).bind λa=>(((bif (decide (s_.spot.y<=s_.aL)) then some (decide (n_ > 0)) else some false):Option Bool).bind λb=>(((bif b then some s_.aL else some r1.2):Option Int).bind λc=>((iB (IntKind.i64.wrap (s_.spot.y+n_)) a c).bind λd=>((bH s_ s_.spot.x d).bind λe=>some e)))))))
def eP (s_:aB) (y:Int) (from_:Int) (to:Int):Option aB :=
 ((fS s_.g y).bind λa=>((bY s_).bind λb=>((kC a from_ to b).bind λc=>((fF s_.g y c).bind λd=>some (aB.mk d.2 s_.spot s_.saved s_.waiting s_.top s_.aL s_.aY s_.title)))))
def gT (s_:aB) (n_:Int):Option aB :=
 ((eD s_.g).bind λr1=>(((bif (n_ == 0) then ((eP s_ s_.spot.y s_.spot.x r1.1).bind λb=>some (b.g,b)) else (bif (n_ == 1) then ((eP s_ s_.spot.y 0 (IntKind.i64.wrap (s_.spot.x+1))).bind λc=>some (c.g,c)) else (bif (n_ == 2) then ((eP s_ s_.spot.y 0 r1.1).bind λd=>some (d.g,d)) else some (s_.g,s_)))):Option (aX×aB)).bind λa=>(bif a.2.waiting then some (aB.mk a.1 a.2.spot a.2.saved (decide (n_ > 2)) a.2.top a.2.aL a.2.aY a.2.title) else some (aB.mk a.1 a.2.spot a.2.saved false a.2.top a.2.aL a.2.aY a.2.title))))
def jD (s_:aB) (n_:Int):Option aB :=
 ((eD s_.g).bind λr1=>((iter (σ:=aB×aX×Int) (ρ:=aX×aB) (λa=>(bif (decide (a.2.2 < r1.2)) then (((((bif (decide (a.2.2 < a.1.spot.y)) then (bif (n_ == 1) then some true else (bif (decide (a.2.2 > a.1.spot.y)) then (bif (n_ == 0) then some true else (bif (a.2.2 != a.1.spot.y) then some (n_ == 2) else some false)) else (bif (a.2.2 != a.1.spot.y) then some (n_ == 2) else some false))) else (bif (decide (a.2.2 > a.1.spot.y)) then (bif (n_ == 0) then some true else (bif (a.2.2 != a.1.spot.y) then some (n_ == 2) else some false)) else (bif (a.2.2 != a.1.spot.y) then some (n_ == 2) else some false))):Option Bool).bind λe=>(bif e then ((eP (aB.mk a.2.1 a.1.spot a.1.saved a.1.waiting a.1.top a.1.aL a.1.aY a.1.title) a.2.2 0 r1.1).bind λd=>some (d.g,d)) else some (a.2.1,(aB.mk a.2.1 a.1.spot a.1.saved a.1.waiting a.1.top a.1.aL a.1.aY a.1.title)))):Option (aX×aB)).bind λb=>some (.inl ((aB.mk b.1 b.2.spot b.2.saved b.2.waiting b.2.top b.2.aL b.2.aY b.2.title),b.1,(IntKind.i64.wrap (a.2.2+1))))) else some (.inr (a.2.1,(aB.mk a.2.1 a.1.spot a.1.saved a.1.waiting a.1.top a.1.aL a.1.aY a.1.title))))) (s_,s_.g,0)).bind λc=>((gT (aB.mk c.1 c.2.spot c.2.saved c.2.waiting c.2.top c.2.aL c.2.aY c.2.title) n_).bind λf=>some f)))
def gU (r_:aE) (x1:Int) (x2:aB) (x3:Int):Option aE :=
 (bif (x1 == 64) then ((bY x2).bind λa=>((lu r_ x2.spot.x x3 a).bind λb=>some b)) else (bif (x1 == 80) then ((bY x2).bind λc=>((lx r_ x2.spot.x x3 c).bind λd=>some d)) else ((bY x2).bind λe=>((kC r_ x2.spot.x (IntKind.i64.wrap (x2.spot.x+x3)) e).bind λf=>some f))))
def eW (s_:aB) (f_0:Int) (f_2:Int):Option aB :=
 ((fS s_.g s_.spot.y).bind λa=>((gU a f_0 s_ f_2).bind λb=>((fF s_.g s_.spot.y b).bind λc=>some (aB.mk c.2 s_.spot s_.saved s_.waiting s_.top s_.aL s_.aY s_.title))))
def iX (s_:aB) (b:Int) (n_:Int):Option aB :=
 ((eW s_ b n_).bind λr4=>some (aB.mk r4.g r4.spot r4.saved false r4.top r4.aL r4.aY r4.title))
def iY (s_:aB) (b:Int) (n_:Int):Option aB :=
 (((bif (decide (s_.spot.y < s_.top)) then some true else some (decide (s_.spot.y > s_.aL))):Option Bool).bind λe6=>(bif e6 then some s_ else (((bif (b == 76) then ((bY s_).bind λa=>((eU s_.g s_.spot.y s_.aL n_ a).bind λc=>some c.2)) else ((bY s_).bind λd=>((gI s_.g s_.spot.y s_.aL n_ d).bind λe=>some e.2))):Option aX).bind λf=>((bH (aB.mk f s_.spot s_.saved s_.waiting s_.top s_.aL s_.aY s_.title) 0 s_.spot.y).bind λh=>some h))))
def iH (s_:aB) (a:aZ):Option aB :=
 ((eD s_.g).bind λr2=>((fB a 0 1).bind λd=>((iB d 1 r2.2).bind λb=>((fB a 1 r2.2).bind λe=>((iB e 1 r2.2).bind λc=>(bif (decide ((IntKind.i64.wrap (b - 1)) < (IntKind.i64.wrap (c - 1)))) then ((bH (aB.mk s_.g s_.spot s_.saved s_.waiting (IntKind.i64.wrap (b - 1)) (IntKind.i64.wrap (c - 1)) s_.aY s_.title) 0 0).bind λf=>some f) else some s_))))))
def iZ (s_:aB) (a:aZ):Option ((List aE)×aB) :=
 ((fB a 0 1).bind λr2=>(((((bif (a.byte == 65) then some (a.byte == 65) else some (a.byte == 70)):Option Bool).bind λr=>(bif r then ((gD s_ (IntKind.i64.wrap (0 - r2))).bind λc=>some (.inl (c,c.g))) else (((bif (a.byte == 66) then some (a.byte == 66) else some (a.byte == 69)):Option Bool).bind λs=>(bif s then ((gD s_ r2).bind λd=>some (.inl (d,d.g))) else (bif (a.byte == 67) then ((bH s_ (IntKind.i64.wrap (s_.spot.x+r2)) s_.spot.y).bind λe=>some (.inl (e,e.g))) else (bif (a.byte == 68) then ((bH s_ (IntKind.i64.wrap (s_.spot.x - r2)) s_.spot.y).bind λf=>some (.inl (f,f.g))) else (bif (a.byte == 71) then ((bH s_ (IntKind.i64.wrap (r2 - 1)) s_.spot.y).bind λh=>some (.inl (h,h.g))) else (bif (a.byte == 100) then ((bH s_ s_.spot.x (IntKind.i64.wrap (r2 - 1))).bind λi=>some (.inl (i,i.g))) else (((bif (a.byte == 72) then some (a.byte == 72) else some (a.byte == 102)):Option Bool).bind λt=>(bif t then ((fB a 1 1).bind λu=>((bH s_ (IntKind.i64.wrap (u - 1)) (IntKind.i64.wrap (r2 - 1))).bind λj=>some (.inl (j,j.g)))) else (bif (a.byte == 74) then ((fB a 0 0).bind λv=>((jD s_ v).bind λk=>some (.inl (k,k.g)))) else (bif (a.byte == 75) then ((fB a 0 0).bind λz=>((gT s_ z).bind λl=>some (.inl (l,l.g)))) else (((bif (a.byte == 64) then some (a.byte == 64) else (bif (a.byte == 80) then some (a.byte == 80) else some (a.byte == 88))):Option Bool).bind λA=>(bif A then ((iX s_ a.byte r2).bind λm=>some (.inl (m,m.g))) else (((bif (a.byte == 76) then some (a.byte == 76) else some (a.byte == 77)):Option Bool).bind λB=>(bif B then ((iY s_ a.byte r2).bind λn=>some (.inl (n,n.g))) else (bif (a.byte == 83) then ((je (aB.mk s_.g s_.spot s_.saved false s_.top s_.aL s_.aY s_.title) r2).bind λo=>(ll (some (o.1,o.2)))) else (bif (a.byte == 84) then ((bY (aB.mk s_.g s_.spot s_.saved false s_.top s_.aL s_.aY s_.title)).bind λC=>((eU s_.g s_.top s_.aL r2 C).bind λp=>some (.inl ((aB.mk p.2 s_.spot s_.saved false s_.top s_.aL s_.aY s_.title),p.2)))) else (bif (a.byte == 109) then ((kR s_.spot.aM a.bJ).bind λD=>some (.inl ((aB.mk s_.g (eL.mk s_.spot.x s_.spot.y D) s_.saved s_.waiting s_.top s_.aL s_.aY s_.title),s_.g))) else (bif (a.byte == 114) then ((iH s_ a).bind λq=>some (.inl (q,q.g))) else some (.inl (s_,s_.g)))))))))))))))))))))):Option ((aB×aX) ⊕ ((List aE)×aB))).bind λ | .inl e310=>(((bif (a.byte == 69) then some true else some (a.byte == 70)):Option Bool).bind λE=>(((bif E then some (aB.mk e310.2 (eL.mk 0 e310.1.spot.y e310.1.spot.aM) e310.1.saved e310.1.waiting e310.1.top e310.1.aL e310.1.aY e310.1.title) else some (aB.mk e310.2 e310.1.spot e310.1.saved e310.1.waiting e310.1.top e310.1.aL e310.1.aY e310.1.title)):Option aB).bind λb=>some (([]:List aE),(aB.mk e310.2 b.spot b.saved b.waiting b.top b.aL b.aY b.title)))) | .inr w=>some w))
def gP (s_:aB) (a:aZ):Option ((List aE)×aB) :=
 (((bif (a.kind == 1) then ((iW s_ a.rune).bind λb=>(ll (some (b.1,b.2)))) else (bif (a.kind == 2) then ((gS s_ a.byte).bind λc=>(ll (some (c.1,c.2)))) else (bif (a.kind == 3) then ((iG s_ a.byte).bind λd=>(ll (some (d.1,d.2)))) else (bif (a.kind == 5) then some (.inl (aB.mk s_.g s_.spot s_.saved s_.waiting s_.top s_.aL s_.aY a.text)) else (bif (a.kind == 4) then (bif (!a.eG) then ((iZ s_ a).bind λe=>(ll (some (e.1,e.2)))) else ((((fB a 0 0).bind λf=>(bif (f == 7) then (bif (a.byte == 104) then some true else some (a.byte == 108)) else some false)):Option Bool).bind λh=>(bif h then some (.inl (aB.mk s_.g s_.spot s_.saved s_.waiting s_.top s_.aL (a.byte == 104) s_.title)) else some (.inl s_)))) else some (.inl s_)))))):Option (aB ⊕ ((List aE)×aB))).bind λ | .inl e133=>some (([]:List aE),(aB.mk s_.g e133.spot e133.saved e133.waiting e133.top e133.aL e133.aY e133.title)) | .inr w=>some w)
def iI (s_:aB) (w:Int) (h_:Int):Option ((List aE)×aB) :=
 ((iB h_ 1 1000).bind λb=>((km s_.g w h_ (imax 0 (IntKind.i64.wrap (s_.spot.y - (IntKind.i64.wrap (b - 1)))))).bind λc=>((bH (aB.mk c.2 s_.spot s_.saved s_.waiting s_.top s_.aL s_.aY s_.title) s_.spot.x (IntKind.i64.wrap (s_.spot.y - (imax 0 (IntKind.i64.wrap (s_.spot.y - (IntKind.i64.wrap (b - 1)))))))).bind λa=>((eF a).bind λd=>some (c.1,(aB.mk a.g a.spot a.saved a.waiting 0 d.2 a.aY a.title))))))
structure aH where
 k:Int
 w:Int
 h:Int
 x:Int
 y:Int
 title:ByteArray
 rows:List aE
 len:Int
 chain:Int
 begun:List aJ
 deriving DecidableEq,Inhabited
def tO (k:Int) (s_:aB) (b:cF):Option (aH×aB) :=
 ((jB (aB.mk s_.g s_.spot s_.saved s_.waiting s_.top s_.aL s_.aY s_.title)).bind λr2=>((ky (aB.mk r2.2.g r2.2.spot r2.2.saved r2.2.waiting r2.2.top r2.2.aL r2.2.aY r2.2.title)).bind λe=>((ly r2.1).bind λa=>((lX b).bind λf=>((lX b).bind λh=>((kJ b h).bind λi=>((kK b).bind λj=>((eD a.2).bind λc=>((jX (aB.mk r2.2.g r2.2.spot r2.2.saved r2.2.waiting r2.2.top r2.2.aL r2.2.aY r2.2.title)).bind λd=>some ((aH.mk k c.1 c.2 d.1 d.2 e a.1 f i j),(aB.mk r2.2.g r2.2.spot r2.2.saved r2.2.waiting r2.2.top r2.2.aL r2.2.aY r2.2.title)))))))))))
def iJ (s_:aH):Option Bool :=
 (((bif (s_.k == 0) then (bif (s_.w == 0) then (bif (s_.h == 0) then (bif (s_.x == 0) then (bif (s_.y == 0) then (bif (s_.title.toList == (ByteArray.mk #[]).toList) then (bif ((s_.rows.length:Int) == 0) then (bif (s_.len == 0) then (bif (s_.chain == 0) then some ((s_.begun.length:Int) == 0) else some false) else some false) else some false) else some false) else some false) else some false) else some false) else some false) else some false):Option Bool).bind λa=>some a)
def eX (n_:Int) (lo:Int) (hi:Int):Option Bool :=
 (((bif (decide (n_>=lo)) then some (decide (n_<=hi)) else some false):Option Bool).bind λe4=>some e4)
def kS (s_:aH):Option Bool :=
 ((((eX s_.k 1 1152921504606846976).bind λa=>(bif a then ((eX s_.w 1 1000).bind λb=>(bif b then ((eX s_.h 1 1000).bind λc=>(bif c then ((eX s_.x 0 (IntKind.i64.wrap (s_.w - 1))).bind λd=>(bif d then ((eX s_.y 0 (IntKind.i64.wrap (s_.h - 1))).bind λe=>(bif e then (bif ((s_.rows.length:Int) == s_.h) then (bif (decide ((s_.title.size:Int)<=200)) then ((eX s_.len 0 1152921504606846976).bind λf=>(bif f then ((eX s_.chain 0 281474976710656).bind λg=>(bif g then some (decide ((s_.begun.length:Int)<=1024)) else some false)) else some false)) else some false) else some false) else some false)) else some false)) else some false)) else some false)) else some false)):Option Bool).bind λi=>some i)
def mM (r_:Int) (aM:Int):Option Bool :=
 ((((eX (IntKind.i64.wrap r_) 0 1114111).bind λa=>(bif a then ((eX aM 0 647).bind λb=>some b) else some false)):Option Bool).bind λc=>some c)
def jR (g:aJ):Option Bool :=
 ((mM g.rune g.aM).bind λr2=>some (!r2))
def dQ (s_:List aJ):Option Int :=
 ((iter (σ:=Int) (ρ:=Unit ⊕ Int) (λa=>(bif (decide (a < (s_.length:Int))) then ((idx s_ a).bind λb=>((jR b).bind λc=>(bif c then (ln (some a)) else some (.inl (IntKind.i64.wrap (a+1)))))) else some (.inr (.inl ())))) 0).bind λ | .inl e77=>some (-1) | .inr w=>some w)
def cM (s_:List aJ):Option Bool :=
 ((dQ s_).bind λr1=>some (decide (r1>=0)))
def oH (c:aG):Option Bool :=
 ((((mM c.rune c.aM).bind λa=>(bif a then ((eX c.part 0 3).bind λb=>some b) else some false)):Option Bool).bind λd=>some d)
def jS (c:aG):Option Bool :=
 ((oH c).bind λr2=>some (!r2))
def dV (s_:List aG):Option Int :=
 ((iter (σ:=Int) (ρ:=Unit ⊕ Int) (λa=>(bif (decide (a < (s_.length:Int))) then ((idx s_ a).bind λb=>((jS b).bind λc=>(bif c then (ln (some a)) else some (.inl (IntKind.i64.wrap (a+1)))))) else some (.inr (.inl ())))) 0).bind λ | .inl e77=>some (-1) | .inr w=>some w)
def cA (s_:List aG):Option Bool :=
 ((dV s_).bind λr1=>some (decide (r1>=0)))
def eY (s_:aH):Option Int :=
 ((iJ s_).bind λr2=>(bif r2 then some 0 else ((((kS s_).bind λc=>(bif (!c) then some true else ((cM s_.begun).bind λd=>some d))):Option Bool).bind λe=>(bif e then some 1 else ((iter (σ:=Int) (ρ:=Unit ⊕ Int) (λa=>(bif (decide (a < (s_.rows.length:Int))) then ((idx s_.rows a).bind λb=>(((bif ((b.cells.length:Int) != s_.w) then some true else ((cA b.cells).bind λf=>some f)):Option Bool).bind λg=>(bif g then (ln (some 1)) else some (.inl (IntKind.i64.wrap (a+1)))))) else some (.inr (.inl ())))) 0).bind λ | .inl e212=>some 0 | .inr w=>some w)))))
def rG (is:Bool):Option Int :=
 (bif is then some 1 else some 0)
def p8 (l:List aG):Option (List aG) :=
 some l
def oA {σ:Type} (Y:σ->(Int×aG)->Option (σ×Bool)) (y0:σ) (x1:List aG):Option (σ×(List aG)) :=
 ((iter (σ:=(List aG)×σ) (ρ:=((List aG)×σ) ⊕ (σ×(List aG))) (λa=>(bif (decide ((a.1.length:Int) > 0)) then ((iter (σ:=Int) (ρ:=Int) (λb=>(((bif (decide (b < (a.1.length:Int))) then ((idx a.1 b).bind λc=>((idx a.1 0).bind λd=>some ((c.rune == d.rune) && ((c.aM == d.aM) && ((c.part == d.part) && true))))) else some false):Option Bool).bind λf=>(bif f then some (.inl (IntKind.i64.wrap (b+1))) else some (.inr b)))) 1).bind λe=>((idx a.1 0).bind λg=>((Y a.2 (e,g)).bind λz1399=>(bif (!z1399.2) then (ln (some (z1399.1,a.1))) else ((chk (dE e (a.1.length:Int) a.1.length)).bind λ_=>some (.inl ((cut a.1 e (a.1.length:Int)),z1399.1))))))) else some (.inr (.inl (a.1,a.2))))) (x1,y0)).bind λ | .inl e1058=>some (e1058.2,e1058.1) | .inr w=>some w)
def ko (r_:aE):Option ByteArray :=
 ((rG r_.wrapped).bind λr3=>((dB (cG.mk ([]:List Int)) [r3]).bind λb=>((p8 r_.cells).bind λc=>((oA (λd a=>((dB d [a.1,(IntKind.i64.wrap a.2.rune),a.2.aM,a.2.part]).bind λe=>some (e,true))) (b:cG) c).bind λf=>((iP f.1).bind λg=>some g)))))
def ki (s_:aH):Option ByteArray :=
 ((((iJ s_).bind λb=>(bif b then some true else ((eY s_).bind λc=>some (c != 0)))):Option Bool).bind λd=>(bif d then some (ByteArray.mk #[]) else ((dB (cG.mk ([]:List Int)) [s_.k,s_.w,s_.h,s_.x,s_.y]).bind λe=>((lq e [s_.title]).bind λf=>((dB f [s_.len,s_.chain]).bind λg=>((mA s_.begun).bind λi=>((iA g [i]).bind λj=>((iter (σ:=cG×Int) (ρ:=cG) (λa=>(bif (decide (a.2 < (s_.rows.length:Int))) then ((idx s_.rows a.2).bind λl=>((ko l).bind λm=>((iA a.1 [m]).bind λn=>some (.inl (n,(IntKind.i64.wrap (a.2+1))))))) else some (.inr a.1))) (j,0)).bind λo=>((iP o).bind λp=>some p)))))))))
def xN (in_:aT):Option (Int×aT) :=
 ((bW in_).bind λr1=>(bif (decide (r1.1 > 1000)) then ((bU r1.2 1).bind λr9=>some (0,r9)) else some (r1.1,r1.2)))
def ou (in_:aT) (left:Int):Option (Int×aG×Bool×aT) :=
 ((bW in_).bind λr2=>(((bif (r2.1 == 0) then some true else some (decide (r2.1 > left))):Option Bool).bind λe8=>(((bif e8 then ((bU r2.2 1).bind λf=>some f) else some r2.2):Option aT).bind λc=>((iter (σ:=ni×aT×Int) (ρ:=ni×aT) (λa=>(bif (decide (a.2.2 < 3)) then ((((idx [1114111,647,3] a.2.2).bind λg=>((bW a.2.1).bind λb=>((chk (Iw a.2.2 3)).bind λ_=>((chk (Iw a.2.2 3)).bind λ_=>((idx [(sel a.2.2 0 b.1 a.1.e0),(sel a.2.2 1 b.1 a.1.e1),(sel a.2.2 2 b.1 a.1.e2)] a.2.2).bind λh=>(bif (decide (h > g)) then ((bU b.2 1).bind λi=>some ((ni.mk (sel a.2.2 0 b.1 a.1.e0) (sel a.2.2 1 b.1 a.1.e1) (sel a.2.2 2 b.1 a.1.e2)),i)) else some ((ni.mk (sel a.2.2 0 b.1 a.1.e0) (sel a.2.2 1 b.1 a.1.e1) (sel a.2.2 2 b.1 a.1.e2)),b.2))))))):Option (ni×aT)).bind λe=>some (.inl (e.1,e.2,(IntKind.i64.wrap (a.2.2+1))))) else some (.inr (a.1,a.2.1)))) ((ni.mk 0 0 0),c,0)).bind λd=>((dU d.2).bind λj=>(bif (j != 0) then some (0,(aG.mk 0 0 0),false,d.2) else some (r2.1,(aG.mk (IntKind.i32.wrap d.1.e0) d.1.e1 d.1.e2),true,d.2)))))))
def lA (in_:aT) (w:Int):Option (aE×aT) :=
 ((bW in_).bind λr2=>(((bif (decide (r2.1 > 1)) then ((bU r2.2 1).bind λf=>some f) else some r2.2):Option aT).bind λg=>((iter (σ:=aT×(List aG)) (ρ:=(List aG)×aT) (λa=>(((bif (decide ((a.2.length:Int) < w)) then ((dU a.1).bind λh=>some (h == 0)) else some false):Option Bool).bind λi=>(bif i then ((ou a.1 (IntKind.i64.wrap (w - (a.2.length:Int)))).bind λb=>(bif (!b.2.2.1) then some (.inl (b.2.2.2,a.2)) else (((bif (decide ((a.2.length:Int) > 0)) then ((idx a.2 (IntKind.i64.wrap ((a.2.length:Int) - 1))).bind λd=>some ((d.rune == b.2.1.rune) && ((d.aM == b.2.1.aM) && ((d.part == b.2.1.part) && true)))) else some false):Option Bool).bind λj=>(bif j then ((bU b.2.2.2 1).bind λk=>some (.inl (k,a.2))) else ((eJ [b.2.1] b.1).bind λe=>((chk (eI a.2.length e.length 24)).bind λ_=>some (.inl (b.2.2.2,(a.2++e))))))))) else some (.inr (a.2,a.1))))) (g,[])).bind λc=>((dU c.2).bind λl=>(bif (l != 0) then some ((aE.mk ([]:List aG) false),c.2) else some ((aE.mk c.1 (r2.1 == 1)),c.2))))))
def fT (s_:aH) (t_:aH):Option Bool :=
 (((bif (s_.k == t_.k) then (bif (s_.w == t_.w) then (bif (s_.h == t_.h) then (bif (s_.x == t_.x) then (bif (s_.y == t_.y) then (bif (s_.title.toList == t_.title.toList) then (bif (s_.len == t_.len) then (bif (s_.chain == t_.chain) then ((dL s_.rows t_.rows).bind λa=>(bif a then ((gH s_.begun t_.begun).bind λb=>some b) else some false)) else some false) else some false) else some false) else some false) else some false) else some false) else some false) else some false):Option Bool).bind λc=>some c)
def iK (s_:aH):Option aH :=
 ((iter (σ:=(List aE)×Int) (ρ:=(List aE)) (λa=>(bif (decide (a.2 < (s_.rows.length:Int))) then ((idx s_.rows a.2).bind λb=>((eT b.cells).bind λc=>((chk (eI a.1.length [(aE.mk c b.wrapped)].length 32)).bind λ_=>some (.inl ((a.1++[(aE.mk c b.wrapped)]),(IntKind.i64.wrap (a.2+1))))))) else some (.inr a.1))) ([],0)).bind λd=>((cB s_.begun).bind λe=>some (aH.mk s_.k s_.w s_.h s_.x s_.y s_.title d s_.len s_.chain e)))
def kD (s_:aH):Option Int :=
 ((ki s_).bind λr2=>((qJ [r2]).bind λr7=>some (IntKind.i64.wrap r7)))
def gJ (s_:List aH):Option (List aH) :=
 ((chk (eI ([]:List aH).length s_.length 120)).bind λ_=>some (([]:List aH)++s_))
structure bQ where
 sum:Int
 to:aH
 rows:Mp aE
 deriving DecidableEq,Inhabited
def kT (s_:aH):Option Bool :=
 ((ki s_).bind λr2=>some (!(r2.toList == (ByteArray.mk #[]).toList)))
def kE (a:aH) (b:aH):Option (aH×aH) :=
 some (b,a)
def jm (s_:aH) (y:Int):Option (aE×Bool) :=
 (((bif (decide (y < 0)) then some true else some (decide (y>=(s_.rows.length:Int)))):Option Bool).bind λe6=>(bif e6 then some ((aE.mk ([]:List aG) false),false) else ((idx s_.rows y).bind λa=>some (a,true))))
def iL {σ:Type} (Y:σ->(Int×aE)->Option (σ×Bool)) (y0:σ) (x1:aH) (x2:aH):Option σ :=
 ((iter (σ:=Int×σ) (ρ:=σ ⊕ σ) (λa=>(bif (decide (a.1 < (x1.rows.length:Int))) then ((((idx x1.rows a.1).bind λb=>((jm x2 a.1).bind λc=>(((bif c.2 then ((jw c.1 b).bind λd=>some d) else some false):Option Bool).bind λe=>(bif e then some (.inl a.2) else ((Y a.2 (a.1,b)).bind λz546=>(bif (!z546.2) then (ll (ln (some z546.1))) else some (.inl z546.1))))))):Option (σ ⊕ ((Int×σ) ⊕ (σ ⊕ σ)))).bind λ | .inl e506=>some (.inl ((IntKind.i64.wrap (a.1+1)),e506)) | .inr w=>some w) else some (.inr (.inl a.2)))) (0,y0)).bind λ | .inl e412=>some e412 | .inr w=>some w)
def lY (a:aH) (b:aH):Option (List Int) :=
 ((kE a b).bind λr4=>((iL (λc d=>((chk (eI c.length [d.1].length 8)).bind λ_=>some ((c++[d.1]),true))) ([]:(List Int)) r4.1 r4.2).bind λe=>some e))
def nK (a:aH) (b:aH):Option ByteArray :=
 ((((eY a).bind λf=>(bif (f != 0) then some true else ((kT b).bind λc=>some (!c)))):Option Bool).bind λg=>(bif g then some (ByteArray.mk #[]) else ((kD a).bind λi=>((dB (cG.mk ([]:List Int)) [i,b.k,b.w,b.h,b.x,b.y]).bind λj=>((lq j [b.title]).bind λl=>((dB l [b.len,b.chain]).bind λm=>((mA b.begun).bind λn=>((iA m [n]).bind λo=>((lY a b).bind λp=>((dB o [(p.length:Int)]).bind λq=>((kE a b).bind λd=>((iL (λr e=>((dB r [e.1]).bind λs=>((ko e.2).bind λt=>((iA s [t]).bind λu=>some (u,true))))) (q:cG) d.1 d.2).bind λv=>((iP v).bind λz=>some z)))))))))))))
def lN (in_:aT):Option (Int×aT) :=
 ((bW in_).bind λr1=>(bif (decide (r1.1 > 1000)) then ((bU r1.2 1).bind λr9=>some (0,r9)) else some (r1.1,r1.2)))
def nL (s_:ByteArray):Option (bQ×Int) :=
 ((vI s_).bind λr2=>((bW r2).bind λr6=>((bW r6.2).bind λd=>((lN d.2).bind λe=>((lN e.2).bind λf=>((bW f.2).bind λg=>((bW g.2).bind λi=>((l9 i.2).bind λj=>((bW j.2).bind λl=>((bW l.2).bind λm=>((nw m.2).bind λn=>((bW n.2).bind λo=>((iter (σ:=bQ×aT×Int×Int) (ρ:=aT×bQ) (λa=>(((bif (decide (a.2.2.2 > 0)) then ((dU a.2.1).bind λq=>some (q == 0)) else some false):Option Bool).bind λr=>(bif r then ((bW a.2.1).bind λc=>(((bif (decide (c.1<=a.2.2.1)) then some true else some (decide (c.1>=a.1.to.h))):Option Bool).bind λs=>(((bif s then ((bU c.2 1).bind λt=>some t) else some c.2):Option aT).bind λu=>((lA u a.1.to.w).bind λp=>((chk a.1.rows.isSome).bind λ_=>some (.inl ((bQ.mk a.1.sum (aH.mk a.1.to.k a.1.to.w a.1.to.h a.1.to.x a.1.to.y a.1.to.title ([]:List aE) a.1.to.len a.1.to.chain a.1.to.begun) (Lj a.1.rows c.1 p.1)),p.2,c.1,(IntKind.i64.wrap (a.2.2.2 - 1))))))))) else some (.inr (a.2.1,(bQ.mk a.1.sum (aH.mk a.1.to.k a.1.to.w a.1.to.h a.1.to.x a.1.to.y a.1.to.title ([]:List aE) a.1.to.len a.1.to.chain a.1.to.begun) a.1.rows)))))) ((bQ.mk r6.1 (aH.mk d.1 e.1 f.1 g.1 i.1 j.1 ([]:List aE) l.1 m.1 n.1) (some []:Mp aE)),o.2,(-1),o.1)).bind λb=>((nH b.1).bind λv=>some ((bQ.mk b.2.sum (aH.mk b.2.to.k b.2.to.w b.2.to.h b.2.to.x b.2.to.y b.2.to.title ([]:List aE) b.2.to.len b.2.to.chain b.2.to.begun) b.2.rows),v)))))))))))))))
def fW (p:bQ) (a:aH):Option (Bool×bQ) :=
 ((iter (σ:=bQ×Int) (ρ:=bQ ⊕ (Bool×bQ)) (λb=>(bif (decide (b.2 < p.to.h)) then ((jm a b.2).bind λc=>(((((bif (rD b.1.rows b.2) then (bif c.2 then ((jw c.1 (mgd b.1.rows b.2 (aE.mk ([]:List aG) false))).bind λe=>some e) else some false) else some false):Option Bool).bind λd=>(((bif d then some d else (bif (!(rD b.1.rows b.2)) then some (!c.2) else some false)):Option Bool).bind λf=>(bif f then (ll (ln (some (false,(bQ.mk b.1.sum (aH.mk b.1.to.k b.1.to.w b.1.to.h b.1.to.x b.1.to.y b.1.to.title b.1.to.rows b.1.to.len b.1.to.chain b.1.to.begun) b.1.rows))))) else (bif (!(rD b.1.rows b.2)) then some (.inl c.1) else some (.inl (mgd b.1.rows b.2 (aE.mk ([]:List aG) false))))))):Option (aE ⊕ ((bQ×Int) ⊕ (bQ ⊕ (Bool×bQ))))).bind λ | .inl e1033=>((chk (eI b.1.to.rows.length [e1033].length 32)).bind λ_=>some (.inl ((bQ.mk b.1.sum (aH.mk b.1.to.k b.1.to.w b.1.to.h b.1.to.x b.1.to.y b.1.to.title (b.1.to.rows++[e1033]) b.1.to.len b.1.to.chain b.1.to.begun) b.1.rows),(IntKind.i64.wrap (b.2+1))))) | .inr w=>some w)) else some (.inr (.inl (bQ.mk b.1.sum (aH.mk b.1.to.k b.1.to.w b.1.to.h b.1.to.x b.1.to.y b.1.to.title b.1.to.rows b.1.to.len b.1.to.chain b.1.to.begun) b.1.rows))))) (p,0)).bind λ | .inl e816=>((kT (aH.mk e816.to.k e816.to.w e816.to.h e816.to.x e816.to.y e816.to.title e816.to.rows e816.to.len e816.to.chain e816.to.begun)).bind λg=>some (g,(bQ.mk e816.sum (aH.mk e816.to.k e816.to.w e816.to.h e816.to.x e816.to.y e816.to.title e816.to.rows e816.to.len e816.to.chain e816.to.begun) e816.rows))) | .inr w=>some w)
def mb (a:aH) (s_:ByteArray):Option (aH×Int) :=
 ((eY a).bind λr3=>(bif (r3 != 0) then some ((aH.mk 0 0 0 0 0 (ByteArray.mk #[]) ([]:List aE) 0 0 ([]:List aJ)),1) else ((nL s_).bind λb=>(bif (b.2 != 0) then some ((aH.mk 0 0 0 0 0 (ByteArray.mk #[]) ([]:List aE) 0 0 ([]:List aJ)),b.2) else ((kD a).bind λd=>(bif (b.1.sum != d) then some ((aH.mk 0 0 0 0 0 (ByteArray.mk #[]) ([]:List aE) 0 0 ([]:List aJ)),7) else ((fW b.1 a).bind λc=>(bif (!c.1) then some ((aH.mk 0 0 0 0 0 (ByteArray.mk #[]) ([]:List aE) 0 0 ([]:List aJ)),1) else ((iK c.2.to).bind λe=>some (e,0))))))))))
structure dN where
 Np:Int
 kind:Int
 bJ:List Int
 data:ByteArray
 deriving DecidableEq,Inhabited
def qs (n_:Int) (lo:Int) (hi:Int):Option Bool :=
 (((bif (decide (n_>=lo)) then some (decide (n_<=hi)) else some false):Option Bool).bind λe4=>some e4)
def gO (g:dN) (i:Int):Option Int :=
 ((qs i 0 (IntKind.i64.wrap ((g.bJ.length:Int) - 1))).bind λr2=>(bif (!r2) then some 0 else ((idx g.bJ i).bind λx7=>some x7)))
structure bB where
 book:cF
 parser:aI
 aV:aB
 k:Int
 deriving DecidableEq,Inhabited
structure lO where
 kind:Int
 text:ByteArray
 w:Int
 h:Int
 deriving DecidableEq,Inhabited
def nz (w:Int) (h_:Int):Option bB :=
 (Option.bind rF λr1=>((mL w h_).bind λa=>some (bB.mk r1 (aI.mk 0 (fK.mk false false false false 0 ([]:List Int)) (ByteArray.mk #[]) (bT.mk 0 0 0) ([]:List aZ)) (aB.mk a.g a.spot a.saved a.waiting a.top a.aL a.aY a.title) 0)))
def eM (m_:bB):Option (aH×bB) :=
 ((tO (IntKind.i64.wrap (m_.k+1)) (aB.mk m_.aV.g m_.aV.spot m_.aV.saved m_.aV.waiting m_.aV.top m_.aV.aL m_.aV.aY m_.aV.title) m_.book).bind λa=>some (a.1,(bB.mk m_.book m_.parser (aB.mk a.2.g a.2.spot a.2.saved a.2.waiting a.2.top a.2.aL a.2.aY a.2.title) m_.k)))
def jT (e:lO):Option Int :=
 (((bif (e.kind == 0) then (bif (decide ((e.text.size:Int) > 1048576)) then (ll (some 3)) else some (.inl ())) else (bif (e.kind == 1) then (((bif (decide (e.w < 1)) then some true else (bif (decide (e.w > 1000)) then some true else (bif (decide (e.h < 1)) then some true else some (decide (e.h > 1000))))):Option Bool).bind λa=>(bif a then (ll (some 6)) else some (.inl ()))) else (ll (some 5)))):Option (Unit ⊕ Int)).bind λ | .inl e36=>some 0 | .inr w=>some w)
def mm (m_:bB) (text:ByteArray):Option ByteArray :=
 some text
def jU {σ:Type} (Y:σ->(List aE)->Option (σ×Bool)) (y0:σ) (x1:bB) (x2:ByteArray):Option (σ×bB) :=
 ((kM x1.parser x2).bind λb=>((iter (σ:=aB×Int×σ) (ρ:=(aB×σ) ⊕ (σ×bB)) (λa=>(bif (decide (a.2.1 < (b.1.length:Int))) then ((idx b.1 a.2.1).bind λd=>((gP a.1 d).bind λc=>((Y a.2.2 c.1).bind λz528=>(bif (!z528.2) then (ln (some (z528.1,(bB.mk x1.book b.2 c.2 x1.k)))) else some (.inl (c.2,(IntKind.i64.wrap (a.2.1+1)),z528.1)))))) else some (.inr (.inl (a.1,a.2.2))))) (x1.aV,0,y0)).bind λ | .inl e413=>some (e413.2,(bB.mk x1.book b.2 e413.1 x1.k)) | .inr w=>some w))
def eV (m_:bB) (e:lO):Option (Int×bB) :=
 ((jT e).bind λr3=>(bif (r3 != 0) then some (r3,m_) else (((bif (e.kind == 1) then ((iI m_.aV e.w e.h).bind λc=>((jM m_.book c.1).bind λd=>some (bB.mk d.2 m_.parser c.2 m_.k))) else ((mm m_ e.text).bind λf=>((jU (λg i=>((jM g i).bind λj=>some (j.2,true))) (m_.book:cF) m_ f).bind λa=>some (bB.mk a.1 a.2.parser a.2.aV a.2.k)))):Option bB).bind λb=>some (0,(bB.mk b.book b.parser b.aV (IntKind.i64.wrap (b.k+1)))))))
structure cQ where
 key:Int
 count:Int
 parts:Mp ByteArray
 bytes:Int
 deriving DecidableEq,Inhabited
def mW (s_:ByteArray) (size:Int):Option (List ByteArray) :=
 ((iter (σ:=ByteArray×(List ByteArray)) (ρ:=ByteArray×(List ByteArray)) (λa=>(bif (decide ((a.1.size:Int) > (imax 1 (eO size 8000)))) then ((chk (dE 0 (imax 1 (eO size 8000)) a.1.size)).bind λ_=>((chk (eI a.2.length [(iU a.1 0 (imax 1 (eO size 8000)))].length 16)).bind λ_=>((chk (dE (imax 1 (eO size 8000)) (a.1.size:Int) a.1.size)).bind λ_=>some (.inl ((iU a.1 (imax 1 (eO size 8000)) (a.1.size:Int)),(a.2++[(iU a.1 0 (imax 1 (eO size 8000)))])))))) else some (.inr (a.1,a.2)))) (s_,[])).bind λb=>((chk (eI b.2.length [b.1].length 16)).bind λ_=>some (b.2++[b.1])))
def jf (s_:cQ) (key:Int) (index:Int) (count:Int) (data:ByteArray):Option (Int×cQ) :=
 (((((bif (decide (count < 1)) then some true else (bif (decide (count > 4096)) then some true else (bif (decide (index < 0)) then some true else (bif (decide (index>=count)) then some true else some (decide (key < 1)))))):Option Bool).bind λa=>(bif a then (ll (some (6,s_))) else (bif (decide (key < s_.key)) then (ll (some (8,s_))) else (bif (decide (key > s_.key)) then some (.inl (cQ.mk key count (some []:Mp ByteArray) 0)) else (bif (count != s_.count) then (ll (some (1,s_))) else some (.inl s_)))))):Option (cQ ⊕ (Int×cQ))).bind λ | .inl e48=>(((bif (!(rD e48.parts index)) then ((chk e48.parts.isSome).bind λ_=>some (cQ.mk e48.key e48.count (Lj e48.parts index data) (IntKind.i64.wrap (e48.bytes+(data.size:Int))))) else some e48):Option cQ).bind λb=>some (0,b)) | .inr w=>some w)
def jK {σ:Type} (s_:cQ) (Y:σ->(Int×Bool)->Option (σ×Bool)) (y0:σ):Option σ :=
 ((iter (σ:=Int×σ) (ρ:=σ ⊕ σ) (λa=>(bif (decide (a.1 < s_.count)) then ((Y a.2 (a.1,(rD s_.parts a.1))).bind λz64=>(bif (!z64.2) then (ln (some z64.1)) else some (.inl ((IntKind.i64.wrap (a.1+1)),z64.1)))) else some (.inr (.inl a.2)))) (0,y0)).bind λ | .inl e49=>some e49 | .inr w=>some w)
def kq (s_:cQ):Option Int :=
 some s_.count
def kr (s_:cQ) (there:Bool):Option (List Int) :=
 ((jK s_ (λs32 x3=>(bif (x3.2 == there) then ((chk (eI s32.length [x3.1].length 8)).bind λ_=>some ((s32++[x3.1]),true)) else some (s32,true))) ([]:(List Int))).bind λa=>some a)
def iM (s_:cQ):Option (List Int) :=
 ((kr s_ true).bind λr1=>some r1)
def ov (s_:cQ):Option Int :=
 some s_.key
def ku (s_:cQ):Option (ByteArray×Bool) :=
 (((bif (s_.key == 0) then some true else some (decide (((Lh s_.parts:Nat):Int) < s_.count))):Option Bool).bind λe7=>(bif e7 then some ((ByteArray.mk #[]),false) else ((jK s_ (λa d=>((fA (cY.mk a.addr a.buf) (mgd s_.parts d.1 (ByteArray.mk #[]))).bind λb=>some ((cY.mk b.addr b.buf),true))) ((cY.mk false ([]:List Int)):cY)).bind λc=>((kY (cY.mk c.addr c.buf)).bind λe=>some (e,true)))))
def lg (s_:cQ):Option cQ :=
 some (cQ.mk 0 0 none 0)
structure cE where
 part:Int
 every:Int
 most:Int
 deriving DecidableEq,Inhabited
structure bC where
 id:Int
 key:Int
 base:Int
 parts:List ByteArray
 there:List Bool
 due:Int
 deriving DecidableEq,Inhabited
structure aK where
 config:cE
 current:aH
 aN:aH
 kept:List aH
 message:bC
 next:Int
 deriving DecidableEq,Inhabited
def mX (n_:Int) (lo:Int) (hi:Int):Option Int :=
 some (imax lo (eO n_ hi))
def mB (c:cE):Option cE :=
 ((mX c.part 1 8000).bind λa=>((mX c.every 1 1048576).bind λb=>((mX c.most 1 64).bind λd=>some (cE.mk a b d))))
def nM (c:cE):Option aK :=
 ((mB c).bind λr2=>some (aK.mk r2 (aH.mk 0 0 0 0 0 (ByteArray.mk #[]) ([]:List aE) 0 0 ([]:List aJ)) (aH.mk 0 0 0 0 0 (ByteArray.mk #[]) ([]:List aE) 0 0 ([]:List aJ)) ([]:List aH) (bC.mk 0 0 0 ([]:List ByteArray) ([]:List Bool) 0) 1))
def fC (s_:aK) (x_:aH):Option (Bool×aK) :=
 ((((eY x_).bind λa=>(bif (a != 0) then some true else some (decide (x_.k<=s_.current.k)))):Option Bool).bind λb=>(bif b then some (false,s_) else ((iK x_).bind λc=>some (true,(aK.mk s_.config c s_.aN s_.kept s_.message s_.next)))))
def fO (x_:aH) (x1:aK):Option Bool :=
 some (x_.k == x1.current.k)
def dD (s_:List aH) (f_0:aK):Option Int :=
 ((iter (σ:=Int) (ρ:=Unit ⊕ Int) (λa=>(bif (decide (a < (s_.length:Int))) then ((idx s_ a).bind λb=>((fO b f_0).bind λc=>(bif c then (ln (some a)) else some (.inl (IntKind.i64.wrap (a+1)))))) else some (.inr (.inl ())))) 0).bind λ | .inl e113=>some (-1) | .inr w=>some w)
def cD (s_:List aH) (f_0:aK):Option Bool :=
 ((dD s_ f_0).bind λr1=>some (decide (r1>=0)))
def gE (s_:aK) (now:Int):Option aK :=
 ((nK s_.aN s_.current).bind λc=>((mW c s_.config.part).bind λb=>((chk (Ee (b.length:Int) 1)).bind λ_=>((cD s_.kept (aK.mk s_.config s_.current s_.aN s_.kept (bC.mk s_.next s_.current.k s_.aN.k b (List.replicate (b.length:Int).toNat false) now) (IntKind.i64.wrap (s_.next+1)))).bind λd=>(((bif (!d) then ((chk (eI s_.kept.length [s_.current].length 120)).bind λ_=>some (aK.mk s_.config s_.current s_.aN (s_.kept++[s_.current]) (bC.mk s_.next s_.current.k s_.aN.k b (List.replicate (b.length:Int).toNat false) now) (IntKind.i64.wrap (s_.next+1)))) else some (aK.mk s_.config s_.current s_.aN s_.kept (bC.mk s_.next s_.current.k s_.aN.k b (List.replicate (b.length:Int).toNat false) now) (IntKind.i64.wrap (s_.next+1)))):Option aK).bind λa=>((chk (dE (imax 0 (IntKind.i64.wrap ((a.kept.length:Int) - a.config.most))) (a.kept.length:Int) a.kept.length)).bind λ_=>some (aK.mk (cE.mk a.config.part a.config.every a.config.most) (aH.mk a.current.k a.current.w a.current.h a.current.x a.current.y a.current.title a.current.rows a.current.len a.current.chain a.current.begun) (aH.mk a.aN.k a.aN.w a.aN.h a.aN.x a.aN.y a.aN.title a.aN.rows a.aN.len a.aN.chain a.aN.begun) (cut a.kept (imax 0 (IntKind.i64.wrap ((a.kept.length:Int) - a.config.most))) (a.kept.length:Int)) (bC.mk a.message.id a.message.key a.message.base a.message.parts a.message.there a.message.due) a.next)))))))
def iN {σ:Type} (m_:bC) (Y:σ->(Int×ByteArray)->Option (σ×Bool)) (y0:σ):Option σ :=
 ((iter (σ:=Int×σ) (ρ:=σ ⊕ σ) (λa=>(bif (decide (a.1 < (m_.parts.length:Int))) then ((idx m_.parts a.1).bind λc=>((((idx m_.there a.1).bind λd=>(bif (!d) then ((Y a.2 (a.1,c)).bind λz377=>some ((!z377.2),z377.1)) else some (false,a.2))):Option (Bool×σ)).bind λb=>(bif b.1 then (ln (some b.2)) else some (.inl ((IntKind.i64.wrap (a.1+1)),b.2))))) else some (.inr (.inl a.2)))) (0,y0)).bind λ | .inl e284=>some e284 | .inr w=>some w)
def fP (s_:aK) (now:Int):Option ((List dN)×aK) :=
 (bif (s_.current.k == s_.aN.k) then some (([]:List dN),(aK.mk s_.config s_.current s_.aN s_.kept (bC.mk 0 0 0 ([]:List ByteArray) ([]:List Bool) 0) s_.next)) else (((bif (s_.message.id == 0) then some true else (bif (s_.message.key != s_.current.k) then some true else some (s_.message.base != s_.aN.k))):Option Bool).bind λd=>(((bif d then ((gE s_ now).bind λe=>some e) else some s_):Option aK).bind λa=>(bif (decide (now < a.message.due)) then some (([]:List dN),(aK.mk (cE.mk a.config.part a.config.every a.config.most) (aH.mk a.current.k a.current.w a.current.h a.current.x a.current.y a.current.title a.current.rows a.current.len a.current.chain a.current.begun) (aH.mk a.aN.k a.aN.w a.aN.h a.aN.x a.aN.y a.aN.title a.aN.rows a.aN.len a.aN.chain a.aN.begun) a.kept (bC.mk a.message.id a.message.key a.message.base a.message.parts a.message.there a.message.due) a.next)) else ((iN (bC.mk a.message.id a.message.key a.message.base a.message.parts a.message.there (IntKind.i64.wrap (now+a.config.every))) (λc b=>((chk (eI c.length ([(dN.mk 1 1 [a.message.id,a.message.key,a.message.base,b.1,(a.message.parts.length:Int)] b.2)]).length 56)).bind λ_=>some ((c++[(dN.mk 1 1 [a.message.id,a.message.key,a.message.base,b.1,(a.message.parts.length:Int)] b.2)]),true))) ([]:(List dN))).bind λf=>some (f,(aK.mk (cE.mk a.config.part a.config.every a.config.most) (aH.mk a.current.k a.current.w a.current.h a.current.x a.current.y a.current.title a.current.rows a.current.len a.current.chain a.current.begun) (aH.mk a.aN.k a.aN.w a.aN.h a.aN.x a.aN.y a.aN.title a.aN.rows a.aN.len a.aN.chain a.aN.begun) a.kept (bC.mk a.message.id a.message.key a.message.base a.message.parts a.message.there (IntKind.i64.wrap (now+a.config.every))) a.next)))))))
def gV (s_:aK) (bR:ByteArray):Option aK :=
 ((iter (σ:=aK×Int) (ρ:=aK) (λa=>(bif (decide (a.2 < (eO (s_.message.there.length:Int) (IntKind.i64.wrap (8*(bR.size:Int)))))) then ((((yV bR (IntKind.i64.wrap (a.2.tdiv 8))).bind λb228=>((chk (shk (a.2.tmod 8))).bind λ_=>(bif ((Go.bits .and .u8 (b228.fdiv (2 ^ (min (a.2.tmod 8).toNat 8))) 1) == 1) then ((idx a.1.message.there a.2).bind λd=>some (aK.mk (cE.mk a.1.config.part a.1.config.every a.1.config.most) (aH.mk a.1.current.k a.1.current.w a.1.current.h a.1.current.x a.1.current.y a.1.current.title a.1.current.rows a.1.current.len a.1.current.chain a.1.current.begun) (aH.mk a.1.aN.k a.1.aN.w a.1.aN.h a.1.aN.x a.1.aN.y a.1.aN.title a.1.aN.rows a.1.aN.len a.1.aN.chain a.1.aN.begun) a.1.kept (bC.mk a.1.message.id a.1.message.key a.1.message.base a.1.message.parts (a.1.message.there.set a.2.toNat true) a.1.message.due) a.1.next)) else some (aK.mk (cE.mk a.1.config.part a.1.config.every a.1.config.most) (aH.mk a.1.current.k a.1.current.w a.1.current.h a.1.current.x a.1.current.y a.1.current.title a.1.current.rows a.1.current.len a.1.current.chain a.1.current.begun) (aH.mk a.1.aN.k a.1.aN.w a.1.aN.h a.1.aN.x a.1.aN.y a.1.aN.title a.1.aN.rows a.1.aN.len a.1.aN.chain a.1.aN.begun) a.1.kept (bC.mk a.1.message.id a.1.message.key a.1.message.base a.1.message.parts a.1.message.there a.1.message.due) a.1.next)))):Option aK).bind λb=>some (.inl ((aK.mk (cE.mk b.config.part b.config.every b.config.most) (aH.mk b.current.k b.current.w b.current.h b.current.x b.current.y b.current.title b.current.rows b.current.len b.current.chain b.current.begun) (aH.mk b.aN.k b.aN.w b.aN.h b.aN.x b.aN.y b.aN.title b.aN.rows b.aN.len b.aN.chain b.aN.begun) b.kept (bC.mk b.message.id b.message.key b.message.base b.message.parts b.message.there b.message.due) b.next),(IntKind.i64.wrap (a.2+1))))) else some (.inr (aK.mk (cE.mk a.1.config.part a.1.config.every a.1.config.most) (aH.mk a.1.current.k a.1.current.w a.1.current.h a.1.current.x a.1.current.y a.1.current.title a.1.current.rows a.1.current.len a.1.current.chain a.1.current.begun) (aH.mk a.1.aN.k a.1.aN.w a.1.aN.h a.1.aN.x a.1.aN.y a.1.aN.title a.1.aN.rows a.1.aN.len a.1.aN.chain a.1.aN.begun) a.1.kept (bC.mk a.1.message.id a.1.message.key a.1.message.base a.1.message.parts a.1.message.there a.1.message.due) a.1.next)))) (s_,0)).bind λc=>some (aK.mk (cE.mk c.config.part c.config.every c.config.most) (aH.mk c.current.k c.current.w c.current.h c.current.x c.current.y c.current.title c.current.rows c.current.len c.current.chain c.current.begun) (aH.mk c.aN.k c.aN.w c.aN.h c.aN.x c.aN.y c.aN.title c.aN.rows c.aN.len c.aN.chain c.aN.begun) c.kept (bC.mk c.message.id c.message.key c.message.base c.message.parts c.message.there c.message.due) c.next))
def gK (x_:aH) (x1:Int):Option Bool :=
 some (x_.k == x1)
def cN (s_:List aH) (f_0:Int):Option Int :=
 ((iter (σ:=Int) (ρ:=Unit ⊕ Int) (λa=>(bif (decide (a < (s_.length:Int))) then ((idx s_ a).bind λb=>((gK b f_0).bind λc=>(bif c then (ln (some a)) else some (.inl (IntKind.i64.wrap (a+1)))))) else some (.inr (.inl ())))) 0).bind λ | .inl e113=>some (-1) | .inr w=>some w)
def iO (s_:aK) (k:Int) (id:Int) (bR:ByteArray):Option (Bool×aK) :=
 (((bif (id == s_.message.id) then some (decide (id > 0)) else some false):Option Bool).bind λe5=>(((bif e5 then ((gV s_ bR).bind λc=>some c) else some s_):Option aK).bind λa=>(((bif (decide (k<=a.aN.k)) then some true else some (decide (k > a.current.k))):Option Bool).bind λd=>(bif d then some (false,(aK.mk (cE.mk a.config.part a.config.every a.config.most) (aH.mk a.current.k a.current.w a.current.h a.current.x a.current.y a.current.title a.current.rows a.current.len a.current.chain a.current.begun) (aH.mk a.aN.k a.aN.w a.aN.h a.aN.x a.aN.y a.aN.title a.aN.rows a.aN.len a.aN.chain a.aN.begun) a.kept (bC.mk a.message.id a.message.key a.message.base a.message.parts a.message.there a.message.due) a.next)) else ((cN a.kept k).bind λb=>(bif (decide (b < 0)) then some (false,(aK.mk (cE.mk a.config.part a.config.every a.config.most) (aH.mk a.current.k a.current.w a.current.h a.current.x a.current.y a.current.title a.current.rows a.current.len a.current.chain a.current.begun) (aH.mk 0 0 0 0 0 (ByteArray.mk #[]) ([]:List aE) 0 0 ([]:List aJ)) a.kept (bC.mk a.message.id a.message.key a.message.base a.message.parts a.message.there a.message.due) a.next)) else ((idx a.kept b).bind λe=>((chk (dE (IntKind.i64.wrap (b+1)) (a.kept.length:Int) a.kept.length)).bind λ_=>((gJ (cut a.kept (IntKind.i64.wrap (b+1)) (a.kept.length:Int))).bind λf=>some (true,(aK.mk (cE.mk a.config.part a.config.every a.config.most) (aH.mk a.current.k a.current.w a.current.h a.current.x a.current.y a.current.title a.current.rows a.current.len a.current.chain a.current.begun) e f (bC.mk a.message.id a.message.key a.message.base a.message.parts a.message.there a.message.due) a.next)))))))))))
structure bA where
 slot:cQ
 bR:aH
 deriving DecidableEq,Inhabited
def oI:Option bA :=
 some (bA.mk (cQ.mk 0 0 none 0) (aH.mk 0 0 0 0 0 (ByteArray.mk #[]) ([]:List aE) 0 0 ([]:List aJ)))
def dH (t_:bA) (g:dN):Option (Int×bA) :=
 (bif (g.kind != 1) then some (5,(bA.mk t_.slot t_.bR)) else (bif ((g.bJ.length:Int) != 5) then some (1,(bA.mk t_.slot t_.bR)) else ((idx g.bJ 1).bind λb=>(bif (decide (b<=t_.bR.k)) then some (8,(bA.mk t_.slot t_.bR)) else ((((idx g.bJ 2).bind λc=>(bif (c != 0) then ((idx g.bJ 2).bind λd=>some (d != t_.bR.k)) else some false)):Option Bool).bind λe=>(bif e then some (7,(bA.mk t_.slot t_.bR)) else ((idx g.bJ 0).bind λf=>((idx g.bJ 3).bind λh=>((idx g.bJ 4).bind λi=>((jf t_.slot f h i g.data).bind λa=>some (a.1,(bA.mk a.2 t_.bR))))))))))))
def eZ (t_:bA):Option dN :=
 ((kq t_.slot).bind λr2=>((chk (Ee (IntKind.i64.wrap ((IntKind.i64.wrap ((IntKind.i64.wrap (r2+8)) - 1)).tdiv 8)) 1)).bind λ_=>((iM t_.slot).bind λr9=>((iter (σ:=Int×(List Int)) (ρ:=(List Int)) (λa=>(bif (decide (a.1 < (r9.length:Int))) then ((idx r9 a.1).bind λb=>((idx a.2 (IntKind.i64.wrap (b.tdiv 8))).bind λc=>((chk (shk (b.tmod 8))).bind λ_=>((idx a.2 (IntKind.i64.wrap (b.tdiv 8))).bind λf=>some (.inl ((IntKind.i64.wrap (a.1+1)),(a.2.set ((IntKind.i64.wrap (b.tdiv 8)).toNat) (Go.bits .or .u8 c (IntKind.u8.wrap (1*2 ^ (min (b.tmod 8).toNat 8))))))))))) else some (.inr a.2))) (0,(List.replicate (IntKind.i64.wrap ((IntKind.i64.wrap ((IntKind.i64.wrap (r2+8)) - 1)).tdiv 8)).toNat (0:Int)))).bind λd=>((ov t_.slot).bind λe=>some (dN.mk 1 2 [t_.bR.k,e] (hU d)))))))
def jg (t_:bA):Option aH :=
 ((iK t_.bR).bind λr2=>some r2)
def cT (t_:bA) (g:dN):Option (Int×bA) :=
 ((dH t_ g).bind λr2=>(bif (r2.1 != 0) then some (r2.1,r2.2) else ((ku r2.2.slot).bind λc=>(bif (!c.2) then some (0,r2.2) else ((lg r2.2.slot).bind λb=>((idx g.bJ 2).bind λe=>(((bif (e != 0) then some r2.2.bR else some (aH.mk 0 0 0 0 0 (ByteArray.mk #[]) ([]:List aE) 0 0 ([]:List aJ))):Option aH).bind λf=>((mb f c.1).bind λa=>(((bif (a.2 == 0) then ((idx g.bJ 1).bind λh=>some (a.1.k != h)) else some false):Option Bool).bind λi=>(((bif i then some 1 else some a.2):Option Int).bind λd=>(((bif (d == 0) then some (bA.mk b a.1) else some (bA.mk b r2.2.bR)):Option bA).bind λj=>some (d,(bA.mk b j.bR)))))))))))))
def iQ (t_:bA):Option Int :=
 some t_.bR.k
def oJ (s_:ByteArray) (n_:Int):Option ByteArray :=
 (bif (decide ((s_.size:Int) > n_)) then ((chk (dE 0 n_ s_.size)).bind λ_=>some (iU s_ 0 n_)) else some s_)
def rH (r_:Int):Option Int :=
 (((bif (decide (r_ < 32)) then some true else some (decide (r_ > 1114111))):Option Bool).bind λe8=>(bif e8 then some 0 else ((iter (σ:=Int) (ρ:=Unit ⊕ Int) (λa=>(bif (decide (a < ([(cH.mk 127 159),(cH.mk 768 879),(cH.mk 6832 6911),(cH.mk 7616 7679),(cH.mk 8203 8207),(cH.mk 8400 8447),(cH.mk 55296 57343),(cH.mk 65024 65039),(cH.mk 65056 65071),(cH.mk 65279 65279),(cH.mk 917760 917999)].length:Int))) then ((idx [(cH.mk 127 159),(cH.mk 768 879),(cH.mk 6832 6911),(cH.mk 7616 7679),(cH.mk 8203 8207),(cH.mk 8400 8447),(cH.mk 55296 57343),(cH.mk 65024 65039),(cH.mk 65056 65071),(cH.mk 65279 65279),(cH.mk 917760 917999)] a).bind λc=>(((bif (decide (r_>=c.e0)) then some (decide (r_<=c.e1)) else some false):Option Bool).bind λe=>(bif e then (ln (some 0)) else some (.inl (IntKind.i64.wrap (a+1)))))) else some (.inr (.inl ())))) 0).bind λ | .inl e96=>((iter (σ:=Int) (ρ:=Unit ⊕ Int) (λb=>(bif (decide (b < ([(cH.mk 4352 4447),(cH.mk 11904 12350),(cH.mk 12353 13311),(cH.mk 13312 19903),(cH.mk 19968 40959),(cH.mk 40960 42191),(cH.mk 44032 55203),(cH.mk 63744 64255),(cH.mk 65072 65135),(cH.mk 65280 65376),(cH.mk 65504 65510),(cH.mk 127744 128591),(cH.mk 129280 129535),(cH.mk 131072 262141)].length:Int))) then ((idx [(cH.mk 4352 4447),(cH.mk 11904 12350),(cH.mk 12353 13311),(cH.mk 13312 19903),(cH.mk 19968 40959),(cH.mk 40960 42191),(cH.mk 44032 55203),(cH.mk 63744 64255),(cH.mk 65072 65135),(cH.mk 65280 65376),(cH.mk 65504 65510),(cH.mk 127744 128591),(cH.mk 129280 129535),(cH.mk 131072 262141)] b).bind λd=>(((bif (decide (r_>=d.e0)) then some (decide (r_<=d.e1)) else some false):Option Bool).bind λf=>(bif f then (ln (some 2)) else some (.inl (IntKind.i64.wrap (b+1)))))) else some (.inr (.inl ())))) 0).bind λ | .inl e214=>some 1 | .inr w=>some w) | .inr w=>some w)))
structure aR where
 rune:Int
 aM:Int
 part:Int
 deriving DecidableEq,Inhabited
structure aW where
 l:List aR
 wrapped:Bool
 deriving DecidableEq,Inhabited
structure uX where
 rune:Int
 aM:Int
 deriving DecidableEq,Inhabited
def nO (n_:Int) (lo:Int) (hi:Int):Option Int :=
 (bif (decide (n_ < lo)) then some lo else (bif (decide (n_ > hi)) then some hi else some n_))
def ka (w:Int) (aM:Int):Option aW :=
 ((iter (σ:=(List aR)×Int) (ρ:=(List aR)) (λa=>((nO w 0 1000).bind λb=>(bif (decide (a.2 < b)) then ((chk (eI a.1.length [(aR.mk 32 aM 0)].length 24)).bind λ_=>some (.inl ((a.1++[(aR.mk 32 aM 0)]),(IntKind.i64.wrap (a.2+1))))) else some (.inr a.1)))) (([]:List aR),0)).bind λc=>some (aW.mk c false))
def fU (l:List aR):Option aW :=
 ((iter (σ:=Int×(List aR)) (ρ:=(List aR)) (λa=>(bif (decide (a.1 < (l.length:Int))) then ((idx l a.1).bind λb=>(((bif (b.part == 1) then (bif ((IntKind.i64.wrap (a.1+1)) == (l.length:Int)) then some true else ((idx l (IntKind.i64.wrap (a.1+1))).bind λd=>some (d.part != 2))) else (bif (b.part == 2) then (bif (a.1 == 0) then some true else ((idx a.2 (IntKind.i64.wrap (a.1 - 1))).bind λe=>some (e.part != 1))) else (bif (b.part == 3) then some (decide (a.1 < (IntKind.i64.wrap ((l.length:Int) - 1)))) else some false))):Option Bool).bind λf=>(((bif f then some (aR.mk 32 b.aM 0) else some b):Option aR).bind λc=>((chk (eI a.2.length [c].length 24)).bind λ_=>some (.inl ((IntKind.i64.wrap (a.1+1)),(a.2++[c]))))))) else some (.inr a.2))) (0,([]:List aR))).bind λg=>some (aW.mk g false))
def p9 (r_:aW) (at_:Int) (x_:Int) (aM:Int):Option aW :=
 ((rH x_).bind λr3=>(((bif (r3 == 0) then some true else (bif (decide (at_ < 0)) then some true else some (decide (at_ > (IntKind.i64.wrap ((r_.l.length:Int) - r3)))))):Option Bool).bind λa=>(bif a then ((fU r_.l).bind λb=>some b) else ((chk (eI ([]:List aR).length r_.l.length 24)).bind λ_=>((idx (([]:List aR)++r_.l) at_).bind λh=>(((bif (r3 == 2) then ((idx ((([]:List aR)++r_.l).set at_.toNat (aR.mk x_ aM 0)) at_).bind λi=>((idx (((([]:List aR)++r_.l).set at_.toNat (aR.mk x_ aM 0)).set at_.toNat (aR.mk x_ aM 1)) (IntKind.i64.wrap (at_+1))).bind λj=>(((bif (decide (at_ > 0)) then ((idx ((((([]:List aR)++r_.l).set at_.toNat (aR.mk x_ aM 0)).set at_.toNat (aR.mk x_ aM 1)).set ((IntKind.i64.wrap (at_+1)).toNat) (aR.mk x_ aM 2)) (IntKind.i64.wrap (at_ - 1))).bind λc=>some (c.part == 1)) else some false):Option Bool).bind λd=>(bif d then ((idx ((((([]:List aR)++r_.l).set at_.toNat (aR.mk x_ aM 0)).set at_.toNat (aR.mk x_ aM 1)).set ((IntKind.i64.wrap (at_+1)).toNat) (aR.mk x_ aM 2)) (IntKind.i64.wrap (at_ - 1))).bind λe=>((idx ((((([]:List aR)++r_.l).set at_.toNat (aR.mk x_ aM 0)).set at_.toNat (aR.mk x_ aM 1)).set ((IntKind.i64.wrap (at_+1)).toNat) (aR.mk x_ aM 2)) (IntKind.i64.wrap (at_ - 1))).bind λk=>some (((((([]:List aR)++r_.l).set at_.toNat (aR.mk x_ aM 0)).set at_.toNat (aR.mk x_ aM 1)).set ((IntKind.i64.wrap (at_+1)).toNat) (aR.mk x_ aM 2)).set ((IntKind.i64.wrap (at_ - 1)).toNat) (aR.mk 32 e.aM 0)))) else some ((((([]:List aR)++r_.l).set at_.toNat (aR.mk x_ aM 0)).set at_.toNat (aR.mk x_ aM 1)).set ((IntKind.i64.wrap (at_+1)).toNat) (aR.mk x_ aM 2)))))) else some ((([]:List aR)++r_.l).set at_.toNat (aR.mk x_ aM 0))):Option (List aR)).bind λf=>((fU f).bind λg=>some g)))))))
def oB (r_:aW) (from_:Int) (to:Int) (aM:Int):Option aW :=
 ((chk (eI ([]:List aR).length r_.l.length 24)).bind λ_=>((iter (σ:=Int×(List aR)) (ρ:=(List aR)) (λa=>(bif (decide (a.1 < ((([]:List aR)++r_.l).length:Int))) then (((((bif (decide (a.1>=from_)) then some (decide (a.1 < to)) else some false):Option Bool).bind λb=>(bif b then ((idx a.2 a.1).bind λf=>some (a.2.set a.1.toNat (aR.mk 32 aM 0))) else some a.2)):Option (List aR)).bind λc=>some (.inl ((IntKind.i64.wrap (a.1+1)),c))) else some (.inr a.2))) (0,(([]:List aR)++r_.l))).bind λd=>((fU d).bind λe=>some e)))
def nP (r_:aW) (at_:Int) (n_:Int) (aM:Int):Option aW :=
 (((bif (decide (at_ < 0)) then some true else (bif (decide (at_>=(r_.l.length:Int))) then some true else some (decide (n_<=0)))):Option Bool).bind λe8=>(bif e8 then ((fU r_.l).bind λb=>some b) else ((chk (dE 0 at_ r_.l.length)).bind λ_=>((chk (eI ([]:List aR).length (cut r_.l 0 at_).length 24)).bind λ_=>((ka (eO n_ (IntKind.i64.wrap ((r_.l.length:Int) - at_))) aM).bind λa=>((chk (eI (([]:List aR)++(cut r_.l 0 at_)).length a.l.length 24)).bind λ_=>((chk (dE at_ (IntKind.i64.wrap ((r_.l.length:Int) - (eO n_ (IntKind.i64.wrap ((r_.l.length:Int) - at_))))) r_.l.length)).bind λ_=>((chk (eI ((([]:List aR)++(cut r_.l 0 at_))++a.l).length (cut r_.l at_ (IntKind.i64.wrap ((r_.l.length:Int) - (eO n_ (IntKind.i64.wrap ((r_.l.length:Int) - at_)))))).length 24)).bind λ_=>((fU (((([]:List aR)++(cut r_.l 0 at_))++a.l)++(cut r_.l at_ (IntKind.i64.wrap ((r_.l.length:Int) - (eO n_ (IntKind.i64.wrap ((r_.l.length:Int) - at_)))))))).bind λc=>some c)))))))))
def nQ (r_:aW) (at_:Int) (n_:Int) (aM:Int):Option aW :=
 (((bif (decide (at_ < 0)) then some true else (bif (decide (at_>=(r_.l.length:Int))) then some true else some (decide (n_<=0)))):Option Bool).bind λe8=>(bif e8 then ((fU r_.l).bind λb=>some b) else ((chk (dE 0 at_ r_.l.length)).bind λ_=>((chk (eI ([]:List aR).length (cut r_.l 0 at_).length 24)).bind λ_=>((chk (dE (IntKind.i64.wrap (at_+(eO n_ (IntKind.i64.wrap ((r_.l.length:Int) - at_))))) (r_.l.length:Int) r_.l.length)).bind λ_=>((chk (eI (([]:List aR)++(cut r_.l 0 at_)).length (cut r_.l (IntKind.i64.wrap (at_+(eO n_ (IntKind.i64.wrap ((r_.l.length:Int) - at_))))) (r_.l.length:Int)).length 24)).bind λ_=>((ka (eO n_ (IntKind.i64.wrap ((r_.l.length:Int) - at_))) aM).bind λa=>((chk (eI ((([]:List aR)++(cut r_.l 0 at_))++(cut r_.l (IntKind.i64.wrap (at_+(eO n_ (IntKind.i64.wrap ((r_.l.length:Int) - at_))))) (r_.l.length:Int))).length a.l.length 24)).bind λ_=>((fU (((([]:List aR)++(cut r_.l 0 at_))++(cut r_.l (IntKind.i64.wrap (at_+(eO n_ (IntKind.i64.wrap ((r_.l.length:Int) - at_))))) (r_.l.length:Int)))++a.l)).bind λc=>some c)))))))))
def nR (r_:aW) (aM:Int):Option aW :=
 ((chk (eI ([]:List aR).length r_.l.length 24)).bind λ_=>(((bif (decide (((([]:List aR)++r_.l).length:Int) > 0)) then ((idx (([]:List aR)++r_.l) (IntKind.i64.wrap (((([]:List aR)++r_.l).length:Int) - 1))).bind λc=>some ((([]:List aR)++r_.l).set ((IntKind.i64.wrap (((([]:List aR)++r_.l).length:Int) - 1)).toNat) (aR.mk 32 aM 3))) else some (([]:List aR)++r_.l)):Option (List aR)).bind λa=>((fU a).bind λb=>some (aW.mk b.l true))))
def nS (r_:aW) (w:Int):Option aW :=
 ((nO w 0 1000).bind λr3=>(bif (r3 == (r_.l.length:Int)) then some r_ else ((chk (dE 0 (eO r3 (r_.l.length:Int)) r_.l.length)).bind λ_=>((chk (eI ([]:List aR).length (cut r_.l 0 (eO r3 (r_.l.length:Int))).length 24)).bind λ_=>((ka (IntKind.i64.wrap (r3 - ((([]:List aR)++(cut r_.l 0 (eO r3 (r_.l.length:Int)))).length:Int))) 0).bind λa=>((chk (eI (([]:List aR)++(cut r_.l 0 (eO r3 (r_.l.length:Int)))).length a.l.length 24)).bind λ_=>((fU ((([]:List aR)++(cut r_.l 0 (eO r3 (r_.l.length:Int))))++a.l)).bind λb=>some b)))))))
def uY (r_:aE) (x_:aW):Option Bool :=
 (((bif ((r_.cells.length:Int) != (x_.l.length:Int)) then some true else some (!(r_.wrapped == x_.wrapped))):Option Bool).bind λe6=>(bif e6 then some false else ((iter (σ:=Int) (ρ:=Unit ⊕ Bool) (λa=>(bif (decide (a < (r_.cells.length:Int))) then ((idx r_.cells a).bind λb=>((((idx x_.l a).bind λc=>(bif ((IntKind.i64.wrap b.rune) != c.rune) then some true else ((idx x_.l a).bind λd=>(bif (b.aM != d.aM) then some true else ((idx x_.l a).bind λe=>some (b.part != e.part)))))):Option Bool).bind λf=>(bif f then (ln (some false)) else some (.inl (IntKind.i64.wrap (a+1)))))) else some (.inr (.inl ())))) 0).bind λ | .inl e712=>some true | .inr w=>some w)))
structure jh where
 w:Int
 l:List aW
 deriving DecidableEq,Inhabited
def pd (n_:Int):Option Int :=
 some (imax 1 (eO n_ 1000))
def sU (w:Int) (h_:Int):Option jh :=
 ((pd w).bind λr2=>((iter (σ:=jh×Int) (ρ:=jh) (λa=>((pd h_).bind λc=>(bif (decide (a.2 < c)) then ((ka a.1.w 0).bind λb=>((chk (eI a.1.l.length [b].length 32)).bind λ_=>some (.inl ((jh.mk a.1.w (a.1.l++[b])),(IntKind.i64.wrap (a.2+1)))))) else some (.inr a.1)))) ((jh.mk r2 ([]:List aW)),0)).bind λd=>some d))
def oK (g:jh) (y:Int) (r_:aW):Option (jh×Bool) :=
 (((bif (decide (y < 0)) then some true else some (decide (y>=(g.l.length:Int)))):Option Bool).bind λe7=>(bif e7 then some (g,false) else ((chk (eI ([]:List aW).length g.l.length 32)).bind λ_=>((nS r_ g.w).bind λa=>((idx (([]:List aW)++g.l) y).bind λb=>some ((jh.mk g.w ((([]:List aW)++g.l).set y.toNat a)),true))))))
def eR (g:jh) (up:Bool) (top:Int) (aL:Int) (n_:Int) (aM:Int):Option (jh×(List aW)) :=
 (bif (decide ((imax 0 (eO aL (IntKind.i64.wrap ((g.l.length:Int) - 1)))) < (imax 0 (eO top (IntKind.i64.wrap ((g.l.length:Int) - 1)))))) then some (g,([]:List aW)) else ((chk (eI ([]:List aW).length g.l.length 32)).bind λ_=>((ka g.w aM).bind λd=>((iter (σ:=(List aW)×(List aW)×Int) (ρ:=(List aW)×(List aW)) (λa=>(((bif (decide (a.2.2 < n_)) then some (decide (a.2.2<=(IntKind.i64.wrap ((imax 0 (eO aL (IntKind.i64.wrap ((g.l.length:Int) - 1)))) - (imax 0 (eO top (IntKind.i64.wrap ((g.l.length:Int) - 1)))))))) else some false):Option Bool).bind λm=>(bif m then (((bif up then ((idx a.2.1 (imax 0 (eO top (IntKind.i64.wrap ((g.l.length:Int) - 1))))).bind λe=>((chk (eI a.1.length [e].length 32)).bind λ_=>((iter (σ:=(List aW)×Int) (ρ:=(List aW)) (λb=>(bif (decide (b.2 < (imax 0 (eO aL (IntKind.i64.wrap ((g.l.length:Int) - 1)))))) then ((idx b.1 (IntKind.i64.wrap (b.2+1))).bind λn=>((idx b.1 b.2).bind λp=>some (.inl ((b.1.set b.2.toNat n),(IntKind.i64.wrap (b.2+1)))))) else some (.inr b.1))) (a.2.1,(imax 0 (eO top (IntKind.i64.wrap ((g.l.length:Int) - 1)))))).bind λf=>((idx f (imax 0 (eO aL (IntKind.i64.wrap ((g.l.length:Int) - 1))))).bind λq=>some ((a.1++[e]),(f.set ((imax 0 (eO aL (IntKind.i64.wrap ((g.l.length:Int) - 1)))).toNat) d)))))) else ((idx a.2.1 (imax 0 (eO aL (IntKind.i64.wrap ((g.l.length:Int) - 1))))).bind λh=>((chk (eI a.1.length [h].length 32)).bind λ_=>((iter (σ:=(List aW)×Int) (ρ:=(List aW)) (λc=>(bif (decide (c.2 > (imax 0 (eO top (IntKind.i64.wrap ((g.l.length:Int) - 1)))))) then ((idx c.1 (IntKind.i64.wrap (c.2 - 1))).bind λo=>((idx c.1 c.2).bind λr=>some (.inl ((c.1.set c.2.toNat o),(IntKind.i64.wrap (c.2 - 1)))))) else some (.inr c.1))) (a.2.1,(imax 0 (eO aL (IntKind.i64.wrap ((g.l.length:Int) - 1)))))).bind λi=>((idx i (imax 0 (eO top (IntKind.i64.wrap ((g.l.length:Int) - 1))))).bind λs=>some ((a.1++[h]),(i.set ((imax 0 (eO top (IntKind.i64.wrap ((g.l.length:Int) - 1)))).toNat) d))))))):Option ((List aW)×(List aW))).bind λj=>some (.inl (j.1,j.2,(IntKind.i64.wrap (a.2.2+1))))) else some (.inr (a.1,a.2.1))))) (([]:List aW),(([]:List aW)++g.l),0)).bind λk=>some ((jh.mk g.w k.2),k.1)))))
def pf (l:List aE) (x_:List aW):Option Bool :=
 (bif ((l.length:Int) != (x_.length:Int)) then some false else ((iter (σ:=Int) (ρ:=Unit ⊕ Bool) (λa=>(bif (decide (a < (x_.length:Int))) then ((idx l a).bind λb=>((idx x_ a).bind λc=>((uY b c).bind λd=>(bif (!d) then (ln (some false)) else some (.inl (IntKind.i64.wrap (a+1))))))) else some (.inr (.inl ())))) 0).bind λ | .inl e571=>some true | .inr w=>some w))
structure lJ where
 kind:Int
 rune:Int
 byte:Int
 eG:Bool
 bJ:List Int
 text:ByteArray
 deriving DecidableEq,Inhabited
structure bM where
 ji:Int
 back:Int
 bold:Bool
 under:Bool
 dX:Bool
 deriving DecidableEq,Inhabited
def sV (s_:bM):Option Bool :=
 (((bif (decide (s_.ji>=0)) then (bif (decide (s_.ji<=8)) then (bif (decide (s_.back>=0)) then some (decide (s_.back<=8)) else some false) else some false) else some false):Option Bool).bind λe9=>some e9)
def lK (s_:bM):Option Int :=
 ((sV s_).bind λr2=>(bif (!r2) then some 0 else (((bif s_.bold then some (IntKind.i64.wrap ((IntKind.i64.wrap (s_.ji+(IntKind.i64.wrap (9*s_.back))))+81)) else some (IntKind.i64.wrap (s_.ji+(IntKind.i64.wrap (9*s_.back))))):Option Int).bind λa=>(((bif s_.under then some (IntKind.i64.wrap (a+162)) else some a):Option Int).bind λb=>(((bif s_.dX then some (IntKind.i64.wrap (b+324)) else some b):Option Int).bind λc=>some c)))))
def sW (s_:bM) (l:List Int):Option bM :=
 (bif ((l.length:Int) == 0) then some (bM.mk 0 0 false false false) else ((iter (σ:=bM×Int×Int) (ρ:=bM) (λb=>(bif (decide (b.2.1 < (l.length:Int))) then ((((idx l b.2.1).bind λa=>(bif (decide (b.2.2 > 0)) then some ((IntKind.i64.wrap (b.2.2 - 1)),b.1) else (((bif (a == 38) then some true else some (a == 48)):Option Bool).bind λm=>(bif m then (((bif (decide ((IntKind.i64.wrap (b.2.1+1)) < (l.length:Int))) then ((idx l (IntKind.i64.wrap (b.2.1+1))).bind λn=>some (n == 5)) else some false):Option Bool).bind λo=>(((bif o then some 2 else some b.2.2):Option Int).bind λp=>(((bif (decide ((IntKind.i64.wrap (b.2.1+1)) < (l.length:Int))) then ((idx l (IntKind.i64.wrap (b.2.1+1))).bind λq=>some (q == 2)) else some false):Option Bool).bind λr=>(((bif r then some 4 else some p):Option Int).bind λt=>some (t,b.1))))) else (((bif (a == 0) then some (bM.mk 0 0 false false false) else some b.1):Option bM).bind λc=>(((bif (a == 1) then some true else some (a == 22)):Option Bool).bind λu=>(((bif u then some (bM.mk c.ji c.back (decide (a < 10)) c.under c.dX) else some c):Option bM).bind λd=>(((bif (a == 4) then some true else some (a == 24)):Option Bool).bind λv=>(((bif v then some (bM.mk d.ji d.back d.bold (decide (a < 10)) d.dX) else some d):Option bM).bind λe=>(((bif (a == 7) then some true else some (a == 27)):Option Bool).bind λw=>(((bif w then some (bM.mk e.ji e.back e.bold e.under (decide (a < 10))) else some e):Option bM).bind λf=>(((bif (decide (a>=30)) then some (decide (a<=37)) else some false):Option Bool).bind λz=>(((bif z then some (bM.mk (IntKind.i64.wrap (a - 29)) f.back f.bold f.under f.dX) else some f):Option bM).bind λh=>(((bif (a == 39) then some (bM.mk 0 h.back h.bold h.under h.dX) else some h):Option bM).bind λi=>(((bif (decide (a>=40)) then some (decide (a<=47)) else some false):Option Bool).bind λA=>(((bif A then some (bM.mk i.ji (IntKind.i64.wrap (a - 39)) i.bold i.under i.dX) else some i):Option bM).bind λj=>(bif (a == 49) then some (b.2.2,(bM.mk j.ji 0 j.bold j.under j.dX)) else some (b.2.2,j)))))))))))))))))):Option (Int×bM)).bind λk=>some (.inl (k.2,(IntKind.i64.wrap (b.2.1+1)),k.1))) else some (.inr b.1))) (s_,0,0)).bind λB=>some B))
structure aP where
 g:jh
 x:Int
 y:Int
 s:bM
 sX:Int
 sY:Int
 sS:bM
 waiting:Bool
 top:Int
 aL:Int
 aY:Bool
 title:ByteArray
 deriving DecidableEq,Inhabited
def sZ (w:Int) (h_:Int):Option aP :=
 ((sU w h_).bind λr2=>some (aP.mk r2 0 0 (bM.mk 0 0 false false false) 0 0 (bM.mk 0 0 false false false) false 0 (IntKind.i64.wrap ((r2.l.length:Int) - 1)) true (ByteArray.mk #[])))
def kU (s_:aP) (r_:aW):Option aP :=
 ((oK s_.g s_.y r_).bind λr4=>some (aP.mk r4.1 s_.x s_.y s_.s s_.sX s_.sY s_.sS s_.waiting s_.top s_.aL s_.aY s_.title))
def nT (s_:aP) (n_:Int):Option (aP×(List aW)) :=
 ((lK s_.s).bind λb=>((eR s_.g true s_.top s_.aL n_ b).bind λa=>(bif (decide (s_.top > 0)) then some ((aP.mk a.1 s_.x s_.y s_.s s_.sX s_.sY s_.sS s_.waiting s_.top s_.aL s_.aY s_.title),([]:List aW)) else some ((aP.mk a.1 s_.x s_.y s_.s s_.sX s_.sY s_.sS s_.waiting s_.top s_.aL s_.aY s_.title),a.2))))
def dO (s_:aP) (x_:Int) (y:Int):Option aP :=
 some (aP.mk s_.g (imax 0 (eO x_ (IntKind.i64.wrap (s_.g.w - 1)))) (imax 0 (eO y (IntKind.i64.wrap ((s_.g.l.length:Int) - 1)))) s_.s s_.sX s_.sY s_.sS false s_.top s_.aL s_.aY s_.title)
def jn (s_:aP):Option (aP×(List aW)) :=
 (bif (s_.y == s_.aL) then ((nT (aP.mk s_.g s_.x s_.y s_.s s_.sX s_.sY s_.sS false s_.top s_.aL s_.aY s_.title) 1).bind λa=>some (a.1,a.2)) else ((dO (aP.mk s_.g s_.x s_.y s_.s s_.sX s_.sY s_.sS false s_.top s_.aL s_.aY s_.title) s_.x (IntKind.i64.wrap (s_.y+1))).bind λb=>some (b,([]:List aW))))
def rI (s_:aP) (r_:Int):Option (aP×(List aW)) :=
 ((rH r_).bind λr3=>(((bif (r3 == 0) then some true else some (decide (r3 > s_.g.w))):Option Bool).bind λe9=>(bif e9 then some (s_,([]:List aW)) else ((lK s_.s).bind λi=>(((bif s_.waiting then some s_.aY else some false):Option Bool).bind λj=>(((bif j then ((idx s_.g.l s_.y).bind λk=>((kU s_ (aW.mk k.l true)).bind λc=>((jn (aP.mk c.g 0 c.y c.s c.sX c.sY c.sS c.waiting c.top c.aL c.aY c.title)).bind λf=>((chk (eI ([]:List aW).length f.2.length 32)).bind λ_=>some ((([]:List aW)++f.2),f.1))))) else some (([]:List aW),s_)):Option ((List aW)×aP)).bind λb=>(((bif (r3 == 2) then some (b.2.x == (IntKind.i64.wrap (b.2.g.w - 1))) else some false):Option Bool).bind λm=>(((bif m then (bif b.2.aY then ((idx b.2.g.l b.2.y).bind λn=>((nR n i).bind λo=>((kU b.2 o).bind λd=>((jn (aP.mk d.g 0 d.y d.s d.sX d.sY d.sS d.waiting d.top d.aL d.aY d.title)).bind λh=>((chk (eI b.1.length h.2.length 32)).bind λ_=>some ((b.1++h.2),h.1)))))) else some (b.1,(aP.mk b.2.g (IntKind.i64.wrap (b.2.x - 1)) b.2.y b.2.s b.2.sX b.2.sY b.2.sS b.2.waiting b.2.top b.2.aL b.2.aY b.2.title))) else some (b.1,b.2)):Option ((List aW)×aP)).bind λe=>((idx e.2.g.l e.2.y).bind λp=>((p9 p e.2.x r_ i).bind λq=>((kU e.2 q).bind λa=>(((bif ((IntKind.i64.wrap (a.x+r3)) == a.g.w) then some (aP.mk a.g (IntKind.i64.wrap ((IntKind.i64.wrap (a.x+r3)) - 1)) a.y a.s a.sX a.sY a.sS ((IntKind.i64.wrap (a.x+r3)) == a.g.w) a.top a.aL a.aY a.title) else some (aP.mk a.g (IntKind.i64.wrap (a.x+r3)) a.y a.s a.sX a.sY a.sS ((IntKind.i64.wrap (a.x+r3)) == a.g.w) a.top a.aL a.aY a.title)):Option aP).bind λr=>some (r,e.1)))))))))))))
def fQ (l:List Int) (i:Int) (d:Int):Option Int :=
 (((bif (decide (i < (l.length:Int))) then ((idx l i).bind λa=>some (decide (a > 0))) else some false):Option Bool).bind λb=>(bif b then ((idx l i).bind λc=>some (eO c 9999)) else some d))
def mc (s_:aP) (y:Int) (from_:Int) (to:Int):Option aP :=
 ((idx s_.g.l y).bind λa=>((lK s_.s).bind λb=>((oB a from_ to b).bind λc=>((oK s_.g y c).bind λd=>some (aP.mk d.1 s_.x s_.y s_.s s_.sX s_.sY s_.sS s_.waiting s_.top s_.aL s_.aY s_.title)))))
def oC (s_:aP) (n_:Int) (all:Bool):Option aP :=
 (bif (decide (n_ > 2)) then some s_ else ((iter (σ:=aP×Int) (ρ:=aP) (λa=>(bif (decide (a.2 < (s_.g.l.length:Int))) then (((((bif all then (bif (decide (a.2 < a.1.y)) then (bif (n_ != 0) then some true else (bif (decide (a.2 > a.1.y)) then some (n_ != 1) else some false)) else (bif (decide (a.2 > a.1.y)) then some (n_ != 1) else some false)) else some false):Option Bool).bind λd=>(bif d then ((mc a.1 a.2 0 a.1.g.w).bind λe=>some e) else some a.1)):Option aP).bind λf=>some (.inl (f,(IntKind.i64.wrap (a.2+1))))) else some (.inr a.1))) (s_,0)).bind λc=>(((bif (n_ == 0) then some c.x else some 0):Option Int).bind λh=>(((bif (n_ == 1) then some (IntKind.i64.wrap (c.x+1)) else some c.g.w):Option Int).bind λi=>((mc c c.y h i).bind λb=>some (aP.mk b.g b.x b.y b.s b.sX b.sY b.sS false b.top b.aL b.aY b.title))))))
def oV (s_:aP) (b:Int) (l:List Int):Option (aP×(List aW)) :=
 ((fQ l 0 1).bind λr3=>((lK s_.s).bind λr6=>(((((bif (b == 65) then some (b == 65) else some (b == 70)):Option Bool).bind λk=>(bif k then (((bif (decide (s_.y>=s_.top)) then some s_.top else some 0):Option Int).bind λm=>((dO s_ s_.x (imax m (IntKind.i64.wrap (s_.y - r3)))).bind λa=>(bif (b == 70) then some (.inl (aP.mk a.g 0 a.y a.s a.sX a.sY a.sS a.waiting a.top a.aL a.aY a.title)) else some (.inl a)))) else (((bif (b == 66) then some (b == 66) else some (b == 69)):Option Bool).bind λn=>(bif n then (((bif (decide (s_.y<=s_.aL)) then some s_.aL else some (IntKind.i64.wrap ((s_.g.l.length:Int) - 1))):Option Int).bind λo=>((dO s_ s_.x (eO o (IntKind.i64.wrap (s_.y+r3)))).bind λc=>(bif (b == 69) then some (.inl (aP.mk c.g 0 c.y c.s c.sX c.sY c.sS c.waiting c.top c.aL c.aY c.title)) else some (.inl c)))) else (bif (b == 67) then ((dO s_ (IntKind.i64.wrap (s_.x+r3)) s_.y).bind λp=>some (.inl p)) else (bif (b == 68) then ((dO s_ (IntKind.i64.wrap (s_.x - r3)) s_.y).bind λq=>some (.inl q)) else (bif (b == 71) then ((dO s_ (IntKind.i64.wrap (r3 - 1)) s_.y).bind λr=>some (.inl r)) else (bif (b == 100) then ((dO s_ s_.x (IntKind.i64.wrap (r3 - 1))).bind λt=>some (.inl t)) else (((bif (b == 72) then some (b == 72) else some (b == 102)):Option Bool).bind λu=>(bif u then ((fQ l 1 1).bind λv=>((dO s_ (IntKind.i64.wrap (v - 1)) (IntKind.i64.wrap (r3 - 1))).bind λz=>some (.inl z))) else (bif (b == 74) then ((fQ l 0 0).bind λA=>((oC s_ A true).bind λB=>some (.inl B))) else (bif (b == 75) then ((fQ l 0 0).bind λC=>((oC s_ C false).bind λD=>some (.inl D))) else (bif (b == 88) then ((mc s_ s_.y s_.x (IntKind.i64.wrap (s_.x+r3))).bind λd=>some (.inl (aP.mk d.g d.x d.y d.s d.sX d.sY d.sS false d.top d.aL d.aY d.title))) else (bif (b == 64) then ((idx s_.g.l s_.y).bind λE=>((nP E s_.x r3 r6).bind λF=>((kU s_ F).bind λe=>some (.inl (aP.mk e.g e.x e.y e.s e.sX e.sY e.sS false e.top e.aL e.aY e.title))))) else (bif (b == 80) then ((idx s_.g.l s_.y).bind λG=>((nQ G s_.x r3 r6).bind λH=>((kU s_ H).bind λf=>some (.inl (aP.mk f.g f.x f.y f.s f.sX f.sY f.sS false f.top f.aL f.aY f.title))))) else (((bif (b == 76) then some (b == 76) else some (b == 77)):Option Bool).bind λI=>(bif I then (((bif (decide (s_.y>=s_.top)) then some (decide (s_.y<=s_.aL)) else some false):Option Bool).bind λJ=>(bif J then ((eR s_.g (b == 77) s_.y s_.aL r3 r6).bind λK=>((dO (aP.mk K.1 s_.x s_.y s_.s s_.sX s_.sY s_.sS s_.waiting s_.top s_.aL s_.aY s_.title) 0 s_.y).bind λL=>some (.inl L))) else some (.inl s_))) else (bif (b == 83) then ((nT (aP.mk s_.g s_.x s_.y s_.s s_.sX s_.sY s_.sS false s_.top s_.aL s_.aY s_.title) r3).bind λh=>(ll (some (h.1,h.2)))) else (bif (b == 84) then ((eR s_.g false s_.top s_.aL r3 r6).bind λM=>some (.inl (aP.mk M.1 s_.x s_.y s_.s s_.sX s_.sY s_.sS false s_.top s_.aL s_.aY s_.title))) else (bif (b == 109) then ((sW s_.s l).bind λN=>some (.inl (aP.mk s_.g s_.x s_.y N s_.sX s_.sY s_.sS s_.waiting s_.top s_.aL s_.aY s_.title))) else (bif (b == 114) then ((fQ l 0 1).bind λi=>((fQ l 1 (s_.g.l.length:Int)).bind λj=>(bif (decide ((IntKind.i64.wrap ((imax 1 (eO i (s_.g.l.length:Int))) - 1)) < (IntKind.i64.wrap ((imax 1 (eO j (s_.g.l.length:Int))) - 1)))) then ((dO (aP.mk s_.g s_.x s_.y s_.s s_.sX s_.sY s_.sS s_.waiting (IntKind.i64.wrap ((imax 1 (eO i (s_.g.l.length:Int))) - 1)) (IntKind.i64.wrap ((imax 1 (eO j (s_.g.l.length:Int))) - 1)) s_.aY s_.title) 0 0).bind λO=>some (.inl O)) else some (.inl s_)))) else some (.inl s_)))))))))))))))))))))):Option (aP ⊕ (aP×(List aW)))).bind λ | .inl e753=>some (e753,([]:List aW)) | .inr w=>some w)))
def uZ (s_:aP) (a:lJ):Option (aP×(List aW)) :=
 (((bif (a.kind == 1) then ((rI s_ a.rune).bind λb=>(ll (some (b.1,b.2)))) else (bif (a.kind == 2) then (bif (a.byte == 8) then ((dO s_ (IntKind.i64.wrap (s_.x - 1)) s_.y).bind λh=>(ll (some (h,([]:List aW))))) else (bif (a.byte == 9) then ((dO s_ (IntKind.i64.wrap ((IntKind.i64.wrap ((IntKind.i64.wrap (s_.x.tdiv 8))*8))+8)) s_.y).bind λi=>(ll (some (i,([]:List aW))))) else (((bif (a.byte == 10) then some (a.byte == 10) else (bif (a.byte == 11) then some (a.byte == 11) else some (a.byte == 12))):Option Bool).bind λj=>(bif j then ((jn s_).bind λc=>(ll (some (c.1,c.2)))) else (bif (a.byte == 13) then ((dO s_ 0 s_.y).bind λk=>(ll (some (k,([]:List aW))))) else some (.inl s_)))))) else (bif (a.kind == 3) then (bif (a.byte == 68) then ((jn s_).bind λd=>(ll (some (d.1,d.2)))) else (bif (a.byte == 69) then ((jn (aP.mk s_.g 0 s_.y s_.s s_.sX s_.sY s_.sS s_.waiting s_.top s_.aL s_.aY s_.title)).bind λe=>(ll (some (e.1,e.2)))) else (bif (a.byte == 77) then (bif (s_.y == s_.top) then ((lK s_.s).bind λm=>((eR s_.g false s_.top s_.aL 1 m).bind λn=>(ll (some ((aP.mk n.1 s_.x s_.y s_.s s_.sX s_.sY s_.sS false s_.top s_.aL s_.aY s_.title),([]:List aW)))))) else ((dO (aP.mk s_.g s_.x s_.y s_.s s_.sX s_.sY s_.sS false s_.top s_.aL s_.aY s_.title) s_.x (IntKind.i64.wrap (s_.y - 1))).bind λo=>(ll (some (o,([]:List aW)))))) else (bif (a.byte == 55) then some (.inl (aP.mk s_.g s_.x s_.y s_.s s_.x s_.y s_.s s_.waiting s_.top s_.aL s_.aY s_.title)) else (bif (a.byte == 56) then ((dO (aP.mk s_.g s_.x s_.y s_.sS s_.sX s_.sY s_.sS s_.waiting s_.top s_.aL s_.aY s_.title) s_.sX s_.sY).bind λp=>(ll (some (p,([]:List aW))))) else (bif (a.byte == 99) then ((sZ s_.g.w (s_.g.l.length:Int)).bind λq=>(ll (some (q,([]:List aW))))) else some (.inl s_))))))) else (bif (a.kind == 4) then (bif (!a.eG) then ((oV s_ a.byte a.bJ).bind λf=>(ll (some (f.1,f.2)))) else ((((fQ a.bJ 0 0).bind λr=>(bif (r == 7) then (bif (a.byte == 104) then some true else some (a.byte == 108)) else some false)):Option Bool).bind λt=>(bif t then some (.inl (aP.mk s_.g s_.x s_.y s_.s s_.sX s_.sY s_.sS s_.waiting s_.top s_.aL (a.byte == 104) s_.title)) else some (.inl s_)))) else (bif (a.kind == 5) then some (.inl (aP.mk s_.g s_.x s_.y s_.s s_.sX s_.sY s_.sS s_.waiting s_.top s_.aL s_.aY a.text)) else some (.inl s_)))))):Option (aP ⊕ (aP×(List aW)))).bind λ | .inl e456=>some (e456,([]:List aW)) | .inr w=>some w)
def s6 (a:lJ):Option aZ :=
 ((chk (eI ([]:List Int).length a.bJ.length 8)).bind λ_=>some (aZ.mk a.kind (IntKind.i32.wrap a.rune) (IntKind.u8.wrap a.byte) a.eG (([]:List Int)++a.bJ) a.text))
structure Ay where
 l:List (List uX)
 begun:List uX
 deriving DecidableEq,Inhabited
structure cK where
 kind:Int
 text:ByteArray
 w:Int
 h:Int
 deriving DecidableEq,Inhabited
structure k5 where
 s:aP
 b:Ay
 all:ByteArray
 PR:Int
 k:Int
 deriving DecidableEq,Inhabited
def pg (x:cK):Prop:=(inK .i64) x.kind/\(λs:ByteArray=>s.size<=maxLen) x.text/\(inK .i64) x.w/\(inK .i64) x.h/\True
def nA (e:cK):Option cK :=
 ((oJ e.text 60).bind λr3=>(((bif (decide (e.w > 10)) then some (decide (e.w<=1000)) else some false):Option Bool).bind λe9=>(((bif e9 then some (cK.mk e.kind r3 10 e.h) else some (cK.mk e.kind r3 e.w e.h)):Option cK).bind λa=>(((bif (decide (a.h > 6)) then some (decide (a.h<=1000)) else some false):Option Bool).bind λb=>(((bif b then some (cK.mk a.kind a.text a.w 6) else some a):Option cK).bind λc=>some c)))))
def mY:Option Bool :=
 ((nM (cE.mk 5 1 2)).bind λr1=>(Option.bind oI λf=>((nz 3 2).bind λg=>((eM g).bind λb=>((fC r1 b.1).bind λh=>((fP h.2 0).bind λd=>((iter (σ:=bA×Int) (ρ:=bA ⊕ Bool) (λa=>(bif (decide (a.2 < (d.1.length:Int))) then ((idx d.1 a.2).bind λi=>((cT a.1 i).bind λe=>(bif (e.1 != 0) then (ln (some false)) else some (.inl (e.2,(IntKind.i64.wrap (a.2+1))))))) else some (.inr (.inl a.1)))) (f,0)).bind λ | .inl e285=>((((iQ e285).bind λj=>(bif (j == 1) then ((jg e285).bind λk=>((eM b.2).bind λc=>((fT k c.1).bind λl=>(bif l then ((eZ e285).bind λm=>((gO m 0).bind λn=>some ((n == 1),c.2))) else some (false,c.2))))) else some (false,b.2))):Option (Bool×bB)).bind λo=>some o.1) | .inr w=>some w)))))))
def mq (events:List cK) (picks:List Int) (part:Int):Option Bool :=
 (Option.bind mY λr1=>(bif (!r1) then some false else ((nz 6 3).bind λr6=>((nM (cE.mk (IntKind.i64.wrap (4+(Go.bits .and .i64 part 63))) 1 3)).bind λo=>(Option.bind oI λp=>((iter (σ:=aK×bA×bB×(List aH)×(List dN)×Int×Int) (ρ:=(bA×aK×bB) ⊕ Bool) (λa=>(((bif (decide (a.2.2.2.2.2.2 < (picks.length:Int))) then some (decide (a.2.2.2.2.2.2 < 40)) else some false):Option Bool).bind λq=>(bif q then ((idx picks a.2.2.2.2.2.2).bind λi=>(((bif ((Go.bits .and .i64 (Go.bits .and .i64 i 65535) 3) == 0) then (bif (decide (a.2.2.2.2.2.1 < (events.length:Int))) then some (decide (a.2.2.2.2.2.1 < 10)) else some false) else some false):Option Bool).bind λr=>(((bif r then ((idx events a.2.2.2.2.2.1).bind λs=>((nA s).bind λe=>((eV a.2.2.1 (lO.mk e.kind e.text e.w e.h)).bind λt=>some ((IntKind.i64.wrap (a.2.2.2.2.2.1+1)),t.2)))) else some (a.2.2.2.2.2.1,a.2.2.1)):Option (Int×bB)).bind λm=>((eM m.2).bind λj=>((fC a.1 j.1).bind λn=>(((bif n.1 then ((eM j.2).bind λk=>((chk (eI a.2.2.2.1.length [k.1].length 120)).bind λ_=>some ((a.2.2.2.1++[k.1]),k.2))) else some (a.2.2.2.1,j.2)):Option ((List aH)×bB)).bind λf=>((fP n.2 a.2.2.2.2.2.2).bind λb=>((chk (eI a.2.2.2.2.1.length b.1.length 56)).bind λ_=>((iQ a.2.1).bind λu=>((iter (σ:=bA×Int) (ρ:=bA) (λc=>(((bif (decide (c.2 < 3)) then some (decide (((a.2.2.2.2.1++b.1).length:Int) > 0)) else some false):Option Bool).bind λv=>(bif v then ((chk (decide (((a.2.2.2.2.1++b.1).length:Int)≠0))).bind λ_=>((idx (a.2.2.2.2.1++b.1) ((IntKind.i64.wrap ((Go.bits .and .i64 i 65535)+(IntKind.i64.wrap (7*c.2)))).tmod ((a.2.2.2.2.1++b.1).length:Int))).bind λx=>((cT c.1 x).bind λy=>some (.inl (y.2,(IntKind.i64.wrap (c.2+1))))))) else some (.inr c.1)))) (a.2.1,0)).bind λg=>(((bif ((Go.bits .and .i64 (Go.bits .and .i64 i 65535) 4) != 0) then ((eZ g).bind λl=>((gO l 0).bind λz=>((gO l 1).bind λA=>((iO b.2 z A l.data).bind λB=>some B.2)))) else some b.2):Option aK).bind λC=>((jg g).bind λD=>((iter (σ:=Int×Bool) (ρ:=Bool) (λd=>(bif (decide (d.1 < (f.1.length:Int))) then ((((idx f.1 d.1).bind λE=>(bif d.2 then some true else ((fT E D).bind λF=>some F))):Option Bool).bind λG=>some (.inl ((IntKind.i64.wrap (d.1+1)),G))) else some (.inr d.2))) (0,false)).bind λH=>((((iQ g).bind λI=>(bif (decide (I < u)) then some true else some (!H))):Option Bool).bind λJ=>(bif J then (ln (some false)) else some (.inl (C,g,f.2,f.1,(a.2.2.2.2.1++b.1),m.1,(IntKind.i64.wrap (a.2.2.2.2.2.2+1))))))))))))))))))) else some (.inr (.inl (a.2.1,a.1,a.2.2.1)))))) (o,p,r6,[(aH.mk 0 0 0 0 0 (ByteArray.mk #[]) ([]:List aE) 0 0 ([]:List aJ))],[],0,0)).bind λ | .inl e5965=>some true | .inr w=>some w))))))
end Go.Tw.X
end

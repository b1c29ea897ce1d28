import Derived.Test.YtgiokjfkjaoeiaaGreatDoorFw2
set_option linter.unusedVariables false
set_option linter.unusedSimpArgs false
set_option maxRecDepth 10000
noncomputable section
namespace Go.Tw.X
open Go Go.Tw
structure cG where
 b:List Int
 deriving DecidableEq,Inhabited
structure aT where
 s:ByteArray
 e:Int
 deriving DecidableEq,Inhabited
def oT (n_:Int):Option Int :=
 some n_
def rp (n_:Int):Option Int :=
 some (imax 0 (dZ n_ 4611686018427387904))
def mf {σ:Type} (Y:σ->Int->Option (σ×Bool)) (y0:σ) (x1:Int):Option (σ×Int) :=
 ((rp x1).bind λr1=>((iter (σ:=Int×σ) (ρ:=(Int×σ) ⊕ (σ×Int)) (λa=>(bif (decide (a.1>=128)) then ((Y a.2 (Go.bits .or .u8 (Go.bits .and .u8 (IntKind.u8.wrap a.1) 127) 128)).bind λz68=>(bif (!z68.2) then (lx (some (z68.1,a.1))) else some (.inl ((a.1.fdiv (2 ^ (min 7 64))),z68.1)))) else some (.inr (.inl (a.1,a.2))))) (r1,y0)).bind λ | .inl e53=>((Y e53.2 (IntKind.u8.wrap e53.1)).bind λz75=>some (z75.1,e53.1)) | .inr w=>some w))
def dB (o:cG) (l:List Int):Option cG :=
 ((iter (σ:=cG×Int) (ρ:=cG) (λa=>(bif (decide (a.2 < (l.length:Int))) then ((idx l a.2).bind λe=>((oT e).bind λf=>((mf (λc d=>((chk (eP c.b.length [d].length 1)).bind λ_=>some ((cG.mk (c.b++[d])),true))) (a.1:cG) f).bind λg=>some (.inl (g.1,(IntKind.i64.wrap (a.2+1))))))) else some (.inr a.1))) (o,0)).bind λh=>some h)
def ib (o:cG) (l:List ByteArray):Option cG :=
 ((iter (σ:=cG×Int) (ρ:=cG) (λa=>(bif (decide (a.2 < (l.length:Int))) then ((idx l a.2).bind λc=>((chk (eP a.1.b.length c.size 1)).bind λ_=>some (.inl ((cG.mk (a.1.b++sbs c)),(IntKind.i64.wrap (a.2+1)))))) else some (.inr a.1))) (o,0)).bind λd=>some d)
def la (o:cG) (l:List ByteArray):Option cG :=
 ((iter (σ:=cG×Int) (ρ:=cG) (λa=>(bif (decide (a.2 < (l.length:Int))) then ((idx l a.2).bind λb=>((dB a.1 [(b.size:Int)]).bind λc=>((ib c [b]).bind λd=>some (.inl (d,(IntKind.i64.wrap (a.2+1))))))) else some (.inr a.1))) (o,0)).bind λe=>some e)
def iB (o:cG):Option ByteArray :=
 some (fU o.b)
def vu (s_:ByteArray):Option aT :=
 some (aT.mk s_ 0)
def bT (in_:aT) (e:Int):Option aT :=
 (((bif (in_.e == 0) then some (e != 0) else some false):Option Bool).bind λe4=>(bif e4 then some (aT.mk (ByteArray.mk #[]) e) else some in_))
def bV (in_:aT):Option (Int×aT) :=
 ((iter (σ:=Int×Int) (ρ:=Unit ⊕ (Int×aT)) (λa=>(bif (decide (a.1 < (dZ (in_.s.size:Int) 9))) then ((yT in_.s a.1).bind λb213=>((chk (shk (IntKind.i64.wrap (7*a.1)))).bind λ_=>(bif (decide (b213>=128)) then some (.inl ((IntKind.i64.wrap (a.1+1)),(Go.bits .or .i64 a.2 (IntKind.i64.wrap ((IntKind.i64.wrap (Go.bits .and .u8 b213 127))*2 ^ (min (IntKind.i64.wrap (7*a.1)).toNat 64)))))) else (((bif (decide (a.1 > 0)) then (bif (b213 == 0) then some true else some (decide ((Go.bits .or .i64 a.2 (IntKind.i64.wrap ((IntKind.i64.wrap (Go.bits .and .u8 b213 127))*2 ^ (min (IntKind.i64.wrap (7*a.1)).toNat 64)))) > 4611686018427387904))) else some (decide ((Go.bits .or .i64 a.2 (IntKind.i64.wrap ((IntKind.i64.wrap (Go.bits .and .u8 b213 127))*2 ^ (min (IntKind.i64.wrap (7*a.1)).toNat 64)))) > 4611686018427387904))):Option Bool).bind λb=>(bif b then ((bT in_ 1).bind λc=>(lx (some (0,c)))) else ((chk (dE (IntKind.i64.wrap (a.1+1)) (in_.s.size:Int) in_.s.size)).bind λ_=>(lx (some ((Go.bits .or .i64 a.2 (IntKind.i64.wrap ((IntKind.i64.wrap (Go.bits .and .u8 b213 127))*2 ^ (min (IntKind.i64.wrap (7*a.1)).toNat 64)))),(aT.mk (iE in_.s (IntKind.i64.wrap (a.1+1)) (in_.s.size:Int)) in_.e)))))))))) else some (.inr (.inl ())))) (0,0)).bind λ | .inl e176=>(((bif (decide ((in_.s.size:Int)>=9)) then ((bT in_ 1).bind λd=>some d) else some in_):Option aT).bind λf=>((bT f 2).bind λg=>some (0,g))) | .inr w=>some w)
def ny (in_:aT) (n_:Int):Option (ByteArray×aT) :=
 (bif (decide ((imax 0 n_) > (in_.s.size:Int))) then ((bT in_ 2).bind λr6=>some ((ByteArray.mk #[]),r6)) else ((chk (dE 0 (imax 0 n_) in_.s.size)).bind λ_=>((chk (dE (imax 0 n_) (in_.s.size:Int) in_.s.size)).bind λ_=>some ((iE in_.s 0 (imax 0 n_)),(aT.mk (iE in_.s (imax 0 n_) (in_.s.size:Int)) in_.e)))))
def lW (in_:aT):Option (ByteArray×aT) :=
 ((bV in_).bind λr1=>((ny r1.2 r1.1).bind λr4=>some (r4.1,r4.2)))
def dR (in_:aT):Option Int :=
 some in_.e
def nz (in_:aT):Option Int :=
 (bif (!(in_.s.toList == (ByteArray.mk #[]).toList)) then some 1 else some in_.e)
structure bR where
 lead:Int
 rune:Int
 jF:Int
 deriving DecidableEq,Inhabited
structure lb where
 first:Int
 last:Int
 jF:Int
 low:Int
 high:Int
 deriving DecidableEq,Inhabited
def bX:List lb:=[⟨194,223,1,128,191⟩,⟨224,224,2,160,191⟩,⟨225,236,2,128,191⟩,⟨237,237,2,128,159⟩,⟨238,239,2,128,191⟩,⟨240,240,3,144,191⟩,⟨241,243,3,128,191⟩,⟨244,244,3,128,143⟩]
def jw (d:bR):Option (List Int) :=
 (bif (decide (d.jF<=0)) then some ([]:List Int) else some [65533])
def mB (b:Int):Option (lb×Bool) :=
 ((iter (σ:=Int) (ρ:=Unit ⊕ (lb×Bool)) (λa=>(bif (decide (a < 8)) then ((idx bX a).bind λc=>(((bif (decide (b>=c.first)) then some (decide (b<=c.last)) else some false):Option Bool).bind λd=>(bif d then (lx (some (c,true))) else some (.inl (IntKind.i64.wrap (a+1)))))) else some (.inr (.inl ())))) 0).bind λ | .inl e84=>some ((lb.mk 0 0 0 0 0),false) | .inr w=>some w)
def lX (b:Int):Option (bR×(List Int)) :=
 (bif (decide (b < 128)) then some ((bR.mk 0 0 0),[(IntKind.i32.wrap b)]) else ((mB b).bind λr8=>(bif (!r8.2) then some ((bR.mk 0 0 0),[65533]) else ((chk (shk r8.1.jF)).bind λ_=>some ((bR.mk b (Go.bits .and .i32 (IntKind.i32.wrap b) ((63:Int).fdiv (2 ^ (min r8.1.jF.toNat 32)))) r8.1.jF),([]:List Int))))))
def iW (d:bR) (b:Int):Option Bool :=
 ((mB d.lead).bind λr2=>(bif (decide (d.jF < r2.1.jF)) then (((bif (decide (b>=128)) then some (decide (b<=191)) else some false):Option Bool).bind λa=>some a) else (((bif (decide (b>=r2.1.low)) then some (decide (b<=r2.1.high)) else some false):Option Bool).bind λc=>some c)))
def iX (d:bR) (b:Int):Option (bR×(List Int)) :=
 (bif (decide (d.jF<=0)) then ((lX b).bind λc=>some (c.1,c.2)) else ((iW d b).bind λe=>(bif (!e) then ((lX b).bind λa=>((chk (eP [65533].length a.2.length 4)).bind λ_=>some (a.1,([65533]++a.2)))) else (bif ((IntKind.i64.wrap (d.jF - 1)) == 0) then ((some [(Go.bits .or .i32 (IntKind.i32.wrap (d.rune*2 ^ (min 6 32))) (Go.bits .and .i32 (IntKind.i32.wrap b) 63))]:Option (List Int)).bind λf=>some ((bR.mk 0 0 0),f)) else some ((bR.mk d.lead (Go.bits .or .i32 (IntKind.i32.wrap (d.rune*2 ^ (min 6 32))) (Go.bits .and .i32 (IntKind.i32.wrap b) 63)) (IntKind.i64.wrap (d.jF - 1))),([]:List Int))))))
structure cX where
 addr:Bool
 buf:List Int
 deriving DecidableEq,Inhabited
structure cI where
 e0:Int
 e1:Int
 deriving DecidableEq,Inhabited
structure m5 where
 e0:Int
 e1:Int
 e2:Int
 deriving DecidableEq,Inhabited
def oU (x_:Int) (y:Int):Option (Int×Int) :=
 some ((IntKind.u64.wrap ((IntKind.u64.wrap ((IntKind.u64.wrap ((x_.fdiv (2 ^ (min 32 64)))*(y.fdiv (2 ^ (min 32 64)))))+((IntKind.u64.wrap ((IntKind.u64.wrap ((x_.fdiv (2 ^ (min 32 64)))*(Go.bits .and .u64 y 4294967295)))+((IntKind.u64.wrap ((Go.bits .and .u64 x_ 4294967295)*(Go.bits .and .u64 y 4294967295))).fdiv (2 ^ (min 32 64))))).fdiv (2 ^ (min 32 64)))))+((IntKind.u64.wrap ((Go.bits .and .u64 (IntKind.u64.wrap ((IntKind.u64.wrap ((x_.fdiv (2 ^ (min 32 64)))*(Go.bits .and .u64 y 4294967295)))+((IntKind.u64.wrap ((Go.bits .and .u64 x_ 4294967295)*(Go.bits .and .u64 y 4294967295))).fdiv (2 ^ (min 32 64))))) 4294967295)+(IntKind.u64.wrap ((Go.bits .and .u64 x_ 4294967295)*(y.fdiv (2 ^ (min 32 64))))))).fdiv (2 ^ (min 32 64))))),(IntKind.u64.wrap (x_*y)))
def pd (x_:Int) (y:Int):Option (Int×Int) :=
 ((oU x_ y).bind λr1=>some (r1.1,r1.2))
def gQ (s_:ByteArray) (prefix_:ByteArray):Option Bool :=
 (((bif (decide ((s_.size:Int)>=(prefix_.size:Int))) then ((chk (dE 0 (prefix_.size:Int) s_.size)).bind λ_=>some ((iE s_ 0 (prefix_.size:Int)).toList == prefix_.toList)) else some false):Option Bool).bind λe8=>some e8)
def jj (s_:ByteArray) (prefix_:ByteArray):Option (ByteArray×Bool) :=
 ((gQ s_ prefix_).bind λr1=>(bif (!r1) then some (s_,false) else ((chk (dE (prefix_.size:Int) (s_.size:Int) s_.size)).bind λ_=>some ((iE s_ (prefix_.size:Int) (s_.size:Int)),true))))
def jy (s_:ByteArray) (prefix_:ByteArray):Option (ByteArray×Bool) :=
 ((jj s_ prefix_).bind λr1=>some (r1.1,r1.2))
def eY (b:cX) (s_:ByteArray):Option cX :=
 ((chk (eP b.buf.length s_.size 1)).bind λ_=>some (cX.mk true (b.buf++sbs s_)))
def kK (b:cX):Option ByteArray :=
 some (fU b.buf)
structure iY where
 from_:Int
 to:Int
 deriving DecidableEq,Inhabited
def dC:List iY:=[⟨(-2147483648),31⟩,⟨127,159⟩,⟨768,879⟩,⟨6832,6911⟩,⟨7616,7679⟩,⟨8203,8207⟩,⟨8400,8447⟩,⟨55296,57343⟩,⟨65024,65039⟩,⟨65056,65071⟩,⟨65279,65279⟩,⟨917760,917999⟩,⟨1114112,2147483647⟩]
def dJ:List iY:=[⟨4352,4447⟩,⟨11904,12350⟩,⟨12353,13311⟩,⟨13312,19903⟩,⟨19968,40959⟩,⟨40960,42191⟩,⟨44032,55203⟩,⟨63744,64255⟩,⟨65072,65135⟩,⟨65280,65376⟩,⟨65504,65510⟩,⟨127744,128591⟩,⟨129280,129535⟩,⟨131072,262141⟩]
def o7 (l:List iY) (r_:Int):Option Bool :=
 ((iter (σ:=Int×Int) (ρ:=Int) (λa=>(bif (decide (a.1 < a.2)) then ((idx l (IntKind.i64.wrap ((IntKind.i64.wrap (a.1+a.2)).tdiv 2))).bind λc=>(bif (decide (c.to < r_)) then some (.inl ((IntKind.i64.wrap ((IntKind.i64.wrap ((IntKind.i64.wrap (a.1+a.2)).tdiv 2))+1)),a.2)) else some (.inl (a.1,(IntKind.i64.wrap ((IntKind.i64.wrap (a.1+a.2)).tdiv 2)))))) else some (.inr a.1))) (0,(l.length:Int))).bind λb=>(((bif (decide (b < (l.length:Int))) then ((idx l b).bind λd=>some (decide (d.from_<=r_))) else some false):Option Bool).bind λe=>some e))
def o8 (r_:Int):Option Int :=
 ((o7 dC r_).bind λr9=>(bif r9 then some 0 else ((o7 dJ r_).bind λa=>(bif a then some 2 else some 1))))
structure aG where
 rune:Int
 aM:Int
 part:Int
 deriving DecidableEq,Inhabited
structure aE where
 cells:List aG
 wrapped:Bool
 deriving DecidableEq,Inhabited
structure aJ where
 rune:Int
 aM:Int
 deriving DecidableEq,Inhabited
def kL (n_:Int) (lo:Int) (hi:Int):Option Int :=
 some (imax lo (dZ n_ hi))
def iZ (aM:Int):Option aG :=
 some (aG.mk 32 aM 0)
def eK (x_:List aG) (count:Int):Option (List aG) :=
 (bif (decide (count < 0)) then none else ((pd (IntKind.u64.wrap (x_.length:Int)) (IntKind.u64.wrap count)).bind λr3=>(((bif (decide (r3.1 > 0)) then some true else some (decide (r3.2 > 9223372036854775807))):Option Bool).bind λe9=>(bif e9 then none else ((chk (Ea (IntKind.i64.wrap r3.2) 24)).bind λ_=>((iter (σ:=(List aG)×Int) (ρ:=(List aG)) (λa=>(bif (decide (a.2 < (a.1.length:Int))) then ((chk (dE a.2 (a.1.length:Int) a.1.length)).bind λ_=>((chk (dE 0 a.2 a.1.length)).bind λ_=>some (.inl ((z9 a.1 a.2.toNat),(IntKind.i64.wrap (a.2+((Nat.min a.2.toNat (a.1.length - a.2.toNat):Nat):Int))))))) else some (.inr a.1))) ((cpy (List.replicate (IntKind.i64.wrap r3.2).toNat (aG.mk 0 0 0)) x_),((Nat.min x_.length (List.replicate (IntKind.i64.wrap r3.2).toNat (aG.mk 0 0 0)).length:Nat):Int))).bind λb=>some b))))))
def kr (n_:Int) (aM:Int):Option (List aG) :=
 ((iZ aM).bind λr1=>((eK [r1] (imax 0 n_)).bind λr7=>some r7))
def ku (w:Int) (aM:Int):Option aE :=
 ((kL w 0 1000).bind λr2=>((kr r2 aM).bind λr5=>some (aE.mk r5 false)))
def eS (s_:List aG):Option (List aG) :=
 ((chk (eP ([]:List aG).length s_.length 24)).bind λ_=>some (([]:List aG)++s_))
def fQ (r_:aE):Option (List aG) :=
 ((eS r_.cells).bind λr2=>some r2)
def mC (l:List aG) (i:Int):Option Bool :=
 ((idx l i).bind λx1=>(bif (x1.part == 1) then (((bif (decide ((IntKind.i64.wrap (i+1))>=(l.length:Int))) then some true else ((idx l (IntKind.i64.wrap (i+1))).bind λa=>some (a.part != 2))):Option Bool).bind λb=>some b) else (bif (x1.part == 2) then (((bif (i == 0) then some true else ((idx l (IntKind.i64.wrap (i - 1))).bind λc=>some (c.part != 1))):Option Bool).bind λd=>some d) else (bif (x1.part == 3) then some (i != (IntKind.i64.wrap ((l.length:Int) - 1))) else some false))))
def fM (l:List aG):Option aE :=
 ((iter (σ:=(List aG)×Int) (ρ:=(List aG)) (λa=>(bif (decide (a.2 < (l.length:Int))) then ((((mC a.1 a.2).bind λb=>(bif b then ((idx a.1 a.2).bind λc=>((iZ c.aM).bind λd=>((idx a.1 a.2).bind λg=>some (a.1.set a.2.toNat d)))) else some a.1)):Option (List aG)).bind λe=>some (.inl (e,(IntKind.i64.wrap (a.2+1))))) else some (.inr a.1))) (l,0)).bind λf=>some (aE.mk f false))
def mN (r_:aE) (at_:Int) (x_:Int) (aM:Int):Option aE :=
 ((fQ r_).bind λr3=>((o8 x_).bind λr9=>(((((bif (r9 == 0) then some true else (bif (decide (at_ < 0)) then some true else some (decide (at_ > (IntKind.i64.wrap ((r3.length:Int) - r9)))))):Option Bool).bind λa=>(bif a then some r3 else (bif (r9 == 1) then ((idx r3 at_).bind λh=>some (r3.set at_.toNat (aG.mk x_ aM 0))) else ((idx r3 at_).bind λi=>((idx (r3.set at_.toNat (aG.mk x_ aM 1)) (IntKind.i64.wrap (at_+1))).bind λj=>(((bif (decide (at_ > 0)) then ((idx ((r3.set at_.toNat (aG.mk x_ aM 1)).set ((IntKind.i64.wrap (at_+1)).toNat) (aG.mk x_ aM 2)) (IntKind.i64.wrap (at_ - 1))).bind λb=>some (b.part == 1)) else some false):Option Bool).bind λc=>(bif c then ((idx ((r3.set at_.toNat (aG.mk x_ aM 1)).set ((IntKind.i64.wrap (at_+1)).toNat) (aG.mk x_ aM 2)) (IntKind.i64.wrap (at_ - 1))).bind λd=>((iZ d.aM).bind λe=>((idx ((r3.set at_.toNat (aG.mk x_ aM 1)).set ((IntKind.i64.wrap (at_+1)).toNat) (aG.mk x_ aM 2)) (IntKind.i64.wrap (at_ - 1))).bind λk=>some (((r3.set at_.toNat (aG.mk x_ aM 1)).set ((IntKind.i64.wrap (at_+1)).toNat) (aG.mk x_ aM 2)).set ((IntKind.i64.wrap (at_ - 1)).toNat) e)))) else some ((r3.set at_.toNat (aG.mk x_ aM 1)).set ((IntKind.i64.wrap (at_+1)).toNat) (aG.mk x_ aM 2))))))))):Option (List aG)).bind λf=>((fM f).bind λg=>some g))))
def jL (r_:aE):Option (List aJ) :=
 ((iter (σ:=(List aG)) (ρ:=(List aG)) (λa=>(((bif (!r_.wrapped) then (bif (decide ((a.length:Int) > 0)) then ((idx a (IntKind.i64.wrap ((a.length:Int) - 1))).bind λd=>((iZ 0).bind λe=>some ((d.rune == e.rune) && ((d.aM == e.aM) && ((d.part == e.part) && true))))) else some false) else some false):Option Bool).bind λg=>(bif g then ((chk (dE 0 (IntKind.i64.wrap ((a.length:Int) - 1)) a.length)).bind λ_=>some (.inl (cut a 0 (IntKind.i64.wrap ((a.length:Int) - 1))))) else some (.inr a)))) r_.cells).bind λf=>((iter (σ:=Int×(List aJ)) (ρ:=(List aJ)) (λb=>(bif (decide (b.1 < (f.length:Int))) then ((((idx f b.1).bind λc=>(((bif (c.part == 0) then some true else some (c.part == 1)):Option Bool).bind λh=>(bif h then ((chk (eP b.2.length [(aJ.mk c.rune c.aM)].length 16)).bind λ_=>some (b.2++[(aJ.mk c.rune c.aM)])) else some b.2))):Option (List aJ)).bind λi=>some (.inl ((IntKind.i64.wrap (b.1+1)),i))) else some (.inr b.2))) (0,[])).bind λj=>some j))
def kg (r_:aE) (from_:Int) (to:Int) (aM:Int):Option aE :=
 ((fQ r_).bind λr3=>((kL from_ 0 (r3.length:Int)).bind λr9=>((iter (σ:=Int×(List aG)) (ρ:=(List aG)) (λa=>((kL to 0 (a.2.length:Int)).bind λb=>(bif (decide (a.1 < b)) then ((iZ aM).bind λc=>((idx a.2 a.1).bind λf=>some (.inl ((IntKind.i64.wrap (a.1+1)),(a.2.set a.1.toNat c))))) else some (.inr a.2)))) (r9,r3)).bind λd=>((fM d).bind λe=>some e))))
def jM (r_:aE) (at_:Int) (n_:Int):Option Int :=
 (((bif (decide (at_ < 0)) then some true else some (decide (at_>=(r_.cells.length:Int)))):Option Bool).bind λe5=>(bif e5 then some 0 else ((kL n_ 0 (IntKind.i64.wrap ((r_.cells.length:Int) - at_))).bind λa=>some a)))
def ig (n_:Int):Option (List aG) :=
 (bif (decide (n_ < 0)) then none else (((bif (decide ((IntKind.i64.wrap (n_ - (IntKind.i64.wrap (0 - 0)))) > 0)) then ((chk (N8 (IntKind.i64.wrap (n_ - (IntKind.i64.wrap (0 - 0)))) 24)).bind λ_=>((chk (dE 0 0 (List.replicate (IntKind.i64.wrap (n_ - (IntKind.i64.wrap (0 - 0)))).toNat (aG.mk 0 0 0)).length)).bind λ_=>some (cut (List.replicate (IntKind.i64.wrap (n_ - (IntKind.i64.wrap (0 - 0)))).toNat (aG.mk 0 0 0)) 0 0))) else some []):Option (List aG)).bind λa=>some a))
def fG (slices:List (List aG)):Option (List aG) :=
 ((iter (σ:=Int×Int) (ρ:=Int) (λa=>(bif (decide (a.1 < (slices.length:Int))) then ((idx slices a.1).bind λc=>(bif (decide ((IntKind.i64.wrap (a.2+(c.length:Int))) < 0)) then none else some (.inl ((IntKind.i64.wrap (a.1+1)),(IntKind.i64.wrap (a.2+(c.length:Int))))))) else some (.inr a.2))) (0,0)).bind λe=>((ig e).bind λf=>((iter (σ:=Int×(List aG)) (ρ:=(List aG)) (λb=>(bif (decide (b.1 < (slices.length:Int))) then ((idx slices b.1).bind λd=>((chk (eP b.2.length d.length 24)).bind λ_=>some (.inl ((IntKind.i64.wrap (b.1+1)),(b.2++d))))) else some (.inr b.2))) (0,f)).bind λg=>some g)))
def ld (r_:aE) (at_:Int) (n_:Int) (aM:Int):Option aE :=
 ((jM r_ at_ n_).bind λr3=>(bif (r3 == 0) then ((fQ r_).bind λb=>((fM b).bind λc=>some c)) else ((chk (dE 0 at_ r_.cells.length)).bind λ_=>((chk (dE at_ (r_.cells.length:Int) r_.cells.length)).bind λ_=>((kr r3 aM).bind λd=>((fG [(cut r_.cells 0 at_),d,(cut r_.cells at_ (r_.cells.length:Int))]).bind λa=>((chk (dE 0 (r_.cells.length:Int) a.length)).bind λ_=>((fM (cut a 0 (r_.cells.length:Int))).bind λe=>some e))))))))
def lf (r_:aE) (at_:Int) (n_:Int) (aM:Int):Option aE :=
 ((jM r_ at_ n_).bind λr3=>(bif (r3 == 0) then ((fQ r_).bind λa=>((fM a).bind λb=>some b)) else ((chk (dE 0 at_ r_.cells.length)).bind λ_=>((chk (dE (IntKind.i64.wrap (at_+r3)) (r_.cells.length:Int) r_.cells.length)).bind λ_=>((kr r3 aM).bind λc=>((fG [(cut r_.cells 0 at_),(cut r_.cells (IntKind.i64.wrap (at_+r3)) (r_.cells.length:Int)),c]).bind λd=>((fM d).bind λe=>some e)))))))
def mg (r_:aE) (aM:Int):Option aE :=
 ((fQ r_).bind λr3=>(((bif (decide ((r3.length:Int) > 0)) then ((idx r3 (IntKind.i64.wrap ((r3.length:Int) - 1))).bind λc=>some (r3.set ((IntKind.i64.wrap ((r3.length:Int) - 1)).toNat) (aG.mk 32 aM 3))) else some r3):Option (List aG)).bind λa=>((fM a).bind λb=>some (aE.mk b.cells true))))
def jN (r_:aE) (w:Int):Option aE :=
 ((kL w 0 1000).bind λr3=>((fQ r_).bind λr6=>(bif (r3 == (r6.length:Int)) then some (aE.mk r6 r_.wrapped) else ((kr (IntKind.i64.wrap (r3 - (r6.length:Int))) 0).bind λa=>((chk (dE 0 (dZ r3 (r6.length:Int)) r6.length)).bind λ_=>((chk (eP (cut r6 0 (dZ r3 (r6.length:Int))).length a.length 24)).bind λ_=>((fM ((cut r6 0 (dZ r3 (r6.length:Int)))++a)).bind λb=>some b)))))))
def gR (s1_:List aG) (s2_:List aG):Option Bool :=
 (bif ((s1_.length:Int) != (s2_.length:Int)) then some false else ((iter (σ:=Int) (ρ:=Unit ⊕ Bool) (λa=>(bif (decide (a < (s1_.length:Int))) then ((idx s1_ a).bind λb=>((idx s2_ a).bind λc=>(bif (!((b.rune == c.rune) && ((b.aM == c.aM) && ((b.part == c.part) && true)))) then (lx (some false)) else some (.inl (IntKind.i64.wrap (a+1)))))) else some (.inr (.inl ())))) 0).bind λ | .inl e355=>some true | .inr w=>some w))
def ja (r_:aE) (q:aE):Option Bool :=
 (((bif (r_.wrapped == q.wrapped) then ((gR r_.cells q.cells).bind λa=>some a) else some false):Option Bool).bind λb=>some b)
def eG (s_:List aE):Option (List aE) :=
 ((chk (eP ([]:List aE).length s_.length 32)).bind λ_=>some (([]:List aE)++s_))
def gG (s_:List aE):Option (List aE) :=
 ((iter (σ:=(List aE)×Int×Int) (ρ:=(List aE)) (λa=>(bif (decide (a.2.1 < a.2.2)) then ((((idx a.1 a.2.2).bind λb=>((idx a.1 a.2.1).bind λc=>((idx a.1 a.2.1).bind λf=>((idx a.1 a.2.2).bind λg=>some ((a.1.set a.2.1.toNat b).set a.2.2.toNat c))))):Option (List aE)).bind λd=>some (.inl (d,(IntKind.i64.wrap (a.2.1+1)),(IntKind.i64.wrap (a.2.2 - 1))))) else some (.inr a.1))) (s_,0,(IntKind.i64.wrap ((s_.length:Int) - 1)))).bind λe=>some e)
def dK (s1_:List aE) (s2_:List aE):Option Bool :=
 (bif ((s1_.length:Int) != (s2_.length:Int)) then some false else ((iter (σ:=Int) (ρ:=Unit ⊕ Bool) (λa=>(bif (decide (a < (s1_.length:Int))) then ((idx s1_ a).bind λb=>((idx s2_ a).bind λc=>((ja b c).bind λd=>(bif (!d) then (lx (some false)) else some (.inl (IntKind.i64.wrap (a+1))))))) else some (.inr (.inl ())))) 0).bind λ | .inl e169=>some true | .inr w=>some w))
def cB (s_:List aJ):Option (List aJ) :=
 ((chk (eP ([]:List aJ).length s_.length 16)).bind λ_=>some (([]:List aJ)++s_))
def gH (s1_:List aJ) (s2_:List aJ):Option Bool :=
 (bif ((s1_.length:Int) != (s2_.length:Int)) then some false else ((iter (σ:=Int) (ρ:=Unit ⊕ Bool) (λa=>(bif (decide (a < (s1_.length:Int))) then ((idx s1_ a).bind λb=>((idx s2_ a).bind λc=>(bif (!((b.rune == c.rune) && ((b.aM == c.aM) && true))) then (lx (some false)) else some (.inl (IntKind.i64.wrap (a+1)))))) else some (.inr (.inl ())))) 0).bind λ | .inl e355=>some true | .inr w=>some w))
def dA:List Int:=[0,498536548,997073096,651767980,1994146192,1802195444,1303535960,1342533948,3988292384,4027552580,3604390888,3412177804,2607071920,2262029012,2685067896,3183342108]
def oa (x_:Int) (b:Int):Option Int :=
 ((idx dA (Go.bits .and .u32 (Go.bits .xor .u32 x_ (IntKind.u32.wrap b)) 15)).bind λx1=>((idx dA (Go.bits .and .u32 (Go.bits .xor .u32 ((Go.bits .xor .u32 x_ (IntKind.u32.wrap b)).fdiv (2 ^ (min 4 32))) x1) 15)).bind λx5=>some (Go.bits .xor .u32 ((Go.bits .xor .u32 ((Go.bits .xor .u32 x_ (IntKind.u32.wrap b)).fdiv (2 ^ (min 4 32))) x1).fdiv (2 ^ (min 4 32))) x5)))
def qz (l:List ByteArray):Option Int :=
 ((iter (σ:=Int×Int) (ρ:=Int) (λa=>(bif (decide (a.2 < (l.length:Int))) then ((idx l a.2).bind λc=>((iter (σ:=Int×Int) (ρ:=Int) (λb=>(bif (decide (b.1 < (c.size:Int))) then ((yT c b.1).bind λb642=>((oa b.2 b642).bind λd=>some (.inl ((IntKind.i64.wrap (b.1+1)),d)))) else some (.inr b.2))) (0,a.1)).bind λe=>some (.inl (e,(IntKind.i64.wrap (a.2+1)))))) else some (.inr a.1))) (4294967295,0)).bind λf=>some (Go.bits .xor .u32 4294967295 f))
structure cF where
 l:List (List aJ)
 bW:List Int
 begun:List aJ
 deriving DecidableEq,Inhabited
def rq:Option cF :=
 some (cF.mk ([]:List (List aJ)) [0] ([]:List aJ))
def lP (b:cF):Option Int :=
 some (b.l.length:Int)
def kv (b:cF) (n_:Int):Option Int :=
 ((idx b.bW (imax 0 (dZ n_ (b.l.length:Int)))).bind λa=>some a)
def kx (b:cF):Option (List aJ) :=
 ((cB b.begun).bind λr1=>some r1)
def mh (l:List aJ):Option ByteArray :=
 ((dB (cG.mk ([]:List Int)) [(l.length:Int)]).bind λr6=>((iter (σ:=cG×Int) (ρ:=cG) (λa=>(bif (decide (a.2 < (l.length:Int))) then ((idx l a.2).bind λb=>((dB a.1 [(IntKind.i64.wrap b.rune),b.aM]).bind λc=>some (.inl (c,(IntKind.i64.wrap (a.2+1)))))) else some (.inr a.1))) (r6,0)).bind λd=>((iB d).bind λe=>some e)))
def ij (in_:aT) (most:Int):Option (Int×aT) :=
 ((bV in_).bind λr1=>(bif (decide (r1.1 > most)) then ((bT r1.2 1).bind λr9=>some (0,r9)) else some (r1.1,r1.2)))
def nk (in_:aT):Option ((List aJ)×aT) :=
 ((ij in_ 1024).bind λr1=>((iter (σ:=aT×(List aJ)×Int) (ρ:=(List aJ)×aT) (λa=>(bif (decide (a.2.2 < r1.1)) then ((ij a.1 1114111).bind λc=>((ij c.2 647).bind λd=>((chk (eP a.2.1.length [(aJ.mk (IntKind.i32.wrap c.1) d.1)].length 16)).bind λ_=>some (.inl (d.2,(a.2.1++[(aJ.mk (IntKind.i32.wrap c.1) d.1)]),(IntKind.i64.wrap (a.2.2+1))))))) else some (.inr (a.2.1,a.1)))) (r1.2,[],0)).bind λb=>((dR b.2).bind λe=>(bif (e != 0) then some (([]:List aJ),b.2) else some (b.1,b.2)))))
def oy (chain:Int) (l:List aJ):Option Int :=
 ((mh l).bind λr1=>((qz [r1]).bind λr6=>some ((IntKind.i64.wrap (((IntKind.i64.wrap (((IntKind.i64.wrap (chain*256)).tmod 281474976710597)*256)).tmod 281474976710597)+(IntKind.i64.wrap r6))).tmod 281474976710597)))
def gB (b:cF) (l:List aJ):Option cF :=
 ((cB l).bind λa=>((chk (eP b.l.length [a].length 24)).bind λ_=>((idx b.bW (IntKind.i64.wrap ((b.bW.length:Int) - 1))).bind λd=>((oy d l).bind λc=>((chk (eP b.bW.length [c].length 8)).bind λ_=>some (cF.mk (b.l++[a]) (b.bW++[c]) b.begun))))))
def jv (b:cF) (rows:List aE):Option (Int×cF) :=
 ((iter (σ:=cF×Int) (ρ:=cF) (λa=>(bif (decide (a.2 < (rows.length:Int))) then ((((idx rows a.2).bind λf=>((jL f).bind λg=>((chk (eP a.1.begun.length g.length 16)).bind λ_=>((iter (σ:=cF) (ρ:=cF) (λd=>(bif (decide ((d.begun.length:Int)>=1024)) then ((chk (dE 0 1024 d.begun.length)).bind λ_=>((gB d (cut d.begun 0 1024)).bind λc=>((chk (dE 1024 (c.begun.length:Int) c.begun.length)).bind λ_=>((cB (cut c.begun 1024 (c.begun.length:Int))).bind λj=>some (.inl (cF.mk c.l c.bW j)))))) else some (.inr d))) (cF.mk a.1.l a.1.bW (a.1.begun++g))).bind λe=>(bif (!f.wrapped) then ((gB e e.begun).bind λh=>some (cF.mk h.l h.bW ([]:List aJ))) else some e))))):Option cF).bind λk=>some (.inl (k,(IntKind.i64.wrap (a.2+1))))) else some (.inr a.1))) (b,0)).bind λi=>some ((IntKind.i64.wrap ((i.l.length:Int) - (b.l.length:Int))),i))
structure aY where
 w:Int
 l:List aE
 deriving DecidableEq,Inhabited
def jb (n_:Int) (lo:Int) (hi:Int):Option Int :=
 some (imax lo (dZ n_ hi))
def jJ (n_:Int):Option Int :=
 ((jb n_ 1 1000).bind λr1=>some r1)
def pf (w:Int) (h_:Int):Option aY :=
 ((jJ w).bind λr1=>((jJ h_).bind λr5=>((iter (σ:=aY×Int) (ρ:=aY) (λa=>(bif (decide (a.2 < r5)) then ((ku a.1.w 0).bind λb=>((chk (eP a.1.l.length [b].length 32)).bind λ_=>some (.inl ((aY.mk a.1.w (a.1.l++[b])),(IntKind.i64.wrap (a.2+1)))))) else some (.inr a.1))) ((aY.mk r1 ([]:List aE)),0)).bind λc=>some c)))
def oc (r_:aE):Option aE :=
 ((eS r_.cells).bind λa=>some (aE.mk a r_.wrapped))
def fR (g:aY) (y:Int):Option aE :=
 (((bif (decide (y < 0)) then some true else some (decide (y>=(g.l.length:Int)))):Option Bool).bind λe5=>(bif e5 then some (aE.mk ([]:List aG) false) else ((idx g.l y).bind λa=>((oc a).bind λb=>some b))))
def fD (g:aY) (y:Int) (r_:aE):Option (Bool×aY) :=
 (((bif (decide (y < 0)) then some true else some (decide (y>=(g.l.length:Int)))):Option Bool).bind λe5=>(bif e5 then some (false,g) else ((jN r_ g.w).bind λa=>((idx g.l y).bind λb=>some (true,(aY.mk g.w (g.l.set y.toNat a)))))))
def eL (g:aY) (top:Int) (aL:Int):Option (Unit ⊕ (Int×Int)) :=
 ((jb top 0 (IntKind.i64.wrap ((g.l.length:Int) - 1))).bind λr1=>((jb aL 0 (IntKind.i64.wrap ((g.l.length:Int) - 1))).bind λr4=>(bif (decide (r4 < r1)) then some (.inl ()) else ((chk (dE r1 (IntKind.i64.wrap (r4+1)) g.l.length)).bind λ_=>some (.inr (r1,(IntKind.i64.wrap (r4+1))))))))
def gI (g:aY) (top:Int) (aL:Int) (n_:Int) (aM:Int):Option ((List aE)×aY) :=
 ((eL g top aL).bind λ | .inl r1=>some (([]:List aE),g) | .inr r1=>((chk (dE r1.1 r1.2 g.l.length)).bind λ_=>((jb n_ 0 ((cut g.l r1.1 r1.2).length:Int)).bind λr9=>((chk (dE 0 r9 (cut g.l r1.1 r1.2).length)).bind λ_=>((eG (cut g.l (r1.1+0) (r1.1+r9))).bind λb=>((chk (dE r9 ((cut g.l r1.1 r1.2).length:Int) (cut g.l r1.1 r1.2).length)).bind λ_=>((iter (σ:=aY×Int) (ρ:=aY) (λa=>(bif (decide (a.2 < ((cut a.1.l r1.1 r1.2).length:Int))) then ((ku a.1.w aM).bind λc=>((chk (dE r1.1 r1.2 a.1.l.length)).bind λ_=>((idx (cut a.1.l r1.1 r1.2) a.2).bind λe=>some (.inl ((aY.mk a.1.w (a.1.l.set (r1.1.toNat+a.2.toNat) c)),(IntKind.i64.wrap (a.2+1))))))) else some (.inr a.1))) ((aY.mk g.w (sr g.l r1.1 r1.2 (r1.1+r9) (r1.1+((cut g.l r1.1 r1.2).length:Int)))),(IntKind.i64.wrap (((cut (sr g.l r1.1 r1.2 (r1.1+r9) (r1.1+((cut g.l r1.1 r1.2).length:Int))) r1.1 r1.2).length:Int) - r9)))).bind λd=>some (b,d))))))))
def eT (g:aY) (top:Int) (aL:Int) (n_:Int) (aM:Int):Option ((List aE)×aY) :=
 ((eL g top aL).bind λ | .inl r1=>some (([]:List aE),g) | .inr r1=>((chk (dE r1.1 r1.2 g.l.length)).bind λ_=>((jb n_ 0 ((cut g.l r1.1 r1.2).length:Int)).bind λr9=>((chk (dE (IntKind.i64.wrap (((cut g.l r1.1 r1.2).length:Int) - r9)) ((cut g.l r1.1 r1.2).length:Int) (cut g.l r1.1 r1.2).length)).bind λ_=>((eG (cut g.l (r1.1+(IntKind.i64.wrap (((cut g.l r1.1 r1.2).length:Int) - r9))) (r1.1+((cut g.l r1.1 r1.2).length:Int)))).bind λb=>((gG b).bind λc=>((chk (decide (c.length=b.length))).bind λ_=>((chk (dE r9 ((cut g.l r1.1 r1.2).length:Int) (cut g.l r1.1 r1.2).length)).bind λ_=>((chk (dE 0 (IntKind.i64.wrap (((cut g.l r1.1 r1.2).length:Int) - r9)) (cut g.l r1.1 r1.2).length)).bind λ_=>((iter (σ:=aY×Int) (ρ:=aY) (λa=>(bif (decide (a.2 < r9)) then ((ku a.1.w aM).bind λd=>((chk (dE r1.1 r1.2 a.1.l.length)).bind λ_=>((idx (cut a.1.l r1.1 r1.2) a.2).bind λf=>some (.inl ((aY.mk a.1.w (a.1.l.set (r1.1.toNat+a.2.toNat) d)),(IntKind.i64.wrap (a.2+1))))))) else some (.inr a.1))) ((aY.mk g.w (sr g.l (r1.1+r9) (r1.1+((cut g.l r1.1 r1.2).length:Int)) (r1.1+0) (r1.1+(IntKind.i64.wrap (((cut g.l r1.1 r1.2).length:Int) - r9))))),0)).bind λe=>some (c,e)))))))))))
def jS (g:aY) (w:Int) (h_:Int) (off:Int):Option ((List aE)×aY) :=
 ((jb off 0 (IntKind.i64.wrap ((g.l.length:Int) - 1))).bind λr1=>((chk (dE 0 r1 g.l.length)).bind λ_=>((eG (cut g.l 0 r1)).bind λh=>((chk (dE r1 (g.l.length:Int) g.l.length)).bind λ_=>((eG (cut g.l r1 (g.l.length:Int))).bind λb=>((jJ h_).bind λd=>((chk (dE 0 (dZ (b.length:Int) d) b.length)).bind λ_=>((iter (σ:=(List aE)) (ρ:=(List aE)) (λc=>((jJ h_).bind λi=>(bif (decide ((c.length:Int) < i)) then ((jJ w).bind λj=>((ku j 0).bind λe=>((chk (eP c.length [e].length 32)).bind λ_=>some (.inl (c++[e]))))) else some (.inr c)))) (cut b 0 (dZ (b.length:Int) d))).bind λf=>((jJ w).bind λk=>((iter (σ:=aY×Int) (ρ:=aY) (λa=>(bif (decide (a.2 < (f.length:Int))) then ((idx a.1.l a.2).bind λm=>((fD a.1 a.2 m).bind λn=>some (.inl (n.2,(IntKind.i64.wrap (a.2+1)))))) else some (.inr a.1))) ((aY.mk k f),0)).bind λo=>some (h,o)))))))))))
def eD (g:aY):Option (Int×Int) :=
 some (g.w,(g.l.length:Int))
def nA (l:List aE):Option (List aE) :=
 some l
def jO {σ:Type} (Y:σ->aE->Option (σ×Bool)) (y0:σ) (x1:List aE):Option σ :=
 ((iter (σ:=Int×σ) (ρ:=σ ⊕ σ) (λa=>(bif (decide (a.1 < (x1.length:Int))) then ((idx x1 a.1).bind λb=>((oc b).bind λc=>((Y a.2 c).bind λz184=>(bif (!z184.2) then (lx (some z184.1)) else some (.inl ((IntKind.i64.wrap (a.1+1)),z184.1)))))) else some (.inr (.inl a.2)))) (0,y0)).bind λ | .inl e139=>some e139 | .inr w=>some w)
def jP (l:List aE):Option ((List aE)×(List aE)) :=
 ((nA l).bind λr2=>((jO (λs40 x9=>((chk (eP s40.length [x9].length 32)).bind λ_=>some ((s40++[x9]),true))) ([]:(List aE)) r2).bind λa=>some (a,r2)))
def lg (g:aY):Option ((List aE)×aY) :=
 ((jP g.l).bind λr1=>((chk (decide (r1.2.length=g.l.length))).bind λ_=>some (r1.1,(aY.mk g.w r1.2))))
def ky (g:aY):Option (aY×aY) :=
 ((jP g.l).bind λa=>((chk (decide (a.2.length=g.l.length))).bind λ_=>some ((aY.mk g.w a.1),(aY.mk g.w a.2))))
structure bB where
 kind:Int
 rune:Int
 byte:Int
 eJ:Bool
 bJ:List Int
 text:ByteArray
 deriving DecidableEq,Inhabited
structure fI where
 eJ:Bool
 nr:Bool
 any:Bool
 some:Bool
 n:Int
 bJ:List Int
 deriving DecidableEq,Inhabited
structure aI where
 state:Int
 order:fI
 text:ByteArray
 cQ:bR
 out:List bB
 deriving DecidableEq,Inhabited
def gC (p:aI) (a:bB):Option aI :=
 ((chk (eP p.out.length [a].length 56)).bind λ_=>some (aI.mk p.state p.order p.text p.cQ (p.out++[a])))
def iM (p:aI) (l:List Int):Option aI :=
 ((iter (σ:=aI×Int) (ρ:=aI) (λa=>(bif (decide (a.2 < (l.length:Int))) then ((idx l a.2).bind λb=>((gC a.1 (bB.mk 1 b 0 false ([]:List Int) (ByteArray.mk #[]))).bind λc=>some (.inl (c,(IntKind.i64.wrap (a.2+1)))))) else some (.inr a.1))) (p,0)).bind λd=>some d)
def fH (p:aI) (b:Int):Option (Bool×aI) :=
 (((((bif (b == 24) then some true else some (b == 26)):Option Bool).bind λa=>(bif a then some (.inl (aI.mk 0 p.order p.text p.cQ p.out)) else (bif (b == 27) then some (.inl (aI.mk 1 p.order p.text p.cQ p.out)) else (bif (decide (b < 32)) then ((gC p (bB.mk 2 0 b false ([]:List Int) (ByteArray.mk #[]))).bind λc=>some (.inl c)) else (k9 (some ((b == 127),p))))))):Option (aI ⊕ (Bool×aI))).bind λ | .inl e42=>some (true,e42) | .inr w=>some w)
def iF (p:aI) (b:Int):Option aI :=
 (((bif (decide (b < 32)) then some true else some (b == 127)):Option Bool).bind λe4=>(bif e4 then ((jw p.cQ).bind λd=>((iM p d).bind λa=>((fH (aI.mk a.state a.order a.text (bR.mk 0 0 0) a.out) b).bind λe=>some e.2))) else ((iX p.cQ b).bind λc=>((iM (aI.mk p.state p.order p.text c.1 p.out) c.2).bind λf=>some f))))
def gD (p:aI) (b:Int):Option aI :=
 ((fH p b).bind λr1=>(bif r1.1 then some r1.2 else (((bif (b == 91) then (k9 (some (aI.mk 3 (fI.mk false false false false 0 ([]:List Int)) r1.2.text r1.2.cQ r1.2.out))) else (bif (b == 93) then (k9 (some (aI.mk 4 r1.2.order (ByteArray.mk #[]) r1.2.cQ r1.2.out))) else (bif (decide (b < 48)) then (k9 (some (aI.mk 2 r1.2.order r1.2.text r1.2.cQ r1.2.out))) else (bif (decide (b < 127)) then ((gC r1.2 (bB.mk 3 0 b false ([]:List Int) (ByteArray.mk #[]))).bind λa=>some (.inl a)) else some (.inl r1.2))))):Option (aI ⊕ aI)).bind λ | .inl e39=>some (aI.mk 0 e39.order e39.text e39.cQ e39.out) | .inr w=>some w)))
def jz (p:aI) (b:Int):Option aI :=
 ((((fH p b).bind λc=>(bif (!c.1) then some ((decide (b>=48)),c.2) else some (false,c.2))):Option (Bool×aI)).bind λa=>(bif a.1 then some (aI.mk 0 a.2.order a.2.text a.2.cQ a.2.out) else some a.2))
def jQ (o:aI):Option aI :=
 (((bif (decide ((o.order.bJ.length:Int) < 16)) then ((chk (eP o.order.bJ.length [o.order.n].length 8)).bind λ_=>some (aI.mk o.state (fI.mk o.order.eJ o.order.nr o.order.any o.order.some o.order.n (o.order.bJ++[o.order.n])) o.text o.cQ o.out)) else some o):Option aI).bind λa=>some (aI.mk a.state (fI.mk a.order.eJ a.order.nr a.order.any a.order.some 0 a.order.bJ) a.text a.cQ a.out))
def jc (p:aI) (a:bB):Option aI :=
 ((chk (eP p.out.length [a].length 56)).bind λ_=>some (aI.mk p.state p.order p.text p.cQ (p.out++[a])))
def jA (p:aI) (b:Int):Option aI :=
 (bif p.order.nr then some (aI.mk 0 p.order p.text p.cQ p.out) else (((bif p.order.some then ((jQ (aI.mk 0 p.order p.text p.cQ p.out)).bind λd=>some d) else some (aI.mk 0 p.order p.text p.cQ p.out)):Option aI).bind λa=>((jc a (bB.mk 4 0 b a.order.eJ a.order.bJ (ByteArray.mk #[]))).bind λc=>((chk (!(c.state == (3:Int)))).bind λ_=>some c))))
def ik (p:aI) (b:Int):Option aI :=
 ((fH p b).bind λr1=>(bif r1.1 then some r1.2 else (((bif (decide (b>=48)) then some (decide (b<=57)) else some false):Option Bool).bind λc=>(bif c then some (aI.mk r1.2.state (fI.mk r1.2.order.eJ r1.2.order.nr true true (dZ (IntKind.i64.wrap ((IntKind.i64.wrap (10*r1.2.order.n))+(IntKind.i64.wrap (IntKind.u8.wrap (b - 48))))) 9999) r1.2.order.bJ) r1.2.text r1.2.cQ r1.2.out) else (((bif (b == 59) then some true else some (b == 58)):Option Bool).bind λd=>(bif d then ((chk (r1.2.state == (3:Int))).bind λ_=>((jQ (aI.mk r1.2.state (fI.mk r1.2.order.eJ r1.2.order.nr true r1.2.order.some r1.2.order.n r1.2.order.bJ) r1.2.text r1.2.cQ r1.2.out)).bind λa=>some (aI.mk a.state (fI.mk a.order.eJ a.order.nr a.order.any true a.order.n a.order.bJ) a.text a.cQ a.out))) else (((bif (b == 63) then some (!r1.2.order.any) else some false):Option Bool).bind λe=>(bif e then some (aI.mk r1.2.state (fI.mk true r1.2.order.nr true r1.2.order.some r1.2.order.n r1.2.order.bJ) r1.2.text r1.2.cQ r1.2.out) else (((bif (decide (b>=64)) then some (decide (b < 127)) else some false):Option Bool).bind λf=>(bif f then ((chk (r1.2.state == (3:Int))).bind λ_=>((jA (aI.mk r1.2.state (fI.mk r1.2.order.eJ r1.2.order.nr true r1.2.order.some r1.2.order.n r1.2.order.bJ) r1.2.text r1.2.cQ r1.2.out) b).bind λg=>some g)) else some (aI.mk r1.2.state (fI.mk r1.2.order.eJ true true r1.2.order.some r1.2.order.n r1.2.order.bJ) r1.2.text r1.2.cQ r1.2.out)))))))))))
def jk (p:aI):Option aI :=
 ((iter (σ:=aI×Int) (ρ:=aI) (λa=>(bif (decide (a.2 < (([(ByteArray.mk #[48,59]),(ByteArray.mk #[50,59])]).length:Int))) then ((((idx ([(ByteArray.mk #[48,59]),(ByteArray.mk #[50,59])]) a.2).bind λc=>((jy a.1.text c).bind λb=>(bif b.2 then ((gC a.1 (bB.mk 5 0 0 false ([]:List Int) b.1)).bind λd=>some d) else some a.1))):Option aI).bind λe=>some (.inl (e,(IntKind.i64.wrap (a.2+1))))) else some (.inr a.1))) ((aI.mk 0 p.order p.text p.cQ p.out),0)).bind λf=>some f)
def jd (p:aI) (b:Int):Option aI :=
 (bif (b == 7) then ((jk p).bind λr2=>some r2) else (((bif (b == 24) then some true else some (b == 26)):Option Bool).bind λa=>(bif a then some (aI.mk 0 p.order p.text p.cQ p.out) else (bif (b == 27) then some (aI.mk 5 p.order p.text p.cQ p.out) else (bif (decide ((p.text.size:Int) < 200)) then ((chk (Oa p.text.size (fU [b]).size)).bind λ_=>some (aI.mk p.state p.order (p.text++(fU [b])) p.cQ p.out)) else some p)))))
def lh (p:aI) (b:Int):Option aI :=
 (bif (p.state == 0) then ((iF p b).bind λr2=>some r2) else (bif (p.state == 1) then ((gD p b).bind λa=>some a) else (bif (p.state == 2) then ((jz p b).bind λc=>some c) else (bif (p.state == 3) then ((ik p b).bind λd=>some d) else (bif (p.state == 4) then ((jd p b).bind λe=>some e) else (bif (b == 92) then ((jk p).bind λf=>some f) else ((gD (aI.mk 1 p.order p.text p.cQ p.out) b).bind λg=>some g)))))))
def kz (p:aI) (s_:ByteArray):Option ((List bB)×aI) :=
 ((iter (σ:=aI×Int) (ρ:=aI) (λa=>(bif (decide (a.2 < (s_.size:Int))) then ((yT s_ a.2).bind λb134=>((lh a.1 b134).bind λc=>some (.inl (c,(IntKind.i64.wrap (a.2+1)))))) else some (.inr a.1))) ((aI.mk p.state p.order p.text p.cQ ([]:List bB)),0)).bind λb=>some (b.out,(aI.mk b.state b.order b.text b.cQ ([]:List bB))))
structure bE where
 iR:Int
 back:Int
 bold:Bool
 under:Bool
 dW:Bool
 deriving DecidableEq,Inhabited
def kA (s_:bE):Option Bool :=
 (((bif (decide (s_.iR>=0)) then (bif (decide (s_.iR < 9)) then (bif (decide (s_.back>=0)) then some (decide (s_.back < 9)) else some false) else some false) else some false):Option Bool).bind λe9=>some e9)
def nm (is:Bool) (n_:Int):Option Int :=
 (bif is then some n_ else some 0)
def kB (s_:bE):Option Int :=
 ((kA s_).bind λr2=>(bif (!r2) then some 0 else ((nm s_.bold 81).bind λa=>((nm s_.under 162).bind λb=>((nm s_.dW 324).bind λc=>some (IntKind.i64.wrap ((IntKind.i64.wrap ((IntKind.i64.wrap ((IntKind.i64.wrap (s_.iR+(IntKind.i64.wrap (9*s_.back))))+a))+b))+c)))))))
def nB (l:List Int):Option Int :=
 (((bif (decide ((l.length:Int) > 0)) then ((idx l 0).bind λa=>some (a == 5)) else some false):Option Bool).bind λb=>(bif b then some (dZ 2 (l.length:Int)) else (((bif (decide ((l.length:Int) > 0)) then ((idx l 0).bind λc=>some (c == 2)) else some false):Option Bool).bind λd=>(bif d then some (dZ 4 (l.length:Int)) else some 0))))
def kC (s_:bE) (n_:Int):Option bE :=
 (((bif (n_ == 0) then (k9 (some (bE.mk 0 0 false false false))) else (((bif (n_ == 1) then some true else some (n_ == 22)):Option Bool).bind λa=>(bif a then some (.inl (bE.mk s_.iR s_.back (n_ == 1) s_.under s_.dW)) else (((bif (n_ == 4) then some true else some (n_ == 24)):Option Bool).bind λb=>(bif b then some (.inl (bE.mk s_.iR s_.back s_.bold (n_ == 4) s_.dW)) else (((bif (n_ == 7) then some true else some (n_ == 27)):Option Bool).bind λc=>(bif c then some (.inl (bE.mk s_.iR s_.back s_.bold s_.under (n_ == 7))) else (((bif (decide (n_>=30)) then some (decide (n_ < 38)) else some false):Option Bool).bind λd=>(bif d then some (.inl (bE.mk (IntKind.i64.wrap ((IntKind.i64.wrap (n_ - 30))+1)) s_.back s_.bold s_.under s_.dW)) else (bif (n_ == 39) then some (.inl (bE.mk 0 s_.back s_.bold s_.under s_.dW)) else (((bif (decide (n_>=40)) then some (decide (n_ < 48)) else some false):Option Bool).bind λe=>(bif e then some (.inl (bE.mk s_.iR (IntKind.i64.wrap ((IntKind.i64.wrap (n_ - 40))+1)) s_.bold s_.under s_.dW)) else (bif (n_ == 49) then some (.inl (bE.mk s_.iR 0 s_.bold s_.under s_.dW)) else some (.inl s_)))))))))))))):Option (bE ⊕ bE)).bind λ | .inl e90=>some e90 | .inr w=>some w)
def kD (s_:bE) (bJ:List Int):Option bE :=
 (bif ((bJ.length:Int) == 0) then some (bE.mk 0 0 false false false) else ((iter (σ:=bE×Int) (ρ:=bE) (λa=>(bif (decide (a.2 < (bJ.length:Int))) then ((((idx bJ a.2).bind λb=>(((bif (b == 38) then some true else some (b == 48)):Option Bool).bind λd=>(bif d then ((chk (dE (IntKind.i64.wrap (a.2+1)) (bJ.length:Int) bJ.length)).bind λ_=>((nB (cut bJ (IntKind.i64.wrap (a.2+1)) (bJ.length:Int))).bind λe=>some ((IntKind.i64.wrap (a.2+e)),a.1))) else ((idx bJ a.2).bind λf=>((kC a.1 f).bind λh=>some (a.2,h)))))):Option (Int×bE)).bind λc=>some (.inl (c.2,(IntKind.i64.wrap (c.1+1))))) else some (.inr a.1))) (s_,0)).bind λi=>some i))
structure eM where
 x:Int
 y:Int
 aM:bE
 deriving DecidableEq,Inhabited
structure aB where
 g:aY
 spot:eM
 saved:eM
 waiting:Bool
 top:Int
 aL:Int
 aZ:Bool
 title:ByteArray
 deriving DecidableEq,Inhabited
def mD (w:Int) (h_:Int):Option aB :=
 ((pf w h_).bind λr1=>((eD r1).bind λr9=>some (aB.mk r1 (eM.mk 0 0 (bE.mk 0 0 false false false)) (eM.mk 0 0 (bE.mk 0 0 false false false)) false 0 (IntKind.i64.wrap (r9.2 - 1)) true (ByteArray.mk #[]))))
def je (s_:aB):Option (aY×aB) :=
 ((ky s_.g).bind λr1=>some (r1.1,(aB.mk r1.2 s_.spot s_.saved s_.waiting s_.top s_.aL s_.aZ s_.title)))
def ka (s_:aB):Option ByteArray :=
 some s_.title
def jH (s_:aB):Option (Int×Int) :=
 some (s_.spot.x,s_.spot.y)
def jm (r_:aE):Option aE :=
 some (aE.mk r_.cells true)
def cV (s_:aB):Option aB :=
 ((fR s_.g s_.spot.y).bind λa=>((jm a).bind λb=>((fD s_.g s_.spot.y b).bind λc=>some (aB.mk c.2 s_.spot s_.saved s_.waiting s_.top s_.aL s_.aZ s_.title))))
def bY (s_:aB):Option Int :=
 ((kB s_.spot.aM).bind λr1=>some r1)
def iN (s_:aB) (n_:Int):Option ((List aE)×aB) :=
 ((bY s_).bind λb=>((gI s_.g s_.top s_.aL n_ b).bind λa=>(bif (decide (s_.top > 0)) then some (([]:List aE),(aB.mk a.2 s_.spot s_.saved s_.waiting s_.top s_.aL s_.aZ s_.title)) else some (a.1,(aB.mk a.2 s_.spot s_.saved s_.waiting s_.top s_.aL s_.aZ s_.title)))))
def eH (s_:aB):Option (Int×Int) :=
 ((eD s_.g).bind λr1=>some ((IntKind.i64.wrap (r1.1 - 1)),(IntKind.i64.wrap (r1.2 - 1))))
def ic (n_:Int) (lo:Int) (hi:Int):Option Int :=
 some (imax lo (dZ n_ hi))
def bH (s_:aB) (x_:Int) (y:Int):Option aB :=
 ((eH s_).bind λr1=>((ic x_ 0 r1.1).bind λr4=>((ic y 0 r1.2).bind λr7=>some (aB.mk s_.g (eM.mk r4 r7 s_.spot.aM) s_.saved false s_.top s_.aL s_.aZ s_.title))))
def dF (s_:aB):Option ((List aE)×aB) :=
 (bif (s_.spot.y == s_.aL) then ((iN (aB.mk s_.g s_.spot s_.saved false s_.top s_.aL s_.aZ s_.title) 1).bind λa=>some (a.1,a.2)) else ((bH (aB.mk s_.g s_.spot s_.saved false s_.top s_.aL s_.aZ s_.title) s_.spot.x (IntKind.i64.wrap (s_.spot.y+1))).bind λb=>some (([]:List aE),b)))
def jn (r_:aE) (x1:aB):Option aE :=
 ((bY x1).bind λa=>((mg r_ a).bind λb=>some b))
def cW (s_:aB):Option aB :=
 ((fR s_.g s_.spot.y).bind λa=>((jn a s_).bind λb=>((fD s_.g s_.spot.y b).bind λc=>some (aB.mk c.2 s_.spot s_.saved s_.waiting s_.top s_.aL s_.aZ s_.title))))
def jq (q:aE) (x1:aB) (x2:Int):Option aE :=
 ((bY x1).bind λa=>((mN q x1.spot.x x2 a).bind λb=>some b))
def dL (s_:aB) (f_1:Int):Option aB :=
 ((fR s_.g s_.spot.y).bind λa=>((jq a s_ f_1).bind λb=>((fD s_.g s_.spot.y b).bind λc=>some (aB.mk c.2 s_.spot s_.saved s_.waiting s_.top s_.aL s_.aZ s_.title))))
def iG (s_:aB) (r_:Int):Option ((List aE)×aB) :=
 ((o8 r_).bind λr3=>((eD s_.g).bind λr6=>(((bif (r3 == 0) then some true else some (decide (r3 > r6.1))):Option Bool).bind λi=>(bif i then some (([]:List aE),s_) else (((bif s_.waiting then some s_.aZ else some false):Option Bool).bind λj=>(((bif j then ((cV s_).bind λc=>((dF (aB.mk c.g (eM.mk 0 c.spot.y c.spot.aM) c.saved c.waiting c.top c.aL c.aZ c.title)).bind λf=>((chk (eP ([]:List aE).length f.1.length 32)).bind λ_=>some ((([]:List aE)++f.1),f.2.g,f.2)))) else some ([],s_.g,s_)):Option ((List aE)×aY×aB)).bind λa=>(((bif (decide ((IntKind.i64.wrap (a.2.2.spot.x+r3)) > r6.1)) then (bif a.2.2.aZ then ((cW (aB.mk a.2.1 a.2.2.spot a.2.2.saved a.2.2.waiting a.2.2.top a.2.2.aL a.2.2.aZ a.2.2.title)).bind λd=>((dF (aB.mk d.g (eM.mk 0 d.spot.y d.spot.aM) d.saved d.waiting d.top d.aL d.aZ d.title)).bind λh=>((chk (eP a.1.length h.1.length 32)).bind λ_=>some ((a.1++h.1),h.2.g,h.2)))) else some (a.1,a.2.1,(aB.mk a.2.1 (eM.mk (IntKind.i64.wrap (a.2.2.spot.x - 1)) a.2.2.spot.y a.2.2.spot.aM) a.2.2.saved a.2.2.waiting a.2.2.top a.2.2.aL a.2.2.aZ a.2.2.title))) else some (a.1,a.2.1,(aB.mk a.2.1 a.2.2.spot a.2.2.saved a.2.2.waiting a.2.2.top a.2.2.aL a.2.2.aZ a.2.2.title))):Option ((List aE)×aY×aB)).bind λe=>((dL (aB.mk e.2.1 e.2.2.spot e.2.2.saved e.2.2.waiting e.2.2.top e.2.2.aL e.2.2.aZ e.2.2.title) r_).bind λb=>some (e.1,(aB.mk b.g (eM.mk (dZ (IntKind.i64.wrap (b.spot.x+r3)) (IntKind.i64.wrap (r6.1 - 1))) b.spot.y b.spot.aM) b.saved ((IntKind.i64.wrap (b.spot.x+r3)) == r6.1) b.top b.aL b.aZ b.title))))))))))
def gS (s_:aB) (b:Int):Option ((List aE)×aB) :=
 (((bif (b == 8) then ((bH s_ (IntKind.i64.wrap (s_.spot.x - 1)) s_.spot.y).bind λa=>some (.inl (a,a.g))) else (bif (b == 9) then ((bH s_ (IntKind.i64.wrap ((IntKind.i64.wrap ((IntKind.i64.wrap (s_.spot.x.tdiv 8))+1))*8)) s_.spot.y).bind λc=>some (.inl (c,c.g))) else (((bif (b == 10) then some (b == 10) else (bif (b == 11) then some (b == 11) else some (b == 12))):Option Bool).bind λf=>(bif f then ((dF s_).bind λd=>(k9 (some (d.1,d.2)))) else (bif (b == 13) then ((bH s_ 0 s_.spot.y).bind λe=>some (.inl (e,e.g))) else some (.inl (s_,s_.g))))))):Option ((aB×aY) ⊕ ((List aE)×aB))).bind λ | .inl e86=>some (([]:List aE),(aB.mk e86.2 e86.1.spot e86.1.saved e86.1.waiting e86.1.top e86.1.aL e86.1.aZ e86.1.title)) | .inr w=>some w)
def jf (s_:aB):Option aB :=
 (bif (s_.spot.y == s_.top) then ((bY (aB.mk s_.g s_.spot s_.saved false s_.top s_.aL s_.aZ s_.title)).bind λa=>((eT s_.g s_.top s_.aL 1 a).bind λb=>some (aB.mk b.2 s_.spot s_.saved false s_.top s_.aL s_.aZ s_.title))) else ((bH (aB.mk s_.g s_.spot s_.saved false s_.top s_.aL s_.aZ s_.title) s_.spot.x (IntKind.i64.wrap (s_.spot.y - 1))).bind λc=>some c))
def il (s_:aB) (b:Int):Option ((List aE)×aB) :=
 (((((bif (b == 69) then some (.inl (aB.mk s_.g (eM.mk 0 s_.spot.y s_.spot.aM) s_.saved s_.waiting s_.top s_.aL s_.aZ s_.title)) else (bif (b == 68) then some (.inl s_) else (bif (b == 77) then (k9 ((jf s_).bind λd=>some (.inl d))) else (bif (b == 55) then (k9 (some (.inl (aB.mk s_.g s_.spot s_.spot s_.waiting s_.top s_.aL s_.aZ s_.title)))) else (bif (b == 56) then (k9 ((bH (aB.mk s_.g (eM.mk s_.spot.x s_.spot.y s_.saved.aM) s_.saved s_.waiting s_.top s_.aL s_.aZ s_.title) s_.saved.x s_.saved.y).bind λe=>some (.inl e))) else (bif (b == 99) then (k9 ((eD s_.g).bind λa=>((mD a.1 a.2).bind λf=>some (.inl f)))) else (k9 (some (.inl s_))))))))):Option (aB ⊕ (aB ⊕ ((List aE)×aB)))).bind λ | .inl e4671=>((dF (aB.mk s_.g e4671.spot e4671.saved e4671.waiting e4671.top e4671.aL e4671.aZ e4671.title)).bind λc=>(k9 (some (c.1,c.2)))) | .inr w=>some w):Option (aB ⊕ ((List aE)×aB))).bind λ | .inl e3164=>some (([]:List aE),e3164) | .inr w=>some w)
def eZ (a:bB) (i:Int) (d:Int):Option Int :=
 (((bif (decide (i>=(a.bJ.length:Int))) then some true else ((idx a.bJ i).bind λb=>some (decide (b<=0)))):Option Bool).bind λc=>(bif c then some d else ((idx a.bJ i).bind λe=>some (dZ e 9999))))
def gE (s_:aB) (n_:Int):Option aB :=
 ((eH s_).bind λr1=>(((bif (decide (s_.spot.y>=s_.top)) then some (decide (n_ < 0)) else some false):Option Bool).bind λe9=>(((bif e9 then some s_.top else some 0):Option Int).bind λa=>(((bif (decide (s_.spot.y<=s_.aL)) then some (decide (n_ > 0)) else some false):Option Bool).bind λb=>(((bif b then some s_.aL else some r1.2):Option Int).bind λc=>((ic (IntKind.i64.wrap (s_.spot.y+n_)) a c).bind λd=>((bH s_ s_.spot.x d).bind λe=>some e)))))))
def eN (s_:aB) (y:Int) (from_:Int) (to:Int):Option aB :=
 ((fR s_.g y).bind λa=>((bY s_).bind λb=>((kg a from_ to b).bind λc=>((fD s_.g y c).bind λd=>some (aB.mk d.2 s_.spot s_.saved s_.waiting s_.top s_.aL s_.aZ s_.title)))))
def gT (s_:aB) (n_:Int):Option aB :=
 ((eD s_.g).bind λr1=>(((bif (n_ == 0) then ((eN s_ s_.spot.y s_.spot.x r1.1).bind λb=>some (b.g,b)) else (bif (n_ == 1) then ((eN s_ s_.spot.y 0 (IntKind.i64.wrap (s_.spot.x+1))).bind λc=>some (c.g,c)) else (bif (n_ == 2) then ((eN s_ s_.spot.y 0 r1.1).bind λd=>some (d.g,d)) else some (s_.g,s_)))):Option (aY×aB)).bind λa=>(bif a.2.waiting then some (aB.mk a.1 a.2.spot a.2.saved (decide (n_ > 2)) a.2.top a.2.aL a.2.aZ a.2.title) else some (aB.mk a.1 a.2.spot a.2.saved false a.2.top a.2.aL a.2.aZ a.2.title))))
def jg (s_:aB) (n_:Int):Option aB :=
 ((eD s_.g).bind λr1=>((iter (σ:=aB×aY×Int) (ρ:=aY×aB) (λa=>(bif (decide (a.2.2 < r1.2)) then (((((bif (decide (a.2.2 < a.1.spot.y)) then (bif (n_ == 1) then some true else (bif (decide (a.2.2 > a.1.spot.y)) then (bif (n_ == 0) then some true else (bif (a.2.2 != a.1.spot.y) then some (n_ == 2) else some false)) else (bif (a.2.2 != a.1.spot.y) then some (n_ == 2) else some false))) else (bif (decide (a.2.2 > a.1.spot.y)) then (bif (n_ == 0) then some true else (bif (a.2.2 != a.1.spot.y) then some (n_ == 2) else some false)) else (bif (a.2.2 != a.1.spot.y) then some (n_ == 2) else some false))):Option Bool).bind λe=>(bif e then ((eN (aB.mk a.2.1 a.1.spot a.1.saved a.1.waiting a.1.top a.1.aL a.1.aZ a.1.title) a.2.2 0 r1.1).bind λd=>some (d.g,d)) else some (a.2.1,(aB.mk a.2.1 a.1.spot a.1.saved a.1.waiting a.1.top a.1.aL a.1.aZ a.1.title)))):Option (aY×aB)).bind λb=>some (.inl ((aB.mk b.1 b.2.spot b.2.saved b.2.waiting b.2.top b.2.aL b.2.aZ b.2.title),b.1,(IntKind.i64.wrap (a.2.2+1))))) else some (.inr (a.2.1,(aB.mk a.2.1 a.1.spot a.1.saved a.1.waiting a.1.top a.1.aL a.1.aZ a.1.title))))) (s_,s_.g,0)).bind λc=>((gT (aB.mk c.1 c.2.spot c.2.saved c.2.waiting c.2.top c.2.aL c.2.aZ c.2.title) n_).bind λf=>some f)))
def gU (r_:aE) (x1:Int) (x2:aB) (x3:Int):Option aE :=
 (bif (x1 == 64) then ((bY x2).bind λa=>((ld r_ x2.spot.x x3 a).bind λb=>some b)) else (bif (x1 == 80) then ((bY x2).bind λc=>((lf r_ x2.spot.x x3 c).bind λd=>some d)) else ((bY x2).bind λe=>((kg r_ x2.spot.x (IntKind.i64.wrap (x2.spot.x+x3)) e).bind λf=>some f))))
def eU (s_:aB) (f_0:Int) (f_2:Int):Option aB :=
 ((fR s_.g s_.spot.y).bind λa=>((gU a f_0 s_ f_2).bind λb=>((fD s_.g s_.spot.y b).bind λc=>some (aB.mk c.2 s_.spot s_.saved s_.waiting s_.top s_.aL s_.aZ s_.title))))
def iH (s_:aB) (b:Int) (n_:Int):Option aB :=
 ((eU s_ b n_).bind λr4=>some (aB.mk r4.g r4.spot r4.saved false r4.top r4.aL r4.aZ r4.title))
def iI (s_:aB) (b:Int) (n_:Int):Option aB :=
 (((bif (decide (s_.spot.y < s_.top)) then some true else some (decide (s_.spot.y > s_.aL))):Option Bool).bind λe6=>(bif e6 then some s_ else (((bif (b == 76) then ((bY s_).bind λa=>((eT s_.g s_.spot.y s_.aL n_ a).bind λc=>some c.2)) else ((bY s_).bind λd=>((gI s_.g s_.spot.y s_.aL n_ d).bind λe=>some e.2))):Option aY).bind λf=>((bH (aB.mk f s_.spot s_.saved s_.waiting s_.top s_.aL s_.aZ s_.title) 0 s_.spot.y).bind λh=>some h))))
def iq (s_:aB) (a:bB):Option aB :=
 ((eD s_.g).bind λr2=>((eZ a 0 1).bind λd=>((ic d 1 r2.2).bind λb=>((eZ a 1 r2.2).bind λe=>((ic e 1 r2.2).bind λc=>(bif (decide ((IntKind.i64.wrap (b - 1)) < (IntKind.i64.wrap (c - 1)))) then ((bH (aB.mk s_.g s_.spot s_.saved s_.waiting (IntKind.i64.wrap (b - 1)) (IntKind.i64.wrap (c - 1)) s_.aZ s_.title) 0 0).bind λf=>some f) else some s_))))))
def iJ (s_:aB) (a:bB):Option ((List aE)×aB) :=
 ((eZ a 0 1).bind λr2=>(((((bif (a.byte == 65) then some (a.byte == 65) else some (a.byte == 70)):Option Bool).bind λr=>(bif r then ((gE s_ (IntKind.i64.wrap (0 - r2))).bind λc=>some (.inl (c,c.g))) else (((bif (a.byte == 66) then some (a.byte == 66) else some (a.byte == 69)):Option Bool).bind λs=>(bif s then ((gE s_ r2).bind λd=>some (.inl (d,d.g))) else (bif (a.byte == 67) then ((bH s_ (IntKind.i64.wrap (s_.spot.x+r2)) s_.spot.y).bind λe=>some (.inl (e,e.g))) else (bif (a.byte == 68) then ((bH s_ (IntKind.i64.wrap (s_.spot.x - r2)) s_.spot.y).bind λf=>some (.inl (f,f.g))) else (bif (a.byte == 71) then ((bH s_ (IntKind.i64.wrap (r2 - 1)) s_.spot.y).bind λh=>some (.inl (h,h.g))) else (bif (a.byte == 100) then ((bH s_ s_.spot.x (IntKind.i64.wrap (r2 - 1))).bind λi=>some (.inl (i,i.g))) else (((bif (a.byte == 72) then some (a.byte == 72) else some (a.byte == 102)):Option Bool).bind λt=>(bif t then ((eZ a 1 1).bind λu=>((bH s_ (IntKind.i64.wrap (u - 1)) (IntKind.i64.wrap (r2 - 1))).bind λj=>some (.inl (j,j.g)))) else (bif (a.byte == 74) then ((eZ a 0 0).bind λv=>((jg s_ v).bind λk=>some (.inl (k,k.g)))) else (bif (a.byte == 75) then ((eZ a 0 0).bind λz=>((gT s_ z).bind λl=>some (.inl (l,l.g)))) else (((bif (a.byte == 64) then some (a.byte == 64) else (bif (a.byte == 80) then some (a.byte == 80) else some (a.byte == 88))):Option Bool).bind λA=>(bif A then ((iH s_ a.byte r2).bind λm=>some (.inl (m,m.g))) else (((bif (a.byte == 76) then some (a.byte == 76) else some (a.byte == 77)):Option Bool).bind λB=>(bif B then ((iI s_ a.byte r2).bind λn=>some (.inl (n,n.g))) else (bif (a.byte == 83) then ((iN (aB.mk s_.g s_.spot s_.saved false s_.top s_.aL s_.aZ s_.title) r2).bind λo=>(k9 (some (o.1,o.2)))) else (bif (a.byte == 84) then ((bY (aB.mk s_.g s_.spot s_.saved false s_.top s_.aL s_.aZ s_.title)).bind λC=>((eT s_.g s_.top s_.aL r2 C).bind λp=>some (.inl ((aB.mk p.2 s_.spot s_.saved false s_.top s_.aL s_.aZ s_.title),p.2)))) else (bif (a.byte == 109) then ((kD s_.spot.aM a.bJ).bind λD=>some (.inl ((aB.mk s_.g (eM.mk s_.spot.x s_.spot.y D) s_.saved s_.waiting s_.top s_.aL s_.aZ s_.title),s_.g))) else (bif (a.byte == 114) then ((iq s_ a).bind λq=>some (.inl (q,q.g))) else some (.inl (s_,s_.g)))))))))))))))))))))):Option ((aB×aY) ⊕ ((List aE)×aB))).bind λ | .inl e310=>(((bif (a.byte == 69) then some true else some (a.byte == 70)):Option Bool).bind λE=>(((bif E then some (aB.mk e310.2 (eM.mk 0 e310.1.spot.y e310.1.spot.aM) e310.1.saved e310.1.waiting e310.1.top e310.1.aL e310.1.aZ e310.1.title) else some (aB.mk e310.2 e310.1.spot e310.1.saved e310.1.waiting e310.1.top e310.1.aL e310.1.aZ e310.1.title)):Option aB).bind λb=>some (([]:List aE),(aB.mk e310.2 b.spot b.saved b.waiting b.top b.aL b.aZ b.title)))) | .inr w=>some w))
def gP (s_:aB) (a:bB):Option ((List aE)×aB) :=
 (((bif (a.kind == 1) then ((iG s_ a.rune).bind λb=>(k9 (some (b.1,b.2)))) else (bif (a.kind == 2) then ((gS s_ a.byte).bind λc=>(k9 (some (c.1,c.2)))) else (bif (a.kind == 3) then ((il s_ a.byte).bind λd=>(k9 (some (d.1,d.2)))) else (bif (a.kind == 5) then some (.inl (aB.mk s_.g s_.spot s_.saved s_.waiting s_.top s_.aL s_.aZ a.text)) else (bif (a.kind == 4) then (bif (!a.eJ) then ((iJ s_ a).bind λe=>(k9 (some (e.1,e.2)))) else ((((eZ a 0 0).bind λf=>(bif (f == 7) then (bif (a.byte == 104) then some true else some (a.byte == 108)) else some false)):Option Bool).bind λh=>(bif h then some (.inl (aB.mk s_.g s_.spot s_.saved s_.waiting s_.top s_.aL (a.byte == 104) s_.title)) else some (.inl s_)))) else some (.inl s_)))))):Option (aB ⊕ ((List aE)×aB))).bind λ | .inl e133=>some (([]:List aE),(aB.mk s_.g e133.spot e133.saved e133.waiting e133.top e133.aL e133.aZ e133.title)) | .inr w=>some w)
def ir (s_:aB) (w:Int) (h_:Int):Option ((List aE)×aB) :=
 ((ic h_ 1 1000).bind λb=>((jS s_.g w h_ (imax 0 (IntKind.i64.wrap (s_.spot.y - (IntKind.i64.wrap (b - 1)))))).bind λc=>((bH (aB.mk c.2 s_.spot s_.saved s_.waiting s_.top s_.aL s_.aZ s_.title) s_.spot.x (IntKind.i64.wrap (s_.spot.y - (imax 0 (IntKind.i64.wrap (s_.spot.y - (IntKind.i64.wrap (b - 1)))))))).bind λa=>((eH a).bind λd=>some (c.1,(aB.mk a.g a.spot a.saved a.waiting 0 d.2 a.aZ a.title))))))
structure aH where
 k:Int
 w:Int
 h:Int
 x:Int
 y:Int
 title:ByteArray
 rows:List aE
 len:Int
 chain:Int
 begun:List aJ
 deriving DecidableEq,Inhabited
def tI (k:Int) (s_:aB) (b:cF):Option (aH×aB) :=
 ((je (aB.mk s_.g s_.spot s_.saved s_.waiting s_.top s_.aL s_.aZ s_.title)).bind λr2=>((ka (aB.mk r2.2.g r2.2.spot r2.2.saved r2.2.waiting r2.2.top r2.2.aL r2.2.aZ r2.2.title)).bind λe=>((lg r2.1).bind λa=>((lP b).bind λf=>((lP b).bind λh=>((kv b h).bind λi=>((kx b).bind λj=>((eD a.2).bind λc=>((jH (aB.mk r2.2.g r2.2.spot r2.2.saved r2.2.waiting r2.2.top r2.2.aL r2.2.aZ r2.2.title)).bind λd=>some ((aH.mk k c.1 c.2 d.1 d.2 e a.1 f i j),(aB.mk r2.2.g r2.2.spot r2.2.saved r2.2.waiting r2.2.top r2.2.aL r2.2.aZ r2.2.title)))))))))))
def iu (s_:aH):Option Bool :=
 (((bif (s_.k == 0) then (bif (s_.w == 0) then (bif (s_.h == 0) then (bif (s_.x == 0) then (bif (s_.y == 0) then (bif (s_.title.toList == (ByteArray.mk #[]).toList) then (bif ((s_.rows.length:Int) == 0) then (bif (s_.len == 0) then (bif (s_.chain == 0) then some ((s_.begun.length:Int) == 0) else some false) else some false) else some false) else some false) else some false) else some false) else some false) else some false) else some false):Option Bool).bind λa=>some a)
def eV (n_:Int) (lo:Int) (hi:Int):Option Bool :=
 (((bif (decide (n_>=lo)) then some (decide (n_<=hi)) else some false):Option Bool).bind λe4=>some e4)
def kE (s_:aH):Option Bool :=
 ((((eV s_.k 1 1152921504606846976).bind λa=>(bif a then ((eV s_.w 1 1000).bind λb=>(bif b then ((eV s_.h 1 1000).bind λc=>(bif c then ((eV s_.x 0 (IntKind.i64.wrap (s_.w - 1))).bind λd=>(bif d then ((eV s_.y 0 (IntKind.i64.wrap (s_.h - 1))).bind λe=>(bif e then (bif ((s_.rows.length:Int) == s_.h) then (bif (decide ((s_.title.size:Int)<=200)) then ((eV s_.len 0 1152921504606846976).bind λf=>(bif f then ((eV s_.chain 0 281474976710656).bind λg=>(bif g then some (decide ((s_.begun.length:Int)<=1024)) else some false)) else some false)) else some false) else some false) else some false)) else some false)) else some false)) else some false)) else some false)):Option Bool).bind λi=>some i)
def mE (r_:Int) (aM:Int):Option Bool :=
 ((((eV (IntKind.i64.wrap r_) 0 1114111).bind λa=>(bif a then ((eV aM 0 647).bind λb=>some b) else some false)):Option Bool).bind λc=>some c)
def jB (g:aJ):Option Bool :=
 ((mE g.rune g.aM).bind λr2=>some (!r2))
def dO (s_:List aJ):Option Int :=
 ((iter (σ:=Int) (ρ:=Unit ⊕ Int) (λa=>(bif (decide (a < (s_.length:Int))) then ((idx s_ a).bind λb=>((jB b).bind λc=>(bif c then (lx (some a)) else some (.inl (IntKind.i64.wrap (a+1)))))) else some (.inr (.inl ())))) 0).bind λ | .inl e77=>some (-1) | .inr w=>some w)
def cN (s_:List aJ):Option Bool :=
 ((dO s_).bind λr1=>some (decide (r1>=0)))
def oz (c:aG):Option Bool :=
 ((((mE c.rune c.aM).bind λa=>(bif a then ((eV c.part 0 3).bind λb=>some b) else some false)):Option Bool).bind λd=>some d)
def jC (c:aG):Option Bool :=
 ((oz c).bind λr2=>some (!r2))
def dS (s_:List aG):Option Int :=
 ((iter (σ:=Int) (ρ:=Unit ⊕ Int) (λa=>(bif (decide (a < (s_.length:Int))) then ((idx s_ a).bind λb=>((jC b).bind λc=>(bif c then (lx (some a)) else some (.inl (IntKind.i64.wrap (a+1)))))) else some (.inr (.inl ())))) 0).bind λ | .inl e77=>some (-1) | .inr w=>some w)
def cA (s_:List aG):Option Bool :=
 ((dS s_).bind λr1=>some (decide (r1>=0)))
def eW (s_:aH):Option Int :=
 ((iu s_).bind λr2=>(bif r2 then some 0 else ((((kE s_).bind λc=>(bif (!c) then some true else ((cN s_.begun).bind λd=>some d))):Option Bool).bind λe=>(bif e then some 1 else ((iter (σ:=Int) (ρ:=Unit ⊕ Int) (λa=>(bif (decide (a < (s_.rows.length:Int))) then ((idx s_.rows a).bind λb=>(((bif ((b.cells.length:Int) != s_.w) then some true else ((cA b.cells).bind λf=>some f)):Option Bool).bind λg=>(bif g then (lx (some 1)) else some (.inl (IntKind.i64.wrap (a+1)))))) else some (.inr (.inl ())))) 0).bind λ | .inl e212=>some 0 | .inr w=>some w)))))
def ry (is:Bool):Option Int :=
 (bif is then some 1 else some 0)
def pS (l:List aG):Option (List aG) :=
 some l
def oq {σ:Type} (Y:σ->(Int×aG)->Option (σ×Bool)) (y0:σ) (x1:List aG):Option (σ×(List aG)) :=
 ((iter (σ:=(List aG)×σ) (ρ:=((List aG)×σ) ⊕ (σ×(List aG))) (λa=>(bif (decide ((a.1.length:Int) > 0)) then ((iter (σ:=Int) (ρ:=Int) (λb=>(((bif (decide (b < (a.1.length:Int))) then ((idx a.1 b).bind λc=>((idx a.1 0).bind λd=>some ((c.rune == d.rune) && ((c.aM == d.aM) && ((c.part == d.part) && true))))) else some false):Option Bool).bind λf=>(bif f then some (.inl (IntKind.i64.wrap (b+1))) else some (.inr b)))) 1).bind λe=>((idx a.1 0).bind λg=>((Y a.2 (e,g)).bind λz1399=>(bif (!z1399.2) then (lx (some (z1399.1,a.1))) else ((chk (dE e (a.1.length:Int) a.1.length)).bind λ_=>some (.inl ((cut a.1 e (a.1.length:Int)),z1399.1))))))) else some (.inr (.inl (a.1,a.2))))) (x1,y0)).bind λ | .inl e1058=>some (e1058.2,e1058.1) | .inr w=>some w)
def jT (r_:aE):Option ByteArray :=
 ((ry r_.wrapped).bind λr3=>((dB (cG.mk ([]:List Int)) [r3]).bind λb=>((pS r_.cells).bind λc=>((oq (λd a=>((dB d [a.1,(IntKind.i64.wrap a.2.rune),a.2.aM,a.2.part]).bind λe=>some (e,true))) (b:cG) c).bind λf=>((iB f.1).bind λg=>some g)))))
def jR (s_:aH):Option ByteArray :=
 ((((iu s_).bind λb=>(bif b then some true else ((eW s_).bind λc=>some (c != 0)))):Option Bool).bind λd=>(bif d then some (ByteArray.mk #[]) else ((dB (cG.mk ([]:List Int)) [s_.k,s_.w,s_.h,s_.x,s_.y]).bind λe=>((la e [s_.title]).bind λf=>((dB f [s_.len,s_.chain]).bind λg=>((mh s_.begun).bind λi=>((ib g [i]).bind λj=>((iter (σ:=cG×Int) (ρ:=cG) (λa=>(bif (decide (a.2 < (s_.rows.length:Int))) then ((idx s_.rows a.2).bind λl=>((jT l).bind λm=>((ib a.1 [m]).bind λn=>some (.inl (n,(IntKind.i64.wrap (a.2+1))))))) else some (.inr a.1))) (j,0)).bind λo=>((iB o).bind λp=>some p)))))))))
def xM (in_:aT):Option (Int×aT) :=
 ((bV in_).bind λr1=>(bif (decide (r1.1 > 1000)) then ((bT r1.2 1).bind λr9=>some (0,r9)) else some (r1.1,r1.2)))
def od (in_:aT) (left:Int):Option (Int×aG×Bool×aT) :=
 ((bV in_).bind λr2=>(((bif (r2.1 == 0) then some true else some (decide (r2.1 > left))):Option Bool).bind λe8=>(((bif e8 then ((bT r2.2 1).bind λf=>some f) else some r2.2):Option aT).bind λc=>((iter (σ:=m5×aT×Int) (ρ:=m5×aT) (λa=>(bif (decide (a.2.2 < 3)) then ((((idx [1114111,647,3] a.2.2).bind λg=>((bV a.2.1).bind λb=>((chk (Iv a.2.2 3)).bind λ_=>((chk (Iv a.2.2 3)).bind λ_=>((idx [(sel a.2.2 0 b.1 a.1.e0),(sel a.2.2 1 b.1 a.1.e1),(sel a.2.2 2 b.1 a.1.e2)] a.2.2).bind λh=>(bif (decide (h > g)) then ((bT b.2 1).bind λi=>some ((m5.mk (sel a.2.2 0 b.1 a.1.e0) (sel a.2.2 1 b.1 a.1.e1) (sel a.2.2 2 b.1 a.1.e2)),i)) else some ((m5.mk (sel a.2.2 0 b.1 a.1.e0) (sel a.2.2 1 b.1 a.1.e1) (sel a.2.2 2 b.1 a.1.e2)),b.2))))))):Option (m5×aT)).bind λe=>some (.inl (e.1,e.2,(IntKind.i64.wrap (a.2.2+1))))) else some (.inr (a.1,a.2.1)))) ((m5.mk 0 0 0),c,0)).bind λd=>((dR d.2).bind λj=>(bif (j != 0) then some (0,(aG.mk 0 0 0),false,d.2) else some (r2.1,(aG.mk (IntKind.i32.wrap d.1.e0) d.1.e1 d.1.e2),true,d.2)))))))
def lj (in_:aT) (w:Int):Option (aE×aT) :=
 ((bV in_).bind λr2=>(((bif (decide (r2.1 > 1)) then ((bT r2.2 1).bind λf=>some f) else some r2.2):Option aT).bind λg=>((iter (σ:=aT×(List aG)) (ρ:=(List aG)×aT) (λa=>(((bif (decide ((a.2.length:Int) < w)) then ((dR a.1).bind λh=>some (h == 0)) else some false):Option Bool).bind λi=>(bif i then ((od a.1 (IntKind.i64.wrap (w - (a.2.length:Int)))).bind λb=>(bif (!b.2.2.1) then some (.inl (b.2.2.2,a.2)) else (((bif (decide ((a.2.length:Int) > 0)) then ((idx a.2 (IntKind.i64.wrap ((a.2.length:Int) - 1))).bind λd=>some ((d.rune == b.2.1.rune) && ((d.aM == b.2.1.aM) && ((d.part == b.2.1.part) && true)))) else some false):Option Bool).bind λj=>(bif j then ((bT b.2.2.2 1).bind λk=>some (.inl (k,a.2))) else ((eK [b.2.1] b.1).bind λe=>((chk (eP a.2.length e.length 24)).bind λ_=>some (.inl (b.2.2.2,(a.2++e))))))))) else some (.inr (a.2,a.1))))) (g,[])).bind λc=>((dR c.2).bind λl=>(bif (l != 0) then some ((aE.mk ([]:List aG) false),c.2) else some ((aE.mk c.1 (r2.1 == 1)),c.2))))))
def iO (s_:aH) (t_:aH):Option Bool :=
 (((bif (s_.k == t_.k) then (bif (s_.w == t_.w) then (bif (s_.h == t_.h) then (bif (s_.x == t_.x) then (bif (s_.y == t_.y) then (bif (s_.title.toList == t_.title.toList) then (bif (s_.len == t_.len) then (bif (s_.chain == t_.chain) then ((dK s_.rows t_.rows).bind λa=>(bif a then ((gH s_.begun t_.begun).bind λb=>some b) else some false)) else some false) else some false) else some false) else some false) else some false) else some false) else some false) else some false):Option Bool).bind λc=>some c)
def iw (s_:aH):Option aH :=
 ((iter (σ:=(List aE)×Int) (ρ:=(List aE)) (λa=>(bif (decide (a.2 < (s_.rows.length:Int))) then ((idx s_.rows a.2).bind λb=>((eS b.cells).bind λc=>((chk (eP a.1.length [(aE.mk c b.wrapped)].length 32)).bind λ_=>some (.inl ((a.1++[(aE.mk c b.wrapped)]),(IntKind.i64.wrap (a.2+1))))))) else some (.inr a.1))) ([],0)).bind λd=>((cB s_.begun).bind λe=>some (aH.mk s_.k s_.w s_.h s_.x s_.y s_.title d s_.len s_.chain e)))
def kh (s_:aH):Option Int :=
 ((jR s_).bind λr2=>((qz [r2]).bind λr7=>some (IntKind.i64.wrap r7)))
def gJ (s_:List aH):Option (List aH) :=
 ((chk (eP ([]:List aH).length s_.length 120)).bind λ_=>some (([]:List aH)++s_))
structure bP where
 sum:Int
 to:aH
 rows:Mp aE
 deriving DecidableEq,Inhabited
def kF (s_:aH):Option Bool :=
 ((jR s_).bind λr2=>some (!(r2.toList == (ByteArray.mk #[]).toList)))
def ki (a:aH) (b:aH):Option (aH×aH) :=
 some (b,a)
def iT (s_:aH) (y:Int):Option (aE×Bool) :=
 (((bif (decide (y < 0)) then some true else some (decide (y>=(s_.rows.length:Int)))):Option Bool).bind λe6=>(bif e6 then some ((aE.mk ([]:List aG) false),false) else ((idx s_.rows y).bind λa=>some (a,true))))
def iy {σ:Type} (Y:σ->(Int×aE)->Option (σ×Bool)) (y0:σ) (x1:aH) (x2:aH):Option σ :=
 ((iter (σ:=Int×σ) (ρ:=σ ⊕ σ) (λa=>(bif (decide (a.1 < (x1.rows.length:Int))) then ((((idx x1.rows a.1).bind λb=>((iT x2 a.1).bind λc=>(((bif c.2 then ((ja c.1 b).bind λd=>some d) else some false):Option Bool).bind λe=>(bif e then some (.inl a.2) else ((Y a.2 (a.1,b)).bind λz546=>(bif (!z546.2) then (k9 (lx (some z546.1))) else some (.inl z546.1))))))):Option (σ ⊕ ((Int×σ) ⊕ (σ ⊕ σ)))).bind λ | .inl e506=>some (.inl ((IntKind.i64.wrap (a.1+1)),e506)) | .inr w=>some w) else some (.inr (.inl a.2)))) (0,y0)).bind λ | .inl e412=>some e412 | .inr w=>some w)
def lQ (a:aH) (b:aH):Option (List Int) :=
 ((ki a b).bind λr4=>((iy (λc d=>((chk (eP c.length [d.1].length 8)).bind λ_=>some ((c++[d.1]),true))) ([]:(List Int)) r4.1 r4.2).bind λe=>some e))
def nC (a:aH) (b:aH):Option ByteArray :=
 ((((eW a).bind λf=>(bif (f != 0) then some true else ((kF b).bind λc=>some (!c)))):Option Bool).bind λg=>(bif g then some (ByteArray.mk #[]) else ((kh a).bind λi=>((dB (cG.mk ([]:List Int)) [i,b.k,b.w,b.h,b.x,b.y]).bind λj=>((la j [b.title]).bind λl=>((dB l [b.len,b.chain]).bind λm=>((mh b.begun).bind λn=>((ib m [n]).bind λo=>((lQ a b).bind λp=>((dB o [(p.length:Int)]).bind λq=>((ki a b).bind λd=>((iy (λr e=>((dB r [e.1]).bind λs=>((jT e.2).bind λt=>((ib s [t]).bind λu=>some (u,true))))) (q:cG) d.1 d.2).bind λv=>((iB v).bind λz=>some z)))))))))))))
def lF (in_:aT):Option (Int×aT) :=
 ((bV in_).bind λr1=>(bif (decide (r1.1 > 1000)) then ((bT r1.2 1).bind λr9=>some (0,r9)) else some (r1.1,r1.2)))
def nD (s_:ByteArray):Option (bP×Int) :=
 ((vu s_).bind λr2=>((bV r2).bind λr6=>((bV r6.2).bind λd=>((lF d.2).bind λe=>((lF e.2).bind λf=>((bV f.2).bind λg=>((bV g.2).bind λi=>((lW i.2).bind λj=>((bV j.2).bind λl=>((bV l.2).bind λm=>((nk m.2).bind λn=>((bV n.2).bind λo=>((iter (σ:=bP×aT×Int×Int) (ρ:=aT×bP) (λa=>(((bif (decide (a.2.2.2 > 0)) then ((dR a.2.1).bind λq=>some (q == 0)) else some false):Option Bool).bind λr=>(bif r then ((bV a.2.1).bind λc=>(((bif (decide (c.1<=a.2.2.1)) then some true else some (decide (c.1>=a.1.to.h))):Option Bool).bind λs=>(((bif s then ((bT c.2 1).bind λt=>some t) else some c.2):Option aT).bind λu=>((lj u a.1.to.w).bind λp=>((chk a.1.rows.isSome).bind λ_=>some (.inl ((bP.mk a.1.sum (aH.mk a.1.to.k a.1.to.w a.1.to.h a.1.to.x a.1.to.y a.1.to.title ([]:List aE) a.1.to.len a.1.to.chain a.1.to.begun) (Lm a.1.rows c.1 p.1)),p.2,c.1,(IntKind.i64.wrap (a.2.2.2 - 1))))))))) else some (.inr (a.2.1,(bP.mk a.1.sum (aH.mk a.1.to.k a.1.to.w a.1.to.h a.1.to.x a.1.to.y a.1.to.title ([]:List aE) a.1.to.len a.1.to.chain a.1.to.begun) a.1.rows)))))) ((bP.mk r6.1 (aH.mk d.1 e.1 f.1 g.1 i.1 j.1 ([]:List aE) l.1 m.1 n.1) (some []:Mp aE)),o.2,(-1),o.1)).bind λb=>((nz b.1).bind λv=>some ((bP.mk b.2.sum (aH.mk b.2.to.k b.2.to.w b.2.to.h b.2.to.x b.2.to.y b.2.to.title ([]:List aE) b.2.to.len b.2.to.chain b.2.to.begun) b.2.rows),v)))))))))))))))
def fV (p:bP) (a:aH):Option (Bool×bP) :=
 ((iter (σ:=bP×Int) (ρ:=bP ⊕ (Bool×bP)) (λb=>(bif (decide (b.2 < p.to.h)) then ((iT a b.2).bind λc=>(((((bif (rn b.1.rows b.2) then (bif c.2 then ((ja c.1 (mgd b.1.rows b.2 (aE.mk ([]:List aG) false))).bind λe=>some e) else some false) else some false):Option Bool).bind λd=>(((bif d then some d else (bif (!(rn b.1.rows b.2)) then some (!c.2) else some false)):Option Bool).bind λf=>(bif f then (k9 (lx (some (false,(bP.mk b.1.sum (aH.mk b.1.to.k b.1.to.w b.1.to.h b.1.to.x b.1.to.y b.1.to.title b.1.to.rows b.1.to.len b.1.to.chain b.1.to.begun) b.1.rows))))) else (bif (!(rn b.1.rows b.2)) then some (.inl c.1) else some (.inl (mgd b.1.rows b.2 (aE.mk ([]:List aG) false))))))):Option (aE ⊕ ((bP×Int) ⊕ (bP ⊕ (Bool×bP))))).bind λ | .inl e1033=>((chk (eP b.1.to.rows.length [e1033].length 32)).bind λ_=>some (.inl ((bP.mk b.1.sum (aH.mk b.1.to.k b.1.to.w b.1.to.h b.1.to.x b.1.to.y b.1.to.title (b.1.to.rows++[e1033]) b.1.to.len b.1.to.chain b.1.to.begun) b.1.rows),(IntKind.i64.wrap (b.2+1))))) | .inr w=>some w)) else some (.inr (.inl (bP.mk b.1.sum (aH.mk b.1.to.k b.1.to.w b.1.to.h b.1.to.x b.1.to.y b.1.to.title b.1.to.rows b.1.to.len b.1.to.chain b.1.to.begun) b.1.rows))))) (p,0)).bind λ | .inl e816=>((kF (aH.mk e816.to.k e816.to.w e816.to.h e816.to.x e816.to.y e816.to.title e816.to.rows e816.to.len e816.to.chain e816.to.begun)).bind λg=>some (g,(bP.mk e816.sum (aH.mk e816.to.k e816.to.w e816.to.h e816.to.x e816.to.y e816.to.title e816.to.rows e816.to.len e816.to.chain e816.to.begun) e816.rows))) | .inr w=>some w)
def lY (a:aH) (s_:ByteArray):Option (aH×Int) :=
 ((eW a).bind λr3=>(bif (r3 != 0) then some ((aH.mk 0 0 0 0 0 (ByteArray.mk #[]) ([]:List aE) 0 0 ([]:List aJ)),1) else ((nD s_).bind λb=>(bif (b.2 != 0) then some ((aH.mk 0 0 0 0 0 (ByteArray.mk #[]) ([]:List aE) 0 0 ([]:List aJ)),b.2) else ((kh a).bind λd=>(bif (b.1.sum != d) then some ((aH.mk 0 0 0 0 0 (ByteArray.mk #[]) ([]:List aE) 0 0 ([]:List aJ)),7) else ((fV b.1 a).bind λc=>(bif (!c.1) then some ((aH.mk 0 0 0 0 0 (ByteArray.mk #[]) ([]:List aE) 0 0 ([]:List aJ)),1) else ((iw c.2.to).bind λe=>some (e,0))))))))))
structure dV where
 Nm:Int
 kind:Int
 bJ:List Int
 data:ByteArray
 deriving DecidableEq,Inhabited
def qi (n_:Int) (lo:Int) (hi:Int):Option Bool :=
 (((bif (decide (n_>=lo)) then some (decide (n_<=hi)) else some false):Option Bool).bind λe4=>some e4)
def fE (g:dV) (i:Int):Option Int :=
 ((qi i 0 (IntKind.i64.wrap ((g.bJ.length:Int) - 1))).bind λr2=>(bif (!r2) then some 0 else ((idx g.bJ i).bind λx7=>some x7)))
structure bC where
 book:cF
 parser:aI
 aW:aB
 k:Int
 deriving DecidableEq,Inhabited
structure kM where
 kind:Int
 text:ByteArray
 w:Int
 h:Int
 deriving DecidableEq,Inhabited
def nq (w:Int) (h_:Int):Option bC :=
 (Option.bind rq λr1=>((mD w h_).bind λa=>some (bC.mk r1 (aI.mk 0 (fI.mk false false false false 0 ([]:List Int)) (ByteArray.mk #[]) (bR.mk 0 0 0) ([]:List bB)) (aB.mk a.g a.spot a.saved a.waiting a.top a.aL a.aZ a.title) 0)))
def fB (m_:bC):Option (aH×bC) :=
 ((tI (IntKind.i64.wrap (m_.k+1)) (aB.mk m_.aW.g m_.aW.spot m_.aW.saved m_.aW.waiting m_.aW.top m_.aW.aL m_.aW.aZ m_.aW.title) m_.book).bind λa=>some (a.1,(bC.mk m_.book m_.parser (aB.mk a.2.g a.2.spot a.2.saved a.2.waiting a.2.top a.2.aL a.2.aZ a.2.title) m_.k)))
def jD (e:kM):Option Int :=
 (((bif (e.kind == 0) then (bif (decide ((e.text.size:Int) > 1048576)) then (k9 (some 3)) else some (.inl ())) else (bif (e.kind == 1) then (((bif (decide (e.w < 1)) then some true else (bif (decide (e.w > 1000)) then some true else (bif (decide (e.h < 1)) then some true else some (decide (e.h > 1000))))):Option Bool).bind λa=>(bif a then (k9 (some 6)) else some (.inl ()))) else (k9 (some 5)))):Option (Unit ⊕ Int)).bind λ | .inl e36=>some 0 | .inr w=>some w)
def l9 (m_:bC) (text:ByteArray):Option ByteArray :=
 some text
def jE {σ:Type} (Y:σ->(List aE)->Option (σ×Bool)) (y0:σ) (x1:bC) (x2:ByteArray):Option (σ×bC) :=
 ((kz x1.parser x2).bind λb=>((iter (σ:=aB×Int×σ) (ρ:=(aB×σ) ⊕ (σ×bC)) (λa=>(bif (decide (a.2.1 < (b.1.length:Int))) then ((idx b.1 a.2.1).bind λd=>((gP a.1 d).bind λc=>((Y a.2.2 c.1).bind λz528=>(bif (!z528.2) then (lx (some (z528.1,(bC.mk x1.book b.2 c.2 x1.k)))) else some (.inl (c.2,(IntKind.i64.wrap (a.2.1+1)),z528.1)))))) else some (.inr (.inl (a.1,a.2.2))))) (x1.aW,0,y0)).bind λ | .inl e413=>some (e413.2,(bC.mk x1.book b.2 e413.1 x1.k)) | .inr w=>some w))
def eE (m_:bC) (e:kM):Option (Int×bC) :=
 ((jD e).bind λr3=>(bif (r3 != 0) then some (r3,m_) else (((bif (e.kind == 1) then ((ir m_.aW e.w e.h).bind λc=>((jv m_.book c.1).bind λd=>some (bC.mk d.2 m_.parser c.2 m_.k))) else ((l9 m_ e.text).bind λf=>((jE (λg i=>((jv g i).bind λj=>some (j.2,true))) (m_.book:cF) m_ f).bind λa=>some (bC.mk a.1 a.2.parser a.2.aW a.2.k)))):Option bC).bind λb=>some (0,(bC.mk b.book b.parser b.aW (IntKind.i64.wrap (b.k+1)))))))
structure cO where
 key:Int
 count:Int
 parts:Mp ByteArray
 bytes:Int
 deriving DecidableEq,Inhabited
def mO (s_:ByteArray) (size:Int):Option (List ByteArray) :=
 ((iter (σ:=ByteArray×(List ByteArray)) (ρ:=ByteArray×(List ByteArray)) (λa=>(bif (decide ((a.1.size:Int) > (imax 1 (dZ size 8000)))) then ((chk (dE 0 (imax 1 (dZ size 8000)) a.1.size)).bind λ_=>((chk (eP a.2.length [(iE a.1 0 (imax 1 (dZ size 8000)))].length 16)).bind λ_=>((chk (dE (imax 1 (dZ size 8000)) (a.1.size:Int) a.1.size)).bind λ_=>some (.inl ((iE a.1 (imax 1 (dZ size 8000)) (a.1.size:Int)),(a.2++[(iE a.1 0 (imax 1 (dZ size 8000)))])))))) else some (.inr (a.1,a.2)))) (s_,[])).bind λb=>((chk (eP b.2.length [b.1].length 16)).bind λ_=>some (b.2++[b.1])))
def lk (s_:cO) (key:Int) (index:Int) (count:Int) (data:ByteArray):Option (Int×cO) :=
 (((((bif (decide (count < 1)) then some true else (bif (decide (count > 4096)) then some true else (bif (decide (index < 0)) then some true else (bif (decide (index>=count)) then some true else some (decide (key < 1)))))):Option Bool).bind λa=>(bif a then (k9 (some (6,s_))) else (bif (decide (key < s_.key)) then (k9 (some (8,s_))) else (bif (decide (key > s_.key)) then some (.inl (cO.mk key count (some []:Mp ByteArray) 0)) else (bif (count != s_.count) then (k9 (some (1,s_))) else some (.inl s_)))))):Option (cO ⊕ (Int×cO))).bind λ | .inl e48=>(((bif (!(rn e48.parts index)) then ((chk e48.parts.isSome).bind λ_=>some (cO.mk e48.key e48.count (Lm e48.parts index data) (IntKind.i64.wrap (e48.bytes+(data.size:Int))))) else some e48):Option cO).bind λb=>some (0,b)) | .inr w=>some w)
def jr {σ:Type} (s_:cO) (Y:σ->(Int×Bool)->Option (σ×Bool)) (y0:σ):Option σ :=
 ((iter (σ:=Int×σ) (ρ:=σ ⊕ σ) (λa=>(bif (decide (a.1 < s_.count)) then ((Y a.2 (a.1,(rn s_.parts a.1))).bind λz64=>(bif (!z64.2) then (lx (some z64.1)) else some (.inl ((IntKind.i64.wrap (a.1+1)),z64.1)))) else some (.inr (.inl a.2)))) (0,y0)).bind λ | .inl e49=>some e49 | .inr w=>some w)
def jU (s_:cO):Option Int :=
 some s_.count
def jV (s_:cO) (there:Bool):Option (List Int) :=
 ((jr s_ (λs32 x3=>(bif (x3.2 == there) then ((chk (eP s32.length [x3.1].length 8)).bind λ_=>some ((s32++[x3.1]),true)) else some (s32,true))) ([]:(List Int))).bind λa=>some a)
def iz (s_:cO):Option (List Int) :=
 ((jV s_ true).bind λr1=>some r1)
def oe (s_:cO):Option Int :=
 some s_.key
def jW (s_:cO):Option (ByteArray×Bool) :=
 (((bif (s_.key == 0) then some true else some (decide (((Lj s_.parts:Nat):Int) < s_.count))):Option Bool).bind λe7=>(bif e7 then some ((ByteArray.mk #[]),false) else ((jr s_ (λa d=>((eY (cX.mk a.addr a.buf) (mgd s_.parts d.1 (ByteArray.mk #[]))).bind λb=>some ((cX.mk b.addr b.buf),true))) ((cX.mk false ([]:List Int)):cX)).bind λc=>((kK (cX.mk c.addr c.buf)).bind λe=>some (e,true)))))
def kW (s_:cO):Option cO :=
 some (cO.mk 0 0 none 0)
structure cE where
 part:Int
 every:Int
 most:Int
 deriving DecidableEq,Inhabited
structure bA where
 id:Int
 key:Int
 base:Int
 parts:List ByteArray
 there:List Bool
 due:Int
 deriving DecidableEq,Inhabited
structure aK where
 config:cE
 current:aH
 aN:aH
 kept:List aH
 message:bA
 next:Int
 deriving DecidableEq,Inhabited
def mP (n_:Int) (lo:Int) (hi:Int):Option Int :=
 some (imax lo (dZ n_ hi))
def mi (c:cE):Option cE :=
 ((mP c.part 1 8000).bind λa=>((mP c.every 1 1048576).bind λb=>((mP c.most 1 64).bind λd=>some (cE.mk a b d))))
def nE (c:cE):Option aK :=
 ((mi c).bind λr2=>some (aK.mk r2 (aH.mk 0 0 0 0 0 (ByteArray.mk #[]) ([]:List aE) 0 0 ([]:List aJ)) (aH.mk 0 0 0 0 0 (ByteArray.mk #[]) ([]:List aE) 0 0 ([]:List aJ)) ([]:List aH) (bA.mk 0 0 0 ([]:List ByteArray) ([]:List Bool) 0) 1))
def fN (s_:aK) (x_:aH):Option (Bool×aK) :=
 ((((eW x_).bind λa=>(bif (a != 0) then some true else some (decide (x_.k<=s_.current.k)))):Option Bool).bind λb=>(bif b then some (false,s_) else ((iw x_).bind λc=>some (true,(aK.mk s_.config c s_.aN s_.kept s_.message s_.next)))))
def fO (x_:aH) (x1:aK):Option Bool :=
 some (x_.k == x1.current.k)
def dD (s_:List aH) (f_0:aK):Option Int :=
 ((iter (σ:=Int) (ρ:=Unit ⊕ Int) (λa=>(bif (decide (a < (s_.length:Int))) then ((idx s_ a).bind λb=>((fO b f_0).bind λc=>(bif c then (lx (some a)) else some (.inl (IntKind.i64.wrap (a+1)))))) else some (.inr (.inl ())))) 0).bind λ | .inl e113=>some (-1) | .inr w=>some w)
def cD (s_:List aH) (f_0:aK):Option Bool :=
 ((dD s_ f_0).bind λr1=>some (decide (r1>=0)))
def gF (s_:aK) (now:Int):Option aK :=
 ((nC s_.aN s_.current).bind λc=>((mO c s_.config.part).bind λb=>((chk (Ea (b.length:Int) 1)).bind λ_=>((cD s_.kept (aK.mk s_.config s_.current s_.aN s_.kept (bA.mk s_.next s_.current.k s_.aN.k b (List.replicate (b.length:Int).toNat false) now) (IntKind.i64.wrap (s_.next+1)))).bind λd=>(((bif (!d) then ((chk (eP s_.kept.length [s_.current].length 120)).bind λ_=>some (aK.mk s_.config s_.current s_.aN (s_.kept++[s_.current]) (bA.mk s_.next s_.current.k s_.aN.k b (List.replicate (b.length:Int).toNat false) now) (IntKind.i64.wrap (s_.next+1)))) else some (aK.mk s_.config s_.current s_.aN s_.kept (bA.mk s_.next s_.current.k s_.aN.k b (List.replicate (b.length:Int).toNat false) now) (IntKind.i64.wrap (s_.next+1)))):Option aK).bind λa=>((chk (dE (imax 0 (IntKind.i64.wrap ((a.kept.length:Int) - a.config.most))) (a.kept.length:Int) a.kept.length)).bind λ_=>some (aK.mk (cE.mk a.config.part a.config.every a.config.most) (aH.mk a.current.k a.current.w a.current.h a.current.x a.current.y a.current.title a.current.rows a.current.len a.current.chain a.current.begun) (aH.mk a.aN.k a.aN.w a.aN.h a.aN.x a.aN.y a.aN.title a.aN.rows a.aN.len a.aN.chain a.aN.begun) (cut a.kept (imax 0 (IntKind.i64.wrap ((a.kept.length:Int) - a.config.most))) (a.kept.length:Int)) (bA.mk a.message.id a.message.key a.message.base a.message.parts a.message.there a.message.due) a.next)))))))
def iA {σ:Type} (m_:bA) (Y:σ->(Int×ByteArray)->Option (σ×Bool)) (y0:σ):Option σ :=
 ((iter (σ:=Int×σ) (ρ:=σ ⊕ σ) (λa=>(bif (decide (a.1 < (m_.parts.length:Int))) then ((idx m_.parts a.1).bind λc=>((((idx m_.there a.1).bind λd=>(bif (!d) then ((Y a.2 (a.1,c)).bind λz377=>some ((!z377.2),z377.1)) else some (false,a.2))):Option (Bool×σ)).bind λb=>(bif b.1 then (lx (some b.2)) else some (.inl ((IntKind.i64.wrap (a.1+1)),b.2))))) else some (.inr (.inl a.2)))) (0,y0)).bind λ | .inl e284=>some e284 | .inr w=>some w)
def eI (s_:aK) (now:Int):Option ((List dV)×aK) :=
 (bif (s_.current.k == s_.aN.k) then some (([]:List dV),(aK.mk s_.config s_.current s_.aN s_.kept (bA.mk 0 0 0 ([]:List ByteArray) ([]:List Bool) 0) s_.next)) else (((bif (s_.message.id == 0) then some true else (bif (s_.message.key != s_.current.k) then some true else some (s_.message.base != s_.aN.k))):Option Bool).bind λd=>(((bif d then ((gF s_ now).bind λe=>some e) else some s_):Option aK).bind λa=>(bif (decide (now < a.message.due)) then some (([]:List dV),(aK.mk (cE.mk a.config.part a.config.every a.config.most) (aH.mk a.current.k a.current.w a.current.h a.current.x a.current.y a.current.title a.current.rows a.current.len a.current.chain a.current.begun) (aH.mk a.aN.k a.aN.w a.aN.h a.aN.x a.aN.y a.aN.title a.aN.rows a.aN.len a.aN.chain a.aN.begun) a.kept (bA.mk a.message.id a.message.key a.message.base a.message.parts a.message.there a.message.due) a.next)) else ((iA (bA.mk a.message.id a.message.key a.message.base a.message.parts a.message.there (IntKind.i64.wrap (now+a.config.every))) (λc b=>((chk (eP c.length ([(dV.mk 1 1 [a.message.id,a.message.key,a.message.base,b.1,(a.message.parts.length:Int)] b.2)]).length 56)).bind λ_=>some ((c++[(dV.mk 1 1 [a.message.id,a.message.key,a.message.base,b.1,(a.message.parts.length:Int)] b.2)]),true))) ([]:(List dV))).bind λf=>some (f,(aK.mk (cE.mk a.config.part a.config.every a.config.most) (aH.mk a.current.k a.current.w a.current.h a.current.x a.current.y a.current.title a.current.rows a.current.len a.current.chain a.current.begun) (aH.mk a.aN.k a.aN.w a.aN.h a.aN.x a.aN.y a.aN.title a.aN.rows a.aN.len a.aN.chain a.aN.begun) a.kept (bA.mk a.message.id a.message.key a.message.base a.message.parts a.message.there (IntKind.i64.wrap (now+a.config.every))) a.next)))))))
def gV (s_:aK) (bU:ByteArray):Option aK :=
 ((iter (σ:=aK×Int) (ρ:=aK) (λa=>(bif (decide (a.2 < (dZ (s_.message.there.length:Int) (IntKind.i64.wrap (8*(bU.size:Int)))))) then ((((yT bU (IntKind.i64.wrap (a.2.tdiv 8))).bind λb228=>((chk (shk (a.2.tmod 8))).bind λ_=>(bif ((Go.bits .and .u8 (b228.fdiv (2 ^ (min (a.2.tmod 8).toNat 8))) 1) == 1) then ((idx a.1.message.there a.2).bind λd=>some (aK.mk (cE.mk a.1.config.part a.1.config.every a.1.config.most) (aH.mk a.1.current.k a.1.current.w a.1.current.h a.1.current.x a.1.current.y a.1.current.title a.1.current.rows a.1.current.len a.1.current.chain a.1.current.begun) (aH.mk a.1.aN.k a.1.aN.w a.1.aN.h a.1.aN.x a.1.aN.y a.1.aN.title a.1.aN.rows a.1.aN.len a.1.aN.chain a.1.aN.begun) a.1.kept (bA.mk a.1.message.id a.1.message.key a.1.message.base a.1.message.parts (a.1.message.there.set a.2.toNat true) a.1.message.due) a.1.next)) else some (aK.mk (cE.mk a.1.config.part a.1.config.every a.1.config.most) (aH.mk a.1.current.k a.1.current.w a.1.current.h a.1.current.x a.1.current.y a.1.current.title a.1.current.rows a.1.current.len a.1.current.chain a.1.current.begun) (aH.mk a.1.aN.k a.1.aN.w a.1.aN.h a.1.aN.x a.1.aN.y a.1.aN.title a.1.aN.rows a.1.aN.len a.1.aN.chain a.1.aN.begun) a.1.kept (bA.mk a.1.message.id a.1.message.key a.1.message.base a.1.message.parts a.1.message.there a.1.message.due) a.1.next)))):Option aK).bind λb=>some (.inl ((aK.mk (cE.mk b.config.part b.config.every b.config.most) (aH.mk b.current.k b.current.w b.current.h b.current.x b.current.y b.current.title b.current.rows b.current.len b.current.chain b.current.begun) (aH.mk b.aN.k b.aN.w b.aN.h b.aN.x b.aN.y b.aN.title b.aN.rows b.aN.len b.aN.chain b.aN.begun) b.kept (bA.mk b.message.id b.message.key b.message.base b.message.parts b.message.there b.message.due) b.next),(IntKind.i64.wrap (a.2+1))))) else some (.inr (aK.mk (cE.mk a.1.config.part a.1.config.every a.1.config.most) (aH.mk a.1.current.k a.1.current.w a.1.current.h a.1.current.x a.1.current.y a.1.current.title a.1.current.rows a.1.current.len a.1.current.chain a.1.current.begun) (aH.mk a.1.aN.k a.1.aN.w a.1.aN.h a.1.aN.x a.1.aN.y a.1.aN.title a.1.aN.rows a.1.aN.len a.1.aN.chain a.1.aN.begun) a.1.kept (bA.mk a.1.message.id a.1.message.key a.1.message.base a.1.message.parts a.1.message.there a.1.message.due) a.1.next)))) (s_,0)).bind λc=>some (aK.mk (cE.mk c.config.part c.config.every c.config.most) (aH.mk c.current.k c.current.w c.current.h c.current.x c.current.y c.current.title c.current.rows c.current.len c.current.chain c.current.begun) (aH.mk c.aN.k c.aN.w c.aN.h c.aN.x c.aN.y c.aN.title c.aN.rows c.aN.len c.aN.chain c.aN.begun) c.kept (bA.mk c.message.id c.message.key c.message.base c.message.parts c.message.there c.message.due) c.next))
def gK (x_:aH) (x1:Int):Option Bool :=
 some (x_.k == x1)
def cP (s_:List aH) (f_0:Int):Option Int :=
 ((iter (σ:=Int) (ρ:=Unit ⊕ Int) (λa=>(bif (decide (a < (s_.length:Int))) then ((idx s_ a).bind λb=>((gK b f_0).bind λc=>(bif c then (lx (some a)) else some (.inl (IntKind.i64.wrap (a+1)))))) else some (.inr (.inl ())))) 0).bind λ | .inl e113=>some (-1) | .inr w=>some w)
def fW (s_:aK) (k:Int) (id:Int) (bU:ByteArray):Option (Bool×aK) :=
 (((bif (id == s_.message.id) then some (decide (id > 0)) else some false):Option Bool).bind λe5=>(((bif e5 then ((gV s_ bU).bind λc=>some c) else some s_):Option aK).bind λa=>(((bif (decide (k<=a.aN.k)) then some true else some (decide (k > a.current.k))):Option Bool).bind λd=>(bif d then some (false,(aK.mk (cE.mk a.config.part a.config.every a.config.most) (aH.mk a.current.k a.current.w a.current.h a.current.x a.current.y a.current.title a.current.rows a.current.len a.current.chain a.current.begun) (aH.mk a.aN.k a.aN.w a.aN.h a.aN.x a.aN.y a.aN.title a.aN.rows a.aN.len a.aN.chain a.aN.begun) a.kept (bA.mk a.message.id a.message.key a.message.base a.message.parts a.message.there a.message.due) a.next)) else ((cP a.kept k).bind λb=>(bif (decide (b < 0)) then some (false,(aK.mk (cE.mk a.config.part a.config.every a.config.most) (aH.mk a.current.k a.current.w a.current.h a.current.x a.current.y a.current.title a.current.rows a.current.len a.current.chain a.current.begun) (aH.mk 0 0 0 0 0 (ByteArray.mk #[]) ([]:List aE) 0 0 ([]:List aJ)) a.kept (bA.mk a.message.id a.message.key a.message.base a.message.parts a.message.there a.message.due) a.next)) else ((idx a.kept b).bind λe=>((chk (dE (IntKind.i64.wrap (b+1)) (a.kept.length:Int) a.kept.length)).bind λ_=>((gJ (cut a.kept (IntKind.i64.wrap (b+1)) (a.kept.length:Int))).bind λf=>some (true,(aK.mk (cE.mk a.config.part a.config.every a.config.most) (aH.mk a.current.k a.current.w a.current.h a.current.x a.current.y a.current.title a.current.rows a.current.len a.current.chain a.current.begun) e f (bA.mk a.message.id a.message.key a.message.base a.message.parts a.message.there a.message.due) a.next)))))))))))
def kb (s_:aK):Option Int :=
 some s_.aN.k
structure aV where
 slot:cO
 bU:aH
 deriving DecidableEq,Inhabited
def oA:Option aV :=
 some (aV.mk (cO.mk 0 0 none 0) (aH.mk 0 0 0 0 0 (ByteArray.mk #[]) ([]:List aE) 0 0 ([]:List aJ)))
def fX (t_:aV) (g:dV):Option (Int×aV) :=
 (bif (g.kind != 1) then some (5,(aV.mk t_.slot t_.bU)) else (bif ((g.bJ.length:Int) != 5) then some (1,(aV.mk t_.slot t_.bU)) else ((idx g.bJ 1).bind λb=>(bif (decide (b<=t_.bU.k)) then some (8,(aV.mk t_.slot t_.bU)) else ((((idx g.bJ 2).bind λc=>(bif (c != 0) then ((idx g.bJ 2).bind λd=>some (d != t_.bU.k)) else some false)):Option Bool).bind λe=>(bif e then some (7,(aV.mk t_.slot t_.bU)) else ((idx g.bJ 0).bind λf=>((idx g.bJ 3).bind λh=>((idx g.bJ 4).bind λi=>((lk t_.slot f h i g.data).bind λa=>some (a.1,(aV.mk a.2 t_.bU))))))))))))
def eX (t_:aV):Option dV :=
 ((jU t_.slot).bind λr2=>((chk (Ea (IntKind.i64.wrap ((IntKind.i64.wrap ((IntKind.i64.wrap (r2+8)) - 1)).tdiv 8)) 1)).bind λ_=>((iz t_.slot).bind λr9=>((iter (σ:=Int×(List Int)) (ρ:=(List Int)) (λa=>(bif (decide (a.1 < (r9.length:Int))) then ((idx r9 a.1).bind λb=>((idx a.2 (IntKind.i64.wrap (b.tdiv 8))).bind λc=>((chk (shk (b.tmod 8))).bind λ_=>((idx a.2 (IntKind.i64.wrap (b.tdiv 8))).bind λf=>some (.inl ((IntKind.i64.wrap (a.1+1)),(a.2.set ((IntKind.i64.wrap (b.tdiv 8)).toNat) (Go.bits .or .u8 c (IntKind.u8.wrap (1*2 ^ (min (b.tmod 8).toNat 8))))))))))) else some (.inr a.2))) (0,(List.replicate (IntKind.i64.wrap ((IntKind.i64.wrap ((IntKind.i64.wrap (r2+8)) - 1)).tdiv 8)).toNat (0:Int)))).bind λd=>((oe t_.slot).bind λe=>some (dV.mk 1 2 [t_.bU.k,e] (fU d)))))))
def iP (t_:aV):Option aH :=
 ((iw t_.bU).bind λr2=>some r2)
def cH (t_:aV) (g:dV):Option (Int×aV) :=
 ((fX t_ g).bind λr2=>(bif (r2.1 != 0) then some (r2.1,r2.2) else ((jW r2.2.slot).bind λc=>(bif (!c.2) then some (0,r2.2) else ((kW r2.2.slot).bind λb=>((idx g.bJ 2).bind λe=>(((bif (e != 0) then some r2.2.bU else some (aH.mk 0 0 0 0 0 (ByteArray.mk #[]) ([]:List aE) 0 0 ([]:List aJ))):Option aH).bind λf=>((lY f c.1).bind λa=>(((bif (a.2 == 0) then ((idx g.bJ 1).bind λh=>some (a.1.k != h)) else some false):Option Bool).bind λi=>(((bif i then some 1 else some a.2):Option Int).bind λd=>(((bif (d == 0) then some (aV.mk b a.1) else some (aV.mk b r2.2.bU)):Option aV).bind λj=>some (d,(aV.mk b j.bU)))))))))))))
def kj (t_:aV):Option Int :=
 some t_.bU.k
def oB (s_:ByteArray) (n_:Int):Option ByteArray :=
 (bif (decide ((s_.size:Int) > n_)) then ((chk (dE 0 n_ s_.size)).bind λ_=>some (iE s_ 0 n_)) else some s_)
def rz (r_:Int):Option Int :=
 (((bif (decide (r_ < 32)) then some true else some (decide (r_ > 1114111))):Option Bool).bind λe8=>(bif e8 then some 0 else ((iter (σ:=Int) (ρ:=Unit ⊕ Int) (λa=>(bif (decide (a < ([(cI.mk 127 159),(cI.mk 768 879),(cI.mk 6832 6911),(cI.mk 7616 7679),(cI.mk 8203 8207),(cI.mk 8400 8447),(cI.mk 55296 57343),(cI.mk 65024 65039),(cI.mk 65056 65071),(cI.mk 65279 65279),(cI.mk 917760 917999)].length:Int))) then ((idx [(cI.mk 127 159),(cI.mk 768 879),(cI.mk 6832 6911),(cI.mk 7616 7679),(cI.mk 8203 8207),(cI.mk 8400 8447),(cI.mk 55296 57343),(cI.mk 65024 65039),(cI.mk 65056 65071),(cI.mk 65279 65279),(cI.mk 917760 917999)] a).bind λc=>(((bif (decide (r_>=c.e0)) then some (decide (r_<=c.e1)) else some false):Option Bool).bind λe=>(bif e then (lx (some 0)) else some (.inl (IntKind.i64.wrap (a+1)))))) else some (.inr (.inl ())))) 0).bind λ | .inl e96=>((iter (σ:=Int) (ρ:=Unit ⊕ Int) (λb=>(bif (decide (b < ([(cI.mk 4352 4447),(cI.mk 11904 12350),(cI.mk 12353 13311),(cI.mk 13312 19903),(cI.mk 19968 40959),(cI.mk 40960 42191),(cI.mk 44032 55203),(cI.mk 63744 64255),(cI.mk 65072 65135),(cI.mk 65280 65376),(cI.mk 65504 65510),(cI.mk 127744 128591),(cI.mk 129280 129535),(cI.mk 131072 262141)].length:Int))) then ((idx [(cI.mk 4352 4447),(cI.mk 11904 12350),(cI.mk 12353 13311),(cI.mk 13312 19903),(cI.mk 19968 40959),(cI.mk 40960 42191),(cI.mk 44032 55203),(cI.mk 63744 64255),(cI.mk 65072 65135),(cI.mk 65280 65376),(cI.mk 65504 65510),(cI.mk 127744 128591),(cI.mk 129280 129535),(cI.mk 131072 262141)] b).bind λd=>(((bif (decide (r_>=d.e0)) then some (decide (r_<=d.e1)) else some false):Option Bool).bind λf=>(bif f then (lx (some 2)) else some (.inl (IntKind.i64.wrap (b+1)))))) else some (.inr (.inl ())))) 0).bind λ | .inl e214=>some 1 | .inr w=>some w) | .inr w=>some w)))
structure aR where
 rune:Int
 aM:Int
 part:Int
 deriving DecidableEq,Inhabited
structure aX where
 l:List aR
 wrapped:Bool
 deriving DecidableEq,Inhabited
structure uR where
 rune:Int
 aM:Int
 deriving DecidableEq,Inhabited
def nF (n_:Int) (lo:Int) (hi:Int):Option Int :=
 (bif (decide (n_ < lo)) then some lo else (bif (decide (n_ > hi)) then some hi else some n_))
def jK (w:Int) (aM:Int):Option aX :=
 ((iter (σ:=(List aR)×Int) (ρ:=(List aR)) (λa=>((nF w 0 1000).bind λb=>(bif (decide (a.2 < b)) then ((chk (eP a.1.length [(aR.mk 32 aM 0)].length 24)).bind λ_=>some (.inl ((a.1++[(aR.mk 32 aM 0)]),(IntKind.i64.wrap (a.2+1))))) else some (.inr a.1)))) (([]:List aR),0)).bind λc=>some (aX.mk c false))
def fS (l:List aR):Option aX :=
 ((iter (σ:=Int×(List aR)) (ρ:=(List aR)) (λa=>(bif (decide (a.1 < (l.length:Int))) then ((idx l a.1).bind λb=>(((bif (b.part == 1) then (bif ((IntKind.i64.wrap (a.1+1)) == (l.length:Int)) then some true else ((idx l (IntKind.i64.wrap (a.1+1))).bind λd=>some (d.part != 2))) else (bif (b.part == 2) then (bif (a.1 == 0) then some true else ((idx a.2 (IntKind.i64.wrap (a.1 - 1))).bind λe=>some (e.part != 1))) else (bif (b.part == 3) then some (decide (a.1 < (IntKind.i64.wrap ((l.length:Int) - 1)))) else some false))):Option Bool).bind λf=>(((bif f then some (aR.mk 32 b.aM 0) else some b):Option aR).bind λc=>((chk (eP a.2.length [c].length 24)).bind λ_=>some (.inl ((IntKind.i64.wrap (a.1+1)),(a.2++[c]))))))) else some (.inr a.2))) (0,([]:List aR))).bind λg=>some (aX.mk g false))
def pT (r_:aX) (at_:Int) (x_:Int) (aM:Int):Option aX :=
 ((rz x_).bind λr3=>(((bif (r3 == 0) then some true else (bif (decide (at_ < 0)) then some true else some (decide (at_ > (IntKind.i64.wrap ((r_.l.length:Int) - r3)))))):Option Bool).bind λa=>(bif a then ((fS r_.l).bind λb=>some b) else ((chk (eP ([]:List aR).length r_.l.length 24)).bind λ_=>((idx (([]:List aR)++r_.l) at_).bind λh=>(((bif (r3 == 2) then ((idx ((([]:List aR)++r_.l).set at_.toNat (aR.mk x_ aM 0)) at_).bind λi=>((idx (((([]:List aR)++r_.l).set at_.toNat (aR.mk x_ aM 0)).set at_.toNat (aR.mk x_ aM 1)) (IntKind.i64.wrap (at_+1))).bind λj=>(((bif (decide (at_ > 0)) then ((idx ((((([]:List aR)++r_.l).set at_.toNat (aR.mk x_ aM 0)).set at_.toNat (aR.mk x_ aM 1)).set ((IntKind.i64.wrap (at_+1)).toNat) (aR.mk x_ aM 2)) (IntKind.i64.wrap (at_ - 1))).bind λc=>some (c.part == 1)) else some false):Option Bool).bind λd=>(bif d then ((idx ((((([]:List aR)++r_.l).set at_.toNat (aR.mk x_ aM 0)).set at_.toNat (aR.mk x_ aM 1)).set ((IntKind.i64.wrap (at_+1)).toNat) (aR.mk x_ aM 2)) (IntKind.i64.wrap (at_ - 1))).bind λe=>((idx ((((([]:List aR)++r_.l).set at_.toNat (aR.mk x_ aM 0)).set at_.toNat (aR.mk x_ aM 1)).set ((IntKind.i64.wrap (at_+1)).toNat) (aR.mk x_ aM 2)) (IntKind.i64.wrap (at_ - 1))).bind λk=>some (((((([]:List aR)++r_.l).set at_.toNat (aR.mk x_ aM 0)).set at_.toNat (aR.mk x_ aM 1)).set ((IntKind.i64.wrap (at_+1)).toNat) (aR.mk x_ aM 2)).set ((IntKind.i64.wrap (at_ - 1)).toNat) (aR.mk 32 e.aM 0)))) else some ((((([]:List aR)++r_.l).set at_.toNat (aR.mk x_ aM 0)).set at_.toNat (aR.mk x_ aM 1)).set ((IntKind.i64.wrap (at_+1)).toNat) (aR.mk x_ aM 2)))))) else some ((([]:List aR)++r_.l).set at_.toNat (aR.mk x_ aM 0))):Option (List aR)).bind λf=>((fS f).bind λg=>some g)))))))
def ot (r_:aX) (from_:Int) (to:Int) (aM:Int):Option aX :=
 ((chk (eP ([]:List aR).length r_.l.length 24)).bind λ_=>((iter (σ:=Int×(List aR)) (ρ:=(List aR)) (λa=>(bif (decide (a.1 < ((([]:List aR)++r_.l).length:Int))) then (((((bif (decide (a.1>=from_)) then some (decide (a.1 < to)) else some false):Option Bool).bind λb=>(bif b then ((idx a.2 a.1).bind λf=>some (a.2.set a.1.toNat (aR.mk 32 aM 0))) else some a.2)):Option (List aR)).bind λc=>some (.inl ((IntKind.i64.wrap (a.1+1)),c))) else some (.inr a.2))) (0,(([]:List aR)++r_.l))).bind λd=>((fS d).bind λe=>some e)))
def nG (r_:aX) (at_:Int) (n_:Int) (aM:Int):Option aX :=
 (((bif (decide (at_ < 0)) then some true else (bif (decide (at_>=(r_.l.length:Int))) then some true else some (decide (n_<=0)))):Option Bool).bind λe8=>(bif e8 then ((fS r_.l).bind λb=>some b) else ((chk (dE 0 at_ r_.l.length)).bind λ_=>((chk (eP ([]:List aR).length (cut r_.l 0 at_).length 24)).bind λ_=>((jK (dZ n_ (IntKind.i64.wrap ((r_.l.length:Int) - at_))) aM).bind λa=>((chk (eP (([]:List aR)++(cut r_.l 0 at_)).length a.l.length 24)).bind λ_=>((chk (dE at_ (IntKind.i64.wrap ((r_.l.length:Int) - (dZ n_ (IntKind.i64.wrap ((r_.l.length:Int) - at_))))) r_.l.length)).bind λ_=>((chk (eP ((([]:List aR)++(cut r_.l 0 at_))++a.l).length (cut r_.l at_ (IntKind.i64.wrap ((r_.l.length:Int) - (dZ n_ (IntKind.i64.wrap ((r_.l.length:Int) - at_)))))).length 24)).bind λ_=>((fS (((([]:List aR)++(cut r_.l 0 at_))++a.l)++(cut r_.l at_ (IntKind.i64.wrap ((r_.l.length:Int) - (dZ n_ (IntKind.i64.wrap ((r_.l.length:Int) - at_)))))))).bind λc=>some c)))))))))
def nH (r_:aX) (at_:Int) (n_:Int) (aM:Int):Option aX :=
 (((bif (decide (at_ < 0)) then some true else (bif (decide (at_>=(r_.l.length:Int))) then some true else some (decide (n_<=0)))):Option Bool).bind λe8=>(bif e8 then ((fS r_.l).bind λb=>some b) else ((chk (dE 0 at_ r_.l.length)).bind λ_=>((chk (eP ([]:List aR).length (cut r_.l 0 at_).length 24)).bind λ_=>((chk (dE (IntKind.i64.wrap (at_+(dZ n_ (IntKind.i64.wrap ((r_.l.length:Int) - at_))))) (r_.l.length:Int) r_.l.length)).bind λ_=>((chk (eP (([]:List aR)++(cut r_.l 0 at_)).length (cut r_.l (IntKind.i64.wrap (at_+(dZ n_ (IntKind.i64.wrap ((r_.l.length:Int) - at_))))) (r_.l.length:Int)).length 24)).bind λ_=>((jK (dZ n_ (IntKind.i64.wrap ((r_.l.length:Int) - at_))) aM).bind λa=>((chk (eP ((([]:List aR)++(cut r_.l 0 at_))++(cut r_.l (IntKind.i64.wrap (at_+(dZ n_ (IntKind.i64.wrap ((r_.l.length:Int) - at_))))) (r_.l.length:Int))).length a.l.length 24)).bind λ_=>((fS (((([]:List aR)++(cut r_.l 0 at_))++(cut r_.l (IntKind.i64.wrap (at_+(dZ n_ (IntKind.i64.wrap ((r_.l.length:Int) - at_))))) (r_.l.length:Int)))++a.l)).bind λc=>some c)))))))))
def nI (r_:aX) (aM:Int):Option aX :=
 ((chk (eP ([]:List aR).length r_.l.length 24)).bind λ_=>(((bif (decide (((([]:List aR)++r_.l).length:Int) > 0)) then ((idx (([]:List aR)++r_.l) (IntKind.i64.wrap (((([]:List aR)++r_.l).length:Int) - 1))).bind λc=>some ((([]:List aR)++r_.l).set ((IntKind.i64.wrap (((([]:List aR)++r_.l).length:Int) - 1)).toNat) (aR.mk 32 aM 3))) else some (([]:List aR)++r_.l)):Option (List aR)).bind λa=>((fS a).bind λb=>some (aX.mk b.l true))))
def nJ (r_:aX) (w:Int):Option aX :=
 ((nF w 0 1000).bind λr3=>(bif (r3 == (r_.l.length:Int)) then some r_ else ((chk (dE 0 (dZ r3 (r_.l.length:Int)) r_.l.length)).bind λ_=>((chk (eP ([]:List aR).length (cut r_.l 0 (dZ r3 (r_.l.length:Int))).length 24)).bind λ_=>((jK (IntKind.i64.wrap (r3 - ((([]:List aR)++(cut r_.l 0 (dZ r3 (r_.l.length:Int)))).length:Int))) 0).bind λa=>((chk (eP (([]:List aR)++(cut r_.l 0 (dZ r3 (r_.l.length:Int)))).length a.l.length 24)).bind λ_=>((fS ((([]:List aR)++(cut r_.l 0 (dZ r3 (r_.l.length:Int))))++a.l)).bind λb=>some b)))))))
def uS (r_:aE) (x_:aX):Option Bool :=
 (((bif ((r_.cells.length:Int) != (x_.l.length:Int)) then some true else some (!(r_.wrapped == x_.wrapped))):Option Bool).bind λe6=>(bif e6 then some false else ((iter (σ:=Int) (ρ:=Unit ⊕ Bool) (λa=>(bif (decide (a < (r_.cells.length:Int))) then ((idx r_.cells a).bind λb=>((((idx x_.l a).bind λc=>(bif ((IntKind.i64.wrap b.rune) != c.rune) then some true else ((idx x_.l a).bind λd=>(bif (b.aM != d.aM) then some true else ((idx x_.l a).bind λe=>some (b.part != e.part)))))):Option Bool).bind λf=>(bif f then (lx (some false)) else some (.inl (IntKind.i64.wrap (a+1)))))) else some (.inr (.inl ())))) 0).bind λ | .inl e712=>some true | .inr w=>some w)))
structure iQ where
 w:Int
 l:List aX
 deriving DecidableEq,Inhabited
def oV (n_:Int):Option Int :=
 some (imax 1 (dZ n_ 1000))
def sO (w:Int) (h_:Int):Option iQ :=
 ((oV w).bind λr2=>((iter (σ:=iQ×Int) (ρ:=iQ) (λa=>((oV h_).bind λc=>(bif (decide (a.2 < c)) then ((jK a.1.w 0).bind λb=>((chk (eP a.1.l.length [b].length 32)).bind λ_=>some (.inl ((iQ.mk a.1.w (a.1.l++[b])),(IntKind.i64.wrap (a.2+1)))))) else some (.inr a.1)))) ((iQ.mk r2 ([]:List aX)),0)).bind λd=>some d))
def oC (g:iQ) (y:Int) (r_:aX):Option (iQ×Bool) :=
 (((bif (decide (y < 0)) then some true else some (decide (y>=(g.l.length:Int)))):Option Bool).bind λe7=>(bif e7 then some (g,false) else ((chk (eP ([]:List aX).length g.l.length 32)).bind λ_=>((nJ r_ g.w).bind λa=>((idx (([]:List aX)++g.l) y).bind λb=>some ((iQ.mk g.w ((([]:List aX)++g.l).set y.toNat a)),true))))))
def eQ (g:iQ) (up:Bool) (top:Int) (aL:Int) (n_:Int) (aM:Int):Option (iQ×(List aX)) :=
 (bif (decide ((imax 0 (dZ aL (IntKind.i64.wrap ((g.l.length:Int) - 1)))) < (imax 0 (dZ top (IntKind.i64.wrap ((g.l.length:Int) - 1)))))) then some (g,([]:List aX)) else ((chk (eP ([]:List aX).length g.l.length 32)).bind λ_=>((jK g.w aM).bind λd=>((iter (σ:=(List aX)×(List aX)×Int) (ρ:=(List aX)×(List aX)) (λa=>(((bif (decide (a.2.2 < n_)) then some (decide (a.2.2<=(IntKind.i64.wrap ((imax 0 (dZ aL (IntKind.i64.wrap ((g.l.length:Int) - 1)))) - (imax 0 (dZ top (IntKind.i64.wrap ((g.l.length:Int) - 1)))))))) else some false):Option Bool).bind λm=>(bif m then (((bif up then ((idx a.2.1 (imax 0 (dZ top (IntKind.i64.wrap ((g.l.length:Int) - 1))))).bind λe=>((chk (eP a.1.length [e].length 32)).bind λ_=>((iter (σ:=(List aX)×Int) (ρ:=(List aX)) (λb=>(bif (decide (b.2 < (imax 0 (dZ aL (IntKind.i64.wrap ((g.l.length:Int) - 1)))))) then ((idx b.1 (IntKind.i64.wrap (b.2+1))).bind λn=>((idx b.1 b.2).bind λp=>some (.inl ((b.1.set b.2.toNat n),(IntKind.i64.wrap (b.2+1)))))) else some (.inr b.1))) (a.2.1,(imax 0 (dZ top (IntKind.i64.wrap ((g.l.length:Int) - 1)))))).bind λf=>((idx f (imax 0 (dZ aL (IntKind.i64.wrap ((g.l.length:Int) - 1))))).bind λq=>some ((a.1++[e]),(f.set ((imax 0 (dZ aL (IntKind.i64.wrap ((g.l.length:Int) - 1)))).toNat) d)))))) else ((idx a.2.1 (imax 0 (dZ aL (IntKind.i64.wrap ((g.l.length:Int) - 1))))).bind λh=>((chk (eP a.1.length [h].length 32)).bind λ_=>((iter (σ:=(List aX)×Int) (ρ:=(List aX)) (λc=>(bif (decide (c.2 > (imax 0 (dZ top (IntKind.i64.wrap ((g.l.length:Int) - 1)))))) then ((idx c.1 (IntKind.i64.wrap (c.2 - 1))).bind λo=>((idx c.1 c.2).bind λr=>some (.inl ((c.1.set c.2.toNat o),(IntKind.i64.wrap (c.2 - 1)))))) else some (.inr c.1))) (a.2.1,(imax 0 (dZ aL (IntKind.i64.wrap ((g.l.length:Int) - 1)))))).bind λi=>((idx i (imax 0 (dZ top (IntKind.i64.wrap ((g.l.length:Int) - 1))))).bind λs=>some ((a.1++[h]),(i.set ((imax 0 (dZ top (IntKind.i64.wrap ((g.l.length:Int) - 1)))).toNat) d))))))):Option ((List aX)×(List aX))).bind λj=>some (.inl (j.1,j.2,(IntKind.i64.wrap (a.2.2+1))))) else some (.inr (a.1,a.2.1))))) (([]:List aX),(([]:List aX)++g.l),0)).bind λk=>some ((iQ.mk g.w k.2),k.1)))))
def oW (l:List aE) (x_:List aX):Option Bool :=
 (bif ((l.length:Int) != (x_.length:Int)) then some false else ((iter (σ:=Int) (ρ:=Unit ⊕ Bool) (λa=>(bif (decide (a < (x_.length:Int))) then ((idx l a).bind λb=>((idx x_ a).bind λc=>((uS b c).bind λd=>(bif (!d) then (lx (some false)) else some (.inl (IntKind.i64.wrap (a+1))))))) else some (.inr (.inl ())))) 0).bind λ | .inl e571=>some true | .inr w=>some w))
structure lA where
 kind:Int
 rune:Int
 byte:Int
 eJ:Bool
 bJ:List Int
 text:ByteArray
 deriving DecidableEq,Inhabited
structure bM where
 iR:Int
 back:Int
 bold:Bool
 under:Bool
 dW:Bool
 deriving DecidableEq,Inhabited
def sP (s_:bM):Option Bool :=
 (((bif (decide (s_.iR>=0)) then (bif (decide (s_.iR<=8)) then (bif (decide (s_.back>=0)) then some (decide (s_.back<=8)) else some false) else some false) else some false):Option Bool).bind λe9=>some e9)
def lB (s_:bM):Option Int :=
 ((sP s_).bind λr2=>(bif (!r2) then some 0 else (((bif s_.bold then some (IntKind.i64.wrap ((IntKind.i64.wrap (s_.iR+(IntKind.i64.wrap (9*s_.back))))+81)) else some (IntKind.i64.wrap (s_.iR+(IntKind.i64.wrap (9*s_.back))))):Option Int).bind λa=>(((bif s_.under then some (IntKind.i64.wrap (a+162)) else some a):Option Int).bind λb=>(((bif s_.dW then some (IntKind.i64.wrap (b+324)) else some b):Option Int).bind λc=>some c)))))
def sQ (s_:bM) (l:List Int):Option bM :=
 (bif ((l.length:Int) == 0) then some (bM.mk 0 0 false false false) else ((iter (σ:=bM×Int×Int) (ρ:=bM) (λb=>(bif (decide (b.2.1 < (l.length:Int))) then ((((idx l b.2.1).bind λa=>(bif (decide (b.2.2 > 0)) then some ((IntKind.i64.wrap (b.2.2 - 1)),b.1) else (((bif (a == 38) then some true else some (a == 48)):Option Bool).bind λm=>(bif m then (((bif (decide ((IntKind.i64.wrap (b.2.1+1)) < (l.length:Int))) then ((idx l (IntKind.i64.wrap (b.2.1+1))).bind λn=>some (n == 5)) else some false):Option Bool).bind λo=>(((bif o then some 2 else some b.2.2):Option Int).bind λp=>(((bif (decide ((IntKind.i64.wrap (b.2.1+1)) < (l.length:Int))) then ((idx l (IntKind.i64.wrap (b.2.1+1))).bind λq=>some (q == 2)) else some false):Option Bool).bind λr=>(((bif r then some 4 else some p):Option Int).bind λt=>some (t,b.1))))) else (((bif (a == 0) then some (bM.mk 0 0 false false false) else some b.1):Option bM).bind λc=>(((bif (a == 1) then some true else some (a == 22)):Option Bool).bind λu=>(((bif u then some (bM.mk c.iR c.back (decide (a < 10)) c.under c.dW) else some c):Option bM).bind λd=>(((bif (a == 4) then some true else some (a == 24)):Option Bool).bind λv=>(((bif v then some (bM.mk d.iR d.back d.bold (decide (a < 10)) d.dW) else some d):Option bM).bind λe=>(((bif (a == 7) then some true else some (a == 27)):Option Bool).bind λw=>(((bif w then some (bM.mk e.iR e.back e.bold e.under (decide (a < 10))) else some e):Option bM).bind λf=>(((bif (decide (a>=30)) then some (decide (a<=37)) else some false):Option Bool).bind λz=>(((bif z then some (bM.mk (IntKind.i64.wrap (a - 29)) f.back f.bold f.under f.dW) else some f):Option bM).bind λh=>(((bif (a == 39) then some (bM.mk 0 h.back h.bold h.under h.dW) else some h):Option bM).bind λi=>(((bif (decide (a>=40)) then some (decide (a<=47)) else some false):Option Bool).bind λA=>(((bif A then some (bM.mk i.iR (IntKind.i64.wrap (a - 39)) i.bold i.under i.dW) else some i):Option bM).bind λj=>(bif (a == 49) then some (b.2.2,(bM.mk j.iR 0 j.bold j.under j.dW)) else some (b.2.2,j)))))))))))))))))):Option (Int×bM)).bind λk=>some (.inl (k.2,(IntKind.i64.wrap (b.2.1+1)),k.1))) else some (.inr b.1))) (s_,0,0)).bind λB=>some B))
structure aP where
 g:iQ
 x:Int
 y:Int
 s:bM
 sX:Int
 sY:Int
 sS:bM
 waiting:Bool
 top:Int
 aL:Int
 aZ:Bool
 title:ByteArray
 deriving DecidableEq,Inhabited
def sR (w:Int) (h_:Int):Option aP :=
 ((sO w h_).bind λr2=>some (aP.mk r2 0 0 (bM.mk 0 0 false false false) 0 0 (bM.mk 0 0 false false false) false 0 (IntKind.i64.wrap ((r2.l.length:Int) - 1)) true (ByteArray.mk #[])))
def kG (s_:aP) (r_:aX):Option aP :=
 ((oC s_.g s_.y r_).bind λr4=>some (aP.mk r4.1 s_.x s_.y s_.s s_.sX s_.sY s_.sS s_.waiting s_.top s_.aL s_.aZ s_.title))
def nK (s_:aP) (n_:Int):Option (aP×(List aX)) :=
 ((lB s_.s).bind λb=>((eQ s_.g true s_.top s_.aL n_ b).bind λa=>(bif (decide (s_.top > 0)) then some ((aP.mk a.1 s_.x s_.y s_.s s_.sX s_.sY s_.sS s_.waiting s_.top s_.aL s_.aZ s_.title),([]:List aX)) else some ((aP.mk a.1 s_.x s_.y s_.s s_.sX s_.sY s_.sS s_.waiting s_.top s_.aL s_.aZ s_.title),a.2))))
def dM (s_:aP) (x_:Int) (y:Int):Option aP :=
 some (aP.mk s_.g (imax 0 (dZ x_ (IntKind.i64.wrap (s_.g.w - 1)))) (imax 0 (dZ y (IntKind.i64.wrap ((s_.g.l.length:Int) - 1)))) s_.s s_.sX s_.sY s_.sS false s_.top s_.aL s_.aZ s_.title)
def iU (s_:aP):Option (aP×(List aX)) :=
 (bif (s_.y == s_.aL) then ((nK (aP.mk s_.g s_.x s_.y s_.s s_.sX s_.sY s_.sS false s_.top s_.aL s_.aZ s_.title) 1).bind λa=>some (a.1,a.2)) else ((dM (aP.mk s_.g s_.x s_.y s_.s s_.sX s_.sY s_.sS false s_.top s_.aL s_.aZ s_.title) s_.x (IntKind.i64.wrap (s_.y+1))).bind λb=>some (b,([]:List aX))))
def rA (s_:aP) (r_:Int):Option (aP×(List aX)) :=
 ((rz r_).bind λr3=>(((bif (r3 == 0) then some true else some (decide (r3 > s_.g.w))):Option Bool).bind λe9=>(bif e9 then some (s_,([]:List aX)) else ((lB s_.s).bind λi=>(((bif s_.waiting then some s_.aZ else some false):Option Bool).bind λj=>(((bif j then ((idx s_.g.l s_.y).bind λk=>((kG s_ (aX.mk k.l true)).bind λc=>((iU (aP.mk c.g 0 c.y c.s c.sX c.sY c.sS c.waiting c.top c.aL c.aZ c.title)).bind λf=>((chk (eP ([]:List aX).length f.2.length 32)).bind λ_=>some ((([]:List aX)++f.2),f.1))))) else some (([]:List aX),s_)):Option ((List aX)×aP)).bind λb=>(((bif (r3 == 2) then some (b.2.x == (IntKind.i64.wrap (b.2.g.w - 1))) else some false):Option Bool).bind λm=>(((bif m then (bif b.2.aZ then ((idx b.2.g.l b.2.y).bind λn=>((nI n i).bind λo=>((kG b.2 o).bind λd=>((iU (aP.mk d.g 0 d.y d.s d.sX d.sY d.sS d.waiting d.top d.aL d.aZ d.title)).bind λh=>((chk (eP b.1.length h.2.length 32)).bind λ_=>some ((b.1++h.2),h.1)))))) else some (b.1,(aP.mk b.2.g (IntKind.i64.wrap (b.2.x - 1)) b.2.y b.2.s b.2.sX b.2.sY b.2.sS b.2.waiting b.2.top b.2.aL b.2.aZ b.2.title))) else some (b.1,b.2)):Option ((List aX)×aP)).bind λe=>((idx e.2.g.l e.2.y).bind λp=>((pT p e.2.x r_ i).bind λq=>((kG e.2 q).bind λa=>(((bif ((IntKind.i64.wrap (a.x+r3)) == a.g.w) then some (aP.mk a.g (IntKind.i64.wrap ((IntKind.i64.wrap (a.x+r3)) - 1)) a.y a.s a.sX a.sY a.sS ((IntKind.i64.wrap (a.x+r3)) == a.g.w) a.top a.aL a.aZ a.title) else some (aP.mk a.g (IntKind.i64.wrap (a.x+r3)) a.y a.s a.sX a.sY a.sS ((IntKind.i64.wrap (a.x+r3)) == a.g.w) a.top a.aL a.aZ a.title)):Option aP).bind λr=>some (r,e.1)))))))))))))
def fP (l:List Int) (i:Int) (d:Int):Option Int :=
 (((bif (decide (i < (l.length:Int))) then ((idx l i).bind λa=>some (decide (a > 0))) else some false):Option Bool).bind λb=>(bif b then ((idx l i).bind λc=>some (dZ c 9999)) else some d))
def lZ (s_:aP) (y:Int) (from_:Int) (to:Int):Option aP :=
 ((idx s_.g.l y).bind λa=>((lB s_.s).bind λb=>((ot a from_ to b).bind λc=>((oC s_.g y c).bind λd=>some (aP.mk d.1 s_.x s_.y s_.s s_.sX s_.sY s_.sS s_.waiting s_.top s_.aL s_.aZ s_.title)))))
def ou (s_:aP) (n_:Int) (all:Bool):Option aP :=
 (bif (decide (n_ > 2)) then some s_ else ((iter (σ:=aP×Int) (ρ:=aP) (λa=>(bif (decide (a.2 < (s_.g.l.length:Int))) then (((((bif all then (bif (decide (a.2 < a.1.y)) then (bif (n_ != 0) then some true else (bif (decide (a.2 > a.1.y)) then some (n_ != 1) else some false)) else (bif (decide (a.2 > a.1.y)) then some (n_ != 1) else some false)) else some false):Option Bool).bind λd=>(bif d then ((lZ a.1 a.2 0 a.1.g.w).bind λe=>some e) else some a.1)):Option aP).bind λf=>some (.inl (f,(IntKind.i64.wrap (a.2+1))))) else some (.inr a.1))) (s_,0)).bind λc=>(((bif (n_ == 0) then some c.x else some 0):Option Int).bind λh=>(((bif (n_ == 1) then some (IntKind.i64.wrap (c.x+1)) else some c.g.w):Option Int).bind λi=>((lZ c c.y h i).bind λb=>some (aP.mk b.g b.x b.y b.s b.sX b.sY b.sS false b.top b.aL b.aZ b.title))))))
def oK (s_:aP) (b:Int) (l:List Int):Option (aP×(List aX)) :=
 ((fP l 0 1).bind λr3=>((lB s_.s).bind λr6=>(((((bif (b == 65) then some (b == 65) else some (b == 70)):Option Bool).bind λk=>(bif k then (((bif (decide (s_.y>=s_.top)) then some s_.top else some 0):Option Int).bind λm=>((dM s_ s_.x (imax m (IntKind.i64.wrap (s_.y - r3)))).bind λa=>(bif (b == 70) then some (.inl (aP.mk a.g 0 a.y a.s a.sX a.sY a.sS a.waiting a.top a.aL a.aZ a.title)) else some (.inl a)))) else (((bif (b == 66) then some (b == 66) else some (b == 69)):Option Bool).bind λn=>(bif n then (((bif (decide (s_.y<=s_.aL)) then some s_.aL else some (IntKind.i64.wrap ((s_.g.l.length:Int) - 1))):Option Int).bind λo=>((dM s_ s_.x (dZ o (IntKind.i64.wrap (s_.y+r3)))).bind λc=>(bif (b == 69) then some (.inl (aP.mk c.g 0 c.y c.s c.sX c.sY c.sS c.waiting c.top c.aL c.aZ c.title)) else some (.inl c)))) else (bif (b == 67) then ((dM s_ (IntKind.i64.wrap (s_.x+r3)) s_.y).bind λp=>some (.inl p)) else (bif (b == 68) then ((dM s_ (IntKind.i64.wrap (s_.x - r3)) s_.y).bind λq=>some (.inl q)) else (bif (b == 71) then ((dM s_ (IntKind.i64.wrap (r3 - 1)) s_.y).bind λr=>some (.inl r)) else (bif (b == 100) then ((dM s_ s_.x (IntKind.i64.wrap (r3 - 1))).bind λt=>some (.inl t)) else (((bif (b == 72) then some (b == 72) else some (b == 102)):Option Bool).bind λu=>(bif u then ((fP l 1 1).bind λv=>((dM s_ (IntKind.i64.wrap (v - 1)) (IntKind.i64.wrap (r3 - 1))).bind λz=>some (.inl z))) else (bif (b == 74) then ((fP l 0 0).bind λA=>((ou s_ A true).bind λB=>some (.inl B))) else (bif (b == 75) then ((fP l 0 0).bind λC=>((ou s_ C false).bind λD=>some (.inl D))) else (bif (b == 88) then ((lZ s_ s_.y s_.x (IntKind.i64.wrap (s_.x+r3))).bind λd=>some (.inl (aP.mk d.g d.x d.y d.s d.sX d.sY d.sS false d.top d.aL d.aZ d.title))) else (bif (b == 64) then ((idx s_.g.l s_.y).bind λE=>((nG E s_.x r3 r6).bind λF=>((kG s_ F).bind λe=>some (.inl (aP.mk e.g e.x e.y e.s e.sX e.sY e.sS false e.top e.aL e.aZ e.title))))) else (bif (b == 80) then ((idx s_.g.l s_.y).bind λG=>((nH G s_.x r3 r6).bind λH=>((kG s_ H).bind λf=>some (.inl (aP.mk f.g f.x f.y f.s f.sX f.sY f.sS false f.top f.aL f.aZ f.title))))) else (((bif (b == 76) then some (b == 76) else some (b == 77)):Option Bool).bind λI=>(bif I then (((bif (decide (s_.y>=s_.top)) then some (decide (s_.y<=s_.aL)) else some false):Option Bool).bind λJ=>(bif J then ((eQ s_.g (b == 77) s_.y s_.aL r3 r6).bind λK=>((dM (aP.mk K.1 s_.x s_.y s_.s s_.sX s_.sY s_.sS s_.waiting s_.top s_.aL s_.aZ s_.title) 0 s_.y).bind λL=>some (.inl L))) else some (.inl s_))) else (bif (b == 83) then ((nK (aP.mk s_.g s_.x s_.y s_.s s_.sX s_.sY s_.sS false s_.top s_.aL s_.aZ s_.title) r3).bind λh=>(k9 (some (h.1,h.2)))) else (bif (b == 84) then ((eQ s_.g false s_.top s_.aL r3 r6).bind λM=>some (.inl (aP.mk M.1 s_.x s_.y s_.s s_.sX s_.sY s_.sS false s_.top s_.aL s_.aZ s_.title))) else (bif (b == 109) then ((sQ s_.s l).bind λN=>some (.inl (aP.mk s_.g s_.x s_.y N s_.sX s_.sY s_.sS s_.waiting s_.top s_.aL s_.aZ s_.title))) else (bif (b == 114) then ((fP l 0 1).bind λi=>((fP l 1 (s_.g.l.length:Int)).bind λj=>(bif (decide ((IntKind.i64.wrap ((imax 1 (dZ i (s_.g.l.length:Int))) - 1)) < (IntKind.i64.wrap ((imax 1 (dZ j (s_.g.l.length:Int))) - 1)))) then ((dM (aP.mk s_.g s_.x s_.y s_.s s_.sX s_.sY s_.sS s_.waiting (IntKind.i64.wrap ((imax 1 (dZ i (s_.g.l.length:Int))) - 1)) (IntKind.i64.wrap ((imax 1 (dZ j (s_.g.l.length:Int))) - 1)) s_.aZ s_.title) 0 0).bind λO=>some (.inl O)) else some (.inl s_)))) else some (.inl s_)))))))))))))))))))))):Option (aP ⊕ (aP×(List aX)))).bind λ | .inl e753=>some (e753,([]:List aX)) | .inr w=>some w)))
def uT (s_:aP) (a:lA):Option (aP×(List aX)) :=
 (((bif (a.kind == 1) then ((rA s_ a.rune).bind λb=>(k9 (some (b.1,b.2)))) else (bif (a.kind == 2) then (bif (a.byte == 8) then ((dM s_ (IntKind.i64.wrap (s_.x - 1)) s_.y).bind λh=>(k9 (some (h,([]:List aX))))) else (bif (a.byte == 9) then ((dM s_ (IntKind.i64.wrap ((IntKind.i64.wrap ((IntKind.i64.wrap (s_.x.tdiv 8))*8))+8)) s_.y).bind λi=>(k9 (some (i,([]:List aX))))) else (((bif (a.byte == 10) then some (a.byte == 10) else (bif (a.byte == 11) then some (a.byte == 11) else some (a.byte == 12))):Option Bool).bind λj=>(bif j then ((iU s_).bind λc=>(k9 (some (c.1,c.2)))) else (bif (a.byte == 13) then ((dM s_ 0 s_.y).bind λk=>(k9 (some (k,([]:List aX))))) else some (.inl s_)))))) else (bif (a.kind == 3) then (bif (a.byte == 68) then ((iU s_).bind λd=>(k9 (some (d.1,d.2)))) else (bif (a.byte == 69) then ((iU (aP.mk s_.g 0 s_.y s_.s s_.sX s_.sY s_.sS s_.waiting s_.top s_.aL s_.aZ s_.title)).bind λe=>(k9 (some (e.1,e.2)))) else (bif (a.byte == 77) then (bif (s_.y == s_.top) then ((lB s_.s).bind λm=>((eQ s_.g false s_.top s_.aL 1 m).bind λn=>(k9 (some ((aP.mk n.1 s_.x s_.y s_.s s_.sX s_.sY s_.sS false s_.top s_.aL s_.aZ s_.title),([]:List aX)))))) else ((dM (aP.mk s_.g s_.x s_.y s_.s s_.sX s_.sY s_.sS false s_.top s_.aL s_.aZ s_.title) s_.x (IntKind.i64.wrap (s_.y - 1))).bind λo=>(k9 (some (o,([]:List aX)))))) else (bif (a.byte == 55) then some (.inl (aP.mk s_.g s_.x s_.y s_.s s_.x s_.y s_.s s_.waiting s_.top s_.aL s_.aZ s_.title)) else (bif (a.byte == 56) then ((dM (aP.mk s_.g s_.x s_.y s_.sS s_.sX s_.sY s_.sS s_.waiting s_.top s_.aL s_.aZ s_.title) s_.sX s_.sY).bind λp=>(k9 (some (p,([]:List aX))))) else (bif (a.byte == 99) then ((sR s_.g.w (s_.g.l.length:Int)).bind λq=>(k9 (some (q,([]:List aX))))) else some (.inl s_))))))) else (bif (a.kind == 4) then (bif (!a.eJ) then ((oK s_ a.byte a.bJ).bind λf=>(k9 (some (f.1,f.2)))) else ((((fP a.bJ 0 0).bind λr=>(bif (r == 7) then (bif (a.byte == 104) then some true else some (a.byte == 108)) else some false)):Option Bool).bind λt=>(bif t then some (.inl (aP.mk s_.g s_.x s_.y s_.s s_.sX s_.sY s_.sS s_.waiting s_.top s_.aL (a.byte == 104) s_.title)) else some (.inl s_)))) else (bif (a.kind == 5) then some (.inl (aP.mk s_.g s_.x s_.y s_.s s_.sX s_.sY s_.sS s_.waiting s_.top s_.aL s_.aZ a.text)) else some (.inl s_)))))):Option (aP ⊕ (aP×(List aX)))).bind λ | .inl e456=>some (e456,([]:List aX)) | .inr w=>some w)
def sT (a:lA):Option bB :=
 ((chk (eP ([]:List Int).length a.bJ.length 8)).bind λ_=>some (bB.mk a.kind (IntKind.i32.wrap a.rune) (IntKind.u8.wrap a.byte) a.eJ (([]:List Int)++a.bJ) a.text))
structure Ax where
 l:List (List uR)
 begun:List uR
 deriving DecidableEq,Inhabited
structure cJ where
 kind:Int
 text:ByteArray
 w:Int
 h:Int
 deriving DecidableEq,Inhabited
structure kO where
 s:aP
 b:Ax
 all:ByteArray
 PF:Int
 k:Int
 deriving DecidableEq,Inhabited
def oX (x:cJ):Prop:=(inK .i64) x.kind/\(λs:ByteArray=>s.size<=maxLen) x.text/\(inK .i64) x.w/\(inK .i64) x.h/\True
def mj (e:cJ):Option cJ :=
 ((oB e.text 60).bind λr3=>(((bif (decide (e.w > 10)) then some (decide (e.w<=1000)) else some false):Option Bool).bind λe9=>(((bif e9 then some (cJ.mk e.kind r3 10 e.h) else some (cJ.mk e.kind r3 e.w e.h)):Option cJ).bind λa=>(((bif (decide (a.h > 6)) then some (decide (a.h<=1000)) else some false):Option Bool).bind λb=>(((bif b then some (cJ.mk a.kind a.text a.w 6) else some a):Option cJ).bind λc=>some c)))))
def mQ:Option Bool :=
 ((nE (cE.mk 5 1 2)).bind λr1=>(Option.bind oA λf=>((nq 3 2).bind λg=>((fB g).bind λb=>((fN r1 b.1).bind λh=>((eI h.2 0).bind λd=>((iter (σ:=aV×Int) (ρ:=aV ⊕ Bool) (λa=>(bif (decide (a.2 < (d.1.length:Int))) then ((idx d.1 a.2).bind λi=>((cH a.1 i).bind λe=>(bif (e.1 != 0) then (lx (some false)) else some (.inl (e.2,(IntKind.i64.wrap (a.2+1))))))) else some (.inr (.inl a.1)))) (f,0)).bind λ | .inl e285=>((((kj e285).bind λj=>(bif (j == 1) then ((iP e285).bind λk=>((fB b.2).bind λc=>((iO k c.1).bind λl=>(bif l then ((eX e285).bind λm=>((fE m 0).bind λn=>some ((n == 1),c.2))) else some (false,c.2))))) else some (false,b.2))):Option (Bool×bC)).bind λo=>some o.1) | .inr w=>some w)))))))
def lG (events:List cJ) (part:Int) (drop:Int):Option Bool :=
 (Option.bind mQ λr1=>(bif (!r1) then some false else ((nq 6 3).bind λr6=>((nE (cE.mk (IntKind.i64.wrap (4+(Go.bits .and .i64 part 63))) 1 3)).bind λm=>(Option.bind oA λn=>((iter (σ:=bC×Int) (ρ:=bC) (λc=>(((bif (decide (c.2 < (events.length:Int))) then some (decide (c.2 < 8)) else some false):Option Bool).bind λo=>(bif o then ((idx events c.2).bind λp=>((mj p).bind λe=>((eE c.1 (kM.mk e.kind e.text e.w e.h)).bind λq=>some (.inl (q.2,(IntKind.i64.wrap (c.2+1))))))) else some (.inr c.1)))) (r6,0)).bind λr=>((fB r).bind λj=>((fN m j.1).bind λs=>((iter (σ:=aK×aV×Int) (ρ:=aK×aV) (λa=>(bif (decide (a.2.2 < 3)) then ((eI a.1 a.2.2).bind λg=>((iter (σ:=aV×Int) (ρ:=aV) (λb=>(bif (decide (b.2 < (g.1.length:Int))) then ((((idx g.1 b.2).bind λt=>(((bif (a.2.2 == 0) then some (b.2 == drop) else some false):Option Bool).bind λu=>(bif u then some b.1 else ((cH b.1 t).bind λv=>some v.2)))):Option aV).bind λx=>some (.inl (x,(IntKind.i64.wrap (b.2+1))))) else some (.inr b.1))) (a.2.1,0)).bind λk=>((eX k).bind λi=>((fE i 0).bind λy=>((fE i 1).bind λz=>((fW g.2 y z i.data).bind λA=>some (.inl (A.2,k,(IntKind.i64.wrap (a.2.2+1)))))))))) else some (.inr (a.1,a.2.1)))) (s.2,n,0)).bind λd=>((((iP d.2).bind λB=>((fB j.2).bind λf=>((iO B f.1).bind λC=>(bif C then ((kb d.1).bind λD=>((kj d.2).bind λE=>(bif (D == E) then ((eI d.1 9).bind λl=>some (((l.1.length:Int) == 0),l.2,f.2)) else some (false,d.1,f.2)))) else some (false,d.1,f.2))))):Option (Bool×aK×bC)).bind λF=>some F.1))))))))))
end Go.Tw.X
end

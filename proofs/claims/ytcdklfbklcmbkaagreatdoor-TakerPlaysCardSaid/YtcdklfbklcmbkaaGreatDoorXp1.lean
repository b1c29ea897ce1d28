import Derived.Test.YtcdklfbklcmbkaaGreatDoorFw2
set_option linter.unusedVariables false
set_option linter.unusedSimpArgs false
set_option maxRecDepth 10000
noncomputable section
namespace Go.Tw.X
open Go Go.Tw
structure bJ where
 b:List Int
 deriving DecidableEq,Inhabited
structure aI where
 s:ByteArray
 e:Int
 deriving DecidableEq,Inhabited
def ko (n_:Int):Option Int :=
 some n_
def lU (n_:Int):Option Int :=
 some (imax 0 (gG n_ 4611686018427387904))
def ir {σ:Type} (Y:σ->Int->Option (σ×Bool)) (y0:σ) (x1:Int):Option (σ×Int) :=
 ((lU x1).bind λr1=>((iter (σ:=Int×σ) (ρ:=(Int×σ) ⊕ (σ×Int)) (λa=>(bif (decide (a.1>=128)) then ((Y a.2 (Go.bits .or .u8 (Go.bits .and .u8 (IntKind.u8.wrap a.1) 127) 128)).bind λz68=>(bif (!z68.2) then (eJ (some (z68.1,a.1))) else some (.inl ((a.1.fdiv (2 ^ (min 7 64))),z68.1)))) else some (.inr (.inl (a.1,a.2))))) (r1,y0)).bind λ | .inl e53=>((Y e53.2 (IntKind.u8.wrap e53.1)).bind λz75=>some (z75.1,e53.1)) | .inr w=>some w))
def cB (o:bJ) (l:List Int):Option bJ :=
 ((iter (σ:=bJ×Int) (ρ:=bJ) (λa=>(bif (decide (a.2 < (l.length:Int))) then ((idx l a.2).bind λe=>((ko e).bind λf=>((ir (λc d=>((chk (fu c.b.length [d].length 1)).bind λ_=>some ((bJ.mk (c.b++[d])),true))) (a.1:bJ) f).bind λg=>some (.inl (g.1,(IntKind.i64.wrap (a.2+1))))))) else some (.inr a.1))) (o,0)).bind λh=>some h)
def eL (o:bJ) (l:List ByteArray):Option bJ :=
 ((iter (σ:=bJ×Int) (ρ:=bJ) (λa=>(bif (decide (a.2 < (l.length:Int))) then ((idx l a.2).bind λc=>((chk (fu a.1.b.length c.size 1)).bind λ_=>some (.inl ((bJ.mk (a.1.b++sbs c)),(IntKind.i64.wrap (a.2+1)))))) else some (.inr a.1))) (o,0)).bind λd=>some d)
def gJ (o:bJ) (l:List ByteArray):Option bJ :=
 ((iter (σ:=bJ×Int) (ρ:=bJ) (λa=>(bif (decide (a.2 < (l.length:Int))) then ((idx l a.2).bind λb=>((cB a.1 [(b.size:Int)]).bind λc=>((eL c [b]).bind λd=>some (.inl (d,(IntKind.i64.wrap (a.2+1))))))) else some (.inr a.1))) (o,0)).bind λe=>some e)
def eU (o:bJ):Option ByteArray :=
 some (cO o.b)
def oc (s_:ByteArray):Option aI :=
 some (aI.mk s_ 0)
def bB (in_:aI) (e:Int):Option aI :=
 (((bif (in_.e == 0) then some (e != 0) else some false):Option Bool).bind λe4=>(bif e4 then some (aI.mk (ByteArray.mk #[]) e) else some in_))
def bC (in_:aI):Option (Int×aI) :=
 ((iter (σ:=Int×Int) (ρ:=Unit ⊕ (Int×aI)) (λa=>(bif (decide (a.1 < (gG (in_.s.size:Int) 9))) then ((qo in_.s a.1).bind λb213=>((chk (shk (IntKind.i64.wrap (7*a.1)))).bind λ_=>(bif (decide (b213>=128)) then some (.inl ((IntKind.i64.wrap (a.1+1)),(Go.bits .or .i64 a.2 (IntKind.i64.wrap ((IntKind.i64.wrap (Go.bits .and .u8 b213 127))*2 ^ (min (IntKind.i64.wrap (7*a.1)).toNat 64)))))) else (((bif (decide (a.1 > 0)) then (bif (b213 == 0) then some true else some (decide ((Go.bits .or .i64 a.2 (IntKind.i64.wrap ((IntKind.i64.wrap (Go.bits .and .u8 b213 127))*2 ^ (min (IntKind.i64.wrap (7*a.1)).toNat 64)))) > 4611686018427387904))) else some (decide ((Go.bits .or .i64 a.2 (IntKind.i64.wrap ((IntKind.i64.wrap (Go.bits .and .u8 b213 127))*2 ^ (min (IntKind.i64.wrap (7*a.1)).toNat 64)))) > 4611686018427387904))):Option Bool).bind λb=>(bif b then ((bB in_ 1).bind λc=>(eJ (some (0,c)))) else ((chk (fE (IntKind.i64.wrap (a.1+1)) (in_.s.size:Int) in_.s.size)).bind λ_=>(eJ (some ((Go.bits .or .i64 a.2 (IntKind.i64.wrap ((IntKind.i64.wrap (Go.bits .and .u8 b213 127))*2 ^ (min (IntKind.i64.wrap (7*a.1)).toNat 64)))),(aI.mk (eK in_.s (IntKind.i64.wrap (a.1+1)) (in_.s.size:Int)) in_.e)))))))))) else some (.inr (.inl ())))) (0,0)).bind λ | .inl e176=>(((bif (decide ((in_.s.size:Int)>=9)) then ((bB in_ 1).bind λd=>some d) else some in_):Option aI).bind λf=>((bB f 2).bind λg=>some (0,g))) | .inr w=>some w)
def ji (in_:aI) (n_:Int):Option (ByteArray×aI) :=
 (bif (decide ((imax 0 n_) > (in_.s.size:Int))) then ((bB in_ 2).bind λr6=>some ((ByteArray.mk #[]),r6)) else ((chk (fE 0 (imax 0 n_) in_.s.size)).bind λ_=>((chk (fE (imax 0 n_) (in_.s.size:Int) in_.s.size)).bind λ_=>some ((eK in_.s 0 (imax 0 n_)),(aI.mk (eK in_.s (imax 0 n_) (in_.s.size:Int)) in_.e)))))
def hZ (in_:aI):Option (ByteArray×aI) :=
 ((bC in_).bind λr1=>((ji r1.2 r1.1).bind λr4=>some (r4.1,r4.2)))
def cI (in_:aI):Option Int :=
 some in_.e
def jj (in_:aI):Option Int :=
 (bif (!(in_.s.toList == (ByteArray.mk #[]).toList)) then some 1 else some in_.e)
structure fC where
 lead:Int
 rune:Int
 qZ:Int
 deriving DecidableEq,Inhabited
structure mW where
 first:Int
 last:Int
 qZ:Int
 low:Int
 high:Int
 deriving DecidableEq,Inhabited
def qY:List mW:=[⟨194,223,1,128,191⟩,⟨224,224,2,160,191⟩,⟨225,236,2,128,191⟩,⟨237,237,2,128,159⟩,⟨238,239,2,128,191⟩,⟨240,240,3,144,191⟩,⟨241,243,3,128,191⟩,⟨244,244,3,128,143⟩]
structure bX where
 addr:Bool
 buf:List Int
 deriving DecidableEq,Inhabited
structure iR where
 e0:Int
 e1:Int
 e2:Int
 deriving DecidableEq,Inhabited
def kq (x_:Int) (y:Int):Option (Int×Int) :=
 some ((IntKind.u64.wrap ((IntKind.u64.wrap ((IntKind.u64.wrap ((x_.fdiv (2 ^ (min 32 64)))*(y.fdiv (2 ^ (min 32 64)))))+((IntKind.u64.wrap ((IntKind.u64.wrap ((x_.fdiv (2 ^ (min 32 64)))*(Go.bits .and .u64 y 4294967295)))+((IntKind.u64.wrap ((Go.bits .and .u64 x_ 4294967295)*(Go.bits .and .u64 y 4294967295))).fdiv (2 ^ (min 32 64))))).fdiv (2 ^ (min 32 64)))))+((IntKind.u64.wrap ((Go.bits .and .u64 (IntKind.u64.wrap ((IntKind.u64.wrap ((x_.fdiv (2 ^ (min 32 64)))*(Go.bits .and .u64 y 4294967295)))+((IntKind.u64.wrap ((Go.bits .and .u64 x_ 4294967295)*(Go.bits .and .u64 y 4294967295))).fdiv (2 ^ (min 32 64))))) 4294967295)+(IntKind.u64.wrap ((Go.bits .and .u64 x_ 4294967295)*(y.fdiv (2 ^ (min 32 64))))))).fdiv (2 ^ (min 32 64))))),(IntKind.u64.wrap (x_*y)))
def kA (x_:Int) (y:Int):Option (Int×Int) :=
 ((kq x_ y).bind λr1=>some (r1.1,r1.2))
def cZ (b:bX) (s_:ByteArray):Option bX :=
 ((chk (fu b.buf.length s_.size 1)).bind λ_=>some (bX.mk true (b.buf++sbs s_)))
def gz (b:bX):Option ByteArray :=
 some (cO b.buf)
def gD (m_:Mp ByteArray):Option (Mp ByteArray) :=
 some m_
structure aF where
 rune:Int
 aM:Int
 part:Int
 deriving DecidableEq,Inhabited
structure aE where
 cells:List aF
 wrapped:Bool
 deriving DecidableEq,Inhabited
structure aG where
 rune:Int
 aM:Int
 deriving DecidableEq,Inhabited
def kB (n_:Int) (lo:Int) (hi:Int):Option Int :=
 some (imax lo (gG n_ hi))
def kZ (aM:Int):Option aF :=
 some (aF.mk 32 aM 0)
def cS (x_:List aF) (count:Int):Option (List aF) :=
 (bif (decide (count < 0)) then none else ((kA (IntKind.u64.wrap (x_.length:Int)) (IntKind.u64.wrap count)).bind λr3=>(((bif (decide (r3.1 > 0)) then some true else some (decide (r3.2 > 9223372036854775807))):Option Bool).bind λe9=>(bif e9 then none else ((chk (oU (IntKind.i64.wrap r3.2) 24)).bind λ_=>((iter (σ:=(List aF)×Int) (ρ:=(List aF)) (λa=>(bif (decide (a.2 < (a.1.length:Int))) then ((chk (fE a.2 (a.1.length:Int) a.1.length)).bind λ_=>((chk (fE 0 a.2 a.1.length)).bind λ_=>some (.inl ((qW a.1 a.2.toNat),(IntKind.i64.wrap (a.2+((Nat.min a.2.toNat (a.1.length - a.2.toNat):Nat):Int))))))) else some (.inr a.1))) ((cpy (List.replicate (IntKind.i64.wrap r3.2).toNat (aF.mk 0 0 0)) x_),((Nat.min x_.length (List.replicate (IntKind.i64.wrap r3.2).toNat (aF.mk 0 0 0)).length:Nat):Int))).bind λb=>some b))))))
def jk (n_:Int) (aM:Int):Option (List aF) :=
 ((kZ aM).bind λr1=>((cS [r1] (imax 0 n_)).bind λr7=>some r7))
def jb (w:Int) (aM:Int):Option aE :=
 ((kB w 0 1000).bind λr2=>((jk r2 aM).bind λr5=>some (aE.mk r5 false)))
def dE (s_:List aF):Option (List aF) :=
 ((chk (fu ([]:List aF).length s_.length 24)).bind λ_=>some (([]:List aF)++s_))
def eF (s1_:List aF) (s2_:List aF):Option Bool :=
 (bif ((s1_.length:Int) != (s2_.length:Int)) then some false else ((iter (σ:=Int) (ρ:=Unit ⊕ Bool) (λa=>(bif (decide (a < (s1_.length:Int))) then ((idx s1_ a).bind λb=>((idx s2_ a).bind λc=>(bif (!((b.rune == c.rune) && ((b.aM == c.aM) && ((b.part == c.part) && true)))) then (eJ (some false)) else some (.inl (IntKind.i64.wrap (a+1)))))) else some (.inr (.inl ())))) 0).bind λ | .inl e355=>some true | .inr w=>some w))
def fm (r_:aE) (q:aE):Option Bool :=
 (((bif (r_.wrapped == q.wrapped) then ((eF r_.cells q.cells).bind λa=>some a) else some false):Option Bool).bind λb=>some b)
def cE (s1_:List aE) (s2_:List aE):Option Bool :=
 (bif ((s1_.length:Int) != (s2_.length:Int)) then some false else ((iter (σ:=Int) (ρ:=Unit ⊕ Bool) (λa=>(bif (decide (a < (s1_.length:Int))) then ((idx s1_ a).bind λb=>((idx s2_ a).bind λc=>((fm b c).bind λd=>(bif (!d) then (eJ (some false)) else some (.inl (IntKind.i64.wrap (a+1))))))) else some (.inr (.inl ())))) 0).bind λ | .inl e169=>some true | .inr w=>some w))
def cC (s_:List aG):Option (List aG) :=
 ((chk (fu ([]:List aG).length s_.length 16)).bind λ_=>some (([]:List aG)++s_))
def dV (s1_:List aG) (s2_:List aG):Option Bool :=
 (bif ((s1_.length:Int) != (s2_.length:Int)) then some false else ((iter (σ:=Int) (ρ:=Unit ⊕ Bool) (λa=>(bif (decide (a < (s1_.length:Int))) then ((idx s1_ a).bind λb=>((idx s2_ a).bind λc=>(bif (!((b.rune == c.rune) && ((b.aM == c.aM) && true))) then (eJ (some false)) else some (.inl (IntKind.i64.wrap (a+1)))))) else some (.inr (.inl ())))) 0).bind λ | .inl e355=>some true | .inr w=>some w))
def cT:List Int:=[0,498536548,997073096,651767980,1994146192,1802195444,1303535960,1342533948,3988292384,4027552580,3604390888,3412177804,2607071920,2262029012,2685067896,3183342108]
def jI (x_:Int) (b:Int):Option Int :=
 ((idx cT (Go.bits .and .u32 (Go.bits .xor .u32 x_ (IntKind.u32.wrap b)) 15)).bind λx1=>((idx cT (Go.bits .and .u32 (Go.bits .xor .u32 ((Go.bits .xor .u32 x_ (IntKind.u32.wrap b)).fdiv (2 ^ (min 4 32))) x1) 15)).bind λx5=>some (Go.bits .xor .u32 ((Go.bits .xor .u32 ((Go.bits .xor .u32 x_ (IntKind.u32.wrap b)).fdiv (2 ^ (min 4 32))) x1).fdiv (2 ^ (min 4 32))) x5)))
def mC (l:List ByteArray):Option Int :=
 ((iter (σ:=Int×Int) (ρ:=Int) (λa=>(bif (decide (a.2 < (l.length:Int))) then ((idx l a.2).bind λc=>((iter (σ:=Int×Int) (ρ:=Int) (λb=>(bif (decide (b.1 < (c.size:Int))) then ((qo c b.1).bind λb642=>((jI b.2 b642).bind λd=>some (.inl ((IntKind.i64.wrap (b.1+1)),d)))) else some (.inr b.2))) (0,a.1)).bind λe=>some (.inl (e,(IntKind.i64.wrap (a.2+1)))))) else some (.inr a.1))) (4294967295,0)).bind λf=>some (Go.bits .xor .u32 4294967295 f))
structure fZ where
 l:List (List aG)
 ff:List Int
 begun:List aG
 deriving DecidableEq,Inhabited
def lV:Option fZ :=
 some (fZ.mk ([]:List (List aG)) [0] ([]:List aG))
def gW (b:fZ):Option Int :=
 some (b.l.length:Int)
def gg (b:fZ) (n_:Int):Option Int :=
 ((idx b.ff (imax 0 (gG n_ (b.l.length:Int)))).bind λa=>some a)
def gj (b:fZ):Option (List aG) :=
 ((cC b.begun).bind λr1=>some r1)
def jc (l:List aG):Option ByteArray :=
 ((cB (bJ.mk ([]:List Int)) [(l.length:Int)]).bind λr6=>((iter (σ:=bJ×Int) (ρ:=bJ) (λa=>(bif (decide (a.2 < (l.length:Int))) then ((idx l a.2).bind λb=>((cB a.1 [(IntKind.i64.wrap b.rune),b.aM]).bind λc=>some (.inl (c,(IntKind.i64.wrap (a.2+1)))))) else some (.inr a.1))) (r6,0)).bind λd=>((eU d).bind λe=>some e)))
def eO (in_:aI) (most:Int):Option (Int×aI) :=
 ((bC in_).bind λr1=>(bif (decide (r1.1 > most)) then ((bB r1.2 1).bind λr9=>some (0,r9)) else some (r1.1,r1.2)))
def jd (in_:aI):Option ((List aG)×aI) :=
 ((eO in_ 1024).bind λr1=>((iter (σ:=aI×(List aG)×Int) (ρ:=(List aG)×aI) (λa=>(bif (decide (a.2.2 < r1.1)) then ((eO a.1 1114111).bind λc=>((eO c.2 647).bind λd=>((chk (fu a.2.1.length [(aG.mk (IntKind.i32.wrap c.1) d.1)].length 16)).bind λ_=>some (.inl (d.2,(a.2.1++[(aG.mk (IntKind.i32.wrap c.1) d.1)]),(IntKind.i64.wrap (a.2.2+1))))))) else some (.inr (a.2.1,a.1)))) (r1.2,[],0)).bind λb=>((cI b.2).bind λe=>(bif (e != 0) then some (([]:List aG),b.2) else some (b.1,b.2)))))
structure cN where
 w:Int
 l:List aE
 deriving DecidableEq,Inhabited
def k6 (n_:Int) (lo:Int) (hi:Int):Option Int :=
 some (imax lo (gG n_ hi))
def je (n_:Int):Option Int :=
 ((k6 n_ 1 1000).bind λr1=>some r1)
def kC (w:Int) (h_:Int):Option cN :=
 ((je w).bind λr1=>((je h_).bind λr5=>((iter (σ:=cN×Int) (ρ:=cN) (λa=>(bif (decide (a.2 < r5)) then ((jb a.1.w 0).bind λb=>((chk (fu a.1.l.length [b].length 32)).bind λ_=>some (.inl ((cN.mk a.1.w (a.1.l++[b])),(IntKind.i64.wrap (a.2+1)))))) else some (.inr a.1))) ((cN.mk r1 ([]:List aE)),0)).bind λc=>some c)))
def kD (r_:aE):Option aE :=
 ((dE r_.cells).bind λa=>some (aE.mk a r_.wrapped))
def fH (g:cN):Option (Int×Int) :=
 some (g.w,(g.l.length:Int))
def jm (l:List aE):Option (List aE) :=
 some l
def fI {σ:Type} (Y:σ->aE->Option (σ×Bool)) (y0:σ) (x1:List aE):Option σ :=
 ((iter (σ:=Int×σ) (ρ:=σ ⊕ σ) (λa=>(bif (decide (a.1 < (x1.length:Int))) then ((idx x1 a.1).bind λb=>((kD b).bind λc=>((Y a.2 c).bind λz184=>(bif (!z184.2) then (eJ (some z184.1)) else some (.inl ((IntKind.i64.wrap (a.1+1)),z184.1)))))) else some (.inr (.inl a.2)))) (0,y0)).bind λ | .inl e139=>some e139 | .inr w=>some w)
def fJ (l:List aE):Option ((List aE)×(List aE)) :=
 ((jm l).bind λr2=>((fI (λs40 x9=>((chk (fu s40.length [x9].length 32)).bind λ_=>some ((s40++[x9]),true))) ([]:(List aE)) r2).bind λa=>some (a,r2)))
def gK (g:cN):Option ((List aE)×cN) :=
 ((fJ g.l).bind λr1=>((chk (decide (r1.2.length=g.l.length))).bind λ_=>some (r1.1,(cN.mk g.w r1.2))))
def gk (g:cN):Option (cN×cN) :=
 ((fJ g.l).bind λa=>((chk (decide (a.2.length=g.l.length))).bind λ_=>some ((cN.mk g.w a.1),(cN.mk g.w a.2))))
structure iA where
 kind:Int
 rune:Int
 byte:Int
 ka:Bool
 bW:List Int
 text:ByteArray
 deriving DecidableEq,Inhabited
structure iH where
 ka:Bool
 qq:Bool
 any:Bool
 some:Bool
 n:Int
 bW:List Int
 deriving DecidableEq,Inhabited
structure bV where
 state:Int
 order:iH
 text:ByteArray
 jF:fC
 out:List iA
 deriving DecidableEq,Inhabited
structure kE where
 AE:Int
 back:Int
 bold:Bool
 under:Bool
 pT:Bool
 deriving DecidableEq,Inhabited
structure lW where
 x:Int
 y:Int
 aM:kE
 deriving DecidableEq,Inhabited
structure aT where
 g:cN
 spot:lW
 saved:lW
 waiting:Bool
 top:Int
 iX:Int
 lD:Bool
 title:ByteArray
 deriving DecidableEq,Inhabited
def jn (w:Int) (h_:Int):Option aT :=
 ((kC w h_).bind λr1=>((fH r1).bind λr9=>some (aT.mk r1 (lW.mk 0 0 (kE.mk 0 0 false false false)) (lW.mk 0 0 (kE.mk 0 0 false false false)) false 0 (IntKind.i64.wrap (r9.2 - 1)) true (ByteArray.mk #[]))))
def fp (s_:aT):Option (cN×aT) :=
 ((gk s_.g).bind λr1=>some (r1.1,(aT.mk r1.2 s_.spot s_.saved s_.waiting s_.top s_.iX s_.lD s_.title)))
def fS (s_:aT):Option ByteArray :=
 some s_.title
def fD (s_:aT):Option (Int×Int) :=
 some (s_.spot.x,s_.spot.y)
structure aC where
 k:Int
 w:Int
 h:Int
 x:Int
 y:Int
 title:ByteArray
 rows:List aE
 len:Int
 chain:Int
 begun:List aG
 deriving DecidableEq,Inhabited
def mX (k:Int) (s_:aT) (b:fZ):Option (aC×aT) :=
 ((fp (aT.mk s_.g s_.spot s_.saved s_.waiting s_.top s_.iX s_.lD s_.title)).bind λr2=>((fS (aT.mk r2.2.g r2.2.spot r2.2.saved r2.2.waiting r2.2.top r2.2.iX r2.2.lD r2.2.title)).bind λe=>((gK r2.1).bind λa=>((gW b).bind λf=>((gW b).bind λh=>((gg b h).bind λi=>((gj b).bind λj=>((fH a.2).bind λc=>((fD (aT.mk r2.2.g r2.2.spot r2.2.saved r2.2.waiting r2.2.top r2.2.iX r2.2.lD r2.2.title)).bind λd=>some ((aC.mk k c.1 c.2 d.1 d.2 e a.1 f i j),(aT.mk r2.2.g r2.2.spot r2.2.saved r2.2.waiting r2.2.top r2.2.iX r2.2.lD r2.2.title)))))))))))
def eP (s_:aC):Option Bool :=
 (((bif (s_.k == 0) then (bif (s_.w == 0) then (bif (s_.h == 0) then (bif (s_.x == 0) then (bif (s_.y == 0) then (bif (s_.title.toList == (ByteArray.mk #[]).toList) then (bif ((s_.rows.length:Int) == 0) then (bif (s_.len == 0) then (bif (s_.chain == 0) then some ((s_.begun.length:Int) == 0) else some false) else some false) else some false) else some false) else some false) else some false) else some false) else some false) else some false):Option Bool).bind λa=>some a)
def cW (n_:Int) (lo:Int) (hi:Int):Option Bool :=
 (((bif (decide (n_>=lo)) then some (decide (n_<=hi)) else some false):Option Bool).bind λe4=>some e4)
def gm (s_:aC):Option Bool :=
 ((((cW s_.k 1 1152921504606846976).bind λa=>(bif a then ((cW s_.w 1 1000).bind λb=>(bif b then ((cW s_.h 1 1000).bind λc=>(bif c then ((cW s_.x 0 (IntKind.i64.wrap (s_.w - 1))).bind λd=>(bif d then ((cW s_.y 0 (IntKind.i64.wrap (s_.h - 1))).bind λe=>(bif e then (bif ((s_.rows.length:Int) == s_.h) then (bif (decide ((s_.title.size:Int)<=200)) then ((cW s_.len 0 1152921504606846976).bind λf=>(bif f then ((cW s_.chain 0 281474976710656).bind λg=>(bif g then some (decide ((s_.begun.length:Int)<=1024)) else some false)) else some false)) else some false) else some false) else some false)) else some false)) else some false)) else some false)) else some false)):Option Bool).bind λi=>some i)
def iB (r_:Int) (aM:Int):Option Bool :=
 ((((cW (IntKind.i64.wrap r_) 0 1114111).bind λa=>(bif a then ((cW aM 0 647).bind λb=>some b) else some false)):Option Bool).bind λc=>some c)
def fy (g:aG):Option Bool :=
 ((iB g.rune g.aM).bind λr2=>some (!r2))
def cG (s_:List aG):Option Int :=
 ((iter (σ:=Int) (ρ:=Unit ⊕ Int) (λa=>(bif (decide (a < (s_.length:Int))) then ((idx s_ a).bind λb=>((fy b).bind λc=>(bif c then (eJ (some a)) else some (.inl (IntKind.i64.wrap (a+1)))))) else some (.inr (.inl ())))) 0).bind λ | .inl e77=>some (-1) | .inr w=>some w)
def bR (s_:List aG):Option Bool :=
 ((cG s_).bind λr1=>some (decide (r1>=0)))
def jS (c:aF):Option Bool :=
 ((((iB c.rune c.aM).bind λa=>(bif a then ((cW c.part 0 3).bind λb=>some b) else some false)):Option Bool).bind λd=>some d)
def fz (c:aF):Option Bool :=
 ((jS c).bind λr2=>some (!r2))
def cJ (s_:List aF):Option Int :=
 ((iter (σ:=Int) (ρ:=Unit ⊕ Int) (λa=>(bif (decide (a < (s_.length:Int))) then ((idx s_ a).bind λb=>((fz b).bind λc=>(bif c then (eJ (some a)) else some (.inl (IntKind.i64.wrap (a+1)))))) else some (.inr (.inl ())))) 0).bind λ | .inl e77=>some (-1) | .inr w=>some w)
def bF (s_:List aF):Option Bool :=
 ((cJ s_).bind λr1=>some (decide (r1>=0)))
def cX (s_:aC):Option Int :=
 ((eP s_).bind λr2=>(bif r2 then some 0 else ((((gm s_).bind λc=>(bif (!c) then some true else ((bR s_.begun).bind λd=>some d))):Option Bool).bind λe=>(bif e then some 1 else ((iter (σ:=Int) (ρ:=Unit ⊕ Int) (λa=>(bif (decide (a < (s_.rows.length:Int))) then ((idx s_.rows a).bind λb=>(((bif ((b.cells.length:Int) != s_.w) then some true else ((bF b.cells).bind λf=>some f)):Option Bool).bind λg=>(bif g then (eJ (some 1)) else some (.inl (IntKind.i64.wrap (a+1)))))) else some (.inr (.inl ())))) 0).bind λ | .inl e212=>some 0 | .inr w=>some w)))))
def lX (is:Bool):Option Int :=
 (bif is then some 1 else some 0)
def k7 (l:List aF):Option (List aF) :=
 some l
def jP {σ:Type} (Y:σ->(Int×aF)->Option (σ×Bool)) (y0:σ) (x1:List aF):Option (σ×(List aF)) :=
 ((iter (σ:=(List aF)×σ) (ρ:=((List aF)×σ) ⊕ (σ×(List aF))) (λa=>(bif (decide ((a.1.length:Int) > 0)) then ((iter (σ:=Int) (ρ:=Int) (λb=>(((bif (decide (b < (a.1.length:Int))) then ((idx a.1 b).bind λc=>((idx a.1 0).bind λd=>some ((c.rune == d.rune) && ((c.aM == d.aM) && ((c.part == d.part) && true))))) else some false):Option Bool).bind λf=>(bif f then some (.inl (IntKind.i64.wrap (b+1))) else some (.inr b)))) 1).bind λe=>((idx a.1 0).bind λg=>((Y a.2 (e,g)).bind λz1399=>(bif (!z1399.2) then (eJ (some (z1399.1,a.1))) else ((chk (fE e (a.1.length:Int) a.1.length)).bind λ_=>some (.inl ((cut a.1 e (a.1.length:Int)),z1399.1))))))) else some (.inr (.inl (a.1,a.2))))) (x1,y0)).bind λ | .inl e1058=>some (e1058.2,e1058.1) | .inr w=>some w)
def fO (r_:aE):Option ByteArray :=
 ((lX r_.wrapped).bind λr3=>((cB (bJ.mk ([]:List Int)) [r3]).bind λb=>((k7 r_.cells).bind λc=>((jP (λd a=>((cB d [a.1,(IntKind.i64.wrap a.2.rune),a.2.aM,a.2.part]).bind λe=>some (e,true))) (b:bJ) c).bind λf=>((eU f.1).bind λg=>some g)))))
def fK (s_:aC):Option ByteArray :=
 ((((eP s_).bind λb=>(bif b then some true else ((cX s_).bind λc=>some (c != 0)))):Option Bool).bind λd=>(bif d then some (ByteArray.mk #[]) else ((cB (bJ.mk ([]:List Int)) [s_.k,s_.w,s_.h,s_.x,s_.y]).bind λe=>((gJ e [s_.title]).bind λf=>((cB f [s_.len,s_.chain]).bind λg=>((jc s_.begun).bind λi=>((eL g [i]).bind λj=>((iter (σ:=bJ×Int) (ρ:=bJ) (λa=>(bif (decide (a.2 < (s_.rows.length:Int))) then ((idx s_.rows a.2).bind λl=>((fO l).bind λm=>((eL a.1 [m]).bind λn=>some (.inl (n,(IntKind.i64.wrap (a.2+1))))))) else some (.inr a.1))) (j,0)).bind λo=>((eU o).bind λp=>some p)))))))))
def pw (in_:aI):Option (Int×aI) :=
 ((bC in_).bind λr1=>(bif (decide (r1.1 > 1000)) then ((bB r1.2 1).bind λr9=>some (0,r9)) else some (r1.1,r1.2)))
def jJ (in_:aI) (left:Int):Option (Int×aF×Bool×aI) :=
 ((bC in_).bind λr2=>(((bif (r2.1 == 0) then some true else some (decide (r2.1 > left))):Option Bool).bind λe8=>(((bif e8 then ((bB r2.2 1).bind λf=>some f) else some r2.2):Option aI).bind λc=>((iter (σ:=iR×aI×Int) (ρ:=iR×aI) (λa=>(bif (decide (a.2.2 < 3)) then ((((idx [1114111,647,3] a.2.2).bind λg=>((bC a.2.1).bind λb=>((chk (yu a.2.2 3)).bind λ_=>((chk (yu a.2.2 3)).bind λ_=>((idx [(sel a.2.2 0 b.1 a.1.e0),(sel a.2.2 1 b.1 a.1.e1),(sel a.2.2 2 b.1 a.1.e2)] a.2.2).bind λh=>(bif (decide (h > g)) then ((bB b.2 1).bind λi=>some ((iR.mk (sel a.2.2 0 b.1 a.1.e0) (sel a.2.2 1 b.1 a.1.e1) (sel a.2.2 2 b.1 a.1.e2)),i)) else some ((iR.mk (sel a.2.2 0 b.1 a.1.e0) (sel a.2.2 1 b.1 a.1.e1) (sel a.2.2 2 b.1 a.1.e2)),b.2))))))):Option (iR×aI)).bind λe=>some (.inl (e.1,e.2,(IntKind.i64.wrap (a.2.2+1))))) else some (.inr (a.1,a.2.1)))) ((iR.mk 0 0 0),c,0)).bind λd=>((cI d.2).bind λj=>(bif (j != 0) then some (0,(aF.mk 0 0 0),false,d.2) else some (r2.1,(aF.mk (IntKind.i32.wrap d.1.e0) d.1.e1 d.1.e2),true,d.2)))))))
def gL (in_:aI) (w:Int):Option (aE×aI) :=
 ((bC in_).bind λr2=>(((bif (decide (r2.1 > 1)) then ((bB r2.2 1).bind λf=>some f) else some r2.2):Option aI).bind λg=>((iter (σ:=aI×(List aF)) (ρ:=(List aF)×aI) (λa=>(((bif (decide ((a.2.length:Int) < w)) then ((cI a.1).bind λh=>some (h == 0)) else some false):Option Bool).bind λi=>(bif i then ((jJ a.1 (IntKind.i64.wrap (w - (a.2.length:Int)))).bind λb=>(bif (!b.2.2.1) then some (.inl (b.2.2.2,a.2)) else (((bif (decide ((a.2.length:Int) > 0)) then ((idx a.2 (IntKind.i64.wrap ((a.2.length:Int) - 1))).bind λd=>some ((d.rune == b.2.1.rune) && ((d.aM == b.2.1.aM) && ((d.part == b.2.1.part) && true)))) else some false):Option Bool).bind λj=>(bif j then ((bB b.2.2.2 1).bind λk=>some (.inl (k,a.2))) else ((cS [b.2.1] b.1).bind λe=>((chk (fu a.2.length e.length 24)).bind λ_=>some (.inl (b.2.2.2,(a.2++e))))))))) else some (.inr (a.2,a.1))))) (g,[])).bind λc=>((cI c.2).bind λl=>(bif (l != 0) then some ((aE.mk ([]:List aF) false),c.2) else some ((aE.mk c.1 (r2.1 == 1)),c.2))))))
def fL (s_:aC) (t_:aC):Option Bool :=
 (((bif (s_.k == t_.k) then (bif (s_.w == t_.w) then (bif (s_.h == t_.h) then (bif (s_.x == t_.x) then (bif (s_.y == t_.y) then (bif (s_.title.toList == t_.title.toList) then (bif (s_.len == t_.len) then (bif (s_.chain == t_.chain) then ((cE s_.rows t_.rows).bind λa=>(bif a then ((dV s_.begun t_.begun).bind λb=>some b) else some false)) else some false) else some false) else some false) else some false) else some false) else some false) else some false) else some false):Option Bool).bind λc=>some c)
def dT (s_:aC):Option aC :=
 ((iter (σ:=(List aE)×Int) (ρ:=(List aE)) (λa=>(bif (decide (a.2 < (s_.rows.length:Int))) then ((idx s_.rows a.2).bind λb=>((dE b.cells).bind λc=>((chk (fu a.1.length [(aE.mk c b.wrapped)].length 32)).bind λ_=>some (.inl ((a.1++[(aE.mk c b.wrapped)]),(IntKind.i64.wrap (a.2+1))))))) else some (.inr a.1))) ([],0)).bind λd=>((cC s_.begun).bind λe=>some (aC.mk s_.k s_.w s_.h s_.x s_.y s_.title d s_.len s_.chain e)))
def fV (s_:aC):Option Int :=
 ((fK s_).bind λr2=>((mC [r2]).bind λr7=>some (IntKind.i64.wrap r7)))
structure aZ where
 sum:Int
 to:aC
 rows:Mp aE
 deriving DecidableEq,Inhabited
def gn (s_:aC):Option Bool :=
 ((fK s_).bind λr2=>some (!(r2.toList == (ByteArray.mk #[]).toList)))
def fW (a:aC) (b:aC):Option (aC×aC) :=
 some (b,a)
def fh (s_:aC) (y:Int):Option (aE×Bool) :=
 (((bif (decide (y < 0)) then some true else some (decide (y>=(s_.rows.length:Int)))):Option Bool).bind λe6=>(bif e6 then some ((aE.mk ([]:List aF) false),false) else ((idx s_.rows y).bind λa=>some (a,true))))
def eQ {σ:Type} (Y:σ->(Int×aE)->Option (σ×Bool)) (y0:σ) (x1:aC) (x2:aC):Option σ :=
 ((iter (σ:=Int×σ) (ρ:=σ ⊕ σ) (λa=>(bif (decide (a.1 < (x1.rows.length:Int))) then ((((idx x1.rows a.1).bind λb=>((fh x2 a.1).bind λc=>(((bif c.2 then ((fm c.1 b).bind λd=>some d) else some false):Option Bool).bind λe=>(bif e then some (.inl a.2) else ((Y a.2 (a.1,b)).bind λz546=>(bif (!z546.2) then (my (eJ (some z546.1))) else some (.inl z546.1))))))):Option (σ ⊕ ((Int×σ) ⊕ (σ ⊕ σ)))).bind λ | .inl e506=>some (.inl ((IntKind.i64.wrap (a.1+1)),e506)) | .inr w=>some w) else some (.inr (.inl a.2)))) (0,y0)).bind λ | .inl e412=>some e412 | .inr w=>some w)
def gX (a:aC) (b:aC):Option (List Int) :=
 ((fW a b).bind λr4=>((eQ (λc d=>((chk (fu c.length [d.1].length 8)).bind λ_=>some ((c++[d.1]),true))) ([]:(List Int)) r4.1 r4.2).bind λe=>some e))
def jq (a:aC) (b:aC):Option ByteArray :=
 ((((cX a).bind λf=>(bif (f != 0) then some true else ((gn b).bind λc=>some (!c)))):Option Bool).bind λg=>(bif g then some (ByteArray.mk #[]) else ((fV a).bind λi=>((cB (bJ.mk ([]:List Int)) [i,b.k,b.w,b.h,b.x,b.y]).bind λj=>((gJ j [b.title]).bind λl=>((cB l [b.len,b.chain]).bind λm=>((jc b.begun).bind λn=>((eL m [n]).bind λo=>((gX a b).bind λp=>((cB o [(p.length:Int)]).bind λq=>((fW a b).bind λd=>((eQ (λr e=>((cB r [e.1]).bind λs=>((fO e.2).bind λt=>((eL s [t]).bind λu=>some (u,true))))) (q:bJ) d.1 d.2).bind λv=>((eU v).bind λz=>some z)))))))))))))
def gS (in_:aI):Option (Int×aI) :=
 ((bC in_).bind λr1=>(bif (decide (r1.1 > 1000)) then ((bB r1.2 1).bind λr9=>some (0,r9)) else some (r1.1,r1.2)))
def jr (s_:ByteArray):Option (aZ×Int) :=
 ((oc s_).bind λr2=>((bC r2).bind λr6=>((bC r6.2).bind λd=>((gS d.2).bind λe=>((gS e.2).bind λf=>((bC f.2).bind λg=>((bC g.2).bind λi=>((hZ i.2).bind λj=>((bC j.2).bind λl=>((bC l.2).bind λm=>((jd m.2).bind λn=>((bC n.2).bind λo=>((iter (σ:=aZ×aI×Int×Int) (ρ:=aI×aZ) (λa=>(((bif (decide (a.2.2.2 > 0)) then ((cI a.2.1).bind λq=>some (q == 0)) else some false):Option Bool).bind λr=>(bif r then ((bC a.2.1).bind λc=>(((bif (decide (c.1<=a.2.2.1)) then some true else some (decide (c.1>=a.1.to.h))):Option Bool).bind λs=>(((bif s then ((bB c.2 1).bind λt=>some t) else some c.2):Option aI).bind λu=>((gL u a.1.to.w).bind λp=>((chk a.1.rows.isSome).bind λ_=>some (.inl ((aZ.mk a.1.sum (aC.mk a.1.to.k a.1.to.w a.1.to.h a.1.to.x a.1.to.y a.1.to.title ([]:List aE) a.1.to.len a.1.to.chain a.1.to.begun) (yv a.1.rows c.1 p.1)),p.2,c.1,(IntKind.i64.wrap (a.2.2.2 - 1))))))))) else some (.inr (a.2.1,(aZ.mk a.1.sum (aC.mk a.1.to.k a.1.to.w a.1.to.h a.1.to.x a.1.to.y a.1.to.title ([]:List aE) a.1.to.len a.1.to.chain a.1.to.begun) a.1.rows)))))) ((aZ.mk r6.1 (aC.mk d.1 e.1 f.1 g.1 i.1 j.1 ([]:List aE) l.1 m.1 n.1) (some []:Mp aE)),o.2,(-1),o.1)).bind λb=>((jj b.1).bind λv=>some ((aZ.mk b.2.sum (aC.mk b.2.to.k b.2.to.w b.2.to.h b.2.to.x b.2.to.y b.2.to.title ([]:List aE) b.2.to.len b.2.to.chain b.2.to.begun) b.2.rows),v)))))))))))))))
def dP (p:aZ) (a:aC):Option (Bool×aZ) :=
 ((iter (σ:=aZ×Int) (ρ:=aZ ⊕ (Bool×aZ)) (λb=>(bif (decide (b.2 < p.to.h)) then ((fh a b.2).bind λc=>(((((bif (kU b.1.rows b.2) then (bif c.2 then ((fm c.1 (mgd b.1.rows b.2 (aE.mk ([]:List aF) false))).bind λe=>some e) else some false) else some false):Option Bool).bind λd=>(((bif d then some d else (bif (!(kU b.1.rows b.2)) then some (!c.2) else some false)):Option Bool).bind λf=>(bif f then (my (eJ (some (false,(aZ.mk b.1.sum (aC.mk b.1.to.k b.1.to.w b.1.to.h b.1.to.x b.1.to.y b.1.to.title b.1.to.rows b.1.to.len b.1.to.chain b.1.to.begun) b.1.rows))))) else (bif (!(kU b.1.rows b.2)) then some (.inl c.1) else some (.inl (mgd b.1.rows b.2 (aE.mk ([]:List aF) false))))))):Option (aE ⊕ ((aZ×Int) ⊕ (aZ ⊕ (Bool×aZ))))).bind λ | .inl e1033=>((chk (fu b.1.to.rows.length [e1033].length 32)).bind λ_=>some (.inl ((aZ.mk b.1.sum (aC.mk b.1.to.k b.1.to.w b.1.to.h b.1.to.x b.1.to.y b.1.to.title (b.1.to.rows++[e1033]) b.1.to.len b.1.to.chain b.1.to.begun) b.1.rows),(IntKind.i64.wrap (b.2+1))))) | .inr w=>some w)) else some (.inr (.inl (aZ.mk b.1.sum (aC.mk b.1.to.k b.1.to.w b.1.to.h b.1.to.x b.1.to.y b.1.to.title b.1.to.rows b.1.to.len b.1.to.chain b.1.to.begun) b.1.rows))))) (p,0)).bind λ | .inl e816=>((gn (aC.mk e816.to.k e816.to.w e816.to.h e816.to.x e816.to.y e816.to.title e816.to.rows e816.to.len e816.to.chain e816.to.begun)).bind λg=>some (g,(aZ.mk e816.sum (aC.mk e816.to.k e816.to.w e816.to.h e816.to.x e816.to.y e816.to.title e816.to.rows e816.to.len e816.to.chain e816.to.begun) e816.rows))) | .inr w=>some w)
def ib (a:aC) (s_:ByteArray):Option (aC×Int) :=
 ((cX a).bind λr3=>(bif (r3 != 0) then some ((aC.mk 0 0 0 0 0 (ByteArray.mk #[]) ([]:List aE) 0 0 ([]:List aG)),1) else ((jr s_).bind λb=>(bif (b.2 != 0) then some ((aC.mk 0 0 0 0 0 (ByteArray.mk #[]) ([]:List aE) 0 0 ([]:List aG)),b.2) else ((fV a).bind λd=>(bif (b.1.sum != d) then some ((aC.mk 0 0 0 0 0 (ByteArray.mk #[]) ([]:List aE) 0 0 ([]:List aG)),7) else ((dP b.1 a).bind λc=>(bif (!c.1) then some ((aC.mk 0 0 0 0 0 (ByteArray.mk #[]) ([]:List aE) 0 0 ([]:List aG)),1) else ((dT c.2.to).bind λe=>some (e,0))))))))))
structure bY where
 kn:Int
 kind:Int
 bW:List Int
 data:ByteArray
 deriving DecidableEq,Inhabited
def ll (n_:Int) (lo:Int) (hi:Int):Option Bool :=
 (((bif (decide (n_>=lo)) then some (decide (n_<=hi)) else some false):Option Bool).bind λe4=>some e4)
def kj (g:bY) (i:Int):Option Int :=
 ((ll i 0 (IntKind.i64.wrap ((g.bW.length:Int) - 1))).bind λr2=>(bif (!r2) then some 0 else ((idx g.bW i).bind λx7=>some x7)))
structure dJ where
 book:fZ
 parser:bV
 bP:aT
 k:Int
 deriving DecidableEq,Inhabited
def jT (w:Int) (h_:Int):Option dJ :=
 (Option.bind lV λr1=>((jn w h_).bind λa=>some (dJ.mk r1 (bV.mk 0 (iH.mk false false false false 0 ([]:List Int)) (ByteArray.mk #[]) (fC.mk 0 0 0) ([]:List iA)) (aT.mk a.g a.spot a.saved a.waiting a.top a.iX a.lD a.title) 0)))
def eC (m_:dJ):Option (aC×dJ) :=
 ((mX (IntKind.i64.wrap (m_.k+1)) (aT.mk m_.bP.g m_.bP.spot m_.bP.saved m_.bP.waiting m_.bP.top m_.bP.iX m_.bP.lD m_.bP.title) m_.book).bind λa=>some (a.1,(dJ.mk m_.book m_.parser (aT.mk a.2.g a.2.spot a.2.saved a.2.waiting a.2.top a.2.iX a.2.lD a.2.title) m_.k)))
structure aW where
 key:Int
 count:Int
 parts:Mp ByteArray
 bytes:Int
 deriving DecidableEq,Inhabited
def iI (s_:ByteArray) (size:Int):Option (List ByteArray) :=
 ((iter (σ:=ByteArray×(List ByteArray)) (ρ:=ByteArray×(List ByteArray)) (λa=>(bif (decide ((a.1.size:Int) > (imax 1 (gG size 8000)))) then ((chk (fE 0 (imax 1 (gG size 8000)) a.1.size)).bind λ_=>((chk (fu a.2.length [(eK a.1 0 (imax 1 (gG size 8000)))].length 16)).bind λ_=>((chk (fE (imax 1 (gG size 8000)) (a.1.size:Int) a.1.size)).bind λ_=>some (.inl ((eK a.1 (imax 1 (gG size 8000)) (a.1.size:Int)),(a.2++[(eK a.1 0 (imax 1 (gG size 8000)))])))))) else some (.inr (a.1,a.2)))) (s_,[])).bind λb=>((chk (fu b.2.length [b.1].length 16)).bind λ_=>some (b.2++[b.1])))
def eY (s_:aW) (key:Int) (index:Int) (count:Int) (data:ByteArray):Option (Int×aW) :=
 (((((bif (decide (count < 1)) then some true else (bif (decide (count > 4096)) then some true else (bif (decide (index < 0)) then some true else (bif (decide (index>=count)) then some true else some (decide (key < 1)))))):Option Bool).bind λa=>(bif a then (my (some (6,s_))) else (bif (decide (key < s_.key)) then (my (some (8,s_))) else (bif (decide (key > s_.key)) then some (.inl (aW.mk key count (some []:Mp ByteArray) 0)) else (bif (count != s_.count) then (my (some (1,s_))) else some (.inl s_)))))):Option (aW ⊕ (Int×aW))).bind λ | .inl e48=>(((bif (!(kU e48.parts index)) then ((chk e48.parts.isSome).bind λ_=>some (aW.mk e48.key e48.count (yv e48.parts index data) (IntKind.i64.wrap (e48.bytes+(data.size:Int))))) else some e48):Option aW).bind λb=>some (0,b)) | .inr w=>some w)
def fv {σ:Type} (s_:aW) (Y:σ->(Int×Bool)->Option (σ×Bool)) (y0:σ):Option σ :=
 ((iter (σ:=Int×σ) (ρ:=σ ⊕ σ) (λa=>(bif (decide (a.1 < s_.count)) then ((Y a.2 (a.1,(kU s_.parts a.1))).bind λz64=>(bif (!z64.2) then (eJ (some z64.1)) else some (.inl ((IntKind.i64.wrap (a.1+1)),z64.1)))) else some (.inr (.inl a.2)))) (0,y0)).bind λ | .inl e49=>some e49 | .inr w=>some w)
def eZ (s_:aW):Option Int :=
 some s_.count
def dK (s_:aW) (there:Bool):Option (List Int) :=
 ((fv s_ (λs32 x3=>(bif (x3.2 == there) then ((chk (fu s32.length [x3.1].length 8)).bind λ_=>some ((s32++[x3.1]),true)) else some (s32,true))) ([]:(List Int))).bind λa=>some a)
def cQ (s_:aW):Option (List Int) :=
 ((dK s_ true).bind λr1=>some r1)
def jK (s_:aW):Option Int :=
 some s_.key
def eD (s_:aW):Option (ByteArray×Bool) :=
 (((bif (s_.key == 0) then some true else some (decide (((AB s_.parts:Nat):Int) < s_.count))):Option Bool).bind λe7=>(bif e7 then some ((ByteArray.mk #[]),false) else ((fv s_ (λa d=>((cZ (bX.mk a.addr a.buf) (mgd s_.parts d.1 (ByteArray.mk #[]))).bind λb=>some ((bX.mk b.addr b.buf),true))) ((bX.mk false ([]:List Int)):bX)).bind λc=>((gz (bX.mk c.addr c.buf)).bind λe=>some (e,true)))))
def fA (s_:aW):Option aW :=
 some (aW.mk 0 0 none 0)
def fP (s_:aW):Option (List Int) :=
 ((dK s_ false).bind λr1=>some r1)
def gT (s_:aW):Option aW :=
 ((gD s_.parts).bind λr2=>some (aW.mk s_.key s_.count r2 s_.bytes))
structure cK where
 part:Int
 every:Int
 most:Int
 deriving DecidableEq,Inhabited
structure bD where
 id:Int
 key:Int
 base:Int
 parts:List ByteArray
 there:List Bool
 due:Int
 deriving DecidableEq,Inhabited
structure aH where
 config:cK
 current:aC
 aL:aC
 kept:List aC
 message:bD
 next:Int
 deriving DecidableEq,Inhabited
def iJ (n_:Int) (lo:Int) (hi:Int):Option Int :=
 some (imax lo (gG n_ hi))
def iu (c:cK):Option cK :=
 ((iJ c.part 1 8000).bind λa=>((iJ c.every 1 1048576).bind λb=>((iJ c.most 1 64).bind λd=>some (cK.mk a b d))))
def kr (c:cK):Option aH :=
 ((iu c).bind λr2=>some (aH.mk r2 (aC.mk 0 0 0 0 0 (ByteArray.mk #[]) ([]:List aE) 0 0 ([]:List aG)) (aC.mk 0 0 0 0 0 (ByteArray.mk #[]) ([]:List aE) 0 0 ([]:List aG)) ([]:List aC) (bD.mk 0 0 0 ([]:List ByteArray) ([]:List Bool) 0) 1))
def eG (s_:aH) (x_:aC):Option (Bool×aH) :=
 ((((cX x_).bind λa=>(bif (a != 0) then some true else some (decide (x_.k<=s_.current.k)))):Option Bool).bind λb=>(bif b then some (false,s_) else ((dT x_).bind λc=>some (true,(aH.mk s_.config c s_.aL s_.kept s_.message s_.next)))))
def dL (x_:aC) (x1:aH):Option Bool :=
 some (x_.k == x1.current.k)
def cD (s_:List aC) (f_0:aH):Option Int :=
 ((iter (σ:=Int) (ρ:=Unit ⊕ Int) (λa=>(bif (decide (a < (s_.length:Int))) then ((idx s_ a).bind λb=>((dL b f_0).bind λc=>(bif c then (eJ (some a)) else some (.inl (IntKind.i64.wrap (a+1)))))) else some (.inr (.inl ())))) 0).bind λ | .inl e113=>some (-1) | .inr w=>some w)
def bG (s_:List aC) (f_0:aH):Option Bool :=
 ((cD s_ f_0).bind λr1=>some (decide (r1>=0)))
def dU (s_:aH) (now:Int):Option aH :=
 ((jq s_.aL s_.current).bind λc=>((iI c s_.config.part).bind λb=>((chk (oU (b.length:Int) 1)).bind λ_=>((bG s_.kept (aH.mk s_.config s_.current s_.aL s_.kept (bD.mk s_.next s_.current.k s_.aL.k b (List.replicate (b.length:Int).toNat false) now) (IntKind.i64.wrap (s_.next+1)))).bind λd=>(((bif (!d) then ((chk (fu s_.kept.length [s_.current].length 120)).bind λ_=>some (aH.mk s_.config s_.current s_.aL (s_.kept++[s_.current]) (bD.mk s_.next s_.current.k s_.aL.k b (List.replicate (b.length:Int).toNat false) now) (IntKind.i64.wrap (s_.next+1)))) else some (aH.mk s_.config s_.current s_.aL s_.kept (bD.mk s_.next s_.current.k s_.aL.k b (List.replicate (b.length:Int).toNat false) now) (IntKind.i64.wrap (s_.next+1)))):Option aH).bind λa=>((chk (fE (imax 0 (IntKind.i64.wrap ((a.kept.length:Int) - a.config.most))) (a.kept.length:Int) a.kept.length)).bind λ_=>some (aH.mk (cK.mk a.config.part a.config.every a.config.most) (aC.mk a.current.k a.current.w a.current.h a.current.x a.current.y a.current.title a.current.rows a.current.len a.current.chain a.current.begun) (aC.mk a.aL.k a.aL.w a.aL.h a.aL.x a.aL.y a.aL.title a.aL.rows a.aL.len a.aL.chain a.aL.begun) (cut a.kept (imax 0 (IntKind.i64.wrap ((a.kept.length:Int) - a.config.most))) (a.kept.length:Int)) (bD.mk a.message.id a.message.key a.message.base a.message.parts a.message.there a.message.due) a.next)))))))
def eR {σ:Type} (m_:bD) (Y:σ->(Int×ByteArray)->Option (σ×Bool)) (y0:σ):Option σ :=
 ((iter (σ:=Int×σ) (ρ:=σ ⊕ σ) (λa=>(bif (decide (a.1 < (m_.parts.length:Int))) then ((idx m_.parts a.1).bind λc=>((((idx m_.there a.1).bind λd=>(bif (!d) then ((Y a.2 (a.1,c)).bind λz377=>some ((!z377.2),z377.1)) else some (false,a.2))):Option (Bool×σ)).bind λb=>(bif b.1 then (eJ (some b.2)) else some (.inl ((IntKind.i64.wrap (a.1+1)),b.2))))) else some (.inr (.inl a.2)))) (0,y0)).bind λ | .inl e284=>some e284 | .inr w=>some w)
def eH (s_:aH) (now:Int):Option ((List bY)×aH) :=
 (bif (s_.current.k == s_.aL.k) then some (([]:List bY),(aH.mk s_.config s_.current s_.aL s_.kept (bD.mk 0 0 0 ([]:List ByteArray) ([]:List Bool) 0) s_.next)) else (((bif (s_.message.id == 0) then some true else (bif (s_.message.key != s_.current.k) then some true else some (s_.message.base != s_.aL.k))):Option Bool).bind λd=>(((bif d then ((dU s_ now).bind λe=>some e) else some s_):Option aH).bind λa=>(bif (decide (now < a.message.due)) then some (([]:List bY),(aH.mk (cK.mk a.config.part a.config.every a.config.most) (aC.mk a.current.k a.current.w a.current.h a.current.x a.current.y a.current.title a.current.rows a.current.len a.current.chain a.current.begun) (aC.mk a.aL.k a.aL.w a.aL.h a.aL.x a.aL.y a.aL.title a.aL.rows a.aL.len a.aL.chain a.aL.begun) a.kept (bD.mk a.message.id a.message.key a.message.base a.message.parts a.message.there a.message.due) a.next)) else ((eR (bD.mk a.message.id a.message.key a.message.base a.message.parts a.message.there (IntKind.i64.wrap (now+a.config.every))) (λc b=>((chk (fu c.length ([(bY.mk 1 1 [a.message.id,a.message.key,a.message.base,b.1,(a.message.parts.length:Int)] b.2)]).length 56)).bind λ_=>some ((c++[(bY.mk 1 1 [a.message.id,a.message.key,a.message.base,b.1,(a.message.parts.length:Int)] b.2)]),true))) ([]:(List bY))).bind λf=>some (f,(aH.mk (cK.mk a.config.part a.config.every a.config.most) (aC.mk a.current.k a.current.w a.current.h a.current.x a.current.y a.current.title a.current.rows a.current.len a.current.chain a.current.begun) (aC.mk a.aL.k a.aL.w a.aL.h a.aL.x a.aL.y a.aL.title a.aL.rows a.aL.len a.aL.chain a.aL.begun) a.kept (bD.mk a.message.id a.message.key a.message.base a.message.parts a.message.there (IntKind.i64.wrap (now+a.config.every))) a.next)))))))
structure aK where
 slot:aW
 aO:aC
 deriving DecidableEq,Inhabited
def iv:Option aK :=
 some (aK.mk (aW.mk 0 0 none 0) (aC.mk 0 0 0 0 0 (ByteArray.mk #[]) ([]:List aE) 0 0 ([]:List aG)))
def eT (t_:aK) (g:bY):Option (Int×aK) :=
 (bif (g.kind != 1) then some (5,(aK.mk t_.slot t_.aO)) else (bif ((g.bW.length:Int) != 5) then some (1,(aK.mk t_.slot t_.aO)) else ((idx g.bW 1).bind λb=>(bif (decide (b<=t_.aO.k)) then some (8,(aK.mk t_.slot t_.aO)) else ((((idx g.bW 2).bind λc=>(bif (c != 0) then ((idx g.bW 2).bind λd=>some (d != t_.aO.k)) else some false)):Option Bool).bind λe=>(bif e then some (7,(aK.mk t_.slot t_.aO)) else ((idx g.bW 0).bind λf=>((idx g.bW 3).bind λh=>((idx g.bW 4).bind λi=>((eY t_.slot f h i g.data).bind λa=>some (a.1,(aK.mk a.2 t_.aO))))))))))))
def cY (t_:aK):Option bY :=
 ((eZ t_.slot).bind λr2=>((chk (oU (IntKind.i64.wrap ((IntKind.i64.wrap ((IntKind.i64.wrap (r2+8)) - 1)).tdiv 8)) 1)).bind λ_=>((cQ t_.slot).bind λr9=>((iter (σ:=Int×(List Int)) (ρ:=(List Int)) (λa=>(bif (decide (a.1 < (r9.length:Int))) then ((idx r9 a.1).bind λb=>((idx a.2 (IntKind.i64.wrap (b.tdiv 8))).bind λc=>((chk (shk (b.tmod 8))).bind λ_=>((idx a.2 (IntKind.i64.wrap (b.tdiv 8))).bind λf=>some (.inl ((IntKind.i64.wrap (a.1+1)),(a.2.set ((IntKind.i64.wrap (b.tdiv 8)).toNat) (Go.bits .or .u8 c (IntKind.u8.wrap (1*2 ^ (min (b.tmod 8).toNat 8))))))))))) else some (.inr a.2))) (0,(List.replicate (IntKind.i64.wrap ((IntKind.i64.wrap ((IntKind.i64.wrap (r2+8)) - 1)).tdiv 8)).toNat (0:Int)))).bind λd=>((jK t_.slot).bind λe=>some (bY.mk 1 2 [t_.aO.k,e] (cO d)))))))
def dM (t_:aK):Option aC :=
 ((dT t_.aO).bind λr2=>some r2)
def gE (t_:aK):Option aK :=
 (Option.bind iv λr1=>some (aK.mk r1.slot r1.aO))
def dA (t_:aK) (g:bY):Option (Int×aK) :=
 ((eT t_ g).bind λr2=>(bif (r2.1 != 0) then some (r2.1,r2.2) else ((eD r2.2.slot).bind λc=>(bif (!c.2) then some (0,r2.2) else ((fA r2.2.slot).bind λb=>((idx g.bW 2).bind λe=>(((bif (e != 0) then some r2.2.aO else some (aC.mk 0 0 0 0 0 (ByteArray.mk #[]) ([]:List aE) 0 0 ([]:List aG))):Option aC).bind λf=>((ib f c.1).bind λa=>(((bif (a.2 == 0) then ((idx g.bW 1).bind λh=>some (a.1.k != h)) else some false):Option Bool).bind λi=>(((bif i then some 1 else some a.2):Option Int).bind λd=>(((bif (d == 0) then some (aK.mk b a.1) else some (aK.mk b r2.2.aO)):Option aK).bind λj=>some (d,(aK.mk b j.aO)))))))))))))
def fX (t_:aK):Option Int :=
 some t_.aO.k
def fB (t_:aK):Option aK :=
 ((gT t_.slot).bind λa=>((dT t_.aO).bind λb=>some (aK.mk a b)))
def gp (s_:ByteArray) (n_:Int):Option ByteArray :=
 (bif (decide ((s_.size:Int) > n_)) then ((chk (fE 0 n_ s_.size)).bind λ_=>some (eK s_ 0 n_)) else some s_)
def iC (a:List Int) (b:List Int):Option Bool :=
 (bif ((a.length:Int) != (b.length:Int)) then some false else ((iter (σ:=Int) (ρ:=Unit ⊕ Bool) (λc=>(bif (decide (c < (a.length:Int))) then ((idx a c).bind λd=>((idx b c).bind λe=>(bif (d != e) then (eJ (some false)) else some (.inl (IntKind.i64.wrap (c+1)))))) else some (.inr (.inl ())))) 0).bind λ | .inl e355=>some true | .inr w=>some w))
structure cL where
 kn:Int
 kind:Int
 bW:List Int
 data:ByteArray
 deriving DecidableEq,Inhabited
def jU (x:cL):Prop:=(inK .i64) x.kn/\(inK .i64) x.kind/\(λxs:List Int=> ∀ x∈xs,(inK .i64) x) x.bW/\(λs:ByteArray=>s.size<=maxLen) x.data/\True
def lY (g:bY) (x_:cL):Option Bool :=
 (((bif (g.kn == x_.kn) then (bif (g.kind == x_.kind) then ((iC g.bW x_.bW).bind λa=>(bif a then some (g.data.toList == x_.data.toList) else some false)) else some false) else some false):Option Bool).bind λb=>some b)
def jV (x_:cL):Option (bY×cL) :=
 ((chk (fE 0 (gG (x_.bW.length:Int) 66) x_.bW.length)).bind λ_=>((chk (fu ([]:List Int).length (cut x_.bW 0 (gG (x_.bW.length:Int) 66)).length 8)).bind λ_=>((gp x_.data 200).bind λa=>((chk (fu ([]:List Int).length (([]:List Int)++(cut x_.bW 0 (gG (x_.bW.length:Int) 66))).length 8)).bind λ_=>some ((bY.mk x_.kn x_.kind (([]:List Int)++(([]:List Int)++(cut x_.bW 0 (gG (x_.bW.length:Int) 66)))) a),(cL.mk x_.kn x_.kind (([]:List Int)++(cut x_.bW 0 (gG (x_.bW.length:Int) 66))) a))))))
structure cP where
 rune:Int
 aM:Int
 part:Int
 deriving DecidableEq,Inhabited
structure aU where
 l:List cP
 wrapped:Bool
 deriving DecidableEq,Inhabited
structure aN where
 rune:Int
 aM:Int
 deriving DecidableEq,Inhabited
def iV (r_:aE) (x_:aU):Option Bool :=
 (((bif ((r_.cells.length:Int) != (x_.l.length:Int)) then some true else some (!(r_.wrapped == x_.wrapped))):Option Bool).bind λe6=>(bif e6 then some false else ((iter (σ:=Int) (ρ:=Unit ⊕ Bool) (λa=>(bif (decide (a < (r_.cells.length:Int))) then ((idx r_.cells a).bind λb=>((((idx x_.l a).bind λc=>(bif ((IntKind.i64.wrap b.rune) != c.rune) then some true else ((idx x_.l a).bind λd=>(bif (b.aM != d.aM) then some true else ((idx x_.l a).bind λe=>some (b.part != e.part)))))):Option Bool).bind λf=>(bif f then (eJ (some false)) else some (.inl (IntKind.i64.wrap (a+1)))))) else some (.inr (.inl ())))) 0).bind λ | .inl e712=>some true | .inr w=>some w)))
def iw (l:List aG) (x_:List aN):Option Bool :=
 (bif ((l.length:Int) != (x_.length:Int)) then some false else ((iter (σ:=Int) (ρ:=Unit ⊕ Bool) (λa=>(bif (decide (a < (l.length:Int))) then ((idx l a).bind λb=>((((idx x_ a).bind λc=>(bif ((IntKind.i64.wrap b.rune) != c.rune) then some true else ((idx x_ a).bind λd=>some (b.aM != d.aM)))):Option Bool).bind λe=>(bif e then (eJ (some false)) else some (.inl (IntKind.i64.wrap (a+1)))))) else some (.inr (.inl ())))) 0).bind λ | .inl e523=>some true | .inr w=>some w))
structure rH where
 w:Int
 l:List aU
 deriving DecidableEq,Inhabited
def jt (l:List aE) (x_:List aU):Option Bool :=
 (bif ((l.length:Int) != (x_.length:Int)) then some false else ((iter (σ:=Int) (ρ:=Unit ⊕ Bool) (λa=>(bif (decide (a < (x_.length:Int))) then ((idx l a).bind λb=>((idx x_ a).bind λc=>((iV b c).bind λd=>(bif (!d) then (eJ (some false)) else some (.inl (IntKind.i64.wrap (a+1))))))) else some (.inr (.inl ())))) 0).bind λ | .inl e571=>some true | .inr w=>some w))
structure aQ where
 s:ByteArray
 e:Int
 deriving DecidableEq,Inhabited
def aY (in_:aQ):Option (aQ×Int) :=
 (bif (in_.e != 0) then some (in_,0) else ((iter (σ:=Int×Int×Int) (ρ:=Unit ⊕ (aQ×Int)) (λa=>(bif (decide (a.2.2 < 9)) then (((bif (a.2.2 == (in_.s.size:Int)) then (my (eJ (some ((aQ.mk (ByteArray.mk #[]) 2),0)))) else ((qo in_.s a.2.2).bind λb475=>(bif (decide ((IntKind.i64.wrap b475) < 128)) then (((bif (decide (a.2.2 > 0)) then (bif ((IntKind.i64.wrap b475) == 0) then some true else some (decide ((IntKind.i64.wrap (a.1+(IntKind.i64.wrap (((IntKind.i64.wrap b475).tmod 128)*a.2.1)))) > 4611686018427387904))) else some (decide ((IntKind.i64.wrap (a.1+(IntKind.i64.wrap (((IntKind.i64.wrap b475).tmod 128)*a.2.1)))) > 4611686018427387904))):Option Bool).bind λb=>(bif b then (my (eJ (some ((aQ.mk (ByteArray.mk #[]) 1),0)))) else ((chk (fE (IntKind.i64.wrap (a.2.2+1)) (in_.s.size:Int) in_.s.size)).bind λ_=>(my (eJ (some ((aQ.mk (eK in_.s (IntKind.i64.wrap (a.2.2+1)) (in_.s.size:Int)) 0),(IntKind.i64.wrap (a.1+(IntKind.i64.wrap (((IntKind.i64.wrap b475).tmod 128)*a.2.1))))))))))) else (bif (decide (a.2.2 < 8)) then some (.inl ((IntKind.i64.wrap (a.1+(IntKind.i64.wrap (((IntKind.i64.wrap b475).tmod 128)*a.2.1)))),(IntKind.i64.wrap (a.2.1*128)))) else some (.inl ((IntKind.i64.wrap (a.1+(IntKind.i64.wrap (((IntKind.i64.wrap b475).tmod 128)*a.2.1)))),a.2.1)))))):Option ((Int×Int) ⊕ ((Int×Int×Int) ⊕ (Unit ⊕ (aQ×Int))))).bind λ | .inl e465=>some (.inl (e465.1,e465.2,(IntKind.i64.wrap (a.2.2+1)))) | .inr w=>some w) else some (.inr (.inl ())))) (0,1,0)).bind λ | .inl e381=>some ((aQ.mk (ByteArray.mk #[]) 1),0) | .inr w=>some w))
def k8 (in_:aQ) (n_:Int):Option (aQ×ByteArray) :=
 (bif (in_.e != 0) then some (in_,(ByteArray.mk #[])) else (bif (decide ((imax 0 n_) > (in_.s.size:Int))) then some ((aQ.mk (ByteArray.mk #[]) 2),(ByteArray.mk #[])) else ((chk (fE (imax 0 n_) (in_.s.size:Int) in_.s.size)).bind λ_=>((chk (fE 0 (imax 0 n_) in_.s.size)).bind λ_=>some ((aQ.mk (eK in_.s (imax 0 n_) (in_.s.size:Int)) 0),(eK in_.s 0 (imax 0 n_)))))))
def fM (in_:aQ):Option (aQ×ByteArray) :=
 ((aY in_).bind λr3=>((k8 r3.1 r3.2).bind λr7=>some (r7.1,r7.2)))
def bT (n_:Int):Option ByteArray :=
 ((iter (σ:=Int×(List Int)) (ρ:=Int×(List Int)) (λa=>(bif (decide (a.1>=128)) then ((chk (fu a.2.length [(IntKind.u8.wrap (IntKind.i64.wrap (128+(a.1.tmod 128))))].length 1)).bind λ_=>some (.inl ((IntKind.i64.wrap (a.1.tdiv 128)),(a.2++[(IntKind.u8.wrap (IntKind.i64.wrap (128+(a.1.tmod 128))))])))) else some (.inr (a.1,a.2)))) ((imax 0 (gG n_ 4611686018427387904)),([]:List Int))).bind λb=>((chk (fu b.2.length [(IntKind.u8.wrap b.1)].length 1)).bind λ_=>some (cO (b.2++[(IntKind.u8.wrap b.1)]))))
def ju (s_:ByteArray):Option ByteArray :=
 ((bT (s_.size:Int)).bind λr1=>((chk (kz r1.size s_.size)).bind λ_=>some (r1++s_)))
def kF (s_:ByteArray):Option Int :=
 ((iter (σ:=Int×Int) (ρ:=Int) (λb=>(bif (decide (b.2 < (s_.size:Int))) then ((qo s_ b.2).bind λb402=>((iter (σ:=Int×Int) (ρ:=Int) (λa=>(bif (decide (a.2 < 8)) then (((bif ((a.1.tmod 2) == 1) then some (Go.bits .xor .i64 (IntKind.i64.wrap (a.1.tdiv 2)) 3988292384) else some (IntKind.i64.wrap (a.1.tdiv 2))):Option Int).bind λc=>some (.inl (c,(IntKind.i64.wrap (a.2+1))))) else some (.inr a.1))) ((Go.bits .xor .i64 b.1 (IntKind.i64.wrap b402)),0)).bind λd=>some (.inl (d,(IntKind.i64.wrap (b.2+1)))))) else some (.inr b.1))) (4294967295,0)).bind λe=>some (IntKind.i64.wrap (4294967295 - e)))
structure nF where
 AE:Int
 back:Int
 bold:Bool
 under:Bool
 pT:Bool
 deriving DecidableEq,Inhabited
structure px where
 g:rH
 x:Int
 y:Int
 s:nF
 sX:Int
 sY:Int
 sS:nF
 waiting:Bool
 top:Int
 iX:Int
 lD:Bool
 title:ByteArray
 deriving DecidableEq,Inhabited
structure rI where
 l:List (List aN)
 begun:List aN
 deriving DecidableEq,Inhabited
def iD (in_:aQ):Option (aQ×(List aN)) :=
 ((aY in_).bind λr3=>(((bif (r3.1.e == 0) then some (decide (r3.2 > 1024)) else some false):Option Bool).bind λe9=>(bif e9 then some ((aQ.mk (ByteArray.mk #[]) 1),([]:List aN)) else ((iter (σ:=aQ×(List aN)×Int) (ρ:=((List aN)×aQ) ⊕ (aQ×(List aN))) (λa=>(((bif (decide (a.2.2 < r3.2)) then some (a.1.e == 0) else some false):Option Bool).bind λd=>(bif d then ((aY a.1).bind λb=>(((bif (b.1.e == 0) then some (decide (b.2 > 1114111)) else some false):Option Bool).bind λf=>(bif f then (eJ (some ((aQ.mk (ByteArray.mk #[]) 1),([]:List aN)))) else ((aY b.1).bind λc=>(((bif (c.1.e == 0) then some (decide (c.2 > 647)) else some false):Option Bool).bind λg=>(bif g then (eJ (some ((aQ.mk (ByteArray.mk #[]) 1),([]:List aN)))) else ((chk (fu a.2.1.length [(aN.mk b.2 c.2)].length 16)).bind λ_=>some (.inl (c.1,(a.2.1++[(aN.mk b.2 c.2)]),(IntKind.i64.wrap (a.2.2+1))))))))))) else some (.inr (.inl (a.2.1,a.1)))))) (r3.1,([]:List aN),0)).bind λ | .inl e261=>(bif (e261.2.e != 0) then some (e261.2,([]:List aN)) else some (e261.2,e261.1)) | .inr w=>some w))))
def jv (l:List aN):Option ByteArray :=
 ((bT (l.length:Int)).bind λr1=>((iter (σ:=Int×ByteArray) (ρ:=ByteArray) (λa=>(bif (decide (a.1 < (l.length:Int))) then ((idx l a.1).bind λd=>((bT d.rune).bind λb=>((bT d.aM).bind λc=>((chk (kz b.size c.size)).bind λ_=>((chk (kz a.2.size (b++c).size)).bind λ_=>some (.inl ((IntKind.i64.wrap (a.1+1)),(a.2++(b++c))))))))) else some (.inr a.2))) (0,r1)).bind λe=>some e))
structure aV where
 k:Int
 w:Int
 h:Int
 x:Int
 y:Int
 title:ByteArray
 rows:List aU
 len:Int
 chain:Int
 begun:List aN
 deriving DecidableEq,Inhabited
def cA (in_:aQ) (most:Int):Option (aQ×Int) :=
 ((aY in_).bind λr3=>(((bif (r3.1.e == 0) then some (decide (r3.2 > most)) else some false):Option Bool).bind λa=>(bif a then some ((aQ.mk (ByteArray.mk #[]) 1),0) else some (r3.1,r3.2))))
def fY (in_:aQ) (w:Int):Option (aQ×aU) :=
 ((cA in_ 1).bind λr4=>((iter (σ:=aQ×(List cP)) (ρ:=(List cP)×aQ) (λa=>(((bif (decide ((a.2.length:Int) < w)) then some (a.1.e == 0) else some false):Option Bool).bind λk=>(bif k then ((cA a.1 (IntKind.i64.wrap (w - (a.2.length:Int)))).bind λd=>(((bif (d.1.e == 0) then some (d.2 == 0) else some false):Option Bool).bind λl=>(((bif l then some (aQ.mk (ByteArray.mk #[]) 1) else some d.1):Option aQ).bind λm=>((cA m 1114111).bind λf=>((cA f.1 647).bind λg=>((cA g.1 3).bind λb=>(((bif (b.1.e == 0) then (bif (decide ((a.2.length:Int) > 0)) then ((idx a.2 (IntKind.i64.wrap ((a.2.length:Int) - 1))).bind λi=>some ((i.rune == f.2) && ((i.aM == g.2) && ((i.part == b.2) && true)))) else some false) else some false):Option Bool).bind λn=>(((bif n then some (aQ.mk (ByteArray.mk #[]) 1) else some b.1):Option aQ).bind λj=>((iter (σ:=Int×(List cP)) (ρ:=(List cP)) (λc=>(((bif (decide (c.1 < d.2)) then some (j.e == 0) else some false):Option Bool).bind λo=>(bif o then ((chk (fu c.2.length [(cP.mk f.2 g.2 b.2)].length 24)).bind λ_=>some (.inl ((IntKind.i64.wrap (c.1+1)),(c.2++[(cP.mk f.2 g.2 b.2)])))) else some (.inr c.2)))) (0,a.2)).bind λp=>some (.inl (j,p))))))))))) else some (.inr (a.2,a.1))))) (r4.1,([]:List cP))).bind λh=>(bif (h.2.e != 0) then some (h.2,(aU.mk ([]:List cP) false)) else some (h.2,(aU.mk h.1 (r4.2 == 1))))))
def gA (s_:aV):Option Bool :=
 (((bif (s_.k == 0) then (bif (s_.w == 0) then (bif (s_.h == 0) then (bif (s_.x == 0) then (bif (s_.y == 0) then (bif (s_.title.toList == (ByteArray.mk #[]).toList) then (bif ((s_.rows.length:Int) == 0) then (bif (s_.len == 0) then (bif (s_.chain == 0) then some ((s_.begun.length:Int) == 0) else some false) else some false) else some false) else some false) else some false) else some false) else some false) else some false) else some false):Option Bool).bind λa=>some a)
def iy (s_:aV):Option Bool :=
 ((gA s_).bind λr2=>(bif r2 then some true else (((bif (decide (s_.k < 1)) then some true else (bif (decide (s_.k > 1152921504606846976)) then some true else (bif (decide (s_.w < 1)) then some true else (bif (decide (s_.w > 1000)) then some true else (bif (decide (s_.h < 1)) then some true else (bif (decide (s_.h > 1000)) then some true else (bif (decide (s_.x < 0)) then some true else (bif (decide (s_.x>=s_.w)) then some true else (bif (decide (s_.y < 0)) then some true else (bif (decide (s_.y>=s_.h)) then some true else some ((s_.rows.length:Int) != s_.h))))))))))):Option Bool).bind λg=>(bif g then some false else (((bif (decide ((s_.title.size:Int) > 200)) then some true else (bif (decide (s_.len < 0)) then some true else (bif (decide (s_.len > 1152921504606846976)) then some true else (bif (decide (s_.chain < 0)) then some true else (bif (decide (s_.chain > 281474976710656)) then some true else some (decide ((s_.begun.length:Int) > 1024))))))):Option Bool).bind λi=>(bif i then some false else ((iter (σ:=Int) (ρ:=Unit ⊕ Bool) (λc=>(bif (decide (c < (s_.begun.length:Int))) then ((idx s_.begun c).bind λb=>(((bif (decide (b.rune < 0)) then some true else (bif (decide (b.rune > 1114111)) then some true else (bif (decide (b.aM < 0)) then some true else some (decide (b.aM > 647))))):Option Bool).bind λj=>(bif j then (eJ (some false)) else some (.inl (IntKind.i64.wrap (c+1)))))) else some (.inr (.inl ())))) 0).bind λ | .inl e206=>((iter (σ:=Int) (ρ:=Unit ⊕ Bool) (λd=>(bif (decide (d < (s_.rows.length:Int))) then ((idx s_.rows d).bind λe=>(bif ((e.l.length:Int) != s_.w) then (eJ (some false)) else ((iter (σ:=Int) (ρ:=Unit ⊕ (Int ⊕ (Unit ⊕ Bool))) (λf=>(bif (decide (f < (e.l.length:Int))) then ((idx e.l f).bind λa=>(((bif (decide (a.rune < 0)) then some true else (bif (decide (a.rune > 1114111)) then some true else (bif (decide (a.aM < 0)) then some true else (bif (decide (a.aM > 647)) then some true else (bif (decide (a.part < 0)) then some true else some (decide (a.part > 3))))))):Option Bool).bind λm=>(bif m then (eJ (eJ (some false))) else some (.inl (IntKind.i64.wrap (f+1)))))) else some (.inr (.inl ())))) 0).bind λ | .inl e2288=>some (.inl (IntKind.i64.wrap (d+1))) | .inr w=>some w))) else some (.inr (.inl ())))) 0).bind λ | .inl e1826=>some true | .inr w=>some w) | .inr w=>some w)))))))
def gY (r_:aU):Option ByteArray :=
 (((bif r_.wrapped then some (ByteArray.mk #[1]) else some (ByteArray.mk #[0])):Option ByteArray).bind λe5=>((iter (σ:=Int×ByteArray×Int) (ρ:=ByteArray) (λa=>(bif (decide (a.1 < (r_.l.length:Int))) then ((((idx r_.l a.1).bind λb=>(((bif (decide ((IntKind.i64.wrap (a.1+1)) < (r_.l.length:Int))) then ((idx r_.l (IntKind.i64.wrap (a.1+1))).bind λf=>some ((f.rune == b.rune) && ((f.aM == b.aM) && ((f.part == b.part) && true)))) else some false):Option Bool).bind λi=>(bif i then some (a.2.1,(IntKind.i64.wrap (a.2.2+1))) else ((bT (IntKind.i64.wrap (a.2.2+1))).bind λc=>((bT b.rune).bind λd=>((chk (kz c.size d.size)).bind λ_=>((bT b.aM).bind λe=>((chk (kz (c++d).size e.size)).bind λ_=>((bT b.part).bind λg=>((chk (kz ((c++d)++e).size g.size)).bind λ_=>((chk (kz a.2.1.size (((c++d)++e)++g).size)).bind λ_=>some ((a.2.1++(((c++d)++e)++g)),0)))))))))))):Option (ByteArray×Int)).bind λh=>some (.inl ((IntKind.i64.wrap (a.1+1)),h.1,h.2))) else some (.inr a.2.1))) (0,e5,0)).bind λj=>some j))
def gq (s_:aV):Option ByteArray :=
 ((((gA s_).bind λl=>(bif l then some true else ((iy s_).bind λm=>some (!m)))):Option Bool).bind λn=>(bif n then some (ByteArray.mk #[]) else ((iter (σ:=Int×ByteArray) (ρ:=ByteArray) (λa=>(bif (decide (a.1 < ([s_.k,s_.w,s_.h,s_.x,s_.y].length:Int))) then ((idx [s_.k,s_.w,s_.h,s_.x,s_.y] a.1).bind λo=>((bT o).bind λg=>((chk (kz a.2.size g.size)).bind λ_=>some (.inl ((IntKind.i64.wrap (a.1+1)),(a.2++g)))))) else some (.inr a.2))) (0,(ByteArray.mk #[]))).bind λi=>((ju s_.title).bind λc=>((bT s_.len).bind λd=>((chk (kz c.size d.size)).bind λ_=>((bT s_.chain).bind λe=>((chk (kz (c++d).size e.size)).bind λ_=>((jv s_.begun).bind λf=>((chk (kz ((c++d)++e).size f.size)).bind λ_=>((chk (kz i.size (((c++d)++e)++f).size)).bind λ_=>((iter (σ:=ByteArray×Int) (ρ:=ByteArray) (λb=>(bif (decide (b.2 < (s_.rows.length:Int))) then ((idx s_.rows b.2).bind λp=>((gY p).bind λj=>((chk (kz b.1.size j.size)).bind λ_=>some (.inl ((b.1++j),(IntKind.i64.wrap (b.2+1))))))) else some (.inr b.1))) ((i++(((c++d)++e)++f)),0)).bind λq=>some q))))))))))))
def jW (s_:aV):Option Int :=
 ((gq s_).bind λr2=>((kF r2).bind λr5=>some r5))
def kG (s_:aC) (x_:aV):Option Bool :=
 (((bif (s_.k == x_.k) then (bif (s_.w == x_.w) then (bif (s_.h == x_.h) then (bif (s_.x == x_.x) then (bif (s_.y == x_.y) then (bif (s_.title.toList == x_.title.toList) then (bif (s_.len == x_.len) then (bif (s_.chain == x_.chain) then ((jt s_.rows x_.rows).bind λa=>(bif a then ((iw s_.begun x_.begun).bind λc=>some c) else some false)) else some false) else some false) else some false) else some false) else some false) else some false) else some false) else some false):Option Bool).bind λd=>some d)
structure nG where
 s:px
 b:rI
 all:ByteArray
 EF:Int
 k:Int
 deriving DecidableEq,Inhabited
structure bZ where
 key:Int
 has:List Bool
 parts:List ByteArray
 deriving DecidableEq,Inhabited
def jX (s_:bZ) (key:Int) (index:Int) (count:Int) (data:ByteArray):Option (bZ×Int) :=
 (((bif (decide (count < 1)) then some true else (bif (decide (count > 4096)) then some true else (bif (decide (index < 0)) then some true else (bif (decide (index>=count)) then some true else some (decide (key < 1)))))):Option Bool).bind λa=>(bif a then some (s_,6) else (bif (decide (key < s_.key)) then some (s_,8) else ((chk (oU count 1)).bind λ_=>((chk (oU count 16)).bind λ_=>(((bif (key == s_.key) then (bif (count != (s_.has.length:Int)) then (my (some (s_,1))) else some (.inl (bZ.mk key (cpy (List.replicate count.toNat false) s_.has) (cpy (List.replicate count.toNat (ByteArray.mk #[])) s_.parts)))) else some (.inl (bZ.mk key (List.replicate count.toNat false) (List.replicate count.toNat (ByteArray.mk #[]))))):Option (bZ ⊕ (bZ×Int))).bind λ | .inl e76=>((idx e76.has index).bind λb=>(((bif (!b) then ((idx e76.has index).bind λd=>((idx e76.parts index).bind λe=>some (bZ.mk e76.key (e76.has.set index.toNat true) (e76.parts.set index.toNat data)))) else some e76):Option bZ).bind λc=>some (c,0))) | .inr w=>some w))))))
def ic (s_:bZ) (there:Bool):Option (List Int) :=
 ((iter (σ:=Int×(List Int)) (ρ:=(List Int)) (λa=>(bif (decide (a.1 < (s_.has.length:Int))) then ((((idx s_.has a.1).bind λb=>(bif (b == there) then ((chk (fu a.2.length [a.1].length 8)).bind λ_=>some (a.2++[a.1])) else some a.2)):Option (List Int)).bind λc=>some (.inl ((IntKind.i64.wrap (a.1+1)),c))) else some (.inr a.2))) (0,([]:List Int))).bind λd=>some d)
def jY (s_:bZ):Option (ByteArray×Bool) :=
 ((iter (σ:=Int×ByteArray) (ρ:=ByteArray) (λa=>(bif (decide (a.1 < (s_.parts.length:Int))) then ((idx s_.parts a.1).bind λb=>((chk (kz a.2.size b.size)).bind λ_=>some (.inl ((IntKind.i64.wrap (a.1+1)),(a.2++b))))) else some (.inr a.2))) (0,(ByteArray.mk #[]))).bind λc=>(((bif (decide (s_.key > 0)) then ((ic s_ false).bind λe=>some (c,((e.length:Int) == 0))) else some (c,false)):Option (ByteArray×Bool)).bind λd=>some (d.1,d.2)))
def gu (a:aU) (b:aU):Option Bool :=
 (((bif (!(a.wrapped == b.wrapped)) then some true else some ((a.l.length:Int) != (b.l.length:Int))):Option Bool).bind λe6=>(bif e6 then some false else ((iter (σ:=Int) (ρ:=Unit ⊕ Bool) (λc=>(bif (decide (c < (a.l.length:Int))) then ((idx a.l c).bind λd=>((idx b.l c).bind λe=>(bif (!((d.rune == e.rune) && ((d.aM == e.aM) && ((d.part == e.part) && true)))) then (eJ (some false)) else some (.inl (IntKind.i64.wrap (c+1)))))) else some (.inr (.inl ())))) 0).bind λ | .inl e364=>some true | .inr w=>some w)))
def iK (a:aV) (s_:ByteArray):Option (aV×Int) :=
 ((iy a).bind λr4=>(bif (!r4) then some ((aV.mk 0 0 0 0 0 (ByteArray.mk #[]) ([]:List aU) 0 0 ([]:List aN)),1) else ((aY (aQ.mk s_ 0)).bind λu=>((aY u.1).bind λp=>((aY p.1).bind λi=>(((bif (i.1.e == 0) then some (decide (i.2 > 1000)) else some false):Option Bool).bind λz=>(bif z then some ((aV.mk 0 0 0 0 0 (ByteArray.mk #[]) ([]:List aU) 0 0 ([]:List aN)),1) else ((aY i.1).bind λj=>(((bif (j.1.e == 0) then some (decide (j.2 > 1000)) else some false):Option Bool).bind λm=>(bif m then some ((aV.mk 0 0 0 0 0 (ByteArray.mk #[]) ([]:List aU) 0 0 ([]:List aN)),1) else ((aY j.1).bind λq=>((aY q.1).bind λg=>((fM g.1).bind λr=>((aY r.1).bind λt=>((aY t.1).bind λl=>(((bif (l.1.e == 0) then ((iD l.1).bind λv=>some ((aV.mk p.2 i.2 j.2 q.2 g.2 r.2 ([]:List aU) t.2 l.2 v.2),v.1)) else some ((aV.mk p.2 i.2 j.2 q.2 g.2 r.2 ([]:List aU) t.2 l.2 ([]:List aN)),l.1)):Option (aV×aQ)).bind λb=>((aY b.2).bind λn=>(bif (n.1.e != 0) then some ((aV.mk 0 0 0 0 0 (ByteArray.mk #[]) ([]:List aU) 0 0 ([]:List aN)),n.1.e) else ((chk (oU b.1.h 1)).bind λ_=>((chk (oU b.1.h 32)).bind λ_=>((iter (σ:=aQ×(List Bool)×(List aU)×Int×Int) (ρ:=((List Bool)×(List aU)×aQ) ⊕ (aV×Int)) (λd=>(bif (decide (d.2.2.2.2 < n.2)) then ((aY d.1).bind λf=>(((bif (f.1.e == 0) then (bif (decide (f.2<=d.2.2.2.1)) then some true else some (decide (f.2>=b.1.h))) else some false):Option Bool).bind λA=>(bif A then (eJ (some ((aV.mk 0 0 0 0 0 (ByteArray.mk #[]) ([]:List aU) 0 0 ([]:List aN)),1))) else ((fY f.1 b.1.w).bind λo=>(bif (o.1.e != 0) then (eJ (some ((aV.mk 0 0 0 0 0 (ByteArray.mk #[]) ([]:List aU) 0 0 ([]:List aN)),o.1.e))) else ((idx d.2.1 f.2).bind λP=>((idx d.2.2.1 f.2).bind λQ=>some (.inl (o.1,(d.2.1.set f.2.toNat true),(d.2.2.1.set f.2.toNat o.2),f.2,(IntKind.i64.wrap (d.2.2.2.2+1))))))))))) else some (.inr (.inl (d.2.1,d.2.2.1,d.1))))) (n.1,(List.replicate b.1.h.toNat false),(List.replicate b.1.h.toNat (aU.mk ([]:List cP) false)),(-1),0)).bind λ | .inl e369=>(bif (!(e369.2.2.s.toList == (ByteArray.mk #[]).toList)) then some ((aV.mk 0 0 0 0 0 (ByteArray.mk #[]) ([]:List aU) 0 0 ([]:List aN)),1) else ((jW a).bind λB=>(bif (u.2 != B) then some ((aV.mk 0 0 0 0 0 (ByteArray.mk #[]) ([]:List aU) 0 0 ([]:List aN)),7) else ((iter (σ:=(List aU)×Int) (ρ:=(List aU) ⊕ (aV×Int)) (λc=>(bif (decide (c.2 < (e369.2.1.length:Int))) then ((((((idx e369.1 c.2).bind λC=>(bif (!C) then (bif (decide (c.2>=(a.rows.length:Int))) then some true else ((idx e369.1 c.2).bind λD=>(bif D then (bif (decide (c.2 < (a.rows.length:Int))) then ((idx c.1 c.2).bind λE=>((idx a.rows c.2).bind λF=>((gu E F).bind λG=>some G))) else some false) else some false))) else ((idx e369.1 c.2).bind λH=>(bif H then (bif (decide (c.2 < (a.rows.length:Int))) then ((idx c.1 c.2).bind λI=>((idx a.rows c.2).bind λJ=>((gu I J).bind λK=>some K))) else some false) else some false)))):Option Bool).bind λL=>(bif L then (my (eJ (some ((aV.mk 0 0 0 0 0 (ByteArray.mk #[]) ([]:List aU) 0 0 ([]:List aN)),1)))) else ((idx e369.1 c.2).bind λM=>(bif (!M) then ((idx a.rows c.2).bind λN=>((idx c.1 c.2).bind λR=>some (.inl (c.1.set c.2.toNat N)))) else some (.inl c.1))))):Option ((List aU) ⊕ (((List aU)×Int) ⊕ ((List aU) ⊕ (aV×Int))))).bind λ | .inl e4726=>some (.inl (e4726,(IntKind.i64.wrap (c.2+1)))) | .inr w=>some w) else some (.inr (.inl c.1)))) (e369.2.1,0)).bind λ | .inl e3950=>((gq (aV.mk b.1.k b.1.w b.1.h b.1.x b.1.y b.1.title e3950 b.1.len b.1.chain b.1.begun)).bind λO=>(bif (O.toList == (ByteArray.mk #[]).toList) then some ((aV.mk 0 0 0 0 0 (ByteArray.mk #[]) ([]:List aU) 0 0 ([]:List aN)),1) else some ((aV.mk b.1.k b.1.w b.1.h b.1.x b.1.y b.1.title e3950 b.1.len b.1.chain b.1.begun),0))) | .inr w=>some w)))) | .inr w=>some w)))))))))))))))))))))
structure bU where
 aO:aV
 slot:bZ
 deriving DecidableEq,Inhabited
def jw (t_:bU) (g:cL):Option (bU×Int) :=
 (bif (g.kind != 1) then some (t_,5) else (bif ((g.bW.length:Int) != 5) then some (t_,1) else ((idx g.bW 1).bind λf=>(bif (decide (f<=t_.aO.k)) then some (t_,8) else ((((idx g.bW 2).bind λh=>(bif (h != 0) then ((idx g.bW 2).bind λi=>some (i != t_.aO.k)) else some false)):Option Bool).bind λj=>(bif j then some (t_,7) else ((((idx g.bW 0).bind λl=>((idx g.bW 3).bind λm=>((idx g.bW 4).bind λn=>((jX t_.slot l m n g.data).bind λc=>some (c.1,c.2))))):Option (bZ×Int)).bind λa=>(bif (a.2 != 0) then some (t_,a.2) else ((jY a.1).bind λd=>(bif (!d.2) then some ((bU.mk t_.aO a.1),0) else ((idx g.bW 2).bind λo=>(((bif (o != 0) then some t_.aO else some (aV.mk 0 0 0 0 0 (ByteArray.mk #[]) ([]:List aU) 0 0 ([]:List aN))):Option aV).bind λp=>((iK p d.1).bind λb=>(((bif (b.2 == 0) then ((idx g.bW 1).bind λq=>some (b.1.k != q)) else some false):Option Bool).bind λr=>(((bif r then some 1 else some b.2):Option Int).bind λe=>(bif (e != 0) then some ((bU.mk t_.aO (bZ.mk 0 ([]:List Bool) ([]:List ByteArray))),e) else some ((bU.mk b.1 (bZ.mk 0 ([]:List Bool) ([]:List ByteArray))),0)))))))))))))))))
def jZ (t_:bU):Option cL :=
 ((iter (σ:=ByteArray×Int) (ρ:=ByteArray) (λb=>(bif (decide (b.2 < (t_.slot.has.length:Int))) then ((iter (σ:=Int×Int) (ρ:=Int) (λa=>(((bif (decide (a.2 < 8)) then some (decide ((IntKind.i64.wrap (b.2+a.2)) < (t_.slot.has.length:Int))) else some false):Option Bool).bind λd=>(bif d then ((((idx t_.slot.has (IntKind.i64.wrap (b.2+a.2))).bind λe=>(bif e then ((idx [1,2,4,8,16,32,64,128] a.2).bind λf=>some (IntKind.i64.wrap (a.1+f))) else some a.1)):Option Int).bind λg=>some (.inl (g,(IntKind.i64.wrap (a.2+1))))) else some (.inr a.1)))) (0,0)).bind λc=>((chk (kz b.1.size (cO [(IntKind.u8.wrap c)]).size)).bind λ_=>some (.inl ((b.1++(cO [(IntKind.u8.wrap c)])),(IntKind.i64.wrap (b.2+8)))))) else some (.inr b.1))) ((ByteArray.mk #[]),0)).bind λh=>some (cL.mk 1 2 [t_.aO.k,t_.slot.key] h))
def iL:Option Bool :=
 ((kr (cK.mk 5 1 2)).bind λr1=>(Option.bind iv λf=>((jT 3 2).bind λg=>((eC g).bind λb=>((eG r1 b.1).bind λh=>((eH h.2 0).bind λd=>((iter (σ:=aK×Int) (ρ:=aK ⊕ Bool) (λa=>(bif (decide (a.2 < (d.1.length:Int))) then ((idx d.1 a.2).bind λi=>((dA a.1 i).bind λe=>(bif (e.1 != 0) then (eJ (some false)) else some (.inl (e.2,(IntKind.i64.wrap (a.2+1))))))) else some (.inr (.inl a.1)))) (f,0)).bind λ | .inl e285=>((((fX e285).bind λj=>(bif (j == 1) then ((dM e285).bind λk=>((eC b.2).bind λc=>((fL k c.1).bind λl=>(bif l then ((cY e285).bind λm=>((kj m 0).bind λn=>some ((n == 1),c.2))) else some (false,c.2))))) else some (false,b.2))):Option (Bool×dJ)).bind λo=>some o.1) | .inr w=>some w)))))))
def iW (t_:aK) (x_:bU):Option Bool :=
 ((((fX t_).bind λa=>(bif (a == x_.aO.k) then ((dM t_).bind λb=>((kG b x_.aO).bind λc=>(bif c then ((fP t_.slot).bind λd=>((ic x_.slot false).bind λe=>((iC d e).bind λf=>(bif f then ((cY t_).bind λg=>((jZ x_).bind λh=>((lY g h).bind λi=>some i))) else some false)))) else some false))) else some false)):Option Bool).bind λj=>some j)
def gU (l:List cL) (at_:Int):Option Bool :=
 (Option.bind iL λr1=>(bif (!r1) then some false else (Option.bind iv λr6=>((iter (σ:=bU×aK×Int) (ρ:=(bU×aK) ⊕ Bool) (λb=>(((bif (decide (b.2.2 < (l.length:Int))) then some (decide (b.2.2 < 25)) else some false):Option Bool).bind λg=>(bif g then ((((idx l b.2.2).bind λh=>((jV h).bind λa=>(((bif (decide ((a.2.bW.length:Int) > 4)) then ((idx a.2.bW 4).bind λi=>(bif (decide (i > 60)) then ((idx a.2.bW 4).bind λj=>some (decide (j<=4096))) else some false)) else some false):Option Bool).bind λk=>(((bif k then ((idx a.2.bW 4).bind λr=>((idx a.1.bW 4).bind λs=>some ((cL.mk a.2.kn a.2.kind (a.2.bW.set ((4:Int).toNat) 60) a.2.data),(bY.mk a.1.kn a.1.kind (a.1.bW.set ((4:Int).toNat) 60) a.1.data)))) else some (a.2,a.1)):Option (cL×bY)).bind λc=>((fB b.2.1).bind λm=>((jw b.1 c.1).bind λe=>((((dA b.2.1 c.2).bind λd=>(bif (d.1 != e.2) then some (true,d.2,c.2) else ((iW m b.1).bind λn=>(bif (!n) then some (true,d.2,c.2) else ((iW d.2 e.1).bind λo=>some ((!o),d.2,c.2)))))):Option (Bool×aK×bY)).bind λf=>(bif f.1 then (my (eJ (some false))) else (bif (b.2.2 == at_) then ((gE f.2.1).bind λp=>some (.inl ((bU.mk (aV.mk 0 0 0 0 0 (ByteArray.mk #[]) ([]:List aU) 0 0 ([]:List aN)) (bZ.mk 0 ([]:List Bool) ([]:List ByteArray))),p))) else some (.inl (e.1,f.2.1))))))))))):Option ((bU×aK) ⊕ ((bU×aK×Int) ⊕ ((bU×aK) ⊕ Bool)))).bind λ | .inl e3179=>some (.inl (e3179.1,e3179.2,(IntKind.i64.wrap (b.2.2+1)))) | .inr w=>some w) else some (.inr (.inl (b.1,b.2.1)))))) ((bU.mk (aV.mk 0 0 0 0 0 (ByteArray.mk #[]) ([]:List aU) 0 0 ([]:List aN)) (bZ.mk 0 ([]:List Bool) ([]:List ByteArray))),r6,0)).bind λ | .inl e2621=>((iW e2621.2 e2621.1).bind λq=>some q) | .inr w=>some w))))
end Go.Tw.X
end

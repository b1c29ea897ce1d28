import Derived.Test.YtdhkangklnlnoaaGreatDoorFw2
set_option linter.unusedVariables false
set_option linter.unusedSimpArgs false
set_option maxRecDepth 10000
noncomputable section
namespace Go.Tw.X
open Go Go.Tw
structure cJ where
 b:List Int
 deriving DecidableEq,Inhabited
structure aG where
 s:ByteArray
 e:Int
 deriving DecidableEq,Inhabited
def mc (n_:Int):Option Int :=
 some n_
def nZ (n_:Int):Option Int :=
 some (imax 0 (cB n_ 4611686018427387904))
def jB {σ:Type} (Y:σ->Int->Option (σ×Bool)) (y0:σ) (x1:Int):Option (σ×Int) :=
 ((nZ x1).bind λr1=>((iter (σ:=Int×σ) (ρ:=(Int×σ) ⊕ (σ×Int)) (λa=>(bif (decide (a.1>=128)) then ((Y a.2 (Go.bits .or .u8 (Go.bits .and .u8 (IntKind.u8.wrap a.1) 127) 128)).bind λz68=>(bif (!z68.2) then (fH (some (z68.1,a.1))) else some (.inl ((a.1.fdiv (2 ^ (min 7 64))),z68.1)))) else some (.inr (.inl (a.1,a.2))))) (r1,y0)).bind λ | .inl e53=>((Y e53.2 (IntKind.u8.wrap e53.1)).bind λz75=>some (z75.1,e53.1)) | .inr w=>some w))
def dI (o:cJ) (l:List Int):Option cJ :=
 ((iter (σ:=cJ×Int) (ρ:=cJ) (λa=>(bif (decide (a.2 < (l.length:Int))) then ((idx l a.2).bind λe=>((mc e).bind λf=>((jB (λc d=>((chk (cQ c.b.length [d].length 1)).bind λ_=>some ((cJ.mk (c.b++[d])),true))) (a.1:cJ) f).bind λg=>some (.inl (g.1,(IntKind.i64.wrap (a.2+1))))))) else some (.inr a.1))) (o,0)).bind λh=>some h)
def gZ (o:cJ) (l:List ByteArray):Option cJ :=
 ((iter (σ:=cJ×Int) (ρ:=cJ) (λa=>(bif (decide (a.2 < (l.length:Int))) then ((idx l a.2).bind λc=>((chk (cQ a.1.b.length c.size 1)).bind λ_=>some (.inl ((cJ.mk (a.1.b++sbs c)),(IntKind.i64.wrap (a.2+1)))))) else some (.inr a.1))) (o,0)).bind λd=>some d)
def iy (o:cJ) (l:List ByteArray):Option cJ :=
 ((iter (σ:=cJ×Int) (ρ:=cJ) (λa=>(bif (decide (a.2 < (l.length:Int))) then ((idx l a.2).bind λb=>((dI a.1 [(b.size:Int)]).bind λc=>((gZ c [b]).bind λd=>some (.inl (d,(IntKind.i64.wrap (a.2+1))))))) else some (.inr a.1))) (o,0)).bind λe=>some e)
def fr (o:cJ):Option ByteArray :=
 some (dM o.b)
def kI (s_:ByteArray):Option aG :=
 some (aG.mk s_ 0)
def bP (in_:aG) (e:Int):Option aG :=
 (((bif (in_.e == 0) then some (e != 0) else some false):Option Bool).bind λe4=>(bif e4 then some (aG.mk (ByteArray.mk #[]) e) else some in_))
def bM (in_:aG):Option (Int×aG) :=
 ((iter (σ:=Int×Int) (ρ:=Unit ⊕ (Int×aG)) (λa=>(bif (decide (a.1 < (cB (in_.s.size:Int) 9))) then ((tC in_.s a.1).bind λb213=>((chk (shk (IntKind.i64.wrap (7*a.1)))).bind λ_=>(bif (decide (b213>=128)) then some (.inl ((IntKind.i64.wrap (a.1+1)),(Go.bits .or .i64 a.2 (IntKind.i64.wrap ((IntKind.i64.wrap (Go.bits .and .u8 b213 127))*2 ^ (min (IntKind.i64.wrap (7*a.1)).toNat 64)))))) else (((bif (decide (a.1 > 0)) then (bif (b213 == 0) then some true else some (decide ((Go.bits .or .i64 a.2 (IntKind.i64.wrap ((IntKind.i64.wrap (Go.bits .and .u8 b213 127))*2 ^ (min (IntKind.i64.wrap (7*a.1)).toNat 64)))) > 4611686018427387904))) else some (decide ((Go.bits .or .i64 a.2 (IntKind.i64.wrap ((IntKind.i64.wrap (Go.bits .and .u8 b213 127))*2 ^ (min (IntKind.i64.wrap (7*a.1)).toNat 64)))) > 4611686018427387904))):Option Bool).bind λb=>(bif b then ((bP in_ 1).bind λc=>(fH (some (0,c)))) else ((chk (eN (IntKind.i64.wrap (a.1+1)) (in_.s.size:Int) in_.s.size)).bind λ_=>(fH (some ((Go.bits .or .i64 a.2 (IntKind.i64.wrap ((IntKind.i64.wrap (Go.bits .and .u8 b213 127))*2 ^ (min (IntKind.i64.wrap (7*a.1)).toNat 64)))),(aG.mk (gG in_.s (IntKind.i64.wrap (a.1+1)) (in_.s.size:Int)) in_.e)))))))))) else some (.inr (.inl ())))) (0,0)).bind λ | .inl e176=>(((bif (decide ((in_.s.size:Int)>=9)) then ((bP in_ 1).bind λd=>some d) else some in_):Option aG).bind λf=>((bP f 2).bind λg=>some (0,g))) | .inr w=>some w)
def kJ (in_:aG) (n_:Int):Option (ByteArray×aG) :=
 (bif (decide ((imax 0 n_) > (in_.s.size:Int))) then ((bP in_ 2).bind λr6=>some ((ByteArray.mk #[]),r6)) else ((chk (eN 0 (imax 0 n_) in_.s.size)).bind λ_=>((chk (eN (imax 0 n_) (in_.s.size:Int) in_.s.size)).bind λ_=>some ((gG in_.s 0 (imax 0 n_)),(aG.mk (gG in_.s (imax 0 n_) (in_.s.size:Int)) in_.e)))))
def g0 (in_:aG):Option (ByteArray×aG) :=
 ((bM in_).bind λr1=>((kJ r1.2 r1.1).bind λr4=>some (r4.1,r4.2)))
def cY (in_:aG):Option Int :=
 some in_.e
def iP (in_:aG):Option Int :=
 (bif (!(in_.s.toList == (ByteArray.mk #[]).toList)) then some 1 else some in_.e)
def kd (in_:aG):Option Int :=
 some (in_.s.size:Int)
structure qh where
 lead:Int
 rune:Int
 Hg:Int
 deriving DecidableEq,Inhabited
structure oR where
 first:Int
 last:Int
 Hg:Int
 low:Int
 high:Int
 deriving DecidableEq,Inhabited
def uB:List oR:=[⟨194,223,1,128,191⟩,⟨224,224,2,160,191⟩,⟨225,236,2,128,191⟩,⟨237,237,2,128,159⟩,⟨238,239,2,128,191⟩,⟨240,240,3,144,191⟩,⟨241,243,3,128,191⟩,⟨244,244,3,128,143⟩]
structure cN where
 addr:Bool
 buf:List Int
 deriving DecidableEq,Inhabited
structure kq where
 e0:Int
 e1:Int
 e2:Int
 deriving DecidableEq,Inhabited
def me (x_:Int) (y:Int):Option (Int×Int) :=
 some ((IntKind.u64.wrap ((IntKind.u64.wrap ((IntKind.u64.wrap ((x_.fdiv (2 ^ (min 32 64)))*(y.fdiv (2 ^ (min 32 64)))))+((IntKind.u64.wrap ((IntKind.u64.wrap ((x_.fdiv (2 ^ (min 32 64)))*(Go.bits .and .u64 y 4294967295)))+((IntKind.u64.wrap ((Go.bits .and .u64 x_ 4294967295)*(Go.bits .and .u64 y 4294967295))).fdiv (2 ^ (min 32 64))))).fdiv (2 ^ (min 32 64)))))+((IntKind.u64.wrap ((Go.bits .and .u64 (IntKind.u64.wrap ((IntKind.u64.wrap ((x_.fdiv (2 ^ (min 32 64)))*(Go.bits .and .u64 y 4294967295)))+((IntKind.u64.wrap ((Go.bits .and .u64 x_ 4294967295)*(Go.bits .and .u64 y 4294967295))).fdiv (2 ^ (min 32 64))))) 4294967295)+(IntKind.u64.wrap ((Go.bits .and .u64 x_ 4294967295)*(y.fdiv (2 ^ (min 32 64))))))).fdiv (2 ^ (min 32 64))))),(IntKind.u64.wrap (x_*y)))
def mD (x_:Int) (y:Int):Option (Int×Int) :=
 ((me x_ y).bind λr1=>some (r1.1,r1.2))
def dS (b:cN) (s_:ByteArray):Option cN :=
 ((chk (cQ b.buf.length s_.size 1)).bind λ_=>some (cN.mk true (b.buf++sbs s_)))
def hG (b:cN):Option ByteArray :=
 some (dM b.buf)
def jY (m_:Mp ByteArray):Option (Mp ByteArray) :=
 some m_
def iY (x_:Int):Option Bool :=
 some (x_ != x_)
def gM (x_:Int) (y:Int):Option Int :=
 ((iY x_).bind λr1=>((iY y).bind λr4=>(bif r1 then (bif r4 then some 0 else some (-1)) else (bif r4 then some 1 else (bif (decide (x_ < y)) then some (-1) else (bif (decide (x_ > y)) then some 1 else some 0))))))
structure aO where
 rune:Int
 bW:Int
 part:Int
 deriving DecidableEq,Inhabited
structure aY where
 cells:List aO
 wrapped:Bool
 deriving DecidableEq,Inhabited
structure aM where
 rune:Int
 bW:Int
 deriving DecidableEq,Inhabited
def dY (x_:List aO) (count:Int):Option (List aO) :=
 (bif (decide (count < 0)) then none else ((mD (IntKind.u64.wrap (x_.length:Int)) (IntKind.u64.wrap count)).bind λr3=>(((bif (decide (r3.1 > 0)) then some true else some (decide (r3.2 > 9223372036854775807))):Option Bool).bind λe9=>(bif e9 then none else ((chk (tA (IntKind.i64.wrap r3.2) 24)).bind λ_=>((iter (σ:=(List aO)×Int) (ρ:=(List aO)) (λa=>(bif (decide (a.2 < (a.1.length:Int))) then ((chk (eN a.2 (a.1.length:Int) a.1.length)).bind λ_=>((chk (eN 0 a.2 a.1.length)).bind λ_=>some (.inl ((uz a.1 a.2.toNat),(IntKind.i64.wrap (a.2+((Nat.min a.2.toNat (a.1.length - a.2.toNat):Nat):Int))))))) else some (.inr a.1))) ((cpy (List.replicate (IntKind.i64.wrap r3.2).toNat (aO.mk 0 0 0)) x_),((Nat.min x_.length (List.replicate (IntKind.i64.wrap r3.2).toNat (aO.mk 0 0 0)).length:Nat):Int))).bind λb=>some b))))))
def fz (s_:List aO):Option (List aO) :=
 ((chk (cQ ([]:List aO).length s_.length 24)).bind λ_=>some (([]:List aO)++s_))
def fA (s1_:List aO) (s2_:List aO):Option Bool :=
 (bif ((s1_.length:Int) != (s2_.length:Int)) then some false else ((iter (σ:=Int) (ρ:=Unit ⊕ Bool) (λa=>(bif (decide (a < (s1_.length:Int))) then ((idx s1_ a).bind λb=>((idx s2_ a).bind λc=>(bif (!((b.rune == c.rune) && ((b.bW == c.bW) && ((b.part == c.part) && true)))) then (fH (some false)) else some (.inl (IntKind.i64.wrap (a+1)))))) else some (.inr (.inl ())))) 0).bind λ | .inl e355=>some true | .inr w=>some w))
def gC (r_:aY) (q:aY):Option Bool :=
 (((bif (r_.wrapped == q.wrapped) then ((fA r_.cells q.cells).bind λa=>some a) else some false):Option Bool).bind λb=>some b)
def cS (s1_:List aY) (s2_:List aY):Option Bool :=
 (bif ((s1_.length:Int) != (s2_.length:Int)) then some false else ((iter (σ:=Int) (ρ:=Unit ⊕ Bool) (λa=>(bif (decide (a < (s1_.length:Int))) then ((idx s1_ a).bind λb=>((idx s2_ a).bind λc=>((gC b c).bind λd=>(bif (!d) then (fH (some false)) else some (.inl (IntKind.i64.wrap (a+1))))))) else some (.inr (.inl ())))) 0).bind λ | .inl e169=>some true | .inr w=>some w))
def cT (s_:List aM):Option (List aM) :=
 ((chk (cQ ([]:List aM).length s_.length 16)).bind λ_=>some (([]:List aM)++s_))
def fp (s1_:List aM) (s2_:List aM):Option Bool :=
 (bif ((s1_.length:Int) != (s2_.length:Int)) then some false else ((iter (σ:=Int) (ρ:=Unit ⊕ Bool) (λa=>(bif (decide (a < (s1_.length:Int))) then ((idx s1_ a).bind λb=>((idx s2_ a).bind λc=>(bif (!((b.rune == c.rune) && ((b.bW == c.bW) && true))) then (fH (some false)) else some (.inl (IntKind.i64.wrap (a+1)))))) else some (.inr (.inl ())))) 0).bind λ | .inl e355=>some true | .inr w=>some w))
def dE:List Int:=[0,498536548,997073096,651767980,1994146192,1802195444,1303535960,1342533948,3988292384,4027552580,3604390888,3412177804,2607071920,2262029012,2685067896,3183342108]
def lf (x_:Int) (b:Int):Option Int :=
 ((idx dE (Go.bits .and .u32 (Go.bits .xor .u32 x_ (IntKind.u32.wrap b)) 15)).bind λx1=>((idx dE (Go.bits .and .u32 (Go.bits .xor .u32 ((Go.bits .xor .u32 x_ (IntKind.u32.wrap b)).fdiv (2 ^ (min 4 32))) x1) 15)).bind λx5=>some (Go.bits .xor .u32 ((Go.bits .xor .u32 ((Go.bits .xor .u32 x_ (IntKind.u32.wrap b)).fdiv (2 ^ (min 4 32))) x1).fdiv (2 ^ (min 4 32))) x5)))
def mE (l:List ByteArray):Option Int :=
 ((iter (σ:=Int×Int) (ρ:=Int) (λa=>(bif (decide (a.2 < (l.length:Int))) then ((idx l a.2).bind λc=>((iter (σ:=Int×Int) (ρ:=Int) (λb=>(bif (decide (b.1 < (c.size:Int))) then ((tC c b.1).bind λb642=>((lf b.2 b642).bind λd=>some (.inl ((IntKind.i64.wrap (b.1+1)),d)))) else some (.inr b.2))) (0,a.1)).bind λe=>some (.inl (e,(IntKind.i64.wrap (a.2+1)))))) else some (.inr a.1))) (4294967295,0)).bind λf=>some (Go.bits .xor .u32 4294967295 f))
def lg (x_:Int):Option ByteArray :=
 some (dM [(IntKind.u8.wrap x_),(IntKind.u8.wrap (x_.fdiv (2 ^ (min 8 32)))),(IntKind.u8.wrap (x_.fdiv (2 ^ (min 16 32)))),(IntKind.u8.wrap (x_.fdiv (2 ^ (min 24 32))))])
def lh (s_:ByteArray):Option ByteArray :=
 ((mE [s_]).bind λr3=>((lg r3).bind λr6=>((chk (kG s_.size r6.size)).bind λ_=>some (s_++r6))))
def mF (s_:ByteArray):Option (ByteArray×Bool) :=
 (((bif (decide ((IntKind.i64.wrap ((s_.size:Int) - 4)) < 0)) then some true else ((chk (eN (IntKind.i64.wrap ((s_.size:Int) - 4)) (s_.size:Int) s_.size)).bind λ_=>((chk (eN 0 (IntKind.i64.wrap ((s_.size:Int) - 4)) s_.size)).bind λ_=>((mE [(gG s_ 0 (IntKind.i64.wrap ((s_.size:Int) - 4)))]).bind λa=>((lg a).bind λb=>some (!((gG s_ (IntKind.i64.wrap ((s_.size:Int) - 4)) (s_.size:Int)).toList == b.toList))))))):Option Bool).bind λc=>(bif c then some ((ByteArray.mk #[]),false) else ((chk (eN 0 (IntKind.i64.wrap ((s_.size:Int) - 4)) s_.size)).bind λ_=>some ((gG s_ 0 (IntKind.i64.wrap ((s_.size:Int) - 4))),true))))
def lF (l:List aM):Option ByteArray :=
 ((dI (cJ.mk ([]:List Int)) [(l.length:Int)]).bind λr6=>((iter (σ:=cJ×Int) (ρ:=cJ) (λa=>(bif (decide (a.2 < (l.length:Int))) then ((idx l a.2).bind λb=>((dI a.1 [(IntKind.i64.wrap b.rune),b.bW]).bind λc=>some (.inl (c,(IntKind.i64.wrap (a.2+1)))))) else some (.inr a.1))) (r6,0)).bind λd=>((fr d).bind λe=>some e)))
def fI (in_:aG) (most:Int):Option (Int×aG) :=
 ((bM in_).bind λr1=>(bif (decide (r1.1 > most)) then ((bP r1.2 1).bind λr9=>some (0,r9)) else some (r1.1,r1.2)))
def iK (in_:aG):Option ((List aM)×aG) :=
 ((fI in_ 1024).bind λr1=>((iter (σ:=aG×(List aM)×Int) (ρ:=(List aM)×aG) (λa=>(bif (decide (a.2.2 < r1.1)) then ((fI a.1 1114111).bind λc=>((fI c.2 647).bind λd=>((chk (cQ a.2.1.length [(aM.mk (IntKind.i32.wrap c.1) d.1)].length 16)).bind λ_=>some (.inl (d.2,(a.2.1++[(aM.mk (IntKind.i32.wrap c.1) d.1)]),(IntKind.i64.wrap (a.2.2+1))))))) else some (.inr (a.2.1,a.1)))) (r1.2,[],0)).bind λb=>((cY b.2).bind λe=>(bif (e != 0) then some (([]:List aM),b.2) else some (b.1,b.2)))))
structure aB where
 from_:Int
 to:Int
 deriving DecidableEq,Inhabited
structure bZ where
 l:List aB
 deriving DecidableEq,Inhabited
def eU (x_:aB):Option aB :=
 some (aB.mk (imax (-1152921504606846976) (cB x_.from_ 1152921504606846976)) (imax (-1152921504606846976) (cB x_.to 1152921504606846976)))
def jt (x_:aB) (y:aB):Option aB :=
 some (aB.mk (imax x_.from_ y.from_) (cB x_.to y.to))
def dJ (x_:aB):Option Bool :=
 some (decide (x_.to<=x_.from_))
def iz (s_:bZ) (x_:aB):Option (List aB) :=
 ((iter (σ:=Int×(List aB)) (ρ:=(List aB)) (λa=>(bif (decide (a.1 < (s_.l.length:Int))) then ((((idx s_.l a.1).bind λc=>((eU x_).bind λd=>((jt c d).bind λb=>((dJ b).bind λe=>(bif (!e) then ((chk (cQ a.2.length [b].length 16)).bind λ_=>some (a.2++[b])) else some a.2))))):Option (List aB)).bind λf=>some (.inl ((IntKind.i64.wrap (a.1+1)),f))) else some (.inr a.2))) (0,[])).bind λg=>some g)
def cV (x_:aB) (x1:Int):Option Bool :=
 (((bif (decide (x1>=x_.from_)) then some (decide (x1 < x_.to)) else some false):Option Bool).bind λe5=>some e5)
def cA (s_:List aB) (f_0:Int):Option Int :=
 ((iter (σ:=Int) (ρ:=Unit ⊕ Int) (λa=>(bif (decide (a < (s_.length:Int))) then ((idx s_ a).bind λb=>((cV b f_0).bind λc=>(bif c then (fH (some a)) else some (.inl (IntKind.i64.wrap (a+1)))))) else some (.inr (.inl ())))) 0).bind λ | .inl e77=>some (-1) | .inr w=>some w)
def cL (s_:List aB) (f_0:Int):Option Bool :=
 ((cA s_ f_0).bind λr1=>some (decide (r1>=0)))
def gm (s_:bZ) (n_:Int):Option Bool :=
 ((cL s_.l n_).bind λr2=>some r2)
def kr (l:List aB) (x_:aB):Option ((List aB)×aB) :=
 some (l,x_)
def gN {σ:Type} (Y:σ->aB->Option (σ×Bool)) (y0:σ) (x1:List aB) (x2:aB):Option σ :=
 ((iter (σ:=Int×σ) (ρ:=σ ⊕ σ) (λc=>(bif (decide (c.1 < (x1.length:Int))) then ((idx x1 c.1).bind λa=>((iter (σ:=Int×σ) (ρ:=σ ⊕ ((Int×σ) ⊕ (σ ⊕ σ))) (λb=>(bif (decide (b.1 < ([(aB.mk a.from_ (cB a.to x2.from_)),(aB.mk (imax a.from_ x2.to) a.to)].length:Int))) then ((idx [(aB.mk a.from_ (cB a.to x2.from_)),(aB.mk (imax a.from_ x2.to) a.to)] b.1).bind λe=>((((dJ e).bind λf=>(bif (!f) then ((Y b.2 e).bind λz2582=>some ((!z2582.2),z2582.1)) else some (false,b.2))):Option (Bool×σ)).bind λd=>(bif d.1 then (fH (fH (some d.2))) else some (.inl ((IntKind.i64.wrap (b.1+1)),d.2))))) else some (.inr (.inl b.2)))) (0,c.2)).bind λ | .inl e2507=>some (.inl ((IntKind.i64.wrap (c.1+1)),e2507)) | .inr w=>some w)) else some (.inr (.inl c.2)))) (0,y0)).bind λ | .inl e1939=>some e1939 | .inr w=>some w)
def gJ (s_:bZ) (l:List aB):Option bZ :=
 ((iter (σ:=bZ×Int) (ρ:=bZ) (λa=>(bif (decide (a.2 < (l.length:Int))) then ((((idx l a.2).bind λf=>((eU f).bind λb=>((dJ b).bind λg=>(bif g then some a.1 else ((kr a.1.l b).bind λc=>((gN (λd e=>((chk (cQ d.length [e].length 16)).bind λ_=>some ((d++[e]),true))) ([]:(List aB)) c.1 c.2).bind λh=>some (bZ.mk h))))))):Option bZ).bind λi=>some (.inl (i,(IntKind.i64.wrap (a.2+1))))) else some (.inr a.1))) (s_,0)).bind λj=>some j)
def fq (n_:Int):Option (List aB) :=
 (bif (decide (n_ < 0)) then none else (((bif (decide ((IntKind.i64.wrap (n_ - (IntKind.i64.wrap (0 - 0)))) > 0)) then ((chk (FN (IntKind.i64.wrap (n_ - (IntKind.i64.wrap (0 - 0)))) 16)).bind λ_=>((chk (eN 0 0 (List.replicate (IntKind.i64.wrap (n_ - (IntKind.i64.wrap (0 - 0)))).toNat (aB.mk 0 0)).length)).bind λ_=>some (cut (List.replicate (IntKind.i64.wrap (n_ - (IntKind.i64.wrap (0 - 0)))).toNat (aB.mk 0 0)) 0 0))) else some []):Option (List aB)).bind λa=>some a))
def dO (slices:List (List aB)):Option (List aB) :=
 ((iter (σ:=Int×Int) (ρ:=Int) (λa=>(bif (decide (a.1 < (slices.length:Int))) then ((idx slices a.1).bind λc=>(bif (decide ((IntKind.i64.wrap (a.2+(c.length:Int))) < 0)) then none else some (.inl ((IntKind.i64.wrap (a.1+1)),(IntKind.i64.wrap (a.2+(c.length:Int))))))) else some (.inr a.2))) (0,0)).bind λe=>((fq e).bind λf=>((iter (σ:=Int×(List aB)) (ρ:=(List aB)) (λb=>(bif (decide (b.1 < (slices.length:Int))) then ((idx slices b.1).bind λd=>((chk (cQ b.2.length d.length 16)).bind λ_=>some (.inl ((IntKind.i64.wrap (b.1+1)),(b.2++d))))) else some (.inr b.2))) (0,f)).bind λg=>some g)))
def fP (s_:bZ) (l:List aB):Option bZ :=
 ((iter (σ:=bZ×Int) (ρ:=bZ) (λb=>(bif (decide (b.2 < (l.length:Int))) then ((((idx l b.2).bind λe=>((eU e).bind λd=>((dJ d).bind λf=>(bif f then some b.1 else ((iter (σ:=aB×Int×(List aB)) (ρ:=((List aB)×aB) ⊕ bZ) (λa=>(bif (decide (a.2.1 < (b.1.l.length:Int))) then ((((idx b.1.l a.2.1).bind λc=>(bif (decide (c.to < a.1.from_)) then ((chk (cQ a.2.2.length [c].length 16)).bind λ_=>some (.inl ((a.2.2++[c]),a.1))) else (bif (decide (c.from_ > a.1.to)) then ((chk (eN a.2.1 (b.1.l.length:Int) b.1.l.length)).bind λ_=>((dO ([a.2.2,[a.1],(cut b.1.l a.2.1 (b.1.l.length:Int))])).bind λg=>(nA (fH (some (bZ.mk g)))))) else some (.inl (a.2.2,(aB.mk (cB a.1.from_ c.from_) (imax a.1.to c.to))))))):Option (((List aB)×aB) ⊕ ((aB×Int×(List aB)) ⊕ (((List aB)×aB) ⊕ bZ)))).bind λ | .inl e14292=>some (.inl (e14292.2,(IntKind.i64.wrap (a.2.1+1)),e14292.1)) | .inr w=>some w) else some (.inr (.inl (a.2.2,a.1))))) (d,0,[])).bind λ | .inl e14097=>((chk (cQ e14097.1.length [e14097.2].length 16)).bind λ_=>some (bZ.mk (e14097.1++[e14097.2]))) | .inr w=>some w))))):Option bZ).bind λh=>some (.inl (h,(IntKind.i64.wrap (b.2+1))))) else some (.inr b.1))) (s_,0)).bind λi=>some i)
def eV (s_:List aB):Option (List aB) :=
 ((chk (cQ ([]:List aB).length s_.length 16)).bind λ_=>some (([]:List aB)++s_))
def kK (s_:bZ):Option (List aB) :=
 ((eV s_.l).bind λr1=>some r1)
def iZ (s_:bZ):Option Int :=
 ((iter (σ:=Int×Int) (ρ:=Int) (λa=>(bif (decide (a.1 < (s_.l.length:Int))) then ((idx s_.l a.1).bind λb=>some (.inl ((IntKind.i64.wrap (a.1+1)),(IntKind.i64.wrap (a.2+(IntKind.i64.wrap (b.to - b.from_))))))) else some (.inr a.2))) (0,0)).bind λc=>some c)
def ju (s_:bZ):Option bZ :=
 ((eV s_.l).bind λr1=>some (bZ.mk r1))
structure CacheEntry where
 l:List aM
 at_:Int
 deriving DecidableEq,Inhabited
structure aP where
 most:Int
 now:Int
 l:Mp CacheEntry
 deriving DecidableEq,Inhabited
def kA (most:Int):Option aP :=
 some (aP.mk (imax 1 (cB most 65536)) 0 (some []:Mp CacheEntry))
def fO (c:aP):Option aP :=
 some (aP.mk c.most c.now (Ed c.l))
def eD (c:aP) (i:Int) (l:List aM):Option aP :=
 ((chk c.l.isSome).bind λ_=>some (aP.mk c.most (IntKind.i64.wrap (c.now+1)) (AJ c.l i (CacheEntry.mk l (IntKind.i64.wrap (c.now+1))))))
def iA (m_:Mp CacheEntry):Option Unit :=
 some ()
def dX (seq_0:Mp CacheEntry):Option Unit :=
 ((chk seq_0.isSome).bind λ_=>Option.bind (chk (cQ (yD seq_0) 1 8)) λ_=>some ())
def eW (a:Int) (b:Int) (x2:aP):Option Int :=
 ((((gM ((mgd x2.l a (CacheEntry.mk ([]:List aM) 0)).at_) ((mgd x2.l b (CacheEntry.mk ([]:List aM) 0)).at_)).bind λc=>some c):Option Int).bind λd=>some d)
def dG (x_:List Int) (cmp_0:aP):Option Int :=
 (bif (decide ((x_.length:Int) < 1)) then none else ((idx x_ 0).bind λx3=>((iter (σ:=Int×Int) (ρ:=Int) (λa=>(bif (decide (a.2 < (x_.length:Int))) then ((((idx x_ a.2).bind λb=>((eW b a.1 cmp_0).bind λc=>(bif (decide (c < 0)) then ((idx x_ a.2).bind λd=>some d) else some a.1))):Option Int).bind λe=>some (.inl (e,(IntKind.i64.wrap (a.2+1))))) else some (.inr a.1))) (x3,1)).bind λf=>some f)))
def gb (c:aP) (i:Int) (l:List aM):Option (Int×Bool×aP) :=
 (((bif (decide (i < 0)) then some true else some (decide (i > 1152921504606846976))):Option Bool).bind λe5=>(bif e5 then some (0,false,c) else ((cT l).bind λd=>((eD c i d).bind λa=>(bif (decide (((yD a.l:Nat):Int)<=a.most)) then some (0,false,a) else ((iA a.l).bind λe=>((dX a.l).bind λf=>(vw (mks a.l) λv64=>((dG v64 a).bind λb=>some (b,true,(aP.mk a.most a.now (AK a.l b))))))))))))
def eE (c:aP):Option (List aB) :=
 ((chk c.l.isSome).bind λ_=>((vw (c.l.getD []) (λR=>mC (λs=>some (.inr s)) (λe s=>((fP s [(aB.mk e.1 (IntKind.i64.wrap (e.1+1)))]).bind λs2=>some (.inl s2))) R (bZ.mk []))).bind λs1=>kK s1))
def fv (c:aP) (i:Int):Option ((List aM)×Bool) :=
 ((cT ((mgd c.l i (CacheEntry.mk ([]:List aM) 0)).l)).bind λr5=>some (r5,(gL c.l i)))
def ff (c:aP) (i:Int):Option ((List aM)×Bool×aP) :=
 (((bif (gL c.l i) then ((eD c i ((mgd c.l i (CacheEntry.mk ([]:List aM) 0)).l)).bind λd=>some d) else some c):Option aP).bind λa=>((fv a i).bind λb=>some (b.1,b.2,a)))
def hU (m_:Mp CacheEntry):Option (Mp CacheEntry) :=
 some m_
def ik (c:aP):Option aP :=
 ((hU c.l).bind λa=>some (aP.mk c.most c.now a))
structure aV where
 aT:Int
 kind:Int
 aX:List Int
 data:ByteArray
 deriving DecidableEq,Inhabited
def hZ (n_:Int) (lo:Int) (hi:Int):Option Bool :=
 (((bif (decide (n_>=lo)) then some (decide (n_<=hi)) else some false):Option Bool).bind λe4=>some e4)
def gO (g:aV):Option Bool :=
 ((((hZ g.aT 1 4294967296).bind λb=>(bif (!b) then some true else ((hZ g.kind 1 4).bind λc=>(bif (!c) then some true else some (decide ((g.aX.length:Int) > 64)))))):Option Bool).bind λd=>(bif d then some false else ((iter (σ:=Int) (ρ:=Unit ⊕ Bool) (λa=>(bif (decide (a < (g.aX.length:Int))) then ((idx g.aX a).bind λe=>((hZ e 0 4611686018427387904).bind λf=>(bif (!f) then (fH (some false)) else some (.inl (IntKind.i64.wrap (a+1)))))) else some (.inr (.inl ())))) 0).bind λ | .inl e108=>some true | .inr w=>some w)))
def gf (g:aV):Option ByteArray :=
 ((dI (cJ.mk ([]:List Int)) [g.aT,g.kind,(g.aX.length:Int)]).bind λa=>((dI a g.aX).bind λb=>((iy b [g.data]).bind λc=>((fr c).bind λd=>((lh d).bind λe=>some e)))))
def gg (g:aV):Option Int :=
 ((gO g).bind λa=>(bif (!a) then some 6 else ((gf g).bind λb=>(bif (decide ((b.size:Int) > 8192)) then some 3 else some 0))))
def dZ (g:aV):Option ByteArray :=
 ((gg g).bind λr2=>(bif (r2 != 0) then some (ByteArray.mk #[]) else ((gf g).bind λr7=>some r7)))
def lG (in_:aG):Option (aV×aG) :=
 ((bM in_).bind λr2=>((bM r2.2).bind λr5=>((bM r5.2).bind λr9=>(((bif (decide (r9.1 > 64)) then ((bP r9.2 1).bind λe=>some e) else some r9.2):Option aG).bind λf=>((iter (σ:=aV×aG×Int) (ρ:=aG×aV) (λa=>(bif (decide (a.2.2 < (cB r9.1 64))) then ((bM a.2.1).bind λc=>((chk (cQ a.1.aX.length [c.1].length 8)).bind λ_=>some (.inl ((aV.mk a.1.aT a.1.kind (a.1.aX++[c.1]) a.1.data),c.2,(IntKind.i64.wrap (a.2.2+1)))))) else some (.inr (a.2.1,a.1)))) ((aV.mk r2.1 r5.1 ([]:List Int) (ByteArray.mk #[])),f,0)).bind λb=>((g0 b.1).bind λd=>some ((aV.mk b.2.aT b.2.kind b.2.aX d.1),d.2)))))))
def jO (s_:ByteArray):Option (aV×Int) :=
 (bif (decide ((s_.size:Int) > 8192)) then some ((aV.mk 0 0 ([]:List Int) (ByteArray.mk #[])),3) else ((mF s_).bind λr5=>(bif (!r5.2) then some ((aV.mk 0 0 ([]:List Int) (ByteArray.mk #[])),4) else ((kI r5.1).bind λd=>((lG d).bind λa=>((iP a.2).bind λb=>(((bif (b == 0) then ((gg a.1).bind λe=>some e) else some b):Option Int).bind λc=>(bif (c != 0) then some ((aV.mk 0 0 ([]:List Int) (ByteArray.mk #[])),c) else some (a.1,0)))))))))
structure bE where
 most:Int
 every:Int
 due:Int
 want:bZ
 deriving DecidableEq,Inhabited
def fJ (n_:Int) (lo:Int) (hi:Int):Option Int :=
 some (imax lo (cB n_ hi))
def kB (most:Int) (every:Int):Option bE :=
 ((fJ most 1 65536).bind λr1=>((fJ every 1 1048576).bind λr4=>some (bE.mk r1 r4 0 (bZ.mk ([]:List aB)))))
def eG (f:bE) (now:Int) (length:Int):Option ((List aB)×bE) :=
 ((iz f.want (aB.mk 0 length)).bind λr1=>(((bif ((r1.length:Int) == 0) then some true else some (decide (now < f.due))):Option Bool).bind λa=>(bif a then some (([]:List aB),f) else ((chk (eN 0 (cB (r1.length:Int) 8) r1.length)).bind λ_=>some ((cut r1 0 (cB (r1.length:Int) 8)),(bE.mk f.most f.every (IntKind.i64.wrap (now+f.every)) f.want))))))
def dB (f:bE):Option bE :=
 some (bE.mk f.most f.every 0 (bZ.mk ([]:List aB)))
def iQ (g:aV):Option (Int×(List (List aM))×Int) :=
 (bif (g.kind != 4) then some (0,([]:List (List aM)),5) else (bif ((g.aX.length:Int) != 2) then some (0,([]:List (List aM)),1) else ((kI g.data).bind λr8=>((iter (σ:=aG×(List (List aM))) (ρ:=(List (List aM))×aG) (λa=>((((kd a.1).bind λf=>(bif (decide (f > 0)) then ((idx g.aX 1).bind λh=>some (decide ((a.2.length:Int) < h))) else some false)):Option Bool).bind λi=>(bif i then ((iK a.1).bind λb=>((chk (cQ a.2.length [b.1].length 24)).bind λ_=>some (.inl (b.2,(a.2++[b.1]))))) else some (.inr (a.2,a.1))))) (r8,[])).bind λc=>((iP c.2).bind λd=>(((bif (d == 0) then ((idx g.aX 1).bind λj=>some ((c.1.length:Int) != j)) else some false):Option Bool).bind λk=>(((bif k then some 1 else some d):Option Int).bind λe=>(bif (e != 0) then some (0,([]:List (List aM)),e) else ((idx g.aX 0).bind λl=>some (l,c.1,0))))))))))
def lH (is:Bool):Option Int :=
 (bif is then some 1 else some 0)
def fg (f:bE) (i:Int):Option (Bool×bE) :=
 ((gm f.want i).bind λr1=>((lH (decide (i < 1152921504606846976))).bind λa=>((gJ f.want [(aB.mk i (IntKind.i64.wrap (i+a)))]).bind λb=>some (r1,(bE.mk f.most f.every f.due b)))))
def eO (f:bE) (x_:aB) (aK:List aB):Option (Int×bE) :=
 ((fJ x_.from_ 0 1152921504606846976).bind λb=>((fJ x_.to 0 1152921504606846976).bind λd=>((dB f).bind λa=>((fP a.want [(aB.mk b (cB d (IntKind.i64.wrap (b+f.most))))]).bind λe=>((gJ e aK).bind λc=>((iZ c).bind λg=>some (g,(bE.mk a.most a.every a.due c))))))))
def gp (f:bE):Option bE :=
 ((ju f.want).bind λr2=>some (bE.mk f.most f.every f.due r2))
structure AO where
 kind:Int
 rune:Int
 byte:Int
 BW:Bool
 aX:List Int
 text:ByteArray
 deriving DecidableEq,Inhabited
structure xh where
 BW:Bool
 Hn:Bool
 any:Bool
 some:Bool
 n:Int
 aX:List Int
 deriving DecidableEq,Inhabited
structure AP where
 state:Int
 order:xh
 text:ByteArray
 Ho:qh
 out:List AO
 deriving DecidableEq,Inhabited
structure aN where
 k:Int
 w:Int
 h:Int
 x:Int
 y:Int
 title:ByteArray
 rows:List aY
 len:Int
 chain:Int
 begun:List aM
 deriving DecidableEq,Inhabited
def fK (s_:aN):Option Bool :=
 (((bif (s_.k == 0) then (bif (s_.w == 0) then (bif (s_.h == 0) then (bif (s_.x == 0) then (bif (s_.y == 0) then (bif (s_.title.toList == (ByteArray.mk #[]).toList) then (bif ((s_.rows.length:Int) == 0) then (bif (s_.len == 0) then (bif (s_.chain == 0) then some ((s_.begun.length:Int) == 0) else some false) else some false) else some false) else some false) else some false) else some false) else some false) else some false) else some false):Option Bool).bind λa=>some a)
def dQ (n_:Int) (lo:Int) (hi:Int):Option Bool :=
 (((bif (decide (n_>=lo)) then some (decide (n_<=hi)) else some false):Option Bool).bind λe4=>some e4)
def gP (s_:aN):Option Bool :=
 ((((dQ s_.k 1 1152921504606846976).bind λa=>(bif a then ((dQ s_.w 1 1000).bind λb=>(bif b then ((dQ s_.h 1 1000).bind λc=>(bif c then ((dQ s_.x 0 (IntKind.i64.wrap (s_.w - 1))).bind λd=>(bif d then ((dQ s_.y 0 (IntKind.i64.wrap (s_.h - 1))).bind λe=>(bif e then (bif ((s_.rows.length:Int) == s_.h) then (bif (decide ((s_.title.size:Int)<=200)) then ((dQ s_.len 0 1152921504606846976).bind λf=>(bif f then ((dQ s_.chain 0 281474976710656).bind λg=>(bif g then some (decide ((s_.begun.length:Int)<=1024)) else some false)) else some false)) else some false) else some false) else some false)) else some false)) else some false)) else some false)) else some false)):Option Bool).bind λi=>some i)
def jP (r_:Int) (bW:Int):Option Bool :=
 ((((dQ (IntKind.i64.wrap r_) 0 1114111).bind λa=>(bif a then ((dQ bW 0 647).bind λb=>some b) else some false)):Option Bool).bind λc=>some c)
def gq (g:aM):Option Bool :=
 ((jP g.rune g.bW).bind λr2=>some (!r2))
def cW (s_:List aM):Option Int :=
 ((iter (σ:=Int) (ρ:=Unit ⊕ Int) (λa=>(bif (decide (a < (s_.length:Int))) then ((idx s_ a).bind λb=>((gq b).bind λc=>(bif c then (fH (some a)) else some (.inl (IntKind.i64.wrap (a+1)))))) else some (.inr (.inl ())))) 0).bind λ | .inl e77=>some (-1) | .inr w=>some w)
def cG (s_:List aM):Option Bool :=
 ((cW s_).bind λr1=>some (decide (r1>=0)))
def lI (c:aO):Option Bool :=
 ((((jP c.rune c.bW).bind λa=>(bif a then ((dQ c.part 0 3).bind λb=>some b) else some false)):Option Bool).bind λd=>some d)
def gr (c:aO):Option Bool :=
 ((lI c).bind λr2=>some (!r2))
def cZ (s_:List aO):Option Int :=
 ((iter (σ:=Int) (ρ:=Unit ⊕ Int) (λa=>(bif (decide (a < (s_.length:Int))) then ((idx s_ a).bind λb=>((gr b).bind λc=>(bif c then (fH (some a)) else some (.inl (IntKind.i64.wrap (a+1)))))) else some (.inr (.inl ())))) 0).bind λ | .inl e77=>some (-1) | .inr w=>some w)
def cE (s_:List aO):Option Bool :=
 ((cZ s_).bind λr1=>some (decide (r1>=0)))
def fL (s_:aN):Option Int :=
 ((fK s_).bind λr2=>(bif r2 then some 0 else ((((gP s_).bind λc=>(bif (!c) then some true else ((cG s_.begun).bind λd=>some d))):Option Bool).bind λe=>(bif e then some 1 else ((iter (σ:=Int) (ρ:=Unit ⊕ Int) (λa=>(bif (decide (a < (s_.rows.length:Int))) then ((idx s_.rows a).bind λb=>(((bif ((b.cells.length:Int) != s_.w) then some true else ((cE b.cells).bind λf=>some f)):Option Bool).bind λg=>(bif g then (fH (some 1)) else some (.inl (IntKind.i64.wrap (a+1)))))) else some (.inr (.inl ())))) 0).bind λ | .inl e212=>some 0 | .inr w=>some w)))))
def n0 (is:Bool):Option Int :=
 (bif is then some 1 else some 0)
def mS (l:List aO):Option (List aO) :=
 some l
def lA {σ:Type} (Y:σ->(Int×aO)->Option (σ×Bool)) (y0:σ) (x1:List aO):Option (σ×(List aO)) :=
 ((iter (σ:=(List aO)×σ) (ρ:=((List aO)×σ) ⊕ (σ×(List aO))) (λa=>(bif (decide ((a.1.length:Int) > 0)) then ((iter (σ:=Int) (ρ:=Int) (λb=>(((bif (decide (b < (a.1.length:Int))) then ((idx a.1 b).bind λc=>((idx a.1 0).bind λd=>some ((c.rune == d.rune) && ((c.bW == d.bW) && ((c.part == d.part) && true))))) else some false):Option Bool).bind λf=>(bif f then some (.inl (IntKind.i64.wrap (b+1))) else some (.inr b)))) 1).bind λe=>((idx a.1 0).bind λg=>((Y a.2 (e,g)).bind λz1399=>(bif (!z1399.2) then (fH (some (z1399.1,a.1))) else ((chk (eN e (a.1.length:Int) a.1.length)).bind λ_=>some (.inl ((cut a.1 e (a.1.length:Int)),z1399.1))))))) else some (.inr (.inl (a.1,a.2))))) (x1,y0)).bind λ | .inl e1058=>some (e1058.2,e1058.1) | .inr w=>some w)
def jC (r_:aY):Option ByteArray :=
 ((n0 r_.wrapped).bind λr3=>((dI (cJ.mk ([]:List Int)) [r3]).bind λb=>((mS r_.cells).bind λc=>((lA (λd a=>((dI d [a.1,(IntKind.i64.wrap a.2.rune),a.2.bW,a.2.part]).bind λe=>some (e,true))) (b:cJ) c).bind λf=>((fr f.1).bind λg=>some g)))))
def gB (s_:aN):Option ByteArray :=
 ((((fK s_).bind λb=>(bif b then some true else ((fL s_).bind λc=>some (c != 0)))):Option Bool).bind λd=>(bif d then some (ByteArray.mk #[]) else ((dI (cJ.mk ([]:List Int)) [s_.k,s_.w,s_.h,s_.x,s_.y]).bind λe=>((iy e [s_.title]).bind λf=>((dI f [s_.len,s_.chain]).bind λg=>((lF s_.begun).bind λi=>((gZ g [i]).bind λj=>((iter (σ:=cJ×Int) (ρ:=cJ) (λa=>(bif (decide (a.2 < (s_.rows.length:Int))) then ((idx s_.rows a.2).bind λl=>((jC l).bind λm=>((gZ a.1 [m]).bind λn=>some (.inl (n,(IntKind.i64.wrap (a.2+1))))))) else some (.inr a.1))) (j,0)).bind λo=>((fr o).bind λp=>some p)))))))))
def sd (in_:aG):Option (Int×aG) :=
 ((bM in_).bind λr1=>(bif (decide (r1.1 > 1000)) then ((bP r1.2 1).bind λr9=>some (0,r9)) else some (r1.1,r1.2)))
def lj (in_:aG) (left:Int):Option (Int×aO×Bool×aG) :=
 ((bM in_).bind λr2=>(((bif (r2.1 == 0) then some true else some (decide (r2.1 > left))):Option Bool).bind λe8=>(((bif e8 then ((bP r2.2 1).bind λf=>some f) else some r2.2):Option aG).bind λc=>((iter (σ:=kq×aG×Int) (ρ:=kq×aG) (λa=>(bif (decide (a.2.2 < 3)) then ((((idx [1114111,647,3] a.2.2).bind λg=>((bM a.2.1).bind λb=>((chk (BQ a.2.2 3)).bind λ_=>((chk (BQ a.2.2 3)).bind λ_=>((idx [(sel a.2.2 0 b.1 a.1.e0),(sel a.2.2 1 b.1 a.1.e1),(sel a.2.2 2 b.1 a.1.e2)] a.2.2).bind λh=>(bif (decide (h > g)) then ((bP b.2 1).bind λi=>some ((kq.mk (sel a.2.2 0 b.1 a.1.e0) (sel a.2.2 1 b.1 a.1.e1) (sel a.2.2 2 b.1 a.1.e2)),i)) else some ((kq.mk (sel a.2.2 0 b.1 a.1.e0) (sel a.2.2 1 b.1 a.1.e1) (sel a.2.2 2 b.1 a.1.e2)),b.2))))))):Option (kq×aG)).bind λe=>some (.inl (e.1,e.2,(IntKind.i64.wrap (a.2.2+1))))) else some (.inr (a.1,a.2.1)))) ((kq.mk 0 0 0),c,0)).bind λd=>((cY d.2).bind λj=>(bif (j != 0) then some (0,(aO.mk 0 0 0),false,d.2) else some (r2.1,(aO.mk (IntKind.i32.wrap d.1.e0) d.1.e1 d.1.e2),true,d.2)))))))
def iB (in_:aG) (w:Int):Option (aY×aG) :=
 ((bM in_).bind λr2=>(((bif (decide (r2.1 > 1)) then ((bP r2.2 1).bind λf=>some f) else some r2.2):Option aG).bind λg=>((iter (σ:=aG×(List aO)) (ρ:=(List aO)×aG) (λa=>(((bif (decide ((a.2.length:Int) < w)) then ((cY a.1).bind λh=>some (h == 0)) else some false):Option Bool).bind λi=>(bif i then ((lj a.1 (IntKind.i64.wrap (w - (a.2.length:Int)))).bind λb=>(bif (!b.2.2.1) then some (.inl (b.2.2.2,a.2)) else (((bif (decide ((a.2.length:Int) > 0)) then ((idx a.2 (IntKind.i64.wrap ((a.2.length:Int) - 1))).bind λd=>some ((d.rune == b.2.1.rune) && ((d.bW == b.2.1.bW) && ((d.part == b.2.1.part) && true)))) else some false):Option Bool).bind λj=>(bif j then ((bP b.2.2.2 1).bind λk=>some (.inl (k,a.2))) else ((dY [b.2.1] b.1).bind λe=>((chk (cQ a.2.length e.length 24)).bind λ_=>some (.inl (b.2.2.2,(a.2++e))))))))) else some (.inr (a.2,a.1))))) (g,[])).bind λc=>((cY c.2).bind λl=>(bif (l != 0) then some ((aY.mk ([]:List aO) false),c.2) else some ((aY.mk c.1 (r2.1 == 1)),c.2))))))
def iC (s_:aN) (t_:aN):Option Bool :=
 (((bif (s_.k == t_.k) then (bif (s_.w == t_.w) then (bif (s_.h == t_.h) then (bif (s_.x == t_.x) then (bif (s_.y == t_.y) then (bif (s_.title.toList == t_.title.toList) then (bif (s_.len == t_.len) then (bif (s_.chain == t_.chain) then ((cS s_.rows t_.rows).bind λa=>(bif a then ((fp s_.begun t_.begun).bind λb=>some b) else some false)) else some false) else some false) else some false) else some false) else some false) else some false) else some false) else some false):Option Bool).bind λc=>some c)
def fM (s_:aN):Option aN :=
 ((iter (σ:=(List aY)×Int) (ρ:=(List aY)) (λa=>(bif (decide (a.2 < (s_.rows.length:Int))) then ((idx s_.rows a.2).bind λb=>((fz b.cells).bind λc=>((chk (cQ a.1.length [(aY.mk c b.wrapped)].length 32)).bind λ_=>some (.inl ((a.1++[(aY.mk c b.wrapped)]),(IntKind.i64.wrap (a.2+1))))))) else some (.inr a.1))) ([],0)).bind λd=>((cT s_.begun).bind λe=>some (aN.mk s_.k s_.w s_.h s_.x s_.y s_.title d s_.len s_.chain e)))
def ja (s_:aN):Option Int :=
 ((gB s_).bind λr2=>((mE [r2]).bind λr7=>some (IntKind.i64.wrap r7)))
structure bT where
 sum:Int
 to:aN
 rows:Mp aY
 deriving DecidableEq,Inhabited
def jD (s_:aN):Option Bool :=
 ((gB s_).bind λr2=>some (!(r2.toList == (ByteArray.mk #[]).toList)))
def gw (s_:aN) (y:Int):Option (aY×Bool) :=
 (((bif (decide (y < 0)) then some true else some (decide (y>=(s_.rows.length:Int)))):Option Bool).bind λe6=>(bif e6 then some ((aY.mk ([]:List aO) false),false) else ((idx s_.rows y).bind λa=>some (a,true))))
def iR (in_:aG):Option (Int×aG) :=
 ((bM in_).bind λr1=>(bif (decide (r1.1 > 1000)) then ((bP r1.2 1).bind λr9=>some (0,r9)) else some (r1.1,r1.2)))
def kL (s_:ByteArray):Option (bT×Int) :=
 ((kI s_).bind λr2=>((bM r2).bind λr6=>((bM r6.2).bind λd=>((iR d.2).bind λe=>((iR e.2).bind λf=>((bM f.2).bind λg=>((bM g.2).bind λi=>((g0 i.2).bind λj=>((bM j.2).bind λl=>((bM l.2).bind λm=>((iK m.2).bind λn=>((bM n.2).bind λo=>((iter (σ:=bT×aG×Int×Int) (ρ:=aG×bT) (λa=>(((bif (decide (a.2.2.2 > 0)) then ((cY a.2.1).bind λq=>some (q == 0)) else some false):Option Bool).bind λr=>(bif r then ((bM a.2.1).bind λc=>(((bif (decide (c.1<=a.2.2.1)) then some true else some (decide (c.1>=a.1.to.h))):Option Bool).bind λs=>(((bif s then ((bP c.2 1).bind λt=>some t) else some c.2):Option aG).bind λu=>((iB u a.1.to.w).bind λp=>((chk a.1.rows.isSome).bind λ_=>some (.inl ((bT.mk a.1.sum (aN.mk a.1.to.k a.1.to.w a.1.to.h a.1.to.x a.1.to.y a.1.to.title ([]:List aY) a.1.to.len a.1.to.chain a.1.to.begun) (AJ a.1.rows c.1 p.1)),p.2,c.1,(IntKind.i64.wrap (a.2.2.2 - 1))))))))) else some (.inr (a.2.1,(bT.mk a.1.sum (aN.mk a.1.to.k a.1.to.w a.1.to.h a.1.to.x a.1.to.y a.1.to.title ([]:List aY) a.1.to.len a.1.to.chain a.1.to.begun) a.1.rows)))))) ((bT.mk r6.1 (aN.mk d.1 e.1 f.1 g.1 i.1 j.1 ([]:List aY) l.1 m.1 n.1) (some []:Mp aY)),o.2,(-1),o.1)).bind λb=>((iP b.1).bind λv=>some ((bT.mk b.2.sum (aN.mk b.2.to.k b.2.to.w b.2.to.h b.2.to.x b.2.to.y b.2.to.title ([]:List aY) b.2.to.len b.2.to.chain b.2.to.begun) b.2.rows),v)))))))))))))))
def eX (p:bT) (a:aN):Option (Bool×bT) :=
 ((iter (σ:=bT×Int) (ρ:=bT ⊕ (Bool×bT)) (λb=>(bif (decide (b.2 < p.to.h)) then ((gw a b.2).bind λc=>(((((bif (gL b.1.rows b.2) then (bif c.2 then ((gC c.1 (mgd b.1.rows b.2 (aY.mk ([]:List aO) false))).bind λe=>some e) else some false) else some false):Option Bool).bind λd=>(((bif d then some d else (bif (!(gL b.1.rows b.2)) then some (!c.2) else some false)):Option Bool).bind λf=>(bif f then (nA (fH (some (false,(bT.mk b.1.sum (aN.mk b.1.to.k b.1.to.w b.1.to.h b.1.to.x b.1.to.y b.1.to.title b.1.to.rows b.1.to.len b.1.to.chain b.1.to.begun) b.1.rows))))) else (bif (!(gL b.1.rows b.2)) then some (.inl c.1) else some (.inl (mgd b.1.rows b.2 (aY.mk ([]:List aO) false))))))):Option (aY ⊕ ((bT×Int) ⊕ (bT ⊕ (Bool×bT))))).bind λ | .inl e1033=>((chk (cQ b.1.to.rows.length [e1033].length 32)).bind λ_=>some (.inl ((bT.mk b.1.sum (aN.mk b.1.to.k b.1.to.w b.1.to.h b.1.to.x b.1.to.y b.1.to.title (b.1.to.rows++[e1033]) b.1.to.len b.1.to.chain b.1.to.begun) b.1.rows),(IntKind.i64.wrap (b.2+1))))) | .inr w=>some w)) else some (.inr (.inl (bT.mk b.1.sum (aN.mk b.1.to.k b.1.to.w b.1.to.h b.1.to.x b.1.to.y b.1.to.title b.1.to.rows b.1.to.len b.1.to.chain b.1.to.begun) b.1.rows))))) (p,0)).bind λ | .inl e816=>((jD (aN.mk e816.to.k e816.to.w e816.to.h e816.to.x e816.to.y e816.to.title e816.to.rows e816.to.len e816.to.chain e816.to.begun)).bind λg=>some (g,(bT.mk e816.sum (aN.mk e816.to.k e816.to.w e816.to.h e816.to.x e816.to.y e816.to.title e816.to.rows e816.to.len e816.to.chain e816.to.begun) e816.rows))) | .inr w=>some w)
def ke (a:aN) (s_:ByteArray):Option (aN×Int) :=
 ((fL a).bind λr3=>(bif (r3 != 0) then some ((aN.mk 0 0 0 0 0 (ByteArray.mk #[]) ([]:List aY) 0 0 ([]:List aM)),1) else ((kL s_).bind λb=>(bif (b.2 != 0) then some ((aN.mk 0 0 0 0 0 (ByteArray.mk #[]) ([]:List aY) 0 0 ([]:List aM)),b.2) else ((ja a).bind λd=>(bif (b.1.sum != d) then some ((aN.mk 0 0 0 0 0 (ByteArray.mk #[]) ([]:List aY) 0 0 ([]:List aM)),7) else ((eX b.1 a).bind λc=>(bif (!c.1) then some ((aN.mk 0 0 0 0 0 (ByteArray.mk #[]) ([]:List aY) 0 0 ([]:List aM)),1) else ((fM c.2.to).bind λe=>some (e,0))))))))))
structure bU where
 key:Int
 count:Int
 parts:Mp ByteArray
 bytes:Int
 deriving DecidableEq,Inhabited
def iD (s_:bU) (key:Int) (index:Int) (count:Int) (data:ByteArray):Option (Int×bU) :=
 (((((bif (decide (count < 1)) then some true else (bif (decide (count > 4096)) then some true else (bif (decide (index < 0)) then some true else (bif (decide (index>=count)) then some true else some (decide (key < 1)))))):Option Bool).bind λa=>(bif a then (nA (some (6,s_))) else (bif (decide (key < s_.key)) then (nA (some (8,s_))) else (bif (decide (key > s_.key)) then some (.inl (bU.mk key count (some []:Mp ByteArray) 0)) else (bif (count != s_.count) then (nA (some (1,s_))) else some (.inl s_)))))):Option (bU ⊕ (Int×bU))).bind λ | .inl e48=>(((bif (!(gL e48.parts index)) then ((chk e48.parts.isSome).bind λ_=>some (bU.mk e48.key e48.count (AJ e48.parts index data) (IntKind.i64.wrap (e48.bytes+(data.size:Int))))) else some e48):Option bU).bind λb=>some (0,b)) | .inr w=>some w)
def gi {σ:Type} (s_:bU) (Y:σ->(Int×Bool)->Option (σ×Bool)) (y0:σ):Option σ :=
 ((iter (σ:=Int×σ) (ρ:=σ ⊕ σ) (λa=>(bif (decide (a.1 < s_.count)) then ((Y a.2 (a.1,(gL s_.parts a.1))).bind λz64=>(bif (!z64.2) then (fH (some z64.1)) else some (.inl ((IntKind.i64.wrap (a.1+1)),z64.1)))) else some (.inr (.inl a.2)))) (0,y0)).bind λ | .inl e49=>some e49 | .inr w=>some w)
def gD (s_:bU):Option Int :=
 some s_.count
def fT (s_:bU) (there:Bool):Option (List Int) :=
 ((gi s_ (λs32 x3=>(bif (x3.2 == there) then ((chk (cQ s32.length [x3.1].length 8)).bind λ_=>some ((s32++[x3.1]),true)) else some (s32,true))) ([]:(List Int))).bind λa=>some a)
def eH (s_:bU):Option (List Int) :=
 ((fT s_ true).bind λr1=>some r1)
def lk (s_:bU):Option Int :=
 some s_.key
def fw (s_:bU):Option (ByteArray×Bool) :=
 (((bif (s_.key == 0) then some true else some (decide (((yD s_.parts:Nat):Int) < s_.count))):Option Bool).bind λe7=>(bif e7 then some ((ByteArray.mk #[]),false) else ((gi s_ (λa d=>((dS (cN.mk a.addr a.buf) (mgd s_.parts d.1 (ByteArray.mk #[]))).bind λb=>some ((cN.mk b.addr b.buf),true))) ((cN.mk false ([]:List Int)):cN)).bind λc=>((hG (cN.mk c.addr c.buf)).bind λe=>some (e,true)))))
def il (s_:bU):Option bU :=
 some (bU.mk 0 0 none 0)
def iS (s_:bU):Option bU :=
 ((jY s_.parts).bind λr2=>some (bU.mk s_.key s_.count r2 s_.bytes))
structure aZ where
 slot:bU
 aK:aN
 deriving DecidableEq,Inhabited
def lJ:Option aZ :=
 some (aZ.mk (bU.mk 0 0 none 0) (aN.mk 0 0 0 0 0 (ByteArray.mk #[]) ([]:List aY) 0 0 ([]:List aM)))
def iq (t_:aZ) (g:aV):Option (Int×aZ) :=
 (bif (g.kind != 1) then some (5,(aZ.mk t_.slot t_.aK)) else (bif ((g.aX.length:Int) != 5) then some (1,(aZ.mk t_.slot t_.aK)) else ((idx g.aX 1).bind λb=>(bif (decide (b<=t_.aK.k)) then some (8,(aZ.mk t_.slot t_.aK)) else ((((idx g.aX 2).bind λc=>(bif (c != 0) then ((idx g.aX 2).bind λd=>some (d != t_.aK.k)) else some false)):Option Bool).bind λe=>(bif e then some (7,(aZ.mk t_.slot t_.aK)) else ((idx g.aX 0).bind λf=>((idx g.aX 3).bind λh=>((idx g.aX 4).bind λi=>((iD t_.slot f h i g.data).bind λa=>some (a.1,(aZ.mk a.2 t_.aK))))))))))))
def dR (t_:aZ):Option aV :=
 ((gD t_.slot).bind λr2=>((chk (tA (IntKind.i64.wrap ((IntKind.i64.wrap ((IntKind.i64.wrap (r2+8)) - 1)).tdiv 8)) 1)).bind λ_=>((eH t_.slot).bind λr9=>((iter (σ:=Int×(List Int)) (ρ:=(List Int)) (λa=>(bif (decide (a.1 < (r9.length:Int))) then ((idx r9 a.1).bind λb=>((idx a.2 (IntKind.i64.wrap (b.tdiv 8))).bind λc=>((chk (shk (b.tmod 8))).bind λ_=>((idx a.2 (IntKind.i64.wrap (b.tdiv 8))).bind λf=>some (.inl ((IntKind.i64.wrap (a.1+1)),(a.2.set ((IntKind.i64.wrap (b.tdiv 8)).toNat) (Go.bits .or .u8 c (IntKind.u8.wrap (1*2 ^ (min (b.tmod 8).toNat 8))))))))))) else some (.inr a.2))) (0,(List.replicate (IntKind.i64.wrap ((IntKind.i64.wrap ((IntKind.i64.wrap (r2+8)) - 1)).tdiv 8)).toNat (0:Int)))).bind λd=>((lk t_.slot).bind λe=>some (aV.mk 1 2 [t_.aK.k,e] (dM d)))))))
def dW (t_:aZ):Option aN :=
 ((fM t_.aK).bind λr2=>some r2)
def ir (t_:aZ):Option aZ :=
 (Option.bind lJ λr1=>some (aZ.mk r1.slot r1.aK))
def gE (t_:aZ) (g:aV):Option (Int×aZ) :=
 ((iq t_ g).bind λr2=>(bif (r2.1 != 0) then some (r2.1,r2.2) else ((fw r2.2.slot).bind λc=>(bif (!c.2) then some (0,r2.2) else ((il r2.2.slot).bind λb=>((idx g.aX 2).bind λe=>(((bif (e != 0) then some r2.2.aK else some (aN.mk 0 0 0 0 0 (ByteArray.mk #[]) ([]:List aY) 0 0 ([]:List aM))):Option aN).bind λf=>((ke f c.1).bind λa=>(((bif (a.2 == 0) then ((idx g.aX 1).bind λh=>some (a.1.k != h)) else some false):Option Bool).bind λi=>(((bif i then some 1 else some a.2):Option Int).bind λd=>(((bif (d == 0) then some (aZ.mk b a.1) else some (aZ.mk b r2.2.aK)):Option aZ).bind λj=>some (d,(aZ.mk b j.aK)))))))))))))
def iu (t_:aZ):Option aZ :=
 ((iS t_.slot).bind λa=>((fM t_.aK).bind λb=>some (aZ.mk a b)))
structure gQ where
 cache:Int
 every:Int
 addr:Int
 deriving DecidableEq,Inhabited
structure aH where
 config:gQ
 aT:Int
 due:Int
 aS:aZ
 lines:aP
 bS:bE
 deriving DecidableEq,Inhabited
def dK (n_:Int) (lo:Int) (hi:Int):Option Int :=
 some (imax lo (cB n_ hi))
def iT (c:gQ):Option aH :=
 ((dK c.cache 1 65536).bind λa=>((dK c.every 1 1048576).bind λb=>((dK c.addr 0 4294967296).bind λe=>(Option.bind lJ λd=>((kA a).bind λf=>((kB a b).bind λg=>some (aH.mk (gQ.mk a b e) 0 0 (aZ.mk d.slot d.aK) f g)))))))
def cU (c:aH) (now:Int):Option ((List ByteArray)×aH) :=
 (((bif (decide (now>=c.due)) then ((dR (aZ.mk c.aS.slot c.aS.aK)).bind λi=>((chk (cQ ([]:List aV).length [i].length 56)).bind λ_=>some ((([]:List aV)++[i]),(aH.mk c.config c.aT (IntKind.i64.wrap (now+c.config.every)) (aZ.mk c.aS.slot c.aS.aK) c.lines c.bS)))) else some ([],(aH.mk c.config c.aT c.due (aZ.mk c.aS.slot c.aS.aK) c.lines c.bS))):Option ((List aV)×aH)).bind λa=>((dW (aZ.mk c.aS.slot c.aS.aK)).bind λl=>((eG c.bS now l.len).bind λf=>((iter (σ:=Int×(List Int)) (ρ:=(List Int)) (λb=>(bif (decide (b.1 < (f.1.length:Int))) then ((idx f.1 b.1).bind λe=>((chk (cQ b.2.length [e.from_,e.to].length 8)).bind λ_=>some (.inl ((IntKind.i64.wrap (b.1+1)),(b.2++[e.from_,e.to]))))) else some (.inr b.2))) (0,[])).bind λg=>(((bif (decide ((g.length:Int) > 0)) then ((chk (cQ a.1.length ([(aV.mk 0 3 g (ByteArray.mk #[]))]).length 56)).bind λ_=>some (a.1++[(aV.mk 0 3 g (ByteArray.mk #[]))])) else some a.1):Option (List aV)).bind λj=>((iter (σ:=Int×(List ByteArray)) (ρ:=(List ByteArray)) (λd=>(bif (decide (d.1 < (j.length:Int))) then ((idx j d.1).bind λh=>((dZ (aV.mk (imax 1 a.2.aT) h.kind h.aX h.data)).bind λk=>((chk (cQ d.2.length [k].length 16)).bind λ_=>some (.inl ((IntKind.i64.wrap (d.1+1)),(d.2++[k])))))) else some (.inr d.2))) (0,[])).bind λm=>some (m,(aH.mk (gQ.mk a.2.config.cache a.2.config.every a.2.config.addr) a.2.aT a.2.due (aZ.mk c.aS.slot c.aS.aK) c.lines f.2))))))))
def eP (c:aH) (aT:Int):Option aH :=
 ((ir c.aS).bind λr1=>((fO c.lines).bind λa=>((dB c.bS).bind λb=>some (aH.mk c.config aT c.due r1 a b))))
def fB (c:aH) (g:aV):Option (Int×aH) :=
 ((iQ g).bind λr2=>((iter (σ:=aP×bE×Int) (ρ:=aP×bE) (λa=>(bif (decide (a.2.2 < (r2.2.1.length:Int))) then ((((idx r2.2.1 a.2.2).bind λf=>((fg a.2.1 (IntKind.i64.wrap (r2.1+a.2.2))).bind λb=>(bif b.1 then ((gb a.1 (IntKind.i64.wrap (r2.1+a.2.2)) f).bind λh=>some (h.2.2,b.2)) else some (a.1,b.2)))):Option (aP×bE)).bind λd=>some (.inl (d.1,d.2,(IntKind.i64.wrap (a.2.2+1))))) else some (.inr (a.1,a.2.1)))) (c.lines,c.bS,0)).bind λe=>some (r2.2.2,(aH.mk c.config c.aT c.due c.aS e.1 e.2))))
def dT (c:aH) (now:Int) (data:ByteArray):Option (Int×aH) :=
 ((jO data).bind λr1=>(((bif (r1.2 != 0) then (nA (some (r1.2,c))) else (((bif (r1.1.kind != 1) then some (r1.1.kind != 4) else some false):Option Bool).bind λd=>(bif d then (nA (some (5,c))) else (bif (decide (r1.1.aT < c.aT)) then (nA (some (8,c))) else (bif (decide (r1.1.aT > c.aT)) then ((eP c r1.1.aT).bind λe=>some (.inl e)) else some (.inl c)))))):Option (aH ⊕ (Int×aH))).bind λ | .inl e79=>(bif (r1.1.kind == 4) then ((fB e79 r1.1).bind λa=>some (a.1,a.2)) else ((gE e79.aS r1.1).bind λb=>some (b.1,(aH.mk e79.config e79.aT e79.due b.2 e79.lines e79.bS)))) | .inr w=>some w))
def dN (c:aH):Option Int :=
 some c.aT
def dU (c:aH):Option Int :=
 some c.config.addr
def dV (c:aH) (from_:Int) (to:Int):Option (Int×aH) :=
 ((dK from_ 0 1152921504606846976).bind λr1=>((dK to 0 1152921504606846976).bind λr4=>((eE c.lines).bind λr7=>((fP (bZ.mk ([]:List aB)) r7).bind λg=>((iz g (aB.mk r1 (cB r4 (IntKind.i64.wrap (r1+c.config.cache))))).bind λd=>((iter (σ:=aP×Int) (ρ:=aP) (λa=>(bif (decide (a.2 < (d.length:Int))) then ((idx d a.2).bind λe=>((iter (σ:=aP×Int) (ρ:=aP) (λb=>(bif (decide (b.2 < e.to)) then ((ff b.1 b.2).bind λh=>some (.inl (h.2.2,(IntKind.i64.wrap (b.2+1))))) else some (.inr b.1))) (a.1,e.from_)).bind λi=>some (.inl (i,(IntKind.i64.wrap (a.2+1)))))) else some (.inr a.1))) (c.lines,0)).bind λj=>((eO c.bS (aB.mk r1 (cB r4 (IntKind.i64.wrap (r1+c.config.cache)))) r7).bind λf=>some (f.1,(aH.mk c.config c.aT c.due c.aS j f.2)))))))))
def fC (c:aH):Option aN :=
 ((dW c.aS).bind λr2=>some r2)
def fX (c:aH) (addr:Int):Option aH :=
 ((dK addr 0 4294967296).bind λr1=>some (aH.mk (gQ.mk c.config.cache c.config.every r1) c.aT c.due c.aS c.lines c.bS))
def fR (c:aH):Option aH :=
 ((iu c.aS).bind λa=>((ik c.lines).bind λb=>((gp c.bS).bind λd=>some (aH.mk c.config c.aT c.due a b d))))
def kC (s_:ByteArray) (n_:Int):Option ByteArray :=
 (bif (decide ((s_.size:Int) > n_)) then ((chk (eN 0 n_ s_.size)).bind λ_=>some (gG s_ 0 n_)) else some s_)
structure dF where
 rune:Int
 bW:Int
 part:Int
 deriving DecidableEq,Inhabited
structure bN where
 l:List dF
 wrapped:Bool
 deriving DecidableEq,Inhabited
structure aQ where
 rune:Int
 bW:Int
 deriving DecidableEq,Inhabited
structure aD where
 from_:Int
 to:Int
 deriving DecidableEq,Inhabited
def jQ (n_:Int):Option Int :=
 (bif (decide (n_ < (-1152921504606846976))) then some (-1152921504606846976) else (bif (decide (n_ > 1152921504606846976)) then some 1152921504606846976 else some n_))
def mT (x_:aD):Option aD :=
 ((jQ x_.from_).bind λa=>((jQ x_.to).bind λb=>some (aD.mk a b)))
def jE (x_:aD):Option (List aD) :=
 ((mT x_).bind λr2=>(bif (decide (r2.to<=r2.from_)) then some ([]:List aD) else some [r2]))
def jF (l:List aD) (n_:Int):Option Bool :=
 ((iter (σ:=Int) (ρ:=Unit ⊕ Bool) (λa=>(bif (decide (a < (l.length:Int))) then ((idx l a).bind λb=>(((bif (decide (n_>=b.from_)) then some (decide (n_ < b.to)) else some false):Option Bool).bind λc=>(bif c then (fH (some true)) else some (.inl (IntKind.i64.wrap (a+1)))))) else some (.inr (.inl ())))) 0).bind λ | .inl e107=>some false | .inr w=>some w)
def kM (mode:Int) (x_:Bool) (y:Bool):Option Bool :=
 (bif (mode == 0) then (((bif x_ then some true else some y):Option Bool).bind λa=>some a) else (bif (mode == 1) then (((bif x_ then some (!y) else some false):Option Bool).bind λb=>some b) else (bif (mode == 2) then (((bif x_ then some y else some false):Option Bool).bind λc=>some c) else (((bif (!x_) then some y else some false):Option Bool).bind λd=>some d))))
def gx (a:List aD) (b:List aD) (mode:Int):Option (List aD) :=
 ((chk (cQ ([]:List aD).length a.length 16)).bind λ_=>((chk (cQ (([]:List aD)++a).length b.length 16)).bind λ_=>((iter (σ:=Int×(List Int)) (ρ:=(List Int)) (λf=>(bif (decide (f.1 < (((([]:List aD)++a)++b).length:Int))) then ((idx ((([]:List aD)++a)++b) f.1).bind λi=>((iter (σ:=Int×(List Int)) (ρ:=(List Int)) (λc=>(bif (decide (c.1 < ([i.from_,i.to].length:Int))) then ((((idx [i.from_,i.to] c.1).bind λg=>((iter (σ:=Int) (ρ:=Int) (λj=>(((bif (decide (j < (c.2.length:Int))) then ((idx c.2 j).bind λm=>some (decide (m < g))) else some false):Option Bool).bind λn=>(bif n then some (.inl (IntKind.i64.wrap (j+1))) else some (.inr j)))) 0).bind λe=>(((bif (e == (c.2.length:Int)) then some true else ((idx c.2 e).bind λo=>some (o != g))):Option Bool).bind λp=>(bif p then ((chk (eN 0 e c.2.length)).bind λ_=>((chk (eN e (c.2.length:Int) c.2.length)).bind λ_=>((chk (cQ [g].length (cut c.2 e (c.2.length:Int)).length 8)).bind λ_=>((chk (cQ (cut c.2 0 e).length ([g]++(cut c.2 e (c.2.length:Int))).length 8)).bind λ_=>some ((cut c.2 0 e)++([g]++(cut c.2 e (c.2.length:Int)))))))) else some c.2)))):Option (List Int)).bind λq=>some (.inl ((IntKind.i64.wrap (c.1+1)),q))) else some (.inr c.2))) (0,f.2)).bind λr=>some (.inl ((IntKind.i64.wrap (f.1+1)),r)))) else some (.inr f.2))) (0,([]:List Int))).bind λk=>((iter (σ:=(List aD)×Int) (ρ:=(List aD)) (λd=>(bif (decide ((IntKind.i64.wrap (d.2+1)) < (k.length:Int))) then ((((idx k d.2).bind λh=>((jF a h).bind λs=>((jF b h).bind λt=>((kM mode s t).bind λu=>(bif (!u) then some d.1 else (((bif (decide ((d.1.length:Int) > 0)) then ((idx d.1 (IntKind.i64.wrap ((d.1.length:Int) - 1))).bind λv=>some (v.to == h)) else some false):Option Bool).bind λw=>(bif w then ((idx k (IntKind.i64.wrap (d.2+1))).bind λx=>((idx d.1 (IntKind.i64.wrap ((d.1.length:Int) - 1))).bind λy=>some (d.1.set ((IntKind.i64.wrap ((d.1.length:Int) - 1)).toNat) (aD.mk y.from_ x)))) else ((idx k (IntKind.i64.wrap (d.2+1))).bind λl=>((chk (cQ d.1.length [(aD.mk h l)].length 16)).bind λ_=>some (d.1++[(aD.mk h l)])))))))))):Option (List aD)).bind λz=>some (.inl (z,(IntKind.i64.wrap (d.2+1))))) else some (.inr d.1))) (([]:List aD),0)).bind λA=>some A))))
def gR (l:List aD) (x_:aD):Option (List aD) :=
 ((jE x_).bind λr2=>((gx l r2 0).bind λr9=>some r9))
def iL (l:List aD) (x_:aD):Option (List aD) :=
 ((jE x_).bind λr2=>((gx l r2 1).bind λr9=>some r9))
def mG (l:List aD) (x_:aD):Option (List aD) :=
 ((jE x_).bind λr2=>((gx l r2 2).bind λr9=>some r9))
structure aW where
 s:ByteArray
 e:Int
 deriving DecidableEq,Inhabited
def bG (in_:aW):Option (aW×Int) :=
 (bif (in_.e != 0) then some (in_,0) else ((iter (σ:=Int×Int×Int) (ρ:=Unit ⊕ (aW×Int)) (λa=>(bif (decide (a.2.2 < 9)) then (((bif (a.2.2 == (in_.s.size:Int)) then (nA (fH (some ((aW.mk (ByteArray.mk #[]) 2),0)))) else ((tC in_.s a.2.2).bind λb475=>(bif (decide ((IntKind.i64.wrap b475) < 128)) then (((bif (decide (a.2.2 > 0)) then (bif ((IntKind.i64.wrap b475) == 0) then some true else some (decide ((IntKind.i64.wrap (a.1+(IntKind.i64.wrap (((IntKind.i64.wrap b475).tmod 128)*a.2.1)))) > 4611686018427387904))) else some (decide ((IntKind.i64.wrap (a.1+(IntKind.i64.wrap (((IntKind.i64.wrap b475).tmod 128)*a.2.1)))) > 4611686018427387904))):Option Bool).bind λb=>(bif b then (nA (fH (some ((aW.mk (ByteArray.mk #[]) 1),0)))) else ((chk (eN (IntKind.i64.wrap (a.2.2+1)) (in_.s.size:Int) in_.s.size)).bind λ_=>(nA (fH (some ((aW.mk (gG in_.s (IntKind.i64.wrap (a.2.2+1)) (in_.s.size:Int)) 0),(IntKind.i64.wrap (a.1+(IntKind.i64.wrap (((IntKind.i64.wrap b475).tmod 128)*a.2.1))))))))))) else (bif (decide (a.2.2 < 8)) then some (.inl ((IntKind.i64.wrap (a.1+(IntKind.i64.wrap (((IntKind.i64.wrap b475).tmod 128)*a.2.1)))),(IntKind.i64.wrap (a.2.1*128)))) else some (.inl ((IntKind.i64.wrap (a.1+(IntKind.i64.wrap (((IntKind.i64.wrap b475).tmod 128)*a.2.1)))),a.2.1)))))):Option ((Int×Int) ⊕ ((Int×Int×Int) ⊕ (Unit ⊕ (aW×Int))))).bind λ | .inl e465=>some (.inl (e465.1,e465.2,(IntKind.i64.wrap (a.2.2+1)))) | .inr w=>some w) else some (.inr (.inl ())))) (0,1,0)).bind λ | .inl e381=>some ((aW.mk (ByteArray.mk #[]) 1),0) | .inr w=>some w))
def mU (in_:aW) (n_:Int):Option (aW×ByteArray) :=
 (bif (in_.e != 0) then some (in_,(ByteArray.mk #[])) else (bif (decide ((imax 0 n_) > (in_.s.size:Int))) then some ((aW.mk (ByteArray.mk #[]) 2),(ByteArray.mk #[])) else ((chk (eN (imax 0 n_) (in_.s.size:Int) in_.s.size)).bind λ_=>((chk (eN 0 (imax 0 n_) in_.s.size)).bind λ_=>some ((aW.mk (gG in_.s (imax 0 n_) (in_.s.size:Int)) 0),(gG in_.s 0 (imax 0 n_)))))))
def fU (in_:aW):Option (aW×ByteArray) :=
 ((bG in_).bind λr3=>((mU r3.1 r3.2).bind λr7=>some (r7.1,r7.2)))
def kD (in_:aW):Option Int :=
 (((bif (in_.e == 0) then some (!(in_.s.toList == (ByteArray.mk #[]).toList)) else some false):Option Bool).bind λe5=>(bif e5 then some 1 else some in_.e))
def cF (n_:Int):Option ByteArray :=
 ((iter (σ:=Int×(List Int)) (ρ:=Int×(List Int)) (λa=>(bif (decide (a.1>=128)) then ((chk (cQ a.2.length [(IntKind.u8.wrap (IntKind.i64.wrap (128+(a.1.tmod 128))))].length 1)).bind λ_=>some (.inl ((IntKind.i64.wrap (a.1.tdiv 128)),(a.2++[(IntKind.u8.wrap (IntKind.i64.wrap (128+(a.1.tmod 128))))])))) else some (.inr (a.1,a.2)))) ((imax 0 (cB n_ 4611686018427387904)),([]:List Int))).bind λb=>((chk (cQ b.2.length [(IntKind.u8.wrap b.1)].length 1)).bind λ_=>some (dM (b.2++[(IntKind.u8.wrap b.1)]))))
def jR (s_:ByteArray):Option ByteArray :=
 ((cF (s_.size:Int)).bind λr1=>((chk (kG r1.size s_.size)).bind λ_=>some (r1++s_)))
def ll (s_:ByteArray):Option Int :=
 ((iter (σ:=Int×Int) (ρ:=Int) (λb=>(bif (decide (b.2 < (s_.size:Int))) then ((tC s_ b.2).bind λb402=>((iter (σ:=Int×Int) (ρ:=Int) (λa=>(bif (decide (a.2 < 8)) then (((bif ((a.1.tmod 2) == 1) then some (Go.bits .xor .i64 (IntKind.i64.wrap (a.1.tdiv 2)) 3988292384) else some (IntKind.i64.wrap (a.1.tdiv 2))):Option Int).bind λc=>some (.inl (c,(IntKind.i64.wrap (a.2+1))))) else some (.inr a.1))) ((Go.bits .xor .i64 b.1 (IntKind.i64.wrap b402)),0)).bind λd=>some (.inl (d,(IntKind.i64.wrap (b.2+1)))))) else some (.inr b.1))) (4294967295,0)).bind λe=>some (IntKind.i64.wrap (4294967295 - e)))
def jS (s_:ByteArray):Option ByteArray :=
 ((ll s_).bind λr1=>((chk (kG s_.size (dM [(IntKind.u8.wrap (r1.tmod 256)),(IntKind.u8.wrap ((IntKind.i64.wrap (r1.tdiv 256)).tmod 256)),(IntKind.u8.wrap ((IntKind.i64.wrap (r1.tdiv 65536)).tmod 256)),(IntKind.u8.wrap (IntKind.i64.wrap (r1.tdiv 16777216)))]).size)).bind λ_=>some (s_++(dM [(IntKind.u8.wrap (r1.tmod 256)),(IntKind.u8.wrap ((IntKind.i64.wrap (r1.tdiv 256)).tmod 256)),(IntKind.u8.wrap ((IntKind.i64.wrap (r1.tdiv 65536)).tmod 256)),(IntKind.u8.wrap (IntKind.i64.wrap (r1.tdiv 16777216)))]))))
def kN (s_:ByteArray):Option (ByteArray×Bool) :=
 (((bif (decide ((s_.size:Int) < 4)) then some true else ((chk (eN 0 (IntKind.i64.wrap ((s_.size:Int) - 4)) s_.size)).bind λ_=>((jS (gG s_ 0 (IntKind.i64.wrap ((s_.size:Int) - 4)))).bind λa=>some (!(a.toList == s_.toList))))):Option Bool).bind λb=>(bif b then some ((ByteArray.mk #[]),false) else ((chk (eN 0 (IntKind.i64.wrap ((s_.size:Int) - 4)) s_.size)).bind λ_=>some ((gG s_ 0 (IntKind.i64.wrap ((s_.size:Int) - 4))),true))))
def gS (in_:aW):Option (aW×(List aQ)) :=
 ((bG in_).bind λr3=>(((bif (r3.1.e == 0) then some (decide (r3.2 > 1024)) else some false):Option Bool).bind λe9=>(bif e9 then some ((aW.mk (ByteArray.mk #[]) 1),([]:List aQ)) else ((iter (σ:=aW×(List aQ)×Int) (ρ:=((List aQ)×aW) ⊕ (aW×(List aQ))) (λa=>(((bif (decide (a.2.2 < r3.2)) then some (a.1.e == 0) else some false):Option Bool).bind λd=>(bif d then ((bG a.1).bind λb=>(((bif (b.1.e == 0) then some (decide (b.2 > 1114111)) else some false):Option Bool).bind λf=>(bif f then (fH (some ((aW.mk (ByteArray.mk #[]) 1),([]:List aQ)))) else ((bG b.1).bind λc=>(((bif (c.1.e == 0) then some (decide (c.2 > 647)) else some false):Option Bool).bind λg=>(bif g then (fH (some ((aW.mk (ByteArray.mk #[]) 1),([]:List aQ)))) else ((chk (cQ a.2.1.length [(aQ.mk b.2 c.2)].length 16)).bind λ_=>some (.inl (c.1,(a.2.1++[(aQ.mk b.2 c.2)]),(IntKind.i64.wrap (a.2.2+1))))))))))) else some (.inr (.inl (a.2.1,a.1)))))) (r3.1,([]:List aQ),0)).bind λ | .inl e261=>(bif (e261.2.e != 0) then some (e261.2,([]:List aQ)) else some (e261.2,e261.1)) | .inr w=>some w))))
def kO (l:List aQ):Option ByteArray :=
 ((cF (l.length:Int)).bind λr1=>((iter (σ:=Int×ByteArray) (ρ:=ByteArray) (λa=>(bif (decide (a.1 < (l.length:Int))) then ((idx l a.1).bind λd=>((cF d.rune).bind λb=>((cF d.bW).bind λc=>((chk (kG b.size c.size)).bind λ_=>((chk (kG a.2.size (b++c).size)).bind λ_=>some (.inl ((IntKind.i64.wrap (a.1+1)),(a.2++(b++c))))))))) else some (.inr a.2))) (0,r1)).bind λe=>some e))
structure bJ where
 k:Int
 w:Int
 h:Int
 x:Int
 y:Int
 title:ByteArray
 rows:List bN
 len:Int
 chain:Int
 begun:List aQ
 deriving DecidableEq,Inhabited
def cO (in_:aW) (most:Int):Option (aW×Int) :=
 ((bG in_).bind λr3=>(((bif (r3.1.e == 0) then some (decide (r3.2 > most)) else some false):Option Bool).bind λa=>(bif a then some ((aW.mk (ByteArray.mk #[]) 1),0) else some (r3.1,r3.2))))
def gK (in_:aW) (w:Int):Option (aW×bN) :=
 ((cO in_ 1).bind λr4=>((iter (σ:=aW×(List dF)) (ρ:=(List dF)×aW) (λa=>(((bif (decide ((a.2.length:Int) < w)) then some (a.1.e == 0) else some false):Option Bool).bind λk=>(bif k then ((cO a.1 (IntKind.i64.wrap (w - (a.2.length:Int)))).bind λd=>(((bif (d.1.e == 0) then some (d.2 == 0) else some false):Option Bool).bind λl=>(((bif l then some (aW.mk (ByteArray.mk #[]) 1) else some d.1):Option aW).bind λm=>((cO m 1114111).bind λf=>((cO f.1 647).bind λg=>((cO g.1 3).bind λb=>(((bif (b.1.e == 0) then (bif (decide ((a.2.length:Int) > 0)) then ((idx a.2 (IntKind.i64.wrap ((a.2.length:Int) - 1))).bind λi=>some ((i.rune == f.2) && ((i.bW == g.2) && ((i.part == b.2) && true)))) else some false) else some false):Option Bool).bind λn=>(((bif n then some (aW.mk (ByteArray.mk #[]) 1) else some b.1):Option aW).bind λj=>((iter (σ:=Int×(List dF)) (ρ:=(List dF)) (λc=>(((bif (decide (c.1 < d.2)) then some (j.e == 0) else some false):Option Bool).bind λo=>(bif o then ((chk (cQ c.2.length [(dF.mk f.2 g.2 b.2)].length 24)).bind λ_=>some (.inl ((IntKind.i64.wrap (c.1+1)),(c.2++[(dF.mk f.2 g.2 b.2)])))) else some (.inr c.2)))) (0,a.2)).bind λp=>some (.inl (j,p))))))))))) else some (.inr (a.2,a.1))))) (r4.1,([]:List dF))).bind λh=>(bif (h.2.e != 0) then some (h.2,(bN.mk ([]:List dF) false)) else some (h.2,(bN.mk h.1 (r4.2 == 1))))))
def ib (s_:bJ):Option Bool :=
 (((bif (s_.k == 0) then (bif (s_.w == 0) then (bif (s_.h == 0) then (bif (s_.x == 0) then (bif (s_.y == 0) then (bif (s_.title.toList == (ByteArray.mk #[]).toList) then (bif ((s_.rows.length:Int) == 0) then (bif (s_.len == 0) then (bif (s_.chain == 0) then some ((s_.begun.length:Int) == 0) else some false) else some false) else some false) else some false) else some false) else some false) else some false) else some false) else some false):Option Bool).bind λa=>some a)
def jG (s_:bJ):Option Bool :=
 ((ib s_).bind λr2=>(bif r2 then some true else (((bif (decide (s_.k < 1)) then some true else (bif (decide (s_.k > 1152921504606846976)) then some true else (bif (decide (s_.w < 1)) then some true else (bif (decide (s_.w > 1000)) then some true else (bif (decide (s_.h < 1)) then some true else (bif (decide (s_.h > 1000)) then some true else (bif (decide (s_.x < 0)) then some true else (bif (decide (s_.x>=s_.w)) then some true else (bif (decide (s_.y < 0)) then some true else (bif (decide (s_.y>=s_.h)) then some true else some ((s_.rows.length:Int) != s_.h))))))))))):Option Bool).bind λg=>(bif g then some false else (((bif (decide ((s_.title.size:Int) > 200)) then some true else (bif (decide (s_.len < 0)) then some true else (bif (decide (s_.len > 1152921504606846976)) then some true else (bif (decide (s_.chain < 0)) then some true else (bif (decide (s_.chain > 281474976710656)) then some true else some (decide ((s_.begun.length:Int) > 1024))))))):Option Bool).bind λi=>(bif i then some false else ((iter (σ:=Int) (ρ:=Unit ⊕ Bool) (λc=>(bif (decide (c < (s_.begun.length:Int))) then ((idx s_.begun c).bind λb=>(((bif (decide (b.rune < 0)) then some true else (bif (decide (b.rune > 1114111)) then some true else (bif (decide (b.bW < 0)) then some true else some (decide (b.bW > 647))))):Option Bool).bind λj=>(bif j then (fH (some false)) else some (.inl (IntKind.i64.wrap (c+1)))))) else some (.inr (.inl ())))) 0).bind λ | .inl e206=>((iter (σ:=Int) (ρ:=Unit ⊕ Bool) (λd=>(bif (decide (d < (s_.rows.length:Int))) then ((idx s_.rows d).bind λe=>(bif ((e.l.length:Int) != s_.w) then (fH (some false)) else ((iter (σ:=Int) (ρ:=Unit ⊕ (Int ⊕ (Unit ⊕ Bool))) (λf=>(bif (decide (f < (e.l.length:Int))) then ((idx e.l f).bind λa=>(((bif (decide (a.rune < 0)) then some true else (bif (decide (a.rune > 1114111)) then some true else (bif (decide (a.bW < 0)) then some true else (bif (decide (a.bW > 647)) then some true else (bif (decide (a.part < 0)) then some true else some (decide (a.part > 3))))))):Option Bool).bind λm=>(bif m then (fH (fH (some false))) else some (.inl (IntKind.i64.wrap (f+1)))))) else some (.inr (.inl ())))) 0).bind λ | .inl e2288=>some (.inl (IntKind.i64.wrap (d+1))) | .inr w=>some w))) else some (.inr (.inl ())))) 0).bind λ | .inl e1826=>some true | .inr w=>some w) | .inr w=>some w)))))))
def jb (r_:bN):Option ByteArray :=
 (((bif r_.wrapped then some (ByteArray.mk #[1]) else some (ByteArray.mk #[0])):Option ByteArray).bind λe5=>((iter (σ:=Int×ByteArray×Int) (ρ:=ByteArray) (λa=>(bif (decide (a.1 < (r_.l.length:Int))) then ((((idx r_.l a.1).bind λb=>(((bif (decide ((IntKind.i64.wrap (a.1+1)) < (r_.l.length:Int))) then ((idx r_.l (IntKind.i64.wrap (a.1+1))).bind λf=>some ((f.rune == b.rune) && ((f.bW == b.bW) && ((f.part == b.part) && true)))) else some false):Option Bool).bind λi=>(bif i then some (a.2.1,(IntKind.i64.wrap (a.2.2+1))) else ((cF (IntKind.i64.wrap (a.2.2+1))).bind λc=>((cF b.rune).bind λd=>((chk (kG c.size d.size)).bind λ_=>((cF b.bW).bind λe=>((chk (kG (c++d).size e.size)).bind λ_=>((cF b.part).bind λg=>((chk (kG ((c++d)++e).size g.size)).bind λ_=>((chk (kG a.2.1.size (((c++d)++e)++g).size)).bind λ_=>some ((a.2.1++(((c++d)++e)++g)),0)))))))))))):Option (ByteArray×Int)).bind λh=>some (.inl ((IntKind.i64.wrap (a.1+1)),h.1,h.2))) else some (.inr a.2.1))) (0,e5,0)).bind λj=>some j))
def gT (s_:bJ):Option ByteArray :=
 ((((ib s_).bind λl=>(bif l then some true else ((jG s_).bind λm=>some (!m)))):Option Bool).bind λn=>(bif n then some (ByteArray.mk #[]) else ((iter (σ:=Int×ByteArray) (ρ:=ByteArray) (λa=>(bif (decide (a.1 < ([s_.k,s_.w,s_.h,s_.x,s_.y].length:Int))) then ((idx [s_.k,s_.w,s_.h,s_.x,s_.y] a.1).bind λo=>((cF o).bind λg=>((chk (kG a.2.size g.size)).bind λ_=>some (.inl ((IntKind.i64.wrap (a.1+1)),(a.2++g)))))) else some (.inr a.2))) (0,(ByteArray.mk #[]))).bind λi=>((jR s_.title).bind λc=>((cF s_.len).bind λd=>((chk (kG c.size d.size)).bind λ_=>((cF s_.chain).bind λe=>((chk (kG (c++d).size e.size)).bind λ_=>((kO s_.begun).bind λf=>((chk (kG ((c++d)++e).size f.size)).bind λ_=>((chk (kG i.size (((c++d)++e)++f).size)).bind λ_=>((iter (σ:=ByteArray×Int) (ρ:=ByteArray) (λb=>(bif (decide (b.2 < (s_.rows.length:Int))) then ((idx s_.rows b.2).bind λp=>((jb p).bind λj=>((chk (kG b.1.size j.size)).bind λ_=>some (.inl ((b.1++j),(IntKind.i64.wrap (b.2+1))))))) else some (.inr b.1))) ((i++(((c++d)++e)++f)),0)).bind λq=>some q))))))))))))
def lK (s_:bJ):Option Int :=
 ((gT s_).bind λr2=>((ll r2).bind λr5=>some r5))
structure dP where
 i:Int
 l:List aQ
 deriving DecidableEq,Inhabited
structure bX where
 most:Int
 l:List dP
 deriving DecidableEq,Inhabited
def ow (most:Int):Option bX :=
 some (bX.mk (imax 1 (cB most 65536)) ([]:List dP))
def kf (c:bX):Option (List aD) :=
 ((iter (σ:=Int×(List aD)) (ρ:=(List aD)) (λa=>(bif (decide (a.1 < (c.l.length:Int))) then ((idx c.l a.1).bind λb=>((gR a.2 (aD.mk b.i (IntKind.i64.wrap (b.i+1)))).bind λd=>some (.inl ((IntKind.i64.wrap (a.1+1)),d)))) else some (.inr a.2))) (0,([]:List aD))).bind λe=>some e)
def jT (c:bX) (i:Int):Option ((List aQ)×Bool) :=
 ((iter (σ:=Int) (ρ:=Unit ⊕ ((List aQ)×Bool)) (λa=>(bif (decide (a < (c.l.length:Int))) then ((idx c.l a).bind λb=>(bif (b.i == i) then (fH (some (b.l,true))) else some (.inl (IntKind.i64.wrap (a+1))))) else some (.inr (.inl ())))) 0).bind λ | .inl e84=>some (([]:List aQ),false) | .inr w=>some w)
def fY (c:bX) (e:dP):Option bX :=
 ((iter (σ:=Int×(List dP)) (ρ:=(List dP)) (λa=>(bif (decide (a.1 < (c.l.length:Int))) then ((((idx c.l a.1).bind λb=>(bif (b.i != e.i) then ((chk (cQ a.2.length [b].length 32)).bind λ_=>some (a.2++[b])) else some a.2)):Option (List dP)).bind λf=>some (.inl ((IntKind.i64.wrap (a.1+1)),f))) else some (.inr a.2))) (0,([]:List dP))).bind λd=>((chk (cQ d.length [e].length 32)).bind λ_=>some (bX.mk c.most (d++[e]))))
def jH (c:bX) (i:Int) (l:List aQ):Option (bX×Int×Bool) :=
 (((bif (decide (i < 0)) then some true else some (decide (i > 1152921504606846976))):Option Bool).bind λe6=>(bif e6 then some (c,0,false) else ((fY c (dP.mk i l)).bind λa=>(bif (decide ((a.l.length:Int)<=a.most)) then some (a,0,false) else ((chk (eN 1 (a.l.length:Int) a.l.length)).bind λ_=>((idx a.l 0).bind λb=>some ((bX.mk a.most (cut a.l 1 (a.l.length:Int))),b.i,true)))))))
def kE (c:bX) (i:Int):Option (bX×(List aQ)×Bool) :=
 ((jT c i).bind λr3=>(bif (!r3.2) then some (c,([]:List aQ),false) else ((fY c (dP.mk i r3.1)).bind λa=>some (a,r3.1,true))))
structure bA where
 aT:Int
 kind:Int
 aX:List Int
 data:ByteArray
 deriving DecidableEq,Inhabited
def jg (g:bA):Option ByteArray :=
 ((cF g.aT).bind λb=>((cF g.kind).bind λc=>((chk (kG b.size c.size)).bind λ_=>((cF (g.aX.length:Int)).bind λd=>((chk (kG (b++c).size d.size)).bind λ_=>((iter (σ:=Int×ByteArray) (ρ:=ByteArray) (λa=>(bif (decide (a.1 < (g.aX.length:Int))) then ((idx g.aX a.1).bind λi=>((cF i).bind λe=>((chk (kG a.2.size e.size)).bind λ_=>some (.inl ((IntKind.i64.wrap (a.1+1)),(a.2++e)))))) else some (.inr a.2))) (0,((b++c)++d))).bind λf=>((jR g.data).bind λh=>((chk (kG f.size h.size)).bind λ_=>((jS (f++h)).bind λj=>some j)))))))))
def jh (g:bA):Option Int :=
 (((bif (decide (g.aT < 1)) then some true else (bif (decide (g.aT > 4294967296)) then some true else (bif (decide (g.kind < 1)) then some true else (bif (decide (g.kind > 4)) then some true else some (decide ((g.aX.length:Int) > 64)))))):Option Bool).bind λc=>(bif c then some 6 else ((iter (σ:=Int) (ρ:=Unit ⊕ Int) (λa=>(bif (decide (a < (g.aX.length:Int))) then ((idx g.aX a).bind λb=>(((bif (decide (b < 0)) then some true else some (decide (b > 4611686018427387904))):Option Bool).bind λd=>(bif d then (fH (some 6)) else some (.inl (IntKind.i64.wrap (a+1)))))) else some (.inr (.inl ())))) 0).bind λ | .inl e120=>((jg g).bind λe=>(bif (decide ((e.size:Int) > 8192)) then some 3 else some 0)) | .inr w=>some w)))
def eI (g:bA):Option ByteArray :=
 ((jh g).bind λr2=>(bif (r2 != 0) then some (ByteArray.mk #[]) else ((jg g).bind λr7=>some r7)))
def kg (s_:ByteArray):Option (bA×Int) :=
 (bif (decide ((s_.size:Int) > 8192)) then some ((bA.mk 0 0 ([]:List Int) (ByteArray.mk #[])),3) else ((kN s_).bind λr5=>(bif (!r5.2) then some ((bA.mk 0 0 ([]:List Int) (ByteArray.mk #[])),4) else ((bG (aW.mk r5.1 0)).bind λg=>((bG g.1).bind λh=>((bG h.1).bind λb=>(((bif (b.1.e == 0) then some (decide (b.2 > 64)) else some false):Option Bool).bind λk=>(bif k then some ((bA.mk 0 0 ([]:List Int) (ByteArray.mk #[])),1) else ((iter (σ:=aW×bA×Int) (ρ:=aW×bA) (λa=>(((bif (decide (a.2.2 < b.2)) then some (a.1.e == 0) else some false):Option Bool).bind λl=>(bif l then ((bG a.1).bind λd=>((chk (cQ a.2.1.aX.length [d.2].length 8)).bind λ_=>some (.inl (d.1,(bA.mk a.2.1.aT a.2.1.kind (a.2.1.aX++[d.2]) a.2.1.data),(IntKind.i64.wrap (a.2.2+1)))))) else some (.inr (a.1,a.2.1))))) (b.1,(bA.mk g.2 h.2 ([]:List Int) (ByteArray.mk #[])),0)).bind λc=>((fU c.1).bind λf=>((kD f.1).bind λi=>(bif (i != 0) then some ((bA.mk 0 0 ([]:List Int) (ByteArray.mk #[])),i) else ((jh (bA.mk c.2.aT c.2.kind c.2.aX f.2)).bind λj=>(bif (j != 0) then some ((bA.mk 0 0 ([]:List Int) (ByteArray.mk #[])),j) else some ((bA.mk c.2.aT c.2.kind c.2.aX f.2),0)))))))))))))))
structure cM where
 key:Int
 has:List Bool
 parts:List ByteArray
 deriving DecidableEq,Inhabited
def lL (s_:cM) (key:Int) (index:Int) (count:Int) (data:ByteArray):Option (cM×Int) :=
 (((bif (decide (count < 1)) then some true else (bif (decide (count > 4096)) then some true else (bif (decide (index < 0)) then some true else (bif (decide (index>=count)) then some true else some (decide (key < 1)))))):Option Bool).bind λa=>(bif a then some (s_,6) else (bif (decide (key < s_.key)) then some (s_,8) else ((chk (tA count 1)).bind λ_=>((chk (tA count 16)).bind λ_=>(((bif (key == s_.key) then (bif (count != (s_.has.length:Int)) then (nA (some (s_,1))) else some (.inl (cM.mk key (cpy (List.replicate count.toNat false) s_.has) (cpy (List.replicate count.toNat (ByteArray.mk #[])) s_.parts)))) else some (.inl (cM.mk key (List.replicate count.toNat false) (List.replicate count.toNat (ByteArray.mk #[]))))):Option (cM ⊕ (cM×Int))).bind λ | .inl e76=>((idx e76.has index).bind λb=>(((bif (!b) then ((idx e76.has index).bind λd=>((idx e76.parts index).bind λe=>some (cM.mk e76.key (e76.has.set index.toNat true) (e76.parts.set index.toNat data)))) else some e76):Option cM).bind λc=>some (c,0))) | .inr w=>some w))))))
def kh (s_:cM) (there:Bool):Option (List Int) :=
 ((iter (σ:=Int×(List Int)) (ρ:=(List Int)) (λa=>(bif (decide (a.1 < (s_.has.length:Int))) then ((((idx s_.has a.1).bind λb=>(bif (b == there) then ((chk (cQ a.2.length [a.1].length 8)).bind λ_=>some (a.2++[a.1])) else some a.2)):Option (List Int)).bind λc=>some (.inl ((IntKind.i64.wrap (a.1+1)),c))) else some (.inr a.2))) (0,([]:List Int))).bind λd=>some d)
def lM (s_:cM):Option (ByteArray×Bool) :=
 ((iter (σ:=Int×ByteArray) (ρ:=ByteArray) (λa=>(bif (decide (a.1 < (s_.parts.length:Int))) then ((idx s_.parts a.1).bind λb=>((chk (kG a.2.size b.size)).bind λ_=>some (.inl ((IntKind.i64.wrap (a.1+1)),(a.2++b))))) else some (.inr a.2))) (0,(ByteArray.mk #[]))).bind λc=>(((bif (decide (s_.key > 0)) then ((kh s_ false).bind λe=>some (c,((e.length:Int) == 0))) else some (c,false)):Option (ByteArray×Bool)).bind λd=>some (d.1,d.2)))
def gU (a:bN) (b:bN):Option Bool :=
 (((bif (!(a.wrapped == b.wrapped)) then some true else some ((a.l.length:Int) != (b.l.length:Int))):Option Bool).bind λe6=>(bif e6 then some false else ((iter (σ:=Int) (ρ:=Unit ⊕ Bool) (λc=>(bif (decide (c < (a.l.length:Int))) then ((idx a.l c).bind λd=>((idx b.l c).bind λe=>(bif (!((d.rune == e.rune) && ((d.bW == e.bW) && ((d.part == e.part) && true)))) then (fH (some false)) else some (.inl (IntKind.i64.wrap (c+1)))))) else some (.inr (.inl ())))) 0).bind λ | .inl e364=>some true | .inr w=>some w)))
def ki (a:bJ) (s_:ByteArray):Option (bJ×Int) :=
 ((jG a).bind λr4=>(bif (!r4) then some ((bJ.mk 0 0 0 0 0 (ByteArray.mk #[]) ([]:List bN) 0 0 ([]:List aQ)),1) else ((bG (aW.mk s_ 0)).bind λu=>((bG u.1).bind λp=>((bG p.1).bind λi=>(((bif (i.1.e == 0) then some (decide (i.2 > 1000)) else some false):Option Bool).bind λz=>(bif z then some ((bJ.mk 0 0 0 0 0 (ByteArray.mk #[]) ([]:List bN) 0 0 ([]:List aQ)),1) else ((bG i.1).bind λj=>(((bif (j.1.e == 0) then some (decide (j.2 > 1000)) else some false):Option Bool).bind λm=>(bif m then some ((bJ.mk 0 0 0 0 0 (ByteArray.mk #[]) ([]:List bN) 0 0 ([]:List aQ)),1) else ((bG j.1).bind λq=>((bG q.1).bind λg=>((fU g.1).bind λr=>((bG r.1).bind λt=>((bG t.1).bind λl=>(((bif (l.1.e == 0) then ((gS l.1).bind λv=>some ((bJ.mk p.2 i.2 j.2 q.2 g.2 r.2 ([]:List bN) t.2 l.2 v.2),v.1)) else some ((bJ.mk p.2 i.2 j.2 q.2 g.2 r.2 ([]:List bN) t.2 l.2 ([]:List aQ)),l.1)):Option (bJ×aW)).bind λb=>((bG b.2).bind λn=>(bif (n.1.e != 0) then some ((bJ.mk 0 0 0 0 0 (ByteArray.mk #[]) ([]:List bN) 0 0 ([]:List aQ)),n.1.e) else ((chk (tA b.1.h 1)).bind λ_=>((chk (tA b.1.h 32)).bind λ_=>((iter (σ:=aW×(List Bool)×(List bN)×Int×Int) (ρ:=((List Bool)×(List bN)×aW) ⊕ (bJ×Int)) (λd=>(bif (decide (d.2.2.2.2 < n.2)) then ((bG d.1).bind λf=>(((bif (f.1.e == 0) then (bif (decide (f.2<=d.2.2.2.1)) then some true else some (decide (f.2>=b.1.h))) else some false):Option Bool).bind λA=>(bif A then (fH (some ((bJ.mk 0 0 0 0 0 (ByteArray.mk #[]) ([]:List bN) 0 0 ([]:List aQ)),1))) else ((gK f.1 b.1.w).bind λo=>(bif (o.1.e != 0) then (fH (some ((bJ.mk 0 0 0 0 0 (ByteArray.mk #[]) ([]:List bN) 0 0 ([]:List aQ)),o.1.e))) else ((idx d.2.1 f.2).bind λP=>((idx d.2.2.1 f.2).bind λQ=>some (.inl (o.1,(d.2.1.set f.2.toNat true),(d.2.2.1.set f.2.toNat o.2),f.2,(IntKind.i64.wrap (d.2.2.2.2+1))))))))))) else some (.inr (.inl (d.2.1,d.2.2.1,d.1))))) (n.1,(List.replicate b.1.h.toNat false),(List.replicate b.1.h.toNat (bN.mk ([]:List dF) false)),(-1),0)).bind λ | .inl e369=>(bif (!(e369.2.2.s.toList == (ByteArray.mk #[]).toList)) then some ((bJ.mk 0 0 0 0 0 (ByteArray.mk #[]) ([]:List bN) 0 0 ([]:List aQ)),1) else ((lK a).bind λB=>(bif (u.2 != B) then some ((bJ.mk 0 0 0 0 0 (ByteArray.mk #[]) ([]:List bN) 0 0 ([]:List aQ)),7) else ((iter (σ:=(List bN)×Int) (ρ:=(List bN) ⊕ (bJ×Int)) (λc=>(bif (decide (c.2 < (e369.2.1.length:Int))) then ((((((idx e369.1 c.2).bind λC=>(bif (!C) then (bif (decide (c.2>=(a.rows.length:Int))) then some true else ((idx e369.1 c.2).bind λD=>(bif D then (bif (decide (c.2 < (a.rows.length:Int))) then ((idx c.1 c.2).bind λE=>((idx a.rows c.2).bind λF=>((gU E F).bind λG=>some G))) else some false) else some false))) else ((idx e369.1 c.2).bind λH=>(bif H then (bif (decide (c.2 < (a.rows.length:Int))) then ((idx c.1 c.2).bind λI=>((idx a.rows c.2).bind λJ=>((gU I J).bind λK=>some K))) else some false) else some false)))):Option Bool).bind λL=>(bif L then (nA (fH (some ((bJ.mk 0 0 0 0 0 (ByteArray.mk #[]) ([]:List bN) 0 0 ([]:List aQ)),1)))) else ((idx e369.1 c.2).bind λM=>(bif (!M) then ((idx a.rows c.2).bind λN=>((idx c.1 c.2).bind λR=>some (.inl (c.1.set c.2.toNat N)))) else some (.inl c.1))))):Option ((List bN) ⊕ (((List bN)×Int) ⊕ ((List bN) ⊕ (bJ×Int))))).bind λ | .inl e4726=>some (.inl (e4726,(IntKind.i64.wrap (c.2+1)))) | .inr w=>some w) else some (.inr (.inl c.1)))) (e369.2.1,0)).bind λ | .inl e3950=>((gT (bJ.mk b.1.k b.1.w b.1.h b.1.x b.1.y b.1.title e3950 b.1.len b.1.chain b.1.begun)).bind λO=>(bif (O.toList == (ByteArray.mk #[]).toList) then some ((bJ.mk 0 0 0 0 0 (ByteArray.mk #[]) ([]:List bN) 0 0 ([]:List aQ)),1) else some ((bJ.mk b.1.k b.1.w b.1.h b.1.x b.1.y b.1.title e3950 b.1.len b.1.chain b.1.begun),0))) | .inr w=>some w)))) | .inr w=>some w)))))))))))))))))))))
structure dL where
 aK:bJ
 slot:cM
 deriving DecidableEq,Inhabited
def kP (t_:dL) (g:bA):Option (dL×Int) :=
 (bif (g.kind != 1) then some (t_,5) else (bif ((g.aX.length:Int) != 5) then some (t_,1) else ((idx g.aX 1).bind λf=>(bif (decide (f<=t_.aK.k)) then some (t_,8) else ((((idx g.aX 2).bind λh=>(bif (h != 0) then ((idx g.aX 2).bind λi=>some (i != t_.aK.k)) else some false)):Option Bool).bind λj=>(bif j then some (t_,7) else ((((idx g.aX 0).bind λl=>((idx g.aX 3).bind λm=>((idx g.aX 4).bind λn=>((lL t_.slot l m n g.data).bind λc=>some (c.1,c.2))))):Option (cM×Int)).bind λa=>(bif (a.2 != 0) then some (t_,a.2) else ((lM a.1).bind λd=>(bif (!d.2) then some ((dL.mk t_.aK a.1),0) else ((idx g.aX 2).bind λo=>(((bif (o != 0) then some t_.aK else some (bJ.mk 0 0 0 0 0 (ByteArray.mk #[]) ([]:List bN) 0 0 ([]:List aQ))):Option bJ).bind λp=>((ki p d.1).bind λb=>(((bif (b.2 == 0) then ((idx g.aX 1).bind λq=>some (b.1.k != q)) else some false):Option Bool).bind λr=>(((bif r then some 1 else some b.2):Option Int).bind λe=>(bif (e != 0) then some ((dL.mk t_.aK (cM.mk 0 ([]:List Bool) ([]:List ByteArray))),e) else some ((dL.mk b.1 (cM.mk 0 ([]:List Bool) ([]:List ByteArray))),0)))))))))))))))))
def gV (t_:dL):Option bA :=
 ((iter (σ:=ByteArray×Int) (ρ:=ByteArray) (λb=>(bif (decide (b.2 < (t_.slot.has.length:Int))) then ((iter (σ:=Int×Int) (ρ:=Int) (λa=>(((bif (decide (a.2 < 8)) then some (decide ((IntKind.i64.wrap (b.2+a.2)) < (t_.slot.has.length:Int))) else some false):Option Bool).bind λd=>(bif d then ((((idx t_.slot.has (IntKind.i64.wrap (b.2+a.2))).bind λe=>(bif e then ((idx [1,2,4,8,16,32,64,128] a.2).bind λf=>some (IntKind.i64.wrap (a.1+f))) else some a.1)):Option Int).bind λg=>some (.inl (g,(IntKind.i64.wrap (a.2+1))))) else some (.inr a.1)))) (0,0)).bind λc=>((chk (kG b.1.size (dM [(IntKind.u8.wrap c)]).size)).bind λ_=>some (.inl ((b.1++(dM [(IntKind.u8.wrap c)])),(IntKind.i64.wrap (b.2+8)))))) else some (.inr b.1))) ((ByteArray.mk #[]),0)).bind λh=>some (bA.mk 1 2 [t_.aK.k,t_.slot.key] h))
structure bR where
 most:Int
 every:Int
 due:Int
 l:List aD
 deriving DecidableEq,Inhabited
def mV (most:Int) (every:Int):Option bR :=
 some (bR.mk (imax 1 (cB most 65536)) (imax 1 (cB every 1048576)) 0 ([]:List aD))
def jU (g:bA):Option (Int×(List (List aQ))×Int) :=
 (bif (g.kind != 4) then some (0,([]:List (List aQ)),5) else (bif ((g.aX.length:Int) != 2) then some (0,([]:List (List aQ)),1) else ((iter (σ:=aW×(List (List aQ))) (ρ:=(List (List aQ))×aW) (λa=>(((bif (!(a.1.s.toList == (ByteArray.mk #[]).toList)) then ((idx g.aX 1).bind λe=>some (decide ((a.2.length:Int) < e))) else some false):Option Bool).bind λf=>(bif f then ((gS a.1).bind λb=>((chk (cQ a.2.length [b.2].length 24)).bind λ_=>some (.inl (b.1,(a.2++[b.2]))))) else some (.inr (a.2,a.1))))) ((aW.mk g.data 0),([]:List (List aQ)))).bind λc=>((kD c.2).bind λd=>(bif (d != 0) then some (0,([]:List (List aQ)),d) else ((idx g.aX 1).bind λh=>(bif ((c.1.length:Int) != h) then some (0,([]:List (List aQ)),1) else ((idx g.aX 0).bind λi=>some (i,c.1,0)))))))))
def jI (f:bR) (i:Int):Option (bR×Bool) :=
 ((jF f.l i).bind λr3=>(bif (!r3) then some (f,false) else ((iL f.l (aD.mk i (IntKind.i64.wrap (i+1)))).bind λr8=>some ((bR.mk f.most f.every f.due r8),true))))
def iM (f:bR) (now:Int) (length:Int):Option (bR×(List aD)) :=
 ((mG f.l (aD.mk 0 length)).bind λr3=>(((bif ((r3.length:Int) == 0) then some true else some (decide (now < f.due))):Option Bool).bind λa=>(bif a then some (f,([]:List aD)) else (((bif (decide ((r3.length:Int) > 8)) then ((chk (eN 0 8 r3.length)).bind λ_=>some (cut r3 0 8)) else some r3):Option (List aD)).bind λb=>some ((bR.mk f.most f.every (IntKind.i64.wrap (now+f.every)) f.l),b)))))
def kQ (f:bR) (x_:aD) (aK:List aD):Option bR :=
 ((gR ([]:List aD) (aD.mk (imax 0 (cB x_.from_ 1152921504606846976)) (cB (imax 0 (cB x_.to 1152921504606846976)) (IntKind.i64.wrap ((imax 0 (cB x_.from_ 1152921504606846976))+f.most))))).bind λr5=>((iter (σ:=bR×Int) (ρ:=bR) (λa=>(bif (decide (a.2 < (aK.length:Int))) then ((idx aK a.2).bind λb=>((iL a.1.l b).bind λc=>some (.inl ((bR.mk a.1.most a.1.every a.1.due c),(IntKind.i64.wrap (a.2+1)))))) else some (.inr a.1))) ((bR.mk f.most f.every 0 r5),0)).bind λd=>some d))
def ji (l:List aD):Option Int :=
 ((iter (σ:=Int×Int) (ρ:=Int) (λa=>(bif (decide (a.2 < (l.length:Int))) then ((idx l a.2).bind λb=>some (.inl ((IntKind.i64.wrap (a.1+(IntKind.i64.wrap (b.to - b.from_)))),(IntKind.i64.wrap (a.2+1))))) else some (.inr a.1))) (0,0)).bind λc=>some c)
structure ox where
 cache:Int
 every:Int
 addr:Int
 deriving DecidableEq,Inhabited
structure aL where
 most:Int
 every:Int
 addr:Int
 aT:Int
 due:Int
 t:dL
 l:bX
 f:bR
 deriving DecidableEq,Inhabited
def mf (n_:Int):Option Int :=
 some (imax 0 (cB n_ 4294967296))
def lN (c:ox):Option aL :=
 ((mV c.cache c.every).bind λr3=>((mf c.addr).bind λa=>((ow c.cache).bind λb=>some (aL.mk r3.most r3.every a 0 0 (dL.mk (bJ.mk 0 0 0 0 0 (ByteArray.mk #[]) ([]:List bN) 0 0 ([]:List aQ)) (cM.mk 0 ([]:List Bool) ([]:List ByteArray))) b r3))))
def kR (c:aL) (data:ByteArray):Option (aL×Int) :=
 ((kg data).bind λr3=>(bif (r3.2 != 0) then some (c,r3.2) else (((bif (r3.1.kind != 1) then some (r3.1.kind != 4) else some false):Option Bool).bind λh=>(bif h then some (c,5) else (bif (decide (r3.1.aT < c.aT)) then some (c,8) else (((bif (decide (r3.1.aT > c.aT)) then some (aL.mk c.most c.every c.addr r3.1.aT c.due (dL.mk (bJ.mk 0 0 0 0 0 (ByteArray.mk #[]) ([]:List bN) 0 0 ([]:List aQ)) (cM.mk 0 ([]:List Bool) ([]:List ByteArray))) (bX.mk c.most ([]:List dP)) (bR.mk c.most c.every 0 ([]:List aD))) else some c):Option aL).bind λb=>(bif (r3.1.kind == 1) then ((kP b.t r3.1).bind λe=>some ((aL.mk b.most b.every b.addr b.aT b.due e.1 b.l b.f),e.2)) else ((jU r3.1).bind λd=>((iter (σ:=aL×Int) (ρ:=aL) (λa=>(bif (decide (a.2 < (d.2.1.length:Int))) then ((((idx d.2.1 a.2).bind λi=>((jI a.1.f (IntKind.i64.wrap (d.1+a.2))).bind λg=>(bif g.2 then ((jH a.1.l (IntKind.i64.wrap (d.1+a.2)) i).bind λj=>some (aL.mk a.1.most a.1.every a.1.addr a.1.aT a.1.due a.1.t j.1 g.1)) else some a.1))):Option aL).bind λk=>some (.inl (k,(IntKind.i64.wrap (a.2+1))))) else some (.inr a.1))) (b,0)).bind λm=>some (m,d.2.2))))))))))
def gW (c:aL) (now:Int):Option (aL×(List ByteArray)) :=
 (((bif (decide (now>=c.due)) then ((gV c.t).bind λg=>((eI (bA.mk (imax 1 c.aT) g.kind g.aX g.data)).bind λh=>((chk (cQ ([]:List ByteArray).length [h].length 16)).bind λ_=>some ((([]:List ByteArray)++[h]),(aL.mk c.most c.every c.addr c.aT (IntKind.i64.wrap (now+c.every)) c.t c.l c.f))))) else some (([]:List ByteArray),c)):Option ((List ByteArray)×aL)).bind λa=>((iM a.2.f now a.2.t.aK.len).bind λd=>(((bif (decide ((d.2.length:Int) > 0)) then ((iter (σ:=bA×Int) (ρ:=bA) (λb=>(bif (decide (b.2 < (d.2.length:Int))) then ((idx d.2 b.2).bind λe=>((chk (cQ b.1.aX.length [e.from_,e.to].length 8)).bind λ_=>some (.inl ((bA.mk b.1.aT b.1.kind (b.1.aX++[e.from_,e.to]) b.1.data),(IntKind.i64.wrap (b.2+1)))))) else some (.inr b.1))) ((bA.mk (imax 1 c.aT) 3 ([]:List Int) (ByteArray.mk #[])),0)).bind λj=>((eI j).bind λi=>((chk (cQ a.1.length [i].length 16)).bind λ_=>some (a.1++[i])))) else some a.1):Option (List ByteArray)).bind λk=>some ((aL.mk a.2.most a.2.every a.2.addr a.2.aT a.2.due a.2.t a.2.l d.1),k))))
def kS (c:aL) (from_:Int) (to:Int):Option (aL×Int) :=
 ((kf c.l).bind λr3=>((iter (σ:=aL×Int) (ρ:=aL) (λa=>(bif (decide (a.2 < (cB (imax 0 (cB to 1152921504606846976)) (IntKind.i64.wrap ((imax 0 (cB from_ 1152921504606846976))+c.most))))) then ((kE a.1.l a.2).bind λe=>some (.inl ((aL.mk a.1.most a.1.every a.1.addr a.1.aT a.1.due a.1.t e.1 a.1.f),(IntKind.i64.wrap (a.2+1))))) else some (.inr a.1))) (c,(imax 0 (cB from_ 1152921504606846976)))).bind λb=>((kQ b.f (aD.mk (imax 0 (cB from_ 1152921504606846976)) (cB (imax 0 (cB to 1152921504606846976)) (IntKind.i64.wrap ((imax 0 (cB from_ 1152921504606846976))+c.most)))) r3).bind λd=>((ji d.l).bind λg=>some ((aL.mk b.most b.every b.addr b.aT b.due b.t b.l d),g)))))
def mg (c:aL) (addr:Int):Option aL :=
 ((mf addr).bind λr3=>some (aL.mk c.most c.every r3 c.aT c.due c.t c.l c.f))
structure jJ where
 kind:Int
 later:Int
 from_:Int
 to:Int
 text:ByteArray
 deriving DecidableEq,Inhabited
def n4 (x:jJ):Prop:=(inK .i64) x.kind/\(inK .i64) x.later/\(inK .i64) x.from_/\(inK .i64) x.to/\(λs:ByteArray=>s.size<=maxLen) x.text/\True
def kj:Option Bool :=
 ((iT (gQ.mk 5 3 7)).bind λr1=>((cU r1 0).bind λb=>(bif ((b.1.length:Int) != 1) then some false else ((idx b.1 0).bind λe=>((jO e).bind λc=>((dZ (aV.mk 3 4 [0,0] (ByteArray.mk #[]))).bind λf=>((dT b.2 0 f).bind λa=>(((bif (c.2 == 0) then (bif (c.1.kind == 2) then (bif (c.1.aT == 1) then (bif (a.1 == 0) then ((dN a.2).bind λg=>(bif (g == 3) then ((dU a.2).bind λh=>(bif (h == 7) then ((dV a.2 0 9).bind λd=>some ((d.1 == 5),d.2)) else some (false,a.2))) else some (false,a.2))) else some (false,a.2)) else some (false,a.2)) else some (false,a.2)) else some (false,a.2)):Option (Bool×aH)).bind λi=>some i.1))))))))
def jj (l:List ByteArray) (x_:List ByteArray):Option Bool :=
 (bif ((l.length:Int) != (x_.length:Int)) then some false else ((iter (σ:=Int) (ρ:=Unit ⊕ Bool) (λa=>(bif (decide (a < (x_.length:Int))) then ((idx l a).bind λb=>((idx x_ a).bind λc=>(bif (!(b.toList == c.toList)) then (fH (some false)) else some (.inl (IntKind.i64.wrap (a+1)))))) else some (.inr (.inl ())))) 0).bind λ | .inl e355=>some true | .inr w=>some w))
def mH (c:aH) (x_:aL) (a:jJ) (now:Int):Option (aL×Bool×aH) :=
 (bif (a.kind == 0) then ((kC a.text 400).bind λb=>((kR x_ b).bind λd=>((dT c now b).bind λe=>some (d.1,(e.1 == d.2),e.2)))) else (bif (a.kind == 1) then ((gW x_ now).bind λf=>((cU c now).bind λg=>((jj g.1 f.2).bind λj=>some (f.1,j,g.2)))) else (bif (a.kind == 2) then ((kS x_ a.from_ a.to).bind λh=>((dV c a.from_ a.to).bind λi=>some (h.1,(i.1 == h.2),i.2))) else ((fX c a.from_).bind λk=>((mg x_ a.from_).bind λl=>some (l,true,k))))))
def iv (acts:List jJ) (addr:Int):Option Bool :=
 (Option.bind kj λr1=>(bif (!r1) then some false else ((iT (gQ.mk 5 2 3)).bind λr6=>((lN (ox.mk 5 2 3)).bind λi=>((iter (σ:=aL×aH×Int×Int) (ρ:=Int×aL×aH) (λa=>(((bif (decide (a.2.2.2 < (acts.length:Int))) then some (decide (a.2.2.2 < 15)) else some false):Option Bool).bind λj=>(bif j then ((idx acts a.2.2.2).bind λe=>((idx acts a.2.2.2).bind λk=>((mH a.2.1 a.1 k (IntKind.i64.wrap (a.2.2.1+(Go.bits .and .i64 e.later 7)))).bind λf=>some (.inl (f.1,f.2.2,(IntKind.i64.wrap (a.2.2.1+(Go.bits .and .i64 e.later 7))),(IntKind.i64.wrap (a.2.2.2+1))))))) else some (.inr (a.2.2.1,a.1,a.2.1))))) (i,r6,0,0)).bind λd=>((fR d.2.2).bind λb=>((fX d.2.2 addr).bind λc=>((((dU c).bind λl=>(bif (l == (imax 0 (cB addr 4294967296))) then ((dU b).bind λm=>(bif (m == d.2.1.addr) then ((fC c).bind λn=>((fC b).bind λo=>((iC n o).bind λp=>(bif p then ((dN c).bind λq=>((dN b).bind λr=>(bif (q == r) then ((cU c (IntKind.i64.wrap (d.1+9))).bind λg=>((cU b (IntKind.i64.wrap (d.1+9))).bind λh=>((jj g.1 h.1).bind λs=>some (s,g.2,h.2)))) else some (false,c,b)))) else some (false,c,b))))) else some (false,c,b))) else some (false,c,b))):Option (Bool×aH×aH)).bind λt=>some t.1))))))))
end Go.Tw.X
end

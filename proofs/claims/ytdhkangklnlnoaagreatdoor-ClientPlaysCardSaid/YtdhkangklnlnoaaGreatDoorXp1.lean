import Derived.Test.YtdhkangklnlnoaaGreatDoorFw2
set_option linter.unusedVariables false
set_option linter.unusedSimpArgs false
set_option maxRecDepth 10000
noncomputable section
namespace Go.Tw.X
open Go Go.Tw
structure cK where
 b:List Int
 deriving DecidableEq,Inhabited
structure aJ where
 s:ByteArray
 e:Int
 deriving DecidableEq,Inhabited
def ma (n_:Int):Option Int :=
 some n_
def n4 (n_:Int):Option Int :=
 some (imax 0 (cB n_ 4611686018427387904))
def ju {σ:Type} (Y:σ->Int->Option (σ×Bool)) (y0:σ) (x1:Int):Option (σ×Int) :=
 ((n4 x1).bind λr1=>((iter (σ:=Int×σ) (ρ:=(Int×σ) ⊕ (σ×Int)) (λa=>(bif (decide (a.1>=128)) then ((Y a.2 (Go.bits .or .u8 (Go.bits .and .u8 (IntKind.u8.wrap a.1) 127) 128)).bind λz68=>(bif (!z68.2) then (fp (some (z68.1,a.1))) else some (.inl ((a.1.fdiv (2 ^ (min 7 64))),z68.1)))) else some (.inr (.inl (a.1,a.2))))) (r1,y0)).bind λ | .inl e53=>((Y e53.2 (IntKind.u8.wrap e53.1)).bind λz75=>some (z75.1,e53.1)) | .inr w=>some w))
def dH (o:cK) (l:List Int):Option cK :=
 ((iter (σ:=cK×Int) (ρ:=cK) (λa=>(bif (decide (a.2 < (l.length:Int))) then ((idx l a.2).bind λe=>((ma e).bind λf=>((ju (λc d=>((chk (cW c.b.length [d].length 1)).bind λ_=>some ((cK.mk (c.b++[d])),true))) (a.1:cK) f).bind λg=>some (.inl (g.1,(IntKind.i64.wrap (a.2+1))))))) else some (.inr a.1))) (o,0)).bind λh=>some h)
def gW (o:cK) (l:List ByteArray):Option cK :=
 ((iter (σ:=cK×Int) (ρ:=cK) (λa=>(bif (decide (a.2 < (l.length:Int))) then ((idx l a.2).bind λc=>((chk (cW a.1.b.length c.size 1)).bind λ_=>some (.inl ((cK.mk (a.1.b++sbs c)),(IntKind.i64.wrap (a.2+1)))))) else some (.inr a.1))) (o,0)).bind λd=>some d)
def il (o:cK) (l:List ByteArray):Option cK :=
 ((iter (σ:=cK×Int) (ρ:=cK) (λa=>(bif (decide (a.2 < (l.length:Int))) then ((idx l a.2).bind λb=>((dH a.1 [(b.size:Int)]).bind λc=>((gW c [b]).bind λd=>some (.inl (d,(IntKind.i64.wrap (a.2+1))))))) else some (.inr a.1))) (o,0)).bind λe=>some e)
def fq (o:cK):Option ByteArray :=
 some (dL o.b)
def kD (s_:ByteArray):Option aJ :=
 some (aJ.mk s_ 0)
def bQ (in_:aJ) (e:Int):Option aJ :=
 (((bif (in_.e == 0) then some (e != 0) else some false):Option Bool).bind λe4=>(bif e4 then some (aJ.mk (ByteArray.mk #[]) e) else some in_))
def bM (in_:aJ):Option (Int×aJ) :=
 ((iter (σ:=Int×Int) (ρ:=Unit ⊕ (Int×aJ)) (λa=>(bif (decide (a.1 < (cB (in_.s.size:Int) 9))) then ((tE in_.s a.1).bind λb213=>((chk (shk (IntKind.i64.wrap (7*a.1)))).bind λ_=>(bif (decide (b213>=128)) then some (.inl ((IntKind.i64.wrap (a.1+1)),(Go.bits .or .i64 a.2 (IntKind.i64.wrap ((IntKind.i64.wrap (Go.bits .and .u8 b213 127))*2 ^ (min (IntKind.i64.wrap (7*a.1)).toNat 64)))))) else (((bif (decide (a.1 > 0)) then (bif (b213 == 0) then some true else some (decide ((Go.bits .or .i64 a.2 (IntKind.i64.wrap ((IntKind.i64.wrap (Go.bits .and .u8 b213 127))*2 ^ (min (IntKind.i64.wrap (7*a.1)).toNat 64)))) > 4611686018427387904))) else some (decide ((Go.bits .or .i64 a.2 (IntKind.i64.wrap ((IntKind.i64.wrap (Go.bits .and .u8 b213 127))*2 ^ (min (IntKind.i64.wrap (7*a.1)).toNat 64)))) > 4611686018427387904))):Option Bool).bind λb=>(bif b then ((bQ in_ 1).bind λc=>(fp (some (0,c)))) else ((chk (eK (IntKind.i64.wrap (a.1+1)) (in_.s.size:Int) in_.s.size)).bind λ_=>(fp (some ((Go.bits .or .i64 a.2 (IntKind.i64.wrap ((IntKind.i64.wrap (Go.bits .and .u8 b213 127))*2 ^ (min (IntKind.i64.wrap (7*a.1)).toNat 64)))),(aJ.mk (gD in_.s (IntKind.i64.wrap (a.1+1)) (in_.s.size:Int)) in_.e)))))))))) else some (.inr (.inl ())))) (0,0)).bind λ | .inl e176=>(((bif (decide ((in_.s.size:Int)>=9)) then ((bQ in_ 1).bind λd=>some d) else some in_):Option aJ).bind λf=>((bQ f 2).bind λg=>some (0,g))) | .inr w=>some w)
def kE (in_:aJ) (n_:Int):Option (ByteArray×aJ) :=
 (bif (decide ((imax 0 n_) > (in_.s.size:Int))) then ((bQ in_ 2).bind λr6=>some ((ByteArray.mk #[]),r6)) else ((chk (eK 0 (imax 0 n_) in_.s.size)).bind λ_=>((chk (eK (imax 0 n_) (in_.s.size:Int) in_.s.size)).bind λ_=>some ((gD in_.s 0 (imax 0 n_)),(aJ.mk (gD in_.s (imax 0 n_) (in_.s.size:Int)) in_.e)))))
def gX (in_:aJ):Option (ByteArray×aJ) :=
 ((bM in_).bind λr1=>((kE r1.2 r1.1).bind λr4=>some (r4.1,r4.2)))
def cX (in_:aJ):Option Int :=
 some in_.e
def iK (in_:aJ):Option Int :=
 (bif (!(in_.s.toList == (ByteArray.mk #[]).toList)) then some 1 else some in_.e)
def jV (in_:aJ):Option Int :=
 some (in_.s.size:Int)
structure qh where
 lead:Int
 rune:Int
 Hq:Int
 deriving DecidableEq,Inhabited
structure oW where
 first:Int
 last:Int
 Hq:Int
 low:Int
 high:Int
 deriving DecidableEq,Inhabited
def uE:List oW:=[⟨194,223,1,128,191⟩,⟨224,224,2,160,191⟩,⟨225,236,2,128,191⟩,⟨237,237,2,128,159⟩,⟨238,239,2,128,191⟩,⟨240,240,3,144,191⟩,⟨241,243,3,128,191⟩,⟨244,244,3,128,143⟩]
structure cN where
 addr:Bool
 buf:List Int
 deriving DecidableEq,Inhabited
structure kf where
 e0:Int
 e1:Int
 e2:Int
 deriving DecidableEq,Inhabited
def mb (x_:Int) (y:Int):Option (Int×Int) :=
 some ((IntKind.u64.wrap ((IntKind.u64.wrap ((IntKind.u64.wrap ((x_.fdiv (2 ^ (min 32 64)))*(y.fdiv (2 ^ (min 32 64)))))+((IntKind.u64.wrap ((IntKind.u64.wrap ((x_.fdiv (2 ^ (min 32 64)))*(Go.bits .and .u64 y 4294967295)))+((IntKind.u64.wrap ((Go.bits .and .u64 x_ 4294967295)*(Go.bits .and .u64 y 4294967295))).fdiv (2 ^ (min 32 64))))).fdiv (2 ^ (min 32 64)))))+((IntKind.u64.wrap ((Go.bits .and .u64 (IntKind.u64.wrap ((IntKind.u64.wrap ((x_.fdiv (2 ^ (min 32 64)))*(Go.bits .and .u64 y 4294967295)))+((IntKind.u64.wrap ((Go.bits .and .u64 x_ 4294967295)*(Go.bits .and .u64 y 4294967295))).fdiv (2 ^ (min 32 64))))) 4294967295)+(IntKind.u64.wrap ((Go.bits .and .u64 x_ 4294967295)*(y.fdiv (2 ^ (min 32 64))))))).fdiv (2 ^ (min 32 64))))),(IntKind.u64.wrap (x_*y)))
def my (x_:Int) (y:Int):Option (Int×Int) :=
 ((mb x_ y).bind λr1=>some (r1.1,r1.2))
def dR (b:cN) (s_:ByteArray):Option cN :=
 ((chk (cW b.buf.length s_.size 1)).bind λ_=>some (cN.mk true (b.buf++sbs s_)))
def gY (b:cN):Option ByteArray :=
 some (dL b.buf)
def iT (x_:Int):Option Bool :=
 some (x_ != x_)
def gK (x_:Int) (y:Int):Option Int :=
 ((iT x_).bind λr1=>((iT y).bind λr4=>(bif r1 then (bif r4 then some 0 else some (-1)) else (bif r4 then some 1 else (bif (decide (x_ < y)) then some (-1) else (bif (decide (x_ > y)) then some 1 else some 0))))))
structure aO where
 rune:Int
 bU:Int
 part:Int
 deriving DecidableEq,Inhabited
structure aY where
 cells:List aO
 wrapped:Bool
 deriving DecidableEq,Inhabited
structure aM where
 rune:Int
 bU:Int
 deriving DecidableEq,Inhabited
def dX (x_:List aO) (count:Int):Option (List aO) :=
 (bif (decide (count < 0)) then none else ((my (IntKind.u64.wrap (x_.length:Int)) (IntKind.u64.wrap count)).bind λr3=>(((bif (decide (r3.1 > 0)) then some true else some (decide (r3.2 > 9223372036854775807))):Option Bool).bind λe9=>(bif e9 then none else ((chk (tC (IntKind.i64.wrap r3.2) 24)).bind λ_=>((iter (σ:=(List aO)×Int) (ρ:=(List aO)) (λa=>(bif (decide (a.2 < (a.1.length:Int))) then ((chk (eK a.2 (a.1.length:Int) a.1.length)).bind λ_=>((chk (eK 0 a.2 a.1.length)).bind λ_=>some (.inl ((uC a.1 a.2.toNat),(IntKind.i64.wrap (a.2+((Nat.min a.2.toNat (a.1.length - a.2.toNat):Nat):Int))))))) else some (.inr a.1))) ((cpy (List.replicate (IntKind.i64.wrap r3.2).toNat (aO.mk 0 0 0)) x_),((Nat.min x_.length (List.replicate (IntKind.i64.wrap r3.2).toNat (aO.mk 0 0 0)).length:Nat):Int))).bind λb=>some b))))))
def fw (s_:List aO):Option (List aO) :=
 ((chk (cW ([]:List aO).length s_.length 24)).bind λ_=>some (([]:List aO)++s_))
def fy (s1_:List aO) (s2_:List aO):Option Bool :=
 (bif ((s1_.length:Int) != (s2_.length:Int)) then some false else ((iter (σ:=Int) (ρ:=Unit ⊕ Bool) (λa=>(bif (decide (a < (s1_.length:Int))) then ((idx s1_ a).bind λb=>((idx s2_ a).bind λc=>(bif (!((b.rune == c.rune) && ((b.bU == c.bU) && ((b.part == c.part) && true)))) then (fp (some false)) else some (.inl (IntKind.i64.wrap (a+1)))))) else some (.inr (.inl ())))) 0).bind λ | .inl e355=>some true | .inr w=>some w))
def iq (r_:aY) (q:aY):Option Bool :=
 (((bif (r_.wrapped == q.wrapped) then ((fy r_.cells q.cells).bind λa=>some a) else some false):Option Bool).bind λb=>some b)
def cS (s_:List aM):Option (List aM) :=
 ((chk (cW ([]:List aM).length s_.length 16)).bind λ_=>some (([]:List aM)++s_))
def dD:List Int:=[0,498536548,997073096,651767980,1994146192,1802195444,1303535960,1342533948,3988292384,4027552580,3604390888,3412177804,2607071920,2262029012,2685067896,3183342108]
def k8 (x_:Int) (b:Int):Option Int :=
 ((idx dD (Go.bits .and .u32 (Go.bits .xor .u32 x_ (IntKind.u32.wrap b)) 15)).bind λx1=>((idx dD (Go.bits .and .u32 (Go.bits .xor .u32 ((Go.bits .xor .u32 x_ (IntKind.u32.wrap b)).fdiv (2 ^ (min 4 32))) x1) 15)).bind λx5=>some (Go.bits .xor .u32 ((Go.bits .xor .u32 ((Go.bits .xor .u32 x_ (IntKind.u32.wrap b)).fdiv (2 ^ (min 4 32))) x1).fdiv (2 ^ (min 4 32))) x5)))
def mz (l:List ByteArray):Option Int :=
 ((iter (σ:=Int×Int) (ρ:=Int) (λa=>(bif (decide (a.2 < (l.length:Int))) then ((idx l a.2).bind λc=>((iter (σ:=Int×Int) (ρ:=Int) (λb=>(bif (decide (b.1 < (c.size:Int))) then ((tE c b.1).bind λb642=>((k8 b.2 b642).bind λd=>some (.inl ((IntKind.i64.wrap (b.1+1)),d)))) else some (.inr b.2))) (0,a.1)).bind λe=>some (.inl (e,(IntKind.i64.wrap (a.2+1)))))) else some (.inr a.1))) (4294967295,0)).bind λf=>some (Go.bits .xor .u32 4294967295 f))
def k9 (x_:Int):Option ByteArray :=
 some (dL [(IntKind.u8.wrap x_),(IntKind.u8.wrap (x_.fdiv (2 ^ (min 8 32)))),(IntKind.u8.wrap (x_.fdiv (2 ^ (min 16 32)))),(IntKind.u8.wrap (x_.fdiv (2 ^ (min 24 32))))])
def lb (s_:ByteArray):Option ByteArray :=
 ((mz [s_]).bind λr3=>((k9 r3).bind λr6=>((chk (kB s_.size r6.size)).bind λ_=>some (s_++r6))))
def mC (s_:ByteArray):Option (ByteArray×Bool) :=
 (((bif (decide ((IntKind.i64.wrap ((s_.size:Int) - 4)) < 0)) then some true else ((chk (eK (IntKind.i64.wrap ((s_.size:Int) - 4)) (s_.size:Int) s_.size)).bind λ_=>((chk (eK 0 (IntKind.i64.wrap ((s_.size:Int) - 4)) s_.size)).bind λ_=>((mz [(gD s_ 0 (IntKind.i64.wrap ((s_.size:Int) - 4)))]).bind λa=>((k9 a).bind λb=>some (!((gD s_ (IntKind.i64.wrap ((s_.size:Int) - 4)) (s_.size:Int)).toList == b.toList))))))):Option Bool).bind λc=>(bif c then some ((ByteArray.mk #[]),false) else ((chk (eK 0 (IntKind.i64.wrap ((s_.size:Int) - 4)) s_.size)).bind λ_=>some ((gD s_ 0 (IntKind.i64.wrap ((s_.size:Int) - 4))),true))))
def lB (l:List aM):Option ByteArray :=
 ((dH (cK.mk ([]:List Int)) [(l.length:Int)]).bind λr6=>((iter (σ:=cK×Int) (ρ:=cK) (λa=>(bif (decide (a.2 < (l.length:Int))) then ((idx l a.2).bind λb=>((dH a.1 [(IntKind.i64.wrap b.rune),b.bU]).bind λc=>some (.inl (c,(IntKind.i64.wrap (a.2+1)))))) else some (.inr a.1))) (r6,0)).bind λd=>((fq d).bind λe=>some e)))
def fH (in_:aJ) (most:Int):Option (Int×aJ) :=
 ((bM in_).bind λr1=>(bif (decide (r1.1 > most)) then ((bQ r1.2 1).bind λr9=>some (0,r9)) else some (r1.1,r1.2)))
def iF (in_:aJ):Option ((List aM)×aJ) :=
 ((fH in_ 1024).bind λr1=>((iter (σ:=aJ×(List aM)×Int) (ρ:=(List aM)×aJ) (λa=>(bif (decide (a.2.2 < r1.1)) then ((fH a.1 1114111).bind λc=>((fH c.2 647).bind λd=>((chk (cW a.2.1.length [(aM.mk (IntKind.i32.wrap c.1) d.1)].length 16)).bind λ_=>some (.inl (d.2,(a.2.1++[(aM.mk (IntKind.i32.wrap c.1) d.1)]),(IntKind.i64.wrap (a.2.2+1))))))) else some (.inr (a.2.1,a.1)))) (r1.2,[],0)).bind λb=>((cX b.2).bind λe=>(bif (e != 0) then some (([]:List aM),b.2) else some (b.1,b.2)))))
structure aB where
 from_:Int
 to:Int
 deriving DecidableEq,Inhabited
structure cF where
 l:List aB
 deriving DecidableEq,Inhabited
def eS (x_:aB):Option aB :=
 some (aB.mk (imax (-1152921504606846976) (cB x_.from_ 1152921504606846976)) (imax (-1152921504606846976) (cB x_.to 1152921504606846976)))
def jk (x_:aB) (y:aB):Option aB :=
 some (aB.mk (imax x_.from_ y.from_) (cB x_.to y.to))
def dI (x_:aB):Option Bool :=
 some (decide (x_.to<=x_.from_))
def ir (s_:cF) (x_:aB):Option (List aB) :=
 ((iter (σ:=Int×(List aB)) (ρ:=(List aB)) (λa=>(bif (decide (a.1 < (s_.l.length:Int))) then ((((idx s_.l a.1).bind λc=>((eS x_).bind λd=>((jk c d).bind λb=>((dI b).bind λe=>(bif (!e) then ((chk (cW a.2.length [b].length 16)).bind λ_=>some (a.2++[b])) else some a.2))))):Option (List aB)).bind λf=>some (.inl ((IntKind.i64.wrap (a.1+1)),f))) else some (.inr a.2))) (0,[])).bind λg=>some g)
def cT (x_:aB) (x1:Int):Option Bool :=
 (((bif (decide (x1>=x_.from_)) then some (decide (x1 < x_.to)) else some false):Option Bool).bind λe5=>some e5)
def bZ (s_:List aB) (f_0:Int):Option Int :=
 ((iter (σ:=Int) (ρ:=Unit ⊕ Int) (λa=>(bif (decide (a < (s_.length:Int))) then ((idx s_ a).bind λb=>((cT b f_0).bind λc=>(bif c then (fp (some a)) else some (.inl (IntKind.i64.wrap (a+1)))))) else some (.inr (.inl ())))) 0).bind λ | .inl e77=>some (-1) | .inr w=>some w)
def cL (s_:List aB) (f_0:Int):Option Bool :=
 ((bZ s_ f_0).bind λr1=>some (decide (r1>=0)))
def gk (s_:cF) (n_:Int):Option Bool :=
 ((cL s_.l n_).bind λr2=>some r2)
def kg (l:List aB) (x_:aB):Option ((List aB)×aB) :=
 some (l,x_)
def gL {σ:Type} (Y:σ->aB->Option (σ×Bool)) (y0:σ) (x1:List aB) (x2:aB):Option σ :=
 ((iter (σ:=Int×σ) (ρ:=σ ⊕ σ) (λc=>(bif (decide (c.1 < (x1.length:Int))) then ((idx x1 c.1).bind λa=>((iter (σ:=Int×σ) (ρ:=σ ⊕ ((Int×σ) ⊕ (σ ⊕ σ))) (λb=>(bif (decide (b.1 < ([(aB.mk a.from_ (cB a.to x2.from_)),(aB.mk (imax a.from_ x2.to) a.to)].length:Int))) then ((idx [(aB.mk a.from_ (cB a.to x2.from_)),(aB.mk (imax a.from_ x2.to) a.to)] b.1).bind λe=>((((dI e).bind λf=>(bif (!f) then ((Y b.2 e).bind λz2582=>some ((!z2582.2),z2582.1)) else some (false,b.2))):Option (Bool×σ)).bind λd=>(bif d.1 then (fp (fp (some d.2))) else some (.inl ((IntKind.i64.wrap (b.1+1)),d.2))))) else some (.inr (.inl b.2)))) (0,c.2)).bind λ | .inl e2507=>some (.inl ((IntKind.i64.wrap (c.1+1)),e2507)) | .inr w=>some w)) else some (.inr (.inl c.2)))) (0,y0)).bind λ | .inl e1939=>some e1939 | .inr w=>some w)
def gH (s_:cF) (l:List aB):Option cF :=
 ((iter (σ:=cF×Int) (ρ:=cF) (λa=>(bif (decide (a.2 < (l.length:Int))) then ((((idx l a.2).bind λf=>((eS f).bind λb=>((dI b).bind λg=>(bif g then some a.1 else ((kg a.1.l b).bind λc=>((gL (λd e=>((chk (cW d.length [e].length 16)).bind λ_=>some ((d++[e]),true))) ([]:(List aB)) c.1 c.2).bind λh=>some (cF.mk h))))))):Option cF).bind λi=>some (.inl (i,(IntKind.i64.wrap (a.2+1))))) else some (.inr a.1))) (s_,0)).bind λj=>some j)
def fj (n_:Int):Option (List aB) :=
 (bif (decide (n_ < 0)) then none else (((bif (decide ((IntKind.i64.wrap (n_ - (IntKind.i64.wrap (0 - 0)))) > 0)) then ((chk (FW (IntKind.i64.wrap (n_ - (IntKind.i64.wrap (0 - 0)))) 16)).bind λ_=>((chk (eK 0 0 (List.replicate (IntKind.i64.wrap (n_ - (IntKind.i64.wrap (0 - 0)))).toNat (aB.mk 0 0)).length)).bind λ_=>some (cut (List.replicate (IntKind.i64.wrap (n_ - (IntKind.i64.wrap (0 - 0)))).toNat (aB.mk 0 0)) 0 0))) else some []):Option (List aB)).bind λa=>some a))
def dN (slices:List (List aB)):Option (List aB) :=
 ((iter (σ:=Int×Int) (ρ:=Int) (λa=>(bif (decide (a.1 < (slices.length:Int))) then ((idx slices a.1).bind λc=>(bif (decide ((IntKind.i64.wrap (a.2+(c.length:Int))) < 0)) then none else some (.inl ((IntKind.i64.wrap (a.1+1)),(IntKind.i64.wrap (a.2+(c.length:Int))))))) else some (.inr a.2))) (0,0)).bind λe=>((fj e).bind λf=>((iter (σ:=Int×(List aB)) (ρ:=(List aB)) (λb=>(bif (decide (b.1 < (slices.length:Int))) then ((idx slices b.1).bind λd=>((chk (cW b.2.length d.length 16)).bind λ_=>some (.inl ((IntKind.i64.wrap (b.1+1)),(b.2++d))))) else some (.inr b.2))) (0,f)).bind λg=>some g)))
def fN (s_:cF) (l:List aB):Option cF :=
 ((iter (σ:=cF×Int) (ρ:=cF) (λb=>(bif (decide (b.2 < (l.length:Int))) then ((((idx l b.2).bind λe=>((eS e).bind λd=>((dI d).bind λf=>(bif f then some b.1 else ((iter (σ:=aB×Int×(List aB)) (ρ:=((List aB)×aB) ⊕ cF) (λa=>(bif (decide (a.2.1 < (b.1.l.length:Int))) then ((((idx b.1.l a.2.1).bind λc=>(bif (decide (c.to < a.1.from_)) then ((chk (cW a.2.2.length [c].length 16)).bind λ_=>some (.inl ((a.2.2++[c]),a.1))) else (bif (decide (c.from_ > a.1.to)) then ((chk (eK a.2.1 (b.1.l.length:Int) b.1.l.length)).bind λ_=>((dN ([a.2.2,[a.1],(cut b.1.l a.2.1 (b.1.l.length:Int))])).bind λg=>(nC (fp (some (cF.mk g)))))) else some (.inl (a.2.2,(aB.mk (cB a.1.from_ c.from_) (imax a.1.to c.to))))))):Option (((List aB)×aB) ⊕ ((aB×Int×(List aB)) ⊕ (((List aB)×aB) ⊕ cF)))).bind λ | .inl e14292=>some (.inl (e14292.2,(IntKind.i64.wrap (a.2.1+1)),e14292.1)) | .inr w=>some w) else some (.inr (.inl (a.2.2,a.1))))) (d,0,[])).bind λ | .inl e14097=>((chk (cW e14097.1.length [e14097.2].length 16)).bind λ_=>some (cF.mk (e14097.1++[e14097.2]))) | .inr w=>some w))))):Option cF).bind λh=>some (.inl (h,(IntKind.i64.wrap (b.2+1))))) else some (.inr b.1))) (s_,0)).bind λi=>some i)
def gF (s_:List aB):Option (List aB) :=
 ((chk (cW ([]:List aB).length s_.length 16)).bind λ_=>some (([]:List aB)++s_))
def jm (s_:cF):Option (List aB) :=
 ((gF s_.l).bind λr1=>some r1)
def iU (s_:cF):Option Int :=
 ((iter (σ:=Int×Int) (ρ:=Int) (λa=>(bif (decide (a.1 < (s_.l.length:Int))) then ((idx s_.l a.1).bind λb=>some (.inl ((IntKind.i64.wrap (a.1+1)),(IntKind.i64.wrap (a.2+(IntKind.i64.wrap (b.to - b.from_))))))) else some (.inr a.2))) (0,0)).bind λc=>some c)
structure CacheEntry where
 l:List aM
 at_:Int
 deriving DecidableEq,Inhabited
structure aS where
 most:Int
 now:Int
 l:Mp CacheEntry
 deriving DecidableEq,Inhabited
def kr (most:Int):Option aS :=
 some (aS.mk (imax 1 (cB most 65536)) 0 (some []:Mp CacheEntry))
def fM (c:aS):Option aS :=
 some (aS.mk c.most c.now (Ej c.l))
def eC (c:aS) (i:Int) (l:List aM):Option aS :=
 ((chk c.l.isSome).bind λ_=>some (aS.mk c.most (IntKind.i64.wrap (c.now+1)) (AR c.l i (CacheEntry.mk l (IntKind.i64.wrap (c.now+1))))))
def iu (m_:Mp CacheEntry):Option Unit :=
 some ()
def dW (seq_0:Mp CacheEntry):Option Unit :=
 ((chk seq_0.isSome).bind λ_=>Option.bind (chk (cW (yH seq_0) 1 8)) λ_=>some ())
def eT (a:Int) (b:Int) (x2:aS):Option Int :=
 ((((gK ((mgd x2.l a (CacheEntry.mk ([]:List aM) 0)).at_) ((mgd x2.l b (CacheEntry.mk ([]:List aM) 0)).at_)).bind λc=>some c):Option Int).bind λd=>some d)
def dF (x_:List Int) (cmp_0:aS):Option Int :=
 (bif (decide ((x_.length:Int) < 1)) then none else ((idx x_ 0).bind λx3=>((iter (σ:=Int×Int) (ρ:=Int) (λa=>(bif (decide (a.2 < (x_.length:Int))) then ((((idx x_ a.2).bind λb=>((eT b a.1 cmp_0).bind λc=>(bif (decide (c < 0)) then ((idx x_ a.2).bind λd=>some d) else some a.1))):Option Int).bind λe=>some (.inl (e,(IntKind.i64.wrap (a.2+1))))) else some (.inr a.1))) (x3,1)).bind λf=>some f)))
def fY (c:aS) (i:Int) (l:List aM):Option (Int×Bool×aS) :=
 (((bif (decide (i < 0)) then some true else some (decide (i > 1152921504606846976))):Option Bool).bind λe5=>(bif e5 then some (0,false,c) else ((cS l).bind λd=>((eC c i d).bind λa=>(bif (decide (((yH a.l:Nat):Int)<=a.most)) then some (0,false,a) else ((iu a.l).bind λe=>((dW a.l).bind λf=>(vL (mks a.l) λv64=>((dF v64 a).bind λb=>some (b,true,(aS.mk a.most a.now (AS a.l b))))))))))))
def dM (c:aS):Option (List aB) :=
 ((chk c.l.isSome).bind λ_=>((vL (c.l.getD []) (λR=>mw (λs=>some (.inr s)) (λe s=>((fN s [(aB.mk e.1 (IntKind.i64.wrap (e.1+1)))]).bind λs2=>some (.inl s2))) R (cF.mk []))).bind λs1=>jm s1))
def eL (c:aS) (i:Int):Option ((List aM)×Bool) :=
 ((cS ((mgd c.l i (CacheEntry.mk ([]:List aM) 0)).l)).bind λr5=>some (r5,(gJ c.l i)))
def eX (c:aS) (i:Int):Option ((List aM)×Bool×aS) :=
 (((bif (gJ c.l i) then ((eC c i ((mgd c.l i (CacheEntry.mk ([]:List aM) 0)).l)).bind λd=>some d) else some c):Option aS).bind λa=>((eL a i).bind λb=>some (b.1,b.2,a)))
structure aV where
 aT:Int
 kind:Int
 aZ:List Int
 data:ByteArray
 deriving DecidableEq,Inhabited
def gZ (n_:Int) (lo:Int) (hi:Int):Option Bool :=
 (((bif (decide (n_>=lo)) then some (decide (n_<=hi)) else some false):Option Bool).bind λe4=>some e4)
def gM (g:aV):Option Bool :=
 ((((gZ g.aT 1 4294967296).bind λb=>(bif (!b) then some true else ((gZ g.kind 1 4).bind λc=>(bif (!c) then some true else some (decide ((g.aZ.length:Int) > 64)))))):Option Bool).bind λd=>(bif d then some false else ((iter (σ:=Int) (ρ:=Unit ⊕ Bool) (λa=>(bif (decide (a < (g.aZ.length:Int))) then ((idx g.aZ a).bind λe=>((gZ e 0 4611686018427387904).bind λf=>(bif (!f) then (fp (some false)) else some (.inl (IntKind.i64.wrap (a+1)))))) else some (.inr (.inl ())))) 0).bind λ | .inl e108=>some true | .inr w=>some w)))
def fZ (g:aV):Option ByteArray :=
 ((dH (cK.mk ([]:List Int)) [g.aT,g.kind,(g.aZ.length:Int)]).bind λa=>((dH a g.aZ).bind λb=>((il b [g.data]).bind λc=>((fq c).bind λd=>((lb d).bind λe=>some e)))))
def gb (g:aV):Option Int :=
 ((gM g).bind λa=>(bif (!a) then some 6 else ((fZ g).bind λb=>(bif (decide ((b.size:Int) > 8192)) then some 3 else some 0))))
def dY (g:aV):Option ByteArray :=
 ((gb g).bind λr2=>(bif (r2 != 0) then some (ByteArray.mk #[]) else ((fZ g).bind λr7=>some r7)))
def lC (in_:aJ):Option (aV×aJ) :=
 ((bM in_).bind λr2=>((bM r2.2).bind λr5=>((bM r5.2).bind λr9=>(((bif (decide (r9.1 > 64)) then ((bQ r9.2 1).bind λe=>some e) else some r9.2):Option aJ).bind λf=>((iter (σ:=aV×aJ×Int) (ρ:=aJ×aV) (λa=>(bif (decide (a.2.2 < (cB r9.1 64))) then ((bM a.2.1).bind λc=>((chk (cW a.1.aZ.length [c.1].length 8)).bind λ_=>some (.inl ((aV.mk a.1.aT a.1.kind (a.1.aZ++[c.1]) a.1.data),c.2,(IntKind.i64.wrap (a.2.2+1)))))) else some (.inr (a.2.1,a.1)))) ((aV.mk r2.1 r5.1 ([]:List Int) (ByteArray.mk #[])),f,0)).bind λb=>((gX b.1).bind λd=>some ((aV.mk b.2.aT b.2.kind b.2.aZ d.1),d.2)))))))
def jI (s_:ByteArray):Option (aV×Int) :=
 (bif (decide ((s_.size:Int) > 8192)) then some ((aV.mk 0 0 ([]:List Int) (ByteArray.mk #[])),3) else ((mC s_).bind λr5=>(bif (!r5.2) then some ((aV.mk 0 0 ([]:List Int) (ByteArray.mk #[])),4) else ((kD r5.1).bind λd=>((lC d).bind λa=>((iK a.2).bind λb=>(((bif (b == 0) then ((gb a.1).bind λe=>some e) else some b):Option Int).bind λc=>(bif (c != 0) then some ((aV.mk 0 0 ([]:List Int) (ByteArray.mk #[])),c) else some (a.1,0)))))))))
structure bG where
 most:Int
 every:Int
 due:Int
 want:cF
 deriving DecidableEq,Inhabited
def fI (n_:Int) (lo:Int) (hi:Int):Option Int :=
 some (imax lo (cB n_ hi))
def ku (most:Int) (every:Int):Option bG :=
 ((fI most 1 65536).bind λr1=>((fI every 1 1048576).bind λr4=>some (bG.mk r1 r4 0 (cF.mk ([]:List aB)))))
def eE (f:bG) (now:Int) (length:Int):Option ((List aB)×bG) :=
 ((ir f.want (aB.mk 0 length)).bind λr1=>(((bif ((r1.length:Int) == 0) then some true else some (decide (now < f.due))):Option Bool).bind λa=>(bif a then some (([]:List aB),f) else ((chk (eK 0 (cB (r1.length:Int) 8) r1.length)).bind λ_=>some ((cut r1 0 (cB (r1.length:Int) 8)),(bG.mk f.most f.every (IntKind.i64.wrap (now+f.every)) f.want))))))
def dB (f:bG):Option bG :=
 some (bG.mk f.most f.every 0 (cF.mk ([]:List aB)))
def iL (g:aV):Option (Int×(List (List aM))×Int) :=
 (bif (g.kind != 4) then some (0,([]:List (List aM)),5) else (bif ((g.aZ.length:Int) != 2) then some (0,([]:List (List aM)),1) else ((kD g.data).bind λr8=>((iter (σ:=aJ×(List (List aM))) (ρ:=(List (List aM))×aJ) (λa=>((((jV a.1).bind λf=>(bif (decide (f > 0)) then ((idx g.aZ 1).bind λh=>some (decide ((a.2.length:Int) < h))) else some false)):Option Bool).bind λi=>(bif i then ((iF a.1).bind λb=>((chk (cW a.2.length [b.1].length 24)).bind λ_=>some (.inl (b.2,(a.2++[b.1]))))) else some (.inr (a.2,a.1))))) (r8,[])).bind λc=>((iK c.2).bind λd=>(((bif (d == 0) then ((idx g.aZ 1).bind λj=>some ((c.1.length:Int) != j)) else some false):Option Bool).bind λk=>(((bif k then some 1 else some d):Option Int).bind λe=>(bif (e != 0) then some (0,([]:List (List aM)),e) else ((idx g.aZ 0).bind λl=>some (l,c.1,0))))))))))
def lD (is:Bool):Option Int :=
 (bif is then some 1 else some 0)
def eY (f:bG) (i:Int):Option (Bool×bG) :=
 ((gk f.want i).bind λr1=>((lD (decide (i < 1152921504606846976))).bind λa=>((gH f.want [(aB.mk i (IntKind.i64.wrap (i+a)))]).bind λb=>some (r1,(bG.mk f.most f.every f.due b)))))
def eM (f:bG) (x_:aB) (aK:List aB):Option (Int×bG) :=
 ((fI x_.from_ 0 1152921504606846976).bind λb=>((fI x_.to 0 1152921504606846976).bind λd=>((dB f).bind λa=>((fN a.want [(aB.mk b (cB d (IntKind.i64.wrap (b+f.most))))]).bind λe=>((gH e aK).bind λc=>((iU c).bind λg=>some (g,(bG.mk a.most a.every a.due c))))))))
def gN (f:bG):Option (List aB) :=
 ((jm f.want).bind λr1=>some r1)
structure AW where
 kind:Int
 rune:Int
 byte:Int
 B6:Bool
 aZ:List Int
 text:ByteArray
 deriving DecidableEq,Inhabited
structure xo where
 B6:Bool
 Hx:Bool
 any:Bool
 some:Bool
 n:Int
 aZ:List Int
 deriving DecidableEq,Inhabited
structure AX where
 state:Int
 order:xo
 text:ByteArray
 Hy:qh
 out:List AW
 deriving DecidableEq,Inhabited
structure aP where
 k:Int
 w:Int
 h:Int
 x:Int
 y:Int
 title:ByteArray
 rows:List aY
 len:Int
 chain:Int
 begun:List aM
 deriving DecidableEq,Inhabited
def fJ (s_:aP):Option Bool :=
 (((bif (s_.k == 0) then (bif (s_.w == 0) then (bif (s_.h == 0) then (bif (s_.x == 0) then (bif (s_.y == 0) then (bif (s_.title.toList == (ByteArray.mk #[]).toList) then (bif ((s_.rows.length:Int) == 0) then (bif (s_.len == 0) then (bif (s_.chain == 0) then some ((s_.begun.length:Int) == 0) else some false) else some false) else some false) else some false) else some false) else some false) else some false) else some false) else some false):Option Bool).bind λa=>some a)
def dP (n_:Int) (lo:Int) (hi:Int):Option Bool :=
 (((bif (decide (n_>=lo)) then some (decide (n_<=hi)) else some false):Option Bool).bind λe4=>some e4)
def gO (s_:aP):Option Bool :=
 ((((dP s_.k 1 1152921504606846976).bind λa=>(bif a then ((dP s_.w 1 1000).bind λb=>(bif b then ((dP s_.h 1 1000).bind λc=>(bif c then ((dP s_.x 0 (IntKind.i64.wrap (s_.w - 1))).bind λd=>(bif d then ((dP s_.y 0 (IntKind.i64.wrap (s_.h - 1))).bind λe=>(bif e then (bif ((s_.rows.length:Int) == s_.h) then (bif (decide ((s_.title.size:Int)<=200)) then ((dP s_.len 0 1152921504606846976).bind λf=>(bif f then ((dP s_.chain 0 281474976710656).bind λg=>(bif g then some (decide ((s_.begun.length:Int)<=1024)) else some false)) else some false)) else some false) else some false) else some false)) else some false)) else some false)) else some false)) else some false)):Option Bool).bind λi=>some i)
def jJ (r_:Int) (bU:Int):Option Bool :=
 ((((dP (IntKind.i64.wrap r_) 0 1114111).bind λa=>(bif a then ((dP bU 0 647).bind λb=>some b) else some false)):Option Bool).bind λc=>some c)
def gn (g:aM):Option Bool :=
 ((jJ g.rune g.bU).bind λr2=>some (!r2))
def cU (s_:List aM):Option Int :=
 ((iter (σ:=Int) (ρ:=Unit ⊕ Int) (λa=>(bif (decide (a < (s_.length:Int))) then ((idx s_ a).bind λb=>((gn b).bind λc=>(bif c then (fp (some a)) else some (.inl (IntKind.i64.wrap (a+1)))))) else some (.inr (.inl ())))) 0).bind λ | .inl e77=>some (-1) | .inr w=>some w)
def cH (s_:List aM):Option Bool :=
 ((cU s_).bind λr1=>some (decide (r1>=0)))
def lE (c:aO):Option Bool :=
 ((((jJ c.rune c.bU).bind λa=>(bif a then ((dP c.part 0 3).bind λb=>some b) else some false)):Option Bool).bind λd=>some d)
def gp (c:aO):Option Bool :=
 ((lE c).bind λr2=>some (!r2))
def cY (s_:List aO):Option Int :=
 ((iter (σ:=Int) (ρ:=Unit ⊕ Int) (λa=>(bif (decide (a < (s_.length:Int))) then ((idx s_ a).bind λb=>((gp b).bind λc=>(bif c then (fp (some a)) else some (.inl (IntKind.i64.wrap (a+1)))))) else some (.inr (.inl ())))) 0).bind λ | .inl e77=>some (-1) | .inr w=>some w)
def cC (s_:List aO):Option Bool :=
 ((cY s_).bind λr1=>some (decide (r1>=0)))
def fK (s_:aP):Option Int :=
 ((fJ s_).bind λr2=>(bif r2 then some 0 else ((((gO s_).bind λc=>(bif (!c) then some true else ((cH s_.begun).bind λd=>some d))):Option Bool).bind λe=>(bif e then some 1 else ((iter (σ:=Int) (ρ:=Unit ⊕ Int) (λa=>(bif (decide (a < (s_.rows.length:Int))) then ((idx s_.rows a).bind λb=>(((bif ((b.cells.length:Int) != s_.w) then some true else ((cC b.cells).bind λf=>some f)):Option Bool).bind λg=>(bif g then (fp (some 1)) else some (.inl (IntKind.i64.wrap (a+1)))))) else some (.inr (.inl ())))) 0).bind λ | .inl e212=>some 0 | .inr w=>some w)))))
def n5 (is:Bool):Option Int :=
 (bif is then some 1 else some 0)
def mT (l:List aO):Option (List aO) :=
 some l
def lu {σ:Type} (Y:σ->(Int×aO)->Option (σ×Bool)) (y0:σ) (x1:List aO):Option (σ×(List aO)) :=
 ((iter (σ:=(List aO)×σ) (ρ:=((List aO)×σ) ⊕ (σ×(List aO))) (λa=>(bif (decide ((a.1.length:Int) > 0)) then ((iter (σ:=Int) (ρ:=Int) (λb=>(((bif (decide (b < (a.1.length:Int))) then ((idx a.1 b).bind λc=>((idx a.1 0).bind λd=>some ((c.rune == d.rune) && ((c.bU == d.bU) && ((c.part == d.part) && true))))) else some false):Option Bool).bind λf=>(bif f then some (.inl (IntKind.i64.wrap (b+1))) else some (.inr b)))) 1).bind λe=>((idx a.1 0).bind λg=>((Y a.2 (e,g)).bind λz1399=>(bif (!z1399.2) then (fp (some (z1399.1,a.1))) else ((chk (eK e (a.1.length:Int) a.1.length)).bind λ_=>some (.inl ((cut a.1 e (a.1.length:Int)),z1399.1))))))) else some (.inr (.inl (a.1,a.2))))) (x1,y0)).bind λ | .inl e1058=>some (e1058.2,e1058.1) | .inr w=>some w)
def jv (r_:aY):Option ByteArray :=
 ((n5 r_.wrapped).bind λr3=>((dH (cK.mk ([]:List Int)) [r3]).bind λb=>((mT r_.cells).bind λc=>((lu (λd a=>((dH d [a.1,(IntKind.i64.wrap a.2.rune),a.2.bU,a.2.part]).bind λe=>some (e,true))) (b:cK) c).bind λf=>((fq f.1).bind λg=>some g)))))
def gy (s_:aP):Option ByteArray :=
 ((((fJ s_).bind λb=>(bif b then some true else ((fK s_).bind λc=>some (c != 0)))):Option Bool).bind λd=>(bif d then some (ByteArray.mk #[]) else ((dH (cK.mk ([]:List Int)) [s_.k,s_.w,s_.h,s_.x,s_.y]).bind λe=>((il e [s_.title]).bind λf=>((dH f [s_.len,s_.chain]).bind λg=>((lB s_.begun).bind λi=>((gW g [i]).bind λj=>((iter (σ:=cK×Int) (ρ:=cK) (λa=>(bif (decide (a.2 < (s_.rows.length:Int))) then ((idx s_.rows a.2).bind λl=>((jv l).bind λm=>((gW a.1 [m]).bind λn=>some (.inl (n,(IntKind.i64.wrap (a.2+1))))))) else some (.inr a.1))) (j,0)).bind λo=>((fq o).bind λp=>some p)))))))))
def sj (in_:aJ):Option (Int×aJ) :=
 ((bM in_).bind λr1=>(bif (decide (r1.1 > 1000)) then ((bQ r1.2 1).bind λr9=>some (0,r9)) else some (r1.1,r1.2)))
def ld (in_:aJ) (left:Int):Option (Int×aO×Bool×aJ) :=
 ((bM in_).bind λr2=>(((bif (r2.1 == 0) then some true else some (decide (r2.1 > left))):Option Bool).bind λe8=>(((bif e8 then ((bQ r2.2 1).bind λf=>some f) else some r2.2):Option aJ).bind λc=>((iter (σ:=kf×aJ×Int) (ρ:=kf×aJ) (λa=>(bif (decide (a.2.2 < 3)) then ((((idx [1114111,647,3] a.2.2).bind λg=>((bM a.2.1).bind λb=>((chk (BW a.2.2 3)).bind λ_=>((chk (BW a.2.2 3)).bind λ_=>((idx [(sel a.2.2 0 b.1 a.1.e0),(sel a.2.2 1 b.1 a.1.e1),(sel a.2.2 2 b.1 a.1.e2)] a.2.2).bind λh=>(bif (decide (h > g)) then ((bQ b.2 1).bind λi=>some ((kf.mk (sel a.2.2 0 b.1 a.1.e0) (sel a.2.2 1 b.1 a.1.e1) (sel a.2.2 2 b.1 a.1.e2)),i)) else some ((kf.mk (sel a.2.2 0 b.1 a.1.e0) (sel a.2.2 1 b.1 a.1.e1) (sel a.2.2 2 b.1 a.1.e2)),b.2))))))):Option (kf×aJ)).bind λe=>some (.inl (e.1,e.2,(IntKind.i64.wrap (a.2.2+1))))) else some (.inr (a.1,a.2.1)))) ((kf.mk 0 0 0),c,0)).bind λd=>((cX d.2).bind λj=>(bif (j != 0) then some (0,(aO.mk 0 0 0),false,d.2) else some (r2.1,(aO.mk (IntKind.i32.wrap d.1.e0) d.1.e1 d.1.e2),true,d.2)))))))
def iv (in_:aJ) (w:Int):Option (aY×aJ) :=
 ((bM in_).bind λr2=>(((bif (decide (r2.1 > 1)) then ((bQ r2.2 1).bind λf=>some f) else some r2.2):Option aJ).bind λg=>((iter (σ:=aJ×(List aO)) (ρ:=(List aO)×aJ) (λa=>(((bif (decide ((a.2.length:Int) < w)) then ((cX a.1).bind λh=>some (h == 0)) else some false):Option Bool).bind λi=>(bif i then ((ld a.1 (IntKind.i64.wrap (w - (a.2.length:Int)))).bind λb=>(bif (!b.2.2.1) then some (.inl (b.2.2.2,a.2)) else (((bif (decide ((a.2.length:Int) > 0)) then ((idx a.2 (IntKind.i64.wrap ((a.2.length:Int) - 1))).bind λd=>some ((d.rune == b.2.1.rune) && ((d.bU == b.2.1.bU) && ((d.part == b.2.1.part) && true)))) else some false):Option Bool).bind λj=>(bif j then ((bQ b.2.2.2 1).bind λk=>some (.inl (k,a.2))) else ((dX [b.2.1] b.1).bind λe=>((chk (cW a.2.length e.length 24)).bind λ_=>some (.inl (b.2.2.2,(a.2++e))))))))) else some (.inr (a.2,a.1))))) (g,[])).bind λc=>((cX c.2).bind λl=>(bif (l != 0) then some ((aY.mk ([]:List aO) false),c.2) else some ((aY.mk c.1 (r2.1 == 1)),c.2))))))
def gf (s_:aP):Option aP :=
 ((iter (σ:=(List aY)×Int) (ρ:=(List aY)) (λa=>(bif (decide (a.2 < (s_.rows.length:Int))) then ((idx s_.rows a.2).bind λb=>((fw b.cells).bind λc=>((chk (cW a.1.length [(aY.mk c b.wrapped)].length 32)).bind λ_=>some (.inl ((a.1++[(aY.mk c b.wrapped)]),(IntKind.i64.wrap (a.2+1))))))) else some (.inr a.1))) ([],0)).bind λd=>((cS s_.begun).bind λe=>some (aP.mk s_.k s_.w s_.h s_.x s_.y s_.title d s_.len s_.chain e)))
def iV (s_:aP):Option Int :=
 ((gy s_).bind λr2=>((mz [r2]).bind λr7=>some (IntKind.i64.wrap r7)))
structure bT where
 sum:Int
 to:aP
 rows:Mp aY
 deriving DecidableEq,Inhabited
def jw (s_:aP):Option Bool :=
 ((gy s_).bind λr2=>some (!(r2.toList == (ByteArray.mk #[]).toList)))
def gu (s_:aP) (y:Int):Option (aY×Bool) :=
 (((bif (decide (y < 0)) then some true else some (decide (y>=(s_.rows.length:Int)))):Option Bool).bind λe6=>(bif e6 then some ((aY.mk ([]:List aO) false),false) else ((idx s_.rows y).bind λa=>some (a,true))))
def iM (in_:aJ):Option (Int×aJ) :=
 ((bM in_).bind λr1=>(bif (decide (r1.1 > 1000)) then ((bQ r1.2 1).bind λr9=>some (0,r9)) else some (r1.1,r1.2)))
def kF (s_:ByteArray):Option (bT×Int) :=
 ((kD s_).bind λr2=>((bM r2).bind λr6=>((bM r6.2).bind λd=>((iM d.2).bind λe=>((iM e.2).bind λf=>((bM f.2).bind λg=>((bM g.2).bind λi=>((gX i.2).bind λj=>((bM j.2).bind λl=>((bM l.2).bind λm=>((iF m.2).bind λn=>((bM n.2).bind λo=>((iter (σ:=bT×aJ×Int×Int) (ρ:=aJ×bT) (λa=>(((bif (decide (a.2.2.2 > 0)) then ((cX a.2.1).bind λq=>some (q == 0)) else some false):Option Bool).bind λr=>(bif r then ((bM a.2.1).bind λc=>(((bif (decide (c.1<=a.2.2.1)) then some true else some (decide (c.1>=a.1.to.h))):Option Bool).bind λs=>(((bif s then ((bQ c.2 1).bind λt=>some t) else some c.2):Option aJ).bind λu=>((iv u a.1.to.w).bind λp=>((chk a.1.rows.isSome).bind λ_=>some (.inl ((bT.mk a.1.sum (aP.mk a.1.to.k a.1.to.w a.1.to.h a.1.to.x a.1.to.y a.1.to.title ([]:List aY) a.1.to.len a.1.to.chain a.1.to.begun) (AR a.1.rows c.1 p.1)),p.2,c.1,(IntKind.i64.wrap (a.2.2.2 - 1))))))))) else some (.inr (a.2.1,(bT.mk a.1.sum (aP.mk a.1.to.k a.1.to.w a.1.to.h a.1.to.x a.1.to.y a.1.to.title ([]:List aY) a.1.to.len a.1.to.chain a.1.to.begun) a.1.rows)))))) ((bT.mk r6.1 (aP.mk d.1 e.1 f.1 g.1 i.1 j.1 ([]:List aY) l.1 m.1 n.1) (some []:Mp aY)),o.2,(-1),o.1)).bind λb=>((iK b.1).bind λv=>some ((bT.mk b.2.sum (aP.mk b.2.to.k b.2.to.w b.2.to.h b.2.to.x b.2.to.y b.2.to.title ([]:List aY) b.2.to.len b.2.to.chain b.2.to.begun) b.2.rows),v)))))))))))))))
def eU (p:bT) (a:aP):Option (Bool×bT) :=
 ((iter (σ:=bT×Int) (ρ:=bT ⊕ (Bool×bT)) (λb=>(bif (decide (b.2 < p.to.h)) then ((gu a b.2).bind λc=>(((((bif (gJ b.1.rows b.2) then (bif c.2 then ((iq c.1 (mgd b.1.rows b.2 (aY.mk ([]:List aO) false))).bind λe=>some e) else some false) else some false):Option Bool).bind λd=>(((bif d then some d else (bif (!(gJ b.1.rows b.2)) then some (!c.2) else some false)):Option Bool).bind λf=>(bif f then (nC (fp (some (false,(bT.mk b.1.sum (aP.mk b.1.to.k b.1.to.w b.1.to.h b.1.to.x b.1.to.y b.1.to.title b.1.to.rows b.1.to.len b.1.to.chain b.1.to.begun) b.1.rows))))) else (bif (!(gJ b.1.rows b.2)) then some (.inl c.1) else some (.inl (mgd b.1.rows b.2 (aY.mk ([]:List aO) false))))))):Option (aY ⊕ ((bT×Int) ⊕ (bT ⊕ (Bool×bT))))).bind λ | .inl e1033=>((chk (cW b.1.to.rows.length [e1033].length 32)).bind λ_=>some (.inl ((bT.mk b.1.sum (aP.mk b.1.to.k b.1.to.w b.1.to.h b.1.to.x b.1.to.y b.1.to.title (b.1.to.rows++[e1033]) b.1.to.len b.1.to.chain b.1.to.begun) b.1.rows),(IntKind.i64.wrap (b.2+1))))) | .inr w=>some w)) else some (.inr (.inl (bT.mk b.1.sum (aP.mk b.1.to.k b.1.to.w b.1.to.h b.1.to.x b.1.to.y b.1.to.title b.1.to.rows b.1.to.len b.1.to.chain b.1.to.begun) b.1.rows))))) (p,0)).bind λ | .inl e816=>((jw (aP.mk e816.to.k e816.to.w e816.to.h e816.to.x e816.to.y e816.to.title e816.to.rows e816.to.len e816.to.chain e816.to.begun)).bind λg=>some (g,(bT.mk e816.sum (aP.mk e816.to.k e816.to.w e816.to.h e816.to.x e816.to.y e816.to.title e816.to.rows e816.to.len e816.to.chain e816.to.begun) e816.rows))) | .inr w=>some w)
def jW (a:aP) (s_:ByteArray):Option (aP×Int) :=
 ((fK a).bind λr3=>(bif (r3 != 0) then some ((aP.mk 0 0 0 0 0 (ByteArray.mk #[]) ([]:List aY) 0 0 ([]:List aM)),1) else ((kF s_).bind λb=>(bif (b.2 != 0) then some ((aP.mk 0 0 0 0 0 (ByteArray.mk #[]) ([]:List aY) 0 0 ([]:List aM)),b.2) else ((iV a).bind λd=>(bif (b.1.sum != d) then some ((aP.mk 0 0 0 0 0 (ByteArray.mk #[]) ([]:List aY) 0 0 ([]:List aM)),7) else ((eU b.1 a).bind λc=>(bif (!c.1) then some ((aP.mk 0 0 0 0 0 (ByteArray.mk #[]) ([]:List aY) 0 0 ([]:List aM)),1) else ((gf c.2.to).bind λe=>some (e,0))))))))))
structure cD where
 key:Int
 count:Int
 parts:Mp ByteArray
 bytes:Int
 deriving DecidableEq,Inhabited
def iw (s_:cD) (key:Int) (index:Int) (count:Int) (data:ByteArray):Option (Int×cD) :=
 (((((bif (decide (count < 1)) then some true else (bif (decide (count > 4096)) then some true else (bif (decide (index < 0)) then some true else (bif (decide (index>=count)) then some true else some (decide (key < 1)))))):Option Bool).bind λa=>(bif a then (nC (some (6,s_))) else (bif (decide (key < s_.key)) then (nC (some (8,s_))) else (bif (decide (key > s_.key)) then some (.inl (cD.mk key count (some []:Mp ByteArray) 0)) else (bif (count != s_.count) then (nC (some (1,s_))) else some (.inl s_)))))):Option (cD ⊕ (Int×cD))).bind λ | .inl e48=>(((bif (!(gJ e48.parts index)) then ((chk e48.parts.isSome).bind λ_=>some (cD.mk e48.key e48.count (AR e48.parts index data) (IntKind.i64.wrap (e48.bytes+(data.size:Int))))) else some e48):Option cD).bind λb=>some (0,b)) | .inr w=>some w)
def gg {σ:Type} (s_:cD) (Y:σ->(Int×Bool)->Option (σ×Bool)) (y0:σ):Option σ :=
 ((iter (σ:=Int×σ) (ρ:=σ ⊕ σ) (λa=>(bif (decide (a.1 < s_.count)) then ((Y a.2 (a.1,(gJ s_.parts a.1))).bind λz64=>(bif (!z64.2) then (fp (some z64.1)) else some (.inl ((IntKind.i64.wrap (a.1+1)),z64.1)))) else some (.inr (.inl a.2)))) (0,y0)).bind λ | .inl e49=>some e49 | .inr w=>some w)
def gA (s_:cD):Option Int :=
 some s_.count
def fQ (s_:cD) (there:Bool):Option (List Int) :=
 ((gg s_ (λs32 x3=>(bif (x3.2 == there) then ((chk (cW s32.length [x3.1].length 8)).bind λ_=>some ((s32++[x3.1]),true)) else some (s32,true))) ([]:(List Int))).bind λa=>some a)
def eF (s_:cD):Option (List Int) :=
 ((fQ s_ true).bind λr1=>some r1)
def lf (s_:cD):Option Int :=
 some s_.key
def fu (s_:cD):Option (ByteArray×Bool) :=
 (((bif (s_.key == 0) then some true else some (decide (((yH s_.parts:Nat):Int) < s_.count))):Option Bool).bind λe7=>(bif e7 then some ((ByteArray.mk #[]),false) else ((gg s_ (λa d=>((dR (cN.mk a.addr a.buf) (mgd s_.parts d.1 (ByteArray.mk #[]))).bind λb=>some ((cN.mk b.addr b.buf),true))) ((cN.mk false ([]:List Int)):cN)).bind λc=>((gY (cN.mk c.addr c.buf)).bind λe=>some (e,true)))))
def ic (s_:cD):Option cD :=
 some (cD.mk 0 0 none 0)
structure bD where
 slot:cD
 aK:aP
 deriving DecidableEq,Inhabited
def lF:Option bD :=
 some (bD.mk (cD.mk 0 0 none 0) (aP.mk 0 0 0 0 0 (ByteArray.mk #[]) ([]:List aY) 0 0 ([]:List aM)))
def ie (t_:bD) (g:aV):Option (Int×bD) :=
 (bif (g.kind != 1) then some (5,(bD.mk t_.slot t_.aK)) else (bif ((g.aZ.length:Int) != 5) then some (1,(bD.mk t_.slot t_.aK)) else ((idx g.aZ 1).bind λb=>(bif (decide (b<=t_.aK.k)) then some (8,(bD.mk t_.slot t_.aK)) else ((((idx g.aZ 2).bind λc=>(bif (c != 0) then ((idx g.aZ 2).bind λd=>some (d != t_.aK.k)) else some false)):Option Bool).bind λe=>(bif e then some (7,(bD.mk t_.slot t_.aK)) else ((idx g.aZ 0).bind λf=>((idx g.aZ 3).bind λh=>((idx g.aZ 4).bind λi=>((iw t_.slot f h i g.data).bind λa=>some (a.1,(bD.mk a.2 t_.aK))))))))))))
def dQ (t_:bD):Option aV :=
 ((gA t_.slot).bind λr2=>((chk (tC (IntKind.i64.wrap ((IntKind.i64.wrap ((IntKind.i64.wrap (r2+8)) - 1)).tdiv 8)) 1)).bind λ_=>((eF t_.slot).bind λr9=>((iter (σ:=Int×(List Int)) (ρ:=(List Int)) (λa=>(bif (decide (a.1 < (r9.length:Int))) then ((idx r9 a.1).bind λb=>((idx a.2 (IntKind.i64.wrap (b.tdiv 8))).bind λc=>((chk (shk (b.tmod 8))).bind λ_=>((idx a.2 (IntKind.i64.wrap (b.tdiv 8))).bind λf=>some (.inl ((IntKind.i64.wrap (a.1+1)),(a.2.set ((IntKind.i64.wrap (b.tdiv 8)).toNat) (Go.bits .or .u8 c (IntKind.u8.wrap (1*2 ^ (min (b.tmod 8).toNat 8))))))))))) else some (.inr a.2))) (0,(List.replicate (IntKind.i64.wrap ((IntKind.i64.wrap ((IntKind.i64.wrap (r2+8)) - 1)).tdiv 8)).toNat (0:Int)))).bind λd=>((lf t_.slot).bind λe=>some (aV.mk 1 2 [t_.aK.k,e] (dL d)))))))
def cQ (t_:bD):Option aP :=
 ((gf t_.aK).bind λr2=>some r2)
def ig (t_:bD):Option bD :=
 (Option.bind lF λr1=>some (bD.mk r1.slot r1.aK))
def gB (t_:bD) (g:aV):Option (Int×bD) :=
 ((ie t_ g).bind λr2=>(bif (r2.1 != 0) then some (r2.1,r2.2) else ((fu r2.2.slot).bind λc=>(bif (!c.2) then some (0,r2.2) else ((ic r2.2.slot).bind λb=>((idx g.aZ 2).bind λe=>(((bif (e != 0) then some r2.2.aK else some (aP.mk 0 0 0 0 0 (ByteArray.mk #[]) ([]:List aY) 0 0 ([]:List aM))):Option aP).bind λf=>((jW f c.1).bind λa=>(((bif (a.2 == 0) then ((idx g.aZ 1).bind λh=>some (a.1.k != h)) else some false):Option Bool).bind λi=>(((bif i then some 1 else some a.2):Option Int).bind λd=>(((bif (d == 0) then some (bD.mk b a.1) else some (bD.mk b r2.2.aK)):Option bD).bind λj=>some (d,(bD.mk b j.aK)))))))))))))
structure gP where
 cache:Int
 every:Int
 addr:Int
 deriving DecidableEq,Inhabited
structure aG where
 config:gP
 aT:Int
 due:Int
 aQ:bD
 lines:aS
 bO:bG
 deriving DecidableEq,Inhabited
def dJ (n_:Int) (lo:Int) (hi:Int):Option Int :=
 some (imax lo (cB n_ hi))
def iN (c:gP):Option aG :=
 ((dJ c.cache 1 65536).bind λa=>((dJ c.every 1 1048576).bind λb=>((dJ c.addr 0 4294967296).bind λe=>(Option.bind lF λd=>((kr a).bind λf=>((ku a b).bind λg=>some (aG.mk (gP.mk a b e) 0 0 (bD.mk d.slot d.aK) f g)))))))
def dS (c:aG) (now:Int):Option ((List ByteArray)×aG) :=
 (((bif (decide (now>=c.due)) then ((dQ (bD.mk c.aQ.slot c.aQ.aK)).bind λi=>((chk (cW ([]:List aV).length [i].length 56)).bind λ_=>some ((([]:List aV)++[i]),(aG.mk c.config c.aT (IntKind.i64.wrap (now+c.config.every)) (bD.mk c.aQ.slot c.aQ.aK) c.lines c.bO)))) else some ([],(aG.mk c.config c.aT c.due (bD.mk c.aQ.slot c.aQ.aK) c.lines c.bO))):Option ((List aV)×aG)).bind λa=>((cQ (bD.mk c.aQ.slot c.aQ.aK)).bind λl=>((eE c.bO now l.len).bind λf=>((iter (σ:=Int×(List Int)) (ρ:=(List Int)) (λb=>(bif (decide (b.1 < (f.1.length:Int))) then ((idx f.1 b.1).bind λe=>((chk (cW b.2.length [e.from_,e.to].length 8)).bind λ_=>some (.inl ((IntKind.i64.wrap (b.1+1)),(b.2++[e.from_,e.to]))))) else some (.inr b.2))) (0,[])).bind λg=>(((bif (decide ((g.length:Int) > 0)) then ((chk (cW a.1.length ([(aV.mk 0 3 g (ByteArray.mk #[]))]).length 56)).bind λ_=>some (a.1++[(aV.mk 0 3 g (ByteArray.mk #[]))])) else some a.1):Option (List aV)).bind λj=>((iter (σ:=Int×(List ByteArray)) (ρ:=(List ByteArray)) (λd=>(bif (decide (d.1 < (j.length:Int))) then ((idx j d.1).bind λh=>((dY (aV.mk (imax 1 a.2.aT) h.kind h.aZ h.data)).bind λk=>((chk (cW d.2.length [k].length 16)).bind λ_=>some (.inl ((IntKind.i64.wrap (d.1+1)),(d.2++[k])))))) else some (.inr d.2))) (0,[])).bind λm=>some (m,(aG.mk (gP.mk a.2.config.cache a.2.config.every a.2.config.addr) a.2.aT a.2.due (bD.mk c.aQ.slot c.aQ.aK) c.lines f.2))))))))
def eN (c:aG) (aT:Int):Option aG :=
 ((ig c.aQ).bind λr1=>((fM c.lines).bind λa=>((dB c.bO).bind λb=>some (aG.mk c.config aT c.due r1 a b))))
def fz (c:aG) (g:aV):Option (Int×aG) :=
 ((iL g).bind λr2=>((iter (σ:=aS×bG×Int) (ρ:=aS×bG) (λa=>(bif (decide (a.2.2 < (r2.2.1.length:Int))) then ((((idx r2.2.1 a.2.2).bind λf=>((eY a.2.1 (IntKind.i64.wrap (r2.1+a.2.2))).bind λb=>(bif b.1 then ((fY a.1 (IntKind.i64.wrap (r2.1+a.2.2)) f).bind λh=>some (h.2.2,b.2)) else some (a.1,b.2)))):Option (aS×bG)).bind λd=>some (.inl (d.1,d.2,(IntKind.i64.wrap (a.2.2+1))))) else some (.inr (a.1,a.2.1)))) (c.lines,c.bO,0)).bind λe=>some (r2.2.2,(aG.mk c.config c.aT c.due c.aQ e.1 e.2))))
def dT (c:aG) (now:Int) (data:ByteArray):Option (Int×aG) :=
 ((jI data).bind λr1=>(((bif (r1.2 != 0) then (nC (some (r1.2,c))) else (((bif (r1.1.kind != 1) then some (r1.1.kind != 4) else some false):Option Bool).bind λd=>(bif d then (nC (some (5,c))) else (bif (decide (r1.1.aT < c.aT)) then (nC (some (8,c))) else (bif (decide (r1.1.aT > c.aT)) then ((eN c r1.1.aT).bind λe=>some (.inl e)) else some (.inl c)))))):Option (aG ⊕ (Int×aG))).bind λ | .inl e79=>(bif (r1.1.kind == 4) then ((fz e79 r1.1).bind λa=>some (a.1,a.2)) else ((gB e79.aQ r1.1).bind λb=>some (b.1,(aG.mk e79.config e79.aT e79.due b.2 e79.lines e79.bO)))) | .inr w=>some w))
def fg (c:aG):Option Int :=
 some c.aT
def fA (c:aG):Option Int :=
 some c.config.addr
def dU (c:aG) (from_:Int) (to:Int):Option (Int×aG) :=
 ((dJ from_ 0 1152921504606846976).bind λr1=>((dJ to 0 1152921504606846976).bind λr4=>((dM c.lines).bind λr7=>((fN (cF.mk ([]:List aB)) r7).bind λg=>((ir g (aB.mk r1 (cB r4 (IntKind.i64.wrap (r1+c.config.cache))))).bind λd=>((iter (σ:=aS×Int) (ρ:=aS) (λa=>(bif (decide (a.2 < (d.length:Int))) then ((idx d a.2).bind λe=>((iter (σ:=aS×Int) (ρ:=aS) (λb=>(bif (decide (b.2 < e.to)) then ((eX b.1 b.2).bind λh=>some (.inl (h.2.2,(IntKind.i64.wrap (b.2+1))))) else some (.inr b.1))) (a.1,e.from_)).bind λi=>some (.inl (i,(IntKind.i64.wrap (a.2+1)))))) else some (.inr a.1))) (c.lines,0)).bind λj=>((eM c.bO (aB.mk r1 (cB r4 (IntKind.i64.wrap (r1+c.config.cache)))) r7).bind λf=>some (f.1,(aG.mk c.config c.aT c.due c.aQ j f.2)))))))))
def fP (c:aG):Option (List aB) :=
 ((dM c.lines).bind λr1=>some r1)
def fL (c:aG):Option (List aB) :=
 ((gN c.bO).bind λr1=>some r1)
def fW (c:aG):Option aP :=
 ((cQ c.aQ).bind λr2=>some r2)
def fB (c:aG) (i:Int):Option ((List aM)×Bool) :=
 ((cQ c.aQ).bind λr1=>(bif (decide (i>=r1.len)) then some (([]:List aM),false) else ((eL c.lines i).bind λa=>some (a.1,a.2))))
def gQ (c:aG) (addr:Int):Option aG :=
 ((dJ addr 0 4294967296).bind λr1=>some (aG.mk (gP.mk c.config.cache c.config.every r1) c.aT c.due c.aQ c.lines c.bO))
def kv (s_:ByteArray) (n_:Int):Option ByteArray :=
 (bif (decide ((s_.size:Int) > n_)) then ((chk (eK 0 n_ s_.size)).bind λ_=>some (gD s_ 0 n_)) else some s_)
structure dE where
 rune:Int
 bU:Int
 part:Int
 deriving DecidableEq,Inhabited
structure bJ where
 l:List dE
 wrapped:Bool
 deriving DecidableEq,Inhabited
structure aN where
 rune:Int
 bU:Int
 deriving DecidableEq,Inhabited
def kl (r_:aY) (x_:bJ):Option Bool :=
 (((bif ((r_.cells.length:Int) != (x_.l.length:Int)) then some true else some (!(r_.wrapped == x_.wrapped))):Option Bool).bind λe6=>(bif e6 then some false else ((iter (σ:=Int) (ρ:=Unit ⊕ Bool) (λa=>(bif (decide (a < (r_.cells.length:Int))) then ((idx r_.cells a).bind λb=>((((idx x_.l a).bind λc=>(bif ((IntKind.i64.wrap b.rune) != c.rune) then some true else ((idx x_.l a).bind λd=>(bif (b.bU != d.bU) then some true else ((idx x_.l a).bind λe=>some (b.part != e.part)))))):Option Bool).bind λf=>(bif f then (fp (some false)) else some (.inl (IntKind.i64.wrap (a+1)))))) else some (.inr (.inl ())))) 0).bind λ | .inl e712=>some true | .inr w=>some w)))
def iy (l:List aM) (x_:List aN):Option Bool :=
 (bif ((l.length:Int) != (x_.length:Int)) then some false else ((iter (σ:=Int) (ρ:=Unit ⊕ Bool) (λa=>(bif (decide (a < (l.length:Int))) then ((idx l a).bind λb=>((((idx x_ a).bind λc=>(bif ((IntKind.i64.wrap b.rune) != c.rune) then some true else ((idx x_ a).bind λd=>some (b.bU != d.bU)))):Option Bool).bind λe=>(bif e then (fp (some false)) else some (.inl (IntKind.i64.wrap (a+1)))))) else some (.inr (.inl ())))) 0).bind λ | .inl e523=>some true | .inr w=>some w))
def kG (l:List aY) (x_:List bJ):Option Bool :=
 (bif ((l.length:Int) != (x_.length:Int)) then some false else ((iter (σ:=Int) (ρ:=Unit ⊕ Bool) (λa=>(bif (decide (a < (x_.length:Int))) then ((idx l a).bind λb=>((idx x_ a).bind λc=>((kl b c).bind λd=>(bif (!d) then (fp (some false)) else some (.inl (IntKind.i64.wrap (a+1))))))) else some (.inr (.inl ())))) 0).bind λ | .inl e571=>some true | .inr w=>some w))
structure aD where
 from_:Int
 to:Int
 deriving DecidableEq,Inhabited
def jK (n_:Int):Option Int :=
 (bif (decide (n_ < (-1152921504606846976))) then some (-1152921504606846976) else (bif (decide (n_ > 1152921504606846976)) then some 1152921504606846976 else some n_))
def mU (x_:aD):Option aD :=
 ((jK x_.from_).bind λa=>((jK x_.to).bind λb=>some (aD.mk a b)))
def jy (x_:aD):Option (List aD) :=
 ((mU x_).bind λr2=>(bif (decide (r2.to<=r2.from_)) then some ([]:List aD) else some [r2]))
def jz (l:List aD) (n_:Int):Option Bool :=
 ((iter (σ:=Int) (ρ:=Unit ⊕ Bool) (λa=>(bif (decide (a < (l.length:Int))) then ((idx l a).bind λb=>(((bif (decide (n_>=b.from_)) then some (decide (n_ < b.to)) else some false):Option Bool).bind λc=>(bif c then (fp (some true)) else some (.inl (IntKind.i64.wrap (a+1)))))) else some (.inr (.inl ())))) 0).bind λ | .inl e107=>some false | .inr w=>some w)
def kH (mode:Int) (x_:Bool) (y:Bool):Option Bool :=
 (bif (mode == 0) then (((bif x_ then some true else some y):Option Bool).bind λa=>some a) else (bif (mode == 1) then (((bif x_ then some (!y) else some false):Option Bool).bind λb=>some b) else (bif (mode == 2) then (((bif x_ then some y else some false):Option Bool).bind λc=>some c) else (((bif (!x_) then some y else some false):Option Bool).bind λd=>some d))))
def gv (a:List aD) (b:List aD) (mode:Int):Option (List aD) :=
 ((chk (cW ([]:List aD).length a.length 16)).bind λ_=>((chk (cW (([]:List aD)++a).length b.length 16)).bind λ_=>((iter (σ:=Int×(List Int)) (ρ:=(List Int)) (λf=>(bif (decide (f.1 < (((([]:List aD)++a)++b).length:Int))) then ((idx ((([]:List aD)++a)++b) f.1).bind λi=>((iter (σ:=Int×(List Int)) (ρ:=(List Int)) (λc=>(bif (decide (c.1 < ([i.from_,i.to].length:Int))) then ((((idx [i.from_,i.to] c.1).bind λg=>((iter (σ:=Int) (ρ:=Int) (λj=>(((bif (decide (j < (c.2.length:Int))) then ((idx c.2 j).bind λm=>some (decide (m < g))) else some false):Option Bool).bind λn=>(bif n then some (.inl (IntKind.i64.wrap (j+1))) else some (.inr j)))) 0).bind λe=>(((bif (e == (c.2.length:Int)) then some true else ((idx c.2 e).bind λo=>some (o != g))):Option Bool).bind λp=>(bif p then ((chk (eK 0 e c.2.length)).bind λ_=>((chk (eK e (c.2.length:Int) c.2.length)).bind λ_=>((chk (cW [g].length (cut c.2 e (c.2.length:Int)).length 8)).bind λ_=>((chk (cW (cut c.2 0 e).length ([g]++(cut c.2 e (c.2.length:Int))).length 8)).bind λ_=>some ((cut c.2 0 e)++([g]++(cut c.2 e (c.2.length:Int)))))))) else some c.2)))):Option (List Int)).bind λq=>some (.inl ((IntKind.i64.wrap (c.1+1)),q))) else some (.inr c.2))) (0,f.2)).bind λr=>some (.inl ((IntKind.i64.wrap (f.1+1)),r)))) else some (.inr f.2))) (0,([]:List Int))).bind λk=>((iter (σ:=(List aD)×Int) (ρ:=(List aD)) (λd=>(bif (decide ((IntKind.i64.wrap (d.2+1)) < (k.length:Int))) then ((((idx k d.2).bind λh=>((jz a h).bind λs=>((jz b h).bind λt=>((kH mode s t).bind λu=>(bif (!u) then some d.1 else (((bif (decide ((d.1.length:Int) > 0)) then ((idx d.1 (IntKind.i64.wrap ((d.1.length:Int) - 1))).bind λv=>some (v.to == h)) else some false):Option Bool).bind λw=>(bif w then ((idx k (IntKind.i64.wrap (d.2+1))).bind λx=>((idx d.1 (IntKind.i64.wrap ((d.1.length:Int) - 1))).bind λy=>some (d.1.set ((IntKind.i64.wrap ((d.1.length:Int) - 1)).toNat) (aD.mk y.from_ x)))) else ((idx k (IntKind.i64.wrap (d.2+1))).bind λl=>((chk (cW d.1.length [(aD.mk h l)].length 16)).bind λ_=>some (d.1++[(aD.mk h l)])))))))))):Option (List aD)).bind λz=>some (.inl (z,(IntKind.i64.wrap (d.2+1))))) else some (.inr d.1))) (([]:List aD),0)).bind λA=>some A))))
def gR (l:List aD) (x_:aD):Option (List aD) :=
 ((jy x_).bind λr2=>((gv l r2 0).bind λr9=>some r9))
def iG (l:List aD) (x_:aD):Option (List aD) :=
 ((jy x_).bind λr2=>((gv l r2 1).bind λr9=>some r9))
def mD (l:List aD) (x_:aD):Option (List aD) :=
 ((jy x_).bind λr2=>((gv l r2 2).bind λr9=>some r9))
def jL (l:List aB) (x_:List aD):Option Bool :=
 (bif ((l.length:Int) != (x_.length:Int)) then some false else ((iter (σ:=Int) (ρ:=Unit ⊕ Bool) (λa=>(bif (decide (a < (x_.length:Int))) then ((idx l a).bind λb=>((idx x_ a).bind λc=>(bif (!((b.from_ == c.from_) && ((b.to == c.to) && true))) then (fp (some false)) else some (.inl (IntKind.i64.wrap (a+1)))))) else some (.inr (.inl ())))) 0).bind λ | .inl e355=>some true | .inr w=>some w))
structure aW where
 s:ByteArray
 e:Int
 deriving DecidableEq,Inhabited
def bH (in_:aW):Option (aW×Int) :=
 (bif (in_.e != 0) then some (in_,0) else ((iter (σ:=Int×Int×Int) (ρ:=Unit ⊕ (aW×Int)) (λa=>(bif (decide (a.2.2 < 9)) then (((bif (a.2.2 == (in_.s.size:Int)) then (nC (fp (some ((aW.mk (ByteArray.mk #[]) 2),0)))) else ((tE in_.s a.2.2).bind λb475=>(bif (decide ((IntKind.i64.wrap b475) < 128)) then (((bif (decide (a.2.2 > 0)) then (bif ((IntKind.i64.wrap b475) == 0) then some true else some (decide ((IntKind.i64.wrap (a.1+(IntKind.i64.wrap (((IntKind.i64.wrap b475).tmod 128)*a.2.1)))) > 4611686018427387904))) else some (decide ((IntKind.i64.wrap (a.1+(IntKind.i64.wrap (((IntKind.i64.wrap b475).tmod 128)*a.2.1)))) > 4611686018427387904))):Option Bool).bind λb=>(bif b then (nC (fp (some ((aW.mk (ByteArray.mk #[]) 1),0)))) else ((chk (eK (IntKind.i64.wrap (a.2.2+1)) (in_.s.size:Int) in_.s.size)).bind λ_=>(nC (fp (some ((aW.mk (gD in_.s (IntKind.i64.wrap (a.2.2+1)) (in_.s.size:Int)) 0),(IntKind.i64.wrap (a.1+(IntKind.i64.wrap (((IntKind.i64.wrap b475).tmod 128)*a.2.1))))))))))) else (bif (decide (a.2.2 < 8)) then some (.inl ((IntKind.i64.wrap (a.1+(IntKind.i64.wrap (((IntKind.i64.wrap b475).tmod 128)*a.2.1)))),(IntKind.i64.wrap (a.2.1*128)))) else some (.inl ((IntKind.i64.wrap (a.1+(IntKind.i64.wrap (((IntKind.i64.wrap b475).tmod 128)*a.2.1)))),a.2.1)))))):Option ((Int×Int) ⊕ ((Int×Int×Int) ⊕ (Unit ⊕ (aW×Int))))).bind λ | .inl e465=>some (.inl (e465.1,e465.2,(IntKind.i64.wrap (a.2.2+1)))) | .inr w=>some w) else some (.inr (.inl ())))) (0,1,0)).bind λ | .inl e381=>some ((aW.mk (ByteArray.mk #[]) 1),0) | .inr w=>some w))
def mV (in_:aW) (n_:Int):Option (aW×ByteArray) :=
 (bif (in_.e != 0) then some (in_,(ByteArray.mk #[])) else (bif (decide ((imax 0 n_) > (in_.s.size:Int))) then some ((aW.mk (ByteArray.mk #[]) 2),(ByteArray.mk #[])) else ((chk (eK (imax 0 n_) (in_.s.size:Int) in_.s.size)).bind λ_=>((chk (eK 0 (imax 0 n_) in_.s.size)).bind λ_=>some ((aW.mk (gD in_.s (imax 0 n_) (in_.s.size:Int)) 0),(gD in_.s 0 (imax 0 n_)))))))
def fR (in_:aW):Option (aW×ByteArray) :=
 ((bH in_).bind λr3=>((mV r3.1 r3.2).bind λr7=>some (r7.1,r7.2)))
def kx (in_:aW):Option Int :=
 (((bif (in_.e == 0) then some (!(in_.s.toList == (ByteArray.mk #[]).toList)) else some false):Option Bool).bind λe5=>(bif e5 then some 1 else some in_.e))
def cG (n_:Int):Option ByteArray :=
 ((iter (σ:=Int×(List Int)) (ρ:=Int×(List Int)) (λa=>(bif (decide (a.1>=128)) then ((chk (cW a.2.length [(IntKind.u8.wrap (IntKind.i64.wrap (128+(a.1.tmod 128))))].length 1)).bind λ_=>some (.inl ((IntKind.i64.wrap (a.1.tdiv 128)),(a.2++[(IntKind.u8.wrap (IntKind.i64.wrap (128+(a.1.tmod 128))))])))) else some (.inr (a.1,a.2)))) ((imax 0 (cB n_ 4611686018427387904)),([]:List Int))).bind λb=>((chk (cW b.2.length [(IntKind.u8.wrap b.1)].length 1)).bind λ_=>some (dL (b.2++[(IntKind.u8.wrap b.1)]))))
def jM (s_:ByteArray):Option ByteArray :=
 ((cG (s_.size:Int)).bind λr1=>((chk (kB r1.size s_.size)).bind λ_=>some (r1++s_)))
def lg (s_:ByteArray):Option Int :=
 ((iter (σ:=Int×Int) (ρ:=Int) (λb=>(bif (decide (b.2 < (s_.size:Int))) then ((tE s_ b.2).bind λb402=>((iter (σ:=Int×Int) (ρ:=Int) (λa=>(bif (decide (a.2 < 8)) then (((bif ((a.1.tmod 2) == 1) then some (Go.bits .xor .i64 (IntKind.i64.wrap (a.1.tdiv 2)) 3988292384) else some (IntKind.i64.wrap (a.1.tdiv 2))):Option Int).bind λc=>some (.inl (c,(IntKind.i64.wrap (a.2+1))))) else some (.inr a.1))) ((Go.bits .xor .i64 b.1 (IntKind.i64.wrap b402)),0)).bind λd=>some (.inl (d,(IntKind.i64.wrap (b.2+1)))))) else some (.inr b.1))) (4294967295,0)).bind λe=>some (IntKind.i64.wrap (4294967295 - e)))
def jN (s_:ByteArray):Option ByteArray :=
 ((lg s_).bind λr1=>((chk (kB s_.size (dL [(IntKind.u8.wrap (r1.tmod 256)),(IntKind.u8.wrap ((IntKind.i64.wrap (r1.tdiv 256)).tmod 256)),(IntKind.u8.wrap ((IntKind.i64.wrap (r1.tdiv 65536)).tmod 256)),(IntKind.u8.wrap (IntKind.i64.wrap (r1.tdiv 16777216)))]).size)).bind λ_=>some (s_++(dL [(IntKind.u8.wrap (r1.tmod 256)),(IntKind.u8.wrap ((IntKind.i64.wrap (r1.tdiv 256)).tmod 256)),(IntKind.u8.wrap ((IntKind.i64.wrap (r1.tdiv 65536)).tmod 256)),(IntKind.u8.wrap (IntKind.i64.wrap (r1.tdiv 16777216)))]))))
def kI (s_:ByteArray):Option (ByteArray×Bool) :=
 (((bif (decide ((s_.size:Int) < 4)) then some true else ((chk (eK 0 (IntKind.i64.wrap ((s_.size:Int) - 4)) s_.size)).bind λ_=>((jN (gD s_ 0 (IntKind.i64.wrap ((s_.size:Int) - 4)))).bind λa=>some (!(a.toList == s_.toList))))):Option Bool).bind λb=>(bif b then some ((ByteArray.mk #[]),false) else ((chk (eK 0 (IntKind.i64.wrap ((s_.size:Int) - 4)) s_.size)).bind λ_=>some ((gD s_ 0 (IntKind.i64.wrap ((s_.size:Int) - 4))),true))))
def gS (in_:aW):Option (aW×(List aN)) :=
 ((bH in_).bind λr3=>(((bif (r3.1.e == 0) then some (decide (r3.2 > 1024)) else some false):Option Bool).bind λe9=>(bif e9 then some ((aW.mk (ByteArray.mk #[]) 1),([]:List aN)) else ((iter (σ:=aW×(List aN)×Int) (ρ:=((List aN)×aW) ⊕ (aW×(List aN))) (λa=>(((bif (decide (a.2.2 < r3.2)) then some (a.1.e == 0) else some false):Option Bool).bind λd=>(bif d then ((bH a.1).bind λb=>(((bif (b.1.e == 0) then some (decide (b.2 > 1114111)) else some false):Option Bool).bind λf=>(bif f then (fp (some ((aW.mk (ByteArray.mk #[]) 1),([]:List aN)))) else ((bH b.1).bind λc=>(((bif (c.1.e == 0) then some (decide (c.2 > 647)) else some false):Option Bool).bind λg=>(bif g then (fp (some ((aW.mk (ByteArray.mk #[]) 1),([]:List aN)))) else ((chk (cW a.2.1.length [(aN.mk b.2 c.2)].length 16)).bind λ_=>some (.inl (c.1,(a.2.1++[(aN.mk b.2 c.2)]),(IntKind.i64.wrap (a.2.2+1))))))))))) else some (.inr (.inl (a.2.1,a.1)))))) (r3.1,([]:List aN),0)).bind λ | .inl e261=>(bif (e261.2.e != 0) then some (e261.2,([]:List aN)) else some (e261.2,e261.1)) | .inr w=>some w))))
def kJ (l:List aN):Option ByteArray :=
 ((cG (l.length:Int)).bind λr1=>((iter (σ:=Int×ByteArray) (ρ:=ByteArray) (λa=>(bif (decide (a.1 < (l.length:Int))) then ((idx l a.1).bind λd=>((cG d.rune).bind λb=>((cG d.bU).bind λc=>((chk (kB b.size c.size)).bind λ_=>((chk (kB a.2.size (b++c).size)).bind λ_=>some (.inl ((IntKind.i64.wrap (a.1+1)),(a.2++(b++c))))))))) else some (.inr a.2))) (0,r1)).bind λe=>some e))
structure bK where
 k:Int
 w:Int
 h:Int
 x:Int
 y:Int
 title:ByteArray
 rows:List bJ
 len:Int
 chain:Int
 begun:List aN
 deriving DecidableEq,Inhabited
def cO (in_:aW) (most:Int):Option (aW×Int) :=
 ((bH in_).bind λr3=>(((bif (r3.1.e == 0) then some (decide (r3.2 > most)) else some false):Option Bool).bind λa=>(bif a then some ((aW.mk (ByteArray.mk #[]) 1),0) else some (r3.1,r3.2))))
def gI (in_:aW) (w:Int):Option (aW×bJ) :=
 ((cO in_ 1).bind λr4=>((iter (σ:=aW×(List dE)) (ρ:=(List dE)×aW) (λa=>(((bif (decide ((a.2.length:Int) < w)) then some (a.1.e == 0) else some false):Option Bool).bind λk=>(bif k then ((cO a.1 (IntKind.i64.wrap (w - (a.2.length:Int)))).bind λd=>(((bif (d.1.e == 0) then some (d.2 == 0) else some false):Option Bool).bind λl=>(((bif l then some (aW.mk (ByteArray.mk #[]) 1) else some d.1):Option aW).bind λm=>((cO m 1114111).bind λf=>((cO f.1 647).bind λg=>((cO g.1 3).bind λb=>(((bif (b.1.e == 0) then (bif (decide ((a.2.length:Int) > 0)) then ((idx a.2 (IntKind.i64.wrap ((a.2.length:Int) - 1))).bind λi=>some ((i.rune == f.2) && ((i.bU == g.2) && ((i.part == b.2) && true)))) else some false) else some false):Option Bool).bind λn=>(((bif n then some (aW.mk (ByteArray.mk #[]) 1) else some b.1):Option aW).bind λj=>((iter (σ:=Int×(List dE)) (ρ:=(List dE)) (λc=>(((bif (decide (c.1 < d.2)) then some (j.e == 0) else some false):Option Bool).bind λo=>(bif o then ((chk (cW c.2.length [(dE.mk f.2 g.2 b.2)].length 24)).bind λ_=>some (.inl ((IntKind.i64.wrap (c.1+1)),(c.2++[(dE.mk f.2 g.2 b.2)])))) else some (.inr c.2)))) (0,a.2)).bind λp=>some (.inl (j,p))))))))))) else some (.inr (a.2,a.1))))) (r4.1,([]:List dE))).bind λh=>(bif (h.2.e != 0) then some (h.2,(bJ.mk ([]:List dE) false)) else some (h.2,(bJ.mk h.1 (r4.2 == 1))))))
def g0 (s_:bK):Option Bool :=
 (((bif (s_.k == 0) then (bif (s_.w == 0) then (bif (s_.h == 0) then (bif (s_.x == 0) then (bif (s_.y == 0) then (bif (s_.title.toList == (ByteArray.mk #[]).toList) then (bif ((s_.rows.length:Int) == 0) then (bif (s_.len == 0) then (bif (s_.chain == 0) then some ((s_.begun.length:Int) == 0) else some false) else some false) else some false) else some false) else some false) else some false) else some false) else some false) else some false):Option Bool).bind λa=>some a)
def jA (s_:bK):Option Bool :=
 ((g0 s_).bind λr2=>(bif r2 then some true else (((bif (decide (s_.k < 1)) then some true else (bif (decide (s_.k > 1152921504606846976)) then some true else (bif (decide (s_.w < 1)) then some true else (bif (decide (s_.w > 1000)) then some true else (bif (decide (s_.h < 1)) then some true else (bif (decide (s_.h > 1000)) then some true else (bif (decide (s_.x < 0)) then some true else (bif (decide (s_.x>=s_.w)) then some true else (bif (decide (s_.y < 0)) then some true else (bif (decide (s_.y>=s_.h)) then some true else some ((s_.rows.length:Int) != s_.h))))))))))):Option Bool).bind λg=>(bif g then some false else (((bif (decide ((s_.title.size:Int) > 200)) then some true else (bif (decide (s_.len < 0)) then some true else (bif (decide (s_.len > 1152921504606846976)) then some true else (bif (decide (s_.chain < 0)) then some true else (bif (decide (s_.chain > 281474976710656)) then some true else some (decide ((s_.begun.length:Int) > 1024))))))):Option Bool).bind λi=>(bif i then some false else ((iter (σ:=Int) (ρ:=Unit ⊕ Bool) (λc=>(bif (decide (c < (s_.begun.length:Int))) then ((idx s_.begun c).bind λb=>(((bif (decide (b.rune < 0)) then some true else (bif (decide (b.rune > 1114111)) then some true else (bif (decide (b.bU < 0)) then some true else some (decide (b.bU > 647))))):Option Bool).bind λj=>(bif j then (fp (some false)) else some (.inl (IntKind.i64.wrap (c+1)))))) else some (.inr (.inl ())))) 0).bind λ | .inl e206=>((iter (σ:=Int) (ρ:=Unit ⊕ Bool) (λd=>(bif (decide (d < (s_.rows.length:Int))) then ((idx s_.rows d).bind λe=>(bif ((e.l.length:Int) != s_.w) then (fp (some false)) else ((iter (σ:=Int) (ρ:=Unit ⊕ (Int ⊕ (Unit ⊕ Bool))) (λf=>(bif (decide (f < (e.l.length:Int))) then ((idx e.l f).bind λa=>(((bif (decide (a.rune < 0)) then some true else (bif (decide (a.rune > 1114111)) then some true else (bif (decide (a.bU < 0)) then some true else (bif (decide (a.bU > 647)) then some true else (bif (decide (a.part < 0)) then some true else some (decide (a.part > 3))))))):Option Bool).bind λm=>(bif m then (fp (fp (some false))) else some (.inl (IntKind.i64.wrap (f+1)))))) else some (.inr (.inl ())))) 0).bind λ | .inl e2288=>some (.inl (IntKind.i64.wrap (d+1))) | .inr w=>some w))) else some (.inr (.inl ())))) 0).bind λ | .inl e1826=>some true | .inr w=>some w) | .inr w=>some w)))))))
def iW (r_:bJ):Option ByteArray :=
 (((bif r_.wrapped then some (ByteArray.mk #[1]) else some (ByteArray.mk #[0])):Option ByteArray).bind λe5=>((iter (σ:=Int×ByteArray×Int) (ρ:=ByteArray) (λa=>(bif (decide (a.1 < (r_.l.length:Int))) then ((((idx r_.l a.1).bind λb=>(((bif (decide ((IntKind.i64.wrap (a.1+1)) < (r_.l.length:Int))) then ((idx r_.l (IntKind.i64.wrap (a.1+1))).bind λf=>some ((f.rune == b.rune) && ((f.bU == b.bU) && ((f.part == b.part) && true)))) else some false):Option Bool).bind λi=>(bif i then some (a.2.1,(IntKind.i64.wrap (a.2.2+1))) else ((cG (IntKind.i64.wrap (a.2.2+1))).bind λc=>((cG b.rune).bind λd=>((chk (kB c.size d.size)).bind λ_=>((cG b.bU).bind λe=>((chk (kB (c++d).size e.size)).bind λ_=>((cG b.part).bind λg=>((chk (kB ((c++d)++e).size g.size)).bind λ_=>((chk (kB a.2.1.size (((c++d)++e)++g).size)).bind λ_=>some ((a.2.1++(((c++d)++e)++g)),0)))))))))))):Option (ByteArray×Int)).bind λh=>some (.inl ((IntKind.i64.wrap (a.1+1)),h.1,h.2))) else some (.inr a.2.1))) (0,e5,0)).bind λj=>some j))
def gT (s_:bK):Option ByteArray :=
 ((((g0 s_).bind λl=>(bif l then some true else ((jA s_).bind λm=>some (!m)))):Option Bool).bind λn=>(bif n then some (ByteArray.mk #[]) else ((iter (σ:=Int×ByteArray) (ρ:=ByteArray) (λa=>(bif (decide (a.1 < ([s_.k,s_.w,s_.h,s_.x,s_.y].length:Int))) then ((idx [s_.k,s_.w,s_.h,s_.x,s_.y] a.1).bind λo=>((cG o).bind λg=>((chk (kB a.2.size g.size)).bind λ_=>some (.inl ((IntKind.i64.wrap (a.1+1)),(a.2++g)))))) else some (.inr a.2))) (0,(ByteArray.mk #[]))).bind λi=>((jM s_.title).bind λc=>((cG s_.len).bind λd=>((chk (kB c.size d.size)).bind λ_=>((cG s_.chain).bind λe=>((chk (kB (c++d).size e.size)).bind λ_=>((kJ s_.begun).bind λf=>((chk (kB ((c++d)++e).size f.size)).bind λ_=>((chk (kB i.size (((c++d)++e)++f).size)).bind λ_=>((iter (σ:=ByteArray×Int) (ρ:=ByteArray) (λb=>(bif (decide (b.2 < (s_.rows.length:Int))) then ((idx s_.rows b.2).bind λp=>((iW p).bind λj=>((chk (kB b.1.size j.size)).bind λ_=>some (.inl ((b.1++j),(IntKind.i64.wrap (b.2+1))))))) else some (.inr b.1))) ((i++(((c++d)++e)++f)),0)).bind λq=>some q))))))))))))
def lG (s_:bK):Option Int :=
 ((gT s_).bind λr2=>((lg r2).bind λr5=>some r5))
def mE (s_:aP) (x_:bK):Option Bool :=
 (((bif (s_.k == x_.k) then (bif (s_.w == x_.w) then (bif (s_.h == x_.h) then (bif (s_.x == x_.x) then (bif (s_.y == x_.y) then (bif (s_.title.toList == x_.title.toList) then (bif (s_.len == x_.len) then (bif (s_.chain == x_.chain) then ((kG s_.rows x_.rows).bind λa=>(bif a then ((iy s_.begun x_.begun).bind λb=>some b) else some false)) else some false) else some false) else some false) else some false) else some false) else some false) else some false) else some false):Option Bool).bind λc=>some c)
structure dO where
 i:Int
 l:List aN
 deriving DecidableEq,Inhabited
structure bW where
 most:Int
 l:List dO
 deriving DecidableEq,Inhabited
def oz (most:Int):Option bW :=
 some (bW.mk (imax 1 (cB most 65536)) ([]:List dO))
def jb (c:bW):Option (List aD) :=
 ((iter (σ:=Int×(List aD)) (ρ:=(List aD)) (λa=>(bif (decide (a.1 < (c.l.length:Int))) then ((idx c.l a.1).bind λb=>((gR a.2 (aD.mk b.i (IntKind.i64.wrap (b.i+1)))).bind λd=>some (.inl ((IntKind.i64.wrap (a.1+1)),d)))) else some (.inr a.2))) (0,([]:List aD))).bind λe=>some e)
def iO (c:bW) (i:Int):Option ((List aN)×Bool) :=
 ((iter (σ:=Int) (ρ:=Unit ⊕ ((List aN)×Bool)) (λa=>(bif (decide (a < (c.l.length:Int))) then ((idx c.l a).bind λb=>(bif (b.i == i) then (fp (some (b.l,true))) else some (.inl (IntKind.i64.wrap (a+1))))) else some (.inr (.inl ())))) 0).bind λ | .inl e84=>some (([]:List aN),false) | .inr w=>some w)
def fX (c:bW) (e:dO):Option bW :=
 ((iter (σ:=Int×(List dO)) (ρ:=(List dO)) (λa=>(bif (decide (a.1 < (c.l.length:Int))) then ((((idx c.l a.1).bind λb=>(bif (b.i != e.i) then ((chk (cW a.2.length [b].length 32)).bind λ_=>some (a.2++[b])) else some a.2)):Option (List dO)).bind λf=>some (.inl ((IntKind.i64.wrap (a.1+1)),f))) else some (.inr a.2))) (0,([]:List dO))).bind λd=>((chk (cW d.length [e].length 32)).bind λ_=>some (bW.mk c.most (d++[e]))))
def jB (c:bW) (i:Int) (l:List aN):Option (bW×Int×Bool) :=
 (((bif (decide (i < 0)) then some true else some (decide (i > 1152921504606846976))):Option Bool).bind λe6=>(bif e6 then some (c,0,false) else ((fX c (dO.mk i l)).bind λa=>(bif (decide ((a.l.length:Int)<=a.most)) then some (a,0,false) else ((chk (eK 1 (a.l.length:Int) a.l.length)).bind λ_=>((idx a.l 0).bind λb=>some ((bW.mk a.most (cut a.l 1 (a.l.length:Int))),b.i,true)))))))
def ky (c:bW) (i:Int):Option (bW×(List aN)×Bool) :=
 ((iO c i).bind λr3=>(bif (!r3.2) then some (c,([]:List aN),false) else ((fX c (dO.mk i r3.1)).bind λa=>some (a,r3.1,true))))
structure bL where
 aT:Int
 kind:Int
 aZ:List Int
 data:ByteArray
 deriving DecidableEq,Inhabited
def jc (g:bL):Option ByteArray :=
 ((cG g.aT).bind λb=>((cG g.kind).bind λc=>((chk (kB b.size c.size)).bind λ_=>((cG (g.aZ.length:Int)).bind λd=>((chk (kB (b++c).size d.size)).bind λ_=>((iter (σ:=Int×ByteArray) (ρ:=ByteArray) (λa=>(bif (decide (a.1 < (g.aZ.length:Int))) then ((idx g.aZ a.1).bind λi=>((cG i).bind λe=>((chk (kB a.2.size e.size)).bind λ_=>some (.inl ((IntKind.i64.wrap (a.1+1)),(a.2++e)))))) else some (.inr a.2))) (0,((b++c)++d))).bind λf=>((jM g.data).bind λh=>((chk (kB f.size h.size)).bind λ_=>((jN (f++h)).bind λj=>some j)))))))))
def jd (g:bL):Option Int :=
 (((bif (decide (g.aT < 1)) then some true else (bif (decide (g.aT > 4294967296)) then some true else (bif (decide (g.kind < 1)) then some true else (bif (decide (g.kind > 4)) then some true else some (decide ((g.aZ.length:Int) > 64)))))):Option Bool).bind λc=>(bif c then some 6 else ((iter (σ:=Int) (ρ:=Unit ⊕ Int) (λa=>(bif (decide (a < (g.aZ.length:Int))) then ((idx g.aZ a).bind λb=>(((bif (decide (b < 0)) then some true else some (decide (b > 4611686018427387904))):Option Bool).bind λd=>(bif d then (fp (some 6)) else some (.inl (IntKind.i64.wrap (a+1)))))) else some (.inr (.inl ())))) 0).bind λ | .inl e120=>((jc g).bind λe=>(bif (decide ((e.size:Int) > 8192)) then some 3 else some 0)) | .inr w=>some w)))
def fS (g:bL):Option ByteArray :=
 ((jd g).bind λr2=>(bif (r2 != 0) then some (ByteArray.mk #[]) else ((jc g).bind λr7=>some r7)))
def jX (s_:ByteArray):Option (bL×Int) :=
 (bif (decide ((s_.size:Int) > 8192)) then some ((bL.mk 0 0 ([]:List Int) (ByteArray.mk #[])),3) else ((kI s_).bind λr5=>(bif (!r5.2) then some ((bL.mk 0 0 ([]:List Int) (ByteArray.mk #[])),4) else ((bH (aW.mk r5.1 0)).bind λg=>((bH g.1).bind λh=>((bH h.1).bind λb=>(((bif (b.1.e == 0) then some (decide (b.2 > 64)) else some false):Option Bool).bind λk=>(bif k then some ((bL.mk 0 0 ([]:List Int) (ByteArray.mk #[])),1) else ((iter (σ:=aW×bL×Int) (ρ:=aW×bL) (λa=>(((bif (decide (a.2.2 < b.2)) then some (a.1.e == 0) else some false):Option Bool).bind λl=>(bif l then ((bH a.1).bind λd=>((chk (cW a.2.1.aZ.length [d.2].length 8)).bind λ_=>some (.inl (d.1,(bL.mk a.2.1.aT a.2.1.kind (a.2.1.aZ++[d.2]) a.2.1.data),(IntKind.i64.wrap (a.2.2+1)))))) else some (.inr (a.1,a.2.1))))) (b.1,(bL.mk g.2 h.2 ([]:List Int) (ByteArray.mk #[])),0)).bind λc=>((fR c.1).bind λf=>((kx f.1).bind λi=>(bif (i != 0) then some ((bL.mk 0 0 ([]:List Int) (ByteArray.mk #[])),i) else ((jd (bL.mk c.2.aT c.2.kind c.2.aZ f.2)).bind λj=>(bif (j != 0) then some ((bL.mk 0 0 ([]:List Int) (ByteArray.mk #[])),j) else some ((bL.mk c.2.aT c.2.kind c.2.aZ f.2),0)))))))))))))))
structure cM where
 key:Int
 has:List Bool
 parts:List ByteArray
 deriving DecidableEq,Inhabited
def lH (s_:cM) (key:Int) (index:Int) (count:Int) (data:ByteArray):Option (cM×Int) :=
 (((bif (decide (count < 1)) then some true else (bif (decide (count > 4096)) then some true else (bif (decide (index < 0)) then some true else (bif (decide (index>=count)) then some true else some (decide (key < 1)))))):Option Bool).bind λa=>(bif a then some (s_,6) else (bif (decide (key < s_.key)) then some (s_,8) else ((chk (tC count 1)).bind λ_=>((chk (tC count 16)).bind λ_=>(((bif (key == s_.key) then (bif (count != (s_.has.length:Int)) then (nC (some (s_,1))) else some (.inl (cM.mk key (cpy (List.replicate count.toNat false) s_.has) (cpy (List.replicate count.toNat (ByteArray.mk #[])) s_.parts)))) else some (.inl (cM.mk key (List.replicate count.toNat false) (List.replicate count.toNat (ByteArray.mk #[]))))):Option (cM ⊕ (cM×Int))).bind λ | .inl e76=>((idx e76.has index).bind λb=>(((bif (!b) then ((idx e76.has index).bind λd=>((idx e76.parts index).bind λe=>some (cM.mk e76.key (e76.has.set index.toNat true) (e76.parts.set index.toNat data)))) else some e76):Option cM).bind λc=>some (c,0))) | .inr w=>some w))))))
def jY (s_:cM) (there:Bool):Option (List Int) :=
 ((iter (σ:=Int×(List Int)) (ρ:=(List Int)) (λa=>(bif (decide (a.1 < (s_.has.length:Int))) then ((((idx s_.has a.1).bind λb=>(bif (b == there) then ((chk (cW a.2.length [a.1].length 8)).bind λ_=>some (a.2++[a.1])) else some a.2)):Option (List Int)).bind λc=>some (.inl ((IntKind.i64.wrap (a.1+1)),c))) else some (.inr a.2))) (0,([]:List Int))).bind λd=>some d)
def lI (s_:cM):Option (ByteArray×Bool) :=
 ((iter (σ:=Int×ByteArray) (ρ:=ByteArray) (λa=>(bif (decide (a.1 < (s_.parts.length:Int))) then ((idx s_.parts a.1).bind λb=>((chk (kB a.2.size b.size)).bind λ_=>some (.inl ((IntKind.i64.wrap (a.1+1)),(a.2++b))))) else some (.inr a.2))) (0,(ByteArray.mk #[]))).bind λc=>(((bif (decide (s_.key > 0)) then ((jY s_ false).bind λe=>some (c,((e.length:Int) == 0))) else some (c,false)):Option (ByteArray×Bool)).bind λd=>some (d.1,d.2)))
def gU (a:bJ) (b:bJ):Option Bool :=
 (((bif (!(a.wrapped == b.wrapped)) then some true else some ((a.l.length:Int) != (b.l.length:Int))):Option Bool).bind λe6=>(bif e6 then some false else ((iter (σ:=Int) (ρ:=Unit ⊕ Bool) (λc=>(bif (decide (c < (a.l.length:Int))) then ((idx a.l c).bind λd=>((idx b.l c).bind λe=>(bif (!((d.rune == e.rune) && ((d.bU == e.bU) && ((d.part == e.part) && true)))) then (fp (some false)) else some (.inl (IntKind.i64.wrap (c+1)))))) else some (.inr (.inl ())))) 0).bind λ | .inl e364=>some true | .inr w=>some w)))
def jZ (a:bK) (s_:ByteArray):Option (bK×Int) :=
 ((jA a).bind λr4=>(bif (!r4) then some ((bK.mk 0 0 0 0 0 (ByteArray.mk #[]) ([]:List bJ) 0 0 ([]:List aN)),1) else ((bH (aW.mk s_ 0)).bind λu=>((bH u.1).bind λp=>((bH p.1).bind λi=>(((bif (i.1.e == 0) then some (decide (i.2 > 1000)) else some false):Option Bool).bind λz=>(bif z then some ((bK.mk 0 0 0 0 0 (ByteArray.mk #[]) ([]:List bJ) 0 0 ([]:List aN)),1) else ((bH i.1).bind λj=>(((bif (j.1.e == 0) then some (decide (j.2 > 1000)) else some false):Option Bool).bind λm=>(bif m then some ((bK.mk 0 0 0 0 0 (ByteArray.mk #[]) ([]:List bJ) 0 0 ([]:List aN)),1) else ((bH j.1).bind λq=>((bH q.1).bind λg=>((fR g.1).bind λr=>((bH r.1).bind λt=>((bH t.1).bind λl=>(((bif (l.1.e == 0) then ((gS l.1).bind λv=>some ((bK.mk p.2 i.2 j.2 q.2 g.2 r.2 ([]:List bJ) t.2 l.2 v.2),v.1)) else some ((bK.mk p.2 i.2 j.2 q.2 g.2 r.2 ([]:List bJ) t.2 l.2 ([]:List aN)),l.1)):Option (bK×aW)).bind λb=>((bH b.2).bind λn=>(bif (n.1.e != 0) then some ((bK.mk 0 0 0 0 0 (ByteArray.mk #[]) ([]:List bJ) 0 0 ([]:List aN)),n.1.e) else ((chk (tC b.1.h 1)).bind λ_=>((chk (tC b.1.h 32)).bind λ_=>((iter (σ:=aW×(List Bool)×(List bJ)×Int×Int) (ρ:=((List Bool)×(List bJ)×aW) ⊕ (bK×Int)) (λd=>(bif (decide (d.2.2.2.2 < n.2)) then ((bH d.1).bind λf=>(((bif (f.1.e == 0) then (bif (decide (f.2<=d.2.2.2.1)) then some true else some (decide (f.2>=b.1.h))) else some false):Option Bool).bind λA=>(bif A then (fp (some ((bK.mk 0 0 0 0 0 (ByteArray.mk #[]) ([]:List bJ) 0 0 ([]:List aN)),1))) else ((gI f.1 b.1.w).bind λo=>(bif (o.1.e != 0) then (fp (some ((bK.mk 0 0 0 0 0 (ByteArray.mk #[]) ([]:List bJ) 0 0 ([]:List aN)),o.1.e))) else ((idx d.2.1 f.2).bind λP=>((idx d.2.2.1 f.2).bind λQ=>some (.inl (o.1,(d.2.1.set f.2.toNat true),(d.2.2.1.set f.2.toNat o.2),f.2,(IntKind.i64.wrap (d.2.2.2.2+1))))))))))) else some (.inr (.inl (d.2.1,d.2.2.1,d.1))))) (n.1,(List.replicate b.1.h.toNat false),(List.replicate b.1.h.toNat (bJ.mk ([]:List dE) false)),(-1),0)).bind λ | .inl e369=>(bif (!(e369.2.2.s.toList == (ByteArray.mk #[]).toList)) then some ((bK.mk 0 0 0 0 0 (ByteArray.mk #[]) ([]:List bJ) 0 0 ([]:List aN)),1) else ((lG a).bind λB=>(bif (u.2 != B) then some ((bK.mk 0 0 0 0 0 (ByteArray.mk #[]) ([]:List bJ) 0 0 ([]:List aN)),7) else ((iter (σ:=(List bJ)×Int) (ρ:=(List bJ) ⊕ (bK×Int)) (λc=>(bif (decide (c.2 < (e369.2.1.length:Int))) then ((((((idx e369.1 c.2).bind λC=>(bif (!C) then (bif (decide (c.2>=(a.rows.length:Int))) then some true else ((idx e369.1 c.2).bind λD=>(bif D then (bif (decide (c.2 < (a.rows.length:Int))) then ((idx c.1 c.2).bind λE=>((idx a.rows c.2).bind λF=>((gU E F).bind λG=>some G))) else some false) else some false))) else ((idx e369.1 c.2).bind λH=>(bif H then (bif (decide (c.2 < (a.rows.length:Int))) then ((idx c.1 c.2).bind λI=>((idx a.rows c.2).bind λJ=>((gU I J).bind λK=>some K))) else some false) else some false)))):Option Bool).bind λL=>(bif L then (nC (fp (some ((bK.mk 0 0 0 0 0 (ByteArray.mk #[]) ([]:List bJ) 0 0 ([]:List aN)),1)))) else ((idx e369.1 c.2).bind λM=>(bif (!M) then ((idx a.rows c.2).bind λN=>((idx c.1 c.2).bind λR=>some (.inl (c.1.set c.2.toNat N)))) else some (.inl c.1))))):Option ((List bJ) ⊕ (((List bJ)×Int) ⊕ ((List bJ) ⊕ (bK×Int))))).bind λ | .inl e4726=>some (.inl (e4726,(IntKind.i64.wrap (c.2+1)))) | .inr w=>some w) else some (.inr (.inl c.1)))) (e369.2.1,0)).bind λ | .inl e3950=>((gT (bK.mk b.1.k b.1.w b.1.h b.1.x b.1.y b.1.title e3950 b.1.len b.1.chain b.1.begun)).bind λO=>(bif (O.toList == (ByteArray.mk #[]).toList) then some ((bK.mk 0 0 0 0 0 (ByteArray.mk #[]) ([]:List bJ) 0 0 ([]:List aN)),1) else some ((bK.mk b.1.k b.1.w b.1.h b.1.x b.1.y b.1.title e3950 b.1.len b.1.chain b.1.begun),0))) | .inr w=>some w)))) | .inr w=>some w)))))))))))))))))))))
structure dK where
 aK:bK
 slot:cM
 deriving DecidableEq,Inhabited
def kK (t_:dK) (g:bL):Option (dK×Int) :=
 (bif (g.kind != 1) then some (t_,5) else (bif ((g.aZ.length:Int) != 5) then some (t_,1) else ((idx g.aZ 1).bind λf=>(bif (decide (f<=t_.aK.k)) then some (t_,8) else ((((idx g.aZ 2).bind λh=>(bif (h != 0) then ((idx g.aZ 2).bind λi=>some (i != t_.aK.k)) else some false)):Option Bool).bind λj=>(bif j then some (t_,7) else ((((idx g.aZ 0).bind λl=>((idx g.aZ 3).bind λm=>((idx g.aZ 4).bind λn=>((lH t_.slot l m n g.data).bind λc=>some (c.1,c.2))))):Option (cM×Int)).bind λa=>(bif (a.2 != 0) then some (t_,a.2) else ((lI a.1).bind λd=>(bif (!d.2) then some ((dK.mk t_.aK a.1),0) else ((idx g.aZ 2).bind λo=>(((bif (o != 0) then some t_.aK else some (bK.mk 0 0 0 0 0 (ByteArray.mk #[]) ([]:List bJ) 0 0 ([]:List aN))):Option bK).bind λp=>((jZ p d.1).bind λb=>(((bif (b.2 == 0) then ((idx g.aZ 1).bind λq=>some (b.1.k != q)) else some false):Option Bool).bind λr=>(((bif r then some 1 else some b.2):Option Int).bind λe=>(bif (e != 0) then some ((dK.mk t_.aK (cM.mk 0 ([]:List Bool) ([]:List ByteArray))),e) else some ((dK.mk b.1 (cM.mk 0 ([]:List Bool) ([]:List ByteArray))),0)))))))))))))))))
def iH (t_:dK):Option bL :=
 ((iter (σ:=ByteArray×Int) (ρ:=ByteArray) (λb=>(bif (decide (b.2 < (t_.slot.has.length:Int))) then ((iter (σ:=Int×Int) (ρ:=Int) (λa=>(((bif (decide (a.2 < 8)) then some (decide ((IntKind.i64.wrap (b.2+a.2)) < (t_.slot.has.length:Int))) else some false):Option Bool).bind λd=>(bif d then ((((idx t_.slot.has (IntKind.i64.wrap (b.2+a.2))).bind λe=>(bif e then ((idx [1,2,4,8,16,32,64,128] a.2).bind λf=>some (IntKind.i64.wrap (a.1+f))) else some a.1)):Option Int).bind λg=>some (.inl (g,(IntKind.i64.wrap (a.2+1))))) else some (.inr a.1)))) (0,0)).bind λc=>((chk (kB b.1.size (dL [(IntKind.u8.wrap c)]).size)).bind λ_=>some (.inl ((b.1++(dL [(IntKind.u8.wrap c)])),(IntKind.i64.wrap (b.2+8)))))) else some (.inr b.1))) ((ByteArray.mk #[]),0)).bind λh=>some (bL.mk 1 2 [t_.aK.k,t_.slot.key] h))
structure bS where
 most:Int
 every:Int
 due:Int
 l:List aD
 deriving DecidableEq,Inhabited
def mW (most:Int) (every:Int):Option bS :=
 some (bS.mk (imax 1 (cB most 65536)) (imax 1 (cB every 1048576)) 0 ([]:List aD))
def jO (g:bL):Option (Int×(List (List aN))×Int) :=
 (bif (g.kind != 4) then some (0,([]:List (List aN)),5) else (bif ((g.aZ.length:Int) != 2) then some (0,([]:List (List aN)),1) else ((iter (σ:=aW×(List (List aN))) (ρ:=(List (List aN))×aW) (λa=>(((bif (!(a.1.s.toList == (ByteArray.mk #[]).toList)) then ((idx g.aZ 1).bind λe=>some (decide ((a.2.length:Int) < e))) else some false):Option Bool).bind λf=>(bif f then ((gS a.1).bind λb=>((chk (cW a.2.length [b.2].length 24)).bind λ_=>some (.inl (b.1,(a.2++[b.2]))))) else some (.inr (a.2,a.1))))) ((aW.mk g.data 0),([]:List (List aN)))).bind λc=>((kx c.2).bind λd=>(bif (d != 0) then some (0,([]:List (List aN)),d) else ((idx g.aZ 1).bind λh=>(bif ((c.1.length:Int) != h) then some (0,([]:List (List aN)),1) else ((idx g.aZ 0).bind λi=>some (i,c.1,0)))))))))
def jC (f:bS) (i:Int):Option (bS×Bool) :=
 ((jz f.l i).bind λr3=>(bif (!r3) then some (f,false) else ((iG f.l (aD.mk i (IntKind.i64.wrap (i+1)))).bind λr8=>some ((bS.mk f.most f.every f.due r8),true))))
def lJ (f:bS) (now:Int) (length:Int):Option (bS×(List aD)) :=
 ((mD f.l (aD.mk 0 length)).bind λr3=>(((bif ((r3.length:Int) == 0) then some true else some (decide (now < f.due))):Option Bool).bind λa=>(bif a then some (f,([]:List aD)) else (((bif (decide ((r3.length:Int) > 8)) then ((chk (eK 0 8 r3.length)).bind λ_=>some (cut r3 0 8)) else some r3):Option (List aD)).bind λb=>some ((bS.mk f.most f.every (IntKind.i64.wrap (now+f.every)) f.l),b)))))
def kL (f:bS) (x_:aD) (aK:List aD):Option bS :=
 ((gR ([]:List aD) (aD.mk (imax 0 (cB x_.from_ 1152921504606846976)) (cB (imax 0 (cB x_.to 1152921504606846976)) (IntKind.i64.wrap ((imax 0 (cB x_.from_ 1152921504606846976))+f.most))))).bind λr5=>((iter (σ:=bS×Int) (ρ:=bS) (λa=>(bif (decide (a.2 < (aK.length:Int))) then ((idx aK a.2).bind λb=>((iG a.1.l b).bind λc=>some (.inl ((bS.mk a.1.most a.1.every a.1.due c),(IntKind.i64.wrap (a.2+1)))))) else some (.inr a.1))) ((bS.mk f.most f.every 0 r5),0)).bind λd=>some d))
def je (l:List aD):Option Int :=
 ((iter (σ:=Int×Int) (ρ:=Int) (λa=>(bif (decide (a.2 < (l.length:Int))) then ((idx l a.2).bind λb=>some (.inl ((IntKind.i64.wrap (a.1+(IntKind.i64.wrap (b.to - b.from_)))),(IntKind.i64.wrap (a.2+1))))) else some (.inr a.1))) (0,0)).bind λc=>some c)
structure eZ where
 cache:Int
 every:Int
 addr:Int
 deriving DecidableEq,Inhabited
structure aL where
 most:Int
 every:Int
 addr:Int
 aT:Int
 due:Int
 t:dK
 l:bW
 f:bS
 deriving DecidableEq,Inhabited
def nm (x:eZ):Prop:=(inK .i64) x.cache/\(inK .i64) x.every/\(inK .i64) x.addr/\True
def mc (n_:Int):Option Int :=
 some (imax 0 (cB n_ 4294967296))
def kz (c:eZ):Option aL :=
 ((mW c.cache c.every).bind λr3=>((mc c.addr).bind λa=>((oz c.cache).bind λb=>some (aL.mk r3.most r3.every a 0 0 (dK.mk (bK.mk 0 0 0 0 0 (ByteArray.mk #[]) ([]:List bJ) 0 0 ([]:List aN)) (cM.mk 0 ([]:List Bool) ([]:List ByteArray))) b r3))))
def kM (c:aL) (i:Int):Option ((List aN)×Bool) :=
 (bif (decide (i>=c.t.aK.len)) then some (([]:List aN),false) else ((iO c.l i).bind λr5=>some (r5.1,r5.2)))
def kN (c:aL) (data:ByteArray):Option (aL×Int) :=
 ((jX data).bind λr3=>(bif (r3.2 != 0) then some (c,r3.2) else (((bif (r3.1.kind != 1) then some (r3.1.kind != 4) else some false):Option Bool).bind λh=>(bif h then some (c,5) else (bif (decide (r3.1.aT < c.aT)) then some (c,8) else (((bif (decide (r3.1.aT > c.aT)) then some (aL.mk c.most c.every c.addr r3.1.aT c.due (dK.mk (bK.mk 0 0 0 0 0 (ByteArray.mk #[]) ([]:List bJ) 0 0 ([]:List aN)) (cM.mk 0 ([]:List Bool) ([]:List ByteArray))) (bW.mk c.most ([]:List dO)) (bS.mk c.most c.every 0 ([]:List aD))) else some c):Option aL).bind λb=>(bif (r3.1.kind == 1) then ((kK b.t r3.1).bind λe=>some ((aL.mk b.most b.every b.addr b.aT b.due e.1 b.l b.f),e.2)) else ((jO r3.1).bind λd=>((iter (σ:=aL×Int) (ρ:=aL) (λa=>(bif (decide (a.2 < (d.2.1.length:Int))) then ((((idx d.2.1 a.2).bind λi=>((jC a.1.f (IntKind.i64.wrap (d.1+a.2))).bind λg=>(bif g.2 then ((jB a.1.l (IntKind.i64.wrap (d.1+a.2)) i).bind λj=>some (aL.mk a.1.most a.1.every a.1.addr a.1.aT a.1.due a.1.t j.1 g.1)) else some a.1))):Option aL).bind λk=>some (.inl (k,(IntKind.i64.wrap (a.2+1))))) else some (.inr a.1))) (b,0)).bind λm=>some (m,d.2.2))))))))))
def kO (c:aL) (now:Int):Option (aL×(List ByteArray)) :=
 (((bif (decide (now>=c.due)) then ((iH c.t).bind λg=>((fS (bL.mk (imax 1 c.aT) g.kind g.aZ g.data)).bind λh=>((chk (cW ([]:List ByteArray).length [h].length 16)).bind λ_=>some ((([]:List ByteArray)++[h]),(aL.mk c.most c.every c.addr c.aT (IntKind.i64.wrap (now+c.every)) c.t c.l c.f))))) else some (([]:List ByteArray),c)):Option ((List ByteArray)×aL)).bind λa=>((lJ a.2.f now a.2.t.aK.len).bind λd=>(((bif (decide ((d.2.length:Int) > 0)) then ((iter (σ:=bL×Int) (ρ:=bL) (λb=>(bif (decide (b.2 < (d.2.length:Int))) then ((idx d.2 b.2).bind λe=>((chk (cW b.1.aZ.length [e.from_,e.to].length 8)).bind λ_=>some (.inl ((bL.mk b.1.aT b.1.kind (b.1.aZ++[e.from_,e.to]) b.1.data),(IntKind.i64.wrap (b.2+1)))))) else some (.inr b.1))) ((bL.mk (imax 1 c.aT) 3 ([]:List Int) (ByteArray.mk #[])),0)).bind λj=>((fS j).bind λi=>((chk (cW a.1.length [i].length 16)).bind λ_=>some (a.1++[i])))) else some a.1):Option (List ByteArray)).bind λk=>some ((aL.mk a.2.most a.2.every a.2.addr a.2.aT a.2.due a.2.t a.2.l d.1),k))))
def kP (c:aL) (from_:Int) (to:Int):Option (aL×Int) :=
 ((jb c.l).bind λr3=>((iter (σ:=aL×Int) (ρ:=aL) (λa=>(bif (decide (a.2 < (cB (imax 0 (cB to 1152921504606846976)) (IntKind.i64.wrap ((imax 0 (cB from_ 1152921504606846976))+c.most))))) then ((ky a.1.l a.2).bind λe=>some (.inl ((aL.mk a.1.most a.1.every a.1.addr a.1.aT a.1.due a.1.t e.1 a.1.f),(IntKind.i64.wrap (a.2+1))))) else some (.inr a.1))) (c,(imax 0 (cB from_ 1152921504606846976)))).bind λb=>((kL b.f (aD.mk (imax 0 (cB from_ 1152921504606846976)) (cB (imax 0 (cB to 1152921504606846976)) (IntKind.i64.wrap ((imax 0 (cB from_ 1152921504606846976))+c.most)))) r3).bind λd=>((je d.l).bind λg=>some ((aL.mk b.most b.every b.addr b.aT b.due b.t b.l d),g)))))
def me (c:aL) (addr:Int):Option aL :=
 ((mc addr).bind λr3=>some (aL.mk c.most c.every r3 c.aT c.due c.t c.l c.f))
structure jD where
 kind:Int
 later:Int
 from_:Int
 to:Int
 text:ByteArray
 deriving DecidableEq,Inhabited
def n6 (x:jD):Prop:=(inK .i64) x.kind/\(inK .i64) x.later/\(inK .i64) x.from_/\(inK .i64) x.to/\(λs:ByteArray=>s.size<=maxLen) x.text/\True
def ka:Option Bool :=
 ((iN (gP.mk 5 3 7)).bind λr1=>((dS r1 0).bind λb=>(bif ((b.1.length:Int) != 1) then some false else ((idx b.1 0).bind λe=>((jI e).bind λc=>((dY (aV.mk 3 4 [0,0] (ByteArray.mk #[]))).bind λf=>((dT b.2 0 f).bind λa=>(((bif (c.2 == 0) then (bif (c.1.kind == 2) then (bif (c.1.aT == 1) then (bif (a.1 == 0) then ((fg a.2).bind λg=>(bif (g == 3) then ((fA a.2).bind λh=>(bif (h == 7) then ((dU a.2 0 9).bind λd=>some ((d.1 == 5),d.2)) else some (false,a.2))) else some (false,a.2))) else some (false,a.2)) else some (false,a.2)) else some (false,a.2)) else some (false,a.2)):Option (Bool×aG)).bind λi=>some i.1))))))))
def kb (c:eZ):Option eZ :=
 (((bif (decide (c.cache > 12)) then some (eZ.mk 12 c.every c.addr) else some c):Option eZ).bind λe6=>some e6)
def mF (c:aG) (x_:aL):Option Bool :=
 ((((fg c).bind λg=>(bif (g != x_.aT) then some true else ((fA c).bind λh=>(bif (h != x_.addr) then some true else ((fW c).bind λj=>((mE j x_.t.aK).bind λk=>(bif (!k) then some true else ((fP c).bind λm=>((jb x_.l).bind λn=>((jL m n).bind λo=>(bif (!o) then some true else ((fL c).bind λp=>((jL p x_.f.l).bind λq=>some (!q)))))))))))))):Option Bool).bind λr=>(bif r then some false else ((iter (σ:=Int) (ρ:=Unit ⊕ Bool) (λa=>(bif (decide (a < (x_.l.l.length:Int))) then ((idx x_.l.l a).bind λb=>((fB c b.i).bind λd=>((kM x_ b.i).bind λe=>(((bif (!(d.2 == e.2)) then some true else ((iy d.1 e.1).bind λs=>some (!s))):Option Bool).bind λu=>(bif u then (fp (some false)) else some (.inl (IntKind.i64.wrap (a+1)))))))) else some (.inr (.inl ())))) 0).bind λ | .inl e534=>((fB c (-1)).bind λv=>some (!v.2)) | .inr w=>some w)))
def kc (l:List ByteArray) (x_:List ByteArray):Option Bool :=
 (bif ((l.length:Int) != (x_.length:Int)) then some false else ((iter (σ:=Int) (ρ:=Unit ⊕ Bool) (λa=>(bif (decide (a < (x_.length:Int))) then ((idx l a).bind λb=>((idx x_ a).bind λc=>(bif (!(b.toList == c.toList)) then (fp (some false)) else some (.inl (IntKind.i64.wrap (a+1)))))) else some (.inr (.inl ())))) 0).bind λ | .inl e355=>some true | .inr w=>some w))
def mG (c:aG) (x_:aL) (a:jD) (now:Int):Option (aL×Bool×aG) :=
 (bif (a.kind == 0) then ((kv a.text 400).bind λb=>((kN x_ b).bind λd=>((dT c now b).bind λe=>some (d.1,(e.1 == d.2),e.2)))) else (bif (a.kind == 1) then ((kO x_ now).bind λf=>((dS c now).bind λg=>((kc g.1 f.2).bind λj=>some (f.1,j,g.2)))) else (bif (a.kind == 2) then ((kP x_ a.from_ a.to).bind λh=>((dU c a.from_ a.to).bind λi=>some (h.1,(i.1 == h.2),i.2))) else ((gQ c a.from_).bind λk=>((me x_ a.from_).bind λl=>some (l,true,k))))))
def ij (c:eZ) (acts:List jD):Option Bool :=
 (Option.bind ka λr2=>(bif (!r2) then some false else ((kb c).bind λr7=>((iN (gP.mk r7.cache r7.every r7.addr)).bind λe=>((kz r7).bind λf=>((iter (σ:=aL×aG×Int×Int) (ρ:=(aL×aG) ⊕ Bool) (λa=>(((bif (decide (a.2.2.2 < (acts.length:Int))) then some (decide (a.2.2.2 < 25)) else some false):Option Bool).bind λg=>(bif g then ((idx acts a.2.2.2).bind λd=>((idx acts a.2.2.2).bind λh=>((mG a.2.1 a.1 h (IntKind.i64.wrap (a.2.2.1+(Go.bits .and .i64 d.later 255)))).bind λb=>(((bif (!b.2.1) then some true else ((mF b.2.2 b.1).bind λi=>(bif (!i) then some true else some (decide ((b.1.l.l.length:Int) > b.1.most))))):Option Bool).bind λj=>(bif j then (fp (some false)) else some (.inl (b.1,b.2.2,(IntKind.i64.wrap (a.2.2.1+(Go.bits .and .i64 d.later 255))),(IntKind.i64.wrap (a.2.2.2+1))))))))) else some (.inr (.inl (a.1,a.2.1)))))) (f,e,0,0)).bind λ | .inl e1454=>some true | .inr w=>some w))))))
end Go.Tw.X
end

import Derived.Test.YtdhkangklnlnoaaGreatDoorFw2
set_option linter.unusedVariables false
set_option linter.unusedSimpArgs false
set_option maxRecDepth 10000
noncomputable section
namespace Go.Tw.X
open Go Go.Tw
structure cK where
 b:List Int
 deriving DecidableEq,Inhabited
structure aK where
 s:ByteArray
 e:Int
 deriving DecidableEq,Inhabited
def ng (n_:Int):Option Int :=
 some n_
def oQ (n_:Int):Option Int :=
 some (imax 0 (cD n_ 4611686018427387904))
def kh {σ:Type} (Y:σ->Int->Option (σ×Bool)) (y0:σ) (x1:Int):Option (σ×Int) :=
 ((oQ x1).bind λr1=>((iter (σ:=Int×σ) (ρ:=(Int×σ) ⊕ (σ×Int)) (λa=>(bif (decide (a.1>=128)) then ((Y a.2 (Go.bits .or .u8 (Go.bits .and .u8 (IntKind.u8.wrap a.1) 127) 128)).bind λz68=>(bif (!z68.2) then (fD (some (z68.1,a.1))) else some (.inl ((a.1.fdiv (2 ^ (min 7 64))),z68.1)))) else some (.inr (.inl (a.1,a.2))))) (r1,y0)).bind λ | .inl e53=>((Y e53.2 (IntKind.u8.wrap e53.1)).bind λz75=>some (z75.1,e53.1)) | .inr w=>some w))
def dH (o:cK) (l:List Int):Option cK :=
 ((iter (σ:=cK×Int) (ρ:=cK) (λa=>(bif (decide (a.2 < (l.length:Int))) then ((idx l a.2).bind λe=>((ng e).bind λf=>((kh (λc d=>((chk (cW c.b.length [d].length 1)).bind λ_=>some ((cK.mk (c.b++[d])),true))) (a.1:cK) f).bind λg=>some (.inl (g.1,(IntKind.i64.wrap (a.2+1))))))) else some (.inr a.1))) (o,0)).bind λh=>some h)
def iK (o:cK) (l:List ByteArray):Option cK :=
 ((iter (σ:=cK×Int) (ρ:=cK) (λa=>(bif (decide (a.2 < (l.length:Int))) then ((idx l a.2).bind λc=>((chk (cW a.1.b.length c.size 1)).bind λ_=>some (.inl ((cK.mk (a.1.b++sbs c)),(IntKind.i64.wrap (a.2+1)))))) else some (.inr a.1))) (o,0)).bind λd=>some d)
def ja (o:cK) (l:List ByteArray):Option cK :=
 ((iter (σ:=cK×Int) (ρ:=cK) (λa=>(bif (decide (a.2 < (l.length:Int))) then ((idx l a.2).bind λb=>((dH a.1 [(b.size:Int)]).bind λc=>((iK c [b]).bind λd=>some (.inl (d,(IntKind.i64.wrap (a.2+1))))))) else some (.inr a.1))) (o,0)).bind λe=>some e)
def fG (o:cK):Option ByteArray :=
 some (dL o.b)
def ly (s_:ByteArray):Option aK :=
 some (aK.mk s_ 0)
def bR (in_:aK) (e:Int):Option aK :=
 (((bif (in_.e == 0) then some (e != 0) else some false):Option Bool).bind λe4=>(bif e4 then some (aK.mk (ByteArray.mk #[]) e) else some in_))
def bO (in_:aK):Option (Int×aK) :=
 ((iter (σ:=Int×Int) (ρ:=Unit ⊕ (Int×aK)) (λa=>(bif (decide (a.1 < (cD (in_.s.size:Int) 9))) then ((uz in_.s a.1).bind λb213=>((chk (shk (IntKind.i64.wrap (7*a.1)))).bind λ_=>(bif (decide (b213>=128)) then some (.inl ((IntKind.i64.wrap (a.1+1)),(Go.bits .or .i64 a.2 (IntKind.i64.wrap ((IntKind.i64.wrap (Go.bits .and .u8 b213 127))*2 ^ (min (IntKind.i64.wrap (7*a.1)).toNat 64)))))) else (((bif (decide (a.1 > 0)) then (bif (b213 == 0) then some true else some (decide ((Go.bits .or .i64 a.2 (IntKind.i64.wrap ((IntKind.i64.wrap (Go.bits .and .u8 b213 127))*2 ^ (min (IntKind.i64.wrap (7*a.1)).toNat 64)))) > 4611686018427387904))) else some (decide ((Go.bits .or .i64 a.2 (IntKind.i64.wrap ((IntKind.i64.wrap (Go.bits .and .u8 b213 127))*2 ^ (min (IntKind.i64.wrap (7*a.1)).toNat 64)))) > 4611686018427387904))):Option Bool).bind λb=>(bif b then ((bR in_ 1).bind λc=>(fD (some (0,c)))) else ((chk (eL (IntKind.i64.wrap (a.1+1)) (in_.s.size:Int) in_.s.size)).bind λ_=>(fD (some ((Go.bits .or .i64 a.2 (IntKind.i64.wrap ((IntKind.i64.wrap (Go.bits .and .u8 b213 127))*2 ^ (min (IntKind.i64.wrap (7*a.1)).toNat 64)))),(aK.mk (ik in_.s (IntKind.i64.wrap (a.1+1)) (in_.s.size:Int)) in_.e)))))))))) else some (.inr (.inl ())))) (0,0)).bind λ | .inl e176=>(((bif (decide ((in_.s.size:Int)>=9)) then ((bR in_ 1).bind λd=>some d) else some in_):Option aK).bind λf=>((bR f 2).bind λg=>some (0,g))) | .inr w=>some w)
def lz (in_:aK) (n_:Int):Option (ByteArray×aK) :=
 (bif (decide ((imax 0 n_) > (in_.s.size:Int))) then ((bR in_ 2).bind λr6=>some ((ByteArray.mk #[]),r6)) else ((chk (eL 0 (imax 0 n_) in_.s.size)).bind λ_=>((chk (eL (imax 0 n_) (in_.s.size:Int) in_.s.size)).bind λ_=>some ((ik in_.s 0 (imax 0 n_)),(aK.mk (ik in_.s (imax 0 n_) (in_.s.size:Int)) in_.e)))))
def iL (in_:aK):Option (ByteArray×aK) :=
 ((bO in_).bind λr1=>((lz r1.2 r1.1).bind λr4=>some (r4.1,r4.2)))
def cX (in_:aK):Option Int :=
 some in_.e
def jy (in_:aK):Option Int :=
 (bif (!(in_.s.toList == (ByteArray.mk #[]).toList)) then some 1 else some in_.e)
def kM (in_:aK):Option Int :=
 some (in_.s.size:Int)
structure q5 where
 lead:Int
 rune:Int
 Ie:Int
 deriving DecidableEq,Inhabited
structure pS where
 first:Int
 last:Int
 Ie:Int
 low:Int
 high:Int
 deriving DecidableEq,Inhabited
def vp:List pS:=[⟨194,223,1,128,191⟩,⟨224,224,2,160,191⟩,⟨225,236,2,128,191⟩,⟨237,237,2,128,159⟩,⟨238,239,2,128,191⟩,⟨240,240,3,144,191⟩,⟨241,243,3,128,191⟩,⟨244,244,3,128,143⟩]
structure cO where
 addr:Bool
 buf:List Int
 deriving DecidableEq,Inhabited
structure kV where
 e0:Int
 e1:Int
 e2:Int
 deriving DecidableEq,Inhabited
def nh (x_:Int) (y:Int):Option (Int×Int) :=
 some ((IntKind.u64.wrap ((IntKind.u64.wrap ((IntKind.u64.wrap ((x_.fdiv (2 ^ (min 32 64)))*(y.fdiv (2 ^ (min 32 64)))))+((IntKind.u64.wrap ((IntKind.u64.wrap ((x_.fdiv (2 ^ (min 32 64)))*(Go.bits .and .u64 y 4294967295)))+((IntKind.u64.wrap ((Go.bits .and .u64 x_ 4294967295)*(Go.bits .and .u64 y 4294967295))).fdiv (2 ^ (min 32 64))))).fdiv (2 ^ (min 32 64)))))+((IntKind.u64.wrap ((Go.bits .and .u64 (IntKind.u64.wrap ((IntKind.u64.wrap ((x_.fdiv (2 ^ (min 32 64)))*(Go.bits .and .u64 y 4294967295)))+((IntKind.u64.wrap ((Go.bits .and .u64 x_ 4294967295)*(Go.bits .and .u64 y 4294967295))).fdiv (2 ^ (min 32 64))))) 4294967295)+(IntKind.u64.wrap ((Go.bits .and .u64 x_ 4294967295)*(y.fdiv (2 ^ (min 32 64))))))).fdiv (2 ^ (min 32 64))))),(IntKind.u64.wrap (x_*y)))
def ny (x_:Int) (y:Int):Option (Int×Int) :=
 ((nh x_ y).bind λr1=>some (r1.1,r1.2))
def dT (b:cO) (s_:ByteArray):Option cO :=
 ((chk (cW b.buf.length s_.size 1)).bind λ_=>some (cO.mk true (b.buf++sbs s_)))
def iM (b:cO):Option ByteArray :=
 some (dL b.buf)
def kH (m_:Mp ByteArray):Option (Mp ByteArray) :=
 some m_
def jI (x_:Int):Option Bool :=
 some (x_ != x_)
def iw (x_:Int) (y:Int):Option Int :=
 ((jI x_).bind λr1=>((jI y).bind λr4=>(bif r1 then (bif r4 then some 0 else some (-1)) else (bif r4 then some 1 else (bif (decide (x_ < y)) then some (-1) else (bif (decide (x_ > y)) then some 1 else some 0))))))
structure aP where
 rune:Int
 bU:Int
 part:Int
 deriving DecidableEq,Inhabited
structure aY where
 cells:List aP
 wrapped:Bool
 deriving DecidableEq,Inhabited
structure aN where
 rune:Int
 bU:Int
 deriving DecidableEq,Inhabited
def dZ (x_:List aP) (count:Int):Option (List aP) :=
 (bif (decide (count < 0)) then none else ((ny (IntKind.u64.wrap (x_.length:Int)) (IntKind.u64.wrap count)).bind λr3=>(((bif (decide (r3.1 > 0)) then some true else some (decide (r3.2 > 9223372036854775807))):Option Bool).bind λe9=>(bif e9 then none else ((chk (ux (IntKind.i64.wrap r3.2) 24)).bind λ_=>((iter (σ:=(List aP)×Int) (ρ:=(List aP)) (λa=>(bif (decide (a.2 < (a.1.length:Int))) then ((chk (eL a.2 (a.1.length:Int) a.1.length)).bind λ_=>((chk (eL 0 a.2 a.1.length)).bind λ_=>some (.inl ((vn a.1 a.2.toNat),(IntKind.i64.wrap (a.2+((Nat.min a.2.toNat (a.1.length - a.2.toNat):Nat):Int))))))) else some (.inr a.1))) ((cpy (List.replicate (IntKind.i64.wrap r3.2).toNat (aP.mk 0 0 0)) x_),((Nat.min x_.length (List.replicate (IntKind.i64.wrap r3.2).toNat (aP.mk 0 0 0)).length:Nat):Int))).bind λb=>some b))))))
def fK (s_:List aP):Option (List aP) :=
 ((chk (cW ([]:List aP).length s_.length 24)).bind λ_=>some (([]:List aP)++s_))
def fL (s1_:List aP) (s2_:List aP):Option Bool :=
 (bif ((s1_.length:Int) != (s2_.length:Int)) then some false else ((iter (σ:=Int) (ρ:=Unit ⊕ Bool) (λa=>(bif (decide (a < (s1_.length:Int))) then ((idx s1_ a).bind λb=>((idx s2_ a).bind λc=>(bif (!((b.rune == c.rune) && ((b.bU == c.bU) && ((b.part == c.part) && true)))) then (fD (some false)) else some (.inl (IntKind.i64.wrap (a+1)))))) else some (.inr (.inl ())))) 0).bind λ | .inl e355=>some true | .inr w=>some w))
def jb (r_:aY) (q:aY):Option Bool :=
 (((bif (r_.wrapped == q.wrapped) then ((fL r_.cells q.cells).bind λa=>some a) else some false):Option Bool).bind λb=>some b)
def cS (s_:List aN):Option (List aN) :=
 ((chk (cW ([]:List aN).length s_.length 16)).bind λ_=>some (([]:List aN)++s_))
def dD:List Int:=[0,498536548,997073096,651767980,1994146192,1802195444,1303535960,1342533948,3988292384,4027552580,3604390888,3412177804,2607071920,2262029012,2685067896,3183342108]
def lY (x_:Int) (b:Int):Option Int :=
 ((idx dD (Go.bits .and .u32 (Go.bits .xor .u32 x_ (IntKind.u32.wrap b)) 15)).bind λx1=>((idx dD (Go.bits .and .u32 (Go.bits .xor .u32 ((Go.bits .xor .u32 x_ (IntKind.u32.wrap b)).fdiv (2 ^ (min 4 32))) x1) 15)).bind λx5=>some (Go.bits .xor .u32 ((Go.bits .xor .u32 ((Go.bits .xor .u32 x_ (IntKind.u32.wrap b)).fdiv (2 ^ (min 4 32))) x1).fdiv (2 ^ (min 4 32))) x5)))
def nz (l:List ByteArray):Option Int :=
 ((iter (σ:=Int×Int) (ρ:=Int) (λa=>(bif (decide (a.2 < (l.length:Int))) then ((idx l a.2).bind λc=>((iter (σ:=Int×Int) (ρ:=Int) (λb=>(bif (decide (b.1 < (c.size:Int))) then ((uz c b.1).bind λb642=>((lY b.2 b642).bind λd=>some (.inl ((IntKind.i64.wrap (b.1+1)),d)))) else some (.inr b.2))) (0,a.1)).bind λe=>some (.inl (e,(IntKind.i64.wrap (a.2+1)))))) else some (.inr a.1))) (4294967295,0)).bind λf=>some (Go.bits .xor .u32 4294967295 f))
def lZ (x_:Int):Option ByteArray :=
 some (dL [(IntKind.u8.wrap x_),(IntKind.u8.wrap (x_.fdiv (2 ^ (min 8 32)))),(IntKind.u8.wrap (x_.fdiv (2 ^ (min 16 32)))),(IntKind.u8.wrap (x_.fdiv (2 ^ (min 24 32))))])
def l0 (s_:ByteArray):Option ByteArray :=
 ((nz [s_]).bind λr3=>((lZ r3).bind λr6=>((chk (lu s_.size r6.size)).bind λ_=>some (s_++r6))))
def nA (s_:ByteArray):Option (ByteArray×Bool) :=
 (((bif (decide ((IntKind.i64.wrap ((s_.size:Int) - 4)) < 0)) then some true else ((chk (eL (IntKind.i64.wrap ((s_.size:Int) - 4)) (s_.size:Int) s_.size)).bind λ_=>((chk (eL 0 (IntKind.i64.wrap ((s_.size:Int) - 4)) s_.size)).bind λ_=>((nz [(ik s_ 0 (IntKind.i64.wrap ((s_.size:Int) - 4)))]).bind λa=>((lZ a).bind λb=>some (!((ik s_ (IntKind.i64.wrap ((s_.size:Int) - 4)) (s_.size:Int)).toList == b.toList))))))):Option Bool).bind λc=>(bif c then some ((ByteArray.mk #[]),false) else ((chk (eL 0 (IntKind.i64.wrap ((s_.size:Int) - 4)) s_.size)).bind λ_=>some ((ik s_ 0 (IntKind.i64.wrap ((s_.size:Int) - 4))),true))))
def mw (l:List aN):Option ByteArray :=
 ((dH (cK.mk ([]:List Int)) [(l.length:Int)]).bind λr6=>((iter (σ:=cK×Int) (ρ:=cK) (λa=>(bif (decide (a.2 < (l.length:Int))) then ((idx l a.2).bind λb=>((dH a.1 [(IntKind.i64.wrap b.rune),b.bU]).bind λc=>some (.inl (c,(IntKind.i64.wrap (a.2+1)))))) else some (.inr a.1))) (r6,0)).bind λd=>((fG d).bind λe=>some e)))
def fU (in_:aK) (most:Int):Option (Int×aK) :=
 ((bO in_).bind λr1=>(bif (decide (r1.1 > most)) then ((bR r1.2 1).bind λr9=>some (0,r9)) else some (r1.1,r1.2)))
def jr (in_:aK):Option ((List aN)×aK) :=
 ((fU in_ 1024).bind λr1=>((iter (σ:=aK×(List aN)×Int) (ρ:=(List aN)×aK) (λa=>(bif (decide (a.2.2 < r1.1)) then ((fU a.1 1114111).bind λc=>((fU c.2 647).bind λd=>((chk (cW a.2.1.length [(aN.mk (IntKind.i32.wrap c.1) d.1)].length 16)).bind λ_=>some (.inl (d.2,(a.2.1++[(aN.mk (IntKind.i32.wrap c.1) d.1)]),(IntKind.i64.wrap (a.2.2+1))))))) else some (.inr (a.2.1,a.1)))) (r1.2,[],0)).bind λb=>((cX b.2).bind λe=>(bif (e != 0) then some (([]:List aN),b.2) else some (b.1,b.2)))))
structure aB where
 from_:Int
 to:Int
 deriving DecidableEq,Inhabited
structure cA where
 l:List aB
 deriving DecidableEq,Inhabited
def eS (x_:aB):Option aB :=
 some (aB.mk (imax (-1152921504606846976) (cD x_.from_ 1152921504606846976)) (imax (-1152921504606846976) (cD x_.to 1152921504606846976)))
def jZ (x_:aB) (y:aB):Option aB :=
 some (aB.mk (imax x_.from_ y.from_) (cD x_.to y.to))
def dI (x_:aB):Option Bool :=
 some (decide (x_.to<=x_.from_))
def jc (s_:cA) (x_:aB):Option (List aB) :=
 ((iter (σ:=Int×(List aB)) (ρ:=(List aB)) (λa=>(bif (decide (a.1 < (s_.l.length:Int))) then ((((idx s_.l a.1).bind λc=>((eS x_).bind λd=>((jZ c d).bind λb=>((dI b).bind λe=>(bif (!e) then ((chk (cW a.2.length [b].length 16)).bind λ_=>some (a.2++[b])) else some a.2))))):Option (List aB)).bind λf=>some (.inl ((IntKind.i64.wrap (a.1+1)),f))) else some (.inr a.2))) (0,[])).bind λg=>some g)
def cT (x_:aB) (x1:Int):Option Bool :=
 (((bif (decide (x1>=x_.from_)) then some (decide (x1 < x_.to)) else some false):Option Bool).bind λe5=>some e5)
def cB (s_:List aB) (f_0:Int):Option Int :=
 ((iter (σ:=Int) (ρ:=Unit ⊕ Int) (λa=>(bif (decide (a < (s_.length:Int))) then ((idx s_ a).bind λb=>((cT b f_0).bind λc=>(bif c then (fD (some a)) else some (.inl (IntKind.i64.wrap (a+1)))))) else some (.inr (.inl ())))) 0).bind λ | .inl e77=>some (-1) | .inr w=>some w)
def cM (s_:List aB) (f_0:Int):Option Bool :=
 ((cB s_ f_0).bind λr1=>some (decide (r1>=0)))
def gT (s_:cA) (n_:Int):Option Bool :=
 ((cM s_.l n_).bind λr2=>some r2)
def kW (l:List aB) (x_:aB):Option ((List aB)×aB) :=
 some (l,x_)
def iy {σ:Type} (Y:σ->aB->Option (σ×Bool)) (y0:σ) (x1:List aB) (x2:aB):Option σ :=
 ((iter (σ:=Int×σ) (ρ:=σ ⊕ σ) (λc=>(bif (decide (c.1 < (x1.length:Int))) then ((idx x1 c.1).bind λa=>((iter (σ:=Int×σ) (ρ:=σ ⊕ ((Int×σ) ⊕ (σ ⊕ σ))) (λb=>(bif (decide (b.1 < ([(aB.mk a.from_ (cD a.to x2.from_)),(aB.mk (imax a.from_ x2.to) a.to)].length:Int))) then ((idx [(aB.mk a.from_ (cD a.to x2.from_)),(aB.mk (imax a.from_ x2.to) a.to)] b.1).bind λe=>((((dI e).bind λf=>(bif (!f) then ((Y b.2 e).bind λz2582=>some ((!z2582.2),z2582.1)) else some (false,b.2))):Option (Bool×σ)).bind λd=>(bif d.1 then (fD (fD (some d.2))) else some (.inl ((IntKind.i64.wrap (b.1+1)),d.2))))) else some (.inr (.inl b.2)))) (0,c.2)).bind λ | .inl e2507=>some (.inl ((IntKind.i64.wrap (c.1+1)),e2507)) | .inr w=>some w)) else some (.inr (.inl c.2)))) (0,y0)).bind λ | .inl e1939=>some e1939 | .inr w=>some w)
def ir (s_:cA) (l:List aB):Option cA :=
 ((iter (σ:=cA×Int) (ρ:=cA) (λa=>(bif (decide (a.2 < (l.length:Int))) then ((((idx l a.2).bind λf=>((eS f).bind λb=>((dI b).bind λg=>(bif g then some a.1 else ((kW a.1.l b).bind λc=>((iy (λd e=>((chk (cW d.length [e].length 16)).bind λ_=>some ((d++[e]),true))) ([]:(List aB)) c.1 c.2).bind λh=>some (cA.mk h))))))):Option cA).bind λi=>some (.inl (i,(IntKind.i64.wrap (a.2+1))))) else some (.inr a.1))) (s_,0)).bind λj=>some j)
def fE (n_:Int):Option (List aB) :=
 (bif (decide (n_ < 0)) then none else (((bif (decide ((IntKind.i64.wrap (n_ - (IntKind.i64.wrap (0 - 0)))) > 0)) then ((chk (GI (IntKind.i64.wrap (n_ - (IntKind.i64.wrap (0 - 0)))) 16)).bind λ_=>((chk (eL 0 0 (List.replicate (IntKind.i64.wrap (n_ - (IntKind.i64.wrap (0 - 0)))).toNat (aB.mk 0 0)).length)).bind λ_=>some (cut (List.replicate (IntKind.i64.wrap (n_ - (IntKind.i64.wrap (0 - 0)))).toNat (aB.mk 0 0)) 0 0))) else some []):Option (List aB)).bind λa=>some a))
def dO (slices:List (List aB)):Option (List aB) :=
 ((iter (σ:=Int×Int) (ρ:=Int) (λa=>(bif (decide (a.1 < (slices.length:Int))) then ((idx slices a.1).bind λc=>(bif (decide ((IntKind.i64.wrap (a.2+(c.length:Int))) < 0)) then none else some (.inl ((IntKind.i64.wrap (a.1+1)),(IntKind.i64.wrap (a.2+(c.length:Int))))))) else some (.inr a.2))) (0,0)).bind λe=>((fE e).bind λf=>((iter (σ:=Int×(List aB)) (ρ:=(List aB)) (λb=>(bif (decide (b.1 < (slices.length:Int))) then ((idx slices b.1).bind λd=>((chk (cW b.2.length d.length 16)).bind λ_=>some (.inl ((IntKind.i64.wrap (b.1+1)),(b.2++d))))) else some (.inr b.2))) (0,f)).bind λg=>some g)))
def gB (s_:cA) (l:List aB):Option cA :=
 ((iter (σ:=cA×Int) (ρ:=cA) (λb=>(bif (decide (b.2 < (l.length:Int))) then ((((idx l b.2).bind λe=>((eS e).bind λd=>((dI d).bind λf=>(bif f then some b.1 else ((iter (σ:=aB×Int×(List aB)) (ρ:=((List aB)×aB) ⊕ cA) (λa=>(bif (decide (a.2.1 < (b.1.l.length:Int))) then ((((idx b.1.l a.2.1).bind λc=>(bif (decide (c.to < a.1.from_)) then ((chk (cW a.2.2.length [c].length 16)).bind λ_=>some (.inl ((a.2.2++[c]),a.1))) else (bif (decide (c.from_ > a.1.to)) then ((chk (eL a.2.1 (b.1.l.length:Int) b.1.l.length)).bind λ_=>((dO ([a.2.2,[a.1],(cut b.1.l a.2.1 (b.1.l.length:Int))])).bind λg=>(ot (fD (some (cA.mk g)))))) else some (.inl (a.2.2,(aB.mk (cD a.1.from_ c.from_) (imax a.1.to c.to))))))):Option (((List aB)×aB) ⊕ ((aB×Int×(List aB)) ⊕ (((List aB)×aB) ⊕ cA)))).bind λ | .inl e14292=>some (.inl (e14292.2,(IntKind.i64.wrap (a.2.1+1)),e14292.1)) | .inr w=>some w) else some (.inr (.inl (a.2.2,a.1))))) (d,0,[])).bind λ | .inl e14097=>((chk (cW e14097.1.length [e14097.2].length 16)).bind λ_=>some (cA.mk (e14097.1++[e14097.2]))) | .inr w=>some w))))):Option cA).bind λh=>some (.inl (h,(IntKind.i64.wrap (b.2+1))))) else some (.inr b.1))) (s_,0)).bind λi=>some i)
def eT (s_:List aB):Option (List aB) :=
 ((chk (cW ([]:List aB).length s_.length 16)).bind λ_=>some (([]:List aB)++s_))
def ka (s_:cA):Option (List aB) :=
 ((eT s_.l).bind λr1=>some r1)
def jJ (s_:cA):Option Int :=
 ((iter (σ:=Int×Int) (ρ:=Int) (λa=>(bif (decide (a.1 < (s_.l.length:Int))) then ((idx s_.l a.1).bind λb=>some (.inl ((IntKind.i64.wrap (a.1+1)),(IntKind.i64.wrap (a.2+(IntKind.i64.wrap (b.to - b.from_))))))) else some (.inr a.2))) (0,0)).bind λc=>some c)
def kb (s_:cA):Option cA :=
 ((eT s_.l).bind λr1=>some (cA.mk r1))
structure CacheEntry where
 l:List aN
 at_:Int
 deriving DecidableEq,Inhabited
structure aR where
 most:Int
 now:Int
 l:Mp CacheEntry
 deriving DecidableEq,Inhabited
def lg (most:Int):Option aR :=
 some (aR.mk (imax 1 (cD most 65536)) 0 (some []:Mp CacheEntry))
def gA (c:aR):Option aR :=
 some (aR.mk c.most c.now (E9 c.l))
def eE (c:aR) (i:Int) (l:List aN):Option aR :=
 ((chk c.l.isSome).bind λ_=>some (aR.mk c.most (IntKind.i64.wrap (c.now+1)) (BI c.l i (CacheEntry.mk l (IntKind.i64.wrap (c.now+1))))))
def jd (m_:Mp CacheEntry):Option Unit :=
 some ()
def dY (seq_0:Mp CacheEntry):Option Unit :=
 ((chk seq_0.isSome).bind λ_=>Option.bind (chk (cW (zu seq_0) 1 8)) λ_=>some ())
def eU (a:Int) (b:Int) (x2:aR):Option Int :=
 ((((iw ((mgd x2.l a (CacheEntry.mk ([]:List aN) 0)).at_) ((mgd x2.l b (CacheEntry.mk ([]:List aN) 0)).at_)).bind λc=>some c):Option Int).bind λd=>some d)
def dF (x_:List Int) (cmp_0:aR):Option Int :=
 (bif (decide ((x_.length:Int) < 1)) then none else ((idx x_ 0).bind λx3=>((iter (σ:=Int×Int) (ρ:=Int) (λa=>(bif (decide (a.2 < (x_.length:Int))) then ((((idx x_ a.2).bind λb=>((eU b a.1 cmp_0).bind λc=>(bif (decide (c < 0)) then ((idx x_ a.2).bind λd=>some d) else some a.1))):Option Int).bind λe=>some (.inl (e,(IntKind.i64.wrap (a.2+1))))) else some (.inr a.1))) (x3,1)).bind λf=>some f)))
def gN (c:aR) (i:Int) (l:List aN):Option (Int×Bool×aR) :=
 (((bif (decide (i < 0)) then some true else some (decide (i > 1152921504606846976))):Option Bool).bind λe5=>(bif e5 then some (0,false,c) else ((cS l).bind λd=>((eE c i d).bind λa=>(bif (decide (((zu a.l:Nat):Int)<=a.most)) then some (0,false,a) else ((jd a.l).bind λe=>((dY a.l).bind λf=>(wN (mks a.l) λv64=>((dF v64 a).bind λb=>some (b,true,(aR.mk a.most a.now (BJ a.l b))))))))))))
def dN (c:aR):Option (List aB) :=
 ((chk c.l.isSome).bind λ_=>((wN (c.l.getD []) (λR=>nw (λs=>some (.inr s)) (λe s=>((gB s [(aB.mk e.1 (IntKind.i64.wrap (e.1+1)))]).bind λs2=>some (.inl s2))) R (cA.mk []))).bind λs1=>ka s1))
def eM (c:aR) (i:Int):Option ((List aN)×Bool) :=
 ((cS ((mgd c.l i (CacheEntry.mk ([]:List aN) 0)).l)).bind λr5=>some (r5,(iv c.l i)))
def eY (c:aR) (i:Int):Option ((List aN)×Bool×aR) :=
 (((bif (iv c.l i) then ((eE c i ((mgd c.l i (CacheEntry.mk ([]:List aN) 0)).l)).bind λd=>some d) else some c):Option aR).bind λa=>((eM a i).bind λb=>some (b.1,b.2,a)))
def iN (m_:Mp CacheEntry):Option (Mp CacheEntry) :=
 some m_
def iU (c:aR):Option aR :=
 ((iN c.l).bind λa=>some (aR.mk c.most c.now a))
structure aV where
 aU:Int
 kind:Int
 bB:List Int
 data:ByteArray
 deriving DecidableEq,Inhabited
def iO (n_:Int) (lo:Int) (hi:Int):Option Bool :=
 (((bif (decide (n_>=lo)) then some (decide (n_<=hi)) else some false):Option Bool).bind λe4=>some e4)
def iz (g:aV):Option Bool :=
 ((((iO g.aU 1 4294967296).bind λb=>(bif (!b) then some true else ((iO g.kind 1 4).bind λc=>(bif (!c) then some true else some (decide ((g.bB.length:Int) > 64)))))):Option Bool).bind λd=>(bif d then some false else ((iter (σ:=Int) (ρ:=Unit ⊕ Bool) (λa=>(bif (decide (a < (g.bB.length:Int))) then ((idx g.bB a).bind λe=>((iO e 0 4611686018427387904).bind λf=>(bif (!f) then (fD (some false)) else some (.inl (IntKind.i64.wrap (a+1)))))) else some (.inr (.inl ())))) 0).bind λ | .inl e108=>some true | .inr w=>some w)))
def gO (g:aV):Option ByteArray :=
 ((dH (cK.mk ([]:List Int)) [g.aU,g.kind,(g.bB.length:Int)]).bind λa=>((dH a g.bB).bind λb=>((ja b [g.data]).bind λc=>((fG c).bind λd=>((l0 d).bind λe=>some e)))))
def gP (g:aV):Option Int :=
 ((iz g).bind λa=>(bif (!a) then some 6 else ((gO g).bind λb=>(bif (decide ((b.size:Int) > 8192)) then some 3 else some 0))))
def eC (g:aV):Option ByteArray :=
 ((gP g).bind λr2=>(bif (r2 != 0) then some (ByteArray.mk #[]) else ((gO g).bind λr7=>some r7)))
def my (in_:aK):Option (aV×aK) :=
 ((bO in_).bind λr2=>((bO r2.2).bind λr5=>((bO r5.2).bind λr9=>(((bif (decide (r9.1 > 64)) then ((bR r9.2 1).bind λe=>some e) else some r9.2):Option aK).bind λf=>((iter (σ:=aV×aK×Int) (ρ:=aK×aV) (λa=>(bif (decide (a.2.2 < (cD r9.1 64))) then ((bO a.2.1).bind λc=>((chk (cW a.1.bB.length [c.1].length 8)).bind λ_=>some (.inl ((aV.mk a.1.aU a.1.kind (a.1.bB++[c.1]) a.1.data),c.2,(IntKind.i64.wrap (a.2.2+1)))))) else some (.inr (a.2.1,a.1)))) ((aV.mk r2.1 r5.1 ([]:List Int) (ByteArray.mk #[])),f,0)).bind λb=>((iL b.1).bind λd=>some ((aV.mk b.2.aU b.2.kind b.2.bB d.1),d.2)))))))
def kx (s_:ByteArray):Option (aV×Int) :=
 (bif (decide ((s_.size:Int) > 8192)) then some ((aV.mk 0 0 ([]:List Int) (ByteArray.mk #[])),3) else ((nA s_).bind λr5=>(bif (!r5.2) then some ((aV.mk 0 0 ([]:List Int) (ByteArray.mk #[])),4) else ((ly r5.1).bind λd=>((my d).bind λa=>((jy a.2).bind λb=>(((bif (b == 0) then ((gP a.1).bind λe=>some e) else some b):Option Int).bind λc=>(bif (c != 0) then some ((aV.mk 0 0 ([]:List Int) (ByteArray.mk #[])),c) else some (a.1,0)))))))))
structure bE where
 most:Int
 every:Int
 due:Int
 want:cA
 deriving DecidableEq,Inhabited
def fV (n_:Int) (lo:Int) (hi:Int):Option Int :=
 some (imax lo (cD n_ hi))
def lh (most:Int) (every:Int):Option bE :=
 ((fV most 1 65536).bind λr1=>((fV every 1 1048576).bind λr4=>some (bE.mk r1 r4 0 (cA.mk ([]:List aB)))))
def eG (f:bE) (now:Int) (length:Int):Option ((List aB)×bE) :=
 ((jc f.want (aB.mk 0 length)).bind λr1=>(((bif ((r1.length:Int) == 0) then some true else some (decide (now < f.due))):Option Bool).bind λa=>(bif a then some (([]:List aB),f) else ((chk (eL 0 (cD (r1.length:Int) 8) r1.length)).bind λ_=>some ((cut r1 0 (cD (r1.length:Int) 8)),(bE.mk f.most f.every (IntKind.i64.wrap (now+f.every)) f.want))))))
def dB (f:bE):Option bE :=
 some (bE.mk f.most f.every 0 (cA.mk ([]:List aB)))
def jz (g:aV):Option (Int×(List (List aN))×Int) :=
 (bif (g.kind != 4) then some (0,([]:List (List aN)),5) else (bif ((g.bB.length:Int) != 2) then some (0,([]:List (List aN)),1) else ((ly g.data).bind λr8=>((iter (σ:=aK×(List (List aN))) (ρ:=(List (List aN))×aK) (λa=>((((kM a.1).bind λf=>(bif (decide (f > 0)) then ((idx g.bB 1).bind λh=>some (decide ((a.2.length:Int) < h))) else some false)):Option Bool).bind λi=>(bif i then ((jr a.1).bind λb=>((chk (cW a.2.length [b.1].length 24)).bind λ_=>some (.inl (b.2,(a.2++[b.1]))))) else some (.inr (a.2,a.1))))) (r8,[])).bind λc=>((jy c.2).bind λd=>(((bif (d == 0) then ((idx g.bB 1).bind λj=>some ((c.1.length:Int) != j)) else some false):Option Bool).bind λk=>(((bif k then some 1 else some d):Option Int).bind λe=>(bif (e != 0) then some (0,([]:List (List aN)),e) else ((idx g.bB 0).bind λl=>some (l,c.1,0))))))))))
def mC (is:Bool):Option Int :=
 (bif is then some 1 else some 0)
def eZ (f:bE) (i:Int):Option (Bool×bE) :=
 ((gT f.want i).bind λr1=>((mC (decide (i < 1152921504606846976))).bind λa=>((ir f.want [(aB.mk i (IntKind.i64.wrap (i+a)))]).bind λb=>some (r1,(bE.mk f.most f.every f.due b)))))
def eN (f:bE) (x_:aB) (aJ:List aB):Option (Int×bE) :=
 ((fV x_.from_ 0 1152921504606846976).bind λb=>((fV x_.to 0 1152921504606846976).bind λd=>((dB f).bind λa=>((gB a.want [(aB.mk b (cD d (IntKind.i64.wrap (b+f.most))))]).bind λe=>((ir e aJ).bind λc=>((jJ c).bind λg=>some (g,(bE.mk a.most a.every a.due c))))))))
def iA (f:bE):Option (List aB) :=
 ((ka f.want).bind λr1=>some r1)
def gV (f:bE):Option bE :=
 ((kb f.want).bind λr2=>some (bE.mk f.most f.every f.due r2))
structure BN where
 kind:Int
 rune:Int
 byte:Int
 CR:Bool
 bB:List Int
 text:ByteArray
 deriving DecidableEq,Inhabited
structure yc where
 CR:Bool
 Io:Bool
 any:Bool
 some:Bool
 n:Int
 bB:List Int
 deriving DecidableEq,Inhabited
structure BO where
 state:Int
 order:yc
 text:ByteArray
 Ip:q5
 out:List BN
 deriving DecidableEq,Inhabited
structure aS where
 k:Int
 w:Int
 h:Int
 x:Int
 y:Int
 title:ByteArray
 rows:List aY
 len:Int
 chain:Int
 begun:List aN
 deriving DecidableEq,Inhabited
def fW (s_:aS):Option Bool :=
 (((bif (s_.k == 0) then (bif (s_.w == 0) then (bif (s_.h == 0) then (bif (s_.x == 0) then (bif (s_.y == 0) then (bif (s_.title.toList == (ByteArray.mk #[]).toList) then (bif ((s_.rows.length:Int) == 0) then (bif (s_.len == 0) then (bif (s_.chain == 0) then some ((s_.begun.length:Int) == 0) else some false) else some false) else some false) else some false) else some false) else some false) else some false) else some false) else some false):Option Bool).bind λa=>some a)
def dR (n_:Int) (lo:Int) (hi:Int):Option Bool :=
 (((bif (decide (n_>=lo)) then some (decide (n_<=hi)) else some false):Option Bool).bind λe4=>some e4)
def iB (s_:aS):Option Bool :=
 ((((dR s_.k 1 1152921504606846976).bind λa=>(bif a then ((dR s_.w 1 1000).bind λb=>(bif b then ((dR s_.h 1 1000).bind λc=>(bif c then ((dR s_.x 0 (IntKind.i64.wrap (s_.w - 1))).bind λd=>(bif d then ((dR s_.y 0 (IntKind.i64.wrap (s_.h - 1))).bind λe=>(bif e then (bif ((s_.rows.length:Int) == s_.h) then (bif (decide ((s_.title.size:Int)<=200)) then ((dR s_.len 0 1152921504606846976).bind λf=>(bif f then ((dR s_.chain 0 281474976710656).bind λg=>(bif g then some (decide ((s_.begun.length:Int)<=1024)) else some false)) else some false)) else some false) else some false) else some false)) else some false)) else some false)) else some false)) else some false)):Option Bool).bind λi=>some i)
def ky (r_:Int) (bU:Int):Option Bool :=
 ((((dR (IntKind.i64.wrap r_) 0 1114111).bind λa=>(bif a then ((dR bU 0 647).bind λb=>some b) else some false)):Option Bool).bind λc=>some c)
def gW (g:aN):Option Bool :=
 ((ky g.rune g.bU).bind λr2=>some (!r2))
def cU (s_:List aN):Option Int :=
 ((iter (σ:=Int) (ρ:=Unit ⊕ Int) (λa=>(bif (decide (a < (s_.length:Int))) then ((idx s_ a).bind λb=>((gW b).bind λc=>(bif c then (fD (some a)) else some (.inl (IntKind.i64.wrap (a+1)))))) else some (.inr (.inl ())))) 0).bind λ | .inl e77=>some (-1) | .inr w=>some w)
def cH (s_:List aN):Option Bool :=
 ((cU s_).bind λr1=>some (decide (r1>=0)))
def mD (c:aP):Option Bool :=
 ((((ky c.rune c.bU).bind λa=>(bif a then ((dR c.part 0 3).bind λb=>some b) else some false)):Option Bool).bind λd=>some d)
def gX (c:aP):Option Bool :=
 ((mD c).bind λr2=>some (!r2))
def cY (s_:List aP):Option Int :=
 ((iter (σ:=Int) (ρ:=Unit ⊕ Int) (λa=>(bif (decide (a < (s_.length:Int))) then ((idx s_ a).bind λb=>((gX b).bind λc=>(bif c then (fD (some a)) else some (.inl (IntKind.i64.wrap (a+1)))))) else some (.inr (.inl ())))) 0).bind λ | .inl e77=>some (-1) | .inr w=>some w)
def cE (s_:List aP):Option Bool :=
 ((cY s_).bind λr1=>some (decide (r1>=0)))
def fX (s_:aS):Option Int :=
 ((fW s_).bind λr2=>(bif r2 then some 0 else ((((iB s_).bind λc=>(bif (!c) then some true else ((cH s_.begun).bind λd=>some d))):Option Bool).bind λe=>(bif e then some 1 else ((iter (σ:=Int) (ρ:=Unit ⊕ Int) (λa=>(bif (decide (a < (s_.rows.length:Int))) then ((idx s_.rows a).bind λb=>(((bif ((b.cells.length:Int) != s_.w) then some true else ((cE b.cells).bind λf=>some f)):Option Bool).bind λg=>(bif g then (fD (some 1)) else some (.inl (IntKind.i64.wrap (a+1)))))) else some (.inr (.inl ())))) 0).bind λ | .inl e212=>some 0 | .inr w=>some w)))))
def oR (is:Bool):Option Int :=
 (bif is then some 1 else some 0)
def nM (l:List aP):Option (List aP) :=
 some l
def mj {σ:Type} (Y:σ->(Int×aP)->Option (σ×Bool)) (y0:σ) (x1:List aP):Option (σ×(List aP)) :=
 ((iter (σ:=(List aP)×σ) (ρ:=((List aP)×σ) ⊕ (σ×(List aP))) (λa=>(bif (decide ((a.1.length:Int) > 0)) then ((iter (σ:=Int) (ρ:=Int) (λb=>(((bif (decide (b < (a.1.length:Int))) then ((idx a.1 b).bind λc=>((idx a.1 0).bind λd=>some ((c.rune == d.rune) && ((c.bU == d.bU) && ((c.part == d.part) && true))))) else some false):Option Bool).bind λf=>(bif f then some (.inl (IntKind.i64.wrap (b+1))) else some (.inr b)))) 1).bind λe=>((idx a.1 0).bind λg=>((Y a.2 (e,g)).bind λz1399=>(bif (!z1399.2) then (fD (some (z1399.1,a.1))) else ((chk (eL e (a.1.length:Int) a.1.length)).bind λ_=>some (.inl ((cut a.1 e (a.1.length:Int)),z1399.1))))))) else some (.inr (.inl (a.1,a.2))))) (x1,y0)).bind λ | .inl e1058=>some (e1058.2,e1058.1) | .inr w=>some w)
def ki (r_:aY):Option ByteArray :=
 ((oR r_.wrapped).bind λr3=>((dH (cK.mk ([]:List Int)) [r3]).bind λb=>((nM r_.cells).bind λc=>((mj (λd a=>((dH d [a.1,(IntKind.i64.wrap a.2.rune),a.2.bU,a.2.part]).bind λe=>some (e,true))) (b:cK) c).bind λf=>((fG f.1).bind λg=>some g)))))
def ic (s_:aS):Option ByteArray :=
 ((((fW s_).bind λb=>(bif b then some true else ((fX s_).bind λc=>some (c != 0)))):Option Bool).bind λd=>(bif d then some (ByteArray.mk #[]) else ((dH (cK.mk ([]:List Int)) [s_.k,s_.w,s_.h,s_.x,s_.y]).bind λe=>((ja e [s_.title]).bind λf=>((dH f [s_.len,s_.chain]).bind λg=>((mw s_.begun).bind λi=>((iK g [i]).bind λj=>((iter (σ:=cK×Int) (ρ:=cK) (λa=>(bif (decide (a.2 < (s_.rows.length:Int))) then ((idx s_.rows a.2).bind λl=>((ki l).bind λm=>((iK a.1 [m]).bind λn=>some (.inl (n,(IntKind.i64.wrap (a.2+1))))))) else some (.inr a.1))) (j,0)).bind λo=>((fG o).bind λp=>some p)))))))))
def tu (in_:aK):Option (Int×aK) :=
 ((bO in_).bind λr1=>(bif (decide (r1.1 > 1000)) then ((bR r1.2 1).bind λr9=>some (0,r9)) else some (r1.1,r1.2)))
def l7 (in_:aK) (left:Int):Option (Int×aP×Bool×aK) :=
 ((bO in_).bind λr2=>(((bif (r2.1 == 0) then some true else some (decide (r2.1 > left))):Option Bool).bind λe8=>(((bif e8 then ((bR r2.2 1).bind λf=>some f) else some r2.2):Option aK).bind λc=>((iter (σ:=kV×aK×Int) (ρ:=kV×aK) (λa=>(bif (decide (a.2.2 < 3)) then ((((idx [1114111,647,3] a.2.2).bind λg=>((bO a.2.1).bind λb=>((chk (CJ a.2.2 3)).bind λ_=>((chk (CJ a.2.2 3)).bind λ_=>((idx [(sel a.2.2 0 b.1 a.1.e0),(sel a.2.2 1 b.1 a.1.e1),(sel a.2.2 2 b.1 a.1.e2)] a.2.2).bind λh=>(bif (decide (h > g)) then ((bR b.2 1).bind λi=>some ((kV.mk (sel a.2.2 0 b.1 a.1.e0) (sel a.2.2 1 b.1 a.1.e1) (sel a.2.2 2 b.1 a.1.e2)),i)) else some ((kV.mk (sel a.2.2 0 b.1 a.1.e0) (sel a.2.2 1 b.1 a.1.e1) (sel a.2.2 2 b.1 a.1.e2)),b.2))))))):Option (kV×aK)).bind λe=>some (.inl (e.1,e.2,(IntKind.i64.wrap (a.2.2+1))))) else some (.inr (a.1,a.2.1)))) ((kV.mk 0 0 0),c,0)).bind λd=>((cX d.2).bind λj=>(bif (j != 0) then some (0,(aP.mk 0 0 0),false,d.2) else some (r2.1,(aP.mk (IntKind.i32.wrap d.1.e0) d.1.e1 d.1.e2),true,d.2)))))))
def je (in_:aK) (w:Int):Option (aY×aK) :=
 ((bO in_).bind λr2=>(((bif (decide (r2.1 > 1)) then ((bR r2.2 1).bind λf=>some f) else some r2.2):Option aK).bind λg=>((iter (σ:=aK×(List aP)) (ρ:=(List aP)×aK) (λa=>(((bif (decide ((a.2.length:Int) < w)) then ((cX a.1).bind λh=>some (h == 0)) else some false):Option Bool).bind λi=>(bif i then ((l7 a.1 (IntKind.i64.wrap (w - (a.2.length:Int)))).bind λb=>(bif (!b.2.2.1) then some (.inl (b.2.2.2,a.2)) else (((bif (decide ((a.2.length:Int) > 0)) then ((idx a.2 (IntKind.i64.wrap ((a.2.length:Int) - 1))).bind λd=>some ((d.rune == b.2.1.rune) && ((d.bU == b.2.1.bU) && ((d.part == b.2.1.part) && true)))) else some false):Option Bool).bind λj=>(bif j then ((bR b.2.2.2 1).bind λk=>some (.inl (k,a.2))) else ((dZ [b.2.1] b.1).bind λe=>((chk (cW a.2.length e.length 24)).bind λ_=>some (.inl (b.2.2.2,(a.2++e))))))))) else some (.inr (a.2,a.1))))) (g,[])).bind λc=>((cX c.2).bind λl=>(bif (l != 0) then some ((aY.mk ([]:List aP) false),c.2) else some ((aY.mk c.1 (r2.1 == 1)),c.2))))))
def fY (s_:aS):Option aS :=
 ((iter (σ:=(List aY)×Int) (ρ:=(List aY)) (λa=>(bif (decide (a.2 < (s_.rows.length:Int))) then ((idx s_.rows a.2).bind λb=>((fK b.cells).bind λc=>((chk (cW a.1.length [(aY.mk c b.wrapped)].length 32)).bind λ_=>some (.inl ((a.1++[(aY.mk c b.wrapped)]),(IntKind.i64.wrap (a.2+1))))))) else some (.inr a.1))) ([],0)).bind λd=>((cS s_.begun).bind λe=>some (aS.mk s_.k s_.w s_.h s_.x s_.y s_.title d s_.len s_.chain e)))
def jK (s_:aS):Option Int :=
 ((ic s_).bind λr2=>((nz [r2]).bind λr7=>some (IntKind.i64.wrap r7)))
structure bT where
 sum:Int
 to:aS
 rows:Mp aY
 deriving DecidableEq,Inhabited
def kj (s_:aS):Option Bool :=
 ((ic s_).bind λr2=>some (!(r2.toList == (ByteArray.mk #[]).toList)))
def hG (s_:aS) (y:Int):Option (aY×Bool) :=
 (((bif (decide (y < 0)) then some true else some (decide (y>=(s_.rows.length:Int)))):Option Bool).bind λe6=>(bif e6 then some ((aY.mk ([]:List aP) false),false) else ((idx s_.rows y).bind λa=>some (a,true))))
def jA (in_:aK):Option (Int×aK) :=
 ((bO in_).bind λr1=>(bif (decide (r1.1 > 1000)) then ((bR r1.2 1).bind λr9=>some (0,r9)) else some (r1.1,r1.2)))
def lA (s_:ByteArray):Option (bT×Int) :=
 ((ly s_).bind λr2=>((bO r2).bind λr6=>((bO r6.2).bind λd=>((jA d.2).bind λe=>((jA e.2).bind λf=>((bO f.2).bind λg=>((bO g.2).bind λi=>((iL i.2).bind λj=>((bO j.2).bind λl=>((bO l.2).bind λm=>((jr m.2).bind λn=>((bO n.2).bind λo=>((iter (σ:=bT×aK×Int×Int) (ρ:=aK×bT) (λa=>(((bif (decide (a.2.2.2 > 0)) then ((cX a.2.1).bind λq=>some (q == 0)) else some false):Option Bool).bind λr=>(bif r then ((bO a.2.1).bind λc=>(((bif (decide (c.1<=a.2.2.1)) then some true else some (decide (c.1>=a.1.to.h))):Option Bool).bind λs=>(((bif s then ((bR c.2 1).bind λt=>some t) else some c.2):Option aK).bind λu=>((je u a.1.to.w).bind λp=>((chk a.1.rows.isSome).bind λ_=>some (.inl ((bT.mk a.1.sum (aS.mk a.1.to.k a.1.to.w a.1.to.h a.1.to.x a.1.to.y a.1.to.title ([]:List aY) a.1.to.len a.1.to.chain a.1.to.begun) (BI a.1.rows c.1 p.1)),p.2,c.1,(IntKind.i64.wrap (a.2.2.2 - 1))))))))) else some (.inr (a.2.1,(bT.mk a.1.sum (aS.mk a.1.to.k a.1.to.w a.1.to.h a.1.to.x a.1.to.y a.1.to.title ([]:List aY) a.1.to.len a.1.to.chain a.1.to.begun) a.1.rows)))))) ((bT.mk r6.1 (aS.mk d.1 e.1 f.1 g.1 i.1 j.1 ([]:List aY) l.1 m.1 n.1) (some []:Mp aY)),o.2,(-1),o.1)).bind λb=>((jy b.1).bind λv=>some ((bT.mk b.2.sum (aS.mk b.2.to.k b.2.to.w b.2.to.h b.2.to.x b.2.to.y b.2.to.title ([]:List aY) b.2.to.len b.2.to.chain b.2.to.begun) b.2.rows),v)))))))))))))))
def eV (p:bT) (a:aS):Option (Bool×bT) :=
 ((iter (σ:=bT×Int) (ρ:=bT ⊕ (Bool×bT)) (λb=>(bif (decide (b.2 < p.to.h)) then ((hG a b.2).bind λc=>(((((bif (iv b.1.rows b.2) then (bif c.2 then ((jb c.1 (mgd b.1.rows b.2 (aY.mk ([]:List aP) false))).bind λe=>some e) else some false) else some false):Option Bool).bind λd=>(((bif d then some d else (bif (!(iv b.1.rows b.2)) then some (!c.2) else some false)):Option Bool).bind λf=>(bif f then (ot (fD (some (false,(bT.mk b.1.sum (aS.mk b.1.to.k b.1.to.w b.1.to.h b.1.to.x b.1.to.y b.1.to.title b.1.to.rows b.1.to.len b.1.to.chain b.1.to.begun) b.1.rows))))) else (bif (!(iv b.1.rows b.2)) then some (.inl c.1) else some (.inl (mgd b.1.rows b.2 (aY.mk ([]:List aP) false))))))):Option (aY ⊕ ((bT×Int) ⊕ (bT ⊕ (Bool×bT))))).bind λ | .inl e1033=>((chk (cW b.1.to.rows.length [e1033].length 32)).bind λ_=>some (.inl ((bT.mk b.1.sum (aS.mk b.1.to.k b.1.to.w b.1.to.h b.1.to.x b.1.to.y b.1.to.title (b.1.to.rows++[e1033]) b.1.to.len b.1.to.chain b.1.to.begun) b.1.rows),(IntKind.i64.wrap (b.2+1))))) | .inr w=>some w)) else some (.inr (.inl (bT.mk b.1.sum (aS.mk b.1.to.k b.1.to.w b.1.to.h b.1.to.x b.1.to.y b.1.to.title b.1.to.rows b.1.to.len b.1.to.chain b.1.to.begun) b.1.rows))))) (p,0)).bind λ | .inl e816=>((kj (aS.mk e816.to.k e816.to.w e816.to.h e816.to.x e816.to.y e816.to.title e816.to.rows e816.to.len e816.to.chain e816.to.begun)).bind λg=>some (g,(bT.mk e816.sum (aS.mk e816.to.k e816.to.w e816.to.h e816.to.x e816.to.y e816.to.title e816.to.rows e816.to.len e816.to.chain e816.to.begun) e816.rows))) | .inr w=>some w)
def kN (a:aS) (s_:ByteArray):Option (aS×Int) :=
 ((fX a).bind λr3=>(bif (r3 != 0) then some ((aS.mk 0 0 0 0 0 (ByteArray.mk #[]) ([]:List aY) 0 0 ([]:List aN)),1) else ((lA s_).bind λb=>(bif (b.2 != 0) then some ((aS.mk 0 0 0 0 0 (ByteArray.mk #[]) ([]:List aY) 0 0 ([]:List aN)),b.2) else ((jK a).bind λd=>(bif (b.1.sum != d) then some ((aS.mk 0 0 0 0 0 (ByteArray.mk #[]) ([]:List aY) 0 0 ([]:List aN)),7) else ((eV b.1 a).bind λc=>(bif (!c.1) then some ((aS.mk 0 0 0 0 0 (ByteArray.mk #[]) ([]:List aY) 0 0 ([]:List aN)),1) else ((fY c.2.to).bind λe=>some (e,0))))))))))
structure bV where
 key:Int
 count:Int
 parts:Mp ByteArray
 bytes:Int
 deriving DecidableEq,Inhabited
def jf (s_:bV) (key:Int) (index:Int) (count:Int) (data:ByteArray):Option (Int×bV) :=
 (((((bif (decide (count < 1)) then some true else (bif (decide (count > 4096)) then some true else (bif (decide (index < 0)) then some true else (bif (decide (index>=count)) then some true else some (decide (key < 1)))))):Option Bool).bind λa=>(bif a then (ot (some (6,s_))) else (bif (decide (key < s_.key)) then (ot (some (8,s_))) else (bif (decide (key > s_.key)) then some (.inl (bV.mk key count (some []:Mp ByteArray) 0)) else (bif (count != s_.count) then (ot (some (1,s_))) else some (.inl s_)))))):Option (bV ⊕ (Int×bV))).bind λ | .inl e48=>(((bif (!(iv e48.parts index)) then ((chk e48.parts.isSome).bind λ_=>some (bV.mk e48.key e48.count (BI e48.parts index data) (IntKind.i64.wrap (e48.bytes+(data.size:Int))))) else some e48):Option bV).bind λb=>some (0,b)) | .inr w=>some w)
def gQ {σ:Type} (s_:bV) (Y:σ->(Int×Bool)->Option (σ×Bool)) (y0:σ):Option σ :=
 ((iter (σ:=Int×σ) (ρ:=σ ⊕ σ) (λa=>(bif (decide (a.1 < s_.count)) then ((Y a.2 (a.1,(iv s_.parts a.1))).bind λz64=>(bif (!z64.2) then (fD (some z64.1)) else some (.inl ((IntKind.i64.wrap (a.1+1)),z64.1)))) else some (.inr (.inl a.2)))) (0,y0)).bind λ | .inl e49=>some e49 | .inr w=>some w)
def ie (s_:bV):Option Int :=
 some s_.count
def gF (s_:bV) (there:Bool):Option (List Int) :=
 ((gQ s_ (λs32 x3=>(bif (x3.2 == there) then ((chk (cW s32.length [x3.1].length 8)).bind λ_=>some ((s32++[x3.1]),true)) else some (s32,true))) ([]:(List Int))).bind λa=>some a)
def eH (s_:bV):Option (List Int) :=
 ((gF s_ true).bind λr1=>some r1)
def l8 (s_:bV):Option Int :=
 some s_.key
def fI (s_:bV):Option (ByteArray×Bool) :=
 (((bif (s_.key == 0) then some true else some (decide (((zu s_.parts:Nat):Int) < s_.count))):Option Bool).bind λe7=>(bif e7 then some ((ByteArray.mk #[]),false) else ((gQ s_ (λa d=>((dT (cO.mk a.addr a.buf) (mgd s_.parts d.1 (ByteArray.mk #[]))).bind λb=>some ((cO.mk b.addr b.buf),true))) ((cO.mk false ([]:List Int)):cO)).bind λc=>((iM (cO.mk c.addr c.buf)).bind λe=>some (e,true)))))
def iV (s_:bV):Option bV :=
 some (bV.mk 0 0 none 0)
def jB (s_:bV):Option bV :=
 ((kH s_.parts).bind λr2=>some (bV.mk s_.key s_.count r2 s_.bytes))
structure bA where
 slot:bV
 aJ:aS
 deriving DecidableEq,Inhabited
def mE:Option bA :=
 some (bA.mk (bV.mk 0 0 none 0) (aS.mk 0 0 0 0 0 (ByteArray.mk #[]) ([]:List aY) 0 0 ([]:List aN)))
def iW (t_:bA) (g:aV):Option (Int×bA) :=
 (bif (g.kind != 1) then some (5,(bA.mk t_.slot t_.aJ)) else (bif ((g.bB.length:Int) != 5) then some (1,(bA.mk t_.slot t_.aJ)) else ((idx g.bB 1).bind λb=>(bif (decide (b<=t_.aJ.k)) then some (8,(bA.mk t_.slot t_.aJ)) else ((((idx g.bB 2).bind λc=>(bif (c != 0) then ((idx g.bB 2).bind λd=>some (d != t_.aJ.k)) else some false)):Option Bool).bind λe=>(bif e then some (7,(bA.mk t_.slot t_.aJ)) else ((idx g.bB 0).bind λf=>((idx g.bB 3).bind λh=>((idx g.bB 4).bind λi=>((jf t_.slot f h i g.data).bind λa=>some (a.1,(bA.mk a.2 t_.aJ))))))))))))
def dS (t_:bA):Option aV :=
 ((ie t_.slot).bind λr2=>((chk (ux (IntKind.i64.wrap ((IntKind.i64.wrap ((IntKind.i64.wrap (r2+8)) - 1)).tdiv 8)) 1)).bind λ_=>((eH t_.slot).bind λr9=>((iter (σ:=Int×(List Int)) (ρ:=(List Int)) (λa=>(bif (decide (a.1 < (r9.length:Int))) then ((idx r9 a.1).bind λb=>((idx a.2 (IntKind.i64.wrap (b.tdiv 8))).bind λc=>((chk (shk (b.tmod 8))).bind λ_=>((idx a.2 (IntKind.i64.wrap (b.tdiv 8))).bind λf=>some (.inl ((IntKind.i64.wrap (a.1+1)),(a.2.set ((IntKind.i64.wrap (b.tdiv 8)).toNat) (Go.bits .or .u8 c (IntKind.u8.wrap (1*2 ^ (min (b.tmod 8).toNat 8))))))))))) else some (.inr a.2))) (0,(List.replicate (IntKind.i64.wrap ((IntKind.i64.wrap ((IntKind.i64.wrap (r2+8)) - 1)).tdiv 8)).toNat (0:Int)))).bind λd=>((l8 t_.slot).bind λe=>some (aV.mk 1 2 [t_.aJ.k,e] (dL d)))))))
def cQ (t_:bA):Option aS :=
 ((fY t_.aJ).bind λr2=>some r2)
def iX (t_:bA):Option bA :=
 (Option.bind mE λr1=>some (bA.mk r1.slot r1.aJ))
def ig (t_:bA) (g:aV):Option (Int×bA) :=
 ((iW t_ g).bind λr2=>(bif (r2.1 != 0) then some (r2.1,r2.2) else ((fI r2.2.slot).bind λc=>(bif (!c.2) then some (0,r2.2) else ((iV r2.2.slot).bind λb=>((idx g.bB 2).bind λe=>(((bif (e != 0) then some r2.2.aJ else some (aS.mk 0 0 0 0 0 (ByteArray.mk #[]) ([]:List aY) 0 0 ([]:List aN))):Option aS).bind λf=>((kN f c.1).bind λa=>(((bif (a.2 == 0) then ((idx g.bB 1).bind λh=>some (a.1.k != h)) else some false):Option Bool).bind λi=>(((bif i then some 1 else some a.2):Option Int).bind λd=>(((bif (d == 0) then some (bA.mk b a.1) else some (bA.mk b r2.2.aJ)):Option bA).bind λj=>some (d,(bA.mk b j.aJ)))))))))))))
def iY (t_:bA):Option bA :=
 ((jB t_.slot).bind λa=>((fY t_.aJ).bind λb=>some (bA.mk a b)))
structure iC where
 cache:Int
 every:Int
 addr:Int
 deriving DecidableEq,Inhabited
structure aF where
 config:iC
 aU:Int
 due:Int
 aM:bA
 lines:aR
 bF:bE
 deriving DecidableEq,Inhabited
def dJ (n_:Int) (lo:Int) (hi:Int):Option Int :=
 some (imax lo (cD n_ hi))
def jC (c:iC):Option aF :=
 ((dJ c.cache 1 65536).bind λa=>((dJ c.every 1 1048576).bind λb=>((dJ c.addr 0 4294967296).bind λe=>(Option.bind mE λd=>((lg a).bind λf=>((lh a b).bind λg=>some (aF.mk (iC.mk a b e) 0 0 (bA.mk d.slot d.aJ) f g)))))))
def dU (c:aF) (now:Int):Option ((List ByteArray)×aF) :=
 (((bif (decide (now>=c.due)) then ((dS (bA.mk c.aM.slot c.aM.aJ)).bind λi=>((chk (cW ([]:List aV).length [i].length 56)).bind λ_=>some ((([]:List aV)++[i]),(aF.mk c.config c.aU (IntKind.i64.wrap (now+c.config.every)) (bA.mk c.aM.slot c.aM.aJ) c.lines c.bF)))) else some ([],(aF.mk c.config c.aU c.due (bA.mk c.aM.slot c.aM.aJ) c.lines c.bF))):Option ((List aV)×aF)).bind λa=>((cQ (bA.mk c.aM.slot c.aM.aJ)).bind λl=>((eG c.bF now l.len).bind λf=>((iter (σ:=Int×(List Int)) (ρ:=(List Int)) (λb=>(bif (decide (b.1 < (f.1.length:Int))) then ((idx f.1 b.1).bind λe=>((chk (cW b.2.length [e.from_,e.to].length 8)).bind λ_=>some (.inl ((IntKind.i64.wrap (b.1+1)),(b.2++[e.from_,e.to]))))) else some (.inr b.2))) (0,[])).bind λg=>(((bif (decide ((g.length:Int) > 0)) then ((chk (cW a.1.length ([(aV.mk 0 3 g (ByteArray.mk #[]))]).length 56)).bind λ_=>some (a.1++[(aV.mk 0 3 g (ByteArray.mk #[]))])) else some a.1):Option (List aV)).bind λj=>((iter (σ:=Int×(List ByteArray)) (ρ:=(List ByteArray)) (λd=>(bif (decide (d.1 < (j.length:Int))) then ((idx j d.1).bind λh=>((eC (aV.mk (imax 1 a.2.aU) h.kind h.bB h.data)).bind λk=>((chk (cW d.2.length [k].length 16)).bind λ_=>some (.inl ((IntKind.i64.wrap (d.1+1)),(d.2++[k])))))) else some (.inr d.2))) (0,[])).bind λm=>some (m,(aF.mk (iC.mk a.2.config.cache a.2.config.every a.2.config.addr) a.2.aU a.2.due (bA.mk c.aM.slot c.aM.aJ) c.lines f.2))))))))
def eO (c:aF) (aU:Int):Option aF :=
 ((iX c.aM).bind λr1=>((gA c.lines).bind λa=>((dB c.bF).bind λb=>some (aF.mk c.config aU c.due r1 a b))))
def fM (c:aF) (g:aV):Option (Int×aF) :=
 ((jz g).bind λr2=>((iter (σ:=aR×bE×Int) (ρ:=aR×bE) (λa=>(bif (decide (a.2.2 < (r2.2.1.length:Int))) then ((((idx r2.2.1 a.2.2).bind λf=>((eZ a.2.1 (IntKind.i64.wrap (r2.1+a.2.2))).bind λb=>(bif b.1 then ((gN a.1 (IntKind.i64.wrap (r2.1+a.2.2)) f).bind λh=>some (h.2.2,b.2)) else some (a.1,b.2)))):Option (aR×bE)).bind λd=>some (.inl (d.1,d.2,(IntKind.i64.wrap (a.2.2+1))))) else some (.inr (a.1,a.2.1)))) (c.lines,c.bF,0)).bind λe=>some (r2.2.2,(aF.mk c.config c.aU c.due c.aM e.1 e.2))))
def dV (c:aF) (now:Int) (data:ByteArray):Option (Int×aF) :=
 ((kx data).bind λr1=>(((bif (r1.2 != 0) then (ot (some (r1.2,c))) else (((bif (r1.1.kind != 1) then some (r1.1.kind != 4) else some false):Option Bool).bind λd=>(bif d then (ot (some (5,c))) else (bif (decide (r1.1.aU < c.aU)) then (ot (some (8,c))) else (bif (decide (r1.1.aU > c.aU)) then ((eO c r1.1.aU).bind λe=>some (.inl e)) else some (.inl c)))))):Option (aF ⊕ (Int×aF))).bind λ | .inl e79=>(bif (r1.1.kind == 4) then ((fM e79 r1.1).bind λa=>some (a.1,a.2)) else ((ig e79.aM r1.1).bind λb=>some (b.1,(aF.mk e79.config e79.aU e79.due b.2 e79.lines e79.bF)))) | .inr w=>some w))
def fB (c:aF):Option Int :=
 some c.aU
def fN (c:aF):Option Int :=
 some c.config.addr
def dW (c:aF) (from_:Int) (to:Int):Option (Int×aF) :=
 ((dJ from_ 0 1152921504606846976).bind λr1=>((dJ to 0 1152921504606846976).bind λr4=>((dN c.lines).bind λr7=>((gB (cA.mk ([]:List aB)) r7).bind λg=>((jc g (aB.mk r1 (cD r4 (IntKind.i64.wrap (r1+c.config.cache))))).bind λd=>((iter (σ:=aR×Int) (ρ:=aR) (λa=>(bif (decide (a.2 < (d.length:Int))) then ((idx d a.2).bind λe=>((iter (σ:=aR×Int) (ρ:=aR) (λb=>(bif (decide (b.2 < e.to)) then ((eY b.1 b.2).bind λh=>some (.inl (h.2.2,(IntKind.i64.wrap (b.2+1))))) else some (.inr b.1))) (a.1,e.from_)).bind λi=>some (.inl (i,(IntKind.i64.wrap (a.2+1)))))) else some (.inr a.1))) (c.lines,0)).bind λj=>((eN c.bF (aB.mk r1 (cD r4 (IntKind.i64.wrap (r1+c.config.cache)))) r7).bind λf=>some (f.1,(aF.mk c.config c.aU c.due c.aM j f.2)))))))))
def gD (c:aF):Option (List aB) :=
 ((dN c.lines).bind λr1=>some r1)
def fZ (c:aF):Option (List aB) :=
 ((iA c.bF).bind λr1=>some r1)
def gL (c:aF):Option aS :=
 ((cQ c.aM).bind λr2=>some r2)
def fO (c:aF) (i:Int):Option ((List aN)×Bool) :=
 ((cQ c.aM).bind λr1=>(bif (decide (i>=r1.len)) then some (([]:List aN),false) else ((eM c.lines i).bind λa=>some (a.1,a.2))))
def iD (c:aF) (addr:Int):Option aF :=
 ((dJ addr 0 4294967296).bind λr1=>some (aF.mk (iC.mk c.config.cache c.config.every r1) c.aU c.due c.aM c.lines c.bF))
def gE (c:aF):Option aF :=
 ((iY c.aM).bind λa=>((iU c.lines).bind λb=>((gV c.bF).bind λd=>some (aF.mk c.config c.aU c.due a b d))))
def lj (s_:ByteArray) (n_:Int):Option ByteArray :=
 (bif (decide ((s_.size:Int) > n_)) then ((chk (eL 0 n_ s_.size)).bind λ_=>some (ik s_ 0 n_)) else some s_)
structure dE where
 rune:Int
 bU:Int
 part:Int
 deriving DecidableEq,Inhabited
structure bK where
 l:List dE
 wrapped:Bool
 deriving DecidableEq,Inhabited
structure aO where
 rune:Int
 bU:Int
 deriving DecidableEq,Inhabited
def k7 (r_:aY) (x_:bK):Option Bool :=
 (((bif ((r_.cells.length:Int) != (x_.l.length:Int)) then some true else some (!(r_.wrapped == x_.wrapped))):Option Bool).bind λe6=>(bif e6 then some false else ((iter (σ:=Int) (ρ:=Unit ⊕ Bool) (λa=>(bif (decide (a < (r_.cells.length:Int))) then ((idx r_.cells a).bind λb=>((((idx x_.l a).bind λc=>(bif ((IntKind.i64.wrap b.rune) != c.rune) then some true else ((idx x_.l a).bind λd=>(bif (b.bU != d.bU) then some true else ((idx x_.l a).bind λe=>some (b.part != e.part)))))):Option Bool).bind λf=>(bif f then (fD (some false)) else some (.inl (IntKind.i64.wrap (a+1)))))) else some (.inr (.inl ())))) 0).bind λ | .inl e712=>some true | .inr w=>some w)))
def jg (l:List aN) (x_:List aO):Option Bool :=
 (bif ((l.length:Int) != (x_.length:Int)) then some false else ((iter (σ:=Int) (ρ:=Unit ⊕ Bool) (λa=>(bif (decide (a < (l.length:Int))) then ((idx l a).bind λb=>((((idx x_ a).bind λc=>(bif ((IntKind.i64.wrap b.rune) != c.rune) then some true else ((idx x_ a).bind λd=>some (b.bU != d.bU)))):Option Bool).bind λe=>(bif e then (fD (some false)) else some (.inl (IntKind.i64.wrap (a+1)))))) else some (.inr (.inl ())))) 0).bind λ | .inl e523=>some true | .inr w=>some w))
def lB (l:List aY) (x_:List bK):Option Bool :=
 (bif ((l.length:Int) != (x_.length:Int)) then some false else ((iter (σ:=Int) (ρ:=Unit ⊕ Bool) (λa=>(bif (decide (a < (x_.length:Int))) then ((idx l a).bind λb=>((idx x_ a).bind λc=>((k7 b c).bind λd=>(bif (!d) then (fD (some false)) else some (.inl (IntKind.i64.wrap (a+1))))))) else some (.inr (.inl ())))) 0).bind λ | .inl e571=>some true | .inr w=>some w))
structure aD where
 from_:Int
 to:Int
 deriving DecidableEq,Inhabited
def kz (n_:Int):Option Int :=
 (bif (decide (n_ < (-1152921504606846976))) then some (-1152921504606846976) else (bif (decide (n_ > 1152921504606846976)) then some 1152921504606846976 else some n_))
def nN (x_:aD):Option aD :=
 ((kz x_.from_).bind λa=>((kz x_.to).bind λb=>some (aD.mk a b)))
def kl (x_:aD):Option (List aD) :=
 ((nN x_).bind λr2=>(bif (decide (r2.to<=r2.from_)) then some ([]:List aD) else some [r2]))
def km (l:List aD) (n_:Int):Option Bool :=
 ((iter (σ:=Int) (ρ:=Unit ⊕ Bool) (λa=>(bif (decide (a < (l.length:Int))) then ((idx l a).bind λb=>(((bif (decide (n_>=b.from_)) then some (decide (n_ < b.to)) else some false):Option Bool).bind λc=>(bif c then (fD (some true)) else some (.inl (IntKind.i64.wrap (a+1)))))) else some (.inr (.inl ())))) 0).bind λ | .inl e107=>some false | .inr w=>some w)
def lC (mode:Int) (x_:Bool) (y:Bool):Option Bool :=
 (bif (mode == 0) then (((bif x_ then some true else some y):Option Bool).bind λa=>some a) else (bif (mode == 1) then (((bif x_ then some (!y) else some false):Option Bool).bind λb=>some b) else (bif (mode == 2) then (((bif x_ then some y else some false):Option Bool).bind λc=>some c) else (((bif (!x_) then some y else some false):Option Bool).bind λd=>some d))))
def hU (a:List aD) (b:List aD) (mode:Int):Option (List aD) :=
 ((chk (cW ([]:List aD).length a.length 16)).bind λ_=>((chk (cW (([]:List aD)++a).length b.length 16)).bind λ_=>((iter (σ:=Int×(List Int)) (ρ:=(List Int)) (λf=>(bif (decide (f.1 < (((([]:List aD)++a)++b).length:Int))) then ((idx ((([]:List aD)++a)++b) f.1).bind λi=>((iter (σ:=Int×(List Int)) (ρ:=(List Int)) (λc=>(bif (decide (c.1 < ([i.from_,i.to].length:Int))) then ((((idx [i.from_,i.to] c.1).bind λg=>((iter (σ:=Int) (ρ:=Int) (λj=>(((bif (decide (j < (c.2.length:Int))) then ((idx c.2 j).bind λm=>some (decide (m < g))) else some false):Option Bool).bind λn=>(bif n then some (.inl (IntKind.i64.wrap (j+1))) else some (.inr j)))) 0).bind λe=>(((bif (e == (c.2.length:Int)) then some true else ((idx c.2 e).bind λo=>some (o != g))):Option Bool).bind λp=>(bif p then ((chk (eL 0 e c.2.length)).bind λ_=>((chk (eL e (c.2.length:Int) c.2.length)).bind λ_=>((chk (cW [g].length (cut c.2 e (c.2.length:Int)).length 8)).bind λ_=>((chk (cW (cut c.2 0 e).length ([g]++(cut c.2 e (c.2.length:Int))).length 8)).bind λ_=>some ((cut c.2 0 e)++([g]++(cut c.2 e (c.2.length:Int)))))))) else some c.2)))):Option (List Int)).bind λq=>some (.inl ((IntKind.i64.wrap (c.1+1)),q))) else some (.inr c.2))) (0,f.2)).bind λr=>some (.inl ((IntKind.i64.wrap (f.1+1)),r)))) else some (.inr f.2))) (0,([]:List Int))).bind λk=>((iter (σ:=(List aD)×Int) (ρ:=(List aD)) (λd=>(bif (decide ((IntKind.i64.wrap (d.2+1)) < (k.length:Int))) then ((((idx k d.2).bind λh=>((km a h).bind λs=>((km b h).bind λt=>((lC mode s t).bind λu=>(bif (!u) then some d.1 else (((bif (decide ((d.1.length:Int) > 0)) then ((idx d.1 (IntKind.i64.wrap ((d.1.length:Int) - 1))).bind λv=>some (v.to == h)) else some false):Option Bool).bind λw=>(bif w then ((idx k (IntKind.i64.wrap (d.2+1))).bind λx=>((idx d.1 (IntKind.i64.wrap ((d.1.length:Int) - 1))).bind λy=>some (d.1.set ((IntKind.i64.wrap ((d.1.length:Int) - 1)).toNat) (aD.mk y.from_ x)))) else ((idx k (IntKind.i64.wrap (d.2+1))).bind λl=>((chk (cW d.1.length [(aD.mk h l)].length 16)).bind λ_=>some (d.1++[(aD.mk h l)])))))))))):Option (List aD)).bind λz=>some (.inl (z,(IntKind.i64.wrap (d.2+1))))) else some (.inr d.1))) (([]:List aD),0)).bind λA=>some A))))
def iE (l:List aD) (x_:aD):Option (List aD) :=
 ((kl x_).bind λr2=>((hU l r2 0).bind λr9=>some r9))
def jt (l:List aD) (x_:aD):Option (List aD) :=
 ((kl x_).bind λr2=>((hU l r2 1).bind λr9=>some r9))
def nB (l:List aD) (x_:aD):Option (List aD) :=
 ((kl x_).bind λr2=>((hU l r2 2).bind λr9=>some r9))
def kA (l:List aB) (x_:List aD):Option Bool :=
 (bif ((l.length:Int) != (x_.length:Int)) then some false else ((iter (σ:=Int) (ρ:=Unit ⊕ Bool) (λa=>(bif (decide (a < (x_.length:Int))) then ((idx l a).bind λb=>((idx x_ a).bind λc=>(bif (!((b.from_ == c.from_) && ((b.to == c.to) && true))) then (fD (some false)) else some (.inl (IntKind.i64.wrap (a+1)))))) else some (.inr (.inl ())))) 0).bind λ | .inl e355=>some true | .inr w=>some w))
structure aX where
 s:ByteArray
 e:Int
 deriving DecidableEq,Inhabited
def bJ (in_:aX):Option (aX×Int) :=
 (bif (in_.e != 0) then some (in_,0) else ((iter (σ:=Int×Int×Int) (ρ:=Unit ⊕ (aX×Int)) (λa=>(bif (decide (a.2.2 < 9)) then (((bif (a.2.2 == (in_.s.size:Int)) then (ot (fD (some ((aX.mk (ByteArray.mk #[]) 2),0)))) else ((uz in_.s a.2.2).bind λb475=>(bif (decide ((IntKind.i64.wrap b475) < 128)) then (((bif (decide (a.2.2 > 0)) then (bif ((IntKind.i64.wrap b475) == 0) then some true else some (decide ((IntKind.i64.wrap (a.1+(IntKind.i64.wrap (((IntKind.i64.wrap b475).tmod 128)*a.2.1)))) > 4611686018427387904))) else some (decide ((IntKind.i64.wrap (a.1+(IntKind.i64.wrap (((IntKind.i64.wrap b475).tmod 128)*a.2.1)))) > 4611686018427387904))):Option Bool).bind λb=>(bif b then (ot (fD (some ((aX.mk (ByteArray.mk #[]) 1),0)))) else ((chk (eL (IntKind.i64.wrap (a.2.2+1)) (in_.s.size:Int) in_.s.size)).bind λ_=>(ot (fD (some ((aX.mk (ik in_.s (IntKind.i64.wrap (a.2.2+1)) (in_.s.size:Int)) 0),(IntKind.i64.wrap (a.1+(IntKind.i64.wrap (((IntKind.i64.wrap b475).tmod 128)*a.2.1))))))))))) else (bif (decide (a.2.2 < 8)) then some (.inl ((IntKind.i64.wrap (a.1+(IntKind.i64.wrap (((IntKind.i64.wrap b475).tmod 128)*a.2.1)))),(IntKind.i64.wrap (a.2.1*128)))) else some (.inl ((IntKind.i64.wrap (a.1+(IntKind.i64.wrap (((IntKind.i64.wrap b475).tmod 128)*a.2.1)))),a.2.1)))))):Option ((Int×Int) ⊕ ((Int×Int×Int) ⊕ (Unit ⊕ (aX×Int))))).bind λ | .inl e465=>some (.inl (e465.1,e465.2,(IntKind.i64.wrap (a.2.2+1)))) | .inr w=>some w) else some (.inr (.inl ())))) (0,1,0)).bind λ | .inl e381=>some ((aX.mk (ByteArray.mk #[]) 1),0) | .inr w=>some w))
def nO (in_:aX) (n_:Int):Option (aX×ByteArray) :=
 (bif (in_.e != 0) then some (in_,(ByteArray.mk #[])) else (bif (decide ((imax 0 n_) > (in_.s.size:Int))) then some ((aX.mk (ByteArray.mk #[]) 2),(ByteArray.mk #[])) else ((chk (eL (imax 0 n_) (in_.s.size:Int) in_.s.size)).bind λ_=>((chk (eL 0 (imax 0 n_) in_.s.size)).bind λ_=>some ((aX.mk (ik in_.s (imax 0 n_) (in_.s.size:Int)) 0),(ik in_.s 0 (imax 0 n_)))))))
def gG (in_:aX):Option (aX×ByteArray) :=
 ((bJ in_).bind λr3=>((nO r3.1 r3.2).bind λr7=>some (r7.1,r7.2)))
def lk (in_:aX):Option Int :=
 (((bif (in_.e == 0) then some (!(in_.s.toList == (ByteArray.mk #[]).toList)) else some false):Option Bool).bind λe5=>(bif e5 then some 1 else some in_.e))
def cG (n_:Int):Option ByteArray :=
 ((iter (σ:=Int×(List Int)) (ρ:=Int×(List Int)) (λa=>(bif (decide (a.1>=128)) then ((chk (cW a.2.length [(IntKind.u8.wrap (IntKind.i64.wrap (128+(a.1.tmod 128))))].length 1)).bind λ_=>some (.inl ((IntKind.i64.wrap (a.1.tdiv 128)),(a.2++[(IntKind.u8.wrap (IntKind.i64.wrap (128+(a.1.tmod 128))))])))) else some (.inr (a.1,a.2)))) ((imax 0 (cD n_ 4611686018427387904)),([]:List Int))).bind λb=>((chk (cW b.2.length [(IntKind.u8.wrap b.1)].length 1)).bind λ_=>some (dL (b.2++[(IntKind.u8.wrap b.1)]))))
def kB (s_:ByteArray):Option ByteArray :=
 ((cG (s_.size:Int)).bind λr1=>((chk (lu r1.size s_.size)).bind λ_=>some (r1++s_)))
def l9 (s_:ByteArray):Option Int :=
 ((iter (σ:=Int×Int) (ρ:=Int) (λb=>(bif (decide (b.2 < (s_.size:Int))) then ((uz s_ b.2).bind λb402=>((iter (σ:=Int×Int) (ρ:=Int) (λa=>(bif (decide (a.2 < 8)) then (((bif ((a.1.tmod 2) == 1) then some (Go.bits .xor .i64 (IntKind.i64.wrap (a.1.tdiv 2)) 3988292384) else some (IntKind.i64.wrap (a.1.tdiv 2))):Option Int).bind λc=>some (.inl (c,(IntKind.i64.wrap (a.2+1))))) else some (.inr a.1))) ((Go.bits .xor .i64 b.1 (IntKind.i64.wrap b402)),0)).bind λd=>some (.inl (d,(IntKind.i64.wrap (b.2+1)))))) else some (.inr b.1))) (4294967295,0)).bind λe=>some (IntKind.i64.wrap (4294967295 - e)))
def kC (s_:ByteArray):Option ByteArray :=
 ((l9 s_).bind λr1=>((chk (lu s_.size (dL [(IntKind.u8.wrap (r1.tmod 256)),(IntKind.u8.wrap ((IntKind.i64.wrap (r1.tdiv 256)).tmod 256)),(IntKind.u8.wrap ((IntKind.i64.wrap (r1.tdiv 65536)).tmod 256)),(IntKind.u8.wrap (IntKind.i64.wrap (r1.tdiv 16777216)))]).size)).bind λ_=>some (s_++(dL [(IntKind.u8.wrap (r1.tmod 256)),(IntKind.u8.wrap ((IntKind.i64.wrap (r1.tdiv 256)).tmod 256)),(IntKind.u8.wrap ((IntKind.i64.wrap (r1.tdiv 65536)).tmod 256)),(IntKind.u8.wrap (IntKind.i64.wrap (r1.tdiv 16777216)))]))))
def lD (s_:ByteArray):Option (ByteArray×Bool) :=
 (((bif (decide ((s_.size:Int) < 4)) then some true else ((chk (eL 0 (IntKind.i64.wrap ((s_.size:Int) - 4)) s_.size)).bind λ_=>((kC (ik s_ 0 (IntKind.i64.wrap ((s_.size:Int) - 4)))).bind λa=>some (!(a.toList == s_.toList))))):Option Bool).bind λb=>(bif b then some ((ByteArray.mk #[]),false) else ((chk (eL 0 (IntKind.i64.wrap ((s_.size:Int) - 4)) s_.size)).bind λ_=>some ((ik s_ 0 (IntKind.i64.wrap ((s_.size:Int) - 4))),true))))
def iF (in_:aX):Option (aX×(List aO)) :=
 ((bJ in_).bind λr3=>(((bif (r3.1.e == 0) then some (decide (r3.2 > 1024)) else some false):Option Bool).bind λe9=>(bif e9 then some ((aX.mk (ByteArray.mk #[]) 1),([]:List aO)) else ((iter (σ:=aX×(List aO)×Int) (ρ:=((List aO)×aX) ⊕ (aX×(List aO))) (λa=>(((bif (decide (a.2.2 < r3.2)) then some (a.1.e == 0) else some false):Option Bool).bind λd=>(bif d then ((bJ a.1).bind λb=>(((bif (b.1.e == 0) then some (decide (b.2 > 1114111)) else some false):Option Bool).bind λf=>(bif f then (fD (some ((aX.mk (ByteArray.mk #[]) 1),([]:List aO)))) else ((bJ b.1).bind λc=>(((bif (c.1.e == 0) then some (decide (c.2 > 647)) else some false):Option Bool).bind λg=>(bif g then (fD (some ((aX.mk (ByteArray.mk #[]) 1),([]:List aO)))) else ((chk (cW a.2.1.length [(aO.mk b.2 c.2)].length 16)).bind λ_=>some (.inl (c.1,(a.2.1++[(aO.mk b.2 c.2)]),(IntKind.i64.wrap (a.2.2+1))))))))))) else some (.inr (.inl (a.2.1,a.1)))))) (r3.1,([]:List aO),0)).bind λ | .inl e261=>(bif (e261.2.e != 0) then some (e261.2,([]:List aO)) else some (e261.2,e261.1)) | .inr w=>some w))))
def lE (l:List aO):Option ByteArray :=
 ((cG (l.length:Int)).bind λr1=>((iter (σ:=Int×ByteArray) (ρ:=ByteArray) (λa=>(bif (decide (a.1 < (l.length:Int))) then ((idx l a.1).bind λd=>((cG d.rune).bind λb=>((cG d.bU).bind λc=>((chk (lu b.size c.size)).bind λ_=>((chk (lu a.2.size (b++c).size)).bind λ_=>some (.inl ((IntKind.i64.wrap (a.1+1)),(a.2++(b++c))))))))) else some (.inr a.2))) (0,r1)).bind λe=>some e))
structure bL where
 k:Int
 w:Int
 h:Int
 x:Int
 y:Int
 title:ByteArray
 rows:List bK
 len:Int
 chain:Int
 begun:List aO
 deriving DecidableEq,Inhabited
def cP (in_:aX) (most:Int):Option (aX×Int) :=
 ((bJ in_).bind λr3=>(((bif (r3.1.e == 0) then some (decide (r3.2 > most)) else some false):Option Bool).bind λa=>(bif a then some ((aX.mk (ByteArray.mk #[]) 1),0) else some (r3.1,r3.2))))
def iu (in_:aX) (w:Int):Option (aX×bK) :=
 ((cP in_ 1).bind λr4=>((iter (σ:=aX×(List dE)) (ρ:=(List dE)×aX) (λa=>(((bif (decide ((a.2.length:Int) < w)) then some (a.1.e == 0) else some false):Option Bool).bind λk=>(bif k then ((cP a.1 (IntKind.i64.wrap (w - (a.2.length:Int)))).bind λd=>(((bif (d.1.e == 0) then some (d.2 == 0) else some false):Option Bool).bind λl=>(((bif l then some (aX.mk (ByteArray.mk #[]) 1) else some d.1):Option aX).bind λm=>((cP m 1114111).bind λf=>((cP f.1 647).bind λg=>((cP g.1 3).bind λb=>(((bif (b.1.e == 0) then (bif (decide ((a.2.length:Int) > 0)) then ((idx a.2 (IntKind.i64.wrap ((a.2.length:Int) - 1))).bind λi=>some ((i.rune == f.2) && ((i.bU == g.2) && ((i.part == b.2) && true)))) else some false) else some false):Option Bool).bind λn=>(((bif n then some (aX.mk (ByteArray.mk #[]) 1) else some b.1):Option aX).bind λj=>((iter (σ:=Int×(List dE)) (ρ:=(List dE)) (λc=>(((bif (decide (c.1 < d.2)) then some (j.e == 0) else some false):Option Bool).bind λo=>(bif o then ((chk (cW c.2.length [(dE.mk f.2 g.2 b.2)].length 24)).bind λ_=>some (.inl ((IntKind.i64.wrap (c.1+1)),(c.2++[(dE.mk f.2 g.2 b.2)])))) else some (.inr c.2)))) (0,a.2)).bind λp=>some (.inl (j,p))))))))))) else some (.inr (a.2,a.1))))) (r4.1,([]:List dE))).bind λh=>(bif (h.2.e != 0) then some (h.2,(bK.mk ([]:List dE) false)) else some (h.2,(bK.mk h.1 (r4.2 == 1))))))
def iP (s_:bL):Option Bool :=
 (((bif (s_.k == 0) then (bif (s_.w == 0) then (bif (s_.h == 0) then (bif (s_.x == 0) then (bif (s_.y == 0) then (bif (s_.title.toList == (ByteArray.mk #[]).toList) then (bif ((s_.rows.length:Int) == 0) then (bif (s_.len == 0) then (bif (s_.chain == 0) then some ((s_.begun.length:Int) == 0) else some false) else some false) else some false) else some false) else some false) else some false) else some false) else some false) else some false):Option Bool).bind λa=>some a)
def ko (s_:bL):Option Bool :=
 ((iP s_).bind λr2=>(bif r2 then some true else (((bif (decide (s_.k < 1)) then some true else (bif (decide (s_.k > 1152921504606846976)) then some true else (bif (decide (s_.w < 1)) then some true else (bif (decide (s_.w > 1000)) then some true else (bif (decide (s_.h < 1)) then some true else (bif (decide (s_.h > 1000)) then some true else (bif (decide (s_.x < 0)) then some true else (bif (decide (s_.x>=s_.w)) then some true else (bif (decide (s_.y < 0)) then some true else (bif (decide (s_.y>=s_.h)) then some true else some ((s_.rows.length:Int) != s_.h))))))))))):Option Bool).bind λg=>(bif g then some false else (((bif (decide ((s_.title.size:Int) > 200)) then some true else (bif (decide (s_.len < 0)) then some true else (bif (decide (s_.len > 1152921504606846976)) then some true else (bif (decide (s_.chain < 0)) then some true else (bif (decide (s_.chain > 281474976710656)) then some true else some (decide ((s_.begun.length:Int) > 1024))))))):Option Bool).bind λi=>(bif i then some false else ((iter (σ:=Int) (ρ:=Unit ⊕ Bool) (λc=>(bif (decide (c < (s_.begun.length:Int))) then ((idx s_.begun c).bind λb=>(((bif (decide (b.rune < 0)) then some true else (bif (decide (b.rune > 1114111)) then some true else (bif (decide (b.bU < 0)) then some true else some (decide (b.bU > 647))))):Option Bool).bind λj=>(bif j then (fD (some false)) else some (.inl (IntKind.i64.wrap (c+1)))))) else some (.inr (.inl ())))) 0).bind λ | .inl e206=>((iter (σ:=Int) (ρ:=Unit ⊕ Bool) (λd=>(bif (decide (d < (s_.rows.length:Int))) then ((idx s_.rows d).bind λe=>(bif ((e.l.length:Int) != s_.w) then (fD (some false)) else ((iter (σ:=Int) (ρ:=Unit ⊕ (Int ⊕ (Unit ⊕ Bool))) (λf=>(bif (decide (f < (e.l.length:Int))) then ((idx e.l f).bind λa=>(((bif (decide (a.rune < 0)) then some true else (bif (decide (a.rune > 1114111)) then some true else (bif (decide (a.bU < 0)) then some true else (bif (decide (a.bU > 647)) then some true else (bif (decide (a.part < 0)) then some true else some (decide (a.part > 3))))))):Option Bool).bind λm=>(bif m then (fD (fD (some false))) else some (.inl (IntKind.i64.wrap (f+1)))))) else some (.inr (.inl ())))) 0).bind λ | .inl e2288=>some (.inl (IntKind.i64.wrap (d+1))) | .inr w=>some w))) else some (.inr (.inl ())))) 0).bind λ | .inl e1826=>some true | .inr w=>some w) | .inr w=>some w)))))))
def jL (r_:bK):Option ByteArray :=
 (((bif r_.wrapped then some (ByteArray.mk #[1]) else some (ByteArray.mk #[0])):Option ByteArray).bind λe5=>((iter (σ:=Int×ByteArray×Int) (ρ:=ByteArray) (λa=>(bif (decide (a.1 < (r_.l.length:Int))) then ((((idx r_.l a.1).bind λb=>(((bif (decide ((IntKind.i64.wrap (a.1+1)) < (r_.l.length:Int))) then ((idx r_.l (IntKind.i64.wrap (a.1+1))).bind λf=>some ((f.rune == b.rune) && ((f.bU == b.bU) && ((f.part == b.part) && true)))) else some false):Option Bool).bind λi=>(bif i then some (a.2.1,(IntKind.i64.wrap (a.2.2+1))) else ((cG (IntKind.i64.wrap (a.2.2+1))).bind λc=>((cG b.rune).bind λd=>((chk (lu c.size d.size)).bind λ_=>((cG b.bU).bind λe=>((chk (lu (c++d).size e.size)).bind λ_=>((cG b.part).bind λg=>((chk (lu ((c++d)++e).size g.size)).bind λ_=>((chk (lu a.2.1.size (((c++d)++e)++g).size)).bind λ_=>some ((a.2.1++(((c++d)++e)++g)),0)))))))))))):Option (ByteArray×Int)).bind λh=>some (.inl ((IntKind.i64.wrap (a.1+1)),h.1,h.2))) else some (.inr a.2.1))) (0,e5,0)).bind λj=>some j))
def iG (s_:bL):Option ByteArray :=
 ((((iP s_).bind λl=>(bif l then some true else ((ko s_).bind λm=>some (!m)))):Option Bool).bind λn=>(bif n then some (ByteArray.mk #[]) else ((iter (σ:=Int×ByteArray) (ρ:=ByteArray) (λa=>(bif (decide (a.1 < ([s_.k,s_.w,s_.h,s_.x,s_.y].length:Int))) then ((idx [s_.k,s_.w,s_.h,s_.x,s_.y] a.1).bind λo=>((cG o).bind λg=>((chk (lu a.2.size g.size)).bind λ_=>some (.inl ((IntKind.i64.wrap (a.1+1)),(a.2++g)))))) else some (.inr a.2))) (0,(ByteArray.mk #[]))).bind λi=>((kB s_.title).bind λc=>((cG s_.len).bind λd=>((chk (lu c.size d.size)).bind λ_=>((cG s_.chain).bind λe=>((chk (lu (c++d).size e.size)).bind λ_=>((lE s_.begun).bind λf=>((chk (lu ((c++d)++e).size f.size)).bind λ_=>((chk (lu i.size (((c++d)++e)++f).size)).bind λ_=>((iter (σ:=ByteArray×Int) (ρ:=ByteArray) (λb=>(bif (decide (b.2 < (s_.rows.length:Int))) then ((idx s_.rows b.2).bind λp=>((jL p).bind λj=>((chk (lu b.1.size j.size)).bind λ_=>some (.inl ((b.1++j),(IntKind.i64.wrap (b.2+1))))))) else some (.inr b.1))) ((i++(((c++d)++e)++f)),0)).bind λq=>some q))))))))))))
def mF (s_:bL):Option Int :=
 ((iG s_).bind λr2=>((l9 r2).bind λr5=>some r5))
def nC (s_:aS) (x_:bL):Option Bool :=
 (((bif (s_.k == x_.k) then (bif (s_.w == x_.w) then (bif (s_.h == x_.h) then (bif (s_.x == x_.x) then (bif (s_.y == x_.y) then (bif (s_.title.toList == x_.title.toList) then (bif (s_.len == x_.len) then (bif (s_.chain == x_.chain) then ((lB s_.rows x_.rows).bind λa=>(bif a then ((jg s_.begun x_.begun).bind λb=>some b) else some false)) else some false) else some false) else some false) else some false) else some false) else some false) else some false) else some false):Option Bool).bind λc=>some c)
structure dP where
 i:Int
 l:List aO
 deriving DecidableEq,Inhabited
structure bX where
 most:Int
 l:List dP
 deriving DecidableEq,Inhabited
def pg (most:Int):Option bX :=
 some (bX.mk (imax 1 (cD most 65536)) ([]:List dP))
def jQ (c:bX):Option (List aD) :=
 ((iter (σ:=Int×(List aD)) (ρ:=(List aD)) (λa=>(bif (decide (a.1 < (c.l.length:Int))) then ((idx c.l a.1).bind λb=>((iE a.2 (aD.mk b.i (IntKind.i64.wrap (b.i+1)))).bind λd=>some (.inl ((IntKind.i64.wrap (a.1+1)),d)))) else some (.inr a.2))) (0,([]:List aD))).bind λe=>some e)
def jD (c:bX) (i:Int):Option ((List aO)×Bool) :=
 ((iter (σ:=Int) (ρ:=Unit ⊕ ((List aO)×Bool)) (λa=>(bif (decide (a < (c.l.length:Int))) then ((idx c.l a).bind λb=>(bif (b.i == i) then (fD (some (b.l,true))) else some (.inl (IntKind.i64.wrap (a+1))))) else some (.inr (.inl ())))) 0).bind λ | .inl e84=>some (([]:List aO),false) | .inr w=>some w)
def gM (c:bX) (e:dP):Option bX :=
 ((iter (σ:=Int×(List dP)) (ρ:=(List dP)) (λa=>(bif (decide (a.1 < (c.l.length:Int))) then ((((idx c.l a.1).bind λb=>(bif (b.i != e.i) then ((chk (cW a.2.length [b].length 32)).bind λ_=>some (a.2++[b])) else some a.2)):Option (List dP)).bind λf=>some (.inl ((IntKind.i64.wrap (a.1+1)),f))) else some (.inr a.2))) (0,([]:List dP))).bind λd=>((chk (cW d.length [e].length 32)).bind λ_=>some (bX.mk c.most (d++[e]))))
def kp (c:bX) (i:Int) (l:List aO):Option (bX×Int×Bool) :=
 (((bif (decide (i < 0)) then some true else some (decide (i > 1152921504606846976))):Option Bool).bind λe6=>(bif e6 then some (c,0,false) else ((gM c (dP.mk i l)).bind λa=>(bif (decide ((a.l.length:Int)<=a.most)) then some (a,0,false) else ((chk (eL 1 (a.l.length:Int) a.l.length)).bind λ_=>((idx a.l 0).bind λb=>some ((bX.mk a.most (cut a.l 1 (a.l.length:Int))),b.i,true)))))))
def ll (c:bX) (i:Int):Option (bX×(List aO)×Bool) :=
 ((jD c i).bind λr3=>(bif (!r3.2) then some (c,([]:List aO),false) else ((gM c (dP.mk i r3.1)).bind λa=>some (a,r3.1,true))))
structure bM where
 aU:Int
 kind:Int
 bB:List Int
 data:ByteArray
 deriving DecidableEq,Inhabited
def jR (g:bM):Option ByteArray :=
 ((cG g.aU).bind λb=>((cG g.kind).bind λc=>((chk (lu b.size c.size)).bind λ_=>((cG (g.bB.length:Int)).bind λd=>((chk (lu (b++c).size d.size)).bind λ_=>((iter (σ:=Int×ByteArray) (ρ:=ByteArray) (λa=>(bif (decide (a.1 < (g.bB.length:Int))) then ((idx g.bB a.1).bind λi=>((cG i).bind λe=>((chk (lu a.2.size e.size)).bind λ_=>some (.inl ((IntKind.i64.wrap (a.1+1)),(a.2++e)))))) else some (.inr a.2))) (0,((b++c)++d))).bind λf=>((kB g.data).bind λh=>((chk (lu f.size h.size)).bind λ_=>((kC (f++h)).bind λj=>some j)))))))))
def jS (g:bM):Option Int :=
 (((bif (decide (g.aU < 1)) then some true else (bif (decide (g.aU > 4294967296)) then some true else (bif (decide (g.kind < 1)) then some true else (bif (decide (g.kind > 4)) then some true else some (decide ((g.bB.length:Int) > 64)))))):Option Bool).bind λc=>(bif c then some 6 else ((iter (σ:=Int) (ρ:=Unit ⊕ Int) (λa=>(bif (decide (a < (g.bB.length:Int))) then ((idx g.bB a).bind λb=>(((bif (decide (b < 0)) then some true else some (decide (b > 4611686018427387904))):Option Bool).bind λd=>(bif d then (fD (some 6)) else some (.inl (IntKind.i64.wrap (a+1)))))) else some (.inr (.inl ())))) 0).bind λ | .inl e120=>((jR g).bind λe=>(bif (decide ((e.size:Int) > 8192)) then some 3 else some 0)) | .inr w=>some w)))
def gH (g:bM):Option ByteArray :=
 ((jS g).bind λr2=>(bif (r2 != 0) then some (ByteArray.mk #[]) else ((jR g).bind λr7=>some r7)))
def kO (s_:ByteArray):Option (bM×Int) :=
 (bif (decide ((s_.size:Int) > 8192)) then some ((bM.mk 0 0 ([]:List Int) (ByteArray.mk #[])),3) else ((lD s_).bind λr5=>(bif (!r5.2) then some ((bM.mk 0 0 ([]:List Int) (ByteArray.mk #[])),4) else ((bJ (aX.mk r5.1 0)).bind λg=>((bJ g.1).bind λh=>((bJ h.1).bind λb=>(((bif (b.1.e == 0) then some (decide (b.2 > 64)) else some false):Option Bool).bind λk=>(bif k then some ((bM.mk 0 0 ([]:List Int) (ByteArray.mk #[])),1) else ((iter (σ:=aX×bM×Int) (ρ:=aX×bM) (λa=>(((bif (decide (a.2.2 < b.2)) then some (a.1.e == 0) else some false):Option Bool).bind λl=>(bif l then ((bJ a.1).bind λd=>((chk (cW a.2.1.bB.length [d.2].length 8)).bind λ_=>some (.inl (d.1,(bM.mk a.2.1.aU a.2.1.kind (a.2.1.bB++[d.2]) a.2.1.data),(IntKind.i64.wrap (a.2.2+1)))))) else some (.inr (a.1,a.2.1))))) (b.1,(bM.mk g.2 h.2 ([]:List Int) (ByteArray.mk #[])),0)).bind λc=>((gG c.1).bind λf=>((lk f.1).bind λi=>(bif (i != 0) then some ((bM.mk 0 0 ([]:List Int) (ByteArray.mk #[])),i) else ((jS (bM.mk c.2.aU c.2.kind c.2.bB f.2)).bind λj=>(bif (j != 0) then some ((bM.mk 0 0 ([]:List Int) (ByteArray.mk #[])),j) else some ((bM.mk c.2.aU c.2.kind c.2.bB f.2),0)))))))))))))))
structure cN where
 key:Int
 has:List Bool
 parts:List ByteArray
 deriving DecidableEq,Inhabited
def mG (s_:cN) (key:Int) (index:Int) (count:Int) (data:ByteArray):Option (cN×Int) :=
 (((bif (decide (count < 1)) then some true else (bif (decide (count > 4096)) then some true else (bif (decide (index < 0)) then some true else (bif (decide (index>=count)) then some true else some (decide (key < 1)))))):Option Bool).bind λa=>(bif a then some (s_,6) else (bif (decide (key < s_.key)) then some (s_,8) else ((chk (ux count 1)).bind λ_=>((chk (ux count 16)).bind λ_=>(((bif (key == s_.key) then (bif (count != (s_.has.length:Int)) then (ot (some (s_,1))) else some (.inl (cN.mk key (cpy (List.replicate count.toNat false) s_.has) (cpy (List.replicate count.toNat (ByteArray.mk #[])) s_.parts)))) else some (.inl (cN.mk key (List.replicate count.toNat false) (List.replicate count.toNat (ByteArray.mk #[]))))):Option (cN ⊕ (cN×Int))).bind λ | .inl e76=>((idx e76.has index).bind λb=>(((bif (!b) then ((idx e76.has index).bind λd=>((idx e76.parts index).bind λe=>some (cN.mk e76.key (e76.has.set index.toNat true) (e76.parts.set index.toNat data)))) else some e76):Option cN).bind λc=>some (c,0))) | .inr w=>some w))))))
def kP (s_:cN) (there:Bool):Option (List Int) :=
 ((iter (σ:=Int×(List Int)) (ρ:=(List Int)) (λa=>(bif (decide (a.1 < (s_.has.length:Int))) then ((((idx s_.has a.1).bind λb=>(bif (b == there) then ((chk (cW a.2.length [a.1].length 8)).bind λ_=>some (a.2++[a.1])) else some a.2)):Option (List Int)).bind λc=>some (.inl ((IntKind.i64.wrap (a.1+1)),c))) else some (.inr a.2))) (0,([]:List Int))).bind λd=>some d)
def mH (s_:cN):Option (ByteArray×Bool) :=
 ((iter (σ:=Int×ByteArray) (ρ:=ByteArray) (λa=>(bif (decide (a.1 < (s_.parts.length:Int))) then ((idx s_.parts a.1).bind λb=>((chk (lu a.2.size b.size)).bind λ_=>some (.inl ((IntKind.i64.wrap (a.1+1)),(a.2++b))))) else some (.inr a.2))) (0,(ByteArray.mk #[]))).bind λc=>(((bif (decide (s_.key > 0)) then ((kP s_ false).bind λe=>some (c,((e.length:Int) == 0))) else some (c,false)):Option (ByteArray×Bool)).bind λd=>some (d.1,d.2)))
def iH (a:bK) (b:bK):Option Bool :=
 (((bif (!(a.wrapped == b.wrapped)) then some true else some ((a.l.length:Int) != (b.l.length:Int))):Option Bool).bind λe6=>(bif e6 then some false else ((iter (σ:=Int) (ρ:=Unit ⊕ Bool) (λc=>(bif (decide (c < (a.l.length:Int))) then ((idx a.l c).bind λd=>((idx b.l c).bind λe=>(bif (!((d.rune == e.rune) && ((d.bU == e.bU) && ((d.part == e.part) && true)))) then (fD (some false)) else some (.inl (IntKind.i64.wrap (c+1)))))) else some (.inr (.inl ())))) 0).bind λ | .inl e364=>some true | .inr w=>some w)))
def kQ (a:bL) (s_:ByteArray):Option (bL×Int) :=
 ((ko a).bind λr4=>(bif (!r4) then some ((bL.mk 0 0 0 0 0 (ByteArray.mk #[]) ([]:List bK) 0 0 ([]:List aO)),1) else ((bJ (aX.mk s_ 0)).bind λu=>((bJ u.1).bind λp=>((bJ p.1).bind λi=>(((bif (i.1.e == 0) then some (decide (i.2 > 1000)) else some false):Option Bool).bind λz=>(bif z then some ((bL.mk 0 0 0 0 0 (ByteArray.mk #[]) ([]:List bK) 0 0 ([]:List aO)),1) else ((bJ i.1).bind λj=>(((bif (j.1.e == 0) then some (decide (j.2 > 1000)) else some false):Option Bool).bind λm=>(bif m then some ((bL.mk 0 0 0 0 0 (ByteArray.mk #[]) ([]:List bK) 0 0 ([]:List aO)),1) else ((bJ j.1).bind λq=>((bJ q.1).bind λg=>((gG g.1).bind λr=>((bJ r.1).bind λt=>((bJ t.1).bind λl=>(((bif (l.1.e == 0) then ((iF l.1).bind λv=>some ((bL.mk p.2 i.2 j.2 q.2 g.2 r.2 ([]:List bK) t.2 l.2 v.2),v.1)) else some ((bL.mk p.2 i.2 j.2 q.2 g.2 r.2 ([]:List bK) t.2 l.2 ([]:List aO)),l.1)):Option (bL×aX)).bind λb=>((bJ b.2).bind λn=>(bif (n.1.e != 0) then some ((bL.mk 0 0 0 0 0 (ByteArray.mk #[]) ([]:List bK) 0 0 ([]:List aO)),n.1.e) else ((chk (ux b.1.h 1)).bind λ_=>((chk (ux b.1.h 32)).bind λ_=>((iter (σ:=aX×(List Bool)×(List bK)×Int×Int) (ρ:=((List Bool)×(List bK)×aX) ⊕ (bL×Int)) (λd=>(bif (decide (d.2.2.2.2 < n.2)) then ((bJ d.1).bind λf=>(((bif (f.1.e == 0) then (bif (decide (f.2<=d.2.2.2.1)) then some true else some (decide (f.2>=b.1.h))) else some false):Option Bool).bind λA=>(bif A then (fD (some ((bL.mk 0 0 0 0 0 (ByteArray.mk #[]) ([]:List bK) 0 0 ([]:List aO)),1))) else ((iu f.1 b.1.w).bind λo=>(bif (o.1.e != 0) then (fD (some ((bL.mk 0 0 0 0 0 (ByteArray.mk #[]) ([]:List bK) 0 0 ([]:List aO)),o.1.e))) else ((idx d.2.1 f.2).bind λP=>((idx d.2.2.1 f.2).bind λQ=>some (.inl (o.1,(d.2.1.set f.2.toNat true),(d.2.2.1.set f.2.toNat o.2),f.2,(IntKind.i64.wrap (d.2.2.2.2+1))))))))))) else some (.inr (.inl (d.2.1,d.2.2.1,d.1))))) (n.1,(List.replicate b.1.h.toNat false),(List.replicate b.1.h.toNat (bK.mk ([]:List dE) false)),(-1),0)).bind λ | .inl e369=>(bif (!(e369.2.2.s.toList == (ByteArray.mk #[]).toList)) then some ((bL.mk 0 0 0 0 0 (ByteArray.mk #[]) ([]:List bK) 0 0 ([]:List aO)),1) else ((mF a).bind λB=>(bif (u.2 != B) then some ((bL.mk 0 0 0 0 0 (ByteArray.mk #[]) ([]:List bK) 0 0 ([]:List aO)),7) else ((iter (σ:=(List bK)×Int) (ρ:=(List bK) ⊕ (bL×Int)) (λc=>(bif (decide (c.2 < (e369.2.1.length:Int))) then ((((((idx e369.1 c.2).bind λC=>(bif (!C) then (bif (decide (c.2>=(a.rows.length:Int))) then some true else ((idx e369.1 c.2).bind λD=>(bif D then (bif (decide (c.2 < (a.rows.length:Int))) then ((idx c.1 c.2).bind λE=>((idx a.rows c.2).bind λF=>((iH E F).bind λG=>some G))) else some false) else some false))) else ((idx e369.1 c.2).bind λH=>(bif H then (bif (decide (c.2 < (a.rows.length:Int))) then ((idx c.1 c.2).bind λI=>((idx a.rows c.2).bind λJ=>((iH I J).bind λK=>some K))) else some false) else some false)))):Option Bool).bind λL=>(bif L then (ot (fD (some ((bL.mk 0 0 0 0 0 (ByteArray.mk #[]) ([]:List bK) 0 0 ([]:List aO)),1)))) else ((idx e369.1 c.2).bind λM=>(bif (!M) then ((idx a.rows c.2).bind λN=>((idx c.1 c.2).bind λR=>some (.inl (c.1.set c.2.toNat N)))) else some (.inl c.1))))):Option ((List bK) ⊕ (((List bK)×Int) ⊕ ((List bK) ⊕ (bL×Int))))).bind λ | .inl e4726=>some (.inl (e4726,(IntKind.i64.wrap (c.2+1)))) | .inr w=>some w) else some (.inr (.inl c.1)))) (e369.2.1,0)).bind λ | .inl e3950=>((iG (bL.mk b.1.k b.1.w b.1.h b.1.x b.1.y b.1.title e3950 b.1.len b.1.chain b.1.begun)).bind λO=>(bif (O.toList == (ByteArray.mk #[]).toList) then some ((bL.mk 0 0 0 0 0 (ByteArray.mk #[]) ([]:List bK) 0 0 ([]:List aO)),1) else some ((bL.mk b.1.k b.1.w b.1.h b.1.x b.1.y b.1.title e3950 b.1.len b.1.chain b.1.begun),0))) | .inr w=>some w)))) | .inr w=>some w)))))))))))))))))))))
structure dK where
 aJ:bL
 slot:cN
 deriving DecidableEq,Inhabited
def lF (t_:dK) (g:bM):Option (dK×Int) :=
 (bif (g.kind != 1) then some (t_,5) else (bif ((g.bB.length:Int) != 5) then some (t_,1) else ((idx g.bB 1).bind λf=>(bif (decide (f<=t_.aJ.k)) then some (t_,8) else ((((idx g.bB 2).bind λh=>(bif (h != 0) then ((idx g.bB 2).bind λi=>some (i != t_.aJ.k)) else some false)):Option Bool).bind λj=>(bif j then some (t_,7) else ((((idx g.bB 0).bind λl=>((idx g.bB 3).bind λm=>((idx g.bB 4).bind λn=>((mG t_.slot l m n g.data).bind λc=>some (c.1,c.2))))):Option (cN×Int)).bind λa=>(bif (a.2 != 0) then some (t_,a.2) else ((mH a.1).bind λd=>(bif (!d.2) then some ((dK.mk t_.aJ a.1),0) else ((idx g.bB 2).bind λo=>(((bif (o != 0) then some t_.aJ else some (bL.mk 0 0 0 0 0 (ByteArray.mk #[]) ([]:List bK) 0 0 ([]:List aO))):Option bL).bind λp=>((kQ p d.1).bind λb=>(((bif (b.2 == 0) then ((idx g.bB 1).bind λq=>some (b.1.k != q)) else some false):Option Bool).bind λr=>(((bif r then some 1 else some b.2):Option Int).bind λe=>(bif (e != 0) then some ((dK.mk t_.aJ (cN.mk 0 ([]:List Bool) ([]:List ByteArray))),e) else some ((dK.mk b.1 (cN.mk 0 ([]:List Bool) ([]:List ByteArray))),0)))))))))))))))))
def ju (t_:dK):Option bM :=
 ((iter (σ:=ByteArray×Int) (ρ:=ByteArray) (λb=>(bif (decide (b.2 < (t_.slot.has.length:Int))) then ((iter (σ:=Int×Int) (ρ:=Int) (λa=>(((bif (decide (a.2 < 8)) then some (decide ((IntKind.i64.wrap (b.2+a.2)) < (t_.slot.has.length:Int))) else some false):Option Bool).bind λd=>(bif d then ((((idx t_.slot.has (IntKind.i64.wrap (b.2+a.2))).bind λe=>(bif e then ((idx [1,2,4,8,16,32,64,128] a.2).bind λf=>some (IntKind.i64.wrap (a.1+f))) else some a.1)):Option Int).bind λg=>some (.inl (g,(IntKind.i64.wrap (a.2+1))))) else some (.inr a.1)))) (0,0)).bind λc=>((chk (lu b.1.size (dL [(IntKind.u8.wrap c)]).size)).bind λ_=>some (.inl ((b.1++(dL [(IntKind.u8.wrap c)])),(IntKind.i64.wrap (b.2+8)))))) else some (.inr b.1))) ((ByteArray.mk #[]),0)).bind λh=>some (bM.mk 1 2 [t_.aJ.k,t_.slot.key] h))
structure bS where
 most:Int
 every:Int
 due:Int
 l:List aD
 deriving DecidableEq,Inhabited
def nP (most:Int) (every:Int):Option bS :=
 some (bS.mk (imax 1 (cD most 65536)) (imax 1 (cD every 1048576)) 0 ([]:List aD))
def kD (g:bM):Option (Int×(List (List aO))×Int) :=
 (bif (g.kind != 4) then some (0,([]:List (List aO)),5) else (bif ((g.bB.length:Int) != 2) then some (0,([]:List (List aO)),1) else ((iter (σ:=aX×(List (List aO))) (ρ:=(List (List aO))×aX) (λa=>(((bif (!(a.1.s.toList == (ByteArray.mk #[]).toList)) then ((idx g.bB 1).bind λe=>some (decide ((a.2.length:Int) < e))) else some false):Option Bool).bind λf=>(bif f then ((iF a.1).bind λb=>((chk (cW a.2.length [b.2].length 24)).bind λ_=>some (.inl (b.1,(a.2++[b.2]))))) else some (.inr (a.2,a.1))))) ((aX.mk g.data 0),([]:List (List aO)))).bind λc=>((lk c.2).bind λd=>(bif (d != 0) then some (0,([]:List (List aO)),d) else ((idx g.bB 1).bind λh=>(bif ((c.1.length:Int) != h) then some (0,([]:List (List aO)),1) else ((idx g.bB 0).bind λi=>some (i,c.1,0)))))))))
def kq (f:bS) (i:Int):Option (bS×Bool) :=
 ((km f.l i).bind λr3=>(bif (!r3) then some (f,false) else ((jt f.l (aD.mk i (IntKind.i64.wrap (i+1)))).bind λr8=>some ((bS.mk f.most f.every f.due r8),true))))
def mI (f:bS) (now:Int) (length:Int):Option (bS×(List aD)) :=
 ((nB f.l (aD.mk 0 length)).bind λr3=>(((bif ((r3.length:Int) == 0) then some true else some (decide (now < f.due))):Option Bool).bind λa=>(bif a then some (f,([]:List aD)) else (((bif (decide ((r3.length:Int) > 8)) then ((chk (eL 0 8 r3.length)).bind λ_=>some (cut r3 0 8)) else some r3):Option (List aD)).bind λb=>some ((bS.mk f.most f.every (IntKind.i64.wrap (now+f.every)) f.l),b)))))
def lG (f:bS) (x_:aD) (aJ:List aD):Option bS :=
 ((iE ([]:List aD) (aD.mk (imax 0 (cD x_.from_ 1152921504606846976)) (cD (imax 0 (cD x_.to 1152921504606846976)) (IntKind.i64.wrap ((imax 0 (cD x_.from_ 1152921504606846976))+f.most))))).bind λr5=>((iter (σ:=bS×Int) (ρ:=bS) (λa=>(bif (decide (a.2 < (aJ.length:Int))) then ((idx aJ a.2).bind λb=>((jt a.1.l b).bind λc=>some (.inl ((bS.mk a.1.most a.1.every a.1.due c),(IntKind.i64.wrap (a.2+1)))))) else some (.inr a.1))) ((bS.mk f.most f.every 0 r5),0)).bind λd=>some d))
def jT (l:List aD):Option Int :=
 ((iter (σ:=Int×Int) (ρ:=Int) (λa=>(bif (decide (a.2 < (l.length:Int))) then ((idx l a.2).bind λb=>some (.inl ((IntKind.i64.wrap (a.1+(IntKind.i64.wrap (b.to - b.from_)))),(IntKind.i64.wrap (a.2+1))))) else some (.inr a.1))) (0,0)).bind λc=>some c)
structure ph where
 cache:Int
 every:Int
 addr:Int
 deriving DecidableEq,Inhabited
structure aL where
 most:Int
 every:Int
 addr:Int
 aU:Int
 due:Int
 t:dK
 l:bX
 f:bS
 deriving DecidableEq,Inhabited
def ni (n_:Int):Option Int :=
 some (imax 0 (cD n_ 4294967296))
def mJ (c:ph):Option aL :=
 ((nP c.cache c.every).bind λr3=>((ni c.addr).bind λa=>((pg c.cache).bind λb=>some (aL.mk r3.most r3.every a 0 0 (dK.mk (bL.mk 0 0 0 0 0 (ByteArray.mk #[]) ([]:List bK) 0 0 ([]:List aO)) (cN.mk 0 ([]:List Bool) ([]:List ByteArray))) b r3))))
def lH (c:aL) (i:Int):Option ((List aO)×Bool) :=
 (bif (decide (i>=c.t.aJ.len)) then some (([]:List aO),false) else ((jD c.l i).bind λr5=>some (r5.1,r5.2)))
def lI (c:aL) (data:ByteArray):Option (aL×Int) :=
 ((kO data).bind λr3=>(bif (r3.2 != 0) then some (c,r3.2) else (((bif (r3.1.kind != 1) then some (r3.1.kind != 4) else some false):Option Bool).bind λh=>(bif h then some (c,5) else (bif (decide (r3.1.aU < c.aU)) then some (c,8) else (((bif (decide (r3.1.aU > c.aU)) then some (aL.mk c.most c.every c.addr r3.1.aU c.due (dK.mk (bL.mk 0 0 0 0 0 (ByteArray.mk #[]) ([]:List bK) 0 0 ([]:List aO)) (cN.mk 0 ([]:List Bool) ([]:List ByteArray))) (bX.mk c.most ([]:List dP)) (bS.mk c.most c.every 0 ([]:List aD))) else some c):Option aL).bind λb=>(bif (r3.1.kind == 1) then ((lF b.t r3.1).bind λe=>some ((aL.mk b.most b.every b.addr b.aU b.due e.1 b.l b.f),e.2)) else ((kD r3.1).bind λd=>((iter (σ:=aL×Int) (ρ:=aL) (λa=>(bif (decide (a.2 < (d.2.1.length:Int))) then ((((idx d.2.1 a.2).bind λi=>((kq a.1.f (IntKind.i64.wrap (d.1+a.2))).bind λg=>(bif g.2 then ((kp a.1.l (IntKind.i64.wrap (d.1+a.2)) i).bind λj=>some (aL.mk a.1.most a.1.every a.1.addr a.1.aU a.1.due a.1.t j.1 g.1)) else some a.1))):Option aL).bind λk=>some (.inl (k,(IntKind.i64.wrap (a.2+1))))) else some (.inr a.1))) (b,0)).bind λm=>some (m,d.2.2))))))))))
def lJ (c:aL) (now:Int):Option (aL×(List ByteArray)) :=
 (((bif (decide (now>=c.due)) then ((ju c.t).bind λg=>((gH (bM.mk (imax 1 c.aU) g.kind g.bB g.data)).bind λh=>((chk (cW ([]:List ByteArray).length [h].length 16)).bind λ_=>some ((([]:List ByteArray)++[h]),(aL.mk c.most c.every c.addr c.aU (IntKind.i64.wrap (now+c.every)) c.t c.l c.f))))) else some (([]:List ByteArray),c)):Option ((List ByteArray)×aL)).bind λa=>((mI a.2.f now a.2.t.aJ.len).bind λd=>(((bif (decide ((d.2.length:Int) > 0)) then ((iter (σ:=bM×Int) (ρ:=bM) (λb=>(bif (decide (b.2 < (d.2.length:Int))) then ((idx d.2 b.2).bind λe=>((chk (cW b.1.bB.length [e.from_,e.to].length 8)).bind λ_=>some (.inl ((bM.mk b.1.aU b.1.kind (b.1.bB++[e.from_,e.to]) b.1.data),(IntKind.i64.wrap (b.2+1)))))) else some (.inr b.1))) ((bM.mk (imax 1 c.aU) 3 ([]:List Int) (ByteArray.mk #[])),0)).bind λj=>((gH j).bind λi=>((chk (cW a.1.length [i].length 16)).bind λ_=>some (a.1++[i])))) else some a.1):Option (List ByteArray)).bind λk=>some ((aL.mk a.2.most a.2.every a.2.addr a.2.aU a.2.due a.2.t a.2.l d.1),k))))
def lK (c:aL) (from_:Int) (to:Int):Option (aL×Int) :=
 ((jQ c.l).bind λr3=>((iter (σ:=aL×Int) (ρ:=aL) (λa=>(bif (decide (a.2 < (cD (imax 0 (cD to 1152921504606846976)) (IntKind.i64.wrap ((imax 0 (cD from_ 1152921504606846976))+c.most))))) then ((ll a.1.l a.2).bind λe=>some (.inl ((aL.mk a.1.most a.1.every a.1.addr a.1.aU a.1.due a.1.t e.1 a.1.f),(IntKind.i64.wrap (a.2+1))))) else some (.inr a.1))) (c,(imax 0 (cD from_ 1152921504606846976)))).bind λb=>((lG b.f (aD.mk (imax 0 (cD from_ 1152921504606846976)) (cD (imax 0 (cD to 1152921504606846976)) (IntKind.i64.wrap ((imax 0 (cD from_ 1152921504606846976))+c.most)))) r3).bind λd=>((jT d.l).bind λg=>some ((aL.mk b.most b.every b.addr b.aU b.due b.t b.l d),g)))))
def nj (c:aL) (addr:Int):Option aL :=
 ((ni addr).bind λr3=>some (aL.mk c.most c.every r3 c.aU c.due c.t c.l c.f))
structure jh where
 kind:Int
 later:Int
 from_:Int
 to:Int
 text:ByteArray
 deriving DecidableEq,Inhabited
def nD (x:jh):Prop:=(inK .i64) x.kind/\(inK .i64) x.later/\(inK .i64) x.from_/\(inK .i64) x.to/\(λs:ByteArray=>s.size<=maxLen) x.text/\True
def kR:Option Bool :=
 ((jC (iC.mk 5 3 7)).bind λr1=>((dU r1 0).bind λb=>(bif ((b.1.length:Int) != 1) then some false else ((idx b.1 0).bind λe=>((kx e).bind λc=>((eC (aV.mk 3 4 [0,0] (ByteArray.mk #[]))).bind λf=>((dV b.2 0 f).bind λa=>(((bif (c.2 == 0) then (bif (c.1.kind == 2) then (bif (c.1.aU == 1) then (bif (a.1 == 0) then ((fB a.2).bind λg=>(bif (g == 3) then ((fN a.2).bind λh=>(bif (h == 7) then ((dW a.2 0 9).bind λd=>some ((d.1 == 5),d.2)) else some (false,a.2))) else some (false,a.2))) else some (false,a.2)) else some (false,a.2)) else some (false,a.2)) else some (false,a.2)):Option (Bool×aF)).bind λi=>some i.1))))))))
def ma (c:aF) (x_:aL):Option Bool :=
 ((((fB c).bind λg=>(bif (g != x_.aU) then some true else ((fN c).bind λh=>(bif (h != x_.addr) then some true else ((gL c).bind λj=>((nC j x_.t.aJ).bind λk=>(bif (!k) then some true else ((gD c).bind λm=>((jQ x_.l).bind λn=>((kA m n).bind λo=>(bif (!o) then some true else ((fZ c).bind λp=>((kA p x_.f.l).bind λq=>some (!q)))))))))))))):Option Bool).bind λr=>(bif r then some false else ((iter (σ:=Int) (ρ:=Unit ⊕ Bool) (λa=>(bif (decide (a < (x_.l.l.length:Int))) then ((idx x_.l.l a).bind λb=>((fO c b.i).bind λd=>((lH x_ b.i).bind λe=>(((bif (!(d.2 == e.2)) then some true else ((jg d.1 e.1).bind λs=>some (!s))):Option Bool).bind λu=>(bif u then (fD (some false)) else some (.inl (IntKind.i64.wrap (a+1)))))))) else some (.inr (.inl ())))) 0).bind λ | .inl e534=>((fO c (-1)).bind λv=>some (!v.2)) | .inr w=>some w)))
def kS (l:List ByteArray) (x_:List ByteArray):Option Bool :=
 (bif ((l.length:Int) != (x_.length:Int)) then some false else ((iter (σ:=Int) (ρ:=Unit ⊕ Bool) (λa=>(bif (decide (a < (x_.length:Int))) then ((idx l a).bind λb=>((idx x_ a).bind λc=>(bif (!(b.toList == c.toList)) then (fD (some false)) else some (.inl (IntKind.i64.wrap (a+1)))))) else some (.inr (.inl ())))) 0).bind λ | .inl e355=>some true | .inr w=>some w))
def mb (c:aF) (x_:aL) (a:jh) (now:Int):Option (aL×Bool×aF) :=
 (bif (a.kind == 0) then ((lj a.text 400).bind λb=>((lI x_ b).bind λd=>((dV c now b).bind λe=>some (d.1,(e.1 == d.2),e.2)))) else (bif (a.kind == 1) then ((lJ x_ now).bind λf=>((dU c now).bind λg=>((kS g.1 f.2).bind λj=>some (f.1,j,g.2)))) else (bif (a.kind == 2) then ((lK x_ a.from_ a.to).bind λh=>((dW c a.from_ a.to).bind λi=>some (h.1,(i.1 == h.2),i.2))) else ((iD c a.from_).bind λk=>((nj x_ a.from_).bind λl=>some (l,true,k))))))
def iI (acts:List jh) (more:List jh):Option Bool :=
 (Option.bind kR λr1=>(bif (!r1) then some false else ((jC (iC.mk 4 2 5)).bind λh=>((mJ (ph.mk 4 2 5)).bind λi=>((iter (σ:=aL×aF×Int×Int) (ρ:=(Int×aL×aF) ⊕ Bool) (λa=>(((bif (decide (a.2.2.1 < (acts.length:Int))) then some (decide (a.2.2.1 < 15)) else some false):Option Bool).bind λj=>(bif j then ((idx acts a.2.2.1).bind λe=>((idx acts a.2.2.1).bind λk=>((mb a.2.1 a.1 k (IntKind.i64.wrap (a.2.2.2+(Go.bits .and .i64 e.later 7)))).bind λc=>(bif (!c.2.1) then (fD (some false)) else some (.inl (c.1,c.2.2,(IntKind.i64.wrap (a.2.2.1+1)),(IntKind.i64.wrap (a.2.2.2+(Go.bits .and .i64 e.later 7))))))))) else some (.inr (.inl (a.2.2.2,a.1,a.2.1)))))) (i,h,0,0)).bind λ | .inl e1338=>((((gE e1338.2.2).bind λl=>some (l,e1338.2.1)):Option (aF×aL)).bind λf=>((iter (σ:=aF×aL×Int×Int) (ρ:=(aF×aL) ⊕ Bool) (λb=>(((bif (decide (b.2.2.1 < (more.length:Int))) then some (decide (b.2.2.1 < 12)) else some false):Option Bool).bind λm=>(bif m then ((idx more b.2.2.1).bind λg=>((idx more b.2.2.1).bind λn=>((mb b.1 b.2.1 n (IntKind.i64.wrap (b.2.2.2+(Go.bits .and .i64 g.later 7)))).bind λd=>(bif (!d.2.1) then (fD (some false)) else some (.inl (d.2.2,d.1,(IntKind.i64.wrap (b.2.2.1+1)),(IntKind.i64.wrap (b.2.2.2+(Go.bits .and .i64 g.later 7))))))))) else some (.inr (.inl (b.1,b.2.1)))))) (f.1,f.2,0,e1338.1)).bind λ | .inl e3278=>((((ma e1338.2.2 e1338.2.1).bind λo=>(bif o then ((ma e3278.1 e3278.2).bind λp=>some p) else some false)):Option Bool).bind λq=>some q) | .inr w=>some w)) | .inr w=>some w)))))
end Go.Tw.X
end

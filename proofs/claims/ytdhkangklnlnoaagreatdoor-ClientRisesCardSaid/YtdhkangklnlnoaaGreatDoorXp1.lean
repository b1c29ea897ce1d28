import Derived.Test.YtdhkangklnlnoaaGreatDoorFw2
set_option linter.unusedVariables false
set_option linter.unusedSimpArgs false
set_option maxRecDepth 10000
noncomputable section
namespace Go.Tw.X
open Go Go.Tw
structure cH where
 b:List Int
 deriving DecidableEq,Inhabited
structure aD where
 s:ByteArray
 e:Int
 deriving DecidableEq,Inhabited
def lN (n_:Int):Option Int :=
 some n_
def nw (n_:Int):Option Int :=
 some (imax 0 (cW n_ 4611686018427387904))
def jb {σ:Type} (Y:σ->Int->Option (σ×Bool)) (y0:σ) (x1:Int):Option (σ×Int) :=
 ((nw x1).bind λr1=>((iter (σ:=Int×σ) (ρ:=(Int×σ) ⊕ (σ×Int)) (λa=>(bif (decide (a.1>=128)) then ((Y a.2 (Go.bits .or .u8 (Go.bits .and .u8 (IntKind.u8.wrap a.1) 127) 128)).bind λz68=>(bif (!z68.2) then (eV (some (z68.1,a.1))) else some (.inl ((a.1.fdiv (2 ^ (min 7 64))),z68.1)))) else some (.inr (.inl (a.1,a.2))))) (r1,y0)).bind λ | .inl e53=>((Y e53.2 (IntKind.u8.wrap e53.1)).bind λz75=>some (z75.1,e53.1)) | .inr w=>some w))
def dB (o:cH) (l:List Int):Option cH :=
 ((iter (σ:=cH×Int) (ρ:=cH) (λa=>(bif (decide (a.2 < (l.length:Int))) then ((idx l a.2).bind λe=>((lN e).bind λf=>((jb (λc d=>((chk (dF c.b.length [d].length 1)).bind λ_=>some ((cH.mk (c.b++[d])),true))) (a.1:cH) f).bind λg=>some (.inl (g.1,(IntKind.i64.wrap (a.2+1))))))) else some (.inr a.1))) (o,0)).bind λh=>some h)
def gI (o:cH) (l:List ByteArray):Option cH :=
 ((iter (σ:=cH×Int) (ρ:=cH) (λa=>(bif (decide (a.2 < (l.length:Int))) then ((idx l a.2).bind λc=>((chk (dF a.1.b.length c.size 1)).bind λ_=>some (.inl ((cH.mk (a.1.b++sbs c)),(IntKind.i64.wrap (a.2+1)))))) else some (.inr a.1))) (o,0)).bind λd=>some d)
def gW (o:cH) (l:List ByteArray):Option cH :=
 ((iter (σ:=cH×Int) (ρ:=cH) (λa=>(bif (decide (a.2 < (l.length:Int))) then ((idx l a.2).bind λb=>((dB a.1 [(b.size:Int)]).bind λc=>((gI c [b]).bind λd=>some (.inl (d,(IntKind.i64.wrap (a.2+1))))))) else some (.inr a.1))) (o,0)).bind λe=>some e)
def eY (o:cH):Option ByteArray :=
 some (dL o.b)
def kl (s_:ByteArray):Option aD :=
 some (aD.mk s_ 0)
def bM (in_:aD) (e:Int):Option aD :=
 (((bif (in_.e == 0) then some (e != 0) else some false):Option Bool).bind λe4=>(bif e4 then some (aD.mk (ByteArray.mk #[]) e) else some in_))
def bJ (in_:aD):Option (Int×aD) :=
 ((iter (σ:=Int×Int) (ρ:=Unit ⊕ (Int×aD)) (λa=>(bif (decide (a.1 < (cW (in_.s.size:Int) 9))) then ((ss in_.s a.1).bind λb213=>((chk (shk (IntKind.i64.wrap (7*a.1)))).bind λ_=>(bif (decide (b213>=128)) then some (.inl ((IntKind.i64.wrap (a.1+1)),(Go.bits .or .i64 a.2 (IntKind.i64.wrap ((IntKind.i64.wrap (Go.bits .and .u8 b213 127))*2 ^ (min (IntKind.i64.wrap (7*a.1)).toNat 64)))))) else (((bif (decide (a.1 > 0)) then (bif (b213 == 0) then some true else some (decide ((Go.bits .or .i64 a.2 (IntKind.i64.wrap ((IntKind.i64.wrap (Go.bits .and .u8 b213 127))*2 ^ (min (IntKind.i64.wrap (7*a.1)).toNat 64)))) > 4611686018427387904))) else some (decide ((Go.bits .or .i64 a.2 (IntKind.i64.wrap ((IntKind.i64.wrap (Go.bits .and .u8 b213 127))*2 ^ (min (IntKind.i64.wrap (7*a.1)).toNat 64)))) > 4611686018427387904))):Option Bool).bind λb=>(bif b then ((bM in_ 1).bind λc=>(eV (some (0,c)))) else ((chk (eK (IntKind.i64.wrap (a.1+1)) (in_.s.size:Int) in_.s.size)).bind λ_=>(eV (some ((Go.bits .or .i64 a.2 (IntKind.i64.wrap ((IntKind.i64.wrap (Go.bits .and .u8 b213 127))*2 ^ (min (IntKind.i64.wrap (7*a.1)).toNat 64)))),(aD.mk (gn in_.s (IntKind.i64.wrap (a.1+1)) (in_.s.size:Int)) in_.e)))))))))) else some (.inr (.inl ())))) (0,0)).bind λ | .inl e176=>(((bif (decide ((in_.s.size:Int)>=9)) then ((bM in_ 1).bind λd=>some d) else some in_):Option aD).bind λf=>((bM f 2).bind λg=>some (0,g))) | .inr w=>some w)
def km (in_:aD) (n_:Int):Option (ByteArray×aD) :=
 (bif (decide ((imax 0 n_) > (in_.s.size:Int))) then ((bM in_ 2).bind λr6=>some ((ByteArray.mk #[]),r6)) else ((chk (eK 0 (imax 0 n_) in_.s.size)).bind λ_=>((chk (eK (imax 0 n_) (in_.s.size:Int) in_.s.size)).bind λ_=>some ((gn in_.s 0 (imax 0 n_)),(aD.mk (gn in_.s (imax 0 n_) (in_.s.size:Int)) in_.e)))))
def gJ (in_:aD):Option (ByteArray×aD) :=
 ((bJ in_).bind λr1=>((km r1.2 r1.1).bind λr4=>some (r4.1,r4.2)))
def cT (in_:aD):Option Int :=
 some in_.e
def iu (in_:aD):Option Int :=
 (bif (!(in_.s.toList == (ByteArray.mk #[]).toList)) then some 1 else some in_.e)
def jG (in_:aD):Option Int :=
 some (in_.s.size:Int)
structure pw where
 lead:Int
 rune:Int
 F5:Int
 deriving DecidableEq,Inhabited
structure om where
 first:Int
 last:Int
 F5:Int
 low:Int
 high:Int
 deriving DecidableEq,Inhabited
def tu:List om:=[⟨194,223,1,128,191⟩,⟨224,224,2,160,191⟩,⟨225,236,2,128,191⟩,⟨237,237,2,128,159⟩,⟨238,239,2,128,191⟩,⟨240,240,3,144,191⟩,⟨241,243,3,128,191⟩,⟨244,244,3,128,143⟩]
structure cM where
 addr:Bool
 buf:List Int
 deriving DecidableEq,Inhabited
structure jS where
 e0:Int
 e1:Int
 e2:Int
 deriving DecidableEq,Inhabited
def lO (x_:Int) (y:Int):Option (Int×Int) :=
 some ((IntKind.u64.wrap ((IntKind.u64.wrap ((IntKind.u64.wrap ((x_.fdiv (2 ^ (min 32 64)))*(y.fdiv (2 ^ (min 32 64)))))+((IntKind.u64.wrap ((IntKind.u64.wrap ((x_.fdiv (2 ^ (min 32 64)))*(Go.bits .and .u64 y 4294967295)))+((IntKind.u64.wrap ((Go.bits .and .u64 x_ 4294967295)*(Go.bits .and .u64 y 4294967295))).fdiv (2 ^ (min 32 64))))).fdiv (2 ^ (min 32 64)))))+((IntKind.u64.wrap ((Go.bits .and .u64 (IntKind.u64.wrap ((IntKind.u64.wrap ((x_.fdiv (2 ^ (min 32 64)))*(Go.bits .and .u64 y 4294967295)))+((IntKind.u64.wrap ((Go.bits .and .u64 x_ 4294967295)*(Go.bits .and .u64 y 4294967295))).fdiv (2 ^ (min 32 64))))) 4294967295)+(IntKind.u64.wrap ((Go.bits .and .u64 x_ 4294967295)*(y.fdiv (2 ^ (min 32 64))))))).fdiv (2 ^ (min 32 64))))),(IntKind.u64.wrap (x_*y)))
def lY (x_:Int) (y:Int):Option (Int×Int) :=
 ((lO x_ y).bind λr1=>some (r1.1,r1.2))
def dM (b:cM) (s_:ByteArray):Option cM :=
 ((chk (dF b.buf.length s_.size 1)).bind λ_=>some (cM.mk true (b.buf++sbs s_)))
def gK (b:cM):Option ByteArray :=
 some (dL b.buf)
def iF (x_:Int):Option Bool :=
 some (x_ != x_)
def gw (x_:Int) (y:Int):Option Int :=
 ((iF x_).bind λr1=>((iF y).bind λr4=>(bif r1 then (bif r4 then some 0 else some (-1)) else (bif r4 then some 1 else (bif (decide (x_ < y)) then some (-1) else (bif (decide (x_ > y)) then some 1 else some 0))))))
structure aL where
 rune:Int
 bO:Int
 part:Int
 deriving DecidableEq,Inhabited
structure aT where
 cells:List aL
 wrapped:Bool
 deriving DecidableEq,Inhabited
structure aJ where
 rune:Int
 bO:Int
 deriving DecidableEq,Inhabited
def dR (x_:List aL) (count:Int):Option (List aL) :=
 (bif (decide (count < 0)) then none else ((lY (IntKind.u64.wrap (x_.length:Int)) (IntKind.u64.wrap count)).bind λr3=>(((bif (decide (r3.1 > 0)) then some true else some (decide (r3.2 > 9223372036854775807))):Option Bool).bind λe9=>(bif e9 then none else ((chk (sn (IntKind.i64.wrap r3.2) 24)).bind λ_=>((iter (σ:=(List aL)×Int) (ρ:=(List aL)) (λa=>(bif (decide (a.2 < (a.1.length:Int))) then ((chk (eK a.2 (a.1.length:Int) a.1.length)).bind λ_=>((chk (eK 0 a.2 a.1.length)).bind λ_=>some (.inl ((tr a.1 a.2.toNat),(IntKind.i64.wrap (a.2+((Nat.min a.2.toNat (a.1.length - a.2.toNat):Nat):Int))))))) else some (.inr a.1))) ((cpy (List.replicate (IntKind.i64.wrap r3.2).toNat (aL.mk 0 0 0)) x_),((Nat.min x_.length (List.replicate (IntKind.i64.wrap r3.2).toNat (aL.mk 0 0 0)).length:Nat):Int))).bind λb=>some b))))))
def fh (s_:List aL):Option (List aL) :=
 ((chk (dF ([]:List aL).length s_.length 24)).bind λ_=>some (([]:List aL)++s_))
def fj (s1_:List aL) (s2_:List aL):Option Bool :=
 (bif ((s1_.length:Int) != (s2_.length:Int)) then some false else ((iter (σ:=Int) (ρ:=Unit ⊕ Bool) (λa=>(bif (decide (a < (s1_.length:Int))) then ((idx s1_ a).bind λb=>((idx s2_ a).bind λc=>(bif (!((b.rune == c.rune) && ((b.bO == c.bO) && ((b.part == c.part) && true)))) then (eV (some false)) else some (.inl (IntKind.i64.wrap (a+1)))))) else some (.inr (.inl ())))) 0).bind λ | .inl e355=>some true | .inr w=>some w))
def gX (r_:aT) (q:aT):Option Bool :=
 (((bif (r_.wrapped == q.wrapped) then ((fj r_.cells q.cells).bind λa=>some a) else some false):Option Bool).bind λb=>some b)
def cP (s_:List aJ):Option (List aJ) :=
 ((chk (dF ([]:List aJ).length s_.length 16)).bind λ_=>some (([]:List aJ)++s_))
def dC:List Int:=[0,498536548,997073096,651767980,1994146192,1802195444,1303535960,1342533948,3988292384,4027552580,3604390888,3412177804,2607071920,2262029012,2685067896,3183342108]
def kM (x_:Int) (b:Int):Option Int :=
 ((idx dC (Go.bits .and .u32 (Go.bits .xor .u32 x_ (IntKind.u32.wrap b)) 15)).bind λx1=>((idx dC (Go.bits .and .u32 (Go.bits .xor .u32 ((Go.bits .xor .u32 x_ (IntKind.u32.wrap b)).fdiv (2 ^ (min 4 32))) x1) 15)).bind λx5=>some (Go.bits .xor .u32 ((Go.bits .xor .u32 ((Go.bits .xor .u32 x_ (IntKind.u32.wrap b)).fdiv (2 ^ (min 4 32))) x1).fdiv (2 ^ (min 4 32))) x5)))
def lZ (l:List ByteArray):Option Int :=
 ((iter (σ:=Int×Int) (ρ:=Int) (λa=>(bif (decide (a.2 < (l.length:Int))) then ((idx l a.2).bind λc=>((iter (σ:=Int×Int) (ρ:=Int) (λb=>(bif (decide (b.1 < (c.size:Int))) then ((ss c b.1).bind λb642=>((kM b.2 b642).bind λd=>some (.inl ((IntKind.i64.wrap (b.1+1)),d)))) else some (.inr b.2))) (0,a.1)).bind λe=>some (.inl (e,(IntKind.i64.wrap (a.2+1)))))) else some (.inr a.1))) (4294967295,0)).bind λf=>some (Go.bits .xor .u32 4294967295 f))
def kN (x_:Int):Option ByteArray :=
 some (dL [(IntKind.u8.wrap x_),(IntKind.u8.wrap (x_.fdiv (2 ^ (min 8 32)))),(IntKind.u8.wrap (x_.fdiv (2 ^ (min 16 32)))),(IntKind.u8.wrap (x_.fdiv (2 ^ (min 24 32))))])
def kO (s_:ByteArray):Option ByteArray :=
 ((lZ [s_]).bind λr3=>((kN r3).bind λr6=>((chk (kH s_.size r6.size)).bind λ_=>some (s_++r6))))
def l0 (s_:ByteArray):Option (ByteArray×Bool) :=
 (((bif (decide ((IntKind.i64.wrap ((s_.size:Int) - 4)) < 0)) then some true else ((chk (eK (IntKind.i64.wrap ((s_.size:Int) - 4)) (s_.size:Int) s_.size)).bind λ_=>((chk (eK 0 (IntKind.i64.wrap ((s_.size:Int) - 4)) s_.size)).bind λ_=>((lZ [(gn s_ 0 (IntKind.i64.wrap ((s_.size:Int) - 4)))]).bind λa=>((kN a).bind λb=>some (!((gn s_ (IntKind.i64.wrap ((s_.size:Int) - 4)) (s_.size:Int)).toList == b.toList))))))):Option Bool).bind λc=>(bif c then some ((ByteArray.mk #[]),false) else ((chk (eK 0 (IntKind.i64.wrap ((s_.size:Int) - 4)) s_.size)).bind λ_=>some ((gn s_ 0 (IntKind.i64.wrap ((s_.size:Int) - 4))),true))))
def k8 (l:List aJ):Option ByteArray :=
 ((dB (cH.mk ([]:List Int)) [(l.length:Int)]).bind λr6=>((iter (σ:=cH×Int) (ρ:=cH) (λa=>(bif (decide (a.2 < (l.length:Int))) then ((idx l a.2).bind λb=>((dB a.1 [(IntKind.i64.wrap b.rune),b.bO]).bind λc=>some (.inl (c,(IntKind.i64.wrap (a.2+1)))))) else some (.inr a.1))) (r6,0)).bind λd=>((eY d).bind λe=>some e)))
def fw (in_:aD) (most:Int):Option (Int×aD) :=
 ((bJ in_).bind λr1=>(bif (decide (r1.1 > most)) then ((bM r1.2 1).bind λr9=>some (0,r9)) else some (r1.1,r1.2)))
def ik (in_:aD):Option ((List aJ)×aD) :=
 ((fw in_ 1024).bind λr1=>((iter (σ:=aD×(List aJ)×Int) (ρ:=(List aJ)×aD) (λa=>(bif (decide (a.2.2 < r1.1)) then ((fw a.1 1114111).bind λc=>((fw c.2 647).bind λd=>((chk (dF a.2.1.length [(aJ.mk (IntKind.i32.wrap c.1) d.1)].length 16)).bind λ_=>some (.inl (d.2,(a.2.1++[(aJ.mk (IntKind.i32.wrap c.1) d.1)]),(IntKind.i64.wrap (a.2.2+1))))))) else some (.inr (a.2.1,a.1)))) (r1.2,[],0)).bind λb=>((cT b.2).bind λe=>(bif (e != 0) then some (([]:List aJ),b.2) else some (b.1,b.2)))))
structure aB where
 from_:Int
 to:Int
 deriving DecidableEq,Inhabited
structure cB where
 l:List aB
 deriving DecidableEq,Inhabited
def eI (x_:aB):Option aB :=
 some (aB.mk (imax (-1152921504606846976) (cW x_.from_ 1152921504606846976)) (imax (-1152921504606846976) (cW x_.to 1152921504606846976)))
def iT (x_:aB) (y:aB):Option aB :=
 some (aB.mk (imax x_.from_ y.from_) (cW x_.to y.to))
def dD (x_:aB):Option Bool :=
 some (decide (x_.to<=x_.from_))
def gY (s_:cB) (x_:aB):Option (List aB) :=
 ((iter (σ:=Int×(List aB)) (ρ:=(List aB)) (λa=>(bif (decide (a.1 < (s_.l.length:Int))) then ((((idx s_.l a.1).bind λc=>((eI x_).bind λd=>((iT c d).bind λb=>((dD b).bind λe=>(bif (!e) then ((chk (dF a.2.length [b].length 16)).bind λ_=>some (a.2++[b])) else some a.2))))):Option (List aB)).bind λf=>some (.inl ((IntKind.i64.wrap (a.1+1)),f))) else some (.inr a.2))) (0,[])).bind λg=>some g)
def cR (x_:aB) (x1:Int):Option Bool :=
 (((bif (decide (x1>=x_.from_)) then some (decide (x1 < x_.to)) else some false):Option Bool).bind λe5=>some e5)
def bT (s_:List aB) (f_0:Int):Option Int :=
 ((iter (σ:=Int) (ρ:=Unit ⊕ Int) (λa=>(bif (decide (a < (s_.length:Int))) then ((idx s_ a).bind λb=>((cR b f_0).bind λc=>(bif c then (eV (some a)) else some (.inl (IntKind.i64.wrap (a+1)))))) else some (.inr (.inl ())))) 0).bind λ | .inl e77=>some (-1) | .inr w=>some w)
def cJ (s_:List aB) (f_0:Int):Option Bool :=
 ((bT s_ f_0).bind λr1=>some (decide (r1>=0)))
def fW (s_:cB) (n_:Int):Option Bool :=
 ((cJ s_.l n_).bind λr2=>some r2)
def jT (l:List aB) (x_:aB):Option ((List aB)×aB) :=
 some (l,x_)
def gx {σ:Type} (Y:σ->aB->Option (σ×Bool)) (y0:σ) (x1:List aB) (x2:aB):Option σ :=
 ((iter (σ:=Int×σ) (ρ:=σ ⊕ σ) (λc=>(bif (decide (c.1 < (x1.length:Int))) then ((idx x1 c.1).bind λa=>((iter (σ:=Int×σ) (ρ:=σ ⊕ ((Int×σ) ⊕ (σ ⊕ σ))) (λb=>(bif (decide (b.1 < ([(aB.mk a.from_ (cW a.to x2.from_)),(aB.mk (imax a.from_ x2.to) a.to)].length:Int))) then ((idx [(aB.mk a.from_ (cW a.to x2.from_)),(aB.mk (imax a.from_ x2.to) a.to)] b.1).bind λe=>((((dD e).bind λf=>(bif (!f) then ((Y b.2 e).bind λz2582=>some ((!z2582.2),z2582.1)) else some (false,b.2))):Option (Bool×σ)).bind λd=>(bif d.1 then (eV (eV (some d.2))) else some (.inl ((IntKind.i64.wrap (b.1+1)),d.2))))) else some (.inr (.inl b.2)))) (0,c.2)).bind λ | .inl e2507=>some (.inl ((IntKind.i64.wrap (c.1+1)),e2507)) | .inr w=>some w)) else some (.inr (.inl c.2)))) (0,y0)).bind λ | .inl e1939=>some e1939 | .inr w=>some w)
def gu (s_:cB) (l:List aB):Option cB :=
 ((iter (σ:=cB×Int) (ρ:=cB) (λa=>(bif (decide (a.2 < (l.length:Int))) then ((((idx l a.2).bind λf=>((eI f).bind λb=>((dD b).bind λg=>(bif g then some a.1 else ((jT a.1.l b).bind λc=>((gx (λd e=>((chk (dF d.length [e].length 16)).bind λ_=>some ((d++[e]),true))) ([]:(List aB)) c.1 c.2).bind λh=>some (cB.mk h))))))):Option cB).bind λi=>some (.inl (i,(IntKind.i64.wrap (a.2+1))))) else some (.inr a.1))) (s_,0)).bind λj=>some j)
def eW (n_:Int):Option (List aB) :=
 (bif (decide (n_ < 0)) then none else (((bif (decide ((IntKind.i64.wrap (n_ - (IntKind.i64.wrap (0 - 0)))) > 0)) then ((chk (Eu (IntKind.i64.wrap (n_ - (IntKind.i64.wrap (0 - 0)))) 16)).bind λ_=>((chk (eK 0 0 (List.replicate (IntKind.i64.wrap (n_ - (IntKind.i64.wrap (0 - 0)))).toNat (aB.mk 0 0)).length)).bind λ_=>some (cut (List.replicate (IntKind.i64.wrap (n_ - (IntKind.i64.wrap (0 - 0)))).toNat (aB.mk 0 0)) 0 0))) else some []):Option (List aB)).bind λa=>some a))
def dJ (slices:List (List aB)):Option (List aB) :=
 ((iter (σ:=Int×Int) (ρ:=Int) (λa=>(bif (decide (a.1 < (slices.length:Int))) then ((idx slices a.1).bind λc=>(bif (decide ((IntKind.i64.wrap (a.2+(c.length:Int))) < 0)) then none else some (.inl ((IntKind.i64.wrap (a.1+1)),(IntKind.i64.wrap (a.2+(c.length:Int))))))) else some (.inr a.2))) (0,0)).bind λe=>((eW e).bind λf=>((iter (σ:=Int×(List aB)) (ρ:=(List aB)) (λb=>(bif (decide (b.1 < (slices.length:Int))) then ((idx slices b.1).bind λd=>((chk (dF b.2.length d.length 16)).bind λ_=>some (.inl ((IntKind.i64.wrap (b.1+1)),(b.2++d))))) else some (.inr b.2))) (0,f)).bind λg=>some g)))
def fE (s_:cB) (l:List aB):Option cB :=
 ((iter (σ:=cB×Int) (ρ:=cB) (λb=>(bif (decide (b.2 < (l.length:Int))) then ((((idx l b.2).bind λe=>((eI e).bind λd=>((dD d).bind λf=>(bif f then some b.1 else ((iter (σ:=aB×Int×(List aB)) (ρ:=((List aB)×aB) ⊕ cB) (λa=>(bif (decide (a.2.1 < (b.1.l.length:Int))) then ((((idx b.1.l a.2.1).bind λc=>(bif (decide (c.to < a.1.from_)) then ((chk (dF a.2.2.length [c].length 16)).bind λ_=>some (.inl ((a.2.2++[c]),a.1))) else (bif (decide (c.from_ > a.1.to)) then ((chk (eK a.2.1 (b.1.l.length:Int) b.1.l.length)).bind λ_=>((dJ ([a.2.2,[a.1],(cut b.1.l a.2.1 (b.1.l.length:Int))])).bind λg=>(mj (eV (some (cB.mk g)))))) else some (.inl (a.2.2,(aB.mk (cW a.1.from_ c.from_) (imax a.1.to c.to))))))):Option (((List aB)×aB) ⊕ ((aB×Int×(List aB)) ⊕ (((List aB)×aB) ⊕ cB)))).bind λ | .inl e14292=>some (.inl (e14292.2,(IntKind.i64.wrap (a.2.1+1)),e14292.1)) | .inr w=>some w) else some (.inr (.inl (a.2.2,a.1))))) (d,0,[])).bind λ | .inl e14097=>((chk (dF e14097.1.length [e14097.2].length 16)).bind λ_=>some (cB.mk (e14097.1++[e14097.2]))) | .inr w=>some w))))):Option cB).bind λh=>some (.inl (h,(IntKind.i64.wrap (b.2+1))))) else some (.inr b.1))) (s_,0)).bind λi=>some i)
def gq (s_:List aB):Option (List aB) :=
 ((chk (dF ([]:List aB).length s_.length 16)).bind λ_=>some (([]:List aB)++s_))
def iU (s_:cB):Option (List aB) :=
 ((gq s_.l).bind λr1=>some r1)
def iG (s_:cB):Option Int :=
 ((iter (σ:=Int×Int) (ρ:=Int) (λa=>(bif (decide (a.1 < (s_.l.length:Int))) then ((idx s_.l a.1).bind λb=>some (.inl ((IntKind.i64.wrap (a.1+1)),(IntKind.i64.wrap (a.2+(IntKind.i64.wrap (b.to - b.from_))))))) else some (.inr a.2))) (0,0)).bind λc=>some c)
structure CacheEntry where
 l:List aJ
 at_:Int
 deriving DecidableEq,Inhabited
structure aQ where
 most:Int
 now:Int
 l:Mp CacheEntry
 deriving DecidableEq,Inhabited
def kd (most:Int):Option aQ :=
 some (aQ.mk (imax 1 (cW most 65536)) 0 (some []:Mp CacheEntry))
def fC (c:aQ):Option aQ :=
 some (aQ.mk c.most c.now (CA c.l))
def fD (c:aQ) (i:Int) (l:List aJ):Option aQ :=
 ((chk c.l.isSome).bind λ_=>some (aQ.mk c.most (IntKind.i64.wrap (c.now+1)) (zo c.l i (CacheEntry.mk l (IntKind.i64.wrap (c.now+1))))))
def gZ (m_:Mp CacheEntry):Option Unit :=
 some ()
def dQ (seq_0:Mp CacheEntry):Option Unit :=
 ((chk seq_0.isSome).bind λ_=>Option.bind (chk (dF (xw seq_0) 1 8)) λ_=>some ())
def eL (a:Int) (b:Int) (x2:aQ):Option Int :=
 ((((gw ((mgd x2.l a (CacheEntry.mk ([]:List aJ) 0)).at_) ((mgd x2.l b (CacheEntry.mk ([]:List aJ) 0)).at_)).bind λc=>some c):Option Int).bind λd=>some d)
def dA (x_:List Int) (cmp_0:aQ):Option Int :=
 (bif (decide ((x_.length:Int) < 1)) then none else ((idx x_ 0).bind λx3=>((iter (σ:=Int×Int) (ρ:=Int) (λa=>(bif (decide (a.2 < (x_.length:Int))) then ((((idx x_ a.2).bind λb=>((eL b a.1 cmp_0).bind λc=>(bif (decide (c < 0)) then ((idx x_ a.2).bind λd=>some d) else some a.1))):Option Int).bind λe=>some (.inl (e,(IntKind.i64.wrap (a.2+1))))) else some (.inr a.1))) (x3,1)).bind λf=>some f)))
def fO (c:aQ) (i:Int) (l:List aJ):Option (Int×Bool×aQ) :=
 (((bif (decide (i < 0)) then some true else some (decide (i > 1152921504606846976))):Option Bool).bind λe5=>(bif e5 then some (0,false,c) else ((cP l).bind λd=>((fD c i d).bind λa=>(bif (decide (((xw a.l:Nat):Int)<=a.most)) then some (0,false,a) else ((gZ a.l).bind λe=>((dQ a.l).bind λf=>(uy (mks a.l) λv64=>((dA v64 a).bind λb=>some (b,true,(aQ.mk a.most a.now (zp a.l b))))))))))))
def dH (c:aQ):Option (List aB) :=
 ((chk c.l.isSome).bind λ_=>((uy (c.l.getD []) (λR=>lX (λs=>some (.inr s)) (λe s=>((fE s [(aB.mk e.1 (IntKind.i64.wrap (e.1+1)))]).bind λs2=>some (.inl s2))) R (cB.mk []))).bind λs1=>iU s1))
def fG (c:aQ) (i:Int):Option ((List aJ)×Bool) :=
 ((cP ((mgd c.l i (CacheEntry.mk ([]:List aJ) 0)).l)).bind λr5=>some (r5,(kL c.l i)))
def ko (c:aQ) (i:Int):Option ((List aJ)×Bool×aQ) :=
 (((bif (kL c.l i) then ((fD c i ((mgd c.l i (CacheEntry.mk ([]:List aJ) 0)).l)).bind λd=>some d) else some c):Option aQ).bind λa=>((fG a i).bind λb=>some (b.1,b.2,a)))
structure aU where
 aY:Int
 kind:Int
 aZ:List Int
 data:ByteArray
 deriving DecidableEq,Inhabited
def gL (n_:Int) (lo:Int) (hi:Int):Option Bool :=
 (((bif (decide (n_>=lo)) then some (decide (n_<=hi)) else some false):Option Bool).bind λe4=>some e4)
def gy (g:aU):Option Bool :=
 ((((gL g.aY 1 4294967296).bind λb=>(bif (!b) then some true else ((gL g.kind 1 4).bind λc=>(bif (!c) then some true else some (decide ((g.aZ.length:Int) > 64)))))):Option Bool).bind λd=>(bif d then some false else ((iter (σ:=Int) (ρ:=Unit ⊕ Bool) (λa=>(bif (decide (a < (g.aZ.length:Int))) then ((idx g.aZ a).bind λe=>((gL e 0 4611686018427387904).bind λf=>(bif (!f) then (eV (some false)) else some (.inl (IntKind.i64.wrap (a+1)))))) else some (.inr (.inl ())))) 0).bind λ | .inl e108=>some true | .inr w=>some w)))
def fP (g:aU):Option ByteArray :=
 ((dB (cH.mk ([]:List Int)) [g.aY,g.kind,(g.aZ.length:Int)]).bind λa=>((dB a g.aZ).bind λb=>((gW b [g.data]).bind λc=>((eY c).bind λd=>((kO d).bind λe=>some e)))))
def fQ (g:aU):Option Int :=
 ((gy g).bind λa=>(bif (!a) then some 6 else ((fP g).bind λb=>(bif (decide ((b.size:Int) > 8192)) then some 3 else some 0))))
def eJ (g:aU):Option ByteArray :=
 ((fQ g).bind λr2=>(bif (r2 != 0) then some (ByteArray.mk #[]) else ((fP g).bind λr7=>some r7)))
def k9 (in_:aD):Option (aU×aD) :=
 ((bJ in_).bind λr2=>((bJ r2.2).bind λr5=>((bJ r5.2).bind λr9=>(((bif (decide (r9.1 > 64)) then ((bM r9.2 1).bind λe=>some e) else some r9.2):Option aD).bind λf=>((iter (σ:=aU×aD×Int) (ρ:=aD×aU) (λa=>(bif (decide (a.2.2 < (cW r9.1 64))) then ((bJ a.2.1).bind λc=>((chk (dF a.1.aZ.length [c.1].length 8)).bind λ_=>some (.inl ((aU.mk a.1.aY a.1.kind (a.1.aZ++[c.1]) a.1.data),c.2,(IntKind.i64.wrap (a.2.2+1)))))) else some (.inr (a.2.1,a.1)))) ((aU.mk r2.1 r5.1 ([]:List Int) (ByteArray.mk #[])),f,0)).bind λb=>((gJ b.1).bind λd=>some ((aU.mk b.2.aY b.2.kind b.2.aZ d.1),d.2)))))))
def jo (s_:ByteArray):Option (aU×Int) :=
 (bif (decide ((s_.size:Int) > 8192)) then some ((aU.mk 0 0 ([]:List Int) (ByteArray.mk #[])),3) else ((l0 s_).bind λr5=>(bif (!r5.2) then some ((aU.mk 0 0 ([]:List Int) (ByteArray.mk #[])),4) else ((kl r5.1).bind λd=>((k9 d).bind λa=>((iu a.2).bind λb=>(((bif (b == 0) then ((fQ a.1).bind λe=>some e) else some b):Option Int).bind λc=>(bif (c != 0) then some ((aU.mk 0 0 ([]:List Int) (ByteArray.mk #[])),c) else some (a.1,0)))))))))
structure bH where
 most:Int
 every:Int
 due:Int
 want:cB
 deriving DecidableEq,Inhabited
def gA (n_:Int) (lo:Int) (hi:Int):Option Int :=
 some (imax lo (cW n_ hi))
def ke (most:Int) (every:Int):Option bH :=
 ((gA most 1 65536).bind λr1=>((gA every 1 1048576).bind λr4=>some (bH.mk r1 r4 0 (cB.mk ([]:List aB)))))
def gB (f:bH) (now:Int) (length:Int):Option ((List aB)×bH) :=
 ((gY f.want (aB.mk 0 length)).bind λr1=>(((bif ((r1.length:Int) == 0) then some true else some (decide (now < f.due))):Option Bool).bind λa=>(bif a then some (([]:List aB),f) else ((chk (eK 0 (cW (r1.length:Int) 8) r1.length)).bind λ_=>some ((cut r1 0 (cW (r1.length:Int) 8)),(bH.mk f.most f.every (IntKind.i64.wrap (now+f.every)) f.want))))))
def dS (f:bH):Option bH :=
 some (bH.mk f.most f.every 0 (cB.mk ([]:List aB)))
def iv (g:aU):Option (Int×(List (List aJ))×Int) :=
 (bif (g.kind != 4) then some (0,([]:List (List aJ)),5) else (bif ((g.aZ.length:Int) != 2) then some (0,([]:List (List aJ)),1) else ((kl g.data).bind λr8=>((iter (σ:=aD×(List (List aJ))) (ρ:=(List (List aJ))×aD) (λa=>((((jG a.1).bind λf=>(bif (decide (f > 0)) then ((idx g.aZ 1).bind λh=>some (decide ((a.2.length:Int) < h))) else some false)):Option Bool).bind λi=>(bif i then ((ik a.1).bind λb=>((chk (dF a.2.length [b.1].length 24)).bind λ_=>some (.inl (b.2,(a.2++[b.1]))))) else some (.inr (a.2,a.1))))) (r8,[])).bind λc=>((iu c.2).bind λd=>(((bif (d == 0) then ((idx g.aZ 1).bind λj=>some ((c.1.length:Int) != j)) else some false):Option Bool).bind λk=>(((bif k then some 1 else some d):Option Int).bind λe=>(bif (e != 0) then some (0,([]:List (List aJ)),e) else ((idx g.aZ 0).bind λl=>some (l,c.1,0))))))))))
def lb (is:Bool):Option Int :=
 (bif is then some 1 else some 0)
def eP (f:bH) (i:Int):Option (Bool×bH) :=
 ((fW f.want i).bind λr1=>((lb (decide (i < 1152921504606846976))).bind λa=>((gu f.want [(aB.mk i (IntKind.i64.wrap (i+a)))]).bind λb=>some (r1,(bH.mk f.most f.every f.due b)))))
def iw (f:bH) (x_:aB) (aO:List aB):Option (Int×bH) :=
 ((gA x_.from_ 0 1152921504606846976).bind λb=>((gA x_.to 0 1152921504606846976).bind λd=>((dS f).bind λa=>((fE a.want [(aB.mk b (cW d (IntKind.i64.wrap (b+f.most))))]).bind λe=>((gu e aO).bind λc=>((iG c).bind λg=>some (g,(bH.mk a.most a.every a.due c))))))))
def gC (f:bH):Option (List aB) :=
 ((iU f.want).bind λr1=>some r1)
structure zu where
 kind:Int
 rune:Int
 byte:Int
 AI:Bool
 aZ:List Int
 text:ByteArray
 deriving DecidableEq,Inhabited
structure vP where
 AI:Bool
 Ga:Bool
 any:Bool
 some:Bool
 n:Int
 aZ:List Int
 deriving DecidableEq,Inhabited
structure zv where
 state:Int
 order:vP
 text:ByteArray
 Gb:pw
 out:List zu
 deriving DecidableEq,Inhabited
structure aM where
 k:Int
 w:Int
 h:Int
 x:Int
 y:Int
 title:ByteArray
 rows:List aT
 len:Int
 chain:Int
 begun:List aJ
 deriving DecidableEq,Inhabited
def fy (s_:aM):Option Bool :=
 (((bif (s_.k == 0) then (bif (s_.w == 0) then (bif (s_.h == 0) then (bif (s_.x == 0) then (bif (s_.y == 0) then (bif (s_.title.toList == (ByteArray.mk #[]).toList) then (bif ((s_.rows.length:Int) == 0) then (bif (s_.len == 0) then (bif (s_.chain == 0) then some ((s_.begun.length:Int) == 0) else some false) else some false) else some false) else some false) else some false) else some false) else some false) else some false) else some false):Option Bool).bind λa=>some a)
def dK (n_:Int) (lo:Int) (hi:Int):Option Bool :=
 (((bif (decide (n_>=lo)) then some (decide (n_<=hi)) else some false):Option Bool).bind λe4=>some e4)
def gD (s_:aM):Option Bool :=
 ((((dK s_.k 1 1152921504606846976).bind λa=>(bif a then ((dK s_.w 1 1000).bind λb=>(bif b then ((dK s_.h 1 1000).bind λc=>(bif c then ((dK s_.x 0 (IntKind.i64.wrap (s_.w - 1))).bind λd=>(bif d then ((dK s_.y 0 (IntKind.i64.wrap (s_.h - 1))).bind λe=>(bif e then (bif ((s_.rows.length:Int) == s_.h) then (bif (decide ((s_.title.size:Int)<=200)) then ((dK s_.len 0 1152921504606846976).bind λf=>(bif f then ((dK s_.chain 0 281474976710656).bind λg=>(bif g then some (decide ((s_.begun.length:Int)<=1024)) else some false)) else some false)) else some false) else some false) else some false)) else some false)) else some false)) else some false)) else some false)):Option Bool).bind λi=>some i)
def jq (r_:Int) (bO:Int):Option Bool :=
 ((((dK (IntKind.i64.wrap r_) 0 1114111).bind λa=>(bif a then ((dK bO 0 647).bind λb=>some b) else some false)):Option Bool).bind λc=>some c)
def fY (g:aJ):Option Bool :=
 ((jq g.rune g.bO).bind λr2=>some (!r2))
def cS (s_:List aJ):Option Int :=
 ((iter (σ:=Int) (ρ:=Unit ⊕ Int) (λa=>(bif (decide (a < (s_.length:Int))) then ((idx s_ a).bind λb=>((fY b).bind λc=>(bif c then (eV (some a)) else some (.inl (IntKind.i64.wrap (a+1)))))) else some (.inr (.inl ())))) 0).bind λ | .inl e77=>some (-1) | .inr w=>some w)
def cE (s_:List aJ):Option Bool :=
 ((cS s_).bind λr1=>some (decide (r1>=0)))
def ld (c:aL):Option Bool :=
 ((((jq c.rune c.bO).bind λa=>(bif a then ((dK c.part 0 3).bind λb=>some b) else some false)):Option Bool).bind λd=>some d)
def fZ (c:aL):Option Bool :=
 ((ld c).bind λr2=>some (!r2))
def cU (s_:List aL):Option Int :=
 ((iter (σ:=Int) (ρ:=Unit ⊕ Int) (λa=>(bif (decide (a < (s_.length:Int))) then ((idx s_ a).bind λb=>((fZ b).bind λc=>(bif c then (eV (some a)) else some (.inl (IntKind.i64.wrap (a+1)))))) else some (.inr (.inl ())))) 0).bind λ | .inl e77=>some (-1) | .inr w=>some w)
def bX (s_:List aL):Option Bool :=
 ((cU s_).bind λr1=>some (decide (r1>=0)))
def fz (s_:aM):Option Int :=
 ((fy s_).bind λr2=>(bif r2 then some 0 else ((((gD s_).bind λc=>(bif (!c) then some true else ((cE s_.begun).bind λd=>some d))):Option Bool).bind λe=>(bif e then some 1 else ((iter (σ:=Int) (ρ:=Unit ⊕ Int) (λa=>(bif (decide (a < (s_.rows.length:Int))) then ((idx s_.rows a).bind λb=>(((bif ((b.cells.length:Int) != s_.w) then some true else ((bX b.cells).bind λf=>some f)):Option Bool).bind λg=>(bif g then (eV (some 1)) else some (.inl (IntKind.i64.wrap (a+1)))))) else some (.inr (.inl ())))) 0).bind λ | .inl e212=>some 0 | .inr w=>some w)))))
def ny (is:Bool):Option Int :=
 (bif is then some 1 else some 0)
def mr (l:List aL):Option (List aL) :=
 some l
def kW {σ:Type} (Y:σ->(Int×aL)->Option (σ×Bool)) (y0:σ) (x1:List aL):Option (σ×(List aL)) :=
 ((iter (σ:=(List aL)×σ) (ρ:=((List aL)×σ) ⊕ (σ×(List aL))) (λa=>(bif (decide ((a.1.length:Int) > 0)) then ((iter (σ:=Int) (ρ:=Int) (λb=>(((bif (decide (b < (a.1.length:Int))) then ((idx a.1 b).bind λc=>((idx a.1 0).bind λd=>some ((c.rune == d.rune) && ((c.bO == d.bO) && ((c.part == d.part) && true))))) else some false):Option Bool).bind λf=>(bif f then some (.inl (IntKind.i64.wrap (b+1))) else some (.inr b)))) 1).bind λe=>((idx a.1 0).bind λg=>((Y a.2 (e,g)).bind λz1399=>(bif (!z1399.2) then (eV (some (z1399.1,a.1))) else ((chk (eK e (a.1.length:Int) a.1.length)).bind λ_=>some (.inl ((cut a.1 e (a.1.length:Int)),z1399.1))))))) else some (.inr (.inl (a.1,a.2))))) (x1,y0)).bind λ | .inl e1058=>some (e1058.2,e1058.1) | .inr w=>some w)
def jc (r_:aT):Option ByteArray :=
 ((ny r_.wrapped).bind λr3=>((dB (cH.mk ([]:List Int)) [r3]).bind λb=>((mr r_.cells).bind λc=>((kW (λd a=>((dB d [a.1,(IntKind.i64.wrap a.2.rune),a.2.bO,a.2.part]).bind λe=>some (e,true))) (b:cH) c).bind λf=>((eY f.1).bind λg=>some g)))))
def gi (s_:aM):Option ByteArray :=
 ((((fy s_).bind λb=>(bif b then some true else ((fz s_).bind λc=>some (c != 0)))):Option Bool).bind λd=>(bif d then some (ByteArray.mk #[]) else ((dB (cH.mk ([]:List Int)) [s_.k,s_.w,s_.h,s_.x,s_.y]).bind λe=>((gW e [s_.title]).bind λf=>((dB f [s_.len,s_.chain]).bind λg=>((k8 s_.begun).bind λi=>((gI g [i]).bind λj=>((iter (σ:=cH×Int) (ρ:=cH) (λa=>(bif (decide (a.2 < (s_.rows.length:Int))) then ((idx s_.rows a.2).bind λl=>((jc l).bind λm=>((gI a.1 [m]).bind λn=>some (.inl (n,(IntKind.i64.wrap (a.2+1))))))) else some (.inr a.1))) (j,0)).bind λo=>((eY o).bind λp=>some p)))))))))
def q7 (in_:aD):Option (Int×aD) :=
 ((bJ in_).bind λr1=>(bif (decide (r1.1 > 1000)) then ((bM r1.2 1).bind λr9=>some (0,r9)) else some (r1.1,r1.2)))
def kP (in_:aD) (left:Int):Option (Int×aL×Bool×aD) :=
 ((bJ in_).bind λr2=>(((bif (r2.1 == 0) then some true else some (decide (r2.1 > left))):Option Bool).bind λe8=>(((bif e8 then ((bM r2.2 1).bind λf=>some f) else some r2.2):Option aD).bind λc=>((iter (σ:=jS×aD×Int) (ρ:=jS×aD) (λa=>(bif (decide (a.2.2 < 3)) then ((((idx [1114111,647,3] a.2.2).bind λg=>((bJ a.2.1).bind λb=>((chk (AB a.2.2 3)).bind λ_=>((chk (AB a.2.2 3)).bind λ_=>((idx [(sel a.2.2 0 b.1 a.1.e0),(sel a.2.2 1 b.1 a.1.e1),(sel a.2.2 2 b.1 a.1.e2)] a.2.2).bind λh=>(bif (decide (h > g)) then ((bM b.2 1).bind λi=>some ((jS.mk (sel a.2.2 0 b.1 a.1.e0) (sel a.2.2 1 b.1 a.1.e1) (sel a.2.2 2 b.1 a.1.e2)),i)) else some ((jS.mk (sel a.2.2 0 b.1 a.1.e0) (sel a.2.2 1 b.1 a.1.e1) (sel a.2.2 2 b.1 a.1.e2)),b.2))))))):Option (jS×aD)).bind λe=>some (.inl (e.1,e.2,(IntKind.i64.wrap (a.2.2+1))))) else some (.inr (a.1,a.2.1)))) ((jS.mk 0 0 0),c,0)).bind λd=>((cT d.2).bind λj=>(bif (j != 0) then some (0,(aL.mk 0 0 0),false,d.2) else some (r2.1,(aL.mk (IntKind.i32.wrap d.1.e0) d.1.e1 d.1.e2),true,d.2)))))))
def g0 (in_:aD) (w:Int):Option (aT×aD) :=
 ((bJ in_).bind λr2=>(((bif (decide (r2.1 > 1)) then ((bM r2.2 1).bind λf=>some f) else some r2.2):Option aD).bind λg=>((iter (σ:=aD×(List aL)) (ρ:=(List aL)×aD) (λa=>(((bif (decide ((a.2.length:Int) < w)) then ((cT a.1).bind λh=>some (h == 0)) else some false):Option Bool).bind λi=>(bif i then ((kP a.1 (IntKind.i64.wrap (w - (a.2.length:Int)))).bind λb=>(bif (!b.2.2.1) then some (.inl (b.2.2.2,a.2)) else (((bif (decide ((a.2.length:Int) > 0)) then ((idx a.2 (IntKind.i64.wrap ((a.2.length:Int) - 1))).bind λd=>some ((d.rune == b.2.1.rune) && ((d.bO == b.2.1.bO) && ((d.part == b.2.1.part) && true)))) else some false):Option Bool).bind λj=>(bif j then ((bM b.2.2.2 1).bind λk=>some (.inl (k,a.2))) else ((dR [b.2.1] b.1).bind λe=>((chk (dF a.2.length e.length 24)).bind λ_=>some (.inl (b.2.2.2,(a.2++e))))))))) else some (.inr (a.2,a.1))))) (g,[])).bind λc=>((cT c.2).bind λl=>(bif (l != 0) then some ((aT.mk ([]:List aL) false),c.2) else some ((aT.mk c.1 (r2.1 == 1)),c.2))))))
def fR (s_:aM):Option aM :=
 ((iter (σ:=(List aT)×Int) (ρ:=(List aT)) (λa=>(bif (decide (a.2 < (s_.rows.length:Int))) then ((idx s_.rows a.2).bind λb=>((fh b.cells).bind λc=>((chk (dF a.1.length [(aT.mk c b.wrapped)].length 32)).bind λ_=>some (.inl ((a.1++[(aT.mk c b.wrapped)]),(IntKind.i64.wrap (a.2+1))))))) else some (.inr a.1))) ([],0)).bind λd=>((cP s_.begun).bind λe=>some (aM.mk s_.k s_.w s_.h s_.x s_.y s_.title d s_.len s_.chain e)))
def iH (s_:aM):Option Int :=
 ((gi s_).bind λr2=>((lZ [r2]).bind λr7=>some (IntKind.i64.wrap r7)))
structure bN where
 sum:Int
 to:aM
 rows:Mp aT
 deriving DecidableEq,Inhabited
def jd (s_:aM):Option Bool :=
 ((gi s_).bind λr2=>some (!(r2.toList == (ByteArray.mk #[]).toList)))
def gf (s_:aM) (y:Int):Option (aT×Bool) :=
 (((bif (decide (y < 0)) then some true else some (decide (y>=(s_.rows.length:Int)))):Option Bool).bind λe6=>(bif e6 then some ((aT.mk ([]:List aL) false),false) else ((idx s_.rows y).bind λa=>some (a,true))))
def iy (in_:aD):Option (Int×aD) :=
 ((bJ in_).bind λr1=>(bif (decide (r1.1 > 1000)) then ((bM r1.2 1).bind λr9=>some (0,r9)) else some (r1.1,r1.2)))
def kp (s_:ByteArray):Option (bN×Int) :=
 ((kl s_).bind λr2=>((bJ r2).bind λr6=>((bJ r6.2).bind λd=>((iy d.2).bind λe=>((iy e.2).bind λf=>((bJ f.2).bind λg=>((bJ g.2).bind λi=>((gJ i.2).bind λj=>((bJ j.2).bind λl=>((bJ l.2).bind λm=>((ik m.2).bind λn=>((bJ n.2).bind λo=>((iter (σ:=bN×aD×Int×Int) (ρ:=aD×bN) (λa=>(((bif (decide (a.2.2.2 > 0)) then ((cT a.2.1).bind λq=>some (q == 0)) else some false):Option Bool).bind λr=>(bif r then ((bJ a.2.1).bind λc=>(((bif (decide (c.1<=a.2.2.1)) then some true else some (decide (c.1>=a.1.to.h))):Option Bool).bind λs=>(((bif s then ((bM c.2 1).bind λt=>some t) else some c.2):Option aD).bind λu=>((g0 u a.1.to.w).bind λp=>((chk a.1.rows.isSome).bind λ_=>some (.inl ((bN.mk a.1.sum (aM.mk a.1.to.k a.1.to.w a.1.to.h a.1.to.x a.1.to.y a.1.to.title ([]:List aT) a.1.to.len a.1.to.chain a.1.to.begun) (zo a.1.rows c.1 p.1)),p.2,c.1,(IntKind.i64.wrap (a.2.2.2 - 1))))))))) else some (.inr (a.2.1,(bN.mk a.1.sum (aM.mk a.1.to.k a.1.to.w a.1.to.h a.1.to.x a.1.to.y a.1.to.title ([]:List aT) a.1.to.len a.1.to.chain a.1.to.begun) a.1.rows)))))) ((bN.mk r6.1 (aM.mk d.1 e.1 f.1 g.1 i.1 j.1 ([]:List aT) l.1 m.1 n.1) (some []:Mp aT)),o.2,(-1),o.1)).bind λb=>((iu b.1).bind λv=>some ((bN.mk b.2.sum (aM.mk b.2.to.k b.2.to.w b.2.to.h b.2.to.x b.2.to.y b.2.to.title ([]:List aT) b.2.to.len b.2.to.chain b.2.to.begun) b.2.rows),v)))))))))))))))
def eM (p:bN) (a:aM):Option (Bool×bN) :=
 ((iter (σ:=bN×Int) (ρ:=bN ⊕ (Bool×bN)) (λb=>(bif (decide (b.2 < p.to.h)) then ((gf a b.2).bind λc=>(((((bif (kL b.1.rows b.2) then (bif c.2 then ((gX c.1 (mgd b.1.rows b.2 (aT.mk ([]:List aL) false))).bind λe=>some e) else some false) else some false):Option Bool).bind λd=>(((bif d then some d else (bif (!(kL b.1.rows b.2)) then some (!c.2) else some false)):Option Bool).bind λf=>(bif f then (mj (eV (some (false,(bN.mk b.1.sum (aM.mk b.1.to.k b.1.to.w b.1.to.h b.1.to.x b.1.to.y b.1.to.title b.1.to.rows b.1.to.len b.1.to.chain b.1.to.begun) b.1.rows))))) else (bif (!(kL b.1.rows b.2)) then some (.inl c.1) else some (.inl (mgd b.1.rows b.2 (aT.mk ([]:List aL) false))))))):Option (aT ⊕ ((bN×Int) ⊕ (bN ⊕ (Bool×bN))))).bind λ | .inl e1033=>((chk (dF b.1.to.rows.length [e1033].length 32)).bind λ_=>some (.inl ((bN.mk b.1.sum (aM.mk b.1.to.k b.1.to.w b.1.to.h b.1.to.x b.1.to.y b.1.to.title (b.1.to.rows++[e1033]) b.1.to.len b.1.to.chain b.1.to.begun) b.1.rows),(IntKind.i64.wrap (b.2+1))))) | .inr w=>some w)) else some (.inr (.inl (bN.mk b.1.sum (aM.mk b.1.to.k b.1.to.w b.1.to.h b.1.to.x b.1.to.y b.1.to.title b.1.to.rows b.1.to.len b.1.to.chain b.1.to.begun) b.1.rows))))) (p,0)).bind λ | .inl e816=>((jd (aM.mk e816.to.k e816.to.w e816.to.h e816.to.x e816.to.y e816.to.title e816.to.rows e816.to.len e816.to.chain e816.to.begun)).bind λg=>some (g,(bN.mk e816.sum (aM.mk e816.to.k e816.to.w e816.to.h e816.to.x e816.to.y e816.to.title e816.to.rows e816.to.len e816.to.chain e816.to.begun) e816.rows))) | .inr w=>some w)
def jH (a:aM) (s_:ByteArray):Option (aM×Int) :=
 ((fz a).bind λr3=>(bif (r3 != 0) then some ((aM.mk 0 0 0 0 0 (ByteArray.mk #[]) ([]:List aT) 0 0 ([]:List aJ)),1) else ((kp s_).bind λb=>(bif (b.2 != 0) then some ((aM.mk 0 0 0 0 0 (ByteArray.mk #[]) ([]:List aT) 0 0 ([]:List aJ)),b.2) else ((iH a).bind λd=>(bif (b.1.sum != d) then some ((aM.mk 0 0 0 0 0 (ByteArray.mk #[]) ([]:List aT) 0 0 ([]:List aJ)),7) else ((eM b.1 a).bind λc=>(bif (!c.1) then some ((aM.mk 0 0 0 0 0 (ByteArray.mk #[]) ([]:List aT) 0 0 ([]:List aJ)),1) else ((fR c.2.to).bind λe=>some (e,0))))))))))
structure bY where
 key:Int
 count:Int
 parts:Mp ByteArray
 bytes:Int
 deriving DecidableEq,Inhabited
def hG (s_:bY) (key:Int) (index:Int) (count:Int) (data:ByteArray):Option (Int×bY) :=
 (((((bif (decide (count < 1)) then some true else (bif (decide (count > 4096)) then some true else (bif (decide (index < 0)) then some true else (bif (decide (index>=count)) then some true else some (decide (key < 1)))))):Option Bool).bind λa=>(bif a then (mj (some (6,s_))) else (bif (decide (key < s_.key)) then (mj (some (8,s_))) else (bif (decide (key > s_.key)) then some (.inl (bY.mk key count (some []:Mp ByteArray) 0)) else (bif (count != s_.count) then (mj (some (1,s_))) else some (.inl s_)))))):Option (bY ⊕ (Int×bY))).bind λ | .inl e48=>(((bif (!(kL e48.parts index)) then ((chk e48.parts.isSome).bind λ_=>some (bY.mk e48.key e48.count (zo e48.parts index data) (IntKind.i64.wrap (e48.bytes+(data.size:Int))))) else some e48):Option bY).bind λb=>some (0,b)) | .inr w=>some w)
def fS {σ:Type} (s_:bY) (Y:σ->(Int×Bool)->Option (σ×Bool)) (y0:σ):Option σ :=
 ((iter (σ:=Int×σ) (ρ:=σ ⊕ σ) (λa=>(bif (decide (a.1 < s_.count)) then ((Y a.2 (a.1,(kL s_.parts a.1))).bind λz64=>(bif (!z64.2) then (eV (some z64.1)) else some (.inl ((IntKind.i64.wrap (a.1+1)),z64.1)))) else some (.inr (.inl a.2)))) (0,y0)).bind λ | .inl e49=>some e49 | .inr w=>some w)
def gj (s_:bY):Option Int :=
 some s_.count
def fH (s_:bY) (there:Bool):Option (List Int) :=
 ((fS s_ (λs32 x3=>(bif (x3.2 == there) then ((chk (dF s32.length [x3.1].length 8)).bind λ_=>some ((s32++[x3.1]),true)) else some (s32,true))) ([]:(List Int))).bind λa=>some a)
def dU (s_:bY):Option (List Int) :=
 ((fH s_ true).bind λr1=>some r1)
def kQ (s_:bY):Option Int :=
 some s_.key
def fg (s_:bY):Option (ByteArray×Bool) :=
 (((bif (s_.key == 0) then some true else some (decide (((xw s_.parts:Nat):Int) < s_.count))):Option Bool).bind λe7=>(bif e7 then some ((ByteArray.mk #[]),false) else ((fS s_ (λa d=>((dM (cM.mk a.addr a.buf) (mgd s_.parts d.1 (ByteArray.mk #[]))).bind λb=>some ((cM.mk b.addr b.buf),true))) ((cM.mk false ([]:List Int)):cM)).bind λc=>((gK (cM.mk c.addr c.buf)).bind λe=>some (e,true)))))
def gS (s_:bY):Option bY :=
 some (bY.mk 0 0 none 0)
structure bG where
 slot:bY
 aO:aM
 deriving DecidableEq,Inhabited
def lf:Option bG :=
 some (bG.mk (bY.mk 0 0 none 0) (aM.mk 0 0 0 0 0 (ByteArray.mk #[]) ([]:List aT) 0 0 ([]:List aJ)))
def gT (t_:bG) (g:aU):Option (Int×bG) :=
 (bif (g.kind != 1) then some (5,(bG.mk t_.slot t_.aO)) else (bif ((g.aZ.length:Int) != 5) then some (1,(bG.mk t_.slot t_.aO)) else ((idx g.aZ 1).bind λb=>(bif (decide (b<=t_.aO.k)) then some (8,(bG.mk t_.slot t_.aO)) else ((((idx g.aZ 2).bind λc=>(bif (c != 0) then ((idx g.aZ 2).bind λd=>some (d != t_.aO.k)) else some false)):Option Bool).bind λe=>(bif e then some (7,(bG.mk t_.slot t_.aO)) else ((idx g.aZ 0).bind λf=>((idx g.aZ 3).bind λh=>((idx g.aZ 4).bind λi=>((hG t_.slot f h i g.data).bind λa=>some (a.1,(bG.mk a.2 t_.aO))))))))))))
def eQ (t_:bG):Option aU :=
 ((gj t_.slot).bind λr2=>((chk (sn (IntKind.i64.wrap ((IntKind.i64.wrap ((IntKind.i64.wrap (r2+8)) - 1)).tdiv 8)) 1)).bind λ_=>((dU t_.slot).bind λr9=>((iter (σ:=Int×(List Int)) (ρ:=(List Int)) (λa=>(bif (decide (a.1 < (r9.length:Int))) then ((idx r9 a.1).bind λb=>((idx a.2 (IntKind.i64.wrap (b.tdiv 8))).bind λc=>((chk (shk (b.tmod 8))).bind λ_=>((idx a.2 (IntKind.i64.wrap (b.tdiv 8))).bind λf=>some (.inl ((IntKind.i64.wrap (a.1+1)),(a.2.set ((IntKind.i64.wrap (b.tdiv 8)).toNat) (Go.bits .or .u8 c (IntKind.u8.wrap (1*2 ^ (min (b.tmod 8).toNat 8))))))))))) else some (.inr a.2))) (0,(List.replicate (IntKind.i64.wrap ((IntKind.i64.wrap ((IntKind.i64.wrap (r2+8)) - 1)).tdiv 8)).toNat (0:Int)))).bind λd=>((kQ t_.slot).bind λe=>some (aU.mk 1 2 [t_.aO.k,e] (dL d)))))))
def dE (t_:bG):Option aM :=
 ((fR t_.aO).bind λr2=>some r2)
def gU (t_:bG):Option bG :=
 (Option.bind lf λr1=>some (bG.mk r1.slot r1.aO))
def gk (t_:bG) (g:aU):Option (Int×bG) :=
 ((gT t_ g).bind λr2=>(bif (r2.1 != 0) then some (r2.1,r2.2) else ((fg r2.2.slot).bind λc=>(bif (!c.2) then some (0,r2.2) else ((gS r2.2.slot).bind λb=>((idx g.aZ 2).bind λe=>(((bif (e != 0) then some r2.2.aO else some (aM.mk 0 0 0 0 0 (ByteArray.mk #[]) ([]:List aT) 0 0 ([]:List aJ))):Option aM).bind λf=>((jH f c.1).bind λa=>(((bif (a.2 == 0) then ((idx g.aZ 1).bind λh=>some (a.1.k != h)) else some false):Option Bool).bind λi=>(((bif i then some 1 else some a.2):Option Int).bind λd=>(((bif (d == 0) then some (bG.mk b a.1) else some (bG.mk b r2.2.aO)):Option bG).bind λj=>some (d,(bG.mk b j.aO)))))))))))))
structure iz where
 cache:Int
 every:Int
 addr:Int
 deriving DecidableEq,Inhabited
structure aI where
 config:iz
 aY:Int
 due:Int
 aP:bG
 lines:aQ
 bS:bH
 deriving DecidableEq,Inhabited
def eG (n_:Int) (lo:Int) (hi:Int):Option Int :=
 some (imax lo (cW n_ hi))
def iA (c:iz):Option aI :=
 ((eG c.cache 1 65536).bind λa=>((eG c.every 1 1048576).bind λb=>((eG c.addr 0 4294967296).bind λe=>(Option.bind lf λd=>((kd a).bind λf=>((ke a b).bind λg=>some (aI.mk (iz.mk a b e) 0 0 (bG.mk d.slot d.aO) f g)))))))
def fL (c:aI) (now:Int):Option ((List ByteArray)×aI) :=
 (((bif (decide (now>=c.due)) then ((eQ (bG.mk c.aP.slot c.aP.aO)).bind λi=>((chk (dF ([]:List aU).length [i].length 56)).bind λ_=>some ((([]:List aU)++[i]),(aI.mk c.config c.aY (IntKind.i64.wrap (now+c.config.every)) (bG.mk c.aP.slot c.aP.aO) c.lines c.bS)))) else some ([],(aI.mk c.config c.aY c.due (bG.mk c.aP.slot c.aP.aO) c.lines c.bS))):Option ((List aU)×aI)).bind λa=>((dE (bG.mk c.aP.slot c.aP.aO)).bind λl=>((gB c.bS now l.len).bind λf=>((iter (σ:=Int×(List Int)) (ρ:=(List Int)) (λb=>(bif (decide (b.1 < (f.1.length:Int))) then ((idx f.1 b.1).bind λe=>((chk (dF b.2.length [e.from_,e.to].length 8)).bind λ_=>some (.inl ((IntKind.i64.wrap (b.1+1)),(b.2++[e.from_,e.to]))))) else some (.inr b.2))) (0,[])).bind λg=>(((bif (decide ((g.length:Int) > 0)) then ((chk (dF a.1.length ([(aU.mk 0 3 g (ByteArray.mk #[]))]).length 56)).bind λ_=>some (a.1++[(aU.mk 0 3 g (ByteArray.mk #[]))])) else some a.1):Option (List aU)).bind λj=>((iter (σ:=Int×(List ByteArray)) (ρ:=(List ByteArray)) (λd=>(bif (decide (d.1 < (j.length:Int))) then ((idx j d.1).bind λh=>((eJ (aU.mk (imax 1 a.2.aY) h.kind h.aZ h.data)).bind λk=>((chk (dF d.2.length [k].length 16)).bind λ_=>some (.inl ((IntKind.i64.wrap (d.1+1)),(d.2++[k])))))) else some (.inr d.2))) (0,[])).bind λm=>some (m,(aI.mk (iz.mk a.2.config.cache a.2.config.every a.2.config.addr) a.2.aY a.2.due (bG.mk c.aP.slot c.aP.aO) c.lines f.2))))))))
def dY (c:aI) (aY:Int):Option aI :=
 ((gU c.aP).bind λr1=>((fC c.lines).bind λa=>((dS c.bS).bind λb=>some (aI.mk c.config aY c.due r1 a b))))
def fm (c:aI) (g:aU):Option (Int×aI) :=
 ((iv g).bind λr2=>((iter (σ:=aQ×bH×Int) (ρ:=aQ×bH) (λa=>(bif (decide (a.2.2 < (r2.2.1.length:Int))) then ((((idx r2.2.1 a.2.2).bind λf=>((eP a.2.1 (IntKind.i64.wrap (r2.1+a.2.2))).bind λb=>(bif b.1 then ((fO a.1 (IntKind.i64.wrap (r2.1+a.2.2)) f).bind λh=>some (h.2.2,b.2)) else some (a.1,b.2)))):Option (aQ×bH)).bind λd=>some (.inl (d.1,d.2,(IntKind.i64.wrap (a.2.2+1))))) else some (.inr (a.1,a.2.1)))) (c.lines,c.bS,0)).bind λe=>some (r2.2.2,(aI.mk c.config c.aY c.due c.aP e.1 e.2))))
def dN (c:aI) (now:Int) (data:ByteArray):Option (Int×aI) :=
 ((jo data).bind λr1=>(((bif (r1.2 != 0) then (mj (some (r1.2,c))) else (((bif (r1.1.kind != 1) then some (r1.1.kind != 4) else some false):Option Bool).bind λd=>(bif d then (mj (some (5,c))) else (bif (decide (r1.1.aY < c.aY)) then (mj (some (8,c))) else (bif (decide (r1.1.aY > c.aY)) then ((dY c r1.1.aY).bind λe=>some (.inl e)) else some (.inl c)))))):Option (aI ⊕ (Int×aI))).bind λ | .inl e79=>(bif (r1.1.kind == 4) then ((fm e79 r1.1).bind λa=>some (a.1,a.2)) else ((gk e79.aP r1.1).bind λb=>some (b.1,(aI.mk e79.config e79.aY e79.due b.2 e79.lines e79.bS)))) | .inr w=>some w))
def cI (c:aI):Option Int :=
 some c.aY
def fp (c:aI):Option Int :=
 some c.config.addr
def fM (c:aI) (from_:Int) (to:Int):Option (Int×aI) :=
 ((eG from_ 0 1152921504606846976).bind λr1=>((eG to 0 1152921504606846976).bind λr4=>((dH c.lines).bind λr7=>((fE (cB.mk ([]:List aB)) r7).bind λg=>((gY g (aB.mk r1 (cW r4 (IntKind.i64.wrap (r1+c.config.cache))))).bind λd=>((iter (σ:=aQ×Int) (ρ:=aQ) (λa=>(bif (decide (a.2 < (d.length:Int))) then ((idx d a.2).bind λe=>((iter (σ:=aQ×Int) (ρ:=aQ) (λb=>(bif (decide (b.2 < e.to)) then ((ko b.1 b.2).bind λh=>some (.inl (h.2.2,(IntKind.i64.wrap (b.2+1))))) else some (.inr b.1))) (a.1,e.from_)).bind λi=>some (.inl (i,(IntKind.i64.wrap (a.2+1)))))) else some (.inr a.1))) (c.lines,0)).bind λj=>((iw c.bS (aB.mk r1 (cW r4 (IntKind.i64.wrap (r1+c.config.cache)))) r7).bind λf=>some (f.1,(aI.mk c.config c.aY c.due c.aP j f.2)))))))))
def fF (c:aI):Option (List aB) :=
 ((dH c.lines).bind λr1=>some r1)
def fA (c:aI):Option (List aB) :=
 ((gC c.bS).bind λr1=>some r1)
def dO (c:aI):Option aM :=
 ((dE c.aP).bind λr2=>some r2)
def fq (c:aI) (i:Int):Option ((List aJ)×Bool) :=
 ((dE c.aP).bind λr1=>(bif (decide (i>=r1.len)) then some (([]:List aJ),false) else ((fG c.lines i).bind λa=>some (a.1,a.2))))
def kf (s_:ByteArray) (n_:Int):Option ByteArray :=
 (bif (decide ((s_.size:Int) > n_)) then ((chk (eK 0 n_ s_.size)).bind λ_=>some (gn s_ 0 n_)) else some s_)
structure cZ where
 rune:Int
 bO:Int
 part:Int
 deriving DecidableEq,Inhabited
structure bC where
 l:List cZ
 wrapped:Bool
 deriving DecidableEq,Inhabited
structure aN where
 rune:Int
 bO:Int
 deriving DecidableEq,Inhabited
def jX (r_:aT) (x_:bC):Option Bool :=
 (((bif ((r_.cells.length:Int) != (x_.l.length:Int)) then some true else some (!(r_.wrapped == x_.wrapped))):Option Bool).bind λe6=>(bif e6 then some false else ((iter (σ:=Int) (ρ:=Unit ⊕ Bool) (λa=>(bif (decide (a < (r_.cells.length:Int))) then ((idx r_.cells a).bind λb=>((((idx x_.l a).bind λc=>(bif ((IntKind.i64.wrap b.rune) != c.rune) then some true else ((idx x_.l a).bind λd=>(bif (b.bO != d.bO) then some true else ((idx x_.l a).bind λe=>some (b.part != e.part)))))):Option Bool).bind λf=>(bif f then (eV (some false)) else some (.inl (IntKind.i64.wrap (a+1)))))) else some (.inr (.inl ())))) 0).bind λ | .inl e712=>some true | .inr w=>some w)))
def hU (l:List aJ) (x_:List aN):Option Bool :=
 (bif ((l.length:Int) != (x_.length:Int)) then some false else ((iter (σ:=Int) (ρ:=Unit ⊕ Bool) (λa=>(bif (decide (a < (l.length:Int))) then ((idx l a).bind λb=>((((idx x_ a).bind λc=>(bif ((IntKind.i64.wrap b.rune) != c.rune) then some true else ((idx x_ a).bind λd=>some (b.bO != d.bO)))):Option Bool).bind λe=>(bif e then (eV (some false)) else some (.inl (IntKind.i64.wrap (a+1)))))) else some (.inr (.inl ())))) 0).bind λ | .inl e523=>some true | .inr w=>some w))
def kq (l:List aT) (x_:List bC):Option Bool :=
 (bif ((l.length:Int) != (x_.length:Int)) then some false else ((iter (σ:=Int) (ρ:=Unit ⊕ Bool) (λa=>(bif (decide (a < (x_.length:Int))) then ((idx l a).bind λb=>((idx x_ a).bind λc=>((jX b c).bind λd=>(bif (!d) then (eV (some false)) else some (.inl (IntKind.i64.wrap (a+1))))))) else some (.inr (.inl ())))) 0).bind λ | .inl e571=>some true | .inr w=>some w))
structure aE where
 from_:Int
 to:Int
 deriving DecidableEq,Inhabited
def jr (n_:Int):Option Int :=
 (bif (decide (n_ < (-1152921504606846976))) then some (-1152921504606846976) else (bif (decide (n_ > 1152921504606846976)) then some 1152921504606846976 else some n_))
def mv (x_:aE):Option aE :=
 ((jr x_.from_).bind λa=>((jr x_.to).bind λb=>some (aE.mk a b)))
def kg (x_:aE):Option (List aE) :=
 ((mv x_).bind λr2=>(bif (decide (r2.to<=r2.from_)) then some ([]:List aE) else some [r2]))
def je (l:List aE) (n_:Int):Option Bool :=
 ((iter (σ:=Int) (ρ:=Unit ⊕ Bool) (λa=>(bif (decide (a < (l.length:Int))) then ((idx l a).bind λb=>(((bif (decide (n_>=b.from_)) then some (decide (n_ < b.to)) else some false):Option Bool).bind λc=>(bif c then (eV (some true)) else some (.inl (IntKind.i64.wrap (a+1)))))) else some (.inr (.inl ())))) 0).bind λ | .inl e107=>some false | .inr w=>some w)
def kr (mode:Int) (x_:Bool) (y:Bool):Option Bool :=
 (bif (mode == 0) then (((bif x_ then some true else some y):Option Bool).bind λa=>some a) else (bif (mode == 1) then (((bif x_ then some (!y) else some false):Option Bool).bind λb=>some b) else (bif (mode == 2) then (((bif x_ then some y else some false):Option Bool).bind λc=>some c) else (((bif (!x_) then some y else some false):Option Bool).bind λd=>some d))))
def gM (a:List aE) (b:List aE) (mode:Int):Option (List aE) :=
 ((chk (dF ([]:List aE).length a.length 16)).bind λ_=>((chk (dF (([]:List aE)++a).length b.length 16)).bind λ_=>((iter (σ:=Int×(List Int)) (ρ:=(List Int)) (λf=>(bif (decide (f.1 < (((([]:List aE)++a)++b).length:Int))) then ((idx ((([]:List aE)++a)++b) f.1).bind λi=>((iter (σ:=Int×(List Int)) (ρ:=(List Int)) (λc=>(bif (decide (c.1 < ([i.from_,i.to].length:Int))) then ((((idx [i.from_,i.to] c.1).bind λg=>((iter (σ:=Int) (ρ:=Int) (λj=>(((bif (decide (j < (c.2.length:Int))) then ((idx c.2 j).bind λm=>some (decide (m < g))) else some false):Option Bool).bind λn=>(bif n then some (.inl (IntKind.i64.wrap (j+1))) else some (.inr j)))) 0).bind λe=>(((bif (e == (c.2.length:Int)) then some true else ((idx c.2 e).bind λo=>some (o != g))):Option Bool).bind λp=>(bif p then ((chk (eK 0 e c.2.length)).bind λ_=>((chk (eK e (c.2.length:Int) c.2.length)).bind λ_=>((chk (dF [g].length (cut c.2 e (c.2.length:Int)).length 8)).bind λ_=>((chk (dF (cut c.2 0 e).length ([g]++(cut c.2 e (c.2.length:Int))).length 8)).bind λ_=>some ((cut c.2 0 e)++([g]++(cut c.2 e (c.2.length:Int)))))))) else some c.2)))):Option (List Int)).bind λq=>some (.inl ((IntKind.i64.wrap (c.1+1)),q))) else some (.inr c.2))) (0,f.2)).bind λr=>some (.inl ((IntKind.i64.wrap (f.1+1)),r)))) else some (.inr f.2))) (0,([]:List Int))).bind λk=>((iter (σ:=(List aE)×Int) (ρ:=(List aE)) (λd=>(bif (decide ((IntKind.i64.wrap (d.2+1)) < (k.length:Int))) then ((((idx k d.2).bind λh=>((je a h).bind λs=>((je b h).bind λt=>((kr mode s t).bind λu=>(bif (!u) then some d.1 else (((bif (decide ((d.1.length:Int) > 0)) then ((idx d.1 (IntKind.i64.wrap ((d.1.length:Int) - 1))).bind λv=>some (v.to == h)) else some false):Option Bool).bind λw=>(bif w then ((idx k (IntKind.i64.wrap (d.2+1))).bind λx=>((idx d.1 (IntKind.i64.wrap ((d.1.length:Int) - 1))).bind λy=>some (d.1.set ((IntKind.i64.wrap ((d.1.length:Int) - 1)).toNat) (aE.mk y.from_ x)))) else ((idx k (IntKind.i64.wrap (d.2+1))).bind λl=>((chk (dF d.1.length [(aE.mk h l)].length 16)).bind λ_=>some (d.1++[(aE.mk h l)])))))))))):Option (List aE)).bind λz=>some (.inl (z,(IntKind.i64.wrap (d.2+1))))) else some (.inr d.1))) (([]:List aE),0)).bind λA=>some A))))
def il (l:List aE) (x_:aE):Option (List aE) :=
 ((kg x_).bind λr2=>((gM l r2 0).bind λr9=>some r9))
def lg (l:List aE) (x_:aE):Option (List aE) :=
 ((kg x_).bind λr2=>((gM l r2 1).bind λr9=>some r9))
def jt (l:List aB) (x_:List aE):Option Bool :=
 (bif ((l.length:Int) != (x_.length:Int)) then some false else ((iter (σ:=Int) (ρ:=Unit ⊕ Bool) (λa=>(bif (decide (a < (x_.length:Int))) then ((idx l a).bind λb=>((idx x_ a).bind λc=>(bif (!((b.from_ == c.from_) && ((b.to == c.to) && true))) then (eV (some false)) else some (.inl (IntKind.i64.wrap (a+1)))))) else some (.inr (.inl ())))) 0).bind λ | .inl e355=>some true | .inr w=>some w))
structure aR where
 s:ByteArray
 e:Int
 deriving DecidableEq,Inhabited
def bB (in_:aR):Option (aR×Int) :=
 (bif (in_.e != 0) then some (in_,0) else ((iter (σ:=Int×Int×Int) (ρ:=Unit ⊕ (aR×Int)) (λa=>(bif (decide (a.2.2 < 9)) then (((bif (a.2.2 == (in_.s.size:Int)) then (mj (eV (some ((aR.mk (ByteArray.mk #[]) 2),0)))) else ((ss in_.s a.2.2).bind λb475=>(bif (decide ((IntKind.i64.wrap b475) < 128)) then (((bif (decide (a.2.2 > 0)) then (bif ((IntKind.i64.wrap b475) == 0) then some true else some (decide ((IntKind.i64.wrap (a.1+(IntKind.i64.wrap (((IntKind.i64.wrap b475).tmod 128)*a.2.1)))) > 4611686018427387904))) else some (decide ((IntKind.i64.wrap (a.1+(IntKind.i64.wrap (((IntKind.i64.wrap b475).tmod 128)*a.2.1)))) > 4611686018427387904))):Option Bool).bind λb=>(bif b then (mj (eV (some ((aR.mk (ByteArray.mk #[]) 1),0)))) else ((chk (eK (IntKind.i64.wrap (a.2.2+1)) (in_.s.size:Int) in_.s.size)).bind λ_=>(mj (eV (some ((aR.mk (gn in_.s (IntKind.i64.wrap (a.2.2+1)) (in_.s.size:Int)) 0),(IntKind.i64.wrap (a.1+(IntKind.i64.wrap (((IntKind.i64.wrap b475).tmod 128)*a.2.1))))))))))) else (bif (decide (a.2.2 < 8)) then some (.inl ((IntKind.i64.wrap (a.1+(IntKind.i64.wrap (((IntKind.i64.wrap b475).tmod 128)*a.2.1)))),(IntKind.i64.wrap (a.2.1*128)))) else some (.inl ((IntKind.i64.wrap (a.1+(IntKind.i64.wrap (((IntKind.i64.wrap b475).tmod 128)*a.2.1)))),a.2.1)))))):Option ((Int×Int) ⊕ ((Int×Int×Int) ⊕ (Unit ⊕ (aR×Int))))).bind λ | .inl e465=>some (.inl (e465.1,e465.2,(IntKind.i64.wrap (a.2.2+1)))) | .inr w=>some w) else some (.inr (.inl ())))) (0,1,0)).bind λ | .inl e381=>some ((aR.mk (ByteArray.mk #[]) 1),0) | .inr w=>some w))
def mw (in_:aR) (n_:Int):Option (aR×ByteArray) :=
 (bif (in_.e != 0) then some (in_,(ByteArray.mk #[])) else (bif (decide ((imax 0 n_) > (in_.s.size:Int))) then some ((aR.mk (ByteArray.mk #[]) 2),(ByteArray.mk #[])) else ((chk (eK (imax 0 n_) (in_.s.size:Int) in_.s.size)).bind λ_=>((chk (eK 0 (imax 0 n_) in_.s.size)).bind λ_=>some ((aR.mk (gn in_.s (imax 0 n_) (in_.s.size:Int)) 0),(gn in_.s 0 (imax 0 n_)))))))
def fI (in_:aR):Option (aR×ByteArray) :=
 ((bB in_).bind λr3=>((mw r3.1 r3.2).bind λr7=>some (r7.1,r7.2)))
def kh (in_:aR):Option Int :=
 (((bif (in_.e == 0) then some (!(in_.s.toList == (ByteArray.mk #[]).toList)) else some false):Option Bool).bind λe5=>(bif e5 then some 1 else some in_.e))
def cC (n_:Int):Option ByteArray :=
 ((iter (σ:=Int×(List Int)) (ρ:=Int×(List Int)) (λa=>(bif (decide (a.1>=128)) then ((chk (dF a.2.length [(IntKind.u8.wrap (IntKind.i64.wrap (128+(a.1.tmod 128))))].length 1)).bind λ_=>some (.inl ((IntKind.i64.wrap (a.1.tdiv 128)),(a.2++[(IntKind.u8.wrap (IntKind.i64.wrap (128+(a.1.tmod 128))))])))) else some (.inr (a.1,a.2)))) ((imax 0 (cW n_ 4611686018427387904)),([]:List Int))).bind λb=>((chk (dF b.2.length [(IntKind.u8.wrap b.1)].length 1)).bind λ_=>some (dL (b.2++[(IntKind.u8.wrap b.1)]))))
def ju (s_:ByteArray):Option ByteArray :=
 ((cC (s_.size:Int)).bind λr1=>((chk (kH r1.size s_.size)).bind λ_=>some (r1++s_)))
def kR (s_:ByteArray):Option Int :=
 ((iter (σ:=Int×Int) (ρ:=Int) (λb=>(bif (decide (b.2 < (s_.size:Int))) then ((ss s_ b.2).bind λb402=>((iter (σ:=Int×Int) (ρ:=Int) (λa=>(bif (decide (a.2 < 8)) then (((bif ((a.1.tmod 2) == 1) then some (Go.bits .xor .i64 (IntKind.i64.wrap (a.1.tdiv 2)) 3988292384) else some (IntKind.i64.wrap (a.1.tdiv 2))):Option Int).bind λc=>some (.inl (c,(IntKind.i64.wrap (a.2+1))))) else some (.inr a.1))) ((Go.bits .xor .i64 b.1 (IntKind.i64.wrap b402)),0)).bind λd=>some (.inl (d,(IntKind.i64.wrap (b.2+1)))))) else some (.inr b.1))) (4294967295,0)).bind λe=>some (IntKind.i64.wrap (4294967295 - e)))
def jv (s_:ByteArray):Option ByteArray :=
 ((kR s_).bind λr1=>((chk (kH s_.size (dL [(IntKind.u8.wrap (r1.tmod 256)),(IntKind.u8.wrap ((IntKind.i64.wrap (r1.tdiv 256)).tmod 256)),(IntKind.u8.wrap ((IntKind.i64.wrap (r1.tdiv 65536)).tmod 256)),(IntKind.u8.wrap (IntKind.i64.wrap (r1.tdiv 16777216)))]).size)).bind λ_=>some (s_++(dL [(IntKind.u8.wrap (r1.tmod 256)),(IntKind.u8.wrap ((IntKind.i64.wrap (r1.tdiv 256)).tmod 256)),(IntKind.u8.wrap ((IntKind.i64.wrap (r1.tdiv 65536)).tmod 256)),(IntKind.u8.wrap (IntKind.i64.wrap (r1.tdiv 16777216)))]))))
def ku (s_:ByteArray):Option (ByteArray×Bool) :=
 (((bif (decide ((s_.size:Int) < 4)) then some true else ((chk (eK 0 (IntKind.i64.wrap ((s_.size:Int) - 4)) s_.size)).bind λ_=>((jv (gn s_ 0 (IntKind.i64.wrap ((s_.size:Int) - 4)))).bind λa=>some (!(a.toList == s_.toList))))):Option Bool).bind λb=>(bif b then some ((ByteArray.mk #[]),false) else ((chk (eK 0 (IntKind.i64.wrap ((s_.size:Int) - 4)) s_.size)).bind λ_=>some ((gn s_ 0 (IntKind.i64.wrap ((s_.size:Int) - 4))),true))))
def gE (in_:aR):Option (aR×(List aN)) :=
 ((bB in_).bind λr3=>(((bif (r3.1.e == 0) then some (decide (r3.2 > 1024)) else some false):Option Bool).bind λe9=>(bif e9 then some ((aR.mk (ByteArray.mk #[]) 1),([]:List aN)) else ((iter (σ:=aR×(List aN)×Int) (ρ:=((List aN)×aR) ⊕ (aR×(List aN))) (λa=>(((bif (decide (a.2.2 < r3.2)) then some (a.1.e == 0) else some false):Option Bool).bind λd=>(bif d then ((bB a.1).bind λb=>(((bif (b.1.e == 0) then some (decide (b.2 > 1114111)) else some false):Option Bool).bind λf=>(bif f then (eV (some ((aR.mk (ByteArray.mk #[]) 1),([]:List aN)))) else ((bB b.1).bind λc=>(((bif (c.1.e == 0) then some (decide (c.2 > 647)) else some false):Option Bool).bind λg=>(bif g then (eV (some ((aR.mk (ByteArray.mk #[]) 1),([]:List aN)))) else ((chk (dF a.2.1.length [(aN.mk b.2 c.2)].length 16)).bind λ_=>some (.inl (c.1,(a.2.1++[(aN.mk b.2 c.2)]),(IntKind.i64.wrap (a.2.2+1))))))))))) else some (.inr (.inl (a.2.1,a.1)))))) (r3.1,([]:List aN),0)).bind λ | .inl e261=>(bif (e261.2.e != 0) then some (e261.2,([]:List aN)) else some (e261.2,e261.1)) | .inr w=>some w))))
def kv (l:List aN):Option ByteArray :=
 ((cC (l.length:Int)).bind λr1=>((iter (σ:=Int×ByteArray) (ρ:=ByteArray) (λa=>(bif (decide (a.1 < (l.length:Int))) then ((idx l a.1).bind λd=>((cC d.rune).bind λb=>((cC d.bO).bind λc=>((chk (kH b.size c.size)).bind λ_=>((chk (kH a.2.size (b++c).size)).bind λ_=>some (.inl ((IntKind.i64.wrap (a.1+1)),(a.2++(b++c))))))))) else some (.inr a.2))) (0,r1)).bind λe=>some e))
structure bD where
 k:Int
 w:Int
 h:Int
 x:Int
 y:Int
 title:ByteArray
 rows:List bC
 len:Int
 chain:Int
 begun:List aN
 deriving DecidableEq,Inhabited
def cN (in_:aR) (most:Int):Option (aR×Int) :=
 ((bB in_).bind λr3=>(((bif (r3.1.e == 0) then some (decide (r3.2 > most)) else some false):Option Bool).bind λa=>(bif a then some ((aR.mk (ByteArray.mk #[]) 1),0) else some (r3.1,r3.2))))
def gv (in_:aR) (w:Int):Option (aR×bC) :=
 ((cN in_ 1).bind λr4=>((iter (σ:=aR×(List cZ)) (ρ:=(List cZ)×aR) (λa=>(((bif (decide ((a.2.length:Int) < w)) then some (a.1.e == 0) else some false):Option Bool).bind λk=>(bif k then ((cN a.1 (IntKind.i64.wrap (w - (a.2.length:Int)))).bind λd=>(((bif (d.1.e == 0) then some (d.2 == 0) else some false):Option Bool).bind λl=>(((bif l then some (aR.mk (ByteArray.mk #[]) 1) else some d.1):Option aR).bind λm=>((cN m 1114111).bind λf=>((cN f.1 647).bind λg=>((cN g.1 3).bind λb=>(((bif (b.1.e == 0) then (bif (decide ((a.2.length:Int) > 0)) then ((idx a.2 (IntKind.i64.wrap ((a.2.length:Int) - 1))).bind λi=>some ((i.rune == f.2) && ((i.bO == g.2) && ((i.part == b.2) && true)))) else some false) else some false):Option Bool).bind λn=>(((bif n then some (aR.mk (ByteArray.mk #[]) 1) else some b.1):Option aR).bind λj=>((iter (σ:=Int×(List cZ)) (ρ:=(List cZ)) (λc=>(((bif (decide (c.1 < d.2)) then some (j.e == 0) else some false):Option Bool).bind λo=>(bif o then ((chk (dF c.2.length [(cZ.mk f.2 g.2 b.2)].length 24)).bind λ_=>some (.inl ((IntKind.i64.wrap (c.1+1)),(c.2++[(cZ.mk f.2 g.2 b.2)])))) else some (.inr c.2)))) (0,a.2)).bind λp=>some (.inl (j,p))))))))))) else some (.inr (a.2,a.1))))) (r4.1,([]:List cZ))).bind λh=>(bif (h.2.e != 0) then some (h.2,(bC.mk ([]:List cZ) false)) else some (h.2,(bC.mk h.1 (r4.2 == 1))))))
def gN (s_:bD):Option Bool :=
 (((bif (s_.k == 0) then (bif (s_.w == 0) then (bif (s_.h == 0) then (bif (s_.x == 0) then (bif (s_.y == 0) then (bif (s_.title.toList == (ByteArray.mk #[]).toList) then (bif ((s_.rows.length:Int) == 0) then (bif (s_.len == 0) then (bif (s_.chain == 0) then some ((s_.begun.length:Int) == 0) else some false) else some false) else some false) else some false) else some false) else some false) else some false) else some false) else some false):Option Bool).bind λa=>some a)
def jf (s_:bD):Option Bool :=
 ((gN s_).bind λr2=>(bif r2 then some true else (((bif (decide (s_.k < 1)) then some true else (bif (decide (s_.k > 1152921504606846976)) then some true else (bif (decide (s_.w < 1)) then some true else (bif (decide (s_.w > 1000)) then some true else (bif (decide (s_.h < 1)) then some true else (bif (decide (s_.h > 1000)) then some true else (bif (decide (s_.x < 0)) then some true else (bif (decide (s_.x>=s_.w)) then some true else (bif (decide (s_.y < 0)) then some true else (bif (decide (s_.y>=s_.h)) then some true else some ((s_.rows.length:Int) != s_.h))))))))))):Option Bool).bind λg=>(bif g then some false else (((bif (decide ((s_.title.size:Int) > 200)) then some true else (bif (decide (s_.len < 0)) then some true else (bif (decide (s_.len > 1152921504606846976)) then some true else (bif (decide (s_.chain < 0)) then some true else (bif (decide (s_.chain > 281474976710656)) then some true else some (decide ((s_.begun.length:Int) > 1024))))))):Option Bool).bind λi=>(bif i then some false else ((iter (σ:=Int) (ρ:=Unit ⊕ Bool) (λc=>(bif (decide (c < (s_.begun.length:Int))) then ((idx s_.begun c).bind λb=>(((bif (decide (b.rune < 0)) then some true else (bif (decide (b.rune > 1114111)) then some true else (bif (decide (b.bO < 0)) then some true else some (decide (b.bO > 647))))):Option Bool).bind λj=>(bif j then (eV (some false)) else some (.inl (IntKind.i64.wrap (c+1)))))) else some (.inr (.inl ())))) 0).bind λ | .inl e206=>((iter (σ:=Int) (ρ:=Unit ⊕ Bool) (λd=>(bif (decide (d < (s_.rows.length:Int))) then ((idx s_.rows d).bind λe=>(bif ((e.l.length:Int) != s_.w) then (eV (some false)) else ((iter (σ:=Int) (ρ:=Unit ⊕ (Int ⊕ (Unit ⊕ Bool))) (λf=>(bif (decide (f < (e.l.length:Int))) then ((idx e.l f).bind λa=>(((bif (decide (a.rune < 0)) then some true else (bif (decide (a.rune > 1114111)) then some true else (bif (decide (a.bO < 0)) then some true else (bif (decide (a.bO > 647)) then some true else (bif (decide (a.part < 0)) then some true else some (decide (a.part > 3))))))):Option Bool).bind λm=>(bif m then (eV (eV (some false))) else some (.inl (IntKind.i64.wrap (f+1)))))) else some (.inr (.inl ())))) 0).bind λ | .inl e2288=>some (.inl (IntKind.i64.wrap (d+1))) | .inr w=>some w))) else some (.inr (.inl ())))) 0).bind λ | .inl e1826=>some true | .inr w=>some w) | .inr w=>some w)))))))
def iI (r_:bC):Option ByteArray :=
 (((bif r_.wrapped then some (ByteArray.mk #[1]) else some (ByteArray.mk #[0])):Option ByteArray).bind λe5=>((iter (σ:=Int×ByteArray×Int) (ρ:=ByteArray) (λa=>(bif (decide (a.1 < (r_.l.length:Int))) then ((((idx r_.l a.1).bind λb=>(((bif (decide ((IntKind.i64.wrap (a.1+1)) < (r_.l.length:Int))) then ((idx r_.l (IntKind.i64.wrap (a.1+1))).bind λf=>some ((f.rune == b.rune) && ((f.bO == b.bO) && ((f.part == b.part) && true)))) else some false):Option Bool).bind λi=>(bif i then some (a.2.1,(IntKind.i64.wrap (a.2.2+1))) else ((cC (IntKind.i64.wrap (a.2.2+1))).bind λc=>((cC b.rune).bind λd=>((chk (kH c.size d.size)).bind λ_=>((cC b.bO).bind λe=>((chk (kH (c++d).size e.size)).bind λ_=>((cC b.part).bind λg=>((chk (kH ((c++d)++e).size g.size)).bind λ_=>((chk (kH a.2.1.size (((c++d)++e)++g).size)).bind λ_=>some ((a.2.1++(((c++d)++e)++g)),0)))))))))))):Option (ByteArray×Int)).bind λh=>some (.inl ((IntKind.i64.wrap (a.1+1)),h.1,h.2))) else some (.inr a.2.1))) (0,e5,0)).bind λj=>some j))
def gF (s_:bD):Option ByteArray :=
 ((((gN s_).bind λl=>(bif l then some true else ((jf s_).bind λm=>some (!m)))):Option Bool).bind λn=>(bif n then some (ByteArray.mk #[]) else ((iter (σ:=Int×ByteArray) (ρ:=ByteArray) (λa=>(bif (decide (a.1 < ([s_.k,s_.w,s_.h,s_.x,s_.y].length:Int))) then ((idx [s_.k,s_.w,s_.h,s_.x,s_.y] a.1).bind λo=>((cC o).bind λg=>((chk (kH a.2.size g.size)).bind λ_=>some (.inl ((IntKind.i64.wrap (a.1+1)),(a.2++g)))))) else some (.inr a.2))) (0,(ByteArray.mk #[]))).bind λi=>((ju s_.title).bind λc=>((cC s_.len).bind λd=>((chk (kH c.size d.size)).bind λ_=>((cC s_.chain).bind λe=>((chk (kH (c++d).size e.size)).bind λ_=>((kv s_.begun).bind λf=>((chk (kH ((c++d)++e).size f.size)).bind λ_=>((chk (kH i.size (((c++d)++e)++f).size)).bind λ_=>((iter (σ:=ByteArray×Int) (ρ:=ByteArray) (λb=>(bif (decide (b.2 < (s_.rows.length:Int))) then ((idx s_.rows b.2).bind λp=>((iI p).bind λj=>((chk (kH b.1.size j.size)).bind λ_=>some (.inl ((b.1++j),(IntKind.i64.wrap (b.2+1))))))) else some (.inr b.1))) ((i++(((c++d)++e)++f)),0)).bind λq=>some q))))))))))))
def lh (s_:bD):Option Int :=
 ((gF s_).bind λr2=>((kR r2).bind λr5=>some r5))
def l7 (s_:aM) (x_:bD):Option Bool :=
 (((bif (s_.k == x_.k) then (bif (s_.w == x_.w) then (bif (s_.h == x_.h) then (bif (s_.x == x_.x) then (bif (s_.y == x_.y) then (bif (s_.title.toList == x_.title.toList) then (bif (s_.len == x_.len) then (bif (s_.chain == x_.chain) then ((kq s_.rows x_.rows).bind λa=>(bif a then ((hU s_.begun x_.begun).bind λb=>some b) else some false)) else some false) else some false) else some false) else some false) else some false) else some false) else some false) else some false):Option Bool).bind λc=>some c)
structure dP where
 i:Int
 l:List aN
 deriving DecidableEq,Inhabited
structure cD where
 most:Int
 l:List dP
 deriving DecidableEq,Inhabited
def nS (most:Int):Option cD :=
 some (cD.mk (imax 1 (cW most 65536)) ([]:List dP))
def jI (c:cD):Option (List aE) :=
 ((iter (σ:=Int×(List aE)) (ρ:=(List aE)) (λa=>(bif (decide (a.1 < (c.l.length:Int))) then ((idx c.l a.1).bind λb=>((il a.2 (aE.mk b.i (IntKind.i64.wrap (b.i+1)))).bind λd=>some (.inl ((IntKind.i64.wrap (a.1+1)),d)))) else some (.inr a.2))) (0,([]:List aE))).bind λe=>some e)
def jw (c:cD) (i:Int):Option ((List aN)×Bool) :=
 ((iter (σ:=Int) (ρ:=Unit ⊕ ((List aN)×Bool)) (λa=>(bif (decide (a < (c.l.length:Int))) then ((idx c.l a).bind λb=>(bif (b.i == i) then (eV (some (b.l,true))) else some (.inl (IntKind.i64.wrap (a+1))))) else some (.inr (.inl ())))) 0).bind λ | .inl e84=>some (([]:List aN),false) | .inr w=>some w)
def hZ (c:cD) (e:dP):Option cD :=
 ((iter (σ:=Int×(List dP)) (ρ:=(List dP)) (λa=>(bif (decide (a.1 < (c.l.length:Int))) then ((((idx c.l a.1).bind λb=>(bif (b.i != e.i) then ((chk (dF a.2.length [b].length 32)).bind λ_=>some (a.2++[b])) else some a.2)):Option (List dP)).bind λf=>some (.inl ((IntKind.i64.wrap (a.1+1)),f))) else some (.inr a.2))) (0,([]:List dP))).bind λd=>((chk (dF d.length [e].length 32)).bind λ_=>some (cD.mk c.most (d++[e]))))
def jg (c:cD) (i:Int) (l:List aN):Option (cD×Int×Bool) :=
 (((bif (decide (i < 0)) then some true else some (decide (i > 1152921504606846976))):Option Bool).bind λe6=>(bif e6 then some (c,0,false) else ((hZ c (dP.mk i l)).bind λa=>(bif (decide ((a.l.length:Int)<=a.most)) then some (a,0,false) else ((chk (eK 1 (a.l.length:Int) a.l.length)).bind λ_=>((idx a.l 0).bind λb=>some ((cD.mk a.most (cut a.l 1 (a.l.length:Int))),b.i,true)))))))
structure cL where
 aY:Int
 kind:Int
 aZ:List Int
 data:ByteArray
 deriving DecidableEq,Inhabited
def jJ (g:cL):Option ByteArray :=
 ((cC g.aY).bind λb=>((cC g.kind).bind λc=>((chk (kH b.size c.size)).bind λ_=>((cC (g.aZ.length:Int)).bind λd=>((chk (kH (b++c).size d.size)).bind λ_=>((iter (σ:=Int×ByteArray) (ρ:=ByteArray) (λa=>(bif (decide (a.1 < (g.aZ.length:Int))) then ((idx g.aZ a.1).bind λi=>((cC i).bind λe=>((chk (kH a.2.size e.size)).bind λ_=>some (.inl ((IntKind.i64.wrap (a.1+1)),(a.2++e)))))) else some (.inr a.2))) (0,((b++c)++d))).bind λf=>((ju g.data).bind λh=>((chk (kH f.size h.size)).bind λ_=>((jv (f++h)).bind λj=>some j)))))))))
def jK (g:cL):Option Int :=
 (((bif (decide (g.aY < 1)) then some true else (bif (decide (g.aY > 4294967296)) then some true else (bif (decide (g.kind < 1)) then some true else (bif (decide (g.kind > 4)) then some true else some (decide ((g.aZ.length:Int) > 64)))))):Option Bool).bind λc=>(bif c then some 6 else ((iter (σ:=Int) (ρ:=Unit ⊕ Int) (λa=>(bif (decide (a < (g.aZ.length:Int))) then ((idx g.aZ a).bind λb=>(((bif (decide (b < 0)) then some true else some (decide (b > 4611686018427387904))):Option Bool).bind λd=>(bif d then (eV (some 6)) else some (.inl (IntKind.i64.wrap (a+1)))))) else some (.inr (.inl ())))) 0).bind λ | .inl e120=>((jJ g).bind λe=>(bif (decide ((e.size:Int) > 8192)) then some 3 else some 0)) | .inr w=>some w)))
def jL (s_:ByteArray):Option (cL×Int) :=
 (bif (decide ((s_.size:Int) > 8192)) then some ((cL.mk 0 0 ([]:List Int) (ByteArray.mk #[])),3) else ((ku s_).bind λr5=>(bif (!r5.2) then some ((cL.mk 0 0 ([]:List Int) (ByteArray.mk #[])),4) else ((bB (aR.mk r5.1 0)).bind λg=>((bB g.1).bind λh=>((bB h.1).bind λb=>(((bif (b.1.e == 0) then some (decide (b.2 > 64)) else some false):Option Bool).bind λk=>(bif k then some ((cL.mk 0 0 ([]:List Int) (ByteArray.mk #[])),1) else ((iter (σ:=aR×cL×Int) (ρ:=aR×cL) (λa=>(((bif (decide (a.2.2 < b.2)) then some (a.1.e == 0) else some false):Option Bool).bind λl=>(bif l then ((bB a.1).bind λd=>((chk (dF a.2.1.aZ.length [d.2].length 8)).bind λ_=>some (.inl (d.1,(cL.mk a.2.1.aY a.2.1.kind (a.2.1.aZ++[d.2]) a.2.1.data),(IntKind.i64.wrap (a.2.2+1)))))) else some (.inr (a.1,a.2.1))))) (b.1,(cL.mk g.2 h.2 ([]:List Int) (ByteArray.mk #[])),0)).bind λc=>((fI c.1).bind λf=>((kh f.1).bind λi=>(bif (i != 0) then some ((cL.mk 0 0 ([]:List Int) (ByteArray.mk #[])),i) else ((jK (cL.mk c.2.aY c.2.kind c.2.aZ f.2)).bind λj=>(bif (j != 0) then some ((cL.mk 0 0 ([]:List Int) (ByteArray.mk #[])),j) else some ((cL.mk c.2.aY c.2.kind c.2.aZ f.2),0)))))))))))))))
structure cK where
 key:Int
 has:List Bool
 parts:List ByteArray
 deriving DecidableEq,Inhabited
def lj (s_:cK) (key:Int) (index:Int) (count:Int) (data:ByteArray):Option (cK×Int) :=
 (((bif (decide (count < 1)) then some true else (bif (decide (count > 4096)) then some true else (bif (decide (index < 0)) then some true else (bif (decide (index>=count)) then some true else some (decide (key < 1)))))):Option Bool).bind λa=>(bif a then some (s_,6) else (bif (decide (key < s_.key)) then some (s_,8) else ((chk (sn count 1)).bind λ_=>((chk (sn count 16)).bind λ_=>(((bif (key == s_.key) then (bif (count != (s_.has.length:Int)) then (mj (some (s_,1))) else some (.inl (cK.mk key (cpy (List.replicate count.toNat false) s_.has) (cpy (List.replicate count.toNat (ByteArray.mk #[])) s_.parts)))) else some (.inl (cK.mk key (List.replicate count.toNat false) (List.replicate count.toNat (ByteArray.mk #[]))))):Option (cK ⊕ (cK×Int))).bind λ | .inl e76=>((idx e76.has index).bind λb=>(((bif (!b) then ((idx e76.has index).bind λd=>((idx e76.parts index).bind λe=>some (cK.mk e76.key (e76.has.set index.toNat true) (e76.parts.set index.toNat data)))) else some e76):Option cK).bind λc=>some (c,0))) | .inr w=>some w))))))
def jM (s_:cK) (there:Bool):Option (List Int) :=
 ((iter (σ:=Int×(List Int)) (ρ:=(List Int)) (λa=>(bif (decide (a.1 < (s_.has.length:Int))) then ((((idx s_.has a.1).bind λb=>(bif (b == there) then ((chk (dF a.2.length [a.1].length 8)).bind λ_=>some (a.2++[a.1])) else some a.2)):Option (List Int)).bind λc=>some (.inl ((IntKind.i64.wrap (a.1+1)),c))) else some (.inr a.2))) (0,([]:List Int))).bind λd=>some d)
def lk (s_:cK):Option (ByteArray×Bool) :=
 ((iter (σ:=Int×ByteArray) (ρ:=ByteArray) (λa=>(bif (decide (a.1 < (s_.parts.length:Int))) then ((idx s_.parts a.1).bind λb=>((chk (kH a.2.size b.size)).bind λ_=>some (.inl ((IntKind.i64.wrap (a.1+1)),(a.2++b))))) else some (.inr a.2))) (0,(ByteArray.mk #[]))).bind λc=>(((bif (decide (s_.key > 0)) then ((jM s_ false).bind λe=>some (c,((e.length:Int) == 0))) else some (c,false)):Option (ByteArray×Bool)).bind λd=>some (d.1,d.2)))
def gG (a:bC) (b:bC):Option Bool :=
 (((bif (!(a.wrapped == b.wrapped)) then some true else some ((a.l.length:Int) != (b.l.length:Int))):Option Bool).bind λe6=>(bif e6 then some false else ((iter (σ:=Int) (ρ:=Unit ⊕ Bool) (λc=>(bif (decide (c < (a.l.length:Int))) then ((idx a.l c).bind λd=>((idx b.l c).bind λe=>(bif (!((d.rune == e.rune) && ((d.bO == e.bO) && ((d.part == e.part) && true)))) then (eV (some false)) else some (.inl (IntKind.i64.wrap (c+1)))))) else some (.inr (.inl ())))) 0).bind λ | .inl e364=>some true | .inr w=>some w)))
def jN (a:bD) (s_:ByteArray):Option (bD×Int) :=
 ((jf a).bind λr4=>(bif (!r4) then some ((bD.mk 0 0 0 0 0 (ByteArray.mk #[]) ([]:List bC) 0 0 ([]:List aN)),1) else ((bB (aR.mk s_ 0)).bind λu=>((bB u.1).bind λp=>((bB p.1).bind λi=>(((bif (i.1.e == 0) then some (decide (i.2 > 1000)) else some false):Option Bool).bind λz=>(bif z then some ((bD.mk 0 0 0 0 0 (ByteArray.mk #[]) ([]:List bC) 0 0 ([]:List aN)),1) else ((bB i.1).bind λj=>(((bif (j.1.e == 0) then some (decide (j.2 > 1000)) else some false):Option Bool).bind λm=>(bif m then some ((bD.mk 0 0 0 0 0 (ByteArray.mk #[]) ([]:List bC) 0 0 ([]:List aN)),1) else ((bB j.1).bind λq=>((bB q.1).bind λg=>((fI g.1).bind λr=>((bB r.1).bind λt=>((bB t.1).bind λl=>(((bif (l.1.e == 0) then ((gE l.1).bind λv=>some ((bD.mk p.2 i.2 j.2 q.2 g.2 r.2 ([]:List bC) t.2 l.2 v.2),v.1)) else some ((bD.mk p.2 i.2 j.2 q.2 g.2 r.2 ([]:List bC) t.2 l.2 ([]:List aN)),l.1)):Option (bD×aR)).bind λb=>((bB b.2).bind λn=>(bif (n.1.e != 0) then some ((bD.mk 0 0 0 0 0 (ByteArray.mk #[]) ([]:List bC) 0 0 ([]:List aN)),n.1.e) else ((chk (sn b.1.h 1)).bind λ_=>((chk (sn b.1.h 32)).bind λ_=>((iter (σ:=aR×(List Bool)×(List bC)×Int×Int) (ρ:=((List Bool)×(List bC)×aR) ⊕ (bD×Int)) (λd=>(bif (decide (d.2.2.2.2 < n.2)) then ((bB d.1).bind λf=>(((bif (f.1.e == 0) then (bif (decide (f.2<=d.2.2.2.1)) then some true else some (decide (f.2>=b.1.h))) else some false):Option Bool).bind λA=>(bif A then (eV (some ((bD.mk 0 0 0 0 0 (ByteArray.mk #[]) ([]:List bC) 0 0 ([]:List aN)),1))) else ((gv f.1 b.1.w).bind λo=>(bif (o.1.e != 0) then (eV (some ((bD.mk 0 0 0 0 0 (ByteArray.mk #[]) ([]:List bC) 0 0 ([]:List aN)),o.1.e))) else ((idx d.2.1 f.2).bind λP=>((idx d.2.2.1 f.2).bind λQ=>some (.inl (o.1,(d.2.1.set f.2.toNat true),(d.2.2.1.set f.2.toNat o.2),f.2,(IntKind.i64.wrap (d.2.2.2.2+1))))))))))) else some (.inr (.inl (d.2.1,d.2.2.1,d.1))))) (n.1,(List.replicate b.1.h.toNat false),(List.replicate b.1.h.toNat (bC.mk ([]:List cZ) false)),(-1),0)).bind λ | .inl e369=>(bif (!(e369.2.2.s.toList == (ByteArray.mk #[]).toList)) then some ((bD.mk 0 0 0 0 0 (ByteArray.mk #[]) ([]:List bC) 0 0 ([]:List aN)),1) else ((lh a).bind λB=>(bif (u.2 != B) then some ((bD.mk 0 0 0 0 0 (ByteArray.mk #[]) ([]:List bC) 0 0 ([]:List aN)),7) else ((iter (σ:=(List bC)×Int) (ρ:=(List bC) ⊕ (bD×Int)) (λc=>(bif (decide (c.2 < (e369.2.1.length:Int))) then ((((((idx e369.1 c.2).bind λC=>(bif (!C) then (bif (decide (c.2>=(a.rows.length:Int))) then some true else ((idx e369.1 c.2).bind λD=>(bif D then (bif (decide (c.2 < (a.rows.length:Int))) then ((idx c.1 c.2).bind λE=>((idx a.rows c.2).bind λF=>((gG E F).bind λG=>some G))) else some false) else some false))) else ((idx e369.1 c.2).bind λH=>(bif H then (bif (decide (c.2 < (a.rows.length:Int))) then ((idx c.1 c.2).bind λI=>((idx a.rows c.2).bind λJ=>((gG I J).bind λK=>some K))) else some false) else some false)))):Option Bool).bind λL=>(bif L then (mj (eV (some ((bD.mk 0 0 0 0 0 (ByteArray.mk #[]) ([]:List bC) 0 0 ([]:List aN)),1)))) else ((idx e369.1 c.2).bind λM=>(bif (!M) then ((idx a.rows c.2).bind λN=>((idx c.1 c.2).bind λR=>some (.inl (c.1.set c.2.toNat N)))) else some (.inl c.1))))):Option ((List bC) ⊕ (((List bC)×Int) ⊕ ((List bC) ⊕ (bD×Int))))).bind λ | .inl e4726=>some (.inl (e4726,(IntKind.i64.wrap (c.2+1)))) | .inr w=>some w) else some (.inr (.inl c.1)))) (e369.2.1,0)).bind λ | .inl e3950=>((gF (bD.mk b.1.k b.1.w b.1.h b.1.x b.1.y b.1.title e3950 b.1.len b.1.chain b.1.begun)).bind λO=>(bif (O.toList == (ByteArray.mk #[]).toList) then some ((bD.mk 0 0 0 0 0 (ByteArray.mk #[]) ([]:List bC) 0 0 ([]:List aN)),1) else some ((bD.mk b.1.k b.1.w b.1.h b.1.x b.1.y b.1.title e3950 b.1.len b.1.chain b.1.begun),0))) | .inr w=>some w)))) | .inr w=>some w)))))))))))))))))))))
structure dZ where
 aO:bD
 slot:cK
 deriving DecidableEq,Inhabited
def kx (t_:dZ) (g:cL):Option (dZ×Int) :=
 (bif (g.kind != 1) then some (t_,5) else (bif ((g.aZ.length:Int) != 5) then some (t_,1) else ((idx g.aZ 1).bind λf=>(bif (decide (f<=t_.aO.k)) then some (t_,8) else ((((idx g.aZ 2).bind λh=>(bif (h != 0) then ((idx g.aZ 2).bind λi=>some (i != t_.aO.k)) else some false)):Option Bool).bind λj=>(bif j then some (t_,7) else ((((idx g.aZ 0).bind λm=>((idx g.aZ 3).bind λn=>((idx g.aZ 4).bind λo=>((lj t_.slot m n o g.data).bind λc=>some (c.1,c.2))))):Option (cK×Int)).bind λa=>(bif (a.2 != 0) then some (t_,a.2) else ((lk a.1).bind λd=>(bif (!d.2) then some ((dZ.mk t_.aO a.1),0) else ((idx g.aZ 2).bind λp=>(((bif (p != 0) then some t_.aO else some (bD.mk 0 0 0 0 0 (ByteArray.mk #[]) ([]:List bC) 0 0 ([]:List aN))):Option bD).bind λq=>((jN q d.1).bind λb=>(((bif (b.2 == 0) then ((idx g.aZ 1).bind λr=>some (b.1.k != r)) else some false):Option Bool).bind λs=>(((bif s then some 1 else some b.2):Option Int).bind λe=>(bif (e != 0) then some ((dZ.mk t_.aO (cK.mk 0 ([]:List Bool) ([]:List ByteArray))),e) else some ((dZ.mk b.1 (cK.mk 0 ([]:List Bool) ([]:List ByteArray))),0)))))))))))))))))
structure eC where
 most:Int
 every:Int
 due:Int
 l:List aE
 deriving DecidableEq,Inhabited
def my (most:Int) (every:Int):Option eC :=
 some (eC.mk (imax 1 (cW most 65536)) (imax 1 (cW every 1048576)) 0 ([]:List aE))
def jy (g:cL):Option (Int×(List (List aN))×Int) :=
 (bif (g.kind != 4) then some (0,([]:List (List aN)),5) else (bif ((g.aZ.length:Int) != 2) then some (0,([]:List (List aN)),1) else ((iter (σ:=aR×(List (List aN))) (ρ:=(List (List aN))×aR) (λa=>(((bif (!(a.1.s.toList == (ByteArray.mk #[]).toList)) then ((idx g.aZ 1).bind λe=>some (decide ((a.2.length:Int) < e))) else some false):Option Bool).bind λf=>(bif f then ((gE a.1).bind λb=>((chk (dF a.2.length [b.2].length 24)).bind λ_=>some (.inl (b.1,(a.2++[b.2]))))) else some (.inr (a.2,a.1))))) ((aR.mk g.data 0),([]:List (List aN)))).bind λc=>((kh c.2).bind λd=>(bif (d != 0) then some (0,([]:List (List aN)),d) else ((idx g.aZ 1).bind λh=>(bif ((c.1.length:Int) != h) then some (0,([]:List (List aN)),1) else ((idx g.aZ 0).bind λi=>some (i,c.1,0)))))))))
def jh (f:eC) (i:Int):Option (eC×Bool) :=
 ((je f.l i).bind λr3=>(bif (!r3) then some (f,false) else ((lg f.l (aE.mk i (IntKind.i64.wrap (i+1)))).bind λr8=>some ((eC.mk f.most f.every f.due r8),true))))
structure nT where
 cache:Int
 every:Int
 addr:Int
 deriving DecidableEq,Inhabited
structure aW where
 most:Int
 every:Int
 addr:Int
 aY:Int
 due:Int
 t:dZ
 l:cD
 f:eC
 deriving DecidableEq,Inhabited
def nz (n_:Int):Option Int :=
 some (imax 0 (cW n_ 4294967296))
def ll (c:nT):Option aW :=
 ((my c.cache c.every).bind λr3=>((nz c.addr).bind λa=>((nS c.cache).bind λb=>some (aW.mk r3.most r3.every a 0 0 (dZ.mk (bD.mk 0 0 0 0 0 (ByteArray.mk #[]) ([]:List bC) 0 0 ([]:List aN)) (cK.mk 0 ([]:List Bool) ([]:List ByteArray))) b r3))))
def ky (c:aW) (i:Int):Option ((List aN)×Bool) :=
 (bif (decide (i>=c.t.aO.len)) then some (([]:List aN),false) else ((jw c.l i).bind λr5=>some (r5.1,r5.2)))
def kz (c:aW) (data:ByteArray):Option (aW×Int) :=
 ((jL data).bind λr3=>(bif (r3.2 != 0) then some (c,r3.2) else (((bif (r3.1.kind != 1) then some (r3.1.kind != 4) else some false):Option Bool).bind λh=>(bif h then some (c,5) else (bif (decide (r3.1.aY < c.aY)) then some (c,8) else (((bif (decide (r3.1.aY > c.aY)) then some (aW.mk c.most c.every c.addr r3.1.aY c.due (dZ.mk (bD.mk 0 0 0 0 0 (ByteArray.mk #[]) ([]:List bC) 0 0 ([]:List aN)) (cK.mk 0 ([]:List Bool) ([]:List ByteArray))) (cD.mk c.most ([]:List dP)) (eC.mk c.most c.every 0 ([]:List aE))) else some c):Option aW).bind λb=>(bif (r3.1.kind == 1) then ((kx b.t r3.1).bind λe=>some ((aW.mk b.most b.every b.addr b.aY b.due e.1 b.l b.f),e.2)) else ((jy r3.1).bind λd=>((iter (σ:=aW×Int) (ρ:=aW) (λa=>(bif (decide (a.2 < (d.2.1.length:Int))) then ((((idx d.2.1 a.2).bind λi=>((jh a.1.f (IntKind.i64.wrap (d.1+a.2))).bind λg=>(bif g.2 then ((jg a.1.l (IntKind.i64.wrap (d.1+a.2)) i).bind λj=>some (aW.mk a.1.most a.1.every a.1.addr a.1.aY a.1.due a.1.t j.1 g.1)) else some a.1))):Option aW).bind λk=>some (.inl (k,(IntKind.i64.wrap (a.2+1))))) else some (.inr a.1))) (b,0)).bind λm=>some (m,d.2.2))))))))))
structure l8 where
 kind:Int
 later:Int
 from_:Int
 to:Int
 text:ByteArray
 deriving DecidableEq,Inhabited
def nA (x:l8):Prop:=(inK .i64) x.kind/\(inK .i64) x.later/\(inK .i64) x.from_/\(inK .i64) x.to/\(λs:ByteArray=>s.size<=maxLen) x.text/\True
def jO:Option Bool :=
 ((iA (iz.mk 5 3 7)).bind λr1=>((fL r1 0).bind λb=>(bif ((b.1.length:Int) != 1) then some false else ((idx b.1 0).bind λe=>((jo e).bind λc=>((eJ (aU.mk 3 4 [0,0] (ByteArray.mk #[]))).bind λf=>((dN b.2 0 f).bind λa=>(((bif (c.2 == 0) then (bif (c.1.kind == 2) then (bif (c.1.aY == 1) then (bif (a.1 == 0) then ((cI a.2).bind λg=>(bif (g == 3) then ((fp a.2).bind λh=>(bif (h == 7) then ((fM a.2 0 9).bind λd=>some ((d.1 == 5),d.2)) else some (false,a.2))) else some (false,a.2))) else some (false,a.2)) else some (false,a.2)) else some (false,a.2)) else some (false,a.2)):Option (Bool×aI)).bind λi=>some i.1))))))))
def ji (c:aI) (x_:aW):Option Bool :=
 ((((cI c).bind λg=>(bif (g != x_.aY) then some true else ((fp c).bind λh=>(bif (h != x_.addr) then some true else ((dO c).bind λj=>((l7 j x_.t.aO).bind λk=>(bif (!k) then some true else ((fF c).bind λm=>((jI x_.l).bind λn=>((jt m n).bind λo=>(bif (!o) then some true else ((fA c).bind λp=>((jt p x_.f.l).bind λq=>some (!q)))))))))))))):Option Bool).bind λr=>(bif r then some false else ((iter (σ:=Int) (ρ:=Unit ⊕ Bool) (λa=>(bif (decide (a < (x_.l.l.length:Int))) then ((idx x_.l.l a).bind λb=>((fq c b.i).bind λd=>((ky x_ b.i).bind λe=>(((bif (!(d.2 == e.2)) then some true else ((hU d.1 e.1).bind λs=>some (!s))):Option Bool).bind λu=>(bif u then (eV (some false)) else some (.inl (IntKind.i64.wrap (a+1)))))))) else some (.inr (.inl ())))) 0).bind λ | .inl e534=>((fq c (-1)).bind λv=>some (!v.2)) | .inr w=>some w)))
def gV (acts:List l8):Option Bool :=
 (Option.bind jO λr1=>(bif (!r1) then some false else ((iA (iz.mk 6 2 0)).bind λr6=>((ll (nT.mk 6 2 0)).bind λh=>((iter (σ:=aW×aI×Int×Int) (ρ:=(aW×aI) ⊕ Bool) (λa=>(((bif (decide (a.2.2.2 < (acts.length:Int))) then some (decide (a.2.2.2 < 25)) else some false):Option Bool).bind λi=>(bif i then ((idx acts a.2.2.2).bind λc=>((cI a.2.1).bind λd=>((dO a.2.1).bind λf=>((kf c.text 400).bind λg=>((dN a.2.1 (IntKind.i64.wrap (a.2.2.1+(Go.bits .and .i64 c.later 7))) g).bind λb=>(((bif (c.kind == 0) then (bif (b.1 == 4) then some true else (bif (b.1 == 8) then ((cI b.2).bind λj=>(bif (j == d) then ((dO b.2).bind λl=>some (l.k == f.k)) else some false)) else some false)) else some false):Option Bool).bind λm=>(((bif m then (((bif (b.1 == 4) then ((ji b.2 a.1).bind λn=>some (!n)) else some false):Option Bool).bind λo=>(bif o then (mj (eV (some false))) else some (.inl ()))) else some (.inl ())):Option (Unit ⊕ ((aW×aI×Int×Int) ⊕ ((aW×aI) ⊕ Bool)))).bind λ | .inl e2115=>((kz a.1 g).bind λe=>((((cI b.2).bind λp=>(bif (decide (p < d)) then some true else ((cI b.2).bind λq=>(bif (q == d) then ((dO b.2).bind λr=>(bif (decide (r.k < f.k)) then some true else ((ji b.2 e.1).bind λs=>some (!s)))) else ((ji b.2 e.1).bind λt=>some (!t)))))):Option Bool).bind λu=>(bif u then (eV (some false)) else some (.inl (e.1,b.2,(IntKind.i64.wrap (a.2.2.1+(Go.bits .and .i64 c.later 7))),(IntKind.i64.wrap (a.2.2.2+1))))))) | .inr w=>some w))))))) else some (.inr (.inl (a.1,a.2.1)))))) (h,r6,0,0)).bind λ | .inl e1720=>some true | .inr w=>some w)))))
end Go.Tw.X
end

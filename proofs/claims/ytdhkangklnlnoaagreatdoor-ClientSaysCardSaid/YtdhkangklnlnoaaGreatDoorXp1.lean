import Derived.Test.YtdhkangklnlnoaaGreatDoorFw2
set_option linter.unusedVariables false
set_option linter.unusedSimpArgs false
set_option maxRecDepth 10000
noncomputable section
namespace Go.Tw.X
open Go Go.Tw
structure bR where
 b:List Int
 deriving DecidableEq,Inhabited
structure aE where
 s:ByteArray
 e:Int
 deriving DecidableEq,Inhabited
def kb (n_:Int):Option Int :=
 some n_
def lI (n_:Int):Option Int :=
 some (imax 0 (cA n_ 4611686018427387904))
def ic {σ:Type} (Y:σ->Int->Option (σ×Bool)) (y0:σ) (x1:Int):Option (σ×Int) :=
 ((lI x1).bind λr1=>((iter (σ:=Int×σ) (ρ:=(Int×σ) ⊕ (σ×Int)) (λa=>(bif (decide (a.1>=128)) then ((Y a.2 (Go.bits .or .u8 (Go.bits .and .u8 (IntKind.u8.wrap a.1) 127) 128)).bind λz68=>(bif (!z68.2) then (eT (some (z68.1,a.1))) else some (.inl ((a.1.fdiv (2 ^ (min 7 64))),z68.1)))) else some (.inr (.inl (a.1,a.2))))) (r1,y0)).bind λ | .inl e53=>((Y e53.2 (IntKind.u8.wrap e53.1)).bind λz75=>some (z75.1,e53.1)) | .inr w=>some w))
def cP (o:bR) (l:List Int):Option bR :=
 ((iter (σ:=bR×Int) (ρ:=bR) (λa=>(bif (decide (a.2 < (l.length:Int))) then ((idx l a.2).bind λe=>((kb e).bind λf=>((ic (λc d=>((chk (dK c.b.length [d].length 1)).bind λ_=>some ((bR.mk (c.b++[d])),true))) (a.1:bR) f).bind λg=>some (.inl (g.1,(IntKind.i64.wrap (a.2+1))))))) else some (.inr a.1))) (o,0)).bind λh=>some h)
def fS (o:bR) (l:List ByteArray):Option bR :=
 ((iter (σ:=bR×Int) (ρ:=bR) (λa=>(bif (decide (a.2 < (l.length:Int))) then ((idx l a.2).bind λc=>((chk (dK a.1.b.length c.size 1)).bind λ_=>some (.inl ((bR.mk (a.1.b++sbs c)),(IntKind.i64.wrap (a.2+1)))))) else some (.inr a.1))) (o,0)).bind λd=>some d)
def gm (o:bR) (l:List ByteArray):Option bR :=
 ((iter (σ:=bR×Int) (ρ:=bR) (λa=>(bif (decide (a.2 < (l.length:Int))) then ((idx l a.2).bind λb=>((cP a.1 [(b.size:Int)]).bind λc=>((fS c [b]).bind λd=>some (.inl (d,(IntKind.i64.wrap (a.2+1))))))) else some (.inr a.1))) (o,0)).bind λe=>some e)
def dZ (o:bR):Option ByteArray :=
 some (cZ o.b)
def iX (s_:ByteArray):Option aE :=
 some (aE.mk s_ 0)
def aW (in_:aE) (e:Int):Option aE :=
 (((bif (in_.e == 0) then some (e != 0) else some false):Option Bool).bind λe4=>(bif e4 then some (aE.mk (ByteArray.mk #[]) e) else some in_))
def aV (in_:aE):Option (Int×aE) :=
 ((iter (σ:=Int×Int) (ρ:=Unit ⊕ (Int×aE)) (λa=>(bif (decide (a.1 < (cA (in_.s.size:Int) 9))) then ((pQ in_.s a.1).bind λb213=>((chk (shk (IntKind.i64.wrap (7*a.1)))).bind λ_=>(bif (decide (b213>=128)) then some (.inl ((IntKind.i64.wrap (a.1+1)),(Go.bits .or .i64 a.2 (IntKind.i64.wrap ((IntKind.i64.wrap (Go.bits .and .u8 b213 127))*2 ^ (min (IntKind.i64.wrap (7*a.1)).toNat 64)))))) else (((bif (decide (a.1 > 0)) then (bif (b213 == 0) then some true else some (decide ((Go.bits .or .i64 a.2 (IntKind.i64.wrap ((IntKind.i64.wrap (Go.bits .and .u8 b213 127))*2 ^ (min (IntKind.i64.wrap (7*a.1)).toNat 64)))) > 4611686018427387904))) else some (decide ((Go.bits .or .i64 a.2 (IntKind.i64.wrap ((IntKind.i64.wrap (Go.bits .and .u8 b213 127))*2 ^ (min (IntKind.i64.wrap (7*a.1)).toNat 64)))) > 4611686018427387904))):Option Bool).bind λb=>(bif b then ((aW in_ 1).bind λc=>(eT (some (0,c)))) else ((chk (fg (IntKind.i64.wrap (a.1+1)) (in_.s.size:Int) in_.s.size)).bind λ_=>(eT (some ((Go.bits .or .i64 a.2 (IntKind.i64.wrap ((IntKind.i64.wrap (Go.bits .and .u8 b213 127))*2 ^ (min (IntKind.i64.wrap (7*a.1)).toNat 64)))),(aE.mk (fR in_.s (IntKind.i64.wrap (a.1+1)) (in_.s.size:Int)) in_.e)))))))))) else some (.inr (.inl ())))) (0,0)).bind λ | .inl e176=>(((bif (decide ((in_.s.size:Int)>=9)) then ((aW in_ 1).bind λd=>some d) else some in_):Option aE).bind λf=>((aW f 2).bind λg=>some (0,g))) | .inr w=>some w)
def iY (in_:aE) (n_:Int):Option (ByteArray×aE) :=
 (bif (decide ((imax 0 n_) > (in_.s.size:Int))) then ((aW in_ 2).bind λr6=>some ((ByteArray.mk #[]),r6)) else ((chk (fg 0 (imax 0 n_) in_.s.size)).bind λ_=>((chk (fg (imax 0 n_) (in_.s.size:Int) in_.s.size)).bind λ_=>some ((fR in_.s 0 (imax 0 n_)),(aE.mk (fR in_.s (imax 0 n_) (in_.s.size:Int)) in_.e)))))
def fT (in_:aE):Option (ByteArray×aE) :=
 ((aV in_).bind λr1=>((iY r1.2 r1.1).bind λr4=>some (r4.1,r4.2)))
def cE (in_:aE):Option Int :=
 some in_.e
def gC (in_:aE):Option Int :=
 (bif (!(in_.s.toList == (ByteArray.mk #[]).toList)) then some 1 else some in_.e)
def gT (in_:aE):Option Int :=
 some (in_.s.size:Int)
structure nB where
 lead:Int
 rune:Int
 BV:Int
 deriving DecidableEq,Inhabited
structure mC where
 first:Int
 last:Int
 BV:Int
 low:Int
 high:Int
 deriving DecidableEq,Inhabited
def qB:List mC:=[⟨194,223,1,128,191⟩,⟨224,224,2,160,191⟩,⟨225,236,2,128,191⟩,⟨237,237,2,128,159⟩,⟨238,239,2,128,191⟩,⟨240,240,3,144,191⟩,⟨241,243,3,128,191⟩,⟨244,244,3,128,143⟩]
structure bT where
 addr:Bool
 buf:List Int
 deriving DecidableEq,Inhabited
structure iL where
 e0:Int
 e1:Int
 e2:Int
 deriving DecidableEq,Inhabited
def kc (x_:Int) (y:Int):Option (Int×Int) :=
 some ((IntKind.u64.wrap ((IntKind.u64.wrap ((IntKind.u64.wrap ((x_.fdiv (2 ^ (min 32 64)))*(y.fdiv (2 ^ (min 32 64)))))+((IntKind.u64.wrap ((IntKind.u64.wrap ((x_.fdiv (2 ^ (min 32 64)))*(Go.bits .and .u64 y 4294967295)))+((IntKind.u64.wrap ((Go.bits .and .u64 x_ 4294967295)*(Go.bits .and .u64 y 4294967295))).fdiv (2 ^ (min 32 64))))).fdiv (2 ^ (min 32 64)))))+((IntKind.u64.wrap ((Go.bits .and .u64 (IntKind.u64.wrap ((IntKind.u64.wrap ((x_.fdiv (2 ^ (min 32 64)))*(Go.bits .and .u64 y 4294967295)))+((IntKind.u64.wrap ((Go.bits .and .u64 x_ 4294967295)*(Go.bits .and .u64 y 4294967295))).fdiv (2 ^ (min 32 64))))) 4294967295)+(IntKind.u64.wrap ((Go.bits .and .u64 x_ 4294967295)*(y.fdiv (2 ^ (min 32 64))))))).fdiv (2 ^ (min 32 64))))),(IntKind.u64.wrap (x_*y)))
def km (x_:Int) (y:Int):Option (Int×Int) :=
 ((kc x_ y).bind λr1=>some (r1.1,r1.2))
def cX (b:bT) (s_:ByteArray):Option bT :=
 ((chk (dK b.buf.length s_.size 1)).bind λ_=>some (bT.mk true (b.buf++sbs s_)))
def fU (b:bT):Option ByteArray :=
 some (cZ b.buf)
def gL (x_:Int):Option Bool :=
 some (x_ != x_)
def fJ (x_:Int) (y:Int):Option Int :=
 ((gL x_).bind λr1=>((gL y).bind λr4=>(bif r1 then (bif r4 then some 0 else some (-1)) else (bif r4 then some 1 else (bif (decide (x_ < y)) then some (-1) else (bif (decide (x_ > y)) then some 1 else some 0))))))
structure aI where
 rune:Int
 bD:Int
 part:Int
 deriving DecidableEq,Inhabited
structure aP where
 cells:List aI
 wrapped:Bool
 deriving DecidableEq,Inhabited
structure aH where
 rune:Int
 bD:Int
 deriving DecidableEq,Inhabited
def dC (x_:List aI) (count:Int):Option (List aI) :=
 (bif (decide (count < 0)) then none else ((km (IntKind.u64.wrap (x_.length:Int)) (IntKind.u64.wrap count)).bind λr3=>(((bif (decide (r3.1 > 0)) then some true else some (decide (r3.2 > 9223372036854775807))):Option Bool).bind λe9=>(bif e9 then none else ((chk (pO (IntKind.i64.wrap r3.2) 24)).bind λ_=>((iter (σ:=(List aI)×Int) (ρ:=(List aI)) (λa=>(bif (decide (a.2 < (a.1.length:Int))) then ((chk (fg a.2 (a.1.length:Int) a.1.length)).bind λ_=>((chk (fg 0 a.2 a.1.length)).bind λ_=>some (.inl ((qz a.1 a.2.toNat),(IntKind.i64.wrap (a.2+((Nat.min a.2.toNat (a.1.length - a.2.toNat):Nat):Int))))))) else some (.inr a.1))) ((cpy (List.replicate (IntKind.i64.wrap r3.2).toNat (aI.mk 0 0 0)) x_),((Nat.min x_.length (List.replicate (IntKind.i64.wrap r3.2).toNat (aI.mk 0 0 0)).length:Nat):Int))).bind λb=>some b))))))
def eu (s_:List aI):Option (List aI) :=
 ((chk (dK ([]:List aI).length s_.length 24)).bind λ_=>some (([]:List aI)++s_))
def ew (s1_:List aI) (s2_:List aI):Option Bool :=
 (bif ((s1_.length:Int) != (s2_.length:Int)) then some false else ((iter (σ:=Int) (ρ:=Unit ⊕ Bool) (λa=>(bif (decide (a < (s1_.length:Int))) then ((idx s1_ a).bind λb=>((idx s2_ a).bind λc=>(bif (!((b.rune == c.rune) && ((b.bD == c.bD) && ((b.part == c.part) && true)))) then (eT (some false)) else some (.inl (IntKind.i64.wrap (a+1)))))) else some (.inr (.inl ())))) 0).bind λ | .inl e355=>some true | .inr w=>some w))
def gn (r_:aP) (q:aP):Option Bool :=
 (((bif (r_.wrapped == q.wrapped) then ((ew r_.cells q.cells).bind λa=>some a) else some false):Option Bool).bind λb=>some b)
def cB (s_:List aH):Option (List aH) :=
 ((chk (dK ([]:List aH).length s_.length 16)).bind λ_=>some (([]:List aH)++s_))
def cI:List Int:=[0,498536548,997073096,651767980,1994146192,1802195444,1303535960,1342533948,3988292384,4027552580,3604390888,3412177804,2607071920,2262029012,2685067896,3183342108]
def jn (x_:Int) (b:Int):Option Int :=
 ((idx cI (Go.bits .and .u32 (Go.bits .xor .u32 x_ (IntKind.u32.wrap b)) 15)).bind λx1=>((idx cI (Go.bits .and .u32 (Go.bits .xor .u32 ((Go.bits .xor .u32 x_ (IntKind.u32.wrap b)).fdiv (2 ^ (min 4 32))) x1) 15)).bind λx5=>some (Go.bits .xor .u32 ((Go.bits .xor .u32 ((Go.bits .xor .u32 x_ (IntKind.u32.wrap b)).fdiv (2 ^ (min 4 32))) x1).fdiv (2 ^ (min 4 32))) x5)))
def ko (l:List ByteArray):Option Int :=
 ((iter (σ:=Int×Int) (ρ:=Int) (λa=>(bif (decide (a.2 < (l.length:Int))) then ((idx l a.2).bind λc=>((iter (σ:=Int×Int) (ρ:=Int) (λb=>(bif (decide (b.1 < (c.size:Int))) then ((pQ c b.1).bind λb642=>((jn b.2 b642).bind λd=>some (.inl ((IntKind.i64.wrap (b.1+1)),d)))) else some (.inr b.2))) (0,a.1)).bind λe=>some (.inl (e,(IntKind.i64.wrap (a.2+1)))))) else some (.inr a.1))) (4294967295,0)).bind λf=>some (Go.bits .xor .u32 4294967295 f))
def jo (x_:Int):Option ByteArray :=
 some (cZ [(IntKind.u8.wrap x_),(IntKind.u8.wrap (x_.fdiv (2 ^ (min 8 32)))),(IntKind.u8.wrap (x_.fdiv (2 ^ (min 16 32)))),(IntKind.u8.wrap (x_.fdiv (2 ^ (min 24 32))))])
def jq (s_:ByteArray):Option ByteArray :=
 ((ko [s_]).bind λr3=>((jo r3).bind λr6=>((chk (kj s_.size r6.size)).bind λ_=>some (s_++r6))))
def kp (s_:ByteArray):Option (ByteArray×Bool) :=
 (((bif (decide ((IntKind.i64.wrap ((s_.size:Int) - 4)) < 0)) then some true else ((chk (fg (IntKind.i64.wrap ((s_.size:Int) - 4)) (s_.size:Int) s_.size)).bind λ_=>((chk (fg 0 (IntKind.i64.wrap ((s_.size:Int) - 4)) s_.size)).bind λ_=>((ko [(fR s_ 0 (IntKind.i64.wrap ((s_.size:Int) - 4)))]).bind λa=>((jo a).bind λb=>some (!((fR s_ (IntKind.i64.wrap ((s_.size:Int) - 4)) (s_.size:Int)).toList == b.toList))))))):Option Bool).bind λc=>(bif c then some ((ByteArray.mk #[]),false) else ((chk (fg 0 (IntKind.i64.wrap ((s_.size:Int) - 4)) s_.size)).bind λ_=>some ((fR s_ 0 (IntKind.i64.wrap ((s_.size:Int) - 4))),true))))
def jE (l:List aH):Option ByteArray :=
 ((cP (bR.mk ([]:List Int)) [(l.length:Int)]).bind λr6=>((iter (σ:=bR×Int) (ρ:=bR) (λa=>(bif (decide (a.2 < (l.length:Int))) then ((idx l a.2).bind λb=>((cP a.1 [(IntKind.i64.wrap b.rune),b.bD]).bind λc=>some (.inl (c,(IntKind.i64.wrap (a.2+1)))))) else some (.inr a.1))) (r6,0)).bind λd=>((dZ d).bind λe=>some e)))
def eI (in_:aE) (most:Int):Option (Int×aE) :=
 ((aV in_).bind λr1=>(bif (decide (r1.1 > most)) then ((aW r1.2 1).bind λr9=>some (0,r9)) else some (r1.1,r1.2)))
def fK (in_:aE):Option ((List aH)×aE) :=
 ((eI in_ 1024).bind λr1=>((iter (σ:=aE×(List aH)×Int) (ρ:=(List aH)×aE) (λa=>(bif (decide (a.2.2 < r1.1)) then ((eI a.1 1114111).bind λc=>((eI c.2 647).bind λd=>((chk (dK a.2.1.length [(aH.mk (IntKind.i32.wrap c.1) d.1)].length 16)).bind λ_=>some (.inl (d.2,(a.2.1++[(aH.mk (IntKind.i32.wrap c.1) d.1)]),(IntKind.i64.wrap (a.2.2+1))))))) else some (.inr (a.2.1,a.1)))) (r1.2,[],0)).bind λb=>((cE b.2).bind λe=>(bif (e != 0) then some (([]:List aH),b.2) else some (b.1,b.2)))))
structure aB where
 from_:Int
 to:Int
 deriving DecidableEq,Inhabited
structure bL where
 l:List aB
 deriving DecidableEq,Inhabited
def dP (x_:aB):Option aB :=
 some (aB.mk (imax (-1152921504606846976) (cA x_.from_ 1152921504606846976)) (imax (-1152921504606846976) (cA x_.to 1152921504606846976)))
def gY (x_:aB) (y:aB):Option aB :=
 some (aB.mk (imax x_.from_ y.from_) (cA x_.to y.to))
def cQ (x_:aB):Option Bool :=
 some (decide (x_.to<=x_.from_))
def gp (s_:bL) (x_:aB):Option (List aB) :=
 ((iter (σ:=Int×(List aB)) (ρ:=(List aB)) (λa=>(bif (decide (a.1 < (s_.l.length:Int))) then ((((idx s_.l a.1).bind λc=>((dP x_).bind λd=>((gY c d).bind λb=>((cQ b).bind λe=>(bif (!e) then ((chk (dK a.2.length [b].length 16)).bind λ_=>some (a.2++[b])) else some a.2))))):Option (List aB)).bind λf=>some (.inl ((IntKind.i64.wrap (a.1+1)),f))) else some (.inr a.2))) (0,[])).bind λg=>some g)
def dI (x_:aB) (x1:Int):Option Bool :=
 (((bif (decide (x1>=x_.from_)) then some (decide (x1 < x_.to)) else some false):Option Bool).bind λe5=>some e5)
def bU (s_:List aB) (f_0:Int):Option Int :=
 ((iter (σ:=Int) (ρ:=Unit ⊕ Int) (λa=>(bif (decide (a < (s_.length:Int))) then ((idx s_ a).bind λb=>((dI b f_0).bind λc=>(bif c then (eT (some a)) else some (.inl (IntKind.i64.wrap (a+1)))))) else some (.inr (.inl ())))) 0).bind λ | .inl e77=>some (-1) | .inr w=>some w)
def bZ (s_:List aB) (f_0:Int):Option Bool :=
 ((bU s_ f_0).bind λr1=>some (decide (r1>=0)))
def gM (s_:bL) (n_:Int):Option Bool :=
 ((bZ s_.l n_).bind λr2=>some r2)
def iM (l:List aB) (x_:aB):Option ((List aB)×aB) :=
 some (l,x_)
def fL {σ:Type} (Y:σ->aB->Option (σ×Bool)) (y0:σ) (x1:List aB) (x2:aB):Option σ :=
 ((iter (σ:=Int×σ) (ρ:=σ ⊕ σ) (λc=>(bif (decide (c.1 < (x1.length:Int))) then ((idx x1 c.1).bind λa=>((iter (σ:=Int×σ) (ρ:=σ ⊕ ((Int×σ) ⊕ (σ ⊕ σ))) (λb=>(bif (decide (b.1 < ([(aB.mk a.from_ (cA a.to x2.from_)),(aB.mk (imax a.from_ x2.to) a.to)].length:Int))) then ((idx [(aB.mk a.from_ (cA a.to x2.from_)),(aB.mk (imax a.from_ x2.to) a.to)] b.1).bind λe=>((((cQ e).bind λf=>(bif (!f) then ((Y b.2 e).bind λz2582=>some ((!z2582.2),z2582.1)) else some (false,b.2))):Option (Bool×σ)).bind λd=>(bif d.1 then (eT (eT (some d.2))) else some (.inl ((IntKind.i64.wrap (b.1+1)),d.2))))) else some (.inr (.inl b.2)))) (0,c.2)).bind λ | .inl e2507=>some (.inl ((IntKind.i64.wrap (c.1+1)),e2507)) | .inr w=>some w)) else some (.inr (.inl c.2)))) (0,y0)).bind λ | .inl e1939=>some e1939 | .inr w=>some w)
def fI (s_:bL) (l:List aB):Option bL :=
 ((iter (σ:=bL×Int) (ρ:=bL) (λa=>(bif (decide (a.2 < (l.length:Int))) then ((((idx l a.2).bind λf=>((dP f).bind λb=>((cQ b).bind λg=>(bif g then some a.1 else ((iM a.1.l b).bind λc=>((fL (λd e=>((chk (dK d.length [e].length 16)).bind λ_=>some ((d++[e]),true))) ([]:(List aB)) c.1 c.2).bind λh=>some (bL.mk h))))))):Option bL).bind λi=>some (.inl (i,(IntKind.i64.wrap (a.2+1))))) else some (.inr a.1))) (s_,0)).bind λj=>some j)
def dY (n_:Int):Option (List aB) :=
 (bif (decide (n_ < 0)) then none else (((bif (decide ((IntKind.i64.wrap (n_ - (IntKind.i64.wrap (0 - 0)))) > 0)) then ((chk (Aq (IntKind.i64.wrap (n_ - (IntKind.i64.wrap (0 - 0)))) 16)).bind λ_=>((chk (fg 0 0 (List.replicate (IntKind.i64.wrap (n_ - (IntKind.i64.wrap (0 - 0)))).toNat (aB.mk 0 0)).length)).bind λ_=>some (cut (List.replicate (IntKind.i64.wrap (n_ - (IntKind.i64.wrap (0 - 0)))).toNat (aB.mk 0 0)) 0 0))) else some []):Option (List aB)).bind λa=>some a))
def cT (slices:List (List aB)):Option (List aB) :=
 ((iter (σ:=Int×Int) (ρ:=Int) (λa=>(bif (decide (a.1 < (slices.length:Int))) then ((idx slices a.1).bind λc=>(bif (decide ((IntKind.i64.wrap (a.2+(c.length:Int))) < 0)) then none else some (.inl ((IntKind.i64.wrap (a.1+1)),(IntKind.i64.wrap (a.2+(c.length:Int))))))) else some (.inr a.2))) (0,0)).bind λe=>((dY e).bind λf=>((iter (σ:=Int×(List aB)) (ρ:=(List aB)) (λb=>(bif (decide (b.1 < (slices.length:Int))) then ((idx slices b.1).bind λd=>((chk (dK b.2.length d.length 16)).bind λ_=>some (.inl ((IntKind.i64.wrap (b.1+1)),(b.2++d))))) else some (.inr b.2))) (0,f)).bind λg=>some g)))
def eP (s_:bL) (l:List aB):Option bL :=
 ((iter (σ:=bL×Int) (ρ:=bL) (λb=>(bif (decide (b.2 < (l.length:Int))) then ((((idx l b.2).bind λe=>((dP e).bind λd=>((cQ d).bind λf=>(bif f then some b.1 else ((iter (σ:=aB×Int×(List aB)) (ρ:=((List aB)×aB) ⊕ bL) (λa=>(bif (decide (a.2.1 < (b.1.l.length:Int))) then ((((idx b.1.l a.2.1).bind λc=>(bif (decide (c.to < a.1.from_)) then ((chk (dK a.2.2.length [c].length 16)).bind λ_=>some (.inl ((a.2.2++[c]),a.1))) else (bif (decide (c.from_ > a.1.to)) then ((chk (fg a.2.1 (b.1.l.length:Int) b.1.l.length)).bind λ_=>((cT ([a.2.2,[a.1],(cut b.1.l a.2.1 (b.1.l.length:Int))])).bind λg=>(kz (eT (some (bL.mk g)))))) else some (.inl (a.2.2,(aB.mk (cA a.1.from_ c.from_) (imax a.1.to c.to))))))):Option (((List aB)×aB) ⊕ ((aB×Int×(List aB)) ⊕ (((List aB)×aB) ⊕ bL)))).bind λ | .inl e14292=>some (.inl (e14292.2,(IntKind.i64.wrap (a.2.1+1)),e14292.1)) | .inr w=>some w) else some (.inr (.inl (a.2.2,a.1))))) (d,0,[])).bind λ | .inl e14097=>((chk (dK e14097.1.length [e14097.2].length 16)).bind λ_=>some (bL.mk (e14097.1++[e14097.2]))) | .inr w=>some w))))):Option bL).bind λh=>some (.inl (h,(IntKind.i64.wrap (b.2+1))))) else some (.inr b.1))) (s_,0)).bind λi=>some i)
def fH (s_:List aB):Option (List aB) :=
 ((chk (dK ([]:List aB).length s_.length 16)).bind λ_=>some (([]:List aB)++s_))
def gZ (s_:bL):Option (List aB) :=
 ((fH s_.l).bind λr1=>some r1)
def gN (s_:bL):Option Int :=
 ((iter (σ:=Int×Int) (ρ:=Int) (λa=>(bif (decide (a.1 < (s_.l.length:Int))) then ((idx s_.l a.1).bind λb=>some (.inl ((IntKind.i64.wrap (a.1+1)),(IntKind.i64.wrap (a.2+(IntKind.i64.wrap (b.to - b.from_))))))) else some (.inr a.2))) (0,0)).bind λc=>some c)
structure CacheEntry where
 l:List aH
 at_:Int
 deriving DecidableEq,Inhabited
structure aJ where
 most:Int
 now:Int
 l:Mp CacheEntry
 deriving DecidableEq,Inhabited
def kC (most:Int):Option aJ :=
 some (aJ.mk (imax 1 (cA most 65536)) 0 (some []:Mp CacheEntry))
def gb (c:aJ):Option aJ :=
 some (aJ.mk c.most c.now (Aw c.l))
def dE (c:aJ) (i:Int) (l:List aH):Option aJ :=
 ((chk c.l.isSome).bind λ_=>some (aJ.mk c.most (IntKind.i64.wrap (c.now+1)) (vX c.l i (CacheEntry.mk l (IntKind.i64.wrap (c.now+1))))))
def gq (m_:Mp CacheEntry):Option Unit :=
 some ()
def dA (seq_0:Mp CacheEntry):Option Unit :=
 ((chk seq_0.isSome).bind λ_=>Option.bind (chk (dK (ua seq_0) 1 8)) λ_=>some ())
def dQ (a:Int) (b:Int) (x2:aJ):Option Int :=
 ((((fJ ((mgd x2.l a (CacheEntry.mk ([]:List aH) 0)).at_) ((mgd x2.l b (CacheEntry.mk ([]:List aH) 0)).at_)).bind λc=>some c):Option Int).bind λd=>some d)
def cK (x_:List Int) (cmp_0:aJ):Option Int :=
 (bif (decide ((x_.length:Int) < 1)) then none else ((idx x_ 0).bind λx3=>((iter (σ:=Int×Int) (ρ:=Int) (λa=>(bif (decide (a.2 < (x_.length:Int))) then ((((idx x_ a.2).bind λb=>((dQ b a.1 cmp_0).bind λc=>(bif (decide (c < 0)) then ((idx x_ a.2).bind λd=>some d) else some a.1))):Option Int).bind λe=>some (.inl (e,(IntKind.i64.wrap (a.2+1))))) else some (.inr a.1))) (x3,1)).bind λf=>some f)))
def eJ (c:aJ) (i:Int) (l:List aH):Option (Int×Bool×aJ) :=
 (((bif (decide (i < 0)) then some true else some (decide (i > 1152921504606846976))):Option Bool).bind λe5=>(bif e5 then some (0,false,c) else ((cB l).bind λd=>((dE c i d).bind λa=>(bif (decide (((ua a.l:Nat):Int)<=a.most)) then some (0,false,a) else ((gq a.l).bind λe=>((dA a.l).bind λf=>(rE (mks a.l) λv64=>((cK v64 a).bind λb=>some (b,true,(aJ.mk a.most a.now (xc a.l b))))))))))))
def dF (c:aJ):Option (List aB) :=
 ((chk c.l.isSome).bind λ_=>((rE (c.l.getD []) (λR=>kl (λs=>some (.inr s)) (λe s=>((eP s [(aB.mk e.1 (IntKind.i64.wrap (e.1+1)))]).bind λs2=>some (.inl s2))) R (bL.mk []))).bind λs1=>gZ s1))
def fB (c:aJ) (i:Int):Option ((List aH)×Bool) :=
 ((cB ((mgd c.l i (CacheEntry.mk ([]:List aH) 0)).l)).bind λr5=>some (r5,(jh c.l i)))
def dU (c:aJ) (i:Int):Option ((List aH)×Bool×aJ) :=
 (((bif (jh c.l i) then ((dE c i ((mgd c.l i (CacheEntry.mk ([]:List aH) 0)).l)).bind λd=>some d) else some c):Option aJ).bind λa=>((fB a i).bind λb=>some (b.1,b.2,a)))
structure aM where
 bY:Int
 kind:Int
 bA:List Int
 data:ByteArray
 deriving DecidableEq,Inhabited
def fV (n_:Int) (lo:Int) (hi:Int):Option Bool :=
 (((bif (decide (n_>=lo)) then some (decide (n_<=hi)) else some false):Option Bool).bind λe4=>some e4)
def fM (g:aM):Option Bool :=
 ((((fV g.bY 1 4294967296).bind λb=>(bif (!b) then some true else ((fV g.kind 1 4).bind λc=>(bif (!c) then some true else some (decide ((g.bA.length:Int) > 64)))))):Option Bool).bind λd=>(bif d then some false else ((iter (σ:=Int) (ρ:=Unit ⊕ Bool) (λa=>(bif (decide (a < (g.bA.length:Int))) then ((idx g.bA a).bind λe=>((fV e 0 4611686018427387904).bind λf=>(bif (!f) then (eT (some false)) else some (.inl (IntKind.i64.wrap (a+1)))))) else some (.inr (.inl ())))) 0).bind λ | .inl e108=>some true | .inr w=>some w)))
def fh (g:aM):Option ByteArray :=
 ((cP (bR.mk ([]:List Int)) [g.bY,g.kind,(g.bA.length:Int)]).bind λa=>((cP a g.bA).bind λb=>((gm b [g.data]).bind λc=>((dZ c).bind λd=>((jq d).bind λe=>some e)))))
def fj (g:aM):Option Int :=
 ((fM g).bind λa=>(bif (!a) then some 6 else ((fh g).bind λb=>(bif (decide ((b.size:Int) > 8192)) then some 3 else some 0))))
def dD (g:aM):Option ByteArray :=
 ((fj g).bind λr2=>(bif (r2 != 0) then some (ByteArray.mk #[]) else ((fh g).bind λr7=>some r7)))
def jF (in_:aE):Option (aM×aE) :=
 ((aV in_).bind λr2=>((aV r2.2).bind λr5=>((aV r5.2).bind λr9=>(((bif (decide (r9.1 > 64)) then ((aW r9.2 1).bind λe=>some e) else some r9.2):Option aE).bind λf=>((iter (σ:=aM×aE×Int) (ρ:=aE×aM) (λa=>(bif (decide (a.2.2 < (cA r9.1 64))) then ((aV a.2.1).bind λc=>((chk (dK a.1.bA.length [c.1].length 8)).bind λ_=>some (.inl ((aM.mk a.1.bY a.1.kind (a.1.bA++[c.1]) a.1.data),c.2,(IntKind.i64.wrap (a.2.2+1)))))) else some (.inr (a.2.1,a.1)))) ((aM.mk r2.1 r5.1 ([]:List Int) (ByteArray.mk #[])),f,0)).bind λb=>((fT b.1).bind λd=>some ((aM.mk b.2.bY b.2.kind b.2.bA d.1),d.2)))))))
def fb (s_:ByteArray):Option (aM×Int) :=
 (bif (decide ((s_.size:Int) > 8192)) then some ((aM.mk 0 0 ([]:List Int) (ByteArray.mk #[])),3) else ((kp s_).bind λr5=>(bif (!r5.2) then some ((aM.mk 0 0 ([]:List Int) (ByteArray.mk #[])),4) else ((iX r5.1).bind λd=>((jF d).bind λa=>((gC a.2).bind λb=>(((bif (b == 0) then ((fj a.1).bind λe=>some e) else some b):Option Int).bind λc=>(bif (c != 0) then some ((aM.mk 0 0 ([]:List Int) (ByteArray.mk #[])),c) else some (a.1,0)))))))))
structure aS where
 most:Int
 every:Int
 due:Int
 want:bL
 deriving DecidableEq,Inhabited
def fw (n_:Int) (lo:Int) (hi:Int):Option Int :=
 some (imax lo (cA n_ hi))
def kD (most:Int) (every:Int):Option aS :=
 ((fw most 1 65536).bind λr1=>((fw every 1 1048576).bind λr4=>some (aS.mk r1 r4 0 (bL.mk ([]:List aB)))))
def eK (f:aS) (now:Int) (length:Int):Option ((List aB)×aS) :=
 ((gp f.want (aB.mk 0 length)).bind λr1=>(((bif ((r1.length:Int) == 0) then some true else some (decide (now < f.due))):Option Bool).bind λa=>(bif a then some (([]:List aB),f) else ((chk (fg 0 (cA (r1.length:Int) 8) r1.length)).bind λ_=>some ((cut r1 0 (cA (r1.length:Int) 8)),(aS.mk f.most f.every (IntKind.i64.wrap (now+f.every)) f.want))))))
def dR (f:aS):Option aS :=
 some (aS.mk f.most f.every 0 (bL.mk ([]:List aB)))
def gD (g:aM):Option (Int×(List (List aH))×Int) :=
 (bif (g.kind != 4) then some (0,([]:List (List aH)),5) else (bif ((g.bA.length:Int) != 2) then some (0,([]:List (List aH)),1) else ((iX g.data).bind λr8=>((iter (σ:=aE×(List (List aH))) (ρ:=(List (List aH))×aE) (λa=>((((gT a.1).bind λf=>(bif (decide (f > 0)) then ((idx g.bA 1).bind λh=>some (decide ((a.2.length:Int) < h))) else some false)):Option Bool).bind λi=>(bif i then ((fK a.1).bind λb=>((chk (dK a.2.length [b.1].length 24)).bind λ_=>some (.inl (b.2,(a.2++[b.1]))))) else some (.inr (a.2,a.1))))) (r8,[])).bind λc=>((gC c.2).bind λd=>(((bif (d == 0) then ((idx g.bA 1).bind λj=>some ((c.1.length:Int) != j)) else some false):Option Bool).bind λk=>(((bif k then some 1 else some d):Option Int).bind λe=>(bif (e != 0) then some (0,([]:List (List aH)),e) else ((idx g.bA 0).bind λl=>some (l,c.1,0))))))))))
def kE (is:Bool):Option Int :=
 (bif is then some 1 else some 0)
def eL (f:aS) (i:Int):Option (Bool×aS) :=
 ((gM f.want i).bind λr1=>((kE (decide (i < 1152921504606846976))).bind λa=>((fI f.want [(aB.mk i (IntKind.i64.wrap (i+a)))]).bind λb=>some (r1,(aS.mk f.most f.every f.due b)))))
def eX (f:aS) (x_:aB) (aO:List aB):Option (Int×aS) :=
 ((fw x_.from_ 0 1152921504606846976).bind λb=>((fw x_.to 0 1152921504606846976).bind λd=>((dR f).bind λa=>((eP a.want [(aB.mk b (cA d (IntKind.i64.wrap (b+f.most))))]).bind λe=>((fI e aO).bind λc=>((gN c).bind λg=>some (g,(aS.mk a.most a.every a.due c))))))))
def fN (f:aS):Option (List aB) :=
 ((gZ f.want).bind λr1=>some r1)
structure v9 where
 kind:Int
 rune:Int
 byte:Int
 xj:Bool
 bA:List Int
 text:ByteArray
 deriving DecidableEq,Inhabited
structure sZ where
 xj:Bool
 B7:Bool
 any:Bool
 some:Bool
 n:Int
 bA:List Int
 deriving DecidableEq,Inhabited
structure wc where
 state:Int
 order:sZ
 text:ByteArray
 B8:nB
 out:List v9
 deriving DecidableEq,Inhabited
structure aK where
 k:Int
 w:Int
 h:Int
 x:Int
 y:Int
 title:ByteArray
 rows:List aP
 len:Int
 chain:Int
 begun:List aH
 deriving DecidableEq,Inhabited
def eM (s_:aK):Option Bool :=
 (((bif (s_.k == 0) then (bif (s_.w == 0) then (bif (s_.h == 0) then (bif (s_.x == 0) then (bif (s_.y == 0) then (bif (s_.title.toList == (ByteArray.mk #[]).toList) then (bif ((s_.rows.length:Int) == 0) then (bif (s_.len == 0) then (bif (s_.chain == 0) then some ((s_.begun.length:Int) == 0) else some false) else some false) else some false) else some false) else some false) else some false) else some false) else some false) else some false):Option Bool).bind λa=>some a)
def cU (n_:Int) (lo:Int) (hi:Int):Option Bool :=
 (((bif (decide (n_>=lo)) then some (decide (n_<=hi)) else some false):Option Bool).bind λe4=>some e4)
def fO (s_:aK):Option Bool :=
 ((((cU s_.k 1 1152921504606846976).bind λa=>(bif a then ((cU s_.w 1 1000).bind λb=>(bif b then ((cU s_.h 1 1000).bind λc=>(bif c then ((cU s_.x 0 (IntKind.i64.wrap (s_.w - 1))).bind λd=>(bif d then ((cU s_.y 0 (IntKind.i64.wrap (s_.h - 1))).bind λe=>(bif e then (bif ((s_.rows.length:Int) == s_.h) then (bif (decide ((s_.title.size:Int)<=200)) then ((cU s_.len 0 1152921504606846976).bind λf=>(bif f then ((cU s_.chain 0 281474976710656).bind λg=>(bif g then some (decide ((s_.begun.length:Int)<=1024)) else some false)) else some false)) else some false) else some false) else some false)) else some false)) else some false)) else some false)) else some false)):Option Bool).bind λi=>some i)
def iv (r_:Int) (bD:Int):Option Bool :=
 ((((cU (IntKind.i64.wrap r_) 0 1114111).bind λa=>(bif a then ((cU bD 0 647).bind λb=>some b) else some false)):Option Bool).bind λc=>some c)
def fr (g:aH):Option Bool :=
 ((iv g.rune g.bD).bind λr2=>some (!r2))
def cC (s_:List aH):Option Int :=
 ((iter (σ:=Int) (ρ:=Unit ⊕ Int) (λa=>(bif (decide (a < (s_.length:Int))) then ((idx s_ a).bind λb=>((fr b).bind λc=>(bif c then (eT (some a)) else some (.inl (IntKind.i64.wrap (a+1)))))) else some (.inr (.inl ())))) 0).bind λ | .inl e77=>some (-1) | .inr w=>some w)
def bP (s_:List aH):Option Bool :=
 ((cC s_).bind λr1=>some (decide (r1>=0)))
def jG (c:aI):Option Bool :=
 ((((iv c.rune c.bD).bind λa=>(bif a then ((cU c.part 0 3).bind λb=>some b) else some false)):Option Bool).bind λd=>some d)
def fu (c:aI):Option Bool :=
 ((jG c).bind λr2=>some (!r2))
def cF (s_:List aI):Option Int :=
 ((iter (σ:=Int) (ρ:=Unit ⊕ Int) (λa=>(bif (decide (a < (s_.length:Int))) then ((idx s_ a).bind λb=>((fu b).bind λc=>(bif c then (eT (some a)) else some (.inl (IntKind.i64.wrap (a+1)))))) else some (.inr (.inl ())))) 0).bind λ | .inl e77=>some (-1) | .inr w=>some w)
def bH (s_:List aI):Option Bool :=
 ((cF s_).bind λr1=>some (decide (r1>=0)))
def eN (s_:aK):Option Int :=
 ((eM s_).bind λr2=>(bif r2 then some 0 else ((((fO s_).bind λc=>(bif (!c) then some true else ((bP s_.begun).bind λd=>some d))):Option Bool).bind λe=>(bif e then some 1 else ((iter (σ:=Int) (ρ:=Unit ⊕ Int) (λa=>(bif (decide (a < (s_.rows.length:Int))) then ((idx s_.rows a).bind λb=>(((bif ((b.cells.length:Int) != s_.w) then some true else ((bH b.cells).bind λf=>some f)):Option Bool).bind λg=>(bif g then (eT (some 1)) else some (.inl (IntKind.i64.wrap (a+1)))))) else some (.inr (.inl ())))) 0).bind λ | .inl e212=>some 0 | .inr w=>some w)))))
def lJ (is:Bool):Option Int :=
 (bif is then some 1 else some 0)
def kF (l:List aI):Option (List aI) :=
 some l
def jB {σ:Type} (Y:σ->(Int×aI)->Option (σ×Bool)) (y0:σ) (x1:List aI):Option (σ×(List aI)) :=
 ((iter (σ:=(List aI)×σ) (ρ:=((List aI)×σ) ⊕ (σ×(List aI))) (λa=>(bif (decide ((a.1.length:Int) > 0)) then ((iter (σ:=Int) (ρ:=Int) (λb=>(((bif (decide (b < (a.1.length:Int))) then ((idx a.1 b).bind λc=>((idx a.1 0).bind λd=>some ((c.rune == d.rune) && ((c.bD == d.bD) && ((c.part == d.part) && true))))) else some false):Option Bool).bind λf=>(bif f then some (.inl (IntKind.i64.wrap (b+1))) else some (.inr b)))) 1).bind λe=>((idx a.1 0).bind λg=>((Y a.2 (e,g)).bind λz1399=>(bif (!z1399.2) then (eT (some (z1399.1,a.1))) else ((chk (fg e (a.1.length:Int) a.1.length)).bind λ_=>some (.inl ((cut a.1 e (a.1.length:Int)),z1399.1))))))) else some (.inr (.inl (a.1,a.2))))) (x1,y0)).bind λ | .inl e1058=>some (e1058.2,e1058.1) | .inr w=>some w)
def ie (r_:aP):Option ByteArray :=
 ((lJ r_.wrapped).bind λr3=>((cP (bR.mk ([]:List Int)) [r3]).bind λb=>((kF r_.cells).bind λc=>((jB (λd a=>((cP d [a.1,(IntKind.i64.wrap a.2.rune),a.2.bD,a.2.part]).bind λe=>some (e,true))) (b:bR) c).bind λf=>((dZ f.1).bind λg=>some g)))))
def fA (s_:aK):Option ByteArray :=
 ((((eM s_).bind λb=>(bif b then some true else ((eN s_).bind λc=>some (c != 0)))):Option Bool).bind λd=>(bif d then some (ByteArray.mk #[]) else ((cP (bR.mk ([]:List Int)) [s_.k,s_.w,s_.h,s_.x,s_.y]).bind λe=>((gm e [s_.title]).bind λf=>((cP f [s_.len,s_.chain]).bind λg=>((jE s_.begun).bind λi=>((fS g [i]).bind λj=>((iter (σ:=bR×Int) (ρ:=bR) (λa=>(bif (decide (a.2 < (s_.rows.length:Int))) then ((idx s_.rows a.2).bind λl=>((ie l).bind λm=>((fS a.1 [m]).bind λn=>some (.inl (n,(IntKind.i64.wrap (a.2+1))))))) else some (.inr a.1))) (j,0)).bind λo=>((dZ o).bind λp=>some p)))))))))
def oV (in_:aE):Option (Int×aE) :=
 ((aV in_).bind λr1=>(bif (decide (r1.1 > 1000)) then ((aW r1.2 1).bind λr9=>some (0,r9)) else some (r1.1,r1.2)))
def jr (in_:aE) (left:Int):Option (Int×aI×Bool×aE) :=
 ((aV in_).bind λr2=>(((bif (r2.1 == 0) then some true else some (decide (r2.1 > left))):Option Bool).bind λe8=>(((bif e8 then ((aW r2.2 1).bind λf=>some f) else some r2.2):Option aE).bind λc=>((iter (σ:=iL×aE×Int) (ρ:=iL×aE) (λa=>(bif (decide (a.2.2 < 3)) then ((((idx [1114111,647,3] a.2.2).bind λg=>((aV a.2.1).bind λb=>((chk (xb a.2.2 3)).bind λ_=>((chk (xb a.2.2 3)).bind λ_=>((idx [(sel a.2.2 0 b.1 a.1.e0),(sel a.2.2 1 b.1 a.1.e1),(sel a.2.2 2 b.1 a.1.e2)] a.2.2).bind λh=>(bif (decide (h > g)) then ((aW b.2 1).bind λi=>some ((iL.mk (sel a.2.2 0 b.1 a.1.e0) (sel a.2.2 1 b.1 a.1.e1) (sel a.2.2 2 b.1 a.1.e2)),i)) else some ((iL.mk (sel a.2.2 0 b.1 a.1.e0) (sel a.2.2 1 b.1 a.1.e1) (sel a.2.2 2 b.1 a.1.e2)),b.2))))))):Option (iL×aE)).bind λe=>some (.inl (e.1,e.2,(IntKind.i64.wrap (a.2.2+1))))) else some (.inr (a.1,a.2.1)))) ((iL.mk 0 0 0),c,0)).bind λd=>((cE d.2).bind λj=>(bif (j != 0) then some (0,(aI.mk 0 0 0),false,d.2) else some (r2.1,(aI.mk (IntKind.i32.wrap d.1.e0) d.1.e1 d.1.e2),true,d.2)))))))
def gr (in_:aE) (w:Int):Option (aP×aE) :=
 ((aV in_).bind λr2=>(((bif (decide (r2.1 > 1)) then ((aW r2.2 1).bind λf=>some f) else some r2.2):Option aE).bind λg=>((iter (σ:=aE×(List aI)) (ρ:=(List aI)×aE) (λa=>(((bif (decide ((a.2.length:Int) < w)) then ((cE a.1).bind λh=>some (h == 0)) else some false):Option Bool).bind λi=>(bif i then ((jr a.1 (IntKind.i64.wrap (w - (a.2.length:Int)))).bind λb=>(bif (!b.2.2.1) then some (.inl (b.2.2.2,a.2)) else (((bif (decide ((a.2.length:Int) > 0)) then ((idx a.2 (IntKind.i64.wrap ((a.2.length:Int) - 1))).bind λd=>some ((d.rune == b.2.1.rune) && ((d.bD == b.2.1.bD) && ((d.part == b.2.1.part) && true)))) else some false):Option Bool).bind λj=>(bif j then ((aW b.2.2.2 1).bind λk=>some (.inl (k,a.2))) else ((dC [b.2.1] b.1).bind λe=>((chk (dK a.2.length e.length 24)).bind λ_=>some (.inl (b.2.2.2,(a.2++e))))))))) else some (.inr (a.2,a.1))))) (g,[])).bind λc=>((cE c.2).bind λl=>(bif (l != 0) then some ((aP.mk ([]:List aI) false),c.2) else some ((aP.mk c.1 (r2.1 == 1)),c.2))))))
def fm (s_:aK):Option aK :=
 ((iter (σ:=(List aP)×Int) (ρ:=(List aP)) (λa=>(bif (decide (a.2 < (s_.rows.length:Int))) then ((idx s_.rows a.2).bind λb=>((eu b.cells).bind λc=>((chk (dK a.1.length [(aP.mk c b.wrapped)].length 32)).bind λ_=>some (.inl ((a.1++[(aP.mk c b.wrapped)]),(IntKind.i64.wrap (a.2+1))))))) else some (.inr a.1))) ([],0)).bind λd=>((cB s_.begun).bind λe=>some (aK.mk s_.k s_.w s_.h s_.x s_.y s_.title d s_.len s_.chain e)))
def gO (s_:aK):Option Int :=
 ((fA s_).bind λr2=>((ko [r2]).bind λr7=>some (IntKind.i64.wrap r7)))
structure aY where
 sum:Int
 to:aK
 rows:Mp aP
 deriving DecidableEq,Inhabited
def ig (s_:aK):Option Bool :=
 ((fA s_).bind λr2=>some (!(r2.toList == (ByteArray.mk #[]).toList)))
def fz (s_:aK) (y:Int):Option (aP×Bool) :=
 (((bif (decide (y < 0)) then some true else some (decide (y>=(s_.rows.length:Int)))):Option Bool).bind λe6=>(bif e6 then some ((aP.mk ([]:List aI) false),false) else ((idx s_.rows y).bind λa=>some (a,true))))
def gE (in_:aE):Option (Int×aE) :=
 ((aV in_).bind λr1=>(bif (decide (r1.1 > 1000)) then ((aW r1.2 1).bind λr9=>some (0,r9)) else some (r1.1,r1.2)))
def iZ (s_:ByteArray):Option (aY×Int) :=
 ((iX s_).bind λr2=>((aV r2).bind λr6=>((aV r6.2).bind λd=>((gE d.2).bind λe=>((gE e.2).bind λf=>((aV f.2).bind λg=>((aV g.2).bind λi=>((fT i.2).bind λj=>((aV j.2).bind λl=>((aV l.2).bind λm=>((fK m.2).bind λn=>((aV n.2).bind λo=>((iter (σ:=aY×aE×Int×Int) (ρ:=aE×aY) (λa=>(((bif (decide (a.2.2.2 > 0)) then ((cE a.2.1).bind λq=>some (q == 0)) else some false):Option Bool).bind λr=>(bif r then ((aV a.2.1).bind λc=>(((bif (decide (c.1<=a.2.2.1)) then some true else some (decide (c.1>=a.1.to.h))):Option Bool).bind λs=>(((bif s then ((aW c.2 1).bind λt=>some t) else some c.2):Option aE).bind λu=>((gr u a.1.to.w).bind λp=>((chk a.1.rows.isSome).bind λ_=>some (.inl ((aY.mk a.1.sum (aK.mk a.1.to.k a.1.to.w a.1.to.h a.1.to.x a.1.to.y a.1.to.title ([]:List aP) a.1.to.len a.1.to.chain a.1.to.begun) (vX a.1.rows c.1 p.1)),p.2,c.1,(IntKind.i64.wrap (a.2.2.2 - 1))))))))) else some (.inr (a.2.1,(aY.mk a.1.sum (aK.mk a.1.to.k a.1.to.w a.1.to.h a.1.to.x a.1.to.y a.1.to.title ([]:List aP) a.1.to.len a.1.to.chain a.1.to.begun) a.1.rows)))))) ((aY.mk r6.1 (aK.mk d.1 e.1 f.1 g.1 i.1 j.1 ([]:List aP) l.1 m.1 n.1) (some []:Mp aP)),o.2,(-1),o.1)).bind λb=>((gC b.1).bind λv=>some ((aY.mk b.2.sum (aK.mk b.2.to.k b.2.to.w b.2.to.h b.2.to.x b.2.to.y b.2.to.title ([]:List aP) b.2.to.len b.2.to.chain b.2.to.begun) b.2.rows),v)))))))))))))))
def dS (p:aY) (a:aK):Option (Bool×aY) :=
 ((iter (σ:=aY×Int) (ρ:=aY ⊕ (Bool×aY)) (λb=>(bif (decide (b.2 < p.to.h)) then ((fz a b.2).bind λc=>(((((bif (jh b.1.rows b.2) then (bif c.2 then ((gn c.1 (mgd b.1.rows b.2 (aP.mk ([]:List aI) false))).bind λe=>some e) else some false) else some false):Option Bool).bind λd=>(((bif d then some d else (bif (!(jh b.1.rows b.2)) then some (!c.2) else some false)):Option Bool).bind λf=>(bif f then (kz (eT (some (false,(aY.mk b.1.sum (aK.mk b.1.to.k b.1.to.w b.1.to.h b.1.to.x b.1.to.y b.1.to.title b.1.to.rows b.1.to.len b.1.to.chain b.1.to.begun) b.1.rows))))) else (bif (!(jh b.1.rows b.2)) then some (.inl c.1) else some (.inl (mgd b.1.rows b.2 (aP.mk ([]:List aI) false))))))):Option (aP ⊕ ((aY×Int) ⊕ (aY ⊕ (Bool×aY))))).bind λ | .inl e1033=>((chk (dK b.1.to.rows.length [e1033].length 32)).bind λ_=>some (.inl ((aY.mk b.1.sum (aK.mk b.1.to.k b.1.to.w b.1.to.h b.1.to.x b.1.to.y b.1.to.title (b.1.to.rows++[e1033]) b.1.to.len b.1.to.chain b.1.to.begun) b.1.rows),(IntKind.i64.wrap (b.2+1))))) | .inr w=>some w)) else some (.inr (.inl (aY.mk b.1.sum (aK.mk b.1.to.k b.1.to.w b.1.to.h b.1.to.x b.1.to.y b.1.to.title b.1.to.rows b.1.to.len b.1.to.chain b.1.to.begun) b.1.rows))))) (p,0)).bind λ | .inl e816=>((ig (aK.mk e816.to.k e816.to.w e816.to.h e816.to.x e816.to.y e816.to.title e816.to.rows e816.to.len e816.to.chain e816.to.begun)).bind λg=>some (g,(aY.mk e816.sum (aK.mk e816.to.k e816.to.w e816.to.h e816.to.x e816.to.y e816.to.title e816.to.rows e816.to.len e816.to.chain e816.to.begun) e816.rows))) | .inr w=>some w)
def iF (a:aK) (s_:ByteArray):Option (aK×Int) :=
 ((eN a).bind λr3=>(bif (r3 != 0) then some ((aK.mk 0 0 0 0 0 (ByteArray.mk #[]) ([]:List aP) 0 0 ([]:List aH)),1) else ((iZ s_).bind λb=>(bif (b.2 != 0) then some ((aK.mk 0 0 0 0 0 (ByteArray.mk #[]) ([]:List aP) 0 0 ([]:List aH)),b.2) else ((gO a).bind λd=>(bif (b.1.sum != d) then some ((aK.mk 0 0 0 0 0 (ByteArray.mk #[]) ([]:List aP) 0 0 ([]:List aH)),7) else ((dS b.1 a).bind λc=>(bif (!c.1) then some ((aK.mk 0 0 0 0 0 (ByteArray.mk #[]) ([]:List aP) 0 0 ([]:List aH)),1) else ((fm c.2.to).bind λe=>some (e,0))))))))))
structure bJ where
 key:Int
 count:Int
 parts:Mp ByteArray
 bytes:Int
 deriving DecidableEq,Inhabited
def gu (s_:bJ) (key:Int) (index:Int) (count:Int) (data:ByteArray):Option (Int×bJ) :=
 (((((bif (decide (count < 1)) then some true else (bif (decide (count > 4096)) then some true else (bif (decide (index < 0)) then some true else (bif (decide (index>=count)) then some true else some (decide (key < 1)))))):Option Bool).bind λa=>(bif a then (kz (some (6,s_))) else (bif (decide (key < s_.key)) then (kz (some (8,s_))) else (bif (decide (key > s_.key)) then some (.inl (bJ.mk key count (some []:Mp ByteArray) 0)) else (bif (count != s_.count) then (kz (some (1,s_))) else some (.inl s_)))))):Option (bJ ⊕ (Int×bJ))).bind λ | .inl e48=>(((bif (!(jh e48.parts index)) then ((chk e48.parts.isSome).bind λ_=>some (bJ.mk e48.key e48.count (vX e48.parts index data) (IntKind.i64.wrap (e48.bytes+(data.size:Int))))) else some e48):Option bJ).bind λb=>some (0,b)) | .inr w=>some w)
def fp {σ:Type} (s_:bJ) (Y:σ->(Int×Bool)->Option (σ×Bool)) (y0:σ):Option σ :=
 ((iter (σ:=Int×σ) (ρ:=σ ⊕ σ) (λa=>(bif (decide (a.1 < s_.count)) then ((Y a.2 (a.1,(jh s_.parts a.1))).bind λz64=>(bif (!z64.2) then (eT (some z64.1)) else some (.inl ((IntKind.i64.wrap (a.1+1)),z64.1)))) else some (.inr (.inl a.2)))) (0,y0)).bind λ | .inl e49=>some e49 | .inr w=>some w)
def fC (s_:bJ):Option Int :=
 some s_.count
def eY (s_:bJ) (there:Bool):Option (List Int) :=
 ((fp s_ (λs32 x3=>(bif (x3.2 == there) then ((chk (dK s32.length [x3.1].length 8)).bind λ_=>some ((s32++[x3.1]),true)) else some (s32,true))) ([]:(List Int))).bind λa=>some a)
def dJ (s_:bJ):Option (List Int) :=
 ((eY s_ true).bind λr1=>some r1)
def jt (s_:bJ):Option Int :=
 some s_.key
def ek (s_:bJ):Option (ByteArray×Bool) :=
 (((bif (s_.key == 0) then some true else some (decide (((ua s_.parts:Nat):Int) < s_.count))):Option Bool).bind λe7=>(bif e7 then some ((ByteArray.mk #[]),false) else ((fp s_ (λa d=>((cX (bT.mk a.addr a.buf) (mgd s_.parts d.1 (ByteArray.mk #[]))).bind λb=>some ((bT.mk b.addr b.buf),true))) ((bT.mk false ([]:List Int)):bT)).bind λc=>((fU (bT.mk c.addr c.buf)).bind λe=>some (e,true)))))
def gf (s_:bJ):Option bJ :=
 some (bJ.mk 0 0 none 0)
structure aR where
 slot:bJ
 aO:aK
 deriving DecidableEq,Inhabited
def jH:Option aR :=
 some (aR.mk (bJ.mk 0 0 none 0) (aK.mk 0 0 0 0 0 (ByteArray.mk #[]) ([]:List aP) 0 0 ([]:List aH)))
def gg (t_:aR) (g:aM):Option (Int×aR) :=
 (bif (g.kind != 1) then some (5,(aR.mk t_.slot t_.aO)) else (bif ((g.bA.length:Int) != 5) then some (1,(aR.mk t_.slot t_.aO)) else ((idx g.bA 1).bind λb=>(bif (decide (b<=t_.aO.k)) then some (8,(aR.mk t_.slot t_.aO)) else ((((idx g.bA 2).bind λc=>(bif (c != 0) then ((idx g.bA 2).bind λd=>some (d != t_.aO.k)) else some false)):Option Bool).bind λe=>(bif e then some (7,(aR.mk t_.slot t_.aO)) else ((idx g.bA 0).bind λf=>((idx g.bA 3).bind λh=>((idx g.bA 4).bind λi=>((gu t_.slot f h i g.data).bind λa=>some (a.1,(aR.mk a.2 t_.aO))))))))))))
def cV (t_:aR):Option aM :=
 ((fC t_.slot).bind λr2=>((chk (pO (IntKind.i64.wrap ((IntKind.i64.wrap ((IntKind.i64.wrap (r2+8)) - 1)).tdiv 8)) 1)).bind λ_=>((dJ t_.slot).bind λr9=>((iter (σ:=Int×(List Int)) (ρ:=(List Int)) (λa=>(bif (decide (a.1 < (r9.length:Int))) then ((idx r9 a.1).bind λb=>((idx a.2 (IntKind.i64.wrap (b.tdiv 8))).bind λc=>((chk (shk (b.tmod 8))).bind λ_=>((idx a.2 (IntKind.i64.wrap (b.tdiv 8))).bind λf=>some (.inl ((IntKind.i64.wrap (a.1+1)),(a.2.set ((IntKind.i64.wrap (b.tdiv 8)).toNat) (Go.bits .or .u8 c (IntKind.u8.wrap (1*2 ^ (min (b.tmod 8).toNat 8))))))))))) else some (.inr a.2))) (0,(List.replicate (IntKind.i64.wrap ((IntKind.i64.wrap ((IntKind.i64.wrap (r2+8)) - 1)).tdiv 8)).toNat (0:Int)))).bind λd=>((jt t_.slot).bind λe=>some (aM.mk 1 2 [t_.aO.k,e] (cZ d)))))))
def eo (t_:aR):Option aK :=
 ((fm t_.aO).bind λr2=>some r2)
def gi (t_:aR):Option aR :=
 (Option.bind jH λr1=>some (aR.mk r1.slot r1.aO))
def fD (t_:aR) (g:aM):Option (Int×aR) :=
 ((gg t_ g).bind λr2=>(bif (r2.1 != 0) then some (r2.1,r2.2) else ((ek r2.2.slot).bind λc=>(bif (!c.2) then some (0,r2.2) else ((gf r2.2.slot).bind λb=>((idx g.bA 2).bind λe=>(((bif (e != 0) then some r2.2.aO else some (aK.mk 0 0 0 0 0 (ByteArray.mk #[]) ([]:List aP) 0 0 ([]:List aH))):Option aK).bind λf=>((iF f c.1).bind λa=>(((bif (a.2 == 0) then ((idx g.bA 1).bind λh=>some (a.1.k != h)) else some false):Option Bool).bind λi=>(((bif i then some 1 else some a.2):Option Int).bind λd=>(((bif (d == 0) then some (aR.mk b a.1) else some (aR.mk b r2.2.aO)):Option aR).bind λj=>some (d,(aR.mk b j.aO)))))))))))))
structure gF where
 cache:Int
 every:Int
 addr:Int
 deriving DecidableEq,Inhabited
structure aD where
 config:gF
 bY:Int
 due:Int
 aL:aR
 lines:aJ
 bF:aS
 deriving DecidableEq,Inhabited
def cW (n_:Int) (lo:Int) (hi:Int):Option Int :=
 some (imax lo (cA n_ hi))
def gG (c:gF):Option aD :=
 ((cW c.cache 1 65536).bind λa=>((cW c.every 1 1048576).bind λb=>((cW c.addr 0 4294967296).bind λe=>(Option.bind jH λd=>((kC a).bind λf=>((kD a b).bind λg=>some (aD.mk (gF.mk a b e) 0 0 (aR.mk d.slot d.aO) f g)))))))
def cL (c:aD) (now:Int):Option ((List ByteArray)×aD) :=
 (((bif (decide (now>=c.due)) then ((cV (aR.mk c.aL.slot c.aL.aO)).bind λi=>((chk (dK ([]:List aM).length [i].length 56)).bind λ_=>some ((([]:List aM)++[i]),(aD.mk c.config c.bY (IntKind.i64.wrap (now+c.config.every)) (aR.mk c.aL.slot c.aL.aO) c.lines c.bF)))) else some ([],(aD.mk c.config c.bY c.due (aR.mk c.aL.slot c.aL.aO) c.lines c.bF))):Option ((List aM)×aD)).bind λa=>((eo (aR.mk c.aL.slot c.aL.aO)).bind λl=>((eK c.bF now l.len).bind λf=>((iter (σ:=Int×(List Int)) (ρ:=(List Int)) (λb=>(bif (decide (b.1 < (f.1.length:Int))) then ((idx f.1 b.1).bind λe=>((chk (dK b.2.length [e.from_,e.to].length 8)).bind λ_=>some (.inl ((IntKind.i64.wrap (b.1+1)),(b.2++[e.from_,e.to]))))) else some (.inr b.2))) (0,[])).bind λg=>(((bif (decide ((g.length:Int) > 0)) then ((chk (dK a.1.length ([(aM.mk 0 3 g (ByteArray.mk #[]))]).length 56)).bind λ_=>some (a.1++[(aM.mk 0 3 g (ByteArray.mk #[]))])) else some a.1):Option (List aM)).bind λj=>((iter (σ:=Int×(List ByteArray)) (ρ:=(List ByteArray)) (λd=>(bif (decide (d.1 < (j.length:Int))) then ((idx j d.1).bind λh=>((dD (aM.mk (imax 1 a.2.bY) h.kind h.bA h.data)).bind λk=>((chk (dK d.2.length [k].length 16)).bind λ_=>some (.inl ((IntKind.i64.wrap (d.1+1)),(d.2++[k])))))) else some (.inr d.2))) (0,[])).bind λm=>some (m,(aD.mk (gF.mk a.2.config.cache a.2.config.every a.2.config.addr) a.2.bY a.2.due (aR.mk c.aL.slot c.aL.aO) c.lines f.2))))))))
def dL (c:aD) (bY:Int):Option aD :=
 ((gi c.aL).bind λr1=>((gb c.lines).bind λa=>((dR c.bF).bind λb=>some (aD.mk c.config bY c.due r1 a b))))
def ey (c:aD) (g:aM):Option (Int×aD) :=
 ((gD g).bind λr2=>((iter (σ:=aJ×aS×Int) (ρ:=aJ×aS) (λa=>(bif (decide (a.2.2 < (r2.2.1.length:Int))) then ((((idx r2.2.1 a.2.2).bind λf=>((eL a.2.1 (IntKind.i64.wrap (r2.1+a.2.2))).bind λb=>(bif b.1 then ((eJ a.1 (IntKind.i64.wrap (r2.1+a.2.2)) f).bind λh=>some (h.2.2,b.2)) else some (a.1,b.2)))):Option (aJ×aS)).bind λd=>some (.inl (d.1,d.2,(IntKind.i64.wrap (a.2.2+1))))) else some (.inr (a.1,a.2.1)))) (c.lines,c.bF,0)).bind λe=>some (r2.2.2,(aD.mk c.config c.bY c.due c.aL e.1 e.2))))
def cM (c:aD) (now:Int) (data:ByteArray):Option (Int×aD) :=
 ((fb data).bind λr1=>(((bif (r1.2 != 0) then (kz (some (r1.2,c))) else (((bif (r1.1.kind != 1) then some (r1.1.kind != 4) else some false):Option Bool).bind λd=>(bif d then (kz (some (5,c))) else (bif (decide (r1.1.bY < c.bY)) then (kz (some (8,c))) else (bif (decide (r1.1.bY > c.bY)) then ((dL c r1.1.bY).bind λe=>some (.inl e)) else some (.inl c)))))):Option (aD ⊕ (Int×aD))).bind λ | .inl e79=>(bif (r1.1.kind == 4) then ((ey e79 r1.1).bind λa=>some (a.1,a.2)) else ((fD e79.aL r1.1).bind λb=>some (b.1,(aD.mk e79.config e79.bY e79.due b.2 e79.lines e79.bF)))) | .inr w=>some w))
def cS (c:aD):Option Int :=
 some c.bY
def fP (c:aD):Option Int :=
 some c.config.addr
def cN (c:aD) (from_:Int) (to:Int):Option (Int×aD) :=
 ((cW from_ 0 1152921504606846976).bind λr1=>((cW to 0 1152921504606846976).bind λr4=>((dF c.lines).bind λr7=>((eP (bL.mk ([]:List aB)) r7).bind λg=>((gp g (aB.mk r1 (cA r4 (IntKind.i64.wrap (r1+c.config.cache))))).bind λd=>((iter (σ:=aJ×Int) (ρ:=aJ) (λa=>(bif (decide (a.2 < (d.length:Int))) then ((idx d a.2).bind λe=>((iter (σ:=aJ×Int) (ρ:=aJ) (λb=>(bif (decide (b.2 < e.to)) then ((dU b.1 b.2).bind λh=>some (.inl (h.2.2,(IntKind.i64.wrap (b.2+1))))) else some (.inr b.1))) (a.1,e.from_)).bind λi=>some (.inl (i,(IntKind.i64.wrap (a.2+1)))))) else some (.inr a.1))) (c.lines,0)).bind λj=>((eX c.bF (aB.mk r1 (cA r4 (IntKind.i64.wrap (r1+c.config.cache)))) r7).bind λf=>some (f.1,(aD.mk c.config c.bY c.due c.aL j f.2)))))))))
def eU (c:aD):Option (List aB) :=
 ((dF c.lines).bind λr1=>some r1)
def eO (c:aD):Option (List aB) :=
 ((fN c.bF).bind λr1=>some r1)
def fQ (s_:ByteArray) (n_:Int):Option ByteArray :=
 (bif (decide ((s_.size:Int) > n_)) then ((chk (fg 0 n_ s_.size)).bind λ_=>some (fR s_ 0 n_)) else some s_)
structure cY where
 rune:Int
 bD:Int
 part:Int
 deriving DecidableEq,Inhabited
structure bM where
 l:List cY
 wrapped:Bool
 deriving DecidableEq,Inhabited
structure aU where
 rune:Int
 bD:Int
 deriving DecidableEq,Inhabited
structure aX where
 s:ByteArray
 e:Int
 deriving DecidableEq,Inhabited
def bC (in_:aX):Option (aX×Int) :=
 (bif (in_.e != 0) then some (in_,0) else ((iter (σ:=Int×Int×Int) (ρ:=Unit ⊕ (aX×Int)) (λa=>(bif (decide (a.2.2 < 9)) then (((bif (a.2.2 == (in_.s.size:Int)) then (kz (eT (some ((aX.mk (ByteArray.mk #[]) 2),0)))) else ((pQ in_.s a.2.2).bind λb475=>(bif (decide ((IntKind.i64.wrap b475) < 128)) then (((bif (decide (a.2.2 > 0)) then (bif ((IntKind.i64.wrap b475) == 0) then some true else some (decide ((IntKind.i64.wrap (a.1+(IntKind.i64.wrap (((IntKind.i64.wrap b475).tmod 128)*a.2.1)))) > 4611686018427387904))) else some (decide ((IntKind.i64.wrap (a.1+(IntKind.i64.wrap (((IntKind.i64.wrap b475).tmod 128)*a.2.1)))) > 4611686018427387904))):Option Bool).bind λb=>(bif b then (kz (eT (some ((aX.mk (ByteArray.mk #[]) 1),0)))) else ((chk (fg (IntKind.i64.wrap (a.2.2+1)) (in_.s.size:Int) in_.s.size)).bind λ_=>(kz (eT (some ((aX.mk (fR in_.s (IntKind.i64.wrap (a.2.2+1)) (in_.s.size:Int)) 0),(IntKind.i64.wrap (a.1+(IntKind.i64.wrap (((IntKind.i64.wrap b475).tmod 128)*a.2.1))))))))))) else (bif (decide (a.2.2 < 8)) then some (.inl ((IntKind.i64.wrap (a.1+(IntKind.i64.wrap (((IntKind.i64.wrap b475).tmod 128)*a.2.1)))),(IntKind.i64.wrap (a.2.1*128)))) else some (.inl ((IntKind.i64.wrap (a.1+(IntKind.i64.wrap (((IntKind.i64.wrap b475).tmod 128)*a.2.1)))),a.2.1)))))):Option ((Int×Int) ⊕ ((Int×Int×Int) ⊕ (Unit ⊕ (aX×Int))))).bind λ | .inl e465=>some (.inl (e465.1,e465.2,(IntKind.i64.wrap (a.2.2+1)))) | .inr w=>some w) else some (.inr (.inl ())))) (0,1,0)).bind λ | .inl e381=>some ((aX.mk (ByteArray.mk #[]) 1),0) | .inr w=>some w))
def oW (in_:aX) (n_:Int):Option (aX×ByteArray) :=
 (bif (in_.e != 0) then some (in_,(ByteArray.mk #[])) else (bif (decide ((imax 0 n_) > (in_.s.size:Int))) then some ((aX.mk (ByteArray.mk #[]) 2),(ByteArray.mk #[])) else ((chk (fg (imax 0 n_) (in_.s.size:Int) in_.s.size)).bind λ_=>((chk (fg 0 (imax 0 n_) in_.s.size)).bind λ_=>some ((aX.mk (fR in_.s (imax 0 n_) (in_.s.size:Int)) 0),(fR in_.s 0 (imax 0 n_)))))))
def iw (in_:aX):Option (aX×ByteArray) :=
 ((bC in_).bind λr3=>((oW r3.1 r3.2).bind λr7=>some (r7.1,r7.2)))
def bX (n_:Int):Option ByteArray :=
 ((iter (σ:=Int×(List Int)) (ρ:=Int×(List Int)) (λa=>(bif (decide (a.1>=128)) then ((chk (dK a.2.length [(IntKind.u8.wrap (IntKind.i64.wrap (128+(a.1.tmod 128))))].length 1)).bind λ_=>some (.inl ((IntKind.i64.wrap (a.1.tdiv 128)),(a.2++[(IntKind.u8.wrap (IntKind.i64.wrap (128+(a.1.tmod 128))))])))) else some (.inr (a.1,a.2)))) ((imax 0 (cA n_ 4611686018427387904)),([]:List Int))).bind λb=>((chk (dK b.2.length [(IntKind.u8.wrap b.1)].length 1)).bind λ_=>some (cZ (b.2++[(IntKind.u8.wrap b.1)]))))
def lK (s_:ByteArray):Option ByteArray :=
 ((bX (s_.size:Int)).bind λr1=>((chk (kj r1.size s_.size)).bind λ_=>some (r1++s_)))
def mZ (s_:ByteArray):Option Int :=
 ((iter (σ:=Int×Int) (ρ:=Int) (λb=>(bif (decide (b.2 < (s_.size:Int))) then ((pQ s_ b.2).bind λb402=>((iter (σ:=Int×Int) (ρ:=Int) (λa=>(bif (decide (a.2 < 8)) then (((bif ((a.1.tmod 2) == 1) then some (Go.bits .xor .i64 (IntKind.i64.wrap (a.1.tdiv 2)) 3988292384) else some (IntKind.i64.wrap (a.1.tdiv 2))):Option Int).bind λc=>some (.inl (c,(IntKind.i64.wrap (a.2+1))))) else some (.inr a.1))) ((Go.bits .xor .i64 b.1 (IntKind.i64.wrap b402)),0)).bind λd=>some (.inl (d,(IntKind.i64.wrap (b.2+1)))))) else some (.inr b.1))) (4294967295,0)).bind λe=>some (IntKind.i64.wrap (4294967295 - e)))
def kd (in_:aX):Option (aX×(List aU)) :=
 ((bC in_).bind λr3=>(((bif (r3.1.e == 0) then some (decide (r3.2 > 1024)) else some false):Option Bool).bind λe9=>(bif e9 then some ((aX.mk (ByteArray.mk #[]) 1),([]:List aU)) else ((iter (σ:=aX×(List aU)×Int) (ρ:=((List aU)×aX) ⊕ (aX×(List aU))) (λa=>(((bif (decide (a.2.2 < r3.2)) then some (a.1.e == 0) else some false):Option Bool).bind λd=>(bif d then ((bC a.1).bind λb=>(((bif (b.1.e == 0) then some (decide (b.2 > 1114111)) else some false):Option Bool).bind λf=>(bif f then (eT (some ((aX.mk (ByteArray.mk #[]) 1),([]:List aU)))) else ((bC b.1).bind λc=>(((bif (c.1.e == 0) then some (decide (c.2 > 647)) else some false):Option Bool).bind λg=>(bif g then (eT (some ((aX.mk (ByteArray.mk #[]) 1),([]:List aU)))) else ((chk (dK a.2.1.length [(aU.mk b.2 c.2)].length 16)).bind λ_=>some (.inl (c.1,(a.2.1++[(aU.mk b.2 c.2)]),(IntKind.i64.wrap (a.2.2+1))))))))))) else some (.inr (.inl (a.2.1,a.1)))))) (r3.1,([]:List aU),0)).bind λ | .inl e261=>(bif (e261.2.e != 0) then some (e261.2,([]:List aU)) else some (e261.2,e261.1)) | .inr w=>some w))))
def lL (l:List aU):Option ByteArray :=
 ((bX (l.length:Int)).bind λr1=>((iter (σ:=Int×ByteArray) (ρ:=ByteArray) (λa=>(bif (decide (a.1 < (l.length:Int))) then ((idx l a.1).bind λd=>((bX d.rune).bind λb=>((bX d.bD).bind λc=>((chk (kj b.size c.size)).bind λ_=>((chk (kj a.2.size (b++c).size)).bind λ_=>some (.inl ((IntKind.i64.wrap (a.1+1)),(a.2++(b++c))))))))) else some (.inr a.2))) (0,r1)).bind λe=>some e))
structure bK where
 k:Int
 w:Int
 h:Int
 x:Int
 y:Int
 title:ByteArray
 rows:List bM
 len:Int
 chain:Int
 begun:List aU
 deriving DecidableEq,Inhabited
def cD (in_:aX) (most:Int):Option (aX×Int) :=
 ((bC in_).bind λr3=>(((bif (r3.1.e == 0) then some (decide (r3.2 > most)) else some false):Option Bool).bind λa=>(bif a then some ((aX.mk (ByteArray.mk #[]) 1),0) else some (r3.1,r3.2))))
def iN (in_:aX) (w:Int):Option (aX×bM) :=
 ((cD in_ 1).bind λr4=>((iter (σ:=aX×(List cY)) (ρ:=(List cY)×aX) (λa=>(((bif (decide ((a.2.length:Int) < w)) then some (a.1.e == 0) else some false):Option Bool).bind λk=>(bif k then ((cD a.1 (IntKind.i64.wrap (w - (a.2.length:Int)))).bind λd=>(((bif (d.1.e == 0) then some (d.2 == 0) else some false):Option Bool).bind λl=>(((bif l then some (aX.mk (ByteArray.mk #[]) 1) else some d.1):Option aX).bind λm=>((cD m 1114111).bind λf=>((cD f.1 647).bind λg=>((cD g.1 3).bind λb=>(((bif (b.1.e == 0) then (bif (decide ((a.2.length:Int) > 0)) then ((idx a.2 (IntKind.i64.wrap ((a.2.length:Int) - 1))).bind λi=>some ((i.rune == f.2) && ((i.bD == g.2) && ((i.part == b.2) && true)))) else some false) else some false):Option Bool).bind λn=>(((bif n then some (aX.mk (ByteArray.mk #[]) 1) else some b.1):Option aX).bind λj=>((iter (σ:=Int×(List cY)) (ρ:=(List cY)) (λc=>(((bif (decide (c.1 < d.2)) then some (j.e == 0) else some false):Option Bool).bind λo=>(bif o then ((chk (dK c.2.length [(cY.mk f.2 g.2 b.2)].length 24)).bind λ_=>some (.inl ((IntKind.i64.wrap (c.1+1)),(c.2++[(cY.mk f.2 g.2 b.2)])))) else some (.inr c.2)))) (0,a.2)).bind λp=>some (.inl (j,p))))))))))) else some (.inr (a.2,a.1))))) (r4.1,([]:List cY))).bind λh=>(bif (h.2.e != 0) then some (h.2,(bM.mk ([]:List cY) false)) else some (h.2,(bM.mk h.1 (r4.2 == 1))))))
def iG (s_:bK):Option Bool :=
 (((bif (s_.k == 0) then (bif (s_.w == 0) then (bif (s_.h == 0) then (bif (s_.x == 0) then (bif (s_.y == 0) then (bif (s_.title.toList == (ByteArray.mk #[]).toList) then (bif ((s_.rows.length:Int) == 0) then (bif (s_.len == 0) then (bif (s_.chain == 0) then some ((s_.begun.length:Int) == 0) else some false) else some false) else some false) else some false) else some false) else some false) else some false) else some false) else some false):Option Bool).bind λa=>some a)
def jI (s_:bK):Option Bool :=
 ((iG s_).bind λr2=>(bif r2 then some true else (((bif (decide (s_.k < 1)) then some true else (bif (decide (s_.k > 1152921504606846976)) then some true else (bif (decide (s_.w < 1)) then some true else (bif (decide (s_.w > 1000)) then some true else (bif (decide (s_.h < 1)) then some true else (bif (decide (s_.h > 1000)) then some true else (bif (decide (s_.x < 0)) then some true else (bif (decide (s_.x>=s_.w)) then some true else (bif (decide (s_.y < 0)) then some true else (bif (decide (s_.y>=s_.h)) then some true else some ((s_.rows.length:Int) != s_.h))))))))))):Option Bool).bind λg=>(bif g then some false else (((bif (decide ((s_.title.size:Int) > 200)) then some true else (bif (decide (s_.len < 0)) then some true else (bif (decide (s_.len > 1152921504606846976)) then some true else (bif (decide (s_.chain < 0)) then some true else (bif (decide (s_.chain > 281474976710656)) then some true else some (decide ((s_.begun.length:Int) > 1024))))))):Option Bool).bind λi=>(bif i then some false else ((iter (σ:=Int) (ρ:=Unit ⊕ Bool) (λc=>(bif (decide (c < (s_.begun.length:Int))) then ((idx s_.begun c).bind λb=>(((bif (decide (b.rune < 0)) then some true else (bif (decide (b.rune > 1114111)) then some true else (bif (decide (b.bD < 0)) then some true else some (decide (b.bD > 647))))):Option Bool).bind λj=>(bif j then (eT (some false)) else some (.inl (IntKind.i64.wrap (c+1)))))) else some (.inr (.inl ())))) 0).bind λ | .inl e206=>((iter (σ:=Int) (ρ:=Unit ⊕ Bool) (λd=>(bif (decide (d < (s_.rows.length:Int))) then ((idx s_.rows d).bind λe=>(bif ((e.l.length:Int) != s_.w) then (eT (some false)) else ((iter (σ:=Int) (ρ:=Unit ⊕ (Int ⊕ (Unit ⊕ Bool))) (λf=>(bif (decide (f < (e.l.length:Int))) then ((idx e.l f).bind λa=>(((bif (decide (a.rune < 0)) then some true else (bif (decide (a.rune > 1114111)) then some true else (bif (decide (a.bD < 0)) then some true else (bif (decide (a.bD > 647)) then some true else (bif (decide (a.part < 0)) then some true else some (decide (a.part > 3))))))):Option Bool).bind λm=>(bif m then (eT (eT (some false))) else some (.inl (IntKind.i64.wrap (f+1)))))) else some (.inr (.inl ())))) 0).bind λ | .inl e2288=>some (.inl (IntKind.i64.wrap (d+1))) | .inr w=>some w))) else some (.inr (.inl ())))) 0).bind λ | .inl e1826=>some true | .inr w=>some w) | .inr w=>some w)))))))
def jT (r_:bM):Option ByteArray :=
 (((bif r_.wrapped then some (ByteArray.mk #[1]) else some (ByteArray.mk #[0])):Option ByteArray).bind λe5=>((iter (σ:=Int×ByteArray×Int) (ρ:=ByteArray) (λa=>(bif (decide (a.1 < (r_.l.length:Int))) then ((((idx r_.l a.1).bind λb=>(((bif (decide ((IntKind.i64.wrap (a.1+1)) < (r_.l.length:Int))) then ((idx r_.l (IntKind.i64.wrap (a.1+1))).bind λf=>some ((f.rune == b.rune) && ((f.bD == b.bD) && ((f.part == b.part) && true)))) else some false):Option Bool).bind λi=>(bif i then some (a.2.1,(IntKind.i64.wrap (a.2.2+1))) else ((bX (IntKind.i64.wrap (a.2.2+1))).bind λc=>((bX b.rune).bind λd=>((chk (kj c.size d.size)).bind λ_=>((bX b.bD).bind λe=>((chk (kj (c++d).size e.size)).bind λ_=>((bX b.part).bind λg=>((chk (kj ((c++d)++e).size g.size)).bind λ_=>((chk (kj a.2.1.size (((c++d)++e)++g).size)).bind λ_=>some ((a.2.1++(((c++d)++e)++g)),0)))))))))))):Option (ByteArray×Int)).bind λh=>some (.inl ((IntKind.i64.wrap (a.1+1)),h.1,h.2))) else some (.inr a.2.1))) (0,e5,0)).bind λj=>some j))
def iy (s_:bK):Option ByteArray :=
 ((((iG s_).bind λl=>(bif l then some true else ((jI s_).bind λm=>some (!m)))):Option Bool).bind λn=>(bif n then some (ByteArray.mk #[]) else ((iter (σ:=Int×ByteArray) (ρ:=ByteArray) (λa=>(bif (decide (a.1 < ([s_.k,s_.w,s_.h,s_.x,s_.y].length:Int))) then ((idx [s_.k,s_.w,s_.h,s_.x,s_.y] a.1).bind λo=>((bX o).bind λg=>((chk (kj a.2.size g.size)).bind λ_=>some (.inl ((IntKind.i64.wrap (a.1+1)),(a.2++g)))))) else some (.inr a.2))) (0,(ByteArray.mk #[]))).bind λi=>((lK s_.title).bind λc=>((bX s_.len).bind λd=>((chk (kj c.size d.size)).bind λ_=>((bX s_.chain).bind λe=>((chk (kj (c++d).size e.size)).bind λ_=>((lL s_.begun).bind λf=>((chk (kj ((c++d)++e).size f.size)).bind λ_=>((chk (kj i.size (((c++d)++e)++f).size)).bind λ_=>((iter (σ:=ByteArray×Int) (ρ:=ByteArray) (λb=>(bif (decide (b.2 < (s_.rows.length:Int))) then ((idx s_.rows b.2).bind λp=>((jT p).bind λj=>((chk (kj b.1.size j.size)).bind λ_=>some (.inl ((b.1++j),(IntKind.i64.wrap (b.2+1))))))) else some (.inr b.1))) ((i++(((c++d)++e)++f)),0)).bind λq=>some q))))))))))))
def l8 (s_:bK):Option Int :=
 ((iy s_).bind λr2=>((mZ r2).bind λr5=>some r5))
structure qS where
 bY:Int
 kind:Int
 bA:List Int
 data:ByteArray
 deriving DecidableEq,Inhabited
structure cR where
 key:Int
 has:List Bool
 parts:List ByteArray
 deriving DecidableEq,Inhabited
def l9 (s_:cR) (key:Int) (index:Int) (count:Int) (data:ByteArray):Option (cR×Int) :=
 (((bif (decide (count < 1)) then some true else (bif (decide (count > 4096)) then some true else (bif (decide (index < 0)) then some true else (bif (decide (index>=count)) then some true else some (decide (key < 1)))))):Option Bool).bind λa=>(bif a then some (s_,6) else (bif (decide (key < s_.key)) then some (s_,8) else ((chk (pO count 1)).bind λ_=>((chk (pO count 16)).bind λ_=>(((bif (key == s_.key) then (bif (count != (s_.has.length:Int)) then (kz (some (s_,1))) else some (.inl (cR.mk key (cpy (List.replicate count.toNat false) s_.has) (cpy (List.replicate count.toNat (ByteArray.mk #[])) s_.parts)))) else some (.inl (cR.mk key (List.replicate count.toNat false) (List.replicate count.toNat (ByteArray.mk #[]))))):Option (cR ⊕ (cR×Int))).bind λ | .inl e76=>((idx e76.has index).bind λb=>(((bif (!b) then ((idx e76.has index).bind λd=>((idx e76.parts index).bind λe=>some (cR.mk e76.key (e76.has.set index.toNat true) (e76.parts.set index.toNat data)))) else some e76):Option cR).bind λc=>some (c,0))) | .inr w=>some w))))))
def kT (s_:cR) (there:Bool):Option (List Int) :=
 ((iter (σ:=Int×(List Int)) (ρ:=(List Int)) (λa=>(bif (decide (a.1 < (s_.has.length:Int))) then ((((idx s_.has a.1).bind λb=>(bif (b == there) then ((chk (dK a.2.length [a.1].length 8)).bind λ_=>some (a.2++[a.1])) else some a.2)):Option (List Int)).bind λc=>some (.inl ((IntKind.i64.wrap (a.1+1)),c))) else some (.inr a.2))) (0,([]:List Int))).bind λd=>some d)
def ma (s_:cR):Option (ByteArray×Bool) :=
 ((iter (σ:=Int×ByteArray) (ρ:=ByteArray) (λa=>(bif (decide (a.1 < (s_.parts.length:Int))) then ((idx s_.parts a.1).bind λb=>((chk (kj a.2.size b.size)).bind λ_=>some (.inl ((IntKind.i64.wrap (a.1+1)),(a.2++b))))) else some (.inr a.2))) (0,(ByteArray.mk #[]))).bind λc=>(((bif (decide (s_.key > 0)) then ((kT s_ false).bind λe=>some (c,((e.length:Int) == 0))) else some (c,false)):Option (ByteArray×Bool)).bind λd=>some (d.1,d.2)))
def iz (a:bM) (b:bM):Option Bool :=
 (((bif (!(a.wrapped == b.wrapped)) then some true else some ((a.l.length:Int) != (b.l.length:Int))):Option Bool).bind λe6=>(bif e6 then some false else ((iter (σ:=Int) (ρ:=Unit ⊕ Bool) (λc=>(bif (decide (c < (a.l.length:Int))) then ((idx a.l c).bind λd=>((idx b.l c).bind λe=>(bif (!((d.rune == e.rune) && ((d.bD == e.bD) && ((d.part == e.part) && true)))) then (eT (some false)) else some (.inl (IntKind.i64.wrap (c+1)))))) else some (.inr (.inl ())))) 0).bind λ | .inl e364=>some true | .inr w=>some w)))
def kU (a:bK) (s_:ByteArray):Option (bK×Int) :=
 ((jI a).bind λr4=>(bif (!r4) then some ((bK.mk 0 0 0 0 0 (ByteArray.mk #[]) ([]:List bM) 0 0 ([]:List aU)),1) else ((bC (aX.mk s_ 0)).bind λu=>((bC u.1).bind λp=>((bC p.1).bind λi=>(((bif (i.1.e == 0) then some (decide (i.2 > 1000)) else some false):Option Bool).bind λz=>(bif z then some ((bK.mk 0 0 0 0 0 (ByteArray.mk #[]) ([]:List bM) 0 0 ([]:List aU)),1) else ((bC i.1).bind λj=>(((bif (j.1.e == 0) then some (decide (j.2 > 1000)) else some false):Option Bool).bind λm=>(bif m then some ((bK.mk 0 0 0 0 0 (ByteArray.mk #[]) ([]:List bM) 0 0 ([]:List aU)),1) else ((bC j.1).bind λq=>((bC q.1).bind λg=>((iw g.1).bind λr=>((bC r.1).bind λt=>((bC t.1).bind λl=>(((bif (l.1.e == 0) then ((kd l.1).bind λv=>some ((bK.mk p.2 i.2 j.2 q.2 g.2 r.2 ([]:List bM) t.2 l.2 v.2),v.1)) else some ((bK.mk p.2 i.2 j.2 q.2 g.2 r.2 ([]:List bM) t.2 l.2 ([]:List aU)),l.1)):Option (bK×aX)).bind λb=>((bC b.2).bind λn=>(bif (n.1.e != 0) then some ((bK.mk 0 0 0 0 0 (ByteArray.mk #[]) ([]:List bM) 0 0 ([]:List aU)),n.1.e) else ((chk (pO b.1.h 1)).bind λ_=>((chk (pO b.1.h 32)).bind λ_=>((iter (σ:=aX×(List Bool)×(List bM)×Int×Int) (ρ:=((List Bool)×(List bM)×aX) ⊕ (bK×Int)) (λd=>(bif (decide (d.2.2.2.2 < n.2)) then ((bC d.1).bind λf=>(((bif (f.1.e == 0) then (bif (decide (f.2<=d.2.2.2.1)) then some true else some (decide (f.2>=b.1.h))) else some false):Option Bool).bind λA=>(bif A then (eT (some ((bK.mk 0 0 0 0 0 (ByteArray.mk #[]) ([]:List bM) 0 0 ([]:List aU)),1))) else ((iN f.1 b.1.w).bind λo=>(bif (o.1.e != 0) then (eT (some ((bK.mk 0 0 0 0 0 (ByteArray.mk #[]) ([]:List bM) 0 0 ([]:List aU)),o.1.e))) else ((idx d.2.1 f.2).bind λP=>((idx d.2.2.1 f.2).bind λQ=>some (.inl (o.1,(d.2.1.set f.2.toNat true),(d.2.2.1.set f.2.toNat o.2),f.2,(IntKind.i64.wrap (d.2.2.2.2+1))))))))))) else some (.inr (.inl (d.2.1,d.2.2.1,d.1))))) (n.1,(List.replicate b.1.h.toNat false),(List.replicate b.1.h.toNat (bM.mk ([]:List cY) false)),(-1),0)).bind λ | .inl e369=>(bif (!(e369.2.2.s.toList == (ByteArray.mk #[]).toList)) then some ((bK.mk 0 0 0 0 0 (ByteArray.mk #[]) ([]:List bM) 0 0 ([]:List aU)),1) else ((l8 a).bind λB=>(bif (u.2 != B) then some ((bK.mk 0 0 0 0 0 (ByteArray.mk #[]) ([]:List bM) 0 0 ([]:List aU)),7) else ((iter (σ:=(List bM)×Int) (ρ:=(List bM) ⊕ (bK×Int)) (λc=>(bif (decide (c.2 < (e369.2.1.length:Int))) then ((((((idx e369.1 c.2).bind λC=>(bif (!C) then (bif (decide (c.2>=(a.rows.length:Int))) then some true else ((idx e369.1 c.2).bind λD=>(bif D then (bif (decide (c.2 < (a.rows.length:Int))) then ((idx c.1 c.2).bind λE=>((idx a.rows c.2).bind λF=>((iz E F).bind λG=>some G))) else some false) else some false))) else ((idx e369.1 c.2).bind λH=>(bif H then (bif (decide (c.2 < (a.rows.length:Int))) then ((idx c.1 c.2).bind λI=>((idx a.rows c.2).bind λJ=>((iz I J).bind λK=>some K))) else some false) else some false)))):Option Bool).bind λL=>(bif L then (kz (eT (some ((bK.mk 0 0 0 0 0 (ByteArray.mk #[]) ([]:List bM) 0 0 ([]:List aU)),1)))) else ((idx e369.1 c.2).bind λM=>(bif (!M) then ((idx a.rows c.2).bind λN=>((idx c.1 c.2).bind λR=>some (.inl (c.1.set c.2.toNat N)))) else some (.inl c.1))))):Option ((List bM) ⊕ (((List bM)×Int) ⊕ ((List bM) ⊕ (bK×Int))))).bind λ | .inl e4726=>some (.inl (e4726,(IntKind.i64.wrap (c.2+1)))) | .inr w=>some w) else some (.inr (.inl c.1)))) (e369.2.1,0)).bind λ | .inl e3950=>((iy (bK.mk b.1.k b.1.w b.1.h b.1.x b.1.y b.1.title e3950 b.1.len b.1.chain b.1.begun)).bind λO=>(bif (O.toList == (ByteArray.mk #[]).toList) then some ((bK.mk 0 0 0 0 0 (ByteArray.mk #[]) ([]:List bM) 0 0 ([]:List aU)),1) else some ((bK.mk b.1.k b.1.w b.1.h b.1.x b.1.y b.1.title e3950 b.1.len b.1.chain b.1.begun),0))) | .inr w=>some w)))) | .inr w=>some w)))))))))))))))))))))
structure fW where
 aO:bK
 slot:cR
 deriving DecidableEq,Inhabited
def nC (t_:fW) (g:qS):Option (fW×Int) :=
 (bif (g.kind != 1) then some (t_,5) else (bif ((g.bA.length:Int) != 5) then some (t_,1) else ((idx g.bA 1).bind λf=>(bif (decide (f<=t_.aO.k)) then some (t_,8) else ((((idx g.bA 2).bind λh=>(bif (h != 0) then ((idx g.bA 2).bind λi=>some (i != t_.aO.k)) else some false)):Option Bool).bind λj=>(bif j then some (t_,7) else ((((idx g.bA 0).bind λl=>((idx g.bA 3).bind λm=>((idx g.bA 4).bind λn=>((l9 t_.slot l m n g.data).bind λc=>some (c.1,c.2))))):Option (cR×Int)).bind λa=>(bif (a.2 != 0) then some (t_,a.2) else ((ma a.1).bind λd=>(bif (!d.2) then some ((fW.mk t_.aO a.1),0) else ((idx g.bA 2).bind λo=>(((bif (o != 0) then some t_.aO else some (bK.mk 0 0 0 0 0 (ByteArray.mk #[]) ([]:List bM) 0 0 ([]:List aU))):Option bK).bind λp=>((kU p d.1).bind λb=>(((bif (b.2 == 0) then ((idx g.bA 1).bind λq=>some (b.1.k != q)) else some false):Option Bool).bind λr=>(((bif r then some 1 else some b.2):Option Int).bind λe=>(bif (e != 0) then some ((fW.mk t_.aO (cR.mk 0 ([]:List Bool) ([]:List ByteArray))),e) else some ((fW.mk b.1 (cR.mk 0 ([]:List Bool) ([]:List ByteArray))),0)))))))))))))))))
structure eQ where
 cache:Int
 every:Int
 addr:Int
 deriving DecidableEq,Inhabited
def kV (x:eQ):Prop:=(inK .i64) x.cache/\(inK .i64) x.every/\(inK .i64) x.addr/\True
structure jJ where
 kind:Int
 later:Int
 from_:Int
 to:Int
 text:ByteArray
 deriving DecidableEq,Inhabited
def lM (x:jJ):Prop:=(inK .i64) x.kind/\(inK .i64) x.later/\(inK .i64) x.from_/\(inK .i64) x.to/\(λs:ByteArray=>s.size<=maxLen) x.text/\True
def iH:Option Bool :=
 ((gG (gF.mk 5 3 7)).bind λr1=>((cL r1 0).bind λb=>(bif ((b.1.length:Int) != 1) then some false else ((idx b.1 0).bind λe=>((fb e).bind λc=>((dD (aM.mk 3 4 [0,0] (ByteArray.mk #[]))).bind λf=>((cM b.2 0 f).bind λa=>(((bif (c.2 == 0) then (bif (c.1.kind == 2) then (bif (c.1.bY == 1) then (bif (a.1 == 0) then ((cS a.2).bind λg=>(bif (g == 3) then ((fP a.2).bind λh=>(bif (h == 7) then ((cN a.2 0 9).bind λd=>some ((d.1 == 5),d.2)) else some (false,a.2))) else some (false,a.2))) else some (false,a.2)) else some (false,a.2)) else some (false,a.2)) else some (false,a.2)):Option (Bool×aD)).bind λi=>some i.1))))))))
def iI (c:eQ):Option eQ :=
 (((bif (decide (c.cache > 12)) then some (eQ.mk 12 c.every c.addr) else some c):Option eQ).bind λe6=>some e6)
def gH (c:eQ) (acts:List jJ):Option Bool :=
 (Option.bind iH λr2=>(bif (!r2) then some false else ((iI c).bind λr7=>((gG (gF.mk r7.cache r7.every r7.addr)).bind λm=>((iter (σ:=aD×Int×Int) (ρ:=aD ⊕ Bool) (λb=>(((bif (decide (b.2.2 < (acts.length:Int))) then some (decide (b.2.2 < 25)) else some false):Option Bool).bind λn=>(bif n then ((idx acts b.2.2).bind λd=>(((bif (d.kind == 0) then ((fQ d.text 400).bind λo=>((cM b.1 (IntKind.i64.wrap (b.2.1+(Go.bits .and .i64 d.later 7))) o).bind λp=>some (.inl p.2))) else (bif (d.kind == 1) then ((cL b.1 (IntKind.i64.wrap (b.2.1+(Go.bits .and .i64 d.later 7)))).bind λg=>((iter (σ:=Int) (ρ:=Unit ⊕ (aD ⊕ ((aD×Int×Int) ⊕ (aD ⊕ Bool)))) (λh=>(bif (decide (h < (g.1.length:Int))) then ((idx g.1 h).bind λq=>((fb q).bind λa=>(((bif (a.2 != 0) then some true else ((cS g.2).bind λr=>(bif (a.1.bY != (imax 1 r)) then some true else (bif (a.1.kind != 2) then (bif (a.1.kind != 3) then some true else (bif (a.1.kind == 3) then (bif ((a.1.bA.length:Int) == 0) then some true else (bif (decide ((a.1.bA.length:Int) > 16)) then some true else some (((a.1.bA.length:Int).tmod 2) != 0))) else some false)) else (bif (a.1.kind == 3) then (bif ((a.1.bA.length:Int) == 0) then some true else (bif (decide ((a.1.bA.length:Int) > 16)) then some true else some (((a.1.bA.length:Int).tmod 2) != 0))) else some false))))):Option Bool).bind λs=>(bif s then (eT (kz (eT (some false)))) else some (.inl (IntKind.i64.wrap (h+1))))))) else some (.inr (.inl ())))) 0).bind λ | .inl e21118=>some (.inl g.2) | .inr w=>some w)) else ((cN b.1 d.from_ d.to).bind λt=>some (.inl t.2)))):Option (aD ⊕ ((aD×Int×Int) ⊕ (aD ⊕ Bool)))).bind λ | .inl e20501=>((eU e20501).bind λi=>((iter (σ:=Int×Int) (ρ:=Int) (λe=>(bif (decide (e.1 < (i.length:Int))) then ((idx i e.1).bind λj=>some (.inl ((IntKind.i64.wrap (e.1+1)),(IntKind.i64.wrap (e.2+(IntKind.i64.wrap (j.to - j.from_))))))) else some (.inr e.2))) (0,0)).bind λu=>((eO e20501).bind λk=>((iter (σ:=Int×Int) (ρ:=Int) (λf=>(bif (decide (f.2 < (k.length:Int))) then ((idx k f.2).bind λl=>some (.inl ((IntKind.i64.wrap (f.1+(IntKind.i64.wrap (l.to - l.from_)))),(IntKind.i64.wrap (f.2+1))))) else some (.inr f.1))) (0,0)).bind λv=>(((bif (decide (u > (imax 1 r7.cache))) then some true else some (decide (v > (imax 1 r7.cache)))):Option Bool).bind λx=>(bif x then (eT (some false)) else some (.inl (e20501,(IntKind.i64.wrap (b.2.1+(Go.bits .and .i64 d.later 7))),(IntKind.i64.wrap (b.2.2+1)))))))))) | .inr w=>some w)) else some (.inr (.inl b.1))))) (m,0,0)).bind λ | .inl e16140=>some true | .inr w=>some w)))))
end Go.Tw.X
end

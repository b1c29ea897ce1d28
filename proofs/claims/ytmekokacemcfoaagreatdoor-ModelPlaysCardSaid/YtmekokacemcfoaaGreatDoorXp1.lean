import Derived.Test.YtmekokacemcfoaaGreatDoorFw2
set_option linter.unusedVariables false
set_option linter.unusedSimpArgs false
set_option maxRecDepth 10000
namespace Go.Tw.X
open Go Go.Tw
structure fj where
 b:List Int
 deriving DecidableEq,Inhabited
structure p7 where
 s:ByteArray
 e:Int
 deriving DecidableEq,Inhabited
noncomputable def my (n_:Int):Option Int :=
 some n_
noncomputable def oe (n_:Int):Option Int :=
 some (imax 0 (dF n_ 4611686018427387904))
noncomputable def jE {σ:Type} (Y:σ→Int→Option (σ×Bool)) (y0:σ) (x1:Int):Option (σ×Int) :=
 (Option.bind (oe x1) fun r1=>(Option.bind (iter (σ:=Int×σ) (ρ:=(Int×σ) ⊕ (σ×Int)) (fun a=>(bif (decide (a.1≥128)) then (Option.bind (Y a.2 (Go.bits .or .u8 (Go.bits .and .u8 (IntKind.u8.wrap a.1) 127) 128)) fun z68=>(bif (!z68.2) then (lT (some (z68.1,a.1))) else some (.inl ((a.1.fdiv (2 ^ (min 7 64))),z68.1)))) else some (.inr (.inl (a.1,a.2))))) (r1,y0)) fun | .inl e53=>(Option.bind (Y e53.2 (IntKind.u8.wrap e53.1)) fun z75=>some (z75.1,e53.1)) | .inr w=>some w))
noncomputable def jq (o:fj) (l:List Int):Option fj :=
 (Option.bind (iter (σ:=fj×Int) (ρ:=fj) (fun a=>(bif (decide (a.2 < (l.length:Int))) then (Option.bind (idx l a.2) fun e=>(Option.bind (my e) fun f=>(Option.bind (jE (fun c d=>(Option.bind (chk (dC c.b.length [d].length 1)) fun _=>some ((fj.mk (c.b++[d])),true))) (a.1:fj) f) fun g=>some (.inl (g.1,(IntKind.i64.wrap (a.2+1))))))) else some (.inr a.1))) (o,0)) fun h=>some h)
noncomputable def kB (o:fj):Option ByteArray :=
 some (gS o.b)
end Go.Tw.X
set_option linter.unusedVariables false
set_option linter.unusedSimpArgs false
set_option maxRecDepth 10000
namespace Go.Tw.X
open Go Go.Tw
structure bM where
 lead:Int
 rune:Int
 gg:Int
 deriving DecidableEq,Inhabited
structure iN where
 first:Int
 last:Int
 gg:Int
 low:Int
 high:Int
 deriving DecidableEq,Inhabited
def bT:List iN:=[⟨194,223,1,128,191⟩,⟨224,224,2,160,191⟩,⟨225,236,2,128,191⟩,⟨237,237,2,128,159⟩,⟨238,239,2,128,191⟩,⟨240,240,3,144,191⟩,⟨241,243,3,128,191⟩,⟨244,244,3,128,143⟩]
noncomputable def jF (l:List Int):Option ByteArray :=
 (Option.bind (iter (σ:=(List Int)×Int) (ρ:=(List Int)) (fun b=>(bif (decide (b.2 < (l.length:Int))) then (Option.bind ((Option.bind (idx l b.2) fun c=>(Option.bind ((bif (decide (c < 0)) then some true else (bif (decide (c > 1114111)) then some true else (bif (decide (c≥55296)) then some (decide (c≤57343)) else some false))):Option Bool) fun d=>(Option.bind ((bif d then some 65533 else some c):Option Int) fun a=>(bif (decide (a < 128)) then (Option.bind (chk (dC b.1.length [(IntKind.u8.wrap a)].length 1)) fun _=>some (b.1++[(IntKind.u8.wrap a)])) else (bif (decide (a < 2048)) then (Option.bind (chk (dC b.1.length [(IntKind.u8.wrap (Go.bits .or .i32 192 (a.fdiv (2 ^ (min 6 32))))),(IntKind.u8.wrap (Go.bits .or .i32 128 (Go.bits .and .i32 a 63)))].length 1)) fun _=>some (b.1++[(IntKind.u8.wrap (Go.bits .or .i32 192 (a.fdiv (2 ^ (min 6 32))))),(IntKind.u8.wrap (Go.bits .or .i32 128 (Go.bits .and .i32 a 63)))])) else (bif (decide (a < 65536)) then (Option.bind (chk (dC b.1.length [(IntKind.u8.wrap (Go.bits .or .i32 224 (a.fdiv (2 ^ (min 12 32))))),(IntKind.u8.wrap (Go.bits .or .i32 128 (Go.bits .and .i32 (a.fdiv (2 ^ (min 6 32))) 63))),(IntKind.u8.wrap (Go.bits .or .i32 128 (Go.bits .and .i32 a 63)))].length 1)) fun _=>some (b.1++[(IntKind.u8.wrap (Go.bits .or .i32 224 (a.fdiv (2 ^ (min 12 32))))),(IntKind.u8.wrap (Go.bits .or .i32 128 (Go.bits .and .i32 (a.fdiv (2 ^ (min 6 32))) 63))),(IntKind.u8.wrap (Go.bits .or .i32 128 (Go.bits .and .i32 a 63)))])) else (Option.bind (chk (dC b.1.length [(IntKind.u8.wrap (Go.bits .or .i32 240 (a.fdiv (2 ^ (min 18 32))))),(IntKind.u8.wrap (Go.bits .or .i32 128 (Go.bits .and .i32 (a.fdiv (2 ^ (min 12 32))) 63))),(IntKind.u8.wrap (Go.bits .or .i32 128 (Go.bits .and .i32 (a.fdiv (2 ^ (min 6 32))) 63))),(IntKind.u8.wrap (Go.bits .or .i32 128 (Go.bits .and .i32 a 63)))].length 1)) fun _=>some (b.1++[(IntKind.u8.wrap (Go.bits .or .i32 240 (a.fdiv (2 ^ (min 18 32))))),(IntKind.u8.wrap (Go.bits .or .i32 128 (Go.bits .and .i32 (a.fdiv (2 ^ (min 12 32))) 63))),(IntKind.u8.wrap (Go.bits .or .i32 128 (Go.bits .and .i32 (a.fdiv (2 ^ (min 6 32))) 63))),(IntKind.u8.wrap (Go.bits .or .i32 128 (Go.bits .and .i32 a 63)))])))))))):Option (List Int)) fun e=>some (.inl (e,(IntKind.i64.wrap (b.2+1))))) else some (.inr b.1))) ([],0)) fun f=>some (gS f))
noncomputable def gy (d:bM):Option (List Int) :=
 (bif (decide (d.gg≤0)) then some ([]:List Int) else some [65533])
noncomputable def jZ (b:Int):Option (iN×Bool) :=
 (Option.bind (iter (σ:=Int) (ρ:=Unit ⊕ (iN×Bool)) (fun a=>(bif (decide (a < 8)) then (Option.bind (idx bT a) fun c=>(Option.bind ((bif (decide (b≥c.first)) then some (decide (b≤c.last)) else some false):Option Bool) fun d=>(bif d then (lT (some (c,true))) else some (.inl (IntKind.i64.wrap (a+1)))))) else some (.inr (.inl ())))) 0) fun | .inl e84=>some ((iN.mk 0 0 0 0 0),false) | .inr w=>some w)
noncomputable def jr (b:Int):Option (bM×(List Int)) :=
 (bif (decide (b < 128)) then some ((bM.mk 0 0 0),[(IntKind.i32.wrap b)]) else (Option.bind (jZ b) fun r8=>(bif (!r8.2) then some ((bM.mk 0 0 0),[65533]) else (Option.bind (chk (shk r8.1.gg)) fun _=>some ((bM.mk b (Go.bits .and .i32 (IntKind.i32.wrap b) ((63:Int).fdiv (2 ^ (min r8.1.gg.toNat 32)))) r8.1.gg),([]:List Int))))))
noncomputable def fS (d:bM) (b:Int):Option Bool :=
 (Option.bind (jZ d.lead) fun r2=>(bif (decide (d.gg < r2.1.gg)) then (Option.bind ((bif (decide (b≥128)) then some (decide (b≤191)) else some false):Option Bool) fun a=>some a) else (Option.bind ((bif (decide (b≥r2.1.low)) then some (decide (b≤r2.1.high)) else some false):Option Bool) fun c=>some c)))
noncomputable def fT (d:bM) (b:Int):Option (bM×(List Int)) :=
 (bif (decide (d.gg≤0)) then (Option.bind (jr b) fun c=>some (c.1,c.2)) else (Option.bind (fS d b) fun e=>(bif (!e) then (Option.bind (jr b) fun a=>(Option.bind (chk (dC [65533].length a.2.length 4)) fun _=>some (a.1,([65533]++a.2)))) else (bif ((IntKind.i64.wrap (d.gg - 1)) == 0) then (Option.bind (some [(Go.bits .or .i32 (IntKind.i32.wrap (d.rune*2 ^ (min 6 32))) (Go.bits .and .i32 (IntKind.i32.wrap b) 63))]:Option (List Int)) fun f=>some ((bM.mk 0 0 0),f)) else some ((bM.mk d.lead (Go.bits .or .i32 (IntKind.i32.wrap (d.rune*2 ^ (min 6 32))) (Go.bits .and .i32 (IntKind.i32.wrap b) 63)) (IntKind.i64.wrap (d.gg - 1))),([]:List Int))))))
end Go.Tw.X
set_option linter.unusedVariables false
set_option linter.unusedSimpArgs false
set_option maxRecDepth 10000
namespace Go.Tw.X
open Go Go.Tw
structure bH where
 e0:Int
 e1:Int
 deriving DecidableEq,Inhabited
noncomputable def mz (x_:Int) (y:Int):Option (Int×Int) :=
 some ((IntKind.u64.wrap ((IntKind.u64.wrap ((IntKind.u64.wrap ((x_.fdiv (2 ^ (min 32 64)))*(y.fdiv (2 ^ (min 32 64)))))+((IntKind.u64.wrap ((IntKind.u64.wrap ((x_.fdiv (2 ^ (min 32 64)))*(Go.bits .and .u64 y 4294967295)))+((IntKind.u64.wrap ((Go.bits .and .u64 x_ 4294967295)*(Go.bits .and .u64 y 4294967295))).fdiv (2 ^ (min 32 64))))).fdiv (2 ^ (min 32 64)))))+((IntKind.u64.wrap ((Go.bits .and .u64 (IntKind.u64.wrap ((IntKind.u64.wrap ((x_.fdiv (2 ^ (min 32 64)))*(Go.bits .and .u64 y 4294967295)))+((IntKind.u64.wrap ((Go.bits .and .u64 x_ 4294967295)*(Go.bits .and .u64 y 4294967295))).fdiv (2 ^ (min 32 64))))) 4294967295)+(IntKind.u64.wrap ((Go.bits .and .u64 x_ 4294967295)*(y.fdiv (2 ^ (min 32 64))))))).fdiv (2 ^ (min 32 64))))),(IntKind.u64.wrap (x_*y)))
noncomputable def mP (x_:Int) (y:Int):Option (Int×Int) :=
 (Option.bind (mz x_ y) fun r1=>some (r1.1,r1.2))
noncomputable def eX (s_:ByteArray) (prefix_:ByteArray):Option Bool :=
 (Option.bind ((bif (decide ((s_.size:Int)≥(prefix_.size:Int))) then (Option.bind (chk (cX 0 (prefix_.size:Int) s_.size)) fun _=>some ((lF s_ 0 (prefix_.size:Int)).toList == prefix_.toList)) else some false):Option Bool) fun e8=>some e8)
noncomputable def gj (s_:ByteArray) (prefix_:ByteArray):Option (ByteArray×Bool) :=
 (Option.bind (eX s_ prefix_) fun r1=>(bif (!r1) then some (s_,false) else (Option.bind (chk (cX (prefix_.size:Int) (s_.size:Int) s_.size)) fun _=>some ((lF s_ (prefix_.size:Int) (s_.size:Int)),true))))
noncomputable def gA (s_:ByteArray) (prefix_:ByteArray):Option (ByteArray×Bool) :=
 (Option.bind (gj s_ prefix_) fun r1=>some (r1.1,r1.2))
end Go.Tw.X
set_option linter.unusedVariables false
set_option linter.unusedSimpArgs false
set_option maxRecDepth 10000
namespace Go.Tw.X
open Go Go.Tw
structure fU where
 from_:Int
 to:Int
 deriving DecidableEq,Inhabited
def cJ:List fU:=[⟨(-2147483648),31⟩,⟨127,159⟩,⟨768,879⟩,⟨6832,6911⟩,⟨7616,7679⟩,⟨8203,8207⟩,⟨8400,8447⟩,⟨55296,57343⟩,⟨65024,65039⟩,⟨65056,65071⟩,⟨65279,65279⟩,⟨917760,917999⟩,⟨1114112,2147483647⟩]
def cT:List fU:=[⟨4352,4447⟩,⟨11904,12350⟩,⟨12353,13311⟩,⟨13312,19903⟩,⟨19968,40959⟩,⟨40960,42191⟩,⟨44032,55203⟩,⟨63744,64255⟩,⟨65072,65135⟩,⟨65280,65376⟩,⟨65504,65510⟩,⟨127744,128591⟩,⟨129280,129535⟩,⟨131072,262141⟩]
noncomputable def mJ (l:List fU) (r_:Int):Option Bool :=
 (Option.bind (iter (σ:=Int×Int) (ρ:=Int) (fun a=>(bif (decide (a.1 < a.2)) then (Option.bind (idx l (IntKind.i64.wrap ((IntKind.i64.wrap (a.1+a.2)).tdiv 2))) fun c=>(bif (decide (c.to < r_)) then some (.inl ((IntKind.i64.wrap ((IntKind.i64.wrap ((IntKind.i64.wrap (a.1+a.2)).tdiv 2))+1)),a.2)) else some (.inl (a.1,(IntKind.i64.wrap ((IntKind.i64.wrap (a.1+a.2)).tdiv 2)))))) else some (.inr a.1))) (0,(l.length:Int))) fun b=>(Option.bind ((bif (decide (b < (l.length:Int))) then (Option.bind (idx l b) fun d=>some (decide (d.from_≤r_))) else some false):Option Bool) fun e=>some e))
noncomputable def mK (r_:Int):Option Int :=
 (Option.bind (mJ cJ r_) fun r9=>(bif r9 then some 0 else (Option.bind (mJ cT r_) fun a=>(bif a then some 2 else some 1))))
end Go.Tw.X
set_option linter.unusedVariables false
set_option linter.unusedSimpArgs false
set_option maxRecDepth 10000
namespace Go.Tw.X
open Go Go.Tw
structure aI where
 rune:Int
 aL:Int
 part:Int
 deriving DecidableEq,Inhabited
structure aE where
 cells:List aI
 wrapped:Bool
 deriving DecidableEq,Inhabited
structure aH where
 rune:Int
 aL:Int
 deriving DecidableEq,Inhabited
noncomputable def iG (n_:Int) (lo:Int) (hi:Int):Option Int :=
 some (imax lo (dF n_ hi))
noncomputable def fV (aL:Int):Option aI :=
 some (aI.mk 32 aL 0)
noncomputable def eO (x_:List aI) (count:Int):Option (List aI) :=
 (bif (decide (count < 0)) then none else (Option.bind (mP (IntKind.u64.wrap (x_.length:Int)) (IntKind.u64.wrap count)) fun r3=>(Option.bind ((bif (decide (r3.1 > 0)) then some true else some (decide (r3.2 > 9223372036854775807))):Option Bool) fun e9=>(bif e9 then none else (Option.bind (chk (FT (IntKind.i64.wrap r3.2) 24)) fun _=>(Option.bind (iter (σ:=(List aI)×Int) (ρ:=(List aI)) (fun a=>(bif (decide (a.2 < (a.1.length:Int))) then (Option.bind (chk (cX a.2 (a.1.length:Int) a.1.length)) fun _=>(Option.bind (chk (cX 0 a.2 a.1.length)) fun _=>some (.inl ((uO a.1 a.2.toNat),(IntKind.i64.wrap (a.2+((Nat.min a.2.toNat (a.1.length - a.2.toNat):Nat):Int))))))) else some (.inr a.1))) ((cpy (List.replicate (IntKind.i64.wrap r3.2).toNat (aI.mk 0 0 0)) x_),((Nat.min x_.length (List.replicate (IntKind.i64.wrap r3.2).toNat (aI.mk 0 0 0)).length:Nat):Int))) fun b=>some b))))))
noncomputable def ie (n_:Int) (aL:Int):Option (List aI) :=
 (Option.bind (fV aL) fun r1=>(Option.bind (eO [r1] (imax 0 n_)) fun r7=>some r7))
noncomputable def ig (w:Int) (aL:Int):Option aE :=
 (Option.bind (iG w 0 1000) fun r2=>(Option.bind (ie r2 aL) fun r5=>some (aE.mk r5 false)))
noncomputable def ey (s_:List aI):Option (List aI) :=
 (Option.bind (chk (dC ([]:List aI).length s_.length 24)) fun _=>some (([]:List aI)++s_))
noncomputable def eE (r_:aE):Option (List aI) :=
 (Option.bind (ey r_.cells) fun r2=>some r2)
noncomputable def ka (l:List aI) (i:Int):Option Bool :=
 (Option.bind (idx l i) fun x1=>(bif (x1.part == 1) then (Option.bind ((bif (decide ((IntKind.i64.wrap (i+1))≥(l.length:Int))) then some true else (Option.bind (idx l (IntKind.i64.wrap (i+1))) fun a=>some (a.part != 2))):Option Bool) fun b=>some b) else (bif (x1.part == 2) then (Option.bind ((bif (i == 0) then some true else (Option.bind (idx l (IntKind.i64.wrap (i - 1))) fun c=>some (c.part != 1))):Option Bool) fun d=>some d) else (bif (x1.part == 3) then some (i != (IntKind.i64.wrap ((l.length:Int) - 1))) else some false))))
noncomputable def eC (l:List aI):Option aE :=
 (Option.bind (iter (σ:=(List aI)×Int) (ρ:=(List aI)) (fun a=>(bif (decide (a.2 < (l.length:Int))) then (Option.bind ((Option.bind (ka a.1 a.2) fun b=>(bif b then (Option.bind (idx a.1 a.2) fun c=>(Option.bind (fV c.aL) fun d=>(Option.bind (idx a.1 a.2) fun g=>some (a.1.set a.2.toNat d)))) else some a.1)):Option (List aI)) fun e=>some (.inl (e,(IntKind.i64.wrap (a.2+1))))) else some (.inr a.1))) (l,0)) fun f=>some (aE.mk f false))
noncomputable def kj (r_:aE) (at_:Int) (x_:Int) (aL:Int):Option aE :=
 (Option.bind (eE r_) fun r3=>(Option.bind (mK x_) fun r9=>(Option.bind ((Option.bind ((bif (r9 == 0) then some true else (bif (decide (at_ < 0)) then some true else some (decide (at_ > (IntKind.i64.wrap ((r3.length:Int) - r9)))))):Option Bool) fun a=>(bif a then some r3 else (bif (r9 == 1) then (Option.bind (idx r3 at_) fun h=>some (r3.set at_.toNat (aI.mk x_ aL 0))) else (Option.bind (idx r3 at_) fun i=>(Option.bind (idx (r3.set at_.toNat (aI.mk x_ aL 1)) (IntKind.i64.wrap (at_+1))) fun j=>(Option.bind ((bif (decide (at_ > 0)) then (Option.bind (idx ((r3.set at_.toNat (aI.mk x_ aL 1)).set ((IntKind.i64.wrap (at_+1)).toNat) (aI.mk x_ aL 2)) (IntKind.i64.wrap (at_ - 1))) fun b=>some (b.part == 1)) else some false):Option Bool) fun c=>(bif c then (Option.bind (idx ((r3.set at_.toNat (aI.mk x_ aL 1)).set ((IntKind.i64.wrap (at_+1)).toNat) (aI.mk x_ aL 2)) (IntKind.i64.wrap (at_ - 1))) fun d=>(Option.bind (fV d.aL) fun e=>(Option.bind (idx ((r3.set at_.toNat (aI.mk x_ aL 1)).set ((IntKind.i64.wrap (at_+1)).toNat) (aI.mk x_ aL 2)) (IntKind.i64.wrap (at_ - 1))) fun k=>some (((r3.set at_.toNat (aI.mk x_ aL 1)).set ((IntKind.i64.wrap (at_+1)).toNat) (aI.mk x_ aL 2)).set ((IntKind.i64.wrap (at_ - 1)).toNat) e)))) else some ((r3.set at_.toNat (aI.mk x_ aL 1)).set ((IntKind.i64.wrap (at_+1)).toNat) (aI.mk x_ aL 2))))))))):Option (List aI)) fun f=>(Option.bind (eC f) fun g=>some g))))
noncomputable def fK (r_:aE):Option (List aH) :=
 (Option.bind (iter (σ:=(List aI)) (ρ:=(List aI)) (fun a=>(Option.bind ((bif (!r_.wrapped) then (bif (decide ((a.length:Int) > 0)) then (Option.bind (idx a (IntKind.i64.wrap ((a.length:Int) - 1))) fun d=>(Option.bind (fV 0) fun e=>some ((d.rune == e.rune) && ((d.aL == e.aL) && ((d.part == e.part) && true))))) else some false) else some false):Option Bool) fun g=>(bif g then (Option.bind (chk (cX 0 (IntKind.i64.wrap ((a.length:Int) - 1)) a.length)) fun _=>some (.inl (cut a 0 (IntKind.i64.wrap ((a.length:Int) - 1))))) else some (.inr a)))) r_.cells) fun f=>(Option.bind (iter (σ:=Int×(List aH)) (ρ:=(List aH)) (fun b=>(bif (decide (b.1 < (f.length:Int))) then (Option.bind ((Option.bind (idx f b.1) fun c=>(Option.bind ((bif (c.part == 0) then some true else some (c.part == 1)):Option Bool) fun h=>(bif h then (Option.bind (chk (dC b.2.length [(aH.mk c.rune c.aL)].length 16)) fun _=>some (b.2++[(aH.mk c.rune c.aL)])) else some b.2))):Option (List aH)) fun i=>some (.inl ((IntKind.i64.wrap (b.1+1)),i))) else some (.inr b.2))) (0,[])) fun j=>some j))
noncomputable def hP (r_:aE) (from_:Int) (to:Int) (aL:Int):Option aE :=
 (Option.bind (eE r_) fun r3=>(Option.bind (iG from_ 0 (r3.length:Int)) fun r9=>(Option.bind (iter (σ:=Int×(List aI)) (ρ:=(List aI)) (fun a=>(Option.bind (iG to 0 (a.2.length:Int)) fun b=>(bif (decide (a.1 < b)) then (Option.bind (fV aL) fun c=>(Option.bind (idx a.2 a.1) fun f=>some (.inl ((IntKind.i64.wrap (a.1+1)),(a.2.set a.1.toNat c))))) else some (.inr a.2)))) (r9,r3)) fun d=>(Option.bind (eC d) fun e=>some e))))
noncomputable def gK (r_:aE) (at_:Int) (n_:Int):Option Int :=
 (Option.bind ((bif (decide (at_ < 0)) then some true else some (decide (at_≥(r_.cells.length:Int)))):Option Bool) fun e5=>(bif e5 then some 0 else (Option.bind (iG n_ 0 (IntKind.i64.wrap ((r_.cells.length:Int) - at_))) fun a=>some a)))
noncomputable def fp (n_:Int):Option (List aI) :=
 (bif (decide (n_ < 0)) then none else (Option.bind ((bif (decide ((IntKind.i64.wrap (n_ - (IntKind.i64.wrap (0 - 0)))) > 0)) then (Option.bind (chk (FU (IntKind.i64.wrap (n_ - (IntKind.i64.wrap (0 - 0)))) 24)) fun _=>(Option.bind (chk (cX 0 0 (List.replicate (IntKind.i64.wrap (n_ - (IntKind.i64.wrap (0 - 0)))).toNat (aI.mk 0 0 0)).length)) fun _=>some (cut (List.replicate (IntKind.i64.wrap (n_ - (IntKind.i64.wrap (0 - 0)))).toNat (aI.mk 0 0 0)) 0 0))) else some []):Option (List aI)) fun a=>some a))
noncomputable def eg (slices:List (List aI)):Option (List aI) :=
 (Option.bind (iter (σ:=Int×Int) (ρ:=Int) (fun a=>(bif (decide (a.1 < (slices.length:Int))) then (Option.bind (idx slices a.1) fun c=>(bif (decide ((IntKind.i64.wrap (a.2+(c.length:Int))) < 0)) then none else some (.inl ((IntKind.i64.wrap (a.1+1)),(IntKind.i64.wrap (a.2+(c.length:Int))))))) else some (.inr a.2))) (0,0)) fun e=>(Option.bind (fp e) fun f=>(Option.bind (iter (σ:=Int×(List aI)) (ρ:=(List aI)) (fun b=>(bif (decide (b.1 < (slices.length:Int))) then (Option.bind (idx slices b.1) fun d=>(Option.bind (chk (dC b.2.length d.length 24)) fun _=>some (.inl ((IntKind.i64.wrap (b.1+1)),(b.2++d))))) else some (.inr b.2))) (0,f)) fun g=>some g)))
noncomputable def iO (r_:aE) (at_:Int) (n_:Int) (aL:Int):Option aE :=
 (Option.bind (gK r_ at_ n_) fun r3=>(bif (r3 == 0) then (Option.bind (eE r_) fun b=>(Option.bind (eC b) fun c=>some c)) else (Option.bind (chk (cX 0 at_ r_.cells.length)) fun _=>(Option.bind (chk (cX at_ (r_.cells.length:Int) r_.cells.length)) fun _=>(Option.bind (ie r3 aL) fun d=>(Option.bind (eg [(cut r_.cells 0 at_),d,(cut r_.cells at_ (r_.cells.length:Int))]) fun a=>(Option.bind (chk (cX 0 (r_.cells.length:Int) a.length)) fun _=>(Option.bind (eC (cut a 0 (r_.cells.length:Int))) fun e=>some e))))))))
noncomputable def iP (r_:aE) (at_:Int) (n_:Int) (aL:Int):Option aE :=
 (Option.bind (gK r_ at_ n_) fun r3=>(bif (r3 == 0) then (Option.bind (eE r_) fun a=>(Option.bind (eC a) fun b=>some b)) else (Option.bind (chk (cX 0 at_ r_.cells.length)) fun _=>(Option.bind (chk (cX (IntKind.i64.wrap (at_+r3)) (r_.cells.length:Int) r_.cells.length)) fun _=>(Option.bind (ie r3 aL) fun c=>(Option.bind (eg [(cut r_.cells 0 at_),(cut r_.cells (IntKind.i64.wrap (at_+r3)) (r_.cells.length:Int)),c]) fun d=>(Option.bind (eC d) fun e=>some e)))))))
noncomputable def jG (r_:aE) (aL:Int):Option aE :=
 (Option.bind (eE r_) fun r3=>(Option.bind ((bif (decide ((r3.length:Int) > 0)) then (Option.bind (idx r3 (IntKind.i64.wrap ((r3.length:Int) - 1))) fun c=>some (r3.set ((IntKind.i64.wrap ((r3.length:Int) - 1)).toNat) (aI.mk 32 aL 3))) else some r3):Option (List aI)) fun a=>(Option.bind (eC a) fun b=>some (aE.mk b.cells true))))
noncomputable def gL (r_:aE) (w:Int):Option aE :=
 (Option.bind (iG w 0 1000) fun r3=>(Option.bind (eE r_) fun r6=>(bif (r3 == (r6.length:Int)) then some (aE.mk r6 r_.wrapped) else (Option.bind (ie (IntKind.i64.wrap (r3 - (r6.length:Int))) 0) fun a=>(Option.bind (chk (cX 0 (dF r3 (r6.length:Int)) r6.length)) fun _=>(Option.bind (chk (dC (cut r6 0 (dF r3 (r6.length:Int))).length a.length 24)) fun _=>(Option.bind (eC ((cut r6 0 (dF r3 (r6.length:Int)))++a)) fun b=>some b)))))))
noncomputable def dJ (s_:List aE):Option (List aE) :=
 (Option.bind (chk (dC ([]:List aE).length s_.length 32)) fun _=>some (([]:List aE)++s_))
noncomputable def eP (s_:List aE):Option (List aE) :=
 (Option.bind (iter (σ:=(List aE)×Int×Int) (ρ:=(List aE)) (fun a=>(bif (decide (a.2.1 < a.2.2)) then (Option.bind ((Option.bind (idx a.1 a.2.2) fun b=>(Option.bind (idx a.1 a.2.1) fun c=>(Option.bind (idx a.1 a.2.1) fun f=>(Option.bind (idx a.1 a.2.2) fun g=>some ((a.1.set a.2.1.toNat b).set a.2.2.toNat c))))):Option (List aE)) fun d=>some (.inl (d,(IntKind.i64.wrap (a.2.1+1)),(IntKind.i64.wrap (a.2.2 - 1))))) else some (.inr a.1))) (s_,0,(IntKind.i64.wrap ((s_.length:Int) - 1)))) fun e=>some e)
noncomputable def cE (s_:List aH):Option (List aH) :=
 (Option.bind (chk (dC ([]:List aH).length s_.length 16)) fun _=>some (([]:List aH)++s_))
end Go.Tw.X
set_option linter.unusedVariables false
set_option linter.unusedSimpArgs false
set_option maxRecDepth 10000
namespace Go.Tw.X
open Go Go.Tw
def eD:List Int:=[0,498536548,997073096,651767980,1994146192,1802195444,1303535960,1342533948,3988292384,4027552580,3604390888,3412177804,2607071920,2262029012,2685067896,3183342108]
noncomputable def lG (x_:Int) (b:Int):Option Int :=
 (Option.bind (idx eD (Go.bits .and .u32 (Go.bits .xor .u32 x_ (IntKind.u32.wrap b)) 15)) fun x1=>(Option.bind (idx eD (Go.bits .and .u32 (Go.bits .xor .u32 ((Go.bits .xor .u32 x_ (IntKind.u32.wrap b)).fdiv (2 ^ (min 4 32))) x1) 15)) fun x5=>some (Go.bits .xor .u32 ((Go.bits .xor .u32 ((Go.bits .xor .u32 x_ (IntKind.u32.wrap b)).fdiv (2 ^ (min 4 32))) x1).fdiv (2 ^ (min 4 32))) x5)))
noncomputable def oT (l:List ByteArray):Option Int :=
 (Option.bind (iter (σ:=Int×Int) (ρ:=Int) (fun a=>(bif (decide (a.2 < (l.length:Int))) then (Option.bind (idx l a.2) fun c=>(Option.bind (iter (σ:=Int×Int) (ρ:=Int) (fun b=>(bif (decide (b.1 < (c.size:Int))) then (Option.bind (jY c b.1) fun b642=>(Option.bind (lG b.2 b642) fun d=>some (.inl ((IntKind.i64.wrap (b.1+1)),d)))) else some (.inr b.2))) (0,a.1)) fun e=>some (.inl (e,(IntKind.i64.wrap (a.2+1)))))) else some (.inr a.1))) (4294967295,0)) fun f=>some (Go.bits .xor .u32 4294967295 f))
end Go.Tw.X
set_option linter.unusedVariables false
set_option linter.unusedSimpArgs false
set_option maxRecDepth 10000
namespace Go.Tw.X
open Go Go.Tw
structure bZ where
 l:List (List aH)
 bL:List Int
 begun:List aH
 deriving DecidableEq,Inhabited
noncomputable def og:Option bZ :=
 some (bZ.mk ([]:List (List aH)) [0] ([]:List aH))
noncomputable def fz (b:bZ):Option Int :=
 some (b.l.length:Int)
noncomputable def ij (b:bZ) (n_:Int):Option Int :=
 (Option.bind (idx b.bL (imax 0 (dF n_ (b.l.length:Int)))) fun a=>some a)
noncomputable def ik (b:bZ):Option (List aH) :=
 (Option.bind (cE b.begun) fun r1=>some r1)
noncomputable def lU (l:List aH):Option ByteArray :=
 (Option.bind (jq (fj.mk ([]:List Int)) [(l.length:Int)]) fun r6=>(Option.bind (iter (σ:=fj×Int) (ρ:=fj) (fun a=>(bif (decide (a.2 < (l.length:Int))) then (Option.bind (idx l a.2) fun b=>(Option.bind (jq a.1 [(IntKind.i64.wrap b.rune),b.aL]) fun c=>some (.inl (c,(IntKind.i64.wrap (a.2+1)))))) else some (.inr a.1))) (r6,0)) fun d=>(Option.bind (kB d) fun e=>some e)))
noncomputable def lV (chain:Int) (l:List aH):Option Int :=
 (Option.bind (lU l) fun r1=>(Option.bind (oT [r1]) fun r6=>some ((IntKind.i64.wrap (((IntKind.i64.wrap (((IntKind.i64.wrap (chain*256)).tmod 281474976710597)*256)).tmod 281474976710597)+(IntKind.i64.wrap r6))).tmod 281474976710597)))
noncomputable def eJ (b:bZ) (l:List aH):Option bZ :=
 (Option.bind (cE l) fun a=>(Option.bind (chk (dC b.l.length [a].length 24)) fun _=>(Option.bind (idx b.bL (IntKind.i64.wrap ((b.bL.length:Int) - 1))) fun d=>(Option.bind (lV d l) fun c=>(Option.bind (chk (dC b.bL.length [c].length 8)) fun _=>some (bZ.mk (b.l++[a]) (b.bL++[c]) b.begun))))))
noncomputable def gx (b:bZ) (rows:List aE):Option (Int×bZ) :=
 (Option.bind (iter (σ:=bZ×Int) (ρ:=bZ) (fun a=>(bif (decide (a.2 < (rows.length:Int))) then (Option.bind ((Option.bind (idx rows a.2) fun f=>(Option.bind (fK f) fun g=>(Option.bind (chk (dC a.1.begun.length g.length 16)) fun _=>(Option.bind (iter (σ:=bZ) (ρ:=bZ) (fun d=>(bif (decide ((d.begun.length:Int)≥1024)) then (Option.bind (chk (cX 0 1024 d.begun.length)) fun _=>(Option.bind (eJ d (cut d.begun 0 1024)) fun c=>(Option.bind (chk (cX 1024 (c.begun.length:Int) c.begun.length)) fun _=>(Option.bind (cE (cut c.begun 1024 (c.begun.length:Int))) fun j=>some (.inl (bZ.mk c.l c.bL j)))))) else some (.inr d))) (bZ.mk a.1.l a.1.bL (a.1.begun++g))) fun e=>(bif (!f.wrapped) then (Option.bind (eJ e e.begun) fun h=>some (bZ.mk h.l h.bL ([]:List aH))) else some e))))):Option bZ) fun k=>some (.inl (k,(IntKind.i64.wrap (a.2+1))))) else some (.inr a.1))) (b,0)) fun i=>some ((IntKind.i64.wrap ((i.l.length:Int) - (b.l.length:Int))),i))
noncomputable def gM (b:bZ) (i:Int):Option ((List aH)×Bool) :=
 (Option.bind ((bif (decide (i < 0)) then some true else some (decide (i≥(b.l.length:Int)))):Option Bool) fun e4=>(bif e4 then some (([]:List aH),false) else (Option.bind (idx b.l i) fun a=>(Option.bind (cE a) fun c=>some (c,true)))))
end Go.Tw.X
set_option linter.unusedVariables false
set_option linter.unusedSimpArgs false
set_option maxRecDepth 10000
namespace Go.Tw.X
open Go Go.Tw
structure aX where
 w:Int
 l:List aE
 deriving DecidableEq,Inhabited
noncomputable def fW (n_:Int) (lo:Int) (hi:Int):Option Int :=
 some (imax lo (dF n_ hi))
noncomputable def gH (n_:Int):Option Int :=
 (Option.bind (fW n_ 1 1000) fun r1=>some r1)
noncomputable def mQ (w:Int) (h_:Int):Option aX :=
 (Option.bind (gH w) fun r1=>(Option.bind (gH h_) fun r5=>(Option.bind (iter (σ:=aX×Int) (ρ:=aX) (fun a=>(bif (decide (a.2 < r5)) then (Option.bind (ig a.1.w 0) fun b=>(Option.bind (chk (dC a.1.l.length [b].length 32)) fun _=>some (.inl ((aX.mk a.1.w (a.1.l++[b])),(IntKind.i64.wrap (a.2+1)))))) else some (.inr a.1))) ((aX.mk r1 ([]:List aE)),0)) fun c=>some c)))
noncomputable def lH (r_:aE):Option aE :=
 (Option.bind (ey r_.cells) fun a=>some (aE.mk a r_.wrapped))
noncomputable def dI (g:aX) (y:Int):Option aE :=
 (Option.bind ((bif (decide (y < 0)) then some true else some (decide (y≥(g.l.length:Int)))):Option Bool) fun e5=>(bif e5 then some (aE.mk ([]:List aI) false) else (Option.bind (idx g.l y) fun a=>(Option.bind (lH a) fun b=>some b))))
noncomputable def ef (g:aX) (y:Int) (r_:aE):Option (Bool×aX) :=
 (Option.bind ((bif (decide (y < 0)) then some true else some (decide (y≥(g.l.length:Int)))):Option Bool) fun e5=>(bif e5 then some (false,g) else (Option.bind (gL r_ g.w) fun a=>(Option.bind (idx g.l y) fun b=>some (true,(aX.mk g.w (g.l.set y.toNat a)))))))
noncomputable def dM (g:aX) (top:Int) (aG:Int):Option (Unit ⊕ (Int×Int)) :=
 (Option.bind (fW top 0 (IntKind.i64.wrap ((g.l.length:Int) - 1))) fun r1=>(Option.bind (fW aG 0 (IntKind.i64.wrap ((g.l.length:Int) - 1))) fun r4=>(bif (decide (r4 < r1)) then some (.inl ()) else (Option.bind (chk (cX r1 (IntKind.i64.wrap (r4+1)) g.l.length)) fun _=>some (.inr (r1,(IntKind.i64.wrap (r4+1))))))))
noncomputable def eQ (g:aX) (top:Int) (aG:Int) (n_:Int) (aL:Int):Option ((List aE)×aX) :=
 (Option.bind (dM g top aG) fun | .inl r1=>some (([]:List aE),g) | .inr r1=>(Option.bind (chk (cX r1.1 r1.2 g.l.length)) fun _=>(Option.bind (fW n_ 0 ((cut g.l r1.1 r1.2).length:Int)) fun r9=>(Option.bind (chk (cX 0 r9 (cut g.l r1.1 r1.2).length)) fun _=>(Option.bind (dJ (cut g.l (r1.1+0) (r1.1+r9))) fun b=>(Option.bind (chk (cX r9 ((cut g.l r1.1 r1.2).length:Int) (cut g.l r1.1 r1.2).length)) fun _=>(Option.bind (iter (σ:=aX×Int) (ρ:=aX) (fun a=>(bif (decide (a.2 < ((cut a.1.l r1.1 r1.2).length:Int))) then (Option.bind (ig a.1.w aL) fun c=>(Option.bind (chk (cX r1.1 r1.2 a.1.l.length)) fun _=>(Option.bind (idx (cut a.1.l r1.1 r1.2) a.2) fun e=>some (.inl ((aX.mk a.1.w (a.1.l.set (r1.1.toNat+a.2.toNat) c)),(IntKind.i64.wrap (a.2+1))))))) else some (.inr a.1))) ((aX.mk g.w (oF g.l r1.1 r1.2 (r1.1+r9) (r1.1+((cut g.l r1.1 r1.2).length:Int)))),(IntKind.i64.wrap (((cut (oF g.l r1.1 r1.2 (r1.1+r9) (r1.1+((cut g.l r1.1 r1.2).length:Int))) r1.1 r1.2).length:Int) - r9)))) fun d=>some (b,d))))))))
noncomputable def iQ (g:aX):Option (List ByteArray) :=
 (Option.bind (iter (σ:=Int×(List ByteArray)) (ρ:=(List ByteArray)) (fun a=>(bif (decide (a.1 < (g.l.length:Int))) then (Option.bind (idx g.l a.1) fun f=>(Option.bind (fK f) fun c=>(Option.bind (iter (σ:=Int×(List Int)) (ρ:=(List Int)) (fun b=>(bif (decide (b.1 < (c.length:Int))) then (Option.bind (idx c b.1) fun d=>(Option.bind (chk (dC b.2.length [d.rune].length 4)) fun _=>some (.inl ((IntKind.i64.wrap (b.1+1)),(b.2++[d.rune]))))) else some (.inr b.2))) (0,[])) fun h=>(Option.bind (jF h) fun e=>(Option.bind (chk (dC a.2.length [e].length 16)) fun _=>some (.inl ((IntKind.i64.wrap (a.1+1)),(a.2++[e])))))))) else some (.inr a.2))) (0,[])) fun i=>some i)
noncomputable def dT (g:aX) (top:Int) (aG:Int) (n_:Int) (aL:Int):Option ((List aE)×aX) :=
 (Option.bind (dM g top aG) fun | .inl r1=>some (([]:List aE),g) | .inr r1=>(Option.bind (chk (cX r1.1 r1.2 g.l.length)) fun _=>(Option.bind (fW n_ 0 ((cut g.l r1.1 r1.2).length:Int)) fun r9=>(Option.bind (chk (cX (IntKind.i64.wrap (((cut g.l r1.1 r1.2).length:Int) - r9)) ((cut g.l r1.1 r1.2).length:Int) (cut g.l r1.1 r1.2).length)) fun _=>(Option.bind (dJ (cut g.l (r1.1+(IntKind.i64.wrap (((cut g.l r1.1 r1.2).length:Int) - r9))) (r1.1+((cut g.l r1.1 r1.2).length:Int)))) fun b=>(Option.bind (eP b) fun c=>(Option.bind (chk (decide (c.length=b.length))) fun _=>(Option.bind (chk (cX r9 ((cut g.l r1.1 r1.2).length:Int) (cut g.l r1.1 r1.2).length)) fun _=>(Option.bind (chk (cX 0 (IntKind.i64.wrap (((cut g.l r1.1 r1.2).length:Int) - r9)) (cut g.l r1.1 r1.2).length)) fun _=>(Option.bind (iter (σ:=aX×Int) (ρ:=aX) (fun a=>(bif (decide (a.2 < r9)) then (Option.bind (ig a.1.w aL) fun d=>(Option.bind (chk (cX r1.1 r1.2 a.1.l.length)) fun _=>(Option.bind (idx (cut a.1.l r1.1 r1.2) a.2) fun f=>some (.inl ((aX.mk a.1.w (a.1.l.set (r1.1.toNat+a.2.toNat) d)),(IntKind.i64.wrap (a.2+1))))))) else some (.inr a.1))) ((aX.mk g.w (oF g.l (r1.1+r9) (r1.1+((cut g.l r1.1 r1.2).length:Int)) (r1.1+0) (r1.1+(IntKind.i64.wrap (((cut g.l r1.1 r1.2).length:Int) - r9))))),0)) fun e=>some (c,e)))))))))))
noncomputable def gT (g:aX) (w:Int) (h_:Int) (off:Int):Option ((List aE)×aX) :=
 (Option.bind (fW off 0 (IntKind.i64.wrap ((g.l.length:Int) - 1))) fun r1=>(Option.bind (chk (cX 0 r1 g.l.length)) fun _=>(Option.bind (dJ (cut g.l 0 r1)) fun h=>(Option.bind (chk (cX r1 (g.l.length:Int) g.l.length)) fun _=>(Option.bind (dJ (cut g.l r1 (g.l.length:Int))) fun b=>(Option.bind (gH h_) fun d=>(Option.bind (chk (cX 0 (dF (b.length:Int) d) b.length)) fun _=>(Option.bind (iter (σ:=(List aE)) (ρ:=(List aE)) (fun c=>(Option.bind (gH h_) fun i=>(bif (decide ((c.length:Int) < i)) then (Option.bind (gH w) fun j=>(Option.bind (ig j 0) fun e=>(Option.bind (chk (dC c.length [e].length 32)) fun _=>some (.inl (c++[e]))))) else some (.inr c)))) (cut b 0 (dF (b.length:Int) d))) fun f=>(Option.bind (gH w) fun k=>(Option.bind (iter (σ:=aX×Int) (ρ:=aX) (fun a=>(bif (decide (a.2 < (f.length:Int))) then (Option.bind (idx a.1.l a.2) fun m=>(Option.bind (ef a.1 a.2 m) fun n=>some (.inl (n.2,(IntKind.i64.wrap (a.2+1)))))) else some (.inr a.1))) ((aX.mk k f),0)) fun o=>some (h,o)))))))))))
noncomputable def cY (g:aX):Option (Int×Int) :=
 some (g.w,(g.l.length:Int))
noncomputable def kY (l:List aE):Option (List aE) :=
 some l
noncomputable def gN {σ:Type} (Y:σ→aE→Option (σ×Bool)) (y0:σ) (x1:List aE):Option σ :=
 (Option.bind (iter (σ:=Int×σ) (ρ:=σ ⊕ σ) (fun a=>(bif (decide (a.1 < (x1.length:Int))) then (Option.bind (idx x1 a.1) fun b=>(Option.bind (lH b) fun c=>(Option.bind (Y a.2 c) fun z184=>(bif (!z184.2) then (lT (some z184.1)) else some (.inl ((IntKind.i64.wrap (a.1+1)),z184.1)))))) else some (.inr (.inl a.2)))) (0,y0)) fun | .inl e139=>some e139 | .inr w=>some w)
noncomputable def gO (l:List aE):Option ((List aE)×(List aE)) :=
 (Option.bind (kY l) fun r2=>(Option.bind (gN (fun s40 x9=>(Option.bind (chk (dC s40.length [x9].length 32)) fun _=>some ((s40++[x9]),true))) ([]:(List aE)) r2) fun a=>some (a,r2)))
noncomputable def gP (g:aX):Option ((List aE)×aX) :=
 (Option.bind (gO g.l) fun r1=>(Option.bind (chk (decide (r1.2.length=g.l.length))) fun _=>some (r1.1,(aX.mk g.w r1.2))))
noncomputable def gk (g:aX):Option (aX×aX) :=
 (Option.bind (gO g.l) fun a=>(Option.bind (chk (decide (a.2.length=g.l.length))) fun _=>some ((aX.mk g.w a.1),(aX.mk g.w a.2))))
end Go.Tw.X
set_option linter.unusedVariables false
set_option linter.unusedSimpArgs false
set_option maxRecDepth 10000
namespace Go.Tw.X
open Go Go.Tw
structure bA where
 kind:Int
 rune:Int
 byte:Int
 cG:Bool
 bB:List Int
 text:ByteArray
 deriving DecidableEq,Inhabited
structure dK where
 cG:Bool
 iJ:Bool
 any:Bool
 some:Bool
 n:Int
 bB:List Int
 deriving DecidableEq,Inhabited
structure aD where
 state:Int
 order:dK
 text:ByteArray
 cC:bM
 out:List bA
 deriving DecidableEq,Inhabited
noncomputable def eK (p:aD) (a:bA):Option aD :=
 (Option.bind (chk (dC p.out.length [a].length 56)) fun _=>some (aD.mk p.state p.order p.text p.cC (p.out++[a])))
noncomputable def fL (p:aD) (l:List Int):Option aD :=
 (Option.bind (iter (σ:=aD×Int) (ρ:=aD) (fun a=>(bif (decide (a.2 < (l.length:Int))) then (Option.bind (idx l a.2) fun b=>(Option.bind (eK a.1 (bA.mk 1 b 0 false ([]:List Int) (ByteArray.mk #[]))) fun c=>some (.inl (c,(IntKind.i64.wrap (a.2+1)))))) else some (.inr a.1))) (p,0)) fun d=>some d)
noncomputable def ej (p:aD) (b:Int):Option (Bool×aD) :=
 (Option.bind ((Option.bind ((bif (b == 24) then some true else some (b == 26)):Option Bool) fun a=>(bif a then some (.inl (aD.mk 0 p.order p.text p.cC p.out)) else (bif (b == 27) then some (.inl (aD.mk 1 p.order p.text p.cC p.out)) else (bif (decide (b < 32)) then (Option.bind (eK p (bA.mk 2 0 b false ([]:List Int) (ByteArray.mk #[]))) fun c=>some (.inl c)) else (iM (some ((b == 127),p))))))):Option (aD ⊕ (Bool×aD))) fun | .inl e42=>some (true,e42) | .inr w=>some w)
noncomputable def fC (p:aD) (b:Int):Option aD :=
 (Option.bind ((bif (decide (b < 32)) then some true else some (b == 127)):Option Bool) fun e4=>(bif e4 then (Option.bind (gy p.cC) fun d=>(Option.bind (fL p d) fun a=>(Option.bind (ej (aD.mk a.state a.order a.text (bM.mk 0 0 0) a.out) b) fun e=>some e.2))) else (Option.bind (fT p.cC b) fun c=>(Option.bind (fL (aD.mk p.state p.order p.text c.1 p.out) c.2) fun f=>some f))))
noncomputable def eL (p:aD) (b:Int):Option aD :=
 (Option.bind (ej p b) fun r1=>(bif r1.1 then some r1.2 else (Option.bind ((bif (b == 91) then (iM (some (aD.mk 3 (dK.mk false false false false 0 ([]:List Int)) r1.2.text r1.2.cC r1.2.out))) else (bif (b == 93) then (iM (some (aD.mk 4 r1.2.order (ByteArray.mk #[]) r1.2.cC r1.2.out))) else (bif (decide (b < 48)) then (iM (some (aD.mk 2 r1.2.order r1.2.text r1.2.cC r1.2.out))) else (bif (decide (b < 127)) then (Option.bind (eK r1.2 (bA.mk 3 0 b false ([]:List Int) (ByteArray.mk #[]))) fun a=>some (.inl a)) else some (.inl r1.2))))):Option (aD ⊕ aD)) fun | .inl e39=>some (aD.mk 0 e39.order e39.text e39.cC e39.out) | .inr w=>some w)))
noncomputable def gB (p:aD) (b:Int):Option aD :=
 (Option.bind ((Option.bind (ej p b) fun c=>(bif (!c.1) then some ((decide (b≥48)),c.2) else some (false,c.2))):Option (Bool×aD)) fun a=>(bif a.1 then some (aD.mk 0 a.2.order a.2.text a.2.cC a.2.out) else some a.2))
noncomputable def gQ (o:aD):Option aD :=
 (Option.bind ((bif (decide ((o.order.bB.length:Int) < 16)) then (Option.bind (chk (dC o.order.bB.length [o.order.n].length 8)) fun _=>some (aD.mk o.state (dK.mk o.order.cG o.order.iJ o.order.any o.order.some o.order.n (o.order.bB++[o.order.n])) o.text o.cC o.out)) else some o):Option aD) fun a=>some (aD.mk a.state (dK.mk a.order.cG a.order.iJ a.order.any a.order.some 0 a.order.bB) a.text a.cC a.out))
noncomputable def fX (p:aD) (a:bA):Option aD :=
 (Option.bind (chk (dC p.out.length [a].length 56)) fun _=>some (aD.mk p.state p.order p.text p.cC (p.out++[a])))
noncomputable def gC (p:aD) (b:Int):Option aD :=
 (bif p.order.iJ then some (aD.mk 0 p.order p.text p.cC p.out) else (Option.bind ((bif p.order.some then (Option.bind (gQ (aD.mk 0 p.order p.text p.cC p.out)) fun d=>some d) else some (aD.mk 0 p.order p.text p.cC p.out)):Option aD) fun a=>(Option.bind (fX a (bA.mk 4 0 b a.order.cG a.order.bB (ByteArray.mk #[]))) fun c=>(Option.bind (chk (!(c.state == (3:Int)))) fun _=>some c))))
noncomputable def fq (p:aD) (b:Int):Option aD :=
 (Option.bind (ej p b) fun r1=>(bif r1.1 then some r1.2 else (Option.bind ((bif (decide (b≥48)) then some (decide (b≤57)) else some false):Option Bool) fun c=>(bif c then some (aD.mk r1.2.state (dK.mk r1.2.order.cG r1.2.order.iJ true true (dF (IntKind.i64.wrap ((IntKind.i64.wrap (10*r1.2.order.n))+(IntKind.i64.wrap (IntKind.u8.wrap (b - 48))))) 9999) r1.2.order.bB) r1.2.text r1.2.cC r1.2.out) else (Option.bind ((bif (b == 59) then some true else some (b == 58)):Option Bool) fun d=>(bif d then (Option.bind (chk (r1.2.state == (3:Int))) fun _=>(Option.bind (gQ (aD.mk r1.2.state (dK.mk r1.2.order.cG r1.2.order.iJ true r1.2.order.some r1.2.order.n r1.2.order.bB) r1.2.text r1.2.cC r1.2.out)) fun a=>some (aD.mk a.state (dK.mk a.order.cG a.order.iJ a.order.any true a.order.n a.order.bB) a.text a.cC a.out))) else (Option.bind ((bif (b == 63) then some (!r1.2.order.any) else some false):Option Bool) fun e=>(bif e then some (aD.mk r1.2.state (dK.mk true r1.2.order.iJ true r1.2.order.some r1.2.order.n r1.2.order.bB) r1.2.text r1.2.cC r1.2.out) else (Option.bind ((bif (decide (b≥64)) then some (decide (b < 127)) else some false):Option Bool) fun f=>(bif f then (Option.bind (chk (r1.2.state == (3:Int))) fun _=>(Option.bind (gC (aD.mk r1.2.state (dK.mk r1.2.order.cG r1.2.order.iJ true r1.2.order.some r1.2.order.n r1.2.order.bB) r1.2.text r1.2.cC r1.2.out) b) fun g=>some g)) else some (aD.mk r1.2.state (dK.mk r1.2.order.cG true true r1.2.order.some r1.2.order.n r1.2.order.bB) r1.2.text r1.2.cC r1.2.out)))))))))))
noncomputable def gm (p:aD):Option aD :=
 (Option.bind (iter (σ:=aD×Int) (ρ:=aD) (fun a=>(bif (decide (a.2 < (([(ByteArray.mk #[48,59]),(ByteArray.mk #[50,59])]).length:Int))) then (Option.bind ((Option.bind (idx ([(ByteArray.mk #[48,59]),(ByteArray.mk #[50,59])]) a.2) fun c=>(Option.bind (gA a.1.text c) fun b=>(bif b.2 then (Option.bind (eK a.1 (bA.mk 5 0 0 false ([]:List Int) b.1)) fun d=>some d) else some a.1))):Option aD) fun e=>some (.inl (e,(IntKind.i64.wrap (a.2+1))))) else some (.inr a.1))) ((aD.mk 0 p.order p.text p.cC p.out),0)) fun f=>some f)
noncomputable def fY (p:aD) (b:Int):Option aD :=
 (bif (b == 7) then (Option.bind (gm p) fun r2=>some r2) else (Option.bind ((bif (b == 24) then some true else some (b == 26)):Option Bool) fun a=>(bif a then some (aD.mk 0 p.order p.text p.cC p.out) else (bif (b == 27) then some (aD.mk 5 p.order p.text p.cC p.out) else (bif (decide ((p.text.size:Int) < 200)) then (Option.bind (chk (uP p.text.size (gS [b]).size)) fun _=>some (aD.mk p.state p.order (p.text++(gS [b])) p.cC p.out)) else some p)))))
noncomputable def iR (p:aD) (b:Int):Option aD :=
 (bif (p.state == 0) then (Option.bind (fC p b) fun r2=>some r2) else (bif (p.state == 1) then (Option.bind (eL p b) fun a=>some a) else (bif (p.state == 2) then (Option.bind (gB p b) fun c=>some c) else (bif (p.state == 3) then (Option.bind (fq p b) fun d=>some d) else (bif (p.state == 4) then (Option.bind (fY p b) fun e=>some e) else (bif (b == 92) then (Option.bind (gm p) fun f=>some f) else (Option.bind (eL (aD.mk 1 p.order p.text p.cC p.out) b) fun g=>some g)))))))
noncomputable def il (p:aD) (s_:ByteArray):Option ((List bA)×aD) :=
 (Option.bind (iter (σ:=aD×Int) (ρ:=aD) (fun a=>(bif (decide (a.2 < (s_.size:Int))) then (Option.bind (jY s_ a.2) fun b134=>(Option.bind (iR a.1 b134) fun c=>some (.inl (c,(IntKind.i64.wrap (a.2+1)))))) else some (.inr a.1))) ((aD.mk p.state p.order p.text p.cC ([]:List bA)),0)) fun b=>some (b.out,(aD.mk b.state b.order b.text b.cC ([]:List bA))))
end Go.Tw.X
set_option linter.unusedVariables false
set_option linter.unusedSimpArgs false
set_option maxRecDepth 10000
namespace Go.Tw.X
open Go Go.Tw
structure bE where
 eT:Int
 back:Int
 bold:Bool
 under:Bool
 cN:Bool
 deriving DecidableEq,Inhabited
noncomputable def iq (s_:bE):Option Bool :=
 (Option.bind ((bif (decide (s_.eT≥0)) then (bif (decide (s_.eT < 9)) then (bif (decide (s_.back≥0)) then some (decide (s_.back < 9)) else some false) else some false) else some false):Option Bool) fun e9=>some e9)
noncomputable def kK (is:Bool) (n_:Int):Option Int :=
 (bif is then some n_ else some 0)
noncomputable def ir (s_:bE):Option Int :=
 (Option.bind (iq s_) fun r2=>(bif (!r2) then some 0 else (Option.bind (kK s_.bold 81) fun a=>(Option.bind (kK s_.under 162) fun b=>(Option.bind (kK s_.cN 324) fun c=>some (IntKind.i64.wrap ((IntKind.i64.wrap ((IntKind.i64.wrap ((IntKind.i64.wrap (s_.eT+(IntKind.i64.wrap (9*s_.back))))+a))+b))+c)))))))
noncomputable def kZ (l:List Int):Option Int :=
 (Option.bind ((bif (decide ((l.length:Int) > 0)) then (Option.bind (idx l 0) fun a=>some (a == 5)) else some false):Option Bool) fun b=>(bif b then some (dF 2 (l.length:Int)) else (Option.bind ((bif (decide ((l.length:Int) > 0)) then (Option.bind (idx l 0) fun c=>some (c == 2)) else some false):Option Bool) fun d=>(bif d then some (dF 4 (l.length:Int)) else some 0))))
noncomputable def iu (s_:bE) (n_:Int):Option bE :=
 (Option.bind ((bif (n_ == 0) then (iM (some (bE.mk 0 0 false false false))) else (Option.bind ((bif (n_ == 1) then some true else some (n_ == 22)):Option Bool) fun a=>(bif a then some (.inl (bE.mk s_.eT s_.back (n_ == 1) s_.under s_.cN)) else (Option.bind ((bif (n_ == 4) then some true else some (n_ == 24)):Option Bool) fun b=>(bif b then some (.inl (bE.mk s_.eT s_.back s_.bold (n_ == 4) s_.cN)) else (Option.bind ((bif (n_ == 7) then some true else some (n_ == 27)):Option Bool) fun c=>(bif c then some (.inl (bE.mk s_.eT s_.back s_.bold s_.under (n_ == 7))) else (Option.bind ((bif (decide (n_≥30)) then some (decide (n_ < 38)) else some false):Option Bool) fun d=>(bif d then some (.inl (bE.mk (IntKind.i64.wrap ((IntKind.i64.wrap (n_ - 30))+1)) s_.back s_.bold s_.under s_.cN)) else (bif (n_ == 39) then some (.inl (bE.mk 0 s_.back s_.bold s_.under s_.cN)) else (Option.bind ((bif (decide (n_≥40)) then some (decide (n_ < 48)) else some false):Option Bool) fun e=>(bif e then some (.inl (bE.mk s_.eT (IntKind.i64.wrap ((IntKind.i64.wrap (n_ - 40))+1)) s_.bold s_.under s_.cN)) else (bif (n_ == 49) then some (.inl (bE.mk s_.eT 0 s_.bold s_.under s_.cN)) else some (.inl s_)))))))))))))):Option (bE ⊕ bE)) fun | .inl e90=>some e90 | .inr w=>some w)
noncomputable def iw (s_:bE) (bB:List Int):Option bE :=
 (bif ((bB.length:Int) == 0) then some (bE.mk 0 0 false false false) else (Option.bind (iter (σ:=bE×Int) (ρ:=bE) (fun a=>(bif (decide (a.2 < (bB.length:Int))) then (Option.bind ((Option.bind (idx bB a.2) fun b=>(Option.bind ((bif (b == 38) then some true else some (b == 48)):Option Bool) fun d=>(bif d then (Option.bind (chk (cX (IntKind.i64.wrap (a.2+1)) (bB.length:Int) bB.length)) fun _=>(Option.bind (kZ (cut bB (IntKind.i64.wrap (a.2+1)) (bB.length:Int))) fun e=>some ((IntKind.i64.wrap (a.2+e)),a.1))) else (Option.bind (idx bB a.2) fun f=>(Option.bind (iu a.1 f) fun h=>some (a.2,h)))))):Option (Int×bE)) fun c=>some (.inl (c.2,(IntKind.i64.wrap (c.1+1))))) else some (.inr a.1))) (s_,0)) fun i=>some i))
end Go.Tw.X
set_option linter.unusedVariables false
set_option linter.unusedSimpArgs false
set_option maxRecDepth 10000
namespace Go.Tw.X
open Go Go.Tw
structure dN where
 x:Int
 y:Int
 aL:bE
 deriving DecidableEq,Inhabited
structure aB where
 g:aX
 spot:dN
 saved:dN
 waiting:Bool
 top:Int
 aG:Int
 aY:Bool
 title:ByteArray
 deriving DecidableEq,Inhabited
noncomputable def kb (w:Int) (h_:Int):Option aB :=
 (Option.bind (mQ w h_) fun r1=>(Option.bind (cY r1) fun r9=>some (aB.mk r1 (dN.mk 0 0 (bE.mk 0 0 false false false)) (dN.mk 0 0 (bE.mk 0 0 false false false)) false 0 (IntKind.i64.wrap (r9.2 - 1)) true (ByteArray.mk #[]))))
noncomputable def eY (s_:aB):Option (aX×aB) :=
 (Option.bind (gk s_.g) fun r1=>some (r1.1,(aB.mk r1.2 s_.spot s_.saved s_.waiting s_.top s_.aG s_.aY s_.title)))
noncomputable def eM (s_:aB):Option ByteArray :=
 some s_.title
noncomputable def eG (s_:aB):Option (Int×Int) :=
 some (s_.spot.x,s_.spot.y)
noncomputable def gn (r_:aE):Option aE :=
 some (aE.mk r_.cells true)
noncomputable def cL (s_:aB):Option aB :=
 (Option.bind (dI s_.g s_.spot.y) fun a=>(Option.bind (gn a) fun b=>(Option.bind (ef s_.g s_.spot.y b) fun c=>some (aB.mk c.2 s_.spot s_.saved s_.waiting s_.top s_.aG s_.aY s_.title))))
noncomputable def bY (s_:aB):Option Int :=
 (Option.bind (ir s_.spot.aL) fun r1=>some r1)
noncomputable def fM (s_:aB) (n_:Int):Option ((List aE)×aB) :=
 (Option.bind (bY s_) fun b=>(Option.bind (eQ s_.g s_.top s_.aG n_ b) fun a=>(bif (decide (s_.top > 0)) then some (([]:List aE),(aB.mk a.2 s_.spot s_.saved s_.waiting s_.top s_.aG s_.aY s_.title)) else some (a.1,(aB.mk a.2 s_.spot s_.saved s_.waiting s_.top s_.aG s_.aY s_.title)))))
noncomputable def dL (s_:aB):Option (Int×Int) :=
 (Option.bind (cY s_.g) fun r1=>some ((IntKind.i64.wrap (r1.1 - 1)),(IntKind.i64.wrap (r1.2 - 1))))
noncomputable def fl (n_:Int) (lo:Int) (hi:Int):Option Int :=
 some (imax lo (dF n_ hi))
noncomputable def bJ (s_:aB) (x_:Int) (y:Int):Option aB :=
 (Option.bind (dL s_) fun r1=>(Option.bind (fl x_ 0 r1.1) fun r4=>(Option.bind (fl y 0 r1.2) fun r7=>some (aB.mk s_.g (dN.mk r4 r7 s_.spot.aL) s_.saved false s_.top s_.aG s_.aY s_.title))))
noncomputable def cU (s_:aB):Option ((List aE)×aB) :=
 (bif (s_.spot.y == s_.aG) then (Option.bind (fM (aB.mk s_.g s_.spot s_.saved false s_.top s_.aG s_.aY s_.title) 1) fun a=>some (a.1,a.2)) else (Option.bind (bJ (aB.mk s_.g s_.spot s_.saved false s_.top s_.aG s_.aY s_.title) s_.spot.x (IntKind.i64.wrap (s_.spot.y+1))) fun b=>some (([]:List aE),b)))
noncomputable def gp (r_:aE) (x1:aB):Option aE :=
 (Option.bind (bY x1) fun a=>(Option.bind (jG r_ a) fun b=>some b))
noncomputable def cM (s_:aB):Option aB :=
 (Option.bind (dI s_.g s_.spot.y) fun a=>(Option.bind (gp a s_) fun b=>(Option.bind (ef s_.g s_.spot.y b) fun c=>some (aB.mk c.2 s_.spot s_.saved s_.waiting s_.top s_.aG s_.aY s_.title))))
noncomputable def gq (q:aE) (x1:aB) (x2:Int):Option aE :=
 (Option.bind (bY x1) fun a=>(Option.bind (kj q x1.spot.x x2 a) fun b=>some b))
noncomputable def dA (s_:aB) (f_1:Int):Option aB :=
 (Option.bind (dI s_.g s_.spot.y) fun a=>(Option.bind (gq a s_ f_1) fun b=>(Option.bind (ef s_.g s_.spot.y b) fun c=>some (aB.mk c.2 s_.spot s_.saved s_.waiting s_.top s_.aG s_.aY s_.title))))
noncomputable def fD (s_:aB) (r_:Int):Option ((List aE)×aB) :=
 (Option.bind (mK r_) fun r3=>(Option.bind (cY s_.g) fun r6=>(Option.bind ((bif (r3 == 0) then some true else some (decide (r3 > r6.1))):Option Bool) fun i=>(bif i then some (([]:List aE),s_) else (Option.bind ((bif s_.waiting then some s_.aY else some false):Option Bool) fun j=>(Option.bind ((bif j then (Option.bind (cL s_) fun c=>(Option.bind (cU (aB.mk c.g (dN.mk 0 c.spot.y c.spot.aL) c.saved c.waiting c.top c.aG c.aY c.title)) fun f=>(Option.bind (chk (dC ([]:List aE).length f.1.length 32)) fun _=>some ((([]:List aE)++f.1),f.2.g,f.2)))) else some ([],s_.g,s_)):Option ((List aE)×aX×aB)) fun a=>(Option.bind ((bif (decide ((IntKind.i64.wrap (a.2.2.spot.x+r3)) > r6.1)) then (bif a.2.2.aY then (Option.bind (cM (aB.mk a.2.1 a.2.2.spot a.2.2.saved a.2.2.waiting a.2.2.top a.2.2.aG a.2.2.aY a.2.2.title)) fun d=>(Option.bind (cU (aB.mk d.g (dN.mk 0 d.spot.y d.spot.aL) d.saved d.waiting d.top d.aG d.aY d.title)) fun h=>(Option.bind (chk (dC a.1.length h.1.length 32)) fun _=>some ((a.1++h.1),h.2.g,h.2)))) else some (a.1,a.2.1,(aB.mk a.2.1 (dN.mk (IntKind.i64.wrap (a.2.2.spot.x - 1)) a.2.2.spot.y a.2.2.spot.aL) a.2.2.saved a.2.2.waiting a.2.2.top a.2.2.aG a.2.2.aY a.2.2.title))) else some (a.1,a.2.1,(aB.mk a.2.1 a.2.2.spot a.2.2.saved a.2.2.waiting a.2.2.top a.2.2.aG a.2.2.aY a.2.2.title))):Option ((List aE)×aX×aB)) fun e=>(Option.bind (dA (aB.mk e.2.1 e.2.2.spot e.2.2.saved e.2.2.waiting e.2.2.top e.2.2.aG e.2.2.aY e.2.2.title) r_) fun b=>some (e.1,(aB.mk b.g (dN.mk (dF (IntKind.i64.wrap (b.spot.x+r3)) (IntKind.i64.wrap (r6.1 - 1))) b.spot.y b.spot.aL) b.saved ((IntKind.i64.wrap (b.spot.x+r3)) == r6.1) b.top b.aG b.aY b.title))))))))))
noncomputable def eZ (s_:aB) (b:Int):Option ((List aE)×aB) :=
 (Option.bind ((bif (b == 8) then (Option.bind (bJ s_ (IntKind.i64.wrap (s_.spot.x - 1)) s_.spot.y) fun a=>some (.inl (a,a.g))) else (bif (b == 9) then (Option.bind (bJ s_ (IntKind.i64.wrap ((IntKind.i64.wrap ((IntKind.i64.wrap (s_.spot.x.tdiv 8))+1))*8)) s_.spot.y) fun c=>some (.inl (c,c.g))) else (Option.bind ((bif (b == 10) then some (b == 10) else (bif (b == 11) then some (b == 11) else some (b == 12))):Option Bool) fun f=>(bif f then (Option.bind (cU s_) fun d=>(iM (some (d.1,d.2)))) else (bif (b == 13) then (Option.bind (bJ s_ 0 s_.spot.y) fun e=>some (.inl (e,e.g))) else some (.inl (s_,s_.g))))))):Option ((aB×aX) ⊕ ((List aE)×aB))) fun | .inl e86=>some (([]:List aE),(aB.mk e86.2 e86.1.spot e86.1.saved e86.1.waiting e86.1.top e86.1.aG e86.1.aY e86.1.title)) | .inr w=>some w)
noncomputable def fZ (s_:aB):Option aB :=
 (bif (s_.spot.y == s_.top) then (Option.bind (bY (aB.mk s_.g s_.spot s_.saved false s_.top s_.aG s_.aY s_.title)) fun a=>(Option.bind (dT s_.g s_.top s_.aG 1 a) fun b=>some (aB.mk b.2 s_.spot s_.saved false s_.top s_.aG s_.aY s_.title))) else (Option.bind (bJ (aB.mk s_.g s_.spot s_.saved false s_.top s_.aG s_.aY s_.title) s_.spot.x (IntKind.i64.wrap (s_.spot.y - 1))) fun c=>some c))
noncomputable def fr (s_:aB) (b:Int):Option ((List aE)×aB) :=
 (Option.bind ((Option.bind ((bif (b == 69) then some (.inl (aB.mk s_.g (dN.mk 0 s_.spot.y s_.spot.aL) s_.saved s_.waiting s_.top s_.aG s_.aY s_.title)) else (bif (b == 68) then some (.inl s_) else (bif (b == 77) then (iM (Option.bind (fZ s_) fun d=>some (.inl d))) else (bif (b == 55) then (iM (some (.inl (aB.mk s_.g s_.spot s_.spot s_.waiting s_.top s_.aG s_.aY s_.title)))) else (bif (b == 56) then (iM (Option.bind (bJ (aB.mk s_.g (dN.mk s_.spot.x s_.spot.y s_.saved.aL) s_.saved s_.waiting s_.top s_.aG s_.aY s_.title) s_.saved.x s_.saved.y) fun e=>some (.inl e))) else (bif (b == 99) then (iM (Option.bind (cY s_.g) fun a=>(Option.bind (kb a.1 a.2) fun f=>some (.inl f)))) else (iM (some (.inl s_))))))))):Option (aB ⊕ (aB ⊕ ((List aE)×aB)))) fun | .inl e4671=>(Option.bind (cU (aB.mk s_.g e4671.spot e4671.saved e4671.waiting e4671.top e4671.aG e4671.aY e4671.title)) fun c=>(iM (some (c.1,c.2)))) | .inr w=>some w):Option (aB ⊕ ((List aE)×aB))) fun | .inl e3164=>some (([]:List aE),e3164) | .inr w=>some w)
noncomputable def dW (a:bA) (i:Int) (d:Int):Option Int :=
 (Option.bind ((bif (decide (i≥(a.bB.length:Int))) then some true else (Option.bind (idx a.bB i) fun b=>some (decide (b≤0)))):Option Bool) fun c=>(bif c then some d else (Option.bind (idx a.bB i) fun e=>some (dF e 9999))))
noncomputable def eN (s_:aB) (n_:Int):Option aB :=
 (Option.bind (dL s_) fun r1=>(Option.bind ((bif (decide (s_.spot.y≥s_.top)) then some (decide (n_ < 0)) else some false):Option Bool) fun e9=>(Option.bind ((bif e9 then some s_.top else some 0):Option Int) fun a=>(Option.bind ((bif (decide (s_.spot.y≤s_.aG)) then some (decide (n_ > 0)) else some false):Option Bool) fun b=>(Option.bind ((bif b then some s_.aG else some r1.2):Option Int) fun c=>(Option.bind (fl (IntKind.i64.wrap (s_.spot.y+n_)) a c) fun d=>(Option.bind (bJ s_ s_.spot.x d) fun e=>some e)))))))
noncomputable def dR (s_:aB) (y:Int) (from_:Int) (to:Int):Option aB :=
 (Option.bind (dI s_.g y) fun a=>(Option.bind (bY s_) fun b=>(Option.bind (hP a from_ to b) fun c=>(Option.bind (ef s_.g y c) fun d=>some (aB.mk d.2 s_.spot s_.saved s_.waiting s_.top s_.aG s_.aY s_.title)))))
noncomputable def fb (s_:aB) (n_:Int):Option aB :=
 (Option.bind (cY s_.g) fun r1=>(Option.bind ((bif (n_ == 0) then (Option.bind (dR s_ s_.spot.y s_.spot.x r1.1) fun b=>some (b.g,b)) else (bif (n_ == 1) then (Option.bind (dR s_ s_.spot.y 0 (IntKind.i64.wrap (s_.spot.x+1))) fun c=>some (c.g,c)) else (bif (n_ == 2) then (Option.bind (dR s_ s_.spot.y 0 r1.1) fun d=>some (d.g,d)) else some (s_.g,s_)))):Option (aX×aB)) fun a=>(bif a.2.waiting then some (aB.mk a.1 a.2.spot a.2.saved (decide (n_ > 2)) a.2.top a.2.aG a.2.aY a.2.title) else some (aB.mk a.1 a.2.spot a.2.saved false a.2.top a.2.aG a.2.aY a.2.title))))
noncomputable def ga (s_:aB) (n_:Int):Option aB :=
 (Option.bind (cY s_.g) fun r1=>(Option.bind (iter (σ:=aB×aX×Int) (ρ:=aX×aB) (fun a=>(bif (decide (a.2.2 < r1.2)) then (Option.bind ((Option.bind ((bif (decide (a.2.2 < a.1.spot.y)) then (bif (n_ == 1) then some true else (bif (decide (a.2.2 > a.1.spot.y)) then (bif (n_ == 0) then some true else (bif (a.2.2 != a.1.spot.y) then some (n_ == 2) else some false)) else (bif (a.2.2 != a.1.spot.y) then some (n_ == 2) else some false))) else (bif (decide (a.2.2 > a.1.spot.y)) then (bif (n_ == 0) then some true else (bif (a.2.2 != a.1.spot.y) then some (n_ == 2) else some false)) else (bif (a.2.2 != a.1.spot.y) then some (n_ == 2) else some false))):Option Bool) fun e=>(bif e then (Option.bind (dR (aB.mk a.2.1 a.1.spot a.1.saved a.1.waiting a.1.top a.1.aG a.1.aY a.1.title) a.2.2 0 r1.1) fun d=>some (d.g,d)) else some (a.2.1,(aB.mk a.2.1 a.1.spot a.1.saved a.1.waiting a.1.top a.1.aG a.1.aY a.1.title)))):Option (aX×aB)) fun b=>some (.inl ((aB.mk b.1 b.2.spot b.2.saved b.2.waiting b.2.top b.2.aG b.2.aY b.2.title),b.1,(IntKind.i64.wrap (a.2.2+1))))) else some (.inr (a.2.1,(aB.mk a.2.1 a.1.spot a.1.saved a.1.waiting a.1.top a.1.aG a.1.aY a.1.title))))) (s_,s_.g,0)) fun c=>(Option.bind (fb (aB.mk c.1 c.2.spot c.2.saved c.2.waiting c.2.top c.2.aG c.2.aY c.2.title) n_) fun f=>some f)))
noncomputable def fc (r_:aE) (x1:Int) (x2:aB) (x3:Int):Option aE :=
 (bif (x1 == 64) then (Option.bind (bY x2) fun a=>(Option.bind (iO r_ x2.spot.x x3 a) fun b=>some b)) else (bif (x1 == 80) then (Option.bind (bY x2) fun c=>(Option.bind (iP r_ x2.spot.x x3 c) fun d=>some d)) else (Option.bind (bY x2) fun e=>(Option.bind (hP r_ x2.spot.x (IntKind.i64.wrap (x2.spot.x+x3)) e) fun f=>some f))))
noncomputable def dU (s_:aB) (f_0:Int) (f_2:Int):Option aB :=
 (Option.bind (dI s_.g s_.spot.y) fun a=>(Option.bind (fc a f_0 s_ f_2) fun b=>(Option.bind (ef s_.g s_.spot.y b) fun c=>some (aB.mk c.2 s_.spot s_.saved s_.waiting s_.top s_.aG s_.aY s_.title))))
noncomputable def fE (s_:aB) (b:Int) (n_:Int):Option aB :=
 (Option.bind (dU s_ b n_) fun r4=>some (aB.mk r4.g r4.spot r4.saved false r4.top r4.aG r4.aY r4.title))
noncomputable def fF (s_:aB) (b:Int) (n_:Int):Option aB :=
 (Option.bind ((bif (decide (s_.spot.y < s_.top)) then some true else some (decide (s_.spot.y > s_.aG))):Option Bool) fun e6=>(bif e6 then some s_ else (Option.bind ((bif (b == 76) then (Option.bind (bY s_) fun a=>(Option.bind (dT s_.g s_.spot.y s_.aG n_ a) fun c=>some c.2)) else (Option.bind (bY s_) fun d=>(Option.bind (eQ s_.g s_.spot.y s_.aG n_ d) fun e=>some e.2))):Option aX) fun f=>(Option.bind (bJ (aB.mk f s_.spot s_.saved s_.waiting s_.top s_.aG s_.aY s_.title) 0 s_.spot.y) fun h=>some h))))
noncomputable def ft (s_:aB) (a:bA):Option aB :=
 (Option.bind (cY s_.g) fun r2=>(Option.bind (dW a 0 1) fun d=>(Option.bind (fl d 1 r2.2) fun b=>(Option.bind (dW a 1 r2.2) fun e=>(Option.bind (fl e 1 r2.2) fun c=>(bif (decide ((IntKind.i64.wrap (b - 1)) < (IntKind.i64.wrap (c - 1)))) then (Option.bind (bJ (aB.mk s_.g s_.spot s_.saved s_.waiting (IntKind.i64.wrap (b - 1)) (IntKind.i64.wrap (c - 1)) s_.aY s_.title) 0 0) fun f=>some f) else some s_))))))
noncomputable def fG (s_:aB) (a:bA):Option ((List aE)×aB) :=
 (Option.bind (dW a 0 1) fun r2=>(Option.bind ((Option.bind ((bif (a.byte == 65) then some (a.byte == 65) else some (a.byte == 70)):Option Bool) fun r=>(bif r then (Option.bind (eN s_ (IntKind.i64.wrap (0 - r2))) fun c=>some (.inl (c,c.g))) else (Option.bind ((bif (a.byte == 66) then some (a.byte == 66) else some (a.byte == 69)):Option Bool) fun s=>(bif s then (Option.bind (eN s_ r2) fun d=>some (.inl (d,d.g))) else (bif (a.byte == 67) then (Option.bind (bJ s_ (IntKind.i64.wrap (s_.spot.x+r2)) s_.spot.y) fun e=>some (.inl (e,e.g))) else (bif (a.byte == 68) then (Option.bind (bJ s_ (IntKind.i64.wrap (s_.spot.x - r2)) s_.spot.y) fun f=>some (.inl (f,f.g))) else (bif (a.byte == 71) then (Option.bind (bJ s_ (IntKind.i64.wrap (r2 - 1)) s_.spot.y) fun h=>some (.inl (h,h.g))) else (bif (a.byte == 100) then (Option.bind (bJ s_ s_.spot.x (IntKind.i64.wrap (r2 - 1))) fun i=>some (.inl (i,i.g))) else (Option.bind ((bif (a.byte == 72) then some (a.byte == 72) else some (a.byte == 102)):Option Bool) fun t=>(bif t then (Option.bind (dW a 1 1) fun u=>(Option.bind (bJ s_ (IntKind.i64.wrap (u - 1)) (IntKind.i64.wrap (r2 - 1))) fun j=>some (.inl (j,j.g)))) else (bif (a.byte == 74) then (Option.bind (dW a 0 0) fun v=>(Option.bind (ga s_ v) fun k=>some (.inl (k,k.g)))) else (bif (a.byte == 75) then (Option.bind (dW a 0 0) fun z=>(Option.bind (fb s_ z) fun l=>some (.inl (l,l.g)))) else (Option.bind ((bif (a.byte == 64) then some (a.byte == 64) else (bif (a.byte == 80) then some (a.byte == 80) else some (a.byte == 88))):Option Bool) fun A=>(bif A then (Option.bind (fE s_ a.byte r2) fun m=>some (.inl (m,m.g))) else (Option.bind ((bif (a.byte == 76) then some (a.byte == 76) else some (a.byte == 77)):Option Bool) fun B=>(bif B then (Option.bind (fF s_ a.byte r2) fun n=>some (.inl (n,n.g))) else (bif (a.byte == 83) then (Option.bind (fM (aB.mk s_.g s_.spot s_.saved false s_.top s_.aG s_.aY s_.title) r2) fun o=>(iM (some (o.1,o.2)))) else (bif (a.byte == 84) then (Option.bind (bY (aB.mk s_.g s_.spot s_.saved false s_.top s_.aG s_.aY s_.title)) fun C=>(Option.bind (dT s_.g s_.top s_.aG r2 C) fun p=>some (.inl ((aB.mk p.2 s_.spot s_.saved false s_.top s_.aG s_.aY s_.title),p.2)))) else (bif (a.byte == 109) then (Option.bind (iw s_.spot.aL a.bB) fun D=>some (.inl ((aB.mk s_.g (dN.mk s_.spot.x s_.spot.y D) s_.saved s_.waiting s_.top s_.aG s_.aY s_.title),s_.g))) else (bif (a.byte == 114) then (Option.bind (ft s_ a) fun q=>some (.inl (q,q.g))) else some (.inl (s_,s_.g)))))))))))))))))))))):Option ((aB×aX) ⊕ ((List aE)×aB))) fun | .inl e310=>(Option.bind ((bif (a.byte == 69) then some true else some (a.byte == 70)):Option Bool) fun E=>(Option.bind ((bif E then some (aB.mk e310.2 (dN.mk 0 e310.1.spot.y e310.1.spot.aL) e310.1.saved e310.1.waiting e310.1.top e310.1.aG e310.1.aY e310.1.title) else some (aB.mk e310.2 e310.1.spot e310.1.saved e310.1.waiting e310.1.top e310.1.aG e310.1.aY e310.1.title)):Option aB) fun b=>some (([]:List aE),(aB.mk e310.2 b.spot b.saved b.waiting b.top b.aG b.aY b.title)))) | .inr w=>some w))
noncomputable def eW (s_:aB) (a:bA):Option ((List aE)×aB) :=
 (Option.bind ((bif (a.kind == 1) then (Option.bind (fD s_ a.rune) fun b=>(iM (some (b.1,b.2)))) else (bif (a.kind == 2) then (Option.bind (eZ s_ a.byte) fun c=>(iM (some (c.1,c.2)))) else (bif (a.kind == 3) then (Option.bind (fr s_ a.byte) fun d=>(iM (some (d.1,d.2)))) else (bif (a.kind == 5) then some (.inl (aB.mk s_.g s_.spot s_.saved s_.waiting s_.top s_.aG s_.aY a.text)) else (bif (a.kind == 4) then (bif (!a.cG) then (Option.bind (fG s_ a) fun e=>(iM (some (e.1,e.2)))) else (Option.bind ((Option.bind (dW a 0 0) fun f=>(bif (f == 7) then (bif (a.byte == 104) then some true else some (a.byte == 108)) else some false)):Option Bool) fun h=>(bif h then some (.inl (aB.mk s_.g s_.spot s_.saved s_.waiting s_.top s_.aG (a.byte == 104) s_.title)) else some (.inl s_)))) else some (.inl s_)))))):Option (aB ⊕ ((List aE)×aB))) fun | .inl e133=>some (([]:List aE),(aB.mk s_.g e133.spot e133.saved e133.waiting e133.top e133.aG e133.aY e133.title)) | .inr w=>some w)
noncomputable def fu (s_:aB) (w:Int) (h_:Int):Option ((List aE)×aB) :=
 (Option.bind (fl h_ 1 1000) fun b=>(Option.bind (gT s_.g w h_ (imax 0 (IntKind.i64.wrap (s_.spot.y - (IntKind.i64.wrap (b - 1)))))) fun c=>(Option.bind (bJ (aB.mk c.2 s_.spot s_.saved s_.waiting s_.top s_.aG s_.aY s_.title) s_.spot.x (IntKind.i64.wrap (s_.spot.y - (imax 0 (IntKind.i64.wrap (s_.spot.y - (IntKind.i64.wrap (b - 1)))))))) fun a=>(Option.bind (dL a) fun d=>some (c.1,(aB.mk a.g a.spot a.saved a.waiting 0 d.2 a.aY a.title))))))
noncomputable def gF (s_:aB):Option (Int×Int) :=
 some (s_.top,s_.aG)
noncomputable def gu (s_:aB):Option Bool :=
 some s_.waiting
noncomputable def hG (s_:aB):Option bE :=
 some s_.spot.aL
noncomputable def fH (s_:aB):Option (aB×aB) :=
 (Option.bind (gk s_.g) fun r2=>some ((aB.mk r2.1 s_.spot s_.saved s_.waiting s_.top s_.aG s_.aY s_.title),(aB.mk r2.2 s_.spot s_.saved s_.waiting s_.top s_.aG s_.aY s_.title)))
end Go.Tw.X
set_option linter.unusedVariables false
set_option linter.unusedSimpArgs false
set_option maxRecDepth 10000
namespace Go.Tw.X
open Go Go.Tw
structure iy where
 k:Int
 w:Int
 h:Int
 x:Int
 y:Int
 title:ByteArray
 rows:List aE
 len:Int
 chain:Int
 begun:List aH
 deriving DecidableEq,Inhabited
noncomputable def pF (k:Int) (s_:aB) (b:bZ):Option (iy×aB) :=
 (Option.bind (eY (aB.mk s_.g s_.spot s_.saved s_.waiting s_.top s_.aG s_.aY s_.title)) fun r2=>(Option.bind (eM (aB.mk r2.2.g r2.2.spot r2.2.saved r2.2.waiting r2.2.top r2.2.aG r2.2.aY r2.2.title)) fun e=>(Option.bind (gP r2.1) fun a=>(Option.bind (fz b) fun f=>(Option.bind (fz b) fun i=>(Option.bind (ij b i) fun j=>(Option.bind (ik b) fun l=>(Option.bind (cY a.2) fun c=>(Option.bind (eG (aB.mk r2.2.g r2.2.spot r2.2.saved r2.2.waiting r2.2.top r2.2.aG r2.2.aY r2.2.title)) fun d=>some ((iy.mk k c.1 c.2 d.1 d.2 e a.1 f j l),(aB.mk r2.2.g r2.2.spot r2.2.saved r2.2.waiting r2.2.top r2.2.aG r2.2.aY r2.2.title)))))))))))
end Go.Tw.X
set_option linter.unusedVariables false
set_option linter.unusedSimpArgs false
set_option maxRecDepth 10000
namespace Go.Tw.X
open Go Go.Tw
structure aV where
 book:bZ
 parser:aD
 aR:aB
 k:Int
 deriving DecidableEq,Inhabited
structure cK where
 kind:Int
 text:ByteArray
 w:Int
 h:Int
 deriving DecidableEq,Inhabited
noncomputable def kL (w:Int) (h_:Int):Option aV :=
 (Option.bind og fun r1=>(Option.bind (kb w h_) fun a=>some (aV.mk r1 (aD.mk 0 (dK.mk false false false false 0 ([]:List Int)) (ByteArray.mk #[]) (bM.mk 0 0 0) ([]:List bA)) (aB.mk a.g a.spot a.saved a.waiting a.top a.aG a.aY a.title) 0)))
noncomputable def fN (m_:aV):Option (iy×aV) :=
 (Option.bind (pF (IntKind.i64.wrap (m_.k+1)) (aB.mk m_.aR.g m_.aR.spot m_.aR.saved m_.aR.waiting m_.aR.top m_.aR.aG m_.aR.aY m_.aR.title) m_.book) fun a=>some (a.1,(aV.mk m_.book m_.parser (aB.mk a.2.g a.2.spot a.2.saved a.2.waiting a.2.top a.2.aG a.2.aY a.2.title) m_.k)))
noncomputable def fw (e:cK):Option Int :=
 (Option.bind ((bif (e.kind == 0) then (bif (decide ((e.text.size:Int) > 1048576)) then (iM (some 3)) else some (.inl ())) else (bif (e.kind == 1) then (Option.bind ((bif (decide (e.w < 1)) then some true else (bif (decide (e.w > 1000)) then some true else (bif (decide (e.h < 1)) then some true else some (decide (e.h > 1000))))):Option Bool) fun a=>(bif a then (iM (some 6)) else some (.inl ()))) else (iM (some 5)))):Option (Unit ⊕ Int)) fun | .inl e36=>some 0 | .inr w=>some w)
noncomputable def iz (m_:aV) (text:ByteArray):Option ByteArray :=
 some text
noncomputable def gD {σ:Type} (Y:σ→(List aE)→Option (σ×Bool)) (y0:σ) (x1:aV) (x2:ByteArray):Option (σ×aV) :=
 (Option.bind (il x1.parser x2) fun b=>(Option.bind (iter (σ:=aB×Int×σ) (ρ:=(aB×σ) ⊕ (σ×aV)) (fun a=>(bif (decide (a.2.1 < (b.1.length:Int))) then (Option.bind (idx b.1 a.2.1) fun d=>(Option.bind (eW a.1 d) fun c=>(Option.bind (Y a.2.2 c.1) fun z528=>(bif (!z528.2) then (lT (some (z528.1,(aV.mk x1.book b.2 c.2 x1.k)))) else some (.inl (c.2,(IntKind.i64.wrap (a.2.1+1)),z528.1)))))) else some (.inr (.inl (a.1,a.2.2))))) (x1.aR,0,y0)) fun | .inl e413=>some (e413.2,(aV.mk x1.book b.2 e413.1 x1.k)) | .inr w=>some w))
noncomputable def bR (m_:aV) (e:cK):Option (Int×aV) :=
 (Option.bind (fw e) fun r3=>(bif (r3 != 0) then some (r3,m_) else (Option.bind ((bif (e.kind == 1) then (Option.bind (fu m_.aR e.w e.h) fun c=>(Option.bind (gx m_.book c.1) fun d=>some (aV.mk d.2 m_.parser c.2 m_.k))) else (Option.bind (iz m_ e.text) fun f=>(Option.bind (gD (fun g i=>(Option.bind (gx g i) fun j=>some (j.2,true))) (m_.book:bZ) m_ f) fun a=>some (aV.mk a.1 a.2.parser a.2.aR a.2.k)))):Option aV) fun b=>some (0,(aV.mk b.book b.parser b.aR (IntKind.i64.wrap (b.k+1)))))))
noncomputable def kM (w:Int) (h_:Int) (l:List cK):Option aV :=
 (Option.bind (kL w h_) fun r1=>(Option.bind (iter (σ:=aV×Int) (ρ:=aV) (fun a=>(bif (decide (a.2 < (l.length:Int))) then (Option.bind (idx l a.2) fun b=>(Option.bind (bR a.1 b) fun c=>some (.inl (c.2,(IntKind.i64.wrap (a.2+1)))))) else some (.inr a.1))) (r1,0)) fun d=>some d))
noncomputable def ff (m_:aV):Option (aB×aV) :=
 (Option.bind (fH m_.aR) fun r1=>some (r1.1,(aV.mk m_.book m_.parser r1.2 m_.k)))
noncomputable def jk (m_:aV):Option Int :=
 some m_.k
end Go.Tw.X
set_option linter.unusedVariables false
set_option linter.unusedSimpArgs false
set_option maxRecDepth 10000
namespace Go.Tw.X
open Go Go.Tw
noncomputable def lW (s_:ByteArray) (n_:Int):Option ByteArray :=
 (bif (decide ((s_.size:Int) > n_)) then (Option.bind (chk (cX 0 n_ s_.size)) fun _=>some (lF s_ 0 n_)) else some s_)
end Go.Tw.X
set_option linter.unusedVariables false
set_option linter.unusedSimpArgs false
set_option maxRecDepth 10000
namespace Go.Tw.X
open Go Go.Tw
noncomputable def lI (r_:Int):Option Int :=
 (Option.bind ((bif (decide (r_ < 32)) then some true else some (decide (r_ > 1114111))):Option Bool) fun e8=>(bif e8 then some 0 else (Option.bind (iter (σ:=Int) (ρ:=Unit ⊕ Int) (fun a=>(bif (decide (a < ([(bH.mk 127 159),(bH.mk 768 879),(bH.mk 6832 6911),(bH.mk 7616 7679),(bH.mk 8203 8207),(bH.mk 8400 8447),(bH.mk 55296 57343),(bH.mk 65024 65039),(bH.mk 65056 65071),(bH.mk 65279 65279),(bH.mk 917760 917999)].length:Int))) then (Option.bind (idx [(bH.mk 127 159),(bH.mk 768 879),(bH.mk 6832 6911),(bH.mk 7616 7679),(bH.mk 8203 8207),(bH.mk 8400 8447),(bH.mk 55296 57343),(bH.mk 65024 65039),(bH.mk 65056 65071),(bH.mk 65279 65279),(bH.mk 917760 917999)] a) fun c=>(Option.bind ((bif (decide (r_≥c.e0)) then some (decide (r_≤c.e1)) else some false):Option Bool) fun e=>(bif e then (lT (some 0)) else some (.inl (IntKind.i64.wrap (a+1)))))) else some (.inr (.inl ())))) 0) fun | .inl e96=>(Option.bind (iter (σ:=Int) (ρ:=Unit ⊕ Int) (fun b=>(bif (decide (b < ([(bH.mk 4352 4447),(bH.mk 11904 12350),(bH.mk 12353 13311),(bH.mk 13312 19903),(bH.mk 19968 40959),(bH.mk 40960 42191),(bH.mk 44032 55203),(bH.mk 63744 64255),(bH.mk 65072 65135),(bH.mk 65280 65376),(bH.mk 65504 65510),(bH.mk 127744 128591),(bH.mk 129280 129535),(bH.mk 131072 262141)].length:Int))) then (Option.bind (idx [(bH.mk 4352 4447),(bH.mk 11904 12350),(bH.mk 12353 13311),(bH.mk 13312 19903),(bH.mk 19968 40959),(bH.mk 40960 42191),(bH.mk 44032 55203),(bH.mk 63744 64255),(bH.mk 65072 65135),(bH.mk 65280 65376),(bH.mk 65504 65510),(bH.mk 127744 128591),(bH.mk 129280 129535),(bH.mk 131072 262141)] b) fun d=>(Option.bind ((bif (decide (r_≥d.e0)) then some (decide (r_≤d.e1)) else some false):Option Bool) fun f=>(bif f then (lT (some 2)) else some (.inl (IntKind.i64.wrap (b+1)))))) else some (.inr (.inl ())))) 0) fun | .inl e214=>some 1 | .inr w=>some w) | .inr w=>some w)))
end Go.Tw.X
set_option linter.unusedVariables false
set_option linter.unusedSimpArgs false
set_option maxRecDepth 10000
namespace Go.Tw.X
open Go Go.Tw
structure aO where
 rune:Int
 aL:Int
 part:Int
 deriving DecidableEq,Inhabited
structure aQ where
 l:List aO
 wrapped:Bool
 deriving DecidableEq,Inhabited
structure bW where
 rune:Int
 aL:Int
 deriving DecidableEq,Inhabited
noncomputable def ja (n_:Int) (lo:Int) (hi:Int):Option Int :=
 (bif (decide (n_ < lo)) then some lo else (bif (decide (n_ > hi)) then some hi else some n_))
noncomputable def eR (w:Int) (aL:Int):Option aQ :=
 (Option.bind (iter (σ:=(List aO)×Int) (ρ:=(List aO)) (fun a=>(Option.bind (ja w 0 1000) fun b=>(bif (decide (a.2 < b)) then (Option.bind (chk (dC a.1.length [(aO.mk 32 aL 0)].length 24)) fun _=>some (.inl ((a.1++[(aO.mk 32 aL 0)]),(IntKind.i64.wrap (a.2+1))))) else some (.inr a.1)))) (([]:List aO),0)) fun c=>some (aQ.mk c false))
noncomputable def dZ (l:List aO):Option aQ :=
 (Option.bind (iter (σ:=Int×(List aO)) (ρ:=(List aO)) (fun a=>(bif (decide (a.1 < (l.length:Int))) then (Option.bind (idx l a.1) fun b=>(Option.bind ((bif (b.part == 1) then (bif ((IntKind.i64.wrap (a.1+1)) == (l.length:Int)) then some true else (Option.bind (idx l (IntKind.i64.wrap (a.1+1))) fun d=>some (d.part != 2))) else (bif (b.part == 2) then (bif (a.1 == 0) then some true else (Option.bind (idx a.2 (IntKind.i64.wrap (a.1 - 1))) fun e=>some (e.part != 1))) else (bif (b.part == 3) then some (decide (a.1 < (IntKind.i64.wrap ((l.length:Int) - 1)))) else some false))):Option Bool) fun f=>(Option.bind ((bif f then some (aO.mk 32 b.aL 0) else some b):Option aO) fun c=>(Option.bind (chk (dC a.2.length [c].length 24)) fun _=>some (.inl ((IntKind.i64.wrap (a.1+1)),(a.2++[c]))))))) else some (.inr a.2))) (0,([]:List aO))) fun g=>some (aQ.mk g false))
noncomputable def kO (r_:aQ) (at_:Int) (x_:Int) (aL:Int):Option aQ :=
 (Option.bind (lI x_) fun r3=>(Option.bind ((bif (r3 == 0) then some true else (bif (decide (at_ < 0)) then some true else some (decide (at_ > (IntKind.i64.wrap ((r_.l.length:Int) - r3)))))):Option Bool) fun a=>(bif a then (Option.bind (dZ r_.l) fun b=>some b) else (Option.bind (chk (dC ([]:List aO).length r_.l.length 24)) fun _=>(Option.bind (idx (([]:List aO)++r_.l) at_) fun h=>(Option.bind ((bif (r3 == 2) then (Option.bind (idx ((([]:List aO)++r_.l).set at_.toNat (aO.mk x_ aL 0)) at_) fun i=>(Option.bind (idx (((([]:List aO)++r_.l).set at_.toNat (aO.mk x_ aL 0)).set at_.toNat (aO.mk x_ aL 1)) (IntKind.i64.wrap (at_+1))) fun j=>(Option.bind ((bif (decide (at_ > 0)) then (Option.bind (idx ((((([]:List aO)++r_.l).set at_.toNat (aO.mk x_ aL 0)).set at_.toNat (aO.mk x_ aL 1)).set ((IntKind.i64.wrap (at_+1)).toNat) (aO.mk x_ aL 2)) (IntKind.i64.wrap (at_ - 1))) fun c=>some (c.part == 1)) else some false):Option Bool) fun d=>(bif d then (Option.bind (idx ((((([]:List aO)++r_.l).set at_.toNat (aO.mk x_ aL 0)).set at_.toNat (aO.mk x_ aL 1)).set ((IntKind.i64.wrap (at_+1)).toNat) (aO.mk x_ aL 2)) (IntKind.i64.wrap (at_ - 1))) fun e=>(Option.bind (idx ((((([]:List aO)++r_.l).set at_.toNat (aO.mk x_ aL 0)).set at_.toNat (aO.mk x_ aL 1)).set ((IntKind.i64.wrap (at_+1)).toNat) (aO.mk x_ aL 2)) (IntKind.i64.wrap (at_ - 1))) fun k=>some (((((([]:List aO)++r_.l).set at_.toNat (aO.mk x_ aL 0)).set at_.toNat (aO.mk x_ aL 1)).set ((IntKind.i64.wrap (at_+1)).toNat) (aO.mk x_ aL 2)).set ((IntKind.i64.wrap (at_ - 1)).toNat) (aO.mk 32 e.aL 0)))) else some ((((([]:List aO)++r_.l).set at_.toNat (aO.mk x_ aL 0)).set at_.toNat (aO.mk x_ aL 1)).set ((IntKind.i64.wrap (at_+1)).toNat) (aO.mk x_ aL 2)))))) else some ((([]:List aO)++r_.l).set at_.toNat (aO.mk x_ aL 0))):Option (List aO)) fun f=>(Option.bind (dZ f) fun g=>some g)))))))
noncomputable def jt (r_:aQ) (from_:Int) (to:Int) (aL:Int):Option aQ :=
 (Option.bind (chk (dC ([]:List aO).length r_.l.length 24)) fun _=>(Option.bind (iter (σ:=Int×(List aO)) (ρ:=(List aO)) (fun a=>(bif (decide (a.1 < ((([]:List aO)++r_.l).length:Int))) then (Option.bind ((Option.bind ((bif (decide (a.1≥from_)) then some (decide (a.1 < to)) else some false):Option Bool) fun b=>(bif b then (Option.bind (idx a.2 a.1) fun f=>some (a.2.set a.1.toNat (aO.mk 32 aL 0))) else some a.2)):Option (List aO)) fun c=>some (.inl ((IntKind.i64.wrap (a.1+1)),c))) else some (.inr a.2))) (0,(([]:List aO)++r_.l))) fun d=>(Option.bind (dZ d) fun e=>some e)))
noncomputable def iS (r_:aQ) (at_:Int) (n_:Int) (aL:Int):Option aQ :=
 (Option.bind ((bif (decide (at_ < 0)) then some true else (bif (decide (at_≥(r_.l.length:Int))) then some true else some (decide (n_≤0)))):Option Bool) fun e8=>(bif e8 then (Option.bind (dZ r_.l) fun b=>some b) else (Option.bind (chk (cX 0 at_ r_.l.length)) fun _=>(Option.bind (chk (dC ([]:List aO).length (cut r_.l 0 at_).length 24)) fun _=>(Option.bind (eR (dF n_ (IntKind.i64.wrap ((r_.l.length:Int) - at_))) aL) fun a=>(Option.bind (chk (dC (([]:List aO)++(cut r_.l 0 at_)).length a.l.length 24)) fun _=>(Option.bind (chk (cX at_ (IntKind.i64.wrap ((r_.l.length:Int) - (dF n_ (IntKind.i64.wrap ((r_.l.length:Int) - at_))))) r_.l.length)) fun _=>(Option.bind (chk (dC ((([]:List aO)++(cut r_.l 0 at_))++a.l).length (cut r_.l at_ (IntKind.i64.wrap ((r_.l.length:Int) - (dF n_ (IntKind.i64.wrap ((r_.l.length:Int) - at_)))))).length 24)) fun _=>(Option.bind (dZ (((([]:List aO)++(cut r_.l 0 at_))++a.l)++(cut r_.l at_ (IntKind.i64.wrap ((r_.l.length:Int) - (dF n_ (IntKind.i64.wrap ((r_.l.length:Int) - at_)))))))) fun c=>some c)))))))))
noncomputable def iT (r_:aQ) (at_:Int) (n_:Int) (aL:Int):Option aQ :=
 (Option.bind ((bif (decide (at_ < 0)) then some true else (bif (decide (at_≥(r_.l.length:Int))) then some true else some (decide (n_≤0)))):Option Bool) fun e8=>(bif e8 then (Option.bind (dZ r_.l) fun b=>some b) else (Option.bind (chk (cX 0 at_ r_.l.length)) fun _=>(Option.bind (chk (dC ([]:List aO).length (cut r_.l 0 at_).length 24)) fun _=>(Option.bind (chk (cX (IntKind.i64.wrap (at_+(dF n_ (IntKind.i64.wrap ((r_.l.length:Int) - at_))))) (r_.l.length:Int) r_.l.length)) fun _=>(Option.bind (chk (dC (([]:List aO)++(cut r_.l 0 at_)).length (cut r_.l (IntKind.i64.wrap (at_+(dF n_ (IntKind.i64.wrap ((r_.l.length:Int) - at_))))) (r_.l.length:Int)).length 24)) fun _=>(Option.bind (eR (dF n_ (IntKind.i64.wrap ((r_.l.length:Int) - at_))) aL) fun a=>(Option.bind (chk (dC ((([]:List aO)++(cut r_.l 0 at_))++(cut r_.l (IntKind.i64.wrap (at_+(dF n_ (IntKind.i64.wrap ((r_.l.length:Int) - at_))))) (r_.l.length:Int))).length a.l.length 24)) fun _=>(Option.bind (dZ (((([]:List aO)++(cut r_.l 0 at_))++(cut r_.l (IntKind.i64.wrap (at_+(dF n_ (IntKind.i64.wrap ((r_.l.length:Int) - at_))))) (r_.l.length:Int)))++a.l)) fun c=>some c)))))))))
noncomputable def jb (r_:aQ) (aL:Int):Option aQ :=
 (Option.bind (chk (dC ([]:List aO).length r_.l.length 24)) fun _=>(Option.bind ((bif (decide (((([]:List aO)++r_.l).length:Int) > 0)) then (Option.bind (idx (([]:List aO)++r_.l) (IntKind.i64.wrap (((([]:List aO)++r_.l).length:Int) - 1))) fun c=>some ((([]:List aO)++r_.l).set ((IntKind.i64.wrap (((([]:List aO)++r_.l).length:Int) - 1)).toNat) (aO.mk 32 aL 3))) else some (([]:List aO)++r_.l)):Option (List aO)) fun a=>(Option.bind (dZ a) fun b=>some (aQ.mk b.l true))))
noncomputable def gU (r_:aQ) (w:Int):Option aQ :=
 (Option.bind (ja w 0 1000) fun r3=>(bif (r3 == (r_.l.length:Int)) then some r_ else (Option.bind (chk (cX 0 (dF r3 (r_.l.length:Int)) r_.l.length)) fun _=>(Option.bind (chk (dC ([]:List aO).length (cut r_.l 0 (dF r3 (r_.l.length:Int))).length 24)) fun _=>(Option.bind (eR (IntKind.i64.wrap (r3 - ((([]:List aO)++(cut r_.l 0 (dF r3 (r_.l.length:Int)))).length:Int))) 0) fun a=>(Option.bind (chk (dC (([]:List aO)++(cut r_.l 0 (dF r3 (r_.l.length:Int)))).length a.l.length 24)) fun _=>(Option.bind (dZ ((([]:List aO)++(cut r_.l 0 (dF r3 (r_.l.length:Int))))++a.l)) fun b=>some b)))))))
noncomputable def iU (r_:aQ):Option (List bW) :=
 (Option.bind (iter (σ:=Int) (ρ:=Int) (fun c=>(Option.bind ((bif (decide (c > 0)) then (bif (!r_.wrapped) then (Option.bind (idx r_.l (IntKind.i64.wrap (c - 1))) fun d=>some ((d.rune == 32) && ((d.aL == 0) && ((d.part == 0) && true)))) else some false) else some false):Option Bool) fun f=>(bif f then some (.inl (IntKind.i64.wrap (c - 1))) else some (.inr c)))) (r_.l.length:Int)) fun e=>(Option.bind (chk (cX 0 e r_.l.length)) fun _=>(Option.bind (iter (σ:=Int×(List bW)) (ρ:=(List bW)) (fun a=>(bif (decide (a.1 < ((cut r_.l 0 e).length:Int))) then (Option.bind ((Option.bind (idx (cut r_.l 0 e) a.1) fun b=>(Option.bind ((bif (b.part == 0) then some true else some (b.part == 1)):Option Bool) fun g=>(bif g then (Option.bind (chk (dC a.2.length [(bW.mk b.rune b.aL)].length 16)) fun _=>some (a.2++[(bW.mk b.rune b.aL)])) else some a.2))):Option (List bW)) fun h=>some (.inl ((IntKind.i64.wrap (a.1+1)),h))) else some (.inr a.2))) (0,([]:List bW))) fun i=>some i)))
end Go.Tw.X
set_option linter.unusedVariables false
set_option linter.unusedSimpArgs false
set_option maxRecDepth 10000
namespace Go.Tw.X
open Go Go.Tw
noncomputable def jH (r_:aE) (x_:aQ):Option Bool :=
 (Option.bind ((bif ((r_.cells.length:Int) != (x_.l.length:Int)) then some true else some (!(r_.wrapped == x_.wrapped))):Option Bool) fun e6=>(bif e6 then some false else (Option.bind (iter (σ:=Int) (ρ:=Unit ⊕ Bool) (fun a=>(bif (decide (a < (r_.cells.length:Int))) then (Option.bind (idx r_.cells a) fun b=>(Option.bind ((Option.bind (idx x_.l a) fun c=>(bif ((IntKind.i64.wrap b.rune) != c.rune) then some true else (Option.bind (idx x_.l a) fun d=>(bif (b.aL != d.aL) then some true else (Option.bind (idx x_.l a) fun e=>some (b.part != e.part)))))):Option Bool) fun f=>(bif f then (lT (some false)) else some (.inl (IntKind.i64.wrap (a+1)))))) else some (.inr (.inl ())))) 0) fun | .inl e712=>some true | .inr w=>some w)))
noncomputable def iV (l:List aH) (x_:List bW):Option Bool :=
 (bif ((l.length:Int) != (x_.length:Int)) then some false else (Option.bind (iter (σ:=Int) (ρ:=Unit ⊕ Bool) (fun a=>(bif (decide (a < (l.length:Int))) then (Option.bind (idx l a) fun b=>(Option.bind ((Option.bind (idx x_ a) fun c=>(bif ((IntKind.i64.wrap b.rune) != c.rune) then some true else (Option.bind (idx x_ a) fun d=>some (b.aL != d.aL)))):Option Bool) fun e=>(bif e then (lT (some false)) else some (.inl (IntKind.i64.wrap (a+1)))))) else some (.inr (.inl ())))) 0) fun | .inl e523=>some true | .inr w=>some w))
end Go.Tw.X
set_option linter.unusedVariables false
set_option linter.unusedSimpArgs false
set_option maxRecDepth 10000
namespace Go.Tw.X
open Go Go.Tw
noncomputable def jI (r_:Int):Option ByteArray :=
 (Option.bind ((bif (decide (r_ < 0)) then some true else (bif (decide (r_ > 1114111)) then some true else (bif (decide (r_≥55296)) then some (decide (r_≤57343)) else some false))):Option Bool) fun e8=>(Option.bind ((bif e8 then some 65533 else some r_):Option Int) fun a=>(bif (decide (a < 128)) then some (gS [(IntKind.u8.wrap a)]) else (bif (decide (a < 2048)) then some (gS [(IntKind.u8.wrap (IntKind.i64.wrap (192+(IntKind.i64.wrap (a.tdiv 64))))),(IntKind.u8.wrap (IntKind.i64.wrap (128+(a.tmod 64))))]) else (bif (decide (a < 65536)) then some (gS [(IntKind.u8.wrap (IntKind.i64.wrap (224+(IntKind.i64.wrap (a.tdiv 4096))))),(IntKind.u8.wrap (IntKind.i64.wrap (128+((IntKind.i64.wrap (a.tdiv 64)).tmod 64)))),(IntKind.u8.wrap (IntKind.i64.wrap (128+(a.tmod 64))))]) else some (gS [(IntKind.u8.wrap (IntKind.i64.wrap (240+(IntKind.i64.wrap (a.tdiv 262144))))),(IntKind.u8.wrap (IntKind.i64.wrap (128+((IntKind.i64.wrap (a.tdiv 4096)).tmod 64)))),(IntKind.u8.wrap (IntKind.i64.wrap (128+((IntKind.i64.wrap (a.tdiv 64)).tmod 64)))),(IntKind.u8.wrap (IntKind.i64.wrap (128+(a.tmod 64))))]))))))
noncomputable def k7 (b:Int):Option (Int×Int×Int) :=
 (Option.bind ((bif (decide (b≥194)) then some (decide (b≤223)) else some false):Option Bool) fun e4=>(bif e4 then some (1,128,191) else (bif (b == 224) then some (2,160,191) else (bif (b == 237) then some (2,128,159) else (Option.bind ((bif (decide (b≥225)) then some (decide (b≤239)) else some false):Option Bool) fun a=>(bif a then some (2,128,191) else (bif (b == 240) then some (3,144,191) else (bif (b == 244) then some (3,128,143) else (Option.bind ((bif (decide (b≥241)) then some (decide (b≤243)) else some false):Option Bool) fun c=>(bif c then some (3,128,191) else some (0,0,0)))))))))))
noncomputable def kl (s_:ByteArray):Option ((List Int)×Int) :=
 (Option.bind (iter (σ:=(List Int)×Int) (ρ:=(List Int) ⊕ ((List Int)×Int)) (fun a=>(bif (decide (a.2 < (s_.size:Int))) then (Option.bind (jY s_ a.2) fun b696=>(bif (decide ((IntKind.i64.wrap b696) < 128)) then (Option.bind (chk (dC a.1.length [(IntKind.i64.wrap b696)].length 8)) fun _=>some (.inl ((a.1++[(IntKind.i64.wrap b696)]),(IntKind.i64.wrap (a.2+1))))) else (Option.bind (k7 (IntKind.i64.wrap b696)) fun c=>(bif (c.1 == 0) then (Option.bind (chk (dC a.1.length [65533].length 8)) fun _=>some (.inl ((a.1++[65533]),(IntKind.i64.wrap (a.2+1))))) else (Option.bind (idx [0,32,16,8] c.1) fun e=>(Option.bind (chk (decide (e≠0))) fun _=>(Option.bind (iter (σ:=Int×Int×Int×Int) (ρ:=Int×Int) (fun b=>(Option.bind ((bif (decide (b.2.1≤c.1)) then some (decide ((IntKind.i64.wrap (a.2+b.2.1)) < (s_.size:Int))) else some false):Option Bool) fun f=>(bif f then (Option.bind (jY s_ (IntKind.i64.wrap (a.2+b.2.1))) fun b839=>(Option.bind ((bif (decide ((IntKind.i64.wrap b839) < b.2.2.1)) then some true else some (decide ((IntKind.i64.wrap b839) > b.2.2.2))):Option Bool) fun g=>(bif g then some (.inr (b.1,b.2.1)) else some (.inl ((IntKind.i64.wrap ((IntKind.i64.wrap (b.1*64))+((IntKind.i64.wrap b839).tmod 64))),(IntKind.i64.wrap (b.2.1+1)),128,191))))) else some (.inr (b.1,b.2.1))))) (((IntKind.i64.wrap b696).tmod e),1,c.2.1,c.2.2)) fun d=>(Option.bind ((bif (decide (d.2 > c.1)) then (Option.bind (chk (dC a.1.length [d.1].length 8)) fun _=>some (.inl (a.1++[d.1]))) else (bif ((IntKind.i64.wrap (a.2+d.2)) == (s_.size:Int)) then (iM (lT (some (a.1,d.2)))) else (Option.bind (chk (dC a.1.length [65533].length 8)) fun _=>some (.inl (a.1++[65533]))))):Option ((List Int) ⊕ (((List Int)×Int) ⊕ ((List Int) ⊕ ((List Int)×Int))))) fun | .inl e891=>some (.inl (e891,(IntKind.i64.wrap (a.2+d.2)))) | .inr w=>some w)))))))) else some (.inr (.inl a.1)))) (([]:List Int),0)) fun | .inl e686=>some (e686,0) | .inr w=>some w)
end Go.Tw.X
set_option linter.unusedVariables false
set_option linter.unusedSimpArgs false
set_option maxRecDepth 10000
namespace Go.Tw.X
open Go Go.Tw
structure cH where
 w:Int
 l:List aQ
 deriving DecidableEq,Inhabited
noncomputable def iA (n_:Int):Option Int :=
 some (imax 1 (dF n_ 1000))
noncomputable def lX (w:Int) (h_:Int):Option cH :=
 (Option.bind (iA w) fun r2=>(Option.bind (iter (σ:=cH×Int) (ρ:=cH) (fun a=>(Option.bind (iA h_) fun c=>(bif (decide (a.2 < c)) then (Option.bind (eR a.1.w 0) fun b=>(Option.bind (chk (dC a.1.l.length [b].length 32)) fun _=>some (.inl ((cH.mk a.1.w (a.1.l++[b])),(IntKind.i64.wrap (a.2+1)))))) else some (.inr a.1)))) ((cH.mk r2 ([]:List aQ)),0)) fun d=>some d))
noncomputable def jJ (g:cH) (y:Int) (r_:aQ):Option (cH×Bool) :=
 (Option.bind ((bif (decide (y < 0)) then some true else some (decide (y≥(g.l.length:Int)))):Option Bool) fun e7=>(bif e7 then some (g,false) else (Option.bind (chk (dC ([]:List aQ).length g.l.length 32)) fun _=>(Option.bind (gU r_ g.w) fun a=>(Option.bind (idx (([]:List aQ)++g.l) y) fun b=>some ((cH.mk g.w ((([]:List aQ)++g.l).set y.toNat a)),true))))))
noncomputable def dD (g:cH) (up:Bool) (top:Int) (aG:Int) (n_:Int) (aL:Int):Option (cH×(List aQ)) :=
 (bif (decide ((imax 0 (dF aG (IntKind.i64.wrap ((g.l.length:Int) - 1)))) < (imax 0 (dF top (IntKind.i64.wrap ((g.l.length:Int) - 1)))))) then some (g,([]:List aQ)) else (Option.bind (chk (dC ([]:List aQ).length g.l.length 32)) fun _=>(Option.bind (eR g.w aL) fun d=>(Option.bind (iter (σ:=(List aQ)×(List aQ)×Int) (ρ:=(List aQ)×(List aQ)) (fun a=>(Option.bind ((bif (decide (a.2.2 < n_)) then some (decide (a.2.2≤(IntKind.i64.wrap ((imax 0 (dF aG (IntKind.i64.wrap ((g.l.length:Int) - 1)))) - (imax 0 (dF top (IntKind.i64.wrap ((g.l.length:Int) - 1)))))))) else some false):Option Bool) fun m=>(bif m then (Option.bind ((bif up then (Option.bind (idx a.2.1 (imax 0 (dF top (IntKind.i64.wrap ((g.l.length:Int) - 1))))) fun e=>(Option.bind (chk (dC a.1.length [e].length 32)) fun _=>(Option.bind (iter (σ:=(List aQ)×Int) (ρ:=(List aQ)) (fun b=>(bif (decide (b.2 < (imax 0 (dF aG (IntKind.i64.wrap ((g.l.length:Int) - 1)))))) then (Option.bind (idx b.1 (IntKind.i64.wrap (b.2+1))) fun n=>(Option.bind (idx b.1 b.2) fun p=>some (.inl ((b.1.set b.2.toNat n),(IntKind.i64.wrap (b.2+1)))))) else some (.inr b.1))) (a.2.1,(imax 0 (dF top (IntKind.i64.wrap ((g.l.length:Int) - 1)))))) fun f=>(Option.bind (idx f (imax 0 (dF aG (IntKind.i64.wrap ((g.l.length:Int) - 1))))) fun q=>some ((a.1++[e]),(f.set ((imax 0 (dF aG (IntKind.i64.wrap ((g.l.length:Int) - 1)))).toNat) d)))))) else (Option.bind (idx a.2.1 (imax 0 (dF aG (IntKind.i64.wrap ((g.l.length:Int) - 1))))) fun h=>(Option.bind (chk (dC a.1.length [h].length 32)) fun _=>(Option.bind (iter (σ:=(List aQ)×Int) (ρ:=(List aQ)) (fun c=>(bif (decide (c.2 > (imax 0 (dF top (IntKind.i64.wrap ((g.l.length:Int) - 1)))))) then (Option.bind (idx c.1 (IntKind.i64.wrap (c.2 - 1))) fun o=>(Option.bind (idx c.1 c.2) fun r=>some (.inl ((c.1.set c.2.toNat o),(IntKind.i64.wrap (c.2 - 1)))))) else some (.inr c.1))) (a.2.1,(imax 0 (dF aG (IntKind.i64.wrap ((g.l.length:Int) - 1)))))) fun i=>(Option.bind (idx i (imax 0 (dF top (IntKind.i64.wrap ((g.l.length:Int) - 1))))) fun s=>some ((a.1++[h]),(i.set ((imax 0 (dF top (IntKind.i64.wrap ((g.l.length:Int) - 1)))).toNat) d))))))):Option ((List aQ)×(List aQ))) fun j=>some (.inl (j.1,j.2,(IntKind.i64.wrap (a.2.2+1))))) else some (.inr (a.1,a.2.1))))) (([]:List aQ),(([]:List aQ)++g.l),0)) fun k=>some ((cH.mk g.w k.2),k.1)))))
noncomputable def jK (g:cH) (w:Int) (h_:Int) (off:Int):Option (cH×(List aQ)) :=
 (Option.bind (iA w) fun r3=>(Option.bind (iter (σ:=cH×Int) (ρ:=cH) (fun a=>(Option.bind (iA h_) fun d=>(bif (decide (a.2 < d)) then (Option.bind ((bif (decide ((IntKind.i64.wrap ((imax 0 (dF off (IntKind.i64.wrap ((g.l.length:Int) - 1))))+a.2)) < (g.l.length:Int))) then (Option.bind (idx g.l (IntKind.i64.wrap ((imax 0 (dF off (IntKind.i64.wrap ((g.l.length:Int) - 1))))+a.2))) fun e=>(Option.bind (gU e a.1.w) fun b=>(Option.bind (chk (dC a.1.l.length [b].length 32)) fun _=>some (cH.mk a.1.w (a.1.l++[b]))))) else (Option.bind (eR a.1.w 0) fun c=>(Option.bind (chk (dC a.1.l.length [c].length 32)) fun _=>some (cH.mk a.1.w (a.1.l++[c]))))):Option cH) fun f=>some (.inl (f,(IntKind.i64.wrap (a.2+1))))) else some (.inr a.1)))) ((cH.mk r3 ([]:List aQ)),0)) fun h=>(Option.bind (chk (cX 0 (imax 0 (dF off (IntKind.i64.wrap ((g.l.length:Int) - 1)))) g.l.length)) fun _=>some (h,(cut g.l 0 (imax 0 (dF off (IntKind.i64.wrap ((g.l.length:Int) - 1)))))))))
noncomputable def k8 (r_:aQ):Option ByteArray :=
 (Option.bind (iU r_) fun r2=>(Option.bind (iter (σ:=ByteArray×Int) (ρ:=ByteArray) (fun a=>(bif (decide (a.2 < (r2.length:Int))) then (Option.bind (idx r2 a.2) fun c=>(Option.bind (jI c.rune) fun b=>(Option.bind (chk (uP a.1.size b.size)) fun _=>some (.inl ((a.1++b),(IntKind.i64.wrap (a.2+1))))))) else some (.inr a.1))) ((ByteArray.mk #[]),0)) fun d=>some d))
end Go.Tw.X
set_option linter.unusedVariables false
set_option linter.unusedSimpArgs false
set_option maxRecDepth 10000
namespace Go.Tw.X
open Go Go.Tw
noncomputable def fO (l:List aE) (x_:List aQ):Option Bool :=
 (bif ((l.length:Int) != (x_.length:Int)) then some false else (Option.bind (iter (σ:=Int) (ρ:=Unit ⊕ Bool) (fun a=>(bif (decide (a < (x_.length:Int))) then (Option.bind (idx l a) fun b=>(Option.bind (idx x_ a) fun c=>(Option.bind (jH b c) fun d=>(bif (!d) then (lT (some false)) else some (.inl (IntKind.i64.wrap (a+1))))))) else some (.inr (.inl ())))) 0) fun | .inl e571=>some true | .inr w=>some w))
noncomputable def lJ (g:aX) (x_:cH):Option (Bool×aX) :=
 (Option.bind (cY g) fun r2=>(Option.bind (iQ g) fun r5=>(Option.bind ((bif (r2.1 != x_.w) then some (true,g) else (bif (r2.2 != (x_.l.length:Int)) then some (true,g) else (Option.bind (gP g) fun a=>(Option.bind (fO a.1 x_.l) fun e=>(bif (!e) then some (true,a.2) else (bif ((r5.length:Int) != r2.2) then some (true,a.2) else (Option.bind (dI a.2 (-1)) fun f=>(bif ((f.cells.length:Int) != 0) then some (true,a.2) else (Option.bind (dI a.2 r2.2) fun h=>some (((h.cells.length:Int) != 0),a.2)))))))))):Option (Bool×aX)) fun b=>(bif b.1 then some (false,b.2) else (Option.bind (iter (σ:=Int) (ρ:=Unit ⊕ (Bool×aX)) (fun c=>(bif (decide (c < (x_.l.length:Int))) then (Option.bind (idx x_.l c) fun d=>(Option.bind ((Option.bind (dI b.2 c) fun i=>(Option.bind (jH i d) fun j=>(bif (!j) then some true else (Option.bind (idx r5 c) fun k=>(Option.bind (k8 d) fun m=>some (!(k.toList == m.toList))))))):Option Bool) fun n=>(bif n then (lT (some (false,b.2))) else some (.inl (IntKind.i64.wrap (c+1)))))) else some (.inr (.inl ())))) 0) fun | .inl e935=>some (true,b.2) | .inr w=>some w)))))
end Go.Tw.X
set_option linter.unusedVariables false
set_option linter.unusedSimpArgs false
set_option maxRecDepth 10000
namespace Go.Tw.X
open Go Go.Tw
structure aN where
 kind:Int
 rune:Int
 byte:Int
 cG:Bool
 bB:List Int
 text:ByteArray
 deriving DecidableEq,Inhabited
noncomputable def jL (l:List Int):Option (List aN) :=
 (Option.bind (iter (σ:=(List aN)×Int) (ρ:=(List aN)) (fun a=>(bif (decide (a.2 < (l.length:Int))) then (Option.bind (idx l a.2) fun b=>(Option.bind (chk (dC a.1.length ([(aN.mk 1 b 0 false ([]:List Int) (ByteArray.mk #[]))]).length 72)) fun _=>some (.inl ((a.1++[(aN.mk 1 b 0 false ([]:List Int) (ByteArray.mk #[]))]),(IntKind.i64.wrap (a.2+1)))))) else some (.inr a.1))) (([]:List aN),0)) fun c=>some c)
noncomputable def iW (s_:ByteArray):Option (List aN) :=
 (Option.bind ((bif (decide ((s_.size:Int) > 200)) then (Option.bind (chk (cX 0 200 s_.size)) fun _=>some (lF s_ 0 200)) else some s_):Option ByteArray) fun e8=>(Option.bind ((bif (decide ((e8.size:Int) > 1)) then (Option.bind (jY e8 0) fun b49=>(bif (b49 == 48) then (Option.bind (jY e8 1) fun b53=>some (b53 == 59)) else (Option.bind (jY e8 0) fun b56=>(bif (b56 == 50) then (Option.bind (jY e8 1) fun b60=>some (b60 == 59)) else some false)))) else some false):Option Bool) fun a=>(bif a then (Option.bind (chk (cX 2 (e8.size:Int) e8.size)) fun _=>some ([(aN.mk 5 0 0 false ([]:List Int) (lF e8 2 (e8.size:Int)))])) else some ([]:List aN))))
noncomputable def km (s_:ByteArray) (last:Int):Option (List aN) :=
 (Option.bind ((bif (!(s_.toList == (ByteArray.mk #[]).toList)) then (Option.bind (jY s_ 0) fun b15=>some (b15 == 63)) else some false):Option Bool) fun c=>(Option.bind ((bif c then (Option.bind (chk (cX 1 (s_.size:Int) s_.size)) fun _=>some ((lF s_ 1 (s_.size:Int)),(aN.mk 4 0 last true ([]:List Int) (ByteArray.mk #[])))) else some (s_,(aN.mk 4 0 last false ([]:List Int) (ByteArray.mk #[])))):Option (ByteArray×aN)) fun b=>(bif (b.1.toList == (ByteArray.mk #[]).toList) then some [b.2] else (Option.bind (iter (σ:=aN×Int×Int) (ρ:=aN ⊕ (List aN)) (fun a=>(bif (decide (a.2.2≤(b.1.size:Int))) then (Option.bind ((Option.bind ((bif (decide (a.2.2 < (b.1.size:Int))) then (Option.bind (jY b.1 a.2.2) fun b1247=>(bif (decide (b1247≥48)) then (Option.bind (jY b.1 a.2.2) fun b1251=>some (decide (b1251≤57))) else some false)) else some false):Option Bool) fun d=>(bif d then (Option.bind (jY b.1 a.2.2) fun b1259=>some (.inl ((dF 9999 (IntKind.i64.wrap ((IntKind.i64.wrap ((IntKind.i64.wrap (10*a.2.1))+(IntKind.i64.wrap b1259))) - 48))),a.1))) else (Option.bind ((bif (decide (a.2.2 < (b.1.size:Int))) then (Option.bind (jY b.1 a.2.2) fun b1283=>(bif (b1283 != 59) then (Option.bind (jY b.1 a.2.2) fun b1287=>some (b1287 != 58)) else some false)) else some false):Option Bool) fun e=>(bif e then (iM (lT (some ([]:List aN)))) else (Option.bind ((bif (decide ((a.1.bB.length:Int) < 16)) then (Option.bind (chk (dC a.1.bB.length [a.2.1].length 8)) fun _=>some (aN.mk a.1.kind a.1.rune a.1.byte a.1.cG (a.1.bB++[a.2.1]) a.1.text)) else some a.1):Option aN) fun f=>some (.inl (0,f))))))):Option ((Int×aN) ⊕ ((aN×Int×Int) ⊕ (aN ⊕ (List aN))))) fun | .inl e1222=>some (.inl (e1222.2,e1222.1,(IntKind.i64.wrap (a.2.2+1)))) | .inr w=>some w) else some (.inr (.inl a.1)))) (b.2,0,0)) fun | .inl e1007=>some [e1007] | .inr w=>some w))))
noncomputable def k9 (s_:ByteArray):Option (List aN) :=
 (Option.bind (iter (σ:=(List aN)×Int×Int×ByteArray) (ρ:=(List aN) ⊕ (List aN)) (fun a=>(bif (decide (a.2.2.1 < (s_.size:Int))) then (Option.bind ((bif (a.2.1 == 0) then (Option.bind (iter (σ:=Int) (ρ:=Int) (fun b=>(Option.bind ((bif (decide (b < (s_.size:Int))) then (Option.bind (jY s_ b) fun b3441=>(bif (decide (b3441≥32)) then (Option.bind (jY s_ b) fun b3445=>some (b3445 != 127)) else some false)) else some false):Option Bool) fun i=>(bif i then some (.inl (IntKind.i64.wrap (b+1))) else some (.inr b)))) a.2.2.1) fun d=>(Option.bind (chk (cX a.2.2.1 d s_.size)) fun _=>(Option.bind (kl (lF s_ a.2.2.1 d)) fun e=>(Option.bind (jL e.1) fun c=>(Option.bind (chk (dC a.1.length c.length 72)) fun _=>(bif (d == (s_.size:Int)) then (iM (lT (some (a.1++c)))) else (Option.bind ((bif (decide (e.2 > 0)) then (Option.bind (chk (dC (a.1++c).length ([(aN.mk 1 65533 0 false ([]:List Int) (ByteArray.mk #[]))]).length 72)) fun _=>some ((a.1++c)++[(aN.mk 1 65533 0 false ([]:List Int) (ByteArray.mk #[]))])) else some (a.1++c)):Option (List aN)) fun j=>some (.inl (j,d))))))))) else some (.inl (a.1,a.2.2.1))):Option (((List aN)×Int) ⊕ (((List aN)×Int×Int×ByteArray) ⊕ ((List aN) ⊕ (List aN))))) fun | .inl e3313=>(Option.bind (jY s_ e3313.2) fun b3514=>(bif (a.2.1 == 4) then (Option.bind ((bif ((IntKind.i64.wrap b3514) == 7) then (Option.bind (iW a.2.2.2) fun f=>(Option.bind (chk (dC e3313.1.length f.length 72)) fun _=>some (.inl ((e3313.1++f),0,(IntKind.i64.wrap (e3313.2+1)),a.2.2.2)))) else (Option.bind ((bif ((IntKind.i64.wrap b3514) == 24) then some true else some ((IntKind.i64.wrap b3514) == 26)):Option Bool) fun k=>(bif k then some (.inl (e3313.1,0,(IntKind.i64.wrap (e3313.2+1)),a.2.2.2)) else (bif ((IntKind.i64.wrap b3514) != 27) then (Option.bind (chk (uP a.2.2.2.size (gS [(IntKind.u8.wrap (IntKind.i64.wrap b3514))]).size)) fun _=>some (.inl (e3313.1,a.2.1,(IntKind.i64.wrap (e3313.2+1)),(a.2.2.2++(gS [(IntKind.u8.wrap (IntKind.i64.wrap b3514))]))))) else (bif ((IntKind.i64.wrap (e3313.2+1)) == (s_.size:Int)) then (iM (lT (some e3313.1))) else (Option.bind (jY s_ (IntKind.i64.wrap (e3313.2+1))) fun b3795=>(bif (b3795 == 92) then (Option.bind (iW a.2.2.2) fun g=>(Option.bind (chk (dC e3313.1.length g.length 72)) fun _=>some (.inl ((e3313.1++g),0,(IntKind.i64.wrap ((IntKind.i64.wrap (e3313.2+1))+1)),a.2.2.2)))) else some (.inl (e3313.1,1,(IntKind.i64.wrap (e3313.2+1)),a.2.2.2))))))))):Option (((List aN)×Int×Int×ByteArray) ⊕ (((List aN)×Int×Int×ByteArray) ⊕ ((List aN) ⊕ (List aN))))) fun | .inl e3759=>some (.inl (e3759.1,e3759.2.1,e3759.2.2.1,e3759.2.2.2)) | .inr w=>some w) else (Option.bind ((bif ((IntKind.i64.wrap b3514) == 24) then some true else some ((IntKind.i64.wrap b3514) == 26)):Option Bool) fun l=>(bif l then some (.inl (e3313.1,0,(IntKind.i64.wrap (e3313.2+1)),a.2.2.2)) else (bif ((IntKind.i64.wrap b3514) == 27) then some (.inl (e3313.1,1,(IntKind.i64.wrap (e3313.2+1)),a.2.2.2)) else (bif (decide ((IntKind.i64.wrap b3514) < 32)) then (Option.bind (chk (dC e3313.1.length ([(aN.mk 2 0 (IntKind.i64.wrap b3514) false ([]:List Int) (ByteArray.mk #[]))]).length 72)) fun _=>some (.inl ((e3313.1++[(aN.mk 2 0 (IntKind.i64.wrap b3514) false ([]:List Int) (ByteArray.mk #[]))]),a.2.1,(IntKind.i64.wrap (e3313.2+1)),a.2.2.2))) else (bif ((IntKind.i64.wrap b3514) == 127) then some (.inl (e3313.1,a.2.1,(IntKind.i64.wrap (e3313.2+1)),a.2.2.2)) else (bif (a.2.1 == 1) then (bif ((IntKind.i64.wrap b3514) == 91) then some (.inl (e3313.1,3,(IntKind.i64.wrap (e3313.2+1)),(ByteArray.mk #[]))) else (bif ((IntKind.i64.wrap b3514) == 93) then some (.inl (e3313.1,4,(IntKind.i64.wrap (e3313.2+1)),(ByteArray.mk #[]))) else (bif (decide ((IntKind.i64.wrap b3514) < 48)) then some (.inl (e3313.1,2,(IntKind.i64.wrap (e3313.2+1)),(ByteArray.mk #[]))) else (bif (decide ((IntKind.i64.wrap b3514) < 127)) then (Option.bind (chk (dC e3313.1.length ([(aN.mk 3 0 (IntKind.i64.wrap b3514) false ([]:List Int) (ByteArray.mk #[]))]).length 72)) fun _=>some (.inl ((e3313.1++[(aN.mk 3 0 (IntKind.i64.wrap b3514) false ([]:List Int) (ByteArray.mk #[]))]),0,(IntKind.i64.wrap (e3313.2+1)),(ByteArray.mk #[])))) else some (.inl (e3313.1,0,(IntKind.i64.wrap (e3313.2+1)),(ByteArray.mk #[]))))))) else (bif (a.2.1 == 2) then (bif (decide ((IntKind.i64.wrap b3514)≥48)) then some (.inl (e3313.1,0,(IntKind.i64.wrap (e3313.2+1)),a.2.2.2)) else some (.inl (e3313.1,a.2.1,(IntKind.i64.wrap (e3313.2+1)),a.2.2.2))) else (bif (a.2.1 == 3) then (Option.bind ((bif (decide ((IntKind.i64.wrap b3514) < 64)) then some true else some (decide ((IntKind.i64.wrap b3514) > 126))):Option Bool) fun m=>(bif m then (Option.bind (chk (uP a.2.2.2.size (gS [(IntKind.u8.wrap (IntKind.i64.wrap b3514))]).size)) fun _=>some (.inl (e3313.1,a.2.1,(IntKind.i64.wrap (e3313.2+1)),(a.2.2.2++(gS [(IntKind.u8.wrap (IntKind.i64.wrap b3514))]))))) else (Option.bind (km a.2.2.2 (IntKind.i64.wrap b3514)) fun h=>(Option.bind (chk (dC e3313.1.length h.length 72)) fun _=>some (.inl ((e3313.1++h),0,(IntKind.i64.wrap (e3313.2+1)),a.2.2.2)))))) else some (.inl (e3313.1,a.2.1,(IntKind.i64.wrap (e3313.2+1)),a.2.2.2)))))))))))) | .inr w=>some w) else some (.inr (.inl a.1)))) (([]:List aN),0,0,(ByteArray.mk #[]))) fun | .inl e2912=>some e2912 | .inr w=>some w)
end Go.Tw.X
set_option linter.unusedVariables false
set_option linter.unusedSimpArgs false
set_option maxRecDepth 10000
namespace Go.Tw.X
open Go Go.Tw
structure bI where
 eT:Int
 back:Int
 bold:Bool
 under:Bool
 cN:Bool
 deriving DecidableEq,Inhabited
noncomputable def lY (s_:bI):Option Bool :=
 (Option.bind ((bif (decide (s_.eT≥0)) then (bif (decide (s_.eT≤8)) then (bif (decide (s_.back≥0)) then some (decide (s_.back≤8)) else some false) else some false) else some false):Option Bool) fun e9=>some e9)
noncomputable def gI (s_:bI):Option Int :=
 (Option.bind (lY s_) fun r2=>(bif (!r2) then some 0 else (Option.bind ((bif s_.bold then some (IntKind.i64.wrap ((IntKind.i64.wrap (s_.eT+(IntKind.i64.wrap (9*s_.back))))+81)) else some (IntKind.i64.wrap (s_.eT+(IntKind.i64.wrap (9*s_.back))))):Option Int) fun a=>(Option.bind ((bif s_.under then some (IntKind.i64.wrap (a+162)) else some a):Option Int) fun b=>(Option.bind ((bif s_.cN then some (IntKind.i64.wrap (b+324)) else some b):Option Int) fun c=>some c)))))
noncomputable def lZ (s_:bI) (l:List Int):Option bI :=
 (bif ((l.length:Int) == 0) then some (bI.mk 0 0 false false false) else (Option.bind (iter (σ:=bI×Int×Int) (ρ:=bI) (fun b=>(bif (decide (b.2.1 < (l.length:Int))) then (Option.bind ((Option.bind (idx l b.2.1) fun a=>(bif (decide (b.2.2 > 0)) then some ((IntKind.i64.wrap (b.2.2 - 1)),b.1) else (Option.bind ((bif (a == 38) then some true else some (a == 48)):Option Bool) fun m=>(bif m then (Option.bind ((bif (decide ((IntKind.i64.wrap (b.2.1+1)) < (l.length:Int))) then (Option.bind (idx l (IntKind.i64.wrap (b.2.1+1))) fun n=>some (n == 5)) else some false):Option Bool) fun o=>(Option.bind ((bif o then some 2 else some b.2.2):Option Int) fun p=>(Option.bind ((bif (decide ((IntKind.i64.wrap (b.2.1+1)) < (l.length:Int))) then (Option.bind (idx l (IntKind.i64.wrap (b.2.1+1))) fun q=>some (q == 2)) else some false):Option Bool) fun r=>(Option.bind ((bif r then some 4 else some p):Option Int) fun t=>some (t,b.1))))) else (Option.bind ((bif (a == 0) then some (bI.mk 0 0 false false false) else some b.1):Option bI) fun c=>(Option.bind ((bif (a == 1) then some true else some (a == 22)):Option Bool) fun u=>(Option.bind ((bif u then some (bI.mk c.eT c.back (decide (a < 10)) c.under c.cN) else some c):Option bI) fun d=>(Option.bind ((bif (a == 4) then some true else some (a == 24)):Option Bool) fun v=>(Option.bind ((bif v then some (bI.mk d.eT d.back d.bold (decide (a < 10)) d.cN) else some d):Option bI) fun e=>(Option.bind ((bif (a == 7) then some true else some (a == 27)):Option Bool) fun w=>(Option.bind ((bif w then some (bI.mk e.eT e.back e.bold e.under (decide (a < 10))) else some e):Option bI) fun f=>(Option.bind ((bif (decide (a≥30)) then some (decide (a≤37)) else some false):Option Bool) fun z=>(Option.bind ((bif z then some (bI.mk (IntKind.i64.wrap (a - 29)) f.back f.bold f.under f.cN) else some f):Option bI) fun h=>(Option.bind ((bif (a == 39) then some (bI.mk 0 h.back h.bold h.under h.cN) else some h):Option bI) fun i=>(Option.bind ((bif (decide (a≥40)) then some (decide (a≤47)) else some false):Option Bool) fun A=>(Option.bind ((bif A then some (bI.mk i.eT (IntKind.i64.wrap (a - 39)) i.bold i.under i.cN) else some i):Option bI) fun j=>(bif (a == 49) then some (b.2.2,(bI.mk j.eT 0 j.bold j.under j.cN)) else some (b.2.2,j)))))))))))))))))):Option (Int×bI)) fun k=>some (.inl (k.2,(IntKind.i64.wrap (b.2.1+1)),k.1))) else some (.inr b.1))) (s_,0,0)) fun B=>some B))
end Go.Tw.X
set_option linter.unusedVariables false
set_option linter.unusedSimpArgs false
set_option maxRecDepth 10000
namespace Go.Tw.X
open Go Go.Tw
structure aJ where
 g:cH
 x:Int
 y:Int
 s:bI
 sX:Int
 sY:Int
 sS:bI
 waiting:Bool
 top:Int
 aG:Int
 aY:Bool
 title:ByteArray
 deriving DecidableEq,Inhabited
noncomputable def kP (w:Int) (h_:Int):Option aJ :=
 (Option.bind (lX w h_) fun r2=>some (aJ.mk r2 0 0 (bI.mk 0 0 false false false) 0 0 (bI.mk 0 0 false false false) false 0 (IntKind.i64.wrap ((r2.l.length:Int) - 1)) true (ByteArray.mk #[])))
noncomputable def gb (s_:aJ) (r_:aQ):Option aJ :=
 (Option.bind (jJ s_.g s_.y r_) fun r4=>some (aJ.mk r4.1 s_.x s_.y s_.s s_.sX s_.sY s_.sS s_.waiting s_.top s_.aG s_.aY s_.title))
noncomputable def iX (s_:aJ) (n_:Int):Option (aJ×(List aQ)) :=
 (Option.bind (gI s_.s) fun b=>(Option.bind (dD s_.g true s_.top s_.aG n_ b) fun a=>(bif (decide (s_.top > 0)) then some ((aJ.mk a.1 s_.x s_.y s_.s s_.sX s_.sY s_.sS s_.waiting s_.top s_.aG s_.aY s_.title),([]:List aQ)) else some ((aJ.mk a.1 s_.x s_.y s_.s s_.sX s_.sY s_.sS s_.waiting s_.top s_.aG s_.aY s_.title),a.2))))
noncomputable def cI (s_:aJ) (x_:Int) (y:Int):Option aJ :=
 some (aJ.mk s_.g (imax 0 (dF x_ (IntKind.i64.wrap (s_.g.w - 1)))) (imax 0 (dF y (IntKind.i64.wrap ((s_.g.l.length:Int) - 1)))) s_.s s_.sX s_.sY s_.sS false s_.top s_.aG s_.aY s_.title)
noncomputable def eS (s_:aJ):Option (aJ×(List aQ)) :=
 (bif (s_.y == s_.aG) then (Option.bind (iX (aJ.mk s_.g s_.x s_.y s_.s s_.sX s_.sY s_.sS false s_.top s_.aG s_.aY s_.title) 1) fun a=>some (a.1,a.2)) else (Option.bind (cI (aJ.mk s_.g s_.x s_.y s_.s s_.sX s_.sY s_.sS false s_.top s_.aG s_.aY s_.title) s_.x (IntKind.i64.wrap (s_.y+1))) fun b=>some (b,([]:List aQ))))
noncomputable def lb (s_:aJ) (r_:Int):Option (aJ×(List aQ)) :=
 (Option.bind (lI r_) fun r3=>(Option.bind ((bif (r3 == 0) then some true else some (decide (r3 > s_.g.w))):Option Bool) fun e9=>(bif e9 then some (s_,([]:List aQ)) else (Option.bind (gI s_.s) fun i=>(Option.bind ((bif s_.waiting then some s_.aY else some false):Option Bool) fun j=>(Option.bind ((bif j then (Option.bind (idx s_.g.l s_.y) fun k=>(Option.bind (gb s_ (aQ.mk k.l true)) fun c=>(Option.bind (eS (aJ.mk c.g 0 c.y c.s c.sX c.sY c.sS c.waiting c.top c.aG c.aY c.title)) fun f=>(Option.bind (chk (dC ([]:List aQ).length f.2.length 32)) fun _=>some ((([]:List aQ)++f.2),f.1))))) else some (([]:List aQ),s_)):Option ((List aQ)×aJ)) fun b=>(Option.bind ((bif (r3 == 2) then some (b.2.x == (IntKind.i64.wrap (b.2.g.w - 1))) else some false):Option Bool) fun m=>(Option.bind ((bif m then (bif b.2.aY then (Option.bind (idx b.2.g.l b.2.y) fun n=>(Option.bind (jb n i) fun o=>(Option.bind (gb b.2 o) fun d=>(Option.bind (eS (aJ.mk d.g 0 d.y d.s d.sX d.sY d.sS d.waiting d.top d.aG d.aY d.title)) fun h=>(Option.bind (chk (dC b.1.length h.2.length 32)) fun _=>some ((b.1++h.2),h.1)))))) else some (b.1,(aJ.mk b.2.g (IntKind.i64.wrap (b.2.x - 1)) b.2.y b.2.s b.2.sX b.2.sY b.2.sS b.2.waiting b.2.top b.2.aG b.2.aY b.2.title))) else some (b.1,b.2)):Option ((List aQ)×aJ)) fun e=>(Option.bind (idx e.2.g.l e.2.y) fun p=>(Option.bind (kO p e.2.x r_ i) fun q=>(Option.bind (gb e.2 q) fun a=>(Option.bind ((bif ((IntKind.i64.wrap (a.x+r3)) == a.g.w) then some (aJ.mk a.g (IntKind.i64.wrap ((IntKind.i64.wrap (a.x+r3)) - 1)) a.y a.s a.sX a.sY a.sS ((IntKind.i64.wrap (a.x+r3)) == a.g.w) a.top a.aG a.aY a.title) else some (aJ.mk a.g (IntKind.i64.wrap (a.x+r3)) a.y a.s a.sX a.sY a.sS ((IntKind.i64.wrap (a.x+r3)) == a.g.w) a.top a.aG a.aY a.title)):Option aJ) fun r=>some (r,e.1)))))))))))))
noncomputable def dX (l:List Int) (i:Int) (d:Int):Option Int :=
 (Option.bind ((bif (decide (i < (l.length:Int))) then (Option.bind (idx l i) fun a=>some (decide (a > 0))) else some false):Option Bool) fun b=>(bif b then (Option.bind (idx l i) fun c=>some (dF c 9999)) else some d))
noncomputable def gJ (s_:aJ) (y:Int) (from_:Int) (to:Int):Option aJ :=
 (Option.bind (idx s_.g.l y) fun a=>(Option.bind (gI s_.s) fun b=>(Option.bind (jt a from_ to b) fun c=>(Option.bind (jJ s_.g y c) fun d=>some (aJ.mk d.1 s_.x s_.y s_.s s_.sX s_.sY s_.sS s_.waiting s_.top s_.aG s_.aY s_.title)))))
noncomputable def ju (s_:aJ) (n_:Int) (all:Bool):Option aJ :=
 (bif (decide (n_ > 2)) then some s_ else (Option.bind (iter (σ:=aJ×Int) (ρ:=aJ) (fun a=>(bif (decide (a.2 < (s_.g.l.length:Int))) then (Option.bind ((Option.bind ((bif all then (bif (decide (a.2 < a.1.y)) then (bif (n_ != 0) then some true else (bif (decide (a.2 > a.1.y)) then some (n_ != 1) else some false)) else (bif (decide (a.2 > a.1.y)) then some (n_ != 1) else some false)) else some false):Option Bool) fun d=>(bif d then (Option.bind (gJ a.1 a.2 0 a.1.g.w) fun e=>some e) else some a.1)):Option aJ) fun f=>some (.inl (f,(IntKind.i64.wrap (a.2+1))))) else some (.inr a.1))) (s_,0)) fun c=>(Option.bind ((bif (n_ == 0) then some c.x else some 0):Option Int) fun h=>(Option.bind ((bif (n_ == 1) then some (IntKind.i64.wrap (c.x+1)) else some c.g.w):Option Int) fun i=>(Option.bind (gJ c c.y h i) fun b=>some (aJ.mk b.g b.x b.y b.s b.sX b.sY b.sS false b.top b.aG b.aY b.title))))))
noncomputable def jm (s_:aJ) (b:Int) (l:List Int):Option (aJ×(List aQ)) :=
 (Option.bind (dX l 0 1) fun r3=>(Option.bind (gI s_.s) fun r6=>(Option.bind ((Option.bind ((bif (b == 65) then some (b == 65) else some (b == 70)):Option Bool) fun k=>(bif k then (Option.bind ((bif (decide (s_.y≥s_.top)) then some s_.top else some 0):Option Int) fun m=>(Option.bind (cI s_ s_.x (imax m (IntKind.i64.wrap (s_.y - r3)))) fun a=>(bif (b == 70) then some (.inl (aJ.mk a.g 0 a.y a.s a.sX a.sY a.sS a.waiting a.top a.aG a.aY a.title)) else some (.inl a)))) else (Option.bind ((bif (b == 66) then some (b == 66) else some (b == 69)):Option Bool) fun n=>(bif n then (Option.bind ((bif (decide (s_.y≤s_.aG)) then some s_.aG else some (IntKind.i64.wrap ((s_.g.l.length:Int) - 1))):Option Int) fun o=>(Option.bind (cI s_ s_.x (dF o (IntKind.i64.wrap (s_.y+r3)))) fun c=>(bif (b == 69) then some (.inl (aJ.mk c.g 0 c.y c.s c.sX c.sY c.sS c.waiting c.top c.aG c.aY c.title)) else some (.inl c)))) else (bif (b == 67) then (Option.bind (cI s_ (IntKind.i64.wrap (s_.x+r3)) s_.y) fun p=>some (.inl p)) else (bif (b == 68) then (Option.bind (cI s_ (IntKind.i64.wrap (s_.x - r3)) s_.y) fun q=>some (.inl q)) else (bif (b == 71) then (Option.bind (cI s_ (IntKind.i64.wrap (r3 - 1)) s_.y) fun r=>some (.inl r)) else (bif (b == 100) then (Option.bind (cI s_ s_.x (IntKind.i64.wrap (r3 - 1))) fun t=>some (.inl t)) else (Option.bind ((bif (b == 72) then some (b == 72) else some (b == 102)):Option Bool) fun u=>(bif u then (Option.bind (dX l 1 1) fun v=>(Option.bind (cI s_ (IntKind.i64.wrap (v - 1)) (IntKind.i64.wrap (r3 - 1))) fun z=>some (.inl z))) else (bif (b == 74) then (Option.bind (dX l 0 0) fun A=>(Option.bind (ju s_ A true) fun B=>some (.inl B))) else (bif (b == 75) then (Option.bind (dX l 0 0) fun C=>(Option.bind (ju s_ C false) fun D=>some (.inl D))) else (bif (b == 88) then (Option.bind (gJ s_ s_.y s_.x (IntKind.i64.wrap (s_.x+r3))) fun d=>some (.inl (aJ.mk d.g d.x d.y d.s d.sX d.sY d.sS false d.top d.aG d.aY d.title))) else (bif (b == 64) then (Option.bind (idx s_.g.l s_.y) fun E=>(Option.bind (iS E s_.x r3 r6) fun F=>(Option.bind (gb s_ F) fun e=>some (.inl (aJ.mk e.g e.x e.y e.s e.sX e.sY e.sS false e.top e.aG e.aY e.title))))) else (bif (b == 80) then (Option.bind (idx s_.g.l s_.y) fun G=>(Option.bind (iT G s_.x r3 r6) fun H=>(Option.bind (gb s_ H) fun f=>some (.inl (aJ.mk f.g f.x f.y f.s f.sX f.sY f.sS false f.top f.aG f.aY f.title))))) else (Option.bind ((bif (b == 76) then some (b == 76) else some (b == 77)):Option Bool) fun I=>(bif I then (Option.bind ((bif (decide (s_.y≥s_.top)) then some (decide (s_.y≤s_.aG)) else some false):Option Bool) fun J=>(bif J then (Option.bind (dD s_.g (b == 77) s_.y s_.aG r3 r6) fun K=>(Option.bind (cI (aJ.mk K.1 s_.x s_.y s_.s s_.sX s_.sY s_.sS s_.waiting s_.top s_.aG s_.aY s_.title) 0 s_.y) fun L=>some (.inl L))) else some (.inl s_))) else (bif (b == 83) then (Option.bind (iX (aJ.mk s_.g s_.x s_.y s_.s s_.sX s_.sY s_.sS false s_.top s_.aG s_.aY s_.title) r3) fun h=>(iM (some (h.1,h.2)))) else (bif (b == 84) then (Option.bind (dD s_.g false s_.top s_.aG r3 r6) fun M=>some (.inl (aJ.mk M.1 s_.x s_.y s_.s s_.sX s_.sY s_.sS false s_.top s_.aG s_.aY s_.title))) else (bif (b == 109) then (Option.bind (lZ s_.s l) fun N=>some (.inl (aJ.mk s_.g s_.x s_.y N s_.sX s_.sY s_.sS s_.waiting s_.top s_.aG s_.aY s_.title))) else (bif (b == 114) then (Option.bind (dX l 0 1) fun i=>(Option.bind (dX l 1 (s_.g.l.length:Int)) fun j=>(bif (decide ((IntKind.i64.wrap ((imax 1 (dF i (s_.g.l.length:Int))) - 1)) < (IntKind.i64.wrap ((imax 1 (dF j (s_.g.l.length:Int))) - 1)))) then (Option.bind (cI (aJ.mk s_.g s_.x s_.y s_.s s_.sX s_.sY s_.sS s_.waiting (IntKind.i64.wrap ((imax 1 (dF i (s_.g.l.length:Int))) - 1)) (IntKind.i64.wrap ((imax 1 (dF j (s_.g.l.length:Int))) - 1)) s_.aY s_.title) 0 0) fun O=>some (.inl O)) else some (.inl s_)))) else some (.inl s_)))))))))))))))))))))):Option (aJ ⊕ (aJ×(List aQ)))) fun | .inl e753=>some (e753,([]:List aQ)) | .inr w=>some w)))
noncomputable def jM (s_:aJ) (a:aN):Option (aJ×(List aQ)) :=
 (Option.bind ((bif (a.kind == 1) then (Option.bind (lb s_ a.rune) fun b=>(iM (some (b.1,b.2)))) else (bif (a.kind == 2) then (bif (a.byte == 8) then (Option.bind (cI s_ (IntKind.i64.wrap (s_.x - 1)) s_.y) fun h=>(iM (some (h,([]:List aQ))))) else (bif (a.byte == 9) then (Option.bind (cI s_ (IntKind.i64.wrap ((IntKind.i64.wrap ((IntKind.i64.wrap (s_.x.tdiv 8))*8))+8)) s_.y) fun i=>(iM (some (i,([]:List aQ))))) else (Option.bind ((bif (a.byte == 10) then some (a.byte == 10) else (bif (a.byte == 11) then some (a.byte == 11) else some (a.byte == 12))):Option Bool) fun j=>(bif j then (Option.bind (eS s_) fun c=>(iM (some (c.1,c.2)))) else (bif (a.byte == 13) then (Option.bind (cI s_ 0 s_.y) fun k=>(iM (some (k,([]:List aQ))))) else some (.inl s_)))))) else (bif (a.kind == 3) then (bif (a.byte == 68) then (Option.bind (eS s_) fun d=>(iM (some (d.1,d.2)))) else (bif (a.byte == 69) then (Option.bind (eS (aJ.mk s_.g 0 s_.y s_.s s_.sX s_.sY s_.sS s_.waiting s_.top s_.aG s_.aY s_.title)) fun e=>(iM (some (e.1,e.2)))) else (bif (a.byte == 77) then (bif (s_.y == s_.top) then (Option.bind (gI s_.s) fun m=>(Option.bind (dD s_.g false s_.top s_.aG 1 m) fun n=>(iM (some ((aJ.mk n.1 s_.x s_.y s_.s s_.sX s_.sY s_.sS false s_.top s_.aG s_.aY s_.title),([]:List aQ)))))) else (Option.bind (cI (aJ.mk s_.g s_.x s_.y s_.s s_.sX s_.sY s_.sS false s_.top s_.aG s_.aY s_.title) s_.x (IntKind.i64.wrap (s_.y - 1))) fun o=>(iM (some (o,([]:List aQ)))))) else (bif (a.byte == 55) then some (.inl (aJ.mk s_.g s_.x s_.y s_.s s_.x s_.y s_.s s_.waiting s_.top s_.aG s_.aY s_.title)) else (bif (a.byte == 56) then (Option.bind (cI (aJ.mk s_.g s_.x s_.y s_.sS s_.sX s_.sY s_.sS s_.waiting s_.top s_.aG s_.aY s_.title) s_.sX s_.sY) fun p=>(iM (some (p,([]:List aQ))))) else (bif (a.byte == 99) then (Option.bind (kP s_.g.w (s_.g.l.length:Int)) fun q=>(iM (some (q,([]:List aQ))))) else some (.inl s_))))))) else (bif (a.kind == 4) then (bif (!a.cG) then (Option.bind (jm s_ a.byte a.bB) fun f=>(iM (some (f.1,f.2)))) else (Option.bind ((Option.bind (dX a.bB 0 0) fun r=>(bif (r == 7) then (bif (a.byte == 104) then some true else some (a.byte == 108)) else some false)):Option Bool) fun t=>(bif t then some (.inl (aJ.mk s_.g s_.x s_.y s_.s s_.sX s_.sY s_.sS s_.waiting s_.top s_.aG (a.byte == 104) s_.title)) else some (.inl s_)))) else (bif (a.kind == 5) then some (.inl (aJ.mk s_.g s_.x s_.y s_.s s_.sX s_.sY s_.sS s_.waiting s_.top s_.aG s_.aY a.text)) else some (.inl s_)))))):Option (aJ ⊕ (aJ×(List aQ)))) fun | .inl e456=>some (e456,([]:List aQ)) | .inr w=>some w)
noncomputable def jN (s_:aJ) (w:Int) (h_:Int):Option (aJ×(List aQ)) :=
 (Option.bind (jK s_.g w h_ (imax 0 (IntKind.i64.wrap ((IntKind.i64.wrap (s_.y+1)) - (imax 1 (dF h_ 1000)))))) fun r3=>(Option.bind (cI (aJ.mk r3.1 s_.x s_.y s_.s s_.sX s_.sY s_.sS s_.waiting 0 (IntKind.i64.wrap ((r3.1.l.length:Int) - 1)) s_.aY s_.title) s_.x (IntKind.i64.wrap (s_.y - (imax 0 (IntKind.i64.wrap ((IntKind.i64.wrap (s_.y+1)) - (imax 1 (dF h_ 1000)))))))) fun a=>some (a,r3.2)))
end Go.Tw.X
set_option linter.unusedVariables false
set_option linter.unusedSimpArgs false
set_option maxRecDepth 10000
namespace Go.Tw.X
open Go Go.Tw
noncomputable def oU (a:aN):Option bA :=
 (Option.bind (chk (dC ([]:List Int).length a.bB.length 8)) fun _=>some (bA.mk a.kind (IntKind.i32.wrap a.rune) (IntKind.u8.wrap a.byte) a.cG (([]:List Int)++a.bB) a.text))
noncomputable def mR (s_:aB) (x_:aJ):Option (Bool×aB) :=
 (Option.bind (eG s_) fun r2=>(Option.bind (gF s_) fun r5=>(Option.bind (eY s_) fun r8=>(Option.bind ((Option.bind (lJ r8.1 x_.g) fun a=>(bif a.1 then (bif (r2.1 == x_.x) then (bif (r2.2 == x_.y) then (bif (r5.1 == x_.top) then (bif (r5.2 == x_.aG) then (Option.bind (gu r8.2) fun c=>(bif (c == x_.waiting) then (Option.bind (eM r8.2) fun d=>(bif (d.toList == x_.title.toList) then (Option.bind (hG r8.2) fun b=>some (((b.eT == x_.s.eT) && ((b.back == x_.s.back) && ((b.bold == x_.s.bold) && ((b.under == x_.s.under) && ((b.cN == x_.s.cN) && true))))),a.2)) else some (false,a.2))) else some (false,a.2))) else some (false,a.2)) else some (false,a.2)) else some (false,a.2)) else some (false,a.2)) else some (false,a.2))):Option (Bool×aX)) fun e=>some (e.1,r8.2)))))
end Go.Tw.X
set_option linter.unusedVariables false
set_option linter.unusedSimpArgs false
set_option maxRecDepth 10000
namespace Go.Tw.X
open Go Go.Tw
noncomputable def iB (n_:Int):Option ByteArray :=
 (Option.bind (iter (σ:=Int×(List Int)) (ρ:=Int×(List Int)) (fun a=>(bif (decide (a.1≥128)) then (Option.bind (chk (dC a.2.length [(IntKind.u8.wrap (IntKind.i64.wrap (128+(a.1.tmod 128))))].length 1)) fun _=>some (.inl ((IntKind.i64.wrap (a.1.tdiv 128)),(a.2++[(IntKind.u8.wrap (IntKind.i64.wrap (128+(a.1.tmod 128))))])))) else some (.inr (a.1,a.2)))) ((imax 0 (dF n_ 4611686018427387904)),([]:List Int))) fun b=>(Option.bind (chk (dC b.2.length [(IntKind.u8.wrap b.1)].length 1)) fun _=>some (gS (b.2++[(IntKind.u8.wrap b.1)]))))
end Go.Tw.X
set_option linter.unusedVariables false
set_option linter.unusedSimpArgs false
set_option maxRecDepth 10000
namespace Go.Tw.X
open Go Go.Tw
noncomputable def mS (s_:ByteArray):Option Int :=
 (Option.bind (iter (σ:=Int×Int) (ρ:=Int) (fun b=>(bif (decide (b.2 < (s_.size:Int))) then (Option.bind (jY s_ b.2) fun b402=>(Option.bind (iter (σ:=Int×Int) (ρ:=Int) (fun a=>(bif (decide (a.2 < 8)) then (Option.bind ((bif ((a.1.tmod 2) == 1) then some (Go.bits .xor .i64 (IntKind.i64.wrap (a.1.tdiv 2)) 3988292384) else some (IntKind.i64.wrap (a.1.tdiv 2))):Option Int) fun c=>some (.inl (c,(IntKind.i64.wrap (a.2+1))))) else some (.inr a.1))) ((Go.bits .xor .i64 b.1 (IntKind.i64.wrap b402)),0)) fun d=>some (.inl (d,(IntKind.i64.wrap (b.2+1)))))) else some (.inr b.1))) (4294967295,0)) fun e=>some (IntKind.i64.wrap (4294967295 - e)))
end Go.Tw.X
set_option linter.unusedVariables false
set_option linter.unusedSimpArgs false
set_option maxRecDepth 10000
namespace Go.Tw.X
open Go Go.Tw
structure gR where
 l:List (List bW)
 begun:List bW
 deriving DecidableEq,Inhabited
noncomputable def ld (l:List bW):Option ByteArray :=
 (Option.bind (iB (l.length:Int)) fun r1=>(Option.bind (iter (σ:=Int×ByteArray) (ρ:=ByteArray) (fun a=>(bif (decide (a.1 < (l.length:Int))) then (Option.bind (idx l a.1) fun d=>(Option.bind (iB d.rune) fun b=>(Option.bind (iB d.aL) fun c=>(Option.bind (chk (uP b.size c.size)) fun _=>(Option.bind (chk (uP a.2.size (b++c).size)) fun _=>some (.inl ((IntKind.i64.wrap (a.1+1)),(a.2++(b++c))))))))) else some (.inr a.2))) (0,r1)) fun e=>some e))
noncomputable def l4 (b:gR) (r_:aQ):Option gR :=
 (Option.bind (chk (dC ([]:List bW).length b.begun.length 16)) fun _=>(Option.bind (iU r_) fun d=>(Option.bind (chk (dC (([]:List bW)++b.begun).length d.length 16)) fun _=>(Option.bind (chk (dC ([]:List (List bW)).length b.l.length 24)) fun _=>(Option.bind (iter (σ:=(List bW)×(List (List bW))) (ρ:=(List bW)×(List (List bW))) (fun a=>(bif (decide ((a.1.length:Int)≥1024)) then (Option.bind (chk (cX 0 1024 a.1.length)) fun _=>(Option.bind (chk (dC a.2.length [(cut a.1 0 1024)].length 24)) fun _=>(Option.bind (chk (cX 1024 (a.1.length:Int) a.1.length)) fun _=>some (.inl ((cut a.1 1024 (a.1.length:Int)),(a.2++[(cut a.1 0 1024)])))))) else some (.inr (a.1,a.2)))) (((([]:List bW)++b.begun)++d),(([]:List (List bW))++b.l))) fun c=>(bif (!r_.wrapped) then (Option.bind (chk (dC c.2.length [c.1].length 24)) fun _=>some (gR.mk (c.2++[c.1]) ([]:List bW))) else some (gR.mk c.2 c.1)))))))
noncomputable def ko (b:gR) (n_:Int):Option Int :=
 (Option.bind (iter (σ:=Int×Int) (ρ:=Int) (fun a=>(Option.bind ((bif (decide (a.2 < n_)) then some (decide (a.2 < (b.l.length:Int))) else some false):Option Bool) fun d=>(bif d then (Option.bind (iter (σ:=Int×Int) (ρ:=Int) (fun c=>(bif (decide (c.2 < 16)) then some (.inl (((IntKind.i64.wrap (2*c.1)).tmod 281474976710597),(IntKind.i64.wrap (c.2+1)))) else some (.inr c.1))) (a.1,0)) fun e=>(Option.bind (idx b.l a.2) fun f=>(Option.bind (ld f) fun g=>(Option.bind (mS g) fun i=>some (.inl (((IntKind.i64.wrap (e+i)).tmod 281474976710597),(IntKind.i64.wrap (a.2+1)))))))) else some (.inr a.1)))) (0,0)) fun j=>some j)
end Go.Tw.X
set_option linter.unusedVariables false
set_option linter.unusedSimpArgs false
set_option maxRecDepth 10000
namespace Go.Tw.X
open Go Go.Tw
structure kc where
 k:Int
 w:Int
 h:Int
 x:Int
 y:Int
 title:ByteArray
 rows:List aQ
 len:Int
 chain:Int
 begun:List bW
 deriving DecidableEq,Inhabited
noncomputable def oh (k:Int) (s_:aJ) (b:gR):Option kc :=
 (Option.bind (ko b (b.l.length:Int)) fun a=>some (kc.mk k s_.g.w (s_.g.l.length:Int) s_.x s_.y s_.title s_.g.l (b.l.length:Int) a b.begun))
end Go.Tw.X
set_option linter.unusedVariables false
set_option linter.unusedSimpArgs false
set_option maxRecDepth 10000
namespace Go.Tw.X
open Go Go.Tw
noncomputable def lK (s_:iy) (x_:kc):Option Bool :=
 (Option.bind ((bif (s_.k == x_.k) then (bif (s_.w == x_.w) then (bif (s_.h == x_.h) then (bif (s_.x == x_.x) then (bif (s_.y == x_.y) then (bif (s_.title.toList == x_.title.toList) then (bif (s_.len == x_.len) then (bif (s_.chain == x_.chain) then (Option.bind (fO s_.rows x_.rows) fun a=>(bif a then (Option.bind (iV s_.begun x_.begun) fun c=>some c) else some false)) else some false) else some false) else some false) else some false) else some false) else some false) else some false) else some false):Option Bool) fun d=>some d)
end Go.Tw.X
set_option linter.unusedVariables false
set_option linter.unusedSimpArgs false
set_option maxRecDepth 10000
namespace Go.Tw.X
open Go Go.Tw
structure cV where
 kind:Int
 text:ByteArray
 w:Int
 h:Int
 deriving DecidableEq,Inhabited
structure bD where
 s:aJ
 b:gR
 all:ByteArray
 iY:Int
 k:Int
 deriving DecidableEq,Inhabited
def mA (x:cV):Prop:=(inK .i64) x.kind∧(fun s:ByteArray=>s.size≤maxLen) x.text∧(inK .i64) x.w∧(inK .i64) x.h∧True
noncomputable def l5 (w:Int) (h_:Int):Option bD :=
 (Option.bind (kP w h_) fun r2=>some (bD.mk r2 (gR.mk ([]:List (List bW)) ([]:List bW)) (ByteArray.mk #[]) 0 0))
noncomputable def kp (e:cV):Option Int :=
 (bif (e.kind == 0) then (bif (decide ((e.text.size:Int) > 1048576)) then some 3 else some 0) else (bif (e.kind != 1) then some 5 else (Option.bind ((bif (decide (e.w < 1)) then some true else (bif (decide (e.w > 1000)) then some true else (bif (decide (e.h < 1)) then some true else some (decide (e.h > 1000))))):Option Bool) fun a=>(bif a then some 6 else some 0))))
noncomputable def jO (m_:bD) (l:List aQ):Option bD :=
 (Option.bind (iter (σ:=bD×Int) (ρ:=bD) (fun a=>(bif (decide (a.2 < (l.length:Int))) then (Option.bind (idx l a.2) fun c=>(Option.bind (l4 a.1.b c) fun d=>some (.inl ((bD.mk a.1.s d a.1.all a.1.iY a.1.k),(IntKind.i64.wrap (a.2+1)))))) else some (.inr a.1))) (m_,0)) fun e=>some e)
noncomputable def gV (m_:bD) (e:cV):Option (bD×Int) :=
 (Option.bind (kp e) fun r4=>(bif (r4 != 0) then some (m_,r4) else (Option.bind ((bif (e.kind == 1) then (Option.bind (jN m_.s e.w e.h) fun g=>(Option.bind (jO (bD.mk g.1 m_.b m_.all m_.iY m_.k) g.2) fun j=>some j)) else (Option.bind (chk (uP m_.all.size e.text.size)) fun _=>(Option.bind (k9 (m_.all++e.text)) fun c=>(Option.bind (chk (cX m_.iY (c.length:Int) c.length)) fun _=>(Option.bind (iter (σ:=bD×Int) (ρ:=bD) (fun a=>(bif (decide (a.2 < ((cut c m_.iY (c.length:Int)).length:Int))) then (Option.bind (idx (cut c m_.iY (c.length:Int)) a.2) fun l=>(Option.bind (jM a.1.s l) fun i=>(Option.bind (jO (bD.mk i.1 a.1.b a.1.all a.1.iY a.1.k) i.2) fun m=>some (.inl (m,(IntKind.i64.wrap (a.2+1))))))) else some (.inr a.1))) ((bD.mk m_.s m_.b (m_.all++e.text) m_.iY m_.k),0)) fun f=>some (bD.mk f.s f.b f.all (c.length:Int) f.k)))))):Option bD) fun d=>some ((bD.mk d.s d.b d.all d.iY (IntKind.i64.wrap (d.k+1))),0))))
noncomputable def lf (m_:bD):Option kc :=
 (Option.bind (oh (IntKind.i64.wrap (m_.k+1)) m_.s m_.b) fun r3=>some r3)
end Go.Tw.X
set_option linter.unusedVariables false
set_option linter.unusedSimpArgs false
set_option maxRecDepth 10000
namespace Go.Tw.X
open Go Go.Tw
noncomputable def kq:Option Bool :=
 (Option.bind (kM 3 1 ([(cK.mk 0 (ByteArray.mk #[97,13,10,98]) 0 0),(cK.mk 1 (ByteArray.mk #[]) 0 0),(cK.mk 1 (ByteArray.mk #[]) 4 2)])) fun r4=>(Option.bind (ff r4) fun c=>(Option.bind (gM c.2.book 0) fun b=>(Option.bind (fN c.2) fun a=>(Option.bind ((Option.bind (jk a.2) fun d=>(bif (d == 2) then (Option.bind (fz a.2.book) fun e=>(bif (e == 1) then (bif b.2 then (bif ((b.1.length:Int) == 1) then (Option.bind (idx b.1 0) fun f=>(bif (f.rune == 97) then (bif (a.1.k == 3) then (bif (a.1.w == 4) then some ((a.1.rows.length:Int) == 2) else some false) else some false) else some false)) else some false) else some false) else some false)) else some false)):Option Bool) fun g=>some g)))))
noncomputable def l6 (e:cV):Option cV :=
 (Option.bind (lW e.text 60) fun r3=>(Option.bind ((bif (decide (e.w > 10)) then some (decide (e.w≤1000)) else some false):Option Bool) fun e9=>(Option.bind ((bif e9 then some (cV.mk e.kind r3 10 e.h) else some (cV.mk e.kind r3 e.w e.h)):Option cV) fun a=>(Option.bind ((bif (decide (a.h > 6)) then some (decide (a.h≤1000)) else some false):Option Bool) fun b=>(Option.bind ((bif b then some (cV.mk a.kind a.text a.w 6) else some a):Option cV) fun c=>some c)))))
noncomputable def kF (m_:aV) (x_:bD):Option (Bool×aV) :=
 (Option.bind (ff m_) fun r2=>(Option.bind ((Option.bind (jk r2.2) fun g=>(bif (g != x_.k) then some (true,r2.1,r2.2) else (Option.bind (fz r2.2.book) fun h=>(bif (h != (x_.b.l.length:Int)) then some (true,r2.1,r2.2) else (Option.bind (mR r2.1 x_.s) fun d=>(bif (!d.1) then some (true,d.2,r2.2) else (Option.bind (fN r2.2) fun e=>(Option.bind (lf x_) fun i=>(Option.bind (lK e.1 i) fun j=>some ((!j),d.2,e.2)))))))))):Option (Bool×aB×aV)) fun a=>(bif a.1 then some (false,a.2.2) else (Option.bind (iter (σ:=Int) (ρ:=Unit ⊕ (Bool×aV)) (fun c=>(bif (decide (c < (x_.b.l.length:Int))) then (Option.bind (idx x_.b.l c) fun m=>(Option.bind (gM a.2.2.book c) fun f=>(Option.bind ((bif (!f.2) then some true else (Option.bind (iV f.1 m) fun n=>some (!n))):Option Bool) fun o=>(bif o then (lT (some (false,a.2.2))) else some (.inl (IntKind.i64.wrap (c+1))))))) else some (.inr (.inl ())))) 0) fun | .inl e461=>some (true,a.2.2) | .inr w=>some w))))
noncomputable def jc (w:Int) (h_:Int) (l:List cV):Option Bool :=
 (Option.bind kq fun r1=>(bif (!r1) then some false else (Option.bind (kL (imax (-1) (dF w 10)) (imax (-1) (dF h_ 6))) fun r6=>(Option.bind (l5 (imax (-1) (dF w 10)) (imax (-1) (dF h_ 6))) fun g=>(Option.bind (iter (σ:=bD×aV×Int×(List cK)) (ρ:=((List cK)×bD×aV) ⊕ Bool) (fun b=>(Option.bind ((bif (decide (b.2.2.1 < (l.length:Int))) then some (decide (b.2.2.1 < 15)) else some false):Option Bool) fun i=>(bif i then (Option.bind (idx l b.2.2.1) fun j=>(Option.bind (l6 j) fun a=>(Option.bind (gV b.1 a) fun c=>(Option.bind (chk (dC b.2.2.2.length [(cK.mk a.kind a.text a.w a.h)].length 40)) fun _=>(Option.bind ((Option.bind (bR b.2.1 (cK.mk a.kind a.text a.w a.h)) fun d=>(bif (d.1 != c.2) then some (true,d.2) else (Option.bind (fw (cK.mk a.kind a.text a.w a.h)) fun k=>(bif (k != c.2) then some (true,d.2) else (Option.bind (kF d.2 c.1) fun e=>some ((!e.1),e.2)))))):Option (Bool×aV)) fun f=>(bif f.1 then (lT (some false)) else some (.inl (c.1,f.2,(IntKind.i64.wrap (b.2.2.1+1)),(b.2.2.2++[(cK.mk a.kind a.text a.w a.h)]))))))))) else some (.inr (.inl (b.2.2.2,b.1,b.2.1)))))) (g,r6,0,[])) fun | .inl e1173=>(Option.bind (kM (imax (-1) (dF w 10)) (imax (-1) (dF h_ 6)) e1173.1) fun m=>(Option.bind (kF m e1173.2.1) fun n=>some n.1)) | .inr w=>some w)))))
end Go.Tw.X

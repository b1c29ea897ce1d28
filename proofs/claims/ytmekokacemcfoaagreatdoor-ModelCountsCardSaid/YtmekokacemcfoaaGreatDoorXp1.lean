import Derived.Test.YtmekokacemcfoaaGreatDoorFw2
set_option linter.unusedVariables false
set_option linter.unusedSimpArgs false
set_option maxRecDepth 10000
namespace Go.Tw.X
open Go Go.Tw
structure eD where
 b:List Int
 deriving DecidableEq,Inhabited
structure oM where
 s:ByteArray
 e:Int
 deriving DecidableEq,Inhabited
noncomputable def kY (n_:Int):Option Int :=
 some n_
noncomputable def mQ (n_:Int):Option Int :=
 some (imax 0 (dt n_ 4611686018427387904))
noncomputable def iM {σ:Type} (Y:σ→Int→Option (σ×Bool)) (y0:σ) (x1:Int):Option (σ×Int) :=
 (Option.bind (mQ x1) fun r1=>(Option.bind (iter (σ:=Int×σ) (ρ:=(Int×σ) ⊕ (σ×Int)) (fun a=>(bif (decide (a.1≥128)) then (Option.bind (Y a.2 (Go.bits .or .u8 (Go.bits .and .u8 (IntKind.u8.wrap a.1) 127) 128)) fun z68=>(bif (!z68.2) then (ka (some (z68.1,a.1))) else some (.inl ((a.1.fdiv (2 ^ (min 7 64))),z68.1)))) else some (.inr (.inl (a.1,a.2))))) (r1,y0)) fun | .inl e53=>(Option.bind (Y e53.2 (IntKind.u8.wrap e53.1)) fun z75=>some (z75.1,e53.1)) | .inr w=>some w))
noncomputable def iA (o:eD) (l:List Int):Option eD :=
 (Option.bind (iter (σ:=eD×Int) (ρ:=eD) (fun a=>(bif (decide (a.2 < (l.length:Int))) then (Option.bind (idx l a.2) fun e=>(Option.bind (kY e) fun f=>(Option.bind (iM (fun c d=>(Option.bind (chk (dg c.b.length [d].length 1)) fun _=>some ((eD.mk (c.b++[d])),true))) (a.1:eD) f) fun g=>some (.inl (g.1,(IntKind.i64.wrap (a.2+1))))))) else some (.inr a.1))) (o,0)) fun h=>some h)
noncomputable def jv (o:eD):Option ByteArray :=
 some (km o.b)
end Go.Tw.X
set_option linter.unusedVariables false
set_option linter.unusedSimpArgs false
set_option maxRecDepth 10000
namespace Go.Tw.X
open Go Go.Tw
structure bD where
 lead:Int
 rune:Int
 fu:Int
 deriving DecidableEq,Inhabited
structure gU where
 first:Int
 last:Int
 fu:Int
 low:Int
 high:Int
 deriving DecidableEq,Inhabited
def bJ:List gU:=[⟨194,223,1,128,191⟩,⟨224,224,2,160,191⟩,⟨225,236,2,128,191⟩,⟨237,237,2,128,159⟩,⟨238,239,2,128,191⟩,⟨240,240,3,144,191⟩,⟨241,243,3,128,191⟩,⟨244,244,3,128,143⟩]
noncomputable def fG (d:bD):Option (List Int) :=
 (bif (decide (d.fu≤0)) then some ([]:List Int) else some [65533])
noncomputable def iZ (b:Int):Option (gU×Bool) :=
 (Option.bind (iter (σ:=Int) (ρ:=Unit ⊕ (gU×Bool)) (fun a=>(bif (decide (a < 8)) then (Option.bind (idx bJ a) fun c=>(Option.bind ((bif (decide (b≥c.first)) then some (decide (b≤c.last)) else some false):Option Bool) fun d=>(bif d then (ka (some (c,true))) else some (.inl (IntKind.i64.wrap (a+1)))))) else some (.inr (.inl ())))) 0) fun | .inl e84=>some ((gU.mk 0 0 0 0 0),false) | .inr w=>some w)
noncomputable def iB (b:Int):Option (bD×(List Int)) :=
 (bif (decide (b < 128)) then some ((bD.mk 0 0 0),[(IntKind.i32.wrap b)]) else (Option.bind (iZ b) fun r8=>(bif (!r8.2) then some ((bD.mk 0 0 0),[65533]) else (Option.bind (chk (shk r8.1.fu)) fun _=>some ((bD.mk b (Go.bits .and .i32 (IntKind.i32.wrap b) ((63:Int).fdiv (2 ^ (min r8.1.fu.toNat 32)))) r8.1.fu),([]:List Int))))))
noncomputable def ff (d:bD) (b:Int):Option Bool :=
 (Option.bind (iZ d.lead) fun r2=>(bif (decide (d.fu < r2.1.fu)) then (Option.bind ((bif (decide (b≥128)) then some (decide (b≤191)) else some false):Option Bool) fun a=>some a) else (Option.bind ((bif (decide (b≥r2.1.low)) then some (decide (b≤r2.1.high)) else some false):Option Bool) fun c=>some c)))
noncomputable def fg (d:bD) (b:Int):Option (bD×(List Int)) :=
 (bif (decide (d.fu≤0)) then (Option.bind (iB b) fun c=>some (c.1,c.2)) else (Option.bind (ff d b) fun e=>(bif (!e) then (Option.bind (iB b) fun a=>(Option.bind (chk (dg [65533].length a.2.length 4)) fun _=>some (a.1,([65533]++a.2)))) else (bif ((IntKind.i64.wrap (d.fu - 1)) == 0) then (Option.bind (some [(Go.bits .or .i32 (IntKind.i32.wrap (d.rune*2 ^ (min 6 32))) (Go.bits .and .i32 (IntKind.i32.wrap b) 63))]:Option (List Int)) fun f=>some ((bD.mk 0 0 0),f)) else some ((bD.mk d.lead (Go.bits .or .i32 (IntKind.i32.wrap (d.rune*2 ^ (min 6 32))) (Go.bits .and .i32 (IntKind.i32.wrap b) 63)) (IntKind.i64.wrap (d.fu - 1))),([]:List Int))))))
end Go.Tw.X
set_option linter.unusedVariables false
set_option linter.unusedSimpArgs false
set_option maxRecDepth 10000
namespace Go.Tw.X
open Go Go.Tw
structure bW where
 e0:Int
 e1:Int
 deriving DecidableEq,Inhabited
noncomputable def kZ (x_:Int) (y:Int):Option (Int×Int) :=
 some ((IntKind.u64.wrap ((IntKind.u64.wrap ((IntKind.u64.wrap ((x_.fdiv (2 ^ (min 32 64)))*(y.fdiv (2 ^ (min 32 64)))))+((IntKind.u64.wrap ((IntKind.u64.wrap ((x_.fdiv (2 ^ (min 32 64)))*(Go.bits .and .u64 y 4294967295)))+((IntKind.u64.wrap ((Go.bits .and .u64 x_ 4294967295)*(Go.bits .and .u64 y 4294967295))).fdiv (2 ^ (min 32 64))))).fdiv (2 ^ (min 32 64)))))+((IntKind.u64.wrap ((Go.bits .and .u64 (IntKind.u64.wrap ((IntKind.u64.wrap ((x_.fdiv (2 ^ (min 32 64)))*(Go.bits .and .u64 y 4294967295)))+((IntKind.u64.wrap ((Go.bits .and .u64 x_ 4294967295)*(Go.bits .and .u64 y 4294967295))).fdiv (2 ^ (min 32 64))))) 4294967295)+(IntKind.u64.wrap ((Go.bits .and .u64 x_ 4294967295)*(y.fdiv (2 ^ (min 32 64))))))).fdiv (2 ^ (min 32 64))))),(IntKind.u64.wrap (x_*y)))
noncomputable def lu (x_:Int) (y:Int):Option (Int×Int) :=
 (Option.bind (kZ x_ y) fun r1=>some (r1.1,r1.2))
noncomputable def dZ (s_:ByteArray) (prefix_:ByteArray):Option Bool :=
 (Option.bind ((bif (decide ((s_.size:Int)≥(prefix_.size:Int))) then (Option.bind (chk (cF 0 (prefix_.size:Int) s_.size)) fun _=>some ((kD s_ 0 (prefix_.size:Int)).toList == prefix_.toList)) else some false):Option Bool) fun e8=>some e8)
noncomputable def fw (s_:ByteArray) (prefix_:ByteArray):Option (ByteArray×Bool) :=
 (Option.bind (dZ s_ prefix_) fun r1=>(bif (!r1) then some (s_,false) else (Option.bind (chk (cF (prefix_.size:Int) (s_.size:Int) s_.size)) fun _=>some ((kD s_ (prefix_.size:Int) (s_.size:Int)),true))))
noncomputable def fH (s_:ByteArray) (prefix_:ByteArray):Option (ByteArray×Bool) :=
 (Option.bind (fw s_ prefix_) fun r1=>some (r1.1,r1.2))
end Go.Tw.X
set_option linter.unusedVariables false
set_option linter.unusedSimpArgs false
set_option maxRecDepth 10000
namespace Go.Tw.X
open Go Go.Tw
structure fh where
 from_:Int
 to:Int
 deriving DecidableEq,Inhabited
def bZ:List fh:=[⟨(-2147483648),31⟩,⟨127,159⟩,⟨768,879⟩,⟨6832,6911⟩,⟨7616,7679⟩,⟨8203,8207⟩,⟨8400,8447⟩,⟨55296,57343⟩,⟨65024,65039⟩,⟨65056,65071⟩,⟨65279,65279⟩,⟨917760,917999⟩,⟨1114112,2147483647⟩]
def cC:List fh:=[⟨4352,4447⟩,⟨11904,12350⟩,⟨12353,13311⟩,⟨13312,19903⟩,⟨19968,40959⟩,⟨40960,42191⟩,⟨44032,55203⟩,⟨63744,64255⟩,⟨65072,65135⟩,⟨65280,65376⟩,⟨65504,65510⟩,⟨127744,128591⟩,⟨129280,129535⟩,⟨131072,262141⟩]
noncomputable def lj (l:List fh) (r_:Int):Option Bool :=
 (Option.bind (iter (σ:=Int×Int) (ρ:=Int) (fun a=>(bif (decide (a.1 < a.2)) then (Option.bind (idx l (IntKind.i64.wrap ((IntKind.i64.wrap (a.1+a.2)).tdiv 2))) fun c=>(bif (decide (c.to < r_)) then some (.inl ((IntKind.i64.wrap ((IntKind.i64.wrap ((IntKind.i64.wrap (a.1+a.2)).tdiv 2))+1)),a.2)) else some (.inl (a.1,(IntKind.i64.wrap ((IntKind.i64.wrap (a.1+a.2)).tdiv 2)))))) else some (.inr a.1))) (0,(l.length:Int))) fun b=>(Option.bind ((bif (decide (b < (l.length:Int))) then (Option.bind (idx l b) fun d=>some (decide (d.from_≤r_))) else some false):Option Bool) fun e=>some e))
noncomputable def lk (r_:Int):Option Int :=
 (Option.bind (lj bZ r_) fun r9=>(bif r9 then some 0 else (Option.bind (lj cC r_) fun a=>(bif a then some 2 else some 1))))
end Go.Tw.X
set_option linter.unusedVariables false
set_option linter.unusedSimpArgs false
set_option maxRecDepth 10000
namespace Go.Tw.X
open Go Go.Tw
structure aG where
 rune:Int
 aK:Int
 part:Int
 deriving DecidableEq,Inhabited
structure aE where
 cells:List aG
 wrapped:Bool
 deriving DecidableEq,Inhabited
structure aI where
 rune:Int
 aK:Int
 deriving DecidableEq,Inhabited
noncomputable def gO (n_:Int) (lo:Int) (hi:Int):Option Int :=
 some (imax lo (dt n_ hi))
noncomputable def fj (aK:Int):Option aG :=
 some (aG.mk 32 aK 0)
noncomputable def dT (x_:List aG) (count:Int):Option (List aG) :=
 (bif (decide (count < 0)) then none else (Option.bind (lu (IntKind.u64.wrap (x_.length:Int)) (IntKind.u64.wrap count)) fun r3=>(Option.bind ((bif (decide (r3.1 > 0)) then some true else some (decide (r3.2 > 9223372036854775807))):Option Bool) fun e9=>(bif e9 then none else (Option.bind (chk (Du (IntKind.i64.wrap r3.2) 24)) fun _=>(Option.bind (iter (σ:=(List aG)×Int) (ρ:=(List aG)) (fun a=>(bif (decide (a.2 < (a.1.length:Int))) then (Option.bind (chk (cF a.2 (a.1.length:Int) a.1.length)) fun _=>(Option.bind (chk (cF 0 a.2 a.1.length)) fun _=>some (.inl ((sT a.1 a.2.toNat),(IntKind.i64.wrap (a.2+((Nat.min a.2.toNat (a.1.length - a.2.toNat):Nat):Int))))))) else some (.inr a.1))) ((cpy (List.replicate (IntKind.i64.wrap r3.2).toNat (aG.mk 0 0 0)) x_),((Nat.min x_.length (List.replicate (IntKind.i64.wrap r3.2).toNat (aG.mk 0 0 0)).length:Nat):Int))) fun b=>some b))))))
noncomputable def gv (n_:Int) (aK:Int):Option (List aG) :=
 (Option.bind (fj aK) fun r1=>(Option.bind (dT [r1] (imax 0 n_)) fun r7=>some r7))
noncomputable def gx (w:Int) (aK:Int):Option aE :=
 (Option.bind (gO w 0 1000) fun r2=>(Option.bind (gv r2 aK) fun r5=>some (aE.mk r5 false)))
noncomputable def dF (s_:List aG):Option (List aG) :=
 (Option.bind (chk (dg ([]:List aG).length s_.length 24)) fun _=>some (([]:List aG)++s_))
noncomputable def dK (r_:aE):Option (List aG) :=
 (Option.bind (dF r_.cells) fun r2=>some r2)
noncomputable def ja (l:List aG) (i:Int):Option Bool :=
 (Option.bind (idx l i) fun x1=>(bif (x1.part == 1) then (Option.bind ((bif (decide ((IntKind.i64.wrap (i+1))≥(l.length:Int))) then some true else (Option.bind (idx l (IntKind.i64.wrap (i+1))) fun a=>some (a.part != 2))):Option Bool) fun b=>some b) else (bif (x1.part == 2) then (Option.bind ((bif (i == 0) then some true else (Option.bind (idx l (IntKind.i64.wrap (i - 1))) fun c=>some (c.part != 1))):Option Bool) fun d=>some d) else (bif (x1.part == 3) then some (i != (IntKind.i64.wrap ((l.length:Int) - 1))) else some false))))
noncomputable def dH (l:List aG):Option aE :=
 (Option.bind (iter (σ:=(List aG)×Int) (ρ:=(List aG)) (fun a=>(bif (decide (a.2 < (l.length:Int))) then (Option.bind ((Option.bind (ja a.1 a.2) fun b=>(bif b then (Option.bind (idx a.1 a.2) fun c=>(Option.bind (fj c.aK) fun d=>(Option.bind (idx a.1 a.2) fun g=>some (a.1.set a.2.toNat d)))) else some a.1)):Option (List aG)) fun e=>some (.inl (e,(IntKind.i64.wrap (a.2+1))))) else some (.inr a.1))) (l,0)) fun f=>some (aE.mk f false))
noncomputable def ji (r_:aE) (at_:Int) (x_:Int) (aK:Int):Option aE :=
 (Option.bind (dK r_) fun r3=>(Option.bind (lk x_) fun r9=>(Option.bind ((Option.bind ((bif (r9 == 0) then some true else (bif (decide (at_ < 0)) then some true else some (decide (at_ > (IntKind.i64.wrap ((r3.length:Int) - r9)))))):Option Bool) fun a=>(bif a then some r3 else (bif (r9 == 1) then (Option.bind (idx r3 at_) fun h=>some (r3.set at_.toNat (aG.mk x_ aK 0))) else (Option.bind (idx r3 at_) fun i=>(Option.bind (idx (r3.set at_.toNat (aG.mk x_ aK 1)) (IntKind.i64.wrap (at_+1))) fun j=>(Option.bind ((bif (decide (at_ > 0)) then (Option.bind (idx ((r3.set at_.toNat (aG.mk x_ aK 1)).set ((IntKind.i64.wrap (at_+1)).toNat) (aG.mk x_ aK 2)) (IntKind.i64.wrap (at_ - 1))) fun b=>some (b.part == 1)) else some false):Option Bool) fun c=>(bif c then (Option.bind (idx ((r3.set at_.toNat (aG.mk x_ aK 1)).set ((IntKind.i64.wrap (at_+1)).toNat) (aG.mk x_ aK 2)) (IntKind.i64.wrap (at_ - 1))) fun d=>(Option.bind (fj d.aK) fun e=>(Option.bind (idx ((r3.set at_.toNat (aG.mk x_ aK 1)).set ((IntKind.i64.wrap (at_+1)).toNat) (aG.mk x_ aK 2)) (IntKind.i64.wrap (at_ - 1))) fun k=>some (((r3.set at_.toNat (aG.mk x_ aK 1)).set ((IntKind.i64.wrap (at_+1)).toNat) (aG.mk x_ aK 2)).set ((IntKind.i64.wrap (at_ - 1)).toNat) e)))) else some ((r3.set at_.toNat (aG.mk x_ aK 1)).set ((IntKind.i64.wrap (at_+1)).toNat) (aG.mk x_ aK 2))))))))):Option (List aG)) fun f=>(Option.bind (dH f) fun g=>some g))))
noncomputable def fS (r_:aE):Option (List aI) :=
 (Option.bind (iter (σ:=(List aG)) (ρ:=(List aG)) (fun a=>(Option.bind ((bif (!r_.wrapped) then (bif (decide ((a.length:Int) > 0)) then (Option.bind (idx a (IntKind.i64.wrap ((a.length:Int) - 1))) fun d=>(Option.bind (fj 0) fun e=>some ((d.rune == e.rune) && ((d.aK == e.aK) && ((d.part == e.part) && true))))) else some false) else some false):Option Bool) fun g=>(bif g then (Option.bind (chk (cF 0 (IntKind.i64.wrap ((a.length:Int) - 1)) a.length)) fun _=>some (.inl (cut a 0 (IntKind.i64.wrap ((a.length:Int) - 1))))) else some (.inr a)))) r_.cells) fun f=>(Option.bind (iter (σ:=Int×(List aI)) (ρ:=(List aI)) (fun b=>(bif (decide (b.1 < (f.length:Int))) then (Option.bind ((Option.bind (idx f b.1) fun c=>(Option.bind ((bif (c.part == 0) then some true else some (c.part == 1)):Option Bool) fun h=>(bif h then (Option.bind (chk (dg b.2.length [(aI.mk c.rune c.aK)].length 16)) fun _=>some (b.2++[(aI.mk c.rune c.aK)])) else some b.2))):Option (List aI)) fun i=>some (.inl ((IntKind.i64.wrap (b.1+1)),i))) else some (.inr b.2))) (0,[])) fun j=>some j))
noncomputable def gn (r_:aE) (from_:Int) (to:Int) (aK:Int):Option aE :=
 (Option.bind (dK r_) fun r3=>(Option.bind (gO from_ 0 (r3.length:Int)) fun r9=>(Option.bind (iter (σ:=Int×(List aG)) (ρ:=(List aG)) (fun a=>(Option.bind (gO to 0 (a.2.length:Int)) fun b=>(bif (decide (a.1 < b)) then (Option.bind (fj aK) fun c=>(Option.bind (idx a.2 a.1) fun f=>some (.inl ((IntKind.i64.wrap (a.1+1)),(a.2.set a.1.toNat c))))) else some (.inr a.2)))) (r9,r3)) fun d=>(Option.bind (dH d) fun e=>some e))))
noncomputable def fT (r_:aE) (at_:Int) (n_:Int):Option Int :=
 (Option.bind ((bif (decide (at_ < 0)) then some true else some (decide (at_≥(r_.cells.length:Int)))):Option Bool) fun e5=>(bif e5 then some 0 else (Option.bind (gO n_ 0 (IntKind.i64.wrap ((r_.cells.length:Int) - at_))) fun a=>some a)))
noncomputable def eG (n_:Int):Option (List aG) :=
 (bif (decide (n_ < 0)) then none else (Option.bind ((bif (decide ((IntKind.i64.wrap (n_ - (IntKind.i64.wrap (0 - 0)))) > 0)) then (Option.bind (chk (Dv (IntKind.i64.wrap (n_ - (IntKind.i64.wrap (0 - 0)))) 24)) fun _=>(Option.bind (chk (cF 0 0 (List.replicate (IntKind.i64.wrap (n_ - (IntKind.i64.wrap (0 - 0)))).toNat (aG.mk 0 0 0)).length)) fun _=>some (cut (List.replicate (IntKind.i64.wrap (n_ - (IntKind.i64.wrap (0 - 0)))).toNat (aG.mk 0 0 0)) 0 0))) else some []):Option (List aG)) fun a=>some a))
noncomputable def dA (slices:List (List aG)):Option (List aG) :=
 (Option.bind (iter (σ:=Int×Int) (ρ:=Int) (fun a=>(bif (decide (a.1 < (slices.length:Int))) then (Option.bind (idx slices a.1) fun c=>(bif (decide ((IntKind.i64.wrap (a.2+(c.length:Int))) < 0)) then none else some (.inl ((IntKind.i64.wrap (a.1+1)),(IntKind.i64.wrap (a.2+(c.length:Int))))))) else some (.inr a.2))) (0,0)) fun e=>(Option.bind (eG e) fun f=>(Option.bind (iter (σ:=Int×(List aG)) (ρ:=(List aG)) (fun b=>(bif (decide (b.1 < (slices.length:Int))) then (Option.bind (idx slices b.1) fun d=>(Option.bind (chk (dg b.2.length d.length 24)) fun _=>some (.inl ((IntKind.i64.wrap (b.1+1)),(b.2++d))))) else some (.inr b.2))) (0,f)) fun g=>some g)))
noncomputable def gV (r_:aE) (at_:Int) (n_:Int) (aK:Int):Option aE :=
 (Option.bind (fT r_ at_ n_) fun r3=>(bif (r3 == 0) then (Option.bind (dK r_) fun b=>(Option.bind (dH b) fun c=>some c)) else (Option.bind (chk (cF 0 at_ r_.cells.length)) fun _=>(Option.bind (chk (cF at_ (r_.cells.length:Int) r_.cells.length)) fun _=>(Option.bind (gv r3 aK) fun d=>(Option.bind (dA [(cut r_.cells 0 at_),d,(cut r_.cells at_ (r_.cells.length:Int))]) fun a=>(Option.bind (chk (cF 0 (r_.cells.length:Int) a.length)) fun _=>(Option.bind (dH (cut a 0 (r_.cells.length:Int))) fun e=>some e))))))))
noncomputable def gW (r_:aE) (at_:Int) (n_:Int) (aK:Int):Option aE :=
 (Option.bind (fT r_ at_ n_) fun r3=>(bif (r3 == 0) then (Option.bind (dK r_) fun a=>(Option.bind (dH a) fun b=>some b)) else (Option.bind (chk (cF 0 at_ r_.cells.length)) fun _=>(Option.bind (chk (cF (IntKind.i64.wrap (at_+r3)) (r_.cells.length:Int) r_.cells.length)) fun _=>(Option.bind (gv r3 aK) fun c=>(Option.bind (dA [(cut r_.cells 0 at_),(cut r_.cells (IntKind.i64.wrap (at_+r3)) (r_.cells.length:Int)),c]) fun d=>(Option.bind (dH d) fun e=>some e)))))))
noncomputable def iN (r_:aE) (aK:Int):Option aE :=
 (Option.bind (dK r_) fun r3=>(Option.bind ((bif (decide ((r3.length:Int) > 0)) then (Option.bind (idx r3 (IntKind.i64.wrap ((r3.length:Int) - 1))) fun c=>some (r3.set ((IntKind.i64.wrap ((r3.length:Int) - 1)).toNat) (aG.mk 32 aK 3))) else some r3):Option (List aG)) fun a=>(Option.bind (dH a) fun b=>some (aE.mk b.cells true))))
noncomputable def fU (r_:aE) (w:Int):Option aE :=
 (Option.bind (gO w 0 1000) fun r3=>(Option.bind (dK r_) fun r6=>(bif (r3 == (r6.length:Int)) then some (aE.mk r6 r_.wrapped) else (Option.bind (gv (IntKind.i64.wrap (r3 - (r6.length:Int))) 0) fun a=>(Option.bind (chk (cF 0 (dt r3 (r6.length:Int)) r6.length)) fun _=>(Option.bind (chk (dg (cut r6 0 (dt r3 (r6.length:Int))).length a.length 24)) fun _=>(Option.bind (dH ((cut r6 0 (dt r3 (r6.length:Int)))++a)) fun b=>some b)))))))
noncomputable def cU (s_:List aE):Option (List aE) :=
 (Option.bind (chk (dg ([]:List aE).length s_.length 32)) fun _=>some (([]:List aE)++s_))
noncomputable def dU (s_:List aE):Option (List aE) :=
 (Option.bind (iter (σ:=(List aE)×Int×Int) (ρ:=(List aE)) (fun a=>(bif (decide (a.2.1 < a.2.2)) then (Option.bind ((Option.bind (idx a.1 a.2.2) fun b=>(Option.bind (idx a.1 a.2.1) fun c=>(Option.bind (idx a.1 a.2.1) fun f=>(Option.bind (idx a.1 a.2.2) fun g=>some ((a.1.set a.2.1.toNat b).set a.2.2.toNat c))))):Option (List aE)) fun d=>some (.inl (d,(IntKind.i64.wrap (a.2.1+1)),(IntKind.i64.wrap (a.2.2 - 1))))) else some (.inr a.1))) (s_,0,(IntKind.i64.wrap ((s_.length:Int) - 1)))) fun e=>some e)
noncomputable def bX (s_:List aI):Option (List aI) :=
 (Option.bind (chk (dg ([]:List aI).length s_.length 16)) fun _=>some (([]:List aI)++s_))
end Go.Tw.X
set_option linter.unusedVariables false
set_option linter.unusedSimpArgs false
set_option maxRecDepth 10000
namespace Go.Tw.X
open Go Go.Tw
def dI:List Int:=[0,498536548,997073096,651767980,1994146192,1802195444,1303535960,1342533948,3988292384,4027552580,3604390888,3412177804,2607071920,2262029012,2685067896,3183342108]
noncomputable def ko (x_:Int) (b:Int):Option Int :=
 (Option.bind (idx dI (Go.bits .and .u32 (Go.bits .xor .u32 x_ (IntKind.u32.wrap b)) 15)) fun x1=>(Option.bind (idx dI (Go.bits .and .u32 (Go.bits .xor .u32 ((Go.bits .xor .u32 x_ (IntKind.u32.wrap b)).fdiv (2 ^ (min 4 32))) x1) 15)) fun x5=>some (Go.bits .xor .u32 ((Go.bits .xor .u32 ((Go.bits .xor .u32 x_ (IntKind.u32.wrap b)).fdiv (2 ^ (min 4 32))) x1).fdiv (2 ^ (min 4 32))) x5)))
noncomputable def ny (l:List ByteArray):Option Int :=
 (Option.bind (iter (σ:=Int×Int) (ρ:=Int) (fun a=>(bif (decide (a.2 < (l.length:Int))) then (Option.bind (idx l a.2) fun c=>(Option.bind (iter (σ:=Int×Int) (ρ:=Int) (fun b=>(bif (decide (b.1 < (c.size:Int))) then (Option.bind (jh c b.1) fun b642=>(Option.bind (ko b.2 b642) fun d=>some (.inl ((IntKind.i64.wrap (b.1+1)),d)))) else some (.inr b.2))) (0,a.1)) fun e=>some (.inl (e,(IntKind.i64.wrap (a.2+1)))))) else some (.inr a.1))) (4294967295,0)) fun f=>some (Go.bits .xor .u32 4294967295 f))
end Go.Tw.X
set_option linter.unusedVariables false
set_option linter.unusedSimpArgs false
set_option maxRecDepth 10000
namespace Go.Tw.X
open Go Go.Tw
structure bQ where
 l:List (List aI)
 bG:List Int
 begun:List aI
 deriving DecidableEq,Inhabited
noncomputable def mR:Option bQ :=
 some (bQ.mk ([]:List (List aI)) [0] ([]:List aI))
noncomputable def dL (b:bQ):Option Int :=
 some (b.l.length:Int)
noncomputable def gy (b:bQ) (n_:Int):Option Int :=
 (Option.bind (idx b.bG (imax 0 (dt n_ (b.l.length:Int)))) fun a=>some a)
noncomputable def gA (b:bQ):Option (List aI) :=
 (Option.bind (bX b.begun) fun r1=>some r1)
noncomputable def kE (l:List aI):Option ByteArray :=
 (Option.bind (iA (eD.mk ([]:List Int)) [(l.length:Int)]) fun r6=>(Option.bind (iter (σ:=eD×Int) (ρ:=eD) (fun a=>(bif (decide (a.2 < (l.length:Int))) then (Option.bind (idx l a.2) fun b=>(Option.bind (iA a.1 [(IntKind.i64.wrap b.rune),b.aK]) fun c=>some (.inl (c,(IntKind.i64.wrap (a.2+1)))))) else some (.inr a.1))) (r6,0)) fun d=>(Option.bind (jv d) fun e=>some e)))
noncomputable def kF (chain:Int) (l:List aI):Option Int :=
 (Option.bind (kE l) fun r1=>(Option.bind (ny [r1]) fun r6=>some ((IntKind.i64.wrap (((IntKind.i64.wrap (((IntKind.i64.wrap (chain*256)).tmod 281474976710597)*256)).tmod 281474976710597)+(IntKind.i64.wrap r6))).tmod 281474976710597)))
noncomputable def dP (b:bQ) (l:List aI):Option bQ :=
 (Option.bind (bX l) fun a=>(Option.bind (chk (dg b.l.length [a].length 24)) fun _=>(Option.bind (idx b.bG (IntKind.i64.wrap ((b.bG.length:Int) - 1))) fun d=>(Option.bind (kF d l) fun c=>(Option.bind (chk (dg b.bG.length [c].length 8)) fun _=>some (bQ.mk (b.l++[a]) (b.bG++[c]) b.begun))))))
noncomputable def fF (b:bQ) (rows:List aE):Option (Int×bQ) :=
 (Option.bind (iter (σ:=bQ×Int) (ρ:=bQ) (fun a=>(bif (decide (a.2 < (rows.length:Int))) then (Option.bind ((Option.bind (idx rows a.2) fun f=>(Option.bind (fS f) fun g=>(Option.bind (chk (dg a.1.begun.length g.length 16)) fun _=>(Option.bind (iter (σ:=bQ) (ρ:=bQ) (fun d=>(bif (decide ((d.begun.length:Int)≥1024)) then (Option.bind (chk (cF 0 1024 d.begun.length)) fun _=>(Option.bind (dP d (cut d.begun 0 1024)) fun c=>(Option.bind (chk (cF 1024 (c.begun.length:Int) c.begun.length)) fun _=>(Option.bind (bX (cut c.begun 1024 (c.begun.length:Int))) fun j=>some (.inl (bQ.mk c.l c.bG j)))))) else some (.inr d))) (bQ.mk a.1.l a.1.bG (a.1.begun++g))) fun e=>(bif (!f.wrapped) then (Option.bind (dP e e.begun) fun h=>some (bQ.mk h.l h.bG ([]:List aI))) else some e))))):Option bQ) fun k=>some (.inl (k,(IntKind.i64.wrap (a.2+1))))) else some (.inr a.1))) (b,0)) fun i=>some ((IntKind.i64.wrap ((i.l.length:Int) - (b.l.length:Int))),i))
noncomputable def gX (b:bQ) (i:Int):Option ((List aI)×Bool) :=
 (Option.bind ((bif (decide (i < 0)) then some true else some (decide (i≥(b.l.length:Int)))):Option Bool) fun e4=>(bif e4 then some (([]:List aI),false) else (Option.bind (idx b.l i) fun a=>(Option.bind (bX a) fun c=>some (c,true)))))
end Go.Tw.X
set_option linter.unusedVariables false
set_option linter.unusedSimpArgs false
set_option maxRecDepth 10000
namespace Go.Tw.X
open Go Go.Tw
structure aU where
 w:Int
 l:List aE
 deriving DecidableEq,Inhabited
noncomputable def fk (n_:Int) (lo:Int) (hi:Int):Option Int :=
 some (imax lo (dt n_ hi))
noncomputable def fR (n_:Int):Option Int :=
 (Option.bind (fk n_ 1 1000) fun r1=>some r1)
noncomputable def lx (w:Int) (h_:Int):Option aU :=
 (Option.bind (fR w) fun r1=>(Option.bind (fR h_) fun r5=>(Option.bind (iter (σ:=aU×Int) (ρ:=aU) (fun a=>(bif (decide (a.2 < r5)) then (Option.bind (gx a.1.w 0) fun b=>(Option.bind (chk (dg a.1.l.length [b].length 32)) fun _=>some (.inl ((aU.mk a.1.w (a.1.l++[b])),(IntKind.i64.wrap (a.2+1)))))) else some (.inr a.1))) ((aU.mk r1 ([]:List aE)),0)) fun c=>some c)))
noncomputable def kp (r_:aE):Option aE :=
 (Option.bind (dF r_.cells) fun a=>some (aE.mk a r_.wrapped))
noncomputable def dM (g:aU) (y:Int):Option aE :=
 (Option.bind ((bif (decide (y < 0)) then some true else some (decide (y≥(g.l.length:Int)))):Option Bool) fun e5=>(bif e5 then some (aE.mk ([]:List aG) false) else (Option.bind (idx g.l y) fun a=>(Option.bind (kp a) fun b=>some b))))
noncomputable def dy (g:aU) (y:Int) (r_:aE):Option (Bool×aU) :=
 (Option.bind ((bif (decide (y < 0)) then some true else some (decide (y≥(g.l.length:Int)))):Option Bool) fun e5=>(bif e5 then some (false,g) else (Option.bind (fU r_ g.w) fun a=>(Option.bind (idx g.l y) fun b=>some (true,(aU.mk g.w (g.l.set y.toNat a)))))))
noncomputable def cY (g:aU) (top:Int) (aH:Int):Option (Unit ⊕ (Int×Int)) :=
 (Option.bind (fk top 0 (IntKind.i64.wrap ((g.l.length:Int) - 1))) fun r1=>(Option.bind (fk aH 0 (IntKind.i64.wrap ((g.l.length:Int) - 1))) fun r4=>(bif (decide (r4 < r1)) then some (.inl ()) else (Option.bind (chk (cF r1 (IntKind.i64.wrap (r4+1)) g.l.length)) fun _=>some (.inr (r1,(IntKind.i64.wrap (r4+1))))))))
noncomputable def dV (g:aU) (top:Int) (aH:Int) (n_:Int) (aK:Int):Option ((List aE)×aU) :=
 (Option.bind (cY g top aH) fun | .inl r1=>some (([]:List aE),g) | .inr r1=>(Option.bind (chk (cF r1.1 r1.2 g.l.length)) fun _=>(Option.bind (fk n_ 0 ((cut g.l r1.1 r1.2).length:Int)) fun r9=>(Option.bind (chk (cF 0 r9 (cut g.l r1.1 r1.2).length)) fun _=>(Option.bind (cU (cut g.l (r1.1+0) (r1.1+r9))) fun b=>(Option.bind (chk (cF r9 ((cut g.l r1.1 r1.2).length:Int) (cut g.l r1.1 r1.2).length)) fun _=>(Option.bind (iter (σ:=aU×Int) (ρ:=aU) (fun a=>(bif (decide (a.2 < ((cut a.1.l r1.1 r1.2).length:Int))) then (Option.bind (gx a.1.w aK) fun c=>(Option.bind (chk (cF r1.1 r1.2 a.1.l.length)) fun _=>(Option.bind (idx (cut a.1.l r1.1 r1.2) a.2) fun e=>some (.inl ((aU.mk a.1.w (a.1.l.set (r1.1.toNat+a.2.toNat) c)),(IntKind.i64.wrap (a.2+1))))))) else some (.inr a.1))) ((aU.mk g.w (nh g.l r1.1 r1.2 (r1.1+r9) (r1.1+((cut g.l r1.1 r1.2).length:Int)))),(IntKind.i64.wrap (((cut (nh g.l r1.1 r1.2 (r1.1+r9) (r1.1+((cut g.l r1.1 r1.2).length:Int))) r1.1 r1.2).length:Int) - r9)))) fun d=>some (b,d))))))))
noncomputable def dk (g:aU) (top:Int) (aH:Int) (n_:Int) (aK:Int):Option ((List aE)×aU) :=
 (Option.bind (cY g top aH) fun | .inl r1=>some (([]:List aE),g) | .inr r1=>(Option.bind (chk (cF r1.1 r1.2 g.l.length)) fun _=>(Option.bind (fk n_ 0 ((cut g.l r1.1 r1.2).length:Int)) fun r9=>(Option.bind (chk (cF (IntKind.i64.wrap (((cut g.l r1.1 r1.2).length:Int) - r9)) ((cut g.l r1.1 r1.2).length:Int) (cut g.l r1.1 r1.2).length)) fun _=>(Option.bind (cU (cut g.l (r1.1+(IntKind.i64.wrap (((cut g.l r1.1 r1.2).length:Int) - r9))) (r1.1+((cut g.l r1.1 r1.2).length:Int)))) fun b=>(Option.bind (dU b) fun c=>(Option.bind (chk (decide (c.length=b.length))) fun _=>(Option.bind (chk (cF r9 ((cut g.l r1.1 r1.2).length:Int) (cut g.l r1.1 r1.2).length)) fun _=>(Option.bind (chk (cF 0 (IntKind.i64.wrap (((cut g.l r1.1 r1.2).length:Int) - r9)) (cut g.l r1.1 r1.2).length)) fun _=>(Option.bind (iter (σ:=aU×Int) (ρ:=aU) (fun a=>(bif (decide (a.2 < r9)) then (Option.bind (gx a.1.w aK) fun d=>(Option.bind (chk (cF r1.1 r1.2 a.1.l.length)) fun _=>(Option.bind (idx (cut a.1.l r1.1 r1.2) a.2) fun f=>some (.inl ((aU.mk a.1.w (a.1.l.set (r1.1.toNat+a.2.toNat) d)),(IntKind.i64.wrap (a.2+1))))))) else some (.inr a.1))) ((aU.mk g.w (nh g.l (r1.1+r9) (r1.1+((cut g.l r1.1 r1.2).length:Int)) (r1.1+0) (r1.1+(IntKind.i64.wrap (((cut g.l r1.1 r1.2).length:Int) - r9))))),0)) fun e=>some (c,e)))))))))))
noncomputable def fY (g:aU) (w:Int) (h_:Int) (off:Int):Option ((List aE)×aU) :=
 (Option.bind (fk off 0 (IntKind.i64.wrap ((g.l.length:Int) - 1))) fun r1=>(Option.bind (chk (cF 0 r1 g.l.length)) fun _=>(Option.bind (cU (cut g.l 0 r1)) fun h=>(Option.bind (chk (cF r1 (g.l.length:Int) g.l.length)) fun _=>(Option.bind (cU (cut g.l r1 (g.l.length:Int))) fun b=>(Option.bind (fR h_) fun d=>(Option.bind (chk (cF 0 (dt (b.length:Int) d) b.length)) fun _=>(Option.bind (iter (σ:=(List aE)) (ρ:=(List aE)) (fun c=>(Option.bind (fR h_) fun i=>(bif (decide ((c.length:Int) < i)) then (Option.bind (fR w) fun j=>(Option.bind (gx j 0) fun e=>(Option.bind (chk (dg c.length [e].length 32)) fun _=>some (.inl (c++[e]))))) else some (.inr c)))) (cut b 0 (dt (b.length:Int) d))) fun f=>(Option.bind (fR w) fun k=>(Option.bind (iter (σ:=aU×Int) (ρ:=aU) (fun a=>(bif (decide (a.2 < (f.length:Int))) then (Option.bind (idx a.1.l a.2) fun m=>(Option.bind (dy a.1 a.2 m) fun n=>some (.inl (n.2,(IntKind.i64.wrap (a.2+1)))))) else some (.inr a.1))) ((aU.mk k f),0)) fun o=>some (h,o)))))))))))
noncomputable def cQ (g:aU):Option (Int×Int) :=
 some (g.w,(g.l.length:Int))
noncomputable def jM (l:List aE):Option (List aE) :=
 some l
noncomputable def fV {σ:Type} (Y:σ→aE→Option (σ×Bool)) (y0:σ) (x1:List aE):Option σ :=
 (Option.bind (iter (σ:=Int×σ) (ρ:=σ ⊕ σ) (fun a=>(bif (decide (a.1 < (x1.length:Int))) then (Option.bind (idx x1 a.1) fun b=>(Option.bind (kp b) fun c=>(Option.bind (Y a.2 c) fun z184=>(bif (!z184.2) then (ka (some z184.1)) else some (.inl ((IntKind.i64.wrap (a.1+1)),z184.1)))))) else some (.inr (.inl a.2)))) (0,y0)) fun | .inl e139=>some e139 | .inr w=>some w)
noncomputable def fW (l:List aE):Option ((List aE)×(List aE)) :=
 (Option.bind (jM l) fun r2=>(Option.bind (fV (fun s40 x9=>(Option.bind (chk (dg s40.length [x9].length 32)) fun _=>some ((s40++[x9]),true))) ([]:(List aE)) r2) fun a=>some (a,r2)))
noncomputable def gY (g:aU):Option ((List aE)×aU) :=
 (Option.bind (fW g.l) fun r1=>(Option.bind (chk (decide (r1.2.length=g.l.length))) fun _=>some (r1.1,(aU.mk g.w r1.2))))
noncomputable def fy (g:aU):Option (aU×aU) :=
 (Option.bind (fW g.l) fun a=>(Option.bind (chk (decide (a.2.length=g.l.length))) fun _=>some ((aU.mk g.w a.1),(aU.mk g.w a.2))))
end Go.Tw.X
set_option linter.unusedVariables false
set_option linter.unusedSimpArgs false
set_option maxRecDepth 10000
namespace Go.Tw.X
open Go Go.Tw
structure aX where
 kind:Int
 rune:Int
 byte:Int
 cv:Bool
 aY:List Int
 text:ByteArray
 deriving DecidableEq,Inhabited
structure cV where
 cv:Bool
 gQ:Bool
 any:Bool
 some:Bool
 n:Int
 aY:List Int
 deriving DecidableEq,Inhabited
structure aC where
 state:Int
 order:cV
 text:ByteArray
 bV:bD
 out:List aX
 deriving DecidableEq,Inhabited
noncomputable def dQ (p:aC) (a:aX):Option aC :=
 (Option.bind (chk (dg p.out.length [a].length 56)) fun _=>some (aC.mk p.state p.order p.text p.bV (p.out++[a])))
noncomputable def eT (p:aC) (l:List Int):Option aC :=
 (Option.bind (iter (σ:=aC×Int) (ρ:=aC) (fun a=>(bif (decide (a.2 < (l.length:Int))) then (Option.bind (idx l a.2) fun b=>(Option.bind (dQ a.1 (aX.mk 1 b 0 false ([]:List Int) (ByteArray.mk #[]))) fun c=>some (.inl (c,(IntKind.i64.wrap (a.2+1)))))) else some (.inr a.1))) (p,0)) fun d=>some d)
noncomputable def dB (p:aC) (b:Int):Option (Bool×aC) :=
 (Option.bind ((Option.bind ((bif (b == 24) then some true else some (b == 26)):Option Bool) fun a=>(bif a then some (.inl (aC.mk 0 p.order p.text p.bV p.out)) else (bif (b == 27) then some (.inl (aC.mk 1 p.order p.text p.bV p.out)) else (bif (decide (b < 32)) then (Option.bind (dQ p (aX.mk 2 0 b false ([]:List Int) (ByteArray.mk #[]))) fun c=>some (.inl c)) else (gT (some ((b == 127),p))))))):Option (aC ⊕ (Bool×aC))) fun | .inl e42=>some (true,e42) | .inr w=>some w)
noncomputable def eM (p:aC) (b:Int):Option aC :=
 (Option.bind ((bif (decide (b < 32)) then some true else some (b == 127)):Option Bool) fun e4=>(bif e4 then (Option.bind (fG p.bV) fun d=>(Option.bind (eT p d) fun a=>(Option.bind (dB (aC.mk a.state a.order a.text (bD.mk 0 0 0) a.out) b) fun e=>some e.2))) else (Option.bind (fg p.bV b) fun c=>(Option.bind (eT (aC.mk p.state p.order p.text c.1 p.out) c.2) fun f=>some f))))
noncomputable def dR (p:aC) (b:Int):Option aC :=
 (Option.bind (dB p b) fun r1=>(bif r1.1 then some r1.2 else (Option.bind ((bif (b == 91) then (gT (some (aC.mk 3 (cV.mk false false false false 0 ([]:List Int)) r1.2.text r1.2.bV r1.2.out))) else (bif (b == 93) then (gT (some (aC.mk 4 r1.2.order (ByteArray.mk #[]) r1.2.bV r1.2.out))) else (bif (decide (b < 48)) then (gT (some (aC.mk 2 r1.2.order r1.2.text r1.2.bV r1.2.out))) else (bif (decide (b < 127)) then (Option.bind (dQ r1.2 (aX.mk 3 0 b false ([]:List Int) (ByteArray.mk #[]))) fun a=>some (.inl a)) else some (.inl r1.2))))):Option (aC ⊕ aC)) fun | .inl e39=>some (aC.mk 0 e39.order e39.text e39.bV e39.out) | .inr w=>some w)))
noncomputable def fI (p:aC) (b:Int):Option aC :=
 (Option.bind ((Option.bind (dB p b) fun c=>(bif (!c.1) then some ((decide (b≥48)),c.2) else some (false,c.2))):Option (Bool×aC)) fun a=>(bif a.1 then some (aC.mk 0 a.2.order a.2.text a.2.bV a.2.out) else some a.2))
noncomputable def fX (o:aC):Option aC :=
 (Option.bind ((bif (decide ((o.order.aY.length:Int) < 16)) then (Option.bind (chk (dg o.order.aY.length [o.order.n].length 8)) fun _=>some (aC.mk o.state (cV.mk o.order.cv o.order.gQ o.order.any o.order.some o.order.n (o.order.aY++[o.order.n])) o.text o.bV o.out)) else some o):Option aC) fun a=>some (aC.mk a.state (cV.mk a.order.cv a.order.gQ a.order.any a.order.some 0 a.order.aY) a.text a.bV a.out))
noncomputable def fl (p:aC) (a:aX):Option aC :=
 (Option.bind (chk (dg p.out.length [a].length 56)) fun _=>some (aC.mk p.state p.order p.text p.bV (p.out++[a])))
noncomputable def fJ (p:aC) (b:Int):Option aC :=
 (bif p.order.gQ then some (aC.mk 0 p.order p.text p.bV p.out) else (Option.bind ((bif p.order.some then (Option.bind (fX (aC.mk 0 p.order p.text p.bV p.out)) fun d=>some d) else some (aC.mk 0 p.order p.text p.bV p.out)):Option aC) fun a=>(Option.bind (fl a (aX.mk 4 0 b a.order.cv a.order.aY (ByteArray.mk #[]))) fun c=>(Option.bind (chk (!(c.state == (3:Int)))) fun _=>some c))))
noncomputable def eH (p:aC) (b:Int):Option aC :=
 (Option.bind (dB p b) fun r1=>(bif r1.1 then some r1.2 else (Option.bind ((bif (decide (b≥48)) then some (decide (b≤57)) else some false):Option Bool) fun c=>(bif c then some (aC.mk r1.2.state (cV.mk r1.2.order.cv r1.2.order.gQ true true (dt (IntKind.i64.wrap ((IntKind.i64.wrap (10*r1.2.order.n))+(IntKind.i64.wrap (IntKind.u8.wrap (b - 48))))) 9999) r1.2.order.aY) r1.2.text r1.2.bV r1.2.out) else (Option.bind ((bif (b == 59) then some true else some (b == 58)):Option Bool) fun d=>(bif d then (Option.bind (chk (r1.2.state == (3:Int))) fun _=>(Option.bind (fX (aC.mk r1.2.state (cV.mk r1.2.order.cv r1.2.order.gQ true r1.2.order.some r1.2.order.n r1.2.order.aY) r1.2.text r1.2.bV r1.2.out)) fun a=>some (aC.mk a.state (cV.mk a.order.cv a.order.gQ a.order.any true a.order.n a.order.aY) a.text a.bV a.out))) else (Option.bind ((bif (b == 63) then some (!r1.2.order.any) else some false):Option Bool) fun e=>(bif e then some (aC.mk r1.2.state (cV.mk true r1.2.order.gQ true r1.2.order.some r1.2.order.n r1.2.order.aY) r1.2.text r1.2.bV r1.2.out) else (Option.bind ((bif (decide (b≥64)) then some (decide (b < 127)) else some false):Option Bool) fun f=>(bif f then (Option.bind (chk (r1.2.state == (3:Int))) fun _=>(Option.bind (fJ (aC.mk r1.2.state (cV.mk r1.2.order.cv r1.2.order.gQ true r1.2.order.some r1.2.order.n r1.2.order.aY) r1.2.text r1.2.bV r1.2.out) b) fun g=>some g)) else some (aC.mk r1.2.state (cV.mk r1.2.order.cv true true r1.2.order.some r1.2.order.n r1.2.order.aY) r1.2.text r1.2.bV r1.2.out)))))))))))
noncomputable def fz (p:aC):Option aC :=
 (Option.bind (iter (σ:=aC×Int) (ρ:=aC) (fun a=>(bif (decide (a.2 < (([(ByteArray.mk #[48,59]),(ByteArray.mk #[50,59])]).length:Int))) then (Option.bind ((Option.bind (idx ([(ByteArray.mk #[48,59]),(ByteArray.mk #[50,59])]) a.2) fun c=>(Option.bind (fH a.1.text c) fun b=>(bif b.2 then (Option.bind (dQ a.1 (aX.mk 5 0 0 false ([]:List Int) b.1)) fun d=>some d) else some a.1))):Option aC) fun e=>some (.inl (e,(IntKind.i64.wrap (a.2+1))))) else some (.inr a.1))) ((aC.mk 0 p.order p.text p.bV p.out),0)) fun f=>some f)
noncomputable def fm (p:aC) (b:Int):Option aC :=
 (bif (b == 7) then (Option.bind (fz p) fun r2=>some r2) else (Option.bind ((bif (b == 24) then some true else some (b == 26)):Option Bool) fun a=>(bif a then some (aC.mk 0 p.order p.text p.bV p.out) else (bif (b == 27) then some (aC.mk 5 p.order p.text p.bV p.out) else (bif (decide ((p.text.size:Int) < 200)) then (Option.bind (chk (vO p.text.size (km [b]).size)) fun _=>some (aC.mk p.state p.order (p.text++(km [b])) p.bV p.out)) else some p)))))
noncomputable def gZ (p:aC) (b:Int):Option aC :=
 (bif (p.state == 0) then (Option.bind (eM p b) fun r2=>some r2) else (bif (p.state == 1) then (Option.bind (dR p b) fun a=>some a) else (bif (p.state == 2) then (Option.bind (fI p b) fun c=>some c) else (bif (p.state == 3) then (Option.bind (eH p b) fun d=>some d) else (bif (p.state == 4) then (Option.bind (fm p b) fun e=>some e) else (bif (b == 92) then (Option.bind (fz p) fun f=>some f) else (Option.bind (dR (aC.mk 1 p.order p.text p.bV p.out) b) fun g=>some g)))))))
noncomputable def gB (p:aC) (s_:ByteArray):Option ((List aX)×aC) :=
 (Option.bind (iter (σ:=aC×Int) (ρ:=aC) (fun a=>(bif (decide (a.2 < (s_.size:Int))) then (Option.bind (jh s_ a.2) fun b134=>(Option.bind (gZ a.1 b134) fun c=>some (.inl (c,(IntKind.i64.wrap (a.2+1)))))) else some (.inr a.1))) ((aC.mk p.state p.order p.text p.bV ([]:List aX)),0)) fun b=>some (b.out,(aC.mk b.state b.order b.text b.bV ([]:List aX))))
end Go.Tw.X
set_option linter.unusedVariables false
set_option linter.unusedSimpArgs false
set_option maxRecDepth 10000
namespace Go.Tw.X
open Go Go.Tw
structure aZ where
 eW:Int
 back:Int
 bold:Bool
 under:Bool
 cO:Bool
 deriving DecidableEq,Inhabited
noncomputable def gC (s_:aZ):Option Bool :=
 (Option.bind ((bif (decide (s_.eW≥0)) then (bif (decide (s_.eW < 9)) then (bif (decide (s_.back≥0)) then some (decide (s_.back < 9)) else some false) else some false) else some false):Option Bool) fun e9=>some e9)
noncomputable def jD (is:Bool) (n_:Int):Option Int :=
 (bif is then some n_ else some 0)
noncomputable def gD (s_:aZ):Option Int :=
 (Option.bind (gC s_) fun r2=>(bif (!r2) then some 0 else (Option.bind (jD s_.bold 81) fun a=>(Option.bind (jD s_.under 162) fun b=>(Option.bind (jD s_.cO 324) fun c=>some (IntKind.i64.wrap ((IntKind.i64.wrap ((IntKind.i64.wrap ((IntKind.i64.wrap (s_.eW+(IntKind.i64.wrap (9*s_.back))))+a))+b))+c)))))))
noncomputable def jN (l:List Int):Option Int :=
 (Option.bind ((bif (decide ((l.length:Int) > 0)) then (Option.bind (idx l 0) fun a=>some (a == 5)) else some false):Option Bool) fun b=>(bif b then some (dt 2 (l.length:Int)) else (Option.bind ((bif (decide ((l.length:Int) > 0)) then (Option.bind (idx l 0) fun c=>some (c == 2)) else some false):Option Bool) fun d=>(bif d then some (dt 4 (l.length:Int)) else some 0))))
noncomputable def gE (s_:aZ) (n_:Int):Option aZ :=
 (Option.bind ((bif (n_ == 0) then (gT (some (aZ.mk 0 0 false false false))) else (Option.bind ((bif (n_ == 1) then some true else some (n_ == 22)):Option Bool) fun a=>(bif a then some (.inl (aZ.mk s_.eW s_.back (n_ == 1) s_.under s_.cO)) else (Option.bind ((bif (n_ == 4) then some true else some (n_ == 24)):Option Bool) fun b=>(bif b then some (.inl (aZ.mk s_.eW s_.back s_.bold (n_ == 4) s_.cO)) else (Option.bind ((bif (n_ == 7) then some true else some (n_ == 27)):Option Bool) fun c=>(bif c then some (.inl (aZ.mk s_.eW s_.back s_.bold s_.under (n_ == 7))) else (Option.bind ((bif (decide (n_≥30)) then some (decide (n_ < 38)) else some false):Option Bool) fun d=>(bif d then some (.inl (aZ.mk (IntKind.i64.wrap ((IntKind.i64.wrap (n_ - 30))+1)) s_.back s_.bold s_.under s_.cO)) else (bif (n_ == 39) then some (.inl (aZ.mk 0 s_.back s_.bold s_.under s_.cO)) else (Option.bind ((bif (decide (n_≥40)) then some (decide (n_ < 48)) else some false):Option Bool) fun e=>(bif e then some (.inl (aZ.mk s_.eW (IntKind.i64.wrap ((IntKind.i64.wrap (n_ - 40))+1)) s_.bold s_.under s_.cO)) else (bif (n_ == 49) then some (.inl (aZ.mk s_.eW 0 s_.bold s_.under s_.cO)) else some (.inl s_)))))))))))))):Option (aZ ⊕ aZ)) fun | .inl e90=>some e90 | .inr w=>some w)
noncomputable def gF (s_:aZ) (aY:List Int):Option aZ :=
 (bif ((aY.length:Int) == 0) then some (aZ.mk 0 0 false false false) else (Option.bind (iter (σ:=aZ×Int) (ρ:=aZ) (fun a=>(bif (decide (a.2 < (aY.length:Int))) then (Option.bind ((Option.bind (idx aY a.2) fun b=>(Option.bind ((bif (b == 38) then some true else some (b == 48)):Option Bool) fun d=>(bif d then (Option.bind (chk (cF (IntKind.i64.wrap (a.2+1)) (aY.length:Int) aY.length)) fun _=>(Option.bind (jN (cut aY (IntKind.i64.wrap (a.2+1)) (aY.length:Int))) fun e=>some ((IntKind.i64.wrap (a.2+e)),a.1))) else (Option.bind (idx aY a.2) fun f=>(Option.bind (gE a.1 f) fun h=>some (a.2,h)))))):Option (Int×aZ)) fun c=>some (.inl (c.2,(IntKind.i64.wrap (c.1+1))))) else some (.inr a.1))) (s_,0)) fun i=>some i))
end Go.Tw.X
set_option linter.unusedVariables false
set_option linter.unusedSimpArgs false
set_option maxRecDepth 10000
namespace Go.Tw.X
open Go Go.Tw
structure cZ where
 x:Int
 y:Int
 aK:aZ
 deriving DecidableEq,Inhabited
structure aA where
 g:aU
 spot:cZ
 saved:cZ
 waiting:Bool
 top:Int
 aH:Int
 aW:Bool
 title:ByteArray
 deriving DecidableEq,Inhabited
noncomputable def jb (w:Int) (h_:Int):Option aA :=
 (Option.bind (lx w h_) fun r1=>(Option.bind (cQ r1) fun r9=>some (aA.mk r1 (cZ.mk 0 0 (aZ.mk 0 0 false false false)) (cZ.mk 0 0 (aZ.mk 0 0 false false false)) false 0 (IntKind.i64.wrap (r9.2 - 1)) true (ByteArray.mk #[]))))
noncomputable def fp (s_:aA):Option (aU×aA) :=
 (Option.bind (fy s_.g) fun r1=>some (r1.1,(aA.mk r1.2 s_.spot s_.saved s_.waiting s_.top s_.aH s_.aW s_.title)))
noncomputable def gg (s_:aA):Option ByteArray :=
 some s_.title
noncomputable def fP (s_:aA):Option (Int×Int) :=
 some (s_.spot.x,s_.spot.y)
noncomputable def fA (r_:aE):Option aE :=
 some (aE.mk r_.cells true)
noncomputable def cy (s_:aA):Option aA :=
 (Option.bind (dM s_.g s_.spot.y) fun a=>(Option.bind (fA a) fun b=>(Option.bind (dy s_.g s_.spot.y b) fun c=>some (aA.mk c.2 s_.spot s_.saved s_.waiting s_.top s_.aH s_.aW s_.title))))
noncomputable def bP (s_:aA):Option Int :=
 (Option.bind (gD s_.spot.aK) fun r1=>some r1)
noncomputable def eU (s_:aA) (n_:Int):Option ((List aE)×aA) :=
 (Option.bind (bP s_) fun b=>(Option.bind (dV s_.g s_.top s_.aH n_ b) fun a=>(bif (decide (s_.top > 0)) then some (([]:List aE),(aA.mk a.2 s_.spot s_.saved s_.waiting s_.top s_.aH s_.aW s_.title)) else some (a.1,(aA.mk a.2 s_.spot s_.saved s_.waiting s_.top s_.aH s_.aW s_.title)))))
noncomputable def cW (s_:aA):Option (Int×Int) :=
 (Option.bind (cQ s_.g) fun r1=>some ((IntKind.i64.wrap (r1.1 - 1)),(IntKind.i64.wrap (r1.2 - 1))))
noncomputable def eE (n_:Int) (lo:Int) (hi:Int):Option Int :=
 some (imax lo (dt n_ hi))
noncomputable def bB (s_:aA) (x_:Int) (y:Int):Option aA :=
 (Option.bind (cW s_) fun r1=>(Option.bind (eE x_ 0 r1.1) fun r4=>(Option.bind (eE y 0 r1.2) fun r7=>some (aA.mk s_.g (cZ.mk r4 r7 s_.spot.aK) s_.saved false s_.top s_.aH s_.aW s_.title))))
noncomputable def cD (s_:aA):Option ((List aE)×aA) :=
 (bif (s_.spot.y == s_.aH) then (Option.bind (eU (aA.mk s_.g s_.spot s_.saved false s_.top s_.aH s_.aW s_.title) 1) fun a=>some (a.1,a.2)) else (Option.bind (bB (aA.mk s_.g s_.spot s_.saved false s_.top s_.aH s_.aW s_.title) s_.spot.x (IntKind.i64.wrap (s_.spot.y+1))) fun b=>some (([]:List aE),b)))
noncomputable def fB (r_:aE) (x1:aA):Option aE :=
 (Option.bind (bP x1) fun a=>(Option.bind (iN r_ a) fun b=>some b))
noncomputable def cz (s_:aA):Option aA :=
 (Option.bind (dM s_.g s_.spot.y) fun a=>(Option.bind (fB a s_) fun b=>(Option.bind (dy s_.g s_.spot.y b) fun c=>some (aA.mk c.2 s_.spot s_.saved s_.waiting s_.top s_.aH s_.aW s_.title))))
noncomputable def fC (q:aE) (x1:aA) (x2:Int):Option aE :=
 (Option.bind (bP x1) fun a=>(Option.bind (ji q x1.spot.x x2 a) fun b=>some b))
noncomputable def cJ (s_:aA) (f_1:Int):Option aA :=
 (Option.bind (dM s_.g s_.spot.y) fun a=>(Option.bind (fC a s_ f_1) fun b=>(Option.bind (dy s_.g s_.spot.y b) fun c=>some (aA.mk c.2 s_.spot s_.saved s_.waiting s_.top s_.aH s_.aW s_.title))))
noncomputable def eN (s_:aA) (r_:Int):Option ((List aE)×aA) :=
 (Option.bind (lk r_) fun r3=>(Option.bind (cQ s_.g) fun r6=>(Option.bind ((bif (r3 == 0) then some true else some (decide (r3 > r6.1))):Option Bool) fun i=>(bif i then some (([]:List aE),s_) else (Option.bind ((bif s_.waiting then some s_.aW else some false):Option Bool) fun j=>(Option.bind ((bif j then (Option.bind (cy s_) fun c=>(Option.bind (cD (aA.mk c.g (cZ.mk 0 c.spot.y c.spot.aK) c.saved c.waiting c.top c.aH c.aW c.title)) fun f=>(Option.bind (chk (dg ([]:List aE).length f.1.length 32)) fun _=>some ((([]:List aE)++f.1),f.2.g,f.2)))) else some ([],s_.g,s_)):Option ((List aE)×aU×aA)) fun a=>(Option.bind ((bif (decide ((IntKind.i64.wrap (a.2.2.spot.x+r3)) > r6.1)) then (bif a.2.2.aW then (Option.bind (cz (aA.mk a.2.1 a.2.2.spot a.2.2.saved a.2.2.waiting a.2.2.top a.2.2.aH a.2.2.aW a.2.2.title)) fun d=>(Option.bind (cD (aA.mk d.g (cZ.mk 0 d.spot.y d.spot.aK) d.saved d.waiting d.top d.aH d.aW d.title)) fun h=>(Option.bind (chk (dg a.1.length h.1.length 32)) fun _=>some ((a.1++h.1),h.2.g,h.2)))) else some (a.1,a.2.1,(aA.mk a.2.1 (cZ.mk (IntKind.i64.wrap (a.2.2.spot.x - 1)) a.2.2.spot.y a.2.2.spot.aK) a.2.2.saved a.2.2.waiting a.2.2.top a.2.2.aH a.2.2.aW a.2.2.title))) else some (a.1,a.2.1,(aA.mk a.2.1 a.2.2.spot a.2.2.saved a.2.2.waiting a.2.2.top a.2.2.aH a.2.2.aW a.2.2.title))):Option ((List aE)×aU×aA)) fun e=>(Option.bind (cJ (aA.mk e.2.1 e.2.2.spot e.2.2.saved e.2.2.waiting e.2.2.top e.2.2.aH e.2.2.aW e.2.2.title) r_) fun b=>some (e.1,(aA.mk b.g (cZ.mk (dt (IntKind.i64.wrap (b.spot.x+r3)) (IntKind.i64.wrap (r6.1 - 1))) b.spot.y b.spot.aK) b.saved ((IntKind.i64.wrap (b.spot.x+r3)) == r6.1) b.top b.aH b.aW b.title))))))))))
noncomputable def ed (s_:aA) (b:Int):Option ((List aE)×aA) :=
 (Option.bind ((bif (b == 8) then (Option.bind (bB s_ (IntKind.i64.wrap (s_.spot.x - 1)) s_.spot.y) fun a=>some (.inl (a,a.g))) else (bif (b == 9) then (Option.bind (bB s_ (IntKind.i64.wrap ((IntKind.i64.wrap ((IntKind.i64.wrap (s_.spot.x.tdiv 8))+1))*8)) s_.spot.y) fun c=>some (.inl (c,c.g))) else (Option.bind ((bif (b == 10) then some (b == 10) else (bif (b == 11) then some (b == 11) else some (b == 12))):Option Bool) fun f=>(bif f then (Option.bind (cD s_) fun d=>(gT (some (d.1,d.2)))) else (bif (b == 13) then (Option.bind (bB s_ 0 s_.spot.y) fun e=>some (.inl (e,e.g))) else some (.inl (s_,s_.g))))))):Option ((aA×aU) ⊕ ((List aE)×aA))) fun | .inl e86=>some (([]:List aE),(aA.mk e86.2 e86.1.spot e86.1.saved e86.1.waiting e86.1.top e86.1.aH e86.1.aW e86.1.title)) | .inr w=>some w)
noncomputable def fq (s_:aA):Option aA :=
 (bif (s_.spot.y == s_.top) then (Option.bind (bP (aA.mk s_.g s_.spot s_.saved false s_.top s_.aH s_.aW s_.title)) fun a=>(Option.bind (dk s_.g s_.top s_.aH 1 a) fun b=>some (aA.mk b.2 s_.spot s_.saved false s_.top s_.aH s_.aW s_.title))) else (Option.bind (bB (aA.mk s_.g s_.spot s_.saved false s_.top s_.aH s_.aW s_.title) s_.spot.x (IntKind.i64.wrap (s_.spot.y - 1))) fun c=>some c))
noncomputable def eI (s_:aA) (b:Int):Option ((List aE)×aA) :=
 (Option.bind ((Option.bind ((bif (b == 69) then some (.inl (aA.mk s_.g (cZ.mk 0 s_.spot.y s_.spot.aK) s_.saved s_.waiting s_.top s_.aH s_.aW s_.title)) else (bif (b == 68) then some (.inl s_) else (bif (b == 77) then (gT (Option.bind (fq s_) fun d=>some (.inl d))) else (bif (b == 55) then (gT (some (.inl (aA.mk s_.g s_.spot s_.spot s_.waiting s_.top s_.aH s_.aW s_.title)))) else (bif (b == 56) then (gT (Option.bind (bB (aA.mk s_.g (cZ.mk s_.spot.x s_.spot.y s_.saved.aK) s_.saved s_.waiting s_.top s_.aH s_.aW s_.title) s_.saved.x s_.saved.y) fun e=>some (.inl e))) else (bif (b == 99) then (gT (Option.bind (cQ s_.g) fun a=>(Option.bind (jb a.1 a.2) fun f=>some (.inl f)))) else (gT (some (.inl s_))))))))):Option (aA ⊕ (aA ⊕ ((List aE)×aA)))) fun | .inl e4671=>(Option.bind (cD (aA.mk s_.g e4671.spot e4671.saved e4671.waiting e4671.top e4671.aH e4671.aW e4671.title)) fun c=>(gT (some (c.1,c.2)))) | .inr w=>some w):Option (aA ⊕ ((List aE)×aA))) fun | .inl e3164=>some (([]:List aE),e3164) | .inr w=>some w)
noncomputable def du (a:aX) (i:Int) (d:Int):Option Int :=
 (Option.bind ((bif (decide (i≥(a.aY.length:Int))) then some true else (Option.bind (idx a.aY i) fun b=>some (decide (b≤0)))):Option Bool) fun c=>(bif c then some d else (Option.bind (idx a.aY i) fun e=>some (dt e 9999))))
noncomputable def dS (s_:aA) (n_:Int):Option aA :=
 (Option.bind (cW s_) fun r1=>(Option.bind ((bif (decide (s_.spot.y≥s_.top)) then some (decide (n_ < 0)) else some false):Option Bool) fun e9=>(Option.bind ((bif e9 then some s_.top else some 0):Option Int) fun a=>(Option.bind ((bif (decide (s_.spot.y≤s_.aH)) then some (decide (n_ > 0)) else some false):Option Bool) fun b=>(Option.bind ((bif b then some s_.aH else some r1.2):Option Int) fun c=>(Option.bind (eE (IntKind.i64.wrap (s_.spot.y+n_)) a c) fun d=>(Option.bind (bB s_ s_.spot.x d) fun e=>some e)))))))
noncomputable def df (s_:aA) (y:Int) (from_:Int) (to:Int):Option aA :=
 (Option.bind (dM s_.g y) fun a=>(Option.bind (bP s_) fun b=>(Option.bind (gn a from_ to b) fun c=>(Option.bind (dy s_.g y c) fun d=>some (aA.mk d.2 s_.spot s_.saved s_.waiting s_.top s_.aH s_.aW s_.title)))))
noncomputable def ef (s_:aA) (n_:Int):Option aA :=
 (Option.bind (cQ s_.g) fun r1=>(Option.bind ((bif (n_ == 0) then (Option.bind (df s_ s_.spot.y s_.spot.x r1.1) fun b=>some (b.g,b)) else (bif (n_ == 1) then (Option.bind (df s_ s_.spot.y 0 (IntKind.i64.wrap (s_.spot.x+1))) fun c=>some (c.g,c)) else (bif (n_ == 2) then (Option.bind (df s_ s_.spot.y 0 r1.1) fun d=>some (d.g,d)) else some (s_.g,s_)))):Option (aU×aA)) fun a=>(bif a.2.waiting then some (aA.mk a.1 a.2.spot a.2.saved (decide (n_ > 2)) a.2.top a.2.aH a.2.aW a.2.title) else some (aA.mk a.1 a.2.spot a.2.saved false a.2.top a.2.aH a.2.aW a.2.title))))
noncomputable def fr (s_:aA) (n_:Int):Option aA :=
 (Option.bind (cQ s_.g) fun r1=>(Option.bind (iter (σ:=aA×aU×Int) (ρ:=aU×aA) (fun a=>(bif (decide (a.2.2 < r1.2)) then (Option.bind ((Option.bind ((bif (decide (a.2.2 < a.1.spot.y)) then (bif (n_ == 1) then some true else (bif (decide (a.2.2 > a.1.spot.y)) then (bif (n_ == 0) then some true else (bif (a.2.2 != a.1.spot.y) then some (n_ == 2) else some false)) else (bif (a.2.2 != a.1.spot.y) then some (n_ == 2) else some false))) else (bif (decide (a.2.2 > a.1.spot.y)) then (bif (n_ == 0) then some true else (bif (a.2.2 != a.1.spot.y) then some (n_ == 2) else some false)) else (bif (a.2.2 != a.1.spot.y) then some (n_ == 2) else some false))):Option Bool) fun e=>(bif e then (Option.bind (df (aA.mk a.2.1 a.1.spot a.1.saved a.1.waiting a.1.top a.1.aH a.1.aW a.1.title) a.2.2 0 r1.1) fun d=>some (d.g,d)) else some (a.2.1,(aA.mk a.2.1 a.1.spot a.1.saved a.1.waiting a.1.top a.1.aH a.1.aW a.1.title)))):Option (aU×aA)) fun b=>some (.inl ((aA.mk b.1 b.2.spot b.2.saved b.2.waiting b.2.top b.2.aH b.2.aW b.2.title),b.1,(IntKind.i64.wrap (a.2.2+1))))) else some (.inr (a.2.1,(aA.mk a.2.1 a.1.spot a.1.saved a.1.waiting a.1.top a.1.aH a.1.aW a.1.title))))) (s_,s_.g,0)) fun c=>(Option.bind (ef (aA.mk c.1 c.2.spot c.2.saved c.2.waiting c.2.top c.2.aH c.2.aW c.2.title) n_) fun f=>some f)))
noncomputable def eg (r_:aE) (x1:Int) (x2:aA) (x3:Int):Option aE :=
 (bif (x1 == 64) then (Option.bind (bP x2) fun a=>(Option.bind (gV r_ x2.spot.x x3 a) fun b=>some b)) else (bif (x1 == 80) then (Option.bind (bP x2) fun c=>(Option.bind (gW r_ x2.spot.x x3 c) fun d=>some d)) else (Option.bind (bP x2) fun e=>(Option.bind (gn r_ x2.spot.x (IntKind.i64.wrap (x2.spot.x+x3)) e) fun f=>some f))))
noncomputable def dm (s_:aA) (f_0:Int) (f_2:Int):Option aA :=
 (Option.bind (dM s_.g s_.spot.y) fun a=>(Option.bind (eg a f_0 s_ f_2) fun b=>(Option.bind (dy s_.g s_.spot.y b) fun c=>some (aA.mk c.2 s_.spot s_.saved s_.waiting s_.top s_.aH s_.aW s_.title))))
noncomputable def eO (s_:aA) (b:Int) (n_:Int):Option aA :=
 (Option.bind (dm s_ b n_) fun r4=>some (aA.mk r4.g r4.spot r4.saved false r4.top r4.aH r4.aW r4.title))
noncomputable def eP (s_:aA) (b:Int) (n_:Int):Option aA :=
 (Option.bind ((bif (decide (s_.spot.y < s_.top)) then some true else some (decide (s_.spot.y > s_.aH))):Option Bool) fun e6=>(bif e6 then some s_ else (Option.bind ((bif (b == 76) then (Option.bind (bP s_) fun a=>(Option.bind (dk s_.g s_.spot.y s_.aH n_ a) fun c=>some c.2)) else (Option.bind (bP s_) fun d=>(Option.bind (dV s_.g s_.spot.y s_.aH n_ d) fun e=>some e.2))):Option aU) fun f=>(Option.bind (bB (aA.mk f s_.spot s_.saved s_.waiting s_.top s_.aH s_.aW s_.title) 0 s_.spot.y) fun h=>some h))))
noncomputable def eJ (s_:aA) (a:aX):Option aA :=
 (Option.bind (cQ s_.g) fun r2=>(Option.bind (du a 0 1) fun d=>(Option.bind (eE d 1 r2.2) fun b=>(Option.bind (du a 1 r2.2) fun e=>(Option.bind (eE e 1 r2.2) fun c=>(bif (decide ((IntKind.i64.wrap (b - 1)) < (IntKind.i64.wrap (c - 1)))) then (Option.bind (bB (aA.mk s_.g s_.spot s_.saved s_.waiting (IntKind.i64.wrap (b - 1)) (IntKind.i64.wrap (c - 1)) s_.aW s_.title) 0 0) fun f=>some f) else some s_))))))
noncomputable def eQ (s_:aA) (a:aX):Option ((List aE)×aA) :=
 (Option.bind (du a 0 1) fun r2=>(Option.bind ((Option.bind ((bif (a.byte == 65) then some (a.byte == 65) else some (a.byte == 70)):Option Bool) fun r=>(bif r then (Option.bind (dS s_ (IntKind.i64.wrap (0 - r2))) fun c=>some (.inl (c,c.g))) else (Option.bind ((bif (a.byte == 66) then some (a.byte == 66) else some (a.byte == 69)):Option Bool) fun s=>(bif s then (Option.bind (dS s_ r2) fun d=>some (.inl (d,d.g))) else (bif (a.byte == 67) then (Option.bind (bB s_ (IntKind.i64.wrap (s_.spot.x+r2)) s_.spot.y) fun e=>some (.inl (e,e.g))) else (bif (a.byte == 68) then (Option.bind (bB s_ (IntKind.i64.wrap (s_.spot.x - r2)) s_.spot.y) fun f=>some (.inl (f,f.g))) else (bif (a.byte == 71) then (Option.bind (bB s_ (IntKind.i64.wrap (r2 - 1)) s_.spot.y) fun h=>some (.inl (h,h.g))) else (bif (a.byte == 100) then (Option.bind (bB s_ s_.spot.x (IntKind.i64.wrap (r2 - 1))) fun i=>some (.inl (i,i.g))) else (Option.bind ((bif (a.byte == 72) then some (a.byte == 72) else some (a.byte == 102)):Option Bool) fun t=>(bif t then (Option.bind (du a 1 1) fun u=>(Option.bind (bB s_ (IntKind.i64.wrap (u - 1)) (IntKind.i64.wrap (r2 - 1))) fun j=>some (.inl (j,j.g)))) else (bif (a.byte == 74) then (Option.bind (du a 0 0) fun v=>(Option.bind (fr s_ v) fun k=>some (.inl (k,k.g)))) else (bif (a.byte == 75) then (Option.bind (du a 0 0) fun z=>(Option.bind (ef s_ z) fun l=>some (.inl (l,l.g)))) else (Option.bind ((bif (a.byte == 64) then some (a.byte == 64) else (bif (a.byte == 80) then some (a.byte == 80) else some (a.byte == 88))):Option Bool) fun A=>(bif A then (Option.bind (eO s_ a.byte r2) fun m=>some (.inl (m,m.g))) else (Option.bind ((bif (a.byte == 76) then some (a.byte == 76) else some (a.byte == 77)):Option Bool) fun B=>(bif B then (Option.bind (eP s_ a.byte r2) fun n=>some (.inl (n,n.g))) else (bif (a.byte == 83) then (Option.bind (eU (aA.mk s_.g s_.spot s_.saved false s_.top s_.aH s_.aW s_.title) r2) fun o=>(gT (some (o.1,o.2)))) else (bif (a.byte == 84) then (Option.bind (bP (aA.mk s_.g s_.spot s_.saved false s_.top s_.aH s_.aW s_.title)) fun C=>(Option.bind (dk s_.g s_.top s_.aH r2 C) fun p=>some (.inl ((aA.mk p.2 s_.spot s_.saved false s_.top s_.aH s_.aW s_.title),p.2)))) else (bif (a.byte == 109) then (Option.bind (gF s_.spot.aK a.aY) fun D=>some (.inl ((aA.mk s_.g (cZ.mk s_.spot.x s_.spot.y D) s_.saved s_.waiting s_.top s_.aH s_.aW s_.title),s_.g))) else (bif (a.byte == 114) then (Option.bind (eJ s_ a) fun q=>some (.inl (q,q.g))) else some (.inl (s_,s_.g)))))))))))))))))))))):Option ((aA×aU) ⊕ ((List aE)×aA))) fun | .inl e310=>(Option.bind ((bif (a.byte == 69) then some true else some (a.byte == 70)):Option Bool) fun E=>(Option.bind ((bif E then some (aA.mk e310.2 (cZ.mk 0 e310.1.spot.y e310.1.spot.aK) e310.1.saved e310.1.waiting e310.1.top e310.1.aH e310.1.aW e310.1.title) else some (aA.mk e310.2 e310.1.spot e310.1.saved e310.1.waiting e310.1.top e310.1.aH e310.1.aW e310.1.title)):Option aA) fun b=>some (([]:List aE),(aA.mk e310.2 b.spot b.saved b.waiting b.top b.aH b.aW b.title)))) | .inr w=>some w))
noncomputable def dY (s_:aA) (a:aX):Option ((List aE)×aA) :=
 (Option.bind ((bif (a.kind == 1) then (Option.bind (eN s_ a.rune) fun b=>(gT (some (b.1,b.2)))) else (bif (a.kind == 2) then (Option.bind (ed s_ a.byte) fun c=>(gT (some (c.1,c.2)))) else (bif (a.kind == 3) then (Option.bind (eI s_ a.byte) fun d=>(gT (some (d.1,d.2)))) else (bif (a.kind == 5) then some (.inl (aA.mk s_.g s_.spot s_.saved s_.waiting s_.top s_.aH s_.aW a.text)) else (bif (a.kind == 4) then (bif (!a.cv) then (Option.bind (eQ s_ a) fun e=>(gT (some (e.1,e.2)))) else (Option.bind ((Option.bind (du a 0 0) fun f=>(bif (f == 7) then (bif (a.byte == 104) then some true else some (a.byte == 108)) else some false)):Option Bool) fun h=>(bif h then some (.inl (aA.mk s_.g s_.spot s_.saved s_.waiting s_.top s_.aH (a.byte == 104) s_.title)) else some (.inl s_)))) else some (.inl s_)))))):Option (aA ⊕ ((List aE)×aA))) fun | .inl e133=>some (([]:List aE),(aA.mk s_.g e133.spot e133.saved e133.waiting e133.top e133.aH e133.aW e133.title)) | .inr w=>some w)
noncomputable def eK (s_:aA) (w:Int) (h_:Int):Option ((List aE)×aA) :=
 (Option.bind (eE h_ 1 1000) fun b=>(Option.bind (fY s_.g w h_ (imax 0 (IntKind.i64.wrap (s_.spot.y - (IntKind.i64.wrap (b - 1)))))) fun c=>(Option.bind (bB (aA.mk c.2 s_.spot s_.saved s_.waiting s_.top s_.aH s_.aW s_.title) s_.spot.x (IntKind.i64.wrap (s_.spot.y - (imax 0 (IntKind.i64.wrap (s_.spot.y - (IntKind.i64.wrap (b - 1)))))))) fun a=>(Option.bind (cW a) fun d=>some (c.1,(aA.mk a.g a.spot a.saved a.waiting 0 d.2 a.aW a.title))))))
noncomputable def eR (s_:aA):Option (aA×aA) :=
 (Option.bind (fy s_.g) fun r2=>some ((aA.mk r2.1 s_.spot s_.saved s_.waiting s_.top s_.aH s_.aW s_.title),(aA.mk r2.2 s_.spot s_.saved s_.waiting s_.top s_.aH s_.aW s_.title)))
end Go.Tw.X
set_option linter.unusedVariables false
set_option linter.unusedSimpArgs false
set_option maxRecDepth 10000
namespace Go.Tw.X
open Go Go.Tw
structure ej where
 k:Int
 w:Int
 h:Int
 x:Int
 y:Int
 title:ByteArray
 rows:List aE
 len:Int
 chain:Int
 begun:List aI
 deriving DecidableEq,Inhabited
noncomputable def n5 (k:Int) (s_:aA) (b:bQ):Option (ej×aA) :=
 (Option.bind (fp (aA.mk s_.g s_.spot s_.saved s_.waiting s_.top s_.aH s_.aW s_.title)) fun r2=>(Option.bind (gg (aA.mk r2.2.g r2.2.spot r2.2.saved r2.2.waiting r2.2.top r2.2.aH r2.2.aW r2.2.title)) fun e=>(Option.bind (gY r2.1) fun a=>(Option.bind (dL b) fun f=>(Option.bind (dL b) fun h=>(Option.bind (gy b h) fun i=>(Option.bind (gA b) fun j=>(Option.bind (cQ a.2) fun c=>(Option.bind (fP (aA.mk r2.2.g r2.2.spot r2.2.saved r2.2.waiting r2.2.top r2.2.aH r2.2.aW r2.2.title)) fun d=>some ((ej.mk k c.1 c.2 d.1 d.2 e a.1 f i j),(aA.mk r2.2.g r2.2.spot r2.2.saved r2.2.waiting r2.2.top r2.2.aH r2.2.aW r2.2.title)))))))))))
noncomputable def gG (s_:ej):Option Bool :=
 (Option.bind ((bif (s_.k == 0) then (bif (s_.w == 0) then (bif (s_.h == 0) then (bif (s_.x == 0) then (bif (s_.y == 0) then (bif (s_.title.toList == (ByteArray.mk #[]).toList) then (bif ((s_.rows.length:Int) == 0) then (bif (s_.len == 0) then (bif (s_.chain == 0) then some ((s_.begun.length:Int) == 0) else some false) else some false) else some false) else some false) else some false) else some false) else some false) else some false) else some false):Option Bool) fun a=>some a)
noncomputable def dq (n_:Int) (lo:Int) (hi:Int):Option Bool :=
 (Option.bind ((bif (decide (n_≥lo)) then some (decide (n_≤hi)) else some false):Option Bool) fun e4=>some e4)
noncomputable def gH (s_:ej):Option Bool :=
 (Option.bind ((Option.bind (dq s_.k 1 1152921504606846976) fun a=>(bif a then (Option.bind (dq s_.w 1 1000) fun b=>(bif b then (Option.bind (dq s_.h 1 1000) fun c=>(bif c then (Option.bind (dq s_.x 0 (IntKind.i64.wrap (s_.w - 1))) fun d=>(bif d then (Option.bind (dq s_.y 0 (IntKind.i64.wrap (s_.h - 1))) fun e=>(bif e then (bif ((s_.rows.length:Int) == s_.h) then (bif (decide ((s_.title.size:Int)≤200)) then (Option.bind (dq s_.len 0 1152921504606846976) fun f=>(bif f then (Option.bind (dq s_.chain 0 281474976710656) fun g=>(bif g then some (decide ((s_.begun.length:Int)≤1024)) else some false)) else some false)) else some false) else some false) else some false)) else some false)) else some false)) else some false)) else some false)):Option Bool) fun i=>some i)
noncomputable def jc (r_:Int) (aK:Int):Option Bool :=
 (Option.bind ((Option.bind (dq (IntKind.i64.wrap r_) 0 1114111) fun a=>(bif a then (Option.bind (dq aK 0 647) fun b=>some b) else some false)):Option Bool) fun c=>some c)
noncomputable def fK (g:aI):Option Bool :=
 (Option.bind (jc g.rune g.aK) fun r2=>some (!r2))
noncomputable def cL (s_:List aI):Option Int :=
 (Option.bind (iter (σ:=Int) (ρ:=Unit ⊕ Int) (fun a=>(bif (decide (a < (s_.length:Int))) then (Option.bind (idx s_ a) fun b=>(Option.bind (fK b) fun c=>(bif c then (ka (some a)) else some (.inl (IntKind.i64.wrap (a+1)))))) else some (.inr (.inl ())))) 0) fun | .inl e77=>some (-1) | .inr w=>some w)
noncomputable def bY (s_:List aI):Option Bool :=
 (Option.bind (cL s_) fun r1=>some (decide (r1≥0)))
noncomputable def kG (c:aG):Option Bool :=
 (Option.bind ((Option.bind (jc c.rune c.aK) fun a=>(bif a then (Option.bind (dq c.part 0 3) fun b=>some b) else some false)):Option Bool) fun d=>some d)
noncomputable def fL (c:aG):Option Bool :=
 (Option.bind (kG c) fun r2=>some (!r2))
noncomputable def cM (s_:List aG):Option Int :=
 (Option.bind (iter (σ:=Int) (ρ:=Unit ⊕ Int) (fun a=>(bif (decide (a < (s_.length:Int))) then (Option.bind (idx s_ a) fun b=>(Option.bind (fL b) fun c=>(bif c then (ka (some a)) else some (.inl (IntKind.i64.wrap (a+1)))))) else some (.inr (.inl ())))) 0) fun | .inl e77=>some (-1) | .inr w=>some w)
noncomputable def bU (s_:List aG):Option Bool :=
 (Option.bind (cM s_) fun r1=>some (decide (r1≥0)))
noncomputable def gI (s_:ej):Option Int :=
 (Option.bind (gG s_) fun r2=>(bif r2 then some 0 else (Option.bind ((Option.bind (gH s_) fun c=>(bif (!c) then some true else (Option.bind (bY s_.begun) fun d=>some d))):Option Bool) fun e=>(bif e then some 1 else (Option.bind (iter (σ:=Int) (ρ:=Unit ⊕ Int) (fun a=>(bif (decide (a < (s_.rows.length:Int))) then (Option.bind (idx s_.rows a) fun b=>(Option.bind ((bif ((b.cells.length:Int) != s_.w) then some true else (Option.bind (bU b.cells) fun f=>some f)):Option Bool) fun g=>(bif g then (ka (some 1)) else some (.inl (IntKind.i64.wrap (a+1)))))) else some (.inr (.inl ())))) 0) fun | .inl e212=>some 0 | .inr w=>some w)))))
end Go.Tw.X
set_option linter.unusedVariables false
set_option linter.unusedSimpArgs false
set_option maxRecDepth 10000
namespace Go.Tw.X
open Go Go.Tw
structure aV where
 book:bQ
 parser:aC
 aN:aA
 k:Int
 deriving DecidableEq,Inhabited
structure dw where
 kind:Int
 text:ByteArray
 w:Int
 h:Int
 deriving DecidableEq,Inhabited
noncomputable def jE (w:Int) (h_:Int):Option aV :=
 (Option.bind mR fun r1=>(Option.bind (jb w h_) fun a=>some (aV.mk r1 (aC.mk 0 (cV.mk false false false false 0 ([]:List Int)) (ByteArray.mk #[]) (bD.mk 0 0 0) ([]:List aX)) (aA.mk a.g a.spot a.saved a.waiting a.top a.aH a.aW a.title) 0)))
noncomputable def eV (m_:aV):Option (ej×aV) :=
 (Option.bind (n5 (IntKind.i64.wrap (m_.k+1)) (aA.mk m_.aN.g m_.aN.spot m_.aN.saved m_.aN.waiting m_.aN.top m_.aN.aH m_.aN.aW m_.aN.title) m_.book) fun a=>some (a.1,(aV.mk m_.book m_.parser (aA.mk a.2.g a.2.spot a.2.saved a.2.waiting a.2.top a.2.aH a.2.aW a.2.title) m_.k)))
noncomputable def fM (e:dw):Option Int :=
 (Option.bind ((bif (e.kind == 0) then (bif (decide ((e.text.size:Int) > 1048576)) then (gT (some 3)) else some (.inl ())) else (bif (e.kind == 1) then (Option.bind ((bif (decide (e.w < 1)) then some true else (bif (decide (e.w > 1000)) then some true else (bif (decide (e.h < 1)) then some true else some (decide (e.h > 1000))))):Option Bool) fun a=>(bif a then (gT (some 6)) else some (.inl ()))) else (gT (some 5)))):Option (Unit ⊕ Int)) fun | .inl e36=>some 0 | .inr w=>some w)
noncomputable def gJ (m_:aV) (text:ByteArray):Option ByteArray :=
 some text
noncomputable def fN {σ:Type} (Y:σ→(List aE)→Option (σ×Bool)) (y0:σ) (x1:aV) (x2:ByteArray):Option (σ×aV) :=
 (Option.bind (gB x1.parser x2) fun b=>(Option.bind (iter (σ:=aA×Int×σ) (ρ:=(aA×σ) ⊕ (σ×aV)) (fun a=>(bif (decide (a.2.1 < (b.1.length:Int))) then (Option.bind (idx b.1 a.2.1) fun d=>(Option.bind (dY a.1 d) fun c=>(Option.bind (Y a.2.2 c.1) fun z528=>(bif (!z528.2) then (ka (some (z528.1,(aV.mk x1.book b.2 c.2 x1.k)))) else some (.inl (c.2,(IntKind.i64.wrap (a.2.1+1)),z528.1)))))) else some (.inr (.inl (a.1,a.2.2))))) (x1.aN,0,y0)) fun | .inl e413=>some (e413.2,(aV.mk x1.book b.2 e413.1 x1.k)) | .inr w=>some w))
noncomputable def cu (m_:aV) (e:dw):Option (Int×aV) :=
 (Option.bind (fM e) fun r3=>(bif (r3 != 0) then some (r3,m_) else (Option.bind ((bif (e.kind == 1) then (Option.bind (eK m_.aN e.w e.h) fun c=>(Option.bind (fF m_.book c.1) fun d=>some (aV.mk d.2 m_.parser c.2 m_.k))) else (Option.bind (gJ m_ e.text) fun f=>(Option.bind (fN (fun g i=>(Option.bind (fF g i) fun j=>some (j.2,true))) (m_.book:bQ) m_ f) fun a=>some (aV.mk a.1 a.2.parser a.2.aN a.2.k)))):Option aV) fun b=>some (0,(aV.mk b.book b.parser b.aN (IntKind.i64.wrap (b.k+1)))))))
noncomputable def kH (w:Int) (h_:Int) (l:List dw):Option aV :=
 (Option.bind (jE w h_) fun r1=>(Option.bind (iter (σ:=aV×Int) (ρ:=aV) (fun a=>(bif (decide (a.2 < (l.length:Int))) then (Option.bind (idx l a.2) fun b=>(Option.bind (cu a.1 b) fun c=>some (.inl (c.2,(IntKind.i64.wrap (a.2+1)))))) else some (.inr a.1))) (r1,0)) fun d=>some d))
noncomputable def ft (m_:aV):Option (aA×aV) :=
 (Option.bind (eR m_.aN) fun r1=>some (r1.1,(aV.mk m_.book m_.parser r1.2 m_.k)))
noncomputable def ir (m_:aV):Option Int :=
 some m_.k
end Go.Tw.X
set_option linter.unusedVariables false
set_option linter.unusedSimpArgs false
set_option maxRecDepth 10000
namespace Go.Tw.X
open Go Go.Tw
noncomputable def kI (s_:ByteArray) (n_:Int):Option ByteArray :=
 (bif (decide ((s_.size:Int) > n_)) then (Option.bind (chk (cF 0 n_ s_.size)) fun _=>some (kD s_ 0 n_)) else some s_)
end Go.Tw.X
set_option linter.unusedVariables false
set_option linter.unusedSimpArgs false
set_option maxRecDepth 10000
namespace Go.Tw.X
open Go Go.Tw
noncomputable def mS (r_:Int):Option Int :=
 (Option.bind ((bif (decide (r_ < 32)) then some true else some (decide (r_ > 1114111))):Option Bool) fun e8=>(bif e8 then some 0 else (Option.bind (iter (σ:=Int) (ρ:=Unit ⊕ Int) (fun a=>(bif (decide (a < ([(bW.mk 127 159),(bW.mk 768 879),(bW.mk 6832 6911),(bW.mk 7616 7679),(bW.mk 8203 8207),(bW.mk 8400 8447),(bW.mk 55296 57343),(bW.mk 65024 65039),(bW.mk 65056 65071),(bW.mk 65279 65279),(bW.mk 917760 917999)].length:Int))) then (Option.bind (idx [(bW.mk 127 159),(bW.mk 768 879),(bW.mk 6832 6911),(bW.mk 7616 7679),(bW.mk 8203 8207),(bW.mk 8400 8447),(bW.mk 55296 57343),(bW.mk 65024 65039),(bW.mk 65056 65071),(bW.mk 65279 65279),(bW.mk 917760 917999)] a) fun c=>(Option.bind ((bif (decide (r_≥c.e0)) then some (decide (r_≤c.e1)) else some false):Option Bool) fun e=>(bif e then (ka (some 0)) else some (.inl (IntKind.i64.wrap (a+1)))))) else some (.inr (.inl ())))) 0) fun | .inl e96=>(Option.bind (iter (σ:=Int) (ρ:=Unit ⊕ Int) (fun b=>(bif (decide (b < ([(bW.mk 4352 4447),(bW.mk 11904 12350),(bW.mk 12353 13311),(bW.mk 13312 19903),(bW.mk 19968 40959),(bW.mk 40960 42191),(bW.mk 44032 55203),(bW.mk 63744 64255),(bW.mk 65072 65135),(bW.mk 65280 65376),(bW.mk 65504 65510),(bW.mk 127744 128591),(bW.mk 129280 129535),(bW.mk 131072 262141)].length:Int))) then (Option.bind (idx [(bW.mk 4352 4447),(bW.mk 11904 12350),(bW.mk 12353 13311),(bW.mk 13312 19903),(bW.mk 19968 40959),(bW.mk 40960 42191),(bW.mk 44032 55203),(bW.mk 63744 64255),(bW.mk 65072 65135),(bW.mk 65280 65376),(bW.mk 65504 65510),(bW.mk 127744 128591),(bW.mk 129280 129535),(bW.mk 131072 262141)] b) fun d=>(Option.bind ((bif (decide (r_≥d.e0)) then some (decide (r_≤d.e1)) else some false):Option Bool) fun f=>(bif f then (ka (some 2)) else some (.inl (IntKind.i64.wrap (b+1)))))) else some (.inr (.inl ())))) 0) fun | .inl e214=>some 1 | .inr w=>some w) | .inr w=>some w)))
end Go.Tw.X
set_option linter.unusedVariables false
set_option linter.unusedSimpArgs false
set_option maxRecDepth 10000
namespace Go.Tw.X
open Go Go.Tw
structure aP where
 rune:Int
 aK:Int
 part:Int
 deriving DecidableEq,Inhabited
structure aQ where
 l:List aP
 wrapped:Bool
 deriving DecidableEq,Inhabited
structure cx where
 rune:Int
 aK:Int
 deriving DecidableEq,Inhabited
noncomputable def jO (n_:Int) (lo:Int) (hi:Int):Option Int :=
 (bif (decide (n_ < lo)) then some lo else (bif (decide (n_ > hi)) then some hi else some n_))
noncomputable def eX (w:Int) (aK:Int):Option aQ :=
 (Option.bind (iter (σ:=(List aP)×Int) (ρ:=(List aP)) (fun a=>(Option.bind (jO w 0 1000) fun b=>(bif (decide (a.2 < b)) then (Option.bind (chk (dg a.1.length [(aP.mk 32 aK 0)].length 24)) fun _=>some (.inl ((a.1++[(aP.mk 32 aK 0)]),(IntKind.i64.wrap (a.2+1))))) else some (.inr a.1)))) (([]:List aP),0)) fun c=>some (aQ.mk c false))
noncomputable def dO (l:List aP):Option aQ :=
 (Option.bind (iter (σ:=Int×(List aP)) (ρ:=(List aP)) (fun a=>(bif (decide (a.1 < (l.length:Int))) then (Option.bind (idx l a.1) fun b=>(Option.bind ((bif (b.part == 1) then (bif ((IntKind.i64.wrap (a.1+1)) == (l.length:Int)) then some true else (Option.bind (idx l (IntKind.i64.wrap (a.1+1))) fun d=>some (d.part != 2))) else (bif (b.part == 2) then (bif (a.1 == 0) then some true else (Option.bind (idx a.2 (IntKind.i64.wrap (a.1 - 1))) fun e=>some (e.part != 1))) else (bif (b.part == 3) then some (decide (a.1 < (IntKind.i64.wrap ((l.length:Int) - 1)))) else some false))):Option Bool) fun f=>(Option.bind ((bif f then some (aP.mk 32 b.aK 0) else some b):Option aP) fun c=>(Option.bind (chk (dg a.2.length [c].length 24)) fun _=>some (.inl ((IntKind.i64.wrap (a.1+1)),(a.2++[c]))))))) else some (.inr a.2))) (0,([]:List aP))) fun g=>some (aQ.mk g false))
noncomputable def lQ (r_:aQ) (at_:Int) (x_:Int) (aK:Int):Option aQ :=
 (Option.bind (mS x_) fun r3=>(Option.bind ((bif (r3 == 0) then some true else (bif (decide (at_ < 0)) then some true else some (decide (at_ > (IntKind.i64.wrap ((r_.l.length:Int) - r3)))))):Option Bool) fun a=>(bif a then (Option.bind (dO r_.l) fun b=>some b) else (Option.bind (chk (dg ([]:List aP).length r_.l.length 24)) fun _=>(Option.bind (idx (([]:List aP)++r_.l) at_) fun h=>(Option.bind ((bif (r3 == 2) then (Option.bind (idx ((([]:List aP)++r_.l).set at_.toNat (aP.mk x_ aK 0)) at_) fun i=>(Option.bind (idx (((([]:List aP)++r_.l).set at_.toNat (aP.mk x_ aK 0)).set at_.toNat (aP.mk x_ aK 1)) (IntKind.i64.wrap (at_+1))) fun j=>(Option.bind ((bif (decide (at_ > 0)) then (Option.bind (idx ((((([]:List aP)++r_.l).set at_.toNat (aP.mk x_ aK 0)).set at_.toNat (aP.mk x_ aK 1)).set ((IntKind.i64.wrap (at_+1)).toNat) (aP.mk x_ aK 2)) (IntKind.i64.wrap (at_ - 1))) fun c=>some (c.part == 1)) else some false):Option Bool) fun d=>(bif d then (Option.bind (idx ((((([]:List aP)++r_.l).set at_.toNat (aP.mk x_ aK 0)).set at_.toNat (aP.mk x_ aK 1)).set ((IntKind.i64.wrap (at_+1)).toNat) (aP.mk x_ aK 2)) (IntKind.i64.wrap (at_ - 1))) fun e=>(Option.bind (idx ((((([]:List aP)++r_.l).set at_.toNat (aP.mk x_ aK 0)).set at_.toNat (aP.mk x_ aK 1)).set ((IntKind.i64.wrap (at_+1)).toNat) (aP.mk x_ aK 2)) (IntKind.i64.wrap (at_ - 1))) fun k=>some (((((([]:List aP)++r_.l).set at_.toNat (aP.mk x_ aK 0)).set at_.toNat (aP.mk x_ aK 1)).set ((IntKind.i64.wrap (at_+1)).toNat) (aP.mk x_ aK 2)).set ((IntKind.i64.wrap (at_ - 1)).toNat) (aP.mk 32 e.aK 0)))) else some ((((([]:List aP)++r_.l).set at_.toNat (aP.mk x_ aK 0)).set at_.toNat (aP.mk x_ aK 1)).set ((IntKind.i64.wrap (at_+1)).toNat) (aP.mk x_ aK 2)))))) else some ((([]:List aP)++r_.l).set at_.toNat (aP.mk x_ aK 0))):Option (List aP)) fun f=>(Option.bind (dO f) fun g=>some g)))))))
noncomputable def ky (r_:aQ) (from_:Int) (to:Int) (aK:Int):Option aQ :=
 (Option.bind (chk (dg ([]:List aP).length r_.l.length 24)) fun _=>(Option.bind (iter (σ:=Int×(List aP)) (ρ:=(List aP)) (fun a=>(bif (decide (a.1 < ((([]:List aP)++r_.l).length:Int))) then (Option.bind ((Option.bind ((bif (decide (a.1≥from_)) then some (decide (a.1 < to)) else some false):Option Bool) fun b=>(bif b then (Option.bind (idx a.2 a.1) fun f=>some (a.2.set a.1.toNat (aP.mk 32 aK 0))) else some a.2)):Option (List aP)) fun c=>some (.inl ((IntKind.i64.wrap (a.1+1)),c))) else some (.inr a.2))) (0,(([]:List aP)++r_.l))) fun d=>(Option.bind (dO d) fun e=>some e)))
noncomputable def jP (r_:aQ) (at_:Int) (n_:Int) (aK:Int):Option aQ :=
 (Option.bind ((bif (decide (at_ < 0)) then some true else (bif (decide (at_≥(r_.l.length:Int))) then some true else some (decide (n_≤0)))):Option Bool) fun e8=>(bif e8 then (Option.bind (dO r_.l) fun b=>some b) else (Option.bind (chk (cF 0 at_ r_.l.length)) fun _=>(Option.bind (chk (dg ([]:List aP).length (cut r_.l 0 at_).length 24)) fun _=>(Option.bind (eX (dt n_ (IntKind.i64.wrap ((r_.l.length:Int) - at_))) aK) fun a=>(Option.bind (chk (dg (([]:List aP)++(cut r_.l 0 at_)).length a.l.length 24)) fun _=>(Option.bind (chk (cF at_ (IntKind.i64.wrap ((r_.l.length:Int) - (dt n_ (IntKind.i64.wrap ((r_.l.length:Int) - at_))))) r_.l.length)) fun _=>(Option.bind (chk (dg ((([]:List aP)++(cut r_.l 0 at_))++a.l).length (cut r_.l at_ (IntKind.i64.wrap ((r_.l.length:Int) - (dt n_ (IntKind.i64.wrap ((r_.l.length:Int) - at_)))))).length 24)) fun _=>(Option.bind (dO (((([]:List aP)++(cut r_.l 0 at_))++a.l)++(cut r_.l at_ (IntKind.i64.wrap ((r_.l.length:Int) - (dt n_ (IntKind.i64.wrap ((r_.l.length:Int) - at_)))))))) fun c=>some c)))))))))
noncomputable def jQ (r_:aQ) (at_:Int) (n_:Int) (aK:Int):Option aQ :=
 (Option.bind ((bif (decide (at_ < 0)) then some true else (bif (decide (at_≥(r_.l.length:Int))) then some true else some (decide (n_≤0)))):Option Bool) fun e8=>(bif e8 then (Option.bind (dO r_.l) fun b=>some b) else (Option.bind (chk (cF 0 at_ r_.l.length)) fun _=>(Option.bind (chk (dg ([]:List aP).length (cut r_.l 0 at_).length 24)) fun _=>(Option.bind (chk (cF (IntKind.i64.wrap (at_+(dt n_ (IntKind.i64.wrap ((r_.l.length:Int) - at_))))) (r_.l.length:Int) r_.l.length)) fun _=>(Option.bind (chk (dg (([]:List aP)++(cut r_.l 0 at_)).length (cut r_.l (IntKind.i64.wrap (at_+(dt n_ (IntKind.i64.wrap ((r_.l.length:Int) - at_))))) (r_.l.length:Int)).length 24)) fun _=>(Option.bind (eX (dt n_ (IntKind.i64.wrap ((r_.l.length:Int) - at_))) aK) fun a=>(Option.bind (chk (dg ((([]:List aP)++(cut r_.l 0 at_))++(cut r_.l (IntKind.i64.wrap (at_+(dt n_ (IntKind.i64.wrap ((r_.l.length:Int) - at_))))) (r_.l.length:Int))).length a.l.length 24)) fun _=>(Option.bind (dO (((([]:List aP)++(cut r_.l 0 at_))++(cut r_.l (IntKind.i64.wrap (at_+(dt n_ (IntKind.i64.wrap ((r_.l.length:Int) - at_))))) (r_.l.length:Int)))++a.l)) fun c=>some c)))))))))
noncomputable def jR (r_:aQ) (aK:Int):Option aQ :=
 (Option.bind (chk (dg ([]:List aP).length r_.l.length 24)) fun _=>(Option.bind ((bif (decide (((([]:List aP)++r_.l).length:Int) > 0)) then (Option.bind (idx (([]:List aP)++r_.l) (IntKind.i64.wrap (((([]:List aP)++r_.l).length:Int) - 1))) fun c=>some ((([]:List aP)++r_.l).set ((IntKind.i64.wrap (((([]:List aP)++r_.l).length:Int) - 1)).toNat) (aP.mk 32 aK 3))) else some (([]:List aP)++r_.l)):Option (List aP)) fun a=>(Option.bind (dO a) fun b=>some (aQ.mk b.l true))))
noncomputable def iO (r_:aQ) (w:Int):Option aQ :=
 (Option.bind (jO w 0 1000) fun r3=>(bif (r3 == (r_.l.length:Int)) then some r_ else (Option.bind (chk (cF 0 (dt r3 (r_.l.length:Int)) r_.l.length)) fun _=>(Option.bind (chk (dg ([]:List aP).length (cut r_.l 0 (dt r3 (r_.l.length:Int))).length 24)) fun _=>(Option.bind (eX (IntKind.i64.wrap (r3 - ((([]:List aP)++(cut r_.l 0 (dt r3 (r_.l.length:Int)))).length:Int))) 0) fun a=>(Option.bind (chk (dg (([]:List aP)++(cut r_.l 0 (dt r3 (r_.l.length:Int)))).length a.l.length 24)) fun _=>(Option.bind (dO ((([]:List aP)++(cut r_.l 0 (dt r3 (r_.l.length:Int))))++a.l)) fun b=>some b)))))))
noncomputable def ly (r_:aQ):Option (List cx) :=
 (Option.bind (iter (σ:=Int) (ρ:=Int) (fun c=>(Option.bind ((bif (decide (c > 0)) then (bif (!r_.wrapped) then (Option.bind (idx r_.l (IntKind.i64.wrap (c - 1))) fun d=>some ((d.rune == 32) && ((d.aK == 0) && ((d.part == 0) && true)))) else some false) else some false):Option Bool) fun f=>(bif f then some (.inl (IntKind.i64.wrap (c - 1))) else some (.inr c)))) (r_.l.length:Int)) fun e=>(Option.bind (chk (cF 0 e r_.l.length)) fun _=>(Option.bind (iter (σ:=Int×(List cx)) (ρ:=(List cx)) (fun a=>(bif (decide (a.1 < ((cut r_.l 0 e).length:Int))) then (Option.bind ((Option.bind (idx (cut r_.l 0 e) a.1) fun b=>(Option.bind ((bif (b.part == 0) then some true else some (b.part == 1)):Option Bool) fun g=>(bif g then (Option.bind (chk (dg a.2.length [(cx.mk b.rune b.aK)].length 16)) fun _=>some (a.2++[(cx.mk b.rune b.aK)])) else some a.2))):Option (List cx)) fun h=>some (.inl ((IntKind.i64.wrap (a.1+1)),h))) else some (.inr a.2))) (0,([]:List cx))) fun i=>some i)))
end Go.Tw.X
set_option linter.unusedVariables false
set_option linter.unusedSimpArgs false
set_option maxRecDepth 10000
namespace Go.Tw.X
open Go Go.Tw
noncomputable def oX (r_:aE) (x_:aQ):Option Bool :=
 (Option.bind ((bif ((r_.cells.length:Int) != (x_.l.length:Int)) then some true else some (!(r_.wrapped == x_.wrapped))):Option Bool) fun e6=>(bif e6 then some false else (Option.bind (iter (σ:=Int) (ρ:=Unit ⊕ Bool) (fun a=>(bif (decide (a < (r_.cells.length:Int))) then (Option.bind (idx r_.cells a) fun b=>(Option.bind ((Option.bind (idx x_.l a) fun c=>(bif ((IntKind.i64.wrap b.rune) != c.rune) then some true else (Option.bind (idx x_.l a) fun d=>(bif (b.aK != d.aK) then some true else (Option.bind (idx x_.l a) fun e=>some (b.part != e.part)))))):Option Bool) fun f=>(bif f then (ka (some false)) else some (.inl (IntKind.i64.wrap (a+1)))))) else some (.inr (.inl ())))) 0) fun | .inl e712=>some true | .inr w=>some w)))
end Go.Tw.X
set_option linter.unusedVariables false
set_option linter.unusedSimpArgs false
set_option maxRecDepth 10000
namespace Go.Tw.X
open Go Go.Tw
noncomputable def mT (b:Int):Option (Int×Int×Int) :=
 (Option.bind ((bif (decide (b≥194)) then some (decide (b≤223)) else some false):Option Bool) fun e4=>(bif e4 then some (1,128,191) else (bif (b == 224) then some (2,160,191) else (bif (b == 237) then some (2,128,159) else (Option.bind ((bif (decide (b≥225)) then some (decide (b≤239)) else some false):Option Bool) fun a=>(bif a then some (2,128,191) else (bif (b == 240) then some (3,144,191) else (bif (b == 244) then some (3,128,143) else (Option.bind ((bif (decide (b≥241)) then some (decide (b≤243)) else some false):Option Bool) fun c=>(bif c then some (3,128,191) else some (0,0,0)))))))))))
noncomputable def l5 (s_:ByteArray):Option ((List Int)×Int) :=
 (Option.bind (iter (σ:=(List Int)×Int) (ρ:=(List Int) ⊕ ((List Int)×Int)) (fun a=>(bif (decide (a.2 < (s_.size:Int))) then (Option.bind (jh s_ a.2) fun b696=>(bif (decide ((IntKind.i64.wrap b696) < 128)) then (Option.bind (chk (dg a.1.length [(IntKind.i64.wrap b696)].length 8)) fun _=>some (.inl ((a.1++[(IntKind.i64.wrap b696)]),(IntKind.i64.wrap (a.2+1))))) else (Option.bind (mT (IntKind.i64.wrap b696)) fun c=>(bif (c.1 == 0) then (Option.bind (chk (dg a.1.length [65533].length 8)) fun _=>some (.inl ((a.1++[65533]),(IntKind.i64.wrap (a.2+1))))) else (Option.bind (idx [0,32,16,8] c.1) fun e=>(Option.bind (chk (decide (e≠0))) fun _=>(Option.bind (iter (σ:=Int×Int×Int×Int) (ρ:=Int×Int) (fun b=>(Option.bind ((bif (decide (b.2.1≤c.1)) then some (decide ((IntKind.i64.wrap (a.2+b.2.1)) < (s_.size:Int))) else some false):Option Bool) fun f=>(bif f then (Option.bind (jh s_ (IntKind.i64.wrap (a.2+b.2.1))) fun b839=>(Option.bind ((bif (decide ((IntKind.i64.wrap b839) < b.2.2.1)) then some true else some (decide ((IntKind.i64.wrap b839) > b.2.2.2))):Option Bool) fun g=>(bif g then some (.inr (b.1,b.2.1)) else some (.inl ((IntKind.i64.wrap ((IntKind.i64.wrap (b.1*64))+((IntKind.i64.wrap b839).tmod 64))),(IntKind.i64.wrap (b.2.1+1)),128,191))))) else some (.inr (b.1,b.2.1))))) (((IntKind.i64.wrap b696).tmod e),1,c.2.1,c.2.2)) fun d=>(Option.bind ((bif (decide (d.2 > c.1)) then (Option.bind (chk (dg a.1.length [d.1].length 8)) fun _=>some (.inl (a.1++[d.1]))) else (bif ((IntKind.i64.wrap (a.2+d.2)) == (s_.size:Int)) then (gT (ka (some (a.1,d.2)))) else (Option.bind (chk (dg a.1.length [65533].length 8)) fun _=>some (.inl (a.1++[65533]))))):Option ((List Int) ⊕ (((List Int)×Int) ⊕ ((List Int) ⊕ ((List Int)×Int))))) fun | .inl e891=>some (.inl (e891,(IntKind.i64.wrap (a.2+d.2)))) | .inr w=>some w)))))))) else some (.inr (.inl a.1)))) (([]:List Int),0)) fun | .inl e686=>some (e686,0) | .inr w=>some w)
end Go.Tw.X
set_option linter.unusedVariables false
set_option linter.unusedSimpArgs false
set_option maxRecDepth 10000
namespace Go.Tw.X
open Go Go.Tw
structure cT where
 w:Int
 l:List aQ
 deriving DecidableEq,Inhabited
noncomputable def jd (n_:Int):Option Int :=
 some (imax 1 (dt n_ 1000))
noncomputable def nz (w:Int) (h_:Int):Option cT :=
 (Option.bind (jd w) fun r2=>(Option.bind (iter (σ:=cT×Int) (ρ:=cT) (fun a=>(Option.bind (jd h_) fun c=>(bif (decide (a.2 < c)) then (Option.bind (eX a.1.w 0) fun b=>(Option.bind (chk (dg a.1.l.length [b].length 32)) fun _=>some (.inl ((cT.mk a.1.w (a.1.l++[b])),(IntKind.i64.wrap (a.2+1)))))) else some (.inr a.1)))) ((cT.mk r2 ([]:List aQ)),0)) fun d=>some d))
noncomputable def kJ (g:cT) (y:Int) (r_:aQ):Option (cT×Bool) :=
 (Option.bind ((bif (decide (y < 0)) then some true else some (decide (y≥(g.l.length:Int)))):Option Bool) fun e7=>(bif e7 then some (g,false) else (Option.bind (chk (dg ([]:List aQ).length g.l.length 32)) fun _=>(Option.bind (iO r_ g.w) fun a=>(Option.bind (idx (([]:List aQ)++g.l) y) fun b=>some ((cT.mk g.w ((([]:List aQ)++g.l).set y.toNat a)),true))))))
noncomputable def dh (g:cT) (up:Bool) (top:Int) (aH:Int) (n_:Int) (aK:Int):Option (cT×(List aQ)) :=
 (bif (decide ((imax 0 (dt aH (IntKind.i64.wrap ((g.l.length:Int) - 1)))) < (imax 0 (dt top (IntKind.i64.wrap ((g.l.length:Int) - 1)))))) then some (g,([]:List aQ)) else (Option.bind (chk (dg ([]:List aQ).length g.l.length 32)) fun _=>(Option.bind (eX g.w aK) fun d=>(Option.bind (iter (σ:=(List aQ)×(List aQ)×Int) (ρ:=(List aQ)×(List aQ)) (fun a=>(Option.bind ((bif (decide (a.2.2 < n_)) then some (decide (a.2.2≤(IntKind.i64.wrap ((imax 0 (dt aH (IntKind.i64.wrap ((g.l.length:Int) - 1)))) - (imax 0 (dt top (IntKind.i64.wrap ((g.l.length:Int) - 1)))))))) else some false):Option Bool) fun m=>(bif m then (Option.bind ((bif up then (Option.bind (idx a.2.1 (imax 0 (dt top (IntKind.i64.wrap ((g.l.length:Int) - 1))))) fun e=>(Option.bind (chk (dg a.1.length [e].length 32)) fun _=>(Option.bind (iter (σ:=(List aQ)×Int) (ρ:=(List aQ)) (fun b=>(bif (decide (b.2 < (imax 0 (dt aH (IntKind.i64.wrap ((g.l.length:Int) - 1)))))) then (Option.bind (idx b.1 (IntKind.i64.wrap (b.2+1))) fun n=>(Option.bind (idx b.1 b.2) fun p=>some (.inl ((b.1.set b.2.toNat n),(IntKind.i64.wrap (b.2+1)))))) else some (.inr b.1))) (a.2.1,(imax 0 (dt top (IntKind.i64.wrap ((g.l.length:Int) - 1)))))) fun f=>(Option.bind (idx f (imax 0 (dt aH (IntKind.i64.wrap ((g.l.length:Int) - 1))))) fun q=>some ((a.1++[e]),(f.set ((imax 0 (dt aH (IntKind.i64.wrap ((g.l.length:Int) - 1)))).toNat) d)))))) else (Option.bind (idx a.2.1 (imax 0 (dt aH (IntKind.i64.wrap ((g.l.length:Int) - 1))))) fun h=>(Option.bind (chk (dg a.1.length [h].length 32)) fun _=>(Option.bind (iter (σ:=(List aQ)×Int) (ρ:=(List aQ)) (fun c=>(bif (decide (c.2 > (imax 0 (dt top (IntKind.i64.wrap ((g.l.length:Int) - 1)))))) then (Option.bind (idx c.1 (IntKind.i64.wrap (c.2 - 1))) fun o=>(Option.bind (idx c.1 c.2) fun r=>some (.inl ((c.1.set c.2.toNat o),(IntKind.i64.wrap (c.2 - 1)))))) else some (.inr c.1))) (a.2.1,(imax 0 (dt aH (IntKind.i64.wrap ((g.l.length:Int) - 1)))))) fun i=>(Option.bind (idx i (imax 0 (dt top (IntKind.i64.wrap ((g.l.length:Int) - 1))))) fun s=>some ((a.1++[h]),(i.set ((imax 0 (dt top (IntKind.i64.wrap ((g.l.length:Int) - 1)))).toNat) d))))))):Option ((List aQ)×(List aQ))) fun j=>some (.inl (j.1,j.2,(IntKind.i64.wrap (a.2.2+1))))) else some (.inr (a.1,a.2.1))))) (([]:List aQ),(([]:List aQ)++g.l),0)) fun k=>some ((cT.mk g.w k.2),k.1)))))
noncomputable def lz (g:cT) (w:Int) (h_:Int) (off:Int):Option (cT×(List aQ)) :=
 (Option.bind (jd w) fun r3=>(Option.bind (iter (σ:=cT×Int) (ρ:=cT) (fun a=>(Option.bind (jd h_) fun d=>(bif (decide (a.2 < d)) then (Option.bind ((bif (decide ((IntKind.i64.wrap ((imax 0 (dt off (IntKind.i64.wrap ((g.l.length:Int) - 1))))+a.2)) < (g.l.length:Int))) then (Option.bind (idx g.l (IntKind.i64.wrap ((imax 0 (dt off (IntKind.i64.wrap ((g.l.length:Int) - 1))))+a.2))) fun e=>(Option.bind (iO e a.1.w) fun b=>(Option.bind (chk (dg a.1.l.length [b].length 32)) fun _=>some (cT.mk a.1.w (a.1.l++[b]))))) else (Option.bind (eX a.1.w 0) fun c=>(Option.bind (chk (dg a.1.l.length [c].length 32)) fun _=>some (cT.mk a.1.w (a.1.l++[c]))))):Option cT) fun f=>some (.inl (f,(IntKind.i64.wrap (a.2+1))))) else some (.inr a.1)))) ((cT.mk r3 ([]:List aQ)),0)) fun h=>(Option.bind (chk (cF 0 (imax 0 (dt off (IntKind.i64.wrap ((g.l.length:Int) - 1)))) g.l.length)) fun _=>some (h,(cut g.l 0 (imax 0 (dt off (IntKind.i64.wrap ((g.l.length:Int) - 1)))))))))
end Go.Tw.X
set_option linter.unusedVariables false
set_option linter.unusedSimpArgs false
set_option maxRecDepth 10000
namespace Go.Tw.X
open Go Go.Tw
noncomputable def k7 (l:List aE) (x_:List aQ):Option Bool :=
 (bif ((l.length:Int) != (x_.length:Int)) then some false else (Option.bind (iter (σ:=Int) (ρ:=Unit ⊕ Bool) (fun a=>(bif (decide (a < (x_.length:Int))) then (Option.bind (idx l a) fun b=>(Option.bind (idx x_ a) fun c=>(Option.bind (oX b c) fun d=>(bif (!d) then (ka (some false)) else some (.inl (IntKind.i64.wrap (a+1))))))) else some (.inr (.inl ())))) 0) fun | .inl e571=>some true | .inr w=>some w))
end Go.Tw.X
set_option linter.unusedVariables false
set_option linter.unusedSimpArgs false
set_option maxRecDepth 10000
namespace Go.Tw.X
open Go Go.Tw
structure aO where
 kind:Int
 rune:Int
 byte:Int
 cv:Bool
 aY:List Int
 text:ByteArray
 deriving DecidableEq,Inhabited
noncomputable def lA (l:List Int):Option (List aO) :=
 (Option.bind (iter (σ:=(List aO)×Int) (ρ:=(List aO)) (fun a=>(bif (decide (a.2 < (l.length:Int))) then (Option.bind (idx l a.2) fun b=>(Option.bind (chk (dg a.1.length ([(aO.mk 1 b 0 false ([]:List Int) (ByteArray.mk #[]))]).length 72)) fun _=>some (.inl ((a.1++[(aO.mk 1 b 0 false ([]:List Int) (ByteArray.mk #[]))]),(IntKind.i64.wrap (a.2+1)))))) else some (.inr a.1))) (([]:List aO),0)) fun c=>some c)
noncomputable def jS (s_:ByteArray):Option (List aO) :=
 (Option.bind ((bif (decide ((s_.size:Int) > 200)) then (Option.bind (chk (cF 0 200 s_.size)) fun _=>some (kD s_ 0 200)) else some s_):Option ByteArray) fun e8=>(Option.bind ((bif (decide ((e8.size:Int) > 1)) then (Option.bind (jh e8 0) fun b49=>(bif (b49 == 48) then (Option.bind (jh e8 1) fun b53=>some (b53 == 59)) else (Option.bind (jh e8 0) fun b56=>(bif (b56 == 50) then (Option.bind (jh e8 1) fun b60=>some (b60 == 59)) else some false)))) else some false):Option Bool) fun a=>(bif a then (Option.bind (chk (cF 2 (e8.size:Int) e8.size)) fun _=>some ([(aO.mk 5 0 0 false ([]:List Int) (kD e8 2 (e8.size:Int)))])) else some ([]:List aO))))
noncomputable def l6 (s_:ByteArray) (last:Int):Option (List aO) :=
 (Option.bind ((bif (!(s_.toList == (ByteArray.mk #[]).toList)) then (Option.bind (jh s_ 0) fun b15=>some (b15 == 63)) else some false):Option Bool) fun c=>(Option.bind ((bif c then (Option.bind (chk (cF 1 (s_.size:Int) s_.size)) fun _=>some ((kD s_ 1 (s_.size:Int)),(aO.mk 4 0 last true ([]:List Int) (ByteArray.mk #[])))) else some (s_,(aO.mk 4 0 last false ([]:List Int) (ByteArray.mk #[])))):Option (ByteArray×aO)) fun b=>(bif (b.1.toList == (ByteArray.mk #[]).toList) then some [b.2] else (Option.bind (iter (σ:=aO×Int×Int) (ρ:=aO ⊕ (List aO)) (fun a=>(bif (decide (a.2.2≤(b.1.size:Int))) then (Option.bind ((Option.bind ((bif (decide (a.2.2 < (b.1.size:Int))) then (Option.bind (jh b.1 a.2.2) fun b1247=>(bif (decide (b1247≥48)) then (Option.bind (jh b.1 a.2.2) fun b1251=>some (decide (b1251≤57))) else some false)) else some false):Option Bool) fun d=>(bif d then (Option.bind (jh b.1 a.2.2) fun b1259=>some (.inl ((dt 9999 (IntKind.i64.wrap ((IntKind.i64.wrap ((IntKind.i64.wrap (10*a.2.1))+(IntKind.i64.wrap b1259))) - 48))),a.1))) else (Option.bind ((bif (decide (a.2.2 < (b.1.size:Int))) then (Option.bind (jh b.1 a.2.2) fun b1283=>(bif (b1283 != 59) then (Option.bind (jh b.1 a.2.2) fun b1287=>some (b1287 != 58)) else some false)) else some false):Option Bool) fun e=>(bif e then (gT (ka (some ([]:List aO)))) else (Option.bind ((bif (decide ((a.1.aY.length:Int) < 16)) then (Option.bind (chk (dg a.1.aY.length [a.2.1].length 8)) fun _=>some (aO.mk a.1.kind a.1.rune a.1.byte a.1.cv (a.1.aY++[a.2.1]) a.1.text)) else some a.1):Option aO) fun f=>some (.inl (0,f))))))):Option ((Int×aO) ⊕ ((aO×Int×Int) ⊕ (aO ⊕ (List aO))))) fun | .inl e1222=>some (.inl (e1222.2,e1222.1,(IntKind.i64.wrap (a.2.2+1)))) | .inr w=>some w) else some (.inr (.inl a.1)))) (b.2,0,0)) fun | .inl e1007=>some [e1007] | .inr w=>some w))))
noncomputable def mU (s_:ByteArray):Option (List aO) :=
 (Option.bind (iter (σ:=(List aO)×Int×Int×ByteArray) (ρ:=(List aO) ⊕ (List aO)) (fun a=>(bif (decide (a.2.2.1 < (s_.size:Int))) then (Option.bind ((bif (a.2.1 == 0) then (Option.bind (iter (σ:=Int) (ρ:=Int) (fun b=>(Option.bind ((bif (decide (b < (s_.size:Int))) then (Option.bind (jh s_ b) fun b3441=>(bif (decide (b3441≥32)) then (Option.bind (jh s_ b) fun b3445=>some (b3445 != 127)) else some false)) else some false):Option Bool) fun i=>(bif i then some (.inl (IntKind.i64.wrap (b+1))) else some (.inr b)))) a.2.2.1) fun d=>(Option.bind (chk (cF a.2.2.1 d s_.size)) fun _=>(Option.bind (l5 (kD s_ a.2.2.1 d)) fun e=>(Option.bind (lA e.1) fun c=>(Option.bind (chk (dg a.1.length c.length 72)) fun _=>(bif (d == (s_.size:Int)) then (gT (ka (some (a.1++c)))) else (Option.bind ((bif (decide (e.2 > 0)) then (Option.bind (chk (dg (a.1++c).length ([(aO.mk 1 65533 0 false ([]:List Int) (ByteArray.mk #[]))]).length 72)) fun _=>some ((a.1++c)++[(aO.mk 1 65533 0 false ([]:List Int) (ByteArray.mk #[]))])) else some (a.1++c)):Option (List aO)) fun j=>some (.inl (j,d))))))))) else some (.inl (a.1,a.2.2.1))):Option (((List aO)×Int) ⊕ (((List aO)×Int×Int×ByteArray) ⊕ ((List aO) ⊕ (List aO))))) fun | .inl e3313=>(Option.bind (jh s_ e3313.2) fun b3514=>(bif (a.2.1 == 4) then (Option.bind ((bif ((IntKind.i64.wrap b3514) == 7) then (Option.bind (jS a.2.2.2) fun f=>(Option.bind (chk (dg e3313.1.length f.length 72)) fun _=>some (.inl ((e3313.1++f),0,(IntKind.i64.wrap (e3313.2+1)),a.2.2.2)))) else (Option.bind ((bif ((IntKind.i64.wrap b3514) == 24) then some true else some ((IntKind.i64.wrap b3514) == 26)):Option Bool) fun k=>(bif k then some (.inl (e3313.1,0,(IntKind.i64.wrap (e3313.2+1)),a.2.2.2)) else (bif ((IntKind.i64.wrap b3514) != 27) then (Option.bind (chk (vO a.2.2.2.size (km [(IntKind.u8.wrap (IntKind.i64.wrap b3514))]).size)) fun _=>some (.inl (e3313.1,a.2.1,(IntKind.i64.wrap (e3313.2+1)),(a.2.2.2++(km [(IntKind.u8.wrap (IntKind.i64.wrap b3514))]))))) else (bif ((IntKind.i64.wrap (e3313.2+1)) == (s_.size:Int)) then (gT (ka (some e3313.1))) else (Option.bind (jh s_ (IntKind.i64.wrap (e3313.2+1))) fun b3795=>(bif (b3795 == 92) then (Option.bind (jS a.2.2.2) fun g=>(Option.bind (chk (dg e3313.1.length g.length 72)) fun _=>some (.inl ((e3313.1++g),0,(IntKind.i64.wrap ((IntKind.i64.wrap (e3313.2+1))+1)),a.2.2.2)))) else some (.inl (e3313.1,1,(IntKind.i64.wrap (e3313.2+1)),a.2.2.2))))))))):Option (((List aO)×Int×Int×ByteArray) ⊕ (((List aO)×Int×Int×ByteArray) ⊕ ((List aO) ⊕ (List aO))))) fun | .inl e3759=>some (.inl (e3759.1,e3759.2.1,e3759.2.2.1,e3759.2.2.2)) | .inr w=>some w) else (Option.bind ((bif ((IntKind.i64.wrap b3514) == 24) then some true else some ((IntKind.i64.wrap b3514) == 26)):Option Bool) fun l=>(bif l then some (.inl (e3313.1,0,(IntKind.i64.wrap (e3313.2+1)),a.2.2.2)) else (bif ((IntKind.i64.wrap b3514) == 27) then some (.inl (e3313.1,1,(IntKind.i64.wrap (e3313.2+1)),a.2.2.2)) else (bif (decide ((IntKind.i64.wrap b3514) < 32)) then (Option.bind (chk (dg e3313.1.length ([(aO.mk 2 0 (IntKind.i64.wrap b3514) false ([]:List Int) (ByteArray.mk #[]))]).length 72)) fun _=>some (.inl ((e3313.1++[(aO.mk 2 0 (IntKind.i64.wrap b3514) false ([]:List Int) (ByteArray.mk #[]))]),a.2.1,(IntKind.i64.wrap (e3313.2+1)),a.2.2.2))) else (bif ((IntKind.i64.wrap b3514) == 127) then some (.inl (e3313.1,a.2.1,(IntKind.i64.wrap (e3313.2+1)),a.2.2.2)) else (bif (a.2.1 == 1) then (bif ((IntKind.i64.wrap b3514) == 91) then some (.inl (e3313.1,3,(IntKind.i64.wrap (e3313.2+1)),(ByteArray.mk #[]))) else (bif ((IntKind.i64.wrap b3514) == 93) then some (.inl (e3313.1,4,(IntKind.i64.wrap (e3313.2+1)),(ByteArray.mk #[]))) else (bif (decide ((IntKind.i64.wrap b3514) < 48)) then some (.inl (e3313.1,2,(IntKind.i64.wrap (e3313.2+1)),(ByteArray.mk #[]))) else (bif (decide ((IntKind.i64.wrap b3514) < 127)) then (Option.bind (chk (dg e3313.1.length ([(aO.mk 3 0 (IntKind.i64.wrap b3514) false ([]:List Int) (ByteArray.mk #[]))]).length 72)) fun _=>some (.inl ((e3313.1++[(aO.mk 3 0 (IntKind.i64.wrap b3514) false ([]:List Int) (ByteArray.mk #[]))]),0,(IntKind.i64.wrap (e3313.2+1)),(ByteArray.mk #[])))) else some (.inl (e3313.1,0,(IntKind.i64.wrap (e3313.2+1)),(ByteArray.mk #[]))))))) else (bif (a.2.1 == 2) then (bif (decide ((IntKind.i64.wrap b3514)≥48)) then some (.inl (e3313.1,0,(IntKind.i64.wrap (e3313.2+1)),a.2.2.2)) else some (.inl (e3313.1,a.2.1,(IntKind.i64.wrap (e3313.2+1)),a.2.2.2))) else (bif (a.2.1 == 3) then (Option.bind ((bif (decide ((IntKind.i64.wrap b3514) < 64)) then some true else some (decide ((IntKind.i64.wrap b3514) > 126))):Option Bool) fun m=>(bif m then (Option.bind (chk (vO a.2.2.2.size (km [(IntKind.u8.wrap (IntKind.i64.wrap b3514))]).size)) fun _=>some (.inl (e3313.1,a.2.1,(IntKind.i64.wrap (e3313.2+1)),(a.2.2.2++(km [(IntKind.u8.wrap (IntKind.i64.wrap b3514))]))))) else (Option.bind (l6 a.2.2.2 (IntKind.i64.wrap b3514)) fun h=>(Option.bind (chk (dg e3313.1.length h.length 72)) fun _=>some (.inl ((e3313.1++h),0,(IntKind.i64.wrap (e3313.2+1)),a.2.2.2)))))) else some (.inl (e3313.1,a.2.1,(IntKind.i64.wrap (e3313.2+1)),a.2.2.2)))))))))))) | .inr w=>some w) else some (.inr (.inl a.1)))) (([]:List aO),0,0,(ByteArray.mk #[]))) fun | .inl e2912=>some e2912 | .inr w=>some w)
end Go.Tw.X
set_option linter.unusedVariables false
set_option linter.unusedSimpArgs false
set_option maxRecDepth 10000
namespace Go.Tw.X
open Go Go.Tw
structure bE where
 eW:Int
 back:Int
 bold:Bool
 under:Bool
 cO:Bool
 deriving DecidableEq,Inhabited
noncomputable def nA (s_:bE):Option Bool :=
 (Option.bind ((bif (decide (s_.eW≥0)) then (bif (decide (s_.eW≤8)) then (bif (decide (s_.back≥0)) then some (decide (s_.back≤8)) else some false) else some false) else some false):Option Bool) fun e9=>some e9)
noncomputable def hU (s_:bE):Option Int :=
 (Option.bind (nA s_) fun r2=>(bif (!r2) then some 0 else (Option.bind ((bif s_.bold then some (IntKind.i64.wrap ((IntKind.i64.wrap (s_.eW+(IntKind.i64.wrap (9*s_.back))))+81)) else some (IntKind.i64.wrap (s_.eW+(IntKind.i64.wrap (9*s_.back))))):Option Int) fun a=>(Option.bind ((bif s_.under then some (IntKind.i64.wrap (a+162)) else some a):Option Int) fun b=>(Option.bind ((bif s_.cO then some (IntKind.i64.wrap (b+324)) else some b):Option Int) fun c=>some c)))))
noncomputable def nB (s_:bE) (l:List Int):Option bE :=
 (bif ((l.length:Int) == 0) then some (bE.mk 0 0 false false false) else (Option.bind (iter (σ:=bE×Int×Int) (ρ:=bE) (fun b=>(bif (decide (b.2.1 < (l.length:Int))) then (Option.bind ((Option.bind (idx l b.2.1) fun a=>(bif (decide (b.2.2 > 0)) then some ((IntKind.i64.wrap (b.2.2 - 1)),b.1) else (Option.bind ((bif (a == 38) then some true else some (a == 48)):Option Bool) fun m=>(bif m then (Option.bind ((bif (decide ((IntKind.i64.wrap (b.2.1+1)) < (l.length:Int))) then (Option.bind (idx l (IntKind.i64.wrap (b.2.1+1))) fun n=>some (n == 5)) else some false):Option Bool) fun o=>(Option.bind ((bif o then some 2 else some b.2.2):Option Int) fun p=>(Option.bind ((bif (decide ((IntKind.i64.wrap (b.2.1+1)) < (l.length:Int))) then (Option.bind (idx l (IntKind.i64.wrap (b.2.1+1))) fun q=>some (q == 2)) else some false):Option Bool) fun r=>(Option.bind ((bif r then some 4 else some p):Option Int) fun t=>some (t,b.1))))) else (Option.bind ((bif (a == 0) then some (bE.mk 0 0 false false false) else some b.1):Option bE) fun c=>(Option.bind ((bif (a == 1) then some true else some (a == 22)):Option Bool) fun u=>(Option.bind ((bif u then some (bE.mk c.eW c.back (decide (a < 10)) c.under c.cO) else some c):Option bE) fun d=>(Option.bind ((bif (a == 4) then some true else some (a == 24)):Option Bool) fun v=>(Option.bind ((bif v then some (bE.mk d.eW d.back d.bold (decide (a < 10)) d.cO) else some d):Option bE) fun e=>(Option.bind ((bif (a == 7) then some true else some (a == 27)):Option Bool) fun w=>(Option.bind ((bif w then some (bE.mk e.eW e.back e.bold e.under (decide (a < 10))) else some e):Option bE) fun f=>(Option.bind ((bif (decide (a≥30)) then some (decide (a≤37)) else some false):Option Bool) fun z=>(Option.bind ((bif z then some (bE.mk (IntKind.i64.wrap (a - 29)) f.back f.bold f.under f.cO) else some f):Option bE) fun h=>(Option.bind ((bif (a == 39) then some (bE.mk 0 h.back h.bold h.under h.cO) else some h):Option bE) fun i=>(Option.bind ((bif (decide (a≥40)) then some (decide (a≤47)) else some false):Option Bool) fun A=>(Option.bind ((bif A then some (bE.mk i.eW (IntKind.i64.wrap (a - 39)) i.bold i.under i.cO) else some i):Option bE) fun j=>(bif (a == 49) then some (b.2.2,(bE.mk j.eW 0 j.bold j.under j.cO)) else some (b.2.2,j)))))))))))))))))):Option (Int×bE)) fun k=>some (.inl (k.2,(IntKind.i64.wrap (b.2.1+1)),k.1))) else some (.inr b.1))) (s_,0,0)) fun B=>some B))
end Go.Tw.X
set_option linter.unusedVariables false
set_option linter.unusedSimpArgs false
set_option maxRecDepth 10000
namespace Go.Tw.X
open Go Go.Tw
structure aM where
 g:cT
 x:Int
 y:Int
 s:bE
 sX:Int
 sY:Int
 sS:bE
 waiting:Bool
 top:Int
 aH:Int
 aW:Bool
 title:ByteArray
 deriving DecidableEq,Inhabited
noncomputable def nC (w:Int) (h_:Int):Option aM :=
 (Option.bind (nz w h_) fun r2=>some (aM.mk r2 0 0 (bE.mk 0 0 false false false) 0 0 (bE.mk 0 0 false false false) false 0 (IntKind.i64.wrap ((r2.l.length:Int) - 1)) true (ByteArray.mk #[])))
noncomputable def gK (s_:aM) (r_:aQ):Option aM :=
 (Option.bind (kJ s_.g s_.y r_) fun r4=>some (aM.mk r4.1 s_.x s_.y s_.s s_.sX s_.sY s_.sS s_.waiting s_.top s_.aH s_.aW s_.title))
noncomputable def jT (s_:aM) (n_:Int):Option (aM×(List aQ)) :=
 (Option.bind (hU s_.s) fun b=>(Option.bind (dh s_.g true s_.top s_.aH n_ b) fun a=>(bif (decide (s_.top > 0)) then some ((aM.mk a.1 s_.x s_.y s_.s s_.sX s_.sY s_.sS s_.waiting s_.top s_.aH s_.aW s_.title),([]:List aQ)) else some ((aM.mk a.1 s_.x s_.y s_.s s_.sX s_.sY s_.sS s_.waiting s_.top s_.aH s_.aW s_.title),a.2))))
noncomputable def cB (s_:aM) (x_:Int) (y:Int):Option aM :=
 some (aM.mk s_.g (imax 0 (dt x_ (IntKind.i64.wrap (s_.g.w - 1)))) (imax 0 (dt y (IntKind.i64.wrap ((s_.g.l.length:Int) - 1)))) s_.s s_.sX s_.sY s_.sS false s_.top s_.aH s_.aW s_.title)
noncomputable def eY (s_:aM):Option (aM×(List aQ)) :=
 (bif (s_.y == s_.aH) then (Option.bind (jT (aM.mk s_.g s_.x s_.y s_.s s_.sX s_.sY s_.sS false s_.top s_.aH s_.aW s_.title) 1) fun a=>some (a.1,a.2)) else (Option.bind (cB (aM.mk s_.g s_.x s_.y s_.s s_.sX s_.sY s_.sS false s_.top s_.aH s_.aW s_.title) s_.x (IntKind.i64.wrap (s_.y+1))) fun b=>some (b,([]:List aQ))))
noncomputable def mV (s_:aM) (r_:Int):Option (aM×(List aQ)) :=
 (Option.bind (mS r_) fun r3=>(Option.bind ((bif (r3 == 0) then some true else some (decide (r3 > s_.g.w))):Option Bool) fun e9=>(bif e9 then some (s_,([]:List aQ)) else (Option.bind (hU s_.s) fun i=>(Option.bind ((bif s_.waiting then some s_.aW else some false):Option Bool) fun j=>(Option.bind ((bif j then (Option.bind (idx s_.g.l s_.y) fun k=>(Option.bind (gK s_ (aQ.mk k.l true)) fun c=>(Option.bind (eY (aM.mk c.g 0 c.y c.s c.sX c.sY c.sS c.waiting c.top c.aH c.aW c.title)) fun f=>(Option.bind (chk (dg ([]:List aQ).length f.2.length 32)) fun _=>some ((([]:List aQ)++f.2),f.1))))) else some (([]:List aQ),s_)):Option ((List aQ)×aM)) fun b=>(Option.bind ((bif (r3 == 2) then some (b.2.x == (IntKind.i64.wrap (b.2.g.w - 1))) else some false):Option Bool) fun m=>(Option.bind ((bif m then (bif b.2.aW then (Option.bind (idx b.2.g.l b.2.y) fun n=>(Option.bind (jR n i) fun o=>(Option.bind (gK b.2 o) fun d=>(Option.bind (eY (aM.mk d.g 0 d.y d.s d.sX d.sY d.sS d.waiting d.top d.aH d.aW d.title)) fun h=>(Option.bind (chk (dg b.1.length h.2.length 32)) fun _=>some ((b.1++h.2),h.1)))))) else some (b.1,(aM.mk b.2.g (IntKind.i64.wrap (b.2.x - 1)) b.2.y b.2.s b.2.sX b.2.sY b.2.sS b.2.waiting b.2.top b.2.aH b.2.aW b.2.title))) else some (b.1,b.2)):Option ((List aQ)×aM)) fun e=>(Option.bind (idx e.2.g.l e.2.y) fun p=>(Option.bind (lQ p e.2.x r_ i) fun q=>(Option.bind (gK e.2 q) fun a=>(Option.bind ((bif ((IntKind.i64.wrap (a.x+r3)) == a.g.w) then some (aM.mk a.g (IntKind.i64.wrap ((IntKind.i64.wrap (a.x+r3)) - 1)) a.y a.s a.sX a.sY a.sS ((IntKind.i64.wrap (a.x+r3)) == a.g.w) a.top a.aH a.aW a.title) else some (aM.mk a.g (IntKind.i64.wrap (a.x+r3)) a.y a.s a.sX a.sY a.sS ((IntKind.i64.wrap (a.x+r3)) == a.g.w) a.top a.aH a.aW a.title)):Option aM) fun r=>some (r,e.1)))))))))))))
noncomputable def dJ (l:List Int) (i:Int) (d:Int):Option Int :=
 (Option.bind ((bif (decide (i < (l.length:Int))) then (Option.bind (idx l i) fun a=>some (decide (a > 0))) else some false):Option Bool) fun b=>(bif b then (Option.bind (idx l i) fun c=>some (dt c 9999)) else some d))
noncomputable def iC (s_:aM) (y:Int) (from_:Int) (to:Int):Option aM :=
 (Option.bind (idx s_.g.l y) fun a=>(Option.bind (hU s_.s) fun b=>(Option.bind (ky a from_ to b) fun c=>(Option.bind (kJ s_.g y c) fun d=>some (aM.mk d.1 s_.x s_.y s_.s s_.sX s_.sY s_.sS s_.waiting s_.top s_.aH s_.aW s_.title)))))
noncomputable def kz (s_:aM) (n_:Int) (all:Bool):Option aM :=
 (bif (decide (n_ > 2)) then some s_ else (Option.bind (iter (σ:=aM×Int) (ρ:=aM) (fun a=>(bif (decide (a.2 < (s_.g.l.length:Int))) then (Option.bind ((Option.bind ((bif all then (bif (decide (a.2 < a.1.y)) then (bif (n_ != 0) then some true else (bif (decide (a.2 > a.1.y)) then some (n_ != 1) else some false)) else (bif (decide (a.2 > a.1.y)) then some (n_ != 1) else some false)) else some false):Option Bool) fun d=>(bif d then (Option.bind (iC a.1 a.2 0 a.1.g.w) fun e=>some e) else some a.1)):Option aM) fun f=>some (.inl (f,(IntKind.i64.wrap (a.2+1))))) else some (.inr a.1))) (s_,0)) fun c=>(Option.bind ((bif (n_ == 0) then some c.x else some 0):Option Int) fun h=>(Option.bind ((bif (n_ == 1) then some (IntKind.i64.wrap (c.x+1)) else some c.g.w):Option Int) fun i=>(Option.bind (iC c c.y h i) fun b=>some (aM.mk b.g b.x b.y b.s b.sX b.sY b.sS false b.top b.aH b.aW b.title))))))
noncomputable def kS (s_:aM) (b:Int) (l:List Int):Option (aM×(List aQ)) :=
 (Option.bind (dJ l 0 1) fun r3=>(Option.bind (hU s_.s) fun r6=>(Option.bind ((Option.bind ((bif (b == 65) then some (b == 65) else some (b == 70)):Option Bool) fun k=>(bif k then (Option.bind ((bif (decide (s_.y≥s_.top)) then some s_.top else some 0):Option Int) fun m=>(Option.bind (cB s_ s_.x (imax m (IntKind.i64.wrap (s_.y - r3)))) fun a=>(bif (b == 70) then some (.inl (aM.mk a.g 0 a.y a.s a.sX a.sY a.sS a.waiting a.top a.aH a.aW a.title)) else some (.inl a)))) else (Option.bind ((bif (b == 66) then some (b == 66) else some (b == 69)):Option Bool) fun n=>(bif n then (Option.bind ((bif (decide (s_.y≤s_.aH)) then some s_.aH else some (IntKind.i64.wrap ((s_.g.l.length:Int) - 1))):Option Int) fun o=>(Option.bind (cB s_ s_.x (dt o (IntKind.i64.wrap (s_.y+r3)))) fun c=>(bif (b == 69) then some (.inl (aM.mk c.g 0 c.y c.s c.sX c.sY c.sS c.waiting c.top c.aH c.aW c.title)) else some (.inl c)))) else (bif (b == 67) then (Option.bind (cB s_ (IntKind.i64.wrap (s_.x+r3)) s_.y) fun p=>some (.inl p)) else (bif (b == 68) then (Option.bind (cB s_ (IntKind.i64.wrap (s_.x - r3)) s_.y) fun q=>some (.inl q)) else (bif (b == 71) then (Option.bind (cB s_ (IntKind.i64.wrap (r3 - 1)) s_.y) fun r=>some (.inl r)) else (bif (b == 100) then (Option.bind (cB s_ s_.x (IntKind.i64.wrap (r3 - 1))) fun t=>some (.inl t)) else (Option.bind ((bif (b == 72) then some (b == 72) else some (b == 102)):Option Bool) fun u=>(bif u then (Option.bind (dJ l 1 1) fun v=>(Option.bind (cB s_ (IntKind.i64.wrap (v - 1)) (IntKind.i64.wrap (r3 - 1))) fun z=>some (.inl z))) else (bif (b == 74) then (Option.bind (dJ l 0 0) fun A=>(Option.bind (kz s_ A true) fun B=>some (.inl B))) else (bif (b == 75) then (Option.bind (dJ l 0 0) fun C=>(Option.bind (kz s_ C false) fun D=>some (.inl D))) else (bif (b == 88) then (Option.bind (iC s_ s_.y s_.x (IntKind.i64.wrap (s_.x+r3))) fun d=>some (.inl (aM.mk d.g d.x d.y d.s d.sX d.sY d.sS false d.top d.aH d.aW d.title))) else (bif (b == 64) then (Option.bind (idx s_.g.l s_.y) fun E=>(Option.bind (jP E s_.x r3 r6) fun F=>(Option.bind (gK s_ F) fun e=>some (.inl (aM.mk e.g e.x e.y e.s e.sX e.sY e.sS false e.top e.aH e.aW e.title))))) else (bif (b == 80) then (Option.bind (idx s_.g.l s_.y) fun G=>(Option.bind (jQ G s_.x r3 r6) fun H=>(Option.bind (gK s_ H) fun f=>some (.inl (aM.mk f.g f.x f.y f.s f.sX f.sY f.sS false f.top f.aH f.aW f.title))))) else (Option.bind ((bif (b == 76) then some (b == 76) else some (b == 77)):Option Bool) fun I=>(bif I then (Option.bind ((bif (decide (s_.y≥s_.top)) then some (decide (s_.y≤s_.aH)) else some false):Option Bool) fun J=>(bif J then (Option.bind (dh s_.g (b == 77) s_.y s_.aH r3 r6) fun K=>(Option.bind (cB (aM.mk K.1 s_.x s_.y s_.s s_.sX s_.sY s_.sS s_.waiting s_.top s_.aH s_.aW s_.title) 0 s_.y) fun L=>some (.inl L))) else some (.inl s_))) else (bif (b == 83) then (Option.bind (jT (aM.mk s_.g s_.x s_.y s_.s s_.sX s_.sY s_.sS false s_.top s_.aH s_.aW s_.title) r3) fun h=>(gT (some (h.1,h.2)))) else (bif (b == 84) then (Option.bind (dh s_.g false s_.top s_.aH r3 r6) fun M=>some (.inl (aM.mk M.1 s_.x s_.y s_.s s_.sX s_.sY s_.sS false s_.top s_.aH s_.aW s_.title))) else (bif (b == 109) then (Option.bind (nB s_.s l) fun N=>some (.inl (aM.mk s_.g s_.x s_.y N s_.sX s_.sY s_.sS s_.waiting s_.top s_.aH s_.aW s_.title))) else (bif (b == 114) then (Option.bind (dJ l 0 1) fun i=>(Option.bind (dJ l 1 (s_.g.l.length:Int)) fun j=>(bif (decide ((IntKind.i64.wrap ((imax 1 (dt i (s_.g.l.length:Int))) - 1)) < (IntKind.i64.wrap ((imax 1 (dt j (s_.g.l.length:Int))) - 1)))) then (Option.bind (cB (aM.mk s_.g s_.x s_.y s_.s s_.sX s_.sY s_.sS s_.waiting (IntKind.i64.wrap ((imax 1 (dt i (s_.g.l.length:Int))) - 1)) (IntKind.i64.wrap ((imax 1 (dt j (s_.g.l.length:Int))) - 1)) s_.aW s_.title) 0 0) fun O=>some (.inl O)) else some (.inl s_)))) else some (.inl s_)))))))))))))))))))))):Option (aM ⊕ (aM×(List aQ)))) fun | .inl e753=>some (e753,([]:List aQ)) | .inr w=>some w)))
noncomputable def kq (s_:aM) (a:aO):Option (aM×(List aQ)) :=
 (Option.bind ((bif (a.kind == 1) then (Option.bind (mV s_ a.rune) fun b=>(gT (some (b.1,b.2)))) else (bif (a.kind == 2) then (bif (a.byte == 8) then (Option.bind (cB s_ (IntKind.i64.wrap (s_.x - 1)) s_.y) fun h=>(gT (some (h,([]:List aQ))))) else (bif (a.byte == 9) then (Option.bind (cB s_ (IntKind.i64.wrap ((IntKind.i64.wrap ((IntKind.i64.wrap (s_.x.tdiv 8))*8))+8)) s_.y) fun i=>(gT (some (i,([]:List aQ))))) else (Option.bind ((bif (a.byte == 10) then some (a.byte == 10) else (bif (a.byte == 11) then some (a.byte == 11) else some (a.byte == 12))):Option Bool) fun j=>(bif j then (Option.bind (eY s_) fun c=>(gT (some (c.1,c.2)))) else (bif (a.byte == 13) then (Option.bind (cB s_ 0 s_.y) fun k=>(gT (some (k,([]:List aQ))))) else some (.inl s_)))))) else (bif (a.kind == 3) then (bif (a.byte == 68) then (Option.bind (eY s_) fun d=>(gT (some (d.1,d.2)))) else (bif (a.byte == 69) then (Option.bind (eY (aM.mk s_.g 0 s_.y s_.s s_.sX s_.sY s_.sS s_.waiting s_.top s_.aH s_.aW s_.title)) fun e=>(gT (some (e.1,e.2)))) else (bif (a.byte == 77) then (bif (s_.y == s_.top) then (Option.bind (hU s_.s) fun m=>(Option.bind (dh s_.g false s_.top s_.aH 1 m) fun n=>(gT (some ((aM.mk n.1 s_.x s_.y s_.s s_.sX s_.sY s_.sS false s_.top s_.aH s_.aW s_.title),([]:List aQ)))))) else (Option.bind (cB (aM.mk s_.g s_.x s_.y s_.s s_.sX s_.sY s_.sS false s_.top s_.aH s_.aW s_.title) s_.x (IntKind.i64.wrap (s_.y - 1))) fun o=>(gT (some (o,([]:List aQ)))))) else (bif (a.byte == 55) then some (.inl (aM.mk s_.g s_.x s_.y s_.s s_.x s_.y s_.s s_.waiting s_.top s_.aH s_.aW s_.title)) else (bif (a.byte == 56) then (Option.bind (cB (aM.mk s_.g s_.x s_.y s_.sS s_.sX s_.sY s_.sS s_.waiting s_.top s_.aH s_.aW s_.title) s_.sX s_.sY) fun p=>(gT (some (p,([]:List aQ))))) else (bif (a.byte == 99) then (Option.bind (nC s_.g.w (s_.g.l.length:Int)) fun q=>(gT (some (q,([]:List aQ))))) else some (.inl s_))))))) else (bif (a.kind == 4) then (bif (!a.cv) then (Option.bind (kS s_ a.byte a.aY) fun f=>(gT (some (f.1,f.2)))) else (Option.bind ((Option.bind (dJ a.aY 0 0) fun r=>(bif (r == 7) then (bif (a.byte == 104) then some true else some (a.byte == 108)) else some false)):Option Bool) fun t=>(bif t then some (.inl (aM.mk s_.g s_.x s_.y s_.s s_.sX s_.sY s_.sS s_.waiting s_.top s_.aH (a.byte == 104) s_.title)) else some (.inl s_)))) else (bif (a.kind == 5) then some (.inl (aM.mk s_.g s_.x s_.y s_.s s_.sX s_.sY s_.sS s_.waiting s_.top s_.aH s_.aW a.text)) else some (.inl s_)))))):Option (aM ⊕ (aM×(List aQ)))) fun | .inl e456=>some (e456,([]:List aQ)) | .inr w=>some w)
noncomputable def lB (s_:aM) (w:Int) (h_:Int):Option (aM×(List aQ)) :=
 (Option.bind (lz s_.g w h_ (imax 0 (IntKind.i64.wrap ((IntKind.i64.wrap (s_.y+1)) - (imax 1 (dt h_ 1000)))))) fun r3=>(Option.bind (cB (aM.mk r3.1 s_.x s_.y s_.s s_.sX s_.sY s_.sS s_.waiting 0 (IntKind.i64.wrap ((r3.1.l.length:Int) - 1)) s_.aW s_.title) s_.x (IntKind.i64.wrap (s_.y - (imax 0 (IntKind.i64.wrap ((IntKind.i64.wrap (s_.y+1)) - (imax 1 (dt h_ 1000)))))))) fun a=>some (a,r3.2)))
end Go.Tw.X
set_option linter.unusedVariables false
set_option linter.unusedSimpArgs false
set_option maxRecDepth 10000
namespace Go.Tw.X
open Go Go.Tw
noncomputable def nD (a:aO):Option aX :=
 (Option.bind (chk (dg ([]:List Int).length a.aY.length 8)) fun _=>some (aX.mk a.kind (IntKind.i32.wrap a.rune) (IntKind.u8.wrap a.byte) a.cv (([]:List Int)++a.aY) a.text))
end Go.Tw.X
set_option linter.unusedVariables false
set_option linter.unusedSimpArgs false
set_option maxRecDepth 10000
namespace Go.Tw.X
open Go Go.Tw
structure ll where
 l:List (List cx)
 begun:List cx
 deriving DecidableEq,Inhabited
noncomputable def nE (b:ll) (r_:aQ):Option ll :=
 (Option.bind (chk (dg ([]:List cx).length b.begun.length 16)) fun _=>(Option.bind (ly r_) fun d=>(Option.bind (chk (dg (([]:List cx)++b.begun).length d.length 16)) fun _=>(Option.bind (chk (dg ([]:List (List cx)).length b.l.length 24)) fun _=>(Option.bind (iter (σ:=(List cx)×(List (List cx))) (ρ:=(List cx)×(List (List cx))) (fun a=>(bif (decide ((a.1.length:Int)≥1024)) then (Option.bind (chk (cF 0 1024 a.1.length)) fun _=>(Option.bind (chk (dg a.2.length [(cut a.1 0 1024)].length 24)) fun _=>(Option.bind (chk (cF 1024 (a.1.length:Int) a.1.length)) fun _=>some (.inl ((cut a.1 1024 (a.1.length:Int)),(a.2++[(cut a.1 0 1024)])))))) else some (.inr (a.1,a.2)))) (((([]:List cx)++b.begun)++d),(([]:List (List cx))++b.l))) fun c=>(bif (!r_.wrapped) then (Option.bind (chk (dg c.2.length [c.1].length 24)) fun _=>some (ll.mk (c.2++[c.1]) ([]:List cx))) else some (ll.mk c.2 c.1)))))))
end Go.Tw.X
set_option linter.unusedVariables false
set_option linter.unusedSimpArgs false
set_option maxRecDepth 10000
namespace Go.Tw.X
open Go Go.Tw
structure cI where
 kind:Int
 text:ByteArray
 w:Int
 h:Int
 deriving DecidableEq,Inhabited
structure bL where
 s:aM
 b:ll
 all:ByteArray
 hK:Int
 k:Int
 deriving DecidableEq,Inhabited
def k8 (x:cI):Prop:=(inK .i64) x.kind∧(fun s:ByteArray=>s.size≤maxLen) x.text∧(inK .i64) x.w∧(inK .i64) x.h∧True
noncomputable def iD (e:cI):Option Int :=
 (bif (e.kind == 0) then (bif (decide ((e.text.size:Int) > 1048576)) then some 3 else some 0) else (bif (e.kind != 1) then some 5 else (Option.bind ((bif (decide (e.w < 1)) then some true else (bif (decide (e.w > 1000)) then some true else (bif (decide (e.h < 1)) then some true else some (decide (e.h > 1000))))):Option Bool) fun a=>(bif a then some 6 else some 0))))
noncomputable def kK (m_:bL) (l:List aQ):Option bL :=
 (Option.bind (iter (σ:=bL×Int) (ρ:=bL) (fun a=>(bif (decide (a.2 < (l.length:Int))) then (Option.bind (idx l a.2) fun c=>(Option.bind (nE a.1.b c) fun d=>some (.inl ((bL.mk a.1.s d a.1.all a.1.hK a.1.k),(IntKind.i64.wrap (a.2+1)))))) else some (.inr a.1))) (m_,0)) fun e=>some e)
noncomputable def jz (m_:bL) (e:cI):Option (bL×Int) :=
 (Option.bind (iD e) fun r4=>(bif (r4 != 0) then some (m_,r4) else (Option.bind ((bif (e.kind == 1) then (Option.bind (lB m_.s e.w e.h) fun g=>(Option.bind (kK (bL.mk g.1 m_.b m_.all m_.hK m_.k) g.2) fun j=>some j)) else (Option.bind (chk (vO m_.all.size e.text.size)) fun _=>(Option.bind (mU (m_.all++e.text)) fun c=>(Option.bind (chk (cF m_.hK (c.length:Int) c.length)) fun _=>(Option.bind (iter (σ:=bL×Int) (ρ:=bL) (fun a=>(bif (decide (a.2 < ((cut c m_.hK (c.length:Int)).length:Int))) then (Option.bind (idx (cut c m_.hK (c.length:Int)) a.2) fun l=>(Option.bind (kq a.1.s l) fun i=>(Option.bind (kK (bL.mk i.1 a.1.b a.1.all a.1.hK a.1.k) i.2) fun m=>some (.inl (m,(IntKind.i64.wrap (a.2+1))))))) else some (.inr a.1))) ((bL.mk m_.s m_.b (m_.all++e.text) m_.hK m_.k),0)) fun f=>some (bL.mk f.s f.b f.all (c.length:Int) f.k)))))):Option bL) fun d=>some ((bL.mk d.s d.b d.all d.hK (IntKind.i64.wrap (d.k+1))),0))))
end Go.Tw.X
set_option linter.unusedVariables false
set_option linter.unusedSimpArgs false
set_option maxRecDepth 10000
namespace Go.Tw.X
open Go Go.Tw
noncomputable def jj:Option Bool :=
 (Option.bind (kH 3 1 ([(dw.mk 0 (ByteArray.mk #[97,13,10,98]) 0 0),(dw.mk 1 (ByteArray.mk #[]) 0 0),(dw.mk 1 (ByteArray.mk #[]) 4 2)])) fun r4=>(Option.bind (ft r4) fun c=>(Option.bind (gX c.2.book 0) fun b=>(Option.bind (eV c.2) fun a=>(Option.bind ((Option.bind (ir a.2) fun d=>(bif (d == 2) then (Option.bind (dL a.2.book) fun e=>(bif (e == 1) then (bif b.2 then (bif ((b.1.length:Int) == 1) then (Option.bind (idx b.1 0) fun f=>(bif (f.rune == 97) then (bif (a.1.k == 3) then (bif (a.1.w == 4) then some ((a.1.rows.length:Int) == 2) else some false) else some false) else some false)) else some false) else some false) else some false)) else some false)):Option Bool) fun g=>some g)))))
noncomputable def kL (e:cI):Option cI :=
 (Option.bind (kI e.text 60) fun r3=>(Option.bind ((bif (decide (e.w > 10)) then some (decide (e.w≤1000)) else some false):Option Bool) fun e9=>(Option.bind ((bif e9 then some (cI.mk e.kind r3 10 e.h) else some (cI.mk e.kind r3 e.w e.h)):Option cI) fun a=>(Option.bind ((bif (decide (a.h > 6)) then some (decide (a.h≤1000)) else some false):Option Bool) fun b=>(Option.bind ((bif b then some (cI.mk a.kind a.text a.w 6) else some a):Option cI) fun c=>some c)))))
noncomputable def gR (l:List cI):Option Bool :=
 (Option.bind jj fun r1=>(bif (!r1) then some false else (Option.bind (jE 6 3) fun r6=>(Option.bind (iter (σ:=aV×Int×Int×Int) (ρ:=aV ⊕ Bool) (fun b=>(Option.bind ((bif (decide (b.2.2.2 < (l.length:Int))) then some (decide (b.2.2.2 < 15)) else some false):Option Bool) fun f=>(bif f then (Option.bind (idx l b.2.2.2) fun g=>(Option.bind (kL g) fun c=>(Option.bind (cu b.1 (dw.mk c.kind c.text c.w c.h)) fun d=>(Option.bind (iD c) fun i=>(bif (!((d.1 == 0) == (i == 0))) then (ka (some false)) else (Option.bind ((bif (d.1 == 0) then some (IntKind.i64.wrap (b.2.1+1)) else some b.2.1):Option Int) fun e=>(Option.bind (eV d.2) fun a=>(Option.bind ((Option.bind (ir a.2) fun j=>(bif (j != e) then some true else (bif (a.1.k != (IntKind.i64.wrap (e+1))) then some true else (Option.bind (dL a.2.book) fun m=>(bif (decide (m < b.2.2.1)) then some true else (Option.bind (dL a.2.book) fun n=>(bif (a.1.len != n) then some true else (Option.bind (gI a.1) fun o=>(bif (o != 0) then some true else (bif (d.1 == 0) then (bif (c.kind == 1) then (bif (a.1.w != c.w) then some true else some (a.1.h != c.h)) else some false) else some false)))))))))):Option Bool) fun p=>(bif p then (ka (some false)) else (Option.bind (dL a.2.book) fun q=>some (.inl (a.2,e,q,(IntKind.i64.wrap (b.2.2.2+1)))))))))))))) else some (.inr (.inl b.1))))) (r6,0,0,0)) fun | .inl e1276=>some true | .inr w=>some w))))
end Go.Tw.X

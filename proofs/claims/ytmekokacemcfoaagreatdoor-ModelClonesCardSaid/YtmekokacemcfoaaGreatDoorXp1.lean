import Derived.Test.YtmekokacemcfoaaGreatDoorFw2
set_option linter.unusedVariables false
set_option linter.unusedSimpArgs false
set_option maxRecDepth 10000
namespace Go.Tw.X
open Go Go.Tw
structure fP where
 b:List Int
 deriving DecidableEq,Inhabited
structure qU where
 s:ByteArray
 e:Int
 deriving DecidableEq,Inhabited
noncomputable def nv (n_:Int):Option Int :=
 some n_
noncomputable def pb (n_:Int):Option Int :=
 some (imax 0 (dQ n_ 4611686018427387904))
noncomputable def kz {σ:Type} (Y:σ→Int→Option (σ×Bool)) (y0:σ) (x1:Int):Option (σ×Int) :=
 (Option.bind (pb x1) fun r1=>(Option.bind (iter (σ:=Int×σ) (ρ:=(Int×σ) ⊕ (σ×Int)) (fun a=>(bif (decide (a.1≥128)) then (Option.bind (Y a.2 (Go.bits .or .u8 (Go.bits .and .u8 (IntKind.u8.wrap a.1) 127) 128)) fun z68=>(bif (!z68.2) then (nj (some (z68.1,a.1))) else some (.inl ((a.1.fdiv (2 ^ (min 7 64))),z68.1)))) else some (.inr (.inl (a.1,a.2))))) (r1,y0)) fun | .inl e53=>(Option.bind (Y e53.2 (IntKind.u8.wrap e53.1)) fun z75=>some (z75.1,e53.1)) | .inr w=>some w))
noncomputable def kj (o:fP) (l:List Int):Option fP :=
 (Option.bind (iter (σ:=fP×Int) (ρ:=fP) (fun a=>(bif (decide (a.2 < (l.length:Int))) then (Option.bind (idx l a.2) fun e=>(Option.bind (nv e) fun f=>(Option.bind (kz (fun c d=>(Option.bind (chk (dB c.b.length [d].length 1)) fun _=>some ((fP.mk (c.b++[d])),true))) (a.1:fP) f) fun g=>some (.inl (g.1,(IntKind.i64.wrap (a.2+1))))))) else some (.inr a.1))) (o,0)) fun h=>some h)
noncomputable def lC (o:fP):Option ByteArray :=
 some (iP o.b)
end Go.Tw.X
set_option linter.unusedVariables false
set_option linter.unusedSimpArgs false
set_option maxRecDepth 10000
namespace Go.Tw.X
open Go Go.Tw
structure bM where
 lead:Int
 rune:Int
 hH:Int
 deriving DecidableEq,Inhabited
structure jI where
 first:Int
 last:Int
 hH:Int
 low:Int
 high:Int
 deriving DecidableEq,Inhabited
def bR:List jI:=[⟨194,223,1,128,191⟩,⟨224,224,2,160,191⟩,⟨225,236,2,128,191⟩,⟨237,237,2,128,159⟩,⟨238,239,2,128,191⟩,⟨240,240,3,144,191⟩,⟨241,243,3,128,191⟩,⟨244,244,3,128,143⟩]
noncomputable def kA (l:List Int):Option ByteArray :=
 (Option.bind (iter (σ:=(List Int)×Int) (ρ:=(List Int)) (fun b=>(bif (decide (b.2 < (l.length:Int))) then (Option.bind ((Option.bind (idx l b.2) fun c=>(Option.bind ((bif (decide (c < 0)) then some true else (bif (decide (c > 1114111)) then some true else (bif (decide (c≥55296)) then some (decide (c≤57343)) else some false))):Option Bool) fun d=>(Option.bind ((bif d then some 65533 else some c):Option Int) fun a=>(bif (decide (a < 128)) then (Option.bind (chk (dB b.1.length [(IntKind.u8.wrap a)].length 1)) fun _=>some (b.1++[(IntKind.u8.wrap a)])) else (bif (decide (a < 2048)) then (Option.bind (chk (dB b.1.length [(IntKind.u8.wrap (Go.bits .or .i32 192 (a.fdiv (2 ^ (min 6 32))))),(IntKind.u8.wrap (Go.bits .or .i32 128 (Go.bits .and .i32 a 63)))].length 1)) fun _=>some (b.1++[(IntKind.u8.wrap (Go.bits .or .i32 192 (a.fdiv (2 ^ (min 6 32))))),(IntKind.u8.wrap (Go.bits .or .i32 128 (Go.bits .and .i32 a 63)))])) else (bif (decide (a < 65536)) then (Option.bind (chk (dB b.1.length [(IntKind.u8.wrap (Go.bits .or .i32 224 (a.fdiv (2 ^ (min 12 32))))),(IntKind.u8.wrap (Go.bits .or .i32 128 (Go.bits .and .i32 (a.fdiv (2 ^ (min 6 32))) 63))),(IntKind.u8.wrap (Go.bits .or .i32 128 (Go.bits .and .i32 a 63)))].length 1)) fun _=>some (b.1++[(IntKind.u8.wrap (Go.bits .or .i32 224 (a.fdiv (2 ^ (min 12 32))))),(IntKind.u8.wrap (Go.bits .or .i32 128 (Go.bits .and .i32 (a.fdiv (2 ^ (min 6 32))) 63))),(IntKind.u8.wrap (Go.bits .or .i32 128 (Go.bits .and .i32 a 63)))])) else (Option.bind (chk (dB b.1.length [(IntKind.u8.wrap (Go.bits .or .i32 240 (a.fdiv (2 ^ (min 18 32))))),(IntKind.u8.wrap (Go.bits .or .i32 128 (Go.bits .and .i32 (a.fdiv (2 ^ (min 12 32))) 63))),(IntKind.u8.wrap (Go.bits .or .i32 128 (Go.bits .and .i32 (a.fdiv (2 ^ (min 6 32))) 63))),(IntKind.u8.wrap (Go.bits .or .i32 128 (Go.bits .and .i32 a 63)))].length 1)) fun _=>some (b.1++[(IntKind.u8.wrap (Go.bits .or .i32 240 (a.fdiv (2 ^ (min 18 32))))),(IntKind.u8.wrap (Go.bits .or .i32 128 (Go.bits .and .i32 (a.fdiv (2 ^ (min 12 32))) 63))),(IntKind.u8.wrap (Go.bits .or .i32 128 (Go.bits .and .i32 (a.fdiv (2 ^ (min 6 32))) 63))),(IntKind.u8.wrap (Go.bits .or .i32 128 (Go.bits .and .i32 a 63)))])))))))):Option (List Int)) fun e=>some (.inl (e,(IntKind.i64.wrap (b.2+1))))) else some (.inr b.1))) ([],0)) fun f=>some (iP f))
noncomputable def iq (d:bM):Option (List Int) :=
 (bif (decide (d.hH≤0)) then some ([]:List Int) else some [65533])
noncomputable def kX (b:Int):Option (jI×Bool) :=
 (Option.bind (iter (σ:=Int) (ρ:=Unit ⊕ (jI×Bool)) (fun a=>(bif (decide (a < 8)) then (Option.bind (idx bR a) fun c=>(Option.bind ((bif (decide (b≥c.first)) then some (decide (b≤c.last)) else some false):Option Bool) fun d=>(bif d then (nj (some (c,true))) else some (.inl (IntKind.i64.wrap (a+1)))))) else some (.inr (.inl ())))) 0) fun | .inl e84=>some ((jI.mk 0 0 0 0 0),false) | .inr w=>some w)
noncomputable def kl (b:Int):Option (bM×(List Int)) :=
 (bif (decide (b < 128)) then some ((bM.mk 0 0 0),[(IntKind.i32.wrap b)]) else (Option.bind (kX b) fun r8=>(bif (!r8.2) then some ((bM.mk 0 0 0),[65533]) else (Option.bind (chk (shk r8.1.hH)) fun _=>some ((bM.mk b (Go.bits .and .i32 (IntKind.i32.wrap b) ((63:Int).fdiv (2 ^ (min r8.1.hH.toNat 32)))) r8.1.hH),([]:List Int))))))
noncomputable def gR (d:bM) (b:Int):Option Bool :=
 (Option.bind (kX d.lead) fun r2=>(bif (decide (d.hH < r2.1.hH)) then (Option.bind ((bif (decide (b≥128)) then some (decide (b≤191)) else some false):Option Bool) fun a=>some a) else (Option.bind ((bif (decide (b≥r2.1.low)) then some (decide (b≤r2.1.high)) else some false):Option Bool) fun c=>some c)))
noncomputable def gS (d:bM) (b:Int):Option (bM×(List Int)) :=
 (bif (decide (d.hH≤0)) then (Option.bind (kl b) fun c=>some (c.1,c.2)) else (Option.bind (gR d b) fun e=>(bif (!e) then (Option.bind (kl b) fun a=>(Option.bind (chk (dB [65533].length a.2.length 4)) fun _=>some (a.1,([65533]++a.2)))) else (bif ((IntKind.i64.wrap (d.hH - 1)) == 0) then (Option.bind (some [(Go.bits .or .i32 (IntKind.i32.wrap (d.rune*2 ^ (min 6 32))) (Go.bits .and .i32 (IntKind.i32.wrap b) 63))]:Option (List Int)) fun f=>some ((bM.mk 0 0 0),f)) else some ((bM.mk d.lead (Go.bits .or .i32 (IntKind.i32.wrap (d.rune*2 ^ (min 6 32))) (Go.bits .and .i32 (IntKind.i32.wrap b) 63)) (IntKind.i64.wrap (d.hH - 1))),([]:List Int))))))
end Go.Tw.X
set_option linter.unusedVariables false
set_option linter.unusedSimpArgs false
set_option maxRecDepth 10000
namespace Go.Tw.X
open Go Go.Tw
structure bJ where
 e0:Int
 e1:Int
 deriving DecidableEq,Inhabited
noncomputable def nw (x_:Int) (y:Int):Option (Int×Int) :=
 some ((IntKind.u64.wrap ((IntKind.u64.wrap ((IntKind.u64.wrap ((x_.fdiv (2 ^ (min 32 64)))*(y.fdiv (2 ^ (min 32 64)))))+((IntKind.u64.wrap ((IntKind.u64.wrap ((x_.fdiv (2 ^ (min 32 64)))*(Go.bits .and .u64 y 4294967295)))+((IntKind.u64.wrap ((Go.bits .and .u64 x_ 4294967295)*(Go.bits .and .u64 y 4294967295))).fdiv (2 ^ (min 32 64))))).fdiv (2 ^ (min 32 64)))))+((IntKind.u64.wrap ((Go.bits .and .u64 (IntKind.u64.wrap ((IntKind.u64.wrap ((x_.fdiv (2 ^ (min 32 64)))*(Go.bits .and .u64 y 4294967295)))+((IntKind.u64.wrap ((Go.bits .and .u64 x_ 4294967295)*(Go.bits .and .u64 y 4294967295))).fdiv (2 ^ (min 32 64))))) 4294967295)+(IntKind.u64.wrap ((Go.bits .and .u64 x_ 4294967295)*(y.fdiv (2 ^ (min 32 64))))))).fdiv (2 ^ (min 32 64))))),(IntKind.u64.wrap (x_*y)))
noncomputable def nM (x_:Int) (y:Int):Option (Int×Int) :=
 (Option.bind (nw x_ y) fun r1=>some (r1.1,r1.2))
noncomputable def fG (s_:ByteArray) (prefix_:ByteArray):Option Bool :=
 (Option.bind ((bif (decide ((s_.size:Int)≥(prefix_.size:Int))) then (Option.bind (chk (cW 0 (prefix_.size:Int) s_.size)) fun _=>some ((mB s_ 0 (prefix_.size:Int)).toList == prefix_.toList)) else some false):Option Bool) fun e8=>some e8)
noncomputable def hK (s_:ByteArray) (prefix_:ByteArray):Option (ByteArray×Bool) :=
 (Option.bind (fG s_ prefix_) fun r1=>(bif (!r1) then some (s_,false) else (Option.bind (chk (cW (prefix_.size:Int) (s_.size:Int) s_.size)) fun _=>some ((mB s_ (prefix_.size:Int) (s_.size:Int)),true))))
noncomputable def ir (s_:ByteArray) (prefix_:ByteArray):Option (ByteArray×Bool) :=
 (Option.bind (hK s_ prefix_) fun r1=>some (r1.1,r1.2))
noncomputable def eJ (s_:List Int):Option (List Int) :=
 (Option.bind (chk (dB ([]:List Int).length s_.length 8)) fun _=>some (([]:List Int)++s_))
end Go.Tw.X
set_option linter.unusedVariables false
set_option linter.unusedSimpArgs false
set_option maxRecDepth 10000
namespace Go.Tw.X
open Go Go.Tw
structure gT where
 from_:Int
 to:Int
 deriving DecidableEq,Inhabited
def cJ:List gT:=[⟨(-2147483648),31⟩,⟨127,159⟩,⟨768,879⟩,⟨6832,6911⟩,⟨7616,7679⟩,⟨8203,8207⟩,⟨8400,8447⟩,⟨55296,57343⟩,⟨65024,65039⟩,⟨65056,65071⟩,⟨65279,65279⟩,⟨917760,917999⟩,⟨1114112,2147483647⟩]
def cT:List gT:=[⟨4352,4447⟩,⟨11904,12350⟩,⟨12353,13311⟩,⟨13312,19903⟩,⟨19968,40959⟩,⟨40960,42191⟩,⟨44032,55203⟩,⟨63744,64255⟩,⟨65072,65135⟩,⟨65280,65376⟩,⟨65504,65510⟩,⟨127744,128591⟩,⟨129280,129535⟩,⟨131072,262141⟩]
noncomputable def nG (l:List gT) (r_:Int):Option Bool :=
 (Option.bind (iter (σ:=Int×Int) (ρ:=Int) (fun a=>(bif (decide (a.1 < a.2)) then (Option.bind (idx l (IntKind.i64.wrap ((IntKind.i64.wrap (a.1+a.2)).tdiv 2))) fun c=>(bif (decide (c.to < r_)) then some (.inl ((IntKind.i64.wrap ((IntKind.i64.wrap ((IntKind.i64.wrap (a.1+a.2)).tdiv 2))+1)),a.2)) else some (.inl (a.1,(IntKind.i64.wrap ((IntKind.i64.wrap (a.1+a.2)).tdiv 2)))))) else some (.inr a.1))) (0,(l.length:Int))) fun b=>(Option.bind ((bif (decide (b < (l.length:Int))) then (Option.bind (idx l b) fun d=>some (decide (d.from_≤r_))) else some false):Option Bool) fun e=>some e))
noncomputable def nH (r_:Int):Option Int :=
 (Option.bind (nG cJ r_) fun r9=>(bif r9 then some 0 else (Option.bind (nG cT r_) fun a=>(bif a then some 2 else some 1))))
end Go.Tw.X
set_option linter.unusedVariables false
set_option linter.unusedSimpArgs false
set_option maxRecDepth 10000
namespace Go.Tw.X
open Go Go.Tw
structure aJ where
 rune:Int
 aM:Int
 part:Int
 deriving DecidableEq,Inhabited
structure aE where
 cells:List aJ
 wrapped:Bool
 deriving DecidableEq,Inhabited
structure aH where
 rune:Int
 aM:Int
 deriving DecidableEq,Inhabited
noncomputable def jB (n_:Int) (lo:Int) (hi:Int):Option Int :=
 some (imax lo (dQ n_ hi))
noncomputable def gU (aM:Int):Option aJ :=
 some (aJ.mk 32 aM 0)
noncomputable def eX (x_:List aJ) (count:Int):Option (List aJ) :=
 (bif (decide (count < 0)) then none else (Option.bind (nM (IntKind.u64.wrap (x_.length:Int)) (IntKind.u64.wrap count)) fun r3=>(Option.bind ((bif (decide (r3.1 > 0)) then some true else some (decide (r3.2 > 9223372036854775807))):Option Bool) fun e9=>(bif e9 then none else (Option.bind (chk (GO (IntKind.i64.wrap r3.2) 24)) fun _=>(Option.bind (iter (σ:=(List aJ)×Int) (ρ:=(List aJ)) (fun a=>(bif (decide (a.2 < (a.1.length:Int))) then (Option.bind (chk (cW a.2 (a.1.length:Int) a.1.length)) fun _=>(Option.bind (chk (cW 0 a.2 a.1.length)) fun _=>some (.inl ((vH a.1 a.2.toNat),(IntKind.i64.wrap (a.2+((Nat.min a.2.toNat (a.1.length - a.2.toNat):Nat):Int))))))) else some (.inr a.1))) ((cpy (List.replicate (IntKind.i64.wrap r3.2).toNat (aJ.mk 0 0 0)) x_),((Nat.min x_.length (List.replicate (IntKind.i64.wrap r3.2).toNat (aJ.mk 0 0 0)).length:Nat):Int))) fun b=>some b))))))
noncomputable def je (n_:Int) (aM:Int):Option (List aJ) :=
 (Option.bind (gU aM) fun r1=>(Option.bind (eX [r1] (imax 0 n_)) fun r7=>some r7))
noncomputable def jf (w:Int) (aM:Int):Option aE :=
 (Option.bind (jB w 0 1000) fun r2=>(Option.bind (je r2 aM) fun r5=>some (aE.mk r5 false)))
noncomputable def eI (s_:List aJ):Option (List aJ) :=
 (Option.bind (chk (dB ([]:List aJ).length s_.length 24)) fun _=>some (([]:List aJ)++s_))
noncomputable def eM (r_:aE):Option (List aJ) :=
 (Option.bind (eI r_.cells) fun r2=>some r2)
noncomputable def kY (l:List aJ) (i:Int):Option Bool :=
 (Option.bind (idx l i) fun x1=>(bif (x1.part == 1) then (Option.bind ((bif (decide ((IntKind.i64.wrap (i+1))≥(l.length:Int))) then some true else (Option.bind (idx l (IntKind.i64.wrap (i+1))) fun a=>some (a.part != 2))):Option Bool) fun b=>some b) else (bif (x1.part == 2) then (Option.bind ((bif (i == 0) then some true else (Option.bind (idx l (IntKind.i64.wrap (i - 1))) fun c=>some (c.part != 1))):Option Bool) fun d=>some d) else (bif (x1.part == 3) then some (i != (IntKind.i64.wrap ((l.length:Int) - 1))) else some false))))
noncomputable def eK (l:List aJ):Option aE :=
 (Option.bind (iter (σ:=(List aJ)×Int) (ρ:=(List aJ)) (fun a=>(bif (decide (a.2 < (l.length:Int))) then (Option.bind ((Option.bind (kY a.1 a.2) fun b=>(bif b then (Option.bind (idx a.1 a.2) fun c=>(Option.bind (gU c.aM) fun d=>(Option.bind (idx a.1 a.2) fun g=>some (a.1.set a.2.toNat d)))) else some a.1)):Option (List aJ)) fun e=>some (.inl (e,(IntKind.i64.wrap (a.2+1))))) else some (.inr a.1))) (l,0)) fun f=>some (aE.mk f false))
noncomputable def lg (r_:aE) (at_:Int) (x_:Int) (aM:Int):Option aE :=
 (Option.bind (eM r_) fun r3=>(Option.bind (nH x_) fun r9=>(Option.bind ((Option.bind ((bif (r9 == 0) then some true else (bif (decide (at_ < 0)) then some true else some (decide (at_ > (IntKind.i64.wrap ((r3.length:Int) - r9)))))):Option Bool) fun a=>(bif a then some r3 else (bif (r9 == 1) then (Option.bind (idx r3 at_) fun h=>some (r3.set at_.toNat (aJ.mk x_ aM 0))) else (Option.bind (idx r3 at_) fun i=>(Option.bind (idx (r3.set at_.toNat (aJ.mk x_ aM 1)) (IntKind.i64.wrap (at_+1))) fun j=>(Option.bind ((bif (decide (at_ > 0)) then (Option.bind (idx ((r3.set at_.toNat (aJ.mk x_ aM 1)).set ((IntKind.i64.wrap (at_+1)).toNat) (aJ.mk x_ aM 2)) (IntKind.i64.wrap (at_ - 1))) fun b=>some (b.part == 1)) else some false):Option Bool) fun c=>(bif c then (Option.bind (idx ((r3.set at_.toNat (aJ.mk x_ aM 1)).set ((IntKind.i64.wrap (at_+1)).toNat) (aJ.mk x_ aM 2)) (IntKind.i64.wrap (at_ - 1))) fun d=>(Option.bind (gU d.aM) fun e=>(Option.bind (idx ((r3.set at_.toNat (aJ.mk x_ aM 1)).set ((IntKind.i64.wrap (at_+1)).toNat) (aJ.mk x_ aM 2)) (IntKind.i64.wrap (at_ - 1))) fun k=>some (((r3.set at_.toNat (aJ.mk x_ aM 1)).set ((IntKind.i64.wrap (at_+1)).toNat) (aJ.mk x_ aM 2)).set ((IntKind.i64.wrap (at_ - 1)).toNat) e)))) else some ((r3.set at_.toNat (aJ.mk x_ aM 1)).set ((IntKind.i64.wrap (at_+1)).toNat) (aJ.mk x_ aM 2))))))))):Option (List aJ)) fun f=>(Option.bind (eK f) fun g=>some g))))
noncomputable def gJ (r_:aE):Option (List aH) :=
 (Option.bind (iter (σ:=(List aJ)) (ρ:=(List aJ)) (fun a=>(Option.bind ((bif (!r_.wrapped) then (bif (decide ((a.length:Int) > 0)) then (Option.bind (idx a (IntKind.i64.wrap ((a.length:Int) - 1))) fun d=>(Option.bind (gU 0) fun e=>some ((d.rune == e.rune) && ((d.aM == e.aM) && ((d.part == e.part) && true))))) else some false) else some false):Option Bool) fun g=>(bif g then (Option.bind (chk (cW 0 (IntKind.i64.wrap ((a.length:Int) - 1)) a.length)) fun _=>some (.inl (cut a 0 (IntKind.i64.wrap ((a.length:Int) - 1))))) else some (.inr a)))) r_.cells) fun f=>(Option.bind (iter (σ:=Int×(List aH)) (ρ:=(List aH)) (fun b=>(bif (decide (b.1 < (f.length:Int))) then (Option.bind ((Option.bind (idx f b.1) fun c=>(Option.bind ((bif (c.part == 0) then some true else some (c.part == 1)):Option Bool) fun h=>(bif h then (Option.bind (chk (dB b.2.length [(aH.mk c.rune c.aM)].length 16)) fun _=>some (b.2++[(aH.mk c.rune c.aM)])) else some b.2))):Option (List aH)) fun i=>some (.inl ((IntKind.i64.wrap (b.1+1)),i))) else some (.inr b.2))) (0,[])) fun j=>some j))
noncomputable def ja (r_:aE) (from_:Int) (to:Int) (aM:Int):Option aE :=
 (Option.bind (eM r_) fun r3=>(Option.bind (jB from_ 0 (r3.length:Int)) fun r9=>(Option.bind (iter (σ:=Int×(List aJ)) (ρ:=(List aJ)) (fun a=>(Option.bind (jB to 0 (a.2.length:Int)) fun b=>(bif (decide (a.1 < b)) then (Option.bind (gU aM) fun c=>(Option.bind (idx a.2 a.1) fun f=>some (.inl ((IntKind.i64.wrap (a.1+1)),(a.2.set a.1.toNat c))))) else some (.inr a.2)))) (r9,r3)) fun d=>(Option.bind (eK d) fun e=>some e))))
noncomputable def iH (r_:aE) (at_:Int) (n_:Int):Option Int :=
 (Option.bind ((bif (decide (at_ < 0)) then some true else some (decide (at_≥(r_.cells.length:Int)))):Option Bool) fun e5=>(bif e5 then some 0 else (Option.bind (jB n_ 0 (IntKind.i64.wrap ((r_.cells.length:Int) - at_))) fun a=>some a)))
noncomputable def fU (n_:Int):Option (List aJ) :=
 (bif (decide (n_ < 0)) then none else (Option.bind ((bif (decide ((IntKind.i64.wrap (n_ - (IntKind.i64.wrap (0 - 0)))) > 0)) then (Option.bind (chk (GP (IntKind.i64.wrap (n_ - (IntKind.i64.wrap (0 - 0)))) 24)) fun _=>(Option.bind (chk (cW 0 0 (List.replicate (IntKind.i64.wrap (n_ - (IntKind.i64.wrap (0 - 0)))).toNat (aJ.mk 0 0 0)).length)) fun _=>some (cut (List.replicate (IntKind.i64.wrap (n_ - (IntKind.i64.wrap (0 - 0)))).toNat (aJ.mk 0 0 0)) 0 0))) else some []):Option (List aJ)) fun a=>some a))
noncomputable def eE (slices:List (List aJ)):Option (List aJ) :=
 (Option.bind (iter (σ:=Int×Int) (ρ:=Int) (fun a=>(bif (decide (a.1 < (slices.length:Int))) then (Option.bind (idx slices a.1) fun c=>(bif (decide ((IntKind.i64.wrap (a.2+(c.length:Int))) < 0)) then none else some (.inl ((IntKind.i64.wrap (a.1+1)),(IntKind.i64.wrap (a.2+(c.length:Int))))))) else some (.inr a.2))) (0,0)) fun e=>(Option.bind (fU e) fun f=>(Option.bind (iter (σ:=Int×(List aJ)) (ρ:=(List aJ)) (fun b=>(bif (decide (b.1 < (slices.length:Int))) then (Option.bind (idx slices b.1) fun d=>(Option.bind (chk (dB b.2.length d.length 24)) fun _=>some (.inl ((IntKind.i64.wrap (b.1+1)),(b.2++d))))) else some (.inr b.2))) (0,f)) fun g=>some g)))
noncomputable def jJ (r_:aE) (at_:Int) (n_:Int) (aM:Int):Option aE :=
 (Option.bind (iH r_ at_ n_) fun r3=>(bif (r3 == 0) then (Option.bind (eM r_) fun b=>(Option.bind (eK b) fun c=>some c)) else (Option.bind (chk (cW 0 at_ r_.cells.length)) fun _=>(Option.bind (chk (cW at_ (r_.cells.length:Int) r_.cells.length)) fun _=>(Option.bind (je r3 aM) fun d=>(Option.bind (eE [(cut r_.cells 0 at_),d,(cut r_.cells at_ (r_.cells.length:Int))]) fun a=>(Option.bind (chk (cW 0 (r_.cells.length:Int) a.length)) fun _=>(Option.bind (eK (cut a 0 (r_.cells.length:Int))) fun e=>some e))))))))
noncomputable def jK (r_:aE) (at_:Int) (n_:Int) (aM:Int):Option aE :=
 (Option.bind (iH r_ at_ n_) fun r3=>(bif (r3 == 0) then (Option.bind (eM r_) fun a=>(Option.bind (eK a) fun b=>some b)) else (Option.bind (chk (cW 0 at_ r_.cells.length)) fun _=>(Option.bind (chk (cW (IntKind.i64.wrap (at_+r3)) (r_.cells.length:Int) r_.cells.length)) fun _=>(Option.bind (je r3 aM) fun c=>(Option.bind (eE [(cut r_.cells 0 at_),(cut r_.cells (IntKind.i64.wrap (at_+r3)) (r_.cells.length:Int)),c]) fun d=>(Option.bind (eK d) fun e=>some e)))))))
noncomputable def kB (r_:aE) (aM:Int):Option aE :=
 (Option.bind (eM r_) fun r3=>(Option.bind ((bif (decide ((r3.length:Int) > 0)) then (Option.bind (idx r3 (IntKind.i64.wrap ((r3.length:Int) - 1))) fun c=>some (r3.set ((IntKind.i64.wrap ((r3.length:Int) - 1)).toNat) (aJ.mk 32 aM 3))) else some r3):Option (List aJ)) fun a=>(Option.bind (eK a) fun b=>some (aE.mk b.cells true))))
noncomputable def iI (r_:aE) (w:Int):Option aE :=
 (Option.bind (jB w 0 1000) fun r3=>(Option.bind (eM r_) fun r6=>(bif (r3 == (r6.length:Int)) then some (aE.mk r6 r_.wrapped) else (Option.bind (je (IntKind.i64.wrap (r3 - (r6.length:Int))) 0) fun a=>(Option.bind (chk (cW 0 (dQ r3 (r6.length:Int)) r6.length)) fun _=>(Option.bind (chk (dB (cut r6 0 (dQ r3 (r6.length:Int))).length a.length 24)) fun _=>(Option.bind (eK ((cut r6 0 (dQ r3 (r6.length:Int)))++a)) fun b=>some b)))))))
noncomputable def dI (s_:List aE):Option (List aE) :=
 (Option.bind (chk (dB ([]:List aE).length s_.length 32)) fun _=>some (([]:List aE)++s_))
noncomputable def eY (s_:List aE):Option (List aE) :=
 (Option.bind (iter (σ:=(List aE)×Int×Int) (ρ:=(List aE)) (fun a=>(bif (decide (a.2.1 < a.2.2)) then (Option.bind ((Option.bind (idx a.1 a.2.2) fun b=>(Option.bind (idx a.1 a.2.1) fun c=>(Option.bind (idx a.1 a.2.1) fun f=>(Option.bind (idx a.1 a.2.2) fun g=>some ((a.1.set a.2.1.toNat b).set a.2.2.toNat c))))):Option (List aE)) fun d=>some (.inl (d,(IntKind.i64.wrap (a.2.1+1)),(IntKind.i64.wrap (a.2.2 - 1))))) else some (.inr a.1))) (s_,0,(IntKind.i64.wrap ((s_.length:Int) - 1)))) fun e=>some e)
noncomputable def cB (s_:List aH):Option (List aH) :=
 (Option.bind (chk (dB ([]:List aH).length s_.length 16)) fun _=>some (([]:List aH)++s_))
noncomputable def fO (s_:List (List aH)):Option (List (List aH)) :=
 (Option.bind (chk (dB ([]:List (List aH)).length s_.length 24)) fun _=>some (([]:List (List aH))++s_))
end Go.Tw.X
set_option linter.unusedVariables false
set_option linter.unusedSimpArgs false
set_option maxRecDepth 10000
namespace Go.Tw.X
open Go Go.Tw
def eL:List Int:=[0,498536548,997073096,651767980,1994146192,1802195444,1303535960,1342533948,3988292384,4027552580,3604390888,3412177804,2607071920,2262029012,2685067896,3183342108]
noncomputable def mC (x_:Int) (b:Int):Option Int :=
 (Option.bind (idx eL (Go.bits .and .u32 (Go.bits .xor .u32 x_ (IntKind.u32.wrap b)) 15)) fun x1=>(Option.bind (idx eL (Go.bits .and .u32 (Go.bits .xor .u32 ((Go.bits .xor .u32 x_ (IntKind.u32.wrap b)).fdiv (2 ^ (min 4 32))) x1) 15)) fun x5=>some (Go.bits .xor .u32 ((Go.bits .xor .u32 ((Go.bits .xor .u32 x_ (IntKind.u32.wrap b)).fdiv (2 ^ (min 4 32))) x1).fdiv (2 ^ (min 4 32))) x5)))
noncomputable def pQ (l:List ByteArray):Option Int :=
 (Option.bind (iter (σ:=Int×Int) (ρ:=Int) (fun a=>(bif (decide (a.2 < (l.length:Int))) then (Option.bind (idx l a.2) fun c=>(Option.bind (iter (σ:=Int×Int) (ρ:=Int) (fun b=>(bif (decide (b.1 < (c.size:Int))) then (Option.bind (kW c b.1) fun b642=>(Option.bind (mC b.2 b642) fun d=>some (.inl ((IntKind.i64.wrap (b.1+1)),d)))) else some (.inr b.2))) (0,a.1)) fun e=>some (.inl (e,(IntKind.i64.wrap (a.2+1)))))) else some (.inr a.1))) (4294967295,0)) fun f=>some (Go.bits .xor .u32 4294967295 f))
end Go.Tw.X
set_option linter.unusedVariables false
set_option linter.unusedSimpArgs false
set_option maxRecDepth 10000
namespace Go.Tw.X
open Go Go.Tw
structure bU where
 l:List (List aH)
 bE:List Int
 begun:List aH
 deriving DecidableEq,Inhabited
noncomputable def pc:Option bU :=
 some (bU.mk ([]:List (List aH)) [0] ([]:List aH))
noncomputable def fZ (b:bU):Option Int :=
 some (b.l.length:Int)
noncomputable def jg (b:bU) (n_:Int):Option Int :=
 (Option.bind (idx b.bE (imax 0 (dQ n_ (b.l.length:Int)))) fun a=>some a)
noncomputable def jh (b:bU):Option (List aH) :=
 (Option.bind (cB b.begun) fun r1=>some r1)
noncomputable def mQ (l:List aH):Option ByteArray :=
 (Option.bind (kj (fP.mk ([]:List Int)) [(l.length:Int)]) fun r6=>(Option.bind (iter (σ:=fP×Int) (ρ:=fP) (fun a=>(bif (decide (a.2 < (l.length:Int))) then (Option.bind (idx l a.2) fun b=>(Option.bind (kj a.1 [(IntKind.i64.wrap b.rune),b.aM]) fun c=>some (.inl (c,(IntKind.i64.wrap (a.2+1)))))) else some (.inr a.1))) (r6,0)) fun d=>(Option.bind (lC d) fun e=>some e)))
noncomputable def mR (chain:Int) (l:List aH):Option Int :=
 (Option.bind (mQ l) fun r1=>(Option.bind (pQ [r1]) fun r6=>some ((IntKind.i64.wrap (((IntKind.i64.wrap (((IntKind.i64.wrap (chain*256)).tmod 281474976710597)*256)).tmod 281474976710597)+(IntKind.i64.wrap r6))).tmod 281474976710597)))
noncomputable def eR (b:bU) (l:List aH):Option bU :=
 (Option.bind (cB l) fun a=>(Option.bind (chk (dB b.l.length [a].length 24)) fun _=>(Option.bind (idx b.bE (IntKind.i64.wrap ((b.bE.length:Int) - 1))) fun d=>(Option.bind (mR d l) fun c=>(Option.bind (chk (dB b.bE.length [c].length 8)) fun _=>some (bU.mk (b.l++[a]) (b.bE++[c]) b.begun))))))
noncomputable def ik (b:bU) (rows:List aE):Option (Int×bU) :=
 (Option.bind (iter (σ:=bU×Int) (ρ:=bU) (fun a=>(bif (decide (a.2 < (rows.length:Int))) then (Option.bind ((Option.bind (idx rows a.2) fun f=>(Option.bind (gJ f) fun g=>(Option.bind (chk (dB a.1.begun.length g.length 16)) fun _=>(Option.bind (iter (σ:=bU) (ρ:=bU) (fun d=>(bif (decide ((d.begun.length:Int)≥1024)) then (Option.bind (chk (cW 0 1024 d.begun.length)) fun _=>(Option.bind (eR d (cut d.begun 0 1024)) fun c=>(Option.bind (chk (cW 1024 (c.begun.length:Int) c.begun.length)) fun _=>(Option.bind (cB (cut c.begun 1024 (c.begun.length:Int))) fun j=>some (.inl (bU.mk c.l c.bE j)))))) else some (.inr d))) (bU.mk a.1.l a.1.bE (a.1.begun++g))) fun e=>(bif (!f.wrapped) then (Option.bind (eR e e.begun) fun h=>some (bU.mk h.l h.bE ([]:List aH))) else some e))))):Option bU) fun k=>some (.inl (k,(IntKind.i64.wrap (a.2+1))))) else some (.inr a.1))) (b,0)) fun i=>some ((IntKind.i64.wrap ((i.l.length:Int) - (b.l.length:Int))),i))
noncomputable def iJ (b:bU) (i:Int):Option ((List aH)×Bool) :=
 (Option.bind ((bif (decide (i < 0)) then some true else some (decide (i≥(b.l.length:Int)))):Option Bool) fun e4=>(bif e4 then some (([]:List aH),false) else (Option.bind (idx b.l i) fun a=>(Option.bind (cB a) fun c=>some (c,true)))))
noncomputable def ji (b:bU):Option bU :=
 (Option.bind (fO b.l) fun a=>(Option.bind (eJ b.bE) fun c=>(Option.bind (cB b.begun) fun d=>some (bU.mk a c d))))
end Go.Tw.X
set_option linter.unusedVariables false
set_option linter.unusedSimpArgs false
set_option maxRecDepth 10000
namespace Go.Tw.X
open Go Go.Tw
structure aX where
 w:Int
 l:List aE
 deriving DecidableEq,Inhabited
noncomputable def gV (n_:Int) (lo:Int) (hi:Int):Option Int :=
 some (imax lo (dQ n_ hi))
noncomputable def iE (n_:Int):Option Int :=
 (Option.bind (gV n_ 1 1000) fun r1=>some r1)
noncomputable def nN (w:Int) (h_:Int):Option aX :=
 (Option.bind (iE w) fun r1=>(Option.bind (iE h_) fun r5=>(Option.bind (iter (σ:=aX×Int) (ρ:=aX) (fun a=>(bif (decide (a.2 < r5)) then (Option.bind (jf a.1.w 0) fun b=>(Option.bind (chk (dB a.1.l.length [b].length 32)) fun _=>some (.inl ((aX.mk a.1.w (a.1.l++[b])),(IntKind.i64.wrap (a.2+1)))))) else some (.inr a.1))) ((aX.mk r1 ([]:List aE)),0)) fun c=>some c)))
noncomputable def mD (r_:aE):Option aE :=
 (Option.bind (eI r_.cells) fun a=>some (aE.mk a r_.wrapped))
noncomputable def dH (g:aX) (y:Int):Option aE :=
 (Option.bind ((bif (decide (y < 0)) then some true else some (decide (y≥(g.l.length:Int)))):Option Bool) fun e5=>(bif e5 then some (aE.mk ([]:List aJ) false) else (Option.bind (idx g.l y) fun a=>(Option.bind (mD a) fun b=>some b))))
noncomputable def eD (g:aX) (y:Int) (r_:aE):Option (Bool×aX) :=
 (Option.bind ((bif (decide (y < 0)) then some true else some (decide (y≥(g.l.length:Int)))):Option Bool) fun e5=>(bif e5 then some (false,g) else (Option.bind (iI r_ g.w) fun a=>(Option.bind (idx g.l y) fun b=>some (true,(aX.mk g.w (g.l.set y.toNat a)))))))
noncomputable def dK (g:aX) (top:Int) (aI:Int):Option (Unit ⊕ (Int×Int)) :=
 (Option.bind (gV top 0 (IntKind.i64.wrap ((g.l.length:Int) - 1))) fun r1=>(Option.bind (gV aI 0 (IntKind.i64.wrap ((g.l.length:Int) - 1))) fun r4=>(bif (decide (r4 < r1)) then some (.inl ()) else (Option.bind (chk (cW r1 (IntKind.i64.wrap (r4+1)) g.l.length)) fun _=>some (.inr (r1,(IntKind.i64.wrap (r4+1))))))))
noncomputable def eZ (g:aX) (top:Int) (aI:Int) (n_:Int) (aM:Int):Option ((List aE)×aX) :=
 (Option.bind (dK g top aI) fun | .inl r1=>some (([]:List aE),g) | .inr r1=>(Option.bind (chk (cW r1.1 r1.2 g.l.length)) fun _=>(Option.bind (gV n_ 0 ((cut g.l r1.1 r1.2).length:Int)) fun r9=>(Option.bind (chk (cW 0 r9 (cut g.l r1.1 r1.2).length)) fun _=>(Option.bind (dI (cut g.l (r1.1+0) (r1.1+r9))) fun b=>(Option.bind (chk (cW r9 ((cut g.l r1.1 r1.2).length:Int) (cut g.l r1.1 r1.2).length)) fun _=>(Option.bind (iter (σ:=aX×Int) (ρ:=aX) (fun a=>(bif (decide (a.2 < ((cut a.1.l r1.1 r1.2).length:Int))) then (Option.bind (jf a.1.w aM) fun c=>(Option.bind (chk (cW r1.1 r1.2 a.1.l.length)) fun _=>(Option.bind (idx (cut a.1.l r1.1 r1.2) a.2) fun e=>some (.inl ((aX.mk a.1.w (a.1.l.set (r1.1.toNat+a.2.toNat) c)),(IntKind.i64.wrap (a.2+1))))))) else some (.inr a.1))) ((aX.mk g.w (pE g.l r1.1 r1.2 (r1.1+r9) (r1.1+((cut g.l r1.1 r1.2).length:Int)))),(IntKind.i64.wrap (((cut (pE g.l r1.1 r1.2 (r1.1+r9) (r1.1+((cut g.l r1.1 r1.2).length:Int))) r1.1 r1.2).length:Int) - r9)))) fun d=>some (b,d))))))))
noncomputable def jL (g:aX):Option (List ByteArray) :=
 (Option.bind (iter (σ:=Int×(List ByteArray)) (ρ:=(List ByteArray)) (fun a=>(bif (decide (a.1 < (g.l.length:Int))) then (Option.bind (idx g.l a.1) fun f=>(Option.bind (gJ f) fun c=>(Option.bind (iter (σ:=Int×(List Int)) (ρ:=(List Int)) (fun b=>(bif (decide (b.1 < (c.length:Int))) then (Option.bind (idx c b.1) fun d=>(Option.bind (chk (dB b.2.length [d.rune].length 4)) fun _=>some (.inl ((IntKind.i64.wrap (b.1+1)),(b.2++[d.rune]))))) else some (.inr b.2))) (0,[])) fun h=>(Option.bind (kA h) fun e=>(Option.bind (chk (dB a.2.length [e].length 16)) fun _=>some (.inl ((IntKind.i64.wrap (a.1+1)),(a.2++[e])))))))) else some (.inr a.2))) (0,[])) fun i=>some i)
noncomputable def dT (g:aX) (top:Int) (aI:Int) (n_:Int) (aM:Int):Option ((List aE)×aX) :=
 (Option.bind (dK g top aI) fun | .inl r1=>some (([]:List aE),g) | .inr r1=>(Option.bind (chk (cW r1.1 r1.2 g.l.length)) fun _=>(Option.bind (gV n_ 0 ((cut g.l r1.1 r1.2).length:Int)) fun r9=>(Option.bind (chk (cW (IntKind.i64.wrap (((cut g.l r1.1 r1.2).length:Int) - r9)) ((cut g.l r1.1 r1.2).length:Int) (cut g.l r1.1 r1.2).length)) fun _=>(Option.bind (dI (cut g.l (r1.1+(IntKind.i64.wrap (((cut g.l r1.1 r1.2).length:Int) - r9))) (r1.1+((cut g.l r1.1 r1.2).length:Int)))) fun b=>(Option.bind (eY b) fun c=>(Option.bind (chk (decide (c.length=b.length))) fun _=>(Option.bind (chk (cW r9 ((cut g.l r1.1 r1.2).length:Int) (cut g.l r1.1 r1.2).length)) fun _=>(Option.bind (chk (cW 0 (IntKind.i64.wrap (((cut g.l r1.1 r1.2).length:Int) - r9)) (cut g.l r1.1 r1.2).length)) fun _=>(Option.bind (iter (σ:=aX×Int) (ρ:=aX) (fun a=>(bif (decide (a.2 < r9)) then (Option.bind (jf a.1.w aM) fun d=>(Option.bind (chk (cW r1.1 r1.2 a.1.l.length)) fun _=>(Option.bind (idx (cut a.1.l r1.1 r1.2) a.2) fun f=>some (.inl ((aX.mk a.1.w (a.1.l.set (r1.1.toNat+a.2.toNat) d)),(IntKind.i64.wrap (a.2+1))))))) else some (.inr a.1))) ((aX.mk g.w (pE g.l (r1.1+r9) (r1.1+((cut g.l r1.1 r1.2).length:Int)) (r1.1+0) (r1.1+(IntKind.i64.wrap (((cut g.l r1.1 r1.2).length:Int) - r9))))),0)) fun e=>some (c,e)))))))))))
noncomputable def iQ (g:aX) (w:Int) (h_:Int) (off:Int):Option ((List aE)×aX) :=
 (Option.bind (gV off 0 (IntKind.i64.wrap ((g.l.length:Int) - 1))) fun r1=>(Option.bind (chk (cW 0 r1 g.l.length)) fun _=>(Option.bind (dI (cut g.l 0 r1)) fun h=>(Option.bind (chk (cW r1 (g.l.length:Int) g.l.length)) fun _=>(Option.bind (dI (cut g.l r1 (g.l.length:Int))) fun b=>(Option.bind (iE h_) fun d=>(Option.bind (chk (cW 0 (dQ (b.length:Int) d) b.length)) fun _=>(Option.bind (iter (σ:=(List aE)) (ρ:=(List aE)) (fun c=>(Option.bind (iE h_) fun i=>(bif (decide ((c.length:Int) < i)) then (Option.bind (iE w) fun j=>(Option.bind (jf j 0) fun e=>(Option.bind (chk (dB c.length [e].length 32)) fun _=>some (.inl (c++[e]))))) else some (.inr c)))) (cut b 0 (dQ (b.length:Int) d))) fun f=>(Option.bind (iE w) fun k=>(Option.bind (iter (σ:=aX×Int) (ρ:=aX) (fun a=>(bif (decide (a.2 < (f.length:Int))) then (Option.bind (idx a.1.l a.2) fun m=>(Option.bind (eD a.1 a.2 m) fun n=>some (.inl (n.2,(IntKind.i64.wrap (a.2+1)))))) else some (.inr a.1))) ((aX.mk k f),0)) fun o=>some (h,o)))))))))))
noncomputable def cX (g:aX):Option (Int×Int) :=
 some (g.w,(g.l.length:Int))
noncomputable def lY (l:List aE):Option (List aE) :=
 some l
noncomputable def iK {σ:Type} (Y:σ→aE→Option (σ×Bool)) (y0:σ) (x1:List aE):Option σ :=
 (Option.bind (iter (σ:=Int×σ) (ρ:=σ ⊕ σ) (fun a=>(bif (decide (a.1 < (x1.length:Int))) then (Option.bind (idx x1 a.1) fun b=>(Option.bind (mD b) fun c=>(Option.bind (Y a.2 c) fun z184=>(bif (!z184.2) then (nj (some z184.1)) else some (.inl ((IntKind.i64.wrap (a.1+1)),z184.1)))))) else some (.inr (.inl a.2)))) (0,y0)) fun | .inl e139=>some e139 | .inr w=>some w)
noncomputable def iL (l:List aE):Option ((List aE)×(List aE)) :=
 (Option.bind (lY l) fun r2=>(Option.bind (iK (fun s40 x9=>(Option.bind (chk (dB s40.length [x9].length 32)) fun _=>some ((s40++[x9]),true))) ([]:(List aE)) r2) fun a=>some (a,r2)))
noncomputable def iM (g:aX):Option ((List aE)×aX) :=
 (Option.bind (iL g.l) fun r1=>(Option.bind (chk (decide (r1.2.length=g.l.length))) fun _=>some (r1.1,(aX.mk g.w r1.2))))
noncomputable def hP (g:aX):Option (aX×aX) :=
 (Option.bind (iL g.l) fun a=>(Option.bind (chk (decide (a.2.length=g.l.length))) fun _=>some ((aX.mk g.w a.1),(aX.mk g.w a.2))))
end Go.Tw.X
set_option linter.unusedVariables false
set_option linter.unusedSimpArgs false
set_option maxRecDepth 10000
namespace Go.Tw.X
open Go Go.Tw
structure bB where
 kind:Int
 rune:Int
 byte:Int
 cF:Bool
 bA:List Int
 text:ByteArray
 deriving DecidableEq,Inhabited
structure dF where
 cF:Bool
 jv:Bool
 any:Bool
 some:Bool
 n:Int
 bA:List Int
 deriving DecidableEq,Inhabited
structure aD where
 state:Int
 order:dF
 text:ByteArray
 cC:bM
 out:List bB
 deriving DecidableEq,Inhabited
noncomputable def eS (p:aD) (a:bB):Option aD :=
 (Option.bind (chk (dB p.out.length [a].length 56)) fun _=>some (aD.mk p.state p.order p.text p.cC (p.out++[a])))
noncomputable def gK (p:aD) (l:List Int):Option aD :=
 (Option.bind (iter (σ:=aD×Int) (ρ:=aD) (fun a=>(bif (decide (a.2 < (l.length:Int))) then (Option.bind (idx l a.2) fun b=>(Option.bind (eS a.1 (bB.mk 1 b 0 false ([]:List Int) (ByteArray.mk #[]))) fun c=>some (.inl (c,(IntKind.i64.wrap (a.2+1)))))) else some (.inr a.1))) (p,0)) fun d=>some d)
noncomputable def eF (p:aD) (b:Int):Option (Bool×aD) :=
 (Option.bind ((Option.bind ((bif (b == 24) then some true else some (b == 26)):Option Bool) fun a=>(bif a then some (.inl (aD.mk 0 p.order p.text p.cC p.out)) else (bif (b == 27) then some (.inl (aD.mk 1 p.order p.text p.cC p.out)) else (bif (decide (b < 32)) then (Option.bind (eS p (bB.mk 2 0 b false ([]:List Int) (ByteArray.mk #[]))) fun c=>some (.inl c)) else (jH (some ((b == 127),p))))))):Option (aD ⊕ (Bool×aD))) fun | .inl e42=>some (true,e42) | .inr w=>some w)
noncomputable def gB (p:aD) (b:Int):Option aD :=
 (Option.bind ((bif (decide (b < 32)) then some true else some (b == 127)):Option Bool) fun e4=>(bif e4 then (Option.bind (iq p.cC) fun d=>(Option.bind (gK p d) fun a=>(Option.bind (eF (aD.mk a.state a.order a.text (bM.mk 0 0 0) a.out) b) fun e=>some e.2))) else (Option.bind (gS p.cC b) fun c=>(Option.bind (gK (aD.mk p.state p.order p.text c.1 p.out) c.2) fun f=>some f))))
noncomputable def eT (p:aD) (b:Int):Option aD :=
 (Option.bind (eF p b) fun r1=>(bif r1.1 then some r1.2 else (Option.bind ((bif (b == 91) then (jH (some (aD.mk 3 (dF.mk false false false false 0 ([]:List Int)) r1.2.text r1.2.cC r1.2.out))) else (bif (b == 93) then (jH (some (aD.mk 4 r1.2.order (ByteArray.mk #[]) r1.2.cC r1.2.out))) else (bif (decide (b < 48)) then (jH (some (aD.mk 2 r1.2.order r1.2.text r1.2.cC r1.2.out))) else (bif (decide (b < 127)) then (Option.bind (eS r1.2 (bB.mk 3 0 b false ([]:List Int) (ByteArray.mk #[]))) fun a=>some (.inl a)) else some (.inl r1.2))))):Option (aD ⊕ aD)) fun | .inl e39=>some (aD.mk 0 e39.order e39.text e39.cC e39.out) | .inr w=>some w)))
noncomputable def iu (p:aD) (b:Int):Option aD :=
 (Option.bind ((Option.bind (eF p b) fun c=>(bif (!c.1) then some ((decide (b≥48)),c.2) else some (false,c.2))):Option (Bool×aD)) fun a=>(bif a.1 then some (aD.mk 0 a.2.order a.2.text a.2.cC a.2.out) else some a.2))
noncomputable def iN (o:aD):Option aD :=
 (Option.bind ((bif (decide ((o.order.bA.length:Int) < 16)) then (Option.bind (chk (dB o.order.bA.length [o.order.n].length 8)) fun _=>some (aD.mk o.state (dF.mk o.order.cF o.order.jv o.order.any o.order.some o.order.n (o.order.bA++[o.order.n])) o.text o.cC o.out)) else some o):Option aD) fun a=>some (aD.mk a.state (dF.mk a.order.cF a.order.jv a.order.any a.order.some 0 a.order.bA) a.text a.cC a.out))
noncomputable def gW (p:aD) (a:bB):Option aD :=
 (Option.bind (chk (dB p.out.length [a].length 56)) fun _=>some (aD.mk p.state p.order p.text p.cC (p.out++[a])))
noncomputable def iw (p:aD) (b:Int):Option aD :=
 (bif p.order.jv then some (aD.mk 0 p.order p.text p.cC p.out) else (Option.bind ((bif p.order.some then (Option.bind (iN (aD.mk 0 p.order p.text p.cC p.out)) fun d=>some d) else some (aD.mk 0 p.order p.text p.cC p.out)):Option aD) fun a=>(Option.bind (gW a (bB.mk 4 0 b a.order.cF a.order.bA (ByteArray.mk #[]))) fun c=>(Option.bind (chk (!(c.state == (3:Int)))) fun _=>some c))))
noncomputable def fV (p:aD) (b:Int):Option aD :=
 (Option.bind (eF p b) fun r1=>(bif r1.1 then some r1.2 else (Option.bind ((bif (decide (b≥48)) then some (decide (b≤57)) else some false):Option Bool) fun c=>(bif c then some (aD.mk r1.2.state (dF.mk r1.2.order.cF r1.2.order.jv true true (dQ (IntKind.i64.wrap ((IntKind.i64.wrap (10*r1.2.order.n))+(IntKind.i64.wrap (IntKind.u8.wrap (b - 48))))) 9999) r1.2.order.bA) r1.2.text r1.2.cC r1.2.out) else (Option.bind ((bif (b == 59) then some true else some (b == 58)):Option Bool) fun d=>(bif d then (Option.bind (chk (r1.2.state == (3:Int))) fun _=>(Option.bind (iN (aD.mk r1.2.state (dF.mk r1.2.order.cF r1.2.order.jv true r1.2.order.some r1.2.order.n r1.2.order.bA) r1.2.text r1.2.cC r1.2.out)) fun a=>some (aD.mk a.state (dF.mk a.order.cF a.order.jv a.order.any true a.order.n a.order.bA) a.text a.cC a.out))) else (Option.bind ((bif (b == 63) then some (!r1.2.order.any) else some false):Option Bool) fun e=>(bif e then some (aD.mk r1.2.state (dF.mk true r1.2.order.jv true r1.2.order.some r1.2.order.n r1.2.order.bA) r1.2.text r1.2.cC r1.2.out) else (Option.bind ((bif (decide (b≥64)) then some (decide (b < 127)) else some false):Option Bool) fun f=>(bif f then (Option.bind (chk (r1.2.state == (3:Int))) fun _=>(Option.bind (iw (aD.mk r1.2.state (dF.mk r1.2.order.cF r1.2.order.jv true r1.2.order.some r1.2.order.n r1.2.order.bA) r1.2.text r1.2.cC r1.2.out) b) fun g=>some g)) else some (aD.mk r1.2.state (dF.mk r1.2.order.cF true true r1.2.order.some r1.2.order.n r1.2.order.bA) r1.2.text r1.2.cC r1.2.out)))))))))))
noncomputable def hU (p:aD):Option aD :=
 (Option.bind (iter (σ:=aD×Int) (ρ:=aD) (fun a=>(bif (decide (a.2 < (([(ByteArray.mk #[48,59]),(ByteArray.mk #[50,59])]).length:Int))) then (Option.bind ((Option.bind (idx ([(ByteArray.mk #[48,59]),(ByteArray.mk #[50,59])]) a.2) fun c=>(Option.bind (ir a.1.text c) fun b=>(bif b.2 then (Option.bind (eS a.1 (bB.mk 5 0 0 false ([]:List Int) b.1)) fun d=>some d) else some a.1))):Option aD) fun e=>some (.inl (e,(IntKind.i64.wrap (a.2+1))))) else some (.inr a.1))) ((aD.mk 0 p.order p.text p.cC p.out),0)) fun f=>some f)
noncomputable def gX (p:aD) (b:Int):Option aD :=
 (bif (b == 7) then (Option.bind (hU p) fun r2=>some r2) else (Option.bind ((bif (b == 24) then some true else some (b == 26)):Option Bool) fun a=>(bif a then some (aD.mk 0 p.order p.text p.cC p.out) else (bif (b == 27) then some (aD.mk 5 p.order p.text p.cC p.out) else (bif (decide ((p.text.size:Int) < 200)) then (Option.bind (chk (vI p.text.size (iP [b]).size)) fun _=>some (aD.mk p.state p.order (p.text++(iP [b])) p.cC p.out)) else some p)))))
noncomputable def jM (p:aD) (b:Int):Option aD :=
 (bif (p.state == 0) then (Option.bind (gB p b) fun r2=>some r2) else (bif (p.state == 1) then (Option.bind (eT p b) fun a=>some a) else (bif (p.state == 2) then (Option.bind (iu p b) fun c=>some c) else (bif (p.state == 3) then (Option.bind (fV p b) fun d=>some d) else (bif (p.state == 4) then (Option.bind (gX p b) fun e=>some e) else (bif (b == 92) then (Option.bind (hU p) fun f=>some f) else (Option.bind (eT (aD.mk 1 p.order p.text p.cC p.out) b) fun g=>some g)))))))
noncomputable def jj (p:aD) (s_:ByteArray):Option ((List bB)×aD) :=
 (Option.bind (iter (σ:=aD×Int) (ρ:=aD) (fun a=>(bif (decide (a.2 < (s_.size:Int))) then (Option.bind (kW s_ a.2) fun b134=>(Option.bind (jM a.1 b134) fun c=>some (.inl (c,(IntKind.i64.wrap (a.2+1)))))) else some (.inr a.1))) ((aD.mk p.state p.order p.text p.cC ([]:List bB)),0)) fun b=>some (b.out,(aD.mk b.state b.order b.text b.cC ([]:List bB))))
noncomputable def iR (p:aD):Option aD :=
 (Option.bind (eJ p.order.bA) fun r2=>some (aD.mk p.state (dF.mk p.order.cF p.order.jv p.order.any p.order.some p.order.n r2) p.text p.cC p.out))
end Go.Tw.X
set_option linter.unusedVariables false
set_option linter.unusedSimpArgs false
set_option maxRecDepth 10000
namespace Go.Tw.X
open Go Go.Tw
structure bG where
 fC:Int
 back:Int
 bold:Bool
 under:Bool
 cO:Bool
 deriving DecidableEq,Inhabited
noncomputable def jk (s_:bG):Option Bool :=
 (Option.bind ((bif (decide (s_.fC≥0)) then (bif (decide (s_.fC < 9)) then (bif (decide (s_.back≥0)) then some (decide (s_.back < 9)) else some false) else some false) else some false):Option Bool) fun e9=>some e9)
noncomputable def lL (is:Bool) (n_:Int):Option Int :=
 (bif is then some n_ else some 0)
noncomputable def jm (s_:bG):Option Int :=
 (Option.bind (jk s_) fun r2=>(bif (!r2) then some 0 else (Option.bind (lL s_.bold 81) fun a=>(Option.bind (lL s_.under 162) fun b=>(Option.bind (lL s_.cO 324) fun c=>some (IntKind.i64.wrap ((IntKind.i64.wrap ((IntKind.i64.wrap ((IntKind.i64.wrap (s_.fC+(IntKind.i64.wrap (9*s_.back))))+a))+b))+c)))))))
noncomputable def lZ (l:List Int):Option Int :=
 (Option.bind ((bif (decide ((l.length:Int) > 0)) then (Option.bind (idx l 0) fun a=>some (a == 5)) else some false):Option Bool) fun b=>(bif b then some (dQ 2 (l.length:Int)) else (Option.bind ((bif (decide ((l.length:Int) > 0)) then (Option.bind (idx l 0) fun c=>some (c == 2)) else some false):Option Bool) fun d=>(bif d then some (dQ 4 (l.length:Int)) else some 0))))
noncomputable def jn (s_:bG) (n_:Int):Option bG :=
 (Option.bind ((bif (n_ == 0) then (jH (some (bG.mk 0 0 false false false))) else (Option.bind ((bif (n_ == 1) then some true else some (n_ == 22)):Option Bool) fun a=>(bif a then some (.inl (bG.mk s_.fC s_.back (n_ == 1) s_.under s_.cO)) else (Option.bind ((bif (n_ == 4) then some true else some (n_ == 24)):Option Bool) fun b=>(bif b then some (.inl (bG.mk s_.fC s_.back s_.bold (n_ == 4) s_.cO)) else (Option.bind ((bif (n_ == 7) then some true else some (n_ == 27)):Option Bool) fun c=>(bif c then some (.inl (bG.mk s_.fC s_.back s_.bold s_.under (n_ == 7))) else (Option.bind ((bif (decide (n_≥30)) then some (decide (n_ < 38)) else some false):Option Bool) fun d=>(bif d then some (.inl (bG.mk (IntKind.i64.wrap ((IntKind.i64.wrap (n_ - 30))+1)) s_.back s_.bold s_.under s_.cO)) else (bif (n_ == 39) then some (.inl (bG.mk 0 s_.back s_.bold s_.under s_.cO)) else (Option.bind ((bif (decide (n_≥40)) then some (decide (n_ < 48)) else some false):Option Bool) fun e=>(bif e then some (.inl (bG.mk s_.fC (IntKind.i64.wrap ((IntKind.i64.wrap (n_ - 40))+1)) s_.bold s_.under s_.cO)) else (bif (n_ == 49) then some (.inl (bG.mk s_.fC 0 s_.bold s_.under s_.cO)) else some (.inl s_)))))))))))))):Option (bG ⊕ bG)) fun | .inl e90=>some e90 | .inr w=>some w)
noncomputable def jo (s_:bG) (bA:List Int):Option bG :=
 (bif ((bA.length:Int) == 0) then some (bG.mk 0 0 false false false) else (Option.bind (iter (σ:=bG×Int) (ρ:=bG) (fun a=>(bif (decide (a.2 < (bA.length:Int))) then (Option.bind ((Option.bind (idx bA a.2) fun b=>(Option.bind ((bif (b == 38) then some true else some (b == 48)):Option Bool) fun d=>(bif d then (Option.bind (chk (cW (IntKind.i64.wrap (a.2+1)) (bA.length:Int) bA.length)) fun _=>(Option.bind (lZ (cut bA (IntKind.i64.wrap (a.2+1)) (bA.length:Int))) fun e=>some ((IntKind.i64.wrap (a.2+e)),a.1))) else (Option.bind (idx bA a.2) fun f=>(Option.bind (jn a.1 f) fun h=>some (a.2,h)))))):Option (Int×bG)) fun c=>some (.inl (c.2,(IntKind.i64.wrap (c.1+1))))) else some (.inr a.1))) (s_,0)) fun i=>some i))
end Go.Tw.X
set_option linter.unusedVariables false
set_option linter.unusedSimpArgs false
set_option maxRecDepth 10000
namespace Go.Tw.X
open Go Go.Tw
structure dL where
 x:Int
 y:Int
 aM:bG
 deriving DecidableEq,Inhabited
structure aB where
 g:aX
 spot:dL
 saved:dL
 waiting:Bool
 top:Int
 aI:Int
 aY:Bool
 title:ByteArray
 deriving DecidableEq,Inhabited
noncomputable def kZ (w:Int) (h_:Int):Option aB :=
 (Option.bind (nN w h_) fun r1=>(Option.bind (cX r1) fun r9=>some (aB.mk r1 (dL.mk 0 0 (bG.mk 0 0 false false false)) (dL.mk 0 0 (bG.mk 0 0 false false false)) false 0 (IntKind.i64.wrap (r9.2 - 1)) true (ByteArray.mk #[]))))
noncomputable def fH (s_:aB):Option (aX×aB) :=
 (Option.bind (hP s_.g) fun r1=>some (r1.1,(aB.mk r1.2 s_.spot s_.saved s_.waiting s_.top s_.aI s_.aY s_.title)))
noncomputable def eU (s_:aB):Option ByteArray :=
 some s_.title
noncomputable def eO (s_:aB):Option (Int×Int) :=
 some (s_.spot.x,s_.spot.y)
noncomputable def ib (r_:aE):Option aE :=
 some (aE.mk r_.cells true)
noncomputable def cM (s_:aB):Option aB :=
 (Option.bind (dH s_.g s_.spot.y) fun a=>(Option.bind (ib a) fun b=>(Option.bind (eD s_.g s_.spot.y b) fun c=>some (aB.mk c.2 s_.spot s_.saved s_.waiting s_.top s_.aI s_.aY s_.title))))
noncomputable def bY (s_:aB):Option Int :=
 (Option.bind (jm s_.spot.aM) fun r1=>some r1)
noncomputable def gL (s_:aB) (n_:Int):Option ((List aE)×aB) :=
 (Option.bind (bY s_) fun b=>(Option.bind (eZ s_.g s_.top s_.aI n_ b) fun a=>(bif (decide (s_.top > 0)) then some (([]:List aE),(aB.mk a.2 s_.spot s_.saved s_.waiting s_.top s_.aI s_.aY s_.title)) else some (a.1,(aB.mk a.2 s_.spot s_.saved s_.waiting s_.top s_.aI s_.aY s_.title)))))
noncomputable def dJ (s_:aB):Option (Int×Int) :=
 (Option.bind (cX s_.g) fun r1=>some ((IntKind.i64.wrap (r1.1 - 1)),(IntKind.i64.wrap (r1.2 - 1))))
noncomputable def fS (n_:Int) (lo:Int) (hi:Int):Option Int :=
 some (imax lo (dQ n_ hi))
noncomputable def bL (s_:aB) (x_:Int) (y:Int):Option aB :=
 (Option.bind (dJ s_) fun r1=>(Option.bind (fS x_ 0 r1.1) fun r4=>(Option.bind (fS y 0 r1.2) fun r7=>some (aB.mk s_.g (dL.mk r4 r7 s_.spot.aM) s_.saved false s_.top s_.aI s_.aY s_.title))))
noncomputable def cU (s_:aB):Option ((List aE)×aB) :=
 (bif (s_.spot.y == s_.aI) then (Option.bind (gL (aB.mk s_.g s_.spot s_.saved false s_.top s_.aI s_.aY s_.title) 1) fun a=>some (a.1,a.2)) else (Option.bind (bL (aB.mk s_.g s_.spot s_.saved false s_.top s_.aI s_.aY s_.title) s_.spot.x (IntKind.i64.wrap (s_.spot.y+1))) fun b=>some (([]:List aE),b)))
noncomputable def ic (r_:aE) (x1:aB):Option aE :=
 (Option.bind (bY x1) fun a=>(Option.bind (kB r_ a) fun b=>some b))
noncomputable def cN (s_:aB):Option aB :=
 (Option.bind (dH s_.g s_.spot.y) fun a=>(Option.bind (ic a s_) fun b=>(Option.bind (eD s_.g s_.spot.y b) fun c=>some (aB.mk c.2 s_.spot s_.saved s_.waiting s_.top s_.aI s_.aY s_.title))))
noncomputable def ie (q:aE) (x1:aB) (x2:Int):Option aE :=
 (Option.bind (bY x1) fun a=>(Option.bind (lg q x1.spot.x x2 a) fun b=>some b))
noncomputable def cZ (s_:aB) (f_1:Int):Option aB :=
 (Option.bind (dH s_.g s_.spot.y) fun a=>(Option.bind (ie a s_ f_1) fun b=>(Option.bind (eD s_.g s_.spot.y b) fun c=>some (aB.mk c.2 s_.spot s_.saved s_.waiting s_.top s_.aI s_.aY s_.title))))
noncomputable def gC (s_:aB) (r_:Int):Option ((List aE)×aB) :=
 (Option.bind (nH r_) fun r3=>(Option.bind (cX s_.g) fun r6=>(Option.bind ((bif (r3 == 0) then some true else some (decide (r3 > r6.1))):Option Bool) fun i=>(bif i then some (([]:List aE),s_) else (Option.bind ((bif s_.waiting then some s_.aY else some false):Option Bool) fun j=>(Option.bind ((bif j then (Option.bind (cM s_) fun c=>(Option.bind (cU (aB.mk c.g (dL.mk 0 c.spot.y c.spot.aM) c.saved c.waiting c.top c.aI c.aY c.title)) fun f=>(Option.bind (chk (dB ([]:List aE).length f.1.length 32)) fun _=>some ((([]:List aE)++f.1),f.2.g,f.2)))) else some ([],s_.g,s_)):Option ((List aE)×aX×aB)) fun a=>(Option.bind ((bif (decide ((IntKind.i64.wrap (a.2.2.spot.x+r3)) > r6.1)) then (bif a.2.2.aY then (Option.bind (cN (aB.mk a.2.1 a.2.2.spot a.2.2.saved a.2.2.waiting a.2.2.top a.2.2.aI a.2.2.aY a.2.2.title)) fun d=>(Option.bind (cU (aB.mk d.g (dL.mk 0 d.spot.y d.spot.aM) d.saved d.waiting d.top d.aI d.aY d.title)) fun h=>(Option.bind (chk (dB a.1.length h.1.length 32)) fun _=>some ((a.1++h.1),h.2.g,h.2)))) else some (a.1,a.2.1,(aB.mk a.2.1 (dL.mk (IntKind.i64.wrap (a.2.2.spot.x - 1)) a.2.2.spot.y a.2.2.spot.aM) a.2.2.saved a.2.2.waiting a.2.2.top a.2.2.aI a.2.2.aY a.2.2.title))) else some (a.1,a.2.1,(aB.mk a.2.1 a.2.2.spot a.2.2.saved a.2.2.waiting a.2.2.top a.2.2.aI a.2.2.aY a.2.2.title))):Option ((List aE)×aX×aB)) fun e=>(Option.bind (cZ (aB.mk e.2.1 e.2.2.spot e.2.2.saved e.2.2.waiting e.2.2.top e.2.2.aI e.2.2.aY e.2.2.title) r_) fun b=>some (e.1,(aB.mk b.g (dL.mk (dQ (IntKind.i64.wrap (b.spot.x+r3)) (IntKind.i64.wrap (r6.1 - 1))) b.spot.y b.spot.aM) b.saved ((IntKind.i64.wrap (b.spot.x+r3)) == r6.1) b.top b.aI b.aY b.title))))))))))
noncomputable def fI (s_:aB) (b:Int):Option ((List aE)×aB) :=
 (Option.bind ((bif (b == 8) then (Option.bind (bL s_ (IntKind.i64.wrap (s_.spot.x - 1)) s_.spot.y) fun a=>some (.inl (a,a.g))) else (bif (b == 9) then (Option.bind (bL s_ (IntKind.i64.wrap ((IntKind.i64.wrap ((IntKind.i64.wrap (s_.spot.x.tdiv 8))+1))*8)) s_.spot.y) fun c=>some (.inl (c,c.g))) else (Option.bind ((bif (b == 10) then some (b == 10) else (bif (b == 11) then some (b == 11) else some (b == 12))):Option Bool) fun f=>(bif f then (Option.bind (cU s_) fun d=>(jH (some (d.1,d.2)))) else (bif (b == 13) then (Option.bind (bL s_ 0 s_.spot.y) fun e=>some (.inl (e,e.g))) else some (.inl (s_,s_.g))))))):Option ((aB×aX) ⊕ ((List aE)×aB))) fun | .inl e86=>some (([]:List aE),(aB.mk e86.2 e86.1.spot e86.1.saved e86.1.waiting e86.1.top e86.1.aI e86.1.aY e86.1.title)) | .inr w=>some w)
noncomputable def gY (s_:aB):Option aB :=
 (bif (s_.spot.y == s_.top) then (Option.bind (bY (aB.mk s_.g s_.spot s_.saved false s_.top s_.aI s_.aY s_.title)) fun a=>(Option.bind (dT s_.g s_.top s_.aI 1 a) fun b=>some (aB.mk b.2 s_.spot s_.saved false s_.top s_.aI s_.aY s_.title))) else (Option.bind (bL (aB.mk s_.g s_.spot s_.saved false s_.top s_.aI s_.aY s_.title) s_.spot.x (IntKind.i64.wrap (s_.spot.y - 1))) fun c=>some c))
noncomputable def fW (s_:aB) (b:Int):Option ((List aE)×aB) :=
 (Option.bind ((Option.bind ((bif (b == 69) then some (.inl (aB.mk s_.g (dL.mk 0 s_.spot.y s_.spot.aM) s_.saved s_.waiting s_.top s_.aI s_.aY s_.title)) else (bif (b == 68) then some (.inl s_) else (bif (b == 77) then (jH (Option.bind (gY s_) fun d=>some (.inl d))) else (bif (b == 55) then (jH (some (.inl (aB.mk s_.g s_.spot s_.spot s_.waiting s_.top s_.aI s_.aY s_.title)))) else (bif (b == 56) then (jH (Option.bind (bL (aB.mk s_.g (dL.mk s_.spot.x s_.spot.y s_.saved.aM) s_.saved s_.waiting s_.top s_.aI s_.aY s_.title) s_.saved.x s_.saved.y) fun e=>some (.inl e))) else (bif (b == 99) then (jH (Option.bind (cX s_.g) fun a=>(Option.bind (kZ a.1 a.2) fun f=>some (.inl f)))) else (jH (some (.inl s_))))))))):Option (aB ⊕ (aB ⊕ ((List aE)×aB)))) fun | .inl e4671=>(Option.bind (cU (aB.mk s_.g e4671.spot e4671.saved e4671.waiting e4671.top e4671.aI e4671.aY e4671.title)) fun c=>(jH (some (c.1,c.2)))) | .inr w=>some w):Option (aB ⊕ ((List aE)×aB))) fun | .inl e3164=>some (([]:List aE),e3164) | .inr w=>some w)
noncomputable def dX (a:bB) (i:Int) (d:Int):Option Int :=
 (Option.bind ((bif (decide (i≥(a.bA.length:Int))) then some true else (Option.bind (idx a.bA i) fun b=>some (decide (b≤0)))):Option Bool) fun c=>(bif c then some d else (Option.bind (idx a.bA i) fun e=>some (dQ e 9999))))
noncomputable def eV (s_:aB) (n_:Int):Option aB :=
 (Option.bind (dJ s_) fun r1=>(Option.bind ((bif (decide (s_.spot.y≥s_.top)) then some (decide (n_ < 0)) else some false):Option Bool) fun e9=>(Option.bind ((bif e9 then some s_.top else some 0):Option Int) fun a=>(Option.bind ((bif (decide (s_.spot.y≤s_.aI)) then some (decide (n_ > 0)) else some false):Option Bool) fun b=>(Option.bind ((bif b then some s_.aI else some r1.2):Option Int) fun c=>(Option.bind (fS (IntKind.i64.wrap (s_.spot.y+n_)) a c) fun d=>(Option.bind (bL s_ s_.spot.x d) fun e=>some e)))))))
noncomputable def dR (s_:aB) (y:Int) (from_:Int) (to:Int):Option aB :=
 (Option.bind (dH s_.g y) fun a=>(Option.bind (bY s_) fun b=>(Option.bind (ja a from_ to b) fun c=>(Option.bind (eD s_.g y c) fun d=>some (aB.mk d.2 s_.spot s_.saved s_.waiting s_.top s_.aI s_.aY s_.title)))))
noncomputable def fJ (s_:aB) (n_:Int):Option aB :=
 (Option.bind (cX s_.g) fun r1=>(Option.bind ((bif (n_ == 0) then (Option.bind (dR s_ s_.spot.y s_.spot.x r1.1) fun b=>some (b.g,b)) else (bif (n_ == 1) then (Option.bind (dR s_ s_.spot.y 0 (IntKind.i64.wrap (s_.spot.x+1))) fun c=>some (c.g,c)) else (bif (n_ == 2) then (Option.bind (dR s_ s_.spot.y 0 r1.1) fun d=>some (d.g,d)) else some (s_.g,s_)))):Option (aX×aB)) fun a=>(bif a.2.waiting then some (aB.mk a.1 a.2.spot a.2.saved (decide (n_ > 2)) a.2.top a.2.aI a.2.aY a.2.title) else some (aB.mk a.1 a.2.spot a.2.saved false a.2.top a.2.aI a.2.aY a.2.title))))
noncomputable def gZ (s_:aB) (n_:Int):Option aB :=
 (Option.bind (cX s_.g) fun r1=>(Option.bind (iter (σ:=aB×aX×Int) (ρ:=aX×aB) (fun a=>(bif (decide (a.2.2 < r1.2)) then (Option.bind ((Option.bind ((bif (decide (a.2.2 < a.1.spot.y)) then (bif (n_ == 1) then some true else (bif (decide (a.2.2 > a.1.spot.y)) then (bif (n_ == 0) then some true else (bif (a.2.2 != a.1.spot.y) then some (n_ == 2) else some false)) else (bif (a.2.2 != a.1.spot.y) then some (n_ == 2) else some false))) else (bif (decide (a.2.2 > a.1.spot.y)) then (bif (n_ == 0) then some true else (bif (a.2.2 != a.1.spot.y) then some (n_ == 2) else some false)) else (bif (a.2.2 != a.1.spot.y) then some (n_ == 2) else some false))):Option Bool) fun e=>(bif e then (Option.bind (dR (aB.mk a.2.1 a.1.spot a.1.saved a.1.waiting a.1.top a.1.aI a.1.aY a.1.title) a.2.2 0 r1.1) fun d=>some (d.g,d)) else some (a.2.1,(aB.mk a.2.1 a.1.spot a.1.saved a.1.waiting a.1.top a.1.aI a.1.aY a.1.title)))):Option (aX×aB)) fun b=>some (.inl ((aB.mk b.1 b.2.spot b.2.saved b.2.waiting b.2.top b.2.aI b.2.aY b.2.title),b.1,(IntKind.i64.wrap (a.2.2+1))))) else some (.inr (a.2.1,(aB.mk a.2.1 a.1.spot a.1.saved a.1.waiting a.1.top a.1.aI a.1.aY a.1.title))))) (s_,s_.g,0)) fun c=>(Option.bind (fJ (aB.mk c.1 c.2.spot c.2.saved c.2.waiting c.2.top c.2.aI c.2.aY c.2.title) n_) fun f=>some f)))
noncomputable def fK (r_:aE) (x1:Int) (x2:aB) (x3:Int):Option aE :=
 (bif (x1 == 64) then (Option.bind (bY x2) fun a=>(Option.bind (jJ r_ x2.spot.x x3 a) fun b=>some b)) else (bif (x1 == 80) then (Option.bind (bY x2) fun c=>(Option.bind (jK r_ x2.spot.x x3 c) fun d=>some d)) else (Option.bind (bY x2) fun e=>(Option.bind (ja r_ x2.spot.x (IntKind.i64.wrap (x2.spot.x+x3)) e) fun f=>some f))))
noncomputable def dV (s_:aB) (f_0:Int) (f_2:Int):Option aB :=
 (Option.bind (dH s_.g s_.spot.y) fun a=>(Option.bind (fK a f_0 s_ f_2) fun b=>(Option.bind (eD s_.g s_.spot.y b) fun c=>some (aB.mk c.2 s_.spot s_.saved s_.waiting s_.top s_.aI s_.aY s_.title))))
noncomputable def gD (s_:aB) (b:Int) (n_:Int):Option aB :=
 (Option.bind (dV s_ b n_) fun r4=>some (aB.mk r4.g r4.spot r4.saved false r4.top r4.aI r4.aY r4.title))
noncomputable def gE (s_:aB) (b:Int) (n_:Int):Option aB :=
 (Option.bind ((bif (decide (s_.spot.y < s_.top)) then some true else some (decide (s_.spot.y > s_.aI))):Option Bool) fun e6=>(bif e6 then some s_ else (Option.bind ((bif (b == 76) then (Option.bind (bY s_) fun a=>(Option.bind (dT s_.g s_.spot.y s_.aI n_ a) fun c=>some c.2)) else (Option.bind (bY s_) fun d=>(Option.bind (eZ s_.g s_.spot.y s_.aI n_ d) fun e=>some e.2))):Option aX) fun f=>(Option.bind (bL (aB.mk f s_.spot s_.saved s_.waiting s_.top s_.aI s_.aY s_.title) 0 s_.spot.y) fun h=>some h))))
noncomputable def fX (s_:aB) (a:bB):Option aB :=
 (Option.bind (cX s_.g) fun r2=>(Option.bind (dX a 0 1) fun d=>(Option.bind (fS d 1 r2.2) fun b=>(Option.bind (dX a 1 r2.2) fun e=>(Option.bind (fS e 1 r2.2) fun c=>(bif (decide ((IntKind.i64.wrap (b - 1)) < (IntKind.i64.wrap (c - 1)))) then (Option.bind (bL (aB.mk s_.g s_.spot s_.saved s_.waiting (IntKind.i64.wrap (b - 1)) (IntKind.i64.wrap (c - 1)) s_.aY s_.title) 0 0) fun f=>some f) else some s_))))))
noncomputable def gF (s_:aB) (a:bB):Option ((List aE)×aB) :=
 (Option.bind (dX a 0 1) fun r2=>(Option.bind ((Option.bind ((bif (a.byte == 65) then some (a.byte == 65) else some (a.byte == 70)):Option Bool) fun r=>(bif r then (Option.bind (eV s_ (IntKind.i64.wrap (0 - r2))) fun c=>some (.inl (c,c.g))) else (Option.bind ((bif (a.byte == 66) then some (a.byte == 66) else some (a.byte == 69)):Option Bool) fun s=>(bif s then (Option.bind (eV s_ r2) fun d=>some (.inl (d,d.g))) else (bif (a.byte == 67) then (Option.bind (bL s_ (IntKind.i64.wrap (s_.spot.x+r2)) s_.spot.y) fun e=>some (.inl (e,e.g))) else (bif (a.byte == 68) then (Option.bind (bL s_ (IntKind.i64.wrap (s_.spot.x - r2)) s_.spot.y) fun f=>some (.inl (f,f.g))) else (bif (a.byte == 71) then (Option.bind (bL s_ (IntKind.i64.wrap (r2 - 1)) s_.spot.y) fun h=>some (.inl (h,h.g))) else (bif (a.byte == 100) then (Option.bind (bL s_ s_.spot.x (IntKind.i64.wrap (r2 - 1))) fun i=>some (.inl (i,i.g))) else (Option.bind ((bif (a.byte == 72) then some (a.byte == 72) else some (a.byte == 102)):Option Bool) fun t=>(bif t then (Option.bind (dX a 1 1) fun u=>(Option.bind (bL s_ (IntKind.i64.wrap (u - 1)) (IntKind.i64.wrap (r2 - 1))) fun j=>some (.inl (j,j.g)))) else (bif (a.byte == 74) then (Option.bind (dX a 0 0) fun v=>(Option.bind (gZ s_ v) fun k=>some (.inl (k,k.g)))) else (bif (a.byte == 75) then (Option.bind (dX a 0 0) fun z=>(Option.bind (fJ s_ z) fun l=>some (.inl (l,l.g)))) else (Option.bind ((bif (a.byte == 64) then some (a.byte == 64) else (bif (a.byte == 80) then some (a.byte == 80) else some (a.byte == 88))):Option Bool) fun A=>(bif A then (Option.bind (gD s_ a.byte r2) fun m=>some (.inl (m,m.g))) else (Option.bind ((bif (a.byte == 76) then some (a.byte == 76) else some (a.byte == 77)):Option Bool) fun B=>(bif B then (Option.bind (gE s_ a.byte r2) fun n=>some (.inl (n,n.g))) else (bif (a.byte == 83) then (Option.bind (gL (aB.mk s_.g s_.spot s_.saved false s_.top s_.aI s_.aY s_.title) r2) fun o=>(jH (some (o.1,o.2)))) else (bif (a.byte == 84) then (Option.bind (bY (aB.mk s_.g s_.spot s_.saved false s_.top s_.aI s_.aY s_.title)) fun C=>(Option.bind (dT s_.g s_.top s_.aI r2 C) fun p=>some (.inl ((aB.mk p.2 s_.spot s_.saved false s_.top s_.aI s_.aY s_.title),p.2)))) else (bif (a.byte == 109) then (Option.bind (jo s_.spot.aM a.bA) fun D=>some (.inl ((aB.mk s_.g (dL.mk s_.spot.x s_.spot.y D) s_.saved s_.waiting s_.top s_.aI s_.aY s_.title),s_.g))) else (bif (a.byte == 114) then (Option.bind (fX s_ a) fun q=>some (.inl (q,q.g))) else some (.inl (s_,s_.g)))))))))))))))))))))):Option ((aB×aX) ⊕ ((List aE)×aB))) fun | .inl e310=>(Option.bind ((bif (a.byte == 69) then some true else some (a.byte == 70)):Option Bool) fun E=>(Option.bind ((bif E then some (aB.mk e310.2 (dL.mk 0 e310.1.spot.y e310.1.spot.aM) e310.1.saved e310.1.waiting e310.1.top e310.1.aI e310.1.aY e310.1.title) else some (aB.mk e310.2 e310.1.spot e310.1.saved e310.1.waiting e310.1.top e310.1.aI e310.1.aY e310.1.title)):Option aB) fun b=>some (([]:List aE),(aB.mk e310.2 b.spot b.saved b.waiting b.top b.aI b.aY b.title)))) | .inr w=>some w))
noncomputable def fF (s_:aB) (a:bB):Option ((List aE)×aB) :=
 (Option.bind ((bif (a.kind == 1) then (Option.bind (gC s_ a.rune) fun b=>(jH (some (b.1,b.2)))) else (bif (a.kind == 2) then (Option.bind (fI s_ a.byte) fun c=>(jH (some (c.1,c.2)))) else (bif (a.kind == 3) then (Option.bind (fW s_ a.byte) fun d=>(jH (some (d.1,d.2)))) else (bif (a.kind == 5) then some (.inl (aB.mk s_.g s_.spot s_.saved s_.waiting s_.top s_.aI s_.aY a.text)) else (bif (a.kind == 4) then (bif (!a.cF) then (Option.bind (gF s_ a) fun e=>(jH (some (e.1,e.2)))) else (Option.bind ((Option.bind (dX a 0 0) fun f=>(bif (f == 7) then (bif (a.byte == 104) then some true else some (a.byte == 108)) else some false)):Option Bool) fun h=>(bif h then some (.inl (aB.mk s_.g s_.spot s_.saved s_.waiting s_.top s_.aI (a.byte == 104) s_.title)) else some (.inl s_)))) else some (.inl s_)))))):Option (aB ⊕ ((List aE)×aB))) fun | .inl e133=>some (([]:List aE),(aB.mk s_.g e133.spot e133.saved e133.waiting e133.top e133.aI e133.aY e133.title)) | .inr w=>some w)
noncomputable def fY (s_:aB) (w:Int) (h_:Int):Option ((List aE)×aB) :=
 (Option.bind (fS h_ 1 1000) fun b=>(Option.bind (iQ s_.g w h_ (imax 0 (IntKind.i64.wrap (s_.spot.y - (IntKind.i64.wrap (b - 1)))))) fun c=>(Option.bind (bL (aB.mk c.2 s_.spot s_.saved s_.waiting s_.top s_.aI s_.aY s_.title) s_.spot.x (IntKind.i64.wrap (s_.spot.y - (imax 0 (IntKind.i64.wrap (s_.spot.y - (IntKind.i64.wrap (b - 1)))))))) fun a=>(Option.bind (dJ a) fun d=>some (c.1,(aB.mk a.g a.spot a.saved a.waiting 0 d.2 a.aY a.title))))))
noncomputable def iC (s_:aB):Option (Int×Int) :=
 some (s_.top,s_.aI)
noncomputable def ig (s_:aB):Option Bool :=
 some s_.waiting
noncomputable def iX (s_:aB):Option bG :=
 some s_.spot.aM
noncomputable def eW (s_:aB):Option (aB×aB) :=
 (Option.bind (hP s_.g) fun r2=>some ((aB.mk r2.1 s_.spot s_.saved s_.waiting s_.top s_.aI s_.aY s_.title),(aB.mk r2.2 s_.spot s_.saved s_.waiting s_.top s_.aI s_.aY s_.title)))
end Go.Tw.X
set_option linter.unusedVariables false
set_option linter.unusedSimpArgs false
set_option maxRecDepth 10000
namespace Go.Tw.X
open Go Go.Tw
structure jq where
 k:Int
 w:Int
 h:Int
 x:Int
 y:Int
 title:ByteArray
 rows:List aE
 len:Int
 chain:Int
 begun:List aH
 deriving DecidableEq,Inhabited
noncomputable def qs (k:Int) (s_:aB) (b:bU):Option (jq×aB) :=
 (Option.bind (fH (aB.mk s_.g s_.spot s_.saved s_.waiting s_.top s_.aI s_.aY s_.title)) fun r2=>(Option.bind (eU (aB.mk r2.2.g r2.2.spot r2.2.saved r2.2.waiting r2.2.top r2.2.aI r2.2.aY r2.2.title)) fun e=>(Option.bind (iM r2.1) fun a=>(Option.bind (fZ b) fun f=>(Option.bind (fZ b) fun i=>(Option.bind (jg b i) fun j=>(Option.bind (jh b) fun l=>(Option.bind (cX a.2) fun c=>(Option.bind (eO (aB.mk r2.2.g r2.2.spot r2.2.saved r2.2.waiting r2.2.top r2.2.aI r2.2.aY r2.2.title)) fun d=>some ((jq.mk k c.1 c.2 d.1 d.2 e a.1 f j l),(aB.mk r2.2.g r2.2.spot r2.2.saved r2.2.waiting r2.2.top r2.2.aI r2.2.aY r2.2.title)))))))))))
end Go.Tw.X
set_option linter.unusedVariables false
set_option linter.unusedSimpArgs false
set_option maxRecDepth 10000
namespace Go.Tw.X
open Go Go.Tw
structure aT where
 book:bU
 parser:aD
 aN:aB
 k:Int
 deriving DecidableEq,Inhabited
structure dU where
 kind:Int
 text:ByteArray
 w:Int
 h:Int
 deriving DecidableEq,Inhabited
noncomputable def lM (w:Int) (h_:Int):Option aT :=
 (Option.bind pc fun r1=>(Option.bind (kZ w h_) fun a=>some (aT.mk r1 (aD.mk 0 (dF.mk false false false false 0 ([]:List Int)) (ByteArray.mk #[]) (bM.mk 0 0 0) ([]:List bB)) (aB.mk a.g a.spot a.saved a.waiting a.top a.aI a.aY a.title) 0)))
noncomputable def gM (m_:aT):Option (jq×aT) :=
 (Option.bind (qs (IntKind.i64.wrap (m_.k+1)) (aB.mk m_.aN.g m_.aN.spot m_.aN.saved m_.aN.waiting m_.aN.top m_.aN.aI m_.aN.aY m_.aN.title) m_.book) fun a=>some (a.1,(aT.mk m_.book m_.parser (aB.mk a.2.g a.2.spot a.2.saved a.2.waiting a.2.top a.2.aI a.2.aY a.2.title) m_.k)))
noncomputable def iy (e:dU):Option Int :=
 (Option.bind ((bif (e.kind == 0) then (bif (decide ((e.text.size:Int) > 1048576)) then (jH (some 3)) else some (.inl ())) else (bif (e.kind == 1) then (Option.bind ((bif (decide (e.w < 1)) then some true else (bif (decide (e.w > 1000)) then some true else (bif (decide (e.h < 1)) then some true else some (decide (e.h > 1000))))):Option Bool) fun a=>(bif a then (jH (some 6)) else some (.inl ()))) else (jH (some 5)))):Option (Unit ⊕ Int)) fun | .inl e36=>some 0 | .inr w=>some w)
noncomputable def jr (m_:aT) (text:ByteArray):Option ByteArray :=
 some text
noncomputable def iz {σ:Type} (Y:σ→(List aE)→Option (σ×Bool)) (y0:σ) (x1:aT) (x2:ByteArray):Option (σ×aT) :=
 (Option.bind (jj x1.parser x2) fun b=>(Option.bind (iter (σ:=aB×Int×σ) (ρ:=(aB×σ) ⊕ (σ×aT)) (fun a=>(bif (decide (a.2.1 < (b.1.length:Int))) then (Option.bind (idx b.1 a.2.1) fun d=>(Option.bind (fF a.1 d) fun c=>(Option.bind (Y a.2.2 c.1) fun z528=>(bif (!z528.2) then (nj (some (z528.1,(aT.mk x1.book b.2 c.2 x1.k)))) else some (.inl (c.2,(IntKind.i64.wrap (a.2.1+1)),z528.1)))))) else some (.inr (.inl (a.1,a.2.2))))) (x1.aN,0,y0)) fun | .inl e413=>some (e413.2,(aT.mk x1.book b.2 e413.1 x1.k)) | .inr w=>some w))
noncomputable def cE (m_:aT) (e:dU):Option (Int×aT) :=
 (Option.bind (iy e) fun r3=>(bif (r3 != 0) then some (r3,m_) else (Option.bind ((bif (e.kind == 1) then (Option.bind (fY m_.aN e.w e.h) fun c=>(Option.bind (ik m_.book c.1) fun d=>some (aT.mk d.2 m_.parser c.2 m_.k))) else (Option.bind (jr m_ e.text) fun f=>(Option.bind (iz (fun g i=>(Option.bind (ik g i) fun j=>some (j.2,true))) (m_.book:bU) m_ f) fun a=>some (aT.mk a.1 a.2.parser a.2.aN a.2.k)))):Option aT) fun b=>some (0,(aT.mk b.book b.parser b.aN (IntKind.i64.wrap (b.k+1)))))))
noncomputable def mS (w:Int) (h_:Int) (l:List dU):Option aT :=
 (Option.bind (lM w h_) fun r1=>(Option.bind (iter (σ:=aT×Int) (ρ:=aT) (fun a=>(bif (decide (a.2 < (l.length:Int))) then (Option.bind (idx l a.2) fun b=>(Option.bind (cE a.1 b) fun c=>some (.inl (c.2,(IntKind.i64.wrap (a.2+1)))))) else some (.inr a.1))) (r1,0)) fun d=>some d))
noncomputable def fL (m_:aT):Option (aB×aT) :=
 (Option.bind (eW m_.aN) fun r1=>some (r1.1,(aT.mk m_.book m_.parser r1.2 m_.k)))
noncomputable def kf (m_:aT):Option Int :=
 some m_.k
noncomputable def iA (m_:aT):Option (aT×aT) :=
 (Option.bind (ji m_.book) fun b=>(Option.bind (iR m_.parser) fun c=>(Option.bind (eW m_.aN) fun a=>some ((aT.mk b c a.1 m_.k),(aT.mk m_.book m_.parser a.2 m_.k)))))
end Go.Tw.X
set_option linter.unusedVariables false
set_option linter.unusedSimpArgs false
set_option maxRecDepth 10000
namespace Go.Tw.X
open Go Go.Tw
noncomputable def mT (s_:ByteArray) (n_:Int):Option ByteArray :=
 (bif (decide ((s_.size:Int) > n_)) then (Option.bind (chk (cW 0 n_ s_.size)) fun _=>some (mB s_ 0 n_)) else some s_)
end Go.Tw.X
set_option linter.unusedVariables false
set_option linter.unusedSimpArgs false
set_option maxRecDepth 10000
namespace Go.Tw.X
open Go Go.Tw
noncomputable def mE (r_:Int):Option Int :=
 (Option.bind ((bif (decide (r_ < 32)) then some true else some (decide (r_ > 1114111))):Option Bool) fun e8=>(bif e8 then some 0 else (Option.bind (iter (σ:=Int) (ρ:=Unit ⊕ Int) (fun a=>(bif (decide (a < ([(bJ.mk 127 159),(bJ.mk 768 879),(bJ.mk 6832 6911),(bJ.mk 7616 7679),(bJ.mk 8203 8207),(bJ.mk 8400 8447),(bJ.mk 55296 57343),(bJ.mk 65024 65039),(bJ.mk 65056 65071),(bJ.mk 65279 65279),(bJ.mk 917760 917999)].length:Int))) then (Option.bind (idx [(bJ.mk 127 159),(bJ.mk 768 879),(bJ.mk 6832 6911),(bJ.mk 7616 7679),(bJ.mk 8203 8207),(bJ.mk 8400 8447),(bJ.mk 55296 57343),(bJ.mk 65024 65039),(bJ.mk 65056 65071),(bJ.mk 65279 65279),(bJ.mk 917760 917999)] a) fun c=>(Option.bind ((bif (decide (r_≥c.e0)) then some (decide (r_≤c.e1)) else some false):Option Bool) fun e=>(bif e then (nj (some 0)) else some (.inl (IntKind.i64.wrap (a+1)))))) else some (.inr (.inl ())))) 0) fun | .inl e96=>(Option.bind (iter (σ:=Int) (ρ:=Unit ⊕ Int) (fun b=>(bif (decide (b < ([(bJ.mk 4352 4447),(bJ.mk 11904 12350),(bJ.mk 12353 13311),(bJ.mk 13312 19903),(bJ.mk 19968 40959),(bJ.mk 40960 42191),(bJ.mk 44032 55203),(bJ.mk 63744 64255),(bJ.mk 65072 65135),(bJ.mk 65280 65376),(bJ.mk 65504 65510),(bJ.mk 127744 128591),(bJ.mk 129280 129535),(bJ.mk 131072 262141)].length:Int))) then (Option.bind (idx [(bJ.mk 4352 4447),(bJ.mk 11904 12350),(bJ.mk 12353 13311),(bJ.mk 13312 19903),(bJ.mk 19968 40959),(bJ.mk 40960 42191),(bJ.mk 44032 55203),(bJ.mk 63744 64255),(bJ.mk 65072 65135),(bJ.mk 65280 65376),(bJ.mk 65504 65510),(bJ.mk 127744 128591),(bJ.mk 129280 129535),(bJ.mk 131072 262141)] b) fun d=>(Option.bind ((bif (decide (r_≥d.e0)) then some (decide (r_≤d.e1)) else some false):Option Bool) fun f=>(bif f then (nj (some 2)) else some (.inl (IntKind.i64.wrap (b+1)))))) else some (.inr (.inl ())))) 0) fun | .inl e214=>some 1 | .inr w=>some w) | .inr w=>some w)))
end Go.Tw.X
set_option linter.unusedVariables false
set_option linter.unusedSimpArgs false
set_option maxRecDepth 10000
namespace Go.Tw.X
open Go Go.Tw
structure aP where
 rune:Int
 aM:Int
 part:Int
 deriving DecidableEq,Inhabited
structure aR where
 l:List aP
 wrapped:Bool
 deriving DecidableEq,Inhabited
structure bW where
 rune:Int
 aM:Int
 deriving DecidableEq,Inhabited
noncomputable def jV (n_:Int) (lo:Int) (hi:Int):Option Int :=
 (bif (decide (n_ < lo)) then some lo else (bif (decide (n_ > hi)) then some hi else some n_))
noncomputable def fA (w:Int) (aM:Int):Option aR :=
 (Option.bind (iter (σ:=(List aP)×Int) (ρ:=(List aP)) (fun a=>(Option.bind (jV w 0 1000) fun b=>(bif (decide (a.2 < b)) then (Option.bind (chk (dB a.1.length [(aP.mk 32 aM 0)].length 24)) fun _=>some (.inl ((a.1++[(aP.mk 32 aM 0)]),(IntKind.i64.wrap (a.2+1))))) else some (.inr a.1)))) (([]:List aP),0)) fun c=>some (aR.mk c false))
noncomputable def eC (l:List aP):Option aR :=
 (Option.bind (iter (σ:=Int×(List aP)) (ρ:=(List aP)) (fun a=>(bif (decide (a.1 < (l.length:Int))) then (Option.bind (idx l a.1) fun b=>(Option.bind ((bif (b.part == 1) then (bif ((IntKind.i64.wrap (a.1+1)) == (l.length:Int)) then some true else (Option.bind (idx l (IntKind.i64.wrap (a.1+1))) fun d=>some (d.part != 2))) else (bif (b.part == 2) then (bif (a.1 == 0) then some true else (Option.bind (idx a.2 (IntKind.i64.wrap (a.1 - 1))) fun e=>some (e.part != 1))) else (bif (b.part == 3) then some (decide (a.1 < (IntKind.i64.wrap ((l.length:Int) - 1)))) else some false))):Option Bool) fun f=>(Option.bind ((bif f then some (aP.mk 32 b.aM 0) else some b):Option aP) fun c=>(Option.bind (chk (dB a.2.length [c].length 24)) fun _=>some (.inl ((IntKind.i64.wrap (a.1+1)),(a.2++[c]))))))) else some (.inr a.2))) (0,([]:List aP))) fun g=>some (aR.mk g false))
noncomputable def lN (r_:aR) (at_:Int) (x_:Int) (aM:Int):Option aR :=
 (Option.bind (mE x_) fun r3=>(Option.bind ((bif (r3 == 0) then some true else (bif (decide (at_ < 0)) then some true else some (decide (at_ > (IntKind.i64.wrap ((r_.l.length:Int) - r3)))))):Option Bool) fun a=>(bif a then (Option.bind (eC r_.l) fun b=>some b) else (Option.bind (chk (dB ([]:List aP).length r_.l.length 24)) fun _=>(Option.bind (idx (([]:List aP)++r_.l) at_) fun h=>(Option.bind ((bif (r3 == 2) then (Option.bind (idx ((([]:List aP)++r_.l).set at_.toNat (aP.mk x_ aM 0)) at_) fun i=>(Option.bind (idx (((([]:List aP)++r_.l).set at_.toNat (aP.mk x_ aM 0)).set at_.toNat (aP.mk x_ aM 1)) (IntKind.i64.wrap (at_+1))) fun j=>(Option.bind ((bif (decide (at_ > 0)) then (Option.bind (idx ((((([]:List aP)++r_.l).set at_.toNat (aP.mk x_ aM 0)).set at_.toNat (aP.mk x_ aM 1)).set ((IntKind.i64.wrap (at_+1)).toNat) (aP.mk x_ aM 2)) (IntKind.i64.wrap (at_ - 1))) fun c=>some (c.part == 1)) else some false):Option Bool) fun d=>(bif d then (Option.bind (idx ((((([]:List aP)++r_.l).set at_.toNat (aP.mk x_ aM 0)).set at_.toNat (aP.mk x_ aM 1)).set ((IntKind.i64.wrap (at_+1)).toNat) (aP.mk x_ aM 2)) (IntKind.i64.wrap (at_ - 1))) fun e=>(Option.bind (idx ((((([]:List aP)++r_.l).set at_.toNat (aP.mk x_ aM 0)).set at_.toNat (aP.mk x_ aM 1)).set ((IntKind.i64.wrap (at_+1)).toNat) (aP.mk x_ aM 2)) (IntKind.i64.wrap (at_ - 1))) fun k=>some (((((([]:List aP)++r_.l).set at_.toNat (aP.mk x_ aM 0)).set at_.toNat (aP.mk x_ aM 1)).set ((IntKind.i64.wrap (at_+1)).toNat) (aP.mk x_ aM 2)).set ((IntKind.i64.wrap (at_ - 1)).toNat) (aP.mk 32 e.aM 0)))) else some ((((([]:List aP)++r_.l).set at_.toNat (aP.mk x_ aM 0)).set at_.toNat (aP.mk x_ aM 1)).set ((IntKind.i64.wrap (at_+1)).toNat) (aP.mk x_ aM 2)))))) else some ((([]:List aP)++r_.l).set at_.toNat (aP.mk x_ aM 0))):Option (List aP)) fun f=>(Option.bind (eC f) fun g=>some g)))))))
noncomputable def km (r_:aR) (from_:Int) (to:Int) (aM:Int):Option aR :=
 (Option.bind (chk (dB ([]:List aP).length r_.l.length 24)) fun _=>(Option.bind (iter (σ:=Int×(List aP)) (ρ:=(List aP)) (fun a=>(bif (decide (a.1 < ((([]:List aP)++r_.l).length:Int))) then (Option.bind ((Option.bind ((bif (decide (a.1≥from_)) then some (decide (a.1 < to)) else some false):Option Bool) fun b=>(bif b then (Option.bind (idx a.2 a.1) fun f=>some (a.2.set a.1.toNat (aP.mk 32 aM 0))) else some a.2)):Option (List aP)) fun c=>some (.inl ((IntKind.i64.wrap (a.1+1)),c))) else some (.inr a.2))) (0,(([]:List aP)++r_.l))) fun d=>(Option.bind (eC d) fun e=>some e)))
noncomputable def jN (r_:aR) (at_:Int) (n_:Int) (aM:Int):Option aR :=
 (Option.bind ((bif (decide (at_ < 0)) then some true else (bif (decide (at_≥(r_.l.length:Int))) then some true else some (decide (n_≤0)))):Option Bool) fun e8=>(bif e8 then (Option.bind (eC r_.l) fun b=>some b) else (Option.bind (chk (cW 0 at_ r_.l.length)) fun _=>(Option.bind (chk (dB ([]:List aP).length (cut r_.l 0 at_).length 24)) fun _=>(Option.bind (fA (dQ n_ (IntKind.i64.wrap ((r_.l.length:Int) - at_))) aM) fun a=>(Option.bind (chk (dB (([]:List aP)++(cut r_.l 0 at_)).length a.l.length 24)) fun _=>(Option.bind (chk (cW at_ (IntKind.i64.wrap ((r_.l.length:Int) - (dQ n_ (IntKind.i64.wrap ((r_.l.length:Int) - at_))))) r_.l.length)) fun _=>(Option.bind (chk (dB ((([]:List aP)++(cut r_.l 0 at_))++a.l).length (cut r_.l at_ (IntKind.i64.wrap ((r_.l.length:Int) - (dQ n_ (IntKind.i64.wrap ((r_.l.length:Int) - at_)))))).length 24)) fun _=>(Option.bind (eC (((([]:List aP)++(cut r_.l 0 at_))++a.l)++(cut r_.l at_ (IntKind.i64.wrap ((r_.l.length:Int) - (dQ n_ (IntKind.i64.wrap ((r_.l.length:Int) - at_)))))))) fun c=>some c)))))))))
noncomputable def jO (r_:aR) (at_:Int) (n_:Int) (aM:Int):Option aR :=
 (Option.bind ((bif (decide (at_ < 0)) then some true else (bif (decide (at_≥(r_.l.length:Int))) then some true else some (decide (n_≤0)))):Option Bool) fun e8=>(bif e8 then (Option.bind (eC r_.l) fun b=>some b) else (Option.bind (chk (cW 0 at_ r_.l.length)) fun _=>(Option.bind (chk (dB ([]:List aP).length (cut r_.l 0 at_).length 24)) fun _=>(Option.bind (chk (cW (IntKind.i64.wrap (at_+(dQ n_ (IntKind.i64.wrap ((r_.l.length:Int) - at_))))) (r_.l.length:Int) r_.l.length)) fun _=>(Option.bind (chk (dB (([]:List aP)++(cut r_.l 0 at_)).length (cut r_.l (IntKind.i64.wrap (at_+(dQ n_ (IntKind.i64.wrap ((r_.l.length:Int) - at_))))) (r_.l.length:Int)).length 24)) fun _=>(Option.bind (fA (dQ n_ (IntKind.i64.wrap ((r_.l.length:Int) - at_))) aM) fun a=>(Option.bind (chk (dB ((([]:List aP)++(cut r_.l 0 at_))++(cut r_.l (IntKind.i64.wrap (at_+(dQ n_ (IntKind.i64.wrap ((r_.l.length:Int) - at_))))) (r_.l.length:Int))).length a.l.length 24)) fun _=>(Option.bind (eC (((([]:List aP)++(cut r_.l 0 at_))++(cut r_.l (IntKind.i64.wrap (at_+(dQ n_ (IntKind.i64.wrap ((r_.l.length:Int) - at_))))) (r_.l.length:Int)))++a.l)) fun c=>some c)))))))))
noncomputable def jW (r_:aR) (aM:Int):Option aR :=
 (Option.bind (chk (dB ([]:List aP).length r_.l.length 24)) fun _=>(Option.bind ((bif (decide (((([]:List aP)++r_.l).length:Int) > 0)) then (Option.bind (idx (([]:List aP)++r_.l) (IntKind.i64.wrap (((([]:List aP)++r_.l).length:Int) - 1))) fun c=>some ((([]:List aP)++r_.l).set ((IntKind.i64.wrap (((([]:List aP)++r_.l).length:Int) - 1)).toNat) (aP.mk 32 aM 3))) else some (([]:List aP)++r_.l)):Option (List aP)) fun a=>(Option.bind (eC a) fun b=>some (aR.mk b.l true))))
noncomputable def iS (r_:aR) (w:Int):Option aR :=
 (Option.bind (jV w 0 1000) fun r3=>(bif (r3 == (r_.l.length:Int)) then some r_ else (Option.bind (chk (cW 0 (dQ r3 (r_.l.length:Int)) r_.l.length)) fun _=>(Option.bind (chk (dB ([]:List aP).length (cut r_.l 0 (dQ r3 (r_.l.length:Int))).length 24)) fun _=>(Option.bind (fA (IntKind.i64.wrap (r3 - ((([]:List aP)++(cut r_.l 0 (dQ r3 (r_.l.length:Int)))).length:Int))) 0) fun a=>(Option.bind (chk (dB (([]:List aP)++(cut r_.l 0 (dQ r3 (r_.l.length:Int)))).length a.l.length 24)) fun _=>(Option.bind (eC ((([]:List aP)++(cut r_.l 0 (dQ r3 (r_.l.length:Int))))++a.l)) fun b=>some b)))))))
noncomputable def jP (r_:aR):Option (List bW) :=
 (Option.bind (iter (σ:=Int) (ρ:=Int) (fun c=>(Option.bind ((bif (decide (c > 0)) then (bif (!r_.wrapped) then (Option.bind (idx r_.l (IntKind.i64.wrap (c - 1))) fun d=>some ((d.rune == 32) && ((d.aM == 0) && ((d.part == 0) && true)))) else some false) else some false):Option Bool) fun f=>(bif f then some (.inl (IntKind.i64.wrap (c - 1))) else some (.inr c)))) (r_.l.length:Int)) fun e=>(Option.bind (chk (cW 0 e r_.l.length)) fun _=>(Option.bind (iter (σ:=Int×(List bW)) (ρ:=(List bW)) (fun a=>(bif (decide (a.1 < ((cut r_.l 0 e).length:Int))) then (Option.bind ((Option.bind (idx (cut r_.l 0 e) a.1) fun b=>(Option.bind ((bif (b.part == 0) then some true else some (b.part == 1)):Option Bool) fun g=>(bif g then (Option.bind (chk (dB a.2.length [(bW.mk b.rune b.aM)].length 16)) fun _=>some (a.2++[(bW.mk b.rune b.aM)])) else some a.2))):Option (List bW)) fun h=>some (.inl ((IntKind.i64.wrap (a.1+1)),h))) else some (.inr a.2))) (0,([]:List bW))) fun i=>some i)))
end Go.Tw.X
set_option linter.unusedVariables false
set_option linter.unusedSimpArgs false
set_option maxRecDepth 10000
namespace Go.Tw.X
open Go Go.Tw
noncomputable def kC (r_:aE) (x_:aR):Option Bool :=
 (Option.bind ((bif ((r_.cells.length:Int) != (x_.l.length:Int)) then some true else some (!(r_.wrapped == x_.wrapped))):Option Bool) fun e6=>(bif e6 then some false else (Option.bind (iter (σ:=Int) (ρ:=Unit ⊕ Bool) (fun a=>(bif (decide (a < (r_.cells.length:Int))) then (Option.bind (idx r_.cells a) fun b=>(Option.bind ((Option.bind (idx x_.l a) fun c=>(bif ((IntKind.i64.wrap b.rune) != c.rune) then some true else (Option.bind (idx x_.l a) fun d=>(bif (b.aM != d.aM) then some true else (Option.bind (idx x_.l a) fun e=>some (b.part != e.part)))))):Option Bool) fun f=>(bif f then (nj (some false)) else some (.inl (IntKind.i64.wrap (a+1)))))) else some (.inr (.inl ())))) 0) fun | .inl e712=>some true | .inr w=>some w)))
noncomputable def jQ (l:List aH) (x_:List bW):Option Bool :=
 (bif ((l.length:Int) != (x_.length:Int)) then some false else (Option.bind (iter (σ:=Int) (ρ:=Unit ⊕ Bool) (fun a=>(bif (decide (a < (l.length:Int))) then (Option.bind (idx l a) fun b=>(Option.bind ((Option.bind (idx x_ a) fun c=>(bif ((IntKind.i64.wrap b.rune) != c.rune) then some true else (Option.bind (idx x_ a) fun d=>some (b.aM != d.aM)))):Option Bool) fun e=>(bif e then (nj (some false)) else some (.inl (IntKind.i64.wrap (a+1)))))) else some (.inr (.inl ())))) 0) fun | .inl e523=>some true | .inr w=>some w))
end Go.Tw.X
set_option linter.unusedVariables false
set_option linter.unusedSimpArgs false
set_option maxRecDepth 10000
namespace Go.Tw.X
open Go Go.Tw
noncomputable def kD (r_:Int):Option ByteArray :=
 (Option.bind ((bif (decide (r_ < 0)) then some true else (bif (decide (r_ > 1114111)) then some true else (bif (decide (r_≥55296)) then some (decide (r_≤57343)) else some false))):Option Bool) fun e8=>(Option.bind ((bif e8 then some 65533 else some r_):Option Int) fun a=>(bif (decide (a < 128)) then some (iP [(IntKind.u8.wrap a)]) else (bif (decide (a < 2048)) then some (iP [(IntKind.u8.wrap (IntKind.i64.wrap (192+(IntKind.i64.wrap (a.tdiv 64))))),(IntKind.u8.wrap (IntKind.i64.wrap (128+(a.tmod 64))))]) else (bif (decide (a < 65536)) then some (iP [(IntKind.u8.wrap (IntKind.i64.wrap (224+(IntKind.i64.wrap (a.tdiv 4096))))),(IntKind.u8.wrap (IntKind.i64.wrap (128+((IntKind.i64.wrap (a.tdiv 64)).tmod 64)))),(IntKind.u8.wrap (IntKind.i64.wrap (128+(a.tmod 64))))]) else some (iP [(IntKind.u8.wrap (IntKind.i64.wrap (240+(IntKind.i64.wrap (a.tdiv 262144))))),(IntKind.u8.wrap (IntKind.i64.wrap (128+((IntKind.i64.wrap (a.tdiv 4096)).tmod 64)))),(IntKind.u8.wrap (IntKind.i64.wrap (128+((IntKind.i64.wrap (a.tdiv 64)).tmod 64)))),(IntKind.u8.wrap (IntKind.i64.wrap (128+(a.tmod 64))))]))))))
noncomputable def l4 (b:Int):Option (Int×Int×Int) :=
 (Option.bind ((bif (decide (b≥194)) then some (decide (b≤223)) else some false):Option Bool) fun e4=>(bif e4 then some (1,128,191) else (bif (b == 224) then some (2,160,191) else (bif (b == 237) then some (2,128,159) else (Option.bind ((bif (decide (b≥225)) then some (decide (b≤239)) else some false):Option Bool) fun a=>(bif a then some (2,128,191) else (bif (b == 240) then some (3,144,191) else (bif (b == 244) then some (3,128,143) else (Option.bind ((bif (decide (b≥241)) then some (decide (b≤243)) else some false):Option Bool) fun c=>(bif c then some (3,128,191) else some (0,0,0)))))))))))
noncomputable def lh (s_:ByteArray):Option ((List Int)×Int) :=
 (Option.bind (iter (σ:=(List Int)×Int) (ρ:=(List Int) ⊕ ((List Int)×Int)) (fun a=>(bif (decide (a.2 < (s_.size:Int))) then (Option.bind (kW s_ a.2) fun b696=>(bif (decide ((IntKind.i64.wrap b696) < 128)) then (Option.bind (chk (dB a.1.length [(IntKind.i64.wrap b696)].length 8)) fun _=>some (.inl ((a.1++[(IntKind.i64.wrap b696)]),(IntKind.i64.wrap (a.2+1))))) else (Option.bind (l4 (IntKind.i64.wrap b696)) fun c=>(bif (c.1 == 0) then (Option.bind (chk (dB a.1.length [65533].length 8)) fun _=>some (.inl ((a.1++[65533]),(IntKind.i64.wrap (a.2+1))))) else (Option.bind (idx [0,32,16,8] c.1) fun e=>(Option.bind (chk (decide (e≠0))) fun _=>(Option.bind (iter (σ:=Int×Int×Int×Int) (ρ:=Int×Int) (fun b=>(Option.bind ((bif (decide (b.2.1≤c.1)) then some (decide ((IntKind.i64.wrap (a.2+b.2.1)) < (s_.size:Int))) else some false):Option Bool) fun f=>(bif f then (Option.bind (kW s_ (IntKind.i64.wrap (a.2+b.2.1))) fun b839=>(Option.bind ((bif (decide ((IntKind.i64.wrap b839) < b.2.2.1)) then some true else some (decide ((IntKind.i64.wrap b839) > b.2.2.2))):Option Bool) fun g=>(bif g then some (.inr (b.1,b.2.1)) else some (.inl ((IntKind.i64.wrap ((IntKind.i64.wrap (b.1*64))+((IntKind.i64.wrap b839).tmod 64))),(IntKind.i64.wrap (b.2.1+1)),128,191))))) else some (.inr (b.1,b.2.1))))) (((IntKind.i64.wrap b696).tmod e),1,c.2.1,c.2.2)) fun d=>(Option.bind ((bif (decide (d.2 > c.1)) then (Option.bind (chk (dB a.1.length [d.1].length 8)) fun _=>some (.inl (a.1++[d.1]))) else (bif ((IntKind.i64.wrap (a.2+d.2)) == (s_.size:Int)) then (jH (nj (some (a.1,d.2)))) else (Option.bind (chk (dB a.1.length [65533].length 8)) fun _=>some (.inl (a.1++[65533]))))):Option ((List Int) ⊕ (((List Int)×Int) ⊕ ((List Int) ⊕ ((List Int)×Int))))) fun | .inl e891=>some (.inl (e891,(IntKind.i64.wrap (a.2+d.2)))) | .inr w=>some w)))))))) else some (.inr (.inl a.1)))) (([]:List Int),0)) fun | .inl e686=>some (e686,0) | .inr w=>some w)
end Go.Tw.X
set_option linter.unusedVariables false
set_option linter.unusedSimpArgs false
set_option maxRecDepth 10000
namespace Go.Tw.X
open Go Go.Tw
structure cH where
 w:Int
 l:List aR
 deriving DecidableEq,Inhabited
noncomputable def jt (n_:Int):Option Int :=
 some (imax 1 (dQ n_ 1000))
noncomputable def mU (w:Int) (h_:Int):Option cH :=
 (Option.bind (jt w) fun r2=>(Option.bind (iter (σ:=cH×Int) (ρ:=cH) (fun a=>(Option.bind (jt h_) fun c=>(bif (decide (a.2 < c)) then (Option.bind (fA a.1.w 0) fun b=>(Option.bind (chk (dB a.1.l.length [b].length 32)) fun _=>some (.inl ((cH.mk a.1.w (a.1.l++[b])),(IntKind.i64.wrap (a.2+1)))))) else some (.inr a.1)))) ((cH.mk r2 ([]:List aR)),0)) fun d=>some d))
noncomputable def kE (g:cH) (y:Int) (r_:aR):Option (cH×Bool) :=
 (Option.bind ((bif (decide (y < 0)) then some true else some (decide (y≥(g.l.length:Int)))):Option Bool) fun e7=>(bif e7 then some (g,false) else (Option.bind (chk (dB ([]:List aR).length g.l.length 32)) fun _=>(Option.bind (iS r_ g.w) fun a=>(Option.bind (idx (([]:List aR)++g.l) y) fun b=>some ((cH.mk g.w ((([]:List aR)++g.l).set y.toNat a)),true))))))
noncomputable def dC (g:cH) (up:Bool) (top:Int) (aI:Int) (n_:Int) (aM:Int):Option (cH×(List aR)) :=
 (bif (decide ((imax 0 (dQ aI (IntKind.i64.wrap ((g.l.length:Int) - 1)))) < (imax 0 (dQ top (IntKind.i64.wrap ((g.l.length:Int) - 1)))))) then some (g,([]:List aR)) else (Option.bind (chk (dB ([]:List aR).length g.l.length 32)) fun _=>(Option.bind (fA g.w aM) fun d=>(Option.bind (iter (σ:=(List aR)×(List aR)×Int) (ρ:=(List aR)×(List aR)) (fun a=>(Option.bind ((bif (decide (a.2.2 < n_)) then some (decide (a.2.2≤(IntKind.i64.wrap ((imax 0 (dQ aI (IntKind.i64.wrap ((g.l.length:Int) - 1)))) - (imax 0 (dQ top (IntKind.i64.wrap ((g.l.length:Int) - 1)))))))) else some false):Option Bool) fun m=>(bif m then (Option.bind ((bif up then (Option.bind (idx a.2.1 (imax 0 (dQ top (IntKind.i64.wrap ((g.l.length:Int) - 1))))) fun e=>(Option.bind (chk (dB a.1.length [e].length 32)) fun _=>(Option.bind (iter (σ:=(List aR)×Int) (ρ:=(List aR)) (fun b=>(bif (decide (b.2 < (imax 0 (dQ aI (IntKind.i64.wrap ((g.l.length:Int) - 1)))))) then (Option.bind (idx b.1 (IntKind.i64.wrap (b.2+1))) fun n=>(Option.bind (idx b.1 b.2) fun p=>some (.inl ((b.1.set b.2.toNat n),(IntKind.i64.wrap (b.2+1)))))) else some (.inr b.1))) (a.2.1,(imax 0 (dQ top (IntKind.i64.wrap ((g.l.length:Int) - 1)))))) fun f=>(Option.bind (idx f (imax 0 (dQ aI (IntKind.i64.wrap ((g.l.length:Int) - 1))))) fun q=>some ((a.1++[e]),(f.set ((imax 0 (dQ aI (IntKind.i64.wrap ((g.l.length:Int) - 1)))).toNat) d)))))) else (Option.bind (idx a.2.1 (imax 0 (dQ aI (IntKind.i64.wrap ((g.l.length:Int) - 1))))) fun h=>(Option.bind (chk (dB a.1.length [h].length 32)) fun _=>(Option.bind (iter (σ:=(List aR)×Int) (ρ:=(List aR)) (fun c=>(bif (decide (c.2 > (imax 0 (dQ top (IntKind.i64.wrap ((g.l.length:Int) - 1)))))) then (Option.bind (idx c.1 (IntKind.i64.wrap (c.2 - 1))) fun o=>(Option.bind (idx c.1 c.2) fun r=>some (.inl ((c.1.set c.2.toNat o),(IntKind.i64.wrap (c.2 - 1)))))) else some (.inr c.1))) (a.2.1,(imax 0 (dQ aI (IntKind.i64.wrap ((g.l.length:Int) - 1)))))) fun i=>(Option.bind (idx i (imax 0 (dQ top (IntKind.i64.wrap ((g.l.length:Int) - 1))))) fun s=>some ((a.1++[h]),(i.set ((imax 0 (dQ top (IntKind.i64.wrap ((g.l.length:Int) - 1)))).toNat) d))))))):Option ((List aR)×(List aR))) fun j=>some (.inl (j.1,j.2,(IntKind.i64.wrap (a.2.2+1))))) else some (.inr (a.1,a.2.1))))) (([]:List aR),(([]:List aR)++g.l),0)) fun k=>some ((cH.mk g.w k.2),k.1)))))
noncomputable def kF (g:cH) (w:Int) (h_:Int) (off:Int):Option (cH×(List aR)) :=
 (Option.bind (jt w) fun r3=>(Option.bind (iter (σ:=cH×Int) (ρ:=cH) (fun a=>(Option.bind (jt h_) fun d=>(bif (decide (a.2 < d)) then (Option.bind ((bif (decide ((IntKind.i64.wrap ((imax 0 (dQ off (IntKind.i64.wrap ((g.l.length:Int) - 1))))+a.2)) < (g.l.length:Int))) then (Option.bind (idx g.l (IntKind.i64.wrap ((imax 0 (dQ off (IntKind.i64.wrap ((g.l.length:Int) - 1))))+a.2))) fun e=>(Option.bind (iS e a.1.w) fun b=>(Option.bind (chk (dB a.1.l.length [b].length 32)) fun _=>some (cH.mk a.1.w (a.1.l++[b]))))) else (Option.bind (fA a.1.w 0) fun c=>(Option.bind (chk (dB a.1.l.length [c].length 32)) fun _=>some (cH.mk a.1.w (a.1.l++[c]))))):Option cH) fun f=>some (.inl (f,(IntKind.i64.wrap (a.2+1))))) else some (.inr a.1)))) ((cH.mk r3 ([]:List aR)),0)) fun h=>(Option.bind (chk (cW 0 (imax 0 (dQ off (IntKind.i64.wrap ((g.l.length:Int) - 1)))) g.l.length)) fun _=>some (h,(cut g.l 0 (imax 0 (dQ off (IntKind.i64.wrap ((g.l.length:Int) - 1)))))))))
noncomputable def l5 (r_:aR):Option ByteArray :=
 (Option.bind (jP r_) fun r2=>(Option.bind (iter (σ:=ByteArray×Int) (ρ:=ByteArray) (fun a=>(bif (decide (a.2 < (r2.length:Int))) then (Option.bind (idx r2 a.2) fun c=>(Option.bind (kD c.rune) fun b=>(Option.bind (chk (vI a.1.size b.size)) fun _=>some (.inl ((a.1++b),(IntKind.i64.wrap (a.2+1))))))) else some (.inr a.1))) ((ByteArray.mk #[]),0)) fun d=>some d))
end Go.Tw.X
set_option linter.unusedVariables false
set_option linter.unusedSimpArgs false
set_option maxRecDepth 10000
namespace Go.Tw.X
open Go Go.Tw
noncomputable def gN (l:List aE) (x_:List aR):Option Bool :=
 (bif ((l.length:Int) != (x_.length:Int)) then some false else (Option.bind (iter (σ:=Int) (ρ:=Unit ⊕ Bool) (fun a=>(bif (decide (a < (x_.length:Int))) then (Option.bind (idx l a) fun b=>(Option.bind (idx x_ a) fun c=>(Option.bind (kC b c) fun d=>(bif (!d) then (nj (some false)) else some (.inl (IntKind.i64.wrap (a+1))))))) else some (.inr (.inl ())))) 0) fun | .inl e571=>some true | .inr w=>some w))
noncomputable def mF (g:aX) (x_:cH):Option (Bool×aX) :=
 (Option.bind (cX g) fun r2=>(Option.bind (jL g) fun r5=>(Option.bind ((bif (r2.1 != x_.w) then some (true,g) else (bif (r2.2 != (x_.l.length:Int)) then some (true,g) else (Option.bind (iM g) fun a=>(Option.bind (gN a.1 x_.l) fun e=>(bif (!e) then some (true,a.2) else (bif ((r5.length:Int) != r2.2) then some (true,a.2) else (Option.bind (dH a.2 (-1)) fun f=>(bif ((f.cells.length:Int) != 0) then some (true,a.2) else (Option.bind (dH a.2 r2.2) fun h=>some (((h.cells.length:Int) != 0),a.2)))))))))):Option (Bool×aX)) fun b=>(bif b.1 then some (false,b.2) else (Option.bind (iter (σ:=Int) (ρ:=Unit ⊕ (Bool×aX)) (fun c=>(bif (decide (c < (x_.l.length:Int))) then (Option.bind (idx x_.l c) fun d=>(Option.bind ((Option.bind (dH b.2 c) fun i=>(Option.bind (kC i d) fun j=>(bif (!j) then some true else (Option.bind (idx r5 c) fun k=>(Option.bind (l5 d) fun m=>some (!(k.toList == m.toList))))))):Option Bool) fun n=>(bif n then (nj (some (false,b.2))) else some (.inl (IntKind.i64.wrap (c+1)))))) else some (.inr (.inl ())))) 0) fun | .inl e935=>some (true,b.2) | .inr w=>some w)))))
end Go.Tw.X
set_option linter.unusedVariables false
set_option linter.unusedSimpArgs false
set_option maxRecDepth 10000
namespace Go.Tw.X
open Go Go.Tw
structure aO where
 kind:Int
 rune:Int
 byte:Int
 cF:Bool
 bA:List Int
 text:ByteArray
 deriving DecidableEq,Inhabited
noncomputable def kG (l:List Int):Option (List aO) :=
 (Option.bind (iter (σ:=(List aO)×Int) (ρ:=(List aO)) (fun a=>(bif (decide (a.2 < (l.length:Int))) then (Option.bind (idx l a.2) fun b=>(Option.bind (chk (dB a.1.length ([(aO.mk 1 b 0 false ([]:List Int) (ByteArray.mk #[]))]).length 72)) fun _=>some (.inl ((a.1++[(aO.mk 1 b 0 false ([]:List Int) (ByteArray.mk #[]))]),(IntKind.i64.wrap (a.2+1)))))) else some (.inr a.1))) (([]:List aO),0)) fun c=>some c)
noncomputable def jR (s_:ByteArray):Option (List aO) :=
 (Option.bind ((bif (decide ((s_.size:Int) > 200)) then (Option.bind (chk (cW 0 200 s_.size)) fun _=>some (mB s_ 0 200)) else some s_):Option ByteArray) fun e8=>(Option.bind ((bif (decide ((e8.size:Int) > 1)) then (Option.bind (kW e8 0) fun b49=>(bif (b49 == 48) then (Option.bind (kW e8 1) fun b53=>some (b53 == 59)) else (Option.bind (kW e8 0) fun b56=>(bif (b56 == 50) then (Option.bind (kW e8 1) fun b60=>some (b60 == 59)) else some false)))) else some false):Option Bool) fun a=>(bif a then (Option.bind (chk (cW 2 (e8.size:Int) e8.size)) fun _=>some ([(aO.mk 5 0 0 false ([]:List Int) (mB e8 2 (e8.size:Int)))])) else some ([]:List aO))))
noncomputable def lj (s_:ByteArray) (last:Int):Option (List aO) :=
 (Option.bind ((bif (!(s_.toList == (ByteArray.mk #[]).toList)) then (Option.bind (kW s_ 0) fun b15=>some (b15 == 63)) else some false):Option Bool) fun c=>(Option.bind ((bif c then (Option.bind (chk (cW 1 (s_.size:Int) s_.size)) fun _=>some ((mB s_ 1 (s_.size:Int)),(aO.mk 4 0 last true ([]:List Int) (ByteArray.mk #[])))) else some (s_,(aO.mk 4 0 last false ([]:List Int) (ByteArray.mk #[])))):Option (ByteArray×aO)) fun b=>(bif (b.1.toList == (ByteArray.mk #[]).toList) then some [b.2] else (Option.bind (iter (σ:=aO×Int×Int) (ρ:=aO ⊕ (List aO)) (fun a=>(bif (decide (a.2.2≤(b.1.size:Int))) then (Option.bind ((Option.bind ((bif (decide (a.2.2 < (b.1.size:Int))) then (Option.bind (kW b.1 a.2.2) fun b1247=>(bif (decide (b1247≥48)) then (Option.bind (kW b.1 a.2.2) fun b1251=>some (decide (b1251≤57))) else some false)) else some false):Option Bool) fun d=>(bif d then (Option.bind (kW b.1 a.2.2) fun b1259=>some (.inl ((dQ 9999 (IntKind.i64.wrap ((IntKind.i64.wrap ((IntKind.i64.wrap (10*a.2.1))+(IntKind.i64.wrap b1259))) - 48))),a.1))) else (Option.bind ((bif (decide (a.2.2 < (b.1.size:Int))) then (Option.bind (kW b.1 a.2.2) fun b1283=>(bif (b1283 != 59) then (Option.bind (kW b.1 a.2.2) fun b1287=>some (b1287 != 58)) else some false)) else some false):Option Bool) fun e=>(bif e then (jH (nj (some ([]:List aO)))) else (Option.bind ((bif (decide ((a.1.bA.length:Int) < 16)) then (Option.bind (chk (dB a.1.bA.length [a.2.1].length 8)) fun _=>some (aO.mk a.1.kind a.1.rune a.1.byte a.1.cF (a.1.bA++[a.2.1]) a.1.text)) else some a.1):Option aO) fun f=>some (.inl (0,f))))))):Option ((Int×aO) ⊕ ((aO×Int×Int) ⊕ (aO ⊕ (List aO))))) fun | .inl e1222=>some (.inl (e1222.2,e1222.1,(IntKind.i64.wrap (a.2.2+1)))) | .inr w=>some w) else some (.inr (.inl a.1)))) (b.2,0,0)) fun | .inl e1007=>some [e1007] | .inr w=>some w))))
noncomputable def l6 (s_:ByteArray):Option (List aO) :=
 (Option.bind (iter (σ:=(List aO)×Int×Int×ByteArray) (ρ:=(List aO) ⊕ (List aO)) (fun a=>(bif (decide (a.2.2.1 < (s_.size:Int))) then (Option.bind ((bif (a.2.1 == 0) then (Option.bind (iter (σ:=Int) (ρ:=Int) (fun b=>(Option.bind ((bif (decide (b < (s_.size:Int))) then (Option.bind (kW s_ b) fun b3441=>(bif (decide (b3441≥32)) then (Option.bind (kW s_ b) fun b3445=>some (b3445 != 127)) else some false)) else some false):Option Bool) fun i=>(bif i then some (.inl (IntKind.i64.wrap (b+1))) else some (.inr b)))) a.2.2.1) fun d=>(Option.bind (chk (cW a.2.2.1 d s_.size)) fun _=>(Option.bind (lh (mB s_ a.2.2.1 d)) fun e=>(Option.bind (kG e.1) fun c=>(Option.bind (chk (dB a.1.length c.length 72)) fun _=>(bif (d == (s_.size:Int)) then (jH (nj (some (a.1++c)))) else (Option.bind ((bif (decide (e.2 > 0)) then (Option.bind (chk (dB (a.1++c).length ([(aO.mk 1 65533 0 false ([]:List Int) (ByteArray.mk #[]))]).length 72)) fun _=>some ((a.1++c)++[(aO.mk 1 65533 0 false ([]:List Int) (ByteArray.mk #[]))])) else some (a.1++c)):Option (List aO)) fun j=>some (.inl (j,d))))))))) else some (.inl (a.1,a.2.2.1))):Option (((List aO)×Int) ⊕ (((List aO)×Int×Int×ByteArray) ⊕ ((List aO) ⊕ (List aO))))) fun | .inl e3313=>(Option.bind (kW s_ e3313.2) fun b3514=>(bif (a.2.1 == 4) then (Option.bind ((bif ((IntKind.i64.wrap b3514) == 7) then (Option.bind (jR a.2.2.2) fun f=>(Option.bind (chk (dB e3313.1.length f.length 72)) fun _=>some (.inl ((e3313.1++f),0,(IntKind.i64.wrap (e3313.2+1)),a.2.2.2)))) else (Option.bind ((bif ((IntKind.i64.wrap b3514) == 24) then some true else some ((IntKind.i64.wrap b3514) == 26)):Option Bool) fun k=>(bif k then some (.inl (e3313.1,0,(IntKind.i64.wrap (e3313.2+1)),a.2.2.2)) else (bif ((IntKind.i64.wrap b3514) != 27) then (Option.bind (chk (vI a.2.2.2.size (iP [(IntKind.u8.wrap (IntKind.i64.wrap b3514))]).size)) fun _=>some (.inl (e3313.1,a.2.1,(IntKind.i64.wrap (e3313.2+1)),(a.2.2.2++(iP [(IntKind.u8.wrap (IntKind.i64.wrap b3514))]))))) else (bif ((IntKind.i64.wrap (e3313.2+1)) == (s_.size:Int)) then (jH (nj (some e3313.1))) else (Option.bind (kW s_ (IntKind.i64.wrap (e3313.2+1))) fun b3795=>(bif (b3795 == 92) then (Option.bind (jR a.2.2.2) fun g=>(Option.bind (chk (dB e3313.1.length g.length 72)) fun _=>some (.inl ((e3313.1++g),0,(IntKind.i64.wrap ((IntKind.i64.wrap (e3313.2+1))+1)),a.2.2.2)))) else some (.inl (e3313.1,1,(IntKind.i64.wrap (e3313.2+1)),a.2.2.2))))))))):Option (((List aO)×Int×Int×ByteArray) ⊕ (((List aO)×Int×Int×ByteArray) ⊕ ((List aO) ⊕ (List aO))))) fun | .inl e3759=>some (.inl (e3759.1,e3759.2.1,e3759.2.2.1,e3759.2.2.2)) | .inr w=>some w) else (Option.bind ((bif ((IntKind.i64.wrap b3514) == 24) then some true else some ((IntKind.i64.wrap b3514) == 26)):Option Bool) fun l=>(bif l then some (.inl (e3313.1,0,(IntKind.i64.wrap (e3313.2+1)),a.2.2.2)) else (bif ((IntKind.i64.wrap b3514) == 27) then some (.inl (e3313.1,1,(IntKind.i64.wrap (e3313.2+1)),a.2.2.2)) else (bif (decide ((IntKind.i64.wrap b3514) < 32)) then (Option.bind (chk (dB e3313.1.length ([(aO.mk 2 0 (IntKind.i64.wrap b3514) false ([]:List Int) (ByteArray.mk #[]))]).length 72)) fun _=>some (.inl ((e3313.1++[(aO.mk 2 0 (IntKind.i64.wrap b3514) false ([]:List Int) (ByteArray.mk #[]))]),a.2.1,(IntKind.i64.wrap (e3313.2+1)),a.2.2.2))) else (bif ((IntKind.i64.wrap b3514) == 127) then some (.inl (e3313.1,a.2.1,(IntKind.i64.wrap (e3313.2+1)),a.2.2.2)) else (bif (a.2.1 == 1) then (bif ((IntKind.i64.wrap b3514) == 91) then some (.inl (e3313.1,3,(IntKind.i64.wrap (e3313.2+1)),(ByteArray.mk #[]))) else (bif ((IntKind.i64.wrap b3514) == 93) then some (.inl (e3313.1,4,(IntKind.i64.wrap (e3313.2+1)),(ByteArray.mk #[]))) else (bif (decide ((IntKind.i64.wrap b3514) < 48)) then some (.inl (e3313.1,2,(IntKind.i64.wrap (e3313.2+1)),(ByteArray.mk #[]))) else (bif (decide ((IntKind.i64.wrap b3514) < 127)) then (Option.bind (chk (dB e3313.1.length ([(aO.mk 3 0 (IntKind.i64.wrap b3514) false ([]:List Int) (ByteArray.mk #[]))]).length 72)) fun _=>some (.inl ((e3313.1++[(aO.mk 3 0 (IntKind.i64.wrap b3514) false ([]:List Int) (ByteArray.mk #[]))]),0,(IntKind.i64.wrap (e3313.2+1)),(ByteArray.mk #[])))) else some (.inl (e3313.1,0,(IntKind.i64.wrap (e3313.2+1)),(ByteArray.mk #[]))))))) else (bif (a.2.1 == 2) then (bif (decide ((IntKind.i64.wrap b3514)≥48)) then some (.inl (e3313.1,0,(IntKind.i64.wrap (e3313.2+1)),a.2.2.2)) else some (.inl (e3313.1,a.2.1,(IntKind.i64.wrap (e3313.2+1)),a.2.2.2))) else (bif (a.2.1 == 3) then (Option.bind ((bif (decide ((IntKind.i64.wrap b3514) < 64)) then some true else some (decide ((IntKind.i64.wrap b3514) > 126))):Option Bool) fun m=>(bif m then (Option.bind (chk (vI a.2.2.2.size (iP [(IntKind.u8.wrap (IntKind.i64.wrap b3514))]).size)) fun _=>some (.inl (e3313.1,a.2.1,(IntKind.i64.wrap (e3313.2+1)),(a.2.2.2++(iP [(IntKind.u8.wrap (IntKind.i64.wrap b3514))]))))) else (Option.bind (lj a.2.2.2 (IntKind.i64.wrap b3514)) fun h=>(Option.bind (chk (dB e3313.1.length h.length 72)) fun _=>some (.inl ((e3313.1++h),0,(IntKind.i64.wrap (e3313.2+1)),a.2.2.2)))))) else some (.inl (e3313.1,a.2.1,(IntKind.i64.wrap (e3313.2+1)),a.2.2.2)))))))))))) | .inr w=>some w) else some (.inr (.inl a.1)))) (([]:List aO),0,0,(ByteArray.mk #[]))) fun | .inl e2912=>some e2912 | .inr w=>some w)
end Go.Tw.X
set_option linter.unusedVariables false
set_option linter.unusedSimpArgs false
set_option maxRecDepth 10000
namespace Go.Tw.X
open Go Go.Tw
structure bK where
 fC:Int
 back:Int
 bold:Bool
 under:Bool
 cO:Bool
 deriving DecidableEq,Inhabited
noncomputable def mV (s_:bK):Option Bool :=
 (Option.bind ((bif (decide (s_.fC≥0)) then (bif (decide (s_.fC≤8)) then (bif (decide (s_.back≥0)) then some (decide (s_.back≤8)) else some false) else some false) else some false):Option Bool) fun e9=>some e9)
noncomputable def iF (s_:bK):Option Int :=
 (Option.bind (mV s_) fun r2=>(bif (!r2) then some 0 else (Option.bind ((bif s_.bold then some (IntKind.i64.wrap ((IntKind.i64.wrap (s_.fC+(IntKind.i64.wrap (9*s_.back))))+81)) else some (IntKind.i64.wrap (s_.fC+(IntKind.i64.wrap (9*s_.back))))):Option Int) fun a=>(Option.bind ((bif s_.under then some (IntKind.i64.wrap (a+162)) else some a):Option Int) fun b=>(Option.bind ((bif s_.cO then some (IntKind.i64.wrap (b+324)) else some b):Option Int) fun c=>some c)))))
noncomputable def mW (s_:bK) (l:List Int):Option bK :=
 (bif ((l.length:Int) == 0) then some (bK.mk 0 0 false false false) else (Option.bind (iter (σ:=bK×Int×Int) (ρ:=bK) (fun b=>(bif (decide (b.2.1 < (l.length:Int))) then (Option.bind ((Option.bind (idx l b.2.1) fun a=>(bif (decide (b.2.2 > 0)) then some ((IntKind.i64.wrap (b.2.2 - 1)),b.1) else (Option.bind ((bif (a == 38) then some true else some (a == 48)):Option Bool) fun m=>(bif m then (Option.bind ((bif (decide ((IntKind.i64.wrap (b.2.1+1)) < (l.length:Int))) then (Option.bind (idx l (IntKind.i64.wrap (b.2.1+1))) fun n=>some (n == 5)) else some false):Option Bool) fun o=>(Option.bind ((bif o then some 2 else some b.2.2):Option Int) fun p=>(Option.bind ((bif (decide ((IntKind.i64.wrap (b.2.1+1)) < (l.length:Int))) then (Option.bind (idx l (IntKind.i64.wrap (b.2.1+1))) fun q=>some (q == 2)) else some false):Option Bool) fun r=>(Option.bind ((bif r then some 4 else some p):Option Int) fun t=>some (t,b.1))))) else (Option.bind ((bif (a == 0) then some (bK.mk 0 0 false false false) else some b.1):Option bK) fun c=>(Option.bind ((bif (a == 1) then some true else some (a == 22)):Option Bool) fun u=>(Option.bind ((bif u then some (bK.mk c.fC c.back (decide (a < 10)) c.under c.cO) else some c):Option bK) fun d=>(Option.bind ((bif (a == 4) then some true else some (a == 24)):Option Bool) fun v=>(Option.bind ((bif v then some (bK.mk d.fC d.back d.bold (decide (a < 10)) d.cO) else some d):Option bK) fun e=>(Option.bind ((bif (a == 7) then some true else some (a == 27)):Option Bool) fun w=>(Option.bind ((bif w then some (bK.mk e.fC e.back e.bold e.under (decide (a < 10))) else some e):Option bK) fun f=>(Option.bind ((bif (decide (a≥30)) then some (decide (a≤37)) else some false):Option Bool) fun z=>(Option.bind ((bif z then some (bK.mk (IntKind.i64.wrap (a - 29)) f.back f.bold f.under f.cO) else some f):Option bK) fun h=>(Option.bind ((bif (a == 39) then some (bK.mk 0 h.back h.bold h.under h.cO) else some h):Option bK) fun i=>(Option.bind ((bif (decide (a≥40)) then some (decide (a≤47)) else some false):Option Bool) fun A=>(Option.bind ((bif A then some (bK.mk i.fC (IntKind.i64.wrap (a - 39)) i.bold i.under i.cO) else some i):Option bK) fun j=>(bif (a == 49) then some (b.2.2,(bK.mk j.fC 0 j.bold j.under j.cO)) else some (b.2.2,j)))))))))))))))))):Option (Int×bK)) fun k=>some (.inl (k.2,(IntKind.i64.wrap (b.2.1+1)),k.1))) else some (.inr b.1))) (s_,0,0)) fun B=>some B))
end Go.Tw.X
set_option linter.unusedVariables false
set_option linter.unusedSimpArgs false
set_option maxRecDepth 10000
namespace Go.Tw.X
open Go Go.Tw
structure aK where
 g:cH
 x:Int
 y:Int
 s:bK
 sX:Int
 sY:Int
 sS:bK
 waiting:Bool
 top:Int
 aI:Int
 aY:Bool
 title:ByteArray
 deriving DecidableEq,Inhabited
noncomputable def lO (w:Int) (h_:Int):Option aK :=
 (Option.bind (mU w h_) fun r2=>some (aK.mk r2 0 0 (bK.mk 0 0 false false false) 0 0 (bK.mk 0 0 false false false) false 0 (IntKind.i64.wrap ((r2.l.length:Int) - 1)) true (ByteArray.mk #[])))
noncomputable def hG (s_:aK) (r_:aR):Option aK :=
 (Option.bind (kE s_.g s_.y r_) fun r4=>some (aK.mk r4.1 s_.x s_.y s_.s s_.sX s_.sY s_.sS s_.waiting s_.top s_.aI s_.aY s_.title))
noncomputable def jS (s_:aK) (n_:Int):Option (aK×(List aR)) :=
 (Option.bind (iF s_.s) fun b=>(Option.bind (dC s_.g true s_.top s_.aI n_ b) fun a=>(bif (decide (s_.top > 0)) then some ((aK.mk a.1 s_.x s_.y s_.s s_.sX s_.sY s_.sS s_.waiting s_.top s_.aI s_.aY s_.title),([]:List aR)) else some ((aK.mk a.1 s_.x s_.y s_.s s_.sX s_.sY s_.sS s_.waiting s_.top s_.aI s_.aY s_.title),a.2))))
noncomputable def cI (s_:aK) (x_:Int) (y:Int):Option aK :=
 some (aK.mk s_.g (imax 0 (dQ x_ (IntKind.i64.wrap (s_.g.w - 1)))) (imax 0 (dQ y (IntKind.i64.wrap ((s_.g.l.length:Int) - 1)))) s_.s s_.sX s_.sY s_.sS false s_.top s_.aI s_.aY s_.title)
noncomputable def fB (s_:aK):Option (aK×(List aR)) :=
 (bif (s_.y == s_.aI) then (Option.bind (jS (aK.mk s_.g s_.x s_.y s_.s s_.sX s_.sY s_.sS false s_.top s_.aI s_.aY s_.title) 1) fun a=>some (a.1,a.2)) else (Option.bind (cI (aK.mk s_.g s_.x s_.y s_.s s_.sX s_.sY s_.sS false s_.top s_.aI s_.aY s_.title) s_.x (IntKind.i64.wrap (s_.y+1))) fun b=>some (b,([]:List aR))))
noncomputable def l7 (s_:aK) (r_:Int):Option (aK×(List aR)) :=
 (Option.bind (mE r_) fun r3=>(Option.bind ((bif (r3 == 0) then some true else some (decide (r3 > s_.g.w))):Option Bool) fun e9=>(bif e9 then some (s_,([]:List aR)) else (Option.bind (iF s_.s) fun i=>(Option.bind ((bif s_.waiting then some s_.aY else some false):Option Bool) fun j=>(Option.bind ((bif j then (Option.bind (idx s_.g.l s_.y) fun k=>(Option.bind (hG s_ (aR.mk k.l true)) fun c=>(Option.bind (fB (aK.mk c.g 0 c.y c.s c.sX c.sY c.sS c.waiting c.top c.aI c.aY c.title)) fun f=>(Option.bind (chk (dB ([]:List aR).length f.2.length 32)) fun _=>some ((([]:List aR)++f.2),f.1))))) else some (([]:List aR),s_)):Option ((List aR)×aK)) fun b=>(Option.bind ((bif (r3 == 2) then some (b.2.x == (IntKind.i64.wrap (b.2.g.w - 1))) else some false):Option Bool) fun m=>(Option.bind ((bif m then (bif b.2.aY then (Option.bind (idx b.2.g.l b.2.y) fun n=>(Option.bind (jW n i) fun o=>(Option.bind (hG b.2 o) fun d=>(Option.bind (fB (aK.mk d.g 0 d.y d.s d.sX d.sY d.sS d.waiting d.top d.aI d.aY d.title)) fun h=>(Option.bind (chk (dB b.1.length h.2.length 32)) fun _=>some ((b.1++h.2),h.1)))))) else some (b.1,(aK.mk b.2.g (IntKind.i64.wrap (b.2.x - 1)) b.2.y b.2.s b.2.sX b.2.sY b.2.sS b.2.waiting b.2.top b.2.aI b.2.aY b.2.title))) else some (b.1,b.2)):Option ((List aR)×aK)) fun e=>(Option.bind (idx e.2.g.l e.2.y) fun p=>(Option.bind (lN p e.2.x r_ i) fun q=>(Option.bind (hG e.2 q) fun a=>(Option.bind ((bif ((IntKind.i64.wrap (a.x+r3)) == a.g.w) then some (aK.mk a.g (IntKind.i64.wrap ((IntKind.i64.wrap (a.x+r3)) - 1)) a.y a.s a.sX a.sY a.sS ((IntKind.i64.wrap (a.x+r3)) == a.g.w) a.top a.aI a.aY a.title) else some (aK.mk a.g (IntKind.i64.wrap (a.x+r3)) a.y a.s a.sX a.sY a.sS ((IntKind.i64.wrap (a.x+r3)) == a.g.w) a.top a.aI a.aY a.title)):Option aK) fun r=>some (r,e.1)))))))))))))
noncomputable def dY (l:List Int) (i:Int) (d:Int):Option Int :=
 (Option.bind ((bif (decide (i < (l.length:Int))) then (Option.bind (idx l i) fun a=>some (decide (a > 0))) else some false):Option Bool) fun b=>(bif b then (Option.bind (idx l i) fun c=>some (dQ c 9999)) else some d))
noncomputable def iG (s_:aK) (y:Int) (from_:Int) (to:Int):Option aK :=
 (Option.bind (idx s_.g.l y) fun a=>(Option.bind (iF s_.s) fun b=>(Option.bind (km a from_ to b) fun c=>(Option.bind (kE s_.g y c) fun d=>some (aK.mk d.1 s_.x s_.y s_.s s_.sX s_.sY s_.sS s_.waiting s_.top s_.aI s_.aY s_.title)))))
noncomputable def ko (s_:aK) (n_:Int) (all:Bool):Option aK :=
 (bif (decide (n_ > 2)) then some s_ else (Option.bind (iter (σ:=aK×Int) (ρ:=aK) (fun a=>(bif (decide (a.2 < (s_.g.l.length:Int))) then (Option.bind ((Option.bind ((bif all then (bif (decide (a.2 < a.1.y)) then (bif (n_ != 0) then some true else (bif (decide (a.2 > a.1.y)) then some (n_ != 1) else some false)) else (bif (decide (a.2 > a.1.y)) then some (n_ != 1) else some false)) else some false):Option Bool) fun d=>(bif d then (Option.bind (iG a.1 a.2 0 a.1.g.w) fun e=>some e) else some a.1)):Option aK) fun f=>some (.inl (f,(IntKind.i64.wrap (a.2+1))))) else some (.inr a.1))) (s_,0)) fun c=>(Option.bind ((bif (n_ == 0) then some c.x else some 0):Option Int) fun h=>(Option.bind ((bif (n_ == 1) then some (IntKind.i64.wrap (c.x+1)) else some c.g.w):Option Int) fun i=>(Option.bind (iG c c.y h i) fun b=>some (aK.mk b.g b.x b.y b.s b.sX b.sY b.sS false b.top b.aI b.aY b.title))))))
noncomputable def kg (s_:aK) (b:Int) (l:List Int):Option (aK×(List aR)) :=
 (Option.bind (dY l 0 1) fun r3=>(Option.bind (iF s_.s) fun r6=>(Option.bind ((Option.bind ((bif (b == 65) then some (b == 65) else some (b == 70)):Option Bool) fun k=>(bif k then (Option.bind ((bif (decide (s_.y≥s_.top)) then some s_.top else some 0):Option Int) fun m=>(Option.bind (cI s_ s_.x (imax m (IntKind.i64.wrap (s_.y - r3)))) fun a=>(bif (b == 70) then some (.inl (aK.mk a.g 0 a.y a.s a.sX a.sY a.sS a.waiting a.top a.aI a.aY a.title)) else some (.inl a)))) else (Option.bind ((bif (b == 66) then some (b == 66) else some (b == 69)):Option Bool) fun n=>(bif n then (Option.bind ((bif (decide (s_.y≤s_.aI)) then some s_.aI else some (IntKind.i64.wrap ((s_.g.l.length:Int) - 1))):Option Int) fun o=>(Option.bind (cI s_ s_.x (dQ o (IntKind.i64.wrap (s_.y+r3)))) fun c=>(bif (b == 69) then some (.inl (aK.mk c.g 0 c.y c.s c.sX c.sY c.sS c.waiting c.top c.aI c.aY c.title)) else some (.inl c)))) else (bif (b == 67) then (Option.bind (cI s_ (IntKind.i64.wrap (s_.x+r3)) s_.y) fun p=>some (.inl p)) else (bif (b == 68) then (Option.bind (cI s_ (IntKind.i64.wrap (s_.x - r3)) s_.y) fun q=>some (.inl q)) else (bif (b == 71) then (Option.bind (cI s_ (IntKind.i64.wrap (r3 - 1)) s_.y) fun r=>some (.inl r)) else (bif (b == 100) then (Option.bind (cI s_ s_.x (IntKind.i64.wrap (r3 - 1))) fun t=>some (.inl t)) else (Option.bind ((bif (b == 72) then some (b == 72) else some (b == 102)):Option Bool) fun u=>(bif u then (Option.bind (dY l 1 1) fun v=>(Option.bind (cI s_ (IntKind.i64.wrap (v - 1)) (IntKind.i64.wrap (r3 - 1))) fun z=>some (.inl z))) else (bif (b == 74) then (Option.bind (dY l 0 0) fun A=>(Option.bind (ko s_ A true) fun B=>some (.inl B))) else (bif (b == 75) then (Option.bind (dY l 0 0) fun C=>(Option.bind (ko s_ C false) fun D=>some (.inl D))) else (bif (b == 88) then (Option.bind (iG s_ s_.y s_.x (IntKind.i64.wrap (s_.x+r3))) fun d=>some (.inl (aK.mk d.g d.x d.y d.s d.sX d.sY d.sS false d.top d.aI d.aY d.title))) else (bif (b == 64) then (Option.bind (idx s_.g.l s_.y) fun E=>(Option.bind (jN E s_.x r3 r6) fun F=>(Option.bind (hG s_ F) fun e=>some (.inl (aK.mk e.g e.x e.y e.s e.sX e.sY e.sS false e.top e.aI e.aY e.title))))) else (bif (b == 80) then (Option.bind (idx s_.g.l s_.y) fun G=>(Option.bind (jO G s_.x r3 r6) fun H=>(Option.bind (hG s_ H) fun f=>some (.inl (aK.mk f.g f.x f.y f.s f.sX f.sY f.sS false f.top f.aI f.aY f.title))))) else (Option.bind ((bif (b == 76) then some (b == 76) else some (b == 77)):Option Bool) fun I=>(bif I then (Option.bind ((bif (decide (s_.y≥s_.top)) then some (decide (s_.y≤s_.aI)) else some false):Option Bool) fun J=>(bif J then (Option.bind (dC s_.g (b == 77) s_.y s_.aI r3 r6) fun K=>(Option.bind (cI (aK.mk K.1 s_.x s_.y s_.s s_.sX s_.sY s_.sS s_.waiting s_.top s_.aI s_.aY s_.title) 0 s_.y) fun L=>some (.inl L))) else some (.inl s_))) else (bif (b == 83) then (Option.bind (jS (aK.mk s_.g s_.x s_.y s_.s s_.sX s_.sY s_.sS false s_.top s_.aI s_.aY s_.title) r3) fun h=>(jH (some (h.1,h.2)))) else (bif (b == 84) then (Option.bind (dC s_.g false s_.top s_.aI r3 r6) fun M=>some (.inl (aK.mk M.1 s_.x s_.y s_.s s_.sX s_.sY s_.sS false s_.top s_.aI s_.aY s_.title))) else (bif (b == 109) then (Option.bind (mW s_.s l) fun N=>some (.inl (aK.mk s_.g s_.x s_.y N s_.sX s_.sY s_.sS s_.waiting s_.top s_.aI s_.aY s_.title))) else (bif (b == 114) then (Option.bind (dY l 0 1) fun i=>(Option.bind (dY l 1 (s_.g.l.length:Int)) fun j=>(bif (decide ((IntKind.i64.wrap ((imax 1 (dQ i (s_.g.l.length:Int))) - 1)) < (IntKind.i64.wrap ((imax 1 (dQ j (s_.g.l.length:Int))) - 1)))) then (Option.bind (cI (aK.mk s_.g s_.x s_.y s_.s s_.sX s_.sY s_.sS s_.waiting (IntKind.i64.wrap ((imax 1 (dQ i (s_.g.l.length:Int))) - 1)) (IntKind.i64.wrap ((imax 1 (dQ j (s_.g.l.length:Int))) - 1)) s_.aY s_.title) 0 0) fun O=>some (.inl O)) else some (.inl s_)))) else some (.inl s_)))))))))))))))))))))):Option (aK ⊕ (aK×(List aR)))) fun | .inl e753=>some (e753,([]:List aR)) | .inr w=>some w)))
noncomputable def kH (s_:aK) (a:aO):Option (aK×(List aR)) :=
 (Option.bind ((bif (a.kind == 1) then (Option.bind (l7 s_ a.rune) fun b=>(jH (some (b.1,b.2)))) else (bif (a.kind == 2) then (bif (a.byte == 8) then (Option.bind (cI s_ (IntKind.i64.wrap (s_.x - 1)) s_.y) fun h=>(jH (some (h,([]:List aR))))) else (bif (a.byte == 9) then (Option.bind (cI s_ (IntKind.i64.wrap ((IntKind.i64.wrap ((IntKind.i64.wrap (s_.x.tdiv 8))*8))+8)) s_.y) fun i=>(jH (some (i,([]:List aR))))) else (Option.bind ((bif (a.byte == 10) then some (a.byte == 10) else (bif (a.byte == 11) then some (a.byte == 11) else some (a.byte == 12))):Option Bool) fun j=>(bif j then (Option.bind (fB s_) fun c=>(jH (some (c.1,c.2)))) else (bif (a.byte == 13) then (Option.bind (cI s_ 0 s_.y) fun k=>(jH (some (k,([]:List aR))))) else some (.inl s_)))))) else (bif (a.kind == 3) then (bif (a.byte == 68) then (Option.bind (fB s_) fun d=>(jH (some (d.1,d.2)))) else (bif (a.byte == 69) then (Option.bind (fB (aK.mk s_.g 0 s_.y s_.s s_.sX s_.sY s_.sS s_.waiting s_.top s_.aI s_.aY s_.title)) fun e=>(jH (some (e.1,e.2)))) else (bif (a.byte == 77) then (bif (s_.y == s_.top) then (Option.bind (iF s_.s) fun m=>(Option.bind (dC s_.g false s_.top s_.aI 1 m) fun n=>(jH (some ((aK.mk n.1 s_.x s_.y s_.s s_.sX s_.sY s_.sS false s_.top s_.aI s_.aY s_.title),([]:List aR)))))) else (Option.bind (cI (aK.mk s_.g s_.x s_.y s_.s s_.sX s_.sY s_.sS false s_.top s_.aI s_.aY s_.title) s_.x (IntKind.i64.wrap (s_.y - 1))) fun o=>(jH (some (o,([]:List aR)))))) else (bif (a.byte == 55) then some (.inl (aK.mk s_.g s_.x s_.y s_.s s_.x s_.y s_.s s_.waiting s_.top s_.aI s_.aY s_.title)) else (bif (a.byte == 56) then (Option.bind (cI (aK.mk s_.g s_.x s_.y s_.sS s_.sX s_.sY s_.sS s_.waiting s_.top s_.aI s_.aY s_.title) s_.sX s_.sY) fun p=>(jH (some (p,([]:List aR))))) else (bif (a.byte == 99) then (Option.bind (lO s_.g.w (s_.g.l.length:Int)) fun q=>(jH (some (q,([]:List aR))))) else some (.inl s_))))))) else (bif (a.kind == 4) then (bif (!a.cF) then (Option.bind (kg s_ a.byte a.bA) fun f=>(jH (some (f.1,f.2)))) else (Option.bind ((Option.bind (dY a.bA 0 0) fun r=>(bif (r == 7) then (bif (a.byte == 104) then some true else some (a.byte == 108)) else some false)):Option Bool) fun t=>(bif t then some (.inl (aK.mk s_.g s_.x s_.y s_.s s_.sX s_.sY s_.sS s_.waiting s_.top s_.aI (a.byte == 104) s_.title)) else some (.inl s_)))) else (bif (a.kind == 5) then some (.inl (aK.mk s_.g s_.x s_.y s_.s s_.sX s_.sY s_.sS s_.waiting s_.top s_.aI s_.aY a.text)) else some (.inl s_)))))):Option (aK ⊕ (aK×(List aR)))) fun | .inl e456=>some (e456,([]:List aR)) | .inr w=>some w)
noncomputable def kI (s_:aK) (w:Int) (h_:Int):Option (aK×(List aR)) :=
 (Option.bind (kF s_.g w h_ (imax 0 (IntKind.i64.wrap ((IntKind.i64.wrap (s_.y+1)) - (imax 1 (dQ h_ 1000)))))) fun r3=>(Option.bind (cI (aK.mk r3.1 s_.x s_.y s_.s s_.sX s_.sY s_.sS s_.waiting 0 (IntKind.i64.wrap ((r3.1.l.length:Int) - 1)) s_.aY s_.title) s_.x (IntKind.i64.wrap (s_.y - (imax 0 (IntKind.i64.wrap ((IntKind.i64.wrap (s_.y+1)) - (imax 1 (dQ h_ 1000)))))))) fun a=>some (a,r3.2)))
end Go.Tw.X
set_option linter.unusedVariables false
set_option linter.unusedSimpArgs false
set_option maxRecDepth 10000
namespace Go.Tw.X
open Go Go.Tw
noncomputable def pR (a:aO):Option bB :=
 (Option.bind (chk (dB ([]:List Int).length a.bA.length 8)) fun _=>some (bB.mk a.kind (IntKind.i32.wrap a.rune) (IntKind.u8.wrap a.byte) a.cF (([]:List Int)++a.bA) a.text))
noncomputable def nO (s_:aB) (x_:aK):Option (Bool×aB) :=
 (Option.bind (eO s_) fun r2=>(Option.bind (iC s_) fun r5=>(Option.bind (fH s_) fun r8=>(Option.bind ((Option.bind (mF r8.1 x_.g) fun a=>(bif a.1 then (bif (r2.1 == x_.x) then (bif (r2.2 == x_.y) then (bif (r5.1 == x_.top) then (bif (r5.2 == x_.aI) then (Option.bind (ig r8.2) fun c=>(bif (c == x_.waiting) then (Option.bind (eU r8.2) fun d=>(bif (d.toList == x_.title.toList) then (Option.bind (iX r8.2) fun b=>some (((b.fC == x_.s.fC) && ((b.back == x_.s.back) && ((b.bold == x_.s.bold) && ((b.under == x_.s.under) && ((b.cO == x_.s.cO) && true))))),a.2)) else some (false,a.2))) else some (false,a.2))) else some (false,a.2)) else some (false,a.2)) else some (false,a.2)) else some (false,a.2)) else some (false,a.2))):Option (Bool×aX)) fun e=>some (e.1,r8.2)))))
end Go.Tw.X
set_option linter.unusedVariables false
set_option linter.unusedSimpArgs false
set_option maxRecDepth 10000
namespace Go.Tw.X
open Go Go.Tw
noncomputable def ju (n_:Int):Option ByteArray :=
 (Option.bind (iter (σ:=Int×(List Int)) (ρ:=Int×(List Int)) (fun a=>(bif (decide (a.1≥128)) then (Option.bind (chk (dB a.2.length [(IntKind.u8.wrap (IntKind.i64.wrap (128+(a.1.tmod 128))))].length 1)) fun _=>some (.inl ((IntKind.i64.wrap (a.1.tdiv 128)),(a.2++[(IntKind.u8.wrap (IntKind.i64.wrap (128+(a.1.tmod 128))))])))) else some (.inr (a.1,a.2)))) ((imax 0 (dQ n_ 4611686018427387904)),([]:List Int))) fun b=>(Option.bind (chk (dB b.2.length [(IntKind.u8.wrap b.1)].length 1)) fun _=>some (iP (b.2++[(IntKind.u8.wrap b.1)]))))
end Go.Tw.X
set_option linter.unusedVariables false
set_option linter.unusedSimpArgs false
set_option maxRecDepth 10000
namespace Go.Tw.X
open Go Go.Tw
noncomputable def nP (s_:ByteArray):Option Int :=
 (Option.bind (iter (σ:=Int×Int) (ρ:=Int) (fun b=>(bif (decide (b.2 < (s_.size:Int))) then (Option.bind (kW s_ b.2) fun b402=>(Option.bind (iter (σ:=Int×Int) (ρ:=Int) (fun a=>(bif (decide (a.2 < 8)) then (Option.bind ((bif ((a.1.tmod 2) == 1) then some (Go.bits .xor .i64 (IntKind.i64.wrap (a.1.tdiv 2)) 3988292384) else some (IntKind.i64.wrap (a.1.tdiv 2))):Option Int) fun c=>some (.inl (c,(IntKind.i64.wrap (a.2+1))))) else some (.inr a.1))) ((Go.bits .xor .i64 b.1 (IntKind.i64.wrap b402)),0)) fun d=>some (.inl (d,(IntKind.i64.wrap (b.2+1)))))) else some (.inr b.1))) (4294967295,0)) fun e=>some (IntKind.i64.wrap (4294967295 - e)))
end Go.Tw.X
set_option linter.unusedVariables false
set_option linter.unusedSimpArgs false
set_option maxRecDepth 10000
namespace Go.Tw.X
open Go Go.Tw
structure iO where
 l:List (List bW)
 begun:List bW
 deriving DecidableEq,Inhabited
noncomputable def l8 (l:List bW):Option ByteArray :=
 (Option.bind (ju (l.length:Int)) fun r1=>(Option.bind (iter (σ:=Int×ByteArray) (ρ:=ByteArray) (fun a=>(bif (decide (a.1 < (l.length:Int))) then (Option.bind (idx l a.1) fun d=>(Option.bind (ju d.rune) fun b=>(Option.bind (ju d.aM) fun c=>(Option.bind (chk (vI b.size c.size)) fun _=>(Option.bind (chk (vI a.2.size (b++c).size)) fun _=>some (.inl ((IntKind.i64.wrap (a.1+1)),(a.2++(b++c))))))))) else some (.inr a.2))) (0,r1)) fun e=>some e))
noncomputable def mX (b:iO) (r_:aR):Option iO :=
 (Option.bind (chk (dB ([]:List bW).length b.begun.length 16)) fun _=>(Option.bind (jP r_) fun d=>(Option.bind (chk (dB (([]:List bW)++b.begun).length d.length 16)) fun _=>(Option.bind (chk (dB ([]:List (List bW)).length b.l.length 24)) fun _=>(Option.bind (iter (σ:=(List bW)×(List (List bW))) (ρ:=(List bW)×(List (List bW))) (fun a=>(bif (decide ((a.1.length:Int)≥1024)) then (Option.bind (chk (cW 0 1024 a.1.length)) fun _=>(Option.bind (chk (dB a.2.length [(cut a.1 0 1024)].length 24)) fun _=>(Option.bind (chk (cW 1024 (a.1.length:Int) a.1.length)) fun _=>some (.inl ((cut a.1 1024 (a.1.length:Int)),(a.2++[(cut a.1 0 1024)])))))) else some (.inr (a.1,a.2)))) (((([]:List bW)++b.begun)++d),(([]:List (List bW))++b.l))) fun c=>(bif (!r_.wrapped) then (Option.bind (chk (dB c.2.length [c.1].length 24)) fun _=>some (iO.mk (c.2++[c.1]) ([]:List bW))) else some (iO.mk c.2 c.1)))))))
noncomputable def lk (b:iO) (n_:Int):Option Int :=
 (Option.bind (iter (σ:=Int×Int) (ρ:=Int) (fun a=>(Option.bind ((bif (decide (a.2 < n_)) then some (decide (a.2 < (b.l.length:Int))) else some false):Option Bool) fun d=>(bif d then (Option.bind (iter (σ:=Int×Int) (ρ:=Int) (fun c=>(bif (decide (c.2 < 16)) then some (.inl (((IntKind.i64.wrap (2*c.1)).tmod 281474976710597),(IntKind.i64.wrap (c.2+1)))) else some (.inr c.1))) (a.1,0)) fun e=>(Option.bind (idx b.l a.2) fun f=>(Option.bind (l8 f) fun g=>(Option.bind (nP g) fun i=>some (.inl (((IntKind.i64.wrap (e+i)).tmod 281474976710597),(IntKind.i64.wrap (a.2+1)))))))) else some (.inr a.1)))) (0,0)) fun j=>some j)
end Go.Tw.X
set_option linter.unusedVariables false
set_option linter.unusedSimpArgs false
set_option maxRecDepth 10000
namespace Go.Tw.X
open Go Go.Tw
structure k7 where
 k:Int
 w:Int
 h:Int
 x:Int
 y:Int
 title:ByteArray
 rows:List aR
 len:Int
 chain:Int
 begun:List bW
 deriving DecidableEq,Inhabited
noncomputable def pd (k:Int) (s_:aK) (b:iO):Option k7 :=
 (Option.bind (lk b (b.l.length:Int)) fun a=>some (k7.mk k s_.g.w (s_.g.l.length:Int) s_.x s_.y s_.title s_.g.l (b.l.length:Int) a b.begun))
end Go.Tw.X
set_option linter.unusedVariables false
set_option linter.unusedSimpArgs false
set_option maxRecDepth 10000
namespace Go.Tw.X
open Go Go.Tw
noncomputable def mG (s_:jq) (x_:k7):Option Bool :=
 (Option.bind ((bif (s_.k == x_.k) then (bif (s_.w == x_.w) then (bif (s_.h == x_.h) then (bif (s_.x == x_.x) then (bif (s_.y == x_.y) then (bif (s_.title.toList == x_.title.toList) then (bif (s_.len == x_.len) then (bif (s_.chain == x_.chain) then (Option.bind (gN s_.rows x_.rows) fun a=>(bif a then (Option.bind (jQ s_.begun x_.begun) fun c=>some c) else some false)) else some false) else some false) else some false) else some false) else some false) else some false) else some false) else some false):Option Bool) fun d=>some d)
end Go.Tw.X
set_option linter.unusedVariables false
set_option linter.unusedSimpArgs false
set_option maxRecDepth 10000
namespace Go.Tw.X
open Go Go.Tw
structure cL where
 kind:Int
 text:ByteArray
 w:Int
 h:Int
 deriving DecidableEq,Inhabited
structure bC where
 s:aK
 b:iO
 all:ByteArray
 jT:Int
 k:Int
 deriving DecidableEq,Inhabited
def l9 (x:cL):Prop:=(inK .i64) x.kind∧(fun s:ByteArray=>s.size≤maxLen) x.text∧(inK .i64) x.w∧(inK .i64) x.h∧True
noncomputable def mY (w:Int) (h_:Int):Option bC :=
 (Option.bind (lO w h_) fun r2=>some (bC.mk r2 (iO.mk ([]:List (List bW)) ([]:List bW)) (ByteArray.mk #[]) 0 0))
noncomputable def ll (e:cL):Option Int :=
 (bif (e.kind == 0) then (bif (decide ((e.text.size:Int) > 1048576)) then some 3 else some 0) else (bif (e.kind != 1) then some 5 else (Option.bind ((bif (decide (e.w < 1)) then some true else (bif (decide (e.w > 1000)) then some true else (bif (decide (e.h < 1)) then some true else some (decide (e.h > 1000))))):Option Bool) fun a=>(bif a then some 6 else some 0))))
noncomputable def kJ (m_:bC) (l:List aR):Option bC :=
 (Option.bind (iter (σ:=bC×Int) (ρ:=bC) (fun a=>(bif (decide (a.2 < (l.length:Int))) then (Option.bind (idx l a.2) fun c=>(Option.bind (mX a.1.b c) fun d=>some (.inl ((bC.mk a.1.s d a.1.all a.1.jT a.1.k),(IntKind.i64.wrap (a.2+1)))))) else some (.inr a.1))) (m_,0)) fun e=>some e)
noncomputable def il (m_:bC) (e:cL):Option (bC×Int) :=
 (Option.bind (ll e) fun r4=>(bif (r4 != 0) then some (m_,r4) else (Option.bind ((bif (e.kind == 1) then (Option.bind (kI m_.s e.w e.h) fun g=>(Option.bind (kJ (bC.mk g.1 m_.b m_.all m_.jT m_.k) g.2) fun j=>some j)) else (Option.bind (chk (vI m_.all.size e.text.size)) fun _=>(Option.bind (l6 (m_.all++e.text)) fun c=>(Option.bind (chk (cW m_.jT (c.length:Int) c.length)) fun _=>(Option.bind (iter (σ:=bC×Int) (ρ:=bC) (fun a=>(bif (decide (a.2 < ((cut c m_.jT (c.length:Int)).length:Int))) then (Option.bind (idx (cut c m_.jT (c.length:Int)) a.2) fun l=>(Option.bind (kH a.1.s l) fun i=>(Option.bind (kJ (bC.mk i.1 a.1.b a.1.all a.1.jT a.1.k) i.2) fun m=>some (.inl (m,(IntKind.i64.wrap (a.2+1))))))) else some (.inr a.1))) ((bC.mk m_.s m_.b (m_.all++e.text) m_.jT m_.k),0)) fun f=>some (bC.mk f.s f.b f.all (c.length:Int) f.k)))))):Option bC) fun d=>some ((bC.mk d.s d.b d.all d.jT (IntKind.i64.wrap (d.k+1))),0))))
noncomputable def ma (m_:bC):Option k7 :=
 (Option.bind (pd (IntKind.i64.wrap (m_.k+1)) m_.s m_.b) fun r3=>some r3)
end Go.Tw.X
set_option linter.unusedVariables false
set_option linter.unusedSimpArgs false
set_option maxRecDepth 10000
namespace Go.Tw.X
open Go Go.Tw
noncomputable def ln:Option Bool :=
 (Option.bind (mS 3 1 ([(dU.mk 0 (ByteArray.mk #[97,13,10,98]) 0 0),(dU.mk 1 (ByteArray.mk #[]) 0 0),(dU.mk 1 (ByteArray.mk #[]) 4 2)])) fun r4=>(Option.bind (fL r4) fun c=>(Option.bind (iJ c.2.book 0) fun b=>(Option.bind (gM c.2) fun a=>(Option.bind ((Option.bind (kf a.2) fun d=>(bif (d == 2) then (Option.bind (fZ a.2.book) fun e=>(bif (e == 1) then (bif b.2 then (bif ((b.1.length:Int) == 1) then (Option.bind (idx b.1 0) fun f=>(bif (f.rune == 97) then (bif (a.1.k == 3) then (bif (a.1.w == 4) then some ((a.1.rows.length:Int) == 2) else some false) else some false) else some false)) else some false) else some false) else some false)) else some false)):Option Bool) fun g=>some g)))))
noncomputable def lP (e:cL):Option cL :=
 (Option.bind (mT e.text 60) fun r3=>(Option.bind ((bif (decide (e.w > 10)) then some (decide (e.w≤1000)) else some false):Option Bool) fun e9=>(Option.bind ((bif e9 then some (cL.mk e.kind r3 10 e.h) else some (cL.mk e.kind r3 e.w e.h)):Option cL) fun a=>(Option.bind ((bif (decide (a.h > 6)) then some (decide (a.h≤1000)) else some false):Option Bool) fun b=>(Option.bind ((bif b then some (cL.mk a.kind a.text a.w 6) else some a):Option cL) fun c=>some c)))))
noncomputable def lG (m_:aT) (x_:bC):Option (Bool×aT) :=
 (Option.bind (fL m_) fun r2=>(Option.bind ((Option.bind (kf r2.2) fun g=>(bif (g != x_.k) then some (true,r2.1,r2.2) else (Option.bind (fZ r2.2.book) fun h=>(bif (h != (x_.b.l.length:Int)) then some (true,r2.1,r2.2) else (Option.bind (nO r2.1 x_.s) fun d=>(bif (!d.1) then some (true,d.2,r2.2) else (Option.bind (gM r2.2) fun e=>(Option.bind (ma x_) fun i=>(Option.bind (mG e.1 i) fun j=>some ((!j),d.2,e.2)))))))))):Option (Bool×aB×aT)) fun a=>(bif a.1 then some (false,a.2.2) else (Option.bind (iter (σ:=Int) (ρ:=Unit ⊕ (Bool×aT)) (fun c=>(bif (decide (c < (x_.b.l.length:Int))) then (Option.bind (idx x_.b.l c) fun m=>(Option.bind (iJ a.2.2.book c) fun f=>(Option.bind ((bif (!f.2) then some true else (Option.bind (jQ f.1 m) fun n=>some (!n))):Option Bool) fun o=>(bif o then (nj (some (false,a.2.2))) else some (.inl (IntKind.i64.wrap (c+1))))))) else some (.inr (.inl ())))) 0) fun | .inl e461=>some (true,a.2.2) | .inr w=>some w))))
noncomputable def jF (l:List cL) (more:List cL):Option Bool :=
 (Option.bind ln fun r1=>(bif (!r1) then some false else (Option.bind (lM 6 3) fun r6=>(Option.bind (mY 6 3) fun m=>(Option.bind (iter (σ:=bC×aT×Int) (ρ:=bC×aT) (fun a=>(Option.bind ((bif (decide (a.2.2 < (l.length:Int))) then some (decide (a.2.2 < 10)) else some false):Option Bool) fun n=>(bif n then (Option.bind (idx l a.2.2) fun o=>(Option.bind (lP o) fun c=>(Option.bind (cE a.2.1 (dU.mk c.kind c.text c.w c.h)) fun p=>(Option.bind (il a.1 c) fun q=>some (.inl (q.1,p.2,(IntKind.i64.wrap (a.2.2+1)))))))) else some (.inr (a.1,a.2.1))))) (m,r6,0)) fun e=>(Option.bind ((Option.bind (iA e.2) fun j=>some (j.1,e.1,j.2)):Option (aT×bC×aT)) fun f=>(Option.bind (iter (σ:=aT×bC×Int) (ρ:=aT×bC) (fun b=>(Option.bind ((bif (decide (b.2.2 < (more.length:Int))) then some (decide (b.2.2 < 8)) else some false):Option Bool) fun r=>(bif r then (Option.bind (idx more b.2.2) fun s=>(Option.bind (lP s) fun d=>(Option.bind (cE b.1 (dU.mk d.kind d.text d.w d.h)) fun t=>(Option.bind (il b.2.1 d) fun u=>some (.inl (t.2,u.1,(IntKind.i64.wrap (b.2.2+1)))))))) else some (.inr (b.1,b.2.1))))) (f.1,f.2.1,0)) fun g=>(Option.bind ((Option.bind (lG f.2.2 e.1) fun i=>(bif i.1 then (Option.bind (lG g.1 g.2) fun k=>some (k.1,k.2,i.2)) else some (false,g.1,i.2))):Option (Bool×aT×aT)) fun v=>some v.1))))))))
end Go.Tw.X

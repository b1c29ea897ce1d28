import Derived.Test.YtjpeabeokdkkbaaGreatDoorFw2
set_option linter.unusedVariables false
set_option linter.unusedSimpArgs false
set_option maxRecDepth 10000
namespace Go.Tw.X
open Go Go.Tw
structure cE where
 b:List Int
 deriving DecidableEq,Inhabited
structure aU where
 s:ByteArray
 e:Int
 deriving DecidableEq,Inhabited
noncomputable def nm (n_:Int):Option Int :=
 some n_
noncomputable def o4 (n_:Int):Option Int :=
 some (imax 0 (fQ n_ 4611686018427387904))
noncomputable def kW {σ:Type} (Y:σ→Int→Option (σ×Bool)) (y0:σ) (x1:Int):Option (σ×Int) :=
 (Option.bind (o4 x1) fun r1=>(Option.bind (iter (σ:=Int×σ) (ρ:=(Int×σ) ⊕ (σ×Int)) (fun a=>(bif (decide (a.1≥128)) then (Option.bind (Y a.2 (Go.bits .or .u8 (Go.bits .and .u8 (IntKind.u8.wrap a.1) 127) 128)) fun z68=>(bif (!z68.2) then (kO (some (z68.1,a.1))) else some (.inl ((a.1.fdiv (2 ^ (min 7 64))),z68.1)))) else some (.inr (.inl (a.1,a.2))))) (r1,y0)) fun | .inl e53=>(Option.bind (Y e53.2 (IntKind.u8.wrap e53.1)) fun z75=>some (z75.1,e53.1)) | .inr w=>some w))
noncomputable def cQ (o:cE) (l:List Int):Option cE :=
 (Option.bind (iter (σ:=cE×Int) (ρ:=cE) (fun a=>(bif (decide (a.2 < (l.length:Int))) then (Option.bind (idx l a.2) fun e=>(Option.bind (nm e) fun f=>(Option.bind (kW (fun c d=>(Option.bind (chk (eL c.b.length [d].length 1)) fun _=>some ((cE.mk (c.b++[d])),true))) (a.1:cE) f) fun g=>some (.inl (g.1,(IntKind.i64.wrap (a.2+1))))))) else some (.inr a.1))) (o,0)) fun h=>some h)
noncomputable def gn (o:cE) (l:List ByteArray):Option cE :=
 (Option.bind (iter (σ:=cE×Int) (ρ:=cE) (fun a=>(bif (decide (a.2 < (l.length:Int))) then (Option.bind (idx l a.2) fun c=>(Option.bind (chk (eL a.1.b.length c.size 1)) fun _=>some (.inl ((cE.mk (a.1.b++sbs c)),(IntKind.i64.wrap (a.2+1)))))) else some (.inr a.1))) (o,0)) fun d=>some d)
noncomputable def jS (o:cE) (l:List ByteArray):Option cE :=
 (Option.bind (iter (σ:=cE×Int) (ρ:=cE) (fun a=>(bif (decide (a.2 < (l.length:Int))) then (Option.bind (idx l a.2) fun b=>(Option.bind (cQ a.1 [(b.size:Int)]) fun c=>(Option.bind (gn c [b]) fun d=>some (.inl (d,(IntKind.i64.wrap (a.2+1))))))) else some (.inr a.1))) (o,0)) fun e=>some e)
noncomputable def gC (o:cE):Option ByteArray :=
 some (fR o.b)
noncomputable def ow (s_:ByteArray):Option aU :=
 some (aU.mk s_ 0)
noncomputable def bV (in_:aU) (e:Int):Option aU :=
 (Option.bind ((bif (in_.e == 0) then some (e != 0) else some false):Option Bool) fun e4=>(bif e4 then some (aU.mk (ByteArray.mk #[]) e) else some in_))
noncomputable def bH (in_:aU):Option (Int×aU) :=
 (Option.bind (iter (σ:=Int×Int) (ρ:=Unit ⊕ (Int×aU)) (fun a=>(bif (decide (a.1 < (fQ (in_.s.size:Int) 9))) then (Option.bind (wX in_.s a.1) fun b213=>(Option.bind (chk (shk (IntKind.i64.wrap (7*a.1)))) fun _=>(bif (decide (b213≥128)) then some (.inl ((IntKind.i64.wrap (a.1+1)),(Go.bits .or .i64 a.2 (IntKind.i64.wrap ((IntKind.i64.wrap (Go.bits .and .u8 b213 127))*2 ^ (min (IntKind.i64.wrap (7*a.1)).toNat 64)))))) else (Option.bind ((bif (decide (a.1 > 0)) then (bif (b213 == 0) then some true else some (decide ((Go.bits .or .i64 a.2 (IntKind.i64.wrap ((IntKind.i64.wrap (Go.bits .and .u8 b213 127))*2 ^ (min (IntKind.i64.wrap (7*a.1)).toNat 64)))) > 4611686018427387904))) else some (decide ((Go.bits .or .i64 a.2 (IntKind.i64.wrap ((IntKind.i64.wrap (Go.bits .and .u8 b213 127))*2 ^ (min (IntKind.i64.wrap (7*a.1)).toNat 64)))) > 4611686018427387904))):Option Bool) fun b=>(bif b then (Option.bind (bV in_ 1) fun c=>(kO (some (0,c)))) else (Option.bind (chk (dB (IntKind.i64.wrap (a.1+1)) (in_.s.size:Int) in_.s.size)) fun _=>(kO (some ((Go.bits .or .i64 a.2 (IntKind.i64.wrap ((IntKind.i64.wrap (Go.bits .and .u8 b213 127))*2 ^ (min (IntKind.i64.wrap (7*a.1)).toNat 64)))),(aU.mk (lE in_.s (IntKind.i64.wrap (a.1+1)) (in_.s.size:Int)) in_.e)))))))))) else some (.inr (.inl ())))) (0,0)) fun | .inl e176=>(Option.bind ((bif (decide ((in_.s.size:Int)≥9)) then (Option.bind (bV in_ 1) fun d=>some d) else some in_):Option aU) fun f=>(Option.bind (bV f 2) fun g=>some (0,g))) | .inr w=>some w)
noncomputable def mb (in_:aU) (n_:Int):Option (ByteArray×aU) :=
 (bif (decide ((imax 0 n_) > (in_.s.size:Int))) then (Option.bind (bV in_ 2) fun r6=>some ((ByteArray.mk #[]),r6)) else (Option.bind (chk (dB 0 (imax 0 n_) in_.s.size)) fun _=>(Option.bind (chk (dB (imax 0 n_) (in_.s.size:Int) in_.s.size)) fun _=>some ((lE in_.s 0 (imax 0 n_)),(aU.mk (lE in_.s (imax 0 n_) (in_.s.size:Int)) in_.e)))))
noncomputable def iR (in_:aU):Option (ByteArray×aU) :=
 (Option.bind (bH in_) fun r1=>(Option.bind (mb r1.2 r1.1) fun r4=>some (r4.1,r4.2)))
noncomputable def cM (in_:aU):Option Int :=
 some in_.e
noncomputable def lf (in_:aU):Option Int :=
 (bif (!(in_.s.toList == (ByteArray.mk #[]).toList)) then some 1 else some in_.e)
end Go.Tw.X
set_option linter.unusedVariables false
set_option linter.unusedSimpArgs false
set_option maxRecDepth 10000
namespace Go.Tw.X
open Go Go.Tw
structure bU where
 lead:Int
 rune:Int
 iJ:Int
 deriving DecidableEq,Inhabited
structure jT where
 first:Int
 last:Int
 iJ:Int
 low:Int
 high:Int
 deriving DecidableEq,Inhabited
def bW:List jT:=[⟨194,223,1,128,191⟩,⟨224,224,2,160,191⟩,⟨225,236,2,128,191⟩,⟨237,237,2,128,159⟩,⟨238,239,2,128,191⟩,⟨240,240,3,144,191⟩,⟨241,243,3,128,191⟩,⟨244,244,3,128,143⟩]
noncomputable def iB (d:bU):Option (List Int) :=
 (bif (decide (d.iJ≤0)) then some ([]:List Int) else some [65533])
noncomputable def lh (b:Int):Option (jT×Bool) :=
 (Option.bind (iter (σ:=Int) (ρ:=Unit ⊕ (jT×Bool)) (fun a=>(bif (decide (a < 8)) then (Option.bind (idx bW a) fun c=>(Option.bind ((bif (decide (b≥c.first)) then some (decide (b≤c.last)) else some false):Option Bool) fun d=>(bif d then (kO (some (c,true))) else some (.inl (IntKind.i64.wrap (a+1)))))) else some (.inr (.inl ())))) 0) fun | .inl e84=>some ((jT.mk 0 0 0 0 0),false) | .inr w=>some w)
noncomputable def kJ (b:Int):Option (bU×(List Int)) :=
 (bif (decide (b < 128)) then some ((bU.mk 0 0 0),[(IntKind.i32.wrap b)]) else (Option.bind (lh b) fun r8=>(bif (!r8.2) then some ((bU.mk 0 0 0),[65533]) else (Option.bind (chk (shk r8.1.iJ)) fun _=>some ((bU.mk b (Go.bits .and .i32 (IntKind.i32.wrap b) ((63:Int).fdiv (2 ^ (min r8.1.iJ.toNat 32)))) r8.1.iJ),([]:List Int))))))
noncomputable def gV (d:bU) (b:Int):Option Bool :=
 (Option.bind (lh d.lead) fun r2=>(bif (decide (d.iJ < r2.1.iJ)) then (Option.bind ((bif (decide (b≥128)) then some (decide (b≤191)) else some false):Option Bool) fun a=>some a) else (Option.bind ((bif (decide (b≥r2.1.low)) then some (decide (b≤r2.1.high)) else some false):Option Bool) fun c=>some c)))
noncomputable def gW (d:bU) (b:Int):Option (bU×(List Int)) :=
 (bif (decide (d.iJ≤0)) then (Option.bind (kJ b) fun c=>some (c.1,c.2)) else (Option.bind (gV d b) fun e=>(bif (!e) then (Option.bind (kJ b) fun a=>(Option.bind (chk (eL [65533].length a.2.length 4)) fun _=>some (a.1,([65533]++a.2)))) else (bif ((IntKind.i64.wrap (d.iJ - 1)) == 0) then (Option.bind (some [(Go.bits .or .i32 (IntKind.i32.wrap (d.rune*2 ^ (min 6 32))) (Go.bits .and .i32 (IntKind.i32.wrap b) 63))]:Option (List Int)) fun f=>some ((bU.mk 0 0 0),f)) else some ((bU.mk d.lead (Go.bits .or .i32 (IntKind.i32.wrap (d.rune*2 ^ (min 6 32))) (Go.bits .and .i32 (IntKind.i32.wrap b) 63)) (IntKind.i64.wrap (d.iJ - 1))),([]:List Int))))))
end Go.Tw.X
set_option linter.unusedVariables false
set_option linter.unusedSimpArgs false
set_option maxRecDepth 10000
namespace Go.Tw.X
open Go Go.Tw
structure cF where
 e0:Int
 e1:Int
 deriving DecidableEq,Inhabited
structure lR where
 e0:Int
 e1:Int
 e2:Int
 deriving DecidableEq,Inhabited
noncomputable def np (x_:Int) (y:Int):Option (Int×Int) :=
 some ((IntKind.u64.wrap ((IntKind.u64.wrap ((IntKind.u64.wrap ((x_.fdiv (2 ^ (min 32 64)))*(y.fdiv (2 ^ (min 32 64)))))+((IntKind.u64.wrap ((IntKind.u64.wrap ((x_.fdiv (2 ^ (min 32 64)))*(Go.bits .and .u64 y 4294967295)))+((IntKind.u64.wrap ((Go.bits .and .u64 x_ 4294967295)*(Go.bits .and .u64 y 4294967295))).fdiv (2 ^ (min 32 64))))).fdiv (2 ^ (min 32 64)))))+((IntKind.u64.wrap ((Go.bits .and .u64 (IntKind.u64.wrap ((IntKind.u64.wrap ((x_.fdiv (2 ^ (min 32 64)))*(Go.bits .and .u64 y 4294967295)))+((IntKind.u64.wrap ((Go.bits .and .u64 x_ 4294967295)*(Go.bits .and .u64 y 4294967295))).fdiv (2 ^ (min 32 64))))) 4294967295)+(IntKind.u64.wrap ((Go.bits .and .u64 x_ 4294967295)*(y.fdiv (2 ^ (min 32 64))))))).fdiv (2 ^ (min 32 64))))),(IntKind.u64.wrap (x_*y)))
noncomputable def nD (x_:Int) (y:Int):Option (Int×Int) :=
 (Option.bind (np x_ y) fun r1=>some (r1.1,r1.2))
noncomputable def fY (s_:ByteArray) (prefix_:ByteArray):Option Bool :=
 (Option.bind ((bif (decide ((s_.size:Int)≥(prefix_.size:Int))) then (Option.bind (chk (dB 0 (prefix_.size:Int) s_.size)) fun _=>some ((lE s_ 0 (prefix_.size:Int)).toList == prefix_.toList)) else some false):Option Bool) fun e8=>some e8)
noncomputable def iq (s_:ByteArray) (prefix_:ByteArray):Option (ByteArray×Bool) :=
 (Option.bind (fY s_ prefix_) fun r1=>(bif (!r1) then some (s_,false) else (Option.bind (chk (dB (prefix_.size:Int) (s_.size:Int) s_.size)) fun _=>some ((lE s_ (prefix_.size:Int) (s_.size:Int)),true))))
noncomputable def iC (s_:ByteArray) (prefix_:ByteArray):Option (ByteArray×Bool) :=
 (Option.bind (iq s_ prefix_) fun r1=>some (r1.1,r1.2))
end Go.Tw.X
set_option linter.unusedVariables false
set_option linter.unusedSimpArgs false
set_option maxRecDepth 10000
namespace Go.Tw.X
open Go Go.Tw
structure gX where
 from_:Int
 to:Int
 deriving DecidableEq,Inhabited
def cT:List gX:=[⟨(-2147483648),31⟩,⟨127,159⟩,⟨768,879⟩,⟨6832,6911⟩,⟨7616,7679⟩,⟨8203,8207⟩,⟨8400,8447⟩,⟨55296,57343⟩,⟨65024,65039⟩,⟨65056,65071⟩,⟨65279,65279⟩,⟨917760,917999⟩,⟨1114112,2147483647⟩]
def dC:List gX:=[⟨4352,4447⟩,⟨11904,12350⟩,⟨12353,13311⟩,⟨13312,19903⟩,⟨19968,40959⟩,⟨40960,42191⟩,⟨44032,55203⟩,⟨63744,64255⟩,⟨65072,65135⟩,⟨65280,65376⟩,⟨65504,65510⟩,⟨127744,128591⟩,⟨129280,129535⟩,⟨131072,262141⟩]
noncomputable def ny (l:List gX) (r_:Int):Option Bool :=
 (Option.bind (iter (σ:=Int×Int) (ρ:=Int) (fun a=>(bif (decide (a.1 < a.2)) then (Option.bind (idx l (IntKind.i64.wrap ((IntKind.i64.wrap (a.1+a.2)).tdiv 2))) fun c=>(bif (decide (c.to < r_)) then some (.inl ((IntKind.i64.wrap ((IntKind.i64.wrap ((IntKind.i64.wrap (a.1+a.2)).tdiv 2))+1)),a.2)) else some (.inl (a.1,(IntKind.i64.wrap ((IntKind.i64.wrap (a.1+a.2)).tdiv 2)))))) else some (.inr a.1))) (0,(l.length:Int))) fun b=>(Option.bind ((bif (decide (b < (l.length:Int))) then (Option.bind (idx l b) fun d=>some (decide (d.from_≤r_))) else some false):Option Bool) fun e=>some e))
noncomputable def nz (r_:Int):Option Int :=
 (Option.bind (ny cT r_) fun r9=>(bif r9 then some 0 else (Option.bind (ny dC r_) fun a=>(bif a then some 2 else some 1))))
end Go.Tw.X
set_option linter.unusedVariables false
set_option linter.unusedSimpArgs false
set_option maxRecDepth 10000
namespace Go.Tw.X
open Go Go.Tw
structure aG where
 rune:Int
 aP:Int
 part:Int
 deriving DecidableEq,Inhabited
structure aE where
 cells:List aG
 wrapped:Bool
 deriving DecidableEq,Inhabited
structure aN where
 rune:Int
 aP:Int
 deriving DecidableEq,Inhabited
noncomputable def jJ (n_:Int) (lo:Int) (hi:Int):Option Int :=
 some (imax lo (fQ n_ hi))
noncomputable def gY (aP:Int):Option aG :=
 some (aG.mk 32 aP 0)
noncomputable def dR (x_:List aG) (count:Int):Option (List aG) :=
 (bif (decide (count < 0)) then none else (Option.bind (nD (IntKind.u64.wrap (x_.length:Int)) (IntKind.u64.wrap count)) fun r3=>(Option.bind ((bif (decide (r3.1 > 0)) then some true else some (decide (r3.2 > 9223372036854775807))):Option Bool) fun e9=>(bif e9 then none else (Option.bind (chk (Jy (IntKind.i64.wrap r3.2) 24)) fun _=>(Option.bind (iter (σ:=(List aG)×Int) (ρ:=(List aG)) (fun a=>(bif (decide (a.2 < (a.1.length:Int))) then (Option.bind (chk (dB a.2 (a.1.length:Int) a.1.length)) fun _=>(Option.bind (chk (dB 0 a.2 a.1.length)) fun _=>some (.inl ((wW a.1 a.2.toNat),(IntKind.i64.wrap (a.2+((Nat.min a.2.toNat (a.1.length - a.2.toNat):Nat):Int))))))) else some (.inr a.1))) ((cpy (List.replicate (IntKind.i64.wrap r3.2).toNat (aG.mk 0 0 0)) x_),((Nat.min x_.length (List.replicate (IntKind.i64.wrap r3.2).toNat (aG.mk 0 0 0)).length:Nat):Int))) fun b=>some b))))))
noncomputable def jo (n_:Int) (aP:Int):Option (List aG) :=
 (Option.bind (gY aP) fun r1=>(Option.bind (dR [r1] (imax 0 n_)) fun r7=>some r7))
noncomputable def jq (w:Int) (aP:Int):Option aE :=
 (Option.bind (jJ w 0 1000) fun r2=>(Option.bind (jo r2 aP) fun r5=>some (aE.mk r5 false)))
noncomputable def eD (s_:List aG):Option (List aG) :=
 (Option.bind (chk (eL ([]:List aG).length s_.length 24)) fun _=>some (([]:List aG)++s_))
noncomputable def eX (r_:aE):Option (List aG) :=
 (Option.bind (eD r_.cells) fun r2=>some r2)
noncomputable def lj (l:List aG) (i:Int):Option Bool :=
 (Option.bind (idx l i) fun x1=>(bif (x1.part == 1) then (Option.bind ((bif (decide ((IntKind.i64.wrap (i+1))≥(l.length:Int))) then some true else (Option.bind (idx l (IntKind.i64.wrap (i+1))) fun a=>some (a.part != 2))):Option Bool) fun b=>some b) else (bif (x1.part == 2) then (Option.bind ((bif (i == 0) then some true else (Option.bind (idx l (IntKind.i64.wrap (i - 1))) fun c=>some (c.part != 1))):Option Bool) fun d=>some d) else (bif (x1.part == 3) then some (i != (IntKind.i64.wrap ((l.length:Int) - 1))) else some false))))
noncomputable def eU (l:List aG):Option aE :=
 (Option.bind (iter (σ:=(List aG)×Int) (ρ:=(List aG)) (fun a=>(bif (decide (a.2 < (l.length:Int))) then (Option.bind ((Option.bind (lj a.1 a.2) fun b=>(bif b then (Option.bind (idx a.1 a.2) fun c=>(Option.bind (gY c.aP) fun d=>(Option.bind (idx a.1 a.2) fun g=>some (a.1.set a.2.toNat d)))) else some a.1)):Option (List aG)) fun e=>some (.inl (e,(IntKind.i64.wrap (a.2+1))))) else some (.inr a.1))) (l,0)) fun f=>some (aE.mk f false))
noncomputable def lG (r_:aE) (at_:Int) (x_:Int) (aP:Int):Option aE :=
 (Option.bind (eX r_) fun r3=>(Option.bind (nz x_) fun r9=>(Option.bind ((Option.bind ((bif (r9 == 0) then some true else (bif (decide (at_ < 0)) then some true else some (decide (at_ > (IntKind.i64.wrap ((r3.length:Int) - r9)))))):Option Bool) fun a=>(bif a then some r3 else (bif (r9 == 1) then (Option.bind (idx r3 at_) fun h=>some (r3.set at_.toNat (aG.mk x_ aP 0))) else (Option.bind (idx r3 at_) fun i=>(Option.bind (idx (r3.set at_.toNat (aG.mk x_ aP 1)) (IntKind.i64.wrap (at_+1))) fun j=>(Option.bind ((bif (decide (at_ > 0)) then (Option.bind (idx ((r3.set at_.toNat (aG.mk x_ aP 1)).set ((IntKind.i64.wrap (at_+1)).toNat) (aG.mk x_ aP 2)) (IntKind.i64.wrap (at_ - 1))) fun b=>some (b.part == 1)) else some false):Option Bool) fun c=>(bif c then (Option.bind (idx ((r3.set at_.toNat (aG.mk x_ aP 1)).set ((IntKind.i64.wrap (at_+1)).toNat) (aG.mk x_ aP 2)) (IntKind.i64.wrap (at_ - 1))) fun d=>(Option.bind (gY d.aP) fun e=>(Option.bind (idx ((r3.set at_.toNat (aG.mk x_ aP 1)).set ((IntKind.i64.wrap (at_+1)).toNat) (aG.mk x_ aP 2)) (IntKind.i64.wrap (at_ - 1))) fun k=>some (((r3.set at_.toNat (aG.mk x_ aP 1)).set ((IntKind.i64.wrap (at_+1)).toNat) (aG.mk x_ aP 2)).set ((IntKind.i64.wrap (at_ - 1)).toNat) e)))) else some ((r3.set at_.toNat (aG.mk x_ aP 1)).set ((IntKind.i64.wrap (at_+1)).toNat) (aG.mk x_ aP 2))))))))):Option (List aG)) fun f=>(Option.bind (eU f) fun g=>some g))))
noncomputable def iU (r_:aE):Option (List aN) :=
 (Option.bind (iter (σ:=(List aG)) (ρ:=(List aG)) (fun a=>(Option.bind ((bif (!r_.wrapped) then (bif (decide ((a.length:Int) > 0)) then (Option.bind (idx a (IntKind.i64.wrap ((a.length:Int) - 1))) fun d=>(Option.bind (gY 0) fun e=>some ((d.rune == e.rune) && ((d.aP == e.aP) && ((d.part == e.part) && true))))) else some false) else some false):Option Bool) fun g=>(bif g then (Option.bind (chk (dB 0 (IntKind.i64.wrap ((a.length:Int) - 1)) a.length)) fun _=>some (.inl (cut a 0 (IntKind.i64.wrap ((a.length:Int) - 1))))) else some (.inr a)))) r_.cells) fun f=>(Option.bind (iter (σ:=Int×(List aN)) (ρ:=(List aN)) (fun b=>(bif (decide (b.1 < (f.length:Int))) then (Option.bind ((Option.bind (idx f b.1) fun c=>(Option.bind ((bif (c.part == 0) then some true else some (c.part == 1)):Option Bool) fun h=>(bif h then (Option.bind (chk (eL b.2.length [(aN.mk c.rune c.aP)].length 16)) fun _=>some (b.2++[(aN.mk c.rune c.aP)])) else some b.2))):Option (List aN)) fun i=>some (.inl ((IntKind.i64.wrap (b.1+1)),i))) else some (.inr b.2))) (0,[])) fun j=>some j))
noncomputable def jh (r_:aE) (from_:Int) (to:Int) (aP:Int):Option aE :=
 (Option.bind (eX r_) fun r3=>(Option.bind (jJ from_ 0 (r3.length:Int)) fun r9=>(Option.bind (iter (σ:=Int×(List aG)) (ρ:=(List aG)) (fun a=>(Option.bind (jJ to 0 (a.2.length:Int)) fun b=>(bif (decide (a.1 < b)) then (Option.bind (gY aP) fun c=>(Option.bind (idx a.2 a.1) fun f=>some (.inl ((IntKind.i64.wrap (a.1+1)),(a.2.set a.1.toNat c))))) else some (.inr a.2)))) (r9,r3)) fun d=>(Option.bind (eU d) fun e=>some e))))
noncomputable def iV (r_:aE) (at_:Int) (n_:Int):Option Int :=
 (Option.bind ((bif (decide (at_ < 0)) then some true else some (decide (at_≥(r_.cells.length:Int)))):Option Bool) fun e5=>(bif e5 then some 0 else (Option.bind (jJ n_ 0 (IntKind.i64.wrap ((r_.cells.length:Int) - at_))) fun a=>some a)))
noncomputable def gu (n_:Int):Option (List aG) :=
 (bif (decide (n_ < 0)) then none else (Option.bind ((bif (decide ((IntKind.i64.wrap (n_ - (IntKind.i64.wrap (0 - 0)))) > 0)) then (Option.bind (chk (Jz (IntKind.i64.wrap (n_ - (IntKind.i64.wrap (0 - 0)))) 24)) fun _=>(Option.bind (chk (dB 0 0 (List.replicate (IntKind.i64.wrap (n_ - (IntKind.i64.wrap (0 - 0)))).toNat (aG.mk 0 0 0)).length)) fun _=>some (cut (List.replicate (IntKind.i64.wrap (n_ - (IntKind.i64.wrap (0 - 0)))).toNat (aG.mk 0 0 0)) 0 0))) else some []):Option (List aG)) fun a=>some a))
noncomputable def eO (slices:List (List aG)):Option (List aG) :=
 (Option.bind (iter (σ:=Int×Int) (ρ:=Int) (fun a=>(bif (decide (a.1 < (slices.length:Int))) then (Option.bind (idx slices a.1) fun c=>(bif (decide ((IntKind.i64.wrap (a.2+(c.length:Int))) < 0)) then none else some (.inl ((IntKind.i64.wrap (a.1+1)),(IntKind.i64.wrap (a.2+(c.length:Int))))))) else some (.inr a.2))) (0,0)) fun e=>(Option.bind (gu e) fun f=>(Option.bind (iter (σ:=Int×(List aG)) (ρ:=(List aG)) (fun b=>(bif (decide (b.1 < (slices.length:Int))) then (Option.bind (idx slices b.1) fun d=>(Option.bind (chk (eL b.2.length d.length 24)) fun _=>some (.inl ((IntKind.i64.wrap (b.1+1)),(b.2++d))))) else some (.inr b.2))) (0,f)) fun g=>some g)))
noncomputable def jU (r_:aE) (at_:Int) (n_:Int) (aP:Int):Option aE :=
 (Option.bind (iV r_ at_ n_) fun r3=>(bif (r3 == 0) then (Option.bind (eX r_) fun b=>(Option.bind (eU b) fun c=>some c)) else (Option.bind (chk (dB 0 at_ r_.cells.length)) fun _=>(Option.bind (chk (dB at_ (r_.cells.length:Int) r_.cells.length)) fun _=>(Option.bind (jo r3 aP) fun d=>(Option.bind (eO [(cut r_.cells 0 at_),d,(cut r_.cells at_ (r_.cells.length:Int))]) fun a=>(Option.bind (chk (dB 0 (r_.cells.length:Int) a.length)) fun _=>(Option.bind (eU (cut a 0 (r_.cells.length:Int))) fun e=>some e))))))))
noncomputable def jV (r_:aE) (at_:Int) (n_:Int) (aP:Int):Option aE :=
 (Option.bind (iV r_ at_ n_) fun r3=>(bif (r3 == 0) then (Option.bind (eX r_) fun a=>(Option.bind (eU a) fun b=>some b)) else (Option.bind (chk (dB 0 at_ r_.cells.length)) fun _=>(Option.bind (chk (dB (IntKind.i64.wrap (at_+r3)) (r_.cells.length:Int) r_.cells.length)) fun _=>(Option.bind (jo r3 aP) fun c=>(Option.bind (eO [(cut r_.cells 0 at_),(cut r_.cells (IntKind.i64.wrap (at_+r3)) (r_.cells.length:Int)),c]) fun d=>(Option.bind (eU d) fun e=>some e)))))))
noncomputable def kX (r_:aE) (aP:Int):Option aE :=
 (Option.bind (eX r_) fun r3=>(Option.bind ((bif (decide ((r3.length:Int) > 0)) then (Option.bind (idx r3 (IntKind.i64.wrap ((r3.length:Int) - 1))) fun c=>some (r3.set ((IntKind.i64.wrap ((r3.length:Int) - 1)).toNat) (aG.mk 32 aP 3))) else some r3):Option (List aG)) fun a=>(Option.bind (eU a) fun b=>some (aE.mk b.cells true))))
noncomputable def iW (r_:aE) (w:Int):Option aE :=
 (Option.bind (jJ w 0 1000) fun r3=>(Option.bind (eX r_) fun r6=>(bif (r3 == (r6.length:Int)) then some (aE.mk r6 r_.wrapped) else (Option.bind (jo (IntKind.i64.wrap (r3 - (r6.length:Int))) 0) fun a=>(Option.bind (chk (dB 0 (fQ r3 (r6.length:Int)) r6.length)) fun _=>(Option.bind (chk (eL (cut r6 0 (fQ r3 (r6.length:Int))).length a.length 24)) fun _=>(Option.bind (eU ((cut r6 0 (fQ r3 (r6.length:Int)))++a)) fun b=>some b)))))))
noncomputable def fZ (s1_:List aG) (s2_:List aG):Option Bool :=
 (bif ((s1_.length:Int) != (s2_.length:Int)) then some false else (Option.bind (iter (σ:=Int) (ρ:=Unit ⊕ Bool) (fun a=>(bif (decide (a < (s1_.length:Int))) then (Option.bind (idx s1_ a) fun b=>(Option.bind (idx s2_ a) fun c=>(bif (!((b.rune == c.rune) && ((b.aP == c.aP) && ((b.part == c.part) && true)))) then (kO (some false)) else some (.inl (IntKind.i64.wrap (a+1)))))) else some (.inr (.inl ())))) 0) fun | .inl e355=>some true | .inr w=>some w))
noncomputable def gZ (r_:aE) (q:aE):Option Bool :=
 (Option.bind ((bif (r_.wrapped == q.wrapped) then (Option.bind (fZ r_.cells q.cells) fun a=>some a) else some false):Option Bool) fun b=>some b)
noncomputable def dM (s_:List aE):Option (List aE) :=
 (Option.bind (chk (eL ([]:List aE).length s_.length 32)) fun _=>some (([]:List aE)++s_))
noncomputable def fL (s_:List aE):Option (List aE) :=
 (Option.bind (iter (σ:=(List aE)×Int×Int) (ρ:=(List aE)) (fun a=>(bif (decide (a.2.1 < a.2.2)) then (Option.bind ((Option.bind (idx a.1 a.2.2) fun b=>(Option.bind (idx a.1 a.2.1) fun c=>(Option.bind (idx a.1 a.2.1) fun f=>(Option.bind (idx a.1 a.2.2) fun g=>some ((a.1.set a.2.1.toNat b).set a.2.2.toNat c))))):Option (List aE)) fun d=>some (.inl (d,(IntKind.i64.wrap (a.2.1+1)),(IntKind.i64.wrap (a.2.2 - 1))))) else some (.inr a.1))) (s_,0,(IntKind.i64.wrap ((s_.length:Int) - 1)))) fun e=>some e)
noncomputable def dD (s1_:List aE) (s2_:List aE):Option Bool :=
 (bif ((s1_.length:Int) != (s2_.length:Int)) then some false else (Option.bind (iter (σ:=Int) (ρ:=Unit ⊕ Bool) (fun a=>(bif (decide (a < (s1_.length:Int))) then (Option.bind (idx s1_ a) fun b=>(Option.bind (idx s2_ a) fun c=>(Option.bind (gZ b c) fun d=>(bif (!d) then (kO (some false)) else some (.inl (IntKind.i64.wrap (a+1))))))) else some (.inr (.inl ())))) 0) fun | .inl e169=>some true | .inr w=>some w))
noncomputable def cC (s_:List aN):Option (List aN) :=
 (Option.bind (chk (eL ([]:List aN).length s_.length 16)) fun _=>some (([]:List aN)++s_))
noncomputable def fM (s1_:List aN) (s2_:List aN):Option Bool :=
 (bif ((s1_.length:Int) != (s2_.length:Int)) then some false else (Option.bind (iter (σ:=Int) (ρ:=Unit ⊕ Bool) (fun a=>(bif (decide (a < (s1_.length:Int))) then (Option.bind (idx s1_ a) fun b=>(Option.bind (idx s2_ a) fun c=>(bif (!((b.rune == c.rune) && ((b.aP == c.aP) && true))) then (kO (some false)) else some (.inl (IntKind.i64.wrap (a+1)))))) else some (.inr (.inl ())))) 0) fun | .inl e355=>some true | .inr w=>some w))
end Go.Tw.X
set_option linter.unusedVariables false
set_option linter.unusedSimpArgs false
set_option maxRecDepth 10000
namespace Go.Tw.X
open Go Go.Tw
def eE:List Int:=[0,498536548,997073096,651767980,1994146192,1802195444,1303535960,1342533948,3988292384,4027552580,3604390888,3412177804,2607071920,2262029012,2685067896,3183342108]
noncomputable def mI (x_:Int) (b:Int):Option Int :=
 (Option.bind (idx eE (Go.bits .and .u32 (Go.bits .xor .u32 x_ (IntKind.u32.wrap b)) 15)) fun x1=>(Option.bind (idx eE (Go.bits .and .u32 (Go.bits .xor .u32 ((Go.bits .xor .u32 x_ (IntKind.u32.wrap b)).fdiv (2 ^ (min 4 32))) x1) 15)) fun x5=>some (Go.bits .xor .u32 ((Go.bits .xor .u32 ((Go.bits .xor .u32 x_ (IntKind.u32.wrap b)).fdiv (2 ^ (min 4 32))) x1).fdiv (2 ^ (min 4 32))) x5)))
noncomputable def ox (l:List ByteArray):Option Int :=
 (Option.bind (iter (σ:=Int×Int) (ρ:=Int) (fun a=>(bif (decide (a.2 < (l.length:Int))) then (Option.bind (idx l a.2) fun c=>(Option.bind (iter (σ:=Int×Int) (ρ:=Int) (fun b=>(bif (decide (b.1 < (c.size:Int))) then (Option.bind (wX c b.1) fun b642=>(Option.bind (mI b.2 b642) fun d=>some (.inl ((IntKind.i64.wrap (b.1+1)),d)))) else some (.inr b.2))) (0,a.1)) fun e=>some (.inl (e,(IntKind.i64.wrap (a.2+1)))))) else some (.inr a.1))) (4294967295,0)) fun f=>some (Go.bits .xor .u32 4294967295 f))
end Go.Tw.X
set_option linter.unusedVariables false
set_option linter.unusedSimpArgs false
set_option maxRecDepth 10000
namespace Go.Tw.X
open Go Go.Tw
structure cG where
 l:List (List aN)
 bZ:List Int
 begun:List aN
 deriving DecidableEq,Inhabited
noncomputable def o6:Option cG :=
 some (cG.mk ([]:List (List aN)) [0] ([]:List aN))
noncomputable def kB (b:cG):Option Int :=
 some (b.l.length:Int)
noncomputable def jr (b:cG) (n_:Int):Option Int :=
 (Option.bind (idx b.bZ (imax 0 (fQ n_ (b.l.length:Int)))) fun a=>some a)
noncomputable def jt (b:cG):Option (List aN) :=
 (Option.bind (cC b.begun) fun r1=>some r1)
noncomputable def kY (l:List aN):Option ByteArray :=
 (Option.bind (cQ (cE.mk ([]:List Int)) [(l.length:Int)]) fun r6=>(Option.bind (iter (σ:=cE×Int) (ρ:=cE) (fun a=>(bif (decide (a.2 < (l.length:Int))) then (Option.bind (idx l a.2) fun b=>(Option.bind (cQ a.1 [(IntKind.i64.wrap b.rune),b.aP]) fun c=>some (.inl (c,(IntKind.i64.wrap (a.2+1)))))) else some (.inr a.1))) (r6,0)) fun d=>(Option.bind (gC d) fun e=>some e)))
noncomputable def gv (in_:aU) (most:Int):Option (Int×aU) :=
 (Option.bind (bH in_) fun r1=>(bif (decide (r1.1 > most)) then (Option.bind (bV r1.2 1) fun r9=>some (0,r9)) else some (r1.1,r1.2)))
noncomputable def kf (in_:aU):Option ((List aN)×aU) :=
 (Option.bind (gv in_ 1024) fun r1=>(Option.bind (iter (σ:=aU×(List aN)×Int) (ρ:=(List aN)×aU) (fun a=>(bif (decide (a.2.2 < r1.1)) then (Option.bind (gv a.1 1114111) fun c=>(Option.bind (gv c.2 647) fun d=>(Option.bind (chk (eL a.2.1.length [(aN.mk (IntKind.i32.wrap c.1) d.1)].length 16)) fun _=>some (.inl (d.2,(a.2.1++[(aN.mk (IntKind.i32.wrap c.1) d.1)]),(IntKind.i64.wrap (a.2.2+1))))))) else some (.inr (a.2.1,a.1)))) (r1.2,[],0)) fun b=>(Option.bind (cM b.2) fun e=>(bif (e != 0) then some (([]:List aN),b.2) else some (b.1,b.2)))))
noncomputable def mX (chain:Int) (l:List aN):Option Int :=
 (Option.bind (kY l) fun r1=>(Option.bind (ox [r1]) fun r6=>some ((IntKind.i64.wrap (((IntKind.i64.wrap (((IntKind.i64.wrap (chain*256)).tmod 281474976710597)*256)).tmod 281474976710597)+(IntKind.i64.wrap r6))).tmod 281474976710597)))
noncomputable def fF (b:cG) (l:List aN):Option cG :=
 (Option.bind (cC l) fun a=>(Option.bind (chk (eL b.l.length [a].length 24)) fun _=>(Option.bind (idx b.bZ (IntKind.i64.wrap ((b.bZ.length:Int) - 1))) fun d=>(Option.bind (mX d l) fun c=>(Option.bind (chk (eL b.bZ.length [c].length 8)) fun _=>some (cG.mk (b.l++[a]) (b.bZ++[c]) b.begun))))))
noncomputable def iA (b:cG) (rows:List aE):Option (Int×cG) :=
 (Option.bind (iter (σ:=cG×Int) (ρ:=cG) (fun a=>(bif (decide (a.2 < (rows.length:Int))) then (Option.bind ((Option.bind (idx rows a.2) fun f=>(Option.bind (iU f) fun g=>(Option.bind (chk (eL a.1.begun.length g.length 16)) fun _=>(Option.bind (iter (σ:=cG) (ρ:=cG) (fun d=>(bif (decide ((d.begun.length:Int)≥1024)) then (Option.bind (chk (dB 0 1024 d.begun.length)) fun _=>(Option.bind (fF d (cut d.begun 0 1024)) fun c=>(Option.bind (chk (dB 1024 (c.begun.length:Int) c.begun.length)) fun _=>(Option.bind (cC (cut c.begun 1024 (c.begun.length:Int))) fun j=>some (.inl (cG.mk c.l c.bZ j)))))) else some (.inr d))) (cG.mk a.1.l a.1.bZ (a.1.begun++g))) fun e=>(bif (!f.wrapped) then (Option.bind (fF e e.begun) fun h=>some (cG.mk h.l h.bZ ([]:List aN))) else some e))))):Option cG) fun k=>some (.inl (k,(IntKind.i64.wrap (a.2+1))))) else some (.inr a.1))) (b,0)) fun i=>some ((IntKind.i64.wrap ((i.l.length:Int) - (b.l.length:Int))),i))
end Go.Tw.X
set_option linter.unusedVariables false
set_option linter.unusedSimpArgs false
set_option maxRecDepth 10000
namespace Go.Tw.X
open Go Go.Tw
structure bC where
 w:Int
 l:List aE
 deriving DecidableEq,Inhabited
noncomputable def hU (n_:Int) (lo:Int) (hi:Int):Option Int :=
 some (imax lo (fQ n_ hi))
noncomputable def iS (n_:Int):Option Int :=
 (Option.bind (hU n_ 1 1000) fun r1=>some r1)
noncomputable def nE (w:Int) (h_:Int):Option bC :=
 (Option.bind (iS w) fun r1=>(Option.bind (iS h_) fun r5=>(Option.bind (iter (σ:=bC×Int) (ρ:=bC) (fun a=>(bif (decide (a.2 < r5)) then (Option.bind (jq a.1.w 0) fun b=>(Option.bind (chk (eL a.1.l.length [b].length 32)) fun _=>some (.inl ((bC.mk a.1.w (a.1.l++[b])),(IntKind.i64.wrap (a.2+1)))))) else some (.inr a.1))) ((bC.mk r1 ([]:List aE)),0)) fun c=>some c)))
noncomputable def mJ (r_:aE):Option aE :=
 (Option.bind (eD r_.cells) fun a=>some (aE.mk a r_.wrapped))
noncomputable def eY (g:bC) (y:Int):Option aE :=
 (Option.bind ((bif (decide (y < 0)) then some true else some (decide (y≥(g.l.length:Int)))):Option Bool) fun e5=>(bif e5 then some (aE.mk ([]:List aG) false) else (Option.bind (idx g.l y) fun a=>(Option.bind (mJ a) fun b=>some b))))
noncomputable def eM (g:bC) (y:Int) (r_:aE):Option (Bool×bC) :=
 (Option.bind ((bif (decide (y < 0)) then some true else some (decide (y≥(g.l.length:Int)))):Option Bool) fun e5=>(bif e5 then some (false,g) else (Option.bind (iW r_ g.w) fun a=>(Option.bind (idx g.l y) fun b=>some (true,(bC.mk g.w (g.l.set y.toNat a)))))))
noncomputable def dS (g:bC) (top:Int) (aO:Int):Option (Unit ⊕ (Int×Int)) :=
 (Option.bind (hU top 0 (IntKind.i64.wrap ((g.l.length:Int) - 1))) fun r1=>(Option.bind (hU aO 0 (IntKind.i64.wrap ((g.l.length:Int) - 1))) fun r4=>(bif (decide (r4 < r1)) then some (.inl ()) else (Option.bind (chk (dB r1 (IntKind.i64.wrap (r4+1)) g.l.length)) fun _=>some (.inr (r1,(IntKind.i64.wrap (r4+1))))))))
noncomputable def fN (g:bC) (top:Int) (aO:Int) (n_:Int) (aP:Int):Option ((List aE)×bC) :=
 (Option.bind (dS g top aO) fun | .inl r1=>some (([]:List aE),g) | .inr r1=>(Option.bind (chk (dB r1.1 r1.2 g.l.length)) fun _=>(Option.bind (hU n_ 0 ((cut g.l r1.1 r1.2).length:Int)) fun r9=>(Option.bind (chk (dB 0 r9 (cut g.l r1.1 r1.2).length)) fun _=>(Option.bind (dM (cut g.l (r1.1+0) (r1.1+r9))) fun b=>(Option.bind (chk (dB r9 ((cut g.l r1.1 r1.2).length:Int) (cut g.l r1.1 r1.2).length)) fun _=>(Option.bind (iter (σ:=bC×Int) (ρ:=bC) (fun a=>(bif (decide (a.2 < ((cut a.1.l r1.1 r1.2).length:Int))) then (Option.bind (jq a.1.w aP) fun c=>(Option.bind (chk (dB r1.1 r1.2 a.1.l.length)) fun _=>(Option.bind (idx (cut a.1.l r1.1 r1.2) a.2) fun e=>some (.inl ((bC.mk a.1.w (a.1.l.set (r1.1.toNat+a.2.toNat) c)),(IntKind.i64.wrap (a.2+1))))))) else some (.inr a.1))) ((bC.mk g.w (pK g.l r1.1 r1.2 (r1.1+r9) (r1.1+((cut g.l r1.1 r1.2).length:Int)))),(IntKind.i64.wrap (((cut (pK g.l r1.1 r1.2 (r1.1+r9) (r1.1+((cut g.l r1.1 r1.2).length:Int))) r1.1 r1.2).length:Int) - r9)))) fun d=>some (b,d))))))))
noncomputable def eF (g:bC) (top:Int) (aO:Int) (n_:Int) (aP:Int):Option ((List aE)×bC) :=
 (Option.bind (dS g top aO) fun | .inl r1=>some (([]:List aE),g) | .inr r1=>(Option.bind (chk (dB r1.1 r1.2 g.l.length)) fun _=>(Option.bind (hU n_ 0 ((cut g.l r1.1 r1.2).length:Int)) fun r9=>(Option.bind (chk (dB (IntKind.i64.wrap (((cut g.l r1.1 r1.2).length:Int) - r9)) ((cut g.l r1.1 r1.2).length:Int) (cut g.l r1.1 r1.2).length)) fun _=>(Option.bind (dM (cut g.l (r1.1+(IntKind.i64.wrap (((cut g.l r1.1 r1.2).length:Int) - r9))) (r1.1+((cut g.l r1.1 r1.2).length:Int)))) fun b=>(Option.bind (fL b) fun c=>(Option.bind (chk (decide (c.length=b.length))) fun _=>(Option.bind (chk (dB r9 ((cut g.l r1.1 r1.2).length:Int) (cut g.l r1.1 r1.2).length)) fun _=>(Option.bind (chk (dB 0 (IntKind.i64.wrap (((cut g.l r1.1 r1.2).length:Int) - r9)) (cut g.l r1.1 r1.2).length)) fun _=>(Option.bind (iter (σ:=bC×Int) (ρ:=bC) (fun a=>(bif (decide (a.2 < r9)) then (Option.bind (jq a.1.w aP) fun d=>(Option.bind (chk (dB r1.1 r1.2 a.1.l.length)) fun _=>(Option.bind (idx (cut a.1.l r1.1 r1.2) a.2) fun f=>some (.inl ((bC.mk a.1.w (a.1.l.set (r1.1.toNat+a.2.toNat) d)),(IntKind.i64.wrap (a.2+1))))))) else some (.inr a.1))) ((bC.mk g.w (pK g.l (r1.1+r9) (r1.1+((cut g.l r1.1 r1.2).length:Int)) (r1.1+0) (r1.1+(IntKind.i64.wrap (((cut g.l r1.1 r1.2).length:Int) - r9))))),0)) fun e=>some (c,e)))))))))))
noncomputable def lX (g:bC) (w:Int) (h_:Int) (off:Int):Option ((List aE)×bC) :=
 (Option.bind (hU off 0 (IntKind.i64.wrap ((g.l.length:Int) - 1))) fun r1=>(Option.bind (chk (dB 0 r1 g.l.length)) fun _=>(Option.bind (dM (cut g.l 0 r1)) fun h=>(Option.bind (chk (dB r1 (g.l.length:Int) g.l.length)) fun _=>(Option.bind (dM (cut g.l r1 (g.l.length:Int))) fun b=>(Option.bind (iS h_) fun d=>(Option.bind (chk (dB 0 (fQ (b.length:Int) d) b.length)) fun _=>(Option.bind (iter (σ:=(List aE)) (ρ:=(List aE)) (fun c=>(Option.bind (iS h_) fun i=>(bif (decide ((c.length:Int) < i)) then (Option.bind (iS w) fun j=>(Option.bind (jq j 0) fun e=>(Option.bind (chk (eL c.length [e].length 32)) fun _=>some (.inl (c++[e]))))) else some (.inr c)))) (cut b 0 (fQ (b.length:Int) d))) fun f=>(Option.bind (iS w) fun k=>(Option.bind (iter (σ:=bC×Int) (ρ:=bC) (fun a=>(bif (decide (a.2 < (f.length:Int))) then (Option.bind (idx a.1.l a.2) fun m=>(Option.bind (eM a.1 a.2 m) fun n=>some (.inl (n.2,(IntKind.i64.wrap (a.2+1)))))) else some (.inr a.1))) ((bC.mk k f),0)) fun o=>some (h,o)))))))))))
noncomputable def dL (g:bC):Option (Int×Int) :=
 some (g.w,(g.l.length:Int))
noncomputable def mc (l:List aE):Option (List aE) :=
 some l
noncomputable def iX {σ:Type} (Y:σ→aE→Option (σ×Bool)) (y0:σ) (x1:List aE):Option σ :=
 (Option.bind (iter (σ:=Int×σ) (ρ:=σ ⊕ σ) (fun a=>(bif (decide (a.1 < (x1.length:Int))) then (Option.bind (idx x1 a.1) fun b=>(Option.bind (mJ b) fun c=>(Option.bind (Y a.2 c) fun z184=>(bif (!z184.2) then (kO (some z184.1)) else some (.inl ((IntKind.i64.wrap (a.1+1)),z184.1)))))) else some (.inr (.inl a.2)))) (0,y0)) fun | .inl e139=>some e139 | .inr w=>some w)
noncomputable def iY (l:List aE):Option ((List aE)×(List aE)) :=
 (Option.bind (mc l) fun r2=>(Option.bind (iX (fun s40 x9=>(Option.bind (chk (eL s40.length [x9].length 32)) fun _=>some ((s40++[x9]),true))) ([]:(List aE)) r2) fun a=>some (a,r2)))
noncomputable def jW (g:bC):Option ((List aE)×bC) :=
 (Option.bind (iY g.l) fun r1=>(Option.bind (chk (decide (r1.2.length=g.l.length))) fun _=>some (r1.1,(bC.mk g.w r1.2))))
noncomputable def ju (g:bC):Option (bC×bC) :=
 (Option.bind (iY g.l) fun a=>(Option.bind (chk (decide (a.2.length=g.l.length))) fun _=>some ((bC.mk g.w a.1),(bC.mk g.w a.2))))
end Go.Tw.X
set_option linter.unusedVariables false
set_option linter.unusedSimpArgs false
set_option maxRecDepth 10000
namespace Go.Tw.X
open Go Go.Tw
structure bE where
 kind:Int
 rune:Int
 byte:Int
 dN:Bool
 bQ:List Int
 text:ByteArray
 deriving DecidableEq,Inhabited
structure eS where
 dN:Bool
 l5:Bool
 any:Bool
 some:Bool
 n:Int
 bQ:List Int
 deriving DecidableEq,Inhabited
structure aI where
 state:Int
 order:eS
 text:ByteArray
 cL:bU
 out:List bE
 deriving DecidableEq,Inhabited
noncomputable def fG (p:aI) (a:bE):Option aI :=
 (Option.bind (chk (eL p.out.length [a].length 56)) fun _=>some (aI.mk p.state p.order p.text p.cL (p.out++[a])))
noncomputable def gJ (p:aI) (l:List Int):Option aI :=
 (Option.bind (iter (σ:=aI×Int) (ρ:=aI) (fun a=>(bif (decide (a.2 < (l.length:Int))) then (Option.bind (idx l a.2) fun b=>(Option.bind (fG a.1 (bE.mk 1 b 0 false ([]:List Int) (ByteArray.mk #[]))) fun c=>some (.inl (c,(IntKind.i64.wrap (a.2+1)))))) else some (.inr a.1))) (p,0)) fun d=>some d)
noncomputable def eP (p:aI) (b:Int):Option (Bool×aI) :=
 (Option.bind ((Option.bind ((bif (b == 24) then some true else some (b == 26)):Option Bool) fun a=>(bif a then some (.inl (aI.mk 0 p.order p.text p.cL p.out)) else (bif (b == 27) then some (.inl (aI.mk 1 p.order p.text p.cL p.out)) else (bif (decide (b < 32)) then (Option.bind (fG p (bE.mk 2 0 b false ([]:List Int) (ByteArray.mk #[]))) fun c=>some (.inl c)) else (kb (some ((b == 127),p))))))):Option (aI ⊕ (Bool×aI))) fun | .inl e42=>some (true,e42) | .inr w=>some w)
noncomputable def gD (p:aI) (b:Int):Option aI :=
 (Option.bind ((bif (decide (b < 32)) then some true else some (b == 127)):Option Bool) fun e4=>(bif e4 then (Option.bind (iB p.cL) fun d=>(Option.bind (gJ p d) fun a=>(Option.bind (eP (aI.mk a.state a.order a.text (bU.mk 0 0 0) a.out) b) fun e=>some e.2))) else (Option.bind (gW p.cL b) fun c=>(Option.bind (gJ (aI.mk p.state p.order p.text c.1 p.out) c.2) fun f=>some f))))
noncomputable def fJ (p:aI) (b:Int):Option aI :=
 (Option.bind (eP p b) fun r1=>(bif r1.1 then some r1.2 else (Option.bind ((bif (b == 91) then (kb (some (aI.mk 3 (eS.mk false false false false 0 ([]:List Int)) r1.2.text r1.2.cL r1.2.out))) else (bif (b == 93) then (kb (some (aI.mk 4 r1.2.order (ByteArray.mk #[]) r1.2.cL r1.2.out))) else (bif (decide (b < 48)) then (kb (some (aI.mk 2 r1.2.order r1.2.text r1.2.cL r1.2.out))) else (bif (decide (b < 127)) then (Option.bind (fG r1.2 (bE.mk 3 0 b false ([]:List Int) (ByteArray.mk #[]))) fun a=>some (.inl a)) else some (.inl r1.2))))):Option (aI ⊕ aI)) fun | .inl e39=>some (aI.mk 0 e39.order e39.text e39.cL e39.out) | .inr w=>some w)))
noncomputable def iD (p:aI) (b:Int):Option aI :=
 (Option.bind ((Option.bind (eP p b) fun c=>(bif (!c.1) then some ((decide (b≥48)),c.2) else some (false,c.2))):Option (Bool×aI)) fun a=>(bif a.1 then some (aI.mk 0 a.2.order a.2.text a.2.cL a.2.out) else some a.2))
noncomputable def iZ (o:aI):Option aI :=
 (Option.bind ((bif (decide ((o.order.bQ.length:Int) < 16)) then (Option.bind (chk (eL o.order.bQ.length [o.order.n].length 8)) fun _=>some (aI.mk o.state (eS.mk o.order.dN o.order.l5 o.order.any o.order.some o.order.n (o.order.bQ++[o.order.n])) o.text o.cL o.out)) else some o):Option aI) fun a=>some (aI.mk a.state (eS.mk a.order.dN a.order.l5 a.order.any a.order.some 0 a.order.bQ) a.text a.cL a.out))
noncomputable def ib (p:aI) (a:bE):Option aI :=
 (Option.bind (chk (eL p.out.length [a].length 56)) fun _=>some (aI.mk p.state p.order p.text p.cL (p.out++[a])))
noncomputable def iE (p:aI) (b:Int):Option aI :=
 (bif p.order.l5 then some (aI.mk 0 p.order p.text p.cL p.out) else (Option.bind ((bif p.order.some then (Option.bind (iZ (aI.mk 0 p.order p.text p.cL p.out)) fun d=>some d) else some (aI.mk 0 p.order p.text p.cL p.out)):Option aI) fun a=>(Option.bind (ib a (bE.mk 4 0 b a.order.dN a.order.bQ (ByteArray.mk #[]))) fun c=>(Option.bind (chk (!(c.state == (3:Int)))) fun _=>some c))))
noncomputable def gx (p:aI) (b:Int):Option aI :=
 (Option.bind (eP p b) fun r1=>(bif r1.1 then some r1.2 else (Option.bind ((bif (decide (b≥48)) then some (decide (b≤57)) else some false):Option Bool) fun c=>(bif c then some (aI.mk r1.2.state (eS.mk r1.2.order.dN r1.2.order.l5 true true (fQ (IntKind.i64.wrap ((IntKind.i64.wrap (10*r1.2.order.n))+(IntKind.i64.wrap (IntKind.u8.wrap (b - 48))))) 9999) r1.2.order.bQ) r1.2.text r1.2.cL r1.2.out) else (Option.bind ((bif (b == 59) then some true else some (b == 58)):Option Bool) fun d=>(bif d then (Option.bind (chk (r1.2.state == (3:Int))) fun _=>(Option.bind (iZ (aI.mk r1.2.state (eS.mk r1.2.order.dN r1.2.order.l5 true r1.2.order.some r1.2.order.n r1.2.order.bQ) r1.2.text r1.2.cL r1.2.out)) fun a=>some (aI.mk a.state (eS.mk a.order.dN a.order.l5 a.order.any true a.order.n a.order.bQ) a.text a.cL a.out))) else (Option.bind ((bif (b == 63) then some (!r1.2.order.any) else some false):Option Bool) fun e=>(bif e then some (aI.mk r1.2.state (eS.mk true r1.2.order.l5 true r1.2.order.some r1.2.order.n r1.2.order.bQ) r1.2.text r1.2.cL r1.2.out) else (Option.bind ((bif (decide (b≥64)) then some (decide (b < 127)) else some false):Option Bool) fun f=>(bif f then (Option.bind (chk (r1.2.state == (3:Int))) fun _=>(Option.bind (iE (aI.mk r1.2.state (eS.mk r1.2.order.dN r1.2.order.l5 true r1.2.order.some r1.2.order.n r1.2.order.bQ) r1.2.text r1.2.cL r1.2.out) b) fun g=>some g)) else some (aI.mk r1.2.state (eS.mk r1.2.order.dN true true r1.2.order.some r1.2.order.n r1.2.order.bQ) r1.2.text r1.2.cL r1.2.out)))))))))))
noncomputable def ir (p:aI):Option aI :=
 (Option.bind (iter (σ:=aI×Int) (ρ:=aI) (fun a=>(bif (decide (a.2 < (([(ByteArray.mk #[48,59]),(ByteArray.mk #[50,59])]).length:Int))) then (Option.bind ((Option.bind (idx ([(ByteArray.mk #[48,59]),(ByteArray.mk #[50,59])]) a.2) fun c=>(Option.bind (iC a.1.text c) fun b=>(bif b.2 then (Option.bind (fG a.1 (bE.mk 5 0 0 false ([]:List Int) b.1)) fun d=>some d) else some a.1))):Option aI) fun e=>some (.inl (e,(IntKind.i64.wrap (a.2+1))))) else some (.inr a.1))) ((aI.mk 0 p.order p.text p.cL p.out),0)) fun f=>some f)
noncomputable def ic (p:aI) (b:Int):Option aI :=
 (bif (b == 7) then (Option.bind (ir p) fun r2=>some r2) else (Option.bind ((bif (b == 24) then some true else some (b == 26)):Option Bool) fun a=>(bif a then some (aI.mk 0 p.order p.text p.cL p.out) else (bif (b == 27) then some (aI.mk 5 p.order p.text p.cL p.out) else (bif (decide ((p.text.size:Int) < 200)) then (Option.bind (chk (JB p.text.size (fR [b]).size)) fun _=>some (aI.mk p.state p.order (p.text++(fR [b])) p.cL p.out)) else some p)))))
noncomputable def jX (p:aI) (b:Int):Option aI :=
 (bif (p.state == 0) then (Option.bind (gD p b) fun r2=>some r2) else (bif (p.state == 1) then (Option.bind (fJ p b) fun a=>some a) else (bif (p.state == 2) then (Option.bind (iD p b) fun c=>some c) else (bif (p.state == 3) then (Option.bind (gx p b) fun d=>some d) else (bif (p.state == 4) then (Option.bind (ic p b) fun e=>some e) else (bif (b == 92) then (Option.bind (ir p) fun f=>some f) else (Option.bind (fJ (aI.mk 1 p.order p.text p.cL p.out) b) fun g=>some g)))))))
noncomputable def jv (p:aI) (s_:ByteArray):Option ((List bE)×aI) :=
 (Option.bind (iter (σ:=aI×Int) (ρ:=aI) (fun a=>(bif (decide (a.2 < (s_.size:Int))) then (Option.bind (wX s_ a.2) fun b134=>(Option.bind (jX a.1 b134) fun c=>some (.inl (c,(IntKind.i64.wrap (a.2+1)))))) else some (.inr a.1))) ((aI.mk p.state p.order p.text p.cL ([]:List bE)),0)) fun b=>some (b.out,(aI.mk b.state b.order b.text b.cL ([]:List bE))))
end Go.Tw.X
set_option linter.unusedVariables false
set_option linter.unusedSimpArgs false
set_option maxRecDepth 10000
namespace Go.Tw.X
open Go Go.Tw
structure bG where
 gN:Int
 back:Int
 bold:Bool
 under:Bool
 dI:Bool
 deriving DecidableEq,Inhabited
noncomputable def jw (s_:bG):Option Bool :=
 (Option.bind ((bif (decide (s_.gN≥0)) then (bif (decide (s_.gN < 9)) then (bif (decide (s_.back≥0)) then some (decide (s_.back < 9)) else some false) else some false) else some false):Option Bool) fun e9=>some e9)
noncomputable def l4 (is:Bool) (n_:Int):Option Int :=
 (bif is then some n_ else some 0)
noncomputable def jy (s_:bG):Option Int :=
 (Option.bind (jw s_) fun r2=>(bif (!r2) then some 0 else (Option.bind (l4 s_.bold 81) fun a=>(Option.bind (l4 s_.under 162) fun b=>(Option.bind (l4 s_.dI 324) fun c=>some (IntKind.i64.wrap ((IntKind.i64.wrap ((IntKind.i64.wrap ((IntKind.i64.wrap (s_.gN+(IntKind.i64.wrap (9*s_.back))))+a))+b))+c)))))))
noncomputable def me (l:List Int):Option Int :=
 (Option.bind ((bif (decide ((l.length:Int) > 0)) then (Option.bind (idx l 0) fun a=>some (a == 5)) else some false):Option Bool) fun b=>(bif b then some (fQ 2 (l.length:Int)) else (Option.bind ((bif (decide ((l.length:Int) > 0)) then (Option.bind (idx l 0) fun c=>some (c == 2)) else some false):Option Bool) fun d=>(bif d then some (fQ 4 (l.length:Int)) else some 0))))
noncomputable def jz (s_:bG) (n_:Int):Option bG :=
 (Option.bind ((bif (n_ == 0) then (kb (some (bG.mk 0 0 false false false))) else (Option.bind ((bif (n_ == 1) then some true else some (n_ == 22)):Option Bool) fun a=>(bif a then some (.inl (bG.mk s_.gN s_.back (n_ == 1) s_.under s_.dI)) else (Option.bind ((bif (n_ == 4) then some true else some (n_ == 24)):Option Bool) fun b=>(bif b then some (.inl (bG.mk s_.gN s_.back s_.bold (n_ == 4) s_.dI)) else (Option.bind ((bif (n_ == 7) then some true else some (n_ == 27)):Option Bool) fun c=>(bif c then some (.inl (bG.mk s_.gN s_.back s_.bold s_.under (n_ == 7))) else (Option.bind ((bif (decide (n_≥30)) then some (decide (n_ < 38)) else some false):Option Bool) fun d=>(bif d then some (.inl (bG.mk (IntKind.i64.wrap ((IntKind.i64.wrap (n_ - 30))+1)) s_.back s_.bold s_.under s_.dI)) else (bif (n_ == 39) then some (.inl (bG.mk 0 s_.back s_.bold s_.under s_.dI)) else (Option.bind ((bif (decide (n_≥40)) then some (decide (n_ < 48)) else some false):Option Bool) fun e=>(bif e then some (.inl (bG.mk s_.gN (IntKind.i64.wrap ((IntKind.i64.wrap (n_ - 40))+1)) s_.bold s_.under s_.dI)) else (bif (n_ == 49) then some (.inl (bG.mk s_.gN 0 s_.bold s_.under s_.dI)) else some (.inl s_)))))))))))))):Option (bG ⊕ bG)) fun | .inl e90=>some e90 | .inr w=>some w)
noncomputable def jA (s_:bG) (bQ:List Int):Option bG :=
 (bif ((bQ.length:Int) == 0) then some (bG.mk 0 0 false false false) else (Option.bind (iter (σ:=bG×Int) (ρ:=bG) (fun a=>(bif (decide (a.2 < (bQ.length:Int))) then (Option.bind ((Option.bind (idx bQ a.2) fun b=>(Option.bind ((bif (b == 38) then some true else some (b == 48)):Option Bool) fun d=>(bif d then (Option.bind (chk (dB (IntKind.i64.wrap (a.2+1)) (bQ.length:Int) bQ.length)) fun _=>(Option.bind (me (cut bQ (IntKind.i64.wrap (a.2+1)) (bQ.length:Int))) fun e=>some ((IntKind.i64.wrap (a.2+e)),a.1))) else (Option.bind (idx bQ a.2) fun f=>(Option.bind (jz a.1 f) fun h=>some (a.2,h)))))):Option (Int×bG)) fun c=>some (.inl (c.2,(IntKind.i64.wrap (c.1+1))))) else some (.inr a.1))) (s_,0)) fun i=>some i))
end Go.Tw.X
set_option linter.unusedVariables false
set_option linter.unusedSimpArgs false
set_option maxRecDepth 10000
namespace Go.Tw.X
open Go Go.Tw
structure dT where
 x:Int
 y:Int
 aP:bG
 deriving DecidableEq,Inhabited
structure aB where
 g:bC
 spot:dT
 saved:dT
 waiting:Bool
 top:Int
 aO:Int
 bA:Bool
 title:ByteArray
 deriving DecidableEq,Inhabited
noncomputable def lk (w:Int) (h_:Int):Option aB :=
 (Option.bind (nE w h_) fun r1=>(Option.bind (dL r1) fun r9=>some (aB.mk r1 (dT.mk 0 0 (bG.mk 0 0 false false false)) (dT.mk 0 0 (bG.mk 0 0 false false false)) false 0 (IntKind.i64.wrap (r9.2 - 1)) true (ByteArray.mk #[]))))
noncomputable def ie (s_:aB):Option (bC×aB) :=
 (Option.bind (ju s_.g) fun r1=>some (r1.1,(aB.mk r1.2 s_.spot s_.saved s_.waiting s_.top s_.aO s_.bA s_.title)))
noncomputable def jd (s_:aB):Option ByteArray :=
 some s_.title
noncomputable def iN (s_:aB):Option (Int×Int) :=
 some (s_.spot.x,s_.spot.y)
noncomputable def iu (r_:aE):Option aE :=
 some (aE.mk r_.cells true)
noncomputable def cN (s_:aB):Option aB :=
 (Option.bind (eY s_.g s_.spot.y) fun a=>(Option.bind (iu a) fun b=>(Option.bind (eM s_.g s_.spot.y b) fun c=>some (aB.mk c.2 s_.spot s_.saved s_.waiting s_.top s_.aO s_.bA s_.title))))
noncomputable def bX (s_:aB):Option Int :=
 (Option.bind (jy s_.spot.aP) fun r1=>some r1)
noncomputable def gK (s_:aB) (n_:Int):Option ((List aE)×aB) :=
 (Option.bind (bX s_) fun b=>(Option.bind (fN s_.g s_.top s_.aO n_ b) fun a=>(bif (decide (s_.top > 0)) then some (([]:List aE),(aB.mk a.2 s_.spot s_.saved s_.waiting s_.top s_.aO s_.bA s_.title)) else some (a.1,(aB.mk a.2 s_.spot s_.saved s_.waiting s_.top s_.aO s_.bA s_.title)))))
noncomputable def eV (s_:aB):Option (Int×Int) :=
 (Option.bind (dL s_.g) fun r1=>some ((IntKind.i64.wrap (r1.1 - 1)),(IntKind.i64.wrap (r1.2 - 1))))
noncomputable def gp (n_:Int) (lo:Int) (hi:Int):Option Int :=
 some (imax lo (fQ n_ hi))
noncomputable def bM (s_:aB) (x_:Int) (y:Int):Option aB :=
 (Option.bind (eV s_) fun r1=>(Option.bind (gp x_ 0 r1.1) fun r4=>(Option.bind (gp y 0 r1.2) fun r7=>some (aB.mk s_.g (dT.mk r4 r7 s_.spot.aP) s_.saved false s_.top s_.aO s_.bA s_.title))))
noncomputable def cV (s_:aB):Option ((List aE)×aB) :=
 (bif (s_.spot.y == s_.aO) then (Option.bind (gK (aB.mk s_.g s_.spot s_.saved false s_.top s_.aO s_.bA s_.title) 1) fun a=>some (a.1,a.2)) else (Option.bind (bM (aB.mk s_.g s_.spot s_.saved false s_.top s_.aO s_.bA s_.title) s_.spot.x (IntKind.i64.wrap (s_.spot.y+1))) fun b=>some (([]:List aE),b)))
noncomputable def iw (r_:aE) (x1:aB):Option aE :=
 (Option.bind (bX x1) fun a=>(Option.bind (kX r_ a) fun b=>some b))
noncomputable def cO (s_:aB):Option aB :=
 (Option.bind (eY s_.g s_.spot.y) fun a=>(Option.bind (iw a s_) fun b=>(Option.bind (eM s_.g s_.spot.y b) fun c=>some (aB.mk c.2 s_.spot s_.saved s_.waiting s_.top s_.aO s_.bA s_.title))))
noncomputable def iy (q:aE) (x1:aB) (x2:Int):Option aE :=
 (Option.bind (bX x1) fun a=>(Option.bind (lG q x1.spot.x x2 a) fun b=>some b))
noncomputable def dE (s_:aB) (f_1:Int):Option aB :=
 (Option.bind (eY s_.g s_.spot.y) fun a=>(Option.bind (iy a s_ f_1) fun b=>(Option.bind (eM s_.g s_.spot.y b) fun c=>some (aB.mk c.2 s_.spot s_.saved s_.waiting s_.top s_.aO s_.bA s_.title))))
noncomputable def gE (s_:aB) (r_:Int):Option ((List aE)×aB) :=
 (Option.bind (nz r_) fun r3=>(Option.bind (dL s_.g) fun r6=>(Option.bind ((bif (r3 == 0) then some true else some (decide (r3 > r6.1))):Option Bool) fun i=>(bif i then some (([]:List aE),s_) else (Option.bind ((bif s_.waiting then some s_.bA else some false):Option Bool) fun j=>(Option.bind ((bif j then (Option.bind (cN s_) fun c=>(Option.bind (cV (aB.mk c.g (dT.mk 0 c.spot.y c.spot.aP) c.saved c.waiting c.top c.aO c.bA c.title)) fun f=>(Option.bind (chk (eL ([]:List aE).length f.1.length 32)) fun _=>some ((([]:List aE)++f.1),f.2.g,f.2)))) else some ([],s_.g,s_)):Option ((List aE)×bC×aB)) fun a=>(Option.bind ((bif (decide ((IntKind.i64.wrap (a.2.2.spot.x+r3)) > r6.1)) then (bif a.2.2.bA then (Option.bind (cO (aB.mk a.2.1 a.2.2.spot a.2.2.saved a.2.2.waiting a.2.2.top a.2.2.aO a.2.2.bA a.2.2.title)) fun d=>(Option.bind (cV (aB.mk d.g (dT.mk 0 d.spot.y d.spot.aP) d.saved d.waiting d.top d.aO d.bA d.title)) fun h=>(Option.bind (chk (eL a.1.length h.1.length 32)) fun _=>some ((a.1++h.1),h.2.g,h.2)))) else some (a.1,a.2.1,(aB.mk a.2.1 (dT.mk (IntKind.i64.wrap (a.2.2.spot.x - 1)) a.2.2.spot.y a.2.2.spot.aP) a.2.2.saved a.2.2.waiting a.2.2.top a.2.2.aO a.2.2.bA a.2.2.title))) else some (a.1,a.2.1,(aB.mk a.2.1 a.2.2.spot a.2.2.saved a.2.2.waiting a.2.2.top a.2.2.aO a.2.2.bA a.2.2.title))):Option ((List aE)×bC×aB)) fun e=>(Option.bind (dE (aB.mk e.2.1 e.2.2.spot e.2.2.saved e.2.2.waiting e.2.2.top e.2.2.aO e.2.2.bA e.2.2.title) r_) fun b=>some (e.1,(aB.mk b.g (dT.mk (fQ (IntKind.i64.wrap (b.spot.x+r3)) (IntKind.i64.wrap (r6.1 - 1))) b.spot.y b.spot.aP) b.saved ((IntKind.i64.wrap (b.spot.x+r3)) == r6.1) b.top b.aO b.bA b.title))))))))))
noncomputable def gf (s_:aB) (b:Int):Option ((List aE)×aB) :=
 (Option.bind ((bif (b == 8) then (Option.bind (bM s_ (IntKind.i64.wrap (s_.spot.x - 1)) s_.spot.y) fun a=>some (.inl (a,a.g))) else (bif (b == 9) then (Option.bind (bM s_ (IntKind.i64.wrap ((IntKind.i64.wrap ((IntKind.i64.wrap (s_.spot.x.tdiv 8))+1))*8)) s_.spot.y) fun c=>some (.inl (c,c.g))) else (Option.bind ((bif (b == 10) then some (b == 10) else (bif (b == 11) then some (b == 11) else some (b == 12))):Option Bool) fun f=>(bif f then (Option.bind (cV s_) fun d=>(kb (some (d.1,d.2)))) else (bif (b == 13) then (Option.bind (bM s_ 0 s_.spot.y) fun e=>some (.inl (e,e.g))) else some (.inl (s_,s_.g))))))):Option ((aB×bC) ⊕ ((List aE)×aB))) fun | .inl e86=>some (([]:List aE),(aB.mk e86.2 e86.1.spot e86.1.saved e86.1.waiting e86.1.top e86.1.aO e86.1.bA e86.1.title)) | .inr w=>some w)
noncomputable def ig (s_:aB):Option aB :=
 (bif (s_.spot.y == s_.top) then (Option.bind (bX (aB.mk s_.g s_.spot s_.saved false s_.top s_.aO s_.bA s_.title)) fun a=>(Option.bind (eF s_.g s_.top s_.aO 1 a) fun b=>some (aB.mk b.2 s_.spot s_.saved false s_.top s_.aO s_.bA s_.title))) else (Option.bind (bM (aB.mk s_.g s_.spot s_.saved false s_.top s_.aO s_.bA s_.title) s_.spot.x (IntKind.i64.wrap (s_.spot.y - 1))) fun c=>some c))
noncomputable def gy (s_:aB) (b:Int):Option ((List aE)×aB) :=
 (Option.bind ((Option.bind ((bif (b == 69) then some (.inl (aB.mk s_.g (dT.mk 0 s_.spot.y s_.spot.aP) s_.saved s_.waiting s_.top s_.aO s_.bA s_.title)) else (bif (b == 68) then some (.inl s_) else (bif (b == 77) then (kb (Option.bind (ig s_) fun d=>some (.inl d))) else (bif (b == 55) then (kb (some (.inl (aB.mk s_.g s_.spot s_.spot s_.waiting s_.top s_.aO s_.bA s_.title)))) else (bif (b == 56) then (kb (Option.bind (bM (aB.mk s_.g (dT.mk s_.spot.x s_.spot.y s_.saved.aP) s_.saved s_.waiting s_.top s_.aO s_.bA s_.title) s_.saved.x s_.saved.y) fun e=>some (.inl e))) else (bif (b == 99) then (kb (Option.bind (dL s_.g) fun a=>(Option.bind (lk a.1 a.2) fun f=>some (.inl f)))) else (kb (some (.inl s_))))))))):Option (aB ⊕ (aB ⊕ ((List aE)×aB)))) fun | .inl e4671=>(Option.bind (cV (aB.mk s_.g e4671.spot e4671.saved e4671.waiting e4671.top e4671.aO e4671.bA e4671.title)) fun c=>(kb (some (c.1,c.2)))) | .inr w=>some w):Option (aB ⊕ ((List aE)×aB))) fun | .inl e3164=>some (([]:List aE),e3164) | .inr w=>some w)
noncomputable def eK (a:bE) (i:Int) (d:Int):Option Int :=
 (Option.bind ((bif (decide (i≥(a.bQ.length:Int))) then some true else (Option.bind (idx a.bQ i) fun b=>some (decide (b≤0)))):Option Bool) fun c=>(bif c then some d else (Option.bind (idx a.bQ i) fun e=>some (fQ e 9999))))
noncomputable def fK (s_:aB) (n_:Int):Option aB :=
 (Option.bind (eV s_) fun r1=>(Option.bind ((bif (decide (s_.spot.y≥s_.top)) then some (decide (n_ < 0)) else some false):Option Bool) fun e9=>(Option.bind ((bif e9 then some s_.top else some 0):Option Int) fun a=>(Option.bind ((bif (decide (s_.spot.y≤s_.aO)) then some (decide (n_ > 0)) else some false):Option Bool) fun b=>(Option.bind ((bif b then some s_.aO else some r1.2):Option Int) fun c=>(Option.bind (gp (IntKind.i64.wrap (s_.spot.y+n_)) a c) fun d=>(Option.bind (bM s_ s_.spot.x d) fun e=>some e)))))))
noncomputable def dX (s_:aB) (y:Int) (from_:Int) (to:Int):Option aB :=
 (Option.bind (eY s_.g y) fun a=>(Option.bind (bX s_) fun b=>(Option.bind (jh a from_ to b) fun c=>(Option.bind (eM s_.g y c) fun d=>some (aB.mk d.2 s_.spot s_.saved s_.waiting s_.top s_.aO s_.bA s_.title)))))
noncomputable def gg (s_:aB) (n_:Int):Option aB :=
 (Option.bind (dL s_.g) fun r1=>(Option.bind ((bif (n_ == 0) then (Option.bind (dX s_ s_.spot.y s_.spot.x r1.1) fun b=>some (b.g,b)) else (bif (n_ == 1) then (Option.bind (dX s_ s_.spot.y 0 (IntKind.i64.wrap (s_.spot.x+1))) fun c=>some (c.g,c)) else (bif (n_ == 2) then (Option.bind (dX s_ s_.spot.y 0 r1.1) fun d=>some (d.g,d)) else some (s_.g,s_)))):Option (bC×aB)) fun a=>(bif a.2.waiting then some (aB.mk a.1 a.2.spot a.2.saved (decide (n_ > 2)) a.2.top a.2.aO a.2.bA a.2.title) else some (aB.mk a.1 a.2.spot a.2.saved false a.2.top a.2.aO a.2.bA a.2.title))))
noncomputable def ij (s_:aB) (n_:Int):Option aB :=
 (Option.bind (dL s_.g) fun r1=>(Option.bind (iter (σ:=aB×bC×Int) (ρ:=bC×aB) (fun a=>(bif (decide (a.2.2 < r1.2)) then (Option.bind ((Option.bind ((bif (decide (a.2.2 < a.1.spot.y)) then (bif (n_ == 1) then some true else (bif (decide (a.2.2 > a.1.spot.y)) then (bif (n_ == 0) then some true else (bif (a.2.2 != a.1.spot.y) then some (n_ == 2) else some false)) else (bif (a.2.2 != a.1.spot.y) then some (n_ == 2) else some false))) else (bif (decide (a.2.2 > a.1.spot.y)) then (bif (n_ == 0) then some true else (bif (a.2.2 != a.1.spot.y) then some (n_ == 2) else some false)) else (bif (a.2.2 != a.1.spot.y) then some (n_ == 2) else some false))):Option Bool) fun e=>(bif e then (Option.bind (dX (aB.mk a.2.1 a.1.spot a.1.saved a.1.waiting a.1.top a.1.aO a.1.bA a.1.title) a.2.2 0 r1.1) fun d=>some (d.g,d)) else some (a.2.1,(aB.mk a.2.1 a.1.spot a.1.saved a.1.waiting a.1.top a.1.aO a.1.bA a.1.title)))):Option (bC×aB)) fun b=>some (.inl ((aB.mk b.1 b.2.spot b.2.saved b.2.waiting b.2.top b.2.aO b.2.bA b.2.title),b.1,(IntKind.i64.wrap (a.2.2+1))))) else some (.inr (a.2.1,(aB.mk a.2.1 a.1.spot a.1.saved a.1.waiting a.1.top a.1.aO a.1.bA a.1.title))))) (s_,s_.g,0)) fun c=>(Option.bind (gg (aB.mk c.1 c.2.spot c.2.saved c.2.waiting c.2.top c.2.aO c.2.bA c.2.title) n_) fun f=>some f)))
noncomputable def gh (r_:aE) (x1:Int) (x2:aB) (x3:Int):Option aE :=
 (bif (x1 == 64) then (Option.bind (bX x2) fun a=>(Option.bind (jU r_ x2.spot.x x3 a) fun b=>some b)) else (bif (x1 == 80) then (Option.bind (bX x2) fun c=>(Option.bind (jV r_ x2.spot.x x3 c) fun d=>some d)) else (Option.bind (bX x2) fun e=>(Option.bind (jh r_ x2.spot.x (IntKind.i64.wrap (x2.spot.x+x3)) e) fun f=>some f))))
noncomputable def eH (s_:aB) (f_0:Int) (f_2:Int):Option aB :=
 (Option.bind (eY s_.g s_.spot.y) fun a=>(Option.bind (gh a f_0 s_ f_2) fun b=>(Option.bind (eM s_.g s_.spot.y b) fun c=>some (aB.mk c.2 s_.spot s_.saved s_.waiting s_.top s_.aO s_.bA s_.title))))
noncomputable def gF (s_:aB) (b:Int) (n_:Int):Option aB :=
 (Option.bind (eH s_ b n_) fun r4=>some (aB.mk r4.g r4.spot r4.saved false r4.top r4.aO r4.bA r4.title))
noncomputable def gG (s_:aB) (b:Int) (n_:Int):Option aB :=
 (Option.bind ((bif (decide (s_.spot.y < s_.top)) then some true else some (decide (s_.spot.y > s_.aO))):Option Bool) fun e6=>(bif e6 then some s_ else (Option.bind ((bif (b == 76) then (Option.bind (bX s_) fun a=>(Option.bind (eF s_.g s_.spot.y s_.aO n_ a) fun c=>some c.2)) else (Option.bind (bX s_) fun d=>(Option.bind (fN s_.g s_.spot.y s_.aO n_ d) fun e=>some e.2))):Option bC) fun f=>(Option.bind (bM (aB.mk f s_.spot s_.saved s_.waiting s_.top s_.aO s_.bA s_.title) 0 s_.spot.y) fun h=>some h))))
noncomputable def gA (s_:aB) (a:bE):Option aB :=
 (Option.bind (dL s_.g) fun r2=>(Option.bind (eK a 0 1) fun d=>(Option.bind (gp d 1 r2.2) fun b=>(Option.bind (eK a 1 r2.2) fun e=>(Option.bind (gp e 1 r2.2) fun c=>(bif (decide ((IntKind.i64.wrap (b - 1)) < (IntKind.i64.wrap (c - 1)))) then (Option.bind (bM (aB.mk s_.g s_.spot s_.saved s_.waiting (IntKind.i64.wrap (b - 1)) (IntKind.i64.wrap (c - 1)) s_.bA s_.title) 0 0) fun f=>some f) else some s_))))))
noncomputable def gH (s_:aB) (a:bE):Option ((List aE)×aB) :=
 (Option.bind (eK a 0 1) fun r2=>(Option.bind ((Option.bind ((bif (a.byte == 65) then some (a.byte == 65) else some (a.byte == 70)):Option Bool) fun r=>(bif r then (Option.bind (fK s_ (IntKind.i64.wrap (0 - r2))) fun c=>some (.inl (c,c.g))) else (Option.bind ((bif (a.byte == 66) then some (a.byte == 66) else some (a.byte == 69)):Option Bool) fun s=>(bif s then (Option.bind (fK s_ r2) fun d=>some (.inl (d,d.g))) else (bif (a.byte == 67) then (Option.bind (bM s_ (IntKind.i64.wrap (s_.spot.x+r2)) s_.spot.y) fun e=>some (.inl (e,e.g))) else (bif (a.byte == 68) then (Option.bind (bM s_ (IntKind.i64.wrap (s_.spot.x - r2)) s_.spot.y) fun f=>some (.inl (f,f.g))) else (bif (a.byte == 71) then (Option.bind (bM s_ (IntKind.i64.wrap (r2 - 1)) s_.spot.y) fun h=>some (.inl (h,h.g))) else (bif (a.byte == 100) then (Option.bind (bM s_ s_.spot.x (IntKind.i64.wrap (r2 - 1))) fun i=>some (.inl (i,i.g))) else (Option.bind ((bif (a.byte == 72) then some (a.byte == 72) else some (a.byte == 102)):Option Bool) fun t=>(bif t then (Option.bind (eK a 1 1) fun u=>(Option.bind (bM s_ (IntKind.i64.wrap (u - 1)) (IntKind.i64.wrap (r2 - 1))) fun j=>some (.inl (j,j.g)))) else (bif (a.byte == 74) then (Option.bind (eK a 0 0) fun v=>(Option.bind (ij s_ v) fun k=>some (.inl (k,k.g)))) else (bif (a.byte == 75) then (Option.bind (eK a 0 0) fun z=>(Option.bind (gg s_ z) fun l=>some (.inl (l,l.g)))) else (Option.bind ((bif (a.byte == 64) then some (a.byte == 64) else (bif (a.byte == 80) then some (a.byte == 80) else some (a.byte == 88))):Option Bool) fun A=>(bif A then (Option.bind (gF s_ a.byte r2) fun m=>some (.inl (m,m.g))) else (Option.bind ((bif (a.byte == 76) then some (a.byte == 76) else some (a.byte == 77)):Option Bool) fun B=>(bif B then (Option.bind (gG s_ a.byte r2) fun n=>some (.inl (n,n.g))) else (bif (a.byte == 83) then (Option.bind (gK (aB.mk s_.g s_.spot s_.saved false s_.top s_.aO s_.bA s_.title) r2) fun o=>(kb (some (o.1,o.2)))) else (bif (a.byte == 84) then (Option.bind (bX (aB.mk s_.g s_.spot s_.saved false s_.top s_.aO s_.bA s_.title)) fun C=>(Option.bind (eF s_.g s_.top s_.aO r2 C) fun p=>some (.inl ((aB.mk p.2 s_.spot s_.saved false s_.top s_.aO s_.bA s_.title),p.2)))) else (bif (a.byte == 109) then (Option.bind (jA s_.spot.aP a.bQ) fun D=>some (.inl ((aB.mk s_.g (dT.mk s_.spot.x s_.spot.y D) s_.saved s_.waiting s_.top s_.aO s_.bA s_.title),s_.g))) else (bif (a.byte == 114) then (Option.bind (gA s_ a) fun q=>some (.inl (q,q.g))) else some (.inl (s_,s_.g)))))))))))))))))))))):Option ((aB×bC) ⊕ ((List aE)×aB))) fun | .inl e310=>(Option.bind ((bif (a.byte == 69) then some true else some (a.byte == 70)):Option Bool) fun E=>(Option.bind ((bif E then some (aB.mk e310.2 (dT.mk 0 e310.1.spot.y e310.1.spot.aP) e310.1.saved e310.1.waiting e310.1.top e310.1.aO e310.1.bA e310.1.title) else some (aB.mk e310.2 e310.1.spot e310.1.saved e310.1.waiting e310.1.top e310.1.aO e310.1.bA e310.1.title)):Option aB) fun b=>some (([]:List aE),(aB.mk e310.2 b.spot b.saved b.waiting b.top b.aO b.bA b.title)))) | .inr w=>some w))
noncomputable def fT (s_:aB) (a:bE):Option ((List aE)×aB) :=
 (Option.bind ((bif (a.kind == 1) then (Option.bind (gE s_ a.rune) fun b=>(kb (some (b.1,b.2)))) else (bif (a.kind == 2) then (Option.bind (gf s_ a.byte) fun c=>(kb (some (c.1,c.2)))) else (bif (a.kind == 3) then (Option.bind (gy s_ a.byte) fun d=>(kb (some (d.1,d.2)))) else (bif (a.kind == 5) then some (.inl (aB.mk s_.g s_.spot s_.saved s_.waiting s_.top s_.aO s_.bA a.text)) else (bif (a.kind == 4) then (bif (!a.dN) then (Option.bind (gH s_ a) fun e=>(kb (some (e.1,e.2)))) else (Option.bind ((Option.bind (eK a 0 0) fun f=>(bif (f == 7) then (bif (a.byte == 104) then some true else some (a.byte == 108)) else some false)):Option Bool) fun h=>(bif h then some (.inl (aB.mk s_.g s_.spot s_.saved s_.waiting s_.top s_.aO (a.byte == 104) s_.title)) else some (.inl s_)))) else some (.inl s_)))))):Option (aB ⊕ ((List aE)×aB))) fun | .inl e133=>some (([]:List aE),(aB.mk s_.g e133.spot e133.saved e133.waiting e133.top e133.aO e133.bA e133.title)) | .inr w=>some w)
noncomputable def km (s_:aB) (w:Int) (h_:Int):Option ((List aE)×aB) :=
 (Option.bind (gp h_ 1 1000) fun b=>(Option.bind (lX s_.g w h_ (imax 0 (IntKind.i64.wrap (s_.spot.y - (IntKind.i64.wrap (b - 1)))))) fun c=>(Option.bind (bM (aB.mk c.2 s_.spot s_.saved s_.waiting s_.top s_.aO s_.bA s_.title) s_.spot.x (IntKind.i64.wrap (s_.spot.y - (imax 0 (IntKind.i64.wrap (s_.spot.y - (IntKind.i64.wrap (b - 1)))))))) fun a=>(Option.bind (eV a) fun d=>some (c.1,(aB.mk a.g a.spot a.saved a.waiting 0 d.2 a.bA a.title))))))
end Go.Tw.X
set_option linter.unusedVariables false
set_option linter.unusedSimpArgs false
set_option maxRecDepth 10000
namespace Go.Tw.X
open Go Go.Tw
structure aM where
 k:Int
 w:Int
 h:Int
 x:Int
 y:Int
 title:ByteArray
 rows:List aE
 len:Int
 chain:Int
 begun:List aN
 deriving DecidableEq,Inhabited
noncomputable def qN (k:Int) (s_:aB) (b:cG):Option (aM×aB) :=
 (Option.bind (ie (aB.mk s_.g s_.spot s_.saved s_.waiting s_.top s_.aO s_.bA s_.title)) fun r2=>(Option.bind (jd (aB.mk r2.2.g r2.2.spot r2.2.saved r2.2.waiting r2.2.top r2.2.aO r2.2.bA r2.2.title)) fun e=>(Option.bind (jW r2.1) fun a=>(Option.bind (kB b) fun f=>(Option.bind (kB b) fun h=>(Option.bind (jr b h) fun i=>(Option.bind (jt b) fun j=>(Option.bind (dL a.2) fun c=>(Option.bind (iN (aB.mk r2.2.g r2.2.spot r2.2.saved r2.2.waiting r2.2.top r2.2.aO r2.2.bA r2.2.title)) fun d=>some ((aM.mk k c.1 c.2 d.1 d.2 e a.1 f i j),(aB.mk r2.2.g r2.2.spot r2.2.saved r2.2.waiting r2.2.top r2.2.aO r2.2.bA r2.2.title)))))))))))
noncomputable def fH (s_:aM):Option Bool :=
 (Option.bind ((bif (s_.k == 0) then (bif (s_.w == 0) then (bif (s_.h == 0) then (bif (s_.x == 0) then (bif (s_.y == 0) then (bif (s_.title.toList == (ByteArray.mk #[]).toList) then (bif ((s_.rows.length:Int) == 0) then (bif (s_.len == 0) then (bif (s_.chain == 0) then some ((s_.begun.length:Int) == 0) else some false) else some false) else some false) else some false) else some false) else some false) else some false) else some false) else some false):Option Bool) fun a=>some a)
noncomputable def eI (n_:Int) (lo:Int) (hi:Int):Option Bool :=
 (Option.bind ((bif (decide (n_≥lo)) then some (decide (n_≤hi)) else some false):Option Bool) fun e4=>some e4)
noncomputable def jB (s_:aM):Option Bool :=
 (Option.bind ((Option.bind (eI s_.k 1 1152921504606846976) fun a=>(bif a then (Option.bind (eI s_.w 1 1000) fun b=>(bif b then (Option.bind (eI s_.h 1 1000) fun c=>(bif c then (Option.bind (eI s_.x 0 (IntKind.i64.wrap (s_.w - 1))) fun d=>(bif d then (Option.bind (eI s_.y 0 (IntKind.i64.wrap (s_.h - 1))) fun e=>(bif e then (bif ((s_.rows.length:Int) == s_.h) then (bif (decide ((s_.title.size:Int)≤200)) then (Option.bind (eI s_.len 0 1152921504606846976) fun f=>(bif f then (Option.bind (eI s_.chain 0 281474976710656) fun g=>(bif g then some (decide ((s_.begun.length:Int)≤1024)) else some false)) else some false)) else some false) else some false) else some false)) else some false)) else some false)) else some false)) else some false)):Option Bool) fun i=>some i)
noncomputable def ln (r_:Int) (aP:Int):Option Bool :=
 (Option.bind ((Option.bind (eI (IntKind.i64.wrap r_) 0 1114111) fun a=>(bif a then (Option.bind (eI aP 0 647) fun b=>some b) else some false)):Option Bool) fun c=>some c)
noncomputable def iF (g:aN):Option Bool :=
 (Option.bind (ln g.rune g.aP) fun r2=>some (!r2))
noncomputable def dG (s_:List aN):Option Int :=
 (Option.bind (iter (σ:=Int) (ρ:=Unit ⊕ Int) (fun a=>(bif (decide (a < (s_.length:Int))) then (Option.bind (idx s_ a) fun b=>(Option.bind (iF b) fun c=>(bif c then (kO (some a)) else some (.inl (IntKind.i64.wrap (a+1)))))) else some (.inr (.inl ())))) 0) fun | .inl e77=>some (-1) | .inr w=>some w)
noncomputable def cK (s_:List aN):Option Bool :=
 (Option.bind (dG s_) fun r1=>some (decide (r1≥0)))
noncomputable def mY (c:aG):Option Bool :=
 (Option.bind ((Option.bind (ln c.rune c.aP) fun a=>(bif a then (Option.bind (eI c.part 0 3) fun b=>some b) else some false)):Option Bool) fun d=>some d)
noncomputable def iG (c:aG):Option Bool :=
 (Option.bind (mY c) fun r2=>some (!r2))
noncomputable def dH (s_:List aG):Option Int :=
 (Option.bind (iter (σ:=Int) (ρ:=Unit ⊕ Int) (fun a=>(bif (decide (a < (s_.length:Int))) then (Option.bind (idx s_ a) fun b=>(Option.bind (iG b) fun c=>(bif c then (kO (some a)) else some (.inl (IntKind.i64.wrap (a+1)))))) else some (.inr (.inl ())))) 0) fun | .inl e77=>some (-1) | .inr w=>some w)
noncomputable def cB (s_:List aG):Option Bool :=
 (Option.bind (dH s_) fun r1=>some (decide (r1≥0)))
noncomputable def eJ (s_:aM):Option Int :=
 (Option.bind (fH s_) fun r2=>(bif r2 then some 0 else (Option.bind ((Option.bind (jB s_) fun c=>(bif (!c) then some true else (Option.bind (cK s_.begun) fun d=>some d))):Option Bool) fun e=>(bif e then some 1 else (Option.bind (iter (σ:=Int) (ρ:=Unit ⊕ Int) (fun a=>(bif (decide (a < (s_.rows.length:Int))) then (Option.bind (idx s_.rows a) fun b=>(Option.bind ((bif ((b.cells.length:Int) != s_.w) then some true else (Option.bind (cB b.cells) fun f=>some f)):Option Bool) fun g=>(bif g then (kO (some 1)) else some (.inl (IntKind.i64.wrap (a+1)))))) else some (.inr (.inl ())))) 0) fun | .inl e212=>some 0 | .inr w=>some w)))))
noncomputable def o7 (is:Bool):Option Int :=
 (bif is then some 1 else some 0)
noncomputable def nX (l:List aG):Option (List aG) :=
 some l
noncomputable def mS {σ:Type} (Y:σ→(Int×aG)→Option (σ×Bool)) (y0:σ) (x1:List aG):Option (σ×(List aG)) :=
 (Option.bind (iter (σ:=(List aG)×σ) (ρ:=((List aG)×σ) ⊕ (σ×(List aG))) (fun a=>(bif (decide ((a.1.length:Int) > 0)) then (Option.bind (iter (σ:=Int) (ρ:=Int) (fun b=>(Option.bind ((bif (decide (b < (a.1.length:Int))) then (Option.bind (idx a.1 b) fun c=>(Option.bind (idx a.1 0) fun d=>some ((c.rune == d.rune) && ((c.aP == d.aP) && ((c.part == d.part) && true))))) else some false):Option Bool) fun f=>(bif f then some (.inl (IntKind.i64.wrap (b+1))) else some (.inr b)))) 1) fun e=>(Option.bind (idx a.1 0) fun g=>(Option.bind (Y a.2 (e,g)) fun z1399=>(bif (!z1399.2) then (kO (some (z1399.1,a.1))) else (Option.bind (chk (dB e (a.1.length:Int) a.1.length)) fun _=>some (.inl ((cut a.1 e (a.1.length:Int)),z1399.1))))))) else some (.inr (.inl (a.1,a.2))))) (x1,y0)) fun | .inl e1058=>some (e1058.2,e1058.1) | .inr w=>some w)
noncomputable def jb (r_:aE):Option ByteArray :=
 (Option.bind (o7 r_.wrapped) fun r3=>(Option.bind (cQ (cE.mk ([]:List Int)) [r3]) fun b=>(Option.bind (nX r_.cells) fun c=>(Option.bind (mS (fun d a=>(Option.bind (cQ d [a.1,(IntKind.i64.wrap a.2.rune),a.2.aP,a.2.part]) fun e=>some (e,true))) (b:cE) c) fun f=>(Option.bind (gC f.1) fun g=>some g)))))
noncomputable def gL (s_:aM):Option ByteArray :=
 (Option.bind ((Option.bind (fH s_) fun b=>(bif b then some true else (Option.bind (eJ s_) fun c=>some (c != 0)))):Option Bool) fun d=>(bif d then some (ByteArray.mk #[]) else (Option.bind (cQ (cE.mk ([]:List Int)) [s_.k,s_.w,s_.h,s_.x,s_.y]) fun e=>(Option.bind (jS e [s_.title]) fun f=>(Option.bind (cQ f [s_.len,s_.chain]) fun g=>(Option.bind (kY s_.begun) fun i=>(Option.bind (gn g [i]) fun j=>(Option.bind (iter (σ:=cE×Int) (ρ:=cE) (fun a=>(bif (decide (a.2 < (s_.rows.length:Int))) then (Option.bind (idx s_.rows a.2) fun l=>(Option.bind (jb l) fun m=>(Option.bind (gn a.1 [m]) fun n=>some (.inl (n,(IntKind.i64.wrap (a.2+1))))))) else some (.inr a.1))) (j,0)) fun o=>(Option.bind (gC o) fun p=>some p)))))))))
noncomputable def kg (in_:aU):Option (Int×aU) :=
 (Option.bind (bH in_) fun r1=>(bif (decide (r1.1 > 1000)) then (Option.bind (bV r1.2 1) fun r9=>some (0,r9)) else some (r1.1,r1.2)))
noncomputable def mK (in_:aU) (left:Int):Option (Int×aG×Bool×aU) :=
 (Option.bind (bH in_) fun r2=>(Option.bind ((bif (r2.1 == 0) then some true else some (decide (r2.1 > left))):Option Bool) fun e8=>(Option.bind ((bif e8 then (Option.bind (bV r2.2 1) fun f=>some f) else some r2.2):Option aU) fun c=>(Option.bind (iter (σ:=lR×aU×Int) (ρ:=lR×aU) (fun a=>(bif (decide (a.2.2 < 3)) then (Option.bind ((Option.bind (idx [1114111,647,3] a.2.2) fun g=>(Option.bind (bH a.2.1) fun b=>(Option.bind (chk (ET a.2.2 3)) fun _=>(Option.bind (chk (ET a.2.2 3)) fun _=>(Option.bind (idx [(sel a.2.2 0 b.1 a.1.e0),(sel a.2.2 1 b.1 a.1.e1),(sel a.2.2 2 b.1 a.1.e2)] a.2.2) fun h=>(bif (decide (h > g)) then (Option.bind (bV b.2 1) fun i=>some ((lR.mk (sel a.2.2 0 b.1 a.1.e0) (sel a.2.2 1 b.1 a.1.e1) (sel a.2.2 2 b.1 a.1.e2)),i)) else some ((lR.mk (sel a.2.2 0 b.1 a.1.e0) (sel a.2.2 1 b.1 a.1.e1) (sel a.2.2 2 b.1 a.1.e2)),b.2))))))):Option (lR×aU)) fun e=>some (.inl (e.1,e.2,(IntKind.i64.wrap (a.2.2+1))))) else some (.inr (a.1,a.2.1)))) ((lR.mk 0 0 0),c,0)) fun d=>(Option.bind (cM d.2) fun j=>(bif (j != 0) then some (0,(aG.mk 0 0 0),false,d.2) else some (r2.1,(aG.mk (IntKind.i32.wrap d.1.e0) d.1.e1 d.1.e2),true,d.2)))))))
noncomputable def fO (in_:aU) (w:Int):Option (aE×aU) :=
 (Option.bind (bH in_) fun r2=>(Option.bind ((bif (decide (r2.1 > 1)) then (Option.bind (bV r2.2 1) fun f=>some f) else some r2.2):Option aU) fun g=>(Option.bind (iter (σ:=aU×(List aG)) (ρ:=(List aG)×aU) (fun a=>(Option.bind ((bif (decide ((a.2.length:Int) < w)) then (Option.bind (cM a.1) fun h=>some (h == 0)) else some false):Option Bool) fun i=>(bif i then (Option.bind (mK a.1 (IntKind.i64.wrap (w - (a.2.length:Int)))) fun b=>(bif (!b.2.2.1) then some (.inl (b.2.2.2,a.2)) else (Option.bind ((bif (decide ((a.2.length:Int) > 0)) then (Option.bind (idx a.2 (IntKind.i64.wrap ((a.2.length:Int) - 1))) fun d=>some ((d.rune == b.2.1.rune) && ((d.aP == b.2.1.aP) && ((d.part == b.2.1.part) && true)))) else some false):Option Bool) fun j=>(bif j then (Option.bind (bV b.2.2.2 1) fun k=>some (.inl (k,a.2))) else (Option.bind (dR [b.2.1] b.1) fun e=>(Option.bind (chk (eL a.2.length e.length 24)) fun _=>some (.inl (b.2.2.2,(a.2++e))))))))) else some (.inr (a.2,a.1))))) (g,[])) fun c=>(Option.bind (cM c.2) fun l=>(bif (l != 0) then some ((aE.mk ([]:List aG) false),c.2) else some ((aE.mk c.1 (r2.1 == 1)),c.2))))))
noncomputable def lq (s_:ByteArray):Option (aM×Int) :=
 (bif (s_.toList == (ByteArray.mk #[]).toList) then some ((aM.mk 0 0 0 0 0 (ByteArray.mk #[]) ([]:List aE) 0 0 ([]:List aN)),0) else (Option.bind (ow s_) fun r6=>(Option.bind (bH r6) fun e=>(Option.bind (kg e.2) fun f=>(Option.bind (kg f.2) fun c=>(Option.bind (bH c.2) fun g=>(Option.bind (bH g.2) fun i=>(Option.bind (iR i.2) fun j=>(Option.bind (bH j.2) fun l=>(Option.bind (bH l.2) fun m=>(Option.bind (kf m.2) fun n=>(Option.bind (iter (σ:=aM×aU×Int) (ρ:=aM×aU) (fun a=>(bif (decide (a.2.2 < c.1)) then (Option.bind ((Option.bind (cM a.2.1) fun s=>(bif (s == 0) then (Option.bind (fO a.2.1 a.1.w) fun d=>(Option.bind (chk (eL a.1.rows.length [d.1].length 32)) fun _=>some ((aM.mk a.1.k a.1.w a.1.h a.1.x a.1.y a.1.title (a.1.rows++[d.1]) a.1.len a.1.chain a.1.begun),d.2))) else some (a.1,a.2.1))):Option (aM×aU)) fun o=>some (.inl (o.1,o.2,(IntKind.i64.wrap (a.2.2+1))))) else some (.inr (a.1,a.2.1)))) ((aM.mk e.1 f.1 c.1 g.1 i.1 j.1 ([]:List aE) l.1 m.1 n.1),n.2,0)) fun b=>(Option.bind (lf b.2) fun p=>(Option.bind ((bif (p == 0) then (Option.bind (fH b.1) fun t=>(bif t then some (true,b.1) else (Option.bind (eJ b.1) fun u=>some ((u != 0),b.1)))) else some (false,b.1)):Option (Bool×aM)) fun q=>(Option.bind ((bif q.1 then some 1 else some p):Option Int) fun r=>(bif (r != 0) then some ((aM.mk 0 0 0 0 0 (ByteArray.mk #[]) ([]:List aE) 0 0 ([]:List aN)),r) else some (q.2,0)))))))))))))))))
noncomputable def gj (s_:aM) (t_:aM):Option Bool :=
 (Option.bind ((bif (s_.k == t_.k) then (bif (s_.w == t_.w) then (bif (s_.h == t_.h) then (bif (s_.x == t_.x) then (bif (s_.y == t_.y) then (bif (s_.title.toList == t_.title.toList) then (bif (s_.len == t_.len) then (bif (s_.chain == t_.chain) then (Option.bind (dD s_.rows t_.rows) fun a=>(bif a then (Option.bind (fM s_.begun t_.begun) fun b=>some b) else some false)) else some false) else some false) else some false) else some false) else some false) else some false) else some false) else some false):Option Bool) fun c=>some c)
noncomputable def jC (s_:aM):Option aM :=
 (Option.bind (iter (σ:=(List aE)×Int) (ρ:=(List aE)) (fun a=>(bif (decide (a.2 < (s_.rows.length:Int))) then (Option.bind (idx s_.rows a.2) fun b=>(Option.bind (eD b.cells) fun c=>(Option.bind (chk (eL a.1.length [(aE.mk c b.wrapped)].length 32)) fun _=>some (.inl ((a.1++[(aE.mk c b.wrapped)]),(IntKind.i64.wrap (a.2+1))))))) else some (.inr a.1))) ([],0)) fun d=>(Option.bind (cC s_.begun) fun e=>some (aM.mk s_.k s_.w s_.h s_.x s_.y s_.title d s_.len s_.chain e)))
noncomputable def eZ (s_:aM):Option Int :=
 (Option.bind (gL s_) fun r2=>(Option.bind (ox [r2]) fun r7=>some (IntKind.i64.wrap r7)))
end Go.Tw.X
set_option linter.unusedVariables false
set_option linter.unusedSimpArgs false
set_option maxRecDepth 10000
namespace Go.Tw.X
open Go Go.Tw
structure bT where
 sum:Int
 to:aM
 rows:Mp aE
 deriving DecidableEq,Inhabited
noncomputable def jD (s_:aM):Option Bool :=
 (Option.bind (gL s_) fun r2=>some (!(r2.toList == (ByteArray.mk #[]).toList)))
noncomputable def ji (a:aM) (b:aM):Option (aM×aM) :=
 some (b,a)
noncomputable def gQ (s_:aM) (y:Int):Option (aE×Bool) :=
 (Option.bind ((bif (decide (y < 0)) then some true else some (decide (y≥(s_.rows.length:Int)))):Option Bool) fun e6=>(bif e6 then some ((aE.mk ([]:List aG) false),false) else (Option.bind (idx s_.rows y) fun a=>some (a,true))))
noncomputable def gB {σ:Type} (Y:σ→(Int×aE)→Option (σ×Bool)) (y0:σ) (x1:aM) (x2:aM):Option σ :=
 (Option.bind (iter (σ:=Int×σ) (ρ:=σ ⊕ σ) (fun a=>(bif (decide (a.1 < (x1.rows.length:Int))) then (Option.bind ((Option.bind (idx x1.rows a.1) fun b=>(Option.bind (gQ x2 a.1) fun c=>(Option.bind ((bif c.2 then (Option.bind (gZ c.1 b) fun d=>some d) else some false):Option Bool) fun e=>(bif e then some (.inl a.2) else (Option.bind (Y a.2 (a.1,b)) fun z546=>(bif (!z546.2) then (kb (kO (some z546.1))) else some (.inl z546.1))))))):Option (σ ⊕ ((Int×σ) ⊕ (σ ⊕ σ)))) fun | .inl e506=>some (.inl ((IntKind.i64.wrap (a.1+1)),e506)) | .inr w=>some w) else some (.inr (.inl a.2)))) (0,y0)) fun | .inl e412=>some e412 | .inr w=>some w)
noncomputable def kC (a:aM) (b:aM):Option (List Int) :=
 (Option.bind (ji a b) fun r4=>(Option.bind (gB (fun c d=>(Option.bind (chk (eL c.length [d.1].length 8)) fun _=>some ((c++[d.1]),true))) ([]:(List Int)) r4.1 r4.2) fun e=>some e))
noncomputable def lr (a:aM) (b:aM):Option ByteArray :=
 (Option.bind ((Option.bind (eJ a) fun f=>(bif (f != 0) then some true else (Option.bind (jD b) fun c=>some (!c)))):Option Bool) fun g=>(bif g then some (ByteArray.mk #[]) else (Option.bind (eZ a) fun i=>(Option.bind (cQ (cE.mk ([]:List Int)) [i,b.k,b.w,b.h,b.x,b.y]) fun j=>(Option.bind (jS j [b.title]) fun l=>(Option.bind (cQ l [b.len,b.chain]) fun m=>(Option.bind (kY b.begun) fun n=>(Option.bind (gn m [n]) fun o=>(Option.bind (kC a b) fun p=>(Option.bind (cQ o [(p.length:Int)]) fun q=>(Option.bind (ji a b) fun d=>(Option.bind (gB (fun r e=>(Option.bind (cQ r [e.1]) fun s=>(Option.bind (jb e.2) fun t=>(Option.bind (gn s [t]) fun u=>some (u,true))))) (q:cE) d.1 d.2) fun v=>(Option.bind (gC v) fun z=>some z)))))))))))))
noncomputable def ko (in_:aU):Option (Int×aU) :=
 (Option.bind (bH in_) fun r1=>(bif (decide (r1.1 > 1000)) then (Option.bind (bV r1.2 1) fun r9=>some (0,r9)) else some (r1.1,r1.2)))
noncomputable def mf (s_:ByteArray):Option (bT×Int) :=
 (Option.bind (ow s_) fun r2=>(Option.bind (bH r2) fun r6=>(Option.bind (bH r6.2) fun d=>(Option.bind (ko d.2) fun e=>(Option.bind (ko e.2) fun f=>(Option.bind (bH f.2) fun g=>(Option.bind (bH g.2) fun i=>(Option.bind (iR i.2) fun j=>(Option.bind (bH j.2) fun l=>(Option.bind (bH l.2) fun m=>(Option.bind (kf m.2) fun n=>(Option.bind (bH n.2) fun o=>(Option.bind (iter (σ:=bT×aU×Int×Int) (ρ:=aU×bT) (fun a=>(Option.bind ((bif (decide (a.2.2.2 > 0)) then (Option.bind (cM a.2.1) fun q=>some (q == 0)) else some false):Option Bool) fun r=>(bif r then (Option.bind (bH a.2.1) fun c=>(Option.bind ((bif (decide (c.1≤a.2.2.1)) then some true else some (decide (c.1≥a.1.to.h))):Option Bool) fun s=>(Option.bind ((bif s then (Option.bind (bV c.2 1) fun t=>some t) else some c.2):Option aU) fun u=>(Option.bind (fO u a.1.to.w) fun p=>(Option.bind (chk a.1.rows.isSome) fun _=>some (.inl ((bT.mk a.1.sum (aM.mk a.1.to.k a.1.to.w a.1.to.h a.1.to.x a.1.to.y a.1.to.title ([]:List aE) a.1.to.len a.1.to.chain a.1.to.begun) (JF a.1.rows c.1 p.1)),p.2,c.1,(IntKind.i64.wrap (a.2.2.2 - 1))))))))) else some (.inr (a.2.1,(bT.mk a.1.sum (aM.mk a.1.to.k a.1.to.w a.1.to.h a.1.to.x a.1.to.y a.1.to.title ([]:List aE) a.1.to.len a.1.to.chain a.1.to.begun) a.1.rows)))))) ((bT.mk r6.1 (aM.mk d.1 e.1 f.1 g.1 i.1 j.1 ([]:List aE) l.1 m.1 n.1) (some []:Mp aE)),o.2,(-1),o.1)) fun b=>(Option.bind (lf b.1) fun v=>some ((bT.mk b.2.sum (aM.mk b.2.to.k b.2.to.w b.2.to.h b.2.to.x b.2.to.y b.2.to.title ([]:List aE) b.2.to.len b.2.to.chain b.2.to.begun) b.2.rows),v)))))))))))))))
noncomputable def fD (p:bT) (a:aM):Option (Bool×bT) :=
 (Option.bind (iter (σ:=bT×Int) (ρ:=bT ⊕ (Bool×bT)) (fun b=>(bif (decide (b.2 < p.to.h)) then (Option.bind (gQ a b.2) fun c=>(Option.bind ((Option.bind ((bif (rX b.1.rows b.2) then (bif c.2 then (Option.bind (gZ c.1 (mgd b.1.rows b.2 (aE.mk ([]:List aG) false))) fun e=>some e) else some false) else some false):Option Bool) fun d=>(Option.bind ((bif d then some d else (bif (!(rX b.1.rows b.2)) then some (!c.2) else some false)):Option Bool) fun f=>(bif f then (kb (kO (some (false,(bT.mk b.1.sum (aM.mk b.1.to.k b.1.to.w b.1.to.h b.1.to.x b.1.to.y b.1.to.title b.1.to.rows b.1.to.len b.1.to.chain b.1.to.begun) b.1.rows))))) else (bif (!(rX b.1.rows b.2)) then some (.inl c.1) else some (.inl (mgd b.1.rows b.2 (aE.mk ([]:List aG) false))))))):Option (aE ⊕ ((bT×Int) ⊕ (bT ⊕ (Bool×bT))))) fun | .inl e1033=>(Option.bind (chk (eL b.1.to.rows.length [e1033].length 32)) fun _=>some (.inl ((bT.mk b.1.sum (aM.mk b.1.to.k b.1.to.w b.1.to.h b.1.to.x b.1.to.y b.1.to.title (b.1.to.rows++[e1033]) b.1.to.len b.1.to.chain b.1.to.begun) b.1.rows),(IntKind.i64.wrap (b.2+1))))) | .inr w=>some w)) else some (.inr (.inl (bT.mk b.1.sum (aM.mk b.1.to.k b.1.to.w b.1.to.h b.1.to.x b.1.to.y b.1.to.title b.1.to.rows b.1.to.len b.1.to.chain b.1.to.begun) b.1.rows))))) (p,0)) fun | .inl e816=>(Option.bind (jD (aM.mk e816.to.k e816.to.w e816.to.h e816.to.x e816.to.y e816.to.title e816.to.rows e816.to.len e816.to.chain e816.to.begun)) fun g=>some (g,(bT.mk e816.sum (aM.mk e816.to.k e816.to.w e816.to.h e816.to.x e816.to.y e816.to.title e816.to.rows e816.to.len e816.to.chain e816.to.begun) e816.rows))) | .inr w=>some w)
noncomputable def kK (a:aM) (s_:ByteArray):Option (aM×Int) :=
 (Option.bind (eJ a) fun r3=>(bif (r3 != 0) then some ((aM.mk 0 0 0 0 0 (ByteArray.mk #[]) ([]:List aE) 0 0 ([]:List aN)),1) else (Option.bind (mf s_) fun b=>(bif (b.2 != 0) then some ((aM.mk 0 0 0 0 0 (ByteArray.mk #[]) ([]:List aE) 0 0 ([]:List aN)),b.2) else (Option.bind (eZ a) fun d=>(bif (b.1.sum != d) then some ((aM.mk 0 0 0 0 0 (ByteArray.mk #[]) ([]:List aE) 0 0 ([]:List aN)),7) else (Option.bind (fD b.1 a) fun c=>(bif (!c.1) then some ((aM.mk 0 0 0 0 0 (ByteArray.mk #[]) ([]:List aE) 0 0 ([]:List aN)),1) else (Option.bind (jC c.2.to) fun e=>some (e,0))))))))))
end Go.Tw.X
set_option linter.unusedVariables false
set_option linter.unusedSimpArgs false
set_option maxRecDepth 10000
namespace Go.Tw.X
open Go Go.Tw
structure bK where
 book:cG
 parser:aI
 bB:aB
 k:Int
 deriving DecidableEq,Inhabited
structure lY where
 kind:Int
 text:ByteArray
 w:Int
 h:Int
 deriving DecidableEq,Inhabited
noncomputable def mZ (w:Int) (h_:Int):Option bK :=
 (Option.bind o6 fun r1=>(Option.bind (lk w h_) fun a=>some (bK.mk r1 (aI.mk 0 (eS.mk false false false false 0 ([]:List Int)) (ByteArray.mk #[]) (bU.mk 0 0 0) ([]:List bE)) (aB.mk a.g a.spot a.saved a.waiting a.top a.aO a.bA a.title) 0)))
noncomputable def fU (m_:bK):Option (aM×bK) :=
 (Option.bind (qN (IntKind.i64.wrap (m_.k+1)) (aB.mk m_.bB.g m_.bB.spot m_.bB.saved m_.bB.waiting m_.bB.top m_.bB.aO m_.bB.bA m_.bB.title) m_.book) fun a=>some (a.1,(bK.mk m_.book m_.parser (aB.mk a.2.g a.2.spot a.2.saved a.2.waiting a.2.top a.2.aO a.2.bA a.2.title) m_.k)))
noncomputable def iH (e:lY):Option Int :=
 (Option.bind ((bif (e.kind == 0) then (bif (decide ((e.text.size:Int) > 1048576)) then (kb (some 3)) else some (.inl ())) else (bif (e.kind == 1) then (Option.bind ((bif (decide (e.w < 1)) then some true else (bif (decide (e.w > 1000)) then some true else (bif (decide (e.h < 1)) then some true else some (decide (e.h > 1000))))):Option Bool) fun a=>(bif a then (kb (some 6)) else some (.inl ()))) else (kb (some 5)))):Option (Unit ⊕ Int)) fun | .inl e36=>some 0 | .inr w=>some w)
noncomputable def kQ (m_:bK) (text:ByteArray):Option ByteArray :=
 some text
noncomputable def iI {σ:Type} (Y:σ→(List aE)→Option (σ×Bool)) (y0:σ) (x1:bK) (x2:ByteArray):Option (σ×bK) :=
 (Option.bind (jv x1.parser x2) fun b=>(Option.bind (iter (σ:=aB×Int×σ) (ρ:=(aB×σ) ⊕ (σ×bK)) (fun a=>(bif (decide (a.2.1 < (b.1.length:Int))) then (Option.bind (idx b.1 a.2.1) fun d=>(Option.bind (fT a.1 d) fun c=>(Option.bind (Y a.2.2 c.1) fun z528=>(bif (!z528.2) then (kO (some (z528.1,(bK.mk x1.book b.2 c.2 x1.k)))) else some (.inl (c.2,(IntKind.i64.wrap (a.2.1+1)),z528.1)))))) else some (.inr (.inl (a.1,a.2.2))))) (x1.bB,0,y0)) fun | .inl e413=>some (e413.2,(bK.mk x1.book b.2 e413.1 x1.k)) | .inr w=>some w))
noncomputable def ja (m_:bK) (e:lY):Option (Int×bK) :=
 (Option.bind (iH e) fun r3=>(bif (r3 != 0) then some (r3,m_) else (Option.bind ((bif (e.kind == 1) then (Option.bind (km m_.bB e.w e.h) fun c=>(Option.bind (iA m_.book c.1) fun d=>some (bK.mk d.2 m_.parser c.2 m_.k))) else (Option.bind (kQ m_ e.text) fun f=>(Option.bind (iI (fun g i=>(Option.bind (iA g i) fun j=>some (j.2,true))) (m_.book:cG) m_ f) fun a=>some (bK.mk a.1 a.2.parser a.2.bB a.2.k)))):Option bK) fun b=>some (0,(bK.mk b.book b.parser b.bB (IntKind.i64.wrap (b.k+1)))))))
end Go.Tw.X
set_option linter.unusedVariables false
set_option linter.unusedSimpArgs false
set_option maxRecDepth 10000
namespace Go.Tw.X
open Go Go.Tw
noncomputable def m4 (s_:ByteArray) (n_:Int):Option ByteArray :=
 (bif (decide ((s_.size:Int) > n_)) then (Option.bind (chk (dB 0 n_ s_.size)) fun _=>some (lE s_ 0 n_)) else some s_)
end Go.Tw.X
set_option linter.unusedVariables false
set_option linter.unusedSimpArgs false
set_option maxRecDepth 10000
namespace Go.Tw.X
open Go Go.Tw
noncomputable def iO (texts:List ByteArray) (out:Int):Option Bool :=
 (Option.bind (mZ 7 3) fun r1=>(Option.bind (fU r1) fun e=>(bif (e.1.k != 1) then some false else (Option.bind (iter (σ:=bK×aM×(List ByteArray)×(List aM)×Int) (ρ:=((List ByteArray)×(List aM)×aM×bK) ⊕ Bool) (fun a=>(Option.bind ((bif (decide (a.2.2.2.2 < (texts.length:Int))) then some (decide (a.2.2.2.2 < 8)) else some false):Option Bool) fun h=>(bif h then (Option.bind (idx texts a.2.2.2.2) fun i=>(Option.bind (m4 i 60) fun j=>(Option.bind (ja a.1 (lY.mk 0 j 0 0)) fun l=>(Option.bind (fU l.2) fun c=>(Option.bind (gL c.1) fun m=>(Option.bind (lq m) fun f=>(Option.bind ((bif (f.2 != 0) then some true else (Option.bind (gj f.1 c.1) fun n=>some (!n))):Option Bool) fun o=>(bif o then (kO (some false)) else (Option.bind (lr a.2.1 c.1) fun g=>(Option.bind (chk (eL a.2.2.1.length [g].length 16)) fun _=>(Option.bind (chk (eL a.2.2.2.1.length [a.2.1].length 120)) fun _=>some (.inl (c.2,c.1,(a.2.2.1++[g]),(a.2.2.2.1++[a.2.1]),(IntKind.i64.wrap (a.2.2.2.2+1))))))))))))))) else some (.inr (.inl (a.2.2.1,a.2.2.2.1,a.2.1,a.1)))))) (e.2,(aM.mk 0 0 0 0 0 (ByteArray.mk #[]) ([]:List aE) 0 0 ([]:List aN)),[],[],0)) fun | .inl e1206=>(Option.bind (iter (σ:=aM×Int) (ρ:=aM ⊕ Bool) (fun b=>(bif (decide (b.2 < (e1206.1.length:Int))) then (Option.bind ((Option.bind (idx e1206.1 b.2) fun p=>(bif (b.2 == out) then some (.inl b.1) else (Option.bind (kK b.1 p) fun d=>(Option.bind (idx e1206.2.1 b.2) fun q=>(Option.bind (gj b.1 q) fun r=>(bif (!r) then (Option.bind ((bif (d.2 == 7) then some true else (Option.bind (idx e1206.2.1 b.2) fun s=>(Option.bind (eZ b.1) fun t=>(Option.bind (eZ s) fun u=>some (t == u))))):Option Bool) fun v=>(kb (kO (some v)))) else (bif (d.2 != 0) then (kb (kO (some false))) else some (.inl d.1)))))))):Option (aM ⊕ ((aM×Int) ⊕ (aM ⊕ Bool)))) fun | .inl e7067=>some (.inl (e7067,(IntKind.i64.wrap (b.2+1)))) | .inr w=>some w) else some (.inr (.inl b.1)))) ((aM.mk 0 0 0 0 0 (ByteArray.mk #[]) ([]:List aE) 0 0 ([]:List aN)),0)) fun | .inl e6064=>(Option.bind ((Option.bind (gj e6064 e1206.2.2.1) fun x=>(bif x then some true else some (out == (IntKind.i64.wrap ((e1206.1.length:Int) - 1))))):Option Bool) fun y=>some y) | .inr w=>some w) | .inr w=>some w))))
end Go.Tw.X
set_option linter.unusedVariables false
set_option linter.unusedSimpArgs false
set_option maxRecDepth 10000
namespace Go.Tw.X
open Go Go.Tw
noncomputable def o8 (r_:Int):Option Int :=
 (Option.bind ((bif (decide (r_ < 32)) then some true else some (decide (r_ > 1114111))):Option Bool) fun e8=>(bif e8 then some 0 else (Option.bind (iter (σ:=Int) (ρ:=Unit ⊕ Int) (fun a=>(bif (decide (a < ([(cF.mk 127 159),(cF.mk 768 879),(cF.mk 6832 6911),(cF.mk 7616 7679),(cF.mk 8203 8207),(cF.mk 8400 8447),(cF.mk 55296 57343),(cF.mk 65024 65039),(cF.mk 65056 65071),(cF.mk 65279 65279),(cF.mk 917760 917999)].length:Int))) then (Option.bind (idx [(cF.mk 127 159),(cF.mk 768 879),(cF.mk 6832 6911),(cF.mk 7616 7679),(cF.mk 8203 8207),(cF.mk 8400 8447),(cF.mk 55296 57343),(cF.mk 65024 65039),(cF.mk 65056 65071),(cF.mk 65279 65279),(cF.mk 917760 917999)] a) fun c=>(Option.bind ((bif (decide (r_≥c.e0)) then some (decide (r_≤c.e1)) else some false):Option Bool) fun e=>(bif e then (kO (some 0)) else some (.inl (IntKind.i64.wrap (a+1)))))) else some (.inr (.inl ())))) 0) fun | .inl e96=>(Option.bind (iter (σ:=Int) (ρ:=Unit ⊕ Int) (fun b=>(bif (decide (b < ([(cF.mk 4352 4447),(cF.mk 11904 12350),(cF.mk 12353 13311),(cF.mk 13312 19903),(cF.mk 19968 40959),(cF.mk 40960 42191),(cF.mk 44032 55203),(cF.mk 63744 64255),(cF.mk 65072 65135),(cF.mk 65280 65376),(cF.mk 65504 65510),(cF.mk 127744 128591),(cF.mk 129280 129535),(cF.mk 131072 262141)].length:Int))) then (Option.bind (idx [(cF.mk 4352 4447),(cF.mk 11904 12350),(cF.mk 12353 13311),(cF.mk 13312 19903),(cF.mk 19968 40959),(cF.mk 40960 42191),(cF.mk 44032 55203),(cF.mk 63744 64255),(cF.mk 65072 65135),(cF.mk 65280 65376),(cF.mk 65504 65510),(cF.mk 127744 128591),(cF.mk 129280 129535),(cF.mk 131072 262141)] b) fun d=>(Option.bind ((bif (decide (r_≥d.e0)) then some (decide (r_≤d.e1)) else some false):Option Bool) fun f=>(bif f then (kO (some 2)) else some (.inl (IntKind.i64.wrap (b+1)))))) else some (.inr (.inl ())))) 0) fun | .inl e214=>some 1 | .inr w=>some w) | .inr w=>some w)))
end Go.Tw.X
set_option linter.unusedVariables false
set_option linter.unusedSimpArgs false
set_option maxRecDepth 10000
namespace Go.Tw.X
open Go Go.Tw
structure aV where
 rune:Int
 aP:Int
 part:Int
 deriving DecidableEq,Inhabited
structure aZ where
 l:List aV
 wrapped:Bool
 deriving DecidableEq,Inhabited
structure rZ where
 rune:Int
 aP:Int
 deriving DecidableEq,Inhabited
noncomputable def mg (n_:Int) (lo:Int) (hi:Int):Option Int :=
 (bif (decide (n_ < lo)) then some lo else (bif (decide (n_ > hi)) then some hi else some n_))
noncomputable def iT (w:Int) (aP:Int):Option aZ :=
 (Option.bind (iter (σ:=(List aV)×Int) (ρ:=(List aV)) (fun a=>(Option.bind (mg w 0 1000) fun b=>(bif (decide (a.2 < b)) then (Option.bind (chk (eL a.1.length [(aV.mk 32 aP 0)].length 24)) fun _=>some (.inl ((a.1++[(aV.mk 32 aP 0)]),(IntKind.i64.wrap (a.2+1))))) else some (.inr a.1)))) (([]:List aV),0)) fun c=>some (aZ.mk c false))
noncomputable def fB (l:List aV):Option aZ :=
 (Option.bind (iter (σ:=Int×(List aV)) (ρ:=(List aV)) (fun a=>(bif (decide (a.1 < (l.length:Int))) then (Option.bind (idx l a.1) fun b=>(Option.bind ((bif (b.part == 1) then (bif ((IntKind.i64.wrap (a.1+1)) == (l.length:Int)) then some true else (Option.bind (idx l (IntKind.i64.wrap (a.1+1))) fun d=>some (d.part != 2))) else (bif (b.part == 2) then (bif (a.1 == 0) then some true else (Option.bind (idx a.2 (IntKind.i64.wrap (a.1 - 1))) fun e=>some (e.part != 1))) else (bif (b.part == 3) then some (decide (a.1 < (IntKind.i64.wrap ((l.length:Int) - 1)))) else some false))):Option Bool) fun f=>(Option.bind ((bif f then some (aV.mk 32 b.aP 0) else some b):Option aV) fun c=>(Option.bind (chk (eL a.2.length [c].length 24)) fun _=>some (.inl ((IntKind.i64.wrap (a.1+1)),(a.2++[c]))))))) else some (.inr a.2))) (0,([]:List aV))) fun g=>some (aZ.mk g false))
noncomputable def nY (r_:aZ) (at_:Int) (x_:Int) (aP:Int):Option aZ :=
 (Option.bind (o8 x_) fun r3=>(Option.bind ((bif (r3 == 0) then some true else (bif (decide (at_ < 0)) then some true else some (decide (at_ > (IntKind.i64.wrap ((r_.l.length:Int) - r3)))))):Option Bool) fun a=>(bif a then (Option.bind (fB r_.l) fun b=>some b) else (Option.bind (chk (eL ([]:List aV).length r_.l.length 24)) fun _=>(Option.bind (idx (([]:List aV)++r_.l) at_) fun h=>(Option.bind ((bif (r3 == 2) then (Option.bind (idx ((([]:List aV)++r_.l).set at_.toNat (aV.mk x_ aP 0)) at_) fun i=>(Option.bind (idx (((([]:List aV)++r_.l).set at_.toNat (aV.mk x_ aP 0)).set at_.toNat (aV.mk x_ aP 1)) (IntKind.i64.wrap (at_+1))) fun j=>(Option.bind ((bif (decide (at_ > 0)) then (Option.bind (idx ((((([]:List aV)++r_.l).set at_.toNat (aV.mk x_ aP 0)).set at_.toNat (aV.mk x_ aP 1)).set ((IntKind.i64.wrap (at_+1)).toNat) (aV.mk x_ aP 2)) (IntKind.i64.wrap (at_ - 1))) fun c=>some (c.part == 1)) else some false):Option Bool) fun d=>(bif d then (Option.bind (idx ((((([]:List aV)++r_.l).set at_.toNat (aV.mk x_ aP 0)).set at_.toNat (aV.mk x_ aP 1)).set ((IntKind.i64.wrap (at_+1)).toNat) (aV.mk x_ aP 2)) (IntKind.i64.wrap (at_ - 1))) fun e=>(Option.bind (idx ((((([]:List aV)++r_.l).set at_.toNat (aV.mk x_ aP 0)).set at_.toNat (aV.mk x_ aP 1)).set ((IntKind.i64.wrap (at_+1)).toNat) (aV.mk x_ aP 2)) (IntKind.i64.wrap (at_ - 1))) fun k=>some (((((([]:List aV)++r_.l).set at_.toNat (aV.mk x_ aP 0)).set at_.toNat (aV.mk x_ aP 1)).set ((IntKind.i64.wrap (at_+1)).toNat) (aV.mk x_ aP 2)).set ((IntKind.i64.wrap (at_ - 1)).toNat) (aV.mk 32 e.aP 0)))) else some ((((([]:List aV)++r_.l).set at_.toNat (aV.mk x_ aP 0)).set at_.toNat (aV.mk x_ aP 1)).set ((IntKind.i64.wrap (at_+1)).toNat) (aV.mk x_ aP 2)))))) else some ((([]:List aV)++r_.l).set at_.toNat (aV.mk x_ aP 0))):Option (List aV)) fun f=>(Option.bind (fB f) fun g=>some g)))))))
noncomputable def mT (r_:aZ) (from_:Int) (to:Int) (aP:Int):Option aZ :=
 (Option.bind (chk (eL ([]:List aV).length r_.l.length 24)) fun _=>(Option.bind (iter (σ:=Int×(List aV)) (ρ:=(List aV)) (fun a=>(bif (decide (a.1 < ((([]:List aV)++r_.l).length:Int))) then (Option.bind ((Option.bind ((bif (decide (a.1≥from_)) then some (decide (a.1 < to)) else some false):Option Bool) fun b=>(bif b then (Option.bind (idx a.2 a.1) fun f=>some (a.2.set a.1.toNat (aV.mk 32 aP 0))) else some a.2)):Option (List aV)) fun c=>some (.inl ((IntKind.i64.wrap (a.1+1)),c))) else some (.inr a.2))) (0,(([]:List aV)++r_.l))) fun d=>(Option.bind (fB d) fun e=>some e)))
noncomputable def mh (r_:aZ) (at_:Int) (n_:Int) (aP:Int):Option aZ :=
 (Option.bind ((bif (decide (at_ < 0)) then some true else (bif (decide (at_≥(r_.l.length:Int))) then some true else some (decide (n_≤0)))):Option Bool) fun e8=>(bif e8 then (Option.bind (fB r_.l) fun b=>some b) else (Option.bind (chk (dB 0 at_ r_.l.length)) fun _=>(Option.bind (chk (eL ([]:List aV).length (cut r_.l 0 at_).length 24)) fun _=>(Option.bind (iT (fQ n_ (IntKind.i64.wrap ((r_.l.length:Int) - at_))) aP) fun a=>(Option.bind (chk (eL (([]:List aV)++(cut r_.l 0 at_)).length a.l.length 24)) fun _=>(Option.bind (chk (dB at_ (IntKind.i64.wrap ((r_.l.length:Int) - (fQ n_ (IntKind.i64.wrap ((r_.l.length:Int) - at_))))) r_.l.length)) fun _=>(Option.bind (chk (eL ((([]:List aV)++(cut r_.l 0 at_))++a.l).length (cut r_.l at_ (IntKind.i64.wrap ((r_.l.length:Int) - (fQ n_ (IntKind.i64.wrap ((r_.l.length:Int) - at_)))))).length 24)) fun _=>(Option.bind (fB (((([]:List aV)++(cut r_.l 0 at_))++a.l)++(cut r_.l at_ (IntKind.i64.wrap ((r_.l.length:Int) - (fQ n_ (IntKind.i64.wrap ((r_.l.length:Int) - at_)))))))) fun c=>some c)))))))))
noncomputable def mi (r_:aZ) (at_:Int) (n_:Int) (aP:Int):Option aZ :=
 (Option.bind ((bif (decide (at_ < 0)) then some true else (bif (decide (at_≥(r_.l.length:Int))) then some true else some (decide (n_≤0)))):Option Bool) fun e8=>(bif e8 then (Option.bind (fB r_.l) fun b=>some b) else (Option.bind (chk (dB 0 at_ r_.l.length)) fun _=>(Option.bind (chk (eL ([]:List aV).length (cut r_.l 0 at_).length 24)) fun _=>(Option.bind (chk (dB (IntKind.i64.wrap (at_+(fQ n_ (IntKind.i64.wrap ((r_.l.length:Int) - at_))))) (r_.l.length:Int) r_.l.length)) fun _=>(Option.bind (chk (eL (([]:List aV)++(cut r_.l 0 at_)).length (cut r_.l (IntKind.i64.wrap (at_+(fQ n_ (IntKind.i64.wrap ((r_.l.length:Int) - at_))))) (r_.l.length:Int)).length 24)) fun _=>(Option.bind (iT (fQ n_ (IntKind.i64.wrap ((r_.l.length:Int) - at_))) aP) fun a=>(Option.bind (chk (eL ((([]:List aV)++(cut r_.l 0 at_))++(cut r_.l (IntKind.i64.wrap (at_+(fQ n_ (IntKind.i64.wrap ((r_.l.length:Int) - at_))))) (r_.l.length:Int))).length a.l.length 24)) fun _=>(Option.bind (fB (((([]:List aV)++(cut r_.l 0 at_))++(cut r_.l (IntKind.i64.wrap (at_+(fQ n_ (IntKind.i64.wrap ((r_.l.length:Int) - at_))))) (r_.l.length:Int)))++a.l)) fun c=>some c)))))))))
noncomputable def mj (r_:aZ) (aP:Int):Option aZ :=
 (Option.bind (chk (eL ([]:List aV).length r_.l.length 24)) fun _=>(Option.bind ((bif (decide (((([]:List aV)++r_.l).length:Int) > 0)) then (Option.bind (idx (([]:List aV)++r_.l) (IntKind.i64.wrap (((([]:List aV)++r_.l).length:Int) - 1))) fun c=>some ((([]:List aV)++r_.l).set ((IntKind.i64.wrap (((([]:List aV)++r_.l).length:Int) - 1)).toNat) (aV.mk 32 aP 3))) else some (([]:List aV)++r_.l)):Option (List aV)) fun a=>(Option.bind (fB a) fun b=>some (aZ.mk b.l true))))
noncomputable def mm (r_:aZ) (w:Int):Option aZ :=
 (Option.bind (mg w 0 1000) fun r3=>(bif (r3 == (r_.l.length:Int)) then some r_ else (Option.bind (chk (dB 0 (fQ r3 (r_.l.length:Int)) r_.l.length)) fun _=>(Option.bind (chk (eL ([]:List aV).length (cut r_.l 0 (fQ r3 (r_.l.length:Int))).length 24)) fun _=>(Option.bind (iT (IntKind.i64.wrap (r3 - ((([]:List aV)++(cut r_.l 0 (fQ r3 (r_.l.length:Int)))).length:Int))) 0) fun a=>(Option.bind (chk (eL (([]:List aV)++(cut r_.l 0 (fQ r3 (r_.l.length:Int)))).length a.l.length 24)) fun _=>(Option.bind (fB ((([]:List aV)++(cut r_.l 0 (fQ r3 (r_.l.length:Int))))++a.l)) fun b=>some b)))))))
end Go.Tw.X
set_option linter.unusedVariables false
set_option linter.unusedSimpArgs false
set_option maxRecDepth 10000
namespace Go.Tw.X
open Go Go.Tw
noncomputable def sb (r_:aE) (x_:aZ):Option Bool :=
 (Option.bind ((bif ((r_.cells.length:Int) != (x_.l.length:Int)) then some true else some (!(r_.wrapped == x_.wrapped))):Option Bool) fun e6=>(bif e6 then some false else (Option.bind (iter (σ:=Int) (ρ:=Unit ⊕ Bool) (fun a=>(bif (decide (a < (r_.cells.length:Int))) then (Option.bind (idx r_.cells a) fun b=>(Option.bind ((Option.bind (idx x_.l a) fun c=>(bif ((IntKind.i64.wrap b.rune) != c.rune) then some true else (Option.bind (idx x_.l a) fun d=>(bif (b.aP != d.aP) then some true else (Option.bind (idx x_.l a) fun e=>some (b.part != e.part)))))):Option Bool) fun f=>(bif f then (kO (some false)) else some (.inl (IntKind.i64.wrap (a+1)))))) else some (.inr (.inl ())))) 0) fun | .inl e712=>some true | .inr w=>some w)))
end Go.Tw.X
set_option linter.unusedVariables false
set_option linter.unusedSimpArgs false
set_option maxRecDepth 10000
namespace Go.Tw.X
open Go Go.Tw
structure gM where
 w:Int
 l:List aZ
 deriving DecidableEq,Inhabited
noncomputable def nq (n_:Int):Option Int :=
 some (imax 1 (fQ n_ 1000))
noncomputable def pY (w:Int) (h_:Int):Option gM :=
 (Option.bind (nq w) fun r2=>(Option.bind (iter (σ:=gM×Int) (ρ:=gM) (fun a=>(Option.bind (nq h_) fun c=>(bif (decide (a.2 < c)) then (Option.bind (iT a.1.w 0) fun b=>(Option.bind (chk (eL a.1.l.length [b].length 32)) fun _=>some (.inl ((gM.mk a.1.w (a.1.l++[b])),(IntKind.i64.wrap (a.2+1)))))) else some (.inr a.1)))) ((gM.mk r2 ([]:List aZ)),0)) fun d=>some d))
noncomputable def m5 (g:gM) (y:Int) (r_:aZ):Option (gM×Bool) :=
 (Option.bind ((bif (decide (y < 0)) then some true else some (decide (y≥(g.l.length:Int)))):Option Bool) fun e7=>(bif e7 then some (g,false) else (Option.bind (chk (eL ([]:List aZ).length g.l.length 32)) fun _=>(Option.bind (mm r_ g.w) fun a=>(Option.bind (idx (([]:List aZ)++g.l) y) fun b=>some ((gM.mk g.w ((([]:List aZ)++g.l).set y.toNat a)),true))))))
noncomputable def dZ (g:gM) (up:Bool) (top:Int) (aO:Int) (n_:Int) (aP:Int):Option (gM×(List aZ)) :=
 (bif (decide ((imax 0 (fQ aO (IntKind.i64.wrap ((g.l.length:Int) - 1)))) < (imax 0 (fQ top (IntKind.i64.wrap ((g.l.length:Int) - 1)))))) then some (g,([]:List aZ)) else (Option.bind (chk (eL ([]:List aZ).length g.l.length 32)) fun _=>(Option.bind (iT g.w aP) fun d=>(Option.bind (iter (σ:=(List aZ)×(List aZ)×Int) (ρ:=(List aZ)×(List aZ)) (fun a=>(Option.bind ((bif (decide (a.2.2 < n_)) then some (decide (a.2.2≤(IntKind.i64.wrap ((imax 0 (fQ aO (IntKind.i64.wrap ((g.l.length:Int) - 1)))) - (imax 0 (fQ top (IntKind.i64.wrap ((g.l.length:Int) - 1)))))))) else some false):Option Bool) fun m=>(bif m then (Option.bind ((bif up then (Option.bind (idx a.2.1 (imax 0 (fQ top (IntKind.i64.wrap ((g.l.length:Int) - 1))))) fun e=>(Option.bind (chk (eL a.1.length [e].length 32)) fun _=>(Option.bind (iter (σ:=(List aZ)×Int) (ρ:=(List aZ)) (fun b=>(bif (decide (b.2 < (imax 0 (fQ aO (IntKind.i64.wrap ((g.l.length:Int) - 1)))))) then (Option.bind (idx b.1 (IntKind.i64.wrap (b.2+1))) fun n=>(Option.bind (idx b.1 b.2) fun p=>some (.inl ((b.1.set b.2.toNat n),(IntKind.i64.wrap (b.2+1)))))) else some (.inr b.1))) (a.2.1,(imax 0 (fQ top (IntKind.i64.wrap ((g.l.length:Int) - 1)))))) fun f=>(Option.bind (idx f (imax 0 (fQ aO (IntKind.i64.wrap ((g.l.length:Int) - 1))))) fun q=>some ((a.1++[e]),(f.set ((imax 0 (fQ aO (IntKind.i64.wrap ((g.l.length:Int) - 1)))).toNat) d)))))) else (Option.bind (idx a.2.1 (imax 0 (fQ aO (IntKind.i64.wrap ((g.l.length:Int) - 1))))) fun h=>(Option.bind (chk (eL a.1.length [h].length 32)) fun _=>(Option.bind (iter (σ:=(List aZ)×Int) (ρ:=(List aZ)) (fun c=>(bif (decide (c.2 > (imax 0 (fQ top (IntKind.i64.wrap ((g.l.length:Int) - 1)))))) then (Option.bind (idx c.1 (IntKind.i64.wrap (c.2 - 1))) fun o=>(Option.bind (idx c.1 c.2) fun r=>some (.inl ((c.1.set c.2.toNat o),(IntKind.i64.wrap (c.2 - 1)))))) else some (.inr c.1))) (a.2.1,(imax 0 (fQ aO (IntKind.i64.wrap ((g.l.length:Int) - 1)))))) fun i=>(Option.bind (idx i (imax 0 (fQ top (IntKind.i64.wrap ((g.l.length:Int) - 1))))) fun s=>some ((a.1++[h]),(i.set ((imax 0 (fQ top (IntKind.i64.wrap ((g.l.length:Int) - 1)))).toNat) d))))))):Option ((List aZ)×(List aZ))) fun j=>some (.inl (j.1,j.2,(IntKind.i64.wrap (a.2.2+1))))) else some (.inr (a.1,a.2.1))))) (([]:List aZ),(([]:List aZ)++g.l),0)) fun k=>some ((gM.mk g.w k.2),k.1)))))
end Go.Tw.X
set_option linter.unusedVariables false
set_option linter.unusedSimpArgs false
set_option maxRecDepth 10000
namespace Go.Tw.X
open Go Go.Tw
noncomputable def nr (l:List aE) (x_:List aZ):Option Bool :=
 (bif ((l.length:Int) != (x_.length:Int)) then some false else (Option.bind (iter (σ:=Int) (ρ:=Unit ⊕ Bool) (fun a=>(bif (decide (a < (x_.length:Int))) then (Option.bind (idx l a) fun b=>(Option.bind (idx x_ a) fun c=>(Option.bind (sb b c) fun d=>(bif (!d) then (kO (some false)) else some (.inl (IntKind.i64.wrap (a+1))))))) else some (.inr (.inl ())))) 0) fun | .inl e571=>some true | .inr w=>some w))
end Go.Tw.X
set_option linter.unusedVariables false
set_option linter.unusedSimpArgs false
set_option maxRecDepth 10000
namespace Go.Tw.X
open Go Go.Tw
structure kh where
 kind:Int
 rune:Int
 byte:Int
 dN:Bool
 bQ:List Int
 text:ByteArray
 deriving DecidableEq,Inhabited
end Go.Tw.X
set_option linter.unusedVariables false
set_option linter.unusedSimpArgs false
set_option maxRecDepth 10000
namespace Go.Tw.X
open Go Go.Tw
structure bO where
 gN:Int
 back:Int
 bold:Bool
 under:Bool
 dI:Bool
 deriving DecidableEq,Inhabited
noncomputable def pZ (s_:bO):Option Bool :=
 (Option.bind ((bif (decide (s_.gN≥0)) then (bif (decide (s_.gN≤8)) then (bif (decide (s_.back≥0)) then some (decide (s_.back≤8)) else some false) else some false) else some false):Option Bool) fun e9=>some e9)
noncomputable def ki (s_:bO):Option Int :=
 (Option.bind (pZ s_) fun r2=>(bif (!r2) then some 0 else (Option.bind ((bif s_.bold then some (IntKind.i64.wrap ((IntKind.i64.wrap (s_.gN+(IntKind.i64.wrap (9*s_.back))))+81)) else some (IntKind.i64.wrap (s_.gN+(IntKind.i64.wrap (9*s_.back))))):Option Int) fun a=>(Option.bind ((bif s_.under then some (IntKind.i64.wrap (a+162)) else some a):Option Int) fun b=>(Option.bind ((bif s_.dI then some (IntKind.i64.wrap (b+324)) else some b):Option Int) fun c=>some c)))))
noncomputable def p7 (s_:bO) (l:List Int):Option bO :=
 (bif ((l.length:Int) == 0) then some (bO.mk 0 0 false false false) else (Option.bind (iter (σ:=bO×Int×Int) (ρ:=bO) (fun b=>(bif (decide (b.2.1 < (l.length:Int))) then (Option.bind ((Option.bind (idx l b.2.1) fun a=>(bif (decide (b.2.2 > 0)) then some ((IntKind.i64.wrap (b.2.2 - 1)),b.1) else (Option.bind ((bif (a == 38) then some true else some (a == 48)):Option Bool) fun m=>(bif m then (Option.bind ((bif (decide ((IntKind.i64.wrap (b.2.1+1)) < (l.length:Int))) then (Option.bind (idx l (IntKind.i64.wrap (b.2.1+1))) fun n=>some (n == 5)) else some false):Option Bool) fun o=>(Option.bind ((bif o then some 2 else some b.2.2):Option Int) fun p=>(Option.bind ((bif (decide ((IntKind.i64.wrap (b.2.1+1)) < (l.length:Int))) then (Option.bind (idx l (IntKind.i64.wrap (b.2.1+1))) fun q=>some (q == 2)) else some false):Option Bool) fun r=>(Option.bind ((bif r then some 4 else some p):Option Int) fun t=>some (t,b.1))))) else (Option.bind ((bif (a == 0) then some (bO.mk 0 0 false false false) else some b.1):Option bO) fun c=>(Option.bind ((bif (a == 1) then some true else some (a == 22)):Option Bool) fun u=>(Option.bind ((bif u then some (bO.mk c.gN c.back (decide (a < 10)) c.under c.dI) else some c):Option bO) fun d=>(Option.bind ((bif (a == 4) then some true else some (a == 24)):Option Bool) fun v=>(Option.bind ((bif v then some (bO.mk d.gN d.back d.bold (decide (a < 10)) d.dI) else some d):Option bO) fun e=>(Option.bind ((bif (a == 7) then some true else some (a == 27)):Option Bool) fun w=>(Option.bind ((bif w then some (bO.mk e.gN e.back e.bold e.under (decide (a < 10))) else some e):Option bO) fun f=>(Option.bind ((bif (decide (a≥30)) then some (decide (a≤37)) else some false):Option Bool) fun z=>(Option.bind ((bif z then some (bO.mk (IntKind.i64.wrap (a - 29)) f.back f.bold f.under f.dI) else some f):Option bO) fun h=>(Option.bind ((bif (a == 39) then some (bO.mk 0 h.back h.bold h.under h.dI) else some h):Option bO) fun i=>(Option.bind ((bif (decide (a≥40)) then some (decide (a≤47)) else some false):Option Bool) fun A=>(Option.bind ((bif A then some (bO.mk i.gN (IntKind.i64.wrap (a - 39)) i.bold i.under i.dI) else some i):Option bO) fun j=>(bif (a == 49) then some (b.2.2,(bO.mk j.gN 0 j.bold j.under j.dI)) else some (b.2.2,j)))))))))))))))))):Option (Int×bO)) fun k=>some (.inl (k.2,(IntKind.i64.wrap (b.2.1+1)),k.1))) else some (.inr b.1))) (s_,0,0)) fun B=>some B))
end Go.Tw.X
set_option linter.unusedVariables false
set_option linter.unusedSimpArgs false
set_option maxRecDepth 10000
namespace Go.Tw.X
open Go Go.Tw
structure aR where
 g:gM
 x:Int
 y:Int
 s:bO
 sX:Int
 sY:Int
 sS:bO
 waiting:Bool
 top:Int
 aO:Int
 bA:Bool
 title:ByteArray
 deriving DecidableEq,Inhabited
noncomputable def p8 (w:Int) (h_:Int):Option aR :=
 (Option.bind (pY w h_) fun r2=>some (aR.mk r2 0 0 (bO.mk 0 0 false false false) 0 0 (bO.mk 0 0 false false false) false 0 (IntKind.i64.wrap ((r2.l.length:Int) - 1)) true (ByteArray.mk #[])))
noncomputable def jE (s_:aR) (r_:aZ):Option aR :=
 (Option.bind (m5 s_.g s_.y r_) fun r4=>some (aR.mk r4.1 s_.x s_.y s_.s s_.sX s_.sY s_.sS s_.waiting s_.top s_.aO s_.bA s_.title))
noncomputable def mq (s_:aR) (n_:Int):Option (aR×(List aZ)) :=
 (Option.bind (ki s_.s) fun b=>(Option.bind (dZ s_.g true s_.top s_.aO n_ b) fun a=>(bif (decide (s_.top > 0)) then some ((aR.mk a.1 s_.x s_.y s_.s s_.sX s_.sY s_.sS s_.waiting s_.top s_.aO s_.bA s_.title),([]:List aZ)) else some ((aR.mk a.1 s_.x s_.y s_.s s_.sX s_.sY s_.sS s_.waiting s_.top s_.aO s_.bA s_.title),a.2))))
noncomputable def dF (s_:aR) (x_:Int) (y:Int):Option aR :=
 some (aR.mk s_.g (imax 0 (fQ x_ (IntKind.i64.wrap (s_.g.w - 1)))) (imax 0 (fQ y (IntKind.i64.wrap ((s_.g.l.length:Int) - 1)))) s_.s s_.sX s_.sY s_.sS false s_.top s_.aO s_.bA s_.title)
noncomputable def gR (s_:aR):Option (aR×(List aZ)) :=
 (bif (s_.y == s_.aO) then (Option.bind (mq (aR.mk s_.g s_.x s_.y s_.s s_.sX s_.sY s_.sS false s_.top s_.aO s_.bA s_.title) 1) fun a=>some (a.1,a.2)) else (Option.bind (dF (aR.mk s_.g s_.x s_.y s_.s s_.sX s_.sY s_.sS false s_.top s_.aO s_.bA s_.title) s_.x (IntKind.i64.wrap (s_.y+1))) fun b=>some (b,([]:List aZ))))
noncomputable def o9 (s_:aR) (r_:Int):Option (aR×(List aZ)) :=
 (Option.bind (o8 r_) fun r3=>(Option.bind ((bif (r3 == 0) then some true else some (decide (r3 > s_.g.w))):Option Bool) fun e9=>(bif e9 then some (s_,([]:List aZ)) else (Option.bind (ki s_.s) fun i=>(Option.bind ((bif s_.waiting then some s_.bA else some false):Option Bool) fun j=>(Option.bind ((bif j then (Option.bind (idx s_.g.l s_.y) fun k=>(Option.bind (jE s_ (aZ.mk k.l true)) fun c=>(Option.bind (gR (aR.mk c.g 0 c.y c.s c.sX c.sY c.sS c.waiting c.top c.aO c.bA c.title)) fun f=>(Option.bind (chk (eL ([]:List aZ).length f.2.length 32)) fun _=>some ((([]:List aZ)++f.2),f.1))))) else some (([]:List aZ),s_)):Option ((List aZ)×aR)) fun b=>(Option.bind ((bif (r3 == 2) then some (b.2.x == (IntKind.i64.wrap (b.2.g.w - 1))) else some false):Option Bool) fun m=>(Option.bind ((bif m then (bif b.2.bA then (Option.bind (idx b.2.g.l b.2.y) fun n=>(Option.bind (mj n i) fun o=>(Option.bind (jE b.2 o) fun d=>(Option.bind (gR (aR.mk d.g 0 d.y d.s d.sX d.sY d.sS d.waiting d.top d.aO d.bA d.title)) fun h=>(Option.bind (chk (eL b.1.length h.2.length 32)) fun _=>some ((b.1++h.2),h.1)))))) else some (b.1,(aR.mk b.2.g (IntKind.i64.wrap (b.2.x - 1)) b.2.y b.2.s b.2.sX b.2.sY b.2.sS b.2.waiting b.2.top b.2.aO b.2.bA b.2.title))) else some (b.1,b.2)):Option ((List aZ)×aR)) fun e=>(Option.bind (idx e.2.g.l e.2.y) fun p=>(Option.bind (nY p e.2.x r_ i) fun q=>(Option.bind (jE e.2 q) fun a=>(Option.bind ((bif ((IntKind.i64.wrap (a.x+r3)) == a.g.w) then some (aR.mk a.g (IntKind.i64.wrap ((IntKind.i64.wrap (a.x+r3)) - 1)) a.y a.s a.sX a.sY a.sS ((IntKind.i64.wrap (a.x+r3)) == a.g.w) a.top a.aO a.bA a.title) else some (aR.mk a.g (IntKind.i64.wrap (a.x+r3)) a.y a.s a.sX a.sY a.sS ((IntKind.i64.wrap (a.x+r3)) == a.g.w) a.top a.aO a.bA a.title)):Option aR) fun r=>some (r,e.1)))))))))))))
noncomputable def eW (l:List Int) (i:Int) (d:Int):Option Int :=
 (Option.bind ((bif (decide (i < (l.length:Int))) then (Option.bind (idx l i) fun a=>some (decide (a > 0))) else some false):Option Bool) fun b=>(bif b then (Option.bind (idx l i) fun c=>some (fQ c 9999)) else some d))
noncomputable def kL (s_:aR) (y:Int) (from_:Int) (to:Int):Option aR :=
 (Option.bind (idx s_.g.l y) fun a=>(Option.bind (ki s_.s) fun b=>(Option.bind (mT a from_ to b) fun c=>(Option.bind (m5 s_.g y c) fun d=>some (aR.mk d.1 s_.x s_.y s_.s s_.sX s_.sY s_.sS s_.waiting s_.top s_.aO s_.bA s_.title)))))
noncomputable def mU (s_:aR) (n_:Int) (all:Bool):Option aR :=
 (bif (decide (n_ > 2)) then some s_ else (Option.bind (iter (σ:=aR×Int) (ρ:=aR) (fun a=>(bif (decide (a.2 < (s_.g.l.length:Int))) then (Option.bind ((Option.bind ((bif all then (bif (decide (a.2 < a.1.y)) then (bif (n_ != 0) then some true else (bif (decide (a.2 > a.1.y)) then some (n_ != 1) else some false)) else (bif (decide (a.2 > a.1.y)) then some (n_ != 1) else some false)) else some false):Option Bool) fun d=>(bif d then (Option.bind (kL a.1 a.2 0 a.1.g.w) fun e=>some e) else some a.1)):Option aR) fun f=>some (.inl (f,(IntKind.i64.wrap (a.2+1))))) else some (.inr a.1))) (s_,0)) fun c=>(Option.bind ((bif (n_ == 0) then some c.x else some 0):Option Int) fun h=>(Option.bind ((bif (n_ == 1) then some (IntKind.i64.wrap (c.x+1)) else some c.g.w):Option Int) fun i=>(Option.bind (kL c c.y h i) fun b=>some (aR.mk b.g b.x b.y b.s b.sX b.sY b.sS false b.top b.aO b.bA b.title))))))
noncomputable def nd (s_:aR) (b:Int) (l:List Int):Option (aR×(List aZ)) :=
 (Option.bind (eW l 0 1) fun r3=>(Option.bind (ki s_.s) fun r6=>(Option.bind ((Option.bind ((bif (b == 65) then some (b == 65) else some (b == 70)):Option Bool) fun k=>(bif k then (Option.bind ((bif (decide (s_.y≥s_.top)) then some s_.top else some 0):Option Int) fun m=>(Option.bind (dF s_ s_.x (imax m (IntKind.i64.wrap (s_.y - r3)))) fun a=>(bif (b == 70) then some (.inl (aR.mk a.g 0 a.y a.s a.sX a.sY a.sS a.waiting a.top a.aO a.bA a.title)) else some (.inl a)))) else (Option.bind ((bif (b == 66) then some (b == 66) else some (b == 69)):Option Bool) fun n=>(bif n then (Option.bind ((bif (decide (s_.y≤s_.aO)) then some s_.aO else some (IntKind.i64.wrap ((s_.g.l.length:Int) - 1))):Option Int) fun o=>(Option.bind (dF s_ s_.x (fQ o (IntKind.i64.wrap (s_.y+r3)))) fun c=>(bif (b == 69) then some (.inl (aR.mk c.g 0 c.y c.s c.sX c.sY c.sS c.waiting c.top c.aO c.bA c.title)) else some (.inl c)))) else (bif (b == 67) then (Option.bind (dF s_ (IntKind.i64.wrap (s_.x+r3)) s_.y) fun p=>some (.inl p)) else (bif (b == 68) then (Option.bind (dF s_ (IntKind.i64.wrap (s_.x - r3)) s_.y) fun q=>some (.inl q)) else (bif (b == 71) then (Option.bind (dF s_ (IntKind.i64.wrap (r3 - 1)) s_.y) fun r=>some (.inl r)) else (bif (b == 100) then (Option.bind (dF s_ s_.x (IntKind.i64.wrap (r3 - 1))) fun t=>some (.inl t)) else (Option.bind ((bif (b == 72) then some (b == 72) else some (b == 102)):Option Bool) fun u=>(bif u then (Option.bind (eW l 1 1) fun v=>(Option.bind (dF s_ (IntKind.i64.wrap (v - 1)) (IntKind.i64.wrap (r3 - 1))) fun z=>some (.inl z))) else (bif (b == 74) then (Option.bind (eW l 0 0) fun A=>(Option.bind (mU s_ A true) fun B=>some (.inl B))) else (bif (b == 75) then (Option.bind (eW l 0 0) fun C=>(Option.bind (mU s_ C false) fun D=>some (.inl D))) else (bif (b == 88) then (Option.bind (kL s_ s_.y s_.x (IntKind.i64.wrap (s_.x+r3))) fun d=>some (.inl (aR.mk d.g d.x d.y d.s d.sX d.sY d.sS false d.top d.aO d.bA d.title))) else (bif (b == 64) then (Option.bind (idx s_.g.l s_.y) fun E=>(Option.bind (mh E s_.x r3 r6) fun F=>(Option.bind (jE s_ F) fun e=>some (.inl (aR.mk e.g e.x e.y e.s e.sX e.sY e.sS false e.top e.aO e.bA e.title))))) else (bif (b == 80) then (Option.bind (idx s_.g.l s_.y) fun G=>(Option.bind (mi G s_.x r3 r6) fun H=>(Option.bind (jE s_ H) fun f=>some (.inl (aR.mk f.g f.x f.y f.s f.sX f.sY f.sS false f.top f.aO f.bA f.title))))) else (Option.bind ((bif (b == 76) then some (b == 76) else some (b == 77)):Option Bool) fun I=>(bif I then (Option.bind ((bif (decide (s_.y≥s_.top)) then some (decide (s_.y≤s_.aO)) else some false):Option Bool) fun J=>(bif J then (Option.bind (dZ s_.g (b == 77) s_.y s_.aO r3 r6) fun K=>(Option.bind (dF (aR.mk K.1 s_.x s_.y s_.s s_.sX s_.sY s_.sS s_.waiting s_.top s_.aO s_.bA s_.title) 0 s_.y) fun L=>some (.inl L))) else some (.inl s_))) else (bif (b == 83) then (Option.bind (mq (aR.mk s_.g s_.x s_.y s_.s s_.sX s_.sY s_.sS false s_.top s_.aO s_.bA s_.title) r3) fun h=>(kb (some (h.1,h.2)))) else (bif (b == 84) then (Option.bind (dZ s_.g false s_.top s_.aO r3 r6) fun M=>some (.inl (aR.mk M.1 s_.x s_.y s_.s s_.sX s_.sY s_.sS false s_.top s_.aO s_.bA s_.title))) else (bif (b == 109) then (Option.bind (p7 s_.s l) fun N=>some (.inl (aR.mk s_.g s_.x s_.y N s_.sX s_.sY s_.sS s_.waiting s_.top s_.aO s_.bA s_.title))) else (bif (b == 114) then (Option.bind (eW l 0 1) fun i=>(Option.bind (eW l 1 (s_.g.l.length:Int)) fun j=>(bif (decide ((IntKind.i64.wrap ((imax 1 (fQ i (s_.g.l.length:Int))) - 1)) < (IntKind.i64.wrap ((imax 1 (fQ j (s_.g.l.length:Int))) - 1)))) then (Option.bind (dF (aR.mk s_.g s_.x s_.y s_.s s_.sX s_.sY s_.sS s_.waiting (IntKind.i64.wrap ((imax 1 (fQ i (s_.g.l.length:Int))) - 1)) (IntKind.i64.wrap ((imax 1 (fQ j (s_.g.l.length:Int))) - 1)) s_.bA s_.title) 0 0) fun O=>some (.inl O)) else some (.inl s_)))) else some (.inl s_)))))))))))))))))))))):Option (aR ⊕ (aR×(List aZ)))) fun | .inl e753=>some (e753,([]:List aZ)) | .inr w=>some w)))
noncomputable def sd (s_:aR) (a:kh):Option (aR×(List aZ)) :=
 (Option.bind ((bif (a.kind == 1) then (Option.bind (o9 s_ a.rune) fun b=>(kb (some (b.1,b.2)))) else (bif (a.kind == 2) then (bif (a.byte == 8) then (Option.bind (dF s_ (IntKind.i64.wrap (s_.x - 1)) s_.y) fun h=>(kb (some (h,([]:List aZ))))) else (bif (a.byte == 9) then (Option.bind (dF s_ (IntKind.i64.wrap ((IntKind.i64.wrap ((IntKind.i64.wrap (s_.x.tdiv 8))*8))+8)) s_.y) fun i=>(kb (some (i,([]:List aZ))))) else (Option.bind ((bif (a.byte == 10) then some (a.byte == 10) else (bif (a.byte == 11) then some (a.byte == 11) else some (a.byte == 12))):Option Bool) fun j=>(bif j then (Option.bind (gR s_) fun c=>(kb (some (c.1,c.2)))) else (bif (a.byte == 13) then (Option.bind (dF s_ 0 s_.y) fun k=>(kb (some (k,([]:List aZ))))) else some (.inl s_)))))) else (bif (a.kind == 3) then (bif (a.byte == 68) then (Option.bind (gR s_) fun d=>(kb (some (d.1,d.2)))) else (bif (a.byte == 69) then (Option.bind (gR (aR.mk s_.g 0 s_.y s_.s s_.sX s_.sY s_.sS s_.waiting s_.top s_.aO s_.bA s_.title)) fun e=>(kb (some (e.1,e.2)))) else (bif (a.byte == 77) then (bif (s_.y == s_.top) then (Option.bind (ki s_.s) fun m=>(Option.bind (dZ s_.g false s_.top s_.aO 1 m) fun n=>(kb (some ((aR.mk n.1 s_.x s_.y s_.s s_.sX s_.sY s_.sS false s_.top s_.aO s_.bA s_.title),([]:List aZ)))))) else (Option.bind (dF (aR.mk s_.g s_.x s_.y s_.s s_.sX s_.sY s_.sS false s_.top s_.aO s_.bA s_.title) s_.x (IntKind.i64.wrap (s_.y - 1))) fun o=>(kb (some (o,([]:List aZ)))))) else (bif (a.byte == 55) then some (.inl (aR.mk s_.g s_.x s_.y s_.s s_.x s_.y s_.s s_.waiting s_.top s_.aO s_.bA s_.title)) else (bif (a.byte == 56) then (Option.bind (dF (aR.mk s_.g s_.x s_.y s_.sS s_.sX s_.sY s_.sS s_.waiting s_.top s_.aO s_.bA s_.title) s_.sX s_.sY) fun p=>(kb (some (p,([]:List aZ))))) else (bif (a.byte == 99) then (Option.bind (p8 s_.g.w (s_.g.l.length:Int)) fun q=>(kb (some (q,([]:List aZ))))) else some (.inl s_))))))) else (bif (a.kind == 4) then (bif (!a.dN) then (Option.bind (nd s_ a.byte a.bQ) fun f=>(kb (some (f.1,f.2)))) else (Option.bind ((Option.bind (eW a.bQ 0 0) fun r=>(bif (r == 7) then (bif (a.byte == 104) then some true else some (a.byte == 108)) else some false)):Option Bool) fun t=>(bif t then some (.inl (aR.mk s_.g s_.x s_.y s_.s s_.sX s_.sY s_.sS s_.waiting s_.top s_.aO (a.byte == 104) s_.title)) else some (.inl s_)))) else (bif (a.kind == 5) then some (.inl (aR.mk s_.g s_.x s_.y s_.s s_.sX s_.sY s_.sS s_.waiting s_.top s_.aO s_.bA a.text)) else some (.inl s_)))))):Option (aR ⊕ (aR×(List aZ)))) fun | .inl e456=>some (e456,([]:List aZ)) | .inr w=>some w)
end Go.Tw.X
set_option linter.unusedVariables false
set_option linter.unusedSimpArgs false
set_option maxRecDepth 10000
namespace Go.Tw.X
open Go Go.Tw
structure xo where
 l:List (List rZ)
 begun:List rZ
 deriving DecidableEq,Inhabited
end Go.Tw.X
set_option linter.unusedVariables false
set_option linter.unusedSimpArgs false
set_option maxRecDepth 10000
namespace Go.Tw.X
open Go Go.Tw
noncomputable def p9 (a:kh):Option bE :=
 (Option.bind (chk (eL ([]:List Int).length a.bQ.length 8)) fun _=>some (bE.mk a.kind (IntKind.i32.wrap a.rune) (IntKind.u8.wrap a.byte) a.dN (([]:List Int)++a.bQ) a.text))
end Go.Tw.X
set_option linter.unusedVariables false
set_option linter.unusedSimpArgs false
set_option maxRecDepth 10000
namespace Go.Tw.X
open Go Go.Tw
structure kZ where
 s:aR
 b:xo
 all:ByteArray
 L0:Int
 k:Int
 deriving DecidableEq,Inhabited
end Go.Tw.X

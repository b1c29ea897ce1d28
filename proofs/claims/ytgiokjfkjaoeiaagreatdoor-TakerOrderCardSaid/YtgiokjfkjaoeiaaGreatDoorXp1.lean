import Derived.Test.YtgiokjfkjaoeiaaGreatDoorFw2
set_option linter.unusedVariables false
set_option linter.unusedSimpArgs false
set_option maxRecDepth 10000
namespace Go.Tw.X
open Go Go.Tw
structure cE where
 b:List Int
 deriving DecidableEq,Inhabited
structure aT where
 s:ByteArray
 e:Int
 deriving DecidableEq,Inhabited
noncomputable def oz (n_:Int):Option Int :=
 some n_
noncomputable def qD (n_:Int):Option Int :=
 some (imax 0 (eN n_ 4611686018427387904))
noncomputable def lR {σ:Type} (Y:σ→Int→Option (σ×Bool)) (y0:σ) (x1:Int):Option (σ×Int) :=
 (Option.bind (qD x1) fun r1=>(Option.bind (iter (σ:=Int×σ) (ρ:=(Int×σ) ⊕ (σ×Int)) (fun a=>(bif (decide (a.1≥128)) then (Option.bind (Y a.2 (Go.bits .or .u8 (Go.bits .and .u8 (IntKind.u8.wrap a.1) 127) 128)) fun z68=>(bif (!z68.2) then (kY (some (z68.1,a.1))) else some (.inl ((a.1.fdiv (2 ^ (min 7 64))),z68.1)))) else some (.inr (.inl (a.1,a.2))))) (r1,y0)) fun | .inl e53=>(Option.bind (Y e53.2 (IntKind.u8.wrap e53.1)) fun z75=>some (z75.1,e53.1)) | .inr w=>some w))
noncomputable def cX (o:cE) (l:List Int):Option cE :=
 (Option.bind (iter (σ:=cE×Int) (ρ:=cE) (fun a=>(bif (decide (a.2 < (l.length:Int))) then (Option.bind (idx l a.2) fun e=>(Option.bind (oz e) fun f=>(Option.bind (lR (fun c d=>(Option.bind (chk (eO c.b.length [d].length 1)) fun _=>some ((cE.mk (c.b++[d])),true))) (a.1:cE) f) fun g=>some (.inl (g.1,(IntKind.i64.wrap (a.2+1))))))) else some (.inr a.1))) (o,0)) fun h=>some h)
noncomputable def gM (o:cE) (l:List ByteArray):Option cE :=
 (Option.bind (iter (σ:=cE×Int) (ρ:=cE) (fun a=>(bif (decide (a.2 < (l.length:Int))) then (Option.bind (idx l a.2) fun c=>(Option.bind (chk (eO a.1.b.length c.size 1)) fun _=>some (.inl ((cE.mk (a.1.b++sbs c)),(IntKind.i64.wrap (a.2+1)))))) else some (.inr a.1))) (o,0)) fun d=>some d)
noncomputable def kL (o:cE) (l:List ByteArray):Option cE :=
 (Option.bind (iter (σ:=cE×Int) (ρ:=cE) (fun a=>(bif (decide (a.2 < (l.length:Int))) then (Option.bind (idx l a.2) fun b=>(Option.bind (cX a.1 [(b.size:Int)]) fun c=>(Option.bind (gM c [b]) fun d=>some (.inl (d,(IntKind.i64.wrap (a.2+1))))))) else some (.inr a.1))) (o,0)) fun e=>some e)
noncomputable def hU (o:cE):Option ByteArray :=
 some (gZ o.b)
noncomputable def uN (s_:ByteArray):Option aT :=
 some (aT.mk s_ 0)
noncomputable def bR (in_:aT) (e:Int):Option aT :=
 (Option.bind ((bif (in_.e == 0) then some (e != 0) else some false):Option Bool) fun e4=>(bif e4 then some (aT.mk (ByteArray.mk #[]) e) else some in_))
noncomputable def bT (in_:aT):Option (Int×aT) :=
 (Option.bind (iter (σ:=Int×Int) (ρ:=Unit ⊕ (Int×aT)) (fun a=>(bif (decide (a.1 < (eN (in_.s.size:Int) 9))) then (Option.bind (y5 in_.s a.1) fun b213=>(Option.bind (chk (shk (IntKind.i64.wrap (7*a.1)))) fun _=>(bif (decide (b213≥128)) then some (.inl ((IntKind.i64.wrap (a.1+1)),(Go.bits .or .i64 a.2 (IntKind.i64.wrap ((IntKind.i64.wrap (Go.bits .and .u8 b213 127))*2 ^ (min (IntKind.i64.wrap (7*a.1)).toNat 64)))))) else (Option.bind ((bif (decide (a.1 > 0)) then (bif (b213 == 0) then some true else some (decide ((Go.bits .or .i64 a.2 (IntKind.i64.wrap ((IntKind.i64.wrap (Go.bits .and .u8 b213 127))*2 ^ (min (IntKind.i64.wrap (7*a.1)).toNat 64)))) > 4611686018427387904))) else some (decide ((Go.bits .or .i64 a.2 (IntKind.i64.wrap ((IntKind.i64.wrap (Go.bits .and .u8 b213 127))*2 ^ (min (IntKind.i64.wrap (7*a.1)).toNat 64)))) > 4611686018427387904))):Option Bool) fun b=>(bif b then (Option.bind (bR in_ 1) fun c=>(kY (some (0,c)))) else (Option.bind (chk (dB (IntKind.i64.wrap (a.1+1)) (in_.s.size:Int) in_.s.size)) fun _=>(kY (some ((Go.bits .or .i64 a.2 (IntKind.i64.wrap ((IntKind.i64.wrap (Go.bits .and .u8 b213 127))*2 ^ (min (IntKind.i64.wrap (7*a.1)).toNat 64)))),(aT.mk (ie in_.s (IntKind.i64.wrap (a.1+1)) (in_.s.size:Int)) in_.e)))))))))) else some (.inr (.inl ())))) (0,0)) fun | .inl e176=>(Option.bind ((bif (decide ((in_.s.size:Int)≥9)) then (Option.bind (bR in_ 1) fun d=>some d) else some in_):Option aT) fun f=>(Option.bind (bR f 2) fun g=>some (0,g))) | .inr w=>some w)
noncomputable def mZ (in_:aT) (n_:Int):Option (ByteArray×aT) :=
 (bif (decide ((imax 0 n_) > (in_.s.size:Int))) then (Option.bind (bR in_ 2) fun r6=>some ((ByteArray.mk #[]),r6)) else (Option.bind (chk (dB 0 (imax 0 n_) in_.s.size)) fun _=>(Option.bind (chk (dB (imax 0 n_) (in_.s.size:Int) in_.s.size)) fun _=>some ((ie in_.s 0 (imax 0 n_)),(aT.mk (ie in_.s (imax 0 n_) (in_.s.size:Int)) in_.e)))))
noncomputable def lD (in_:aT):Option (ByteArray×aT) :=
 (Option.bind (bT in_) fun r1=>(Option.bind (mZ r1.2 r1.1) fun r4=>some (r4.1,r4.2)))
noncomputable def dR (in_:aT):Option Int :=
 some in_.e
noncomputable def m4 (in_:aT):Option Int :=
 (bif (!(in_.s.toList == (ByteArray.mk #[]).toList)) then some 1 else some in_.e)
end Go.Tw.X
set_option linter.unusedVariables false
set_option linter.unusedSimpArgs false
set_option maxRecDepth 10000
namespace Go.Tw.X
open Go Go.Tw
structure bQ where
 lead:Int
 rune:Int
 jm:Int
 deriving DecidableEq,Inhabited
structure kM where
 first:Int
 last:Int
 jm:Int
 low:Int
 high:Int
 deriving DecidableEq,Inhabited
def bV:List kM:=[⟨194,223,1,128,191⟩,⟨224,224,2,160,191⟩,⟨225,236,2,128,191⟩,⟨237,237,2,128,159⟩,⟨238,239,2,128,191⟩,⟨240,240,3,144,191⟩,⟨241,243,3,128,191⟩,⟨244,244,3,128,143⟩]
noncomputable def jd (d:bQ):Option (List Int) :=
 (bif (decide (d.jm≤0)) then some ([]:List Int) else some [65533])
noncomputable def l6 (b:Int):Option (kM×Bool) :=
 (Option.bind (iter (σ:=Int) (ρ:=Unit ⊕ (kM×Bool)) (fun a=>(bif (decide (a < 8)) then (Option.bind (idx bV a) fun c=>(Option.bind ((bif (decide (b≥c.first)) then some (decide (b≤c.last)) else some false):Option Bool) fun d=>(bif d then (kY (some (c,true))) else some (.inl (IntKind.i64.wrap (a+1)))))) else some (.inr (.inl ())))) 0) fun | .inl e84=>some ((kM.mk 0 0 0 0 0),false) | .inr w=>some w)
noncomputable def lE (b:Int):Option (bQ×(List Int)) :=
 (bif (decide (b < 128)) then some ((bQ.mk 0 0 0),[(IntKind.i32.wrap b)]) else (Option.bind (l6 b) fun r8=>(bif (!r8.2) then some ((bQ.mk 0 0 0),[65533]) else (Option.bind (chk (shk r8.1.jm)) fun _=>some ((bQ.mk b (Go.bits .and .i32 (IntKind.i32.wrap b) ((63:Int).fdiv (2 ^ (min r8.1.jm.toNat 32)))) r8.1.jm),([]:List Int))))))
noncomputable def iI (d:bQ) (b:Int):Option Bool :=
 (Option.bind (l6 d.lead) fun r2=>(bif (decide (d.jm < r2.1.jm)) then (Option.bind ((bif (decide (b≥128)) then some (decide (b≤191)) else some false):Option Bool) fun a=>some a) else (Option.bind ((bif (decide (b≥r2.1.low)) then some (decide (b≤r2.1.high)) else some false):Option Bool) fun c=>some c)))
noncomputable def iJ (d:bQ) (b:Int):Option (bQ×(List Int)) :=
 (bif (decide (d.jm≤0)) then (Option.bind (lE b) fun c=>some (c.1,c.2)) else (Option.bind (iI d b) fun e=>(bif (!e) then (Option.bind (lE b) fun a=>(Option.bind (chk (eO [65533].length a.2.length 4)) fun _=>some (a.1,([65533]++a.2)))) else (bif ((IntKind.i64.wrap (d.jm - 1)) == 0) then (Option.bind (some [(Go.bits .or .i32 (IntKind.i32.wrap (d.rune*2 ^ (min 6 32))) (Go.bits .and .i32 (IntKind.i32.wrap b) 63))]:Option (List Int)) fun f=>some ((bQ.mk 0 0 0),f)) else some ((bQ.mk d.lead (Go.bits .or .i32 (IntKind.i32.wrap (d.rune*2 ^ (min 6 32))) (Go.bits .and .i32 (IntKind.i32.wrap b) 63)) (IntKind.i64.wrap (d.jm - 1))),([]:List Int))))))
end Go.Tw.X
set_option linter.unusedVariables false
set_option linter.unusedSimpArgs false
set_option maxRecDepth 10000
namespace Go.Tw.X
open Go Go.Tw
structure cT where
 addr:Bool
 buf:List Int
 deriving DecidableEq,Inhabited
end Go.Tw.X
set_option linter.unusedVariables false
set_option linter.unusedSimpArgs false
set_option maxRecDepth 10000
namespace Go.Tw.X
open Go Go.Tw
structure cF where
 e0:Int
 e1:Int
 deriving DecidableEq,Inhabited
structure mG where
 e0:Int
 e1:Int
 e2:Int
 deriving DecidableEq,Inhabited
noncomputable def oA (x_:Int) (y:Int):Option (Int×Int) :=
 some ((IntKind.u64.wrap ((IntKind.u64.wrap ((IntKind.u64.wrap ((x_.fdiv (2 ^ (min 32 64)))*(y.fdiv (2 ^ (min 32 64)))))+((IntKind.u64.wrap ((IntKind.u64.wrap ((x_.fdiv (2 ^ (min 32 64)))*(Go.bits .and .u64 y 4294967295)))+((IntKind.u64.wrap ((Go.bits .and .u64 x_ 4294967295)*(Go.bits .and .u64 y 4294967295))).fdiv (2 ^ (min 32 64))))).fdiv (2 ^ (min 32 64)))))+((IntKind.u64.wrap ((Go.bits .and .u64 (IntKind.u64.wrap ((IntKind.u64.wrap ((x_.fdiv (2 ^ (min 32 64)))*(Go.bits .and .u64 y 4294967295)))+((IntKind.u64.wrap ((Go.bits .and .u64 x_ 4294967295)*(Go.bits .and .u64 y 4294967295))).fdiv (2 ^ (min 32 64))))) 4294967295)+(IntKind.u64.wrap ((Go.bits .and .u64 x_ 4294967295)*(y.fdiv (2 ^ (min 32 64))))))).fdiv (2 ^ (min 32 64))))),(IntKind.u64.wrap (x_*y)))
noncomputable def oN (x_:Int) (y:Int):Option (Int×Int) :=
 (Option.bind (oA x_ y) fun r1=>some (r1.1,r1.2))
noncomputable def gD (s_:ByteArray) (prefix_:ByteArray):Option Bool :=
 (Option.bind ((bif (decide ((s_.size:Int)≥(prefix_.size:Int))) then (Option.bind (chk (dB 0 (prefix_.size:Int) s_.size)) fun _=>some ((ie s_ 0 (prefix_.size:Int)).toList == prefix_.toList)) else some false):Option Bool) fun e8=>some e8)
noncomputable def iU (s_:ByteArray) (prefix_:ByteArray):Option (ByteArray×Bool) :=
 (Option.bind (gD s_ prefix_) fun r1=>(bif (!r1) then some (s_,false) else (Option.bind (chk (dB (prefix_.size:Int) (s_.size:Int) s_.size)) fun _=>some ((ie s_ (prefix_.size:Int) (s_.size:Int)),true))))
noncomputable def je (s_:ByteArray) (prefix_:ByteArray):Option (ByteArray×Bool) :=
 (Option.bind (iU s_ prefix_) fun r1=>some (r1.1,r1.2))
noncomputable def eW (b:cT) (s_:ByteArray):Option cT :=
 (Option.bind (chk (eO b.buf.length s_.size 1)) fun _=>some (cT.mk true (b.buf++sbs s_)))
noncomputable def kv (b:cT):Option ByteArray :=
 some (gZ b.buf)
end Go.Tw.X
set_option linter.unusedVariables false
set_option linter.unusedSimpArgs false
set_option maxRecDepth 10000
namespace Go.Tw.X
open Go Go.Tw
structure iK where
 from_:Int
 to:Int
 deriving DecidableEq,Inhabited
def cY:List iK:=[⟨(-2147483648),31⟩,⟨127,159⟩,⟨768,879⟩,⟨6832,6911⟩,⟨7616,7679⟩,⟨8203,8207⟩,⟨8400,8447⟩,⟨55296,57343⟩,⟨65024,65039⟩,⟨65056,65071⟩,⟨65279,65279⟩,⟨917760,917999⟩,⟨1114112,2147483647⟩]
def dH:List iK:=[⟨4352,4447⟩,⟨11904,12350⟩,⟨12353,13311⟩,⟨13312,19903⟩,⟨19968,40959⟩,⟨40960,42191⟩,⟨44032,55203⟩,⟨63744,64255⟩,⟨65072,65135⟩,⟨65280,65376⟩,⟨65504,65510⟩,⟨127744,128591⟩,⟨129280,129535⟩,⟨131072,262141⟩]
noncomputable def oJ (l:List iK) (r_:Int):Option Bool :=
 (Option.bind (iter (σ:=Int×Int) (ρ:=Int) (fun a=>(bif (decide (a.1 < a.2)) then (Option.bind (idx l (IntKind.i64.wrap ((IntKind.i64.wrap (a.1+a.2)).tdiv 2))) fun c=>(bif (decide (c.to < r_)) then some (.inl ((IntKind.i64.wrap ((IntKind.i64.wrap ((IntKind.i64.wrap (a.1+a.2)).tdiv 2))+1)),a.2)) else some (.inl (a.1,(IntKind.i64.wrap ((IntKind.i64.wrap (a.1+a.2)).tdiv 2)))))) else some (.inr a.1))) (0,(l.length:Int))) fun b=>(Option.bind ((bif (decide (b < (l.length:Int))) then (Option.bind (idx l b) fun d=>some (decide (d.from_≤r_))) else some false):Option Bool) fun e=>some e))
noncomputable def oK (r_:Int):Option Int :=
 (Option.bind (oJ cY r_) fun r9=>(bif r9 then some 0 else (Option.bind (oJ dH r_) fun a=>(bif a then some 2 else some 1))))
end Go.Tw.X
set_option linter.unusedVariables false
set_option linter.unusedSimpArgs false
set_option maxRecDepth 10000
namespace Go.Tw.X
open Go Go.Tw
structure aG where
 rune:Int
 aL:Int
 part:Int
 deriving DecidableEq,Inhabited
structure aE where
 cells:List aG
 wrapped:Bool
 deriving DecidableEq,Inhabited
structure aJ where
 rune:Int
 aL:Int
 deriving DecidableEq,Inhabited
noncomputable def kx (n_:Int) (lo:Int) (hi:Int):Option Int :=
 some (imax lo (eN n_ hi))
noncomputable def iL (aL:Int):Option aG :=
 some (aG.mk 32 aL 0)
noncomputable def eG (x_:List aG) (count:Int):Option (List aG) :=
 (bif (decide (count < 0)) then none else (Option.bind (oN (IntKind.u64.wrap (x_.length:Int)) (IntKind.u64.wrap count)) fun r3=>(Option.bind ((bif (decide (r3.1 > 0)) then some true else some (decide (r3.2 > 9223372036854775807))):Option Bool) fun e9=>(bif e9 then none else (Option.bind (chk (F4 (IntKind.i64.wrap r3.2) 24)) fun _=>(Option.bind (iter (σ:=(List aG)×Int) (ρ:=(List aG)) (fun a=>(bif (decide (a.2 < (a.1.length:Int))) then (Option.bind (chk (dB a.2 (a.1.length:Int) a.1.length)) fun _=>(Option.bind (chk (dB 0 a.2 a.1.length)) fun _=>some (.inl ((y4 a.1 a.2.toNat),(IntKind.i64.wrap (a.2+((Nat.min a.2.toNat (a.1.length - a.2.toNat):Nat):Int))))))) else some (.inr a.1))) ((cpy (List.replicate (IntKind.i64.wrap r3.2).toNat (aG.mk 0 0 0)) x_),((Nat.min x_.length (List.replicate (IntKind.i64.wrap r3.2).toNat (aG.mk 0 0 0)).length:Nat):Int))) fun b=>some b))))))
noncomputable def jV (n_:Int) (aL:Int):Option (List aG) :=
 (Option.bind (iL aL) fun r1=>(Option.bind (eG [r1] (imax 0 n_)) fun r7=>some r7))
noncomputable def jW (w:Int) (aL:Int):Option aE :=
 (Option.bind (kx w 0 1000) fun r2=>(Option.bind (jV r2 aL) fun r5=>some (aE.mk r5 false)))
noncomputable def eP (s_:List aG):Option (List aG) :=
 (Option.bind (chk (eO ([]:List aG).length s_.length 24)) fun _=>some (([]:List aG)++s_))
noncomputable def fM (r_:aE):Option (List aG) :=
 (Option.bind (eP r_.cells) fun r2=>some r2)
noncomputable def l7 (l:List aG) (i:Int):Option Bool :=
 (Option.bind (idx l i) fun x1=>(bif (x1.part == 1) then (Option.bind ((bif (decide ((IntKind.i64.wrap (i+1))≥(l.length:Int))) then some true else (Option.bind (idx l (IntKind.i64.wrap (i+1))) fun a=>some (a.part != 2))):Option Bool) fun b=>some b) else (bif (x1.part == 2) then (Option.bind ((bif (i == 0) then some true else (Option.bind (idx l (IntKind.i64.wrap (i - 1))) fun c=>some (c.part != 1))):Option Bool) fun d=>some d) else (bif (x1.part == 3) then some (i != (IntKind.i64.wrap ((l.length:Int) - 1))) else some false))))
noncomputable def fH (l:List aG):Option aE :=
 (Option.bind (iter (σ:=(List aG)×Int) (ρ:=(List aG)) (fun a=>(bif (decide (a.2 < (l.length:Int))) then (Option.bind ((Option.bind (l7 a.1 a.2) fun b=>(bif b then (Option.bind (idx a.1 a.2) fun c=>(Option.bind (iL c.aL) fun d=>(Option.bind (idx a.1 a.2) fun g=>some (a.1.set a.2.toNat d)))) else some a.1)):Option (List aG)) fun e=>some (.inl (e,(IntKind.i64.wrap (a.2+1))))) else some (.inr a.1))) (l,0)) fun f=>some (aE.mk f false))
noncomputable def mj (r_:aE) (at_:Int) (x_:Int) (aL:Int):Option aE :=
 (Option.bind (fM r_) fun r3=>(Option.bind (oK x_) fun r9=>(Option.bind ((Option.bind ((bif (r9 == 0) then some true else (bif (decide (at_ < 0)) then some true else some (decide (at_ > (IntKind.i64.wrap ((r3.length:Int) - r9)))))):Option Bool) fun a=>(bif a then some r3 else (bif (r9 == 1) then (Option.bind (idx r3 at_) fun h=>some (r3.set at_.toNat (aG.mk x_ aL 0))) else (Option.bind (idx r3 at_) fun i=>(Option.bind (idx (r3.set at_.toNat (aG.mk x_ aL 1)) (IntKind.i64.wrap (at_+1))) fun j=>(Option.bind ((bif (decide (at_ > 0)) then (Option.bind (idx ((r3.set at_.toNat (aG.mk x_ aL 1)).set ((IntKind.i64.wrap (at_+1)).toNat) (aG.mk x_ aL 2)) (IntKind.i64.wrap (at_ - 1))) fun b=>some (b.part == 1)) else some false):Option Bool) fun c=>(bif c then (Option.bind (idx ((r3.set at_.toNat (aG.mk x_ aL 1)).set ((IntKind.i64.wrap (at_+1)).toNat) (aG.mk x_ aL 2)) (IntKind.i64.wrap (at_ - 1))) fun d=>(Option.bind (iL d.aL) fun e=>(Option.bind (idx ((r3.set at_.toNat (aG.mk x_ aL 1)).set ((IntKind.i64.wrap (at_+1)).toNat) (aG.mk x_ aL 2)) (IntKind.i64.wrap (at_ - 1))) fun k=>some (((r3.set at_.toNat (aG.mk x_ aL 1)).set ((IntKind.i64.wrap (at_+1)).toNat) (aG.mk x_ aL 2)).set ((IntKind.i64.wrap (at_ - 1)).toNat) e)))) else some ((r3.set at_.toNat (aG.mk x_ aL 1)).set ((IntKind.i64.wrap (at_+1)).toNat) (aG.mk x_ aL 2))))))))):Option (List aG)) fun f=>(Option.bind (fH f) fun g=>some g))))
noncomputable def jy (r_:aE):Option (List aJ) :=
 (Option.bind (iter (σ:=(List aG)) (ρ:=(List aG)) (fun a=>(Option.bind ((bif (!r_.wrapped) then (bif (decide ((a.length:Int) > 0)) then (Option.bind (idx a (IntKind.i64.wrap ((a.length:Int) - 1))) fun d=>(Option.bind (iL 0) fun e=>some ((d.rune == e.rune) && ((d.aL == e.aL) && ((d.part == e.part) && true))))) else some false) else some false):Option Bool) fun g=>(bif g then (Option.bind (chk (dB 0 (IntKind.i64.wrap ((a.length:Int) - 1)) a.length)) fun _=>some (.inl (cut a 0 (IntKind.i64.wrap ((a.length:Int) - 1))))) else some (.inr a)))) r_.cells) fun f=>(Option.bind (iter (σ:=Int×(List aJ)) (ρ:=(List aJ)) (fun b=>(bif (decide (b.1 < (f.length:Int))) then (Option.bind ((Option.bind (idx f b.1) fun c=>(Option.bind ((bif (c.part == 0) then some true else some (c.part == 1)):Option Bool) fun h=>(bif h then (Option.bind (chk (eO b.2.length [(aJ.mk c.rune c.aL)].length 16)) fun _=>some (b.2++[(aJ.mk c.rune c.aL)])) else some b.2))):Option (List aJ)) fun i=>some (.inl ((IntKind.i64.wrap (b.1+1)),i))) else some (.inr b.2))) (0,[])) fun j=>some j))
noncomputable def jQ (r_:aE) (from_:Int) (to:Int) (aL:Int):Option aE :=
 (Option.bind (fM r_) fun r3=>(Option.bind (kx from_ 0 (r3.length:Int)) fun r9=>(Option.bind (iter (σ:=Int×(List aG)) (ρ:=(List aG)) (fun a=>(Option.bind (kx to 0 (a.2.length:Int)) fun b=>(bif (decide (a.1 < b)) then (Option.bind (iL aL) fun c=>(Option.bind (idx a.2 a.1) fun f=>some (.inl ((IntKind.i64.wrap (a.1+1)),(a.2.set a.1.toNat c))))) else some (.inr a.2)))) (r9,r3)) fun d=>(Option.bind (fH d) fun e=>some e))))
noncomputable def jz (r_:aE) (at_:Int) (n_:Int):Option Int :=
 (Option.bind ((bif (decide (at_ < 0)) then some true else some (decide (at_≥(r_.cells.length:Int)))):Option Bool) fun e5=>(bif e5 then some 0 else (Option.bind (kx n_ 0 (IntKind.i64.wrap ((r_.cells.length:Int) - at_))) fun a=>some a)))
noncomputable def gP (n_:Int):Option (List aG) :=
 (bif (decide (n_ < 0)) then none else (Option.bind ((bif (decide ((IntKind.i64.wrap (n_ - (IntKind.i64.wrap (0 - 0)))) > 0)) then (Option.bind (chk (MI (IntKind.i64.wrap (n_ - (IntKind.i64.wrap (0 - 0)))) 24)) fun _=>(Option.bind (chk (dB 0 0 (List.replicate (IntKind.i64.wrap (n_ - (IntKind.i64.wrap (0 - 0)))).toNat (aG.mk 0 0 0)).length)) fun _=>some (cut (List.replicate (IntKind.i64.wrap (n_ - (IntKind.i64.wrap (0 - 0)))).toNat (aG.mk 0 0 0)) 0 0))) else some []):Option (List aG)) fun a=>some a))
noncomputable def fC (slices:List (List aG)):Option (List aG) :=
 (Option.bind (iter (σ:=Int×Int) (ρ:=Int) (fun a=>(bif (decide (a.1 < (slices.length:Int))) then (Option.bind (idx slices a.1) fun c=>(bif (decide ((IntKind.i64.wrap (a.2+(c.length:Int))) < 0)) then none else some (.inl ((IntKind.i64.wrap (a.1+1)),(IntKind.i64.wrap (a.2+(c.length:Int))))))) else some (.inr a.2))) (0,0)) fun e=>(Option.bind (gP e) fun f=>(Option.bind (iter (σ:=Int×(List aG)) (ρ:=(List aG)) (fun b=>(bif (decide (b.1 < (slices.length:Int))) then (Option.bind (idx slices b.1) fun d=>(Option.bind (chk (eO b.2.length d.length 24)) fun _=>some (.inl ((IntKind.i64.wrap (b.1+1)),(b.2++d))))) else some (.inr b.2))) (0,f)) fun g=>some g)))
noncomputable def kO (r_:aE) (at_:Int) (n_:Int) (aL:Int):Option aE :=
 (Option.bind (jz r_ at_ n_) fun r3=>(bif (r3 == 0) then (Option.bind (fM r_) fun b=>(Option.bind (fH b) fun c=>some c)) else (Option.bind (chk (dB 0 at_ r_.cells.length)) fun _=>(Option.bind (chk (dB at_ (r_.cells.length:Int) r_.cells.length)) fun _=>(Option.bind (jV r3 aL) fun d=>(Option.bind (fC [(cut r_.cells 0 at_),d,(cut r_.cells at_ (r_.cells.length:Int))]) fun a=>(Option.bind (chk (dB 0 (r_.cells.length:Int) a.length)) fun _=>(Option.bind (fH (cut a 0 (r_.cells.length:Int))) fun e=>some e))))))))
noncomputable def kP (r_:aE) (at_:Int) (n_:Int) (aL:Int):Option aE :=
 (Option.bind (jz r_ at_ n_) fun r3=>(bif (r3 == 0) then (Option.bind (fM r_) fun a=>(Option.bind (fH a) fun b=>some b)) else (Option.bind (chk (dB 0 at_ r_.cells.length)) fun _=>(Option.bind (chk (dB (IntKind.i64.wrap (at_+r3)) (r_.cells.length:Int) r_.cells.length)) fun _=>(Option.bind (jV r3 aL) fun c=>(Option.bind (fC [(cut r_.cells 0 at_),(cut r_.cells (IntKind.i64.wrap (at_+r3)) (r_.cells.length:Int)),c]) fun d=>(Option.bind (fH d) fun e=>some e)))))))
noncomputable def lS (r_:aE) (aL:Int):Option aE :=
 (Option.bind (fM r_) fun r3=>(Option.bind ((bif (decide ((r3.length:Int) > 0)) then (Option.bind (idx r3 (IntKind.i64.wrap ((r3.length:Int) - 1))) fun c=>some (r3.set ((IntKind.i64.wrap ((r3.length:Int) - 1)).toNat) (aG.mk 32 aL 3))) else some r3):Option (List aG)) fun a=>(Option.bind (fH a) fun b=>some (aE.mk b.cells true))))
noncomputable def jA (r_:aE) (w:Int):Option aE :=
 (Option.bind (kx w 0 1000) fun r3=>(Option.bind (fM r_) fun r6=>(bif (r3 == (r6.length:Int)) then some (aE.mk r6 r_.wrapped) else (Option.bind (jV (IntKind.i64.wrap (r3 - (r6.length:Int))) 0) fun a=>(Option.bind (chk (dB 0 (eN r3 (r6.length:Int)) r6.length)) fun _=>(Option.bind (chk (eO (cut r6 0 (eN r3 (r6.length:Int))).length a.length 24)) fun _=>(Option.bind (fH ((cut r6 0 (eN r3 (r6.length:Int)))++a)) fun b=>some b)))))))
noncomputable def gE (s1_:List aG) (s2_:List aG):Option Bool :=
 (bif ((s1_.length:Int) != (s2_.length:Int)) then some false else (Option.bind (iter (σ:=Int) (ρ:=Unit ⊕ Bool) (fun a=>(bif (decide (a < (s1_.length:Int))) then (Option.bind (idx s1_ a) fun b=>(Option.bind (idx s2_ a) fun c=>(bif (!((b.rune == c.rune) && ((b.aL == c.aL) && ((b.part == c.part) && true)))) then (kY (some false)) else some (.inl (IntKind.i64.wrap (a+1)))))) else some (.inr (.inl ())))) 0) fun | .inl e355=>some true | .inr w=>some w))
noncomputable def iM (r_:aE) (q:aE):Option Bool :=
 (Option.bind ((bif (r_.wrapped == q.wrapped) then (Option.bind (gE r_.cells q.cells) fun a=>some a) else some false):Option Bool) fun b=>some b)
noncomputable def eC (s_:List aE):Option (List aE) :=
 (Option.bind (chk (eO ([]:List aE).length s_.length 32)) fun _=>some (([]:List aE)++s_))
noncomputable def gn (s_:List aE):Option (List aE) :=
 (Option.bind (iter (σ:=(List aE)×Int×Int) (ρ:=(List aE)) (fun a=>(bif (decide (a.2.1 < a.2.2)) then (Option.bind ((Option.bind (idx a.1 a.2.2) fun b=>(Option.bind (idx a.1 a.2.1) fun c=>(Option.bind (idx a.1 a.2.1) fun f=>(Option.bind (idx a.1 a.2.2) fun g=>some ((a.1.set a.2.1.toNat b).set a.2.2.toNat c))))):Option (List aE)) fun d=>some (.inl (d,(IntKind.i64.wrap (a.2.1+1)),(IntKind.i64.wrap (a.2.2 - 1))))) else some (.inr a.1))) (s_,0,(IntKind.i64.wrap ((s_.length:Int) - 1)))) fun e=>some e)
noncomputable def dI (s1_:List aE) (s2_:List aE):Option Bool :=
 (bif ((s1_.length:Int) != (s2_.length:Int)) then some false else (Option.bind (iter (σ:=Int) (ρ:=Unit ⊕ Bool) (fun a=>(bif (decide (a < (s1_.length:Int))) then (Option.bind (idx s1_ a) fun b=>(Option.bind (idx s2_ a) fun c=>(Option.bind (iM b c) fun d=>(bif (!d) then (kY (some false)) else some (.inl (IntKind.i64.wrap (a+1))))))) else some (.inr (.inl ())))) 0) fun | .inl e169=>some true | .inr w=>some w))
noncomputable def bZ (s_:List aJ):Option (List aJ) :=
 (Option.bind (chk (eO ([]:List aJ).length s_.length 16)) fun _=>some (([]:List aJ)++s_))
noncomputable def gp (s1_:List aJ) (s2_:List aJ):Option Bool :=
 (bif ((s1_.length:Int) != (s2_.length:Int)) then some false else (Option.bind (iter (σ:=Int) (ρ:=Unit ⊕ Bool) (fun a=>(bif (decide (a < (s1_.length:Int))) then (Option.bind (idx s1_ a) fun b=>(Option.bind (idx s2_ a) fun c=>(bif (!((b.rune == c.rune) && ((b.aL == c.aL) && true))) then (kY (some false)) else some (.inl (IntKind.i64.wrap (a+1)))))) else some (.inr (.inl ())))) 0) fun | .inl e355=>some true | .inr w=>some w))
end Go.Tw.X
set_option linter.unusedVariables false
set_option linter.unusedSimpArgs false
set_option maxRecDepth 10000
namespace Go.Tw.X
open Go Go.Tw
def cV:List Int:=[0,498536548,997073096,651767980,1994146192,1802195444,1303535960,1342533948,3988292384,4027552580,3604390888,3412177804,2607071920,2262029012,2685067896,3183342108]
noncomputable def nJ (x_:Int) (b:Int):Option Int :=
 (Option.bind (idx cV (Go.bits .and .u32 (Go.bits .xor .u32 x_ (IntKind.u32.wrap b)) 15)) fun x1=>(Option.bind (idx cV (Go.bits .and .u32 (Go.bits .xor .u32 ((Go.bits .xor .u32 x_ (IntKind.u32.wrap b)).fdiv (2 ^ (min 4 32))) x1) 15)) fun x5=>some (Go.bits .xor .u32 ((Go.bits .xor .u32 ((Go.bits .xor .u32 x_ (IntKind.u32.wrap b)).fdiv (2 ^ (min 4 32))) x1).fdiv (2 ^ (min 4 32))) x5)))
noncomputable def pV (l:List ByteArray):Option Int :=
 (Option.bind (iter (σ:=Int×Int) (ρ:=Int) (fun a=>(bif (decide (a.2 < (l.length:Int))) then (Option.bind (idx l a.2) fun c=>(Option.bind (iter (σ:=Int×Int) (ρ:=Int) (fun b=>(bif (decide (b.1 < (c.size:Int))) then (Option.bind (y5 c b.1) fun b642=>(Option.bind (nJ b.2 b642) fun d=>some (.inl ((IntKind.i64.wrap (b.1+1)),d)))) else some (.inr b.2))) (0,a.1)) fun e=>some (.inl (e,(IntKind.i64.wrap (a.2+1)))))) else some (.inr a.1))) (4294967295,0)) fun f=>some (Go.bits .xor .u32 4294967295 f))
end Go.Tw.X
set_option linter.unusedVariables false
set_option linter.unusedSimpArgs false
set_option maxRecDepth 10000
namespace Go.Tw.X
open Go Go.Tw
structure cC where
 l:List (List aJ)
 bP:List Int
 begun:List aJ
 deriving DecidableEq,Inhabited
noncomputable def qE:Option cC :=
 some (cC.mk ([]:List (List aJ)) [0] ([]:List aJ))
noncomputable def lr (b:cC):Option Int :=
 some (b.l.length:Int)
noncomputable def jX (b:cC) (n_:Int):Option Int :=
 (Option.bind (idx b.bP (imax 0 (eN n_ (b.l.length:Int)))) fun a=>some a)
noncomputable def jY (b:cC):Option (List aJ) :=
 (Option.bind (bZ b.begun) fun r1=>some r1)
noncomputable def lT (l:List aJ):Option ByteArray :=
 (Option.bind (cX (cE.mk ([]:List Int)) [(l.length:Int)]) fun r6=>(Option.bind (iter (σ:=cE×Int) (ρ:=cE) (fun a=>(bif (decide (a.2 < (l.length:Int))) then (Option.bind (idx l a.2) fun b=>(Option.bind (cX a.1 [(IntKind.i64.wrap b.rune),b.aL]) fun c=>some (.inl (c,(IntKind.i64.wrap (a.2+1)))))) else some (.inr a.1))) (r6,0)) fun d=>(Option.bind (hU d) fun e=>some e)))
noncomputable def gQ (in_:aT) (most:Int):Option (Int×aT) :=
 (Option.bind (bT in_) fun r1=>(bif (decide (r1.1 > most)) then (Option.bind (bR r1.2 1) fun r9=>some (0,r9)) else some (r1.1,r1.2)))
noncomputable def mR (in_:aT):Option ((List aJ)×aT) :=
 (Option.bind (gQ in_ 1024) fun r1=>(Option.bind (iter (σ:=aT×(List aJ)×Int) (ρ:=(List aJ)×aT) (fun a=>(bif (decide (a.2.2 < r1.1)) then (Option.bind (gQ a.1 1114111) fun c=>(Option.bind (gQ c.2 647) fun d=>(Option.bind (chk (eO a.2.1.length [(aJ.mk (IntKind.i32.wrap c.1) d.1)].length 16)) fun _=>some (.inl (d.2,(a.2.1++[(aJ.mk (IntKind.i32.wrap c.1) d.1)]),(IntKind.i64.wrap (a.2.2+1))))))) else some (.inr (a.2.1,a.1)))) (r1.2,[],0)) fun b=>(Option.bind (dR b.2) fun e=>(bif (e != 0) then some (([]:List aJ),b.2) else some (b.1,b.2)))))
noncomputable def nX (chain:Int) (l:List aJ):Option Int :=
 (Option.bind (lT l) fun r1=>(Option.bind (pV [r1]) fun r6=>some ((IntKind.i64.wrap (((IntKind.i64.wrap (((IntKind.i64.wrap (chain*256)).tmod 281474976710597)*256)).tmod 281474976710597)+(IntKind.i64.wrap r6))).tmod 281474976710597)))
noncomputable def fV (b:cC) (l:List aJ):Option cC :=
 (Option.bind (bZ l) fun a=>(Option.bind (chk (eO b.l.length [a].length 24)) fun _=>(Option.bind (idx b.bP (IntKind.i64.wrap ((b.bP.length:Int) - 1))) fun d=>(Option.bind (nX d l) fun c=>(Option.bind (chk (eO b.bP.length [c].length 8)) fun _=>some (cC.mk (b.l++[a]) (b.bP++[c]) b.begun))))))
noncomputable def jb (b:cC) (rows:List aE):Option (Int×cC) :=
 (Option.bind (iter (σ:=cC×Int) (ρ:=cC) (fun a=>(bif (decide (a.2 < (rows.length:Int))) then (Option.bind ((Option.bind (idx rows a.2) fun f=>(Option.bind (jy f) fun g=>(Option.bind (chk (eO a.1.begun.length g.length 16)) fun _=>(Option.bind (iter (σ:=cC) (ρ:=cC) (fun d=>(bif (decide ((d.begun.length:Int)≥1024)) then (Option.bind (chk (dB 0 1024 d.begun.length)) fun _=>(Option.bind (fV d (cut d.begun 0 1024)) fun c=>(Option.bind (chk (dB 1024 (c.begun.length:Int) c.begun.length)) fun _=>(Option.bind (bZ (cut c.begun 1024 (c.begun.length:Int))) fun j=>some (.inl (cC.mk c.l c.bP j)))))) else some (.inr d))) (cC.mk a.1.l a.1.bP (a.1.begun++g))) fun e=>(bif (!f.wrapped) then (Option.bind (fV e e.begun) fun h=>some (cC.mk h.l h.bP ([]:List aJ))) else some e))))):Option cC) fun k=>some (.inl (k,(IntKind.i64.wrap (a.2+1))))) else some (.inr a.1))) (b,0)) fun i=>some ((IntKind.i64.wrap ((i.l.length:Int) - (b.l.length:Int))),i))
end Go.Tw.X
set_option linter.unusedVariables false
set_option linter.unusedSimpArgs false
set_option maxRecDepth 10000
namespace Go.Tw.X
open Go Go.Tw
structure aW where
 w:Int
 l:List aE
 deriving DecidableEq,Inhabited
noncomputable def iN (n_:Int) (lo:Int) (hi:Int):Option Int :=
 some (imax lo (eN n_ hi))
noncomputable def jv (n_:Int):Option Int :=
 (Option.bind (iN n_ 1 1000) fun r1=>some r1)
noncomputable def oO (w:Int) (h_:Int):Option aW :=
 (Option.bind (jv w) fun r1=>(Option.bind (jv h_) fun r5=>(Option.bind (iter (σ:=aW×Int) (ρ:=aW) (fun a=>(bif (decide (a.2 < r5)) then (Option.bind (jW a.1.w 0) fun b=>(Option.bind (chk (eO a.1.l.length [b].length 32)) fun _=>some (.inl ((aW.mk a.1.w (a.1.l++[b])),(IntKind.i64.wrap (a.2+1)))))) else some (.inr a.1))) ((aW.mk r1 ([]:List aE)),0)) fun c=>some c)))
noncomputable def nK (r_:aE):Option aE :=
 (Option.bind (eP r_.cells) fun a=>some (aE.mk a r_.wrapped))
noncomputable def fN (g:aW) (y:Int):Option aE :=
 (Option.bind ((bif (decide (y < 0)) then some true else some (decide (y≥(g.l.length:Int)))):Option Bool) fun e5=>(bif e5 then some (aE.mk ([]:List aG) false) else (Option.bind (idx g.l y) fun a=>(Option.bind (nK a) fun b=>some b))))
noncomputable def fA (g:aW) (y:Int) (r_:aE):Option (Bool×aW) :=
 (Option.bind ((bif (decide (y < 0)) then some true else some (decide (y≥(g.l.length:Int)))):Option Bool) fun e5=>(bif e5 then some (false,g) else (Option.bind (jA r_ g.w) fun a=>(Option.bind (idx g.l y) fun b=>some (true,(aW.mk g.w (g.l.set y.toNat a)))))))
noncomputable def eH (g:aW) (top:Int) (aK:Int):Option (Unit ⊕ (Int×Int)) :=
 (Option.bind (iN top 0 (IntKind.i64.wrap ((g.l.length:Int) - 1))) fun r1=>(Option.bind (iN aK 0 (IntKind.i64.wrap ((g.l.length:Int) - 1))) fun r4=>(bif (decide (r4 < r1)) then some (.inl ()) else (Option.bind (chk (dB r1 (IntKind.i64.wrap (r4+1)) g.l.length)) fun _=>some (.inr (r1,(IntKind.i64.wrap (r4+1))))))))
noncomputable def gq (g:aW) (top:Int) (aK:Int) (n_:Int) (aL:Int):Option ((List aE)×aW) :=
 (Option.bind (eH g top aK) fun | .inl r1=>some (([]:List aE),g) | .inr r1=>(Option.bind (chk (dB r1.1 r1.2 g.l.length)) fun _=>(Option.bind (iN n_ 0 ((cut g.l r1.1 r1.2).length:Int)) fun r9=>(Option.bind (chk (dB 0 r9 (cut g.l r1.1 r1.2).length)) fun _=>(Option.bind (eC (cut g.l (r1.1+0) (r1.1+r9))) fun b=>(Option.bind (chk (dB r9 ((cut g.l r1.1 r1.2).length:Int) (cut g.l r1.1 r1.2).length)) fun _=>(Option.bind (iter (σ:=aW×Int) (ρ:=aW) (fun a=>(bif (decide (a.2 < ((cut a.1.l r1.1 r1.2).length:Int))) then (Option.bind (jW a.1.w aL) fun c=>(Option.bind (chk (dB r1.1 r1.2 a.1.l.length)) fun _=>(Option.bind (idx (cut a.1.l r1.1 r1.2) a.2) fun e=>some (.inl ((aW.mk a.1.w (a.1.l.set (r1.1.toNat+a.2.toNat) c)),(IntKind.i64.wrap (a.2+1))))))) else some (.inr a.1))) ((aW.mk g.w (rA g.l r1.1 r1.2 (r1.1+r9) (r1.1+((cut g.l r1.1 r1.2).length:Int)))),(IntKind.i64.wrap (((cut (rA g.l r1.1 r1.2 (r1.1+r9) (r1.1+((cut g.l r1.1 r1.2).length:Int))) r1.1 r1.2).length:Int) - r9)))) fun d=>some (b,d))))))))
noncomputable def eQ (g:aW) (top:Int) (aK:Int) (n_:Int) (aL:Int):Option ((List aE)×aW) :=
 (Option.bind (eH g top aK) fun | .inl r1=>some (([]:List aE),g) | .inr r1=>(Option.bind (chk (dB r1.1 r1.2 g.l.length)) fun _=>(Option.bind (iN n_ 0 ((cut g.l r1.1 r1.2).length:Int)) fun r9=>(Option.bind (chk (dB (IntKind.i64.wrap (((cut g.l r1.1 r1.2).length:Int) - r9)) ((cut g.l r1.1 r1.2).length:Int) (cut g.l r1.1 r1.2).length)) fun _=>(Option.bind (eC (cut g.l (r1.1+(IntKind.i64.wrap (((cut g.l r1.1 r1.2).length:Int) - r9))) (r1.1+((cut g.l r1.1 r1.2).length:Int)))) fun b=>(Option.bind (gn b) fun c=>(Option.bind (chk (decide (c.length=b.length))) fun _=>(Option.bind (chk (dB r9 ((cut g.l r1.1 r1.2).length:Int) (cut g.l r1.1 r1.2).length)) fun _=>(Option.bind (chk (dB 0 (IntKind.i64.wrap (((cut g.l r1.1 r1.2).length:Int) - r9)) (cut g.l r1.1 r1.2).length)) fun _=>(Option.bind (iter (σ:=aW×Int) (ρ:=aW) (fun a=>(bif (decide (a.2 < r9)) then (Option.bind (jW a.1.w aL) fun d=>(Option.bind (chk (dB r1.1 r1.2 a.1.l.length)) fun _=>(Option.bind (idx (cut a.1.l r1.1 r1.2) a.2) fun f=>some (.inl ((aW.mk a.1.w (a.1.l.set (r1.1.toNat+a.2.toNat) d)),(IntKind.i64.wrap (a.2+1))))))) else some (.inr a.1))) ((aW.mk g.w (rA g.l (r1.1+r9) (r1.1+((cut g.l r1.1 r1.2).length:Int)) (r1.1+0) (r1.1+(IntKind.i64.wrap (((cut g.l r1.1 r1.2).length:Int) - r9))))),0)) fun e=>some (c,e)))))))))))
noncomputable def jF (g:aW) (w:Int) (h_:Int) (off:Int):Option ((List aE)×aW) :=
 (Option.bind (iN off 0 (IntKind.i64.wrap ((g.l.length:Int) - 1))) fun r1=>(Option.bind (chk (dB 0 r1 g.l.length)) fun _=>(Option.bind (eC (cut g.l 0 r1)) fun h=>(Option.bind (chk (dB r1 (g.l.length:Int) g.l.length)) fun _=>(Option.bind (eC (cut g.l r1 (g.l.length:Int))) fun b=>(Option.bind (jv h_) fun d=>(Option.bind (chk (dB 0 (eN (b.length:Int) d) b.length)) fun _=>(Option.bind (iter (σ:=(List aE)) (ρ:=(List aE)) (fun c=>(Option.bind (jv h_) fun i=>(bif (decide ((c.length:Int) < i)) then (Option.bind (jv w) fun j=>(Option.bind (jW j 0) fun e=>(Option.bind (chk (eO c.length [e].length 32)) fun _=>some (.inl (c++[e]))))) else some (.inr c)))) (cut b 0 (eN (b.length:Int) d))) fun f=>(Option.bind (jv w) fun k=>(Option.bind (iter (σ:=aW×Int) (ρ:=aW) (fun a=>(bif (decide (a.2 < (f.length:Int))) then (Option.bind (idx a.1.l a.2) fun m=>(Option.bind (fA a.1 a.2 m) fun n=>some (.inl (n.2,(IntKind.i64.wrap (a.2+1)))))) else some (.inr a.1))) ((aW.mk k f),0)) fun o=>some (h,o)))))))))))
noncomputable def dY (g:aW):Option (Int×Int) :=
 some (g.w,(g.l.length:Int))
noncomputable def m5 (l:List aE):Option (List aE) :=
 some l
noncomputable def jB {σ:Type} (Y:σ→aE→Option (σ×Bool)) (y0:σ) (x1:List aE):Option σ :=
 (Option.bind (iter (σ:=Int×σ) (ρ:=σ ⊕ σ) (fun a=>(bif (decide (a.1 < (x1.length:Int))) then (Option.bind (idx x1 a.1) fun b=>(Option.bind (nK b) fun c=>(Option.bind (Y a.2 c) fun z184=>(bif (!z184.2) then (kY (some z184.1)) else some (.inl ((IntKind.i64.wrap (a.1+1)),z184.1)))))) else some (.inr (.inl a.2)))) (0,y0)) fun | .inl e139=>some e139 | .inr w=>some w)
noncomputable def jC (l:List aE):Option ((List aE)×(List aE)) :=
 (Option.bind (m5 l) fun r2=>(Option.bind (jB (fun s40 x9=>(Option.bind (chk (eO s40.length [x9].length 32)) fun _=>some ((s40++[x9]),true))) ([]:(List aE)) r2) fun a=>some (a,r2)))
noncomputable def kQ (g:aW):Option ((List aE)×aW) :=
 (Option.bind (jC g.l) fun r1=>(Option.bind (chk (decide (r1.2.length=g.l.length))) fun _=>some (r1.1,(aW.mk g.w r1.2))))
noncomputable def jZ (g:aW):Option (aW×aW) :=
 (Option.bind (jC g.l) fun a=>(Option.bind (chk (decide (a.2.length=g.l.length))) fun _=>some ((aW.mk g.w a.1),(aW.mk g.w a.2))))
end Go.Tw.X
set_option linter.unusedVariables false
set_option linter.unusedSimpArgs false
set_option maxRecDepth 10000
namespace Go.Tw.X
open Go Go.Tw
structure aZ where
 kind:Int
 rune:Int
 byte:Int
 eE:Bool
 bH:List Int
 text:ByteArray
 deriving DecidableEq,Inhabited
structure fE where
 eE:Bool
 mU:Bool
 any:Bool
 some:Bool
 n:Int
 bH:List Int
 deriving DecidableEq,Inhabited
structure aH where
 state:Int
 order:fE
 text:ByteArray
 cK:bQ
 out:List aZ
 deriving DecidableEq,Inhabited
noncomputable def fW (p:aH) (a:aZ):Option aH :=
 (Option.bind (chk (eO p.out.length [a].length 56)) fun _=>some (aH.mk p.state p.order p.text p.cK (p.out++[a])))
noncomputable def iy (p:aH) (l:List Int):Option aH :=
 (Option.bind (iter (σ:=aH×Int) (ρ:=aH) (fun a=>(bif (decide (a.2 < (l.length:Int))) then (Option.bind (idx l a.2) fun b=>(Option.bind (fW a.1 (aZ.mk 1 b 0 false ([]:List Int) (ByteArray.mk #[]))) fun c=>some (.inl (c,(IntKind.i64.wrap (a.2+1)))))) else some (.inr a.1))) (p,0)) fun d=>some d)
noncomputable def fD (p:aH) (b:Int):Option (Bool×aH) :=
 (Option.bind ((Option.bind ((bif (b == 24) then some true else some (b == 26)):Option Bool) fun a=>(bif a then some (.inl (aH.mk 0 p.order p.text p.cK p.out)) else (bif (b == 27) then some (.inl (aH.mk 1 p.order p.text p.cK p.out)) else (bif (decide (b < 32)) then (Option.bind (fW p (aZ.mk 2 0 b false ([]:List Int) (ByteArray.mk #[]))) fun c=>some (.inl c)) else (kK (some ((b == 127),p))))))):Option (aH ⊕ (Bool×aH))) fun | .inl e42=>some (true,e42) | .inr w=>some w)
noncomputable def ig (p:aH) (b:Int):Option aH :=
 (Option.bind ((bif (decide (b < 32)) then some true else some (b == 127)):Option Bool) fun e4=>(bif e4 then (Option.bind (jd p.cK) fun d=>(Option.bind (iy p d) fun a=>(Option.bind (fD (aH.mk a.state a.order a.text (bQ.mk 0 0 0) a.out) b) fun e=>some e.2))) else (Option.bind (iJ p.cK b) fun c=>(Option.bind (iy (aH.mk p.state p.order p.text c.1 p.out) c.2) fun f=>some f))))
noncomputable def fX (p:aH) (b:Int):Option aH :=
 (Option.bind (fD p b) fun r1=>(bif r1.1 then some r1.2 else (Option.bind ((bif (b == 91) then (kK (some (aH.mk 3 (fE.mk false false false false 0 ([]:List Int)) r1.2.text r1.2.cK r1.2.out))) else (bif (b == 93) then (kK (some (aH.mk 4 r1.2.order (ByteArray.mk #[]) r1.2.cK r1.2.out))) else (bif (decide (b < 48)) then (kK (some (aH.mk 2 r1.2.order r1.2.text r1.2.cK r1.2.out))) else (bif (decide (b < 127)) then (Option.bind (fW r1.2 (aZ.mk 3 0 b false ([]:List Int) (ByteArray.mk #[]))) fun a=>some (.inl a)) else some (.inl r1.2))))):Option (aH ⊕ aH)) fun | .inl e39=>some (aH.mk 0 e39.order e39.text e39.cK e39.out) | .inr w=>some w)))
noncomputable def jf (p:aH) (b:Int):Option aH :=
 (Option.bind ((Option.bind (fD p b) fun c=>(bif (!c.1) then some ((decide (b≥48)),c.2) else some (false,c.2))):Option (Bool×aH)) fun a=>(bif a.1 then some (aH.mk 0 a.2.order a.2.text a.2.cK a.2.out) else some a.2))
noncomputable def jD (o:aH):Option aH :=
 (Option.bind ((bif (decide ((o.order.bH.length:Int) < 16)) then (Option.bind (chk (eO o.order.bH.length [o.order.n].length 8)) fun _=>some (aH.mk o.state (fE.mk o.order.eE o.order.mU o.order.any o.order.some o.order.n (o.order.bH++[o.order.n])) o.text o.cK o.out)) else some o):Option aH) fun a=>some (aH.mk a.state (fE.mk a.order.eE a.order.mU a.order.any a.order.some 0 a.order.bH) a.text a.cK a.out))
noncomputable def iO (p:aH) (a:aZ):Option aH :=
 (Option.bind (chk (eO p.out.length [a].length 56)) fun _=>some (aH.mk p.state p.order p.text p.cK (p.out++[a])))
noncomputable def jg (p:aH) (b:Int):Option aH :=
 (bif p.order.mU then some (aH.mk 0 p.order p.text p.cK p.out) else (Option.bind ((bif p.order.some then (Option.bind (jD (aH.mk 0 p.order p.text p.cK p.out)) fun d=>some d) else some (aH.mk 0 p.order p.text p.cK p.out)):Option aH) fun a=>(Option.bind (iO a (aZ.mk 4 0 b a.order.eE a.order.bH (ByteArray.mk #[]))) fun c=>(Option.bind (chk (!(c.state == (3:Int)))) fun _=>some c))))
noncomputable def gR (p:aH) (b:Int):Option aH :=
 (Option.bind (fD p b) fun r1=>(bif r1.1 then some r1.2 else (Option.bind ((bif (decide (b≥48)) then some (decide (b≤57)) else some false):Option Bool) fun c=>(bif c then some (aH.mk r1.2.state (fE.mk r1.2.order.eE r1.2.order.mU true true (eN (IntKind.i64.wrap ((IntKind.i64.wrap (10*r1.2.order.n))+(IntKind.i64.wrap (IntKind.u8.wrap (b - 48))))) 9999) r1.2.order.bH) r1.2.text r1.2.cK r1.2.out) else (Option.bind ((bif (b == 59) then some true else some (b == 58)):Option Bool) fun d=>(bif d then (Option.bind (chk (r1.2.state == (3:Int))) fun _=>(Option.bind (jD (aH.mk r1.2.state (fE.mk r1.2.order.eE r1.2.order.mU true r1.2.order.some r1.2.order.n r1.2.order.bH) r1.2.text r1.2.cK r1.2.out)) fun a=>some (aH.mk a.state (fE.mk a.order.eE a.order.mU a.order.any true a.order.n a.order.bH) a.text a.cK a.out))) else (Option.bind ((bif (b == 63) then some (!r1.2.order.any) else some false):Option Bool) fun e=>(bif e then some (aH.mk r1.2.state (fE.mk true r1.2.order.mU true r1.2.order.some r1.2.order.n r1.2.order.bH) r1.2.text r1.2.cK r1.2.out) else (Option.bind ((bif (decide (b≥64)) then some (decide (b < 127)) else some false):Option Bool) fun f=>(bif f then (Option.bind (chk (r1.2.state == (3:Int))) fun _=>(Option.bind (jg (aH.mk r1.2.state (fE.mk r1.2.order.eE r1.2.order.mU true r1.2.order.some r1.2.order.n r1.2.order.bH) r1.2.text r1.2.cK r1.2.out) b) fun g=>some g)) else some (aH.mk r1.2.state (fE.mk r1.2.order.eE true true r1.2.order.some r1.2.order.n r1.2.order.bH) r1.2.text r1.2.cK r1.2.out)))))))))))
noncomputable def iV (p:aH):Option aH :=
 (Option.bind (iter (σ:=aH×Int) (ρ:=aH) (fun a=>(bif (decide (a.2 < (([(ByteArray.mk #[48,59]),(ByteArray.mk #[50,59])]).length:Int))) then (Option.bind ((Option.bind (idx ([(ByteArray.mk #[48,59]),(ByteArray.mk #[50,59])]) a.2) fun c=>(Option.bind (je a.1.text c) fun b=>(bif b.2 then (Option.bind (fW a.1 (aZ.mk 5 0 0 false ([]:List Int) b.1)) fun d=>some d) else some a.1))):Option aH) fun e=>some (.inl (e,(IntKind.i64.wrap (a.2+1))))) else some (.inr a.1))) ((aH.mk 0 p.order p.text p.cK p.out),0)) fun f=>some f)
noncomputable def iP (p:aH) (b:Int):Option aH :=
 (bif (b == 7) then (Option.bind (iV p) fun r2=>some r2) else (Option.bind ((bif (b == 24) then some true else some (b == 26)):Option Bool) fun a=>(bif a then some (aH.mk 0 p.order p.text p.cK p.out) else (bif (b == 27) then some (aH.mk 5 p.order p.text p.cK p.out) else (bif (decide ((p.text.size:Int) < 200)) then (Option.bind (chk (MK p.text.size (gZ [b]).size)) fun _=>some (aH.mk p.state p.order (p.text++(gZ [b])) p.cK p.out)) else some p)))))
noncomputable def kR (p:aH) (b:Int):Option aH :=
 (bif (p.state == 0) then (Option.bind (ig p b) fun r2=>some r2) else (bif (p.state == 1) then (Option.bind (fX p b) fun a=>some a) else (bif (p.state == 2) then (Option.bind (jf p b) fun c=>some c) else (bif (p.state == 3) then (Option.bind (gR p b) fun d=>some d) else (bif (p.state == 4) then (Option.bind (iP p b) fun e=>some e) else (bif (b == 92) then (Option.bind (iV p) fun f=>some f) else (Option.bind (fX (aH.mk 1 p.order p.text p.cK p.out) b) fun g=>some g)))))))
noncomputable def ka (p:aH) (s_:ByteArray):Option ((List aZ)×aH) :=
 (Option.bind (iter (σ:=aH×Int) (ρ:=aH) (fun a=>(bif (decide (a.2 < (s_.size:Int))) then (Option.bind (y5 s_ a.2) fun b134=>(Option.bind (kR a.1 b134) fun c=>some (.inl (c,(IntKind.i64.wrap (a.2+1)))))) else some (.inr a.1))) ((aH.mk p.state p.order p.text p.cK ([]:List aZ)),0)) fun b=>some (b.out,(aH.mk b.state b.order b.text b.cK ([]:List aZ))))
end Go.Tw.X
set_option linter.unusedVariables false
set_option linter.unusedSimpArgs false
set_option maxRecDepth 10000
namespace Go.Tw.X
open Go Go.Tw
structure bC where
 iD:Int
 back:Int
 bold:Bool
 under:Bool
 dU:Bool
 deriving DecidableEq,Inhabited
noncomputable def kb (s_:bC):Option Bool :=
 (Option.bind ((bif (decide (s_.iD≥0)) then (bif (decide (s_.iD < 9)) then (bif (decide (s_.back≥0)) then some (decide (s_.back < 9)) else some false) else some false) else some false):Option Bool) fun e9=>some e9)
noncomputable def mS (is:Bool) (n_:Int):Option Int :=
 (bif is then some n_ else some 0)
noncomputable def kc (s_:bC):Option Int :=
 (Option.bind (kb s_) fun r2=>(bif (!r2) then some 0 else (Option.bind (mS s_.bold 81) fun a=>(Option.bind (mS s_.under 162) fun b=>(Option.bind (mS s_.dU 324) fun c=>some (IntKind.i64.wrap ((IntKind.i64.wrap ((IntKind.i64.wrap ((IntKind.i64.wrap (s_.iD+(IntKind.i64.wrap (9*s_.back))))+a))+b))+c)))))))
noncomputable def m6 (l:List Int):Option Int :=
 (Option.bind ((bif (decide ((l.length:Int) > 0)) then (Option.bind (idx l 0) fun a=>some (a == 5)) else some false):Option Bool) fun b=>(bif b then some (eN 2 (l.length:Int)) else (Option.bind ((bif (decide ((l.length:Int) > 0)) then (Option.bind (idx l 0) fun c=>some (c == 2)) else some false):Option Bool) fun d=>(bif d then some (eN 4 (l.length:Int)) else some 0))))
noncomputable def kd (s_:bC) (n_:Int):Option bC :=
 (Option.bind ((bif (n_ == 0) then (kK (some (bC.mk 0 0 false false false))) else (Option.bind ((bif (n_ == 1) then some true else some (n_ == 22)):Option Bool) fun a=>(bif a then some (.inl (bC.mk s_.iD s_.back (n_ == 1) s_.under s_.dU)) else (Option.bind ((bif (n_ == 4) then some true else some (n_ == 24)):Option Bool) fun b=>(bif b then some (.inl (bC.mk s_.iD s_.back s_.bold (n_ == 4) s_.dU)) else (Option.bind ((bif (n_ == 7) then some true else some (n_ == 27)):Option Bool) fun c=>(bif c then some (.inl (bC.mk s_.iD s_.back s_.bold s_.under (n_ == 7))) else (Option.bind ((bif (decide (n_≥30)) then some (decide (n_ < 38)) else some false):Option Bool) fun d=>(bif d then some (.inl (bC.mk (IntKind.i64.wrap ((IntKind.i64.wrap (n_ - 30))+1)) s_.back s_.bold s_.under s_.dU)) else (bif (n_ == 39) then some (.inl (bC.mk 0 s_.back s_.bold s_.under s_.dU)) else (Option.bind ((bif (decide (n_≥40)) then some (decide (n_ < 48)) else some false):Option Bool) fun e=>(bif e then some (.inl (bC.mk s_.iD (IntKind.i64.wrap ((IntKind.i64.wrap (n_ - 40))+1)) s_.bold s_.under s_.dU)) else (bif (n_ == 49) then some (.inl (bC.mk s_.iD 0 s_.bold s_.under s_.dU)) else some (.inl s_)))))))))))))):Option (bC ⊕ bC)) fun | .inl e90=>some e90 | .inr w=>some w)
noncomputable def kf (s_:bC) (bH:List Int):Option bC :=
 (bif ((bH.length:Int) == 0) then some (bC.mk 0 0 false false false) else (Option.bind (iter (σ:=bC×Int) (ρ:=bC) (fun a=>(bif (decide (a.2 < (bH.length:Int))) then (Option.bind ((Option.bind (idx bH a.2) fun b=>(Option.bind ((bif (b == 38) then some true else some (b == 48)):Option Bool) fun d=>(bif d then (Option.bind (chk (dB (IntKind.i64.wrap (a.2+1)) (bH.length:Int) bH.length)) fun _=>(Option.bind (m6 (cut bH (IntKind.i64.wrap (a.2+1)) (bH.length:Int))) fun e=>some ((IntKind.i64.wrap (a.2+e)),a.1))) else (Option.bind (idx bH a.2) fun f=>(Option.bind (kd a.1 f) fun h=>some (a.2,h)))))):Option (Int×bC)) fun c=>some (.inl (c.2,(IntKind.i64.wrap (c.1+1))))) else some (.inr a.1))) (s_,0)) fun i=>some i))
end Go.Tw.X
set_option linter.unusedVariables false
set_option linter.unusedSimpArgs false
set_option maxRecDepth 10000
namespace Go.Tw.X
open Go Go.Tw
structure eI where
 x:Int
 y:Int
 aL:bC
 deriving DecidableEq,Inhabited
structure aB where
 g:aW
 spot:eI
 saved:eI
 waiting:Bool
 top:Int
 aK:Int
 aX:Bool
 title:ByteArray
 deriving DecidableEq,Inhabited
noncomputable def l8 (w:Int) (h_:Int):Option aB :=
 (Option.bind (oO w h_) fun r1=>(Option.bind (dY r1) fun r9=>some (aB.mk r1 (eI.mk 0 0 (bC.mk 0 0 false false false)) (eI.mk 0 0 (bC.mk 0 0 false false false)) false 0 (IntKind.i64.wrap (r9.2 - 1)) true (ByteArray.mk #[]))))
noncomputable def iQ (s_:aB):Option (aW×aB) :=
 (Option.bind (jZ s_.g) fun r1=>some (r1.1,(aB.mk r1.2 s_.spot s_.saved s_.waiting s_.top s_.aK s_.aX s_.title)))
noncomputable def jM (s_:aB):Option ByteArray :=
 some s_.title
noncomputable def jt (s_:aB):Option (Int×Int) :=
 some (s_.spot.x,s_.spot.y)
noncomputable def iW (r_:aE):Option aE :=
 some (aE.mk r_.cells true)
noncomputable def cO (s_:aB):Option aB :=
 (Option.bind (fN s_.g s_.spot.y) fun a=>(Option.bind (iW a) fun b=>(Option.bind (fA s_.g s_.spot.y b) fun c=>some (aB.mk c.2 s_.spot s_.saved s_.waiting s_.top s_.aK s_.aX s_.title))))
noncomputable def bW (s_:aB):Option Int :=
 (Option.bind (kc s_.spot.aL) fun r1=>some r1)
noncomputable def iz (s_:aB) (n_:Int):Option ((List aE)×aB) :=
 (Option.bind (bW s_) fun b=>(Option.bind (gq s_.g s_.top s_.aK n_ b) fun a=>(bif (decide (s_.top > 0)) then some (([]:List aE),(aB.mk a.2 s_.spot s_.saved s_.waiting s_.top s_.aK s_.aX s_.title)) else some (a.1,(aB.mk a.2 s_.spot s_.saved s_.waiting s_.top s_.aK s_.aX s_.title)))))
noncomputable def eD (s_:aB):Option (Int×Int) :=
 (Option.bind (dY s_.g) fun r1=>some ((IntKind.i64.wrap (r1.1 - 1)),(IntKind.i64.wrap (r1.2 - 1))))
noncomputable def gN (n_:Int) (lo:Int) (hi:Int):Option Int :=
 some (imax lo (eN n_ hi))
noncomputable def bG (s_:aB) (x_:Int) (y:Int):Option aB :=
 (Option.bind (eD s_) fun r1=>(Option.bind (gN x_ 0 r1.1) fun r4=>(Option.bind (gN y 0 r1.2) fun r7=>some (aB.mk s_.g (eI.mk r4 r7 s_.spot.aL) s_.saved false s_.top s_.aK s_.aX s_.title))))
noncomputable def dA (s_:aB):Option ((List aE)×aB) :=
 (bif (s_.spot.y == s_.aK) then (Option.bind (iz (aB.mk s_.g s_.spot s_.saved false s_.top s_.aK s_.aX s_.title) 1) fun a=>some (a.1,a.2)) else (Option.bind (bG (aB.mk s_.g s_.spot s_.saved false s_.top s_.aK s_.aX s_.title) s_.spot.x (IntKind.i64.wrap (s_.spot.y+1))) fun b=>some (([]:List aE),b)))
noncomputable def iX (r_:aE) (x1:aB):Option aE :=
 (Option.bind (bW x1) fun a=>(Option.bind (lS r_ a) fun b=>some b))
noncomputable def cP (s_:aB):Option aB :=
 (Option.bind (fN s_.g s_.spot.y) fun a=>(Option.bind (iX a s_) fun b=>(Option.bind (fA s_.g s_.spot.y b) fun c=>some (aB.mk c.2 s_.spot s_.saved s_.waiting s_.top s_.aK s_.aX s_.title))))
noncomputable def iY (q:aE) (x1:aB) (x2:Int):Option aE :=
 (Option.bind (bW x1) fun a=>(Option.bind (mj q x1.spot.x x2 a) fun b=>some b))
noncomputable def dJ (s_:aB) (f_1:Int):Option aB :=
 (Option.bind (fN s_.g s_.spot.y) fun a=>(Option.bind (iY a s_ f_1) fun b=>(Option.bind (fA s_.g s_.spot.y b) fun c=>some (aB.mk c.2 s_.spot s_.saved s_.waiting s_.top s_.aK s_.aX s_.title))))
noncomputable def ij (s_:aB) (r_:Int):Option ((List aE)×aB) :=
 (Option.bind (oK r_) fun r3=>(Option.bind (dY s_.g) fun r6=>(Option.bind ((bif (r3 == 0) then some true else some (decide (r3 > r6.1))):Option Bool) fun i=>(bif i then some (([]:List aE),s_) else (Option.bind ((bif s_.waiting then some s_.aX else some false):Option Bool) fun j=>(Option.bind ((bif j then (Option.bind (cO s_) fun c=>(Option.bind (dA (aB.mk c.g (eI.mk 0 c.spot.y c.spot.aL) c.saved c.waiting c.top c.aK c.aX c.title)) fun f=>(Option.bind (chk (eO ([]:List aE).length f.1.length 32)) fun _=>some ((([]:List aE)++f.1),f.2.g,f.2)))) else some ([],s_.g,s_)):Option ((List aE)×aW×aB)) fun a=>(Option.bind ((bif (decide ((IntKind.i64.wrap (a.2.2.spot.x+r3)) > r6.1)) then (bif a.2.2.aX then (Option.bind (cP (aB.mk a.2.1 a.2.2.spot a.2.2.saved a.2.2.waiting a.2.2.top a.2.2.aK a.2.2.aX a.2.2.title)) fun d=>(Option.bind (dA (aB.mk d.g (eI.mk 0 d.spot.y d.spot.aL) d.saved d.waiting d.top d.aK d.aX d.title)) fun h=>(Option.bind (chk (eO a.1.length h.1.length 32)) fun _=>some ((a.1++h.1),h.2.g,h.2)))) else some (a.1,a.2.1,(aB.mk a.2.1 (eI.mk (IntKind.i64.wrap (a.2.2.spot.x - 1)) a.2.2.spot.y a.2.2.spot.aL) a.2.2.saved a.2.2.waiting a.2.2.top a.2.2.aK a.2.2.aX a.2.2.title))) else some (a.1,a.2.1,(aB.mk a.2.1 a.2.2.spot a.2.2.saved a.2.2.waiting a.2.2.top a.2.2.aK a.2.2.aX a.2.2.title))):Option ((List aE)×aW×aB)) fun e=>(Option.bind (dJ (aB.mk e.2.1 e.2.2.spot e.2.2.saved e.2.2.waiting e.2.2.top e.2.2.aK e.2.2.aX e.2.2.title) r_) fun b=>some (e.1,(aB.mk b.g (eI.mk (eN (IntKind.i64.wrap (b.spot.x+r3)) (IntKind.i64.wrap (r6.1 - 1))) b.spot.y b.spot.aL) b.saved ((IntKind.i64.wrap (b.spot.x+r3)) == r6.1) b.top b.aK b.aX b.title))))))))))
noncomputable def gF (s_:aB) (b:Int):Option ((List aE)×aB) :=
 (Option.bind ((bif (b == 8) then (Option.bind (bG s_ (IntKind.i64.wrap (s_.spot.x - 1)) s_.spot.y) fun a=>some (.inl (a,a.g))) else (bif (b == 9) then (Option.bind (bG s_ (IntKind.i64.wrap ((IntKind.i64.wrap ((IntKind.i64.wrap (s_.spot.x.tdiv 8))+1))*8)) s_.spot.y) fun c=>some (.inl (c,c.g))) else (Option.bind ((bif (b == 10) then some (b == 10) else (bif (b == 11) then some (b == 11) else some (b == 12))):Option Bool) fun f=>(bif f then (Option.bind (dA s_) fun d=>(kK (some (d.1,d.2)))) else (bif (b == 13) then (Option.bind (bG s_ 0 s_.spot.y) fun e=>some (.inl (e,e.g))) else some (.inl (s_,s_.g))))))):Option ((aB×aW) ⊕ ((List aE)×aB))) fun | .inl e86=>some (([]:List aE),(aB.mk e86.2 e86.1.spot e86.1.saved e86.1.waiting e86.1.top e86.1.aK e86.1.aX e86.1.title)) | .inr w=>some w)
noncomputable def iR (s_:aB):Option aB :=
 (bif (s_.spot.y == s_.top) then (Option.bind (bW (aB.mk s_.g s_.spot s_.saved false s_.top s_.aK s_.aX s_.title)) fun a=>(Option.bind (eQ s_.g s_.top s_.aK 1 a) fun b=>some (aB.mk b.2 s_.spot s_.saved false s_.top s_.aK s_.aX s_.title))) else (Option.bind (bG (aB.mk s_.g s_.spot s_.saved false s_.top s_.aK s_.aX s_.title) s_.spot.x (IntKind.i64.wrap (s_.spot.y - 1))) fun c=>some c))
noncomputable def gS (s_:aB) (b:Int):Option ((List aE)×aB) :=
 (Option.bind ((Option.bind ((bif (b == 69) then some (.inl (aB.mk s_.g (eI.mk 0 s_.spot.y s_.spot.aL) s_.saved s_.waiting s_.top s_.aK s_.aX s_.title)) else (bif (b == 68) then some (.inl s_) else (bif (b == 77) then (kK (Option.bind (iR s_) fun d=>some (.inl d))) else (bif (b == 55) then (kK (some (.inl (aB.mk s_.g s_.spot s_.spot s_.waiting s_.top s_.aK s_.aX s_.title)))) else (bif (b == 56) then (kK (Option.bind (bG (aB.mk s_.g (eI.mk s_.spot.x s_.spot.y s_.saved.aL) s_.saved s_.waiting s_.top s_.aK s_.aX s_.title) s_.saved.x s_.saved.y) fun e=>some (.inl e))) else (bif (b == 99) then (kK (Option.bind (dY s_.g) fun a=>(Option.bind (l8 a.1 a.2) fun f=>some (.inl f)))) else (kK (some (.inl s_))))))))):Option (aB ⊕ (aB ⊕ ((List aE)×aB)))) fun | .inl e4671=>(Option.bind (dA (aB.mk s_.g e4671.spot e4671.saved e4671.waiting e4671.top e4671.aK e4671.aX e4671.title)) fun c=>(kK (some (c.1,c.2)))) | .inr w=>some w):Option (aB ⊕ ((List aE)×aB))) fun | .inl e3164=>some (([]:List aE),e3164) | .inr w=>some w)
noncomputable def eX (a:aZ) (i:Int) (d:Int):Option Int :=
 (Option.bind ((bif (decide (i≥(a.bH.length:Int))) then some true else (Option.bind (idx a.bH i) fun b=>some (decide (b≤0)))):Option Bool) fun c=>(bif c then some d else (Option.bind (idx a.bH i) fun e=>some (eN e 9999))))
noncomputable def fY (s_:aB) (n_:Int):Option aB :=
 (Option.bind (eD s_) fun r1=>(Option.bind ((bif (decide (s_.spot.y≥s_.top)) then some (decide (n_ < 0)) else some false):Option Bool) fun e9=>(Option.bind ((bif e9 then some s_.top else some 0):Option Int) fun a=>(Option.bind ((bif (decide (s_.spot.y≤s_.aK)) then some (decide (n_ > 0)) else some false):Option Bool) fun b=>(Option.bind ((bif b then some s_.aK else some r1.2):Option Int) fun c=>(Option.bind (gN (IntKind.i64.wrap (s_.spot.y+n_)) a c) fun d=>(Option.bind (bG s_ s_.spot.x d) fun e=>some e)))))))
noncomputable def eJ (s_:aB) (y:Int) (from_:Int) (to:Int):Option aB :=
 (Option.bind (fN s_.g y) fun a=>(Option.bind (bW s_) fun b=>(Option.bind (jQ a from_ to b) fun c=>(Option.bind (fA s_.g y c) fun d=>some (aB.mk d.2 s_.spot s_.saved s_.waiting s_.top s_.aK s_.aX s_.title)))))
noncomputable def gG (s_:aB) (n_:Int):Option aB :=
 (Option.bind (dY s_.g) fun r1=>(Option.bind ((bif (n_ == 0) then (Option.bind (eJ s_ s_.spot.y s_.spot.x r1.1) fun b=>some (b.g,b)) else (bif (n_ == 1) then (Option.bind (eJ s_ s_.spot.y 0 (IntKind.i64.wrap (s_.spot.x+1))) fun c=>some (c.g,c)) else (bif (n_ == 2) then (Option.bind (eJ s_ s_.spot.y 0 r1.1) fun d=>some (d.g,d)) else some (s_.g,s_)))):Option (aW×aB)) fun a=>(bif a.2.waiting then some (aB.mk a.1 a.2.spot a.2.saved (decide (n_ > 2)) a.2.top a.2.aK a.2.aX a.2.title) else some (aB.mk a.1 a.2.spot a.2.saved false a.2.top a.2.aK a.2.aX a.2.title))))
noncomputable def iS (s_:aB) (n_:Int):Option aB :=
 (Option.bind (dY s_.g) fun r1=>(Option.bind (iter (σ:=aB×aW×Int) (ρ:=aW×aB) (fun a=>(bif (decide (a.2.2 < r1.2)) then (Option.bind ((Option.bind ((bif (decide (a.2.2 < a.1.spot.y)) then (bif (n_ == 1) then some true else (bif (decide (a.2.2 > a.1.spot.y)) then (bif (n_ == 0) then some true else (bif (a.2.2 != a.1.spot.y) then some (n_ == 2) else some false)) else (bif (a.2.2 != a.1.spot.y) then some (n_ == 2) else some false))) else (bif (decide (a.2.2 > a.1.spot.y)) then (bif (n_ == 0) then some true else (bif (a.2.2 != a.1.spot.y) then some (n_ == 2) else some false)) else (bif (a.2.2 != a.1.spot.y) then some (n_ == 2) else some false))):Option Bool) fun e=>(bif e then (Option.bind (eJ (aB.mk a.2.1 a.1.spot a.1.saved a.1.waiting a.1.top a.1.aK a.1.aX a.1.title) a.2.2 0 r1.1) fun d=>some (d.g,d)) else some (a.2.1,(aB.mk a.2.1 a.1.spot a.1.saved a.1.waiting a.1.top a.1.aK a.1.aX a.1.title)))):Option (aW×aB)) fun b=>some (.inl ((aB.mk b.1 b.2.spot b.2.saved b.2.waiting b.2.top b.2.aK b.2.aX b.2.title),b.1,(IntKind.i64.wrap (a.2.2+1))))) else some (.inr (a.2.1,(aB.mk a.2.1 a.1.spot a.1.saved a.1.waiting a.1.top a.1.aK a.1.aX a.1.title))))) (s_,s_.g,0)) fun c=>(Option.bind (gG (aB.mk c.1 c.2.spot c.2.saved c.2.waiting c.2.top c.2.aK c.2.aX c.2.title) n_) fun f=>some f)))
noncomputable def gH (r_:aE) (x1:Int) (x2:aB) (x3:Int):Option aE :=
 (bif (x1 == 64) then (Option.bind (bW x2) fun a=>(Option.bind (kO r_ x2.spot.x x3 a) fun b=>some b)) else (bif (x1 == 80) then (Option.bind (bW x2) fun c=>(Option.bind (kP r_ x2.spot.x x3 c) fun d=>some d)) else (Option.bind (bW x2) fun e=>(Option.bind (jQ r_ x2.spot.x (IntKind.i64.wrap (x2.spot.x+x3)) e) fun f=>some f))))
noncomputable def eT (s_:aB) (f_0:Int) (f_2:Int):Option aB :=
 (Option.bind (fN s_.g s_.spot.y) fun a=>(Option.bind (gH a f_0 s_ f_2) fun b=>(Option.bind (fA s_.g s_.spot.y b) fun c=>some (aB.mk c.2 s_.spot s_.saved s_.waiting s_.top s_.aK s_.aX s_.title))))
noncomputable def ik (s_:aB) (b:Int) (n_:Int):Option aB :=
 (Option.bind (eT s_ b n_) fun r4=>some (aB.mk r4.g r4.spot r4.saved false r4.top r4.aK r4.aX r4.title))
noncomputable def il (s_:aB) (b:Int) (n_:Int):Option aB :=
 (Option.bind ((bif (decide (s_.spot.y < s_.top)) then some true else some (decide (s_.spot.y > s_.aK))):Option Bool) fun e6=>(bif e6 then some s_ else (Option.bind ((bif (b == 76) then (Option.bind (bW s_) fun a=>(Option.bind (eQ s_.g s_.spot.y s_.aK n_ a) fun c=>some c.2)) else (Option.bind (bW s_) fun d=>(Option.bind (gq s_.g s_.spot.y s_.aK n_ d) fun e=>some e.2))):Option aW) fun f=>(Option.bind (bG (aB.mk f s_.spot s_.saved s_.waiting s_.top s_.aK s_.aX s_.title) 0 s_.spot.y) fun h=>some h))))
noncomputable def gT (s_:aB) (a:aZ):Option aB :=
 (Option.bind (dY s_.g) fun r2=>(Option.bind (eX a 0 1) fun d=>(Option.bind (gN d 1 r2.2) fun b=>(Option.bind (eX a 1 r2.2) fun e=>(Option.bind (gN e 1 r2.2) fun c=>(bif (decide ((IntKind.i64.wrap (b - 1)) < (IntKind.i64.wrap (c - 1)))) then (Option.bind (bG (aB.mk s_.g s_.spot s_.saved s_.waiting (IntKind.i64.wrap (b - 1)) (IntKind.i64.wrap (c - 1)) s_.aX s_.title) 0 0) fun f=>some f) else some s_))))))
noncomputable def iq (s_:aB) (a:aZ):Option ((List aE)×aB) :=
 (Option.bind (eX a 0 1) fun r2=>(Option.bind ((Option.bind ((bif (a.byte == 65) then some (a.byte == 65) else some (a.byte == 70)):Option Bool) fun r=>(bif r then (Option.bind (fY s_ (IntKind.i64.wrap (0 - r2))) fun c=>some (.inl (c,c.g))) else (Option.bind ((bif (a.byte == 66) then some (a.byte == 66) else some (a.byte == 69)):Option Bool) fun s=>(bif s then (Option.bind (fY s_ r2) fun d=>some (.inl (d,d.g))) else (bif (a.byte == 67) then (Option.bind (bG s_ (IntKind.i64.wrap (s_.spot.x+r2)) s_.spot.y) fun e=>some (.inl (e,e.g))) else (bif (a.byte == 68) then (Option.bind (bG s_ (IntKind.i64.wrap (s_.spot.x - r2)) s_.spot.y) fun f=>some (.inl (f,f.g))) else (bif (a.byte == 71) then (Option.bind (bG s_ (IntKind.i64.wrap (r2 - 1)) s_.spot.y) fun h=>some (.inl (h,h.g))) else (bif (a.byte == 100) then (Option.bind (bG s_ s_.spot.x (IntKind.i64.wrap (r2 - 1))) fun i=>some (.inl (i,i.g))) else (Option.bind ((bif (a.byte == 72) then some (a.byte == 72) else some (a.byte == 102)):Option Bool) fun t=>(bif t then (Option.bind (eX a 1 1) fun u=>(Option.bind (bG s_ (IntKind.i64.wrap (u - 1)) (IntKind.i64.wrap (r2 - 1))) fun j=>some (.inl (j,j.g)))) else (bif (a.byte == 74) then (Option.bind (eX a 0 0) fun v=>(Option.bind (iS s_ v) fun k=>some (.inl (k,k.g)))) else (bif (a.byte == 75) then (Option.bind (eX a 0 0) fun z=>(Option.bind (gG s_ z) fun l=>some (.inl (l,l.g)))) else (Option.bind ((bif (a.byte == 64) then some (a.byte == 64) else (bif (a.byte == 80) then some (a.byte == 80) else some (a.byte == 88))):Option Bool) fun A=>(bif A then (Option.bind (ik s_ a.byte r2) fun m=>some (.inl (m,m.g))) else (Option.bind ((bif (a.byte == 76) then some (a.byte == 76) else some (a.byte == 77)):Option Bool) fun B=>(bif B then (Option.bind (il s_ a.byte r2) fun n=>some (.inl (n,n.g))) else (bif (a.byte == 83) then (Option.bind (iz (aB.mk s_.g s_.spot s_.saved false s_.top s_.aK s_.aX s_.title) r2) fun o=>(kK (some (o.1,o.2)))) else (bif (a.byte == 84) then (Option.bind (bW (aB.mk s_.g s_.spot s_.saved false s_.top s_.aK s_.aX s_.title)) fun C=>(Option.bind (eQ s_.g s_.top s_.aK r2 C) fun p=>some (.inl ((aB.mk p.2 s_.spot s_.saved false s_.top s_.aK s_.aX s_.title),p.2)))) else (bif (a.byte == 109) then (Option.bind (kf s_.spot.aL a.bH) fun D=>some (.inl ((aB.mk s_.g (eI.mk s_.spot.x s_.spot.y D) s_.saved s_.waiting s_.top s_.aK s_.aX s_.title),s_.g))) else (bif (a.byte == 114) then (Option.bind (gT s_ a) fun q=>some (.inl (q,q.g))) else some (.inl (s_,s_.g)))))))))))))))))))))):Option ((aB×aW) ⊕ ((List aE)×aB))) fun | .inl e310=>(Option.bind ((bif (a.byte == 69) then some true else some (a.byte == 70)):Option Bool) fun E=>(Option.bind ((bif E then some (aB.mk e310.2 (eI.mk 0 e310.1.spot.y e310.1.spot.aL) e310.1.saved e310.1.waiting e310.1.top e310.1.aK e310.1.aX e310.1.title) else some (aB.mk e310.2 e310.1.spot e310.1.saved e310.1.waiting e310.1.top e310.1.aK e310.1.aX e310.1.title)):Option aB) fun b=>some (([]:List aE),(aB.mk e310.2 b.spot b.saved b.waiting b.top b.aK b.aX b.title)))) | .inr w=>some w))
noncomputable def gB (s_:aB) (a:aZ):Option ((List aE)×aB) :=
 (Option.bind ((bif (a.kind == 1) then (Option.bind (ij s_ a.rune) fun b=>(kK (some (b.1,b.2)))) else (bif (a.kind == 2) then (Option.bind (gF s_ a.byte) fun c=>(kK (some (c.1,c.2)))) else (bif (a.kind == 3) then (Option.bind (gS s_ a.byte) fun d=>(kK (some (d.1,d.2)))) else (bif (a.kind == 5) then some (.inl (aB.mk s_.g s_.spot s_.saved s_.waiting s_.top s_.aK s_.aX a.text)) else (bif (a.kind == 4) then (bif (!a.eE) then (Option.bind (iq s_ a) fun e=>(kK (some (e.1,e.2)))) else (Option.bind ((Option.bind (eX a 0 0) fun f=>(bif (f == 7) then (bif (a.byte == 104) then some true else some (a.byte == 108)) else some false)):Option Bool) fun h=>(bif h then some (.inl (aB.mk s_.g s_.spot s_.saved s_.waiting s_.top s_.aK (a.byte == 104) s_.title)) else some (.inl s_)))) else some (.inl s_)))))):Option (aB ⊕ ((List aE)×aB))) fun | .inl e133=>some (([]:List aE),(aB.mk s_.g e133.spot e133.saved e133.waiting e133.top e133.aK e133.aX e133.title)) | .inr w=>some w)
noncomputable def gU (s_:aB) (w:Int) (h_:Int):Option ((List aE)×aB) :=
 (Option.bind (gN h_ 1 1000) fun b=>(Option.bind (jF s_.g w h_ (imax 0 (IntKind.i64.wrap (s_.spot.y - (IntKind.i64.wrap (b - 1)))))) fun c=>(Option.bind (bG (aB.mk c.2 s_.spot s_.saved s_.waiting s_.top s_.aK s_.aX s_.title) s_.spot.x (IntKind.i64.wrap (s_.spot.y - (imax 0 (IntKind.i64.wrap (s_.spot.y - (IntKind.i64.wrap (b - 1)))))))) fun a=>(Option.bind (eD a) fun d=>some (c.1,(aB.mk a.g a.spot a.saved a.waiting 0 d.2 a.aX a.title))))))
end Go.Tw.X
set_option linter.unusedVariables false
set_option linter.unusedSimpArgs false
set_option maxRecDepth 10000
namespace Go.Tw.X
open Go Go.Tw
structure aI where
 k:Int
 w:Int
 h:Int
 x:Int
 y:Int
 title:ByteArray
 rows:List aE
 len:Int
 chain:Int
 begun:List aJ
 deriving DecidableEq,Inhabited
noncomputable def sK (k:Int) (s_:aB) (b:cC):Option (aI×aB) :=
 (Option.bind (iQ (aB.mk s_.g s_.spot s_.saved s_.waiting s_.top s_.aK s_.aX s_.title)) fun r2=>(Option.bind (jM (aB.mk r2.2.g r2.2.spot r2.2.saved r2.2.waiting r2.2.top r2.2.aK r2.2.aX r2.2.title)) fun e=>(Option.bind (kQ r2.1) fun a=>(Option.bind (lr b) fun f=>(Option.bind (lr b) fun h=>(Option.bind (jX b h) fun i=>(Option.bind (jY b) fun j=>(Option.bind (dY a.2) fun c=>(Option.bind (jt (aB.mk r2.2.g r2.2.spot r2.2.saved r2.2.waiting r2.2.top r2.2.aK r2.2.aX r2.2.title)) fun d=>some ((aI.mk k c.1 c.2 d.1 d.2 e a.1 f i j),(aB.mk r2.2.g r2.2.spot r2.2.saved r2.2.waiting r2.2.top r2.2.aK r2.2.aX r2.2.title)))))))))))
noncomputable def gV (s_:aI):Option Bool :=
 (Option.bind ((bif (s_.k == 0) then (bif (s_.w == 0) then (bif (s_.h == 0) then (bif (s_.x == 0) then (bif (s_.y == 0) then (bif (s_.title.toList == (ByteArray.mk #[]).toList) then (bif ((s_.rows.length:Int) == 0) then (bif (s_.len == 0) then (bif (s_.chain == 0) then some ((s_.begun.length:Int) == 0) else some false) else some false) else some false) else some false) else some false) else some false) else some false) else some false) else some false):Option Bool) fun a=>some a)
noncomputable def eU (n_:Int) (lo:Int) (hi:Int):Option Bool :=
 (Option.bind ((bif (decide (n_≥lo)) then some (decide (n_≤hi)) else some false):Option Bool) fun e4=>some e4)
noncomputable def kg (s_:aI):Option Bool :=
 (Option.bind ((Option.bind (eU s_.k 1 1152921504606846976) fun a=>(bif a then (Option.bind (eU s_.w 1 1000) fun b=>(bif b then (Option.bind (eU s_.h 1 1000) fun c=>(bif c then (Option.bind (eU s_.x 0 (IntKind.i64.wrap (s_.w - 1))) fun d=>(bif d then (Option.bind (eU s_.y 0 (IntKind.i64.wrap (s_.h - 1))) fun e=>(bif e then (bif ((s_.rows.length:Int) == s_.h) then (bif (decide ((s_.title.size:Int)≤200)) then (Option.bind (eU s_.len 0 1152921504606846976) fun f=>(bif f then (Option.bind (eU s_.chain 0 281474976710656) fun g=>(bif g then some (decide ((s_.begun.length:Int)≤1024)) else some false)) else some false)) else some false) else some false) else some false)) else some false)) else some false)) else some false)) else some false)):Option Bool) fun i=>some i)
noncomputable def l9 (r_:Int) (aL:Int):Option Bool :=
 (Option.bind ((Option.bind (eU (IntKind.i64.wrap r_) 0 1114111) fun a=>(bif a then (Option.bind (eU aL 0 647) fun b=>some b) else some false)):Option Bool) fun c=>some c)
noncomputable def jh (g:aJ):Option Bool :=
 (Option.bind (l9 g.rune g.aL) fun r2=>some (!r2))
noncomputable def dL (s_:List aJ):Option Int :=
 (Option.bind (iter (σ:=Int) (ρ:=Unit ⊕ Int) (fun a=>(bif (decide (a < (s_.length:Int))) then (Option.bind (idx s_ a) fun b=>(Option.bind (jh b) fun c=>(bif c then (kY (some a)) else some (.inl (IntKind.i64.wrap (a+1)))))) else some (.inr (.inl ())))) 0) fun | .inl e77=>some (-1) | .inr w=>some w)
noncomputable def cJ (s_:List aJ):Option Bool :=
 (Option.bind (dL s_) fun r1=>some (decide (r1≥0)))
noncomputable def nY (c:aG):Option Bool :=
 (Option.bind ((Option.bind (l9 c.rune c.aL) fun a=>(bif a then (Option.bind (eU c.part 0 3) fun b=>some b) else some false)):Option Bool) fun d=>some d)
noncomputable def ji (c:aG):Option Bool :=
 (Option.bind (nY c) fun r2=>some (!r2))
noncomputable def dS (s_:List aG):Option Int :=
 (Option.bind (iter (σ:=Int) (ρ:=Unit ⊕ Int) (fun a=>(bif (decide (a < (s_.length:Int))) then (Option.bind (idx s_ a) fun b=>(Option.bind (ji b) fun c=>(bif c then (kY (some a)) else some (.inl (IntKind.i64.wrap (a+1)))))) else some (.inr (.inl ())))) 0) fun | .inl e77=>some (-1) | .inr w=>some w)
noncomputable def bY (s_:List aG):Option Bool :=
 (Option.bind (dS s_) fun r1=>some (decide (r1≥0)))
noncomputable def eV (s_:aI):Option Int :=
 (Option.bind (gV s_) fun r2=>(bif r2 then some 0 else (Option.bind ((Option.bind (kg s_) fun c=>(bif (!c) then some true else (Option.bind (cJ s_.begun) fun d=>some d))):Option Bool) fun e=>(bif e then some 1 else (Option.bind (iter (σ:=Int) (ρ:=Unit ⊕ Int) (fun a=>(bif (decide (a < (s_.rows.length:Int))) then (Option.bind (idx s_.rows a) fun b=>(Option.bind ((bif ((b.cells.length:Int) != s_.w) then some true else (Option.bind (bY b.cells) fun f=>some f)):Option Bool) fun g=>(bif g then (kY (some 1)) else some (.inl (IntKind.i64.wrap (a+1)))))) else some (.inr (.inl ())))) 0) fun | .inl e212=>some 0 | .inr w=>some w)))))
noncomputable def qF (is:Bool):Option Int :=
 (bif is then some 1 else some 0)
noncomputable def po (l:List aG):Option (List aG) :=
 some l
noncomputable def nS {σ:Type} (Y:σ→(Int×aG)→Option (σ×Bool)) (y0:σ) (x1:List aG):Option (σ×(List aG)) :=
 (Option.bind (iter (σ:=(List aG)×σ) (ρ:=((List aG)×σ) ⊕ (σ×(List aG))) (fun a=>(bif (decide ((a.1.length:Int) > 0)) then (Option.bind (iter (σ:=Int) (ρ:=Int) (fun b=>(Option.bind ((bif (decide (b < (a.1.length:Int))) then (Option.bind (idx a.1 b) fun c=>(Option.bind (idx a.1 0) fun d=>some ((c.rune == d.rune) && ((c.aL == d.aL) && ((c.part == d.part) && true))))) else some false):Option Bool) fun f=>(bif f then some (.inl (IntKind.i64.wrap (b+1))) else some (.inr b)))) 1) fun e=>(Option.bind (idx a.1 0) fun g=>(Option.bind (Y a.2 (e,g)) fun z1399=>(bif (!z1399.2) then (kY (some (z1399.1,a.1))) else (Option.bind (chk (dB e (a.1.length:Int) a.1.length)) fun _=>some (.inl ((cut a.1 e (a.1.length:Int)),z1399.1))))))) else some (.inr (.inl (a.1,a.2))))) (x1,y0)) fun | .inl e1058=>some (e1058.2,e1058.1) | .inr w=>some w)
noncomputable def jG (r_:aE):Option ByteArray :=
 (Option.bind (qF r_.wrapped) fun r3=>(Option.bind (cX (cE.mk ([]:List Int)) [r3]) fun b=>(Option.bind (po r_.cells) fun c=>(Option.bind (nS (fun d a=>(Option.bind (cX d [a.1,(IntKind.i64.wrap a.2.rune),a.2.aL,a.2.part]) fun e=>some (e,true))) (b:cE) c) fun f=>(Option.bind (hU f.1) fun g=>some g)))))
noncomputable def jE (s_:aI):Option ByteArray :=
 (Option.bind ((Option.bind (gV s_) fun b=>(bif b then some true else (Option.bind (eV s_) fun c=>some (c != 0)))):Option Bool) fun d=>(bif d then some (ByteArray.mk #[]) else (Option.bind (cX (cE.mk ([]:List Int)) [s_.k,s_.w,s_.h,s_.x,s_.y]) fun e=>(Option.bind (kL e [s_.title]) fun f=>(Option.bind (cX f [s_.len,s_.chain]) fun g=>(Option.bind (lT s_.begun) fun i=>(Option.bind (gM g [i]) fun j=>(Option.bind (iter (σ:=cE×Int) (ρ:=cE) (fun a=>(bif (decide (a.2 < (s_.rows.length:Int))) then (Option.bind (idx s_.rows a.2) fun l=>(Option.bind (jG l) fun m=>(Option.bind (gM a.1 [m]) fun n=>some (.inl (n,(IntKind.i64.wrap (a.2+1))))))) else some (.inr a.1))) (j,0)) fun o=>(Option.bind (hU o) fun p=>some p)))))))))
noncomputable def wR (in_:aT):Option (Int×aT) :=
 (Option.bind (bT in_) fun r1=>(bif (decide (r1.1 > 1000)) then (Option.bind (bR r1.2 1) fun r9=>some (0,r9)) else some (r1.1,r1.2)))
noncomputable def nL (in_:aT) (left:Int):Option (Int×aG×Bool×aT) :=
 (Option.bind (bT in_) fun r2=>(Option.bind ((bif (r2.1 == 0) then some true else some (decide (r2.1 > left))):Option Bool) fun e8=>(Option.bind ((bif e8 then (Option.bind (bR r2.2 1) fun f=>some f) else some r2.2):Option aT) fun c=>(Option.bind (iter (σ:=mG×aT×Int) (ρ:=mG×aT) (fun a=>(bif (decide (a.2.2 < 3)) then (Option.bind ((Option.bind (idx [1114111,647,3] a.2.2) fun g=>(Option.bind (bT a.2.1) fun b=>(Option.bind (chk (Hq a.2.2 3)) fun _=>(Option.bind (chk (Hq a.2.2 3)) fun _=>(Option.bind (idx [(sel a.2.2 0 b.1 a.1.e0),(sel a.2.2 1 b.1 a.1.e1),(sel a.2.2 2 b.1 a.1.e2)] a.2.2) fun h=>(bif (decide (h > g)) then (Option.bind (bR b.2 1) fun i=>some ((mG.mk (sel a.2.2 0 b.1 a.1.e0) (sel a.2.2 1 b.1 a.1.e1) (sel a.2.2 2 b.1 a.1.e2)),i)) else some ((mG.mk (sel a.2.2 0 b.1 a.1.e0) (sel a.2.2 1 b.1 a.1.e1) (sel a.2.2 2 b.1 a.1.e2)),b.2))))))):Option (mG×aT)) fun e=>some (.inl (e.1,e.2,(IntKind.i64.wrap (a.2.2+1))))) else some (.inr (a.1,a.2.1)))) ((mG.mk 0 0 0),c,0)) fun d=>(Option.bind (dR d.2) fun j=>(bif (j != 0) then some (0,(aG.mk 0 0 0),false,d.2) else some (r2.1,(aG.mk (IntKind.i32.wrap d.1.e0) d.1.e1 d.1.e2),true,d.2)))))))
noncomputable def kS (in_:aT) (w:Int):Option (aE×aT) :=
 (Option.bind (bT in_) fun r2=>(Option.bind ((bif (decide (r2.1 > 1)) then (Option.bind (bR r2.2 1) fun f=>some f) else some r2.2):Option aT) fun g=>(Option.bind (iter (σ:=aT×(List aG)) (ρ:=(List aG)×aT) (fun a=>(Option.bind ((bif (decide ((a.2.length:Int) < w)) then (Option.bind (dR a.1) fun h=>some (h == 0)) else some false):Option Bool) fun i=>(bif i then (Option.bind (nL a.1 (IntKind.i64.wrap (w - (a.2.length:Int)))) fun b=>(bif (!b.2.2.1) then some (.inl (b.2.2.2,a.2)) else (Option.bind ((bif (decide ((a.2.length:Int) > 0)) then (Option.bind (idx a.2 (IntKind.i64.wrap ((a.2.length:Int) - 1))) fun d=>some ((d.rune == b.2.1.rune) && ((d.aL == b.2.1.aL) && ((d.part == b.2.1.part) && true)))) else some false):Option Bool) fun j=>(bif j then (Option.bind (bR b.2.2.2 1) fun k=>some (.inl (k,a.2))) else (Option.bind (eG [b.2.1] b.1) fun e=>(Option.bind (chk (eO a.2.length e.length 24)) fun _=>some (.inl (b.2.2.2,(a.2++e))))))))) else some (.inr (a.2,a.1))))) (g,[])) fun c=>(Option.bind (dR c.2) fun l=>(bif (l != 0) then some ((aE.mk ([]:List aG) false),c.2) else some ((aE.mk c.1 (r2.1 == 1)),c.2))))))
noncomputable def iA (s_:aI) (t_:aI):Option Bool :=
 (Option.bind ((bif (s_.k == t_.k) then (bif (s_.w == t_.w) then (bif (s_.h == t_.h) then (bif (s_.x == t_.x) then (bif (s_.y == t_.y) then (bif (s_.title.toList == t_.title.toList) then (bif (s_.len == t_.len) then (bif (s_.chain == t_.chain) then (Option.bind (dI s_.rows t_.rows) fun a=>(bif a then (Option.bind (gp s_.begun t_.begun) fun b=>some b) else some false)) else some false) else some false) else some false) else some false) else some false) else some false) else some false) else some false):Option Bool) fun c=>some c)
noncomputable def gW (s_:aI):Option aI :=
 (Option.bind (iter (σ:=(List aE)×Int) (ρ:=(List aE)) (fun a=>(bif (decide (a.2 < (s_.rows.length:Int))) then (Option.bind (idx s_.rows a.2) fun b=>(Option.bind (eP b.cells) fun c=>(Option.bind (chk (eO a.1.length [(aE.mk c b.wrapped)].length 32)) fun _=>some (.inl ((a.1++[(aE.mk c b.wrapped)]),(IntKind.i64.wrap (a.2+1))))))) else some (.inr a.1))) ([],0)) fun d=>(Option.bind (bZ s_.begun) fun e=>some (aI.mk s_.k s_.w s_.h s_.x s_.y s_.title d s_.len s_.chain e)))
noncomputable def jR (s_:aI):Option Int :=
 (Option.bind (jE s_) fun r2=>(Option.bind (pV [r2]) fun r7=>some (IntKind.i64.wrap r7)))
end Go.Tw.X
set_option linter.unusedVariables false
set_option linter.unusedSimpArgs false
set_option maxRecDepth 10000
namespace Go.Tw.X
open Go Go.Tw
structure bO where
 sum:Int
 to:aI
 rows:Mp aE
 deriving DecidableEq,Inhabited
noncomputable def kh (s_:aI):Option Bool :=
 (Option.bind (jE s_) fun r2=>some (!(r2.toList == (ByteArray.mk #[]).toList)))
noncomputable def jS (a:aI) (b:aI):Option (aI×aI) :=
 some (b,a)
noncomputable def iF (s_:aI) (y:Int):Option (aE×Bool) :=
 (Option.bind ((bif (decide (y < 0)) then some true else some (decide (y≥(s_.rows.length:Int)))):Option Bool) fun e6=>(bif e6 then some ((aE.mk ([]:List aG) false),false) else (Option.bind (idx s_.rows y) fun a=>some (a,true))))
noncomputable def gX {σ:Type} (Y:σ→(Int×aE)→Option (σ×Bool)) (y0:σ) (x1:aI) (x2:aI):Option σ :=
 (Option.bind (iter (σ:=Int×σ) (ρ:=σ ⊕ σ) (fun a=>(bif (decide (a.1 < (x1.rows.length:Int))) then (Option.bind ((Option.bind (idx x1.rows a.1) fun b=>(Option.bind (iF x2 a.1) fun c=>(Option.bind ((bif c.2 then (Option.bind (iM c.1 b) fun d=>some d) else some false):Option Bool) fun e=>(bif e then some (.inl a.2) else (Option.bind (Y a.2 (a.1,b)) fun z546=>(bif (!z546.2) then (kK (kY (some z546.1))) else some (.inl z546.1))))))):Option (σ ⊕ ((Int×σ) ⊕ (σ ⊕ σ)))) fun | .inl e506=>some (.inl ((IntKind.i64.wrap (a.1+1)),e506)) | .inr w=>some w) else some (.inr (.inl a.2)))) (0,y0)) fun | .inl e412=>some e412 | .inr w=>some w)
noncomputable def lu (a:aI) (b:aI):Option (List Int) :=
 (Option.bind (jS a b) fun r4=>(Option.bind (gX (fun c d=>(Option.bind (chk (eO c.length [d.1].length 8)) fun _=>some ((c++[d.1]),true))) ([]:(List Int)) r4.1 r4.2) fun e=>some e))
noncomputable def m7 (a:aI) (b:aI):Option ByteArray :=
 (Option.bind ((Option.bind (eV a) fun f=>(bif (f != 0) then some true else (Option.bind (kh b) fun c=>some (!c)))):Option Bool) fun g=>(bif g then some (ByteArray.mk #[]) else (Option.bind (jR a) fun i=>(Option.bind (cX (cE.mk ([]:List Int)) [i,b.k,b.w,b.h,b.x,b.y]) fun j=>(Option.bind (kL j [b.title]) fun l=>(Option.bind (cX l [b.len,b.chain]) fun m=>(Option.bind (lT b.begun) fun n=>(Option.bind (gM m [n]) fun o=>(Option.bind (lu a b) fun p=>(Option.bind (cX o [(p.length:Int)]) fun q=>(Option.bind (jS a b) fun d=>(Option.bind (gX (fun r e=>(Option.bind (cX r [e.1]) fun s=>(Option.bind (jG e.2) fun t=>(Option.bind (gM s [t]) fun u=>some (u,true))))) (q:cE) d.1 d.2) fun v=>(Option.bind (hU v) fun z=>some z)))))))))))))
noncomputable def la (in_:aT):Option (Int×aT) :=
 (Option.bind (bT in_) fun r1=>(bif (decide (r1.1 > 1000)) then (Option.bind (bR r1.2 1) fun r9=>some (0,r9)) else some (r1.1,r1.2)))
noncomputable def m8 (s_:ByteArray):Option (bO×Int) :=
 (Option.bind (uN s_) fun r2=>(Option.bind (bT r2) fun r6=>(Option.bind (bT r6.2) fun d=>(Option.bind (la d.2) fun e=>(Option.bind (la e.2) fun f=>(Option.bind (bT f.2) fun g=>(Option.bind (bT g.2) fun i=>(Option.bind (lD i.2) fun j=>(Option.bind (bT j.2) fun l=>(Option.bind (bT l.2) fun m=>(Option.bind (mR m.2) fun n=>(Option.bind (bT n.2) fun o=>(Option.bind (iter (σ:=bO×aT×Int×Int) (ρ:=aT×bO) (fun a=>(Option.bind ((bif (decide (a.2.2.2 > 0)) then (Option.bind (dR a.2.1) fun q=>some (q == 0)) else some false):Option Bool) fun r=>(bif r then (Option.bind (bT a.2.1) fun c=>(Option.bind ((bif (decide (c.1≤a.2.2.1)) then some true else some (decide (c.1≥a.1.to.h))):Option Bool) fun s=>(Option.bind ((bif s then (Option.bind (bR c.2 1) fun t=>some t) else some c.2):Option aT) fun u=>(Option.bind (kS u a.1.to.w) fun p=>(Option.bind (chk a.1.rows.isSome) fun _=>some (.inl ((bO.mk a.1.sum (aI.mk a.1.to.k a.1.to.w a.1.to.h a.1.to.x a.1.to.y a.1.to.title ([]:List aE) a.1.to.len a.1.to.chain a.1.to.begun) (Ki a.1.rows c.1 p.1)),p.2,c.1,(IntKind.i64.wrap (a.2.2.2 - 1))))))))) else some (.inr (a.2.1,(bO.mk a.1.sum (aI.mk a.1.to.k a.1.to.w a.1.to.h a.1.to.x a.1.to.y a.1.to.title ([]:List aE) a.1.to.len a.1.to.chain a.1.to.begun) a.1.rows)))))) ((bO.mk r6.1 (aI.mk d.1 e.1 f.1 g.1 i.1 j.1 ([]:List aE) l.1 m.1 n.1) (some []:Mp aE)),o.2,(-1),o.1)) fun b=>(Option.bind (m4 b.1) fun v=>some ((bO.mk b.2.sum (aI.mk b.2.to.k b.2.to.w b.2.to.h b.2.to.x b.2.to.y b.2.to.title ([]:List aE) b.2.to.len b.2.to.chain b.2.to.begun) b.2.rows),v)))))))))))))))
noncomputable def fQ (p:bO) (a:aI):Option (Bool×bO) :=
 (Option.bind (iter (σ:=bO×Int) (ρ:=bO ⊕ (Bool×bO)) (fun b=>(bif (decide (b.2 < p.to.h)) then (Option.bind (iF a b.2) fun c=>(Option.bind ((Option.bind ((bif (rB b.1.rows b.2) then (bif c.2 then (Option.bind (iM c.1 (mgd b.1.rows b.2 (aE.mk ([]:List aG) false))) fun e=>some e) else some false) else some false):Option Bool) fun d=>(Option.bind ((bif d then some d else (bif (!(rB b.1.rows b.2)) then some (!c.2) else some false)):Option Bool) fun f=>(bif f then (kK (kY (some (false,(bO.mk b.1.sum (aI.mk b.1.to.k b.1.to.w b.1.to.h b.1.to.x b.1.to.y b.1.to.title b.1.to.rows b.1.to.len b.1.to.chain b.1.to.begun) b.1.rows))))) else (bif (!(rB b.1.rows b.2)) then some (.inl c.1) else some (.inl (mgd b.1.rows b.2 (aE.mk ([]:List aG) false))))))):Option (aE ⊕ ((bO×Int) ⊕ (bO ⊕ (Bool×bO))))) fun | .inl e1033=>(Option.bind (chk (eO b.1.to.rows.length [e1033].length 32)) fun _=>some (.inl ((bO.mk b.1.sum (aI.mk b.1.to.k b.1.to.w b.1.to.h b.1.to.x b.1.to.y b.1.to.title (b.1.to.rows++[e1033]) b.1.to.len b.1.to.chain b.1.to.begun) b.1.rows),(IntKind.i64.wrap (b.2+1))))) | .inr w=>some w)) else some (.inr (.inl (bO.mk b.1.sum (aI.mk b.1.to.k b.1.to.w b.1.to.h b.1.to.x b.1.to.y b.1.to.title b.1.to.rows b.1.to.len b.1.to.chain b.1.to.begun) b.1.rows))))) (p,0)) fun | .inl e816=>(Option.bind (kh (aI.mk e816.to.k e816.to.w e816.to.h e816.to.x e816.to.y e816.to.title e816.to.rows e816.to.len e816.to.chain e816.to.begun)) fun g=>some (g,(bO.mk e816.sum (aI.mk e816.to.k e816.to.w e816.to.h e816.to.x e816.to.y e816.to.title e816.to.rows e816.to.len e816.to.chain e816.to.begun) e816.rows))) | .inr w=>some w)
noncomputable def lF (a:aI) (s_:ByteArray):Option (aI×Int) :=
 (Option.bind (eV a) fun r3=>(bif (r3 != 0) then some ((aI.mk 0 0 0 0 0 (ByteArray.mk #[]) ([]:List aE) 0 0 ([]:List aJ)),1) else (Option.bind (m8 s_) fun b=>(bif (b.2 != 0) then some ((aI.mk 0 0 0 0 0 (ByteArray.mk #[]) ([]:List aE) 0 0 ([]:List aJ)),b.2) else (Option.bind (jR a) fun d=>(bif (b.1.sum != d) then some ((aI.mk 0 0 0 0 0 (ByteArray.mk #[]) ([]:List aE) 0 0 ([]:List aJ)),7) else (Option.bind (fQ b.1 a) fun c=>(bif (!c.1) then some ((aI.mk 0 0 0 0 0 (ByteArray.mk #[]) ([]:List aE) 0 0 ([]:List aJ)),1) else (Option.bind (gW c.2.to) fun e=>some (e,0))))))))))
end Go.Tw.X
set_option linter.unusedVariables false
set_option linter.unusedSimpArgs false
set_option maxRecDepth 10000
namespace Go.Tw.X
open Go Go.Tw
structure eR where
 L5:Int
 kind:Int
 bH:List Int
 data:ByteArray
 deriving DecidableEq,Inhabited
noncomputable def pI (n_:Int) (lo:Int) (hi:Int):Option Bool :=
 (Option.bind ((bif (decide (n_≥lo)) then some (decide (n_≤hi)) else some false):Option Bool) fun e4=>some e4)
noncomputable def om (g:eR) (i:Int):Option Int :=
 (Option.bind (pI i 0 (IntKind.i64.wrap ((g.bH.length:Int) - 1))) fun r2=>(bif (!r2) then some 0 else (Option.bind (idx g.bH i) fun x7=>some x7)))
end Go.Tw.X
set_option linter.unusedVariables false
set_option linter.unusedSimpArgs false
set_option maxRecDepth 10000
namespace Go.Tw.X
open Go Go.Tw
structure bA where
 book:cC
 parser:aH
 aR:aB
 k:Int
 deriving DecidableEq,Inhabited
structure ky where
 kind:Int
 text:ByteArray
 w:Int
 h:Int
 deriving DecidableEq,Inhabited
noncomputable def mT (w:Int) (h_:Int):Option bA :=
 (Option.bind qE fun r1=>(Option.bind (l8 w h_) fun a=>some (bA.mk r1 (aH.mk 0 (fE.mk false false false false 0 ([]:List Int)) (ByteArray.mk #[]) (bQ.mk 0 0 0) ([]:List aZ)) (aB.mk a.g a.spot a.saved a.waiting a.top a.aK a.aX a.title) 0)))
noncomputable def dO (m_:bA):Option (aI×bA) :=
 (Option.bind (sK (IntKind.i64.wrap (m_.k+1)) (aB.mk m_.aR.g m_.aR.spot m_.aR.saved m_.aR.waiting m_.aR.top m_.aR.aK m_.aR.aX m_.aR.title) m_.book) fun a=>some (a.1,(bA.mk m_.book m_.parser (aB.mk a.2.g a.2.spot a.2.saved a.2.waiting a.2.top a.2.aK a.2.aX a.2.title) m_.k)))
noncomputable def jj (e:ky):Option Int :=
 (Option.bind ((bif (e.kind == 0) then (bif (decide ((e.text.size:Int) > 1048576)) then (kK (some 3)) else some (.inl ())) else (bif (e.kind == 1) then (Option.bind ((bif (decide (e.w < 1)) then some true else (bif (decide (e.w > 1000)) then some true else (bif (decide (e.h < 1)) then some true else some (decide (e.h > 1000))))):Option Bool) fun a=>(bif a then (kK (some 6)) else some (.inl ()))) else (kK (some 5)))):Option (Unit ⊕ Int)) fun | .inl e36=>some 0 | .inr w=>some w)
noncomputable def lL (m_:bA) (text:ByteArray):Option ByteArray :=
 some text
noncomputable def jk {σ:Type} (Y:σ→(List aE)→Option (σ×Bool)) (y0:σ) (x1:bA) (x2:ByteArray):Option (σ×bA) :=
 (Option.bind (ka x1.parser x2) fun b=>(Option.bind (iter (σ:=aB×Int×σ) (ρ:=(aB×σ) ⊕ (σ×bA)) (fun a=>(bif (decide (a.2.1 < (b.1.length:Int))) then (Option.bind (idx b.1 a.2.1) fun d=>(Option.bind (gB a.1 d) fun c=>(Option.bind (Y a.2.2 c.1) fun z528=>(bif (!z528.2) then (kY (some (z528.1,(bA.mk x1.book b.2 c.2 x1.k)))) else some (.inl (c.2,(IntKind.i64.wrap (a.2.1+1)),z528.1)))))) else some (.inr (.inl (a.1,a.2.2))))) (x1.aR,0,y0)) fun | .inl e413=>some (e413.2,(bA.mk x1.book b.2 e413.1 x1.k)) | .inr w=>some w))
noncomputable def dZ (m_:bA) (e:ky):Option (Int×bA) :=
 (Option.bind (jj e) fun r3=>(bif (r3 != 0) then some (r3,m_) else (Option.bind ((bif (e.kind == 1) then (Option.bind (gU m_.aR e.w e.h) fun c=>(Option.bind (jb m_.book c.1) fun d=>some (bA.mk d.2 m_.parser c.2 m_.k))) else (Option.bind (lL m_ e.text) fun f=>(Option.bind (jk (fun g i=>(Option.bind (jb g i) fun j=>some (j.2,true))) (m_.book:cC) m_ f) fun a=>some (bA.mk a.1 a.2.parser a.2.aR a.2.k)))):Option bA) fun b=>some (0,(bA.mk b.book b.parser b.aR (IntKind.i64.wrap (b.k+1)))))))
end Go.Tw.X
set_option linter.unusedVariables false
set_option linter.unusedSimpArgs false
set_option maxRecDepth 10000
namespace Go.Tw.X
open Go Go.Tw
structure cG where
 key:Int
 count:Int
 parts:Mp ByteArray
 bytes:Int
 deriving DecidableEq,Inhabited
noncomputable def mm (s_:ByteArray) (size:Int):Option (List ByteArray) :=
 (Option.bind (iter (σ:=ByteArray×(List ByteArray)) (ρ:=ByteArray×(List ByteArray)) (fun a=>(bif (decide ((a.1.size:Int) > (imax 1 (eN size 8000)))) then (Option.bind (chk (dB 0 (imax 1 (eN size 8000)) a.1.size)) fun _=>(Option.bind (chk (eO a.2.length [(ie a.1 0 (imax 1 (eN size 8000)))].length 16)) fun _=>(Option.bind (chk (dB (imax 1 (eN size 8000)) (a.1.size:Int) a.1.size)) fun _=>some (.inl ((ie a.1 (imax 1 (eN size 8000)) (a.1.size:Int)),(a.2++[(ie a.1 0 (imax 1 (eN size 8000)))])))))) else some (.inr (a.1,a.2)))) (s_,[])) fun b=>(Option.bind (chk (eO b.2.length [b.1].length 16)) fun _=>some (b.2++[b.1])))
noncomputable def kT (s_:cG) (key:Int) (index:Int) (count:Int) (data:ByteArray):Option (Int×cG) :=
 (Option.bind ((Option.bind ((bif (decide (count < 1)) then some true else (bif (decide (count > 4096)) then some true else (bif (decide (index < 0)) then some true else (bif (decide (index≥count)) then some true else some (decide (key < 1)))))):Option Bool) fun a=>(bif a then (kK (some (6,s_))) else (bif (decide (key < s_.key)) then (kK (some (8,s_))) else (bif (decide (key > s_.key)) then some (.inl (cG.mk key count (some []:Mp ByteArray) 0)) else (bif (count != s_.count) then (kK (some (1,s_))) else some (.inl s_)))))):Option (cG ⊕ (Int×cG))) fun | .inl e48=>(Option.bind ((bif (!(rB e48.parts index)) then (Option.bind (chk e48.parts.isSome) fun _=>some (cG.mk e48.key e48.count (Ki e48.parts index data) (IntKind.i64.wrap (e48.bytes+(data.size:Int))))) else some e48):Option cG) fun b=>some (0,b)) | .inr w=>some w)
noncomputable def iZ {σ:Type} (s_:cG) (Y:σ→(Int×Bool)→Option (σ×Bool)) (y0:σ):Option σ :=
 (Option.bind (iter (σ:=Int×σ) (ρ:=σ ⊕ σ) (fun a=>(bif (decide (a.1 < s_.count)) then (Option.bind (Y a.2 (a.1,(rB s_.parts a.1))) fun z64=>(bif (!z64.2) then (kY (some z64.1)) else some (.inl ((IntKind.i64.wrap (a.1+1)),z64.1)))) else some (.inr (.inl a.2)))) (0,y0)) fun | .inl e49=>some e49 | .inr w=>some w)
noncomputable def lb (s_:cG):Option Int :=
 some s_.count
noncomputable def gC (s_:cG) (there:Bool):Option (List Int) :=
 (Option.bind (iZ s_ (fun s32 x3=>(bif (x3.2 == there) then (Option.bind (chk (eO s32.length [x3.1].length 8)) fun _=>some ((s32++[x3.1]),true)) else some (s32,true))) ([]:(List Int))) fun a=>some a)
noncomputable def ki (s_:cG):Option (List Int) :=
 (Option.bind (gC s_ true) fun r1=>some r1)
noncomputable def nM (s_:cG):Option Int :=
 some s_.key
noncomputable def jH (s_:cG):Option (ByteArray×Bool) :=
 (Option.bind ((bif (s_.key == 0) then some true else some (decide (((Kh s_.parts:Nat):Int) < s_.count))):Option Bool) fun e7=>(bif e7 then some ((ByteArray.mk #[]),false) else (Option.bind (iZ s_ (fun a d=>(Option.bind (eW (cT.mk a.addr a.buf) (mgd s_.parts d.1 (ByteArray.mk #[]))) fun b=>some ((cT.mk b.addr b.buf),true))) ((cT.mk false ([]:List Int)):cT)) fun c=>(Option.bind (kv (cT.mk c.addr c.buf)) fun e=>some (e,true)))))
noncomputable def kG (s_:cG):Option cG :=
 some (cG.mk 0 0 none 0)
noncomputable def jI (s_:cG):Option (List Int) :=
 (Option.bind (gC s_ false) fun r1=>some r1)
end Go.Tw.X
set_option linter.unusedVariables false
set_option linter.unusedSimpArgs false
set_option maxRecDepth 10000
namespace Go.Tw.X
open Go Go.Tw
structure dF where
 part:Int
 every:Int
 most:Int
 deriving DecidableEq,Inhabited
structure bU where
 id:Int
 key:Int
 base:Int
 parts:List ByteArray
 there:List Bool
 due:Int
 deriving DecidableEq,Inhabited
structure aP where
 config:dF
 current:aI
 aY:aI
 kept:List aI
 message:bU
 next:Int
 deriving DecidableEq,Inhabited
noncomputable def mq (n_:Int) (lo:Int) (hi:Int):Option Int :=
 some (imax lo (eN n_ hi))
noncomputable def lU (c:dF):Option dF :=
 (Option.bind (mq c.part 1 8000) fun a=>(Option.bind (mq c.every 1 1048576) fun b=>(Option.bind (mq c.most 1 64) fun d=>some (dF.mk a b d))))
noncomputable def m9 (c:dF):Option aP :=
 (Option.bind (lU c) fun r2=>some (aP.mk r2 (aI.mk 0 0 0 0 0 (ByteArray.mk #[]) ([]:List aE) 0 0 ([]:List aJ)) (aI.mk 0 0 0 0 0 (ByteArray.mk #[]) ([]:List aE) 0 0 ([]:List aJ)) ([]:List aI) (bU.mk 0 0 0 ([]:List ByteArray) ([]:List Bool) 0) 1))
noncomputable def fI (s_:aP) (x_:aI):Option (Bool×aP) :=
 (Option.bind ((Option.bind (eV x_) fun a=>(bif (a != 0) then some true else some (decide (x_.k≤s_.current.k)))):Option Bool) fun b=>(bif b then some (false,s_) else (Option.bind (gW x_) fun c=>some (true,(aP.mk s_.config c s_.aY s_.kept s_.message s_.next)))))
noncomputable def fJ (x_:aI) (x1:aP):Option Bool :=
 some (x_.k == x1.current.k)
noncomputable def cZ (s_:List aI) (f_0:aP):Option Int :=
 (Option.bind (iter (σ:=Int) (ρ:=Unit ⊕ Int) (fun a=>(bif (decide (a < (s_.length:Int))) then (Option.bind (idx s_ a) fun b=>(Option.bind (fJ b f_0) fun c=>(bif c then (kY (some a)) else some (.inl (IntKind.i64.wrap (a+1)))))) else some (.inr (.inl ())))) 0) fun | .inl e113=>some (-1) | .inr w=>some w)
noncomputable def cB (s_:List aI) (f_0:aP):Option Bool :=
 (Option.bind (cZ s_ f_0) fun r1=>some (decide (r1≥0)))
noncomputable def fZ (s_:aP) (now:Int):Option aP :=
 (Option.bind (m7 s_.aY s_.current) fun c=>(Option.bind (mm c s_.config.part) fun b=>(Option.bind (chk (F4 (b.length:Int) 1)) fun _=>(Option.bind (cB s_.kept (aP.mk s_.config s_.current s_.aY s_.kept (bU.mk s_.next s_.current.k s_.aY.k b (List.replicate (b.length:Int).toNat false) now) (IntKind.i64.wrap (s_.next+1)))) fun d=>(Option.bind ((bif (!d) then (Option.bind (chk (eO s_.kept.length [s_.current].length 120)) fun _=>some (aP.mk s_.config s_.current s_.aY (s_.kept++[s_.current]) (bU.mk s_.next s_.current.k s_.aY.k b (List.replicate (b.length:Int).toNat false) now) (IntKind.i64.wrap (s_.next+1)))) else some (aP.mk s_.config s_.current s_.aY s_.kept (bU.mk s_.next s_.current.k s_.aY.k b (List.replicate (b.length:Int).toNat false) now) (IntKind.i64.wrap (s_.next+1)))):Option aP) fun a=>(Option.bind (chk (dB (imax 0 (IntKind.i64.wrap ((a.kept.length:Int) - a.config.most))) (a.kept.length:Int) a.kept.length)) fun _=>some (aP.mk (dF.mk a.config.part a.config.every a.config.most) (aI.mk a.current.k a.current.w a.current.h a.current.x a.current.y a.current.title a.current.rows a.current.len a.current.chain a.current.begun) (aI.mk a.aY.k a.aY.w a.aY.h a.aY.x a.aY.y a.aY.title a.aY.rows a.aY.len a.aY.chain a.aY.begun) (cut a.kept (imax 0 (IntKind.i64.wrap ((a.kept.length:Int) - a.config.most))) (a.kept.length:Int)) (bU.mk a.message.id a.message.key a.message.base a.message.parts a.message.there a.message.due) a.next)))))))
noncomputable def gY {σ:Type} (m_:bU) (Y:σ→(Int×ByteArray)→Option (σ×Bool)) (y0:σ):Option σ :=
 (Option.bind (iter (σ:=Int×σ) (ρ:=σ ⊕ σ) (fun a=>(bif (decide (a.1 < (m_.parts.length:Int))) then (Option.bind (idx m_.parts a.1) fun c=>(Option.bind ((Option.bind (idx m_.there a.1) fun d=>(bif (!d) then (Option.bind (Y a.2 (a.1,c)) fun z377=>some ((!z377.2),z377.1)) else some (false,a.2))):Option (Bool×σ)) fun b=>(bif b.1 then (kY (some b.2)) else some (.inl ((IntKind.i64.wrap (a.1+1)),b.2))))) else some (.inr (.inl a.2)))) (0,y0)) fun | .inl e284=>some e284 | .inr w=>some w)
noncomputable def fK (s_:aP) (now:Int):Option ((List eR)×aP) :=
 (bif (s_.current.k == s_.aY.k) then some (([]:List eR),(aP.mk s_.config s_.current s_.aY s_.kept (bU.mk 0 0 0 ([]:List ByteArray) ([]:List Bool) 0) s_.next)) else (Option.bind ((bif (s_.message.id == 0) then some true else (bif (s_.message.key != s_.current.k) then some true else some (s_.message.base != s_.aY.k))):Option Bool) fun d=>(Option.bind ((bif d then (Option.bind (fZ s_ now) fun e=>some e) else some s_):Option aP) fun a=>(bif (decide (now < a.message.due)) then some (([]:List eR),(aP.mk (dF.mk a.config.part a.config.every a.config.most) (aI.mk a.current.k a.current.w a.current.h a.current.x a.current.y a.current.title a.current.rows a.current.len a.current.chain a.current.begun) (aI.mk a.aY.k a.aY.w a.aY.h a.aY.x a.aY.y a.aY.title a.aY.rows a.aY.len a.aY.chain a.aY.begun) a.kept (bU.mk a.message.id a.message.key a.message.base a.message.parts a.message.there a.message.due) a.next)) else (Option.bind (gY (bU.mk a.message.id a.message.key a.message.base a.message.parts a.message.there (IntKind.i64.wrap (now+a.config.every))) (fun c b=>(Option.bind (chk (eO c.length ([(eR.mk 1 1 [a.message.id,a.message.key,a.message.base,b.1,(a.message.parts.length:Int)] b.2)]).length 56)) fun _=>some ((c++[(eR.mk 1 1 [a.message.id,a.message.key,a.message.base,b.1,(a.message.parts.length:Int)] b.2)]),true))) ([]:(List eR))) fun f=>some (f,(aP.mk (dF.mk a.config.part a.config.every a.config.most) (aI.mk a.current.k a.current.w a.current.h a.current.x a.current.y a.current.title a.current.rows a.current.len a.current.chain a.current.begun) (aI.mk a.aY.k a.aY.w a.aY.h a.aY.x a.aY.y a.aY.title a.aY.rows a.aY.len a.aY.chain a.aY.begun) a.kept (bU.mk a.message.id a.message.key a.message.base a.message.parts a.message.there (IntKind.i64.wrap (now+a.config.every))) a.next)))))))
end Go.Tw.X
set_option linter.unusedVariables false
set_option linter.unusedSimpArgs false
set_option maxRecDepth 10000
namespace Go.Tw.X
open Go Go.Tw
structure bB where
 slot:cG
 cN:aI
 deriving DecidableEq,Inhabited
noncomputable def nZ:Option bB :=
 some (bB.mk (cG.mk 0 0 none 0) (aI.mk 0 0 0 0 0 (ByteArray.mk #[]) ([]:List aE) 0 0 ([]:List aJ)))
noncomputable def fR (t_:bB) (g:eR):Option (Int×bB) :=
 (bif (g.kind != 1) then some (5,(bB.mk t_.slot t_.cN)) else (bif ((g.bH.length:Int) != 5) then some (1,(bB.mk t_.slot t_.cN)) else (Option.bind (idx g.bH 1) fun b=>(bif (decide (b≤t_.cN.k)) then some (8,(bB.mk t_.slot t_.cN)) else (Option.bind ((Option.bind (idx g.bH 2) fun c=>(bif (c != 0) then (Option.bind (idx g.bH 2) fun d=>some (d != t_.cN.k)) else some false)):Option Bool) fun e=>(bif e then some (7,(bB.mk t_.slot t_.cN)) else (Option.bind (idx g.bH 0) fun f=>(Option.bind (idx g.bH 3) fun h=>(Option.bind (idx g.bH 4) fun i=>(Option.bind (kT t_.slot f h i g.data) fun a=>some (a.1,(bB.mk a.2 t_.cN))))))))))))
noncomputable def kj (t_:bB):Option eR :=
 (Option.bind (lb t_.slot) fun r2=>(Option.bind (chk (F4 (IntKind.i64.wrap ((IntKind.i64.wrap ((IntKind.i64.wrap (r2+8)) - 1)).tdiv 8)) 1)) fun _=>(Option.bind (ki t_.slot) fun r9=>(Option.bind (iter (σ:=Int×(List Int)) (ρ:=(List Int)) (fun a=>(bif (decide (a.1 < (r9.length:Int))) then (Option.bind (idx r9 a.1) fun b=>(Option.bind (idx a.2 (IntKind.i64.wrap (b.tdiv 8))) fun c=>(Option.bind (chk (shk (b.tmod 8))) fun _=>(Option.bind (idx a.2 (IntKind.i64.wrap (b.tdiv 8))) fun f=>some (.inl ((IntKind.i64.wrap (a.1+1)),(a.2.set ((IntKind.i64.wrap (b.tdiv 8)).toNat) (Go.bits .or .u8 c (IntKind.u8.wrap (1*2 ^ (min (b.tmod 8).toNat 8))))))))))) else some (.inr a.2))) (0,(List.replicate (IntKind.i64.wrap ((IntKind.i64.wrap ((IntKind.i64.wrap (r2+8)) - 1)).tdiv 8)).toNat (0:Int)))) fun d=>(Option.bind (nM t_.slot) fun e=>some (eR.mk 1 2 [t_.cN.k,e] (gZ d)))))))
noncomputable def iB (t_:bB):Option aI :=
 (Option.bind (gW t_.cN) fun r2=>some r2)
noncomputable def cW (t_:bB) (g:eR):Option (Int×bB) :=
 (Option.bind (fR t_ g) fun r2=>(bif (r2.1 != 0) then some (r2.1,r2.2) else (Option.bind (jH r2.2.slot) fun c=>(bif (!c.2) then some (0,r2.2) else (Option.bind (kG r2.2.slot) fun b=>(Option.bind (idx g.bH 2) fun e=>(Option.bind ((bif (e != 0) then some r2.2.cN else some (aI.mk 0 0 0 0 0 (ByteArray.mk #[]) ([]:List aE) 0 0 ([]:List aJ))):Option aI) fun f=>(Option.bind (lF f c.1) fun a=>(Option.bind ((bif (a.2 == 0) then (Option.bind (idx g.bH 1) fun h=>some (a.1.k != h)) else some false):Option Bool) fun i=>(Option.bind ((bif i then some 1 else some a.2):Option Int) fun d=>(Option.bind ((bif (d == 0) then some (bB.mk b a.1) else some (bB.mk b r2.2.cN)):Option bB) fun j=>some (d,(bB.mk b j.cN)))))))))))))
noncomputable def jc (t_:bB):Option Int :=
 some t_.cN.k
end Go.Tw.X
set_option linter.unusedVariables false
set_option linter.unusedSimpArgs false
set_option maxRecDepth 10000
namespace Go.Tw.X
open Go Go.Tw
noncomputable def n5 (s_:ByteArray) (n_:Int):Option ByteArray :=
 (bif (decide ((s_.size:Int) > n_)) then (Option.bind (chk (dB 0 n_ s_.size)) fun _=>some (ie s_ 0 n_)) else some s_)
end Go.Tw.X
set_option linter.unusedVariables false
set_option linter.unusedSimpArgs false
set_option maxRecDepth 10000
namespace Go.Tw.X
open Go Go.Tw
noncomputable def qG (r_:Int):Option Int :=
 (Option.bind ((bif (decide (r_ < 32)) then some true else some (decide (r_ > 1114111))):Option Bool) fun e8=>(bif e8 then some 0 else (Option.bind (iter (σ:=Int) (ρ:=Unit ⊕ Int) (fun a=>(bif (decide (a < ([(cF.mk 127 159),(cF.mk 768 879),(cF.mk 6832 6911),(cF.mk 7616 7679),(cF.mk 8203 8207),(cF.mk 8400 8447),(cF.mk 55296 57343),(cF.mk 65024 65039),(cF.mk 65056 65071),(cF.mk 65279 65279),(cF.mk 917760 917999)].length:Int))) then (Option.bind (idx [(cF.mk 127 159),(cF.mk 768 879),(cF.mk 6832 6911),(cF.mk 7616 7679),(cF.mk 8203 8207),(cF.mk 8400 8447),(cF.mk 55296 57343),(cF.mk 65024 65039),(cF.mk 65056 65071),(cF.mk 65279 65279),(cF.mk 917760 917999)] a) fun c=>(Option.bind ((bif (decide (r_≥c.e0)) then some (decide (r_≤c.e1)) else some false):Option Bool) fun e=>(bif e then (kY (some 0)) else some (.inl (IntKind.i64.wrap (a+1)))))) else some (.inr (.inl ())))) 0) fun | .inl e96=>(Option.bind (iter (σ:=Int) (ρ:=Unit ⊕ Int) (fun b=>(bif (decide (b < ([(cF.mk 4352 4447),(cF.mk 11904 12350),(cF.mk 12353 13311),(cF.mk 13312 19903),(cF.mk 19968 40959),(cF.mk 40960 42191),(cF.mk 44032 55203),(cF.mk 63744 64255),(cF.mk 65072 65135),(cF.mk 65280 65376),(cF.mk 65504 65510),(cF.mk 127744 128591),(cF.mk 129280 129535),(cF.mk 131072 262141)].length:Int))) then (Option.bind (idx [(cF.mk 4352 4447),(cF.mk 11904 12350),(cF.mk 12353 13311),(cF.mk 13312 19903),(cF.mk 19968 40959),(cF.mk 40960 42191),(cF.mk 44032 55203),(cF.mk 63744 64255),(cF.mk 65072 65135),(cF.mk 65280 65376),(cF.mk 65504 65510),(cF.mk 127744 128591),(cF.mk 129280 129535),(cF.mk 131072 262141)] b) fun d=>(Option.bind ((bif (decide (r_≥d.e0)) then some (decide (r_≤d.e1)) else some false):Option Bool) fun f=>(bif f then (kY (some 2)) else some (.inl (IntKind.i64.wrap (b+1)))))) else some (.inr (.inl ())))) 0) fun | .inl e214=>some 1 | .inr w=>some w) | .inr w=>some w)))
end Go.Tw.X
set_option linter.unusedVariables false
set_option linter.unusedSimpArgs false
set_option maxRecDepth 10000
namespace Go.Tw.X
open Go Go.Tw
structure aQ where
 rune:Int
 aL:Int
 part:Int
 deriving DecidableEq,Inhabited
structure aV where
 l:List aQ
 wrapped:Bool
 deriving DecidableEq,Inhabited
structure ua where
 rune:Int
 aL:Int
 deriving DecidableEq,Inhabited
noncomputable def na (n_:Int) (lo:Int) (hi:Int):Option Int :=
 (bif (decide (n_ < lo)) then some lo else (bif (decide (n_ > hi)) then some hi else some n_))
noncomputable def jw (w:Int) (aL:Int):Option aV :=
 (Option.bind (iter (σ:=(List aQ)×Int) (ρ:=(List aQ)) (fun a=>(Option.bind (na w 0 1000) fun b=>(bif (decide (a.2 < b)) then (Option.bind (chk (eO a.1.length [(aQ.mk 32 aL 0)].length 24)) fun _=>some (.inl ((a.1++[(aQ.mk 32 aL 0)]),(IntKind.i64.wrap (a.2+1))))) else some (.inr a.1)))) (([]:List aQ),0)) fun c=>some (aV.mk c false))
noncomputable def fO (l:List aQ):Option aV :=
 (Option.bind (iter (σ:=Int×(List aQ)) (ρ:=(List aQ)) (fun a=>(bif (decide (a.1 < (l.length:Int))) then (Option.bind (idx l a.1) fun b=>(Option.bind ((bif (b.part == 1) then (bif ((IntKind.i64.wrap (a.1+1)) == (l.length:Int)) then some true else (Option.bind (idx l (IntKind.i64.wrap (a.1+1))) fun d=>some (d.part != 2))) else (bif (b.part == 2) then (bif (a.1 == 0) then some true else (Option.bind (idx a.2 (IntKind.i64.wrap (a.1 - 1))) fun e=>some (e.part != 1))) else (bif (b.part == 3) then some (decide (a.1 < (IntKind.i64.wrap ((l.length:Int) - 1)))) else some false))):Option Bool) fun f=>(Option.bind ((bif f then some (aQ.mk 32 b.aL 0) else some b):Option aQ) fun c=>(Option.bind (chk (eO a.2.length [c].length 24)) fun _=>some (.inl ((IntKind.i64.wrap (a.1+1)),(a.2++[c]))))))) else some (.inr a.2))) (0,([]:List aQ))) fun g=>some (aV.mk g false))
noncomputable def pq (r_:aV) (at_:Int) (x_:Int) (aL:Int):Option aV :=
 (Option.bind (qG x_) fun r3=>(Option.bind ((bif (r3 == 0) then some true else (bif (decide (at_ < 0)) then some true else some (decide (at_ > (IntKind.i64.wrap ((r_.l.length:Int) - r3)))))):Option Bool) fun a=>(bif a then (Option.bind (fO r_.l) fun b=>some b) else (Option.bind (chk (eO ([]:List aQ).length r_.l.length 24)) fun _=>(Option.bind (idx (([]:List aQ)++r_.l) at_) fun h=>(Option.bind ((bif (r3 == 2) then (Option.bind (idx ((([]:List aQ)++r_.l).set at_.toNat (aQ.mk x_ aL 0)) at_) fun i=>(Option.bind (idx (((([]:List aQ)++r_.l).set at_.toNat (aQ.mk x_ aL 0)).set at_.toNat (aQ.mk x_ aL 1)) (IntKind.i64.wrap (at_+1))) fun j=>(Option.bind ((bif (decide (at_ > 0)) then (Option.bind (idx ((((([]:List aQ)++r_.l).set at_.toNat (aQ.mk x_ aL 0)).set at_.toNat (aQ.mk x_ aL 1)).set ((IntKind.i64.wrap (at_+1)).toNat) (aQ.mk x_ aL 2)) (IntKind.i64.wrap (at_ - 1))) fun c=>some (c.part == 1)) else some false):Option Bool) fun d=>(bif d then (Option.bind (idx ((((([]:List aQ)++r_.l).set at_.toNat (aQ.mk x_ aL 0)).set at_.toNat (aQ.mk x_ aL 1)).set ((IntKind.i64.wrap (at_+1)).toNat) (aQ.mk x_ aL 2)) (IntKind.i64.wrap (at_ - 1))) fun e=>(Option.bind (idx ((((([]:List aQ)++r_.l).set at_.toNat (aQ.mk x_ aL 0)).set at_.toNat (aQ.mk x_ aL 1)).set ((IntKind.i64.wrap (at_+1)).toNat) (aQ.mk x_ aL 2)) (IntKind.i64.wrap (at_ - 1))) fun k=>some (((((([]:List aQ)++r_.l).set at_.toNat (aQ.mk x_ aL 0)).set at_.toNat (aQ.mk x_ aL 1)).set ((IntKind.i64.wrap (at_+1)).toNat) (aQ.mk x_ aL 2)).set ((IntKind.i64.wrap (at_ - 1)).toNat) (aQ.mk 32 e.aL 0)))) else some ((((([]:List aQ)++r_.l).set at_.toNat (aQ.mk x_ aL 0)).set at_.toNat (aQ.mk x_ aL 1)).set ((IntKind.i64.wrap (at_+1)).toNat) (aQ.mk x_ aL 2)))))) else some ((([]:List aQ)++r_.l).set at_.toNat (aQ.mk x_ aL 0))):Option (List aQ)) fun f=>(Option.bind (fO f) fun g=>some g)))))))
noncomputable def nT (r_:aV) (from_:Int) (to:Int) (aL:Int):Option aV :=
 (Option.bind (chk (eO ([]:List aQ).length r_.l.length 24)) fun _=>(Option.bind (iter (σ:=Int×(List aQ)) (ρ:=(List aQ)) (fun a=>(bif (decide (a.1 < ((([]:List aQ)++r_.l).length:Int))) then (Option.bind ((Option.bind ((bif (decide (a.1≥from_)) then some (decide (a.1 < to)) else some false):Option Bool) fun b=>(bif b then (Option.bind (idx a.2 a.1) fun f=>some (a.2.set a.1.toNat (aQ.mk 32 aL 0))) else some a.2)):Option (List aQ)) fun c=>some (.inl ((IntKind.i64.wrap (a.1+1)),c))) else some (.inr a.2))) (0,(([]:List aQ)++r_.l))) fun d=>(Option.bind (fO d) fun e=>some e)))
noncomputable def nf (r_:aV) (at_:Int) (n_:Int) (aL:Int):Option aV :=
 (Option.bind ((bif (decide (at_ < 0)) then some true else (bif (decide (at_≥(r_.l.length:Int))) then some true else some (decide (n_≤0)))):Option Bool) fun e8=>(bif e8 then (Option.bind (fO r_.l) fun b=>some b) else (Option.bind (chk (dB 0 at_ r_.l.length)) fun _=>(Option.bind (chk (eO ([]:List aQ).length (cut r_.l 0 at_).length 24)) fun _=>(Option.bind (jw (eN n_ (IntKind.i64.wrap ((r_.l.length:Int) - at_))) aL) fun a=>(Option.bind (chk (eO (([]:List aQ)++(cut r_.l 0 at_)).length a.l.length 24)) fun _=>(Option.bind (chk (dB at_ (IntKind.i64.wrap ((r_.l.length:Int) - (eN n_ (IntKind.i64.wrap ((r_.l.length:Int) - at_))))) r_.l.length)) fun _=>(Option.bind (chk (eO ((([]:List aQ)++(cut r_.l 0 at_))++a.l).length (cut r_.l at_ (IntKind.i64.wrap ((r_.l.length:Int) - (eN n_ (IntKind.i64.wrap ((r_.l.length:Int) - at_)))))).length 24)) fun _=>(Option.bind (fO (((([]:List aQ)++(cut r_.l 0 at_))++a.l)++(cut r_.l at_ (IntKind.i64.wrap ((r_.l.length:Int) - (eN n_ (IntKind.i64.wrap ((r_.l.length:Int) - at_)))))))) fun c=>some c)))))))))
noncomputable def ng (r_:aV) (at_:Int) (n_:Int) (aL:Int):Option aV :=
 (Option.bind ((bif (decide (at_ < 0)) then some true else (bif (decide (at_≥(r_.l.length:Int))) then some true else some (decide (n_≤0)))):Option Bool) fun e8=>(bif e8 then (Option.bind (fO r_.l) fun b=>some b) else (Option.bind (chk (dB 0 at_ r_.l.length)) fun _=>(Option.bind (chk (eO ([]:List aQ).length (cut r_.l 0 at_).length 24)) fun _=>(Option.bind (chk (dB (IntKind.i64.wrap (at_+(eN n_ (IntKind.i64.wrap ((r_.l.length:Int) - at_))))) (r_.l.length:Int) r_.l.length)) fun _=>(Option.bind (chk (eO (([]:List aQ)++(cut r_.l 0 at_)).length (cut r_.l (IntKind.i64.wrap (at_+(eN n_ (IntKind.i64.wrap ((r_.l.length:Int) - at_))))) (r_.l.length:Int)).length 24)) fun _=>(Option.bind (jw (eN n_ (IntKind.i64.wrap ((r_.l.length:Int) - at_))) aL) fun a=>(Option.bind (chk (eO ((([]:List aQ)++(cut r_.l 0 at_))++(cut r_.l (IntKind.i64.wrap (at_+(eN n_ (IntKind.i64.wrap ((r_.l.length:Int) - at_))))) (r_.l.length:Int))).length a.l.length 24)) fun _=>(Option.bind (fO (((([]:List aQ)++(cut r_.l 0 at_))++(cut r_.l (IntKind.i64.wrap (at_+(eN n_ (IntKind.i64.wrap ((r_.l.length:Int) - at_))))) (r_.l.length:Int)))++a.l)) fun c=>some c)))))))))
noncomputable def nh (r_:aV) (aL:Int):Option aV :=
 (Option.bind (chk (eO ([]:List aQ).length r_.l.length 24)) fun _=>(Option.bind ((bif (decide (((([]:List aQ)++r_.l).length:Int) > 0)) then (Option.bind (idx (([]:List aQ)++r_.l) (IntKind.i64.wrap (((([]:List aQ)++r_.l).length:Int) - 1))) fun c=>some ((([]:List aQ)++r_.l).set ((IntKind.i64.wrap (((([]:List aQ)++r_.l).length:Int) - 1)).toNat) (aQ.mk 32 aL 3))) else some (([]:List aQ)++r_.l)):Option (List aQ)) fun a=>(Option.bind (fO a) fun b=>some (aV.mk b.l true))))
noncomputable def ni (r_:aV) (w:Int):Option aV :=
 (Option.bind (na w 0 1000) fun r3=>(bif (r3 == (r_.l.length:Int)) then some r_ else (Option.bind (chk (dB 0 (eN r3 (r_.l.length:Int)) r_.l.length)) fun _=>(Option.bind (chk (eO ([]:List aQ).length (cut r_.l 0 (eN r3 (r_.l.length:Int))).length 24)) fun _=>(Option.bind (jw (IntKind.i64.wrap (r3 - ((([]:List aQ)++(cut r_.l 0 (eN r3 (r_.l.length:Int)))).length:Int))) 0) fun a=>(Option.bind (chk (eO (([]:List aQ)++(cut r_.l 0 (eN r3 (r_.l.length:Int)))).length a.l.length 24)) fun _=>(Option.bind (fO ((([]:List aQ)++(cut r_.l 0 (eN r3 (r_.l.length:Int))))++a.l)) fun b=>some b)))))))
end Go.Tw.X
set_option linter.unusedVariables false
set_option linter.unusedSimpArgs false
set_option maxRecDepth 10000
namespace Go.Tw.X
open Go Go.Tw
noncomputable def ub (r_:aE) (x_:aV):Option Bool :=
 (Option.bind ((bif ((r_.cells.length:Int) != (x_.l.length:Int)) then some true else some (!(r_.wrapped == x_.wrapped))):Option Bool) fun e6=>(bif e6 then some false else (Option.bind (iter (σ:=Int) (ρ:=Unit ⊕ Bool) (fun a=>(bif (decide (a < (r_.cells.length:Int))) then (Option.bind (idx r_.cells a) fun b=>(Option.bind ((Option.bind (idx x_.l a) fun c=>(bif ((IntKind.i64.wrap b.rune) != c.rune) then some true else (Option.bind (idx x_.l a) fun d=>(bif (b.aL != d.aL) then some true else (Option.bind (idx x_.l a) fun e=>some (b.part != e.part)))))):Option Bool) fun f=>(bif f then (kY (some false)) else some (.inl (IntKind.i64.wrap (a+1)))))) else some (.inr (.inl ())))) 0) fun | .inl e712=>some true | .inr w=>some w)))
end Go.Tw.X
set_option linter.unusedVariables false
set_option linter.unusedSimpArgs false
set_option maxRecDepth 10000
namespace Go.Tw.X
open Go Go.Tw
structure iC where
 w:Int
 l:List aV
 deriving DecidableEq,Inhabited
noncomputable def oB (n_:Int):Option Int :=
 some (imax 1 (eN n_ 1000))
noncomputable def rQ (w:Int) (h_:Int):Option iC :=
 (Option.bind (oB w) fun r2=>(Option.bind (iter (σ:=iC×Int) (ρ:=iC) (fun a=>(Option.bind (oB h_) fun c=>(bif (decide (a.2 < c)) then (Option.bind (jw a.1.w 0) fun b=>(Option.bind (chk (eO a.1.l.length [b].length 32)) fun _=>some (.inl ((iC.mk a.1.w (a.1.l++[b])),(IntKind.i64.wrap (a.2+1)))))) else some (.inr a.1)))) ((iC.mk r2 ([]:List aV)),0)) fun d=>some d))
noncomputable def n6 (g:iC) (y:Int) (r_:aV):Option (iC×Bool) :=
 (Option.bind ((bif (decide (y < 0)) then some true else some (decide (y≥(g.l.length:Int)))):Option Bool) fun e7=>(bif e7 then some (g,false) else (Option.bind (chk (eO ([]:List aV).length g.l.length 32)) fun _=>(Option.bind (ni r_ g.w) fun a=>(Option.bind (idx (([]:List aV)++g.l) y) fun b=>some ((iC.mk g.w ((([]:List aV)++g.l).set y.toNat a)),true))))))
noncomputable def eL (g:iC) (up:Bool) (top:Int) (aK:Int) (n_:Int) (aL:Int):Option (iC×(List aV)) :=
 (bif (decide ((imax 0 (eN aK (IntKind.i64.wrap ((g.l.length:Int) - 1)))) < (imax 0 (eN top (IntKind.i64.wrap ((g.l.length:Int) - 1)))))) then some (g,([]:List aV)) else (Option.bind (chk (eO ([]:List aV).length g.l.length 32)) fun _=>(Option.bind (jw g.w aL) fun d=>(Option.bind (iter (σ:=(List aV)×(List aV)×Int) (ρ:=(List aV)×(List aV)) (fun a=>(Option.bind ((bif (decide (a.2.2 < n_)) then some (decide (a.2.2≤(IntKind.i64.wrap ((imax 0 (eN aK (IntKind.i64.wrap ((g.l.length:Int) - 1)))) - (imax 0 (eN top (IntKind.i64.wrap ((g.l.length:Int) - 1)))))))) else some false):Option Bool) fun m=>(bif m then (Option.bind ((bif up then (Option.bind (idx a.2.1 (imax 0 (eN top (IntKind.i64.wrap ((g.l.length:Int) - 1))))) fun e=>(Option.bind (chk (eO a.1.length [e].length 32)) fun _=>(Option.bind (iter (σ:=(List aV)×Int) (ρ:=(List aV)) (fun b=>(bif (decide (b.2 < (imax 0 (eN aK (IntKind.i64.wrap ((g.l.length:Int) - 1)))))) then (Option.bind (idx b.1 (IntKind.i64.wrap (b.2+1))) fun n=>(Option.bind (idx b.1 b.2) fun p=>some (.inl ((b.1.set b.2.toNat n),(IntKind.i64.wrap (b.2+1)))))) else some (.inr b.1))) (a.2.1,(imax 0 (eN top (IntKind.i64.wrap ((g.l.length:Int) - 1)))))) fun f=>(Option.bind (idx f (imax 0 (eN aK (IntKind.i64.wrap ((g.l.length:Int) - 1))))) fun q=>some ((a.1++[e]),(f.set ((imax 0 (eN aK (IntKind.i64.wrap ((g.l.length:Int) - 1)))).toNat) d)))))) else (Option.bind (idx a.2.1 (imax 0 (eN aK (IntKind.i64.wrap ((g.l.length:Int) - 1))))) fun h=>(Option.bind (chk (eO a.1.length [h].length 32)) fun _=>(Option.bind (iter (σ:=(List aV)×Int) (ρ:=(List aV)) (fun c=>(bif (decide (c.2 > (imax 0 (eN top (IntKind.i64.wrap ((g.l.length:Int) - 1)))))) then (Option.bind (idx c.1 (IntKind.i64.wrap (c.2 - 1))) fun o=>(Option.bind (idx c.1 c.2) fun r=>some (.inl ((c.1.set c.2.toNat o),(IntKind.i64.wrap (c.2 - 1)))))) else some (.inr c.1))) (a.2.1,(imax 0 (eN aK (IntKind.i64.wrap ((g.l.length:Int) - 1)))))) fun i=>(Option.bind (idx i (imax 0 (eN top (IntKind.i64.wrap ((g.l.length:Int) - 1))))) fun s=>some ((a.1++[h]),(i.set ((imax 0 (eN top (IntKind.i64.wrap ((g.l.length:Int) - 1)))).toNat) d))))))):Option ((List aV)×(List aV))) fun j=>some (.inl (j.1,j.2,(IntKind.i64.wrap (a.2.2+1))))) else some (.inr (a.1,a.2.1))))) (([]:List aV),(([]:List aV)++g.l),0)) fun k=>some ((iC.mk g.w k.2),k.1)))))
end Go.Tw.X
set_option linter.unusedVariables false
set_option linter.unusedSimpArgs false
set_option maxRecDepth 10000
namespace Go.Tw.X
open Go Go.Tw
noncomputable def oC (l:List aE) (x_:List aV):Option Bool :=
 (bif ((l.length:Int) != (x_.length:Int)) then some false else (Option.bind (iter (σ:=Int) (ρ:=Unit ⊕ Bool) (fun a=>(bif (decide (a < (x_.length:Int))) then (Option.bind (idx l a) fun b=>(Option.bind (idx x_ a) fun c=>(Option.bind (ub b c) fun d=>(bif (!d) then (kY (some false)) else some (.inl (IntKind.i64.wrap (a+1))))))) else some (.inr (.inl ())))) 0) fun | .inl e571=>some true | .inr w=>some w))
end Go.Tw.X
set_option linter.unusedVariables false
set_option linter.unusedSimpArgs false
set_option maxRecDepth 10000
namespace Go.Tw.X
open Go Go.Tw
structure k6 where
 kind:Int
 rune:Int
 byte:Int
 eE:Bool
 bH:List Int
 text:ByteArray
 deriving DecidableEq,Inhabited
end Go.Tw.X
set_option linter.unusedVariables false
set_option linter.unusedSimpArgs false
set_option maxRecDepth 10000
namespace Go.Tw.X
open Go Go.Tw
structure bK where
 iD:Int
 back:Int
 bold:Bool
 under:Bool
 dU:Bool
 deriving DecidableEq,Inhabited
noncomputable def rR (s_:bK):Option Bool :=
 (Option.bind ((bif (decide (s_.iD≥0)) then (bif (decide (s_.iD≤8)) then (bif (decide (s_.back≥0)) then some (decide (s_.back≤8)) else some false) else some false) else some false):Option Bool) fun e9=>some e9)
noncomputable def k7 (s_:bK):Option Int :=
 (Option.bind (rR s_) fun r2=>(bif (!r2) then some 0 else (Option.bind ((bif s_.bold then some (IntKind.i64.wrap ((IntKind.i64.wrap (s_.iD+(IntKind.i64.wrap (9*s_.back))))+81)) else some (IntKind.i64.wrap (s_.iD+(IntKind.i64.wrap (9*s_.back))))):Option Int) fun a=>(Option.bind ((bif s_.under then some (IntKind.i64.wrap (a+162)) else some a):Option Int) fun b=>(Option.bind ((bif s_.dU then some (IntKind.i64.wrap (b+324)) else some b):Option Int) fun c=>some c)))))
noncomputable def rS (s_:bK) (l:List Int):Option bK :=
 (bif ((l.length:Int) == 0) then some (bK.mk 0 0 false false false) else (Option.bind (iter (σ:=bK×Int×Int) (ρ:=bK) (fun b=>(bif (decide (b.2.1 < (l.length:Int))) then (Option.bind ((Option.bind (idx l b.2.1) fun a=>(bif (decide (b.2.2 > 0)) then some ((IntKind.i64.wrap (b.2.2 - 1)),b.1) else (Option.bind ((bif (a == 38) then some true else some (a == 48)):Option Bool) fun m=>(bif m then (Option.bind ((bif (decide ((IntKind.i64.wrap (b.2.1+1)) < (l.length:Int))) then (Option.bind (idx l (IntKind.i64.wrap (b.2.1+1))) fun n=>some (n == 5)) else some false):Option Bool) fun o=>(Option.bind ((bif o then some 2 else some b.2.2):Option Int) fun p=>(Option.bind ((bif (decide ((IntKind.i64.wrap (b.2.1+1)) < (l.length:Int))) then (Option.bind (idx l (IntKind.i64.wrap (b.2.1+1))) fun q=>some (q == 2)) else some false):Option Bool) fun r=>(Option.bind ((bif r then some 4 else some p):Option Int) fun t=>some (t,b.1))))) else (Option.bind ((bif (a == 0) then some (bK.mk 0 0 false false false) else some b.1):Option bK) fun c=>(Option.bind ((bif (a == 1) then some true else some (a == 22)):Option Bool) fun u=>(Option.bind ((bif u then some (bK.mk c.iD c.back (decide (a < 10)) c.under c.dU) else some c):Option bK) fun d=>(Option.bind ((bif (a == 4) then some true else some (a == 24)):Option Bool) fun v=>(Option.bind ((bif v then some (bK.mk d.iD d.back d.bold (decide (a < 10)) d.dU) else some d):Option bK) fun e=>(Option.bind ((bif (a == 7) then some true else some (a == 27)):Option Bool) fun w=>(Option.bind ((bif w then some (bK.mk e.iD e.back e.bold e.under (decide (a < 10))) else some e):Option bK) fun f=>(Option.bind ((bif (decide (a≥30)) then some (decide (a≤37)) else some false):Option Bool) fun z=>(Option.bind ((bif z then some (bK.mk (IntKind.i64.wrap (a - 29)) f.back f.bold f.under f.dU) else some f):Option bK) fun h=>(Option.bind ((bif (a == 39) then some (bK.mk 0 h.back h.bold h.under h.dU) else some h):Option bK) fun i=>(Option.bind ((bif (decide (a≥40)) then some (decide (a≤47)) else some false):Option Bool) fun A=>(Option.bind ((bif A then some (bK.mk i.iD (IntKind.i64.wrap (a - 39)) i.bold i.under i.dU) else some i):Option bK) fun j=>(bif (a == 49) then some (b.2.2,(bK.mk j.iD 0 j.bold j.under j.dU)) else some (b.2.2,j)))))))))))))))))):Option (Int×bK)) fun k=>some (.inl (k.2,(IntKind.i64.wrap (b.2.1+1)),k.1))) else some (.inr b.1))) (s_,0,0)) fun B=>some B))
end Go.Tw.X
set_option linter.unusedVariables false
set_option linter.unusedSimpArgs false
set_option maxRecDepth 10000
namespace Go.Tw.X
open Go Go.Tw
structure aN where
 g:iC
 x:Int
 y:Int
 s:bK
 sX:Int
 sY:Int
 sS:bK
 waiting:Bool
 top:Int
 aK:Int
 aX:Bool
 title:ByteArray
 deriving DecidableEq,Inhabited
noncomputable def rT (w:Int) (h_:Int):Option aN :=
 (Option.bind (rQ w h_) fun r2=>some (aN.mk r2 0 0 (bK.mk 0 0 false false false) 0 0 (bK.mk 0 0 false false false) false 0 (IntKind.i64.wrap ((r2.l.length:Int) - 1)) true (ByteArray.mk #[])))
noncomputable def km (s_:aN) (r_:aV):Option aN :=
 (Option.bind (n6 s_.g s_.y r_) fun r4=>some (aN.mk r4.1 s_.x s_.y s_.s s_.sX s_.sY s_.sS s_.waiting s_.top s_.aK s_.aX s_.title))
noncomputable def nj (s_:aN) (n_:Int):Option (aN×(List aV)) :=
 (Option.bind (k7 s_.s) fun b=>(Option.bind (eL s_.g true s_.top s_.aK n_ b) fun a=>(bif (decide (s_.top > 0)) then some ((aN.mk a.1 s_.x s_.y s_.s s_.sX s_.sY s_.sS s_.waiting s_.top s_.aK s_.aX s_.title),([]:List aV)) else some ((aN.mk a.1 s_.x s_.y s_.s s_.sX s_.sY s_.sS s_.waiting s_.top s_.aK s_.aX s_.title),a.2))))
noncomputable def dK (s_:aN) (x_:Int) (y:Int):Option aN :=
 some (aN.mk s_.g (imax 0 (eN x_ (IntKind.i64.wrap (s_.g.w - 1)))) (imax 0 (eN y (IntKind.i64.wrap ((s_.g.l.length:Int) - 1)))) s_.s s_.sX s_.sY s_.sS false s_.top s_.aK s_.aX s_.title)
noncomputable def iG (s_:aN):Option (aN×(List aV)) :=
 (bif (s_.y == s_.aK) then (Option.bind (nj (aN.mk s_.g s_.x s_.y s_.s s_.sX s_.sY s_.sS false s_.top s_.aK s_.aX s_.title) 1) fun a=>some (a.1,a.2)) else (Option.bind (dK (aN.mk s_.g s_.x s_.y s_.s s_.sX s_.sY s_.sS false s_.top s_.aK s_.aX s_.title) s_.x (IntKind.i64.wrap (s_.y+1))) fun b=>some (b,([]:List aV))))
noncomputable def qH (s_:aN) (r_:Int):Option (aN×(List aV)) :=
 (Option.bind (qG r_) fun r3=>(Option.bind ((bif (r3 == 0) then some true else some (decide (r3 > s_.g.w))):Option Bool) fun e9=>(bif e9 then some (s_,([]:List aV)) else (Option.bind (k7 s_.s) fun i=>(Option.bind ((bif s_.waiting then some s_.aX else some false):Option Bool) fun j=>(Option.bind ((bif j then (Option.bind (idx s_.g.l s_.y) fun k=>(Option.bind (km s_ (aV.mk k.l true)) fun c=>(Option.bind (iG (aN.mk c.g 0 c.y c.s c.sX c.sY c.sS c.waiting c.top c.aK c.aX c.title)) fun f=>(Option.bind (chk (eO ([]:List aV).length f.2.length 32)) fun _=>some ((([]:List aV)++f.2),f.1))))) else some (([]:List aV),s_)):Option ((List aV)×aN)) fun b=>(Option.bind ((bif (r3 == 2) then some (b.2.x == (IntKind.i64.wrap (b.2.g.w - 1))) else some false):Option Bool) fun m=>(Option.bind ((bif m then (bif b.2.aX then (Option.bind (idx b.2.g.l b.2.y) fun n=>(Option.bind (nh n i) fun o=>(Option.bind (km b.2 o) fun d=>(Option.bind (iG (aN.mk d.g 0 d.y d.s d.sX d.sY d.sS d.waiting d.top d.aK d.aX d.title)) fun h=>(Option.bind (chk (eO b.1.length h.2.length 32)) fun _=>some ((b.1++h.2),h.1)))))) else some (b.1,(aN.mk b.2.g (IntKind.i64.wrap (b.2.x - 1)) b.2.y b.2.s b.2.sX b.2.sY b.2.sS b.2.waiting b.2.top b.2.aK b.2.aX b.2.title))) else some (b.1,b.2)):Option ((List aV)×aN)) fun e=>(Option.bind (idx e.2.g.l e.2.y) fun p=>(Option.bind (pq p e.2.x r_ i) fun q=>(Option.bind (km e.2 q) fun a=>(Option.bind ((bif ((IntKind.i64.wrap (a.x+r3)) == a.g.w) then some (aN.mk a.g (IntKind.i64.wrap ((IntKind.i64.wrap (a.x+r3)) - 1)) a.y a.s a.sX a.sY a.sS ((IntKind.i64.wrap (a.x+r3)) == a.g.w) a.top a.aK a.aX a.title) else some (aN.mk a.g (IntKind.i64.wrap (a.x+r3)) a.y a.s a.sX a.sY a.sS ((IntKind.i64.wrap (a.x+r3)) == a.g.w) a.top a.aK a.aX a.title)):Option aN) fun r=>some (r,e.1)))))))))))))
noncomputable def fL (l:List Int) (i:Int) (d:Int):Option Int :=
 (Option.bind ((bif (decide (i < (l.length:Int))) then (Option.bind (idx l i) fun a=>some (decide (a > 0))) else some false):Option Bool) fun b=>(bif b then (Option.bind (idx l i) fun c=>some (eN c 9999)) else some d))
noncomputable def lG (s_:aN) (y:Int) (from_:Int) (to:Int):Option aN :=
 (Option.bind (idx s_.g.l y) fun a=>(Option.bind (k7 s_.s) fun b=>(Option.bind (nT a from_ to b) fun c=>(Option.bind (n6 s_.g y c) fun d=>some (aN.mk d.1 s_.x s_.y s_.s s_.sX s_.sY s_.sS s_.waiting s_.top s_.aK s_.aX s_.title)))))
noncomputable def nU (s_:aN) (n_:Int) (all:Bool):Option aN :=
 (bif (decide (n_ > 2)) then some s_ else (Option.bind (iter (σ:=aN×Int) (ρ:=aN) (fun a=>(bif (decide (a.2 < (s_.g.l.length:Int))) then (Option.bind ((Option.bind ((bif all then (bif (decide (a.2 < a.1.y)) then (bif (n_ != 0) then some true else (bif (decide (a.2 > a.1.y)) then some (n_ != 1) else some false)) else (bif (decide (a.2 > a.1.y)) then some (n_ != 1) else some false)) else some false):Option Bool) fun d=>(bif d then (Option.bind (lG a.1 a.2 0 a.1.g.w) fun e=>some e) else some a.1)):Option aN) fun f=>some (.inl (f,(IntKind.i64.wrap (a.2+1))))) else some (.inr a.1))) (s_,0)) fun c=>(Option.bind ((bif (n_ == 0) then some c.x else some 0):Option Int) fun h=>(Option.bind ((bif (n_ == 1) then some (IntKind.i64.wrap (c.x+1)) else some c.g.w):Option Int) fun i=>(Option.bind (lG c c.y h i) fun b=>some (aN.mk b.g b.x b.y b.s b.sX b.sY b.sS false b.top b.aK b.aX b.title))))))
noncomputable def oo (s_:aN) (b:Int) (l:List Int):Option (aN×(List aV)) :=
 (Option.bind (fL l 0 1) fun r3=>(Option.bind (k7 s_.s) fun r6=>(Option.bind ((Option.bind ((bif (b == 65) then some (b == 65) else some (b == 70)):Option Bool) fun k=>(bif k then (Option.bind ((bif (decide (s_.y≥s_.top)) then some s_.top else some 0):Option Int) fun m=>(Option.bind (dK s_ s_.x (imax m (IntKind.i64.wrap (s_.y - r3)))) fun a=>(bif (b == 70) then some (.inl (aN.mk a.g 0 a.y a.s a.sX a.sY a.sS a.waiting a.top a.aK a.aX a.title)) else some (.inl a)))) else (Option.bind ((bif (b == 66) then some (b == 66) else some (b == 69)):Option Bool) fun n=>(bif n then (Option.bind ((bif (decide (s_.y≤s_.aK)) then some s_.aK else some (IntKind.i64.wrap ((s_.g.l.length:Int) - 1))):Option Int) fun o=>(Option.bind (dK s_ s_.x (eN o (IntKind.i64.wrap (s_.y+r3)))) fun c=>(bif (b == 69) then some (.inl (aN.mk c.g 0 c.y c.s c.sX c.sY c.sS c.waiting c.top c.aK c.aX c.title)) else some (.inl c)))) else (bif (b == 67) then (Option.bind (dK s_ (IntKind.i64.wrap (s_.x+r3)) s_.y) fun p=>some (.inl p)) else (bif (b == 68) then (Option.bind (dK s_ (IntKind.i64.wrap (s_.x - r3)) s_.y) fun q=>some (.inl q)) else (bif (b == 71) then (Option.bind (dK s_ (IntKind.i64.wrap (r3 - 1)) s_.y) fun r=>some (.inl r)) else (bif (b == 100) then (Option.bind (dK s_ s_.x (IntKind.i64.wrap (r3 - 1))) fun t=>some (.inl t)) else (Option.bind ((bif (b == 72) then some (b == 72) else some (b == 102)):Option Bool) fun u=>(bif u then (Option.bind (fL l 1 1) fun v=>(Option.bind (dK s_ (IntKind.i64.wrap (v - 1)) (IntKind.i64.wrap (r3 - 1))) fun z=>some (.inl z))) else (bif (b == 74) then (Option.bind (fL l 0 0) fun A=>(Option.bind (nU s_ A true) fun B=>some (.inl B))) else (bif (b == 75) then (Option.bind (fL l 0 0) fun C=>(Option.bind (nU s_ C false) fun D=>some (.inl D))) else (bif (b == 88) then (Option.bind (lG s_ s_.y s_.x (IntKind.i64.wrap (s_.x+r3))) fun d=>some (.inl (aN.mk d.g d.x d.y d.s d.sX d.sY d.sS false d.top d.aK d.aX d.title))) else (bif (b == 64) then (Option.bind (idx s_.g.l s_.y) fun E=>(Option.bind (nf E s_.x r3 r6) fun F=>(Option.bind (km s_ F) fun e=>some (.inl (aN.mk e.g e.x e.y e.s e.sX e.sY e.sS false e.top e.aK e.aX e.title))))) else (bif (b == 80) then (Option.bind (idx s_.g.l s_.y) fun G=>(Option.bind (ng G s_.x r3 r6) fun H=>(Option.bind (km s_ H) fun f=>some (.inl (aN.mk f.g f.x f.y f.s f.sX f.sY f.sS false f.top f.aK f.aX f.title))))) else (Option.bind ((bif (b == 76) then some (b == 76) else some (b == 77)):Option Bool) fun I=>(bif I then (Option.bind ((bif (decide (s_.y≥s_.top)) then some (decide (s_.y≤s_.aK)) else some false):Option Bool) fun J=>(bif J then (Option.bind (eL s_.g (b == 77) s_.y s_.aK r3 r6) fun K=>(Option.bind (dK (aN.mk K.1 s_.x s_.y s_.s s_.sX s_.sY s_.sS s_.waiting s_.top s_.aK s_.aX s_.title) 0 s_.y) fun L=>some (.inl L))) else some (.inl s_))) else (bif (b == 83) then (Option.bind (nj (aN.mk s_.g s_.x s_.y s_.s s_.sX s_.sY s_.sS false s_.top s_.aK s_.aX s_.title) r3) fun h=>(kK (some (h.1,h.2)))) else (bif (b == 84) then (Option.bind (eL s_.g false s_.top s_.aK r3 r6) fun M=>some (.inl (aN.mk M.1 s_.x s_.y s_.s s_.sX s_.sY s_.sS false s_.top s_.aK s_.aX s_.title))) else (bif (b == 109) then (Option.bind (rS s_.s l) fun N=>some (.inl (aN.mk s_.g s_.x s_.y N s_.sX s_.sY s_.sS s_.waiting s_.top s_.aK s_.aX s_.title))) else (bif (b == 114) then (Option.bind (fL l 0 1) fun i=>(Option.bind (fL l 1 (s_.g.l.length:Int)) fun j=>(bif (decide ((IntKind.i64.wrap ((imax 1 (eN i (s_.g.l.length:Int))) - 1)) < (IntKind.i64.wrap ((imax 1 (eN j (s_.g.l.length:Int))) - 1)))) then (Option.bind (dK (aN.mk s_.g s_.x s_.y s_.s s_.sX s_.sY s_.sS s_.waiting (IntKind.i64.wrap ((imax 1 (eN i (s_.g.l.length:Int))) - 1)) (IntKind.i64.wrap ((imax 1 (eN j (s_.g.l.length:Int))) - 1)) s_.aX s_.title) 0 0) fun O=>some (.inl O)) else some (.inl s_)))) else some (.inl s_)))))))))))))))))))))):Option (aN ⊕ (aN×(List aV)))) fun | .inl e753=>some (e753,([]:List aV)) | .inr w=>some w)))
noncomputable def uc (s_:aN) (a:k6):Option (aN×(List aV)) :=
 (Option.bind ((bif (a.kind == 1) then (Option.bind (qH s_ a.rune) fun b=>(kK (some (b.1,b.2)))) else (bif (a.kind == 2) then (bif (a.byte == 8) then (Option.bind (dK s_ (IntKind.i64.wrap (s_.x - 1)) s_.y) fun h=>(kK (some (h,([]:List aV))))) else (bif (a.byte == 9) then (Option.bind (dK s_ (IntKind.i64.wrap ((IntKind.i64.wrap ((IntKind.i64.wrap (s_.x.tdiv 8))*8))+8)) s_.y) fun i=>(kK (some (i,([]:List aV))))) else (Option.bind ((bif (a.byte == 10) then some (a.byte == 10) else (bif (a.byte == 11) then some (a.byte == 11) else some (a.byte == 12))):Option Bool) fun j=>(bif j then (Option.bind (iG s_) fun c=>(kK (some (c.1,c.2)))) else (bif (a.byte == 13) then (Option.bind (dK s_ 0 s_.y) fun k=>(kK (some (k,([]:List aV))))) else some (.inl s_)))))) else (bif (a.kind == 3) then (bif (a.byte == 68) then (Option.bind (iG s_) fun d=>(kK (some (d.1,d.2)))) else (bif (a.byte == 69) then (Option.bind (iG (aN.mk s_.g 0 s_.y s_.s s_.sX s_.sY s_.sS s_.waiting s_.top s_.aK s_.aX s_.title)) fun e=>(kK (some (e.1,e.2)))) else (bif (a.byte == 77) then (bif (s_.y == s_.top) then (Option.bind (k7 s_.s) fun m=>(Option.bind (eL s_.g false s_.top s_.aK 1 m) fun n=>(kK (some ((aN.mk n.1 s_.x s_.y s_.s s_.sX s_.sY s_.sS false s_.top s_.aK s_.aX s_.title),([]:List aV)))))) else (Option.bind (dK (aN.mk s_.g s_.x s_.y s_.s s_.sX s_.sY s_.sS false s_.top s_.aK s_.aX s_.title) s_.x (IntKind.i64.wrap (s_.y - 1))) fun o=>(kK (some (o,([]:List aV)))))) else (bif (a.byte == 55) then some (.inl (aN.mk s_.g s_.x s_.y s_.s s_.x s_.y s_.s s_.waiting s_.top s_.aK s_.aX s_.title)) else (bif (a.byte == 56) then (Option.bind (dK (aN.mk s_.g s_.x s_.y s_.sS s_.sX s_.sY s_.sS s_.waiting s_.top s_.aK s_.aX s_.title) s_.sX s_.sY) fun p=>(kK (some (p,([]:List aV))))) else (bif (a.byte == 99) then (Option.bind (rT s_.g.w (s_.g.l.length:Int)) fun q=>(kK (some (q,([]:List aV))))) else some (.inl s_))))))) else (bif (a.kind == 4) then (bif (!a.eE) then (Option.bind (oo s_ a.byte a.bH) fun f=>(kK (some (f.1,f.2)))) else (Option.bind ((Option.bind (fL a.bH 0 0) fun r=>(bif (r == 7) then (bif (a.byte == 104) then some true else some (a.byte == 108)) else some false)):Option Bool) fun t=>(bif t then some (.inl (aN.mk s_.g s_.x s_.y s_.s s_.sX s_.sY s_.sS s_.waiting s_.top s_.aK (a.byte == 104) s_.title)) else some (.inl s_)))) else (bif (a.kind == 5) then some (.inl (aN.mk s_.g s_.x s_.y s_.s s_.sX s_.sY s_.sS s_.waiting s_.top s_.aK s_.aX a.text)) else some (.inl s_)))))):Option (aN ⊕ (aN×(List aV)))) fun | .inl e456=>some (e456,([]:List aV)) | .inr w=>some w)
end Go.Tw.X
set_option linter.unusedVariables false
set_option linter.unusedSimpArgs false
set_option maxRecDepth 10000
namespace Go.Tw.X
open Go Go.Tw
noncomputable def rU (a:k6):Option aZ :=
 (Option.bind (chk (eO ([]:List Int).length a.bH.length 8)) fun _=>some (aZ.mk a.kind (IntKind.i32.wrap a.rune) (IntKind.u8.wrap a.byte) a.eE (([]:List Int)++a.bH) a.text))
end Go.Tw.X
set_option linter.unusedVariables false
set_option linter.unusedSimpArgs false
set_option maxRecDepth 10000
namespace Go.Tw.X
open Go Go.Tw
structure zz where
 l:List (List ua)
 begun:List ua
 deriving DecidableEq,Inhabited
end Go.Tw.X
set_option linter.unusedVariables false
set_option linter.unusedSimpArgs false
set_option maxRecDepth 10000
namespace Go.Tw.X
open Go Go.Tw
structure cH where
 kind:Int
 text:ByteArray
 w:Int
 h:Int
 deriving DecidableEq,Inhabited
structure kz where
 s:aN
 b:zz
 all:ByteArray
 Ou:Int
 k:Int
 deriving DecidableEq,Inhabited
def oD (x:cH):Prop:=(inK .i64) x.kind∧(fun s:ByteArray=>s.size≤maxLen) x.text∧(inK .i64) x.w∧(inK .i64) x.h∧True
end Go.Tw.X
set_option linter.unusedVariables false
set_option linter.unusedSimpArgs false
set_option maxRecDepth 10000
namespace Go.Tw.X
open Go Go.Tw
noncomputable def lV (e:cH):Option cH :=
 (Option.bind (n5 e.text 60) fun r3=>(Option.bind ((bif (decide (e.w > 10)) then some (decide (e.w≤1000)) else some false):Option Bool) fun e9=>(Option.bind ((bif e9 then some (cH.mk e.kind r3 10 e.h) else some (cH.mk e.kind r3 e.w e.h)):Option cH) fun a=>(Option.bind ((bif (decide (a.h > 6)) then some (decide (a.h≤1000)) else some false):Option Bool) fun b=>(Option.bind ((bif b then some (cH.mk a.kind a.text a.w 6) else some a):Option cH) fun c=>some c)))))
end Go.Tw.X
set_option linter.unusedVariables false
set_option linter.unusedSimpArgs false
set_option maxRecDepth 10000
namespace Go.Tw.X
open Go Go.Tw
noncomputable def mr:Option Bool :=
 (Option.bind (m9 (dF.mk 5 1 2)) fun r1=>(Option.bind nZ fun f=>(Option.bind (mT 3 2) fun g=>(Option.bind (dO g) fun b=>(Option.bind (fI r1 b.1) fun h=>(Option.bind (fK h.2 0) fun d=>(Option.bind (iter (σ:=bB×Int) (ρ:=bB ⊕ Bool) (fun a=>(bif (decide (a.2 < (d.1.length:Int))) then (Option.bind (idx d.1 a.2) fun i=>(Option.bind (cW a.1 i) fun e=>(bif (e.1 != 0) then (kY (some false)) else some (.inl (e.2,(IntKind.i64.wrap (a.2+1))))))) else some (.inr (.inl a.1)))) (f,0)) fun | .inl e285=>(Option.bind ((Option.bind (jc e285) fun j=>(bif (j == 1) then (Option.bind (iB e285) fun k=>(Option.bind (dO b.2) fun c=>(Option.bind (iA k c.1) fun l=>(bif l then (Option.bind (kj e285) fun m=>(Option.bind (om m 0) fun n=>some ((n == 1),c.2))) else some (false,c.2))))) else some (false,b.2))):Option (Bool×bA)) fun o=>some o.1) | .inr w=>some w)))))))
noncomputable def ld (events:List cH) (order:List Int) (part:Int):Option Bool :=
 (Option.bind mr fun r1=>(bif (!r1) then some false else (Option.bind (mT 6 3) fun r6=>(Option.bind (m9 (dF.mk (IntKind.i64.wrap (4+(Go.bits .and .i64 part 31))) 1 3)) fun n=>(Option.bind nZ fun o=>(Option.bind (iter (σ:=bA×Int) (ρ:=bA) (fun b=>(Option.bind ((bif (decide (b.2 < (events.length:Int))) then some (decide (b.2 < 6)) else some false):Option Bool) fun p=>(bif p then (Option.bind (idx events b.2) fun q=>(Option.bind (lV q) fun e=>(Option.bind (dZ b.1 (ky.mk e.kind e.text e.w e.h)) fun r=>some (.inl (r.2,(IntKind.i64.wrap (b.2+1))))))) else some (.inr b.1)))) (r6,0)) fun s=>(Option.bind (dO s) fun i=>(Option.bind (fI n i.1) fun t=>(Option.bind (fK t.2 0) fun c=>(bif ((c.1.length:Int) == 0) then some false else (Option.bind (iter (σ:=bB×bA×Int) (ρ:=(bA×bB) ⊕ Bool) (fun a=>(Option.bind ((bif (decide (a.2.2 < (order.length:Int))) then some (decide (a.2.2 < 30)) else some false):Option Bool) fun u=>(bif u then (Option.bind (idx order a.2.2) fun v=>(Option.bind (chk (decide ((c.1.length:Int)≠0))) fun _=>(Option.bind (idx c.1 ((Go.bits .and .i64 v 65535).tmod (c.1.length:Int))) fun x=>(Option.bind (cW a.1 x) fun f=>(Option.bind ((bif (f.1 != 0) then (bif (f.1 != 8) then some (true,a.2.1) else (Option.bind (jc f.2) fun y=>(Option.bind (dO a.2.1) fun j=>some ((y != j.1.k),j.2)))) else some (false,a.2.1)):Option (Bool×bA)) fun l=>(bif l.1 then (kY (some false)) else some (.inl (f.2,l.2,(IntKind.i64.wrap (a.2.2+1)))))))))) else some (.inr (.inl (a.2.1,a.1)))))) (o,i.2,0)) fun | .inl e1186=>(Option.bind (iter (σ:=bB×Int) (ρ:=bB) (fun d=>(bif (decide (d.2 < (c.1.length:Int))) then (Option.bind (idx c.1 d.2) fun z=>(Option.bind (cW d.1 z) fun A=>some (.inl (A.2,(IntKind.i64.wrap (d.2+1)))))) else some (.inr d.1))) (e1186.2,0)) fun m=>(Option.bind ((Option.bind (iB m) fun B=>(Option.bind (dO e1186.1) fun g=>(Option.bind (iA B g.1) fun C=>(bif C then (Option.bind (jI m.slot) fun D=>some (((D.length:Int) == 0),g.2)) else some (false,g.2))))):Option (Bool×bA)) fun E=>some E.1)) | .inr w=>some w)))))))))))
end Go.Tw.X

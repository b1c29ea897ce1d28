import Derived.Test.YtgiokjfkjaoeiaaGreatDoorFw2
set_option linter.unusedVariables false
set_option linter.unusedSimpArgs false
set_option maxRecDepth 10000
namespace Go.Tw.X
open Go Go.Tw
structure cF where
 b:List Int
 deriving DecidableEq,Inhabited
structure aT where
 s:ByteArray
 e:Int
 deriving DecidableEq,Inhabited
noncomputable def qv (n_:Int):Option Int :=
 some n_
noncomputable def td (n_:Int):Option Int :=
 some (imax 0 (eM n_ 4611686018427387904))
noncomputable def nM {σ:Type} (Y:σ->Int->Option (σ×Bool)) (y0:σ) (x1:Int):Option (σ×Int) :=
 (Option.bind (td x1) λr1=>(Option.bind (iter (σ:=Int×σ) (ρ:=(Int×σ) ⊕ (σ×Int)) (λa=>(bif (decide (a.1>=128)) then (Option.bind (Y a.2 (Go.bits .or .u8 (Go.bits .and .u8 (IntKind.u8.wrap a.1) 127) 128)) λz68=>(bif (!z68.2) then (m6 (some (z68.1,a.1))) else some (.inl ((a.1.fdiv (2 ^ (min 7 64))),z68.1)))) else some (.inr (.inl (a.1,a.2))))) (r1,y0)) λ | .inl e53=>(Option.bind (Y e53.2 (IntKind.u8.wrap e53.1)) λz75=>some (z75.1,e53.1)) | .inr w=>some w))
noncomputable def cY (o:cF) (l:List Int):Option cF :=
 (Option.bind (iter (σ:=cF×Int) (ρ:=cF) (λa=>(bif (decide (a.2 < (l.length:Int))) then (Option.bind (idx l a.2) λe=>(Option.bind (qv e) λf=>(Option.bind (nM (λc d=>(Option.bind (chk (eH c.b.length [d].length 1)) λ_=>some ((cF.mk (c.b++[d])),true))) (a.1:cF) f) λg=>some (.inl (g.1,(IntKind.i64.wrap (a.2+1))))))) else some (.inr a.1))) (o,0)) λh=>some h)
noncomputable def gU (o:cF) (l:List ByteArray):Option cF :=
 (Option.bind (iter (σ:=cF×Int) (ρ:=cF) (λa=>(bif (decide (a.2 < (l.length:Int))) then (Option.bind (idx l a.2) λc=>(Option.bind (chk (eH a.1.b.length c.size 1)) λ_=>some (.inl ((cF.mk (a.1.b++sbs c)),(IntKind.i64.wrap (a.2+1)))))) else some (.inr a.1))) (o,0)) λd=>some d)
noncomputable def mI (o:cF) (l:List ByteArray):Option cF :=
 (Option.bind (iter (σ:=cF×Int) (ρ:=cF) (λa=>(bif (decide (a.2 < (l.length:Int))) then (Option.bind (idx l a.2) λb=>(Option.bind (cY a.1 [(b.size:Int)]) λc=>(Option.bind (gU c [b]) λd=>some (.inl (d,(IntKind.i64.wrap (a.2+1))))))) else some (.inr a.1))) (o,0)) λe=>some e)
noncomputable def iJ (o:cF):Option ByteArray :=
 some (gX o.b)
noncomputable def wV (s_:ByteArray):Option aT :=
 some (aT.mk s_ 0)
noncomputable def bU (in_:aT) (e:Int):Option aT :=
 (Option.bind ((bif (in_.e == 0) then some (e != 0) else some false):Option Bool) λe4=>(bif e4 then some (aT.mk (ByteArray.mk #[]) e) else some in_))
noncomputable def bV (in_:aT):Option (Int×aT) :=
 (Option.bind (iter (σ:=Int×Int) (ρ:=Unit ⊕ (Int×aT)) (λa=>(bif (decide (a.1 < (eM (in_.s.size:Int) 9))) then (Option.bind (z6 in_.s a.1) λb213=>(Option.bind (chk (shk (IntKind.i64.wrap (7*a.1)))) λ_=>(bif (decide (b213>=128)) then some (.inl ((IntKind.i64.wrap (a.1+1)),(Go.bits .or .i64 a.2 (IntKind.i64.wrap ((IntKind.i64.wrap (Go.bits .and .u8 b213 127))*2 ^ (min (IntKind.i64.wrap (7*a.1)).toNat 64)))))) else (Option.bind ((bif (decide (a.1 > 0)) then (bif (b213 == 0) then some true else some (decide ((Go.bits .or .i64 a.2 (IntKind.i64.wrap ((IntKind.i64.wrap (Go.bits .and .u8 b213 127))*2 ^ (min (IntKind.i64.wrap (7*a.1)).toNat 64)))) > 4611686018427387904))) else some (decide ((Go.bits .or .i64 a.2 (IntKind.i64.wrap ((IntKind.i64.wrap (Go.bits .and .u8 b213 127))*2 ^ (min (IntKind.i64.wrap (7*a.1)).toNat 64)))) > 4611686018427387904))):Option Bool) λb=>(bif b then (Option.bind (bU in_ 1) λc=>(m6 (some (0,c)))) else (Option.bind (chk (dC (IntKind.i64.wrap (a.1+1)) (in_.s.size:Int) in_.s.size)) λ_=>(m6 (some ((Go.bits .or .i64 a.2 (IntKind.i64.wrap ((IntKind.i64.wrap (Go.bits .and .u8 b213 127))*2 ^ (min (IntKind.i64.wrap (7*a.1)).toNat 64)))),(aT.mk (iN in_.s (IntKind.i64.wrap (a.1+1)) (in_.s.size:Int)) in_.e)))))))))) else some (.inr (.inl ())))) (0,0)) λ | .inl e176=>(Option.bind ((bif (decide ((in_.s.size:Int)>=9)) then (Option.bind (bU in_ 1) λd=>some d) else some in_):Option aT) λf=>(Option.bind (bU f 2) λg=>some (0,g))) | .inr w=>some w)
noncomputable def oV (in_:aT) (n_:Int):Option (ByteArray×aT) :=
 (bif (decide ((imax 0 n_) > (in_.s.size:Int))) then (Option.bind (bU in_ 2) λr6=>some ((ByteArray.mk #[]),r6)) else (Option.bind (chk (dC 0 (imax 0 n_) in_.s.size)) λ_=>(Option.bind (chk (dC (imax 0 n_) (in_.s.size:Int) in_.s.size)) λ_=>some ((iN in_.s 0 (imax 0 n_)),(aT.mk (iN in_.s (imax 0 n_) (in_.s.size:Int)) in_.e)))))
noncomputable def nz (in_:aT):Option (ByteArray×aT) :=
 (Option.bind (bV in_) λr1=>(Option.bind (oV r1.2 r1.1) λr4=>some (r4.1,r4.2)))
noncomputable def dQ (in_:aT):Option Int :=
 some in_.e
noncomputable def oW (in_:aT):Option Int :=
 (bif (!(in_.s.toList == (ByteArray.mk #[]).toList)) then some 1 else some in_.e)
structure bT where
 lead:Int
 rune:Int
 kJ:Int
 deriving DecidableEq,Inhabited
structure mJ where
 first:Int
 last:Int
 kJ:Int
 low:Int
 high:Int
 deriving DecidableEq,Inhabited
def bW:List mJ:=[⟨194,223,1,128,191⟩,⟨224,224,2,160,191⟩,⟨225,236,2,128,191⟩,⟨237,237,2,128,159⟩,⟨238,239,2,128,191⟩,⟨240,240,3,144,191⟩,⟨241,243,3,128,191⟩,⟨244,244,3,128,143⟩]
noncomputable def kB (d:bT):Option (List Int) :=
 (bif (decide (d.kJ<=0)) then some ([]:List Int) else some [65533])
noncomputable def nY (b:Int):Option (mJ×Bool) :=
 (Option.bind (iter (σ:=Int) (ρ:=Unit ⊕ (mJ×Bool)) (λa=>(bif (decide (a < 8)) then (Option.bind (idx bW a) λc=>(Option.bind ((bif (decide (b>=c.first)) then some (decide (b<=c.last)) else some false):Option Bool) λd=>(bif d then (m6 (some (c,true))) else some (.inl (IntKind.i64.wrap (a+1)))))) else some (.inr (.inl ())))) 0) λ | .inl e84=>some ((mJ.mk 0 0 0 0 0),false) | .inr w=>some w)
noncomputable def nA (b:Int):Option (bT×(List Int)) :=
 (bif (decide (b < 128)) then some ((bT.mk 0 0 0),[(IntKind.i32.wrap b)]) else (Option.bind (nY b) λr8=>(bif (!r8.2) then some ((bT.mk 0 0 0),[65533]) else (Option.bind (chk (shk r8.1.kJ)) λ_=>some ((bT.mk b (Go.bits .and .i32 (IntKind.i32.wrap b) ((63:Int).fdiv (2 ^ (min r8.1.kJ.toNat 32)))) r8.1.kJ),([]:List Int))))))
noncomputable def jE (d:bT) (b:Int):Option Bool :=
 (Option.bind (nY d.lead) λr2=>(bif (decide (d.kJ < r2.1.kJ)) then (Option.bind ((bif (decide (b>=128)) then some (decide (b<=191)) else some false):Option Bool) λa=>some a) else (Option.bind ((bif (decide (b>=r2.1.low)) then some (decide (b<=r2.1.high)) else some false):Option Bool) λc=>some c)))
noncomputable def jF (d:bT) (b:Int):Option (bT×(List Int)) :=
 (bif (decide (d.kJ<=0)) then (Option.bind (nA b) λc=>some (c.1,c.2)) else (Option.bind (jE d b) λe=>(bif (!e) then (Option.bind (nA b) λa=>(Option.bind (chk (eH [65533].length a.2.length 4)) λ_=>some (a.1,([65533]++a.2)))) else (bif ((IntKind.i64.wrap (d.kJ - 1)) == 0) then (Option.bind (some [(Go.bits .or .i32 (IntKind.i32.wrap (d.rune*2 ^ (min 6 32))) (Go.bits .and .i32 (IntKind.i32.wrap b) 63))]:Option (List Int)) λf=>some ((bT.mk 0 0 0),f)) else some ((bT.mk d.lead (Go.bits .or .i32 (IntKind.i32.wrap (d.rune*2 ^ (min 6 32))) (Go.bits .and .i32 (IntKind.i32.wrap b) 63)) (IntKind.i64.wrap (d.kJ - 1))),([]:List Int))))))
structure cW where
 addr:Bool
 buf:List Int
 deriving DecidableEq,Inhabited
structure cG where
 e0:Int
 e1:Int
 deriving DecidableEq,Inhabited
structure oD where
 e0:Int
 e1:Int
 e2:Int
 deriving DecidableEq,Inhabited
noncomputable def qw (x_:Int) (y:Int):Option (Int×Int) :=
 some ((IntKind.u64.wrap ((IntKind.u64.wrap ((IntKind.u64.wrap ((x_.fdiv (2 ^ (min 32 64)))*(y.fdiv (2 ^ (min 32 64)))))+((IntKind.u64.wrap ((IntKind.u64.wrap ((x_.fdiv (2 ^ (min 32 64)))*(Go.bits .and .u64 y 4294967295)))+((IntKind.u64.wrap ((Go.bits .and .u64 x_ 4294967295)*(Go.bits .and .u64 y 4294967295))).fdiv (2 ^ (min 32 64))))).fdiv (2 ^ (min 32 64)))))+((IntKind.u64.wrap ((Go.bits .and .u64 (IntKind.u64.wrap ((IntKind.u64.wrap ((x_.fdiv (2 ^ (min 32 64)))*(Go.bits .and .u64 y 4294967295)))+((IntKind.u64.wrap ((Go.bits .and .u64 x_ 4294967295)*(Go.bits .and .u64 y 4294967295))).fdiv (2 ^ (min 32 64))))) 4294967295)+(IntKind.u64.wrap ((Go.bits .and .u64 x_ 4294967295)*(y.fdiv (2 ^ (min 32 64))))))).fdiv (2 ^ (min 32 64))))),(IntKind.u64.wrap (x_*y)))
noncomputable def qL (x_:Int) (y:Int):Option (Int×Int) :=
 (Option.bind (qw x_ y) λr1=>some (r1.1,r1.2))
noncomputable def gH (s_:ByteArray) (prefix_:ByteArray):Option Bool :=
 (Option.bind ((bif (decide ((s_.size:Int)>=(prefix_.size:Int))) then (Option.bind (chk (dC 0 (prefix_.size:Int) s_.size)) λ_=>some ((iN s_ 0 (prefix_.size:Int)).toList == prefix_.toList)) else some false):Option Bool) λe8=>some e8)
noncomputable def jR (s_:ByteArray) (prefix_:ByteArray):Option (ByteArray×Bool) :=
 (Option.bind (gH s_ prefix_) λr1=>(bif (!r1) then some (s_,false) else (Option.bind (chk (dC (prefix_.size:Int) (s_.size:Int) s_.size)) λ_=>some ((iN s_ (prefix_.size:Int) (s_.size:Int)),true))))
noncomputable def kC (s_:ByteArray) (prefix_:ByteArray):Option (ByteArray×Bool) :=
 (Option.bind (jR s_ prefix_) λr1=>some (r1.1,r1.2))
noncomputable def eS (b:cW) (s_:ByteArray):Option cW :=
 (Option.bind (chk (eH b.buf.length s_.size 1)) λ_=>some (cW.mk true (b.buf++sbs s_)))
noncomputable def mm (b:cW):Option ByteArray :=
 some (gX b.buf)
structure jG where
 from_:Int
 to:Int
 deriving DecidableEq,Inhabited
def cZ:List jG:=[⟨(-2147483648),31⟩,⟨127,159⟩,⟨768,879⟩,⟨6832,6911⟩,⟨7616,7679⟩,⟨8203,8207⟩,⟨8400,8447⟩,⟨55296,57343⟩,⟨65024,65039⟩,⟨65056,65071⟩,⟨65279,65279⟩,⟨917760,917999⟩,⟨1114112,2147483647⟩]
def dI:List jG:=[⟨4352,4447⟩,⟨11904,12350⟩,⟨12353,13311⟩,⟨13312,19903⟩,⟨19968,40959⟩,⟨40960,42191⟩,⟨44032,55203⟩,⟨63744,64255⟩,⟨65072,65135⟩,⟨65280,65376⟩,⟨65504,65510⟩,⟨127744,128591⟩,⟨129280,129535⟩,⟨131072,262141⟩]
noncomputable def qH (l:List jG) (r_:Int):Option Bool :=
 (Option.bind (iter (σ:=Int×Int) (ρ:=Int) (λa=>(bif (decide (a.1 < a.2)) then (Option.bind (idx l (IntKind.i64.wrap ((IntKind.i64.wrap (a.1+a.2)).tdiv 2))) λc=>(bif (decide (c.to < r_)) then some (.inl ((IntKind.i64.wrap ((IntKind.i64.wrap ((IntKind.i64.wrap (a.1+a.2)).tdiv 2))+1)),a.2)) else some (.inl (a.1,(IntKind.i64.wrap ((IntKind.i64.wrap (a.1+a.2)).tdiv 2)))))) else some (.inr a.1))) (0,(l.length:Int))) λb=>(Option.bind ((bif (decide (b < (l.length:Int))) then (Option.bind (idx l b) λd=>some (decide (d.from_<=r_))) else some false):Option Bool) λe=>some e))
noncomputable def qI (r_:Int):Option Int :=
 (Option.bind (qH cZ r_) λr9=>(bif r9 then some 0 else (Option.bind (qH dI r_) λa=>(bif a then some 2 else some 1))))
structure aG where
 rune:Int
 aM:Int
 part:Int
 deriving DecidableEq,Inhabited
structure aE where
 cells:List aG
 wrapped:Bool
 deriving DecidableEq,Inhabited
structure aJ where
 rune:Int
 aM:Int
 deriving DecidableEq,Inhabited
noncomputable def mq (n_:Int) (lo:Int) (hi:Int):Option Int :=
 some (imax lo (eM n_ hi))
noncomputable def jH (aM:Int):Option aG :=
 some (aG.mk 32 aM 0)
noncomputable def eE (x_:List aG) (count:Int):Option (List aG) :=
 (bif (decide (count < 0)) then none else (Option.bind (qL (IntKind.u64.wrap (x_.length:Int)) (IntKind.u64.wrap count)) λr3=>(Option.bind ((bif (decide (r3.1 > 0)) then some true else some (decide (r3.2 > 9223372036854775807))):Option Bool) λe9=>(bif e9 then none else (Option.bind (chk (HD (IntKind.i64.wrap r3.2) 24)) λ_=>(Option.bind (iter (σ:=(List aG)×Int) (ρ:=(List aG)) (λa=>(bif (decide (a.2 < (a.1.length:Int))) then (Option.bind (chk (dC a.2 (a.1.length:Int) a.1.length)) λ_=>(Option.bind (chk (dC 0 a.2 a.1.length)) λ_=>some (.inl ((AW a.1 a.2.toNat),(IntKind.i64.wrap (a.2+((Nat.min a.2.toNat (a.1.length - a.2.toNat):Nat):Int))))))) else some (.inr a.1))) ((cpy (List.replicate (IntKind.i64.wrap r3.2).toNat (aG.mk 0 0 0)) x_),((Nat.min x_.length (List.replicate (IntKind.i64.wrap r3.2).toNat (aG.mk 0 0 0)).length:Nat):Int))) λb=>some b))))))
noncomputable def lQ (n_:Int) (aM:Int):Option (List aG) :=
 (Option.bind (jH aM) λr1=>(Option.bind (eE [r1] (imax 0 n_)) λr7=>some r7))
noncomputable def lR (w:Int) (aM:Int):Option aE :=
 (Option.bind (mq w 0 1000) λr2=>(Option.bind (lQ r2 aM) λr5=>some (aE.mk r5 false)))
noncomputable def eN (s_:List aG):Option (List aG) :=
 (Option.bind (chk (eH ([]:List aG).length s_.length 24)) λ_=>some (([]:List aG)++s_))
noncomputable def fI (r_:aE):Option (List aG) :=
 (Option.bind (eN r_.cells) λr2=>some r2)
noncomputable def nZ (l:List aG) (i:Int):Option Bool :=
 (Option.bind (idx l i) λx1=>(bif (x1.part == 1) then (Option.bind ((bif (decide ((IntKind.i64.wrap (i+1))>=(l.length:Int))) then some true else (Option.bind (idx l (IntKind.i64.wrap (i+1))) λa=>some (a.part != 2))):Option Bool) λb=>some b) else (bif (x1.part == 2) then (Option.bind ((bif (i == 0) then some true else (Option.bind (idx l (IntKind.i64.wrap (i - 1))) λc=>some (c.part != 1))):Option Bool) λd=>some d) else (bif (x1.part == 3) then some (i != (IntKind.i64.wrap ((l.length:Int) - 1))) else some false))))
noncomputable def fD (l:List aG):Option aE :=
 (Option.bind (iter (σ:=(List aG)×Int) (ρ:=(List aG)) (λa=>(bif (decide (a.2 < (l.length:Int))) then (Option.bind ((Option.bind (nZ a.1 a.2) λb=>(bif b then (Option.bind (idx a.1 a.2) λc=>(Option.bind (jH c.aM) λd=>(Option.bind (idx a.1 a.2) λg=>some (a.1.set a.2.toNat d)))) else some a.1)):Option (List aG)) λe=>some (.inl (e,(IntKind.i64.wrap (a.2+1))))) else some (.inr a.1))) (l,0)) λf=>some (aE.mk f false))
noncomputable def om (r_:aE) (at_:Int) (x_:Int) (aM:Int):Option aE :=
 (Option.bind (fI r_) λr3=>(Option.bind (qI x_) λr9=>(Option.bind ((Option.bind ((bif (r9 == 0) then some true else (bif (decide (at_ < 0)) then some true else some (decide (at_ > (IntKind.i64.wrap ((r3.length:Int) - r9)))))):Option Bool) λa=>(bif a then some r3 else (bif (r9 == 1) then (Option.bind (idx r3 at_) λh=>some (r3.set at_.toNat (aG.mk x_ aM 0))) else (Option.bind (idx r3 at_) λi=>(Option.bind (idx (r3.set at_.toNat (aG.mk x_ aM 1)) (IntKind.i64.wrap (at_+1))) λj=>(Option.bind ((bif (decide (at_ > 0)) then (Option.bind (idx ((r3.set at_.toNat (aG.mk x_ aM 1)).set ((IntKind.i64.wrap (at_+1)).toNat) (aG.mk x_ aM 2)) (IntKind.i64.wrap (at_ - 1))) λb=>some (b.part == 1)) else some false):Option Bool) λc=>(bif c then (Option.bind (idx ((r3.set at_.toNat (aG.mk x_ aM 1)).set ((IntKind.i64.wrap (at_+1)).toNat) (aG.mk x_ aM 2)) (IntKind.i64.wrap (at_ - 1))) λd=>(Option.bind (jH d.aM) λe=>(Option.bind (idx ((r3.set at_.toNat (aG.mk x_ aM 1)).set ((IntKind.i64.wrap (at_+1)).toNat) (aG.mk x_ aM 2)) (IntKind.i64.wrap (at_ - 1))) λk=>some (((r3.set at_.toNat (aG.mk x_ aM 1)).set ((IntKind.i64.wrap (at_+1)).toNat) (aG.mk x_ aM 2)).set ((IntKind.i64.wrap (at_ - 1)).toNat) e)))) else some ((r3.set at_.toNat (aG.mk x_ aM 1)).set ((IntKind.i64.wrap (at_+1)).toNat) (aG.mk x_ aM 2))))))))):Option (List aG)) λf=>(Option.bind (fD f) λg=>some g))))
noncomputable def kS (r_:aE):Option (List aJ) :=
 (Option.bind (iter (σ:=(List aG)) (ρ:=(List aG)) (λa=>(Option.bind ((bif (!r_.wrapped) then (bif (decide ((a.length:Int) > 0)) then (Option.bind (idx a (IntKind.i64.wrap ((a.length:Int) - 1))) λd=>(Option.bind (jH 0) λe=>some ((d.rune == e.rune) && ((d.aM == e.aM) && ((d.part == e.part) && true))))) else some false) else some false):Option Bool) λg=>(bif g then (Option.bind (chk (dC 0 (IntKind.i64.wrap ((a.length:Int) - 1)) a.length)) λ_=>some (.inl (cut a 0 (IntKind.i64.wrap ((a.length:Int) - 1))))) else some (.inr a)))) r_.cells) λf=>(Option.bind (iter (σ:=Int×(List aJ)) (ρ:=(List aJ)) (λb=>(bif (decide (b.1 < (f.length:Int))) then (Option.bind ((Option.bind (idx f b.1) λc=>(Option.bind ((bif (c.part == 0) then some true else some (c.part == 1)):Option Bool) λh=>(bif h then (Option.bind (chk (eH b.2.length [(aJ.mk c.rune c.aM)].length 16)) λ_=>some (b.2++[(aJ.mk c.rune c.aM)])) else some b.2))):Option (List aJ)) λi=>some (.inl ((IntKind.i64.wrap (b.1+1)),i))) else some (.inr b.2))) (0,[])) λj=>some j))
noncomputable def lL (r_:aE) (from_:Int) (to:Int) (aM:Int):Option aE :=
 (Option.bind (fI r_) λr3=>(Option.bind (mq from_ 0 (r3.length:Int)) λr9=>(Option.bind (iter (σ:=Int×(List aG)) (ρ:=(List aG)) (λa=>(Option.bind (mq to 0 (a.2.length:Int)) λb=>(bif (decide (a.1 < b)) then (Option.bind (jH aM) λc=>(Option.bind (idx a.2 a.1) λf=>some (.inl ((IntKind.i64.wrap (a.1+1)),(a.2.set a.1.toNat c))))) else some (.inr a.2)))) (r9,r3)) λd=>(Option.bind (fD d) λe=>some e))))
noncomputable def kT (r_:aE) (at_:Int) (n_:Int):Option Int :=
 (Option.bind ((bif (decide (at_ < 0)) then some true else some (decide (at_>=(r_.cells.length:Int)))):Option Bool) λe5=>(bif e5 then some 0 else (Option.bind (mq n_ 0 (IntKind.i64.wrap ((r_.cells.length:Int) - at_))) λa=>some a)))
noncomputable def gY (n_:Int):Option (List aG) :=
 (bif (decide (n_ < 0)) then none else (Option.bind ((bif (decide ((IntKind.i64.wrap (n_ - (IntKind.i64.wrap (0 - 0)))) > 0)) then (Option.bind (chk (ON (IntKind.i64.wrap (n_ - (IntKind.i64.wrap (0 - 0)))) 24)) λ_=>(Option.bind (chk (dC 0 0 (List.replicate (IntKind.i64.wrap (n_ - (IntKind.i64.wrap (0 - 0)))).toNat (aG.mk 0 0 0)).length)) λ_=>some (cut (List.replicate (IntKind.i64.wrap (n_ - (IntKind.i64.wrap (0 - 0)))).toNat (aG.mk 0 0 0)) 0 0))) else some []):Option (List aG)) λa=>some a))
noncomputable def eY (slices:List (List aG)):Option (List aG) :=
 (Option.bind (iter (σ:=Int×Int) (ρ:=Int) (λa=>(bif (decide (a.1 < (slices.length:Int))) then (Option.bind (idx slices a.1) λc=>(bif (decide ((IntKind.i64.wrap (a.2+(c.length:Int))) < 0)) then none else some (.inl ((IntKind.i64.wrap (a.1+1)),(IntKind.i64.wrap (a.2+(c.length:Int))))))) else some (.inr a.2))) (0,0)) λe=>(Option.bind (gY e) λf=>(Option.bind (iter (σ:=Int×(List aG)) (ρ:=(List aG)) (λb=>(bif (decide (b.1 < (slices.length:Int))) then (Option.bind (idx slices b.1) λd=>(Option.bind (chk (eH b.2.length d.length 24)) λ_=>some (.inl ((IntKind.i64.wrap (b.1+1)),(b.2++d))))) else some (.inr b.2))) (0,f)) λg=>some g)))
noncomputable def mK (r_:aE) (at_:Int) (n_:Int) (aM:Int):Option aE :=
 (Option.bind (kT r_ at_ n_) λr3=>(bif (r3 == 0) then (Option.bind (fI r_) λb=>(Option.bind (fD b) λc=>some c)) else (Option.bind (chk (dC 0 at_ r_.cells.length)) λ_=>(Option.bind (chk (dC at_ (r_.cells.length:Int) r_.cells.length)) λ_=>(Option.bind (lQ r3 aM) λd=>(Option.bind (eY [(cut r_.cells 0 at_),d,(cut r_.cells at_ (r_.cells.length:Int))]) λa=>(Option.bind (chk (dC 0 (r_.cells.length:Int) a.length)) λ_=>(Option.bind (fD (cut a 0 (r_.cells.length:Int))) λe=>some e))))))))
noncomputable def mL (r_:aE) (at_:Int) (n_:Int) (aM:Int):Option aE :=
 (Option.bind (kT r_ at_ n_) λr3=>(bif (r3 == 0) then (Option.bind (fI r_) λa=>(Option.bind (fD a) λb=>some b)) else (Option.bind (chk (dC 0 at_ r_.cells.length)) λ_=>(Option.bind (chk (dC (IntKind.i64.wrap (at_+r3)) (r_.cells.length:Int) r_.cells.length)) λ_=>(Option.bind (lQ r3 aM) λc=>(Option.bind (eY [(cut r_.cells 0 at_),(cut r_.cells (IntKind.i64.wrap (at_+r3)) (r_.cells.length:Int)),c]) λd=>(Option.bind (fD d) λe=>some e)))))))
noncomputable def nO (r_:aE) (aM:Int):Option aE :=
 (Option.bind (fI r_) λr3=>(Option.bind ((bif (decide ((r3.length:Int) > 0)) then (Option.bind (idx r3 (IntKind.i64.wrap ((r3.length:Int) - 1))) λc=>some (r3.set ((IntKind.i64.wrap ((r3.length:Int) - 1)).toNat) (aG.mk 32 aM 3))) else some r3):Option (List aG)) λa=>(Option.bind (fD a) λb=>some (aE.mk b.cells true))))
noncomputable def kU (r_:aE) (w:Int):Option aE :=
 (Option.bind (mq w 0 1000) λr3=>(Option.bind (fI r_) λr6=>(bif (r3 == (r6.length:Int)) then some (aE.mk r6 r_.wrapped) else (Option.bind (lQ (IntKind.i64.wrap (r3 - (r6.length:Int))) 0) λa=>(Option.bind (chk (dC 0 (eM r3 (r6.length:Int)) r6.length)) λ_=>(Option.bind (chk (eH (cut r6 0 (eM r3 (r6.length:Int))).length a.length 24)) λ_=>(Option.bind (fD ((cut r6 0 (eM r3 (r6.length:Int)))++a)) λb=>some b)))))))
noncomputable def gI (s1_:List aG) (s2_:List aG):Option Bool :=
 (bif ((s1_.length:Int) != (s2_.length:Int)) then some false else (Option.bind (iter (σ:=Int) (ρ:=Unit ⊕ Bool) (λa=>(bif (decide (a < (s1_.length:Int))) then (Option.bind (idx s1_ a) λb=>(Option.bind (idx s2_ a) λc=>(bif (!((b.rune == c.rune) && ((b.aM == c.aM) && ((b.part == c.part) && true)))) then (m6 (some false)) else some (.inl (IntKind.i64.wrap (a+1)))))) else some (.inr (.inl ())))) 0) λ | .inl e355=>some true | .inr w=>some w))
noncomputable def jI (r_:aE) (q:aE):Option Bool :=
 (Option.bind ((bif (r_.wrapped == q.wrapped) then (Option.bind (gI r_.cells q.cells) λa=>some a) else some false):Option Bool) λb=>some b)
noncomputable def dY (s_:List aE):Option (List aE) :=
 (Option.bind (chk (eH ([]:List aE).length s_.length 32)) λ_=>some (([]:List aE)++s_))
noncomputable def fZ (s_:List aE):Option (List aE) :=
 (Option.bind (iter (σ:=(List aE)×Int×Int) (ρ:=(List aE)) (λa=>(bif (decide (a.2.1 < a.2.2)) then (Option.bind ((Option.bind (idx a.1 a.2.2) λb=>(Option.bind (idx a.1 a.2.1) λc=>(Option.bind (idx a.1 a.2.1) λf=>(Option.bind (idx a.1 a.2.2) λg=>some ((a.1.set a.2.1.toNat b).set a.2.2.toNat c))))):Option (List aE)) λd=>some (.inl (d,(IntKind.i64.wrap (a.2.1+1)),(IntKind.i64.wrap (a.2.2 - 1))))) else some (.inr a.1))) (s_,0,(IntKind.i64.wrap ((s_.length:Int) - 1)))) λe=>some e)
noncomputable def dJ (s1_:List aE) (s2_:List aE):Option Bool :=
 (bif ((s1_.length:Int) != (s2_.length:Int)) then some false else (Option.bind (iter (σ:=Int) (ρ:=Unit ⊕ Bool) (λa=>(bif (decide (a < (s1_.length:Int))) then (Option.bind (idx s1_ a) λb=>(Option.bind (idx s2_ a) λc=>(Option.bind (jI b c) λd=>(bif (!d) then (m6 (some false)) else some (.inl (IntKind.i64.wrap (a+1))))))) else some (.inr (.inl ())))) 0) λ | .inl e169=>some true | .inr w=>some w))
noncomputable def cC (s_:List aJ):Option (List aJ) :=
 (Option.bind (chk (eH ([]:List aJ).length s_.length 16)) λ_=>some (([]:List aJ)++s_))
noncomputable def gA (s1_:List aJ) (s2_:List aJ):Option Bool :=
 (bif ((s1_.length:Int) != (s2_.length:Int)) then some false else (Option.bind (iter (σ:=Int) (ρ:=Unit ⊕ Bool) (λa=>(bif (decide (a < (s1_.length:Int))) then (Option.bind (idx s1_ a) λb=>(Option.bind (idx s2_ a) λc=>(bif (!((b.rune == c.rune) && ((b.aM == c.aM) && true))) then (m6 (some false)) else some (.inl (IntKind.i64.wrap (a+1)))))) else some (.inr (.inl ())))) 0) λ | .inl e355=>some true | .inr w=>some w))
def dD:List Int:=[0,498536548,997073096,651767980,1994146192,1802195444,1303535960,1342533948,3988292384,4027552580,3604390888,3412177804,2607071920,2262029012,2685067896,3183342108]
noncomputable def pH (x_:Int) (b:Int):Option Int :=
 (Option.bind (idx dD (Go.bits .and .u32 (Go.bits .xor .u32 x_ (IntKind.u32.wrap b)) 15)) λx1=>(Option.bind (idx dD (Go.bits .and .u32 (Go.bits .xor .u32 ((Go.bits .xor .u32 x_ (IntKind.u32.wrap b)).fdiv (2 ^ (min 4 32))) x1) 15)) λx5=>some (Go.bits .xor .u32 ((Go.bits .xor .u32 ((Go.bits .xor .u32 x_ (IntKind.u32.wrap b)).fdiv (2 ^ (min 4 32))) x1).fdiv (2 ^ (min 4 32))) x5)))
noncomputable def sr (l:List ByteArray):Option Int :=
 (Option.bind (iter (σ:=Int×Int) (ρ:=Int) (λa=>(bif (decide (a.2 < (l.length:Int))) then (Option.bind (idx l a.2) λc=>(Option.bind (iter (σ:=Int×Int) (ρ:=Int) (λb=>(bif (decide (b.1 < (c.size:Int))) then (Option.bind (z6 c b.1) λb642=>(Option.bind (pH b.2 b642) λd=>some (.inl ((IntKind.i64.wrap (b.1+1)),d)))) else some (.inr b.2))) (0,a.1)) λe=>some (.inl (e,(IntKind.i64.wrap (a.2+1)))))) else some (.inr a.1))) (4294967295,0)) λf=>some (Go.bits .xor .u32 4294967295 f))
structure cE where
 l:List (List aJ)
 bX:List Int
 begun:List aJ
 deriving DecidableEq,Inhabited
noncomputable def tf:Option cE :=
 some (cE.mk ([]:List (List aJ)) [0] ([]:List aJ))
noncomputable def jZ (b:cE):Option Int :=
 some (b.l.length:Int)
noncomputable def lS (b:cE) (n_:Int):Option Int :=
 (Option.bind (idx b.bX (imax 0 (eM n_ (b.l.length:Int)))) λa=>some a)
noncomputable def lT (b:cE):Option (List aJ) :=
 (Option.bind (cC b.begun) λr1=>some r1)
noncomputable def nP (l:List aJ):Option ByteArray :=
 (Option.bind (cY (cF.mk ([]:List Int)) [(l.length:Int)]) λr6=>(Option.bind (iter (σ:=cF×Int) (ρ:=cF) (λa=>(bif (decide (a.2 < (l.length:Int))) then (Option.bind (idx l a.2) λb=>(Option.bind (cY a.1 [(IntKind.i64.wrap b.rune),b.aM]) λc=>some (.inl (c,(IntKind.i64.wrap (a.2+1)))))) else some (.inr a.1))) (r6,0)) λd=>(Option.bind (iJ d) λe=>some e)))
noncomputable def gZ (in_:aT) (most:Int):Option (Int×aT) :=
 (Option.bind (bV in_) λr1=>(bif (decide (r1.1 > most)) then (Option.bind (bU r1.2 1) λr9=>some (0,r9)) else some (r1.1,r1.2)))
noncomputable def oO (in_:aT):Option ((List aJ)×aT) :=
 (Option.bind (gZ in_ 1024) λr1=>(Option.bind (iter (σ:=aT×(List aJ)×Int) (ρ:=(List aJ)×aT) (λa=>(bif (decide (a.2.2 < r1.1)) then (Option.bind (gZ a.1 1114111) λc=>(Option.bind (gZ c.2 647) λd=>(Option.bind (chk (eH a.2.1.length [(aJ.mk (IntKind.i32.wrap c.1) d.1)].length 16)) λ_=>some (.inl (d.2,(a.2.1++[(aJ.mk (IntKind.i32.wrap c.1) d.1)]),(IntKind.i64.wrap (a.2.2+1))))))) else some (.inr (a.2.1,a.1)))) (r1.2,[],0)) λb=>(Option.bind (dQ b.2) λe=>(bif (e != 0) then some (([]:List aJ),b.2) else some (b.1,b.2)))))
noncomputable def pW (chain:Int) (l:List aJ):Option Int :=
 (Option.bind (nP l) λr1=>(Option.bind (sr [r1]) λr6=>some ((IntKind.i64.wrap (((IntKind.i64.wrap (((IntKind.i64.wrap (chain*256)).tmod 281474976710597)*256)).tmod 281474976710597)+(IntKind.i64.wrap r6))).tmod 281474976710597)))
noncomputable def fU (b:cE) (l:List aJ):Option cE :=
 (Option.bind (cC l) λa=>(Option.bind (chk (eH b.l.length [a].length 24)) λ_=>(Option.bind (idx b.bX (IntKind.i64.wrap ((b.bX.length:Int) - 1))) λd=>(Option.bind (pW d l) λc=>(Option.bind (chk (eH b.bX.length [c].length 8)) λ_=>some (cE.mk (b.l++[a]) (b.bX++[c]) b.begun))))))
noncomputable def kA (b:cE) (rows:List aE):Option (Int×cE) :=
 (Option.bind (iter (σ:=cE×Int) (ρ:=cE) (λa=>(bif (decide (a.2 < (rows.length:Int))) then (Option.bind ((Option.bind (idx rows a.2) λf=>(Option.bind (kS f) λg=>(Option.bind (chk (eH a.1.begun.length g.length 16)) λ_=>(Option.bind (iter (σ:=cE) (ρ:=cE) (λd=>(bif (decide ((d.begun.length:Int)>=1024)) then (Option.bind (chk (dC 0 1024 d.begun.length)) λ_=>(Option.bind (fU d (cut d.begun 0 1024)) λc=>(Option.bind (chk (dC 1024 (c.begun.length:Int) c.begun.length)) λ_=>(Option.bind (cC (cut c.begun 1024 (c.begun.length:Int))) λj=>some (.inl (cE.mk c.l c.bX j)))))) else some (.inr d))) (cE.mk a.1.l a.1.bX (a.1.begun++g))) λe=>(bif (!f.wrapped) then (Option.bind (fU e e.begun) λh=>some (cE.mk h.l h.bX ([]:List aJ))) else some e))))):Option cE) λk=>some (.inl (k,(IntKind.i64.wrap (a.2+1))))) else some (.inr a.1))) (b,0)) λi=>some ((IntKind.i64.wrap ((i.l.length:Int) - (b.l.length:Int))),i))
structure aY where
 w:Int
 l:List aE
 deriving DecidableEq,Inhabited
noncomputable def jJ (n_:Int) (lo:Int) (hi:Int):Option Int :=
 some (imax lo (eM n_ hi))
noncomputable def kP (n_:Int):Option Int :=
 (Option.bind (jJ n_ 1 1000) λr1=>some r1)
noncomputable def qM (w:Int) (h_:Int):Option aY :=
 (Option.bind (kP w) λr1=>(Option.bind (kP h_) λr5=>(Option.bind (iter (σ:=aY×Int) (ρ:=aY) (λa=>(bif (decide (a.2 < r5)) then (Option.bind (lR a.1.w 0) λb=>(Option.bind (chk (eH a.1.l.length [b].length 32)) λ_=>some (.inl ((aY.mk a.1.w (a.1.l++[b])),(IntKind.i64.wrap (a.2+1)))))) else some (.inr a.1))) ((aY.mk r1 ([]:List aE)),0)) λc=>some c)))
noncomputable def pI (r_:aE):Option aE :=
 (Option.bind (eN r_.cells) λa=>some (aE.mk a r_.wrapped))
noncomputable def fJ (g:aY) (y:Int):Option aE :=
 (Option.bind ((bif (decide (y < 0)) then some true else some (decide (y>=(g.l.length:Int)))):Option Bool) λe5=>(bif e5 then some (aE.mk ([]:List aG) false) else (Option.bind (idx g.l y) λa=>(Option.bind (pI a) λb=>some b))))
noncomputable def eW (g:aY) (y:Int) (r_:aE):Option (Bool×aY) :=
 (Option.bind ((bif (decide (y < 0)) then some true else some (decide (y>=(g.l.length:Int)))):Option Bool) λe5=>(bif e5 then some (false,g) else (Option.bind (kU r_ g.w) λa=>(Option.bind (idx g.l y) λb=>some (true,(aY.mk g.w (g.l.set y.toNat a)))))))
noncomputable def eF (g:aY) (top:Int) (aL:Int):Option (Unit ⊕ (Int×Int)) :=
 (Option.bind (jJ top 0 (IntKind.i64.wrap ((g.l.length:Int) - 1))) λr1=>(Option.bind (jJ aL 0 (IntKind.i64.wrap ((g.l.length:Int) - 1))) λr4=>(bif (decide (r4 < r1)) then some (.inl ()) else (Option.bind (chk (dC r1 (IntKind.i64.wrap (r4+1)) g.l.length)) λ_=>some (.inr (r1,(IntKind.i64.wrap (r4+1))))))))
noncomputable def gB (g:aY) (top:Int) (aL:Int) (n_:Int) (aM:Int):Option ((List aE)×aY) :=
 (Option.bind (eF g top aL) λ | .inl r1=>some (([]:List aE),g) | .inr r1=>(Option.bind (chk (dC r1.1 r1.2 g.l.length)) λ_=>(Option.bind (jJ n_ 0 ((cut g.l r1.1 r1.2).length:Int)) λr9=>(Option.bind (chk (dC 0 r9 (cut g.l r1.1 r1.2).length)) λ_=>(Option.bind (dY (cut g.l (r1.1+0) (r1.1+r9))) λb=>(Option.bind (chk (dC r9 ((cut g.l r1.1 r1.2).length:Int) (cut g.l r1.1 r1.2).length)) λ_=>(Option.bind (iter (σ:=aY×Int) (ρ:=aY) (λa=>(bif (decide (a.2 < ((cut a.1.l r1.1 r1.2).length:Int))) then (Option.bind (lR a.1.w aM) λc=>(Option.bind (chk (dC r1.1 r1.2 a.1.l.length)) λ_=>(Option.bind (idx (cut a.1.l r1.1 r1.2) a.2) λe=>some (.inl ((aY.mk a.1.w (a.1.l.set (r1.1.toNat+a.2.toNat) c)),(IntKind.i64.wrap (a.2+1))))))) else some (.inr a.1))) ((aY.mk g.w (tV g.l r1.1 r1.2 (r1.1+r9) (r1.1+((cut g.l r1.1 r1.2).length:Int)))),(IntKind.i64.wrap (((cut (tV g.l r1.1 r1.2 (r1.1+r9) (r1.1+((cut g.l r1.1 r1.2).length:Int))) r1.1 r1.2).length:Int) - r9)))) λd=>some (b,d))))))))
noncomputable def eO (g:aY) (top:Int) (aL:Int) (n_:Int) (aM:Int):Option ((List aE)×aY) :=
 (Option.bind (eF g top aL) λ | .inl r1=>some (([]:List aE),g) | .inr r1=>(Option.bind (chk (dC r1.1 r1.2 g.l.length)) λ_=>(Option.bind (jJ n_ 0 ((cut g.l r1.1 r1.2).length:Int)) λr9=>(Option.bind (chk (dC (IntKind.i64.wrap (((cut g.l r1.1 r1.2).length:Int) - r9)) ((cut g.l r1.1 r1.2).length:Int) (cut g.l r1.1 r1.2).length)) λ_=>(Option.bind (dY (cut g.l (r1.1+(IntKind.i64.wrap (((cut g.l r1.1 r1.2).length:Int) - r9))) (r1.1+((cut g.l r1.1 r1.2).length:Int)))) λb=>(Option.bind (fZ b) λc=>(Option.bind (chk (decide (c.length=b.length))) λ_=>(Option.bind (chk (dC r9 ((cut g.l r1.1 r1.2).length:Int) (cut g.l r1.1 r1.2).length)) λ_=>(Option.bind (chk (dC 0 (IntKind.i64.wrap (((cut g.l r1.1 r1.2).length:Int) - r9)) (cut g.l r1.1 r1.2).length)) λ_=>(Option.bind (iter (σ:=aY×Int) (ρ:=aY) (λa=>(bif (decide (a.2 < r9)) then (Option.bind (lR a.1.w aM) λd=>(Option.bind (chk (dC r1.1 r1.2 a.1.l.length)) λ_=>(Option.bind (idx (cut a.1.l r1.1 r1.2) a.2) λf=>some (.inl ((aY.mk a.1.w (a.1.l.set (r1.1.toNat+a.2.toNat) d)),(IntKind.i64.wrap (a.2+1))))))) else some (.inr a.1))) ((aY.mk g.w (tV g.l (r1.1+r9) (r1.1+((cut g.l r1.1 r1.2).length:Int)) (r1.1+0) (r1.1+(IntKind.i64.wrap (((cut g.l r1.1 r1.2).length:Int) - r9))))),0)) λe=>some (c,e)))))))))))
noncomputable def lA (g:aY) (w:Int) (h_:Int) (off:Int):Option ((List aE)×aY) :=
 (Option.bind (jJ off 0 (IntKind.i64.wrap ((g.l.length:Int) - 1))) λr1=>(Option.bind (chk (dC 0 r1 g.l.length)) λ_=>(Option.bind (dY (cut g.l 0 r1)) λh=>(Option.bind (chk (dC r1 (g.l.length:Int) g.l.length)) λ_=>(Option.bind (dY (cut g.l r1 (g.l.length:Int))) λb=>(Option.bind (kP h_) λd=>(Option.bind (chk (dC 0 (eM (b.length:Int) d) b.length)) λ_=>(Option.bind (iter (σ:=(List aE)) (ρ:=(List aE)) (λc=>(Option.bind (kP h_) λi=>(bif (decide ((c.length:Int) < i)) then (Option.bind (kP w) λj=>(Option.bind (lR j 0) λe=>(Option.bind (chk (eH c.length [e].length 32)) λ_=>some (.inl (c++[e]))))) else some (.inr c)))) (cut b 0 (eM (b.length:Int) d))) λf=>(Option.bind (kP w) λk=>(Option.bind (iter (σ:=aY×Int) (ρ:=aY) (λa=>(bif (decide (a.2 < (f.length:Int))) then (Option.bind (idx a.1.l a.2) λm=>(Option.bind (eW a.1 a.2 m) λn=>some (.inl (n.2,(IntKind.i64.wrap (a.2+1)))))) else some (.inr a.1))) ((aY.mk k f),0)) λo=>some (h,o)))))))))))
noncomputable def dX (g:aY):Option (Int×Int) :=
 some (g.w,(g.l.length:Int))
noncomputable def oX (l:List aE):Option (List aE) :=
 some l
noncomputable def kV {σ:Type} (Y:σ->aE->Option (σ×Bool)) (y0:σ) (x1:List aE):Option σ :=
 (Option.bind (iter (σ:=Int×σ) (ρ:=σ ⊕ σ) (λa=>(bif (decide (a.1 < (x1.length:Int))) then (Option.bind (idx x1 a.1) λb=>(Option.bind (pI b) λc=>(Option.bind (Y a.2 c) λz184=>(bif (!z184.2) then (m6 (some z184.1)) else some (.inl ((IntKind.i64.wrap (a.1+1)),z184.1)))))) else some (.inr (.inl a.2)))) (0,y0)) λ | .inl e139=>some e139 | .inr w=>some w)
noncomputable def kW (l:List aE):Option ((List aE)×(List aE)) :=
 (Option.bind (oX l) λr2=>(Option.bind (kV (λs40 x9=>(Option.bind (chk (eH s40.length [x9].length 32)) λ_=>some ((s40++[x9]),true))) ([]:(List aE)) r2) λa=>some (a,r2)))
noncomputable def mM (g:aY):Option ((List aE)×aY) :=
 (Option.bind (kW g.l) λr1=>(Option.bind (chk (decide (r1.2.length=g.l.length))) λ_=>some (r1.1,(aY.mk g.w r1.2))))
noncomputable def lU (g:aY):Option (aY×aY) :=
 (Option.bind (kW g.l) λa=>(Option.bind (chk (decide (a.2.length=g.l.length))) λ_=>some ((aY.mk g.w a.1),(aY.mk g.w a.2))))
structure bA where
 kind:Int
 rune:Int
 byte:Int
 eC:Bool
 bJ:List Int
 text:ByteArray
 deriving DecidableEq,Inhabited
structure fB where
 eC:Bool
 oQ:Bool
 any:Bool
 some:Bool
 n:Int
 bJ:List Int
 deriving DecidableEq,Inhabited
structure aI where
 state:Int
 order:fB
 text:ByteArray
 cP:bT
 out:List bA
 deriving DecidableEq,Inhabited
noncomputable def fV (p:aI) (a:bA):Option aI :=
 (Option.bind (chk (eH p.out.length [a].length 56)) λ_=>some (aI.mk p.state p.order p.text p.cP (p.out++[a])))
noncomputable def iV (p:aI) (l:List Int):Option aI :=
 (Option.bind (iter (σ:=aI×Int) (ρ:=aI) (λa=>(bif (decide (a.2 < (l.length:Int))) then (Option.bind (idx l a.2) λb=>(Option.bind (fV a.1 (bA.mk 1 b 0 false ([]:List Int) (ByteArray.mk #[]))) λc=>some (.inl (c,(IntKind.i64.wrap (a.2+1)))))) else some (.inr a.1))) (p,0)) λd=>some d)
noncomputable def fA (p:aI) (b:Int):Option (Bool×aI) :=
 (Option.bind ((Option.bind ((bif (b == 24) then some true else some (b == 26)):Option Bool) λa=>(bif a then some (.inl (aI.mk 0 p.order p.text p.cP p.out)) else (bif (b == 27) then some (.inl (aI.mk 1 p.order p.text p.cP p.out)) else (bif (decide (b < 32)) then (Option.bind (fV p (bA.mk 2 0 b false ([]:List Int) (ByteArray.mk #[]))) λc=>some (.inl c)) else (mH (some ((b == 127),p))))))):Option (aI ⊕ (Bool×aI))) λ | .inl e42=>some (true,e42) | .inr w=>some w)
noncomputable def iO (p:aI) (b:Int):Option aI :=
 (Option.bind ((bif (decide (b < 32)) then some true else some (b == 127)):Option Bool) λe4=>(bif e4 then (Option.bind (kB p.cP) λd=>(Option.bind (iV p d) λa=>(Option.bind (fA (aI.mk a.state a.order a.text (bT.mk 0 0 0) a.out) b) λe=>some e.2))) else (Option.bind (jF p.cP b) λc=>(Option.bind (iV (aI.mk p.state p.order p.text c.1 p.out) c.2) λf=>some f))))
noncomputable def fW (p:aI) (b:Int):Option aI :=
 (Option.bind (fA p b) λr1=>(bif r1.1 then some r1.2 else (Option.bind ((bif (b == 91) then (mH (some (aI.mk 3 (fB.mk false false false false 0 ([]:List Int)) r1.2.text r1.2.cP r1.2.out))) else (bif (b == 93) then (mH (some (aI.mk 4 r1.2.order (ByteArray.mk #[]) r1.2.cP r1.2.out))) else (bif (decide (b < 48)) then (mH (some (aI.mk 2 r1.2.order r1.2.text r1.2.cP r1.2.out))) else (bif (decide (b < 127)) then (Option.bind (fV r1.2 (bA.mk 3 0 b false ([]:List Int) (ByteArray.mk #[]))) λa=>some (.inl a)) else some (.inl r1.2))))):Option (aI ⊕ aI)) λ | .inl e39=>some (aI.mk 0 e39.order e39.text e39.cP e39.out) | .inr w=>some w)))
noncomputable def kD (p:aI) (b:Int):Option aI :=
 (Option.bind ((Option.bind (fA p b) λc=>(bif (!c.1) then some ((decide (b>=48)),c.2) else some (false,c.2))):Option (Bool×aI)) λa=>(bif a.1 then some (aI.mk 0 a.2.order a.2.text a.2.cP a.2.out) else some a.2))
noncomputable def kX (o:aI):Option aI :=
 (Option.bind ((bif (decide ((o.order.bJ.length:Int) < 16)) then (Option.bind (chk (eH o.order.bJ.length [o.order.n].length 8)) λ_=>some (aI.mk o.state (fB.mk o.order.eC o.order.oQ o.order.any o.order.some o.order.n (o.order.bJ++[o.order.n])) o.text o.cP o.out)) else some o):Option aI) λa=>some (aI.mk a.state (fB.mk a.order.eC a.order.oQ a.order.any a.order.some 0 a.order.bJ) a.text a.cP a.out))
noncomputable def jK (p:aI) (a:bA):Option aI :=
 (Option.bind (chk (eH p.out.length [a].length 56)) λ_=>some (aI.mk p.state p.order p.text p.cP (p.out++[a])))
noncomputable def kE (p:aI) (b:Int):Option aI :=
 (bif p.order.oQ then some (aI.mk 0 p.order p.text p.cP p.out) else (Option.bind ((bif p.order.some then (Option.bind (kX (aI.mk 0 p.order p.text p.cP p.out)) λd=>some d) else some (aI.mk 0 p.order p.text p.cP p.out)):Option aI) λa=>(Option.bind (jK a (bA.mk 4 0 b a.order.eC a.order.bJ (ByteArray.mk #[]))) λc=>(Option.bind (chk (!(c.state == (3:Int)))) λ_=>some c))))
noncomputable def hU (p:aI) (b:Int):Option aI :=
 (Option.bind (fA p b) λr1=>(bif r1.1 then some r1.2 else (Option.bind ((bif (decide (b>=48)) then some (decide (b<=57)) else some false):Option Bool) λc=>(bif c then some (aI.mk r1.2.state (fB.mk r1.2.order.eC r1.2.order.oQ true true (eM (IntKind.i64.wrap ((IntKind.i64.wrap (10*r1.2.order.n))+(IntKind.i64.wrap (IntKind.u8.wrap (b - 48))))) 9999) r1.2.order.bJ) r1.2.text r1.2.cP r1.2.out) else (Option.bind ((bif (b == 59) then some true else some (b == 58)):Option Bool) λd=>(bif d then (Option.bind (chk (r1.2.state == (3:Int))) λ_=>(Option.bind (kX (aI.mk r1.2.state (fB.mk r1.2.order.eC r1.2.order.oQ true r1.2.order.some r1.2.order.n r1.2.order.bJ) r1.2.text r1.2.cP r1.2.out)) λa=>some (aI.mk a.state (fB.mk a.order.eC a.order.oQ a.order.any true a.order.n a.order.bJ) a.text a.cP a.out))) else (Option.bind ((bif (b == 63) then some (!r1.2.order.any) else some false):Option Bool) λe=>(bif e then some (aI.mk r1.2.state (fB.mk true r1.2.order.oQ true r1.2.order.some r1.2.order.n r1.2.order.bJ) r1.2.text r1.2.cP r1.2.out) else (Option.bind ((bif (decide (b>=64)) then some (decide (b < 127)) else some false):Option Bool) λf=>(bif f then (Option.bind (chk (r1.2.state == (3:Int))) λ_=>(Option.bind (kE (aI.mk r1.2.state (fB.mk r1.2.order.eC r1.2.order.oQ true r1.2.order.some r1.2.order.n r1.2.order.bJ) r1.2.text r1.2.cP r1.2.out) b) λg=>some g)) else some (aI.mk r1.2.state (fB.mk r1.2.order.eC true true r1.2.order.some r1.2.order.n r1.2.order.bJ) r1.2.text r1.2.cP r1.2.out)))))))))))
noncomputable def jS (p:aI):Option aI :=
 (Option.bind (iter (σ:=aI×Int) (ρ:=aI) (λa=>(bif (decide (a.2 < (([(ByteArray.mk #[48,59]),(ByteArray.mk #[50,59])]).length:Int))) then (Option.bind ((Option.bind (idx ([(ByteArray.mk #[48,59]),(ByteArray.mk #[50,59])]) a.2) λc=>(Option.bind (kC a.1.text c) λb=>(bif b.2 then (Option.bind (fV a.1 (bA.mk 5 0 0 false ([]:List Int) b.1)) λd=>some d) else some a.1))):Option aI) λe=>some (.inl (e,(IntKind.i64.wrap (a.2+1))))) else some (.inr a.1))) ((aI.mk 0 p.order p.text p.cP p.out),0)) λf=>some f)
noncomputable def jL (p:aI) (b:Int):Option aI :=
 (bif (b == 7) then (Option.bind (jS p) λr2=>some r2) else (Option.bind ((bif (b == 24) then some true else some (b == 26)):Option Bool) λa=>(bif a then some (aI.mk 0 p.order p.text p.cP p.out) else (bif (b == 27) then some (aI.mk 5 p.order p.text p.cP p.out) else (bif (decide ((p.text.size:Int) < 200)) then (Option.bind (chk (OP p.text.size (gX [b]).size)) λ_=>some (aI.mk p.state p.order (p.text++(gX [b])) p.cP p.out)) else some p)))))
noncomputable def mN (p:aI) (b:Int):Option aI :=
 (bif (p.state == 0) then (Option.bind (iO p b) λr2=>some r2) else (bif (p.state == 1) then (Option.bind (fW p b) λa=>some a) else (bif (p.state == 2) then (Option.bind (kD p b) λc=>some c) else (bif (p.state == 3) then (Option.bind (hU p b) λd=>some d) else (bif (p.state == 4) then (Option.bind (jL p b) λe=>some e) else (bif (b == 92) then (Option.bind (jS p) λf=>some f) else (Option.bind (fW (aI.mk 1 p.order p.text p.cP p.out) b) λg=>some g)))))))
noncomputable def lV (p:aI) (s_:ByteArray):Option ((List bA)×aI) :=
 (Option.bind (iter (σ:=aI×Int) (ρ:=aI) (λa=>(bif (decide (a.2 < (s_.size:Int))) then (Option.bind (z6 s_ a.2) λb134=>(Option.bind (mN a.1 b134) λc=>some (.inl (c,(IntKind.i64.wrap (a.2+1)))))) else some (.inr a.1))) ((aI.mk p.state p.order p.text p.cP ([]:List bA)),0)) λb=>some (b.out,(aI.mk b.state b.order b.text b.cP ([]:List bA))))
structure bC where
 iY:Int
 back:Int
 bold:Bool
 under:Bool
 dT:Bool
 deriving DecidableEq,Inhabited
noncomputable def lW (s_:bC):Option Bool :=
 (Option.bind ((bif (decide (s_.iY>=0)) then (bif (decide (s_.iY < 9)) then (bif (decide (s_.back>=0)) then some (decide (s_.back < 9)) else some false) else some false) else some false):Option Bool) λe9=>some e9)
noncomputable def oP (is:Bool) (n_:Int):Option Int :=
 (bif is then some n_ else some 0)
noncomputable def lX (s_:bC):Option Int :=
 (Option.bind (lW s_) λr2=>(bif (!r2) then some 0 else (Option.bind (oP s_.bold 81) λa=>(Option.bind (oP s_.under 162) λb=>(Option.bind (oP s_.dT 324) λc=>some (IntKind.i64.wrap ((IntKind.i64.wrap ((IntKind.i64.wrap ((IntKind.i64.wrap (s_.iY+(IntKind.i64.wrap (9*s_.back))))+a))+b))+c)))))))
noncomputable def oY (l:List Int):Option Int :=
 (Option.bind ((bif (decide ((l.length:Int) > 0)) then (Option.bind (idx l 0) λa=>some (a == 5)) else some false):Option Bool) λb=>(bif b then some (eM 2 (l.length:Int)) else (Option.bind ((bif (decide ((l.length:Int) > 0)) then (Option.bind (idx l 0) λc=>some (c == 2)) else some false):Option Bool) λd=>(bif d then some (eM 4 (l.length:Int)) else some 0))))
noncomputable def lY (s_:bC) (n_:Int):Option bC :=
 (Option.bind ((bif (n_ == 0) then (mH (some (bC.mk 0 0 false false false))) else (Option.bind ((bif (n_ == 1) then some true else some (n_ == 22)):Option Bool) λa=>(bif a then some (.inl (bC.mk s_.iY s_.back (n_ == 1) s_.under s_.dT)) else (Option.bind ((bif (n_ == 4) then some true else some (n_ == 24)):Option Bool) λb=>(bif b then some (.inl (bC.mk s_.iY s_.back s_.bold (n_ == 4) s_.dT)) else (Option.bind ((bif (n_ == 7) then some true else some (n_ == 27)):Option Bool) λc=>(bif c then some (.inl (bC.mk s_.iY s_.back s_.bold s_.under (n_ == 7))) else (Option.bind ((bif (decide (n_>=30)) then some (decide (n_ < 38)) else some false):Option Bool) λd=>(bif d then some (.inl (bC.mk (IntKind.i64.wrap ((IntKind.i64.wrap (n_ - 30))+1)) s_.back s_.bold s_.under s_.dT)) else (bif (n_ == 39) then some (.inl (bC.mk 0 s_.back s_.bold s_.under s_.dT)) else (Option.bind ((bif (decide (n_>=40)) then some (decide (n_ < 48)) else some false):Option Bool) λe=>(bif e then some (.inl (bC.mk s_.iY (IntKind.i64.wrap ((IntKind.i64.wrap (n_ - 40))+1)) s_.bold s_.under s_.dT)) else (bif (n_ == 49) then some (.inl (bC.mk s_.iY 0 s_.bold s_.under s_.dT)) else some (.inl s_)))))))))))))):Option (bC ⊕ bC)) λ | .inl e90=>some e90 | .inr w=>some w)
noncomputable def lZ (s_:bC) (bJ:List Int):Option bC :=
 (bif ((bJ.length:Int) == 0) then some (bC.mk 0 0 false false false) else (Option.bind (iter (σ:=bC×Int) (ρ:=bC) (λa=>(bif (decide (a.2 < (bJ.length:Int))) then (Option.bind ((Option.bind (idx bJ a.2) λb=>(Option.bind ((bif (b == 38) then some true else some (b == 48)):Option Bool) λd=>(bif d then (Option.bind (chk (dC (IntKind.i64.wrap (a.2+1)) (bJ.length:Int) bJ.length)) λ_=>(Option.bind (oY (cut bJ (IntKind.i64.wrap (a.2+1)) (bJ.length:Int))) λe=>some ((IntKind.i64.wrap (a.2+e)),a.1))) else (Option.bind (idx bJ a.2) λf=>(Option.bind (lY a.1 f) λh=>some (a.2,h)))))):Option (Int×bC)) λc=>some (.inl (c.2,(IntKind.i64.wrap (c.1+1))))) else some (.inr a.1))) (s_,0)) λi=>some i))
structure eG where
 x:Int
 y:Int
 aM:bC
 deriving DecidableEq,Inhabited
structure aB where
 g:aY
 spot:eG
 saved:eG
 waiting:Bool
 top:Int
 aL:Int
 aZ:Bool
 title:ByteArray
 deriving DecidableEq,Inhabited
noncomputable def n5 (w:Int) (h_:Int):Option aB :=
 (Option.bind (qM w h_) λr1=>(Option.bind (dX r1) λr9=>some (aB.mk r1 (eG.mk 0 0 (bC.mk 0 0 false false false)) (eG.mk 0 0 (bC.mk 0 0 false false false)) false 0 (IntKind.i64.wrap (r9.2 - 1)) true (ByteArray.mk #[]))))
noncomputable def jM (s_:aB):Option (aY×aB) :=
 (Option.bind (lU s_.g) λr1=>some (r1.1,(aB.mk r1.2 s_.spot s_.saved s_.waiting s_.top s_.aL s_.aZ s_.title)))
noncomputable def lG (s_:aB):Option ByteArray :=
 some s_.title
noncomputable def kL (s_:aB):Option (Int×Int) :=
 some (s_.spot.x,s_.spot.y)
noncomputable def jT (r_:aE):Option aE :=
 some (aE.mk r_.cells true)
noncomputable def cU (s_:aB):Option aB :=
 (Option.bind (fJ s_.g s_.spot.y) λa=>(Option.bind (jT a) λb=>(Option.bind (eW s_.g s_.spot.y b) λc=>some (aB.mk c.2 s_.spot s_.saved s_.waiting s_.top s_.aL s_.aZ s_.title))))
noncomputable def bY (s_:aB):Option Int :=
 (Option.bind (lX s_.spot.aM) λr1=>some r1)
noncomputable def iW (s_:aB) (n_:Int):Option ((List aE)×aB) :=
 (Option.bind (bY s_) λb=>(Option.bind (gB s_.g s_.top s_.aL n_ b) λa=>(bif (decide (s_.top > 0)) then some (([]:List aE),(aB.mk a.2 s_.spot s_.saved s_.waiting s_.top s_.aL s_.aZ s_.title)) else some (a.1,(aB.mk a.2 s_.spot s_.saved s_.waiting s_.top s_.aL s_.aZ s_.title)))))
noncomputable def dZ (s_:aB):Option (Int×Int) :=
 (Option.bind (dX s_.g) λr1=>some ((IntKind.i64.wrap (r1.1 - 1)),(IntKind.i64.wrap (r1.2 - 1))))
noncomputable def gV (n_:Int) (lo:Int) (hi:Int):Option Int :=
 some (imax lo (eM n_ hi))
noncomputable def bG (s_:aB) (x_:Int) (y:Int):Option aB :=
 (Option.bind (dZ s_) λr1=>(Option.bind (gV x_ 0 r1.1) λr4=>(Option.bind (gV y 0 r1.2) λr7=>some (aB.mk s_.g (eG.mk r4 r7 s_.spot.aM) s_.saved false s_.top s_.aL s_.aZ s_.title))))
noncomputable def dE (s_:aB):Option ((List aE)×aB) :=
 (bif (s_.spot.y == s_.aL) then (Option.bind (iW (aB.mk s_.g s_.spot s_.saved false s_.top s_.aL s_.aZ s_.title) 1) λa=>some (a.1,a.2)) else (Option.bind (bG (aB.mk s_.g s_.spot s_.saved false s_.top s_.aL s_.aZ s_.title) s_.spot.x (IntKind.i64.wrap (s_.spot.y+1))) λb=>some (([]:List aE),b)))
noncomputable def jU (r_:aE) (x1:aB):Option aE :=
 (Option.bind (bY x1) λa=>(Option.bind (nO r_ a) λb=>some b))
noncomputable def cV (s_:aB):Option aB :=
 (Option.bind (fJ s_.g s_.spot.y) λa=>(Option.bind (jU a s_) λb=>(Option.bind (eW s_.g s_.spot.y b) λc=>some (aB.mk c.2 s_.spot s_.saved s_.waiting s_.top s_.aL s_.aZ s_.title))))
noncomputable def jV (q:aE) (x1:aB) (x2:Int):Option aE :=
 (Option.bind (bY x1) λa=>(Option.bind (om q x1.spot.x x2 a) λb=>some b))
noncomputable def dK (s_:aB) (f_1:Int):Option aB :=
 (Option.bind (fJ s_.g s_.spot.y) λa=>(Option.bind (jV a s_ f_1) λb=>(Option.bind (eW s_.g s_.spot.y b) λc=>some (aB.mk c.2 s_.spot s_.saved s_.waiting s_.top s_.aL s_.aZ s_.title))))
noncomputable def iP (s_:aB) (r_:Int):Option ((List aE)×aB) :=
 (Option.bind (qI r_) λr3=>(Option.bind (dX s_.g) λr6=>(Option.bind ((bif (r3 == 0) then some true else some (decide (r3 > r6.1))):Option Bool) λi=>(bif i then some (([]:List aE),s_) else (Option.bind ((bif s_.waiting then some s_.aZ else some false):Option Bool) λj=>(Option.bind ((bif j then (Option.bind (cU s_) λc=>(Option.bind (dE (aB.mk c.g (eG.mk 0 c.spot.y c.spot.aM) c.saved c.waiting c.top c.aL c.aZ c.title)) λf=>(Option.bind (chk (eH ([]:List aE).length f.1.length 32)) λ_=>some ((([]:List aE)++f.1),f.2.g,f.2)))) else some ([],s_.g,s_)):Option ((List aE)×aY×aB)) λa=>(Option.bind ((bif (decide ((IntKind.i64.wrap (a.2.2.spot.x+r3)) > r6.1)) then (bif a.2.2.aZ then (Option.bind (cV (aB.mk a.2.1 a.2.2.spot a.2.2.saved a.2.2.waiting a.2.2.top a.2.2.aL a.2.2.aZ a.2.2.title)) λd=>(Option.bind (dE (aB.mk d.g (eG.mk 0 d.spot.y d.spot.aM) d.saved d.waiting d.top d.aL d.aZ d.title)) λh=>(Option.bind (chk (eH a.1.length h.1.length 32)) λ_=>some ((a.1++h.1),h.2.g,h.2)))) else some (a.1,a.2.1,(aB.mk a.2.1 (eG.mk (IntKind.i64.wrap (a.2.2.spot.x - 1)) a.2.2.spot.y a.2.2.spot.aM) a.2.2.saved a.2.2.waiting a.2.2.top a.2.2.aL a.2.2.aZ a.2.2.title))) else some (a.1,a.2.1,(aB.mk a.2.1 a.2.2.spot a.2.2.saved a.2.2.waiting a.2.2.top a.2.2.aL a.2.2.aZ a.2.2.title))):Option ((List aE)×aY×aB)) λe=>(Option.bind (dK (aB.mk e.2.1 e.2.2.spot e.2.2.saved e.2.2.waiting e.2.2.top e.2.2.aL e.2.2.aZ e.2.2.title) r_) λb=>some (e.1,(aB.mk b.g (eG.mk (eM (IntKind.i64.wrap (b.spot.x+r3)) (IntKind.i64.wrap (r6.1 - 1))) b.spot.y b.spot.aM) b.saved ((IntKind.i64.wrap (b.spot.x+r3)) == r6.1) b.top b.aL b.aZ b.title))))))))))
noncomputable def gJ (s_:aB) (b:Int):Option ((List aE)×aB) :=
 (Option.bind ((bif (b == 8) then (Option.bind (bG s_ (IntKind.i64.wrap (s_.spot.x - 1)) s_.spot.y) λa=>some (.inl (a,a.g))) else (bif (b == 9) then (Option.bind (bG s_ (IntKind.i64.wrap ((IntKind.i64.wrap ((IntKind.i64.wrap (s_.spot.x.tdiv 8))+1))*8)) s_.spot.y) λc=>some (.inl (c,c.g))) else (Option.bind ((bif (b == 10) then some (b == 10) else (bif (b == 11) then some (b == 11) else some (b == 12))):Option Bool) λf=>(bif f then (Option.bind (dE s_) λd=>(mH (some (d.1,d.2)))) else (bif (b == 13) then (Option.bind (bG s_ 0 s_.spot.y) λe=>some (.inl (e,e.g))) else some (.inl (s_,s_.g))))))):Option ((aB×aY) ⊕ ((List aE)×aB))) λ | .inl e86=>some (([]:List aE),(aB.mk e86.2 e86.1.spot e86.1.saved e86.1.waiting e86.1.top e86.1.aL e86.1.aZ e86.1.title)) | .inr w=>some w)
noncomputable def jN (s_:aB):Option aB :=
 (bif (s_.spot.y == s_.top) then (Option.bind (bY (aB.mk s_.g s_.spot s_.saved false s_.top s_.aL s_.aZ s_.title)) λa=>(Option.bind (eO s_.g s_.top s_.aL 1 a) λb=>some (aB.mk b.2 s_.spot s_.saved false s_.top s_.aL s_.aZ s_.title))) else (Option.bind (bG (aB.mk s_.g s_.spot s_.saved false s_.top s_.aL s_.aZ s_.title) s_.spot.x (IntKind.i64.wrap (s_.spot.y - 1))) λc=>some c))
noncomputable def iA (s_:aB) (b:Int):Option ((List aE)×aB) :=
 (Option.bind ((Option.bind ((bif (b == 69) then some (.inl (aB.mk s_.g (eG.mk 0 s_.spot.y s_.spot.aM) s_.saved s_.waiting s_.top s_.aL s_.aZ s_.title)) else (bif (b == 68) then some (.inl s_) else (bif (b == 77) then (mH (Option.bind (jN s_) λd=>some (.inl d))) else (bif (b == 55) then (mH (some (.inl (aB.mk s_.g s_.spot s_.spot s_.waiting s_.top s_.aL s_.aZ s_.title)))) else (bif (b == 56) then (mH (Option.bind (bG (aB.mk s_.g (eG.mk s_.spot.x s_.spot.y s_.saved.aM) s_.saved s_.waiting s_.top s_.aL s_.aZ s_.title) s_.saved.x s_.saved.y) λe=>some (.inl e))) else (bif (b == 99) then (mH (Option.bind (dX s_.g) λa=>(Option.bind (n5 a.1 a.2) λf=>some (.inl f)))) else (mH (some (.inl s_))))))))):Option (aB ⊕ (aB ⊕ ((List aE)×aB)))) λ | .inl e4671=>(Option.bind (dE (aB.mk s_.g e4671.spot e4671.saved e4671.waiting e4671.top e4671.aL e4671.aZ e4671.title)) λc=>(mH (some (c.1,c.2)))) | .inr w=>some w):Option (aB ⊕ ((List aE)×aB))) λ | .inl e3164=>some (([]:List aE),e3164) | .inr w=>some w)
noncomputable def eT (a:bA) (i:Int) (d:Int):Option Int :=
 (Option.bind ((bif (decide (i>=(a.bJ.length:Int))) then some true else (Option.bind (idx a.bJ i) λb=>some (decide (b<=0)))):Option Bool) λc=>(bif c then some d else (Option.bind (idx a.bJ i) λe=>some (eM e 9999))))
noncomputable def fX (s_:aB) (n_:Int):Option aB :=
 (Option.bind (dZ s_) λr1=>(Option.bind ((bif (decide (s_.spot.y>=s_.top)) then some (decide (n_ < 0)) else some false):Option Bool) λe9=>(Option.bind ((bif e9 then some s_.top else some 0):Option Int) λa=>(Option.bind ((bif (decide (s_.spot.y<=s_.aL)) then some (decide (n_ > 0)) else some false):Option Bool) λb=>(Option.bind ((bif b then some s_.aL else some r1.2):Option Int) λc=>(Option.bind (gV (IntKind.i64.wrap (s_.spot.y+n_)) a c) λd=>(Option.bind (bG s_ s_.spot.x d) λe=>some e)))))))
noncomputable def eI (s_:aB) (y:Int) (from_:Int) (to:Int):Option aB :=
 (Option.bind (fJ s_.g y) λa=>(Option.bind (bY s_) λb=>(Option.bind (lL a from_ to b) λc=>(Option.bind (eW s_.g y c) λd=>some (aB.mk d.2 s_.spot s_.saved s_.waiting s_.top s_.aL s_.aZ s_.title)))))
noncomputable def gK (s_:aB) (n_:Int):Option aB :=
 (Option.bind (dX s_.g) λr1=>(Option.bind ((bif (n_ == 0) then (Option.bind (eI s_ s_.spot.y s_.spot.x r1.1) λb=>some (b.g,b)) else (bif (n_ == 1) then (Option.bind (eI s_ s_.spot.y 0 (IntKind.i64.wrap (s_.spot.x+1))) λc=>some (c.g,c)) else (bif (n_ == 2) then (Option.bind (eI s_ s_.spot.y 0 r1.1) λd=>some (d.g,d)) else some (s_.g,s_)))):Option (aY×aB)) λa=>(bif a.2.waiting then some (aB.mk a.1 a.2.spot a.2.saved (decide (n_ > 2)) a.2.top a.2.aL a.2.aZ a.2.title) else some (aB.mk a.1 a.2.spot a.2.saved false a.2.top a.2.aL a.2.aZ a.2.title))))
noncomputable def jO (s_:aB) (n_:Int):Option aB :=
 (Option.bind (dX s_.g) λr1=>(Option.bind (iter (σ:=aB×aY×Int) (ρ:=aY×aB) (λa=>(bif (decide (a.2.2 < r1.2)) then (Option.bind ((Option.bind ((bif (decide (a.2.2 < a.1.spot.y)) then (bif (n_ == 1) then some true else (bif (decide (a.2.2 > a.1.spot.y)) then (bif (n_ == 0) then some true else (bif (a.2.2 != a.1.spot.y) then some (n_ == 2) else some false)) else (bif (a.2.2 != a.1.spot.y) then some (n_ == 2) else some false))) else (bif (decide (a.2.2 > a.1.spot.y)) then (bif (n_ == 0) then some true else (bif (a.2.2 != a.1.spot.y) then some (n_ == 2) else some false)) else (bif (a.2.2 != a.1.spot.y) then some (n_ == 2) else some false))):Option Bool) λe=>(bif e then (Option.bind (eI (aB.mk a.2.1 a.1.spot a.1.saved a.1.waiting a.1.top a.1.aL a.1.aZ a.1.title) a.2.2 0 r1.1) λd=>some (d.g,d)) else some (a.2.1,(aB.mk a.2.1 a.1.spot a.1.saved a.1.waiting a.1.top a.1.aL a.1.aZ a.1.title)))):Option (aY×aB)) λb=>some (.inl ((aB.mk b.1 b.2.spot b.2.saved b.2.waiting b.2.top b.2.aL b.2.aZ b.2.title),b.1,(IntKind.i64.wrap (a.2.2+1))))) else some (.inr (a.2.1,(aB.mk a.2.1 a.1.spot a.1.saved a.1.waiting a.1.top a.1.aL a.1.aZ a.1.title))))) (s_,s_.g,0)) λc=>(Option.bind (gK (aB.mk c.1 c.2.spot c.2.saved c.2.waiting c.2.top c.2.aL c.2.aZ c.2.title) n_) λf=>some f)))
noncomputable def gL (r_:aE) (x1:Int) (x2:aB) (x3:Int):Option aE :=
 (bif (x1 == 64) then (Option.bind (bY x2) λa=>(Option.bind (mK r_ x2.spot.x x3 a) λb=>some b)) else (bif (x1 == 80) then (Option.bind (bY x2) λc=>(Option.bind (mL r_ x2.spot.x x3 c) λd=>some d)) else (Option.bind (bY x2) λe=>(Option.bind (lL r_ x2.spot.x (IntKind.i64.wrap (x2.spot.x+x3)) e) λf=>some f))))
noncomputable def eP (s_:aB) (f_0:Int) (f_2:Int):Option aB :=
 (Option.bind (fJ s_.g s_.spot.y) λa=>(Option.bind (gL a f_0 s_ f_2) λb=>(Option.bind (eW s_.g s_.spot.y b) λc=>some (aB.mk c.2 s_.spot s_.saved s_.waiting s_.top s_.aL s_.aZ s_.title))))
noncomputable def iQ (s_:aB) (b:Int) (n_:Int):Option aB :=
 (Option.bind (eP s_ b n_) λr4=>some (aB.mk r4.g r4.spot r4.saved false r4.top r4.aL r4.aZ r4.title))
noncomputable def iR (s_:aB) (b:Int) (n_:Int):Option aB :=
 (Option.bind ((bif (decide (s_.spot.y < s_.top)) then some true else some (decide (s_.spot.y > s_.aL))):Option Bool) λe6=>(bif e6 then some s_ else (Option.bind ((bif (b == 76) then (Option.bind (bY s_) λa=>(Option.bind (eO s_.g s_.spot.y s_.aL n_ a) λc=>some c.2)) else (Option.bind (bY s_) λd=>(Option.bind (gB s_.g s_.spot.y s_.aL n_ d) λe=>some e.2))):Option aY) λf=>(Option.bind (bG (aB.mk f s_.spot s_.saved s_.waiting s_.top s_.aL s_.aZ s_.title) 0 s_.spot.y) λh=>some h))))
noncomputable def iB (s_:aB) (a:bA):Option aB :=
 (Option.bind (dX s_.g) λr2=>(Option.bind (eT a 0 1) λd=>(Option.bind (gV d 1 r2.2) λb=>(Option.bind (eT a 1 r2.2) λe=>(Option.bind (gV e 1 r2.2) λc=>(bif (decide ((IntKind.i64.wrap (b - 1)) < (IntKind.i64.wrap (c - 1)))) then (Option.bind (bG (aB.mk s_.g s_.spot s_.saved s_.waiting (IntKind.i64.wrap (b - 1)) (IntKind.i64.wrap (c - 1)) s_.aZ s_.title) 0 0) λf=>some f) else some s_))))))
noncomputable def iS (s_:aB) (a:bA):Option ((List aE)×aB) :=
 (Option.bind (eT a 0 1) λr2=>(Option.bind ((Option.bind ((bif (a.byte == 65) then some (a.byte == 65) else some (a.byte == 70)):Option Bool) λr=>(bif r then (Option.bind (fX s_ (IntKind.i64.wrap (0 - r2))) λc=>some (.inl (c,c.g))) else (Option.bind ((bif (a.byte == 66) then some (a.byte == 66) else some (a.byte == 69)):Option Bool) λs=>(bif s then (Option.bind (fX s_ r2) λd=>some (.inl (d,d.g))) else (bif (a.byte == 67) then (Option.bind (bG s_ (IntKind.i64.wrap (s_.spot.x+r2)) s_.spot.y) λe=>some (.inl (e,e.g))) else (bif (a.byte == 68) then (Option.bind (bG s_ (IntKind.i64.wrap (s_.spot.x - r2)) s_.spot.y) λf=>some (.inl (f,f.g))) else (bif (a.byte == 71) then (Option.bind (bG s_ (IntKind.i64.wrap (r2 - 1)) s_.spot.y) λh=>some (.inl (h,h.g))) else (bif (a.byte == 100) then (Option.bind (bG s_ s_.spot.x (IntKind.i64.wrap (r2 - 1))) λi=>some (.inl (i,i.g))) else (Option.bind ((bif (a.byte == 72) then some (a.byte == 72) else some (a.byte == 102)):Option Bool) λt=>(bif t then (Option.bind (eT a 1 1) λu=>(Option.bind (bG s_ (IntKind.i64.wrap (u - 1)) (IntKind.i64.wrap (r2 - 1))) λj=>some (.inl (j,j.g)))) else (bif (a.byte == 74) then (Option.bind (eT a 0 0) λv=>(Option.bind (jO s_ v) λk=>some (.inl (k,k.g)))) else (bif (a.byte == 75) then (Option.bind (eT a 0 0) λz=>(Option.bind (gK s_ z) λl=>some (.inl (l,l.g)))) else (Option.bind ((bif (a.byte == 64) then some (a.byte == 64) else (bif (a.byte == 80) then some (a.byte == 80) else some (a.byte == 88))):Option Bool) λA=>(bif A then (Option.bind (iQ s_ a.byte r2) λm=>some (.inl (m,m.g))) else (Option.bind ((bif (a.byte == 76) then some (a.byte == 76) else some (a.byte == 77)):Option Bool) λB=>(bif B then (Option.bind (iR s_ a.byte r2) λn=>some (.inl (n,n.g))) else (bif (a.byte == 83) then (Option.bind (iW (aB.mk s_.g s_.spot s_.saved false s_.top s_.aL s_.aZ s_.title) r2) λo=>(mH (some (o.1,o.2)))) else (bif (a.byte == 84) then (Option.bind (bY (aB.mk s_.g s_.spot s_.saved false s_.top s_.aL s_.aZ s_.title)) λC=>(Option.bind (eO s_.g s_.top s_.aL r2 C) λp=>some (.inl ((aB.mk p.2 s_.spot s_.saved false s_.top s_.aL s_.aZ s_.title),p.2)))) else (bif (a.byte == 109) then (Option.bind (lZ s_.spot.aM a.bJ) λD=>some (.inl ((aB.mk s_.g (eG.mk s_.spot.x s_.spot.y D) s_.saved s_.waiting s_.top s_.aL s_.aZ s_.title),s_.g))) else (bif (a.byte == 114) then (Option.bind (iB s_ a) λq=>some (.inl (q,q.g))) else some (.inl (s_,s_.g)))))))))))))))))))))):Option ((aB×aY) ⊕ ((List aE)×aB))) λ | .inl e310=>(Option.bind ((bif (a.byte == 69) then some true else some (a.byte == 70)):Option Bool) λE=>(Option.bind ((bif E then some (aB.mk e310.2 (eG.mk 0 e310.1.spot.y e310.1.spot.aM) e310.1.saved e310.1.waiting e310.1.top e310.1.aL e310.1.aZ e310.1.title) else some (aB.mk e310.2 e310.1.spot e310.1.saved e310.1.waiting e310.1.top e310.1.aL e310.1.aZ e310.1.title)):Option aB) λb=>some (([]:List aE),(aB.mk e310.2 b.spot b.saved b.waiting b.top b.aL b.aZ b.title)))) | .inr w=>some w))
noncomputable def gG (s_:aB) (a:bA):Option ((List aE)×aB) :=
 (Option.bind ((bif (a.kind == 1) then (Option.bind (iP s_ a.rune) λb=>(mH (some (b.1,b.2)))) else (bif (a.kind == 2) then (Option.bind (gJ s_ a.byte) λc=>(mH (some (c.1,c.2)))) else (bif (a.kind == 3) then (Option.bind (iA s_ a.byte) λd=>(mH (some (d.1,d.2)))) else (bif (a.kind == 5) then some (.inl (aB.mk s_.g s_.spot s_.saved s_.waiting s_.top s_.aL s_.aZ a.text)) else (bif (a.kind == 4) then (bif (!a.eC) then (Option.bind (iS s_ a) λe=>(mH (some (e.1,e.2)))) else (Option.bind ((Option.bind (eT a 0 0) λf=>(bif (f == 7) then (bif (a.byte == 104) then some true else some (a.byte == 108)) else some false)):Option Bool) λh=>(bif h then some (.inl (aB.mk s_.g s_.spot s_.saved s_.waiting s_.top s_.aL (a.byte == 104) s_.title)) else some (.inl s_)))) else some (.inl s_)))))):Option (aB ⊕ ((List aE)×aB))) λ | .inl e133=>some (([]:List aE),(aB.mk s_.g e133.spot e133.saved e133.waiting e133.top e133.aL e133.aZ e133.title)) | .inr w=>some w)
noncomputable def iC (s_:aB) (w:Int) (h_:Int):Option ((List aE)×aB) :=
 (Option.bind (gV h_ 1 1000) λb=>(Option.bind (lA s_.g w h_ (imax 0 (IntKind.i64.wrap (s_.spot.y - (IntKind.i64.wrap (b - 1)))))) λc=>(Option.bind (bG (aB.mk c.2 s_.spot s_.saved s_.waiting s_.top s_.aL s_.aZ s_.title) s_.spot.x (IntKind.i64.wrap (s_.spot.y - (imax 0 (IntKind.i64.wrap (s_.spot.y - (IntKind.i64.wrap (b - 1)))))))) λa=>(Option.bind (dZ a) λd=>some (c.1,(aB.mk a.g a.spot a.saved a.waiting 0 d.2 a.aZ a.title))))))
structure aH where
 k:Int
 w:Int
 h:Int
 x:Int
 y:Int
 title:ByteArray
 rows:List aE
 len:Int
 chain:Int
 begun:List aJ
 deriving DecidableEq,Inhabited
noncomputable def uY (k:Int) (s_:aB) (b:cE):Option (aH×aB) :=
 (Option.bind (jM (aB.mk s_.g s_.spot s_.saved s_.waiting s_.top s_.aL s_.aZ s_.title)) λr2=>(Option.bind (lG (aB.mk r2.2.g r2.2.spot r2.2.saved r2.2.waiting r2.2.top r2.2.aL r2.2.aZ r2.2.title)) λe=>(Option.bind (mM r2.1) λa=>(Option.bind (jZ b) λf=>(Option.bind (jZ b) λh=>(Option.bind (lS b h) λi=>(Option.bind (lT b) λj=>(Option.bind (dX a.2) λc=>(Option.bind (kL (aB.mk r2.2.g r2.2.spot r2.2.saved r2.2.waiting r2.2.top r2.2.aL r2.2.aZ r2.2.title)) λd=>some ((aH.mk k c.1 c.2 d.1 d.2 e a.1 f i j),(aB.mk r2.2.g r2.2.spot r2.2.saved r2.2.waiting r2.2.top r2.2.aL r2.2.aZ r2.2.title)))))))))))
noncomputable def iD (s_:aH):Option Bool :=
 (Option.bind ((bif (s_.k == 0) then (bif (s_.w == 0) then (bif (s_.h == 0) then (bif (s_.x == 0) then (bif (s_.y == 0) then (bif (s_.title.toList == (ByteArray.mk #[]).toList) then (bif ((s_.rows.length:Int) == 0) then (bif (s_.len == 0) then (bif (s_.chain == 0) then some ((s_.begun.length:Int) == 0) else some false) else some false) else some false) else some false) else some false) else some false) else some false) else some false) else some false):Option Bool) λa=>some a)
noncomputable def eQ (n_:Int) (lo:Int) (hi:Int):Option Bool :=
 (Option.bind ((bif (decide (n_>=lo)) then some (decide (n_<=hi)) else some false):Option Bool) λe4=>some e4)
noncomputable def ma (s_:aH):Option Bool :=
 (Option.bind ((Option.bind (eQ s_.k 1 1152921504606846976) λa=>(bif a then (Option.bind (eQ s_.w 1 1000) λb=>(bif b then (Option.bind (eQ s_.h 1 1000) λc=>(bif c then (Option.bind (eQ s_.x 0 (IntKind.i64.wrap (s_.w - 1))) λd=>(bif d then (Option.bind (eQ s_.y 0 (IntKind.i64.wrap (s_.h - 1))) λe=>(bif e then (bif ((s_.rows.length:Int) == s_.h) then (bif (decide ((s_.title.size:Int)<=200)) then (Option.bind (eQ s_.len 0 1152921504606846976) λf=>(bif f then (Option.bind (eQ s_.chain 0 281474976710656) λg=>(bif g then some (decide ((s_.begun.length:Int)<=1024)) else some false)) else some false)) else some false) else some false) else some false)) else some false)) else some false)) else some false)) else some false)):Option Bool) λi=>some i)
noncomputable def n6 (r_:Int) (aM:Int):Option Bool :=
 (Option.bind ((Option.bind (eQ (IntKind.i64.wrap r_) 0 1114111) λa=>(bif a then (Option.bind (eQ aM 0 647) λb=>some b) else some false)):Option Bool) λc=>some c)
noncomputable def kF (g:aJ):Option Bool :=
 (Option.bind (n6 g.rune g.aM) λr2=>some (!r2))
noncomputable def dM (s_:List aJ):Option Int :=
 (Option.bind (iter (σ:=Int) (ρ:=Unit ⊕ Int) (λa=>(bif (decide (a < (s_.length:Int))) then (Option.bind (idx s_ a) λb=>(Option.bind (kF b) λc=>(bif c then (m6 (some a)) else some (.inl (IntKind.i64.wrap (a+1)))))) else some (.inr (.inl ())))) 0) λ | .inl e77=>some (-1) | .inr w=>some w)
noncomputable def cM (s_:List aJ):Option Bool :=
 (Option.bind (dM s_) λr1=>some (decide (r1>=0)))
noncomputable def pX (c:aG):Option Bool :=
 (Option.bind ((Option.bind (n6 c.rune c.aM) λa=>(bif a then (Option.bind (eQ c.part 0 3) λb=>some b) else some false)):Option Bool) λd=>some d)
noncomputable def kG (c:aG):Option Bool :=
 (Option.bind (pX c) λr2=>some (!r2))
noncomputable def dR (s_:List aG):Option Int :=
 (Option.bind (iter (σ:=Int) (ρ:=Unit ⊕ Int) (λa=>(bif (decide (a < (s_.length:Int))) then (Option.bind (idx s_ a) λb=>(Option.bind (kG b) λc=>(bif c then (m6 (some a)) else some (.inl (IntKind.i64.wrap (a+1)))))) else some (.inr (.inl ())))) 0) λ | .inl e77=>some (-1) | .inr w=>some w)
noncomputable def cB (s_:List aG):Option Bool :=
 (Option.bind (dR s_) λr1=>some (decide (r1>=0)))
noncomputable def eR (s_:aH):Option Int :=
 (Option.bind (iD s_) λr2=>(bif r2 then some 0 else (Option.bind ((Option.bind (ma s_) λc=>(bif (!c) then some true else (Option.bind (cM s_.begun) λd=>some d))):Option Bool) λe=>(bif e then some 1 else (Option.bind (iter (σ:=Int) (ρ:=Unit ⊕ Int) (λa=>(bif (decide (a < (s_.rows.length:Int))) then (Option.bind (idx s_.rows a) λb=>(Option.bind ((bif ((b.cells.length:Int) != s_.w) then some true else (Option.bind (cB b.cells) λf=>some f)):Option Bool) λg=>(bif g then (m6 (some 1)) else some (.inl (IntKind.i64.wrap (a+1)))))) else some (.inr (.inl ())))) 0) λ | .inl e212=>some 0 | .inr w=>some w)))))
noncomputable def th (is:Bool):Option Int :=
 (bif is then some 1 else some 0)
noncomputable def rz (l:List aG):Option (List aG) :=
 some l
noncomputable def pQ {σ:Type} (Y:σ->(Int×aG)->Option (σ×Bool)) (y0:σ) (x1:List aG):Option (σ×(List aG)) :=
 (Option.bind (iter (σ:=(List aG)×σ) (ρ:=((List aG)×σ) ⊕ (σ×(List aG))) (λa=>(bif (decide ((a.1.length:Int) > 0)) then (Option.bind (iter (σ:=Int) (ρ:=Int) (λb=>(Option.bind ((bif (decide (b < (a.1.length:Int))) then (Option.bind (idx a.1 b) λc=>(Option.bind (idx a.1 0) λd=>some ((c.rune == d.rune) && ((c.aM == d.aM) && ((c.part == d.part) && true))))) else some false):Option Bool) λf=>(bif f then some (.inl (IntKind.i64.wrap (b+1))) else some (.inr b)))) 1) λe=>(Option.bind (idx a.1 0) λg=>(Option.bind (Y a.2 (e,g)) λz1399=>(bif (!z1399.2) then (m6 (some (z1399.1,a.1))) else (Option.bind (chk (dC e (a.1.length:Int) a.1.length)) λ_=>some (.inl ((cut a.1 e (a.1.length:Int)),z1399.1))))))) else some (.inr (.inl (a.1,a.2))))) (x1,y0)) λ | .inl e1058=>some (e1058.2,e1058.1) | .inr w=>some w)
noncomputable def lB (r_:aE):Option ByteArray :=
 (Option.bind (th r_.wrapped) λr3=>(Option.bind (cY (cF.mk ([]:List Int)) [r3]) λb=>(Option.bind (rz r_.cells) λc=>(Option.bind (pQ (λd a=>(Option.bind (cY d [a.1,(IntKind.i64.wrap a.2.rune),a.2.aM,a.2.part]) λe=>some (e,true))) (b:cF) c) λf=>(Option.bind (iJ f.1) λg=>some g)))))
noncomputable def kY (s_:aH):Option ByteArray :=
 (Option.bind ((Option.bind (iD s_) λb=>(bif b then some true else (Option.bind (eR s_) λc=>some (c != 0)))):Option Bool) λd=>(bif d then some (ByteArray.mk #[]) else (Option.bind (cY (cF.mk ([]:List Int)) [s_.k,s_.w,s_.h,s_.x,s_.y]) λe=>(Option.bind (mI e [s_.title]) λf=>(Option.bind (cY f [s_.len,s_.chain]) λg=>(Option.bind (nP s_.begun) λi=>(Option.bind (gU g [i]) λj=>(Option.bind (iter (σ:=cF×Int) (ρ:=cF) (λa=>(bif (decide (a.2 < (s_.rows.length:Int))) then (Option.bind (idx s_.rows a.2) λl=>(Option.bind (lB l) λm=>(Option.bind (gU a.1 [m]) λn=>some (.inl (n,(IntKind.i64.wrap (a.2+1))))))) else some (.inr a.1))) (j,0)) λo=>(Option.bind (iJ o) λp=>some p)))))))))
noncomputable def yS (in_:aT):Option (Int×aT) :=
 (Option.bind (bV in_) λr1=>(bif (decide (r1.1 > 1000)) then (Option.bind (bU r1.2 1) λr9=>some (0,r9)) else some (r1.1,r1.2)))
noncomputable def pJ (in_:aT) (left:Int):Option (Int×aG×Bool×aT) :=
 (Option.bind (bV in_) λr2=>(Option.bind ((bif (r2.1 == 0) then some true else some (decide (r2.1 > left))):Option Bool) λe8=>(Option.bind ((bif e8 then (Option.bind (bU r2.2 1) λf=>some f) else some r2.2):Option aT) λc=>(Option.bind (iter (σ:=oD×aT×Int) (ρ:=oD×aT) (λa=>(bif (decide (a.2.2 < 3)) then (Option.bind ((Option.bind (idx [1114111,647,3] a.2.2) λg=>(Option.bind (bV a.2.1) λb=>(Option.bind (chk (Jk a.2.2 3)) λ_=>(Option.bind (chk (Jk a.2.2 3)) λ_=>(Option.bind (idx [(sel a.2.2 0 b.1 a.1.e0),(sel a.2.2 1 b.1 a.1.e1),(sel a.2.2 2 b.1 a.1.e2)] a.2.2) λh=>(bif (decide (h > g)) then (Option.bind (bU b.2 1) λi=>some ((oD.mk (sel a.2.2 0 b.1 a.1.e0) (sel a.2.2 1 b.1 a.1.e1) (sel a.2.2 2 b.1 a.1.e2)),i)) else some ((oD.mk (sel a.2.2 0 b.1 a.1.e0) (sel a.2.2 1 b.1 a.1.e1) (sel a.2.2 2 b.1 a.1.e2)),b.2))))))):Option (oD×aT)) λe=>some (.inl (e.1,e.2,(IntKind.i64.wrap (a.2.2+1))))) else some (.inr (a.1,a.2.1)))) ((oD.mk 0 0 0),c,0)) λd=>(Option.bind (dQ d.2) λj=>(bif (j != 0) then some (0,(aG.mk 0 0 0),false,d.2) else some (r2.1,(aG.mk (IntKind.i32.wrap d.1.e0) d.1.e1 d.1.e2),true,d.2)))))))
noncomputable def mO (in_:aT) (w:Int):Option (aE×aT) :=
 (Option.bind (bV in_) λr2=>(Option.bind ((bif (decide (r2.1 > 1)) then (Option.bind (bU r2.2 1) λf=>some f) else some r2.2):Option aT) λg=>(Option.bind (iter (σ:=aT×(List aG)) (ρ:=(List aG)×aT) (λa=>(Option.bind ((bif (decide ((a.2.length:Int) < w)) then (Option.bind (dQ a.1) λh=>some (h == 0)) else some false):Option Bool) λi=>(bif i then (Option.bind (pJ a.1 (IntKind.i64.wrap (w - (a.2.length:Int)))) λb=>(bif (!b.2.2.1) then some (.inl (b.2.2.2,a.2)) else (Option.bind ((bif (decide ((a.2.length:Int) > 0)) then (Option.bind (idx a.2 (IntKind.i64.wrap ((a.2.length:Int) - 1))) λd=>some ((d.rune == b.2.1.rune) && ((d.aM == b.2.1.aM) && ((d.part == b.2.1.part) && true)))) else some false):Option Bool) λj=>(bif j then (Option.bind (bU b.2.2.2 1) λk=>some (.inl (k,a.2))) else (Option.bind (eE [b.2.1] b.1) λe=>(Option.bind (chk (eH a.2.length e.length 24)) λ_=>some (.inl (b.2.2.2,(a.2++e))))))))) else some (.inr (a.2,a.1))))) (g,[])) λc=>(Option.bind (dQ c.2) λl=>(bif (l != 0) then some ((aE.mk ([]:List aG) false),c.2) else some ((aE.mk c.1 (r2.1 == 1)),c.2))))))
noncomputable def kZ (s_:aH) (t_:aH):Option Bool :=
 (Option.bind ((bif (s_.k == t_.k) then (bif (s_.w == t_.w) then (bif (s_.h == t_.h) then (bif (s_.x == t_.x) then (bif (s_.y == t_.y) then (bif (s_.title.toList == t_.title.toList) then (bif (s_.len == t_.len) then (bif (s_.chain == t_.chain) then (Option.bind (dJ s_.rows t_.rows) λa=>(bif a then (Option.bind (gA s_.begun t_.begun) λb=>some b) else some false)) else some false) else some false) else some false) else some false) else some false) else some false) else some false) else some false):Option Bool) λc=>some c)
noncomputable def iE (s_:aH):Option aH :=
 (Option.bind (iter (σ:=(List aE)×Int) (ρ:=(List aE)) (λa=>(bif (decide (a.2 < (s_.rows.length:Int))) then (Option.bind (idx s_.rows a.2) λb=>(Option.bind (eN b.cells) λc=>(Option.bind (chk (eH a.1.length [(aE.mk c b.wrapped)].length 32)) λ_=>some (.inl ((a.1++[(aE.mk c b.wrapped)]),(IntKind.i64.wrap (a.2+1))))))) else some (.inr a.1))) ([],0)) λd=>(Option.bind (cC s_.begun) λe=>some (aH.mk s_.k s_.w s_.h s_.x s_.y s_.title d s_.len s_.chain e)))
noncomputable def lM (s_:aH):Option Int :=
 (Option.bind (kY s_) λr2=>(Option.bind (sr [r2]) λr7=>some (IntKind.i64.wrap r7)))
noncomputable def gC (s_:List aH):Option (List aH) :=
 (Option.bind (chk (eH ([]:List aH).length s_.length 120)) λ_=>some (([]:List aH)++s_))
structure bR where
 sum:Int
 to:aH
 rows:Mp aE
 deriving DecidableEq,Inhabited
noncomputable def mb (s_:aH):Option Bool :=
 (Option.bind (kY s_) λr2=>some (!(r2.toList == (ByteArray.mk #[]).toList)))
noncomputable def lN (a:aH) (b:aH):Option (aH×aH) :=
 some (b,a)
noncomputable def jA (s_:aH) (y:Int):Option (aE×Bool) :=
 (Option.bind ((bif (decide (y < 0)) then some true else some (decide (y>=(s_.rows.length:Int)))):Option Bool) λe6=>(bif e6 then some ((aE.mk ([]:List aG) false),false) else (Option.bind (idx s_.rows y) λa=>some (a,true))))
noncomputable def iF {σ:Type} (Y:σ->(Int×aE)->Option (σ×Bool)) (y0:σ) (x1:aH) (x2:aH):Option σ :=
 (Option.bind (iter (σ:=Int×σ) (ρ:=σ ⊕ σ) (λa=>(bif (decide (a.1 < (x1.rows.length:Int))) then (Option.bind ((Option.bind (idx x1.rows a.1) λb=>(Option.bind (jA x2 a.1) λc=>(Option.bind ((bif c.2 then (Option.bind (jI c.1 b) λd=>some d) else some false):Option Bool) λe=>(bif e then some (.inl a.2) else (Option.bind (Y a.2 (a.1,b)) λz546=>(bif (!z546.2) then (mH (m6 (some z546.1))) else some (.inl z546.1))))))):Option (σ ⊕ ((Int×σ) ⊕ (σ ⊕ σ)))) λ | .inl e506=>some (.inl ((IntKind.i64.wrap (a.1+1)),e506)) | .inr w=>some w) else some (.inr (.inl a.2)))) (0,y0)) λ | .inl e412=>some e412 | .inr w=>some w)
noncomputable def nr (a:aH) (b:aH):Option (List Int) :=
 (Option.bind (lN a b) λr4=>(Option.bind (iF (λc d=>(Option.bind (chk (eH c.length [d.1].length 8)) λ_=>some ((c++[d.1]),true))) ([]:(List Int)) r4.1 r4.2) λe=>some e))
noncomputable def oZ (a:aH) (b:aH):Option ByteArray :=
 (Option.bind ((Option.bind (eR a) λf=>(bif (f != 0) then some true else (Option.bind (mb b) λc=>some (!c)))):Option Bool) λg=>(bif g then some (ByteArray.mk #[]) else (Option.bind (lM a) λi=>(Option.bind (cY (cF.mk ([]:List Int)) [i,b.k,b.w,b.h,b.x,b.y]) λj=>(Option.bind (mI j [b.title]) λl=>(Option.bind (cY l [b.len,b.chain]) λm=>(Option.bind (nP b.begun) λn=>(Option.bind (gU m [n]) λo=>(Option.bind (nr a b) λp=>(Option.bind (cY o [(p.length:Int)]) λq=>(Option.bind (lN a b) λd=>(Option.bind (iF (λr e=>(Option.bind (cY r [e.1]) λs=>(Option.bind (lB e.2) λt=>(Option.bind (gU s [t]) λu=>some (u,true))))) (q:cF) d.1 d.2) λv=>(Option.bind (iJ v) λz=>some z)))))))))))))
noncomputable def m7 (in_:aT):Option (Int×aT) :=
 (Option.bind (bV in_) λr1=>(bif (decide (r1.1 > 1000)) then (Option.bind (bU r1.2 1) λr9=>some (0,r9)) else some (r1.1,r1.2)))
noncomputable def o3 (s_:ByteArray):Option (bR×Int) :=
 (Option.bind (wV s_) λr2=>(Option.bind (bV r2) λr6=>(Option.bind (bV r6.2) λd=>(Option.bind (m7 d.2) λe=>(Option.bind (m7 e.2) λf=>(Option.bind (bV f.2) λg=>(Option.bind (bV g.2) λi=>(Option.bind (nz i.2) λj=>(Option.bind (bV j.2) λl=>(Option.bind (bV l.2) λm=>(Option.bind (oO m.2) λn=>(Option.bind (bV n.2) λo=>(Option.bind (iter (σ:=bR×aT×Int×Int) (ρ:=aT×bR) (λa=>(Option.bind ((bif (decide (a.2.2.2 > 0)) then (Option.bind (dQ a.2.1) λq=>some (q == 0)) else some false):Option Bool) λr=>(bif r then (Option.bind (bV a.2.1) λc=>(Option.bind ((bif (decide (c.1<=a.2.2.1)) then some true else some (decide (c.1>=a.1.to.h))):Option Bool) λs=>(Option.bind ((bif s then (Option.bind (bU c.2 1) λt=>some t) else some c.2):Option aT) λu=>(Option.bind (mO u a.1.to.w) λp=>(Option.bind (chk a.1.rows.isSome) λ_=>some (.inl ((bR.mk a.1.sum (aH.mk a.1.to.k a.1.to.w a.1.to.h a.1.to.x a.1.to.y a.1.to.title ([]:List aE) a.1.to.len a.1.to.chain a.1.to.begun) (L5 a.1.rows c.1 p.1)),p.2,c.1,(IntKind.i64.wrap (a.2.2.2 - 1))))))))) else some (.inr (a.2.1,(bR.mk a.1.sum (aH.mk a.1.to.k a.1.to.w a.1.to.h a.1.to.x a.1.to.y a.1.to.title ([]:List aE) a.1.to.len a.1.to.chain a.1.to.begun) a.1.rows)))))) ((bR.mk r6.1 (aH.mk d.1 e.1 f.1 g.1 i.1 j.1 ([]:List aE) l.1 m.1 n.1) (some []:Mp aE)),o.2,(-1),o.1)) λb=>(Option.bind (oW b.1) λv=>some ((bR.mk b.2.sum (aH.mk b.2.to.k b.2.to.w b.2.to.h b.2.to.x b.2.to.y b.2.to.title ([]:List aE) b.2.to.len b.2.to.chain b.2.to.begun) b.2.rows),v)))))))))))))))
noncomputable def fP (p:bR) (a:aH):Option (Bool×bR) :=
 (Option.bind (iter (σ:=bR×Int) (ρ:=bR ⊕ (Bool×bR)) (λb=>(bif (decide (b.2 < p.to.h)) then (Option.bind (jA a b.2) λc=>(Option.bind ((Option.bind ((bif (tW b.1.rows b.2) then (bif c.2 then (Option.bind (jI c.1 (mgd b.1.rows b.2 (aE.mk ([]:List aG) false))) λe=>some e) else some false) else some false):Option Bool) λd=>(Option.bind ((bif d then some d else (bif (!(tW b.1.rows b.2)) then some (!c.2) else some false)):Option Bool) λf=>(bif f then (mH (m6 (some (false,(bR.mk b.1.sum (aH.mk b.1.to.k b.1.to.w b.1.to.h b.1.to.x b.1.to.y b.1.to.title b.1.to.rows b.1.to.len b.1.to.chain b.1.to.begun) b.1.rows))))) else (bif (!(tW b.1.rows b.2)) then some (.inl c.1) else some (.inl (mgd b.1.rows b.2 (aE.mk ([]:List aG) false))))))):Option (aE ⊕ ((bR×Int) ⊕ (bR ⊕ (Bool×bR))))) λ | .inl e1033=>(Option.bind (chk (eH b.1.to.rows.length [e1033].length 32)) λ_=>some (.inl ((bR.mk b.1.sum (aH.mk b.1.to.k b.1.to.w b.1.to.h b.1.to.x b.1.to.y b.1.to.title (b.1.to.rows++[e1033]) b.1.to.len b.1.to.chain b.1.to.begun) b.1.rows),(IntKind.i64.wrap (b.2+1))))) | .inr w=>some w)) else some (.inr (.inl (bR.mk b.1.sum (aH.mk b.1.to.k b.1.to.w b.1.to.h b.1.to.x b.1.to.y b.1.to.title b.1.to.rows b.1.to.len b.1.to.chain b.1.to.begun) b.1.rows))))) (p,0)) λ | .inl e816=>(Option.bind (mb (aH.mk e816.to.k e816.to.w e816.to.h e816.to.x e816.to.y e816.to.title e816.to.rows e816.to.len e816.to.chain e816.to.begun)) λg=>some (g,(bR.mk e816.sum (aH.mk e816.to.k e816.to.w e816.to.h e816.to.x e816.to.y e816.to.title e816.to.rows e816.to.len e816.to.chain e816.to.begun) e816.rows))) | .inr w=>some w)
noncomputable def nB (a:aH) (s_:ByteArray):Option (aH×Int) :=
 (Option.bind (eR a) λr3=>(bif (r3 != 0) then some ((aH.mk 0 0 0 0 0 (ByteArray.mk #[]) ([]:List aE) 0 0 ([]:List aJ)),1) else (Option.bind (o3 s_) λb=>(bif (b.2 != 0) then some ((aH.mk 0 0 0 0 0 (ByteArray.mk #[]) ([]:List aE) 0 0 ([]:List aJ)),b.2) else (Option.bind (lM a) λd=>(bif (b.1.sum != d) then some ((aH.mk 0 0 0 0 0 (ByteArray.mk #[]) ([]:List aE) 0 0 ([]:List aJ)),7) else (Option.bind (fP b.1 a) λc=>(bif (!c.1) then some ((aH.mk 0 0 0 0 0 (ByteArray.mk #[]) ([]:List aE) 0 0 ([]:List aJ)),1) else (Option.bind (iE c.2.to) λe=>some (e,0))))))))))
structure cH where
 NZ:Int
 kind:Int
 bJ:List Int
 data:ByteArray
 deriving DecidableEq,Inhabited
noncomputable def rR (n_:Int) (lo:Int) (hi:Int):Option Bool :=
 (Option.bind ((bif (decide (n_>=lo)) then some (decide (n_<=hi)) else some false):Option Bool) λe4=>some e4)
noncomputable def iK (g:cH) (i:Int):Option Int :=
 (Option.bind (rR i 0 (IntKind.i64.wrap ((g.bJ.length:Int) - 1))) λr2=>(bif (!r2) then some 0 else (Option.bind (idx g.bJ i) λx7=>some x7)))
structure bD where
 book:cE
 parser:aI
 aW:aB
 k:Int
 deriving DecidableEq,Inhabited
structure nQ where
 kind:Int
 text:ByteArray
 w:Int
 h:Int
 deriving DecidableEq,Inhabited
noncomputable def pY (w:Int) (h_:Int):Option bD :=
 (Option.bind tf λr1=>(Option.bind (n5 w h_) λa=>some (bD.mk r1 (aI.mk 0 (fB.mk false false false false 0 ([]:List Int)) (ByteArray.mk #[]) (bT.mk 0 0 0) ([]:List bA)) (aB.mk a.g a.spot a.saved a.waiting a.top a.aL a.aZ a.title) 0)))
noncomputable def fE (m_:bD):Option (aH×bD) :=
 (Option.bind (uY (IntKind.i64.wrap (m_.k+1)) (aB.mk m_.aW.g m_.aW.spot m_.aW.saved m_.aW.waiting m_.aW.top m_.aW.aL m_.aW.aZ m_.aW.title) m_.book) λa=>some (a.1,(bD.mk m_.book m_.parser (aB.mk a.2.g a.2.spot a.2.saved a.2.waiting a.2.top a.2.aL a.2.aZ a.2.title) m_.k)))
noncomputable def kH (e:nQ):Option Int :=
 (Option.bind ((bif (e.kind == 0) then (bif (decide ((e.text.size:Int) > 1048576)) then (mH (some 3)) else some (.inl ())) else (bif (e.kind == 1) then (Option.bind ((bif (decide (e.w < 1)) then some true else (bif (decide (e.w > 1000)) then some true else (bif (decide (e.h < 1)) then some true else some (decide (e.h > 1000))))):Option Bool) λa=>(bif a then (mH (some 6)) else some (.inl ()))) else (mH (some 5)))):Option (Unit ⊕ Int)) λ | .inl e36=>some 0 | .inr w=>some w)
noncomputable def nI (m_:bD) (text:ByteArray):Option ByteArray :=
 some text
noncomputable def kI {σ:Type} (Y:σ->(List aE)->Option (σ×Bool)) (y0:σ) (x1:bD) (x2:ByteArray):Option (σ×bD) :=
 (Option.bind (lV x1.parser x2) λb=>(Option.bind (iter (σ:=aB×Int×σ) (ρ:=(aB×σ) ⊕ (σ×bD)) (λa=>(bif (decide (a.2.1 < (b.1.length:Int))) then (Option.bind (idx b.1 a.2.1) λd=>(Option.bind (gG a.1 d) λc=>(Option.bind (Y a.2.2 c.1) λz528=>(bif (!z528.2) then (m6 (some (z528.1,(bD.mk x1.book b.2 c.2 x1.k)))) else some (.inl (c.2,(IntKind.i64.wrap (a.2.1+1)),z528.1)))))) else some (.inr (.inl (a.1,a.2.2))))) (x1.aW,0,y0)) λ | .inl e413=>some (e413.2,(bD.mk x1.book b.2 e413.1 x1.k)) | .inr w=>some w))
noncomputable def eZ (m_:bD) (e:nQ):Option (Int×bD) :=
 (Option.bind (kH e) λr3=>(bif (r3 != 0) then some (r3,m_) else (Option.bind ((bif (e.kind == 1) then (Option.bind (iC m_.aW e.w e.h) λc=>(Option.bind (kA m_.book c.1) λd=>some (bD.mk d.2 m_.parser c.2 m_.k))) else (Option.bind (nI m_ e.text) λf=>(Option.bind (kI (λg i=>(Option.bind (kA g i) λj=>some (j.2,true))) (m_.book:cE) m_ f) λa=>some (bD.mk a.1 a.2.parser a.2.aW a.2.k)))):Option bD) λb=>some (0,(bD.mk b.book b.parser b.aW (IntKind.i64.wrap (b.k+1)))))))
structure cN where
 key:Int
 count:Int
 parts:Mp ByteArray
 bytes:Int
 deriving DecidableEq,Inhabited
noncomputable def oo (s_:ByteArray) (size:Int):Option (List ByteArray) :=
 (Option.bind (iter (σ:=ByteArray×(List ByteArray)) (ρ:=ByteArray×(List ByteArray)) (λa=>(bif (decide ((a.1.size:Int) > (imax 1 (eM size 8000)))) then (Option.bind (chk (dC 0 (imax 1 (eM size 8000)) a.1.size)) λ_=>(Option.bind (chk (eH a.2.length [(iN a.1 0 (imax 1 (eM size 8000)))].length 16)) λ_=>(Option.bind (chk (dC (imax 1 (eM size 8000)) (a.1.size:Int) a.1.size)) λ_=>some (.inl ((iN a.1 (imax 1 (eM size 8000)) (a.1.size:Int)),(a.2++[(iN a.1 0 (imax 1 (eM size 8000)))])))))) else some (.inr (a.1,a.2)))) (s_,[])) λb=>(Option.bind (chk (eH b.2.length [b.1].length 16)) λ_=>some (b.2++[b.1])))
noncomputable def mP (s_:cN) (key:Int) (index:Int) (count:Int) (data:ByteArray):Option (Int×cN) :=
 (Option.bind ((Option.bind ((bif (decide (count < 1)) then some true else (bif (decide (count > 4096)) then some true else (bif (decide (index < 0)) then some true else (bif (decide (index>=count)) then some true else some (decide (key < 1)))))):Option Bool) λa=>(bif a then (mH (some (6,s_))) else (bif (decide (key < s_.key)) then (mH (some (8,s_))) else (bif (decide (key > s_.key)) then some (.inl (cN.mk key count (some []:Mp ByteArray) 0)) else (bif (count != s_.count) then (mH (some (1,s_))) else some (.inl s_)))))):Option (cN ⊕ (Int×cN))) λ | .inl e48=>(Option.bind ((bif (!(tW e48.parts index)) then (Option.bind (chk e48.parts.isSome) λ_=>some (cN.mk e48.key e48.count (L5 e48.parts index data) (IntKind.i64.wrap (e48.bytes+(data.size:Int))))) else some e48):Option cN) λb=>some (0,b)) | .inr w=>some w)
noncomputable def jW {σ:Type} (s_:cN) (Y:σ->(Int×Bool)->Option (σ×Bool)) (y0:σ):Option σ :=
 (Option.bind (iter (σ:=Int×σ) (ρ:=σ ⊕ σ) (λa=>(bif (decide (a.1 < s_.count)) then (Option.bind (Y a.2 (a.1,(tW s_.parts a.1))) λz64=>(bif (!z64.2) then (m6 (some z64.1)) else some (.inl ((IntKind.i64.wrap (a.1+1)),z64.1)))) else some (.inr (.inl a.2)))) (0,y0)) λ | .inl e49=>some e49 | .inr w=>some w)
noncomputable def m8 (s_:cN):Option Int :=
 some s_.count
noncomputable def m9 (s_:cN) (there:Bool):Option (List Int) :=
 (Option.bind (jW s_ (λs32 x3=>(bif (x3.2 == there) then (Option.bind (chk (eH s32.length [x3.1].length 8)) λ_=>some ((s32++[x3.1]),true)) else some (s32,true))) ([]:(List Int))) λa=>some a)
noncomputable def mc (s_:cN):Option (List Int) :=
 (Option.bind (m9 s_ true) λr1=>some r1)
noncomputable def pK (s_:cN):Option Int :=
 some s_.key
noncomputable def lC (s_:cN):Option (ByteArray×Bool) :=
 (Option.bind ((bif (s_.key == 0) then some true else some (decide (((L4 s_.parts:Nat):Int) < s_.count))):Option Bool) λe7=>(bif e7 then some ((ByteArray.mk #[]),false) else (Option.bind (jW s_ (λa d=>(Option.bind (eS (cW.mk a.addr a.buf) (mgd s_.parts d.1 (ByteArray.mk #[]))) λb=>some ((cW.mk b.addr b.buf),true))) ((cW.mk false ([]:List Int)):cW)) λc=>(Option.bind (mm (cW.mk c.addr c.buf)) λe=>some (e,true)))))
noncomputable def mC (s_:cN):Option cN :=
 some (cN.mk 0 0 none 0)
structure cK where
 part:Int
 every:Int
 most:Int
 deriving DecidableEq,Inhabited
structure bH where
 id:Int
 key:Int
 base:Int
 parts:List ByteArray
 there:List Bool
 due:Int
 deriving DecidableEq,Inhabited
structure aK where
 config:cK
 current:aH
 aN:aH
 kept:List aH
 message:bH
 next:Int
 deriving DecidableEq,Inhabited
noncomputable def oq (n_:Int) (lo:Int) (hi:Int):Option Int :=
 some (imax lo (eM n_ hi))
noncomputable def nR (c:cK):Option cK :=
 (Option.bind (oq c.part 1 8000) λa=>(Option.bind (oq c.every 1 1048576) λb=>(Option.bind (oq c.most 1 64) λd=>some (cK.mk a b d))))
noncomputable def qy (c:cK):Option aK :=
 (Option.bind (nR c) λr2=>some (aK.mk r2 (aH.mk 0 0 0 0 0 (ByteArray.mk #[]) ([]:List aE) 0 0 ([]:List aJ)) (aH.mk 0 0 0 0 0 (ByteArray.mk #[]) ([]:List aE) 0 0 ([]:List aJ)) ([]:List aH) (bH.mk 0 0 0 ([]:List ByteArray) ([]:List Bool) 0) 1))
noncomputable def fF (s_:aK) (x_:aH):Option (Bool×aK) :=
 (Option.bind ((Option.bind (eR x_) λa=>(bif (a != 0) then some true else some (decide (x_.k<=s_.current.k)))):Option Bool) λb=>(bif b then some (false,s_) else (Option.bind (iE x_) λc=>some (true,(aK.mk s_.config c s_.aN s_.kept s_.message s_.next)))))
noncomputable def fG (x_:aH) (x1:aK):Option Bool :=
 some (x_.k == x1.current.k)
noncomputable def dA (s_:List aH) (f_0:aK):Option Int :=
 (Option.bind (iter (σ:=Int) (ρ:=Unit ⊕ Int) (λa=>(bif (decide (a < (s_.length:Int))) then (Option.bind (idx s_ a) λb=>(Option.bind (fG b f_0) λc=>(bif c then (m6 (some a)) else some (.inl (IntKind.i64.wrap (a+1)))))) else some (.inr (.inl ())))) 0) λ | .inl e113=>some (-1) | .inr w=>some w)
noncomputable def cD (s_:List aH) (f_0:aK):Option Bool :=
 (Option.bind (dA s_ f_0) λr1=>some (decide (r1>=0)))
noncomputable def fY (s_:aK) (now:Int):Option aK :=
 (Option.bind (oZ s_.aN s_.current) λc=>(Option.bind (oo c s_.config.part) λb=>(Option.bind (chk (HD (b.length:Int) 1)) λ_=>(Option.bind (cD s_.kept (aK.mk s_.config s_.current s_.aN s_.kept (bH.mk s_.next s_.current.k s_.aN.k b (List.replicate (b.length:Int).toNat false) now) (IntKind.i64.wrap (s_.next+1)))) λd=>(Option.bind ((bif (!d) then (Option.bind (chk (eH s_.kept.length [s_.current].length 120)) λ_=>some (aK.mk s_.config s_.current s_.aN (s_.kept++[s_.current]) (bH.mk s_.next s_.current.k s_.aN.k b (List.replicate (b.length:Int).toNat false) now) (IntKind.i64.wrap (s_.next+1)))) else some (aK.mk s_.config s_.current s_.aN s_.kept (bH.mk s_.next s_.current.k s_.aN.k b (List.replicate (b.length:Int).toNat false) now) (IntKind.i64.wrap (s_.next+1)))):Option aK) λa=>(Option.bind (chk (dC (imax 0 (IntKind.i64.wrap ((a.kept.length:Int) - a.config.most))) (a.kept.length:Int) a.kept.length)) λ_=>some (aK.mk (cK.mk a.config.part a.config.every a.config.most) (aH.mk a.current.k a.current.w a.current.h a.current.x a.current.y a.current.title a.current.rows a.current.len a.current.chain a.current.begun) (aH.mk a.aN.k a.aN.w a.aN.h a.aN.x a.aN.y a.aN.title a.aN.rows a.aN.len a.aN.chain a.aN.begun) (cut a.kept (imax 0 (IntKind.i64.wrap ((a.kept.length:Int) - a.config.most))) (a.kept.length:Int)) (bH.mk a.message.id a.message.key a.message.base a.message.parts a.message.there a.message.due) a.next)))))))
noncomputable def iG {σ:Type} (m_:bH) (Y:σ->(Int×ByteArray)->Option (σ×Bool)) (y0:σ):Option σ :=
 (Option.bind (iter (σ:=Int×σ) (ρ:=σ ⊕ σ) (λa=>(bif (decide (a.1 < (m_.parts.length:Int))) then (Option.bind (idx m_.parts a.1) λc=>(Option.bind ((Option.bind (idx m_.there a.1) λd=>(bif (!d) then (Option.bind (Y a.2 (a.1,c)) λz377=>some ((!z377.2),z377.1)) else some (false,a.2))):Option (Bool×σ)) λb=>(bif b.1 then (m6 (some b.2)) else some (.inl ((IntKind.i64.wrap (a.1+1)),b.2))))) else some (.inr (.inl a.2)))) (0,y0)) λ | .inl e284=>some e284 | .inr w=>some w)
noncomputable def gM (s_:aK) (now:Int):Option ((List cH)×aK) :=
 (bif (s_.current.k == s_.aN.k) then some (([]:List cH),(aK.mk s_.config s_.current s_.aN s_.kept (bH.mk 0 0 0 ([]:List ByteArray) ([]:List Bool) 0) s_.next)) else (Option.bind ((bif (s_.message.id == 0) then some true else (bif (s_.message.key != s_.current.k) then some true else some (s_.message.base != s_.aN.k))):Option Bool) λd=>(Option.bind ((bif d then (Option.bind (fY s_ now) λe=>some e) else some s_):Option aK) λa=>(bif (decide (now < a.message.due)) then some (([]:List cH),(aK.mk (cK.mk a.config.part a.config.every a.config.most) (aH.mk a.current.k a.current.w a.current.h a.current.x a.current.y a.current.title a.current.rows a.current.len a.current.chain a.current.begun) (aH.mk a.aN.k a.aN.w a.aN.h a.aN.x a.aN.y a.aN.title a.aN.rows a.aN.len a.aN.chain a.aN.begun) a.kept (bH.mk a.message.id a.message.key a.message.base a.message.parts a.message.there a.message.due) a.next)) else (Option.bind (iG (bH.mk a.message.id a.message.key a.message.base a.message.parts a.message.there (IntKind.i64.wrap (now+a.config.every))) (λc b=>(Option.bind (chk (eH c.length ([(cH.mk 1 1 [a.message.id,a.message.key,a.message.base,b.1,(a.message.parts.length:Int)] b.2)]).length 56)) λ_=>some ((c++[(cH.mk 1 1 [a.message.id,a.message.key,a.message.base,b.1,(a.message.parts.length:Int)] b.2)]),true))) ([]:(List cH))) λf=>some (f,(aK.mk (cK.mk a.config.part a.config.every a.config.most) (aH.mk a.current.k a.current.w a.current.h a.current.x a.current.y a.current.title a.current.rows a.current.len a.current.chain a.current.begun) (aH.mk a.aN.k a.aN.w a.aN.h a.aN.x a.aN.y a.aN.title a.aN.rows a.aN.len a.aN.chain a.aN.begun) a.kept (bH.mk a.message.id a.message.key a.message.base a.message.parts a.message.there (IntKind.i64.wrap (now+a.config.every))) a.next)))))))
noncomputable def gN (s_:aK) (bZ:ByteArray):Option aK :=
 (Option.bind (iter (σ:=aK×Int) (ρ:=aK) (λa=>(bif (decide (a.2 < (eM (s_.message.there.length:Int) (IntKind.i64.wrap (8*(bZ.size:Int)))))) then (Option.bind ((Option.bind (z6 bZ (IntKind.i64.wrap (a.2.tdiv 8))) λb228=>(Option.bind (chk (shk (a.2.tmod 8))) λ_=>(bif ((Go.bits .and .u8 (b228.fdiv (2 ^ (min (a.2.tmod 8).toNat 8))) 1) == 1) then (Option.bind (idx a.1.message.there a.2) λd=>some (aK.mk (cK.mk a.1.config.part a.1.config.every a.1.config.most) (aH.mk a.1.current.k a.1.current.w a.1.current.h a.1.current.x a.1.current.y a.1.current.title a.1.current.rows a.1.current.len a.1.current.chain a.1.current.begun) (aH.mk a.1.aN.k a.1.aN.w a.1.aN.h a.1.aN.x a.1.aN.y a.1.aN.title a.1.aN.rows a.1.aN.len a.1.aN.chain a.1.aN.begun) a.1.kept (bH.mk a.1.message.id a.1.message.key a.1.message.base a.1.message.parts (a.1.message.there.set a.2.toNat true) a.1.message.due) a.1.next)) else some (aK.mk (cK.mk a.1.config.part a.1.config.every a.1.config.most) (aH.mk a.1.current.k a.1.current.w a.1.current.h a.1.current.x a.1.current.y a.1.current.title a.1.current.rows a.1.current.len a.1.current.chain a.1.current.begun) (aH.mk a.1.aN.k a.1.aN.w a.1.aN.h a.1.aN.x a.1.aN.y a.1.aN.title a.1.aN.rows a.1.aN.len a.1.aN.chain a.1.aN.begun) a.1.kept (bH.mk a.1.message.id a.1.message.key a.1.message.base a.1.message.parts a.1.message.there a.1.message.due) a.1.next)))):Option aK) λb=>some (.inl ((aK.mk (cK.mk b.config.part b.config.every b.config.most) (aH.mk b.current.k b.current.w b.current.h b.current.x b.current.y b.current.title b.current.rows b.current.len b.current.chain b.current.begun) (aH.mk b.aN.k b.aN.w b.aN.h b.aN.x b.aN.y b.aN.title b.aN.rows b.aN.len b.aN.chain b.aN.begun) b.kept (bH.mk b.message.id b.message.key b.message.base b.message.parts b.message.there b.message.due) b.next),(IntKind.i64.wrap (a.2+1))))) else some (.inr (aK.mk (cK.mk a.1.config.part a.1.config.every a.1.config.most) (aH.mk a.1.current.k a.1.current.w a.1.current.h a.1.current.x a.1.current.y a.1.current.title a.1.current.rows a.1.current.len a.1.current.chain a.1.current.begun) (aH.mk a.1.aN.k a.1.aN.w a.1.aN.h a.1.aN.x a.1.aN.y a.1.aN.title a.1.aN.rows a.1.aN.len a.1.aN.chain a.1.aN.begun) a.1.kept (bH.mk a.1.message.id a.1.message.key a.1.message.base a.1.message.parts a.1.message.there a.1.message.due) a.1.next)))) (s_,0)) λc=>some (aK.mk (cK.mk c.config.part c.config.every c.config.most) (aH.mk c.current.k c.current.w c.current.h c.current.x c.current.y c.current.title c.current.rows c.current.len c.current.chain c.current.begun) (aH.mk c.aN.k c.aN.w c.aN.h c.aN.x c.aN.y c.aN.title c.aN.rows c.aN.len c.aN.chain c.aN.begun) c.kept (bH.mk c.message.id c.message.key c.message.base c.message.parts c.message.there c.message.due) c.next))
noncomputable def gD (x_:aH) (x1:Int):Option Bool :=
 some (x_.k == x1)
noncomputable def cO (s_:List aH) (f_0:Int):Option Int :=
 (Option.bind (iter (σ:=Int) (ρ:=Unit ⊕ Int) (λa=>(bif (decide (a < (s_.length:Int))) then (Option.bind (idx s_ a) λb=>(Option.bind (gD b f_0) λc=>(bif c then (m6 (some a)) else some (.inl (IntKind.i64.wrap (a+1)))))) else some (.inr (.inl ())))) 0) λ | .inl e113=>some (-1) | .inr w=>some w)
noncomputable def iI (s_:aK) (k:Int) (id:Int) (bZ:ByteArray):Option (Bool×aK) :=
 (Option.bind ((bif (id == s_.message.id) then some (decide (id > 0)) else some false):Option Bool) λe5=>(Option.bind ((bif e5 then (Option.bind (gN s_ bZ) λc=>some c) else some s_):Option aK) λa=>(Option.bind ((bif (decide (k<=a.aN.k)) then some true else some (decide (k > a.current.k))):Option Bool) λd=>(bif d then some (false,(aK.mk (cK.mk a.config.part a.config.every a.config.most) (aH.mk a.current.k a.current.w a.current.h a.current.x a.current.y a.current.title a.current.rows a.current.len a.current.chain a.current.begun) (aH.mk a.aN.k a.aN.w a.aN.h a.aN.x a.aN.y a.aN.title a.aN.rows a.aN.len a.aN.chain a.aN.begun) a.kept (bH.mk a.message.id a.message.key a.message.base a.message.parts a.message.there a.message.due) a.next)) else (Option.bind (cO a.kept k) λb=>(bif (decide (b < 0)) then some (false,(aK.mk (cK.mk a.config.part a.config.every a.config.most) (aH.mk a.current.k a.current.w a.current.h a.current.x a.current.y a.current.title a.current.rows a.current.len a.current.chain a.current.begun) (aH.mk 0 0 0 0 0 (ByteArray.mk #[]) ([]:List aE) 0 0 ([]:List aJ)) a.kept (bH.mk a.message.id a.message.key a.message.base a.message.parts a.message.there a.message.due) a.next)) else (Option.bind (idx a.kept b) λe=>(Option.bind (chk (dC (IntKind.i64.wrap (b+1)) (a.kept.length:Int) a.kept.length)) λ_=>(Option.bind (gC (cut a.kept (IntKind.i64.wrap (b+1)) (a.kept.length:Int))) λf=>some (true,(aK.mk (cK.mk a.config.part a.config.every a.config.most) (aH.mk a.current.k a.current.w a.current.h a.current.x a.current.y a.current.title a.current.rows a.current.len a.current.chain a.current.begun) e f (bH.mk a.message.id a.message.key a.message.base a.message.parts a.message.there a.message.due) a.next)))))))))))
noncomputable def lH (s_:aK):Option Int :=
 some s_.aN.k
structure aV where
 slot:cN
 bZ:aH
 deriving DecidableEq,Inhabited
noncomputable def rA:Option aV :=
 some (aV.mk (cN.mk 0 0 none 0) (aH.mk 0 0 0 0 0 (ByteArray.mk #[]) ([]:List aE) 0 0 ([]:List aJ)))
noncomputable def fQ (t_:aV) (g:cH):Option (Int×aV) :=
 (bif (g.kind != 1) then some (5,(aV.mk t_.slot t_.bZ)) else (bif ((g.bJ.length:Int) != 5) then some (1,(aV.mk t_.slot t_.bZ)) else (Option.bind (idx g.bJ 1) λb=>(bif (decide (b<=t_.bZ.k)) then some (8,(aV.mk t_.slot t_.bZ)) else (Option.bind ((Option.bind (idx g.bJ 2) λc=>(bif (c != 0) then (Option.bind (idx g.bJ 2) λd=>some (d != t_.bZ.k)) else some false)):Option Bool) λe=>(bif e then some (7,(aV.mk t_.slot t_.bZ)) else (Option.bind (idx g.bJ 0) λf=>(Option.bind (idx g.bJ 3) λh=>(Option.bind (idx g.bJ 4) λi=>(Option.bind (mP t_.slot f h i g.data) λa=>some (a.1,(aV.mk a.2 t_.bZ))))))))))))
noncomputable def jX (t_:aV):Option cH :=
 (Option.bind (m8 t_.slot) λr2=>(Option.bind (chk (HD (IntKind.i64.wrap ((IntKind.i64.wrap ((IntKind.i64.wrap (r2+8)) - 1)).tdiv 8)) 1)) λ_=>(Option.bind (mc t_.slot) λr9=>(Option.bind (iter (σ:=Int×(List Int)) (ρ:=(List Int)) (λa=>(bif (decide (a.1 < (r9.length:Int))) then (Option.bind (idx r9 a.1) λb=>(Option.bind (idx a.2 (IntKind.i64.wrap (b.tdiv 8))) λc=>(Option.bind (chk (shk (b.tmod 8))) λ_=>(Option.bind (idx a.2 (IntKind.i64.wrap (b.tdiv 8))) λf=>some (.inl ((IntKind.i64.wrap (a.1+1)),(a.2.set ((IntKind.i64.wrap (b.tdiv 8)).toNat) (Go.bits .or .u8 c (IntKind.u8.wrap (1*2 ^ (min (b.tmod 8).toNat 8))))))))))) else some (.inr a.2))) (0,(List.replicate (IntKind.i64.wrap ((IntKind.i64.wrap ((IntKind.i64.wrap (r2+8)) - 1)).tdiv 8)).toNat (0:Int)))) λd=>(Option.bind (pK t_.slot) λe=>some (cH.mk 1 2 [t_.bZ.k,e] (gX d)))))))
noncomputable def lD (t_:aV):Option aH :=
 (Option.bind (iE t_.bZ) λr2=>some r2)
noncomputable def bO (t_:aV) (g:cH):Option (Int×aV) :=
 (Option.bind (fQ t_ g) λr2=>(bif (r2.1 != 0) then some (r2.1,r2.2) else (Option.bind (lC r2.2.slot) λc=>(bif (!c.2) then some (0,r2.2) else (Option.bind (mC r2.2.slot) λb=>(Option.bind (idx g.bJ 2) λe=>(Option.bind ((bif (e != 0) then some r2.2.bZ else some (aH.mk 0 0 0 0 0 (ByteArray.mk #[]) ([]:List aE) 0 0 ([]:List aJ))):Option aH) λf=>(Option.bind (nB f c.1) λa=>(Option.bind ((bif (a.2 == 0) then (Option.bind (idx g.bJ 1) λh=>some (a.1.k != h)) else some false):Option Bool) λi=>(Option.bind ((bif i then some 1 else some a.2):Option Int) λd=>(Option.bind ((bif (d == 0) then some (aV.mk b a.1) else some (aV.mk b r2.2.bZ)):Option aV) λj=>some (d,(aV.mk b j.bZ)))))))))))))
noncomputable def pZ (s_:ByteArray) (n_:Int):Option ByteArray :=
 (bif (decide ((s_.size:Int) > n_)) then (Option.bind (chk (dC 0 n_ s_.size)) λ_=>some (iN s_ 0 n_)) else some s_)
noncomputable def tj (r_:Int):Option Int :=
 (Option.bind ((bif (decide (r_ < 32)) then some true else some (decide (r_ > 1114111))):Option Bool) λe8=>(bif e8 then some 0 else (Option.bind (iter (σ:=Int) (ρ:=Unit ⊕ Int) (λa=>(bif (decide (a < ([(cG.mk 127 159),(cG.mk 768 879),(cG.mk 6832 6911),(cG.mk 7616 7679),(cG.mk 8203 8207),(cG.mk 8400 8447),(cG.mk 55296 57343),(cG.mk 65024 65039),(cG.mk 65056 65071),(cG.mk 65279 65279),(cG.mk 917760 917999)].length:Int))) then (Option.bind (idx [(cG.mk 127 159),(cG.mk 768 879),(cG.mk 6832 6911),(cG.mk 7616 7679),(cG.mk 8203 8207),(cG.mk 8400 8447),(cG.mk 55296 57343),(cG.mk 65024 65039),(cG.mk 65056 65071),(cG.mk 65279 65279),(cG.mk 917760 917999)] a) λc=>(Option.bind ((bif (decide (r_>=c.e0)) then some (decide (r_<=c.e1)) else some false):Option Bool) λe=>(bif e then (m6 (some 0)) else some (.inl (IntKind.i64.wrap (a+1)))))) else some (.inr (.inl ())))) 0) λ | .inl e96=>(Option.bind (iter (σ:=Int) (ρ:=Unit ⊕ Int) (λb=>(bif (decide (b < ([(cG.mk 4352 4447),(cG.mk 11904 12350),(cG.mk 12353 13311),(cG.mk 13312 19903),(cG.mk 19968 40959),(cG.mk 40960 42191),(cG.mk 44032 55203),(cG.mk 63744 64255),(cG.mk 65072 65135),(cG.mk 65280 65376),(cG.mk 65504 65510),(cG.mk 127744 128591),(cG.mk 129280 129535),(cG.mk 131072 262141)].length:Int))) then (Option.bind (idx [(cG.mk 4352 4447),(cG.mk 11904 12350),(cG.mk 12353 13311),(cG.mk 13312 19903),(cG.mk 19968 40959),(cG.mk 40960 42191),(cG.mk 44032 55203),(cG.mk 63744 64255),(cG.mk 65072 65135),(cG.mk 65280 65376),(cG.mk 65504 65510),(cG.mk 127744 128591),(cG.mk 129280 129535),(cG.mk 131072 262141)] b) λd=>(Option.bind ((bif (decide (r_>=d.e0)) then some (decide (r_<=d.e1)) else some false):Option Bool) λf=>(bif f then (m6 (some 2)) else some (.inl (IntKind.i64.wrap (b+1)))))) else some (.inr (.inl ())))) 0) λ | .inl e214=>some 1 | .inr w=>some w) | .inr w=>some w)))
structure aR where
 rune:Int
 aM:Int
 part:Int
 deriving DecidableEq,Inhabited
structure aX where
 l:List aR
 wrapped:Bool
 deriving DecidableEq,Inhabited
structure wc where
 rune:Int
 aM:Int
 deriving DecidableEq,Inhabited
noncomputable def o4 (n_:Int) (lo:Int) (hi:Int):Option Int :=
 (bif (decide (n_ < lo)) then some lo else (bif (decide (n_ > hi)) then some hi else some n_))
noncomputable def kQ (w:Int) (aM:Int):Option aX :=
 (Option.bind (iter (σ:=(List aR)×Int) (ρ:=(List aR)) (λa=>(Option.bind (o4 w 0 1000) λb=>(bif (decide (a.2 < b)) then (Option.bind (chk (eH a.1.length [(aR.mk 32 aM 0)].length 24)) λ_=>some (.inl ((a.1++[(aR.mk 32 aM 0)]),(IntKind.i64.wrap (a.2+1))))) else some (.inr a.1)))) (([]:List aR),0)) λc=>some (aX.mk c false))
noncomputable def fL (l:List aR):Option aX :=
 (Option.bind (iter (σ:=Int×(List aR)) (ρ:=(List aR)) (λa=>(bif (decide (a.1 < (l.length:Int))) then (Option.bind (idx l a.1) λb=>(Option.bind ((bif (b.part == 1) then (bif ((IntKind.i64.wrap (a.1+1)) == (l.length:Int)) then some true else (Option.bind (idx l (IntKind.i64.wrap (a.1+1))) λd=>some (d.part != 2))) else (bif (b.part == 2) then (bif (a.1 == 0) then some true else (Option.bind (idx a.2 (IntKind.i64.wrap (a.1 - 1))) λe=>some (e.part != 1))) else (bif (b.part == 3) then some (decide (a.1 < (IntKind.i64.wrap ((l.length:Int) - 1)))) else some false))):Option Bool) λf=>(Option.bind ((bif f then some (aR.mk 32 b.aM 0) else some b):Option aR) λc=>(Option.bind (chk (eH a.2.length [c].length 24)) λ_=>some (.inl ((IntKind.i64.wrap (a.1+1)),(a.2++[c]))))))) else some (.inr a.2))) (0,([]:List aR))) λg=>some (aX.mk g false))
noncomputable def rB (r_:aX) (at_:Int) (x_:Int) (aM:Int):Option aX :=
 (Option.bind (tj x_) λr3=>(Option.bind ((bif (r3 == 0) then some true else (bif (decide (at_ < 0)) then some true else some (decide (at_ > (IntKind.i64.wrap ((r_.l.length:Int) - r3)))))):Option Bool) λa=>(bif a then (Option.bind (fL r_.l) λb=>some b) else (Option.bind (chk (eH ([]:List aR).length r_.l.length 24)) λ_=>(Option.bind (idx (([]:List aR)++r_.l) at_) λh=>(Option.bind ((bif (r3 == 2) then (Option.bind (idx ((([]:List aR)++r_.l).set at_.toNat (aR.mk x_ aM 0)) at_) λi=>(Option.bind (idx (((([]:List aR)++r_.l).set at_.toNat (aR.mk x_ aM 0)).set at_.toNat (aR.mk x_ aM 1)) (IntKind.i64.wrap (at_+1))) λj=>(Option.bind ((bif (decide (at_ > 0)) then (Option.bind (idx ((((([]:List aR)++r_.l).set at_.toNat (aR.mk x_ aM 0)).set at_.toNat (aR.mk x_ aM 1)).set ((IntKind.i64.wrap (at_+1)).toNat) (aR.mk x_ aM 2)) (IntKind.i64.wrap (at_ - 1))) λc=>some (c.part == 1)) else some false):Option Bool) λd=>(bif d then (Option.bind (idx ((((([]:List aR)++r_.l).set at_.toNat (aR.mk x_ aM 0)).set at_.toNat (aR.mk x_ aM 1)).set ((IntKind.i64.wrap (at_+1)).toNat) (aR.mk x_ aM 2)) (IntKind.i64.wrap (at_ - 1))) λe=>(Option.bind (idx ((((([]:List aR)++r_.l).set at_.toNat (aR.mk x_ aM 0)).set at_.toNat (aR.mk x_ aM 1)).set ((IntKind.i64.wrap (at_+1)).toNat) (aR.mk x_ aM 2)) (IntKind.i64.wrap (at_ - 1))) λk=>some (((((([]:List aR)++r_.l).set at_.toNat (aR.mk x_ aM 0)).set at_.toNat (aR.mk x_ aM 1)).set ((IntKind.i64.wrap (at_+1)).toNat) (aR.mk x_ aM 2)).set ((IntKind.i64.wrap (at_ - 1)).toNat) (aR.mk 32 e.aM 0)))) else some ((((([]:List aR)++r_.l).set at_.toNat (aR.mk x_ aM 0)).set at_.toNat (aR.mk x_ aM 1)).set ((IntKind.i64.wrap (at_+1)).toNat) (aR.mk x_ aM 2)))))) else some ((([]:List aR)++r_.l).set at_.toNat (aR.mk x_ aM 0))):Option (List aR)) λf=>(Option.bind (fL f) λg=>some g)))))))
noncomputable def pR (r_:aX) (from_:Int) (to:Int) (aM:Int):Option aX :=
 (Option.bind (chk (eH ([]:List aR).length r_.l.length 24)) λ_=>(Option.bind (iter (σ:=Int×(List aR)) (ρ:=(List aR)) (λa=>(bif (decide (a.1 < ((([]:List aR)++r_.l).length:Int))) then (Option.bind ((Option.bind ((bif (decide (a.1>=from_)) then some (decide (a.1 < to)) else some false):Option Bool) λb=>(bif b then (Option.bind (idx a.2 a.1) λf=>some (a.2.set a.1.toNat (aR.mk 32 aM 0))) else some a.2)):Option (List aR)) λc=>some (.inl ((IntKind.i64.wrap (a.1+1)),c))) else some (.inr a.2))) (0,(([]:List aR)++r_.l))) λd=>(Option.bind (fL d) λe=>some e)))
noncomputable def o6 (r_:aX) (at_:Int) (n_:Int) (aM:Int):Option aX :=
 (Option.bind ((bif (decide (at_ < 0)) then some true else (bif (decide (at_>=(r_.l.length:Int))) then some true else some (decide (n_<=0)))):Option Bool) λe8=>(bif e8 then (Option.bind (fL r_.l) λb=>some b) else (Option.bind (chk (dC 0 at_ r_.l.length)) λ_=>(Option.bind (chk (eH ([]:List aR).length (cut r_.l 0 at_).length 24)) λ_=>(Option.bind (kQ (eM n_ (IntKind.i64.wrap ((r_.l.length:Int) - at_))) aM) λa=>(Option.bind (chk (eH (([]:List aR)++(cut r_.l 0 at_)).length a.l.length 24)) λ_=>(Option.bind (chk (dC at_ (IntKind.i64.wrap ((r_.l.length:Int) - (eM n_ (IntKind.i64.wrap ((r_.l.length:Int) - at_))))) r_.l.length)) λ_=>(Option.bind (chk (eH ((([]:List aR)++(cut r_.l 0 at_))++a.l).length (cut r_.l at_ (IntKind.i64.wrap ((r_.l.length:Int) - (eM n_ (IntKind.i64.wrap ((r_.l.length:Int) - at_)))))).length 24)) λ_=>(Option.bind (fL (((([]:List aR)++(cut r_.l 0 at_))++a.l)++(cut r_.l at_ (IntKind.i64.wrap ((r_.l.length:Int) - (eM n_ (IntKind.i64.wrap ((r_.l.length:Int) - at_)))))))) λc=>some c)))))))))
noncomputable def o7 (r_:aX) (at_:Int) (n_:Int) (aM:Int):Option aX :=
 (Option.bind ((bif (decide (at_ < 0)) then some true else (bif (decide (at_>=(r_.l.length:Int))) then some true else some (decide (n_<=0)))):Option Bool) λe8=>(bif e8 then (Option.bind (fL r_.l) λb=>some b) else (Option.bind (chk (dC 0 at_ r_.l.length)) λ_=>(Option.bind (chk (eH ([]:List aR).length (cut r_.l 0 at_).length 24)) λ_=>(Option.bind (chk (dC (IntKind.i64.wrap (at_+(eM n_ (IntKind.i64.wrap ((r_.l.length:Int) - at_))))) (r_.l.length:Int) r_.l.length)) λ_=>(Option.bind (chk (eH (([]:List aR)++(cut r_.l 0 at_)).length (cut r_.l (IntKind.i64.wrap (at_+(eM n_ (IntKind.i64.wrap ((r_.l.length:Int) - at_))))) (r_.l.length:Int)).length 24)) λ_=>(Option.bind (kQ (eM n_ (IntKind.i64.wrap ((r_.l.length:Int) - at_))) aM) λa=>(Option.bind (chk (eH ((([]:List aR)++(cut r_.l 0 at_))++(cut r_.l (IntKind.i64.wrap (at_+(eM n_ (IntKind.i64.wrap ((r_.l.length:Int) - at_))))) (r_.l.length:Int))).length a.l.length 24)) λ_=>(Option.bind (fL (((([]:List aR)++(cut r_.l 0 at_))++(cut r_.l (IntKind.i64.wrap (at_+(eM n_ (IntKind.i64.wrap ((r_.l.length:Int) - at_))))) (r_.l.length:Int)))++a.l)) λc=>some c)))))))))
noncomputable def o8 (r_:aX) (aM:Int):Option aX :=
 (Option.bind (chk (eH ([]:List aR).length r_.l.length 24)) λ_=>(Option.bind ((bif (decide (((([]:List aR)++r_.l).length:Int) > 0)) then (Option.bind (idx (([]:List aR)++r_.l) (IntKind.i64.wrap (((([]:List aR)++r_.l).length:Int) - 1))) λc=>some ((([]:List aR)++r_.l).set ((IntKind.i64.wrap (((([]:List aR)++r_.l).length:Int) - 1)).toNat) (aR.mk 32 aM 3))) else some (([]:List aR)++r_.l)):Option (List aR)) λa=>(Option.bind (fL a) λb=>some (aX.mk b.l true))))
noncomputable def o9 (r_:aX) (w:Int):Option aX :=
 (Option.bind (o4 w 0 1000) λr3=>(bif (r3 == (r_.l.length:Int)) then some r_ else (Option.bind (chk (dC 0 (eM r3 (r_.l.length:Int)) r_.l.length)) λ_=>(Option.bind (chk (eH ([]:List aR).length (cut r_.l 0 (eM r3 (r_.l.length:Int))).length 24)) λ_=>(Option.bind (kQ (IntKind.i64.wrap (r3 - ((([]:List aR)++(cut r_.l 0 (eM r3 (r_.l.length:Int)))).length:Int))) 0) λa=>(Option.bind (chk (eH (([]:List aR)++(cut r_.l 0 (eM r3 (r_.l.length:Int)))).length a.l.length 24)) λ_=>(Option.bind (fL ((([]:List aR)++(cut r_.l 0 (eM r3 (r_.l.length:Int))))++a.l)) λb=>some b)))))))
noncomputable def we (r_:aE) (x_:aX):Option Bool :=
 (Option.bind ((bif ((r_.cells.length:Int) != (x_.l.length:Int)) then some true else some (!(r_.wrapped == x_.wrapped))):Option Bool) λe6=>(bif e6 then some false else (Option.bind (iter (σ:=Int) (ρ:=Unit ⊕ Bool) (λa=>(bif (decide (a < (r_.cells.length:Int))) then (Option.bind (idx r_.cells a) λb=>(Option.bind ((Option.bind (idx x_.l a) λc=>(bif ((IntKind.i64.wrap b.rune) != c.rune) then some true else (Option.bind (idx x_.l a) λd=>(bif (b.aM != d.aM) then some true else (Option.bind (idx x_.l a) λe=>some (b.part != e.part)))))):Option Bool) λf=>(bif f then (m6 (some false)) else some (.inl (IntKind.i64.wrap (a+1)))))) else some (.inr (.inl ())))) 0) λ | .inl e712=>some true | .inr w=>some w)))
structure iX where
 w:Int
 l:List aX
 deriving DecidableEq,Inhabited
noncomputable def qz (n_:Int):Option Int :=
 some (imax 1 (eM n_ 1000))
noncomputable def um (w:Int) (h_:Int):Option iX :=
 (Option.bind (qz w) λr2=>(Option.bind (iter (σ:=iX×Int) (ρ:=iX) (λa=>(Option.bind (qz h_) λc=>(bif (decide (a.2 < c)) then (Option.bind (kQ a.1.w 0) λb=>(Option.bind (chk (eH a.1.l.length [b].length 32)) λ_=>some (.inl ((iX.mk a.1.w (a.1.l++[b])),(IntKind.i64.wrap (a.2+1)))))) else some (.inr a.1)))) ((iX.mk r2 ([]:List aX)),0)) λd=>some d))
noncomputable def p7 (g:iX) (y:Int) (r_:aX):Option (iX×Bool) :=
 (Option.bind ((bif (decide (y < 0)) then some true else some (decide (y>=(g.l.length:Int)))):Option Bool) λe7=>(bif e7 then some (g,false) else (Option.bind (chk (eH ([]:List aX).length g.l.length 32)) λ_=>(Option.bind (o9 r_ g.w) λa=>(Option.bind (idx (([]:List aX)++g.l) y) λb=>some ((iX.mk g.w ((([]:List aX)++g.l).set y.toNat a)),true))))))
noncomputable def eK (g:iX) (up:Bool) (top:Int) (aL:Int) (n_:Int) (aM:Int):Option (iX×(List aX)) :=
 (bif (decide ((imax 0 (eM aL (IntKind.i64.wrap ((g.l.length:Int) - 1)))) < (imax 0 (eM top (IntKind.i64.wrap ((g.l.length:Int) - 1)))))) then some (g,([]:List aX)) else (Option.bind (chk (eH ([]:List aX).length g.l.length 32)) λ_=>(Option.bind (kQ g.w aM) λd=>(Option.bind (iter (σ:=(List aX)×(List aX)×Int) (ρ:=(List aX)×(List aX)) (λa=>(Option.bind ((bif (decide (a.2.2 < n_)) then some (decide (a.2.2<=(IntKind.i64.wrap ((imax 0 (eM aL (IntKind.i64.wrap ((g.l.length:Int) - 1)))) - (imax 0 (eM top (IntKind.i64.wrap ((g.l.length:Int) - 1)))))))) else some false):Option Bool) λm=>(bif m then (Option.bind ((bif up then (Option.bind (idx a.2.1 (imax 0 (eM top (IntKind.i64.wrap ((g.l.length:Int) - 1))))) λe=>(Option.bind (chk (eH a.1.length [e].length 32)) λ_=>(Option.bind (iter (σ:=(List aX)×Int) (ρ:=(List aX)) (λb=>(bif (decide (b.2 < (imax 0 (eM aL (IntKind.i64.wrap ((g.l.length:Int) - 1)))))) then (Option.bind (idx b.1 (IntKind.i64.wrap (b.2+1))) λn=>(Option.bind (idx b.1 b.2) λp=>some (.inl ((b.1.set b.2.toNat n),(IntKind.i64.wrap (b.2+1)))))) else some (.inr b.1))) (a.2.1,(imax 0 (eM top (IntKind.i64.wrap ((g.l.length:Int) - 1)))))) λf=>(Option.bind (idx f (imax 0 (eM aL (IntKind.i64.wrap ((g.l.length:Int) - 1))))) λq=>some ((a.1++[e]),(f.set ((imax 0 (eM aL (IntKind.i64.wrap ((g.l.length:Int) - 1)))).toNat) d)))))) else (Option.bind (idx a.2.1 (imax 0 (eM aL (IntKind.i64.wrap ((g.l.length:Int) - 1))))) λh=>(Option.bind (chk (eH a.1.length [h].length 32)) λ_=>(Option.bind (iter (σ:=(List aX)×Int) (ρ:=(List aX)) (λc=>(bif (decide (c.2 > (imax 0 (eM top (IntKind.i64.wrap ((g.l.length:Int) - 1)))))) then (Option.bind (idx c.1 (IntKind.i64.wrap (c.2 - 1))) λo=>(Option.bind (idx c.1 c.2) λr=>some (.inl ((c.1.set c.2.toNat o),(IntKind.i64.wrap (c.2 - 1)))))) else some (.inr c.1))) (a.2.1,(imax 0 (eM aL (IntKind.i64.wrap ((g.l.length:Int) - 1)))))) λi=>(Option.bind (idx i (imax 0 (eM top (IntKind.i64.wrap ((g.l.length:Int) - 1))))) λs=>some ((a.1++[h]),(i.set ((imax 0 (eM top (IntKind.i64.wrap ((g.l.length:Int) - 1)))).toNat) d))))))):Option ((List aX)×(List aX))) λj=>some (.inl (j.1,j.2,(IntKind.i64.wrap (a.2.2+1))))) else some (.inr (a.1,a.2.1))))) (([]:List aX),(([]:List aX)++g.l),0)) λk=>some ((iX.mk g.w k.2),k.1)))))
noncomputable def qA (l:List aE) (x_:List aX):Option Bool :=
 (bif ((l.length:Int) != (x_.length:Int)) then some false else (Option.bind (iter (σ:=Int) (ρ:=Unit ⊕ Bool) (λa=>(bif (decide (a < (x_.length:Int))) then (Option.bind (idx l a) λb=>(Option.bind (idx x_ a) λc=>(Option.bind (we b c) λd=>(bif (!d) then (m6 (some false)) else some (.inl (IntKind.i64.wrap (a+1))))))) else some (.inr (.inl ())))) 0) λ | .inl e571=>some true | .inr w=>some w))
structure mX where
 kind:Int
 rune:Int
 byte:Int
 eC:Bool
 bJ:List Int
 text:ByteArray
 deriving DecidableEq,Inhabited
structure bM where
 iY:Int
 back:Int
 bold:Bool
 under:Bool
 dT:Bool
 deriving DecidableEq,Inhabited
noncomputable def uo (s_:bM):Option Bool :=
 (Option.bind ((bif (decide (s_.iY>=0)) then (bif (decide (s_.iY<=8)) then (bif (decide (s_.back>=0)) then some (decide (s_.back<=8)) else some false) else some false) else some false):Option Bool) λe9=>some e9)
noncomputable def mY (s_:bM):Option Int :=
 (Option.bind (uo s_) λr2=>(bif (!r2) then some 0 else (Option.bind ((bif s_.bold then some (IntKind.i64.wrap ((IntKind.i64.wrap (s_.iY+(IntKind.i64.wrap (9*s_.back))))+81)) else some (IntKind.i64.wrap (s_.iY+(IntKind.i64.wrap (9*s_.back))))):Option Int) λa=>(Option.bind ((bif s_.under then some (IntKind.i64.wrap (a+162)) else some a):Option Int) λb=>(Option.bind ((bif s_.dT then some (IntKind.i64.wrap (b+324)) else some b):Option Int) λc=>some c)))))
noncomputable def uq (s_:bM) (l:List Int):Option bM :=
 (bif ((l.length:Int) == 0) then some (bM.mk 0 0 false false false) else (Option.bind (iter (σ:=bM×Int×Int) (ρ:=bM) (λb=>(bif (decide (b.2.1 < (l.length:Int))) then (Option.bind ((Option.bind (idx l b.2.1) λa=>(bif (decide (b.2.2 > 0)) then some ((IntKind.i64.wrap (b.2.2 - 1)),b.1) else (Option.bind ((bif (a == 38) then some true else some (a == 48)):Option Bool) λm=>(bif m then (Option.bind ((bif (decide ((IntKind.i64.wrap (b.2.1+1)) < (l.length:Int))) then (Option.bind (idx l (IntKind.i64.wrap (b.2.1+1))) λn=>some (n == 5)) else some false):Option Bool) λo=>(Option.bind ((bif o then some 2 else some b.2.2):Option Int) λp=>(Option.bind ((bif (decide ((IntKind.i64.wrap (b.2.1+1)) < (l.length:Int))) then (Option.bind (idx l (IntKind.i64.wrap (b.2.1+1))) λq=>some (q == 2)) else some false):Option Bool) λr=>(Option.bind ((bif r then some 4 else some p):Option Int) λt=>some (t,b.1))))) else (Option.bind ((bif (a == 0) then some (bM.mk 0 0 false false false) else some b.1):Option bM) λc=>(Option.bind ((bif (a == 1) then some true else some (a == 22)):Option Bool) λu=>(Option.bind ((bif u then some (bM.mk c.iY c.back (decide (a < 10)) c.under c.dT) else some c):Option bM) λd=>(Option.bind ((bif (a == 4) then some true else some (a == 24)):Option Bool) λv=>(Option.bind ((bif v then some (bM.mk d.iY d.back d.bold (decide (a < 10)) d.dT) else some d):Option bM) λe=>(Option.bind ((bif (a == 7) then some true else some (a == 27)):Option Bool) λw=>(Option.bind ((bif w then some (bM.mk e.iY e.back e.bold e.under (decide (a < 10))) else some e):Option bM) λf=>(Option.bind ((bif (decide (a>=30)) then some (decide (a<=37)) else some false):Option Bool) λz=>(Option.bind ((bif z then some (bM.mk (IntKind.i64.wrap (a - 29)) f.back f.bold f.under f.dT) else some f):Option bM) λh=>(Option.bind ((bif (a == 39) then some (bM.mk 0 h.back h.bold h.under h.dT) else some h):Option bM) λi=>(Option.bind ((bif (decide (a>=40)) then some (decide (a<=47)) else some false):Option Bool) λA=>(Option.bind ((bif A then some (bM.mk i.iY (IntKind.i64.wrap (a - 39)) i.bold i.under i.dT) else some i):Option bM) λj=>(bif (a == 49) then some (b.2.2,(bM.mk j.iY 0 j.bold j.under j.dT)) else some (b.2.2,j)))))))))))))))))):Option (Int×bM)) λk=>some (.inl (k.2,(IntKind.i64.wrap (b.2.1+1)),k.1))) else some (.inr b.1))) (s_,0,0)) λB=>some B))
structure aP where
 g:iX
 x:Int
 y:Int
 s:bM
 sX:Int
 sY:Int
 sS:bM
 waiting:Bool
 top:Int
 aL:Int
 aZ:Bool
 title:ByteArray
 deriving DecidableEq,Inhabited
noncomputable def ur (w:Int) (h_:Int):Option aP :=
 (Option.bind (um w h_) λr2=>some (aP.mk r2 0 0 (bM.mk 0 0 false false false) 0 0 (bM.mk 0 0 false false false) false 0 (IntKind.i64.wrap ((r2.l.length:Int) - 1)) true (ByteArray.mk #[])))
noncomputable def me (s_:aP) (r_:aX):Option aP :=
 (Option.bind (p7 s_.g s_.y r_) λr4=>some (aP.mk r4.1 s_.x s_.y s_.s s_.sX s_.sY s_.sS s_.waiting s_.top s_.aL s_.aZ s_.title))
noncomputable def pc (s_:aP) (n_:Int):Option (aP×(List aX)) :=
 (Option.bind (mY s_.s) λb=>(Option.bind (eK s_.g true s_.top s_.aL n_ b) λa=>(bif (decide (s_.top > 0)) then some ((aP.mk a.1 s_.x s_.y s_.s s_.sX s_.sY s_.sS s_.waiting s_.top s_.aL s_.aZ s_.title),([]:List aX)) else some ((aP.mk a.1 s_.x s_.y s_.s s_.sX s_.sY s_.sS s_.waiting s_.top s_.aL s_.aZ s_.title),a.2))))
noncomputable def dL (s_:aP) (x_:Int) (y:Int):Option aP :=
 some (aP.mk s_.g (imax 0 (eM x_ (IntKind.i64.wrap (s_.g.w - 1)))) (imax 0 (eM y (IntKind.i64.wrap ((s_.g.l.length:Int) - 1)))) s_.s s_.sX s_.sY s_.sS false s_.top s_.aL s_.aZ s_.title)
noncomputable def jB (s_:aP):Option (aP×(List aX)) :=
 (bif (s_.y == s_.aL) then (Option.bind (pc (aP.mk s_.g s_.x s_.y s_.s s_.sX s_.sY s_.sS false s_.top s_.aL s_.aZ s_.title) 1) λa=>some (a.1,a.2)) else (Option.bind (dL (aP.mk s_.g s_.x s_.y s_.s s_.sX s_.sY s_.sS false s_.top s_.aL s_.aZ s_.title) s_.x (IntKind.i64.wrap (s_.y+1))) λb=>some (b,([]:List aX))))
noncomputable def tp (s_:aP) (r_:Int):Option (aP×(List aX)) :=
 (Option.bind (tj r_) λr3=>(Option.bind ((bif (r3 == 0) then some true else some (decide (r3 > s_.g.w))):Option Bool) λe9=>(bif e9 then some (s_,([]:List aX)) else (Option.bind (mY s_.s) λi=>(Option.bind ((bif s_.waiting then some s_.aZ else some false):Option Bool) λj=>(Option.bind ((bif j then (Option.bind (idx s_.g.l s_.y) λk=>(Option.bind (me s_ (aX.mk k.l true)) λc=>(Option.bind (jB (aP.mk c.g 0 c.y c.s c.sX c.sY c.sS c.waiting c.top c.aL c.aZ c.title)) λf=>(Option.bind (chk (eH ([]:List aX).length f.2.length 32)) λ_=>some ((([]:List aX)++f.2),f.1))))) else some (([]:List aX),s_)):Option ((List aX)×aP)) λb=>(Option.bind ((bif (r3 == 2) then some (b.2.x == (IntKind.i64.wrap (b.2.g.w - 1))) else some false):Option Bool) λm=>(Option.bind ((bif m then (bif b.2.aZ then (Option.bind (idx b.2.g.l b.2.y) λn=>(Option.bind (o8 n i) λo=>(Option.bind (me b.2 o) λd=>(Option.bind (jB (aP.mk d.g 0 d.y d.s d.sX d.sY d.sS d.waiting d.top d.aL d.aZ d.title)) λh=>(Option.bind (chk (eH b.1.length h.2.length 32)) λ_=>some ((b.1++h.2),h.1)))))) else some (b.1,(aP.mk b.2.g (IntKind.i64.wrap (b.2.x - 1)) b.2.y b.2.s b.2.sX b.2.sY b.2.sS b.2.waiting b.2.top b.2.aL b.2.aZ b.2.title))) else some (b.1,b.2)):Option ((List aX)×aP)) λe=>(Option.bind (idx e.2.g.l e.2.y) λp=>(Option.bind (rB p e.2.x r_ i) λq=>(Option.bind (me e.2 q) λa=>(Option.bind ((bif ((IntKind.i64.wrap (a.x+r3)) == a.g.w) then some (aP.mk a.g (IntKind.i64.wrap ((IntKind.i64.wrap (a.x+r3)) - 1)) a.y a.s a.sX a.sY a.sS ((IntKind.i64.wrap (a.x+r3)) == a.g.w) a.top a.aL a.aZ a.title) else some (aP.mk a.g (IntKind.i64.wrap (a.x+r3)) a.y a.s a.sX a.sY a.sS ((IntKind.i64.wrap (a.x+r3)) == a.g.w) a.top a.aL a.aZ a.title)):Option aP) λr=>some (r,e.1)))))))))))))
noncomputable def fH (l:List Int) (i:Int) (d:Int):Option Int :=
 (Option.bind ((bif (decide (i < (l.length:Int))) then (Option.bind (idx l i) λa=>some (decide (a > 0))) else some false):Option Bool) λb=>(bif b then (Option.bind (idx l i) λc=>some (eM c 9999)) else some d))
noncomputable def nC (s_:aP) (y:Int) (from_:Int) (to:Int):Option aP :=
 (Option.bind (idx s_.g.l y) λa=>(Option.bind (mY s_.s) λb=>(Option.bind (pR a from_ to b) λc=>(Option.bind (p7 s_.g y c) λd=>some (aP.mk d.1 s_.x s_.y s_.s s_.sX s_.sY s_.sS s_.waiting s_.top s_.aL s_.aZ s_.title)))))
noncomputable def pS (s_:aP) (n_:Int) (all:Bool):Option aP :=
 (bif (decide (n_ > 2)) then some s_ else (Option.bind (iter (σ:=aP×Int) (ρ:=aP) (λa=>(bif (decide (a.2 < (s_.g.l.length:Int))) then (Option.bind ((Option.bind ((bif all then (bif (decide (a.2 < a.1.y)) then (bif (n_ != 0) then some true else (bif (decide (a.2 > a.1.y)) then some (n_ != 1) else some false)) else (bif (decide (a.2 > a.1.y)) then some (n_ != 1) else some false)) else some false):Option Bool) λd=>(bif d then (Option.bind (nC a.1 a.2 0 a.1.g.w) λe=>some e) else some a.1)):Option aP) λf=>some (.inl (f,(IntKind.i64.wrap (a.2+1))))) else some (.inr a.1))) (s_,0)) λc=>(Option.bind ((bif (n_ == 0) then some c.x else some 0):Option Int) λh=>(Option.bind ((bif (n_ == 1) then some (IntKind.i64.wrap (c.x+1)) else some c.g.w):Option Int) λi=>(Option.bind (nC c c.y h i) λb=>some (aP.mk b.g b.x b.y b.s b.sX b.sY b.sS false b.top b.aL b.aZ b.title))))))
noncomputable def qk (s_:aP) (b:Int) (l:List Int):Option (aP×(List aX)) :=
 (Option.bind (fH l 0 1) λr3=>(Option.bind (mY s_.s) λr6=>(Option.bind ((Option.bind ((bif (b == 65) then some (b == 65) else some (b == 70)):Option Bool) λk=>(bif k then (Option.bind ((bif (decide (s_.y>=s_.top)) then some s_.top else some 0):Option Int) λm=>(Option.bind (dL s_ s_.x (imax m (IntKind.i64.wrap (s_.y - r3)))) λa=>(bif (b == 70) then some (.inl (aP.mk a.g 0 a.y a.s a.sX a.sY a.sS a.waiting a.top a.aL a.aZ a.title)) else some (.inl a)))) else (Option.bind ((bif (b == 66) then some (b == 66) else some (b == 69)):Option Bool) λn=>(bif n then (Option.bind ((bif (decide (s_.y<=s_.aL)) then some s_.aL else some (IntKind.i64.wrap ((s_.g.l.length:Int) - 1))):Option Int) λo=>(Option.bind (dL s_ s_.x (eM o (IntKind.i64.wrap (s_.y+r3)))) λc=>(bif (b == 69) then some (.inl (aP.mk c.g 0 c.y c.s c.sX c.sY c.sS c.waiting c.top c.aL c.aZ c.title)) else some (.inl c)))) else (bif (b == 67) then (Option.bind (dL s_ (IntKind.i64.wrap (s_.x+r3)) s_.y) λp=>some (.inl p)) else (bif (b == 68) then (Option.bind (dL s_ (IntKind.i64.wrap (s_.x - r3)) s_.y) λq=>some (.inl q)) else (bif (b == 71) then (Option.bind (dL s_ (IntKind.i64.wrap (r3 - 1)) s_.y) λr=>some (.inl r)) else (bif (b == 100) then (Option.bind (dL s_ s_.x (IntKind.i64.wrap (r3 - 1))) λt=>some (.inl t)) else (Option.bind ((bif (b == 72) then some (b == 72) else some (b == 102)):Option Bool) λu=>(bif u then (Option.bind (fH l 1 1) λv=>(Option.bind (dL s_ (IntKind.i64.wrap (v - 1)) (IntKind.i64.wrap (r3 - 1))) λz=>some (.inl z))) else (bif (b == 74) then (Option.bind (fH l 0 0) λA=>(Option.bind (pS s_ A true) λB=>some (.inl B))) else (bif (b == 75) then (Option.bind (fH l 0 0) λC=>(Option.bind (pS s_ C false) λD=>some (.inl D))) else (bif (b == 88) then (Option.bind (nC s_ s_.y s_.x (IntKind.i64.wrap (s_.x+r3))) λd=>some (.inl (aP.mk d.g d.x d.y d.s d.sX d.sY d.sS false d.top d.aL d.aZ d.title))) else (bif (b == 64) then (Option.bind (idx s_.g.l s_.y) λE=>(Option.bind (o6 E s_.x r3 r6) λF=>(Option.bind (me s_ F) λe=>some (.inl (aP.mk e.g e.x e.y e.s e.sX e.sY e.sS false e.top e.aL e.aZ e.title))))) else (bif (b == 80) then (Option.bind (idx s_.g.l s_.y) λG=>(Option.bind (o7 G s_.x r3 r6) λH=>(Option.bind (me s_ H) λf=>some (.inl (aP.mk f.g f.x f.y f.s f.sX f.sY f.sS false f.top f.aL f.aZ f.title))))) else (Option.bind ((bif (b == 76) then some (b == 76) else some (b == 77)):Option Bool) λI=>(bif I then (Option.bind ((bif (decide (s_.y>=s_.top)) then some (decide (s_.y<=s_.aL)) else some false):Option Bool) λJ=>(bif J then (Option.bind (eK s_.g (b == 77) s_.y s_.aL r3 r6) λK=>(Option.bind (dL (aP.mk K.1 s_.x s_.y s_.s s_.sX s_.sY s_.sS s_.waiting s_.top s_.aL s_.aZ s_.title) 0 s_.y) λL=>some (.inl L))) else some (.inl s_))) else (bif (b == 83) then (Option.bind (pc (aP.mk s_.g s_.x s_.y s_.s s_.sX s_.sY s_.sS false s_.top s_.aL s_.aZ s_.title) r3) λh=>(mH (some (h.1,h.2)))) else (bif (b == 84) then (Option.bind (eK s_.g false s_.top s_.aL r3 r6) λM=>some (.inl (aP.mk M.1 s_.x s_.y s_.s s_.sX s_.sY s_.sS false s_.top s_.aL s_.aZ s_.title))) else (bif (b == 109) then (Option.bind (uq s_.s l) λN=>some (.inl (aP.mk s_.g s_.x s_.y N s_.sX s_.sY s_.sS s_.waiting s_.top s_.aL s_.aZ s_.title))) else (bif (b == 114) then (Option.bind (fH l 0 1) λi=>(Option.bind (fH l 1 (s_.g.l.length:Int)) λj=>(bif (decide ((IntKind.i64.wrap ((imax 1 (eM i (s_.g.l.length:Int))) - 1)) < (IntKind.i64.wrap ((imax 1 (eM j (s_.g.l.length:Int))) - 1)))) then (Option.bind (dL (aP.mk s_.g s_.x s_.y s_.s s_.sX s_.sY s_.sS s_.waiting (IntKind.i64.wrap ((imax 1 (eM i (s_.g.l.length:Int))) - 1)) (IntKind.i64.wrap ((imax 1 (eM j (s_.g.l.length:Int))) - 1)) s_.aZ s_.title) 0 0) λO=>some (.inl O)) else some (.inl s_)))) else some (.inl s_)))))))))))))))))))))):Option (aP ⊕ (aP×(List aX)))) λ | .inl e753=>some (e753,([]:List aX)) | .inr w=>some w)))
noncomputable def wh (s_:aP) (a:mX):Option (aP×(List aX)) :=
 (Option.bind ((bif (a.kind == 1) then (Option.bind (tp s_ a.rune) λb=>(mH (some (b.1,b.2)))) else (bif (a.kind == 2) then (bif (a.byte == 8) then (Option.bind (dL s_ (IntKind.i64.wrap (s_.x - 1)) s_.y) λh=>(mH (some (h,([]:List aX))))) else (bif (a.byte == 9) then (Option.bind (dL s_ (IntKind.i64.wrap ((IntKind.i64.wrap ((IntKind.i64.wrap (s_.x.tdiv 8))*8))+8)) s_.y) λi=>(mH (some (i,([]:List aX))))) else (Option.bind ((bif (a.byte == 10) then some (a.byte == 10) else (bif (a.byte == 11) then some (a.byte == 11) else some (a.byte == 12))):Option Bool) λj=>(bif j then (Option.bind (jB s_) λc=>(mH (some (c.1,c.2)))) else (bif (a.byte == 13) then (Option.bind (dL s_ 0 s_.y) λk=>(mH (some (k,([]:List aX))))) else some (.inl s_)))))) else (bif (a.kind == 3) then (bif (a.byte == 68) then (Option.bind (jB s_) λd=>(mH (some (d.1,d.2)))) else (bif (a.byte == 69) then (Option.bind (jB (aP.mk s_.g 0 s_.y s_.s s_.sX s_.sY s_.sS s_.waiting s_.top s_.aL s_.aZ s_.title)) λe=>(mH (some (e.1,e.2)))) else (bif (a.byte == 77) then (bif (s_.y == s_.top) then (Option.bind (mY s_.s) λm=>(Option.bind (eK s_.g false s_.top s_.aL 1 m) λn=>(mH (some ((aP.mk n.1 s_.x s_.y s_.s s_.sX s_.sY s_.sS false s_.top s_.aL s_.aZ s_.title),([]:List aX)))))) else (Option.bind (dL (aP.mk s_.g s_.x s_.y s_.s s_.sX s_.sY s_.sS false s_.top s_.aL s_.aZ s_.title) s_.x (IntKind.i64.wrap (s_.y - 1))) λo=>(mH (some (o,([]:List aX)))))) else (bif (a.byte == 55) then some (.inl (aP.mk s_.g s_.x s_.y s_.s s_.x s_.y s_.s s_.waiting s_.top s_.aL s_.aZ s_.title)) else (bif (a.byte == 56) then (Option.bind (dL (aP.mk s_.g s_.x s_.y s_.sS s_.sX s_.sY s_.sS s_.waiting s_.top s_.aL s_.aZ s_.title) s_.sX s_.sY) λp=>(mH (some (p,([]:List aX))))) else (bif (a.byte == 99) then (Option.bind (ur s_.g.w (s_.g.l.length:Int)) λq=>(mH (some (q,([]:List aX))))) else some (.inl s_))))))) else (bif (a.kind == 4) then (bif (!a.eC) then (Option.bind (qk s_ a.byte a.bJ) λf=>(mH (some (f.1,f.2)))) else (Option.bind ((Option.bind (fH a.bJ 0 0) λr=>(bif (r == 7) then (bif (a.byte == 104) then some true else some (a.byte == 108)) else some false)):Option Bool) λt=>(bif t then some (.inl (aP.mk s_.g s_.x s_.y s_.s s_.sX s_.sY s_.sS s_.waiting s_.top s_.aL (a.byte == 104) s_.title)) else some (.inl s_)))) else (bif (a.kind == 5) then some (.inl (aP.mk s_.g s_.x s_.y s_.s s_.sX s_.sY s_.sS s_.waiting s_.top s_.aL s_.aZ a.text)) else some (.inl s_)))))):Option (aP ⊕ (aP×(List aX)))) λ | .inl e456=>some (e456,([]:List aX)) | .inr w=>some w)
noncomputable def uu (a:mX):Option bA :=
 (Option.bind (chk (eH ([]:List Int).length a.bJ.length 8)) λ_=>some (bA.mk a.kind (IntKind.i32.wrap a.rune) (IntKind.u8.wrap a.byte) a.eC (([]:List Int)++a.bJ) a.text))
structure Br where
 l:List (List wc)
 begun:List wc
 deriving DecidableEq,Inhabited
structure Ff where
 kind:Int
 text:ByteArray
 w:Int
 h:Int
 deriving DecidableEq,Inhabited
structure mr where
 s:aP
 b:Br
 all:ByteArray
 Qn:Int
 k:Int
 deriving DecidableEq,Inhabited
noncomputable def kM (events:List ByteArray) (late:List Int):Option Bool :=
 (Option.bind (pY 8 3) λr1=>(Option.bind (qy (cK.mk 25 1 5)) λv=>(Option.bind rA λw=>(Option.bind (iter (σ:=aK×bD×aV×Int×(List cH)×Int) (ρ:=Int×aV×aK×bD) (λa=>(Option.bind ((bif (decide (a.2.2.2.1 < (events.length:Int))) then some (decide (a.2.2.2.1 < 10)) else some false):Option Bool) λx=>(bif x then (Option.bind (idx events a.2.2.2.1) λy=>(Option.bind (pZ y 60) λz=>(Option.bind (eZ a.2.1 (nQ.mk 0 z 0 0)) λA=>(Option.bind (fE A.2) λp=>(Option.bind (fF a.1 p.1) λB=>(Option.bind (gM B.2 a.2.2.2.2.2) λj=>(Option.bind (iter (σ:=aV×Int×(List cH)) (ρ:=(List cH)×aV) (λb=>(bif (decide (b.2.1 < (j.1.length:Int))) then (Option.bind ((Option.bind (idx j.1 b.2.1) λg=>(Option.bind ((bif (decide (a.2.2.2.1 < (late.length:Int))) then (Option.bind (idx late a.2.2.2.1) λC=>some (b.2.1 == C)) else some false):Option Bool) λD=>(bif D then (Option.bind (chk (eH b.2.2.length [g].length 56)) λ_=>some ((b.2.2++[g]),b.1)) else (Option.bind (bO b.1 g) λE=>(Option.bind (bO E.2 g) λF=>some (b.2.2,F.2)))))):Option ((List cH)×aV)) λq=>some (.inl (q.2,(IntKind.i64.wrap (b.2.1+1)),q.1))) else some (.inr (b.2.2,b.1)))) (a.2.2.1,0,a.2.2.2.2.1)) λh=>(Option.bind (iter (σ:=aV×Int) (ρ:=aV) (λd=>(bif (decide (d.2 < (h.1.length:Int))) then (Option.bind (idx h.1 d.2) λG=>(Option.bind (bO d.1 G) λH=>some (.inl (H.2,(IntKind.i64.wrap (d.2+1)))))) else some (.inr d.1))) (h.2,0)) λr=>(Option.bind (jX r) λl=>(Option.bind (iK l 0) λI=>(Option.bind (iK l 1) λJ=>(Option.bind (iI j.2 I J l.data) λK=>some (.inl (K.2,p.2,r,(IntKind.i64.wrap (a.2.2.2.1+1)),h.1,(IntKind.i64.wrap (a.2.2.2.2.2+1)))))))))))))))) else some (.inr (a.2.2.2.2.2,a.2.2.1,a.1,a.2.1))))) (v,r1,w,0,[],0)) λi=>(Option.bind (fE i.2.2.2) λs=>(Option.bind (fF i.2.2.1 s.1) λL=>(Option.bind (iter (σ:=aK×aV×Int×Int) (ρ:=aK×aV) (λc=>(bif (decide (c.2.2.1 < 6)) then (Option.bind (gM c.1 c.2.2.2) λm=>(Option.bind (iter (σ:=aV×Int) (ρ:=aV) (λe=>(bif (decide (e.2 < (m.1.length:Int))) then (Option.bind (idx m.1 e.2) λM=>(Option.bind (bO e.1 M) λN=>some (.inl (N.2,(IntKind.i64.wrap (e.2+1)))))) else some (.inr e.1))) (c.2.1,0)) λt=>(Option.bind (jX t) λn=>(Option.bind (iK n 0) λO=>(Option.bind (iK n 1) λP=>(Option.bind (iI m.2 O P n.data) λQ=>some (.inl (Q.2,t,(IntKind.i64.wrap (c.2.2.1+1)),(IntKind.i64.wrap (c.2.2.2+1)))))))))) else some (.inr (c.1,c.2.1)))) (L.2,i.2.1,0,i.1)) λu=>(Option.bind (lD u.2) λo=>(Option.bind ((Option.bind (fE s.2) λf=>(Option.bind (kZ o f.1) λR=>(bif R then (Option.bind (jZ f.2.book) λS=>(bif (o.len == S) then (Option.bind (lH u.1) λT=>some ((T == o.k),f.2)) else some (false,f.2))) else some (false,f.2)))):Option (Bool×bD)) λU=>some U.1)))))))))
end Go.Tw.X

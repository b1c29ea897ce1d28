import Derived.Test.YthecomompebjaaaGreatDoorFw2
set_option linter.unusedVariables false
set_option linter.unusedSimpArgs false
set_option maxRecDepth 10000
noncomputable section
namespace Go.Tw.X
open Go Go.Tw
structure dK where
 from_:Int
 to:Int
 deriving DecidableEq,Inhabited
structure bZ where
 first:Int
 count:Int
 data:ByteArray
 deriving DecidableEq,Inhabited
structure cJ where
 b:List Int
 deriving DecidableEq,Inhabited
structure cI where
 s:ByteArray
 e:Int
 deriving DecidableEq,Inhabited
def nY (n_:Int):Option Int :=
 some n_
def qb (n_:Int):Option Int :=
 some (imax 0 (dF n_ 4611686018427387904))
def ll {σ:Type} (Y:σ->Int->Option (σ×Bool)) (y0:σ) (x1:Int):Option (σ×Int) :=
 ((qb x1).bind λr1=>((iter (σ:=Int×σ) (ρ:=(Int×σ) ⊕ (σ×Int)) (λa=>(bif (decide (a.1>=128)) then ((Y a.2 (Go.bits .or .u8 (Go.bits .and .u8 (IntKind.u8.wrap a.1) 127) 128)).bind λz68=>(bif (!z68.2) then (k8 (some (z68.1,a.1))) else some (.inl ((a.1.fdiv (2 ^ (min 7 64))),z68.1)))) else some (.inr (.inl (a.1,a.2))))) (r1,y0)).bind λ | .inl e53=>((Y e53.2 (IntKind.u8.wrap e53.1)).bind λz75=>some (z75.1,e53.1)) | .inr w=>some w))
def cP (o:cJ) (l:List Int):Option cJ :=
 ((iter (σ:=cJ×Int) (ρ:=cJ) (λa=>(bif (decide (a.2 < (l.length:Int))) then ((idx l a.2).bind λe=>((nY e).bind λf=>((ll (λc d=>((chk (eY c.b.length [d].length 1)).bind λ_=>some ((cJ.mk (c.b++[d])),true))) (a.1:cJ) f).bind λg=>some (.inl (g.1,(IntKind.i64.wrap (a.2+1))))))) else some (.inr a.1))) (o,0)).bind λh=>some h)
def gC (o:cJ) (l:List ByteArray):Option cJ :=
 ((iter (σ:=cJ×Int) (ρ:=cJ) (λa=>(bif (decide (a.2 < (l.length:Int))) then ((idx l a.2).bind λc=>((chk (eY a.1.b.length c.size 1)).bind λ_=>some (.inl ((cJ.mk (a.1.b++sbs c)),(IntKind.i64.wrap (a.2+1)))))) else some (.inr a.1))) (o,0)).bind λd=>some d)
def jq (o:cJ) (l:List ByteArray):Option cJ :=
 ((iter (σ:=cJ×Int) (ρ:=cJ) (λa=>(bif (decide (a.2 < (l.length:Int))) then ((idx l a.2).bind λb=>((cP a.1 [(b.size:Int)]).bind λc=>((gC c [b]).bind λd=>some (.inl (d,(IntKind.i64.wrap (a.2+1))))))) else some (.inr a.1))) (o,0)).bind λe=>some e)
def fD (o:cJ):Option ByteArray :=
 some (jD o.b)
def tV (s_:ByteArray):Option cI :=
 some (cI.mk s_ 0)
def dR (in_:cI) (e:Int):Option cI :=
 (((bif (in_.e == 0) then some (e != 0) else some false):Option Bool).bind λe4=>(bif e4 then some (cI.mk (ByteArray.mk #[]) e) else some in_))
def gG (in_:cI):Option (Int×cI) :=
 ((iter (σ:=Int×Int) (ρ:=Unit ⊕ (Int×cI)) (λa=>(bif (decide (a.1 < (dF (in_.s.size:Int) 9))) then ((w7 in_.s a.1).bind λb213=>((chk (shk (IntKind.i64.wrap (7*a.1)))).bind λ_=>(bif (decide (b213>=128)) then some (.inl ((IntKind.i64.wrap (a.1+1)),(Go.bits .or .i64 a.2 (IntKind.i64.wrap ((IntKind.i64.wrap (Go.bits .and .u8 b213 127))*2 ^ (min (IntKind.i64.wrap (7*a.1)).toNat 64)))))) else (((bif (decide (a.1 > 0)) then (bif (b213 == 0) then some true else some (decide ((Go.bits .or .i64 a.2 (IntKind.i64.wrap ((IntKind.i64.wrap (Go.bits .and .u8 b213 127))*2 ^ (min (IntKind.i64.wrap (7*a.1)).toNat 64)))) > 4611686018427387904))) else some (decide ((Go.bits .or .i64 a.2 (IntKind.i64.wrap ((IntKind.i64.wrap (Go.bits .and .u8 b213 127))*2 ^ (min (IntKind.i64.wrap (7*a.1)).toNat 64)))) > 4611686018427387904))):Option Bool).bind λb=>(bif b then ((dR in_ 1).bind λc=>(k8 (some (0,c)))) else ((chk (cZ (IntKind.i64.wrap (a.1+1)) (in_.s.size:Int) in_.s.size)).bind λ_=>(k8 (some ((Go.bits .or .i64 a.2 (IntKind.i64.wrap ((IntKind.i64.wrap (Go.bits .and .u8 b213 127))*2 ^ (min (IntKind.i64.wrap (7*a.1)).toNat 64)))),(cI.mk (gB in_.s (IntKind.i64.wrap (a.1+1)) (in_.s.size:Int)) in_.e)))))))))) else some (.inr (.inl ())))) (0,0)).bind λ | .inl e176=>(((bif (decide ((in_.s.size:Int)>=9)) then ((dR in_ 1).bind λd=>some d) else some in_):Option cI).bind λf=>((dR f 2).bind λg=>some (0,g))) | .inr w=>some w)
def mF (in_:cI) (n_:Int):Option (ByteArray×cI) :=
 (bif (decide ((imax 0 n_) > (in_.s.size:Int))) then ((dR in_ 2).bind λr6=>some ((ByteArray.mk #[]),r6)) else ((chk (cZ 0 (imax 0 n_) in_.s.size)).bind λ_=>((chk (cZ (imax 0 n_) (in_.s.size:Int) in_.s.size)).bind λ_=>some ((gB in_.s 0 (imax 0 n_)),(cI.mk (gB in_.s (imax 0 n_) (in_.s.size:Int)) in_.e)))))
def lV (in_:cI):Option (ByteArray×cI) :=
 ((gG in_).bind λr1=>((mF r1.2 r1.1).bind λr4=>some (r4.1,r4.2)))
def mG (in_:cI):Option Int :=
 (bif (!(in_.s.toList == (ByteArray.mk #[]).toList)) then some 1 else some in_.e)
def cB:List Int:=[0,498536548,997073096,651767980,1994146192,1802195444,1303535960,1342533948,3988292384,4027552580,3604390888,3412177804,2607071920,2262029012,2685067896,3183342108]
def m7 (x_:Int) (b:Int):Option Int :=
 ((idx cB (Go.bits .and .u32 (Go.bits .xor .u32 x_ (IntKind.u32.wrap b)) 15)).bind λx1=>((idx cB (Go.bits .and .u32 (Go.bits .xor .u32 ((Go.bits .xor .u32 x_ (IntKind.u32.wrap b)).fdiv (2 ^ (min 4 32))) x1) 15)).bind λx5=>some (Go.bits .xor .u32 ((Go.bits .xor .u32 ((Go.bits .xor .u32 x_ (IntKind.u32.wrap b)).fdiv (2 ^ (min 4 32))) x1).fdiv (2 ^ (min 4 32))) x5)))
def nz (l:List ByteArray):Option Int :=
 ((iter (σ:=Int×Int) (ρ:=Int) (λa=>(bif (decide (a.2 < (l.length:Int))) then ((idx l a.2).bind λc=>((iter (σ:=Int×Int) (ρ:=Int) (λb=>(bif (decide (b.1 < (c.size:Int))) then ((w7 c b.1).bind λb642=>((m7 b.2 b642).bind λd=>some (.inl ((IntKind.i64.wrap (b.1+1)),d)))) else some (.inr b.2))) (0,a.1)).bind λe=>some (.inl (e,(IntKind.i64.wrap (a.2+1)))))) else some (.inr a.1))) (4294967295,0)).bind λf=>some (Go.bits .xor .u32 4294967295 f))
def m8 (x_:Int):Option ByteArray :=
 some (jD [(IntKind.u8.wrap x_),(IntKind.u8.wrap (x_.fdiv (2 ^ (min 8 32)))),(IntKind.u8.wrap (x_.fdiv (2 ^ (min 16 32)))),(IntKind.u8.wrap (x_.fdiv (2 ^ (min 24 32))))])
def m9 (s_:ByteArray):Option ByteArray :=
 ((nz [s_]).bind λr3=>((m8 r3).bind λr6=>((chk (F7 s_.size r6.size)).bind λ_=>some (s_++r6))))
def oo (s_:ByteArray):Option (ByteArray×Bool) :=
 (((bif (decide ((IntKind.i64.wrap ((s_.size:Int) - 4)) < 0)) then some true else ((chk (cZ (IntKind.i64.wrap ((s_.size:Int) - 4)) (s_.size:Int) s_.size)).bind λ_=>((chk (cZ 0 (IntKind.i64.wrap ((s_.size:Int) - 4)) s_.size)).bind λ_=>((nz [(gB s_ 0 (IntKind.i64.wrap ((s_.size:Int) - 4)))]).bind λa=>((m8 a).bind λb=>some (!((gB s_ (IntKind.i64.wrap ((s_.size:Int) - 4)) (s_.size:Int)).toList == b.toList))))))):Option Bool).bind λc=>(bif c then some ((ByteArray.mk #[]),false) else ((chk (cZ 0 (IntKind.i64.wrap ((s_.size:Int) - 4)) s_.size)).bind λ_=>some ((gB s_ 0 (IntKind.i64.wrap ((s_.size:Int) - 4))),true))))
structure aV where
 bH:Int
 kind:Int
 aW:List Int
 data:ByteArray
 deriving DecidableEq,Inhabited
def jd (n_:Int) (lo:Int) (hi:Int):Option Bool :=
 (((bif (decide (n_>=lo)) then some (decide (n_<=hi)) else some false):Option Bool).bind λe4=>some e4)
def gP (g:aV) (i:Int):Option Int :=
 ((jd i 0 (IntKind.i64.wrap ((g.aW.length:Int) - 1))).bind λr2=>(bif (!r2) then some 0 else ((idx g.aW i).bind λx7=>some x7)))
def jJ (g:aV):Option Bool :=
 ((((jd g.bH 1 4294967296).bind λb=>(bif (!b) then some true else ((jd g.kind 1 4).bind λc=>(bif (!c) then some true else some (decide ((g.aW.length:Int) > 64)))))):Option Bool).bind λd=>(bif d then some false else ((iter (σ:=Int) (ρ:=Unit ⊕ Bool) (λa=>(bif (decide (a < (g.aW.length:Int))) then ((idx g.aW a).bind λe=>((jd e 0 4611686018427387904).bind λf=>(bif (!f) then (k8 (some false)) else some (.inl (IntKind.i64.wrap (a+1)))))) else some (.inr (.inl ())))) 0).bind λ | .inl e108=>some true | .inr w=>some w)))
def iH (g:aV):Option ByteArray :=
 ((cP (cJ.mk ([]:List Int)) [g.bH,g.kind,(g.aW.length:Int)]).bind λa=>((cP a g.aW).bind λb=>((jq b [g.data]).bind λc=>((fD c).bind λd=>((m9 d).bind λe=>some e)))))
def iI (g:aV):Option Int :=
 ((jJ g).bind λa=>(bif (!a) then some 6 else ((iH g).bind λb=>(bif (decide ((b.size:Int) > 8192)) then some 3 else some 0))))
def ga (g:aV):Option ByteArray :=
 ((iI g).bind λr2=>(bif (r2 != 0) then some (ByteArray.mk #[]) else ((iH g).bind λr7=>some r7)))
def nA (in_:cI):Option (aV×cI) :=
 ((gG in_).bind λr2=>((gG r2.2).bind λr5=>((gG r5.2).bind λr9=>(((bif (decide (r9.1 > 64)) then ((dR r9.2 1).bind λe=>some e) else some r9.2):Option cI).bind λf=>((iter (σ:=aV×cI×Int) (ρ:=cI×aV) (λa=>(bif (decide (a.2.2 < (dF r9.1 64))) then ((gG a.2.1).bind λc=>((chk (eY a.1.aW.length [c.1].length 8)).bind λ_=>some (.inl ((aV.mk a.1.bH a.1.kind (a.1.aW++[c.1]) a.1.data),c.2,(IntKind.i64.wrap (a.2.2+1)))))) else some (.inr (a.2.1,a.1)))) ((aV.mk r2.1 r5.1 ([]:List Int) (ByteArray.mk #[])),f,0)).bind λb=>((lV b.1).bind λd=>some ((aV.mk b.2.bH b.2.kind b.2.aW d.1),d.2)))))))
def jK (s_:ByteArray):Option (aV×Int) :=
 (bif (decide ((s_.size:Int) > 8192)) then some ((aV.mk 0 0 ([]:List Int) (ByteArray.mk #[])),3) else ((oo s_).bind λr5=>(bif (!r5.2) then some ((aV.mk 0 0 ([]:List Int) (ByteArray.mk #[])),4) else ((tV r5.1).bind λd=>((nA d).bind λa=>((mG a.2).bind λb=>(((bif (b == 0) then ((iI a.1).bind λe=>some e) else some b):Option Int).bind λc=>(bif (c != 0) then some ((aV.mk 0 0 ([]:List Int) (ByteArray.mk #[])),c) else some (a.1,0)))))))))
structure bV where
 lead:Int
 rune:Int
 ja:Int
 deriving DecidableEq,Inhabited
structure ko where
 first:Int
 last:Int
 ja:Int
 low:Int
 high:Int
 deriving DecidableEq,Inhabited
def bX:List ko:=[⟨194,223,1,128,191⟩,⟨224,224,2,160,191⟩,⟨225,236,2,128,191⟩,⟨237,237,2,128,159⟩,⟨238,239,2,128,191⟩,⟨240,240,3,144,191⟩,⟨241,243,3,128,191⟩,⟨244,244,3,128,143⟩]
def iR (d:bV):Option (List Int) :=
 (bif (decide (d.ja<=0)) then some ([]:List Int) else some [65533])
def lH (b:Int):Option (ko×Bool) :=
 ((iter (σ:=Int) (ρ:=Unit ⊕ (ko×Bool)) (λa=>(bif (decide (a < 8)) then ((idx bX a).bind λc=>(((bif (decide (b>=c.first)) then some (decide (b<=c.last)) else some false):Option Bool).bind λd=>(bif d then (k8 (some (c,true))) else some (.inl (IntKind.i64.wrap (a+1)))))) else some (.inr (.inl ())))) 0).bind λ | .inl e84=>some ((ko.mk 0 0 0 0 0),false) | .inr w=>some w)
def kZ (b:Int):Option (bV×(List Int)) :=
 (bif (decide (b < 128)) then some ((bV.mk 0 0 0),[(IntKind.i32.wrap b)]) else ((lH b).bind λr8=>(bif (!r8.2) then some ((bV.mk 0 0 0),[65533]) else ((chk (shk r8.1.ja)).bind λ_=>some ((bV.mk b (Go.bits .and .i32 (IntKind.i32.wrap b) ((63:Int).fdiv (2 ^ (min r8.1.ja.toNat 32)))) r8.1.ja),([]:List Int))))))
def ik (d:bV) (b:Int):Option Bool :=
 ((lH d.lead).bind λr2=>(bif (decide (d.ja < r2.1.ja)) then (((bif (decide (b>=128)) then some (decide (b<=191)) else some false):Option Bool).bind λa=>some a) else (((bif (decide (b>=r2.1.low)) then some (decide (b<=r2.1.high)) else some false):Option Bool).bind λc=>some c)))
def il (d:bV) (b:Int):Option (bV×(List Int)) :=
 (bif (decide (d.ja<=0)) then ((kZ b).bind λc=>some (c.1,c.2)) else ((ik d b).bind λe=>(bif (!e) then ((kZ b).bind λa=>((chk (eY [65533].length a.2.length 4)).bind λ_=>some (a.1,([65533]++a.2)))) else (bif ((IntKind.i64.wrap (d.ja - 1)) == 0) then ((some [(Go.bits .or .i32 (IntKind.i32.wrap (d.rune*2 ^ (min 6 32))) (Go.bits .and .i32 (IntKind.i32.wrap b) 63))]:Option (List Int)).bind λf=>some ((bV.mk 0 0 0),f)) else some ((bV.mk d.lead (Go.bits .or .i32 (IntKind.i32.wrap (d.rune*2 ^ (min 6 32))) (Go.bits .and .i32 (IntKind.i32.wrap b) 63)) (IntKind.i64.wrap (d.ja - 1))),([]:List Int))))))
structure cK where
 e0:Int
 e1:Int
 deriving DecidableEq,Inhabited
def nZ (x_:Int) (y:Int):Option (Int×Int) :=
 some ((IntKind.u64.wrap ((IntKind.u64.wrap ((IntKind.u64.wrap ((x_.fdiv (2 ^ (min 32 64)))*(y.fdiv (2 ^ (min 32 64)))))+((IntKind.u64.wrap ((IntKind.u64.wrap ((x_.fdiv (2 ^ (min 32 64)))*(Go.bits .and .u64 y 4294967295)))+((IntKind.u64.wrap ((Go.bits .and .u64 x_ 4294967295)*(Go.bits .and .u64 y 4294967295))).fdiv (2 ^ (min 32 64))))).fdiv (2 ^ (min 32 64)))))+((IntKind.u64.wrap ((Go.bits .and .u64 (IntKind.u64.wrap ((IntKind.u64.wrap ((x_.fdiv (2 ^ (min 32 64)))*(Go.bits .and .u64 y 4294967295)))+((IntKind.u64.wrap ((Go.bits .and .u64 x_ 4294967295)*(Go.bits .and .u64 y 4294967295))).fdiv (2 ^ (min 32 64))))) 4294967295)+(IntKind.u64.wrap ((Go.bits .and .u64 x_ 4294967295)*(y.fdiv (2 ^ (min 32 64))))))).fdiv (2 ^ (min 32 64))))),(IntKind.u64.wrap (x_*y)))
def oq (x_:Int) (y:Int):Option (Int×Int) :=
 ((nZ x_ y).bind λr1=>some (r1.1,r1.2))
def gb (s_:ByteArray) (prefix_:ByteArray):Option Bool :=
 (((bif (decide ((s_.size:Int)>=(prefix_.size:Int))) then ((chk (cZ 0 (prefix_.size:Int) s_.size)).bind λ_=>some ((gB s_ 0 (prefix_.size:Int)).toList == prefix_.toList)) else some false):Option Bool).bind λe8=>some e8)
def iJ (s_:ByteArray) (prefix_:ByteArray):Option (ByteArray×Bool) :=
 ((gb s_ prefix_).bind λr1=>(bif (!r1) then some (s_,false) else ((chk (cZ (prefix_.size:Int) (s_.size:Int) s_.size)).bind λ_=>some ((gB s_ (prefix_.size:Int) (s_.size:Int)),true))))
def iS (s_:ByteArray) (prefix_:ByteArray):Option (ByteArray×Bool) :=
 ((iJ s_ prefix_).bind λr1=>some (r1.1,r1.2))
structure iq where
 from_:Int
 to:Int
 deriving DecidableEq,Inhabited
def cT:List iq:=[⟨(-2147483648),31⟩,⟨127,159⟩,⟨768,879⟩,⟨6832,6911⟩,⟨7616,7679⟩,⟨8203,8207⟩,⟨8400,8447⟩,⟨55296,57343⟩,⟨65024,65039⟩,⟨65056,65071⟩,⟨65279,65279⟩,⟨917760,917999⟩,⟨1114112,2147483647⟩]
def dD:List iq:=[⟨4352,4447⟩,⟨11904,12350⟩,⟨12353,13311⟩,⟨13312,19903⟩,⟨19968,40959⟩,⟨40960,42191⟩,⟨44032,55203⟩,⟨63744,64255⟩,⟨65072,65135⟩,⟨65280,65376⟩,⟨65504,65510⟩,⟨127744,128591⟩,⟨129280,129535⟩,⟨131072,262141⟩]
def oe (l:List iq) (r_:Int):Option Bool :=
 ((iter (σ:=Int×Int) (ρ:=Int) (λa=>(bif (decide (a.1 < a.2)) then ((idx l (IntKind.i64.wrap ((IntKind.i64.wrap (a.1+a.2)).tdiv 2))).bind λc=>(bif (decide (c.to < r_)) then some (.inl ((IntKind.i64.wrap ((IntKind.i64.wrap ((IntKind.i64.wrap (a.1+a.2)).tdiv 2))+1)),a.2)) else some (.inl (a.1,(IntKind.i64.wrap ((IntKind.i64.wrap (a.1+a.2)).tdiv 2)))))) else some (.inr a.1))) (0,(l.length:Int))).bind λb=>(((bif (decide (b < (l.length:Int))) then ((idx l b).bind λd=>some (decide (d.from_<=r_))) else some false):Option Bool).bind λe=>some e))
def og (r_:Int):Option Int :=
 ((oe cT r_).bind λr9=>(bif r9 then some 0 else ((oe dD r_).bind λa=>(bif a then some 2 else some 1))))
structure aH where
 rune:Int
 aO:Int
 part:Int
 deriving DecidableEq,Inhabited
structure aG where
 cells:List aH
 wrapped:Bool
 deriving DecidableEq,Inhabited
structure aJ where
 rune:Int
 aO:Int
 deriving DecidableEq,Inhabited
def kd (n_:Int) (lo:Int) (hi:Int):Option Int :=
 some (imax lo (dF n_ hi))
def ir (aO:Int):Option aH :=
 some (aH.mk 32 aO 0)
def fR (x_:List aH) (count:Int):Option (List aH) :=
 (bif (decide (count < 0)) then none else ((oq (IntKind.u64.wrap (x_.length:Int)) (IntKind.u64.wrap count)).bind λr3=>(((bif (decide (r3.1 > 0)) then some true else some (decide (r3.2 > 9223372036854775807))):Option Bool).bind λe9=>(bif e9 then none else ((chk (IJ (IntKind.i64.wrap r3.2) 24)).bind λ_=>((iter (σ:=(List aH)×Int) (ρ:=(List aH)) (λa=>(bif (decide (a.2 < (a.1.length:Int))) then ((chk (cZ a.2 (a.1.length:Int) a.1.length)).bind λ_=>((chk (cZ 0 a.2 a.1.length)).bind λ_=>some (.inl ((yb a.1 a.2.toNat),(IntKind.i64.wrap (a.2+((Nat.min a.2.toNat (a.1.length - a.2.toNat):Nat):Int))))))) else some (.inr a.1))) ((cpy (List.replicate (IntKind.i64.wrap r3.2).toNat (aH.mk 0 0 0)) x_),((Nat.min x_.length (List.replicate (IntKind.i64.wrap r3.2).toNat (aH.mk 0 0 0)).length:Nat):Int))).bind λb=>some b))))))
def jL (n_:Int) (aO:Int):Option (List aH) :=
 ((ir aO).bind λr1=>((fR [r1] (imax 0 n_)).bind λr7=>some r7))
def jM (w:Int) (aO:Int):Option aG :=
 ((kd w 0 1000).bind λr2=>((jL r2 aO).bind λr5=>some (aG.mk r5 false)))
def eJ (s_:List aH):Option (List aH) :=
 ((chk (eY ([]:List aH).length s_.length 24)).bind λ_=>some (([]:List aH)++s_))
def fE (r_:aG):Option (List aH) :=
 ((eJ r_.cells).bind λr2=>some r2)
def lI (l:List aH) (i:Int):Option Bool :=
 ((idx l i).bind λx1=>(bif (x1.part == 1) then (((bif (decide ((IntKind.i64.wrap (i+1))>=(l.length:Int))) then some true else ((idx l (IntKind.i64.wrap (i+1))).bind λa=>some (a.part != 2))):Option Bool).bind λb=>some b) else (bif (x1.part == 2) then (((bif (i == 0) then some true else ((idx l (IntKind.i64.wrap (i - 1))).bind λc=>some (c.part != 1))):Option Bool).bind λd=>some d) else (bif (x1.part == 3) then some (i != (IntKind.i64.wrap ((l.length:Int) - 1))) else some false))))
def fz (l:List aH):Option aG :=
 ((iter (σ:=(List aH)×Int) (ρ:=(List aH)) (λa=>(bif (decide (a.2 < (l.length:Int))) then ((((lI a.1 a.2).bind λb=>(bif b then ((idx a.1 a.2).bind λc=>((ir c.aO).bind λd=>((idx a.1 a.2).bind λg=>some (a.1.set a.2.toNat d)))) else some a.1)):Option (List aH)).bind λe=>some (.inl (e,(IntKind.i64.wrap (a.2+1))))) else some (.inr a.1))) (l,0)).bind λf=>some (aG.mk f false))
def lW (r_:aG) (at_:Int) (x_:Int) (aO:Int):Option aG :=
 ((fE r_).bind λr3=>((og x_).bind λr9=>(((((bif (r9 == 0) then some true else (bif (decide (at_ < 0)) then some true else some (decide (at_ > (IntKind.i64.wrap ((r3.length:Int) - r9)))))):Option Bool).bind λa=>(bif a then some r3 else (bif (r9 == 1) then ((idx r3 at_).bind λh=>some (r3.set at_.toNat (aH.mk x_ aO 0))) else ((idx r3 at_).bind λi=>((idx (r3.set at_.toNat (aH.mk x_ aO 1)) (IntKind.i64.wrap (at_+1))).bind λj=>(((bif (decide (at_ > 0)) then ((idx ((r3.set at_.toNat (aH.mk x_ aO 1)).set ((IntKind.i64.wrap (at_+1)).toNat) (aH.mk x_ aO 2)) (IntKind.i64.wrap (at_ - 1))).bind λb=>some (b.part == 1)) else some false):Option Bool).bind λc=>(bif c then ((idx ((r3.set at_.toNat (aH.mk x_ aO 1)).set ((IntKind.i64.wrap (at_+1)).toNat) (aH.mk x_ aO 2)) (IntKind.i64.wrap (at_ - 1))).bind λd=>((ir d.aO).bind λe=>((idx ((r3.set at_.toNat (aH.mk x_ aO 1)).set ((IntKind.i64.wrap (at_+1)).toNat) (aH.mk x_ aO 2)) (IntKind.i64.wrap (at_ - 1))).bind λk=>some (((r3.set at_.toNat (aH.mk x_ aO 1)).set ((IntKind.i64.wrap (at_+1)).toNat) (aH.mk x_ aO 2)).set ((IntKind.i64.wrap (at_ - 1)).toNat) e)))) else some ((r3.set at_.toNat (aH.mk x_ aO 1)).set ((IntKind.i64.wrap (at_+1)).toNat) (aH.mk x_ aO 2))))))))):Option (List aH)).bind λf=>((fz f).bind λg=>some g))))
def jh (r_:aG):Option (List aJ) :=
 ((iter (σ:=(List aH)) (ρ:=(List aH)) (λa=>(((bif (!r_.wrapped) then (bif (decide ((a.length:Int) > 0)) then ((idx a (IntKind.i64.wrap ((a.length:Int) - 1))).bind λd=>((ir 0).bind λe=>some ((d.rune == e.rune) && ((d.aO == e.aO) && ((d.part == e.part) && true))))) else some false) else some false):Option Bool).bind λg=>(bif g then ((chk (cZ 0 (IntKind.i64.wrap ((a.length:Int) - 1)) a.length)).bind λ_=>some (.inl (cut a 0 (IntKind.i64.wrap ((a.length:Int) - 1))))) else some (.inr a)))) r_.cells).bind λf=>((iter (σ:=Int×(List aJ)) (ρ:=(List aJ)) (λb=>(bif (decide (b.1 < (f.length:Int))) then ((((idx f b.1).bind λc=>(((bif (c.part == 0) then some true else some (c.part == 1)):Option Bool).bind λh=>(bif h then ((chk (eY b.2.length [(aJ.mk c.rune c.aO)].length 16)).bind λ_=>some (b.2++[(aJ.mk c.rune c.aO)])) else some b.2))):Option (List aJ)).bind λi=>some (.inl ((IntKind.i64.wrap (b.1+1)),i))) else some (.inr b.2))) (0,[])).bind λj=>some j))
def jF (r_:aG) (from_:Int) (to:Int) (aO:Int):Option aG :=
 ((fE r_).bind λr3=>((kd from_ 0 (r3.length:Int)).bind λr9=>((iter (σ:=Int×(List aH)) (ρ:=(List aH)) (λa=>((kd to 0 (a.2.length:Int)).bind λb=>(bif (decide (a.1 < b)) then ((ir aO).bind λc=>((idx a.2 a.1).bind λf=>some (.inl ((IntKind.i64.wrap (a.1+1)),(a.2.set a.1.toNat c))))) else some (.inr a.2)))) (r9,r3)).bind λd=>((fz d).bind λe=>some e))))
def ji (r_:aG) (at_:Int) (n_:Int):Option Int :=
 (((bif (decide (at_ < 0)) then some true else some (decide (at_>=(r_.cells.length:Int)))):Option Bool).bind λe5=>(bif e5 then some 0 else ((kd n_ 0 (IntKind.i64.wrap ((r_.cells.length:Int) - at_))).bind λa=>some a)))
def gH (n_:Int):Option (List aH) :=
 (bif (decide (n_ < 0)) then none else (((bif (decide ((IntKind.i64.wrap (n_ - (IntKind.i64.wrap (0 - 0)))) > 0)) then ((chk (Lm (IntKind.i64.wrap (n_ - (IntKind.i64.wrap (0 - 0)))) 24)).bind λ_=>((chk (cZ 0 0 (List.replicate (IntKind.i64.wrap (n_ - (IntKind.i64.wrap (0 - 0)))).toNat (aH.mk 0 0 0)).length)).bind λ_=>some (cut (List.replicate (IntKind.i64.wrap (n_ - (IntKind.i64.wrap (0 - 0)))).toNat (aH.mk 0 0 0)) 0 0))) else some []):Option (List aH)).bind λa=>some a))
def eT (slices:List (List aH)):Option (List aH) :=
 ((iter (σ:=Int×Int) (ρ:=Int) (λa=>(bif (decide (a.1 < (slices.length:Int))) then ((idx slices a.1).bind λc=>(bif (decide ((IntKind.i64.wrap (a.2+(c.length:Int))) < 0)) then none else some (.inl ((IntKind.i64.wrap (a.1+1)),(IntKind.i64.wrap (a.2+(c.length:Int))))))) else some (.inr a.2))) (0,0)).bind λe=>((gH e).bind λf=>((iter (σ:=Int×(List aH)) (ρ:=(List aH)) (λb=>(bif (decide (b.1 < (slices.length:Int))) then ((idx slices b.1).bind λd=>((chk (eY b.2.length d.length 24)).bind λ_=>some (.inl ((IntKind.i64.wrap (b.1+1)),(b.2++d))))) else some (.inr b.2))) (0,f)).bind λg=>some g)))
def kq (r_:aG) (at_:Int) (n_:Int) (aO:Int):Option aG :=
 ((ji r_ at_ n_).bind λr3=>(bif (r3 == 0) then ((fE r_).bind λb=>((fz b).bind λc=>some c)) else ((chk (cZ 0 at_ r_.cells.length)).bind λ_=>((chk (cZ at_ (r_.cells.length:Int) r_.cells.length)).bind λ_=>((jL r3 aO).bind λd=>((eT [(cut r_.cells 0 at_),d,(cut r_.cells at_ (r_.cells.length:Int))]).bind λa=>((chk (cZ 0 (r_.cells.length:Int) a.length)).bind λ_=>((fz (cut a 0 (r_.cells.length:Int))).bind λe=>some e))))))))
def kr (r_:aG) (at_:Int) (n_:Int) (aO:Int):Option aG :=
 ((ji r_ at_ n_).bind λr3=>(bif (r3 == 0) then ((fE r_).bind λa=>((fz a).bind λb=>some b)) else ((chk (cZ 0 at_ r_.cells.length)).bind λ_=>((chk (cZ (IntKind.i64.wrap (at_+r3)) (r_.cells.length:Int) r_.cells.length)).bind λ_=>((jL r3 aO).bind λc=>((eT [(cut r_.cells 0 at_),(cut r_.cells (IntKind.i64.wrap (at_+r3)) (r_.cells.length:Int)),c]).bind λd=>((fz d).bind λe=>some e)))))))
def ln (r_:aG) (aO:Int):Option aG :=
 ((fE r_).bind λr3=>(((bif (decide ((r3.length:Int) > 0)) then ((idx r3 (IntKind.i64.wrap ((r3.length:Int) - 1))).bind λc=>some (r3.set ((IntKind.i64.wrap ((r3.length:Int) - 1)).toNat) (aH.mk 32 aO 3))) else some r3):Option (List aH)).bind λa=>((fz a).bind λb=>some (aG.mk b.cells true))))
def jj (r_:aG) (w:Int):Option aG :=
 ((kd w 0 1000).bind λr3=>((fE r_).bind λr6=>(bif (r3 == (r6.length:Int)) then some (aG.mk r6 r_.wrapped) else ((jL (IntKind.i64.wrap (r3 - (r6.length:Int))) 0).bind λa=>((chk (cZ 0 (dF r3 (r6.length:Int)) r6.length)).bind λ_=>((chk (eY (cut r6 0 (dF r3 (r6.length:Int))).length a.length 24)).bind λ_=>((fz ((cut r6 0 (dF r3 (r6.length:Int)))++a)).bind λb=>some b)))))))
def gf (s1_:List aH) (s2_:List aH):Option Bool :=
 (bif ((s1_.length:Int) != (s2_.length:Int)) then some false else ((iter (σ:=Int) (ρ:=Unit ⊕ Bool) (λa=>(bif (decide (a < (s1_.length:Int))) then ((idx s1_ a).bind λb=>((idx s2_ a).bind λc=>(bif (!((b.rune == c.rune) && ((b.aO == c.aO) && ((b.part == c.part) && true)))) then (k8 (some false)) else some (.inl (IntKind.i64.wrap (a+1)))))) else some (.inr (.inl ())))) 0).bind λ | .inl e355=>some true | .inr w=>some w))
def lq (r_:aG) (q:aG):Option Bool :=
 (((bif (r_.wrapped == q.wrapped) then ((gf r_.cells q.cells).bind λa=>some a) else some false):Option Bool).bind λb=>some b)
def dW (s_:List aG):Option (List aG) :=
 ((chk (eY ([]:List aG).length s_.length 32)).bind λ_=>some (([]:List aG)++s_))
def fS (s_:List aG):Option (List aG) :=
 ((iter (σ:=(List aG)×Int×Int) (ρ:=(List aG)) (λa=>(bif (decide (a.2.1 < a.2.2)) then ((((idx a.1 a.2.2).bind λb=>((idx a.1 a.2.1).bind λc=>((idx a.1 a.2.1).bind λf=>((idx a.1 a.2.2).bind λg=>some ((a.1.set a.2.1.toNat b).set a.2.2.toNat c))))):Option (List aG)).bind λd=>some (.inl (d,(IntKind.i64.wrap (a.2.1+1)),(IntKind.i64.wrap (a.2.2 - 1))))) else some (.inr a.1))) (s_,0,(IntKind.i64.wrap ((s_.length:Int) - 1)))).bind λe=>some e)
def cA (s_:List aJ):Option (List aJ) :=
 ((chk (eY ([]:List aJ).length s_.length 16)).bind λ_=>some (([]:List aJ)++s_))
structure bT where
 l:List (List aJ)
 bA:List Int
 begun:List aJ
 deriving DecidableEq,Inhabited
def qc:Option bT :=
 some (bT.mk ([]:List (List aJ)) [0] ([]:List aJ))
def kQ (b:bT):Option Int :=
 some (b.l.length:Int)
def jN (b:bT) (n_:Int):Option Int :=
 ((idx b.bA (imax 0 (dF n_ (b.l.length:Int)))).bind λa=>some a)
def jO (b:bT):Option (List aJ) :=
 ((cA b.begun).bind λr1=>some r1)
def jP (l:List aJ):Option ByteArray :=
 ((cP (cJ.mk ([]:List Int)) [(l.length:Int)]).bind λr6=>((iter (σ:=cJ×Int) (ρ:=cJ) (λa=>(bif (decide (a.2 < (l.length:Int))) then ((idx l a.2).bind λb=>((cP a.1 [(IntKind.i64.wrap b.rune),b.aO]).bind λc=>some (.inl (c,(IntKind.i64.wrap (a.2+1)))))) else some (.inr a.1))) (r6,0)).bind λd=>((fD d).bind λe=>some e)))
def nB (chain:Int) (l:List aJ):Option Int :=
 ((jP l).bind λr1=>((nz [r1]).bind λr6=>some ((IntKind.i64.wrap (((IntKind.i64.wrap (((IntKind.i64.wrap (chain*256)).tmod 281474976710597)*256)).tmod 281474976710597)+(IntKind.i64.wrap r6))).tmod 281474976710597)))
def fM (b:bT) (l:List aJ):Option bT :=
 ((cA l).bind λa=>((chk (eY b.l.length [a].length 24)).bind λ_=>((idx b.bA (IntKind.i64.wrap ((b.bA.length:Int) - 1))).bind λd=>((nB d l).bind λc=>((chk (eY b.bA.length [c].length 8)).bind λ_=>some (bT.mk (b.l++[a]) (b.bA++[c]) b.begun))))))
def iQ (b:bT) (rows:List aG):Option (Int×bT) :=
 ((iter (σ:=bT×Int) (ρ:=bT) (λa=>(bif (decide (a.2 < (rows.length:Int))) then ((((idx rows a.2).bind λf=>((jh f).bind λg=>((chk (eY a.1.begun.length g.length 16)).bind λ_=>((iter (σ:=bT) (ρ:=bT) (λd=>(bif (decide ((d.begun.length:Int)>=1024)) then ((chk (cZ 0 1024 d.begun.length)).bind λ_=>((fM d (cut d.begun 0 1024)).bind λc=>((chk (cZ 1024 (c.begun.length:Int) c.begun.length)).bind λ_=>((cA (cut c.begun 1024 (c.begun.length:Int))).bind λj=>some (.inl (bT.mk c.l c.bA j)))))) else some (.inr d))) (bT.mk a.1.l a.1.bA (a.1.begun++g))).bind λe=>(bif (!f.wrapped) then ((fM e e.begun).bind λh=>some (bT.mk h.l h.bA ([]:List aJ))) else some e))))):Option bT).bind λk=>some (.inl (k,(IntKind.i64.wrap (a.2+1))))) else some (.inr a.1))) (b,0)).bind λi=>some ((IntKind.i64.wrap ((i.l.length:Int) - (b.l.length:Int))),i))
def kt (b:bT) (i:Int):Option ((List aJ)×Bool) :=
 (((bif (decide (i < 0)) then some true else some (decide (i>=(b.l.length:Int)))):Option Bool).bind λe4=>(bif e4 then some (([]:List aJ),false) else ((idx b.l i).bind λa=>((cA a).bind λc=>some (c,true)))))
def jE (line_0:bT) (l:List dK):Option Unit :=
 some ()
def ld {σ:Type} (Y:σ->bZ->Option (σ×Bool)) (y0:σ) (x1:List dK) (x2_0:bT):Option σ :=
 ((iter (σ:=Int×σ) (ρ:=σ) (λb=>(bif (decide (b.1 < (x1.length:Int))) then ((idx x1 b.1).bind λc=>((iter (σ:=bZ×Int×σ) (ρ:=(bZ×σ) ⊕ ((Int×σ) ⊕ σ)) (λa=>(bif (decide (a.2.1 < c.to)) then ((kt x2_0 a.2.1).bind λf=>(bif (!f.2) then some (.inr (.inl (a.1,a.2.2))) else ((jP f.1).bind λd=>(((bif (decide (a.1.count > 0)) then some (decide ((IntKind.i64.wrap ((a.1.data.size:Int)+(d.size:Int))) > 4000)) else some false):Option Bool).bind λg=>(((bif g then ((Y a.2.2 a.1).bind λz3698=>(bif (!z3698.2) then (k7 (k8 (some (.inr z3698.1)))) else some (.inl ((bZ.mk a.2.1 0 (ByteArray.mk #[])),z3698.1)))) else some (.inl (a.1,a.2.2))):Option ((bZ×σ) ⊕ ((bZ×Int×σ) ⊕ ((bZ×σ) ⊕ ((Int×σ) ⊕ σ))))).bind λ | .inl e3693=>((chk (F7 e3693.1.data.size d.size)).bind λ_=>some (.inl ((bZ.mk e3693.1.first (IntKind.i64.wrap (e3693.1.count+1)) (e3693.1.data++d)),(IntKind.i64.wrap (a.2.1+1)),e3693.2))) | .inr w=>some w))))) else some (.inr (.inl (a.1,a.2.2))))) ((bZ.mk c.from_ 0 (ByteArray.mk #[])),c.from_,b.2)).bind λ | .inl e3598=>(((bif (decide (e3598.1.count > 0)) then ((Y e3598.2 e3598.1).bind λz3727=>some ((!z3727.2),z3727.1)) else some (false,e3598.2)):Option (Bool×σ)).bind λe=>(bif e.1 then some (.inr e.2) else some (.inl ((IntKind.i64.wrap (b.1+1)),e.2)))) | .inr w=>some w)) else some (.inr b.2))) (0,y0)).bind λh=>some h)
def fT (bH:Int) (line_0:bT) (l:List dK):Option (List aV) :=
 ((jE line_0 l).bind λr3=>((ld (λs45 x8=>match s45 with | .inl s46=>((chk (eY s46.length ([(aV.mk bH 4 [x8.first,x8.count] x8.data)]).length 56)).bind λ_=>(bif (((s46++[(aV.mk bH 4 [x8.first,x8.count] x8.data)]).length:Int) == 16) then some ((.inr (s46++[(aV.mk bH 4 [x8.first,x8.count] x8.data)])),false) else some ((.inl (s46++[(aV.mk bH 4 [x8.first,x8.count] x8.data)])),true))) | _=>none) ((.inl []):(List aV) ⊕ (List aV)) l line_0).bind λ | .inl e68=>some e68 | .inr e68=>some e68))
structure aZ where
 w:Int
 l:List aG
 deriving DecidableEq,Inhabited
def iu (n_:Int) (lo:Int) (hi:Int):Option Int :=
 some (imax lo (dF n_ hi))
def je (n_:Int):Option Int :=
 ((iu n_ 1 1000).bind λr1=>some r1)
def ot (w:Int) (h_:Int):Option aZ :=
 ((je w).bind λr1=>((je h_).bind λr5=>((iter (σ:=aZ×Int) (ρ:=aZ) (λa=>(bif (decide (a.2 < r5)) then ((jM a.1.w 0).bind λb=>((chk (eY a.1.l.length [b].length 32)).bind λ_=>some (.inl ((aZ.mk a.1.w (a.1.l++[b])),(IntKind.i64.wrap (a.2+1)))))) else some (.inr a.1))) ((aZ.mk r1 ([]:List aG)),0)).bind λc=>some c)))
def na (r_:aG):Option aG :=
 ((eJ r_.cells).bind λa=>some (aG.mk a r_.wrapped))
def fF (g:aZ) (y:Int):Option aG :=
 (((bif (decide (y < 0)) then some true else some (decide (y>=(g.l.length:Int)))):Option Bool).bind λe5=>(bif e5 then some (aG.mk ([]:List aH) false) else ((idx g.l y).bind λa=>((na a).bind λb=>some b))))
def eR (g:aZ) (y:Int) (r_:aG):Option (Bool×aZ) :=
 (((bif (decide (y < 0)) then some true else some (decide (y>=(g.l.length:Int)))):Option Bool).bind λe5=>(bif e5 then some (false,g) else ((jj r_ g.w).bind λa=>((idx g.l y).bind λb=>some (true,(aZ.mk g.w (g.l.set y.toNat a)))))))
def eC (g:aZ) (top:Int) (aK:Int):Option (Unit ⊕ (Int×Int)) :=
 ((iu top 0 (IntKind.i64.wrap ((g.l.length:Int) - 1))).bind λr1=>((iu aK 0 (IntKind.i64.wrap ((g.l.length:Int) - 1))).bind λr4=>(bif (decide (r4 < r1)) then some (.inl ()) else ((chk (cZ r1 (IntKind.i64.wrap (r4+1)) g.l.length)).bind λ_=>some (.inr (r1,(IntKind.i64.wrap (r4+1))))))))
def fU (g:aZ) (top:Int) (aK:Int) (n_:Int) (aO:Int):Option ((List aG)×aZ) :=
 ((eC g top aK).bind λ | .inl r1=>some (([]:List aG),g) | .inr r1=>((chk (cZ r1.1 r1.2 g.l.length)).bind λ_=>((iu n_ 0 ((cut g.l r1.1 r1.2).length:Int)).bind λr9=>((chk (cZ 0 r9 (cut g.l r1.1 r1.2).length)).bind λ_=>((dW (cut g.l (r1.1+0) (r1.1+r9))).bind λb=>((chk (cZ r9 ((cut g.l r1.1 r1.2).length:Int) (cut g.l r1.1 r1.2).length)).bind λ_=>((iter (σ:=aZ×Int) (ρ:=aZ) (λa=>(bif (decide (a.2 < ((cut a.1.l r1.1 r1.2).length:Int))) then ((jM a.1.w aO).bind λc=>((chk (cZ r1.1 r1.2 a.1.l.length)).bind λ_=>((idx (cut a.1.l r1.1 r1.2) a.2).bind λe=>some (.inl ((aZ.mk a.1.w (a.1.l.set (r1.1.toNat+a.2.toNat) c)),(IntKind.i64.wrap (a.2+1))))))) else some (.inr a.1))) ((aZ.mk g.w (qJ g.l r1.1 r1.2 (r1.1+r9) (r1.1+((cut g.l r1.1 r1.2).length:Int)))),(IntKind.i64.wrap (((cut (qJ g.l r1.1 r1.2 (r1.1+r9) (r1.1+((cut g.l r1.1 r1.2).length:Int))) r1.1 r1.2).length:Int) - r9)))).bind λd=>some (b,d))))))))
def eK (g:aZ) (top:Int) (aK:Int) (n_:Int) (aO:Int):Option ((List aG)×aZ) :=
 ((eC g top aK).bind λ | .inl r1=>some (([]:List aG),g) | .inr r1=>((chk (cZ r1.1 r1.2 g.l.length)).bind λ_=>((iu n_ 0 ((cut g.l r1.1 r1.2).length:Int)).bind λr9=>((chk (cZ (IntKind.i64.wrap (((cut g.l r1.1 r1.2).length:Int) - r9)) ((cut g.l r1.1 r1.2).length:Int) (cut g.l r1.1 r1.2).length)).bind λ_=>((dW (cut g.l (r1.1+(IntKind.i64.wrap (((cut g.l r1.1 r1.2).length:Int) - r9))) (r1.1+((cut g.l r1.1 r1.2).length:Int)))).bind λb=>((fS b).bind λc=>((chk (decide (c.length=b.length))).bind λ_=>((chk (cZ r9 ((cut g.l r1.1 r1.2).length:Int) (cut g.l r1.1 r1.2).length)).bind λ_=>((chk (cZ 0 (IntKind.i64.wrap (((cut g.l r1.1 r1.2).length:Int) - r9)) (cut g.l r1.1 r1.2).length)).bind λ_=>((iter (σ:=aZ×Int) (ρ:=aZ) (λa=>(bif (decide (a.2 < r9)) then ((jM a.1.w aO).bind λd=>((chk (cZ r1.1 r1.2 a.1.l.length)).bind λ_=>((idx (cut a.1.l r1.1 r1.2) a.2).bind λf=>some (.inl ((aZ.mk a.1.w (a.1.l.set (r1.1.toNat+a.2.toNat) d)),(IntKind.i64.wrap (a.2+1))))))) else some (.inr a.1))) ((aZ.mk g.w (qJ g.l (r1.1+r9) (r1.1+((cut g.l r1.1 r1.2).length:Int)) (r1.1+0) (r1.1+(IntKind.i64.wrap (((cut g.l r1.1 r1.2).length:Int) - r9))))),0)).bind λe=>some (c,e)))))))))))
def jr (g:aZ) (w:Int) (h_:Int) (off:Int):Option ((List aG)×aZ) :=
 ((iu off 0 (IntKind.i64.wrap ((g.l.length:Int) - 1))).bind λr1=>((chk (cZ 0 r1 g.l.length)).bind λ_=>((dW (cut g.l 0 r1)).bind λh=>((chk (cZ r1 (g.l.length:Int) g.l.length)).bind λ_=>((dW (cut g.l r1 (g.l.length:Int))).bind λb=>((je h_).bind λd=>((chk (cZ 0 (dF (b.length:Int) d) b.length)).bind λ_=>((iter (σ:=(List aG)) (ρ:=(List aG)) (λc=>((je h_).bind λi=>(bif (decide ((c.length:Int) < i)) then ((je w).bind λj=>((jM j 0).bind λe=>((chk (eY c.length [e].length 32)).bind λ_=>some (.inl (c++[e]))))) else some (.inr c)))) (cut b 0 (dF (b.length:Int) d))).bind λf=>((je w).bind λk=>((iter (σ:=aZ×Int) (ρ:=aZ) (λa=>(bif (decide (a.2 < (f.length:Int))) then ((idx a.1.l a.2).bind λm=>((eR a.1 a.2 m).bind λn=>some (.inl (n.2,(IntKind.i64.wrap (a.2+1)))))) else some (.inr a.1))) ((aZ.mk k f),0)).bind λo=>some (h,o)))))))))))
def dV (g:aZ):Option (Int×Int) :=
 some (g.w,(g.l.length:Int))
def mH (l:List aG):Option (List aG) :=
 some l
def jk {σ:Type} (Y:σ->aG->Option (σ×Bool)) (y0:σ) (x1:List aG):Option σ :=
 ((iter (σ:=Int×σ) (ρ:=σ ⊕ σ) (λa=>(bif (decide (a.1 < (x1.length:Int))) then ((idx x1 a.1).bind λb=>((na b).bind λc=>((Y a.2 c).bind λz184=>(bif (!z184.2) then (k8 (some z184.1)) else some (.inl ((IntKind.i64.wrap (a.1+1)),z184.1)))))) else some (.inr (.inl a.2)))) (0,y0)).bind λ | .inl e139=>some e139 | .inr w=>some w)
def jm (l:List aG):Option ((List aG)×(List aG)) :=
 ((mH l).bind λr2=>((jk (λs40 x9=>((chk (eY s40.length [x9].length 32)).bind λ_=>some ((s40++[x9]),true))) ([]:(List aG)) r2).bind λa=>some (a,r2)))
def ku (g:aZ):Option ((List aG)×aZ) :=
 ((jm g.l).bind λr1=>((chk (decide (r1.2.length=g.l.length))).bind λ_=>some (r1.1,(aZ.mk g.w r1.2))))
def jQ (g:aZ):Option (aZ×aZ) :=
 ((jm g.l).bind λa=>((chk (decide (a.2.length=g.l.length))).bind λ_=>some ((aZ.mk g.w a.1),(aZ.mk g.w a.2))))
structure bC where
 kind:Int
 rune:Int
 byte:Int
 dZ:Bool
 aW:List Int
 text:ByteArray
 deriving DecidableEq,Inhabited
structure eZ where
 dZ:Bool
 mA:Bool
 any:Bool
 some:Bool
 n:Int
 aW:List Int
 deriving DecidableEq,Inhabited
structure aE where
 state:Int
 order:eZ
 text:ByteArray
 cN:bV
 out:List bC
 deriving DecidableEq,Inhabited
def fN (p:aE) (a:bC):Option aE :=
 ((chk (eY p.out.length [a].length 56)).bind λ_=>some (aE.mk p.state p.order p.text p.cN (p.out++[a])))
def hG (p:aE) (l:List Int):Option aE :=
 ((iter (σ:=aE×Int) (ρ:=aE) (λa=>(bif (decide (a.2 < (l.length:Int))) then ((idx l a.2).bind λb=>((fN a.1 (bC.mk 1 b 0 false ([]:List Int) (ByteArray.mk #[]))).bind λc=>some (.inl (c,(IntKind.i64.wrap (a.2+1)))))) else some (.inr a.1))) (p,0)).bind λd=>some d)
def eW (p:aE) (b:Int):Option (Bool×aE) :=
 (((((bif (b == 24) then some true else some (b == 26)):Option Bool).bind λa=>(bif a then some (.inl (aE.mk 0 p.order p.text p.cN p.out)) else (bif (b == 27) then some (.inl (aE.mk 1 p.order p.text p.cN p.out)) else (bif (decide (b < 32)) then ((fN p (bC.mk 2 0 b false ([]:List Int) (ByteArray.mk #[]))).bind λc=>some (.inl c)) else (k7 (some ((b == 127),p))))))):Option (aE ⊕ (Bool×aE))).bind λ | .inl e42=>some (true,e42) | .inr w=>some w)
def gT (p:aE) (b:Int):Option aE :=
 (((bif (decide (b < 32)) then some true else some (b == 127)):Option Bool).bind λe4=>(bif e4 then ((iR p.cN).bind λd=>((hG p d).bind λa=>((eW (aE.mk a.state a.order a.text (bV.mk 0 0 0) a.out) b).bind λe=>some e.2))) else ((il p.cN b).bind λc=>((hG (aE.mk p.state p.order p.text c.1 p.out) c.2).bind λf=>some f))))
def fO (p:aE) (b:Int):Option aE :=
 ((eW p b).bind λr1=>(bif r1.1 then some r1.2 else (((bif (b == 91) then (k7 (some (aE.mk 3 (eZ.mk false false false false 0 ([]:List Int)) r1.2.text r1.2.cN r1.2.out))) else (bif (b == 93) then (k7 (some (aE.mk 4 r1.2.order (ByteArray.mk #[]) r1.2.cN r1.2.out))) else (bif (decide (b < 48)) then (k7 (some (aE.mk 2 r1.2.order r1.2.text r1.2.cN r1.2.out))) else (bif (decide (b < 127)) then ((fN r1.2 (bC.mk 3 0 b false ([]:List Int) (ByteArray.mk #[]))).bind λa=>some (.inl a)) else some (.inl r1.2))))):Option (aE ⊕ aE)).bind λ | .inl e39=>some (aE.mk 0 e39.order e39.text e39.cN e39.out) | .inr w=>some w)))
def iT (p:aE) (b:Int):Option aE :=
 ((((eW p b).bind λc=>(bif (!c.1) then some ((decide (b>=48)),c.2) else some (false,c.2))):Option (Bool×aE)).bind λa=>(bif a.1 then some (aE.mk 0 a.2.order a.2.text a.2.cN a.2.out) else some a.2))
def jn (o:aE):Option aE :=
 (((bif (decide ((o.order.aW.length:Int) < 16)) then ((chk (eY o.order.aW.length [o.order.n].length 8)).bind λ_=>some (aE.mk o.state (eZ.mk o.order.dZ o.order.mA o.order.any o.order.some o.order.n (o.order.aW++[o.order.n])) o.text o.cN o.out)) else some o):Option aE).bind λa=>some (aE.mk a.state (eZ.mk a.order.dZ a.order.mA a.order.any a.order.some 0 a.order.aW) a.text a.cN a.out))
def iw (p:aE) (a:bC):Option aE :=
 ((chk (eY p.out.length [a].length 56)).bind λ_=>some (aE.mk p.state p.order p.text p.cN (p.out++[a])))
def iU (p:aE) (b:Int):Option aE :=
 (bif p.order.mA then some (aE.mk 0 p.order p.text p.cN p.out) else (((bif p.order.some then ((jn (aE.mk 0 p.order p.text p.cN p.out)).bind λd=>some d) else some (aE.mk 0 p.order p.text p.cN p.out)):Option aE).bind λa=>((iw a (bC.mk 4 0 b a.order.dZ a.order.aW (ByteArray.mk #[]))).bind λc=>((chk (!(c.state == (3:Int)))).bind λ_=>some c))))
def gI (p:aE) (b:Int):Option aE :=
 ((eW p b).bind λr1=>(bif r1.1 then some r1.2 else (((bif (decide (b>=48)) then some (decide (b<=57)) else some false):Option Bool).bind λc=>(bif c then some (aE.mk r1.2.state (eZ.mk r1.2.order.dZ r1.2.order.mA true true (dF (IntKind.i64.wrap ((IntKind.i64.wrap (10*r1.2.order.n))+(IntKind.i64.wrap (IntKind.u8.wrap (b - 48))))) 9999) r1.2.order.aW) r1.2.text r1.2.cN r1.2.out) else (((bif (b == 59) then some true else some (b == 58)):Option Bool).bind λd=>(bif d then ((chk (r1.2.state == (3:Int))).bind λ_=>((jn (aE.mk r1.2.state (eZ.mk r1.2.order.dZ r1.2.order.mA true r1.2.order.some r1.2.order.n r1.2.order.aW) r1.2.text r1.2.cN r1.2.out)).bind λa=>some (aE.mk a.state (eZ.mk a.order.dZ a.order.mA a.order.any true a.order.n a.order.aW) a.text a.cN a.out))) else (((bif (b == 63) then some (!r1.2.order.any) else some false):Option Bool).bind λe=>(bif e then some (aE.mk r1.2.state (eZ.mk true r1.2.order.mA true r1.2.order.some r1.2.order.n r1.2.order.aW) r1.2.text r1.2.cN r1.2.out) else (((bif (decide (b>=64)) then some (decide (b < 127)) else some false):Option Bool).bind λf=>(bif f then ((chk (r1.2.state == (3:Int))).bind λ_=>((iU (aE.mk r1.2.state (eZ.mk r1.2.order.dZ r1.2.order.mA true r1.2.order.some r1.2.order.n r1.2.order.aW) r1.2.text r1.2.cN r1.2.out) b).bind λg=>some g)) else some (aE.mk r1.2.state (eZ.mk r1.2.order.dZ true true r1.2.order.some r1.2.order.n r1.2.order.aW) r1.2.text r1.2.cN r1.2.out)))))))))))
def iK (p:aE):Option aE :=
 ((iter (σ:=aE×Int) (ρ:=aE) (λa=>(bif (decide (a.2 < (([(ByteArray.mk #[48,59]),(ByteArray.mk #[50,59])]).length:Int))) then ((((idx ([(ByteArray.mk #[48,59]),(ByteArray.mk #[50,59])]) a.2).bind λc=>((iS a.1.text c).bind λb=>(bif b.2 then ((fN a.1 (bC.mk 5 0 0 false ([]:List Int) b.1)).bind λd=>some d) else some a.1))):Option aE).bind λe=>some (.inl (e,(IntKind.i64.wrap (a.2+1))))) else some (.inr a.1))) ((aE.mk 0 p.order p.text p.cN p.out),0)).bind λf=>some f)
def iy (p:aE) (b:Int):Option aE :=
 (bif (b == 7) then ((iK p).bind λr2=>some r2) else (((bif (b == 24) then some true else some (b == 26)):Option Bool).bind λa=>(bif a then some (aE.mk 0 p.order p.text p.cN p.out) else (bif (b == 27) then some (aE.mk 5 p.order p.text p.cN p.out) else (bif (decide ((p.text.size:Int) < 200)) then ((chk (F7 p.text.size (jD [b]).size)).bind λ_=>some (aE.mk p.state p.order (p.text++(jD [b])) p.cN p.out)) else some p)))))
def kv (p:aE) (b:Int):Option aE :=
 (bif (p.state == 0) then ((gT p b).bind λr2=>some r2) else (bif (p.state == 1) then ((fO p b).bind λa=>some a) else (bif (p.state == 2) then ((iT p b).bind λc=>some c) else (bif (p.state == 3) then ((gI p b).bind λd=>some d) else (bif (p.state == 4) then ((iy p b).bind λe=>some e) else (bif (b == 92) then ((iK p).bind λf=>some f) else ((fO (aE.mk 1 p.order p.text p.cN p.out) b).bind λg=>some g)))))))
def jR (p:aE) (s_:ByteArray):Option ((List bC)×aE) :=
 ((iter (σ:=aE×Int) (ρ:=aE) (λa=>(bif (decide (a.2 < (s_.size:Int))) then ((w7 s_ a.2).bind λb134=>((kv a.1 b134).bind λc=>some (.inl (c,(IntKind.i64.wrap (a.2+1)))))) else some (.inr a.1))) ((aE.mk p.state p.order p.text p.cN ([]:List bC)),0)).bind λb=>some (b.out,(aE.mk b.state b.order b.text b.cN ([]:List bC))))
structure bJ where
 ib:Int
 back:Int
 bold:Bool
 under:Bool
 dS:Bool
 deriving DecidableEq,Inhabited
def jS (s_:bJ):Option Bool :=
 (((bif (decide (s_.ib>=0)) then (bif (decide (s_.ib < 9)) then (bif (decide (s_.back>=0)) then some (decide (s_.back < 9)) else some false) else some false) else some false):Option Bool).bind λe9=>some e9)
def mv (is:Bool) (n_:Int):Option Int :=
 (bif is then some n_ else some 0)
def jT (s_:bJ):Option Int :=
 ((jS s_).bind λr2=>(bif (!r2) then some 0 else ((mv s_.bold 81).bind λa=>((mv s_.under 162).bind λb=>((mv s_.dS 324).bind λc=>some (IntKind.i64.wrap ((IntKind.i64.wrap ((IntKind.i64.wrap ((IntKind.i64.wrap (s_.ib+(IntKind.i64.wrap (9*s_.back))))+a))+b))+c)))))))
def mI (l:List Int):Option Int :=
 (((bif (decide ((l.length:Int) > 0)) then ((idx l 0).bind λa=>some (a == 5)) else some false):Option Bool).bind λb=>(bif b then some (dF 2 (l.length:Int)) else (((bif (decide ((l.length:Int) > 0)) then ((idx l 0).bind λc=>some (c == 2)) else some false):Option Bool).bind λd=>(bif d then some (dF 4 (l.length:Int)) else some 0))))
def jU (s_:bJ) (n_:Int):Option bJ :=
 (((bif (n_ == 0) then (k7 (some (bJ.mk 0 0 false false false))) else (((bif (n_ == 1) then some true else some (n_ == 22)):Option Bool).bind λa=>(bif a then some (.inl (bJ.mk s_.ib s_.back (n_ == 1) s_.under s_.dS)) else (((bif (n_ == 4) then some true else some (n_ == 24)):Option Bool).bind λb=>(bif b then some (.inl (bJ.mk s_.ib s_.back s_.bold (n_ == 4) s_.dS)) else (((bif (n_ == 7) then some true else some (n_ == 27)):Option Bool).bind λc=>(bif c then some (.inl (bJ.mk s_.ib s_.back s_.bold s_.under (n_ == 7))) else (((bif (decide (n_>=30)) then some (decide (n_ < 38)) else some false):Option Bool).bind λd=>(bif d then some (.inl (bJ.mk (IntKind.i64.wrap ((IntKind.i64.wrap (n_ - 30))+1)) s_.back s_.bold s_.under s_.dS)) else (bif (n_ == 39) then some (.inl (bJ.mk 0 s_.back s_.bold s_.under s_.dS)) else (((bif (decide (n_>=40)) then some (decide (n_ < 48)) else some false):Option Bool).bind λe=>(bif e then some (.inl (bJ.mk s_.ib (IntKind.i64.wrap ((IntKind.i64.wrap (n_ - 40))+1)) s_.bold s_.under s_.dS)) else (bif (n_ == 49) then some (.inl (bJ.mk s_.ib 0 s_.bold s_.under s_.dS)) else some (.inl s_)))))))))))))):Option (bJ ⊕ bJ)).bind λ | .inl e90=>some e90 | .inr w=>some w)
def jV (s_:bJ) (aW:List Int):Option bJ :=
 (bif ((aW.length:Int) == 0) then some (bJ.mk 0 0 false false false) else ((iter (σ:=bJ×Int) (ρ:=bJ) (λa=>(bif (decide (a.2 < (aW.length:Int))) then ((((idx aW a.2).bind λb=>(((bif (b == 38) then some true else some (b == 48)):Option Bool).bind λd=>(bif d then ((chk (cZ (IntKind.i64.wrap (a.2+1)) (aW.length:Int) aW.length)).bind λ_=>((mI (cut aW (IntKind.i64.wrap (a.2+1)) (aW.length:Int))).bind λe=>some ((IntKind.i64.wrap (a.2+e)),a.1))) else ((idx aW a.2).bind λf=>((jU a.1 f).bind λh=>some (a.2,h)))))):Option (Int×bJ)).bind λc=>some (.inl (c.2,(IntKind.i64.wrap (c.1+1))))) else some (.inr a.1))) (s_,0)).bind λi=>some i))
structure eD where
 x:Int
 y:Int
 aO:bJ
 deriving DecidableEq,Inhabited
structure aB where
 g:aZ
 spot:eD
 saved:eD
 waiting:Bool
 top:Int
 aK:Int
 bB:Bool
 title:ByteArray
 deriving DecidableEq,Inhabited
def lJ (w:Int) (h_:Int):Option aB :=
 ((ot w h_).bind λr1=>((dV r1).bind λr9=>some (aB.mk r1 (eD.mk 0 0 (bJ.mk 0 0 false false false)) (eD.mk 0 0 (bJ.mk 0 0 false false false)) false 0 (IntKind.i64.wrap (r9.2 - 1)) true (ByteArray.mk #[]))))
def iz (s_:aB):Option (aZ×aB) :=
 ((jQ s_.g).bind λr1=>some (r1.1,(aB.mk r1.2 s_.spot s_.saved s_.waiting s_.top s_.aK s_.bB s_.title)))
def jy (s_:aB):Option ByteArray :=
 some s_.title
def jc (s_:aB):Option (Int×Int) :=
 some (s_.spot.x,s_.spot.y)
def iL (r_:aG):Option aG :=
 some (aG.mk r_.cells true)
def cX (s_:aB):Option aB :=
 ((fF s_.g s_.spot.y).bind λa=>((iL a).bind λb=>((eR s_.g s_.spot.y b).bind λc=>some (aB.mk c.2 s_.spot s_.saved s_.waiting s_.top s_.aK s_.bB s_.title))))
def cC (s_:aB):Option Int :=
 ((jT s_.spot.aO).bind λr1=>some r1)
def hH (s_:aB) (n_:Int):Option ((List aG)×aB) :=
 ((cC s_).bind λb=>((fU s_.g s_.top s_.aK n_ b).bind λa=>(bif (decide (s_.top > 0)) then some (([]:List aG),(aB.mk a.2 s_.spot s_.saved s_.waiting s_.top s_.aK s_.bB s_.title)) else some (a.1,(aB.mk a.2 s_.spot s_.saved s_.waiting s_.top s_.aK s_.bB s_.title)))))
def dX (s_:aB):Option (Int×Int) :=
 ((dV s_.g).bind λr1=>some ((IntKind.i64.wrap (r1.1 - 1)),(IntKind.i64.wrap (r1.2 - 1))))
def gD (n_:Int) (lo:Int) (hi:Int):Option Int :=
 some (imax lo (dF n_ hi))
def bM (s_:aB) (x_:Int) (y:Int):Option aB :=
 ((dX s_).bind λr1=>((gD x_ 0 r1.1).bind λr4=>((gD y 0 r1.2).bind λr7=>some (aB.mk s_.g (eD.mk r4 r7 s_.spot.aO) s_.saved false s_.top s_.aK s_.bB s_.title))))
def dE (s_:aB):Option ((List aG)×aB) :=
 (bif (s_.spot.y == s_.aK) then ((hH (aB.mk s_.g s_.spot s_.saved false s_.top s_.aK s_.bB s_.title) 1).bind λa=>some (a.1,a.2)) else ((bM (aB.mk s_.g s_.spot s_.saved false s_.top s_.aK s_.bB s_.title) s_.spot.x (IntKind.i64.wrap (s_.spot.y+1))).bind λb=>some (([]:List aG),b)))
def iM (r_:aG) (x1:aB):Option aG :=
 ((cC x1).bind λa=>((ln r_ a).bind λb=>some b))
def cY (s_:aB):Option aB :=
 ((fF s_.g s_.spot.y).bind λa=>((iM a s_).bind λb=>((eR s_.g s_.spot.y b).bind λc=>some (aB.mk c.2 s_.spot s_.saved s_.waiting s_.top s_.aK s_.bB s_.title))))
def iN (q:aG) (x1:aB) (x2:Int):Option aG :=
 ((cC x1).bind λa=>((lW q x1.spot.x x2 a).bind λb=>some b))
def dH (s_:aB) (f_1:Int):Option aB :=
 ((fF s_.g s_.spot.y).bind λa=>((iN a s_ f_1).bind λb=>((eR s_.g s_.spot.y b).bind λc=>some (aB.mk c.2 s_.spot s_.saved s_.waiting s_.top s_.aK s_.bB s_.title))))
def gU (s_:aB) (r_:Int):Option ((List aG)×aB) :=
 ((og r_).bind λr3=>((dV s_.g).bind λr6=>(((bif (r3 == 0) then some true else some (decide (r3 > r6.1))):Option Bool).bind λi=>(bif i then some (([]:List aG),s_) else (((bif s_.waiting then some s_.bB else some false):Option Bool).bind λj=>(((bif j then ((cX s_).bind λc=>((dE (aB.mk c.g (eD.mk 0 c.spot.y c.spot.aO) c.saved c.waiting c.top c.aK c.bB c.title)).bind λf=>((chk (eY ([]:List aG).length f.1.length 32)).bind λ_=>some ((([]:List aG)++f.1),f.2.g,f.2)))) else some ([],s_.g,s_)):Option ((List aG)×aZ×aB)).bind λa=>(((bif (decide ((IntKind.i64.wrap (a.2.2.spot.x+r3)) > r6.1)) then (bif a.2.2.bB then ((cY (aB.mk a.2.1 a.2.2.spot a.2.2.saved a.2.2.waiting a.2.2.top a.2.2.aK a.2.2.bB a.2.2.title)).bind λd=>((dE (aB.mk d.g (eD.mk 0 d.spot.y d.spot.aO) d.saved d.waiting d.top d.aK d.bB d.title)).bind λh=>((chk (eY a.1.length h.1.length 32)).bind λ_=>some ((a.1++h.1),h.2.g,h.2)))) else some (a.1,a.2.1,(aB.mk a.2.1 (eD.mk (IntKind.i64.wrap (a.2.2.spot.x - 1)) a.2.2.spot.y a.2.2.spot.aO) a.2.2.saved a.2.2.waiting a.2.2.top a.2.2.aK a.2.2.bB a.2.2.title))) else some (a.1,a.2.1,(aB.mk a.2.1 a.2.2.spot a.2.2.saved a.2.2.waiting a.2.2.top a.2.2.aK a.2.2.bB a.2.2.title))):Option ((List aG)×aZ×aB)).bind λe=>((dH (aB.mk e.2.1 e.2.2.spot e.2.2.saved e.2.2.waiting e.2.2.top e.2.2.aK e.2.2.bB e.2.2.title) r_).bind λb=>some (e.1,(aB.mk b.g (eD.mk (dF (IntKind.i64.wrap (b.spot.x+r3)) (IntKind.i64.wrap (r6.1 - 1))) b.spot.y b.spot.aO) b.saved ((IntKind.i64.wrap (b.spot.x+r3)) == r6.1) b.top b.aK b.bB b.title))))))))))
def gg (s_:aB) (b:Int):Option ((List aG)×aB) :=
 (((bif (b == 8) then ((bM s_ (IntKind.i64.wrap (s_.spot.x - 1)) s_.spot.y).bind λa=>some (.inl (a,a.g))) else (bif (b == 9) then ((bM s_ (IntKind.i64.wrap ((IntKind.i64.wrap ((IntKind.i64.wrap (s_.spot.x.tdiv 8))+1))*8)) s_.spot.y).bind λc=>some (.inl (c,c.g))) else (((bif (b == 10) then some (b == 10) else (bif (b == 11) then some (b == 11) else some (b == 12))):Option Bool).bind λf=>(bif f then ((dE s_).bind λd=>(k7 (some (d.1,d.2)))) else (bif (b == 13) then ((bM s_ 0 s_.spot.y).bind λe=>some (.inl (e,e.g))) else some (.inl (s_,s_.g))))))):Option ((aB×aZ) ⊕ ((List aG)×aB))).bind λ | .inl e86=>some (([]:List aG),(aB.mk e86.2 e86.1.spot e86.1.saved e86.1.waiting e86.1.top e86.1.aK e86.1.bB e86.1.title)) | .inr w=>some w)
def iA (s_:aB):Option aB :=
 (bif (s_.spot.y == s_.top) then ((cC (aB.mk s_.g s_.spot s_.saved false s_.top s_.aK s_.bB s_.title)).bind λa=>((eK s_.g s_.top s_.aK 1 a).bind λb=>some (aB.mk b.2 s_.spot s_.saved false s_.top s_.aK s_.bB s_.title))) else ((bM (aB.mk s_.g s_.spot s_.saved false s_.top s_.aK s_.bB s_.title) s_.spot.x (IntKind.i64.wrap (s_.spot.y - 1))).bind λc=>some c))
def gJ (s_:aB) (b:Int):Option ((List aG)×aB) :=
 (((((bif (b == 69) then some (.inl (aB.mk s_.g (eD.mk 0 s_.spot.y s_.spot.aO) s_.saved s_.waiting s_.top s_.aK s_.bB s_.title)) else (bif (b == 68) then some (.inl s_) else (bif (b == 77) then (k7 ((iA s_).bind λd=>some (.inl d))) else (bif (b == 55) then (k7 (some (.inl (aB.mk s_.g s_.spot s_.spot s_.waiting s_.top s_.aK s_.bB s_.title)))) else (bif (b == 56) then (k7 ((bM (aB.mk s_.g (eD.mk s_.spot.x s_.spot.y s_.saved.aO) s_.saved s_.waiting s_.top s_.aK s_.bB s_.title) s_.saved.x s_.saved.y).bind λe=>some (.inl e))) else (bif (b == 99) then (k7 ((dV s_.g).bind λa=>((lJ a.1 a.2).bind λf=>some (.inl f)))) else (k7 (some (.inl s_))))))))):Option (aB ⊕ (aB ⊕ ((List aG)×aB)))).bind λ | .inl e4671=>((dE (aB.mk s_.g e4671.spot e4671.saved e4671.waiting e4671.top e4671.aK e4671.bB e4671.title)).bind λc=>(k7 (some (c.1,c.2)))) | .inr w=>some w):Option (aB ⊕ ((List aG)×aB))).bind λ | .inl e3164=>some (([]:List aG),e3164) | .inr w=>some w)
def eO (a:bC) (i:Int) (d:Int):Option Int :=
 (((bif (decide (i>=(a.aW.length:Int))) then some true else ((idx a.aW i).bind λb=>some (decide (b<=0)))):Option Bool).bind λc=>(bif c then some d else ((idx a.aW i).bind λe=>some (dF e 9999))))
def fP (s_:aB) (n_:Int):Option aB :=
 ((dX s_).bind λr1=>(((bif (decide (s_.spot.y>=s_.top)) then some (decide (n_ < 0)) else some false):Option Bool).bind λe9=>(((bif e9 then some s_.top else some 0):Option Int).bind λa=>(((bif (decide (s_.spot.y<=s_.aK)) then some (decide (n_ > 0)) else some false):Option Bool).bind λb=>(((bif b then some s_.aK else some r1.2):Option Int).bind λc=>((gD (IntKind.i64.wrap (s_.spot.y+n_)) a c).bind λd=>((bM s_ s_.spot.x d).bind λe=>some e)))))))
def eH (s_:aB) (y:Int) (from_:Int) (to:Int):Option aB :=
 ((fF s_.g y).bind λa=>((cC s_).bind λb=>((jF a from_ to b).bind λc=>((eR s_.g y c).bind λd=>some (aB.mk d.2 s_.spot s_.saved s_.waiting s_.top s_.aK s_.bB s_.title)))))
def gj (s_:aB) (n_:Int):Option aB :=
 ((dV s_.g).bind λr1=>(((bif (n_ == 0) then ((eH s_ s_.spot.y s_.spot.x r1.1).bind λb=>some (b.g,b)) else (bif (n_ == 1) then ((eH s_ s_.spot.y 0 (IntKind.i64.wrap (s_.spot.x+1))).bind λc=>some (c.g,c)) else (bif (n_ == 2) then ((eH s_ s_.spot.y 0 r1.1).bind λd=>some (d.g,d)) else some (s_.g,s_)))):Option (aZ×aB)).bind λa=>(bif a.2.waiting then some (aB.mk a.1 a.2.spot a.2.saved (decide (n_ > 2)) a.2.top a.2.aK a.2.bB a.2.title) else some (aB.mk a.1 a.2.spot a.2.saved false a.2.top a.2.aK a.2.bB a.2.title))))
def iB (s_:aB) (n_:Int):Option aB :=
 ((dV s_.g).bind λr1=>((iter (σ:=aB×aZ×Int) (ρ:=aZ×aB) (λa=>(bif (decide (a.2.2 < r1.2)) then (((((bif (decide (a.2.2 < a.1.spot.y)) then (bif (n_ == 1) then some true else (bif (decide (a.2.2 > a.1.spot.y)) then (bif (n_ == 0) then some true else (bif (a.2.2 != a.1.spot.y) then some (n_ == 2) else some false)) else (bif (a.2.2 != a.1.spot.y) then some (n_ == 2) else some false))) else (bif (decide (a.2.2 > a.1.spot.y)) then (bif (n_ == 0) then some true else (bif (a.2.2 != a.1.spot.y) then some (n_ == 2) else some false)) else (bif (a.2.2 != a.1.spot.y) then some (n_ == 2) else some false))):Option Bool).bind λe=>(bif e then ((eH (aB.mk a.2.1 a.1.spot a.1.saved a.1.waiting a.1.top a.1.aK a.1.bB a.1.title) a.2.2 0 r1.1).bind λd=>some (d.g,d)) else some (a.2.1,(aB.mk a.2.1 a.1.spot a.1.saved a.1.waiting a.1.top a.1.aK a.1.bB a.1.title)))):Option (aZ×aB)).bind λb=>some (.inl ((aB.mk b.1 b.2.spot b.2.saved b.2.waiting b.2.top b.2.aK b.2.bB b.2.title),b.1,(IntKind.i64.wrap (a.2.2+1))))) else some (.inr (a.2.1,(aB.mk a.2.1 a.1.spot a.1.saved a.1.waiting a.1.top a.1.aK a.1.bB a.1.title))))) (s_,s_.g,0)).bind λc=>((gj (aB.mk c.1 c.2.spot c.2.saved c.2.waiting c.2.top c.2.aK c.2.bB c.2.title) n_).bind λf=>some f)))
def gk (r_:aG) (x1:Int) (x2:aB) (x3:Int):Option aG :=
 (bif (x1 == 64) then ((cC x2).bind λa=>((kq r_ x2.spot.x x3 a).bind λb=>some b)) else (bif (x1 == 80) then ((cC x2).bind λc=>((kr r_ x2.spot.x x3 c).bind λd=>some d)) else ((cC x2).bind λe=>((jF r_ x2.spot.x (IntKind.i64.wrap (x2.spot.x+x3)) e).bind λf=>some f))))
def eL (s_:aB) (f_0:Int) (f_2:Int):Option aB :=
 ((fF s_.g s_.spot.y).bind λa=>((gk a f_0 s_ f_2).bind λb=>((eR s_.g s_.spot.y b).bind λc=>some (aB.mk c.2 s_.spot s_.saved s_.waiting s_.top s_.aK s_.bB s_.title))))
def gV (s_:aB) (b:Int) (n_:Int):Option aB :=
 ((eL s_ b n_).bind λr4=>some (aB.mk r4.g r4.spot r4.saved false r4.top r4.aK r4.bB r4.title))
def gW (s_:aB) (b:Int) (n_:Int):Option aB :=
 (((bif (decide (s_.spot.y < s_.top)) then some true else some (decide (s_.spot.y > s_.aK))):Option Bool).bind λe6=>(bif e6 then some s_ else (((bif (b == 76) then ((cC s_).bind λa=>((eK s_.g s_.spot.y s_.aK n_ a).bind λc=>some c.2)) else ((cC s_).bind λd=>((fU s_.g s_.spot.y s_.aK n_ d).bind λe=>some e.2))):Option aZ).bind λf=>((bM (aB.mk f s_.spot s_.saved s_.waiting s_.top s_.aK s_.bB s_.title) 0 s_.spot.y).bind λh=>some h))))
def gK (s_:aB) (a:bC):Option aB :=
 ((dV s_.g).bind λr2=>((eO a 0 1).bind λd=>((gD d 1 r2.2).bind λb=>((eO a 1 r2.2).bind λe=>((gD e 1 r2.2).bind λc=>(bif (decide ((IntKind.i64.wrap (b - 1)) < (IntKind.i64.wrap (c - 1)))) then ((bM (aB.mk s_.g s_.spot s_.saved s_.waiting (IntKind.i64.wrap (b - 1)) (IntKind.i64.wrap (c - 1)) s_.bB s_.title) 0 0).bind λf=>some f) else some s_))))))
def gX (s_:aB) (a:bC):Option ((List aG)×aB) :=
 ((eO a 0 1).bind λr2=>(((((bif (a.byte == 65) then some (a.byte == 65) else some (a.byte == 70)):Option Bool).bind λr=>(bif r then ((fP s_ (IntKind.i64.wrap (0 - r2))).bind λc=>some (.inl (c,c.g))) else (((bif (a.byte == 66) then some (a.byte == 66) else some (a.byte == 69)):Option Bool).bind λs=>(bif s then ((fP s_ r2).bind λd=>some (.inl (d,d.g))) else (bif (a.byte == 67) then ((bM s_ (IntKind.i64.wrap (s_.spot.x+r2)) s_.spot.y).bind λe=>some (.inl (e,e.g))) else (bif (a.byte == 68) then ((bM s_ (IntKind.i64.wrap (s_.spot.x - r2)) s_.spot.y).bind λf=>some (.inl (f,f.g))) else (bif (a.byte == 71) then ((bM s_ (IntKind.i64.wrap (r2 - 1)) s_.spot.y).bind λh=>some (.inl (h,h.g))) else (bif (a.byte == 100) then ((bM s_ s_.spot.x (IntKind.i64.wrap (r2 - 1))).bind λi=>some (.inl (i,i.g))) else (((bif (a.byte == 72) then some (a.byte == 72) else some (a.byte == 102)):Option Bool).bind λt=>(bif t then ((eO a 1 1).bind λu=>((bM s_ (IntKind.i64.wrap (u - 1)) (IntKind.i64.wrap (r2 - 1))).bind λj=>some (.inl (j,j.g)))) else (bif (a.byte == 74) then ((eO a 0 0).bind λv=>((iB s_ v).bind λk=>some (.inl (k,k.g)))) else (bif (a.byte == 75) then ((eO a 0 0).bind λz=>((gj s_ z).bind λl=>some (.inl (l,l.g)))) else (((bif (a.byte == 64) then some (a.byte == 64) else (bif (a.byte == 80) then some (a.byte == 80) else some (a.byte == 88))):Option Bool).bind λA=>(bif A then ((gV s_ a.byte r2).bind λm=>some (.inl (m,m.g))) else (((bif (a.byte == 76) then some (a.byte == 76) else some (a.byte == 77)):Option Bool).bind λB=>(bif B then ((gW s_ a.byte r2).bind λn=>some (.inl (n,n.g))) else (bif (a.byte == 83) then ((hH (aB.mk s_.g s_.spot s_.saved false s_.top s_.aK s_.bB s_.title) r2).bind λo=>(k7 (some (o.1,o.2)))) else (bif (a.byte == 84) then ((cC (aB.mk s_.g s_.spot s_.saved false s_.top s_.aK s_.bB s_.title)).bind λC=>((eK s_.g s_.top s_.aK r2 C).bind λp=>some (.inl ((aB.mk p.2 s_.spot s_.saved false s_.top s_.aK s_.bB s_.title),p.2)))) else (bif (a.byte == 109) then ((jV s_.spot.aO a.aW).bind λD=>some (.inl ((aB.mk s_.g (eD.mk s_.spot.x s_.spot.y D) s_.saved s_.waiting s_.top s_.aK s_.bB s_.title),s_.g))) else (bif (a.byte == 114) then ((gK s_ a).bind λq=>some (.inl (q,q.g))) else some (.inl (s_,s_.g)))))))))))))))))))))):Option ((aB×aZ) ⊕ ((List aG)×aB))).bind λ | .inl e310=>(((bif (a.byte == 69) then some true else some (a.byte == 70)):Option Bool).bind λE=>(((bif E then some (aB.mk e310.2 (eD.mk 0 e310.1.spot.y e310.1.spot.aO) e310.1.saved e310.1.waiting e310.1.top e310.1.aK e310.1.bB e310.1.title) else some (aB.mk e310.2 e310.1.spot e310.1.saved e310.1.waiting e310.1.top e310.1.aK e310.1.bB e310.1.title)):Option aB).bind λb=>some (([]:List aG),(aB.mk e310.2 b.spot b.saved b.waiting b.top b.aK b.bB b.title)))) | .inr w=>some w))
def fX (s_:aB) (a:bC):Option ((List aG)×aB) :=
 (((bif (a.kind == 1) then ((gU s_ a.rune).bind λb=>(k7 (some (b.1,b.2)))) else (bif (a.kind == 2) then ((gg s_ a.byte).bind λc=>(k7 (some (c.1,c.2)))) else (bif (a.kind == 3) then ((gJ s_ a.byte).bind λd=>(k7 (some (d.1,d.2)))) else (bif (a.kind == 5) then some (.inl (aB.mk s_.g s_.spot s_.saved s_.waiting s_.top s_.aK s_.bB a.text)) else (bif (a.kind == 4) then (bif (!a.dZ) then ((gX s_ a).bind λe=>(k7 (some (e.1,e.2)))) else ((((eO a 0 0).bind λf=>(bif (f == 7) then (bif (a.byte == 104) then some true else some (a.byte == 108)) else some false)):Option Bool).bind λh=>(bif h then some (.inl (aB.mk s_.g s_.spot s_.saved s_.waiting s_.top s_.aK (a.byte == 104) s_.title)) else some (.inl s_)))) else some (.inl s_)))))):Option (aB ⊕ ((List aG)×aB))).bind λ | .inl e133=>some (([]:List aG),(aB.mk s_.g e133.spot e133.saved e133.waiting e133.top e133.aK e133.bB e133.title)) | .inr w=>some w)
def gL (s_:aB) (w:Int) (h_:Int):Option ((List aG)×aB) :=
 ((gD h_ 1 1000).bind λb=>((jr s_.g w h_ (imax 0 (IntKind.i64.wrap (s_.spot.y - (IntKind.i64.wrap (b - 1)))))).bind λc=>((bM (aB.mk c.2 s_.spot s_.saved s_.waiting s_.top s_.aK s_.bB s_.title) s_.spot.x (IntKind.i64.wrap (s_.spot.y - (imax 0 (IntKind.i64.wrap (s_.spot.y - (IntKind.i64.wrap (b - 1)))))))).bind λa=>((dX a).bind λd=>some (c.1,(aB.mk a.g a.spot a.saved a.waiting 0 d.2 a.bB a.title))))))
structure aL where
 k:Int
 w:Int
 h:Int
 x:Int
 y:Int
 title:ByteArray
 rows:List aG
 len:Int
 chain:Int
 begun:List aJ
 deriving DecidableEq,Inhabited
def rT (k:Int) (s_:aB) (b:bT):Option (aL×aB) :=
 ((iz (aB.mk s_.g s_.spot s_.saved s_.waiting s_.top s_.aK s_.bB s_.title)).bind λr2=>((jy (aB.mk r2.2.g r2.2.spot r2.2.saved r2.2.waiting r2.2.top r2.2.aK r2.2.bB r2.2.title)).bind λe=>((ku r2.1).bind λa=>((kQ b).bind λf=>((kQ b).bind λh=>((jN b h).bind λi=>((jO b).bind λj=>((dV a.2).bind λc=>((jc (aB.mk r2.2.g r2.2.spot r2.2.saved r2.2.waiting r2.2.top r2.2.aK r2.2.bB r2.2.title)).bind λd=>some ((aL.mk k c.1 c.2 d.1 d.2 e a.1 f i j),(aB.mk r2.2.g r2.2.spot r2.2.saved r2.2.waiting r2.2.top r2.2.aK r2.2.bB r2.2.title)))))))))))
def gM (s_:aL):Option Bool :=
 (((bif (s_.k == 0) then (bif (s_.w == 0) then (bif (s_.h == 0) then (bif (s_.x == 0) then (bif (s_.y == 0) then (bif (s_.title.toList == (ByteArray.mk #[]).toList) then (bif ((s_.rows.length:Int) == 0) then (bif (s_.len == 0) then (bif (s_.chain == 0) then some ((s_.begun.length:Int) == 0) else some false) else some false) else some false) else some false) else some false) else some false) else some false) else some false) else some false):Option Bool).bind λa=>some a)
def eM (n_:Int) (lo:Int) (hi:Int):Option Bool :=
 (((bif (decide (n_>=lo)) then some (decide (n_<=hi)) else some false):Option Bool).bind λe4=>some e4)
def jW (s_:aL):Option Bool :=
 ((((eM s_.k 1 1152921504606846976).bind λa=>(bif a then ((eM s_.w 1 1000).bind λb=>(bif b then ((eM s_.h 1 1000).bind λc=>(bif c then ((eM s_.x 0 (IntKind.i64.wrap (s_.w - 1))).bind λd=>(bif d then ((eM s_.y 0 (IntKind.i64.wrap (s_.h - 1))).bind λe=>(bif e then (bif ((s_.rows.length:Int) == s_.h) then (bif (decide ((s_.title.size:Int)<=200)) then ((eM s_.len 0 1152921504606846976).bind λf=>(bif f then ((eM s_.chain 0 281474976710656).bind λg=>(bif g then some (decide ((s_.begun.length:Int)<=1024)) else some false)) else some false)) else some false) else some false) else some false)) else some false)) else some false)) else some false)) else some false)):Option Bool).bind λi=>some i)
def lK (r_:Int) (aO:Int):Option Bool :=
 ((((eM (IntKind.i64.wrap r_) 0 1114111).bind λa=>(bif a then ((eM aO 0 647).bind λb=>some b) else some false)):Option Bool).bind λc=>some c)
def iV (g:aJ):Option Bool :=
 ((lK g.rune g.aO).bind λr2=>some (!r2))
def dL (s_:List aJ):Option Int :=
 ((iter (σ:=Int) (ρ:=Unit ⊕ Int) (λa=>(bif (decide (a < (s_.length:Int))) then ((idx s_ a).bind λb=>((iV b).bind λc=>(bif c then (k8 (some a)) else some (.inl (IntKind.i64.wrap (a+1)))))) else some (.inr (.inl ())))) 0).bind λ | .inl e77=>some (-1) | .inr w=>some w)
def cL (s_:List aJ):Option Bool :=
 ((dL s_).bind λr1=>some (decide (r1>=0)))
def nC (c:aH):Option Bool :=
 ((((lK c.rune c.aO).bind λa=>(bif a then ((eM c.part 0 3).bind λb=>some b) else some false)):Option Bool).bind λd=>some d)
def iW (c:aH):Option Bool :=
 ((nC c).bind λr2=>some (!r2))
def dO (s_:List aH):Option Int :=
 ((iter (σ:=Int) (ρ:=Unit ⊕ Int) (λa=>(bif (decide (a < (s_.length:Int))) then ((idx s_ a).bind λb=>((iW b).bind λc=>(bif c then (k8 (some a)) else some (.inl (IntKind.i64.wrap (a+1)))))) else some (.inr (.inl ())))) 0).bind λ | .inl e77=>some (-1) | .inr w=>some w)
def cF (s_:List aH):Option Bool :=
 ((dO s_).bind λr1=>some (decide (r1>=0)))
def fv (s_:aL):Option Int :=
 ((gM s_).bind λr2=>(bif r2 then some 0 else ((((jW s_).bind λc=>(bif (!c) then some true else ((cL s_.begun).bind λd=>some d))):Option Bool).bind λe=>(bif e then some 1 else ((iter (σ:=Int) (ρ:=Unit ⊕ Int) (λa=>(bif (decide (a < (s_.rows.length:Int))) then ((idx s_.rows a).bind λb=>(((bif ((b.cells.length:Int) != s_.w) then some true else ((cF b.cells).bind λf=>some f)):Option Bool).bind λg=>(bif g then (k8 (some 1)) else some (.inl (IntKind.i64.wrap (a+1)))))) else some (.inr (.inl ())))) 0).bind λ | .inl e212=>some 0 | .inr w=>some w)))))
def qd (is:Bool):Option Int :=
 (bif is then some 1 else some 0)
def oP (l:List aH):Option (List aH) :=
 some l
def nk {σ:Type} (Y:σ->(Int×aH)->Option (σ×Bool)) (y0:σ) (x1:List aH):Option (σ×(List aH)) :=
 ((iter (σ:=(List aH)×σ) (ρ:=((List aH)×σ) ⊕ (σ×(List aH))) (λa=>(bif (decide ((a.1.length:Int) > 0)) then ((iter (σ:=Int) (ρ:=Int) (λb=>(((bif (decide (b < (a.1.length:Int))) then ((idx a.1 b).bind λc=>((idx a.1 0).bind λd=>some ((c.rune == d.rune) && ((c.aO == d.aO) && ((c.part == d.part) && true))))) else some false):Option Bool).bind λf=>(bif f then some (.inl (IntKind.i64.wrap (b+1))) else some (.inr b)))) 1).bind λe=>((idx a.1 0).bind λg=>((Y a.2 (e,g)).bind λz1399=>(bif (!z1399.2) then (k8 (some (z1399.1,a.1))) else ((chk (cZ e (a.1.length:Int) a.1.length)).bind λ_=>some (.inl ((cut a.1 e (a.1.length:Int)),z1399.1))))))) else some (.inr (.inl (a.1,a.2))))) (x1,y0)).bind λ | .inl e1058=>some (e1058.2,e1058.1) | .inr w=>some w)
def jt (r_:aG):Option ByteArray :=
 ((qd r_.wrapped).bind λr3=>((cP (cJ.mk ([]:List Int)) [r3]).bind λb=>((oP r_.cells).bind λc=>((nk (λd a=>((cP d [a.1,(IntKind.i64.wrap a.2.rune),a.2.aO,a.2.part]).bind λe=>some (e,true))) (b:cJ) c).bind λf=>((fD f.1).bind λg=>some g)))))
def jo (s_:aL):Option ByteArray :=
 ((((gM s_).bind λb=>(bif b then some true else ((fv s_).bind λc=>some (c != 0)))):Option Bool).bind λd=>(bif d then some (ByteArray.mk #[]) else ((cP (cJ.mk ([]:List Int)) [s_.k,s_.w,s_.h,s_.x,s_.y]).bind λe=>((jq e [s_.title]).bind λf=>((cP f [s_.len,s_.chain]).bind λg=>((jP s_.begun).bind λi=>((gC g [i]).bind λj=>((iter (σ:=cJ×Int) (ρ:=cJ) (λa=>(bif (decide (a.2 < (s_.rows.length:Int))) then ((idx s_.rows a.2).bind λl=>((jt l).bind λm=>((gC a.1 [m]).bind λn=>some (.inl (n,(IntKind.i64.wrap (a.2+1))))))) else some (.inr a.1))) (j,0)).bind λo=>((fD o).bind λp=>some p)))))))))
def jX (s_:aL):Option aL :=
 ((iter (σ:=(List aG)×Int) (ρ:=(List aG)) (λa=>(bif (decide (a.2 < (s_.rows.length:Int))) then ((idx s_.rows a.2).bind λb=>((eJ b.cells).bind λc=>((chk (eY a.1.length [(aG.mk c b.wrapped)].length 32)).bind λ_=>some (.inl ((a.1++[(aG.mk c b.wrapped)]),(IntKind.i64.wrap (a.2+1))))))) else some (.inr a.1))) ([],0)).bind λd=>((cA s_.begun).bind λe=>some (aL.mk s_.k s_.w s_.h s_.x s_.y s_.title d s_.len s_.chain e)))
def kR (s_:aL):Option Int :=
 ((jo s_).bind λr2=>((nz [r2]).bind λr7=>some (IntKind.i64.wrap r7)))
def fV (s_:List aL):Option (List aL) :=
 ((chk (eY ([]:List aL).length s_.length 120)).bind λ_=>some (([]:List aL)++s_))
def mw (s_:aL):Option Bool :=
 ((jo s_).bind λr2=>some (!(r2.toList == (ByteArray.mk #[]).toList)))
def jG (a:aL) (b:aL):Option (aL×aL) :=
 some (b,a)
def kf (s_:aL) (y:Int):Option (aG×Bool) :=
 (((bif (decide (y < 0)) then some true else some (decide (y>=(s_.rows.length:Int)))):Option Bool).bind λe6=>(bif e6 then some ((aG.mk ([]:List aH) false),false) else ((idx s_.rows y).bind λa=>some (a,true))))
def gN {σ:Type} (Y:σ->(Int×aG)->Option (σ×Bool)) (y0:σ) (x1:aL) (x2:aL):Option σ :=
 ((iter (σ:=Int×σ) (ρ:=σ ⊕ σ) (λa=>(bif (decide (a.1 < (x1.rows.length:Int))) then ((((idx x1.rows a.1).bind λb=>((kf x2 a.1).bind λc=>(((bif c.2 then ((lq c.1 b).bind λd=>some d) else some false):Option Bool).bind λe=>(bif e then some (.inl a.2) else ((Y a.2 (a.1,b)).bind λz546=>(bif (!z546.2) then (k7 (k8 (some z546.1))) else some (.inl z546.1))))))):Option (σ ⊕ ((Int×σ) ⊕ (σ ⊕ σ)))).bind λ | .inl e506=>some (.inl ((IntKind.i64.wrap (a.1+1)),e506)) | .inr w=>some w) else some (.inr (.inl a.2)))) (0,y0)).bind λ | .inl e412=>some e412 | .inr w=>some w)
def kS (a:aL) (b:aL):Option (List Int) :=
 ((jG a b).bind λr4=>((gN (λc d=>((chk (eY c.length [d.1].length 8)).bind λ_=>some ((c++[d.1]),true))) ([]:(List Int)) r4.1 r4.2).bind λe=>some e))
def mJ (a:aL) (b:aL):Option ByteArray :=
 ((((fv a).bind λf=>(bif (f != 0) then some true else ((mw b).bind λc=>some (!c)))):Option Bool).bind λg=>(bif g then some (ByteArray.mk #[]) else ((kR a).bind λi=>((cP (cJ.mk ([]:List Int)) [i,b.k,b.w,b.h,b.x,b.y]).bind λj=>((jq j [b.title]).bind λl=>((cP l [b.len,b.chain]).bind λm=>((jP b.begun).bind λn=>((gC m [n]).bind λo=>((kS a b).bind λp=>((cP o [(p.length:Int)]).bind λq=>((jG a b).bind λd=>((gN (λr e=>((cP r [e.1]).bind λs=>((jt e.2).bind λt=>((gC s [t]).bind λu=>some (u,true))))) (q:cJ) d.1 d.2).bind λv=>((fD v).bind λz=>some z)))))))))))))
structure bO where
 book:bT
 parser:aE
 aN:aB
 k:Int
 deriving DecidableEq,Inhabited
structure ju where
 kind:Int
 text:ByteArray
 w:Int
 h:Int
 deriving DecidableEq,Inhabited
def nD (w:Int) (h_:Int):Option bO :=
 (Option.bind qc λr1=>((lJ w h_).bind λa=>some (bO.mk r1 (aE.mk 0 (eZ.mk false false false false 0 ([]:List Int)) (ByteArray.mk #[]) (bV.mk 0 0 0) ([]:List bC)) (aB.mk a.g a.spot a.saved a.waiting a.top a.aK a.bB a.title) 0)))
def fY (m_:bO):Option (aL×bO) :=
 ((rT (IntKind.i64.wrap (m_.k+1)) (aB.mk m_.aN.g m_.aN.spot m_.aN.saved m_.aN.waiting m_.aN.top m_.aN.aK m_.aN.bB m_.aN.title) m_.book).bind λa=>some (a.1,(bO.mk m_.book m_.parser (aB.mk a.2.g a.2.spot a.2.saved a.2.waiting a.2.top a.2.aK a.2.bB a.2.title) m_.k)))
def iX (e:ju):Option Int :=
 (((bif (e.kind == 0) then (bif (decide ((e.text.size:Int) > 1048576)) then (k7 (some 3)) else some (.inl ())) else (bif (e.kind == 1) then (((bif (decide (e.w < 1)) then some true else (bif (decide (e.w > 1000)) then some true else (bif (decide (e.h < 1)) then some true else some (decide (e.h > 1000))))):Option Bool).bind λa=>(bif a then (k7 (some 6)) else some (.inl ()))) else (k7 (some 5)))):Option (Unit ⊕ Int)).bind λ | .inl e36=>some 0 | .inr w=>some w)
def lf (m_:bO) (text:ByteArray):Option ByteArray :=
 some text
def iY {σ:Type} (Y:σ->(List aG)->Option (σ×Bool)) (y0:σ) (x1:bO) (x2:ByteArray):Option (σ×bO) :=
 ((jR x1.parser x2).bind λb=>((iter (σ:=aB×Int×σ) (ρ:=(aB×σ) ⊕ (σ×bO)) (λa=>(bif (decide (a.2.1 < (b.1.length:Int))) then ((idx b.1 a.2.1).bind λd=>((fX a.1 d).bind λc=>((Y a.2.2 c.1).bind λz528=>(bif (!z528.2) then (k8 (some (z528.1,(bO.mk x1.book b.2 c.2 x1.k)))) else some (.inl (c.2,(IntKind.i64.wrap (a.2.1+1)),z528.1)))))) else some (.inr (.inl (a.1,a.2.2))))) (x1.aN,0,y0)).bind λ | .inl e413=>some (e413.2,(bO.mk x1.book b.2 e413.1 x1.k)) | .inr w=>some w))
def eU (m_:bO) (e:ju):Option (Int×bO) :=
 ((iX e).bind λr3=>(bif (r3 != 0) then some (r3,m_) else (((bif (e.kind == 1) then ((gL m_.aN e.w e.h).bind λc=>((iQ m_.book c.1).bind λd=>some (bO.mk d.2 m_.parser c.2 m_.k))) else ((lf m_ e.text).bind λf=>((iY (λg i=>((iQ g i).bind λj=>some (j.2,true))) (m_.book:bT) m_ f).bind λa=>some (bO.mk a.1 a.2.parser a.2.aN a.2.k)))):Option bO).bind λb=>some (0,(bO.mk b.book b.parser b.aN (IntKind.i64.wrap (b.k+1)))))))
def lX (s_:ByteArray) (size:Int):Option (List ByteArray) :=
 ((iter (σ:=ByteArray×(List ByteArray)) (ρ:=ByteArray×(List ByteArray)) (λa=>(bif (decide ((a.1.size:Int) > (imax 1 (dF size 8000)))) then ((chk (cZ 0 (imax 1 (dF size 8000)) a.1.size)).bind λ_=>((chk (eY a.2.length [(gB a.1 0 (imax 1 (dF size 8000)))].length 16)).bind λ_=>((chk (cZ (imax 1 (dF size 8000)) (a.1.size:Int) a.1.size)).bind λ_=>some (.inl ((gB a.1 (imax 1 (dF size 8000)) (a.1.size:Int)),(a.2++[(gB a.1 0 (imax 1 (dF size 8000)))])))))) else some (.inr (a.1,a.2)))) (s_,[])).bind λb=>((chk (eY b.2.length [b.1].length 16)).bind λ_=>some (b.2++[b.1])))
structure bW where
 part:Int
 every:Int
 most:Int
 deriving DecidableEq,Inhabited
structure bK where
 id:Int
 key:Int
 base:Int
 parts:List ByteArray
 there:List Bool
 due:Int
 deriving DecidableEq,Inhabited
structure aI where
 config:bW
 current:aL
 aM:aL
 kept:List aL
 message:bK
 next:Int
 deriving DecidableEq,Inhabited
def lY (n_:Int) (lo:Int) (hi:Int):Option Int :=
 some (imax lo (dF n_ hi))
def lr (c:bW):Option bW :=
 ((lY c.part 1 8000).bind λa=>((lY c.every 1 1048576).bind λb=>((lY c.most 1 64).bind λd=>some (bW.mk a b d))))
def n5 (c:bW):Option aI :=
 ((lr c).bind λr2=>some (aI.mk r2 (aL.mk 0 0 0 0 0 (ByteArray.mk #[]) ([]:List aG) 0 0 ([]:List aJ)) (aL.mk 0 0 0 0 0 (ByteArray.mk #[]) ([]:List aG) 0 0 ([]:List aJ)) ([]:List aL) (bK.mk 0 0 0 ([]:List ByteArray) ([]:List Bool) 0) 1))
def fA (s_:aI) (x_:aL):Option (Bool×aI) :=
 ((((fv x_).bind λa=>(bif (a != 0) then some true else some (decide (x_.k<=s_.current.k)))):Option Bool).bind λb=>(bif b then some (false,s_) else ((jX x_).bind λc=>some (true,(aI.mk s_.config c s_.aM s_.kept s_.message s_.next)))))
def fB (x_:aL) (x1:aI):Option Bool :=
 some (x_.k == x1.current.k)
def dB (s_:List aL) (f_0:aI):Option Int :=
 ((iter (σ:=Int) (ρ:=Unit ⊕ Int) (λa=>(bif (decide (a < (s_.length:Int))) then ((idx s_ a).bind λb=>((fB b f_0).bind λc=>(bif c then (k8 (some a)) else some (.inl (IntKind.i64.wrap (a+1)))))) else some (.inr (.inl ())))) 0).bind λ | .inl e113=>some (-1) | .inr w=>some w)
def cH (s_:List aL) (f_0:aI):Option Bool :=
 ((dB s_ f_0).bind λr1=>some (decide (r1>=0)))
def fQ (s_:aI) (now:Int):Option aI :=
 ((mJ s_.aM s_.current).bind λc=>((lX c s_.config.part).bind λb=>((chk (IJ (b.length:Int) 1)).bind λ_=>((cH s_.kept (aI.mk s_.config s_.current s_.aM s_.kept (bK.mk s_.next s_.current.k s_.aM.k b (List.replicate (b.length:Int).toNat false) now) (IntKind.i64.wrap (s_.next+1)))).bind λd=>(((bif (!d) then ((chk (eY s_.kept.length [s_.current].length 120)).bind λ_=>some (aI.mk s_.config s_.current s_.aM (s_.kept++[s_.current]) (bK.mk s_.next s_.current.k s_.aM.k b (List.replicate (b.length:Int).toNat false) now) (IntKind.i64.wrap (s_.next+1)))) else some (aI.mk s_.config s_.current s_.aM s_.kept (bK.mk s_.next s_.current.k s_.aM.k b (List.replicate (b.length:Int).toNat false) now) (IntKind.i64.wrap (s_.next+1)))):Option aI).bind λa=>((chk (cZ (imax 0 (IntKind.i64.wrap ((a.kept.length:Int) - a.config.most))) (a.kept.length:Int) a.kept.length)).bind λ_=>some (aI.mk (bW.mk a.config.part a.config.every a.config.most) (aL.mk a.current.k a.current.w a.current.h a.current.x a.current.y a.current.title a.current.rows a.current.len a.current.chain a.current.begun) (aL.mk a.aM.k a.aM.w a.aM.h a.aM.x a.aM.y a.aM.title a.aM.rows a.aM.len a.aM.chain a.aM.begun) (cut a.kept (imax 0 (IntKind.i64.wrap ((a.kept.length:Int) - a.config.most))) (a.kept.length:Int)) (bK.mk a.message.id a.message.key a.message.base a.message.parts a.message.there a.message.due) a.next)))))))
def gO {σ:Type} (m_:bK) (Y:σ->(Int×ByteArray)->Option (σ×Bool)) (y0:σ):Option σ :=
 ((iter (σ:=Int×σ) (ρ:=σ ⊕ σ) (λa=>(bif (decide (a.1 < (m_.parts.length:Int))) then ((idx m_.parts a.1).bind λc=>((((idx m_.there a.1).bind λd=>(bif (!d) then ((Y a.2 (a.1,c)).bind λz377=>some ((!z377.2),z377.1)) else some (false,a.2))):Option (Bool×σ)).bind λb=>(bif b.1 then (k8 (some b.2)) else some (.inl ((IntKind.i64.wrap (a.1+1)),b.2))))) else some (.inr (.inl a.2)))) (0,y0)).bind λ | .inl e284=>some e284 | .inr w=>some w)
def gm (s_:aI) (now:Int):Option ((List aV)×aI) :=
 (bif (s_.current.k == s_.aM.k) then some (([]:List aV),(aI.mk s_.config s_.current s_.aM s_.kept (bK.mk 0 0 0 ([]:List ByteArray) ([]:List Bool) 0) s_.next)) else (((bif (s_.message.id == 0) then some true else (bif (s_.message.key != s_.current.k) then some true else some (s_.message.base != s_.aM.k))):Option Bool).bind λd=>(((bif d then ((fQ s_ now).bind λe=>some e) else some s_):Option aI).bind λa=>(bif (decide (now < a.message.due)) then some (([]:List aV),(aI.mk (bW.mk a.config.part a.config.every a.config.most) (aL.mk a.current.k a.current.w a.current.h a.current.x a.current.y a.current.title a.current.rows a.current.len a.current.chain a.current.begun) (aL.mk a.aM.k a.aM.w a.aM.h a.aM.x a.aM.y a.aM.title a.aM.rows a.aM.len a.aM.chain a.aM.begun) a.kept (bK.mk a.message.id a.message.key a.message.base a.message.parts a.message.there a.message.due) a.next)) else ((gO (bK.mk a.message.id a.message.key a.message.base a.message.parts a.message.there (IntKind.i64.wrap (now+a.config.every))) (λc b=>((chk (eY c.length ([(aV.mk 1 1 [a.message.id,a.message.key,a.message.base,b.1,(a.message.parts.length:Int)] b.2)]).length 56)).bind λ_=>some ((c++[(aV.mk 1 1 [a.message.id,a.message.key,a.message.base,b.1,(a.message.parts.length:Int)] b.2)]),true))) ([]:(List aV))).bind λf=>some (f,(aI.mk (bW.mk a.config.part a.config.every a.config.most) (aL.mk a.current.k a.current.w a.current.h a.current.x a.current.y a.current.title a.current.rows a.current.len a.current.chain a.current.begun) (aL.mk a.aM.k a.aM.w a.aM.h a.aM.x a.aM.y a.aM.title a.aM.rows a.aM.len a.aM.chain a.aM.begun) a.kept (bK.mk a.message.id a.message.key a.message.base a.message.parts a.message.there (IntKind.i64.wrap (now+a.config.every))) a.next)))))))
def gn (s_:aI) (have_:ByteArray):Option aI :=
 ((iter (σ:=aI×Int) (ρ:=aI) (λa=>(bif (decide (a.2 < (dF (s_.message.there.length:Int) (IntKind.i64.wrap (8*(have_.size:Int)))))) then ((((w7 have_ (IntKind.i64.wrap (a.2.tdiv 8))).bind λb228=>((chk (shk (a.2.tmod 8))).bind λ_=>(bif ((Go.bits .and .u8 (b228.fdiv (2 ^ (min (a.2.tmod 8).toNat 8))) 1) == 1) then ((idx a.1.message.there a.2).bind λd=>some (aI.mk (bW.mk a.1.config.part a.1.config.every a.1.config.most) (aL.mk a.1.current.k a.1.current.w a.1.current.h a.1.current.x a.1.current.y a.1.current.title a.1.current.rows a.1.current.len a.1.current.chain a.1.current.begun) (aL.mk a.1.aM.k a.1.aM.w a.1.aM.h a.1.aM.x a.1.aM.y a.1.aM.title a.1.aM.rows a.1.aM.len a.1.aM.chain a.1.aM.begun) a.1.kept (bK.mk a.1.message.id a.1.message.key a.1.message.base a.1.message.parts (a.1.message.there.set a.2.toNat true) a.1.message.due) a.1.next)) else some (aI.mk (bW.mk a.1.config.part a.1.config.every a.1.config.most) (aL.mk a.1.current.k a.1.current.w a.1.current.h a.1.current.x a.1.current.y a.1.current.title a.1.current.rows a.1.current.len a.1.current.chain a.1.current.begun) (aL.mk a.1.aM.k a.1.aM.w a.1.aM.h a.1.aM.x a.1.aM.y a.1.aM.title a.1.aM.rows a.1.aM.len a.1.aM.chain a.1.aM.begun) a.1.kept (bK.mk a.1.message.id a.1.message.key a.1.message.base a.1.message.parts a.1.message.there a.1.message.due) a.1.next)))):Option aI).bind λb=>some (.inl ((aI.mk (bW.mk b.config.part b.config.every b.config.most) (aL.mk b.current.k b.current.w b.current.h b.current.x b.current.y b.current.title b.current.rows b.current.len b.current.chain b.current.begun) (aL.mk b.aM.k b.aM.w b.aM.h b.aM.x b.aM.y b.aM.title b.aM.rows b.aM.len b.aM.chain b.aM.begun) b.kept (bK.mk b.message.id b.message.key b.message.base b.message.parts b.message.there b.message.due) b.next),(IntKind.i64.wrap (a.2+1))))) else some (.inr (aI.mk (bW.mk a.1.config.part a.1.config.every a.1.config.most) (aL.mk a.1.current.k a.1.current.w a.1.current.h a.1.current.x a.1.current.y a.1.current.title a.1.current.rows a.1.current.len a.1.current.chain a.1.current.begun) (aL.mk a.1.aM.k a.1.aM.w a.1.aM.h a.1.aM.x a.1.aM.y a.1.aM.title a.1.aM.rows a.1.aM.len a.1.aM.chain a.1.aM.begun) a.1.kept (bK.mk a.1.message.id a.1.message.key a.1.message.base a.1.message.parts a.1.message.there a.1.message.due) a.1.next)))) (s_,0)).bind λc=>some (aI.mk (bW.mk c.config.part c.config.every c.config.most) (aL.mk c.current.k c.current.w c.current.h c.current.x c.current.y c.current.title c.current.rows c.current.len c.current.chain c.current.begun) (aL.mk c.aM.k c.aM.w c.aM.h c.aM.x c.aM.y c.aM.title c.aM.rows c.aM.len c.aM.chain c.aM.begun) c.kept (bK.mk c.message.id c.message.key c.message.base c.message.parts c.message.there c.message.due) c.next))
def fW (x_:aL) (x1:Int):Option Bool :=
 some (x_.k == x1)
def cM (s_:List aL) (f_0:Int):Option Int :=
 ((iter (σ:=Int) (ρ:=Unit ⊕ Int) (λa=>(bif (decide (a < (s_.length:Int))) then ((idx s_ a).bind λb=>((fW b f_0).bind λc=>(bif c then (k8 (some a)) else some (.inl (IntKind.i64.wrap (a+1)))))) else some (.inr (.inl ())))) 0).bind λ | .inl e113=>some (-1) | .inr w=>some w)
def iZ (s_:aI) (k:Int) (id:Int) (have_:ByteArray):Option (Bool×aI) :=
 (((bif (id == s_.message.id) then some (decide (id > 0)) else some false):Option Bool).bind λe5=>(((bif e5 then ((gn s_ have_).bind λc=>some c) else some s_):Option aI).bind λa=>(((bif (decide (k<=a.aM.k)) then some true else some (decide (k > a.current.k))):Option Bool).bind λd=>(bif d then some (false,(aI.mk (bW.mk a.config.part a.config.every a.config.most) (aL.mk a.current.k a.current.w a.current.h a.current.x a.current.y a.current.title a.current.rows a.current.len a.current.chain a.current.begun) (aL.mk a.aM.k a.aM.w a.aM.h a.aM.x a.aM.y a.aM.title a.aM.rows a.aM.len a.aM.chain a.aM.begun) a.kept (bK.mk a.message.id a.message.key a.message.base a.message.parts a.message.there a.message.due) a.next)) else ((cM a.kept k).bind λb=>(bif (decide (b < 0)) then some (false,(aI.mk (bW.mk a.config.part a.config.every a.config.most) (aL.mk a.current.k a.current.w a.current.h a.current.x a.current.y a.current.title a.current.rows a.current.len a.current.chain a.current.begun) (aL.mk 0 0 0 0 0 (ByteArray.mk #[]) ([]:List aG) 0 0 ([]:List aJ)) a.kept (bK.mk a.message.id a.message.key a.message.base a.message.parts a.message.there a.message.due) a.next)) else ((idx a.kept b).bind λe=>((chk (cZ (IntKind.i64.wrap (b+1)) (a.kept.length:Int) a.kept.length)).bind λ_=>((fV (cut a.kept (IntKind.i64.wrap (b+1)) (a.kept.length:Int))).bind λf=>some (true,(aI.mk (bW.mk a.config.part a.config.every a.config.most) (aL.mk a.current.k a.current.w a.current.h a.current.x a.current.y a.current.title a.current.rows a.current.len a.current.chain a.current.begun) e f (bK.mk a.message.id a.message.key a.message.base a.message.parts a.message.there a.message.due) a.next)))))))))))
def la (s_:aI):Option Int :=
 some s_.aM.k
structure ic where
 bH:Int
 w:Int
 h:Int
 to:Int
 aP:bW
 deriving DecidableEq,Inhabited
structure fH where
 to:Int
 data:ByteArray
 deriving DecidableEq,Inhabited
structure bD where
 bH:Int
 to:Int
 model:bO
 aP:aI
 deriving DecidableEq,Inhabited
def gE (n_:Int) (lo:Int) (hi:Int):Option Int :=
 some (imax lo (dF n_ hi))
def jY (c:ic):Option bD :=
 ((gE c.bH 1 4294967296).bind λb=>((gE c.to 0 4294967296).bind λd=>((nD c.w c.h).bind λe=>((n5 c.aP).bind λf=>((fY e).bind λa=>((fA f a.1).bind λg=>some (bD.mk b d a.2 g.2)))))))
def eX (s_:bD) (to:Int) (l:List aV):Option (List fH) :=
 ((iter (σ:=Int×(List fH)) (ρ:=(List fH)) (λa=>(bif (decide (a.1 < (l.length:Int))) then ((idx l a.1).bind λb=>((ga (aV.mk s_.bH b.kind b.aW b.data)).bind λc=>((chk (eY a.2.length [(fH.mk to c)].length 24)).bind λ_=>some (.inl ((IntKind.i64.wrap (a.1+1)),(a.2++[(fH.mk to c)])))))) else some (.inr a.2))) (0,[])).bind λd=>some d)
def dY (s_:bD) (now:Int):Option ((List fH)×bD) :=
 ((gm s_.aP now).bind λa=>((eX (bD.mk s_.bH s_.to s_.model a.2) s_.to a.1).bind λb=>some (b,(bD.mk s_.bH s_.to s_.model a.2))))
def kx (l:List Int):Option ((List dK)×Bool) :=
 (((bif ((l.length:Int) == 0) then some true else some (((l.length:Int).tmod 2) != 0)):Option Bool).bind λe4=>(bif e4 then some (([]:List dK),false) else ((iter (σ:=(List dK)×Int) (ρ:=(List dK)) (λa=>(bif (decide (a.2 < (l.length:Int))) then ((idx l a.2).bind λb=>((idx l (IntKind.i64.wrap (a.2+1))).bind λc=>((chk (eY a.1.length [(dK.mk b c)].length 16)).bind λ_=>some (.inl ((a.1++[(dK.mk b c)]),(IntKind.i64.wrap (a.2+2))))))) else some (.inr a.1))) ([],0)).bind λd=>some (d,true))))
def gY (s_:bD) (g:aV):Option Int :=
 ((kx g.aW).bind λr2=>(((bif (g.kind != 2) then some (g.kind != 3) else some false):Option Bool).bind λb=>(bif b then some 5 else (bif (decide (g.bH < s_.bH)) then some 8 else (bif (decide (g.bH > s_.bH)) then some 6 else (((bif (g.kind == 2) then some ((g.aW.length:Int) != 2) else some false):Option Bool).bind λa=>(((bif a then some a else some (!r2.2)):Option Bool).bind λc=>(bif c then some 1 else some 0))))))))
def cW (s_:bD) (now:Int) (from_:Int) (data:ByteArray):Option ((List fH)×Int×bD) :=
 ((gE from_ 0 4294967296).bind λr1=>((jK data).bind λr4=>(((bif (r4.2 == 0) then ((gY s_ r4.1).bind λb=>some b) else some r4.2):Option Int).bind λa=>(bif (a == 8) then ((eX s_ r1 ([(aV.mk 0 4 [0,0] (ByteArray.mk #[]))])).bind λc=>some (c,a,s_)) else (bif (a != 0) then some (([]:List fH),a,s_) else (bif (r4.1.kind == 2) then ((gP r4.1 0).bind λd=>((gP r4.1 1).bind λe=>((iZ s_.aP d e r4.1.data).bind λf=>some (([]:List fH),0,(bD.mk s_.bH r1 s_.model f.2))))) else ((kx r4.1.aW).bind λg=>((fT s_.bH s_.model.book g.1).bind λh=>((eX (bD.mk s_.bH r1 s_.model s_.aP) r1 h).bind λi=>some (i,0,(bD.mk s_.bH r1 s_.model s_.aP)))))))))))
def ml (s_:bD):Option Int :=
 some s_.to
def jz (s_:bD):Option Int :=
 ((la s_.aP).bind λr1=>some r1)
def hK (s_:bD) (e:ju):Option (Int×bD) :=
 ((eU s_.model e).bind λa=>((fY a.2).bind λb=>((fA s_.aP b.1).bind λc=>some (a.1,(bD.mk s_.bH s_.to b.2 c.2)))))
def jA (s_:bD):Option Int :=
 some s_.bH
def jf (s_:ByteArray) (n_:Int):Option ByteArray :=
 (bif (decide ((s_.size:Int) > n_)) then ((chk (cZ 0 n_ s_.size)).bind λ_=>some (gB s_ 0 n_)) else some s_)
def qe (r_:Int):Option Int :=
 (((bif (decide (r_ < 32)) then some true else some (decide (r_ > 1114111))):Option Bool).bind λe8=>(bif e8 then some 0 else ((iter (σ:=Int) (ρ:=Unit ⊕ Int) (λa=>(bif (decide (a < ([(cK.mk 127 159),(cK.mk 768 879),(cK.mk 6832 6911),(cK.mk 7616 7679),(cK.mk 8203 8207),(cK.mk 8400 8447),(cK.mk 55296 57343),(cK.mk 65024 65039),(cK.mk 65056 65071),(cK.mk 65279 65279),(cK.mk 917760 917999)].length:Int))) then ((idx [(cK.mk 127 159),(cK.mk 768 879),(cK.mk 6832 6911),(cK.mk 7616 7679),(cK.mk 8203 8207),(cK.mk 8400 8447),(cK.mk 55296 57343),(cK.mk 65024 65039),(cK.mk 65056 65071),(cK.mk 65279 65279),(cK.mk 917760 917999)] a).bind λc=>(((bif (decide (r_>=c.e0)) then some (decide (r_<=c.e1)) else some false):Option Bool).bind λe=>(bif e then (k8 (some 0)) else some (.inl (IntKind.i64.wrap (a+1)))))) else some (.inr (.inl ())))) 0).bind λ | .inl e96=>((iter (σ:=Int) (ρ:=Unit ⊕ Int) (λb=>(bif (decide (b < ([(cK.mk 4352 4447),(cK.mk 11904 12350),(cK.mk 12353 13311),(cK.mk 13312 19903),(cK.mk 19968 40959),(cK.mk 40960 42191),(cK.mk 44032 55203),(cK.mk 63744 64255),(cK.mk 65072 65135),(cK.mk 65280 65376),(cK.mk 65504 65510),(cK.mk 127744 128591),(cK.mk 129280 129535),(cK.mk 131072 262141)].length:Int))) then ((idx [(cK.mk 4352 4447),(cK.mk 11904 12350),(cK.mk 12353 13311),(cK.mk 13312 19903),(cK.mk 19968 40959),(cK.mk 40960 42191),(cK.mk 44032 55203),(cK.mk 63744 64255),(cK.mk 65072 65135),(cK.mk 65280 65376),(cK.mk 65504 65510),(cK.mk 127744 128591),(cK.mk 129280 129535),(cK.mk 131072 262141)] b).bind λd=>(((bif (decide (r_>=d.e0)) then some (decide (r_<=d.e1)) else some false):Option Bool).bind λf=>(bif f then (k8 (some 2)) else some (.inl (IntKind.i64.wrap (b+1)))))) else some (.inr (.inl ())))) 0).bind λ | .inl e214=>some 1 | .inr w=>some w) | .inr w=>some w)))
structure aU where
 rune:Int
 aO:Int
 part:Int
 deriving DecidableEq,Inhabited
structure aX where
 l:List aU
 wrapped:Bool
 deriving DecidableEq,Inhabited
structure tr where
 rune:Int
 aO:Int
 deriving DecidableEq,Inhabited
def mK (n_:Int) (lo:Int) (hi:Int):Option Int :=
 (bif (decide (n_ < lo)) then some lo else (bif (decide (n_ > hi)) then some hi else some n_))
def jg (w:Int) (aO:Int):Option aX :=
 ((iter (σ:=(List aU)×Int) (ρ:=(List aU)) (λa=>((mK w 0 1000).bind λb=>(bif (decide (a.2 < b)) then ((chk (eY a.1.length [(aU.mk 32 aO 0)].length 24)).bind λ_=>some (.inl ((a.1++[(aU.mk 32 aO 0)]),(IntKind.i64.wrap (a.2+1))))) else some (.inr a.1)))) (([]:List aU),0)).bind λc=>some (aX.mk c false))
def fI (l:List aU):Option aX :=
 ((iter (σ:=Int×(List aU)) (ρ:=(List aU)) (λa=>(bif (decide (a.1 < (l.length:Int))) then ((idx l a.1).bind λb=>(((bif (b.part == 1) then (bif ((IntKind.i64.wrap (a.1+1)) == (l.length:Int)) then some true else ((idx l (IntKind.i64.wrap (a.1+1))).bind λd=>some (d.part != 2))) else (bif (b.part == 2) then (bif (a.1 == 0) then some true else ((idx a.2 (IntKind.i64.wrap (a.1 - 1))).bind λe=>some (e.part != 1))) else (bif (b.part == 3) then some (decide (a.1 < (IntKind.i64.wrap ((l.length:Int) - 1)))) else some false))):Option Bool).bind λf=>(((bif f then some (aU.mk 32 b.aO 0) else some b):Option aU).bind λc=>((chk (eY a.2.length [c].length 24)).bind λ_=>some (.inl ((IntKind.i64.wrap (a.1+1)),(a.2++[c]))))))) else some (.inr a.2))) (0,([]:List aU))).bind λg=>some (aX.mk g false))
def oQ (r_:aX) (at_:Int) (x_:Int) (aO:Int):Option aX :=
 ((qe x_).bind λr3=>(((bif (r3 == 0) then some true else (bif (decide (at_ < 0)) then some true else some (decide (at_ > (IntKind.i64.wrap ((r_.l.length:Int) - r3)))))):Option Bool).bind λa=>(bif a then ((fI r_.l).bind λb=>some b) else ((chk (eY ([]:List aU).length r_.l.length 24)).bind λ_=>((idx (([]:List aU)++r_.l) at_).bind λh=>(((bif (r3 == 2) then ((idx ((([]:List aU)++r_.l).set at_.toNat (aU.mk x_ aO 0)) at_).bind λi=>((idx (((([]:List aU)++r_.l).set at_.toNat (aU.mk x_ aO 0)).set at_.toNat (aU.mk x_ aO 1)) (IntKind.i64.wrap (at_+1))).bind λj=>(((bif (decide (at_ > 0)) then ((idx ((((([]:List aU)++r_.l).set at_.toNat (aU.mk x_ aO 0)).set at_.toNat (aU.mk x_ aO 1)).set ((IntKind.i64.wrap (at_+1)).toNat) (aU.mk x_ aO 2)) (IntKind.i64.wrap (at_ - 1))).bind λc=>some (c.part == 1)) else some false):Option Bool).bind λd=>(bif d then ((idx ((((([]:List aU)++r_.l).set at_.toNat (aU.mk x_ aO 0)).set at_.toNat (aU.mk x_ aO 1)).set ((IntKind.i64.wrap (at_+1)).toNat) (aU.mk x_ aO 2)) (IntKind.i64.wrap (at_ - 1))).bind λe=>((idx ((((([]:List aU)++r_.l).set at_.toNat (aU.mk x_ aO 0)).set at_.toNat (aU.mk x_ aO 1)).set ((IntKind.i64.wrap (at_+1)).toNat) (aU.mk x_ aO 2)) (IntKind.i64.wrap (at_ - 1))).bind λk=>some (((((([]:List aU)++r_.l).set at_.toNat (aU.mk x_ aO 0)).set at_.toNat (aU.mk x_ aO 1)).set ((IntKind.i64.wrap (at_+1)).toNat) (aU.mk x_ aO 2)).set ((IntKind.i64.wrap (at_ - 1)).toNat) (aU.mk 32 e.aO 0)))) else some ((((([]:List aU)++r_.l).set at_.toNat (aU.mk x_ aO 0)).set at_.toNat (aU.mk x_ aO 1)).set ((IntKind.i64.wrap (at_+1)).toNat) (aU.mk x_ aO 2)))))) else some ((([]:List aU)++r_.l).set at_.toNat (aU.mk x_ aO 0))):Option (List aU)).bind λf=>((fI f).bind λg=>some g)))))))
def nm (r_:aX) (from_:Int) (to:Int) (aO:Int):Option aX :=
 ((chk (eY ([]:List aU).length r_.l.length 24)).bind λ_=>((iter (σ:=Int×(List aU)) (ρ:=(List aU)) (λa=>(bif (decide (a.1 < ((([]:List aU)++r_.l).length:Int))) then (((((bif (decide (a.1>=from_)) then some (decide (a.1 < to)) else some false):Option Bool).bind λb=>(bif b then ((idx a.2 a.1).bind λf=>some (a.2.set a.1.toNat (aU.mk 32 aO 0))) else some a.2)):Option (List aU)).bind λc=>some (.inl ((IntKind.i64.wrap (a.1+1)),c))) else some (.inr a.2))) (0,(([]:List aU)++r_.l))).bind λd=>((fI d).bind λe=>some e)))
def mL (r_:aX) (at_:Int) (n_:Int) (aO:Int):Option aX :=
 (((bif (decide (at_ < 0)) then some true else (bif (decide (at_>=(r_.l.length:Int))) then some true else some (decide (n_<=0)))):Option Bool).bind λe8=>(bif e8 then ((fI r_.l).bind λb=>some b) else ((chk (cZ 0 at_ r_.l.length)).bind λ_=>((chk (eY ([]:List aU).length (cut r_.l 0 at_).length 24)).bind λ_=>((jg (dF n_ (IntKind.i64.wrap ((r_.l.length:Int) - at_))) aO).bind λa=>((chk (eY (([]:List aU)++(cut r_.l 0 at_)).length a.l.length 24)).bind λ_=>((chk (cZ at_ (IntKind.i64.wrap ((r_.l.length:Int) - (dF n_ (IntKind.i64.wrap ((r_.l.length:Int) - at_))))) r_.l.length)).bind λ_=>((chk (eY ((([]:List aU)++(cut r_.l 0 at_))++a.l).length (cut r_.l at_ (IntKind.i64.wrap ((r_.l.length:Int) - (dF n_ (IntKind.i64.wrap ((r_.l.length:Int) - at_)))))).length 24)).bind λ_=>((fI (((([]:List aU)++(cut r_.l 0 at_))++a.l)++(cut r_.l at_ (IntKind.i64.wrap ((r_.l.length:Int) - (dF n_ (IntKind.i64.wrap ((r_.l.length:Int) - at_)))))))).bind λc=>some c)))))))))
def mM (r_:aX) (at_:Int) (n_:Int) (aO:Int):Option aX :=
 (((bif (decide (at_ < 0)) then some true else (bif (decide (at_>=(r_.l.length:Int))) then some true else some (decide (n_<=0)))):Option Bool).bind λe8=>(bif e8 then ((fI r_.l).bind λb=>some b) else ((chk (cZ 0 at_ r_.l.length)).bind λ_=>((chk (eY ([]:List aU).length (cut r_.l 0 at_).length 24)).bind λ_=>((chk (cZ (IntKind.i64.wrap (at_+(dF n_ (IntKind.i64.wrap ((r_.l.length:Int) - at_))))) (r_.l.length:Int) r_.l.length)).bind λ_=>((chk (eY (([]:List aU)++(cut r_.l 0 at_)).length (cut r_.l (IntKind.i64.wrap (at_+(dF n_ (IntKind.i64.wrap ((r_.l.length:Int) - at_))))) (r_.l.length:Int)).length 24)).bind λ_=>((jg (dF n_ (IntKind.i64.wrap ((r_.l.length:Int) - at_))) aO).bind λa=>((chk (eY ((([]:List aU)++(cut r_.l 0 at_))++(cut r_.l (IntKind.i64.wrap (at_+(dF n_ (IntKind.i64.wrap ((r_.l.length:Int) - at_))))) (r_.l.length:Int))).length a.l.length 24)).bind λ_=>((fI (((([]:List aU)++(cut r_.l 0 at_))++(cut r_.l (IntKind.i64.wrap (at_+(dF n_ (IntKind.i64.wrap ((r_.l.length:Int) - at_))))) (r_.l.length:Int)))++a.l)).bind λc=>some c)))))))))
def mN (r_:aX) (aO:Int):Option aX :=
 ((chk (eY ([]:List aU).length r_.l.length 24)).bind λ_=>(((bif (decide (((([]:List aU)++r_.l).length:Int) > 0)) then ((idx (([]:List aU)++r_.l) (IntKind.i64.wrap (((([]:List aU)++r_.l).length:Int) - 1))).bind λc=>some ((([]:List aU)++r_.l).set ((IntKind.i64.wrap (((([]:List aU)++r_.l).length:Int) - 1)).toNat) (aU.mk 32 aO 3))) else some (([]:List aU)++r_.l)):Option (List aU)).bind λa=>((fI a).bind λb=>some (aX.mk b.l true))))
def mO (r_:aX) (w:Int):Option aX :=
 ((mK w 0 1000).bind λr3=>(bif (r3 == (r_.l.length:Int)) then some r_ else ((chk (cZ 0 (dF r3 (r_.l.length:Int)) r_.l.length)).bind λ_=>((chk (eY ([]:List aU).length (cut r_.l 0 (dF r3 (r_.l.length:Int))).length 24)).bind λ_=>((jg (IntKind.i64.wrap (r3 - ((([]:List aU)++(cut r_.l 0 (dF r3 (r_.l.length:Int)))).length:Int))) 0).bind λa=>((chk (eY (([]:List aU)++(cut r_.l 0 (dF r3 (r_.l.length:Int)))).length a.l.length 24)).bind λ_=>((fI ((([]:List aU)++(cut r_.l 0 (dF r3 (r_.l.length:Int))))++a.l)).bind λb=>some b)))))))
def tt (r_:aG) (x_:aX):Option Bool :=
 (((bif ((r_.cells.length:Int) != (x_.l.length:Int)) then some true else some (!(r_.wrapped == x_.wrapped))):Option Bool).bind λe6=>(bif e6 then some false else ((iter (σ:=Int) (ρ:=Unit ⊕ Bool) (λa=>(bif (decide (a < (r_.cells.length:Int))) then ((idx r_.cells a).bind λb=>((((idx x_.l a).bind λc=>(bif ((IntKind.i64.wrap b.rune) != c.rune) then some true else ((idx x_.l a).bind λd=>(bif (b.aO != d.aO) then some true else ((idx x_.l a).bind λe=>some (b.part != e.part)))))):Option Bool).bind λf=>(bif f then (k8 (some false)) else some (.inl (IntKind.i64.wrap (a+1)))))) else some (.inr (.inl ())))) 0).bind λ | .inl e712=>some true | .inr w=>some w)))
structure hU where
 w:Int
 l:List aX
 deriving DecidableEq,Inhabited
def n6 (n_:Int):Option Int :=
 some (imax 1 (dF n_ 1000))
def qZ (w:Int) (h_:Int):Option hU :=
 ((n6 w).bind λr2=>((iter (σ:=hU×Int) (ρ:=hU) (λa=>((n6 h_).bind λc=>(bif (decide (a.2 < c)) then ((jg a.1.w 0).bind λb=>((chk (eY a.1.l.length [b].length 32)).bind λ_=>some (.inl ((hU.mk a.1.w (a.1.l++[b])),(IntKind.i64.wrap (a.2+1)))))) else some (.inr a.1)))) ((hU.mk r2 ([]:List aX)),0)).bind λd=>some d))
def nE (g:hU) (y:Int) (r_:aX):Option (hU×Bool) :=
 (((bif (decide (y < 0)) then some true else some (decide (y>=(g.l.length:Int)))):Option Bool).bind λe7=>(bif e7 then some (g,false) else ((chk (eY ([]:List aX).length g.l.length 32)).bind λ_=>((mO r_ g.w).bind λa=>((idx (([]:List aX)++g.l) y).bind λb=>some ((hU.mk g.w ((([]:List aX)++g.l).set y.toNat a)),true))))))
def eI (g:hU) (up:Bool) (top:Int) (aK:Int) (n_:Int) (aO:Int):Option (hU×(List aX)) :=
 (bif (decide ((imax 0 (dF aK (IntKind.i64.wrap ((g.l.length:Int) - 1)))) < (imax 0 (dF top (IntKind.i64.wrap ((g.l.length:Int) - 1)))))) then some (g,([]:List aX)) else ((chk (eY ([]:List aX).length g.l.length 32)).bind λ_=>((jg g.w aO).bind λd=>((iter (σ:=(List aX)×(List aX)×Int) (ρ:=(List aX)×(List aX)) (λa=>(((bif (decide (a.2.2 < n_)) then some (decide (a.2.2<=(IntKind.i64.wrap ((imax 0 (dF aK (IntKind.i64.wrap ((g.l.length:Int) - 1)))) - (imax 0 (dF top (IntKind.i64.wrap ((g.l.length:Int) - 1)))))))) else some false):Option Bool).bind λm=>(bif m then (((bif up then ((idx a.2.1 (imax 0 (dF top (IntKind.i64.wrap ((g.l.length:Int) - 1))))).bind λe=>((chk (eY a.1.length [e].length 32)).bind λ_=>((iter (σ:=(List aX)×Int) (ρ:=(List aX)) (λb=>(bif (decide (b.2 < (imax 0 (dF aK (IntKind.i64.wrap ((g.l.length:Int) - 1)))))) then ((idx b.1 (IntKind.i64.wrap (b.2+1))).bind λn=>((idx b.1 b.2).bind λp=>some (.inl ((b.1.set b.2.toNat n),(IntKind.i64.wrap (b.2+1)))))) else some (.inr b.1))) (a.2.1,(imax 0 (dF top (IntKind.i64.wrap ((g.l.length:Int) - 1)))))).bind λf=>((idx f (imax 0 (dF aK (IntKind.i64.wrap ((g.l.length:Int) - 1))))).bind λq=>some ((a.1++[e]),(f.set ((imax 0 (dF aK (IntKind.i64.wrap ((g.l.length:Int) - 1)))).toNat) d)))))) else ((idx a.2.1 (imax 0 (dF aK (IntKind.i64.wrap ((g.l.length:Int) - 1))))).bind λh=>((chk (eY a.1.length [h].length 32)).bind λ_=>((iter (σ:=(List aX)×Int) (ρ:=(List aX)) (λc=>(bif (decide (c.2 > (imax 0 (dF top (IntKind.i64.wrap ((g.l.length:Int) - 1)))))) then ((idx c.1 (IntKind.i64.wrap (c.2 - 1))).bind λo=>((idx c.1 c.2).bind λr=>some (.inl ((c.1.set c.2.toNat o),(IntKind.i64.wrap (c.2 - 1)))))) else some (.inr c.1))) (a.2.1,(imax 0 (dF aK (IntKind.i64.wrap ((g.l.length:Int) - 1)))))).bind λi=>((idx i (imax 0 (dF top (IntKind.i64.wrap ((g.l.length:Int) - 1))))).bind λs=>some ((a.1++[h]),(i.set ((imax 0 (dF top (IntKind.i64.wrap ((g.l.length:Int) - 1)))).toNat) d))))))):Option ((List aX)×(List aX))).bind λj=>some (.inl (j.1,j.2,(IntKind.i64.wrap (a.2.2+1))))) else some (.inr (a.1,a.2.1))))) (([]:List aX),(([]:List aX)++g.l),0)).bind λk=>some ((hU.mk g.w k.2),k.1)))))
def n7 (l:List aG) (x_:List aX):Option Bool :=
 (bif ((l.length:Int) != (x_.length:Int)) then some false else ((iter (σ:=Int) (ρ:=Unit ⊕ Bool) (λa=>(bif (decide (a < (x_.length:Int))) then ((idx l a).bind λb=>((idx x_ a).bind λc=>((tt b c).bind λd=>(bif (!d) then (k8 (some false)) else some (.inl (IntKind.i64.wrap (a+1))))))) else some (.inr (.inl ())))) 0).bind λ | .inl e571=>some true | .inr w=>some w))
structure kF where
 kind:Int
 rune:Int
 byte:Int
 dZ:Bool
 aW:List Int
 text:ByteArray
 deriving DecidableEq,Inhabited
structure bR where
 ib:Int
 back:Int
 bold:Bool
 under:Bool
 dS:Bool
 deriving DecidableEq,Inhabited
def q6 (s_:bR):Option Bool :=
 (((bif (decide (s_.ib>=0)) then (bif (decide (s_.ib<=8)) then (bif (decide (s_.back>=0)) then some (decide (s_.back<=8)) else some false) else some false) else some false):Option Bool).bind λe9=>some e9)
def kG (s_:bR):Option Int :=
 ((q6 s_).bind λr2=>(bif (!r2) then some 0 else (((bif s_.bold then some (IntKind.i64.wrap ((IntKind.i64.wrap (s_.ib+(IntKind.i64.wrap (9*s_.back))))+81)) else some (IntKind.i64.wrap (s_.ib+(IntKind.i64.wrap (9*s_.back))))):Option Int).bind λa=>(((bif s_.under then some (IntKind.i64.wrap (a+162)) else some a):Option Int).bind λb=>(((bif s_.dS then some (IntKind.i64.wrap (b+324)) else some b):Option Int).bind λc=>some c)))))
def q7 (s_:bR) (l:List Int):Option bR :=
 (bif ((l.length:Int) == 0) then some (bR.mk 0 0 false false false) else ((iter (σ:=bR×Int×Int) (ρ:=bR) (λb=>(bif (decide (b.2.1 < (l.length:Int))) then ((((idx l b.2.1).bind λa=>(bif (decide (b.2.2 > 0)) then some ((IntKind.i64.wrap (b.2.2 - 1)),b.1) else (((bif (a == 38) then some true else some (a == 48)):Option Bool).bind λm=>(bif m then (((bif (decide ((IntKind.i64.wrap (b.2.1+1)) < (l.length:Int))) then ((idx l (IntKind.i64.wrap (b.2.1+1))).bind λn=>some (n == 5)) else some false):Option Bool).bind λo=>(((bif o then some 2 else some b.2.2):Option Int).bind λp=>(((bif (decide ((IntKind.i64.wrap (b.2.1+1)) < (l.length:Int))) then ((idx l (IntKind.i64.wrap (b.2.1+1))).bind λq=>some (q == 2)) else some false):Option Bool).bind λr=>(((bif r then some 4 else some p):Option Int).bind λt=>some (t,b.1))))) else (((bif (a == 0) then some (bR.mk 0 0 false false false) else some b.1):Option bR).bind λc=>(((bif (a == 1) then some true else some (a == 22)):Option Bool).bind λu=>(((bif u then some (bR.mk c.ib c.back (decide (a < 10)) c.under c.dS) else some c):Option bR).bind λd=>(((bif (a == 4) then some true else some (a == 24)):Option Bool).bind λv=>(((bif v then some (bR.mk d.ib d.back d.bold (decide (a < 10)) d.dS) else some d):Option bR).bind λe=>(((bif (a == 7) then some true else some (a == 27)):Option Bool).bind λw=>(((bif w then some (bR.mk e.ib e.back e.bold e.under (decide (a < 10))) else some e):Option bR).bind λf=>(((bif (decide (a>=30)) then some (decide (a<=37)) else some false):Option Bool).bind λz=>(((bif z then some (bR.mk (IntKind.i64.wrap (a - 29)) f.back f.bold f.under f.dS) else some f):Option bR).bind λh=>(((bif (a == 39) then some (bR.mk 0 h.back h.bold h.under h.dS) else some h):Option bR).bind λi=>(((bif (decide (a>=40)) then some (decide (a<=47)) else some false):Option Bool).bind λA=>(((bif A then some (bR.mk i.ib (IntKind.i64.wrap (a - 39)) i.bold i.under i.dS) else some i):Option bR).bind λj=>(bif (a == 49) then some (b.2.2,(bR.mk j.ib 0 j.bold j.under j.dS)) else some (b.2.2,j)))))))))))))))))):Option (Int×bR)).bind λk=>some (.inl (k.2,(IntKind.i64.wrap (b.2.1+1)),k.1))) else some (.inr b.1))) (s_,0,0)).bind λB=>some B))
structure aR where
 g:hU
 x:Int
 y:Int
 s:bR
 sX:Int
 sY:Int
 sS:bR
 waiting:Bool
 top:Int
 aK:Int
 bB:Bool
 title:ByteArray
 deriving DecidableEq,Inhabited
def q8 (w:Int) (h_:Int):Option aR :=
 ((qZ w h_).bind λr2=>some (aR.mk r2 0 0 (bR.mk 0 0 false false false) 0 0 (bR.mk 0 0 false false false) false 0 (IntKind.i64.wrap ((r2.l.length:Int) - 1)) true (ByteArray.mk #[])))
def jZ (s_:aR) (r_:aX):Option aR :=
 ((nE s_.g s_.y r_).bind λr4=>some (aR.mk r4.1 s_.x s_.y s_.s s_.sX s_.sY s_.sS s_.waiting s_.top s_.aK s_.bB s_.title))
def mP (s_:aR) (n_:Int):Option (aR×(List aX)) :=
 ((kG s_.s).bind λb=>((eI s_.g true s_.top s_.aK n_ b).bind λa=>(bif (decide (s_.top > 0)) then some ((aR.mk a.1 s_.x s_.y s_.s s_.sX s_.sY s_.sS s_.waiting s_.top s_.aK s_.bB s_.title),([]:List aX)) else some ((aR.mk a.1 s_.x s_.y s_.s s_.sX s_.sY s_.sS s_.waiting s_.top s_.aK s_.bB s_.title),a.2))))
def dI (s_:aR) (x_:Int) (y:Int):Option aR :=
 some (aR.mk s_.g (imax 0 (dF x_ (IntKind.i64.wrap (s_.g.w - 1)))) (imax 0 (dF y (IntKind.i64.wrap ((s_.g.l.length:Int) - 1)))) s_.s s_.sX s_.sY s_.sS false s_.top s_.aK s_.bB s_.title)
def ie (s_:aR):Option (aR×(List aX)) :=
 (bif (s_.y == s_.aK) then ((mP (aR.mk s_.g s_.x s_.y s_.s s_.sX s_.sY s_.sS false s_.top s_.aK s_.bB s_.title) 1).bind λa=>some (a.1,a.2)) else ((dI (aR.mk s_.g s_.x s_.y s_.s s_.sX s_.sY s_.sS false s_.top s_.aK s_.bB s_.title) s_.x (IntKind.i64.wrap (s_.y+1))).bind λb=>some (b,([]:List aX))))
def qf (s_:aR) (r_:Int):Option (aR×(List aX)) :=
 ((qe r_).bind λr3=>(((bif (r3 == 0) then some true else some (decide (r3 > s_.g.w))):Option Bool).bind λe9=>(bif e9 then some (s_,([]:List aX)) else ((kG s_.s).bind λi=>(((bif s_.waiting then some s_.bB else some false):Option Bool).bind λj=>(((bif j then ((idx s_.g.l s_.y).bind λk=>((jZ s_ (aX.mk k.l true)).bind λc=>((ie (aR.mk c.g 0 c.y c.s c.sX c.sY c.sS c.waiting c.top c.aK c.bB c.title)).bind λf=>((chk (eY ([]:List aX).length f.2.length 32)).bind λ_=>some ((([]:List aX)++f.2),f.1))))) else some (([]:List aX),s_)):Option ((List aX)×aR)).bind λb=>(((bif (r3 == 2) then some (b.2.x == (IntKind.i64.wrap (b.2.g.w - 1))) else some false):Option Bool).bind λm=>(((bif m then (bif b.2.bB then ((idx b.2.g.l b.2.y).bind λn=>((mN n i).bind λo=>((jZ b.2 o).bind λd=>((ie (aR.mk d.g 0 d.y d.s d.sX d.sY d.sS d.waiting d.top d.aK d.bB d.title)).bind λh=>((chk (eY b.1.length h.2.length 32)).bind λ_=>some ((b.1++h.2),h.1)))))) else some (b.1,(aR.mk b.2.g (IntKind.i64.wrap (b.2.x - 1)) b.2.y b.2.s b.2.sX b.2.sY b.2.sS b.2.waiting b.2.top b.2.aK b.2.bB b.2.title))) else some (b.1,b.2)):Option ((List aX)×aR)).bind λe=>((idx e.2.g.l e.2.y).bind λp=>((oQ p e.2.x r_ i).bind λq=>((jZ e.2 q).bind λa=>(((bif ((IntKind.i64.wrap (a.x+r3)) == a.g.w) then some (aR.mk a.g (IntKind.i64.wrap ((IntKind.i64.wrap (a.x+r3)) - 1)) a.y a.s a.sX a.sY a.sS ((IntKind.i64.wrap (a.x+r3)) == a.g.w) a.top a.aK a.bB a.title) else some (aR.mk a.g (IntKind.i64.wrap (a.x+r3)) a.y a.s a.sX a.sY a.sS ((IntKind.i64.wrap (a.x+r3)) == a.g.w) a.top a.aK a.bB a.title)):Option aR).bind λr=>some (r,e.1)))))))))))))
def fC (l:List Int) (i:Int) (d:Int):Option Int :=
 (((bif (decide (i < (l.length:Int))) then ((idx l i).bind λa=>some (decide (a > 0))) else some false):Option Bool).bind λb=>(bif b then ((idx l i).bind λc=>some (dF c 9999)) else some d))
def k5 (s_:aR) (y:Int) (from_:Int) (to:Int):Option aR :=
 ((idx s_.g.l y).bind λa=>((kG s_.s).bind λb=>((nm a from_ to b).bind λc=>((nE s_.g y c).bind λd=>some (aR.mk d.1 s_.x s_.y s_.s s_.sX s_.sY s_.sS s_.waiting s_.top s_.aK s_.bB s_.title)))))
def np (s_:aR) (n_:Int) (all:Bool):Option aR :=
 (bif (decide (n_ > 2)) then some s_ else ((iter (σ:=aR×Int) (ρ:=aR) (λa=>(bif (decide (a.2 < (s_.g.l.length:Int))) then (((((bif all then (bif (decide (a.2 < a.1.y)) then (bif (n_ != 0) then some true else (bif (decide (a.2 > a.1.y)) then some (n_ != 1) else some false)) else (bif (decide (a.2 > a.1.y)) then some (n_ != 1) else some false)) else some false):Option Bool).bind λd=>(bif d then ((k5 a.1 a.2 0 a.1.g.w).bind λe=>some e) else some a.1)):Option aR).bind λf=>some (.inl (f,(IntKind.i64.wrap (a.2+1))))) else some (.inr a.1))) (s_,0)).bind λc=>(((bif (n_ == 0) then some c.x else some 0):Option Int).bind λh=>(((bif (n_ == 1) then some (IntKind.i64.wrap (c.x+1)) else some c.g.w):Option Int).bind λi=>((k5 c c.y h i).bind λb=>some (aR.mk b.g b.x b.y b.s b.sX b.sY b.sS false b.top b.aK b.bB b.title))))))
def nP (s_:aR) (b:Int) (l:List Int):Option (aR×(List aX)) :=
 ((fC l 0 1).bind λr3=>((kG s_.s).bind λr6=>(((((bif (b == 65) then some (b == 65) else some (b == 70)):Option Bool).bind λk=>(bif k then (((bif (decide (s_.y>=s_.top)) then some s_.top else some 0):Option Int).bind λm=>((dI s_ s_.x (imax m (IntKind.i64.wrap (s_.y - r3)))).bind λa=>(bif (b == 70) then some (.inl (aR.mk a.g 0 a.y a.s a.sX a.sY a.sS a.waiting a.top a.aK a.bB a.title)) else some (.inl a)))) else (((bif (b == 66) then some (b == 66) else some (b == 69)):Option Bool).bind λn=>(bif n then (((bif (decide (s_.y<=s_.aK)) then some s_.aK else some (IntKind.i64.wrap ((s_.g.l.length:Int) - 1))):Option Int).bind λo=>((dI s_ s_.x (dF o (IntKind.i64.wrap (s_.y+r3)))).bind λc=>(bif (b == 69) then some (.inl (aR.mk c.g 0 c.y c.s c.sX c.sY c.sS c.waiting c.top c.aK c.bB c.title)) else some (.inl c)))) else (bif (b == 67) then ((dI s_ (IntKind.i64.wrap (s_.x+r3)) s_.y).bind λp=>some (.inl p)) else (bif (b == 68) then ((dI s_ (IntKind.i64.wrap (s_.x - r3)) s_.y).bind λq=>some (.inl q)) else (bif (b == 71) then ((dI s_ (IntKind.i64.wrap (r3 - 1)) s_.y).bind λr=>some (.inl r)) else (bif (b == 100) then ((dI s_ s_.x (IntKind.i64.wrap (r3 - 1))).bind λt=>some (.inl t)) else (((bif (b == 72) then some (b == 72) else some (b == 102)):Option Bool).bind λu=>(bif u then ((fC l 1 1).bind λv=>((dI s_ (IntKind.i64.wrap (v - 1)) (IntKind.i64.wrap (r3 - 1))).bind λz=>some (.inl z))) else (bif (b == 74) then ((fC l 0 0).bind λA=>((np s_ A true).bind λB=>some (.inl B))) else (bif (b == 75) then ((fC l 0 0).bind λC=>((np s_ C false).bind λD=>some (.inl D))) else (bif (b == 88) then ((k5 s_ s_.y s_.x (IntKind.i64.wrap (s_.x+r3))).bind λd=>some (.inl (aR.mk d.g d.x d.y d.s d.sX d.sY d.sS false d.top d.aK d.bB d.title))) else (bif (b == 64) then ((idx s_.g.l s_.y).bind λE=>((mL E s_.x r3 r6).bind λF=>((jZ s_ F).bind λe=>some (.inl (aR.mk e.g e.x e.y e.s e.sX e.sY e.sS false e.top e.aK e.bB e.title))))) else (bif (b == 80) then ((idx s_.g.l s_.y).bind λG=>((mM G s_.x r3 r6).bind λH=>((jZ s_ H).bind λf=>some (.inl (aR.mk f.g f.x f.y f.s f.sX f.sY f.sS false f.top f.aK f.bB f.title))))) else (((bif (b == 76) then some (b == 76) else some (b == 77)):Option Bool).bind λI=>(bif I then (((bif (decide (s_.y>=s_.top)) then some (decide (s_.y<=s_.aK)) else some false):Option Bool).bind λJ=>(bif J then ((eI s_.g (b == 77) s_.y s_.aK r3 r6).bind λK=>((dI (aR.mk K.1 s_.x s_.y s_.s s_.sX s_.sY s_.sS s_.waiting s_.top s_.aK s_.bB s_.title) 0 s_.y).bind λL=>some (.inl L))) else some (.inl s_))) else (bif (b == 83) then ((mP (aR.mk s_.g s_.x s_.y s_.s s_.sX s_.sY s_.sS false s_.top s_.aK s_.bB s_.title) r3).bind λh=>(k7 (some (h.1,h.2)))) else (bif (b == 84) then ((eI s_.g false s_.top s_.aK r3 r6).bind λM=>some (.inl (aR.mk M.1 s_.x s_.y s_.s s_.sX s_.sY s_.sS false s_.top s_.aK s_.bB s_.title))) else (bif (b == 109) then ((q7 s_.s l).bind λN=>some (.inl (aR.mk s_.g s_.x s_.y N s_.sX s_.sY s_.sS s_.waiting s_.top s_.aK s_.bB s_.title))) else (bif (b == 114) then ((fC l 0 1).bind λi=>((fC l 1 (s_.g.l.length:Int)).bind λj=>(bif (decide ((IntKind.i64.wrap ((imax 1 (dF i (s_.g.l.length:Int))) - 1)) < (IntKind.i64.wrap ((imax 1 (dF j (s_.g.l.length:Int))) - 1)))) then ((dI (aR.mk s_.g s_.x s_.y s_.s s_.sX s_.sY s_.sS s_.waiting (IntKind.i64.wrap ((imax 1 (dF i (s_.g.l.length:Int))) - 1)) (IntKind.i64.wrap ((imax 1 (dF j (s_.g.l.length:Int))) - 1)) s_.bB s_.title) 0 0).bind λO=>some (.inl O)) else some (.inl s_)))) else some (.inl s_)))))))))))))))))))))):Option (aR ⊕ (aR×(List aX)))).bind λ | .inl e753=>some (e753,([]:List aX)) | .inr w=>some w)))
def tu (s_:aR) (a:kF):Option (aR×(List aX)) :=
 (((bif (a.kind == 1) then ((qf s_ a.rune).bind λb=>(k7 (some (b.1,b.2)))) else (bif (a.kind == 2) then (bif (a.byte == 8) then ((dI s_ (IntKind.i64.wrap (s_.x - 1)) s_.y).bind λh=>(k7 (some (h,([]:List aX))))) else (bif (a.byte == 9) then ((dI s_ (IntKind.i64.wrap ((IntKind.i64.wrap ((IntKind.i64.wrap (s_.x.tdiv 8))*8))+8)) s_.y).bind λi=>(k7 (some (i,([]:List aX))))) else (((bif (a.byte == 10) then some (a.byte == 10) else (bif (a.byte == 11) then some (a.byte == 11) else some (a.byte == 12))):Option Bool).bind λj=>(bif j then ((ie s_).bind λc=>(k7 (some (c.1,c.2)))) else (bif (a.byte == 13) then ((dI s_ 0 s_.y).bind λk=>(k7 (some (k,([]:List aX))))) else some (.inl s_)))))) else (bif (a.kind == 3) then (bif (a.byte == 68) then ((ie s_).bind λd=>(k7 (some (d.1,d.2)))) else (bif (a.byte == 69) then ((ie (aR.mk s_.g 0 s_.y s_.s s_.sX s_.sY s_.sS s_.waiting s_.top s_.aK s_.bB s_.title)).bind λe=>(k7 (some (e.1,e.2)))) else (bif (a.byte == 77) then (bif (s_.y == s_.top) then ((kG s_.s).bind λm=>((eI s_.g false s_.top s_.aK 1 m).bind λn=>(k7 (some ((aR.mk n.1 s_.x s_.y s_.s s_.sX s_.sY s_.sS false s_.top s_.aK s_.bB s_.title),([]:List aX)))))) else ((dI (aR.mk s_.g s_.x s_.y s_.s s_.sX s_.sY s_.sS false s_.top s_.aK s_.bB s_.title) s_.x (IntKind.i64.wrap (s_.y - 1))).bind λo=>(k7 (some (o,([]:List aX)))))) else (bif (a.byte == 55) then some (.inl (aR.mk s_.g s_.x s_.y s_.s s_.x s_.y s_.s s_.waiting s_.top s_.aK s_.bB s_.title)) else (bif (a.byte == 56) then ((dI (aR.mk s_.g s_.x s_.y s_.sS s_.sX s_.sY s_.sS s_.waiting s_.top s_.aK s_.bB s_.title) s_.sX s_.sY).bind λp=>(k7 (some (p,([]:List aX))))) else (bif (a.byte == 99) then ((q8 s_.g.w (s_.g.l.length:Int)).bind λq=>(k7 (some (q,([]:List aX))))) else some (.inl s_))))))) else (bif (a.kind == 4) then (bif (!a.dZ) then ((nP s_ a.byte a.aW).bind λf=>(k7 (some (f.1,f.2)))) else ((((fC a.aW 0 0).bind λr=>(bif (r == 7) then (bif (a.byte == 104) then some true else some (a.byte == 108)) else some false)):Option Bool).bind λt=>(bif t then some (.inl (aR.mk s_.g s_.x s_.y s_.s s_.sX s_.sY s_.sS s_.waiting s_.top s_.aK (a.byte == 104) s_.title)) else some (.inl s_)))) else (bif (a.kind == 5) then some (.inl (aR.mk s_.g s_.x s_.y s_.s s_.sX s_.sY s_.sS s_.waiting s_.top s_.aK s_.bB a.text)) else some (.inl s_)))))):Option (aR ⊕ (aR×(List aX)))).bind λ | .inl e456=>some (e456,([]:List aX)) | .inr w=>some w)
def q9 (a:kF):Option bC :=
 ((chk (eY ([]:List Int).length a.aW.length 8)).bind λ_=>some (bC.mk a.kind (IntKind.i32.wrap a.rune) (IntKind.u8.wrap a.byte) a.dZ (([]:List Int)++a.aW) a.text))
structure yC where
 l:List (List tr)
 begun:List tr
 deriving DecidableEq,Inhabited
structure cU where
 kind:Int
 text:ByteArray
 w:Int
 h:Int
 deriving DecidableEq,Inhabited
structure kg where
 s:aR
 b:yC
 all:ByteArray
 kT:Int
 k:Int
 deriving DecidableEq,Inhabited
def qg (x:cU):Prop:=(inK .i64) x.kind/\(λs:ByteArray=>s.size<=maxLen) x.text/\(inK .i64) x.w/\(inK .i64) x.h/\True
def mz (e:cU):Option cU :=
 ((jf e.text 60).bind λr3=>(((bif (decide (e.w > 10)) then some (decide (e.w<=1000)) else some false):Option Bool).bind λe9=>(((bif e9 then some (cU.mk e.kind r3 10 e.h) else some (cU.mk e.kind r3 e.w e.h)):Option cU).bind λa=>(((bif (decide (a.h > 6)) then some (decide (a.h<=1000)) else some false):Option Bool).bind λb=>(((bif b then some (cU.mk a.kind a.text a.w 6) else some a):Option cU).bind λc=>some c)))))
structure oR where
 part:Int
 every:Int
 most:Int
 deriving DecidableEq,Inhabited
def o9 (x:oR):Prop:=(inK .i64) x.part/\(inK .i64) x.every/\(inK .i64) x.most/\True
structure gp where
 bH:Int
 w:Int
 h:Int
 to:Int
 aP:oR
 deriving DecidableEq,Inhabited
def pc (x:gp):Prop:=(inK .i64) x.bH/\(inK .i64) x.w/\(inK .i64) x.h/\(inK .i64) x.to/\o9 x.aP/\True
structure nF where
 kind:Int
 later:Int
 from_:Int
 text:ByteArray
 event:cU
 deriving DecidableEq,Inhabited
def qh (x:nF):Prop:=(inK .i64) x.kind/\(inK .i64) x.later/\(inK .i64) x.from_/\(λs:ByteArray=>s.size<=maxLen) x.text/\qg x.event/\True
def lZ:Option Bool :=
 ((jY (ic.mk 2 3 1 7 (bW.mk 100 1 2))).bind λr1=>((dY r1 0).bind λb=>((ga (aV.mk 1 2 [0,0] (ByteArray.mk #[]))).bind λd=>((cW b.2 0 9 d).bind λa=>((ga (aV.mk 2 2 [1,0] (ByteArray.mk #[]))).bind λe=>((cW a.2.2 0 9 e).bind λc=>(((bif ((b.1.length:Int) == 1) then ((idx b.1 0).bind λf=>(bif (f.to == 7) then (bif (a.2.1 == 8) then (bif ((a.1.length:Int) == 1) then ((idx a.1 0).bind λg=>(bif (g.to == 9) then (bif (c.2.1 == 0) then ((ml c.2.2).bind λh=>(bif (h == 9) then ((jz c.2.2).bind λi=>some (i == 1)) else some false)) else some false) else some false)) else some false) else some false) else some false)) else some false):Option Bool).bind λj=>some j)))))))
def oS (c:gp):Option (ic×gp) :=
 some ((ic.mk c.bH (imax (-1) (dF c.w 10)) (imax (-1) (dF c.h 5)) c.to (bW.mk c.aP.part c.aP.every c.aP.most)),(gp.mk c.bH (imax (-1) (dF c.w 10)) (imax (-1) (dF c.h 5)) c.to c.aP))
def kI (c:gp) (kT:List nF):Option Bool :=
 (Option.bind lZ λr2=>(bif (!r2) then some false else ((oS c).bind λr7=>((jY r7.1).bind λl=>((iter (σ:=bD×Int×Int) (ρ:=bD ⊕ Bool) (λa=>(((bif (decide (a.2.2 < (kT.length:Int))) then some (decide (a.2.2 < 20)) else some false):Option Bool).bind λm=>(bif m then ((idx kT a.2.2).bind λb=>(((bif (b.kind == 0) then ((mz b.event).bind λe=>((hK a.1 (ju.mk e.kind e.text e.w e.h)).bind λn=>some ([],n.2))) else (bif (b.kind == 1) then ((dY a.1 (IntKind.i64.wrap (a.2.1+(Go.bits .and .i64 b.later 7)))).bind λj=>some (j.1,j.2)) else ((jf b.text 300).bind λo=>((cW a.1 (IntKind.i64.wrap (a.2.1+(Go.bits .and .i64 b.later 7))) b.from_ o).bind λk=>some (k.1,k.2.2))))):Option ((List fH)×bD)).bind λf=>((iter (σ:=Int) (ρ:=Unit ⊕ ((bD×Int×Int) ⊕ (bD ⊕ Bool))) (λi=>(bif (decide (i < (f.1.length:Int))) then ((idx f.1 i).bind λd=>((jK d.data).bind λg=>(((bif (g.2 != 0) then some true else ((jA f.2).bind λp=>(bif (g.1.bH != p) then some true else (bif (g.1.kind != 1) then (bif (g.1.kind != 4) then some true else (bif (decide (d.to < 0)) then some true else some (decide (d.to > 4294967296)))) else (bif (decide (d.to < 0)) then some true else some (decide (d.to > 4294967296))))))):Option Bool).bind λq=>(bif q then (k8 (k8 (some false))) else some (.inl (IntKind.i64.wrap (i+1))))))) else some (.inr (.inl ())))) 0).bind λ | .inl e8227=>some (.inl (f.2,(IntKind.i64.wrap (a.2.1+(Go.bits .and .i64 b.later 7))),(IntKind.i64.wrap (a.2.2+1)))) | .inr w=>some w))) else some (.inr (.inl a.1))))) (l,0,0)).bind λ | .inl e6336=>some true | .inr w=>some w)))))
end Go.Tw.X
end

import Derived.Test.YtgiokjfkjaoeiaaGreatDoorFw2
import Derived.Test.YtgiokjfkjaoeiaaGreatDoorProg
import Derived.Test.YtgiokjfkjaoeiaaGreatDoorXp1
set_option maxHeartbeats 2000000
set_option linter.unusedVariables false
set_option linter.unusedSimpArgs false
set_option maxRecDepth 10000
namespace Go.Tw.X
open Go Go.Tw
def k7:Ty dN:=⟨4,(Option Addr×Nat),λx h=>[.int .i64 x.Np,.int .i64 x.kind,.slice h.1 x.bJ.length h.2,.string x.data],λx h=>[Im.sl (Ty.int .i64) h.1 h.2 x.bJ],λ_ _=>rfl,by simp [Value.oneCell']⟩
def aQ:Ty aG:=⟨3,Unit,λx h=>[.int .i32 x.rune,.int .i64 x.aM,.int .i64 x.part],λx h=>[],λ_ _=>rfl,by simp [Value.oneCell']⟩
def aC:Ty aE:=⟨2,(Option Addr×Nat),λx h=>[.slice h.1 x.cells.length h.2,.bool x.wrapped],λx h=>[Im.sl aQ h.1 h.2 x.cells],λ_ _=>rfl,by simp [Value.oneCell']⟩
def aD:Ty aJ:=⟨2,Unit,λx h=>[.int .i32 x.rune,.int .i64 x.aM],λx h=>[],λ_ _=>rfl,by simp [Value.oneCell']⟩
def bO:Ty aH:=⟨10,(Option Addr×Nat)×(Option Addr×Nat),λx h=>[.int .i64 x.k,.int .i64 x.w,.int .i64 x.h,.int .i64 x.x,.int .i64 x.y,.string x.title,.slice h.1.1 x.rows.length h.1.2,.int .i64 x.len,.int .i64 x.chain,.slice h.2.1 x.begun.length h.2.2],λx h=>[Im.sl aC h.1.1 h.1.2 x.rows,Im.sl aD h.2.1 h.2.2 x.begun],λ_ _=>rfl,by simp [Value.oneCell']⟩
def n9:Ty cK:=⟨4,Unit,λx h=>[.int .i64 x.kind,.string x.text,.int .i64 x.w,.int .i64 x.h],λx h=>[],λ_ _=>rfl,by simp [Value.oneCell']⟩
def bG:Ty aZ:=⟨6,(Option Addr×Nat),λx h=>[.int .i64 x.kind,.int .i32 x.rune,.int .u8 x.byte,.bool x.eG,.slice h.1 x.bJ.length h.2,.string x.text],λx h=>[Im.sl (Ty.int .i64) h.1 h.2 x.bJ],λ_ _=>rfl,by simp [Value.oneCell']⟩
def cL:Ty ju:=⟨2,Unit,λx h=>[.int .i32 x.from_,.int .i32 x.to],λx h=>[],λ_ _=>rfl,by simp [Value.oneCell']⟩
def eQ:Ty lr:=⟨5,Unit,λx h=>[.int .u8 x.first,.int .u8 x.last,.int .i64 x.jV,.int .u8 x.low,.int .u8 x.high],λx h=>[],λ_ _=>rfl,by simp [Value.oneCell']⟩
abbrev Nl (x:lO):List Value:=[.int .i64 x.kind,.string x.text,.int .i64 x.w,.int .i64 x.h]
abbrev k8 (x:aH) (a1:Option Addr) (c1:Nat) (a2:Option Addr) (c2:Nat):List Value:=[.int .i64 x.k,.int .i64 x.w,.int .i64 x.h,.int .i64 x.x,.int .i64 x.y,.string x.title,.slice a1 x.rows.length c1,.int .i64 x.len,.int .i64 x.chain,.slice a2 x.begun.length c2]
abbrev HU (x:dN) (a1:Option Addr) (c1:Nat):List Value:=[.int .i64 x.Np,.int .i64 x.kind,.slice a1 x.bJ.length c1,.string x.data]
abbrev sb (x:bB) (g1:Nat) (g2:Nat) (g3:Nat):List Value:=[.pointer (some ⟨g1,0,none⟩),.pointer (some ⟨g2,0,none⟩),.pointer (some ⟨g3,0,none⟩),.int .i64 x.k]
abbrev Nm (x:cK):List Value:=[.int .i64 x.kind,.string x.text,.int .i64 x.w,.int .i64 x.h]
abbrev sH (x:bA) (g1:Nat) (a2:Option Addr) (c2:Nat) (a3:Option Addr) (c3:Nat):List Value:=[.pointer (some ⟨g1,0,none⟩),.int .i64 x.bR.k,.int .i64 x.bR.w,.int .i64 x.bR.h,.int .i64 x.bR.x,.int .i64 x.bR.y,.string x.bR.title,.slice a2 x.bR.rows.length c2,.int .i64 x.bR.len,.int .i64 x.bR.chain,.slice a3 x.bR.begun.length c3]
abbrev l6 (x:aI) (a1:Option Addr) (c1:Nat) (a2:Option Addr) (c2:Nat):List Value:=[.int .i64 x.state,.bool x.order.eG,.bool x.order.nB,.bool x.order.any,.bool x.order.some,.int .i64 x.order.n,.slice a1 x.order.bJ.length c1,.string x.text,.int .u8 x.cO.lead,.int .i32 x.cO.rune,.int .i64 x.cO.jV,.slice a2 x.out.length c2]
abbrev mh (x:aI) (a1:Option Addr) (c1:Nat):List Value:=[.int .i64 x.state,.bool x.order.eG,.bool x.order.nB,.bool x.order.any,.bool x.order.some,.int .i64 x.order.n,.slice a1 x.order.bJ.length c1,.string x.text,.int .u8 x.cO.lead,.int .i32 x.cO.rune,.int .i64 x.cO.jV,.slice none 0 0]
abbrev QJ (x:bC) (a1:Option Addr) (c1:Nat) (a2:Option Addr) (c2:Nat):List Value:=[.int .i64 x.id,.int .i64 x.key,.int .i64 x.base,.slice a1 x.parts.length c1,.slice a2 x.there.length c2,.int .i64 x.due]
abbrev qt (x:aK) (a1:Option Addr) (c1:Nat) (a2:Option Addr) (c2:Nat) (a3:Option Addr) (c3:Nat) (a4:Option Addr) (c4:Nat) (a5:Option Addr) (c5:Nat) (a6:Option Addr) (c6:Nat) (a7:Option Addr) (c7:Nat):List Value:=[.int .i64 x.config.part,.int .i64 x.config.every,.int .i64 x.config.most,.int .i64 x.current.k,.int .i64 x.current.w,.int .i64 x.current.h,.int .i64 x.current.x,.int .i64 x.current.y,.string x.current.title,.slice a1 x.current.rows.length c1,.int .i64 x.current.len,.int .i64 x.current.chain,.slice a2 x.current.begun.length c2,.int .i64 x.aN.k,.int .i64 x.aN.w,.int .i64 x.aN.h,.int .i64 x.aN.x,.int .i64 x.aN.y,.string x.aN.title,.slice a3 x.aN.rows.length c3,.int .i64 x.aN.len,.int .i64 x.aN.chain,.slice a4 x.aN.begun.length c4,.slice a5 x.kept.length c5,.int .i64 x.message.id,.int .i64 x.message.key,.int .i64 x.message.base,.slice a6 x.message.parts.length c6,.slice a7 x.message.there.length c7,.int .i64 x.message.due,.int .i64 x.next]
abbrev lD (x:cQ) (v1:Option Nat):List Value:=[.int .i64 x.key,.int .i64 x.count,.map v1,.int .i64 x.bytes]
abbrev uQ (x:bE):List Value:=[.int .i64 x.ji,.int .i64 x.back,.bool x.bold,.bool x.under,.bool x.dX]
abbrev cI (x:aB) (g1:Nat):List Value:=[.pointer (some ⟨g1,0,none⟩),.int .i64 x.spot.x,.int .i64 x.spot.y,.int .i64 x.spot.aM.ji,.int .i64 x.spot.aM.back,.bool x.spot.aM.bold,.bool x.spot.aM.under,.bool x.spot.aM.dX,.int .i64 x.saved.x,.int .i64 x.saved.y,.int .i64 x.saved.aM.ji,.int .i64 x.saved.aM.back,.bool x.saved.aM.bold,.bool x.saved.aM.under,.bool x.saved.aM.dX,.bool x.waiting,.int .i64 x.top,.int .i64 x.aL,.bool x.aY,.string x.title]
abbrev z4 (x:aZ) (a1:Option Addr) (c1:Nat):List Value:=[.int .i64 x.kind,.int .i32 x.rune,.int .u8 x.byte,.bool x.eG,.slice a1 x.bJ.length c1,.string x.text]
abbrev DT (x:bQ) (a1:Option Addr) (c1:Nat) (a2:Option Addr) (c2:Nat) (v3:Option Nat):List Value:=[.int .i64 x.sum,.int .i64 x.to.k,.int .i64 x.to.w,.int .i64 x.to.h,.int .i64 x.to.x,.int .i64 x.to.y,.string x.to.title,.slice a1 x.to.rows.length c1,.int .i64 x.to.len,.int .i64 x.to.chain,.slice a2 x.to.begun.length c2,.map v3]
abbrev GO (x:bQ) (a2:Option Addr) (c2:Nat) (v3:Option Nat):List Value:=[.int .i64 x.sum,.int .i64 x.to.k,.int .i64 x.to.w,.int .i64 x.to.h,.int .i64 x.to.x,.int .i64 x.to.y,.string x.to.title,.slice none 0 0,.int .i64 x.to.len,.int .i64 x.to.chain,.slice a2 x.to.begun.length c2,.map v3]
abbrev QK (x:lr):List Value:=[.int .u8 x.first,.int .u8 x.last,.int .i64 x.jV,.int .u8 x.low,.int .u8 x.high]
def tab:Tab:=[(3,⟨.int .i64,1,8,[.int .i64 0],false,false⟩),
  (4,⟨.bool,1,1,[.bool false],false,false⟩),
  (5,⟨.int .u8,1,1,[.int .u8 0],false,false⟩),
  (9,⟨.string,1,16,[.string ⟨#[]⟩],false,false⟩),
  (21,⟨.int .i32,1,4,[.int .i32 0],false,false⟩),
  (22,⟨.slice 9,1,24,[.slice none 0 0],false,false⟩),
  (23,⟨.slice 3,1,24,[.slice none 0 0],false,false⟩),
  (24,⟨.pointer 56,1,8,[.pointer none],false,false⟩),
  (26,⟨.pointer 83,1,8,[.pointer none],false,false⟩),
  (29,⟨.struct [(3,0),(3,1),(3,2)],3,24,[.int .i64 0,.int .i64 0,.int .i64 0],true,false⟩),
  (30,⟨.pointer 65,1,8,[.pointer none],false,false⟩),
  (32,⟨.slice 46,1,24,[.slice none 0 0],false,false⟩),
  (33,⟨.int .i64,1,8,[.int .i64 0],false,false⟩),
  (37,⟨.struct [(3,0),(9,1),(3,2),(3,3)],4,40,[.int .i64 0,.string ⟨#[]⟩,.int .i64 0,.int .i64 0],true,false⟩),
  (39,⟨.slice 107,1,24,[.slice none 0 0],false,false⟩),
  (40,⟨.slice 112,1,24,[.slice none 0 0],false,false⟩),
  (42,⟨.struct [(3,0),(3,1),(3,2),(3,3),(3,4),(9,5),(39,6),(3,7),(3,8),(40,9)],10,120,[.int .i64 0,.int .i64 0,.int .i64 0,.int .i64 0,.int .i64 0,.string ⟨#[]⟩,.slice none 0 0,.int .i64 0,.int .i64 0,.slice none 0 0],true,false⟩),
  (46,⟨.struct [(3,0),(3,1),(23,2),(9,3)],4,56,[.int .i64 0,.int .i64 0,.slice none 0 0,.string ⟨#[]⟩],true,false⟩),
  (52,⟨.pointer 115,1,8,[.pointer none],false,false⟩),
  (53,⟨.pointer 76,1,8,[.pointer none],false,false⟩),
  (54,⟨.pointer 124,1,8,[.pointer none],false,false⟩),
  (56,⟨.struct [(52,0),(53,1),(54,2),(3,3)],4,32,[.pointer none,.pointer none,.pointer none,.int .i64 0],true,false⟩),
  (58,⟨.slice 60,1,24,[.slice none 0 0],false,false⟩),
  (60,⟨.struct [(3,0),(9,1),(3,2),(3,3)],4,40,[.int .i64 0,.string ⟨#[]⟩,.int .i64 0,.int .i64 0],true,false⟩),
  (63,⟨.pointer 86,1,8,[.pointer none],false,false⟩),
  (65,⟨.struct [(63,0),(42,1)],11,128,[.pointer none,.int .i64 0,.int .i64 0,.int .i64 0,.int .i64 0,.int .i64 0,.string ⟨#[]⟩,.slice none 0 0,.int .i64 0,.int .i64 0,.slice none 0 0],true,false⟩),
  (67,⟨.slice 42,1,24,[.slice none 0 0],false,false⟩),
  (71,⟨.struct [(4,0),(4,1),(4,2),(4,3),(3,4),(23,5)],6,40,[.bool false,.bool false,.bool false,.bool false,.int .i64 0,.slice none 0 0],true,false⟩),
  (73,⟨.struct [(5,0),(21,1),(3,2)],3,16,[.int .u8 0,.int .i32 0,.int .i64 0],true,false⟩),
  (74,⟨.slice 136,1,24,[.slice none 0 0],false,false⟩),
  (76,⟨.struct [(3,0),(71,1),(9,7),(73,8),(74,11)],12,104,[.int .i64 0,.bool false,.bool false,.bool false,.bool false,.int .i64 0,.slice none 0 0,.string ⟨#[]⟩,.int .u8 0,.int .i32 0,.int .i64 0,.slice none 0 0],true,false⟩),
  (79,⟨.slice 4,1,24,[.slice none 0 0],false,false⟩),
  (81,⟨.struct [(3,0),(3,1),(3,2),(22,3),(79,4),(3,5)],6,80,[.int .i64 0,.int .i64 0,.int .i64 0,.slice none 0 0,.slice none 0 0,.int .i64 0],true,false⟩),
  (83,⟨.struct [(29,0),(42,3),(42,13),(67,23),(81,24),(3,30)],31,376,[.int .i64 0,.int .i64 0,.int .i64 0,.int .i64 0,.int .i64 0,.int .i64 0,.int .i64 0,.int .i64 0,.string ⟨#[]⟩,.slice none 0 0,.int .i64 0,.int .i64 0,.slice none 0 0,.int .i64 0,.int .i64 0,.int .i64 0,.int .i64 0,.int .i64 0,.string ⟨#[]⟩,.slice none 0 0,.int .i64 0,.int .i64 0,.slice none 0 0,.slice none 0 0,.int .i64 0,.int .i64 0,.int .i64 0,.slice none 0 0,.slice none 0 0,.int .i64 0,.int .i64 0],true,false⟩),
  (84,⟨.map 3 9,1,8,[.map none],false,false⟩),
  (86,⟨.struct [(3,0),(3,1),(84,2),(3,3)],4,32,[.int .i64 0,.int .i64 0,.map none,.int .i64 0],true,false⟩),
  (99,⟨.slice 5,1,24,[.slice none 0 0],false,false⟩),
  (105,⟨.slice 143,1,24,[.slice none 0 0],false,false⟩),
  (107,⟨.struct [(105,0),(4,1)],2,32,[.slice none 0 0,.bool false],true,false⟩),
  (112,⟨.struct [(21,0),(3,1)],2,16,[.int .i32 0,.int .i64 0],true,true⟩),
  (113,⟨.slice 40,1,24,[.slice none 0 0],false,false⟩),
  (115,⟨.struct [(113,0),(23,1),(40,2)],3,72,[.slice none 0 0,.slice none 0 0,.slice none 0 0],true,false⟩),
  (117,⟨.pointer 169,1,8,[.pointer none],false,false⟩),
  (120,⟨.struct [(3,0),(3,1),(4,2),(4,3),(4,4)],5,24,[.int .i64 0,.int .i64 0,.bool false,.bool false,.bool false],true,false⟩),
  (122,⟨.struct [(3,0),(3,1),(120,2)],7,40,[.int .i64 0,.int .i64 0,.int .i64 0,.int .i64 0,.bool false,.bool false,.bool false],true,false⟩),
  (124,⟨.struct [(117,0),(122,1),(122,8),(4,15),(3,16),(3,17),(4,18),(9,19)],20,136,[.pointer none,.int .i64 0,.int .i64 0,.int .i64 0,.int .i64 0,.bool false,.bool false,.bool false,.int .i64 0,.int .i64 0,.int .i64 0,.int .i64 0,.bool false,.bool false,.bool false,.bool false,.int .i64 0,.int .i64 0,.bool false,.string ⟨#[]⟩],true,false⟩),
  (136,⟨.struct [(3,0),(21,1),(5,2),(4,3),(23,4),(9,5)],6,56,[.int .i64 0,.int .i32 0,.int .u8 0,.bool false,.slice none 0 0,.string ⟨#[]⟩],true,false⟩),
  (143,⟨.struct [(21,0),(3,1),(3,2)],3,24,[.int .i32 0,.int .i64 0,.int .i64 0],true,true⟩),
  (154,⟨.pointer 156,1,8,[.pointer none],false,false⟩),
  (156,⟨.struct [(154,0),(99,1)],2,32,[.pointer none,.slice none 0 0],true,false⟩),
  (162,⟨.map 3 107,1,8,[.map none],false,false⟩),
  (164,⟨.struct [(3,0),(42,1),(162,11)],12,136,[.int .i64 0,.int .i64 0,.int .i64 0,.int .i64 0,.int .i64 0,.int .i64 0,.string ⟨#[]⟩,.slice none 0 0,.int .i64 0,.int .i64 0,.slice none 0 0,.map none],true,false⟩),
  (169,⟨.struct [(3,0),(39,1)],2,32,[.int .i64 0,.slice none 0 0],true,false⟩),
  (182,⟨.struct [(99,0)],1,24,[.slice none 0 0],true,false⟩),
  (183,⟨.pointer 182,1,8,[.pointer none],false,false⟩),
  (199,⟨.int .u32,1,4,[.int .u32 0],false,false⟩),
  (225,⟨.struct [(9,0),(33,1)],2,24,[.string ⟨#[]⟩,.int .i64 0],true,false⟩),
  (235,⟨.slice 21,1,24,[.slice none 0 0],false,false⟩),
  (242,⟨.slice 244,1,24,[.slice none 0 0],false,false⟩),
  (244,⟨.struct [(21,0),(21,1)],2,8,[.int .i32 0,.int .i32 0],true,false⟩),
  (245,⟨.array 13 244,26,104,[.int .i32 0,.int .i32 0,.int .i32 0,.int .i32 0,.int .i32 0,.int .i32 0,.int .i32 0,.int .i32 0,.int .i32 0,.int .i32 0,.int .i32 0,.int .i32 0,.int .i32 0,.int .i32 0,.int .i32 0,.int .i32 0,.int .i32 0,.int .i32 0,.int .i32 0,.int .i32 0,.int .i32 0,.int .i32 0,.int .i32 0,.int .i32 0,.int .i32 0,.int .i32 0],true,false⟩),
  (246,⟨.array 14 244,28,112,[.int .i32 0,.int .i32 0,.int .i32 0,.int .i32 0,.int .i32 0,.int .i32 0,.int .i32 0,.int .i32 0,.int .i32 0,.int .i32 0,.int .i32 0,.int .i32 0,.int .i32 0,.int .i32 0,.int .i32 0,.int .i32 0,.int .i32 0,.int .i32 0,.int .i32 0,.int .i32 0,.int .i32 0,.int .i32 0,.int .i32 0,.int .i32 0,.int .i32 0,.int .i32 0,.int .i32 0,.int .i32 0],true,false⟩),
  (254,⟨.int .u64,1,8,[.int .u64 0],false,false⟩),
  (256,⟨.array 3 3,3,24,[.int .i64 0,.int .i64 0,.int .i64 0],true,false⟩),
  (259,⟨.array 16 199,16,64,[.int .u32 0,.int .u32 0,.int .u32 0,.int .u32 0,.int .u32 0,.int .u32 0,.int .u32 0,.int .u32 0,.int .u32 0,.int .u32 0,.int .u32 0,.int .u32 0,.int .u32 0,.int .u32 0,.int .u32 0,.int .u32 0],true,false⟩),
  (267,⟨.int .u64,1,8,[.int .u64 0],false,false⟩),
  (271,⟨.struct [(5,0),(5,1),(3,2),(5,3),(5,4)],5,24,[.int .u8 0,.int .u8 0,.int .i64 0,.int .u8 0,.int .u8 0],true,false⟩),
  (275,⟨.slice 105,1,24,[.slice none 0 0],false,false⟩),
  (276,⟨.array 8 271,40,192,[.int .u8 0,.int .u8 0,.int .i64 0,.int .u8 0,.int .u8 0,.int .u8 0,.int .u8 0,.int .i64 0,.int .u8 0,.int .u8 0,.int .u8 0,.int .u8 0,.int .i64 0,.int .u8 0,.int .u8 0,.int .u8 0,.int .u8 0,.int .i64 0,.int .u8 0,.int .u8 0,.int .u8 0,.int .u8 0,.int .i64 0,.int .u8 0,.int .u8 0,.int .u8 0,.int .u8 0,.int .i64 0,.int .u8 0,.int .u8 0,.int .u8 0,.int .u8 0,.int .i64 0,.int .u8 0,.int .u8 0,.int .u8 0,.int .u8 0,.int .i64 0,.int .u8 0,.int .u8 0],true,false⟩)]
theorem Pz:mw Go.Proofs.Tryz.prog tab:=FB (by kernel_rfl)
noncomputable def G:Pg:=⟨Go.Proofs.Tryz.prog,tab,Pz,none⟩
theorem mo:G.P.follows .mixedOrders=true:=by kernel_rfl
theorem NR:K8 G.P 5=true:=by kernel_rfl
theorem KT:GX G.P 9 false=true:=by kernel_rfl
theorem Nn:GX G.P 107 true=true:=by kernel_rfl
variable {A0 A1 A2 A3 A4 A5 A6 A7 A8 : Option Addr} {C0 C1 C2 C3 C4 C5 C6 C7 C8 : Nat}
variable {N0 N1 N2 N3 N4 : Nat}
variable {M0 : Option Nat}
theorem Fo {r:cF} (H:rF=some r):CT G 27 [] [] [] (λh:Nat×(Option Addr×Nat)×(Option Addr×Nat)×(Option Addr×Nat)=> .pointer (some ⟨h.1,0,none⟩)) (λh=>[Ch.box h.1 115 [.slice h.2.1.1 r.l.length h.2.1.2,.slice h.2.2.1.1 r.bV.length h.2.2.1.2,.slice h.2.2.2.1 r.begun.length h.2.2.2.2],Ch.arr (Ty.slice aD) 40 h.2.1.1 h.2.1.2 r.l,Ch.arr (Ty.int .i64) 3 h.2.2.1.1 h.2.2.1.2 r.bV,Ch.arr aD 112 h.2.2.2.1 h.2.2.2.2 r.begun]) (λh=>[]):=by
 delta rF at H
 refine Cf Go.Proofs.Tryz.func27 λK=> ?_
 refine Z2 ?_
 refine La [] [] (Ac.bs (ty:=(Ty.int .i64)) (xs:=[0]) (.cons () [] rfl .nil) rfl rfl rfl rfl rfl rfl rfl) λg1=> ?_
 refine Z0 ?_
 refine Lx λg3=> ?_
 refine Z0 ?_
 refine E.iS (Ty.slice aD) 40 ?_
 refine E.iS aD 112 ?_
 cases H
 exact Eo1 (g3,(none,0),((some ⟨g1,0,none⟩),1),(none,0)) [2,1,1,0] []
theorem lM {n_:Int} {lo:Int} {hi:Int} {r:Int} (H:jy n_ lo hi=some r):CT G 99 [.int .i64 n_,.int .i64 lo,.int .i64 hi] [] [] (λ_:Unit=> .int .i64 r) (λh=>[]) (λh=>[]):=by
 delta jy at H
 refine Cf Go.Proofs.Tryz.func99 λK=> ?_
 refine Z2 ?_
 cases H
 exact Eo1 () [] []
theorem nD {n_:Int} {r:Int} (H:jZ n_=some r):CT G 95 [.int .i64 n_] [] [] (λ_:Unit=> .int .i64 r) (λh=>[]) (λh=>[]):=by
 delta jZ at H
 refine Cf Go.Proofs.Tryz.func95 λK=> ?_
 refine Z2 ?_
 have ⟨r1,h2,H3⟩:=bnd H
 refine Lk [] [] (lM h2) λ⟨⟩=> ?_
 refine Z0 ?_
 cases H3
 exact Eo1 () [] []
theorem pQ {n_:Int} {lo:Int} {hi:Int} {r:Int} (H:kZ n_ lo hi=some r):CT G 136 [.int .i64 n_,.int .i64 lo,.int .i64 hi] [] [] (λ_:Unit=> .int .i64 r) (λh=>[]) (λh=>[]):=by
 delta kZ at H
 refine Cf Go.Proofs.Tryz.func136 λK=> ?_
 refine Z2 ?_
 cases H
 exact Eo1 () [] []
theorem oQ {aM:Int} {r:aG} (H:jv aM=some r):CT G 97 [.int .i64 aM] [] [] (λ_:Unit=> .agg #[.int .i32 r.rune,.int .i64 r.aM,.int .i64 r.part]) (λh=>[]) (λh=>[]):=by
 delta jv at H
 refine Cf Go.Proofs.Tryz.func97 λK=> ?_
 refine Z1 ?_
 refine Ll λg1=> ?_
 refine Z1 ?_
 refine Lt 0 ?_
 refine Z0 ?_
 cases H
 exact Eo () [] [] (.cell 0 rfl rfl rfl .nil)
theorem B7 {x_:Int} {y:Int} {r:Int×Int} (H:pc x_ y=some r):CT G 212 [.int .u64 x_,.int .u64 y] [] [] (λ_:Unit=> .tuple #[.int .u64 r.1,.int .u64 r.2]) (λh=>[]) (λh=>[]):=by
 delta pc at H
 refine Cf Go.Proofs.Tryz.func212 λK=> ?_
 refine Z3 ?_
 refine Z3 ?_
 refine Z3 ?_
 refine Z3 ?_
 cases H
 exact Eo () [] [] (.tmp rfl (.tmp rfl .nil))
theorem Fp {x_:Int} {y:Int} {r:Int×Int} (H:pB x_ y=some r):CT G 202 [.int .u64 x_,.int .u64 y] [] [] (λ_:Unit=> .tuple #[.int .u64 r.1,.int .u64 r.2]) (λh=>[]) (λh=>[]):=by
 delta pB at H
 refine Cf Go.Proofs.Tryz.func202 λK=> ?_
 refine Y2 ?_
 refine T.cond rfl (λh=>nomatch h) (λ_=> ?_)
 refine Z1 ?_
 have ⟨r1,h2,H3⟩:=bnd H
 refine Lk [] [] (B7 h2) λ⟨⟩=> ?_
 refine Z1 ?_
 cases H3
 exact Eo () [] [] (.tmp rfl (.tmp rfl .nil))
theorem m6 {x_:List aG} {count:Int} {r:(List aG)} (H:eJ x_ count=some r):CT G 172 [.slice A0 x_.length C0,.int .i64 count] [] [Im.sl aQ A0 C0 x_] (λh:(Option Addr×Nat)=> .slice h.1 r.length h.2) (λh=>[Ch.arr aQ 143 h.1 h.2 r]) (λh=>[]):=by
 delta eJ at H
 refine Cf Go.Proofs.Tryz.func172 λK=> ?_
 refine Z3 ?_
 refine Tb H (λH2=> ?_) λH2=> ?_
 ·cases H2
 refine Z1 ?_
 have ⟨r3,h4,H5⟩:=bnd H2
 refine Lk [] [] (Fp h4) λ⟨⟩=> ?_
 refine Y2 ?_
 have ⟨e9,m,n⟩:=bnd H5
 refine Tj0 [(26,.bool e9)] [0,6] [] [] ?_ ?_
 ·refine Z0 ?_
  refine Lw 23 m (λg=> ?_) λg=> ?_
  ·refine Z0 ?_
   cases g
   exact Eg0 [] 0
  refine Z0 ?_
  cases g
  exact Eg0 [] 0
 refine Tb n (λi=> ?_) λi=> ?_
 ·cases i
 refine Z1 ?_
 have ⟨_,o,p⟩:=bnd i
 refine La [] [] (Ac.mk (ty:=aQ) (aG.mk 0 0 0) () o (λ_ _ f hf=>by cases hf) rfl rfl rfl rfl rfl rfl rfl) λq=> ?_
 refine Z1 ?_
 refine La [0] [0] (Ac.cp (ty:=aQ) rfl rfl rfl rfl rfl rfl rfl) λ_=> ?_
 refine L.sl 7 (k':=(cpy (List.replicate (IntKind.i64.wrap r3.2).toNat (aG.mk 0 0 0)) x_).length) (Ef ..) rfl ?_
 refine Y1 ?_
 have ⟨j,s,t⟩:=bnd p
 refine Tjh (η:=(Option Addr×Nat)) (λh=>(λd e=>[(7,.slice d j.length e)]) h.1 h.2) [] (λh=>(λd e=>[Ch.arr aQ 143 d e j]) h.1 h.2) [] (λ_=>[]) ?_ ?_
 ·refine Yl0 ?_
  refine Tq (η:=(Option Addr×Nat)) (λa h=>(λb c=>[(7,.slice b a.1.length c),(8,.int .i64 a.2)]) h.1 h.2) [] (λa h=>(λb c=>[Ch.arr aQ 143 b c a.1]) h.1 h.2) [] (λ_ _=>[]) ((some ⟨q,0,none⟩),(IntKind.i64.wrap r3.2).toNat) [0] [] s ?_
  rintro k_ a ⟨b,c⟩ C u v w
  refine Z2 ?_
  refine Tb u (λk=> ?_) λk=> ?_
  ·refine Yl0 ?_
   refine Td [] [] mo ?_
   refine Dq 0 ?_
   refine Dq 1 ?_
   refine Dq 2 ?_
   have ⟨_,l,x⟩:=bnd k
   refine D.cap 0 rfl λy=> ?_
   refine Dy 3 (Yl.sv (ty:=aQ) y l rfl rfl rfl rfl rfl rfl rfl rfl) ?_
   refine Dq 4 ?_
   refine Dq 5 ?_
   have ⟨_,z,A⟩:=bnd x
   refine D.cap 0 rfl λB=> ?_
   refine Dy 6 (Yl.sv (ty:=aQ) B z rfl rfl rfl rfl rfl rfl rfl rfl) ?_
   refine Da [0] [] rfl rfl (Ac.cps (ty:=aQ) l rfl rfl rfl rfl rfl rfl rfl) λ_=> ?_
   refine Dq 8 ?_
   refine Dq 9 ?_
   refine Dn ?_
   refine E.sl 7 (k':=(Aa a.1 a.2.toNat).length) (Ih l) rfl ?_
   refine Z0 ?_
   cases A
   exact Eg (_,(b,c)) (v _ rfl) [0] [] 0
  refine Z0 ?_
  cases k
  have hb:=w _ rfl
  subst j
  exact Eg (b,c) trivial [0] [] 0
 rintro ⟨d,e⟩
 refine Z1 ?_
 cases t
 exact Eo1 (d,e) [0] []
theorem pq {n_:Int} {aM:Int} {r:(List aG)} (H:kH n_ aM=some r):CT G 135 [.int .i64 n_,.int .i64 aM] [] [] (λh:(Option Addr×Nat)=> .slice h.1 r.length h.2) (λh=>[Ch.arr aQ 143 h.1 h.2 r]) (λh=>[]):=by
 delta kH at H
 refine Cf Go.Proofs.Tryz.func135 λK=> ?_
 refine Z2 ?_
 have ⟨r1,h2,H3⟩:=bnd H
 refine Lk [] [] (oQ h2) λ⟨⟩=> ?_
 refine La [] [] (Ac.bs (ty:=aQ) (xs:=[r1]) (.cons () [] rfl .nil) rfl rfl rfl rfl rfl rfl rfl) λg4=> ?_
 refine Z0 ?_
 refine L.frz 0 rfl ?_
 have ⟨r7,h8,H9⟩:=bnd H3
 refine Lk [] [0] (m6 h8) λ⟨a,b⟩=> ?_
 refine Z0 ?_
 cases H9
 exact Eo1 (a,b) [0] []
theorem qk {w:Int} {aM:Int} {r:aE} (H:kI w aM=some r):CT G 96 [.int .i64 w,.int .i64 aM] [] [] (λh:(Option Addr×Nat)=> .agg #[.slice h.1 r.cells.length h.2,.bool r.wrapped]) (λh=>[]) (λh=>[Im.sl aQ h.1 h.2 r.cells]):=by
 delta kI at H
 refine Cf Go.Proofs.Tryz.func96 λK=> ?_
 refine Z1 ?_
 refine Ll λg1=> ?_
 refine Z1 ?_
 have ⟨r2,h3,H4⟩:=bnd H
 refine Lk [] [] (pQ h3) λ⟨⟩=> ?_
 refine Z0 ?_
 have ⟨r5,h6,H7⟩:=bnd H4
 refine Lk [] [] (pq h6) λ⟨a8,c9⟩=> ?_
 refine Z0 ?_
 refine Lt 1 ?_
 refine Z0 ?_
 refine E.frz 1 rfl ?_
 cases H7
 exact Eo (a8,c9) [] [0] (.cell 0 rfl rfl rfl .nil)
theorem Fq {w:Int} {h_:Int} {r:aX} (H:pC w h_=some r):CT G 55 [.int .i64 w,.int .i64 h_] [] [] (λh:Nat×(Option Addr×Nat)=> .pointer (some ⟨h.1,0,none⟩)) (λh=>[Ch.box h.1 169 [.int .i64 r.w,.slice h.2.1 r.l.length h.2.2],Ch.arr aC 107 h.2.1 h.2.2 r.l]) (λh=>[]):=by
 delta pC at H
 refine Cf Go.Proofs.Tryz.func55 λK=> ?_
 refine Z2 ?_
 have ⟨r1,h2,H3⟩:=bnd H
 refine Lk [] [] (nD h2) λ⟨⟩=> ?_
 refine Z0 ?_
 refine Lx λg4=> ?_
 refine Z2 ?_
 have ⟨r5,h6,H7⟩:=bnd H3
 refine Lk [] [] (nD h6) λ⟨⟩=> ?_
 refine Z0 ?_
 have ⟨d,i,j⟩:=bnd H7
 refine Tjh (η:=(Option Addr×Nat)) (λ_=>[]) [5] (λh=>(λe f=>[Ch.arr aC 107 e f d.l,Ch.box g4 169 [.int .i64 d.w,.slice e d.l.length f]]) h.1 h.2) [] (λ_=>[]) ?_ ?_
 ·refine Yl0 ?_
  refine T.iS aC 107 ?_
  refine Tq (η:=(Option Addr×Nat)) (λa h=>(λb c=>[(12,.int .i64 a.2)]) h.1 h.2) [5,11] (λa h=>(λb c=>[Ch.arr aC 107 b c a.1.l,Ch.box g4 169 [.int .i64 a.1.w,.slice b a.1.l.length c]]) h.1 h.2) [] (λ_ _=>[]) (none,0) [0,0] [] i ?_
  rintro k_ a ⟨b,c⟩ z k m n
  refine Y2 ?_
  refine Tb k (λg=> ?_) λg=> ?_
  ·refine Z1 ?_
   refine Yl0 ?_
   refine Td [14] [1] mo ?_
   refine Dq 0 ?_
   refine Dq 1 ?_
   refine Dq 2 ?_
   refine Dq 3 ?_
   refine Db 4 0 ?_
   refine Dq 5 ?_
   refine Dq 6 ?_
   refine Dq 7 ?_
   refine Db 8 0 ?_
   have ⟨o,p,q⟩:=bnd g
   refine Dk [] [] (qk p) λ⟨s,t⟩=> ?_
   refine Da [] [0] rfl rfl (Ac.bs (ty:=aC) (xs:=[o]) (.cons (s,t) [0] rfl .nil) rfl rfl rfl rfl rfl rfl rfl) λA=> ?_
   refine D.frz 0 rfl ?_
   have ⟨_,u,v⟩:=bnd q
   refine Da [0] [0] rfl rfl (Ac.ap (ty:=aC) u rfl rfl rfl rfl rfl rfl rfl) ?_
   rintro ⟨x,y⟩
   refine Dq 12 ?_
   refine Dq 13 ?_
   refine Dt 0 ?_
   refine Dn ?_
   refine Z0 ?_
   cases v
   exact Eg (_,(x,y)) (m _ rfl) [1,0] [] 2
  refine Z0 ?_
  cases g
  have hb:=n _ rfl
  subst d
  exact Eg (b,c) trivial [0,0] [] 0
 rintro ⟨e,f⟩
 refine Z1 ?_
 cases j
 exact Eo1 (g4,(e,f)) [1,0] []
theorem gX {g:aX} {r:Int×Int} (H:eD g=some r):CT G 56 [.pointer (some ⟨N0,0,none⟩)] [Ch.box N0 169 [.int .i64 g.w,.slice A0 g.l.length C0],Ch.arr aC 107 A0 C0 g.l] [] (λ_:Unit=> .tuple #[.int .i64 r.1,.int .i64 r.2]) (λh=>[Ch.box N0 169 [.int .i64 g.w,.slice A0 g.l.length C0],Ch.arr aC 107 A0 C0 g.l]) (λh=>[]):=by
 delta eD at H
 refine Cf Go.Proofs.Tryz.func56 λK=> ?_
 refine Y2 ?_
 refine Td [] [0,0] mo ?_
 refine Dq 0 ?_
 refine Dq 1 ?_
 refine Dq 2 ?_
 refine Db 3 0 ?_
 refine Dq 4 ?_
 refine Dq 5 ?_
 refine Dq 6 ?_
 refine Db 7 0 ?_
 refine Dq 8 ?_
 refine Dq 9 ?_
 refine Dq 10 ?_
 refine Dn ?_
 refine Z0 ?_
 cases H
 exact Eo () [0,0] [] (.tmp rfl (.tmp rfl .nil))
theorem wy {w:Int} {h_:Int} {r:aB} (H:mL w h_=some r):CT G 28 [.int .i64 w,.int .i64 h_] [] [] (λh:Nat×Nat×(Option Addr×Nat)=> .pointer (some ⟨h.1,0,none⟩)) (λh=>[Ch.box h.1 124 (cI r h.2.1),Ch.box h.2.1 169 [.int .i64 r.g.w,.slice h.2.2.1 r.g.l.length h.2.2.2],Ch.arr aC 107 h.2.2.1 h.2.2.2 r.g.l]) (λh=>[]):=by
 delta mL at H
 refine Cf Go.Proofs.Tryz.func28 λK=> ?_
 refine Z2 ?_
 have ⟨r1,h2,H3⟩:=bnd H
 refine Lk [] [] (Fq h2) λ⟨g4,⟨a5,c6⟩⟩=> ?_
 refine Z0 ?_
 refine Lx λg8=> ?_
 refine Z1 ?_
 have ⟨r9,a,b⟩:=bnd H3
 refine Lk [1,1] [] (gX a) λ⟨⟩=> ?_
 refine Z0 ?_
 refine Lt 2 ?_
 refine Z1 ?_
 refine Lt 0 ?_
 refine Z1 ?_
 cases b
 exact Eo1 (g8,g4,(a5,c6)) [0,0,0] []
theorem x6 {w:Int} {h_:Int} {r:bB} (H:nz w h_=some r):CT G 7 [.int .i64 w,.int .i64 h_] [] [] (λh:Nat×Nat×(Option Addr×Nat)×(Option Addr×Nat)×(Option Addr×Nat)×Nat×(Option Addr×Nat)×(Option Addr×Nat)×Nat×Nat×(Option Addr×Nat)=> .pointer (some ⟨h.1,0,none⟩)) (λh=>[Ch.box h.1 56 (sb r h.2.1 h.2.2.2.2.2.1 h.2.2.2.2.2.2.2.2.1),Ch.box h.2.1 115 [.slice h.2.2.1.1 r.book.l.length h.2.2.1.2,.slice h.2.2.2.1.1 r.book.bV.length h.2.2.2.1.2,.slice h.2.2.2.2.1.1 r.book.begun.length h.2.2.2.2.1.2],Ch.arr (Ty.slice aD) 40 h.2.2.1.1 h.2.2.1.2 r.book.l,Ch.arr (Ty.int .i64) 3 h.2.2.2.1.1 h.2.2.2.1.2 r.book.bV,Ch.arr aD 112 h.2.2.2.2.1.1 h.2.2.2.2.1.2 r.book.begun,Ch.box h.2.2.2.2.2.1 76 (mh r.parser h.2.2.2.2.2.2.1.1 h.2.2.2.2.2.2.1.2),Ch.opt (r.parser.state == (3:Int)) (Ty.int .i64) 3 h.2.2.2.2.2.2.1.1 h.2.2.2.2.2.2.1.2 r.parser.order.bJ,Ch.box h.2.2.2.2.2.2.2.2.1 124 (cI r.aV h.2.2.2.2.2.2.2.2.2.1),Ch.box h.2.2.2.2.2.2.2.2.2.1 169 [.int .i64 r.aV.g.w,.slice h.2.2.2.2.2.2.2.2.2.2.1 r.aV.g.l.length h.2.2.2.2.2.2.2.2.2.2.2],Ch.arr aC 107 h.2.2.2.2.2.2.2.2.2.2.1 h.2.2.2.2.2.2.2.2.2.2.2 r.aV.g.l]) (λh=>[]):=by
 delta nz at H
 refine Cf Go.Proofs.Tryz.func7 λK=> ?_
 refine Z2 ?_
 have ⟨r1,h2,H3⟩:=bnd H
 refine Lk [] [] (Fo h2) λ⟨g4,⟨a5,c6⟩,⟨a7,c8⟩,⟨a9,a⟩⟩=> ?_
 refine Z0 ?_
 refine Lx λb=> ?_
 refine Z0 ?_
 have ⟨m,c,d⟩:=bnd H3
 refine Lk [] [] (wy c) λ⟨e,f,⟨i,j⟩⟩=> ?_
 refine Z0 ?_
 refine Lx λk=> ?_
 refine Z0 ?_
 refine E.iS (Ty.int .i64) 3 ?_
 refine E.GZ 0 (0 == (3:Int)) rfl ?_
 cases d
 exact Eo1 (k,g4,(a5,c6),(a7,c8),(a9,a),b,(none,0),(none,0),e,f,(i,j)) [1,5,5,5,5,4,0,0,0,0] []
theorem qu {n_:Int} {lo:Int} {hi:Int} {r:Int} (H:mX n_ lo hi=some r):CT G 57 [.int .i64 n_,.int .i64 lo,.int .i64 hi] [] [] (λ_:Unit=> .int .i64 r) (λh=>[]) (λh=>[]):=by
 delta mX at H
 refine Cf Go.Proofs.Tryz.func57 λK=> ?_
 refine Z2 ?_
 cases H
 exact Eo1 () [] []
theorem tw {c:cE} {r:cE} (H:mB c=some r):CT G 29 [.agg #[.int .i64 c.part,.int .i64 c.every,.int .i64 c.most]] [] [] (λ_:Unit=> .agg #[.int .i64 r.part,.int .i64 r.every,.int .i64 r.most]) (λh=>[]) (λh=>[]):=by
 delta mB at H
 refine Cf Go.Proofs.Tryz.func29 λK=> ?_
 refine Z1 ?_
 refine Lx λg1=> ?_
 refine Ll λg2=> ?_
 refine Y1 ?_
 refine Td [10] [0,0] mo ?_
 refine Dq 0 ?_
 refine Db 1 1 ?_
 refine Dq 3 ?_
 refine Db 4 1 ?_
 refine Dq 6 ?_
 refine Db 7 1 ?_
 have ⟨i,a,b⟩:=bnd H
 refine Dk [] [] (qu a) λ⟨⟩=> ?_
 have ⟨j,d,e⟩:=bnd b
 refine Dk [] [] (qu d) λ⟨⟩=> ?_
 have ⟨k,f,g⟩:=bnd e
 refine Dk [] [] (qu f) λ⟨⟩=> ?_
 refine Dq 9 ?_
 refine Dt 0 ?_
 refine Dn ?_
 refine Z0 ?_
 cases g
 exact Eo () [] [] (.cell 0 rfl rfl rfl .nil)
theorem wz {c:cE} {r:aK} (H:nM c=some r):CT G 8 [.agg #[.int .i64 c.part,.int .i64 c.every,.int .i64 c.most]] [] [] (λh:Nat×(Option Addr×Nat)×(Option Addr×Nat)×(Option Addr×Nat)×(Option Addr×Nat)×(Option Addr×Nat)×(Option Addr×Nat)×(Option Addr×Nat)=> .pointer (some ⟨h.1,0,none⟩)) (λh=>[Ch.box h.1 83 (qt r h.2.1.1 h.2.1.2 h.2.2.1.1 h.2.2.1.2 h.2.2.2.1.1 h.2.2.2.1.2 h.2.2.2.2.1.1 h.2.2.2.2.1.2 h.2.2.2.2.2.1.1 h.2.2.2.2.2.1.2 h.2.2.2.2.2.2.1.1 h.2.2.2.2.2.2.1.2 h.2.2.2.2.2.2.2.1 h.2.2.2.2.2.2.2.2),Ch.aro bO 42 h.2.2.2.2.2.1.1 h.2.2.2.2.2.1.2 r.kept,Ch.arr Ty.bool 4 h.2.2.2.2.2.2.2.1 h.2.2.2.2.2.2.2.2 r.message.there]) (λh=>[Im.sl aC h.2.1.1 h.2.1.2 r.current.rows,Im.sl aD h.2.2.1.1 h.2.2.1.2 r.current.begun,Im.sl aC h.2.2.2.1.1 h.2.2.2.1.2 r.aN.rows,Im.sl aD h.2.2.2.2.1.1 h.2.2.2.2.1.2 r.aN.begun,Im.sl Ty.str h.2.2.2.2.2.2.1.1 h.2.2.2.2.2.2.1.2 r.message.parts]):=by
 delta nM at H
 refine Cf Go.Proofs.Tryz.func8 λK=> ?_
 refine Z1 ?_
 refine Lx λg1=> ?_
 refine Z1 ?_
 have ⟨r2,h3,H4⟩:=bnd H
 refine Lk [] [] (tw h3) λ⟨⟩=> ?_
 refine Z0 ?_
 refine L.rv 5 (.agg #[.int .i64 r2.part,.int .i64 r2.every,.int .i64 r2.most,.int .i64 0,.int .i64 0,.int .i64 0,.int .i64 0,.int .i64 0,.string (ByteArray.mk #[]),.slice none 0 0,.int .i64 0,.int .i64 0,.slice none 0 0,.int .i64 0,.int .i64 0,.int .i64 0,.int .i64 0,.int .i64 0,.string (ByteArray.mk #[]),.slice none 0 0,.int .i64 0,.int .i64 0,.slice none 0 0,.slice none 0 0,.int .i64 0,.int .i64 0,.int .i64 0,.slice none 0 0,.slice none 0 0,.int .i64 0,.int .i64 1]) rfl ?_
 refine Lx λg5=> ?_
 refine Z0 ?_
 refine E.jk [Im.sl aC none 0 []] (λA w _ _ f hf=>by rw [List.mem_singleton.1 hf]; exact Im.gF A w) ?_
 refine E.jk [Im.sl aD none 0 []] (λA w _ _ f hf=>by rw [List.mem_singleton.1 hf]; exact Im.gF A w) ?_
 refine E.jk [Im.sl aC none 0 []] (λA w _ _ f hf=>by rw [List.mem_singleton.1 hf]; exact Im.gF A w) ?_
 refine E.jk [Im.sl aD none 0 []] (λA w _ _ f hf=>by rw [List.mem_singleton.1 hf]; exact Im.gF A w) ?_
 refine E.iS bO 42 ?_
 refine E.PJ 0 rfl ?_
 refine E.jk [Im.sl Ty.str none 0 []] (λA w _ _ f hf=>by rw [List.mem_singleton.1 hf]; exact Im.gF A w) ?_
 refine E.iS Ty.bool 4 ?_
 cases H4
 exact Eo1 (g5,(none,0),(none,0),(none,0),(none,0),(none,0),(none,0),(none,0)) [2,1,0] [4,3,2,1,0]
theorem x8 {r:bA} (H:oI=some r):CT G 9 [] [] [] (λh:Nat×Nat×Option Nat×(Option Addr×Nat)×(Option Addr×Nat)=> .pointer (some ⟨h.1,0,none⟩)) (λh=>[Ch.box h.1 65 (sH r h.2.1 h.2.2.2.1.1 h.2.2.2.1.2 h.2.2.2.2.1 h.2.2.2.2.2),Ch.box h.2.1 86 (lD r.slot h.2.2.1),Ch.mp Ty.str false h.2.2.1 r.slot.parts]) (λh=>[Im.sl aC h.2.2.2.1.1 h.2.2.2.1.2 r.bR.rows,Im.sl aD h.2.2.2.2.1 h.2.2.2.2.2 r.bR.begun]):=by
 delta oI at H
 refine Cf Go.Proofs.Tryz.func9 λK=> ?_
 refine Z2 ?_
 refine Lx λg1=> ?_
 refine Z0 ?_
 refine Lx λg2=> ?_
 refine Z0 ?_
 refine E.mp0 Ty.str false ?_
 refine E.jk [Im.sl aC none 0 []] (λA w _ _ f hf=>by rw [List.mem_singleton.1 hf]; exact Im.gF A w) ?_
 refine E.jk [Im.sl aD none 0 []] (λA w _ _ f hf=>by rw [List.mem_singleton.1 hf]; exact Im.gF A w) ?_
 cases H
 exact Eo1 (g2,g1,none,(none,0),(none,0)) [1,1,0] [1,0]
theorem DU {s_:ByteArray} {n_:Int} {r:ByteArray} (H:oJ s_ n_=some r):CT G 11 [.string s_,.int .i64 n_] [] [] (λ_:Unit=> .string r) (λh=>[]) (λh=>[]):=by
 delta oJ at H
 refine Cf Go.Proofs.Tryz.func11 λK=> ?_
 refine Z3 ?_
 refine Tb H (λH4=> ?_) λH4=> ?_
 ·refine Z1 ?_
  have ⟨_,h5,H6⟩:=bnd H4
  refine Ly (Yl.sc h5 rfl rfl rfl rfl rfl rfl) ?_
  refine Z0 ?_
  cases H6
  exact Eo1 () [] []
 refine Z1 ?_
 cases H4
 exact Eo1 () [] []
theorem uv {e:lO} {r:Int} (H:jT e=some r):CT G 30 [.agg (Nl e).toArray] [] [] (λ_:Unit=> .int .i64 r) (λh=>[]) (λh=>[]):=by
 delta jT at H
 refine Cf Go.Proofs.Tryz.func30 λK=> ?_
 refine Z1 ?_
 refine Lx λg1=> ?_
 refine Z2 ?_
 have ⟨a,l,b⟩:=bnd H
 refine Tj (η:=Unit×Unit) (λh=>a = .inl h.1) (λ_=>[]) [] (λ_=>[]) [0] (λ_=>[]) ?_ ?_
 ·refine Zl ?_
  refine Z1 ?_
  refine Tb l (λc=> ?_) λc=> ?_
  ·refine Z1 ?_
   refine Tb c (λd=> ?_) λd=> ?_
   ·refine Z1 ?_
    obtain ⟨t,hz,m⟩:=eC d
    subst a
    obtain rfl:=(sm b).symm
    refine Z0 ?_
    cases m
    exact Eo1 () [] []
   refine Z0 ?_
   cases d
   exact Eg (_,()) rfl [0] [] 0
  refine Z1 ?_
  refine Tb c (λf=> ?_) λf=> ?_
  ·refine Y1 ?_
   have ⟨n,o,p⟩:=bnd f
   refine Tj0 [(30,.bool n)] [] [] [0] ?_ ?_
   ·refine Z0 ?_
    refine Lw 16 o (λg=> ?_) λg=> ?_
    ·refine Z0 ?_
     cases g
     exact Eg0 [0] 0
    refine Z0 ?_
    refine Lw 21 g (λi=> ?_) λi=> ?_
    ·refine Z0 ?_
     cases i
     exact Eg0 [0] 0
    refine Z0 ?_
    refine Lw 26 i (λj=> ?_) λj=> ?_
    ·refine Z0 ?_
     cases j
     exact Eg0 [0] 0
    refine Z0 ?_
    cases j
    exact Eg0 [0] 0
   refine Tb p (λk=> ?_) λk=> ?_
   ·refine Z1 ?_
    obtain ⟨u,hz,q⟩:=eC k
    subst a
    obtain rfl:=(sm b).symm
    refine Z0 ?_
    cases q
    exact Eo1 () [] []
   refine Z0 ?_
   cases k
   exact Eg (_,()) rfl [0] [] 0
  refine Z1 ?_
  obtain ⟨v,hz,s⟩:=eC f
  subst a
  obtain rfl:=(sm b).symm
  refine Z0 ?_
  cases s
  exact Eo1 () [] []
 rintro ⟨w,⟨⟩⟩ hy
 subst hy
 refine Z1 ?_
 cases b
 exact Eo1 () [] []
theorem mg {n_:Int} {lo:Int} {hi:Int} {r:Int} (H:iB n_ lo hi=some r):CT G 61 [.int .i64 n_,.int .i64 lo,.int .i64 hi] [] [] (λ_:Unit=> .int .i64 r) (λh=>[]) (λh=>[]):=by
 delta iB at H
 refine Cf Go.Proofs.Tryz.func61 λK=> ?_
 refine Z2 ?_
 cases H
 exact Eo1 () [] []
theorem jq {ys:List aE} (a_0:Option Addr) (c_0:Nat) (a9:Option Addr) (c9:Nat) {lo hi:Int} (hv:Vw aC ys a_0 c_0 a9 c9 lo hi) {r:List aE} (H:eE (cut ys lo hi)=some r):CT G 100 [.slice a9 (cut ys lo hi).length c9] [Ch.arr aC 107 a_0 c_0 ys] [] (λh:(Option Addr×Nat)=> .slice h.1 r.length h.2) (λh=>[Ch.arr aC 107 h.1 h.2 r,Ch.arr aC 107 a_0 c_0 ys]) (λh=>[]):=by
  delta eE at H
  refine Cf Go.Proofs.Tryz.func100 λK=> ?_
  have ⟨_,h0,H⟩:=bnd H
  have hr:=Option.some.inj H
  refine T.seq (T.region (L.q 1 rfl (L.nil (E.then (T.seq (T.seq (T.region ?_)))))))
  refine L.q 1 rfl ?_
  refine L.PG 0 hv rfl rfl rfl rfl rfl rfl rfl rfl rfl (λhx=> ?_) ?_
  · refine L.nil (E.then (T.cond rfl (λ_=> ?_) (λh=>nomatch h)))
    refine T.seq (T.region (L.q 1 rfl (L.nil (E.then (T.ret (E.qB ?_))))))
    rw [hx] at hr
    subst r
    refine E.iS aC 107 ?_
    exact E.ret (none,0) [0,0] [] (.tmp rfl .nil) rfl rfl rfl
  · refine L.nil (E.then (T.cond rfl (λh=>nomatch h) (λ_=> ?_)))
    refine T.skip (E.then (T.seq (T.region ?_)))
    refine L.a [] [] (Ac.bs (ty:=aC) (xs:=[]) .nil rfl rfl rfl rfl rfl rfl rfl) rfl rfl rfl rfl rfl ?_
    intro g1
    refine L.q 1 rfl ?_
    refine L.a [0,0] [] (Ac.apv (ty:=aC) hv h0 rfl rfl rfl rfl rfl rfl rfl) rfl rfl rfl rfl rfl ?_
    rintro ⟨a1,c1⟩
    refine L.q 1 rfl ?_
    refine L.nil (E.then (T.ret ?_))
    subst r
    exact E.ret (a1,c1) [0,0] [] (.tmp rfl .nil) rfl rfl rfl
theorem lE {s_:List aG} (a_0:Option Addr) (c_0:Nat) {r:List aG} (H:eT s_=some r):CT G 76 [.slice a_0 s_.length c_0] [] [Im.sl aQ a_0 c_0 s_] (λh:(Option Addr×Nat)=> .slice h.1 r.length h.2) (λh=>[Ch.arr aQ 143 h.1 h.2 r]) (λh=>[]):=by
  delta eT at H
  refine Cf Go.Proofs.Tryz.func76 λK=> ?_
  have ⟨_,h0,H⟩:=bnd H
  have hr:=Option.some.inj H
  refine T.seq (T.region (L.q 1 rfl (L.nil (E.then (T.seq (T.seq (T.region ?_)))))))
  refine L.q 1 rfl ?_
  refine L.Oa 0 rfl rfl rfl rfl rfl rfl rfl rfl rfl (λha hx=> ?_) ?_
  · refine L.nil (E.then (T.cond rfl (λ_=> ?_) (λh=>nomatch h)))
    refine T.seq (T.region (L.q 1 rfl (L.nil (E.then (T.ret (E.qB ?_))))))
    subst hx
    subst r
    refine E.iS aQ 143 ?_
    exact E.ret (none,0) [0] [] (.tmp rfl .nil) rfl rfl rfl
  · refine L.nil (E.then (T.cond rfl (λh=>nomatch h) (λ_=> ?_)))
    refine T.skip (E.then (T.seq (T.region ?_)))
    refine L.a [] [] (Ac.bs (ty:=aQ) (xs:=[]) .nil rfl rfl rfl rfl rfl rfl rfl) rfl rfl rfl rfl rfl ?_
    intro g1
    refine L.q 1 rfl ?_
    refine L.a [0] [0] (Ac.ap (ty:=aQ) h0 rfl rfl rfl rfl rfl rfl rfl) rfl rfl rfl rfl rfl ?_
    rintro ⟨a1,c1⟩
    refine L.q 1 rfl ?_
    refine L.nil (E.then (T.ret ?_))
    subst r
    exact E.ret (a1,c1) [0] [] (.tmp rfl .nil) rfl rfl rfl
theorem kF {r_:aE} {r:(List aG)} (H:fR r_=some r):CT G 174 [.agg #[.slice A0 r_.cells.length C0,.bool r_.wrapped]] [] [Im.sl aQ A0 C0 r_.cells] (λh:(Option Addr×Nat)=> .slice h.1 r.length h.2) (λh=>[Ch.arr aQ 143 h.1 h.2 r]) (λh=>[]):=by
 delta fR at H
 refine Cf Go.Proofs.Tryz.func174 λK=> ?_
 refine Z1 ?_
 refine Lx λg1=> ?_
 refine Z1 ?_
 have ⟨r2,h3,H4⟩:=bnd H
 refine Lk [] [0] (lE A0 C0 h3) λ⟨a5,c6⟩=> ?_
 refine Z0 ?_
 cases H4
 exact Eo1 (a5,c6) [0] []
theorem B8 {l:List aG} {i:Int} {r:Bool} (H:mK l i=some r):CT G 203 [.slice A0 l.length C0,.int .i64 i] [] [Im.sl aQ A0 C0 l] (λ_:Unit=> .bool r) (λh=>[]) (λh=>[]):=by
 delta mK at H
 refine Cf Go.Proofs.Tryz.func203 λK=> ?_
 refine Z3 ?_
 have ⟨x1,h2,H3⟩:=bnd H
 refine L.addr 0 rfl (cJ h2) λb4 o5 e6=> ?_
 subst e6
 refine Ly (Yl.ia h2 rfl rfl rfl rfl rfl rfl) ?_
 refine L.el 0 rfl (aU h2).2 ?_
 rintro _
 refine Z0 ?_
 refine Lc 0 2 ?_
 refine Zl ?_
 refine Z1 ?_
 refine Tb H3 (λa=> ?_) λa=> ?_
 ·refine Y1 ?_
  have ⟨j,k,m⟩:=bnd a
  refine Tj0 [(4,.bool j)] [] [] [] ?_ ?_
  ·refine Z0 ?_
   refine Lw 17 k (λb=> ?_) λb=> ?_
   ·refine Z0 ?_
    cases b
    exact Eg0 [] 0
   refine Z0 ?_
   have ⟨t,f,n⟩:=bnd b
   refine Ly (Yl.ia f rfl rfl rfl rfl rfl rfl) ?_
   refine L.el 1 rfl (aU f).2 ?_
   rintro _
   refine Z0 ?_
   refine Lc 0 2 ?_
   refine Z0 ?_
   cases n
   exact Eg0 [] 1
  refine Z0 ?_
  cases m
  exact Eo1 () [] []
 refine Z1 ?_
 refine Tb a (λc=> ?_) λc=> ?_
 ·refine Y1 ?_
  have ⟨o,p,q⟩:=bnd c
  refine Tj0 [(4,.bool o)] [] [] [] ?_ ?_
  ·refine Z0 ?_
   refine Lw 30 p (λd=> ?_) λd=> ?_
   ·refine Z0 ?_
    cases d
    exact Eg0 [] 0
   refine Z0 ?_
   have ⟨u,g,s⟩:=bnd d
   refine Ly (Yl.ia g rfl rfl rfl rfl rfl rfl) ?_
   refine L.el 1 rfl (aU g).2 ?_
   rintro _
   refine Z0 ?_
   refine Lc 0 2 ?_
   refine Z0 ?_
   cases s
   exact Eg0 [] 1
  refine Z0 ?_
  cases q
  exact Eo1 () [] []
 refine Z1 ?_
 refine Tb c (λe=> ?_) λe=> ?_
 ·refine Z1 ?_
  cases e
  exact Eo1 () [] []
 refine Z1 ?_
 cases e
 exact Eo1 () [] []
theorem mF {l:List aG} {r:aE} (H:fN l=some r):CT G 175 [.slice A0 l.length C0] [Ch.arr aQ 143 A0 C0 l] [] (λ_:Unit=> .agg #[.slice A0 r.cells.length C0,.bool r.wrapped]) (λh=>[]) (λh=>[Im.sl aQ A0 C0 r.cells]):=by
 delta fN at H
 refine Cf Go.Proofs.Tryz.func175 λK=> ?_
 refine Z1 ?_
 refine Ll λg1=> ?_
 refine Z2 ?_
 have ⟨b,j,k⟩:=bnd H
 refine Tj0 [(0,.slice A0 b.length C0)] [2] [Ch.arr aQ 143 A0 C0 b] [0] ?_ ?_
 ·refine Yl0 ?_
  refine Tq (η:=Unit) (λa h=>[(0,.slice A0 a.1.length C0),(6,.int .i64 a.2)]) [2,5] (λa h=>[Ch.arr aQ 143 A0 C0 a.1]) [0] (λ_ _=>[]) () [1,0] [] j ?_
  rintro k_ a ⟨⟩ B m n o
  refine Y2 ?_
  refine Tb m (λc=> ?_) λc=> ?_
  ·refine Y1 ?_
   have ⟨f,p,q⟩:=bnd c
   refine Tj0 [(0,.slice A0 f.length C0)] [2,5,6] [Ch.arr aQ 143 A0 C0 f] [1] ?_ ?_
   ·refine Zl ?_
    refine Z2 ?_
    have ⟨C,s,t⟩:=bnd p
    refine L.br (Ac.call (B8 s) rfl rfl rfl rfl) (Bw.ch 0 rfl (Bw.nil)) rfl rfl rfl ?_
    intro _
    refine Z0 ?_
    refine Tb t (λd=> ?_) λd=> ?_
    ·refine Z0 ?_
     have ⟨u,e,w⟩:=bnd d
     refine L.mj 0 rfl (cJ e) λF x=> ?_
     subst x
     refine Ly (Yl.ia e rfl rfl rfl rfl rfl rfl) ?_
     refine Z0 ?_
     refine Ly (Yl.lo (v:= .int .i64 u.aM) 0 a.2.toNat 1 (aU e).2 rfl rfl rfl rfl (λ_=>rfl)) ?_
     have ⟨g,y,z⟩:=bnd w
     refine Lk [] [] (oQ y) λ⟨⟩=> ?_
     have ⟨I,i,A⟩:=bnd z
     refine Ly (Yl.ia i rfl rfl rfl rfl rfl rfl) ?_
     refine La [0] [] (Ac.se 0 g (aU i).2 rfl rfl rfl rfl rfl rfl (λ_=>⟨(),rfl,[],rfl⟩)) λ_=> ?_
     refine L.sl 0 (k':=(a.1.set a.2.toNat g).length) (List.length_set ..) rfl ?_
     refine Z0 ?_
     cases A
     exact Eg0 [0,0] 0
    refine Z0 ?_
    cases d
    exact Eg0 [0,0] 0
   refine Z0 ?_
   cases q
   exact Eg (_,()) (n _ rfl) [0,0] [] 0
  refine Z0 ?_
  cases c
  have hb:=o _ rfl
  subst b
  exact Eg0 [0,0] 0
 refine Z1 ?_
 refine Lt 1 ?_
 refine Z0 ?_
 refine E.frz 1 rfl ?_
 cases k
 exact Eo () [] [0] (.cell 0 rfl rfl rfl .nil)
theorem xw {r_:aE} {w:Int} {r:aE} (H:kd r_ w=some r):CT G 137 [.agg #[.slice A0 r_.cells.length C0,.bool r_.wrapped],.int .i64 w] [] [Im.sl aQ A0 C0 r_.cells] (λh:(Option Addr×Nat)=> .agg #[.slice h.1 r.cells.length h.2,.bool r.wrapped]) (λh=>[]) (λh=>[Im.sl aQ h.1 h.2 r.cells]):=by
 delta kd at H
 refine Cf Go.Proofs.Tryz.func137 λK=> ?_
 refine Z1 ?_
 refine Lx λg1=> ?_
 refine Ll λg2=> ?_
 refine Z1 ?_
 have ⟨r3,h4,H5⟩:=bnd H
 refine Lk [] [] (pQ h4) λ⟨⟩=> ?_
 refine Z1 ?_
 have ⟨r6,h7,H8⟩:=bnd H5
 refine Lk [] [0] (kF h7) λ⟨a9,c⟩=> ?_
 refine Z2 ?_
 refine Tb H8 (λb=> ?_) λb=> ?_
 ·refine Z1 ?_
  refine Lt 1 ?_
  refine Z0 ?_
  refine E.frz 1 rfl ?_
  cases b
  exact Eo (a9,c) [] [0] (.cell 0 rfl rfl rfl .nil)
 refine Y1 ?_
 refine Td [13] [1,1] mo ?_
 refine Dq 0 ?_
 refine Dq 1 ?_
 refine Dq 2 ?_
 refine Dq 3 ?_
 refine Dq 4 ?_
 refine Dq 6 ?_
 refine Dq 7 ?_
 refine Dq 8 ?_
 refine Dq 9 ?_
 refine DF.of rfl ?_
 have ⟨o,d,e⟩:=bnd b
 refine DF.add _ (FSp.ac 10 [] (Ac.frz (Ac.call (pq d) rfl rfl rfl rfl)) rfl rfl rfl rfl rfl) rfl ?_
 refine DF.step 5 rfl rfl rfl rfl rfl ?_
 have ⟨_,f,g⟩:=bnd e
 refine DFp.a [0] [] (Ac.rso f rfl rfl rfl rfl rfl rfl rfl) rfl rfl rfl rfl rfl rfl rfl rfl ?_
 intro _
 refine DF.step 11 rfl rfl rfl rfl rfl ?_
 refine DFp.use 0 rfl rfl rfl ?_
 rintro ⟨p,q⟩
 have ⟨_,i,j⟩:=bnd g
 refine DFp.a [0] [0] (Ac.ap (ty:=aQ) i rfl rfl rfl rfl rfl rfl rfl) rfl rfl rfl rfl rfl rfl rfl rfl ?_
 rintro ⟨k,l⟩
 refine DF.step 12 rfl rfl rfl rfl rfl ?_
 have ⟨s,m,n⟩:=bnd j
 refine DFp.a [0] [] (Ac.call (mF m) rfl rfl rfl rfl) rfl rfl rfl rfl rfl rfl rfl rfl ?_
 rintro ⟨⟩
 refine DF.step 13 rfl rfl rfl rfl rfl ?_
 refine DFp.al [0] [] (Ac.stb rfl rfl rfl rfl rfl rfl) rfl rfl rfl rfl rfl rfl rfl ?_
 intro _
 refine DF.fin rfl rfl rfl rfl rfl ?_
 refine DFe.nil ?_
 refine Z0 ?_
 cases n
 exact Eo (k,l) [] [0] (.cell 0 rfl rfl rfl .nil)
theorem kG {g:aX} {y:Int} {r_:aE} {r:Bool×aX} (H:fF g y r_=some r):CT G 101 [.pointer (some ⟨N0,0,none⟩),.int .i64 y,.agg #[.slice A1 r_.cells.length C1,.bool r_.wrapped]] [Ch.box N0 169 [.int .i64 g.w,.slice A0 g.l.length C0],Ch.arr aC 107 A0 C0 g.l] [Im.sl aQ A1 C1 r_.cells] (λ_:Unit=> .bool r.1) (λh=>[Ch.box N0 169 [.int .i64 r.2.w,.slice A0 r.2.l.length C0],Ch.arr aC 107 A0 C0 r.2.l]) (λh=>[]):=by
 delta fF at H
 refine Cf Go.Proofs.Tryz.func101 λK=> ?_
 refine Z1 ?_
 refine Lx λg1=> ?_
 refine Y2 ?_
 have ⟨e5,H6,H7⟩:=bnd H
 refine Tj0 [(17,.bool e5)] [0,1,5] [] [0,1,2] ?_ ?_
 ·refine Z0 ?_
  refine Lw 9 H6 (λH8=> ?_) λH8=> ?_
  ·refine Z0 ?_
   cases H8
   exact Eg0 [0,0,0] 0
  refine Z0 ?_
  cases H8
  exact Eg0 [0,0,0] 0
 refine Tb H7 (λa=> ?_) λa=> ?_
 ·refine Z1 ?_
  cases a
  exact Eo1 () [1,1] []
 refine Y1 ?_
 refine Td [12] [0,0,0] mo ?_
 refine Dq 0 ?_
 refine Dq 1 ?_
 refine Dq 2 ?_
 refine Db 3 1 ?_
 refine Dq 4 ?_
 refine Db 5 0 ?_
 refine Dq 6 ?_
 refine Dq 7 ?_
 refine Dq 8 ?_
 refine Db 9 1 ?_
 have ⟨c,d,e⟩:=bnd a
 refine Dk [] [0] (xw d) λ⟨f,i⟩=> ?_
 have ⟨n,b,j⟩:=bnd e
 refine D.mj 2 rfl (cJ b) λk m=> ?_
 subst m
 refine Dy 11 (Yl.ia b rfl rfl rfl rfl rfl rfl) ?_
 refine D.one rfl rfl rfl (Dp.al [2] [0] (Ac.se 0 c (aU b).2 rfl rfl rfl rfl rfl rfl (λ_=>⟨(f,i),rfl,[1],rfl⟩)) rfl rfl rfl rfl rfl rfl rfl ?_)
 intro _
 refine Dn ?_
 refine E.bx 2 (cs':=[.int .i64 g.w,.slice (some ⟨k,0,none⟩) (g.l.set y.toNat c).length C0]) (by rw [(List.length_set ..)]) rfl ?_
 refine Z1 ?_
 cases j
 exact Eo1 () [0,0] []
theorem vn {g:aX} {w:Int} {h_:Int} {off:Int} {r:(List aE)×aX} (H:km g w h_ off=some r):CT G 62 [.pointer (some ⟨N0,0,none⟩),.int .i64 w,.int .i64 h_,.int .i64 off] [Ch.box N0 169 [.int .i64 g.w,.slice A0 g.l.length C0],Ch.arr aC 107 A0 C0 g.l] [] (λh:(Option Addr×Nat)×(Option Addr×Nat)=> .slice h.1.1 r.1.length h.1.2) (λh=>[Ch.arr aC 107 h.1.1 h.1.2 r.1,Ch.box N0 169 [.int .i64 r.2.w,.slice h.2.1 r.2.l.length h.2.2],Ch.arr aC 107 h.2.1 h.2.2 r.2.l]) (λh=>[]):=by
 delta km at H
 refine Cf Go.Proofs.Tryz.func62 λK=> ?_
 refine Z2 ?_
 have ⟨r1,h2,H3⟩:=bnd H
 refine Lk [] [] (lM h2) λ⟨⟩=> ?_
 refine Z1 ?_
 have ⟨_,h4,H5⟩:=bnd H3
 refine L.cap 1 rfl λh9=> ?_
 refine Ly (Yl.sv (ty:=aC) h9 h4 rfl rfl rfl rfl rfl rfl rfl rfl) ?_
 have A:Vw aC g.l A0 C0 (kX A0 C0 0 (aC).sz) (C0 - (0:Int).toNat) 0 r1:=wS h4 h9
 have ⟨a3,B,C⟩:=bnd H5
 refine Lk [1] [] (jq A0 C0 (kX A0 C0 0 (aC).sz) (C0 - (0:Int).toNat) A B) λ⟨F,I⟩=> ?_
 refine Z1 ?_
 have ⟨_,t,J⟩:=bnd C
 refine L.cap 1 rfl λu=> ?_
 refine Ly (Yl.sv (ty:=aC) u t rfl rfl rfl rfl rfl rfl rfl rfl) ?_
 have M:Vw aC g.l A0 C0 (kX A0 C0 r1 (aC).sz) (C0 - r1.toNat) r1 (g.l.length:Int):=wS t u
 have ⟨a4,N,O⟩:=bnd J
 refine Lk [1] [] (jq A0 C0 (kX A0 C0 r1 (aC).sz) (C0 - r1.toNat) M N) λ⟨P,Q⟩=> ?_
 refine Z1 ?_
 have ⟨a5,R,S⟩:=bnd O
 refine Lk [] [] (nD R) λ⟨⟩=> ?_
 refine Z0 ?_
 have ⟨_,U,V⟩:=bnd S
 refine La [0] [] (Ac.rso U rfl rfl rfl rfl rfl rfl rfl) λ_=> ?_
 refine Y1 ?_
 have ⟨o,W,X⟩:=bnd V
 refine Tjh (η:=(Option Addr×Nat)) (λh=>(λc d=>[(10,.slice c o.length d)]) h.1 h.2) [0,1,9] (λh=>(λc d=>[Ch.arr aC 107 c d o]) h.1 h.2) [3,1,2] (λ_=>[]) ?_ ?_
 ·refine Yl0 ?_
  refine Tq (η:=(Option Addr×Nat)) (λj h=>(λe f=>[(10,.slice e j.length f)]) h.1 h.2) [0,1,2,9] (λj h=>(λe f=>[Ch.arr aC 107 e f j]) h.1 h.2) [3,1,2] (λ_ _=>[]) (P,Q) [0,2,0,0] [] W ?_
  rintro k_ j ⟨e,f⟩ a6 Y Z aa
  refine Z2 ?_
  have ⟨a7,ab,ac⟩:=bnd Y
  refine Lk [] [] (nD ab) λ⟨⟩=> ?_
  refine Z0 ?_
  refine Tb ac (λp=> ?_) λp=> ?_
  ·refine Zl ?_
   have ⟨a8,ad,ae⟩:=bnd p
   refine Lk [] [] (nD ad) λ⟨⟩=> ?_
   have ⟨af,ag,ah⟩:=bnd ae
   refine Lk [] [] (qk ag) λ⟨ai,aj⟩=> ?_
   refine La [] [0] (Ac.bs (ty:=aC) (xs:=[af]) (.cons (ai,aj) [0] rfl .nil) rfl rfl rfl rfl rfl rfl rfl) λa9=> ?_
   refine L.frz 0 rfl ?_
   have ⟨_,ak,al⟩:=bnd ah
   refine La [0] [0] (Ac.ap (ty:=aC) ak rfl rfl rfl rfl rfl rfl rfl) ?_
   rintro ⟨am,an⟩
   refine Z0 ?_
   cases al
   exact Eg (_,(am,an)) (Z _ rfl) [0,0,0,0] [] 2
  refine Z0 ?_
  cases p
  have hb:=aa _ rfl
  subst o
  exact Eg (e,f) trivial [0,0,0,0] [] 0
 rintro ⟨c,d⟩
 refine Z1 ?_
 have ⟨ba,ao,aq⟩:=bnd X
 refine Lk [] [] (nD ao) λ⟨⟩=> ?_
 refine Z0 ?_
 refine Lt 1 ?_
 refine Z0 ?_
 refine Lt 0 ?_
 refine Z2 ?_
 have ⟨k,ar,au⟩:=bnd aq
 refine Tjh (η:=(Option Addr×Nat)) (λ_=>[]) [9] (λh=>(λm n=>[Ch.arr aC 107 m n k.l,Ch.box N0 169 [.int .i64 k.w,.slice m k.l.length n]]) h.1 h.2) [3] (λ_=>[]) ?_ ?_
 ·refine Yl0 ?_
  refine Tq (η:=(Option Addr×Nat)) (λa h=>(λi b=>[(66,.int .i64 a.2)]) h.1 h.2) [0,9,65] (λa h=>(λi b=>[Ch.arr aC 107 i b a.1.l,Ch.box N0 169 [.int .i64 a.1.w,.slice i a.1.l.length b]]) h.1 h.2) [3] (λ_ _=>[]) (c,d) [1,0,1] [] ar ?_
  rintro k_ a ⟨i,b⟩ bb av aw ax
  refine Y2 ?_
  refine Tb av (λq=> ?_) λq=> ?_
  ·refine Z1 ?_
   refine Zl ?_
   refine Z1 ?_
   have ⟨x,s,ay⟩:=bnd q
   refine L.mj 0 rfl (cJ s) λaz a0=> ?_
   subst a0
   refine Ly (Yl.ia s rfl rfl rfl rfl rfl rfl) ?_
   refine La [0] [] (Ac.lo a.2.toNat 0 (v:=(λh:(Option Addr×Nat)=>(λy z=> .agg #[.slice y x.cells.length z,.bool x.wrapped]) h.1 h.2)) (aU s).2 rfl rfl rfl (λ_=>rfl)) ?_
   rintro ⟨y,z⟩
   have ⟨bc,a1,a2⟩:=bnd ay
   refine Lk [1,0] [0] (kG a1) λ⟨⟩=> ?_
   refine Z0 ?_
   cases a2
   exact Eg (_,((some ⟨az,0,none⟩),b)) (aw _ rfl) [1,0,0] [] 1
  refine Z0 ?_
  cases q
  have hb:=ax _ rfl
  subst k
  exact Eg (i,b) trivial [0,0,0] [] 0
 rintro ⟨m,n⟩
 refine Z1 ?_
 cases au
 exact Eo1 ((F,I),(m,n)) [2,1,0] []
theorem mG {s_:aB} {r:Int×Int} (H:eF s_=some r):CT G 64 [.pointer (some ⟨N0,0,none⟩)] [Ch.box N0 124 (cI s_ N1),Ch.box N1 169 [.int .i64 s_.g.w,.slice A0 s_.g.l.length C0],Ch.arr aC 107 A0 C0 s_.g.l] [] (λ_:Unit=> .tuple #[.int .i64 r.1,.int .i64 r.2]) (λh=>[Ch.box N0 124 (cI s_ N1),Ch.box N1 169 [.int .i64 s_.g.w,.slice A0 s_.g.l.length C0],Ch.arr aC 107 A0 C0 s_.g.l]) (λh=>[]):=by
 delta eF at H
 refine Cf Go.Proofs.Tryz.func64 λK=> ?_
 refine Z2 ?_
 have ⟨r1,h2,H3⟩:=bnd H
 refine Lk [1,1] [] (gX h2) λ⟨⟩=> ?_
 refine Z1 ?_
 cases H3
 exact Eo () [2,0,0] [] (.tmp rfl (.tmp rfl .nil))
theorem bZ {s_:aB} {x_:Int} {y:Int} {r:aB} (H:bH s_ x_ y=some r):CT G 63 [.pointer (some ⟨N0,0,none⟩),.int .i64 x_,.int .i64 y] [Ch.box N0 124 (cI s_ N1),Ch.box N1 169 [.int .i64 s_.g.w,.slice A0 s_.g.l.length C0],Ch.arr aC 107 A0 C0 s_.g.l] [] (λ_:Unit=> .tuple #[]) (λh=>[Ch.box N0 124 (cI r N1),Ch.box N1 169 [.int .i64 r.g.w,.slice A0 r.g.l.length C0],Ch.arr aC 107 A0 C0 r.g.l]) (λh=>[]):=by
 delta bH at H
 refine Cf Go.Proofs.Tryz.func63 λK=> ?_
 refine Z1 ?_
 have ⟨r1,h2,H3⟩:=bnd H
 refine Lk [0,0,0] [] (mG h2) λ⟨⟩=> ?_
 refine Z0 ?_
 have ⟨r4,h5,H6⟩:=bnd H3
 refine Lk [] [] (mg h5) λ⟨⟩=> ?_
 refine Z0 ?_
 have ⟨r7,h8,H9⟩:=bnd H6
 refine Lk [] [] (mg h8) λ⟨⟩=> ?_
 refine Z0 ?_
 refine Lt 0 ?_
 refine Z0 ?_
 refine Lt 0 ?_
 refine Z0 ?_
 refine Lt 0 ?_
 refine Ln (E.off ?_)
 cases H9
 exact Eo () [0,0,0] [] .nil
theorem sd {s_:aB} {w:Int} {h_:Int} {r:(List aE)×aB} (H:iI s_ w h_=some r):CT G 32 [.pointer (some ⟨N0,0,none⟩),.int .i64 w,.int .i64 h_] [Ch.box N0 124 (cI s_ N1),Ch.box N1 169 [.int .i64 s_.g.w,.slice A0 s_.g.l.length C0],Ch.arr aC 107 A0 C0 s_.g.l] [] (λh:(Option Addr×Nat)×(Option Addr×Nat)=> .slice h.1.1 r.1.length h.1.2) (λh=>[Ch.arr aC 107 h.1.1 h.1.2 r.1,Ch.box N0 124 (cI r.2 N1),Ch.box N1 169 [.int .i64 r.2.g.w,.slice h.2.1 r.2.g.l.length h.2.2],Ch.arr aC 107 h.2.1 h.2.2 r.2.g.l]) (λh=>[]):=by
 delta iI at H
 refine Cf Go.Proofs.Tryz.func32 λK=> ?_
 refine Y2 ?_
 refine Td [9] [0,0,0] mo ?_
 refine Dq 0 ?_
 refine Dq 1 ?_
 refine Dq 2 ?_
 refine Dq 3 ?_
 refine Db 4 0 ?_
 refine Dq 5 ?_
 have ⟨p,a,b⟩:=bnd H
 refine Dk [] [] (mg a) λ⟨⟩=> ?_
 refine Dq 7 ?_
 refine Dq 8 ?_
 refine Dq 9 ?_
 refine Dq 10 ?_
 refine Dn ?_
 refine Z1 ?_
 have ⟨q,c,d⟩:=bnd b
 refine Lk [1,1] [] (vn c) λ⟨⟨e,f⟩,⟨i,j⟩⟩=> ?_
 refine Y1 ?_
 refine Td [13] [0,0,0,0] mo ?_
 refine Dq 0 ?_
 refine Dq 1 ?_
 refine Dq 2 ?_
 refine Dq 3 ?_
 refine Dq 4 ?_
 refine Db 5 3 ?_
 refine Dq 6 ?_
 refine Dq 7 ?_
 refine Dq 8 ?_
 refine Dq 9 ?_
 refine Db 10 3 ?_
 refine Dq 11 ?_
 refine Dq 12 ?_
 have ⟨s,k,m⟩:=bnd d
 refine Dkl [3,1,1] [] (bZ k) λ⟨⟩=> ?_
 refine Dn ?_
 refine Z1 ?_
 have ⟨t,n,o⟩:=bnd m
 refine Lk [0,0,0] [] (mG n) λ⟨⟩=> ?_
 refine Z1 ?_
 refine Lt 0 ?_
 refine Z0 ?_
 refine Lt 0 ?_
 refine Z1 ?_
 cases o
 exact Eo1 ((e,f),(i,j)) [3,0,0,0] []
theorem xx {r_:aE} {r:(List aJ)} (H:kb r_=some r):CT G 58 [.agg #[.slice A0 r_.cells.length C0,.bool r_.wrapped]] [] [Im.sl aQ A0 C0 r_.cells] (λh:(Option Addr×Nat)=> .slice h.1 r.length h.2) (λh=>[Ch.arr aD 112 h.1 h.2 r]) (λh=>[]):=by
 delta kb at H
 refine Cf Go.Proofs.Tryz.func58 λK=> ?_
 refine Z1 ?_
 refine Lx λg1=> ?_
 refine Y2 ?_
 have ⟨n,A,B⟩:=bnd H
 refine Tjh (η:=(Option Addr×Nat)) (λh=>(λk l=>[(3,.slice k n.length l)]) h.1 h.2) [] (λ_=>[]) [0] (λh=>(λk l=>[Im.sl aQ k l n]) h.1 h.2) ?_ ?_
 ·refine Yl0 ?_
  refine Tq (η:=(Option Addr×Nat)) (λm h=>(λc d=>[(3,.slice c m.length d)]) h.1 h.2) [1] (λ_ _=>[]) [0] (λm h=>(λc d=>[Im.sl aQ c d m]) h.1 h.2) (A0,C0) [0] [0] A ?_
  rintro k_ m ⟨c,d⟩ an C F I
  refine Y2 ?_
  have ⟨J,M,N⟩:=bnd C
  refine Tj0 [(26,.bool J)] [1,3] [] [0] ?_ ?_
  ·refine Td [] [0] mo ?_
   refine Dq 0 ?_
   refine Db 1 0 ?_
   refine Dq 2 ?_
   refine Dq 3 ?_
   refine D.cs 12 M rfl (λhc o=> ?_) (λhc o=> ?_)
   ·refine Dq 4 ?_
    refine Dq 5 ?_
    refine Dq 6 ?_
    refine Dq 7 ?_
    refine Dq 8 ?_
    refine D.cs 17 o rfl (λhc p=> ?_) (λhc p=> ?_)
    ·refine Dq 9 ?_
     refine Dq 10 ?_
     refine Dq 11 ?_
     refine Dq 12 ?_
     have ⟨ao,q,O⟩:=bnd p
     refine D.addr 0 rfl (cJ q) λaq ar P=> ?_
     subst P
     refine Dy 13 (Yl.ia q rfl rfl rfl rfl rfl rfl) ?_
     refine D.el 0 rfl (aU q).2 ?_
     rintro _
     refine Dy 14 (Yl.ldc 0 0 rfl rfl rfl rfl) ?_
     have ⟨au,Q,R⟩:=bnd O
     refine Dk [] [] (oQ Q) λ⟨⟩=> ?_
     refine Dq 16 ?_
     refine Dq 17 ?_
     refine Dn ?_
     cases R
     exact Eg0 [0] 1
    refine Ds 9 ?_
    refine Ds 10 ?_
    refine Ds 11 ?_
    refine Ds 12 ?_
    refine Ds 13 ?_
    refine Ds 14 ?_
    refine Ds 15 ?_
    refine Ds 16 ?_
    refine Dq 17 ?_
    refine Dn ?_
    cases p
    exact Eg0 [0] 0
   refine Ds 4 ?_
   refine Ds 5 ?_
   refine Ds 6 ?_
   refine Dq 7 ?_
   refine Dq 8 ?_
   refine Ds 9 ?_
   refine Ds 10 ?_
   refine Ds 11 ?_
   refine Ds 12 ?_
   refine Ds 13 ?_
   refine Ds 14 ?_
   refine Ds 15 ?_
   refine Ds 16 ?_
   refine Dq 17 ?_
   refine Dn ?_
   cases o
   exact Eg0 [0] 0
  refine Tb N (λs=> ?_) λs=> ?_
  ·refine Zl ?_
   have ⟨_,S,U⟩:=bnd s
   refine L.rs 0 S rfl rfl rfl rfl rfl rfl rfl rfl rfl rfl rfl rfl ?_
   intro V W
   refine Z0 ?_
   cases U
   exact Eg (_,(V,W)) (F _ rfl) [0] [0] 2
  refine Z0 ?_
  cases s
  have hb:=I _ rfl
  subst n
  exact Eg (c,d) trivial [0] [0] 1
 rintro ⟨k,l⟩
 refine Z3 ?_
 have ⟨t,X,Y⟩:=bnd B
 refine Tjh (η:=(Option Addr×Nat)) (λh=>(λe f=>[(4,.slice e t.length f)]) h.1 h.2) [] (λh=>(λe f=>[Ch.arr aD 112 e f t]) h.1 h.2) [0] (λ_=>[]) ?_ ?_
 ·refine Yl0 ?_
  refine T.iS aD 112 ?_
  refine Tq (η:=(Option Addr×Nat)) (λg h=>(λa b=>[(4,.slice a g.2.length b),(34,.int .i64 g.1)]) h.1 h.2) [32,33] (λg h=>(λa b=>[Ch.arr aD 112 a b g.2]) h.1 h.2) [1] (λ_ _=>[]) (none,0) [0,0] [] X ?_
  rintro k_ g ⟨a,b⟩ av Z aa ab
  refine Y2 ?_
  refine Tb Z (λu=> ?_) λu=> ?_
  ·refine Y1 ?_
   have ⟨y,ac,ad⟩:=bnd u
   refine Tjh (η:=(Option Addr×Nat)) (λh=>(λi j=>[(4,.slice i y.length j)]) h.1 h.2) [32,33,34] (λh=>(λi j=>[Ch.arr aD 112 i j y]) h.1 h.2) [1] (λ_=>[]) ?_ ?_
   ·refine Zl ?_
    refine Z1 ?_
    have ⟨z,v,ae⟩:=bnd ac
    refine L.addr 0 rfl (cJ v) λaw ax af=> ?_
    subst af
    refine Ly (Yl.ia v rfl rfl rfl rfl rfl rfl) ?_
    refine L.el 0 rfl (aU v).2 ?_
    rintro _
    refine Lc 0 0 ?_
    refine Ll λay=> ?_
    refine Lt 0 ?_
    refine Y1 ?_
    have ⟨ag,ah,ai⟩:=bnd ae
    refine Tj0 [(45,.bool ag)] [4,6,32,33,34] [] [0,2,1] ?_ ?_
    ·refine Z0 ?_
     refine Lw 41 ah (λw=> ?_) λw=> ?_
     ·refine Z0 ?_
      cases w
      exact Eg0 [0,1,0] 0
     refine Z0 ?_
     cases w
     exact Eg0 [0,1,0] 0
    refine Tb ai (λx=> ?_) λx=> ?_
    ·refine Z0 ?_
     refine La [] [] (Ac.bs (ty:=aD) (xs:=[(aJ.mk z.rune z.aM)]) (.cons () [] rfl .nil) rfl rfl rfl rfl rfl rfl rfl) λaz=> ?_
     refine L.frz 0 rfl ?_
     have ⟨_,aj,ak⟩:=bnd x
     refine La [2] [0] (Ac.ap (ty:=aD) aj rfl rfl rfl rfl rfl rfl rfl) ?_
     rintro ⟨al,am⟩
     refine Z0 ?_
     cases ak
     exact Eg (al,am) trivial [0,1] [] 2
    refine Z0 ?_
    cases x
    exact Eg (a,b) trivial [2,1] [] 1
   rintro ⟨i,j⟩
   refine Z0 ?_
   cases ad
   exact Eg (_,(i,j)) (aa _ rfl) [0,0] [] 0
  refine Z0 ?_
  cases u
  have hb:=ab _ rfl
  subst t
  exact Eg (a,b) trivial [0,0] [] 0
 rintro ⟨e,f⟩
 refine Z1 ?_
 cases Y
 exact Eo1 (e,f) [0] []
theorem k9 {s_:List aJ} (a_0:Option Addr) (c_0:Nat) {r:List aJ} (H:cB s_=some r):CT G 60 [.slice a_0 s_.length c_0] [] [Im.sl aD a_0 c_0 s_] (λh:(Option Addr×Nat)=> .slice h.1 r.length h.2) (λh=>[Ch.arr aD 112 h.1 h.2 r]) (λh=>[]):=by
  delta cB at H
  refine Cf Go.Proofs.Tryz.func60 λK=> ?_
  have ⟨_,h0,H⟩:=bnd H
  have hr:=Option.some.inj H
  refine T.seq (T.region (L.q 1 rfl (L.nil (E.then (T.seq (T.seq (T.region ?_)))))))
  refine L.q 1 rfl ?_
  refine L.Oa 0 rfl rfl rfl rfl rfl rfl rfl rfl rfl (λha hx=> ?_) ?_
  · refine L.nil (E.then (T.cond rfl (λ_=> ?_) (λh=>nomatch h)))
    refine T.seq (T.region (L.q 1 rfl (L.nil (E.then (T.ret (E.qB ?_))))))
    subst hx
    subst r
    refine E.iS aD 112 ?_
    exact E.ret (none,0) [0] [] (.tmp rfl .nil) rfl rfl rfl
  · refine L.nil (E.then (T.cond rfl (λh=>nomatch h) (λ_=> ?_)))
    refine T.skip (E.then (T.seq (T.region ?_)))
    refine L.a [] [] (Ac.bs (ty:=aD) (xs:=[]) .nil rfl rfl rfl rfl rfl rfl rfl) rfl rfl rfl rfl rfl ?_
    intro g1
    refine L.q 1 rfl ?_
    refine L.a [0] [0] (Ac.ap (ty:=aD) h0 rfl rfl rfl rfl rfl rfl rfl) rfl rfl rfl rfl rfl ?_
    rintro ⟨a1,c1⟩
    refine L.q 1 rfl ?_
    refine L.nil (E.then (T.ret ?_))
    subst r
    exact E.ret (a1,c1) [0] [] (.tmp rfl .nil) rfl rfl rfl
theorem B9 {n_:Int} {r:Int} (H:o9 n_=some r):CT G 164 [.int .i64 n_] [] [] (λh:Nat=> .func (.func 199) #[] #[.pointer (some ⟨h,0,none⟩)]) (λh=>[Ch.box h 3 [.int .i64 r]]) (λh=>[]):=by
 delta o9 at H
 refine Cf Go.Proofs.Tryz.func164 λK=> ?_
 refine Z1 ?_
 refine Lx λg1=> ?_
 refine Z1 ?_
 cases H
 exact Eo1 g1 [0] []
theorem Fs {n_:Int} {r:Int} (H:rE n_=some r):CT G 200 [.int .i64 n_] [] [] (λ_:Unit=> .int .i64 r) (λh=>[]) (λh=>[]):=by
 delta rE at H
 refine Cf Go.Proofs.Tryz.func200 λK=> ?_
 refine Z2 ?_
 cases H
 exact Eo1 () [] []
theorem z5 {σ η:Type} {Y:σ->Int->Option (σ×Bool)} {y0:σ} {x1:Int} {yl:Nat} {C:σ->η->Ch} (hY: ∀ s (h:η) (x:Int) (t:Unit) z,Y s x=some z->YT G yl [.int .u8 x] [C s h] [] (λ_:η=> .bool z.2) (λh2=>[C z.1 h2]) (λ_=>[])) (h0:η) (g_1:Nat) {r:σ×Int} (H:my Y y0 x1=some r):CT G 199 [.func (.yield yl) #[] #[],.pointer (some ⟨g_1,0,none⟩)] [C y0 h0,Ch.box g_1 3 [.int .i64 x1]] [] (λh:η=> .tuple #[]) (λh=>[C r.1 h,Ch.box g_1 3 [.int .i64 r.2]]) (λh=>[]):=by
  delta my at H
  refine Cf Go.Proofs.Tryz.func199 λK=> ?_
  refine Z2 ?_
  have ⟨r1,h2,H3⟩:=bnd H
  refine Lk [] [] (Fs h2) λ⟨⟩=> ?_
  refine Lt 1 ?_
  refine Z0 ?_
  have ⟨a,l,g⟩:=bnd H3
  refine Tj (η:=(Int×σ)×(η)) (λh=>a = .inl h.1) (λ_=>[]) [0,1] (λh=>(λb=>(λi=>[Ch.box g_1 3 [.int .i64 b.1],C b.2 i]) h.2) h.1) [] (λ_=>[]) ?_ ?_
  ·refine Yl0 ?_
   refine Tq (η:=η) (λ_ _=>[]) [0,1] (λc h=>(λd=>[Ch.box g_1 3 [.int .i64 c.1],C c.2 d]) h) [] (λ_ _=>[]) h0 [0,0] [] l ?_
   rintro k_ c d m n o j
   refine Z2 ?_
   refine Tb n (λe=> ?_) λe=> ?_
   ·refine Z1 ?_
    refine Zl ?_
    refine Z1 ?_
    have ⟨A,p,q⟩:=bnd e
    refine L.yd [1] [] (hY _ _ _ () _ p) rfl rfl rfl rfl rfl rfl rfl rfl ?_
    intro k
    refine Z0 ?_
    refine Tb q (λf=> ?_) λf=> ?_
    ·refine Z0 ?_
     obtain ⟨B,hz,u⟩:=fH f
     subst m
     have hb:=j _ rfl
     subst a
     obtain rfl:=(sm g).symm
     refine Z0 ?_
     cases u
     exact Eo k [0,0] [] .nil
    refine Z0 ?_
    refine Lt 1 ?_
    refine Z0 ?_
    cases f
    exact Eg (_,k) (o _ rfl) [0,0] [] 0
   refine Z0 ?_
   cases e
   have hb:=j _ rfl
   subst a
   exact Eg (_,d) rfl [0,0] [] 0
  rintro ⟨b,i⟩ hy
  subst hy
  refine Z0 ?_
  have ⟨F,v,w⟩:=bnd g
  refine L.yd [1] [] (hY _ _ _ () _ v) rfl rfl rfl rfl rfl rfl rfl rfl ?_
  intro y
  refine Ln (E.off ?_)
  cases w
  exact Eo y [0,0] [] .nil
theorem gL {o:cG} {l:List Int} {r:cG} (H:dB o l=some r):CT G 114 [.pointer (some ⟨N0,0,none⟩),.slice A1 l.length C1] [Ch.box N0 182 [.slice A0 o.b.length C0],Ch.arr (Ty.int .u8) 5 A0 C0 o.b] [Im.sl (Ty.int .i64) A1 C1 l] (λh:(Option Addr×Nat)=> .pointer (some ⟨N0,0,none⟩)) (λh=>[Ch.box N0 182 [.slice h.1 r.b.length h.2],Ch.arr (Ty.int .u8) 5 h.1 h.2 r.b]) (λh=>[]):=by
 delta dB at H
 refine Cf Go.Proofs.Tryz.func114 λK=> ?_
 refine T.yS ?_
 refine Z1 ?_
 refine Lx λg1=> ?_
 refine Z2 ?_
 have ⟨n,w,y⟩:=bnd H
 refine T.Ar (η:=Unit×((Option Addr×Nat)×List Nat)) (λh=>True) (λh=>(λf g i=>i) h.2.1.1 h.2.1.2 h.2.2) (λh=>(λf g i=>[(2,.pointer (some ⟨g1,0,none⟩))]) h.2.1.1 h.2.1.2 h.2.2) (λh=>(λf g i=>[Ch.arr (Ty.int .u8) 5 f g n.b,Ch.box g1 183 [.pointer (some ⟨N0,0,none⟩)],Ch.dfs i,Ch.box N0 182 [.slice f n.b.length g]]) h.2.1.1 h.2.1.2 h.2.2) (λh=>(λf g i=>[Im.sl (Ty.int .i64) A1 C1 l]) h.2.1.1 h.2.1.2 h.2.2) ?_ ?_
 ·refine Yl0 ?_
  refine T.lpD (η:=(Option Addr×Nat)×List Nat) (λa h=>(λc d e=>e) h.1.1 h.1.2 h.2) (λa h=>(λc d e=>[(2,.pointer (some ⟨g1,0,none⟩)),(8,.slice A1 l.length C1),(9,.int .i64 (l.length:Int)),(10,.int .i64 a.2)]) h.1.1 h.1.2 h.2) (λa h=>(λc d e=>[Ch.arr (Ty.int .u8) 5 c d a.1.b,Ch.box g1 183 [.pointer (some ⟨N0,0,none⟩)],Ch.dfs e,Ch.box N0 182 [.slice c a.1.b.length d]]) h.1.1 h.1.2 h.2) (λa h=>(λc d e=>[Im.sl (Ty.int .i64) A1 C1 l]) h.1.1 h.1.2 h.2) ((A0,C0),[]) [3,0,0,0] [0] w rfl ⟨rfl,rfl,rfl,rfl,trivial⟩ rfl rfl ?_
  rintro k_ a ⟨⟨c,d⟩,e⟩ ab z A B
  refine Y2 ?_
  refine Tb z (λp=> ?_) λp=> ?_
  ·refine Z1 ?_
   refine Zl ?_
   refine Z1 ?_
   have ⟨F,q,I⟩:=bnd p
   refine L.addr 0 rfl (cJ q) λs u J=> ?_
   subst J
   refine Ly (Yl.ia q rfl rfl rfl rfl rfl rfl) ?_
   refine L.el 0 rfl (aU q).2 ?_
   rintro _
   refine Lc 0 0 ?_
   refine Z1 ?_
   have ⟨ac,M,N⟩:=bnd I
   refine Lk [] [] (B9 M) λO=> ?_
   refine Yl0 ?_
   have ⟨P,Q,R⟩:=bnd N
   refine T.rf2 (σ:=cG) (η:=(Option Addr×Nat)) (X:=Int) (θ:=Unit) (τ:=(Option Addr×Nat)) (s1:=P.1) (hx:=λx=>x) (λx t=>[.int .u8 x]) (λx t=>[]) (λ_=>none) (λj h=>(λk m=>[Ch.arr (Ty.int .u8) 5 k m j.b,Ch.box g1 183 [.pointer (some ⟨N0,0,none⟩)],Ch.box N0 182 [.slice k j.b.length m]]) h.1 h.2) (λj h=>(λk m=>[Im.cells s (u+a.2.toNat*1) [.int .i64 F],Im.sl (Ty.int .i64) (some ⟨s,u,none⟩) C1 l]) h.1 h.2) 3 [1,1,1,0] [0,1] [] rfl rfl (λ_ _=>rfl) rfl (λyl C hY=>(z5 hY (c,d) O Q:_)) (λ_ _ _ _=>rfl) rfl rfl rfl rfl rfl ?_ rfl ?_
   ·rintro yl K2 j ⟨k,m⟩ S ⟨⟩ ad U
    refine Z0 ?_
    refine E.begin λK3=> ?_
    refine Yl0 ?_
    refine Td [10] [1,1] mo ?_
    refine Db 0 0 ?_
    refine Db 1 0 ?_
    refine Dq 2 ?_
    refine Dq 3 ?_
    refine Db 4 1 ?_
    refine Dq 5 ?_
    refine Da [] [] rfl rfl (Ac.bs (ty:=(Ty.int .u8)) (xs:=[S]) (.cons () [] rfl .nil) rfl rfl rfl rfl rfl rfl rfl) λae=> ?_
    refine D.frz 0 rfl ?_
    have ⟨_,V,W⟩:=bnd U
    refine Da [0] [0] rfl rfl (Ac.ap (ty:=(Ty.int .u8)) V rfl rfl rfl rfl rfl rfl rfl) ?_
    rintro ⟨Y,Z⟩
    refine Dq 8 ?_
    refine Dq 9 ?_
    refine Dt 1 ?_
    refine Dn ?_
    refine Z0 ?_
    cases W
    exact E.on (Y,Z) [2,1,0] [1,2] rfl rfl rfl rfl
   rintro v aa
   refine Z0 ?_
   cases R
   exact E.qF (_,((v.1,v.2),(aa::e))) [1,1,0,0] [1] (A _ rfl) rfl ⟨rfl,rfl,rfl,rfl,trivial⟩ rfl rfl
  refine Z0 ?_
  cases p
  have hb:=B _ rfl
  subst n
  exact E.qF ((),((c,d),e)) [0,0,0,0] [0] trivial rfl ⟨rfl,trivial⟩ rfl rfl
 rintro ⟨_,⟨⟨f,g⟩,i⟩⟩ _
 refine Z1 ?_
 cases y
 exact E.vu (f,g) 2 [2,0] [] rfl (.tmp rfl .nil) rfl rfl rfl
theorem nq {o:cG} {r:ByteArray} (H:iP o=some r):CT G 121 [.pointer (some ⟨N0,0,none⟩)] [Ch.box N0 182 [.slice A0 o.b.length C0],Ch.arr (Ty.int .u8) 5 A0 C0 o.b] [] (λ_:Unit=> .string r) (λh=>[Ch.box N0 182 [.slice A0 o.b.length C0],Ch.arr (Ty.int .u8) 5 A0 C0 o.b]) (λh=>[]):=by
 delta iP at H
 refine Cf Go.Proofs.Tryz.func121 λK=> ?_
 refine Z2 ?_
 refine Ly (Yl.bs 1 rfl rfl rfl rfl rfl rfl rfl rfl rfl) ?_
 refine Z0 ?_
 cases H
 exact Eo1 () [0,0] []
theorem tz {l:List aJ} {r:ByteArray} (H:mA l=some r):CT G 117 [.slice A0 l.length C0] [] [Im.sl aD A0 C0 l] (λ_:Unit=> .string r) (λh=>[]) (λh=>[]):=by
 delta mA at H
 refine Cf Go.Proofs.Tryz.func117 λK=> ?_
 refine Z2 ?_
 refine Ll λg1=> ?_
 refine Z1 ?_
 refine La [] [] (Ac.bs (ty:=(Ty.int .i64)) (xs:=[(l.length:Int)]) (.cons () [] rfl .nil) rfl rfl rfl rfl rfl rfl rfl) λg2=> ?_
 refine L.iS (Ty.int .u8) 5 ?_
 refine L.frz 1 rfl ?_
 have ⟨r6,h7,H8⟩:=bnd H
 refine Lk [1,0] [0] (gL h7) λ⟨a9,m⟩=> ?_
 refine Z2 ?_
 have ⟨e,n,o⟩:=bnd H8
 refine Tjh (η:=(Option Addr×Nat)) (λ_=>[]) [3] (λh=>(λf g=>[Ch.arr (Ty.int .u8) 5 f g e.b,Ch.box g1 182 [.slice f e.b.length g]]) h.1 h.2) [] (λ_=>[]) ?_ ?_
 ·refine Yl0 ?_
  refine Tq (η:=(Option Addr×Nat)) (λa h=>(λc d=>[(12,.int .i64 a.2)]) h.1 h.2) [3,10,11] (λa h=>(λc d=>[Ch.arr (Ty.int .u8) 5 c d a.1.b,Ch.box g1 182 [.slice c a.1.b.length d]]) h.1 h.2) [] (λ_ _=>[]) (a9,m) [1,0] [] n ?_
  rintro k_ a ⟨c,d⟩ B p q s
  refine Y2 ?_
  refine Tb p (λi=> ?_) λi=> ?_
  ·refine Z1 ?_
   refine Zl ?_
   refine Z1 ?_
   have ⟨k,j,t⟩:=bnd i
   refine L.addr 1 rfl (cJ j) λC F u=> ?_
   subst u
   refine Ly (Yl.ia j rfl rfl rfl rfl rfl rfl) ?_
   refine L.el 1 rfl (aU j).2 ?_
   rintro _
   refine Lc 0 0 ?_
   refine Ll λI=> ?_
   refine Lt 0 ?_
   refine Z0 ?_
   refine La [] [] (Ac.bs (ty:=(Ty.int .i64)) (xs:=[(IntKind.i64.wrap k.rune),k.aM]) (.cons () [] rfl (.cons () [] rfl .nil)) rfl rfl rfl rfl rfl rfl rfl) λJ=> ?_
   refine L.frz 0 rfl ?_
   have ⟨M,v,w⟩:=bnd t
   refine Lk [2,1] [0] (gL v) λ⟨x,y⟩=> ?_
   refine Z0 ?_
   cases w
   exact Eg (_,(x,y)) (q _ rfl) [1,0] [] 2
  refine Z0 ?_
  cases i
  have hb:=s _ rfl
  subst e
  exact Eg (c,d) trivial [0,0] [] 0
 rintro ⟨f,g⟩
 refine Z1 ?_
 have ⟨N,z,A⟩:=bnd o
 refine Lk [1,0] [] (nq z) λ⟨⟩=> ?_
 refine Z0 ?_
 cases A
 exact Eo1 () [] []
theorem Ft {x_:Int} {b:Int} {r:Int} (H:oq x_ b=some r):CT G 173 [.int .u32 x_,.int .u8 b] [] [Im.sl (Ty.int .u32) (some ⟨2,0,none⟩) 16 dA] (λ_:Unit=> .int .u32 r) (λh=>[]) (λh=>[]):=by
 delta oq at H
 refine Cf Go.Proofs.Tryz.func173 λK=> ?_
 refine Z3 ?_
 have ⟨x1,h2,H3⟩:=bnd H
 refine Ly (Yl.xg h2 rfl rfl rfl rfl rfl rfl rfl) ?_
 refine L.el 0 rfl (aU h2).2 ?_
 rintro _
 refine Lc 0 0 ?_
 refine Z1 ?_
 have ⟨x5,h6,H7⟩:=bnd H3
 refine Ly (Yl.xg h6 rfl rfl rfl rfl rfl rfl rfl) ?_
 refine L.el 1 rfl (aU h6).2 ?_
 rintro _
 refine Lc 0 0 ?_
 refine Z0 ?_
 cases H7
 exact Eo1 () [] []
theorem DV {l:List ByteArray} {r:Int} (H:qJ l=some r):CT G 132 [.slice A0 l.length C0] [] [Im.sl Ty.str A0 C0 l,Im.sl (Ty.int .u32) (some ⟨2,0,none⟩) 16 dA] (λ_:Unit=> .int .u32 r) (λh=>[]) (λh=>[]):=by
 delta qJ at H
 refine Cf Go.Proofs.Tryz.func132 λK=> ?_
 refine Z3 ?_
 refine Z1 ?_
 have ⟨j,m,n⟩:=bnd H
 refine Tj0 [(3,.int .u32 j)] [] [] [] ?_ ?_
 ·refine Yl0 ?_
  refine Tq (η:=Unit) (λa h=>[(3,.int .u32 a.1),(9,.int .i64 a.2)]) [7,8] (λ_ _=>[]) [] (λ_ _=>[]) () [] [] m ?_
  rintro k_ a ⟨⟩ I o p q
  refine Y2 ?_
  refine Tb o (λb=> ?_) λb=> ?_
  ·refine Z1 ?_
   refine Zl ?_
   refine Z1 ?_
   have ⟨s,d,t⟩:=bnd b
   refine L.addr 0 rfl (cJ d) λe f u=> ?_
   subst u
   refine Ly (Yl.ia d rfl rfl rfl rfl rfl rfl) ?_
   refine L.el 0 rfl (aU d).2 ?_
   rintro _
   refine Lc 0 0 ?_
   refine Z1 ?_
   have ⟨k,v,w⟩:=bnd t
   refine T.sR (η:=Unit×Unit) (λh=>True) (λh=>[(3,.int .u32 k),(7,.slice (some ⟨e,f,none⟩) l.length C0),(8,.int .i64 (l.length:Int)),(9,.int .i64 a.2)]) (λh=>[]) (λh=>[Im.cells e (f+a.2.toNat*1) [.string s],Im.sl Ty.str (some ⟨e,f,none⟩) C0 l,Im.sl (Ty.int .u32) (some ⟨2,0,none⟩) 16 dA]) ?_ ?_
   ·refine Yl0 ?_
    refine Tq (η:=Unit) (λg h=>[(3,.int .u32 g.2),(15,.int .i64 g.1)]) [5,7,8,9,14] (λ_ _=>[]) [] (λ_ _=>[]) () [] [] v ?_
    rintro k_ g ⟨⟩ J x y z
    refine Y2 ?_
    refine Tb x (λi=> ?_) λi=> ?_
    ·refine Z1 ?_
     refine Zl ?_
     refine Z1 ?_
     have ⟨M,A,B⟩:=bnd i
     refine Ly (Yl.si A rfl rfl rfl rfl rfl) ?_
     have ⟨N,C,F⟩:=bnd B
     refine Lk [] [2] (Ft C) λ⟨⟩=> ?_
     refine Z0 ?_
     cases F
     exact Eg (_,()) (y _ rfl) [] [] 0
    refine Z0 ?_
    cases i
    have hb:=z _ rfl
    subst k
    exact Egx ((),()) trivial [] [0,1,2]
   rintro ⟨_,⟨⟩⟩ _
   refine Z0 ?_
   cases w
   exact Eg (_,()) (p _ rfl) [] [] 1
  refine Z0 ?_
  cases b
  have hb:=q _ rfl
  subst j
  exact Eg0 [] 0
 refine Z1 ?_
 refine Ly (Yl.com (c:=4294967295) rfl rfl rfl) ?_
 refine Z0 ?_
 cases n
 exact Eo1 () [] []
end Go.Tw.X
namespace Go.Tw.X
open Go Go.Tw
variable {A0 A1 A2 A3 A4 A5 A6 A7 A8 : Option Addr} {C0 C1 C2 C3 C4 C5 C6 C7 C8 : Nat}
variable {N0 N1 N2 N3 N4 : Nat}
variable {M0 : Option Nat}
theorem DW {chain:Int} {l:List aJ} {r:Int} (H:oG chain l=some r):CT G 98 [.int .i64 chain,.slice A0 l.length C0] [] [Im.sl aD A0 C0 l,Im.sl (Ty.int .u32) (some ⟨2,0,none⟩) 16 dA] (λ_:Unit=> .int .i64 r) (λh=>[]) (λh=>[]):=by
 delta oG at H
 refine Cf Go.Proofs.Tryz.func98 λK=> ?_
 refine Z2 ?_
 have ⟨r1,h2,H3⟩:=bnd H
 refine Lk [] [0] (tz h2) λ⟨⟩=> ?_
 refine La [] [] (Ac.bs (ty:=Ty.str) (xs:=[r1]) (.cons () [] rfl .nil) rfl rfl rfl rfl rfl rfl rfl) λg4=> ?_
 have ⟨r6,h7,H8⟩:=bnd H3
 refine L.br (Ac.call (DV h7) rfl rfl rfl rfl) (Bw.ch 0 rfl (Bw.im 1 rfl (Bw.nil))) rfl rfl rfl ?_
 intro _
 refine Z0 ?_
 cases H8
 exact Eo1 () [] []
theorem ql {b:cF} {l:List aJ} {r:cF} (H:gA b l=some r):CT G 59 [.pointer (some ⟨N0,0,none⟩),.slice A3 l.length C3] [Ch.box N0 115 [.slice A0 b.l.length C0,.slice A1 b.bV.length C1,.slice A2 b.begun.length C2],Ch.arr (Ty.slice aD) 40 A0 C0 b.l,Ch.arr (Ty.int .i64) 3 A1 C1 b.bV] [Im.sl aD A2 C2 b.begun,Im.sl aD A3 C3 l,Im.sl (Ty.int .u32) (some ⟨2,0,none⟩) 16 dA] (λh:(Option Addr×Nat)×(Option Addr×Nat)=> .tuple #[]) (λh=>[Ch.box N0 115 [.slice h.1.1 r.l.length h.1.2,.slice h.2.1 r.bV.length h.2.2,.slice A2 r.begun.length C2],Ch.arr (Ty.slice aD) 40 h.1.1 h.1.2 r.l,Ch.arr (Ty.int .i64) 3 h.2.1 h.2.2 r.bV]) (λh=>[Im.sl aD A2 C2 r.begun]):=by
 delta gA at H
 refine Cf Go.Proofs.Tryz.func59 λK=> ?_
 refine Y1 ?_
 refine Td [11] [0,1] mo ?_
 refine Dq 0 ?_
 refine Dq 1 ?_
 refine Dq 2 ?_
 refine Dq 3 ?_
 refine Db 4 0 ?_
 refine Dq 5 ?_
 have ⟨c,d,e⟩:=bnd H
 refine Dk [] [1] (k9 A3 C3 d) λ⟨f,g⟩=> ?_
 refine D.frz 0 rfl ?_
 refine Da [] [0] rfl rfl (Ac.bs (ty:=(Ty.slice aD)) (xs:=[c]) (.cons (f,g) [0] rfl .nil) rfl rfl rfl rfl rfl rfl rfl) λz=> ?_
 refine D.frz 0 rfl ?_
 have ⟨_,i,j⟩:=bnd e
 refine Da [0] [0] rfl rfl (Ac.ap (ty:=(Ty.slice aD)) i rfl rfl rfl rfl rfl rfl rfl) ?_
 rintro ⟨k,m⟩
 refine Dq 9 ?_
 refine Dq 10 ?_
 refine Dt 0 ?_
 refine Dn ?_
 refine Z0 ?_
 refine Td [23] [0,1] mo ?_
 refine Dq 0 ?_
 refine Dq 1 ?_
 refine Dq 2 ?_
 refine Dq 3 ?_
 refine Db 4 0 ?_
 refine Dq 5 ?_
 refine Dq 6 ?_
 refine Dq 7 ?_
 refine Db 8 0 ?_
 refine Dq 9 ?_
 refine Dq 10 ?_
 refine Dq 11 ?_
 refine Db 12 0 ?_
 refine Dq 13 ?_
 refine Dq 14 ?_
 have ⟨n,a,o⟩:=bnd j
 refine D.mj 2 rfl (cJ a) λA p=> ?_
 subst p
 refine Dy 15 (Yl.ia a rfl rfl rfl rfl rfl rfl) ?_
 refine Dq 17 ?_
 refine Da [0] [] rfl rfl (Ac.ofY (Yl.lo (ty:=(Ty.int .i64)) (v:= .int .i64 n) 0 ((IntKind.i64.wrap ((b.bV.length:Int) - 1)).toNat) 0 (aU a).2 rfl rfl rfl rfl (λ_=>rfl))) λ_=> ?_
 have ⟨q,s,t⟩:=bnd o
 refine Dk [] [3,4] (DW s) λ⟨⟩=> ?_
 refine Da [] [] rfl rfl (Ac.bs (ty:=(Ty.int .i64)) (xs:=[q]) (.cons () [] rfl .nil) rfl rfl rfl rfl rfl rfl rfl) λB=> ?_
 refine D.frz 0 rfl ?_
 have ⟨_,u,w⟩:=bnd t
 refine Da [0] [0] rfl rfl (Ac.ap (ty:=(Ty.int .i64)) u rfl rfl rfl rfl rfl rfl rfl) ?_
 rintro ⟨x,y⟩
 refine Dq 21 ?_
 refine Dq 22 ?_
 refine Dt 0 ?_
 refine Dn ?_
 refine E.off ?_
 cases w
 exact Eo ((k,m),(x,y)) [0,0,0] [3] .nil
theorem sA {b:cF} {rows:List aE} {r:Int×cF} (H:jM b rows=some r):CT G 31 [.pointer (some ⟨N0,0,none⟩),.slice A3 rows.length C3] [Ch.box N0 115 [.slice A0 b.l.length C0,.slice A1 b.bV.length C1,.slice A2 b.begun.length C2],Ch.arr (Ty.slice aD) 40 A0 C0 b.l,Ch.arr (Ty.int .i64) 3 A1 C1 b.bV,Ch.arr aD 112 A2 C2 b.begun] [Im.sl aC A3 C3 rows,Im.sl (Ty.int .u32) (some ⟨2,0,none⟩) 16 dA] (λh:(Option Addr×Nat)×(Option Addr×Nat)×(Option Addr×Nat)=> .int .i64 r.1) (λh=>[Ch.box N0 115 [.slice h.1.1 r.2.l.length h.1.2,.slice h.2.1.1 r.2.bV.length h.2.1.2,.slice h.2.2.1 r.2.begun.length h.2.2.2],Ch.arr (Ty.slice aD) 40 h.1.1 h.1.2 r.2.l,Ch.arr (Ty.int .i64) 3 h.2.1.1 h.2.1.2 r.2.bV,Ch.arr aD 112 h.2.2.1 h.2.2.2 r.2.begun]) (λh=>[]):=by
 delta jM at H
 refine Cf Go.Proofs.Tryz.func31 λK=> ?_
 refine Z3 ?_
 refine Z1 ?_
 have ⟨c,Y,Z⟩:=bnd H
 refine Tjh (η:=(Option Addr×Nat)×(Option Addr×Nat)×(Option Addr×Nat)) (λ_=>[]) [0,5] (λh=>(λo p q s t u=>[Ch.arr (Ty.slice aD) 40 o p c.l,Ch.arr (Ty.int .i64) 3 q s c.bV,Ch.arr aD 112 t u c.begun,Ch.box N0 115 [.slice o c.l.length p,.slice q c.bV.length s,.slice t c.begun.length u]]) h.1.1 h.1.2 h.2.1.1 h.2.1.2 h.2.2.1 h.2.2.2) [] (λ_=>[]) ?_ ?_
 ·refine Yl0 ?_
  refine Tq (η:=(Option Addr×Nat)×(Option Addr×Nat)×(Option Addr×Nat)) (λa h=>(λf g i j m n=>[(15,.int .i64 a.2)]) h.1.1 h.1.2 h.2.1.1 h.2.1.2 h.2.2.1 h.2.2.2) [0,5,13,14] (λa h=>(λf g i j m n=>[Ch.arr (Ty.slice aD) 40 f g a.1.l,Ch.arr (Ty.int .i64) 3 i j a.1.bV,Ch.arr aD 112 m n a.1.begun,Ch.box N0 115 [.slice f a.1.l.length g,.slice i a.1.bV.length j,.slice m a.1.begun.length n]]) h.1.1 h.1.2 h.2.1.1 h.2.1.2 h.2.2.1 h.2.2.2) [] (λ_ _=>[]) ((A0,C0),(A1,C1),(A2,C2)) [1,1,1,0] [] Y ?_
  rintro k_ a ⟨⟨f,g⟩,⟨i,j⟩,⟨m,n⟩⟩ bh aa ab ac
  refine Y2 ?_
  refine Tb aa (λU=> ?_) λU=> ?_
  ·refine Y1 ?_
   have ⟨k,ad,ae⟩:=bnd U
   refine Tjh (η:=(Option Addr×Nat)×(Option Addr×Nat)×(Option Addr×Nat)) (λ_=>[]) [0,5,13,14,15] (λh=>(λv w x y z A=>[Ch.arr (Ty.slice aD) 40 v w k.l,Ch.arr (Ty.int .i64) 3 x y k.bV,Ch.arr aD 112 z A k.begun,Ch.box N0 115 [.slice v k.l.length w,.slice x k.bV.length y,.slice z k.begun.length A]]) h.1.1 h.1.2 h.2.1.1 h.2.1.2 h.2.2.1 h.2.2.2) [] (λ_=>[]) ?_ ?_
   ·refine Zl ?_
    refine Z1 ?_
    have ⟨bi,V,af⟩:=bnd ad
    refine L.addr 0 rfl (cJ V) λbj bk ag=> ?_
    subst ag
    refine Ly (Yl.ia V rfl rfl rfl rfl rfl rfl) ?_
    refine L.el 0 rfl (aU V).2 ?_
    rintro ⟨bl,bm⟩
    refine Lc 0 0 ?_
    refine Ll λbn=> ?_
    refine Lt 0 ?_
    refine Y1 ?_
    refine Td [10] [0,0,0,1] mo ?_
    refine Dq 0 ?_
    refine Dq 1 ?_
    refine Dq 2 ?_
    refine Dq 3 ?_
    refine Db 4 3 ?_
    refine Db 5 0 ?_
    have ⟨bo,ah,ai⟩:=bnd af
    refine Dk [] [1] (xx ah) λ⟨bp,bq⟩=> ?_
    refine D.frz 0 rfl ?_
    have ⟨_,aj,ak⟩:=bnd ai
    refine Da [0] [0] rfl rfl (Ac.ap (ty:=aD) aj rfl rfl rfl rfl rfl rfl rfl) ?_
    rintro ⟨al,am⟩
    refine Dq 8 ?_
    refine Dq 9 ?_
    refine Dt 3 ?_
    refine Dn ?_
    refine Y1 ?_
    have ⟨d,an,ao⟩:=bnd ak
    refine Tjh (η:=(Option Addr×Nat)×(Option Addr×Nat)×(Option Addr×Nat)) (λ_=>[]) [0,5,7,13,14,15] (λh=>(λB C F I J M=>[Ch.arr (Ty.slice aD) 40 B C d.l,Ch.arr (Ty.int .i64) 3 F I d.bV,Ch.arr aD 112 J M d.begun,Ch.box N0 115 [.slice B d.l.length C,.slice F d.bV.length I,.slice J d.begun.length M]]) h.1.1 h.1.2 h.2.1.1 h.2.1.2 h.2.2.1 h.2.2.2) [1] (λ_=>[]) ?_ ?_
    ·refine Yl0 ?_
     refine Tq (η:=(Option Addr×Nat)×(Option Addr×Nat)×(Option Addr×Nat)) (λ_ _=>[]) [0,5,7,13,14,15] (λe h=>(λN O P Q R S=>[Ch.arr (Ty.slice aD) 40 N O e.l,Ch.arr (Ty.int .i64) 3 P Q e.bV,Ch.arr aD 112 R S e.begun,Ch.box N0 115 [.slice N e.l.length O,.slice P e.bV.length Q,.slice R e.begun.length S]]) h.1.1 h.1.2 h.2.1.1 h.2.1.2 h.2.2.1 h.2.2.2) [1] (λ_ _=>[]) ((f,g),(i,j),(al,am)) [2,2,2,0,0] [] an ?_
     rintro k_ e ⟨⟨N,O⟩,⟨P,Q⟩,⟨R,S⟩⟩ br aq ar au
     refine Z2 ?_
     refine Tb aq (λW=> ?_) λW=> ?_
     ·refine Zl ?_
      refine Z1 ?_
      refine L.frz 2 rfl ?_
      have ⟨_,av,aw⟩:=bnd W
      refine L.rs 0 av rfl rfl rfl rfl rfl rfl rfl rfl rfl rfl rfl rfl ?_
      intro bs bt
      have ⟨bu,ax,ay⟩:=bnd aw
      refine Lk [2,0,0] [1,0,6] (ql ax) λ⟨⟨az,a0⟩,⟨a1,a2⟩⟩=> ?_
      refine Z0 ?_
      have ⟨_,a3,a4⟩:=bnd ay
      refine L.rs 0 a3 rfl rfl rfl rfl rfl rfl rfl rfl rfl rfl rfl rfl ?_
      intro a5 a6
      have ⟨bv,a7,a8⟩:=bnd a4
      refine Lk [] [0] (k9 a5 a6 a7) λ⟨a9,ba⟩=> ?_
      refine Z0 ?_
      refine Lt 1 ?_
      refine Z0 ?_
      cases a8
      exact Eg (_,((az,a0),(a1,a2),(a9,ba))) (ar _ rfl) [2,2,1,0,0] [] 4
     refine Z0 ?_
     cases W
     have hb:=au _ rfl
     subst d
     exact Eg ((N,O),(P,Q),(R,S)) trivial [0,0,0,0,0] [] 0
    rintro ⟨⟨B,C⟩,⟨F,I⟩,⟨J,M⟩⟩
    refine Z1 ?_
    refine Tb ao (λX=> ?_) λX=> ?_
    ·refine Z1 ?_
     refine L.frz 2 rfl ?_
     have ⟨bw,bb,bc⟩:=bnd X
     refine Lk [2,0,0] [0,0,5] (ql bb) λ⟨⟨bd,be⟩,⟨bf,bg⟩⟩=> ?_
     refine Z0 ?_
     refine Lt 0 ?_
     refine Z0 ?_
     refine E.iS aD 112 ?_
     cases bc
     exact Eg ((bd,be),(bf,bg),(none,0)) trivial [2,2,0,0] [] 5
    refine Z0 ?_
    cases X
    exact Eg ((B,C),(F,I),(J,M)) trivial [0,0,0,0] [] 3
   rintro ⟨⟨v,w⟩,⟨x,y⟩,⟨z,A⟩⟩
   refine Z0 ?_
   cases ae
   exact Eg (_,((v,w),(x,y),(z,A))) (ab _ rfl) [0,0,0,0] [] 0
  refine Z0 ?_
  cases U
  have hb:=ac _ rfl
  subst c
  exact Eg ((f,g),(i,j),(m,n)) trivial [0,0,0,0] [] 0
 rintro ⟨⟨o,p⟩,⟨q,s⟩,⟨t,u⟩⟩
 refine Z1 ?_
 cases Z
 exact Eo1 ((o,p),(q,s),(t,u)) [3,0,0,0] []
theorem wA {m_:bB} {text:ByteArray} {r:ByteArray} (H:mm m_ text=some r):CT G 33 [.pointer (some ⟨N0,0,none⟩),.string text] [Ch.box N0 56 (sb m_ N1 N2 N3),Ch.box N1 115 [.slice A0 m_.book.l.length C0,.slice A1 m_.book.bV.length C1,.slice A2 m_.book.begun.length C2],Ch.arr (Ty.slice aD) 40 A0 C0 m_.book.l,Ch.arr (Ty.int .i64) 3 A1 C1 m_.book.bV,Ch.arr aD 112 A2 C2 m_.book.begun,Ch.box N2 76 (mh m_.parser A3 C3),Ch.opt (m_.parser.state == (3:Int)) (Ty.int .i64) 3 A3 C3 m_.parser.order.bJ,Ch.box N3 124 (cI m_.aV N4),Ch.box N4 169 [.int .i64 m_.aV.g.w,.slice A5 m_.aV.g.l.length C5],Ch.arr aC 107 A5 C5 m_.aV.g.l] [Im.sl cL (some ⟨0,0,none⟩) 13 dC,Im.sl cL (some ⟨1,0,none⟩) 14 dK,Im.sl eQ (some ⟨3,0,none⟩) 8 bX] (λh:Nat×Nat=> .func (.func 65) #[] #[.pointer (some ⟨h.1,0,none⟩),.pointer (some ⟨h.2,0,none⟩)]) (λh=>[Ch.box h.1 24 [.pointer (some ⟨N0,0,none⟩)],Ch.box h.2 9 [.string r],Ch.box N0 56 (sb m_ N1 N2 N3),Ch.box N1 115 [.slice A0 m_.book.l.length C0,.slice A1 m_.book.bV.length C1,.slice A2 m_.book.begun.length C2],Ch.arr (Ty.slice aD) 40 A0 C0 m_.book.l,Ch.arr (Ty.int .i64) 3 A1 C1 m_.book.bV,Ch.arr aD 112 A2 C2 m_.book.begun,Ch.box N2 76 (mh m_.parser A3 C3),Ch.opt (m_.parser.state == (3:Int)) (Ty.int .i64) 3 A3 C3 m_.parser.order.bJ,Ch.box N3 124 (cI m_.aV N4),Ch.box N4 169 [.int .i64 m_.aV.g.w,.slice A5 m_.aV.g.l.length C5],Ch.arr aC 107 A5 C5 m_.aV.g.l]) (λh=>[]):=by
 delta mm at H
 refine Cf Go.Proofs.Tryz.func33 λK=> ?_
 refine Z1 ?_
 refine Lx λg1=> ?_
 refine Lx λg2=> ?_
 refine Z1 ?_
 cases H
 exact Eo1 (g1,g2) [1,0,0,0,0,0,0,0,0,0,0,0] []
theorem uw {d:bT} {r:(List Int)} (H:jN d=some r):CT G 177 [.agg #[.int .u8 d.lead,.int .i32 d.rune,.int .i64 d.jV]] [] [] (λh:(Option Addr×Nat)=> .slice h.1 r.length h.2) (λh=>[Ch.arr (Ty.int .i32) 21 h.1 h.2 r]) (λh=>[]):=by
 delta jN at H
 refine Cf Go.Proofs.Tryz.func177 λK=> ?_
 refine Z1 ?_
 refine Lx λg1=> ?_
 refine Z2 ?_
 refine Tb H (λH3=> ?_) λH3=> ?_
 ·refine Z1 ?_
  refine E.iS (Ty.int .i32) 21 ?_
  cases H3
  exact Eo1 (none,0) [0] []
 refine Z1 ?_
 refine La [] [] (Ac.bs (ty:=(Ty.int .i32)) (xs:=[65533]) (.cons () [] rfl .nil) rfl rfl rfl rfl rfl rfl rfl) λg5=> ?_
 refine Z0 ?_
 cases H3
 exact Eo1 ((some ⟨g5,0,none⟩),1) [0] []
theorem mr {p:aI} {a:aZ} {r:aI} (H:gB p a=some r):CT G 180 [.pointer (some ⟨N0,0,none⟩),.agg (z4 a A2 C2).toArray] [Ch.box N0 76 (l6 p A0 C0 A1 C1),Ch.opt (p.state == (3:Int)) (Ty.int .i64) 3 A0 C0 p.order.bJ,Ch.arr bG 136 A1 C1 p.out] [Im.sl (Ty.int .i64) A2 C2 a.bJ] (λh:(Option Addr×Nat)=> .tuple #[]) (λh=>[Ch.box N0 76 (l6 r A0 C0 h.1 h.2),Ch.opt (r.state == (3:Int)) (Ty.int .i64) 3 A0 C0 r.order.bJ,Ch.arr bG 136 h.1 h.2 r.out]) (λh=>[]):=by
 delta gB at H
 refine Cf Go.Proofs.Tryz.func180 λK=> ?_
 refine Z1 ?_
 refine Lx λg1=> ?_
 refine Z0 ?_
 refine Td [7,10] [0,0,0,0] mo ?_
 refine Dq 0 ?_
 refine Dq 1 ?_
 refine Dq 2 ?_
 refine Dq 3 ?_
 refine Db 4 1 ?_
 refine Db 5 0 ?_
 refine Da [] [0] rfl rfl (Ac.bs (ty:=bG) (xs:=[a]) (.cons (A2,C2) [0] rfl .nil) rfl rfl rfl rfl rfl rfl rfl) λf=> ?_
 refine D.frz 0 rfl ?_
 have ⟨_,b,c⟩:=bnd H
 refine D.one rfl rfl rfl (Dp.al [3] [0] (Ac.ap (ty:=bG) b rfl rfl rfl rfl rfl rfl rfl) rfl rfl rfl rfl rfl rfl rfl ?_)
 rintro ⟨d,e⟩
 refine Dq 8 ?_
 refine Dq 9 ?_
 refine Dt 2 ?_
 refine Dn ?_
 refine E.off ?_
 cases c
 exact Eo (d,e) [0,2,0] [] .nil
theorem pR {p:aI} {l:List Int} {r:aI} (H:jd p l=some r):CT G 176 [.pointer (some ⟨N0,0,none⟩),.slice A2 l.length C2] [Ch.box N0 76 (l6 p A0 C0 A1 C1),Ch.opt (p.state == (3:Int)) (Ty.int .i64) 3 A0 C0 p.order.bJ,Ch.arr bG 136 A1 C1 p.out] [Im.sl (Ty.int .i32) A2 C2 l] (λh:(Option Addr×Nat)=> .tuple #[]) (λh=>[Ch.box N0 76 (l6 r A0 C0 h.1 h.2),Ch.opt (r.state == (3:Int)) (Ty.int .i64) 3 A0 C0 r.order.bJ,Ch.arr bG 136 h.1 h.2 r.out]) (λh=>[]):=by
 delta jd at H
 refine Cf Go.Proofs.Tryz.func176 λK=> ?_
 refine Z1 ?_
 have ⟨d,k,m⟩:=bnd H
 refine T.sR (η:=Unit×((Option Addr×Nat))) (λh=>True) (λh=>(λb c=>[]) h.2.1 h.2.2) (λh=>(λb c=>[Ch.opt (d.state == (3:Int)) (Ty.int .i64) 3 A0 C0 d.order.bJ,Ch.arr bG 136 b c d.out,Ch.box N0 76 (l6 d A0 C0 b c)]) h.2.1 h.2.2) (λh=>(λb c=>[Im.sl (Ty.int .i32) A2 C2 l]) h.2.1 h.2.2) ?_ ?_
 ·refine Yl0 ?_
  refine Tq (η:=(Option Addr×Nat)) (λa h=>(λe g=>[(8,.int .i64 a.2)]) h.1 h.2) [0,6,7] (λa h=>(λe g=>[Ch.opt (a.1.state == (3:Int)) (Ty.int .i64) 3 A0 C0 a.1.order.bJ,Ch.arr bG 136 e g a.1.out,Ch.box N0 76 (l6 a.1 A0 C0 e g)]) h.1 h.2) [] (λ_ _=>[]) (A1,C1) [1,1,0] [] k ?_
  rintro k_ a ⟨e,g⟩ z n o q
  refine Y2 ?_
  refine Tb n (λi=> ?_) λi=> ?_
  ·refine Z1 ?_
   refine Zl ?_
   refine Z1 ?_
   have ⟨B,j,s⟩:=bnd i
   refine L.addr 0 rfl (cJ j) λC F t=> ?_
   subst t
   refine Ly (Yl.ia j rfl rfl rfl rfl rfl rfl) ?_
   refine L.el 0 rfl (aU j).2 ?_
   rintro _
   refine Lc 0 0 ?_
   refine Z0 ?_
   refine L.jk [Im.sl (Ty.int .i64) none 0 []] (λA w _ _ f hf=>by rw [List.mem_singleton.1 hf]; exact Im.gF A w) ?_
   have ⟨I,u,v⟩:=bnd s
   refine Lk [2,0,0] [0] (mr u) λ⟨x,y⟩=> ?_
   refine Z0 ?_
   cases v
   exact Eg (_,(x,y)) (o _ rfl) [1,1,0] [] 2
  refine Z0 ?_
  cases i
  have hb:=q _ rfl
  subst d
  exact Egx ((),(e,g)) trivial [0,0,0] [0]
 rintro ⟨_,⟨b,c⟩⟩ _
 refine E.off ?_
 cases m
 exact Eo (b,c) [2,0,0] [] .nil
theorem lk {p:aI} {b:Int} {r:Bool×aI} (H:fJ p b=some r):CT G 178 [.pointer (some ⟨N0,0,none⟩),.int .u8 b] [Ch.box N0 76 (l6 p A0 C0 A1 C1),Ch.opt (p.state == (3:Int)) (Ty.int .i64) 3 A0 C0 p.order.bJ,Ch.arr bG 136 A1 C1 p.out] [] (λh:(Option Addr×Nat)=> .bool r.1) (λh=>[Ch.box N0 76 (l6 r.2 A0 C0 h.1 h.2),Ch.opt (r.2.state == (3:Int)) (Ty.int .i64) 3 A0 C0 r.2.order.bJ,Ch.arr bG 136 h.1 h.2 r.2.out]) (λh=>[]):=by
 delta fJ at H
 refine Cf Go.Proofs.Tryz.func178 λK=> ?_
 refine Y2 ?_
 have ⟨k,m,l⟩:=bnd H
 refine Tj (η:=aI×((Option Addr×Nat))) (λh=>k = .inl h.1) (λ_=>[]) [] (λh=>(λa=>(λc d=>[Ch.opt (a.state == (3:Int)) (Ty.int .i64) 3 A0 C0 a.order.bJ,Ch.arr bG 136 c d a.out,Ch.box N0 76 (l6 a A0 C0 c d)]) h.2.1 h.2.2) h.1) [] (λ_=>[]) ?_ ?_
 ·refine Zl ?_
  refine Y1 ?_
  have ⟨n,o,q⟩:=bnd m
  refine Tj0 [(7,.bool n)] [0,1] [] [0,1,2] ?_ ?_
  ·refine Z0 ?_
   refine Lw 10 o (λe=> ?_) λe=> ?_
   ·refine Z0 ?_
    cases e
    exact Eg0 [0,0,0] 0
   refine Z0 ?_
   cases e
   exact Eg0 [0,0,0] 0
  refine Tb q (λg=> ?_) λg=> ?_
  ·refine Z0 ?_
   refine Lt 0 ?_
   refine Z0 ?_
   refine E.oset 1 (0 == (3:Int)) rfl rfl ?_
   cases g
   exact Eg (_,(A1,C1)) rfl [0,1,0] [] 0
  refine Z1 ?_
  refine Tb g (λi=> ?_) λi=> ?_
  ·refine Z0 ?_
   refine Lt 0 ?_
   refine Z0 ?_
   refine E.oset 1 (1 == (3:Int)) rfl rfl ?_
   cases i
   exact Eg (_,(A1,C1)) rfl [0,1,0] [] 0
  refine Z1 ?_
  refine Tb i (λj=> ?_) λj=> ?_
  ·refine Z0 ?_
   refine L.jk [Im.sl (Ty.int .i64) none 0 []] (λA w _ _ f hf=>by rw [List.mem_singleton.1 hf]; exact Im.gF A w) ?_
   have ⟨y,s,t⟩:=bnd j
   refine Lk [0,0,0] [0] (mr s) λ⟨u,v⟩=> ?_
   refine Z0 ?_
   cases t
   exact Eg (_,(u,v)) rfl [1,1,0] [] 1
  refine Z1 ?_
  obtain ⟨z,hz,x⟩:=eC j
  subst k
  obtain rfl:=(sm l).symm
  refine Z0 ?_
  cases x
  exact Eo1 (A1,C1) [0,0,0] []
 rintro ⟨a,⟨c,d⟩⟩ hy
 subst hy
 refine Z1 ?_
 cases l
 exact Eo1 (c,d) [2,0,0] []
theorem wB {b:Int} {r:lr×Bool} (H:mJ b=some r):CT G 213 [.int .u8 b] [] [Im.sl eQ (some ⟨3,0,none⟩) 8 bX] (λ_:Unit=> .tuple #[.agg (QK r.1).toArray,.bool r.2]) (λh=>[]) (λh=>[]):=by
 delta mJ at H
 refine Cf Go.Proofs.Tryz.func213 λK=> ?_
 refine Z1 ?_
 refine Ll λg1=> ?_
 refine Z2 ?_
 refine Ly (Yl.ldt (ty:=eQ) (h0:=()) 0 rfl rfl rfl (λ_ _=>rfl) rfl rfl rfl rfl) ?_
 refine Z0 ?_
 have ⟨a,j,f⟩:=bnd H
 refine Tj (η:=Unit×Unit) (λh=>a = .inl h.1) (λ_=>[]) [2] (λ_=>[]) [0] (λ_=>[]) ?_ ?_
 ·refine Yl0 ?_
  refine Tq (η:=Unit) (λg h=>[(7,.int .i64 g)]) [0,2,6] (λ_ _=>[]) [0] (λ_ _=>[]) () [0] [] j ?_
  rintro k_ g ⟨⟩ k l m i
  refine Y2 ?_
  refine Tb l (λc=> ?_) λc=> ?_
  ·refine Z1 ?_
   refine Zl ?_
   refine Z1 ?_
   have ⟨u,n,o⟩:=bnd c
   refine Ly (Yl.xav (ty:=eQ) (h0:=()) n rfl rfl rfl rfl rfl rfl rfl rfl rfl) ?_
   refine Ll λv=> ?_
   refine Lt 0 ?_
   refine Y1 ?_
   have ⟨p,q,s⟩:=bnd o
   refine Tj0 [(19,.bool p)] [0,2,5,6,7] [] [0,1] ?_ ?_
   ·refine Z0 ?_
    refine Lw 14 q (λd=> ?_) λd=> ?_
    ·refine Z0 ?_
     cases d
     exact Eg0 [0,0] 0
    refine Z0 ?_
    cases d
    exact Eg0 [0,0] 0
   refine Tb s (λe=> ?_) λe=> ?_
   ·refine Z1 ?_
    refine Lt 1 ?_
    refine Z0 ?_
    obtain ⟨w,hz,t⟩:=fH e
    subst k
    have hb:=i _ rfl
    subst a
    obtain rfl:=(sm f).symm
    refine Z0 ?_
    cases t
    exact Eo () [] [] (.cell 0 rfl rfl rfl (.tmp rfl .nil))
   refine Z0 ?_
   cases e
   exact Eg (_,()) (m _ rfl) [1] [] 0
  refine Z0 ?_
  cases c
  have hb:=i _ rfl
  subst a
  exact Eg (_,()) rfl [0] [] 0
 rintro ⟨x,⟨⟩⟩ hy
 subst hy
 refine Z1 ?_
 refine Lt 0 ?_
 refine Z0 ?_
 cases f
 exact Eo () [] [] (.cell 0 rfl rfl rfl (.tmp rfl .nil))
theorem uR {b:Int} {r:bT×(List Int)} (H:ma b=some r):CT G 204 [.int .u8 b] [] [Im.sl eQ (some ⟨3,0,none⟩) 8 bX] (λh:(Option Addr×Nat)=> .tuple #[.agg #[.int .u8 r.1.lead,.int .i32 r.1.rune,.int .i64 r.1.jV],.slice h.1 r.2.length h.2]) (λh=>[Ch.arr (Ty.int .i32) 21 h.1 h.2 r.2]) (λh=>[]):=by
 delta ma at H
 refine Cf Go.Proofs.Tryz.func204 λK=> ?_
 refine Z1 ?_
 refine Ll λg1=> ?_
 refine Z2 ?_
 refine Tb H (λH5=> ?_) λH5=> ?_
 ·refine Z1 ?_
  refine La [] [] (Ac.bs (ty:=(Ty.int .i32)) (xs:=[(IntKind.i32.wrap b)]) (.cons () [] rfl .nil) rfl rfl rfl rfl rfl rfl rfl) λg6=> ?_
  refine Lt 1 ?_
  refine Z0 ?_
  cases H5
  exact Eo ((some ⟨g6,0,none⟩),1) [1] [] (.cell 0 rfl rfl rfl (.tmp rfl .nil))
 refine Z1 ?_
 have ⟨r8,h9,c⟩:=bnd H5
 refine Lk [] [0] (wB h9) λ⟨⟩=> ?_
 refine Z0 ?_
 refine Ll λg=> ?_
 refine Lt 0 ?_
 refine Z2 ?_
 refine Tb c (λa=> ?_) λa=> ?_
 ·refine Z1 ?_
  refine La [] [] (Ac.bs (ty:=(Ty.int .i32)) (xs:=[65533]) (.cons () [] rfl .nil) rfl rfl rfl rfl rfl rfl rfl) λd=> ?_
  refine Lt 2 ?_
  refine Z0 ?_
  cases a
  exact Eo ((some ⟨d,0,none⟩),1) [1] [] (.cell 0 rfl rfl rfl (.tmp rfl .nil))
 refine Y1 ?_
 refine Td [10] [0,0] mo ?_
 refine Dq 0 ?_
 refine Dq 1 ?_
 refine Dq 2 ?_
 refine Dq 3 ?_
 refine Db 4 0 ?_
 have ⟨_,e,f⟩:=bnd a
 refine Dy 5 (Yl.shr (nb:=32) rfl e rfl rfl rfl) ?_
 refine Dq 6 ?_
 refine Dq 7 ?_
 refine Db 8 0 ?_
 refine Dq 9 ?_
 refine Dt 1 ?_
 refine Dq 11 ?_
 refine Dn ?_
 refine Z0 ?_
 refine E.iS (Ty.int .i32) 21 ?_
 cases f
 exact Eo (none,0) [0] [] (.cell 1 rfl rfl rfl (.tmp rfl .nil))
theorem tB {d:bT} {b:Int} {r:Bool} (H:jr d b=some r):CT G 205 [.agg #[.int .u8 d.lead,.int .i32 d.rune,.int .i64 d.jV],.int .u8 b] [] [Im.sl eQ (some ⟨3,0,none⟩) 8 bX] (λ_:Unit=> .bool r) (λh=>[]) (λh=>[]):=by
 delta jr at H
 refine Cf Go.Proofs.Tryz.func205 λK=> ?_
 refine Z1 ?_
 refine Lx λg1=> ?_
 refine Z1 ?_
 have ⟨r2,h3,H4⟩:=bnd H
 refine Lk [] [0] (wB h3) λ⟨⟩=> ?_
 refine Z0 ?_
 refine Ll λg5=> ?_
 refine Lt 0 ?_
 refine Z2 ?_
 refine Tb H4 (λa=> ?_) λa=> ?_
 ·refine Y1 ?_
  have ⟨f,g,i⟩:=bnd a
  refine Tj0 [(4,.bool f)] [] [] [0,1] ?_ ?_
  ·refine Z0 ?_
   refine Lw 20 g (λc=> ?_) λc=> ?_
   ·refine Z0 ?_
    cases c
    exact Eg0 [0,0] 0
   refine Z0 ?_
   cases c
   exact Eg0 [0,0] 0
  refine Z0 ?_
  cases i
  exact Eo1 () [] []
 refine Y1 ?_
 have ⟨j,k,l⟩:=bnd a
 refine Tj0 [(4,.bool j)] [] [] [0,1] ?_ ?_
 ·refine Z0 ?_
  refine Lw 28 k (λe=> ?_) λe=> ?_
  ·refine Z0 ?_
   cases e
   exact Eg0 [0,0] 0
  refine Z0 ?_
  cases e
  exact Eg0 [0,0] 0
 refine Z0 ?_
 cases l
 exact Eo1 () [] []
theorem tC {d:bT} {b:Int} {r:bT×(List Int)} (H:jt d b=some r):CT G 179 [.agg #[.int .u8 d.lead,.int .i32 d.rune,.int .i64 d.jV],.int .u8 b] [] [Im.sl eQ (some ⟨3,0,none⟩) 8 bX] (λh:(Option Addr×Nat)=> .tuple #[.agg #[.int .u8 r.1.lead,.int .i32 r.1.rune,.int .i64 r.1.jV],.slice h.1 r.2.length h.2]) (λh=>[Ch.arr (Ty.int .i32) 21 h.1 h.2 r.2]) (λh=>[]):=by
 delta jt at H
 refine Cf Go.Proofs.Tryz.func179 λK=> ?_
 refine Z1 ?_
 refine Lx λg1=> ?_
 refine Ll λg2=> ?_
 refine Z2 ?_
 refine Tb H (λf=> ?_) λf=> ?_
 ·refine Z1 ?_
  have ⟨B,l,m⟩:=bnd f
  refine Lk [] [0] (uR l) λ⟨n,o⟩=> ?_
  refine Z0 ?_
  refine Lt 1 ?_
  refine Z0 ?_
  cases m
  exact Eo (n,o) [1] [] (.cell 0 rfl rfl rfl (.tmp rfl .nil))
 refine Z2 ?_
 have ⟨C,p,q⟩:=bnd f
 refine Lk [] [0] (tB p) λ⟨⟩=> ?_
 refine Z0 ?_
 refine Tb q (λg=> ?_) λg=> ?_
 ·refine Z1 ?_
  have ⟨F,s,t⟩:=bnd g
  refine Lk [] [0] (uR s) λ⟨I,J⟩=> ?_
  refine Z0 ?_
  refine Ll λM=> ?_
  refine Lt 0 ?_
  refine Y1 ?_
  refine Td [4] [0,1,1] mo ?_
  refine Db 0 0 ?_
  refine Dq 2 ?_
  refine Da [] [] rfl rfl (Ac.bs (ty:=(Ty.int .i32)) (xs:=[65533]) (.cons () [] rfl .nil) rfl rfl rfl rfl rfl rfl rfl) λN=> ?_
  refine D.frz 1 rfl ?_
  have ⟨_,u,v⟩:=bnd t
  refine Da [0] [0] rfl rfl (Ac.ap (ty:=(Ty.int .i32)) u rfl rfl rfl rfl rfl rfl rfl) ?_
  rintro ⟨w,x⟩
  refine Dt 1 ?_
  refine Dq 5 ?_
  refine Dn ?_
  refine Z0 ?_
  cases v
  exact Eo (w,x) [3] [] (.cell 0 rfl rfl rfl (.tmp rfl .nil))
 refine Z1 ?_
 refine Lt 1 ?_
 refine Z0 ?_
 refine Lt 0 ?_
 refine Z2 ?_
 refine Tb g (λi=> ?_) λi=> ?_
 ·refine Y1 ?_
  have ⟨j,k,y⟩:=bnd i
  refine Tjh (η:=(Option Addr×Nat)) (λh=>(λc e=>[(5,.slice c j.length e)]) h.1 h.2) [4] (λh=>(λc e=>[Ch.arr (Ty.int .i32) 21 c e j]) h.1 h.2) [0,1] (λ_=>[]) ?_ ?_
  ·refine Td [] [0] mo ?_
   refine Dq 0 ?_
   refine Dq 1 ?_
   refine Db 2 0 ?_
   refine D.two rfl rfl rfl ?_ ?_
   ·refine Dp.a [] [] (Ac.bs (ty:=(Ty.int .i32)) (xs:=[(Go.bits .or .i32 (IntKind.i32.wrap (d.rune*2 ^ (min 6 32))) (Go.bits .and .i32 (IntKind.i32.wrap b) 63))]) (.cons () [] rfl .nil) rfl rfl rfl rfl rfl rfl rfl) rfl rfl rfl rfl rfl rfl ?_
    intro z
    refine Da [1] [] rfl rfl (Ac.stb rfl rfl rfl rfl rfl rfl) λ_=> ?_
    refine Dq 5 ?_
    refine Dn ?_
    cases k
    exact Eg ((some ⟨z,0,none⟩),1) trivial [2,0,0] [] 0
   refine Dp.a [0] [] (Ac.stb rfl rfl rfl rfl rfl rfl) rfl rfl rfl rfl rfl rfl ?_
   intro _
   refine Da [] [] rfl rfl (Ac.bs (ty:=(Ty.int .i32)) (xs:=[(Go.bits .or .i32 (IntKind.i32.wrap (d.rune*2 ^ (min 6 32))) (Go.bits .and .i32 (IntKind.i32.wrap b) 63))]) (.cons () [] rfl .nil) rfl rfl rfl rfl rfl rfl rfl) λA=> ?_
   refine Dq 5 ?_
   refine Dn ?_
   cases k
   exact Eg ((some ⟨A,0,none⟩),1) trivial [1,0,0] [] 0
  rintro ⟨c,e⟩
  refine Z0 ?_
  cases y
  exact Eo (c,e) [0] [] (.cell 2 rfl rfl rfl (.tmp rfl .nil))
 refine Z1 ?_
 refine Lt 1 ?_
 refine Z0 ?_
 refine E.iS (Ty.int .i32) 21 ?_
 cases i
 exact Eo (none,0) [0] [] (.cell 1 rfl rfl rfl (.tmp rfl .nil))
theorem sI {p:aI} {b:Int} {r:aI} (H:iV p b=some r):CT G 138 [.pointer (some ⟨N0,0,none⟩),.int .u8 b] [Ch.box N0 76 (l6 p A0 C0 A1 C1),Ch.opt (p.state == (3:Int)) (Ty.int .i64) 3 A0 C0 p.order.bJ,Ch.arr bG 136 A1 C1 p.out] [Im.sl eQ (some ⟨3,0,none⟩) 8 bX] (λh:(Option Addr×Nat)=> .tuple #[]) (λh=>[Ch.box N0 76 (l6 r A0 C0 h.1 h.2),Ch.opt (r.state == (3:Int)) (Ty.int .i64) 3 A0 C0 r.order.bJ,Ch.arr bG 136 h.1 h.2 r.out]) (λh=>[]):=by
 delta iV at H
 refine Cf Go.Proofs.Tryz.func138 λK=> ?_
 refine Y2 ?_
 have ⟨e4,H5,H6⟩:=bnd H
 refine Tj0 [(10,.bool e4)] [0,1] [] [0,1,2] ?_ ?_
 ·refine Z0 ?_
  refine Lw 7 H5 (λH7=> ?_) λH7=> ?_
  ·refine Z0 ?_
   cases H7
   exact Eg0 [0,0,0] 0
  refine Z0 ?_
  cases H7
  exact Eg0 [0,0,0] 0
 refine Tb H6 (λa=> ?_) λa=> ?_
 ·refine Z1 ?_
  have ⟨t,c,d⟩:=bnd a
  refine Lk [] [] (uw c) λ⟨u,v⟩=> ?_
  refine L.frz 0 rfl ?_
  have ⟨w,e,f⟩:=bnd d
  refine Lk [0,0,0] [0] (pR e) λ⟨x,y⟩=> ?_
  refine Z1 ?_
  refine Lt 0 ?_
  refine Z1 ?_
  have ⟨z,g,i⟩:=bnd f
  refine Lk [0,0,0] [] (lk g) λ⟨j,k⟩=> ?_
  refine Z0 ?_
  cases i
  exact Eo (j,k) [0,0,0] [] .nil
 refine Z2 ?_
 have ⟨A,l,m⟩:=bnd a
 refine Lk [] [0] (tC l) λ⟨B,C⟩=> ?_
 refine Z0 ?_
 refine Lt 1 ?_
 refine Z0 ?_
 refine L.frz 1 rfl ?_
 have ⟨F,n,o⟩:=bnd m
 refine Lk [0,0,0] [0] (pR n) λ⟨q,s⟩=> ?_
 refine Ln (E.off ?_)
 cases o
 exact Eo (q,s) [0,0,0] [] .nil
theorem od {p:aI} {b:Int} {r:aI} (H:gC p b=some r):CT G 139 [.pointer (some ⟨N0,0,none⟩),.int .u8 b] [Ch.box N0 76 (l6 p A0 C0 A1 C1),Ch.opt (p.state == (3:Int)) (Ty.int .i64) 3 A0 C0 p.order.bJ,Ch.arr bG 136 A1 C1 p.out] [] (λh:(Option Addr×Nat)×(Option Addr×Nat)=> .tuple #[]) (λh=>[Ch.box N0 76 (l6 r h.1.1 h.1.2 h.2.1 h.2.2),Ch.opt (r.state == (3:Int)) (Ty.int .i64) 3 h.1.1 h.1.2 r.order.bJ,Ch.arr bG 136 h.2.1 h.2.2 r.out]) (λh=>[]):=by
 delta gC at H
 refine Cf Go.Proofs.Tryz.func139 λK=> ?_
 refine Z2 ?_
 have ⟨r1,h2,H3⟩:=bnd H
 refine Lk [0,0,0] [] (lk h2) λ⟨a4,c5⟩=> ?_
 refine Z0 ?_
 refine Tb H3 (λH9=> ?_) λH9=> ?_
 ·refine Z0 ?_
  cases H9
  exact Eo ((A0,C0),(a4,c5)) [0,0,0] [] .nil
 refine Y1 ?_
 have ⟨c,m,d⟩:=bnd H9
 refine Tj (η:=aI×((Option Addr×Nat))) (λh=>c = .inl h.1) (λ_=>[]) [0] (λh=>(λa=>(λe g=>[Ch.opt (a.state == (3:Int)) (Ty.int .i64) 3 A0 C0 a.order.bJ,Ch.arr bG 136 e g a.out,Ch.box N0 76 (l6 a A0 C0 e g)]) h.2.1 h.2.2) h.1) [] (λ_=>[]) ?_ ?_
 ·refine Zl ?_
  refine Z1 ?_
  refine Tb m (λi=> ?_) λi=> ?_
  ·refine Z1 ?_
   refine Lt 0 ?_
   refine Z0 ?_
   refine Lt 0 ?_
   refine Z0 ?_
   obtain ⟨x,hz,n⟩:=eC i
   subst c
   obtain rfl:=(sm d).symm
   refine Z0 ?_
   refine E.iS (Ty.int .i64) 3 ?_
   refine E.GZ 0 (3 == (3:Int)) rfl ?_
   cases n
   exact Eo ((none,0),(a4,c5)) [1,0,1] [] .nil
  refine Z1 ?_
  refine Tb i (λj=> ?_) λj=> ?_
  ·refine Z1 ?_
   refine Lt 0 ?_
   refine Z0 ?_
   refine Lt 0 ?_
   refine Z0 ?_
   obtain ⟨y,hz,o⟩:=eC j
   subst c
   obtain rfl:=(sm d).symm
   refine Z0 ?_
   refine E.oset 1 (4 == (3:Int)) rfl rfl ?_
   cases o
   exact Eo ((A0,C0),(a4,c5)) [1,0,0] [] .nil
  refine Z1 ?_
  refine Tb j (λk=> ?_) λk=> ?_
  ·refine Z1 ?_
   refine Lt 0 ?_
   refine Z0 ?_
   obtain ⟨z,hz,q⟩:=eC k
   subst c
   obtain rfl:=(sm d).symm
   refine Z0 ?_
   refine E.oset 1 (2 == (3:Int)) rfl rfl ?_
   cases q
   exact Eo ((A0,C0),(a4,c5)) [1,0,0] [] .nil
  refine Z1 ?_
  refine Tb k (λl=> ?_) λl=> ?_
  ·refine Z0 ?_
   refine L.jk [Im.sl (Ty.int .i64) none 0 []] (λA w _ _ f hf=>by rw [List.mem_singleton.1 hf]; exact Im.gF A w) ?_
   have ⟨B,s,t⟩:=bnd l
   refine Lk [0,0,0] [0] (mr s) λ⟨u,v⟩=> ?_
   refine Z0 ?_
   cases t
   exact Eg (_,(u,v)) rfl [1,1,0] [] 1
  refine Z0 ?_
  cases l
  exact Eg (_,(a4,c5)) rfl [1,1,0] [] 0
 rintro ⟨a,⟨e,g⟩⟩ hy
 subst hy
 refine Z0 ?_
 refine Lt 2 ?_
 refine Ln (E.off ?_)
 refine E.oset 1 (0 == (3:Int)) rfl rfl ?_
 cases d
 exact Eo ((A0,C0),(e,g)) [1,0,0] [] .nil
theorem ux {p:aI} {b:Int} {r:aI} (H:jP p b=some r):CT G 140 [.pointer (some ⟨N0,0,none⟩),.int .u8 b] [Ch.box N0 76 (l6 p A0 C0 A1 C1),Ch.opt (p.state == (3:Int)) (Ty.int .i64) 3 A0 C0 p.order.bJ,Ch.arr bG 136 A1 C1 p.out] [] (λh:(Option Addr×Nat)=> .tuple #[]) (λh=>[Ch.box N0 76 (l6 r A0 C0 h.1 h.2),Ch.opt (r.state == (3:Int)) (Ty.int .i64) 3 A0 C0 r.order.bJ,Ch.arr bG 136 h.1 h.2 r.out]) (λh=>[]):=by
 delta jP at H
 refine Cf Go.Proofs.Tryz.func140 λK=> ?_
 refine Y1 ?_
 have ⟨d,j,k⟩:=bnd H
 refine Tjh (η:=(Option Addr×Nat)) (λh=>(λa c=>[(11,.bool d.1)]) h.1 h.2) [0] (λh=>(λa c=>[Ch.opt (d.2.state == (3:Int)) (Ty.int .i64) 3 A0 C0 d.2.order.bJ,Ch.arr bG 136 a c d.2.out,Ch.box N0 76 (l6 d.2 A0 C0 a c)]) h.1 h.2) [] (λ_=>[]) ?_ ?_
 ·refine Z0 ?_
  have ⟨n,l,m⟩:=bnd j
  refine Lk [0,0,0] [] (lk l) λ⟨g,i⟩=> ?_
  refine Z0 ?_
  refine Lw 8 m (λe=> ?_) λe=> ?_
  ·refine Z0 ?_
   cases e
   exact Eg (g,i) trivial [1,1,0] [] 0
  refine Z0 ?_
  cases e
  exact Eg (g,i) trivial [1,1,0] [] 0
 rintro ⟨a,c⟩
 refine Tb k (λf=> ?_) λf=> ?_
 ·refine Z0 ?_
  refine Lt 2 ?_
  refine Ln (E.off ?_)
  refine E.oset 1 (0 == (3:Int)) rfl rfl ?_
  cases f
  exact Eo (a,c) [1,0,0] [] .nil
 refine Tk (E.off ?_)
 cases f
 exact Eo (a,c) [2,0,0] [] .nil
theorem qY {o:aI} {r:aI} (H:kh o=some r):CT G 181 [.pointer (some ⟨N0,1,none⟩)] [Ch.box N0 76 (l6 o A0 C0 A1 C1),Ch.arr (Ty.int .i64) 3 A0 C0 o.order.bJ,Ch.arr bG 136 A1 C1 o.out] [] (λh:(Option Addr×Nat)=> .tuple #[]) (λh=>[Ch.box N0 76 (l6 r h.1 h.2 A1 C1),Ch.arr (Ty.int .i64) 3 h.1 h.2 r.order.bJ,Ch.arr bG 136 A1 C1 r.out]) (λh=>[]):=by
 delta kh at H
 refine Cf Go.Proofs.Tryz.func181 λK=> ?_
 refine Z2 ?_
 have ⟨c,e,f⟩:=bnd H
 refine Tjh (η:=(Option Addr×Nat)) (λ_=>[]) [0] (λh=>(λa b=>[Ch.arr (Ty.int .i64) 3 a b c.order.bJ,Ch.arr bG 136 A1 C1 c.out,Ch.box N0 76 (l6 c a b A1 C1)]) h.1 h.2) [] (λ_=>[]) ?_ ?_
 ·refine Tb e (λd=> ?_) λd=> ?_
  ·refine Td [13] [0,1] mo ?_
   refine Dq 0 ?_
   refine Dq 1 ?_
   refine Dq 2 ?_
   refine Dq 3 ?_
   refine Db 4 0 ?_
   refine Dq 5 ?_
   refine Dq 6 ?_
   refine Dq 7 ?_
   refine Db 8 0 ?_
   refine Da [] [] rfl rfl (Ac.bs (ty:=(Ty.int .i64)) (xs:=[o.order.n]) (.cons () [] rfl .nil) rfl rfl rfl rfl rfl rfl rfl) λl=> ?_
   refine D.frz 0 rfl ?_
   have ⟨_,g,i⟩:=bnd d
   refine Da [0] [0] rfl rfl (Ac.ap (ty:=(Ty.int .i64)) g rfl rfl rfl rfl rfl rfl rfl) ?_
   rintro ⟨j,k⟩
   refine Dq 11 ?_
   refine Dq 12 ?_
   refine Dt 0 ?_
   refine Dn ?_
   cases i
   exact Eg (j,k) trivial [2,1,0] [] 1
  refine Z0 ?_
  cases d
  exact Eg (A0,C0) trivial [1,1,0] [] 0
 rintro ⟨a,b⟩
 refine Z0 ?_
 refine Lt 2 ?_
 refine Ln (E.off ?_)
 cases f
 exact Eo (a,b) [0,0,0] [] .nil
theorem tD {p:aI} {a:aZ} {r:aI} (H:jz p a=some r):CT G 180 [.pointer (some ⟨N0,0,none⟩),.agg (z4 a A2 C2).toArray] [Ch.box N0 76 (l6 p A0 C0 A1 C1),Ch.arr bG 136 A1 C1 p.out] [Im.sl (Ty.int .i64) A0 C0 p.order.bJ,Im.sl (Ty.int .i64) A2 C2 a.bJ] (λh:(Option Addr×Nat)=> .tuple #[]) (λh=>[Ch.box N0 76 (l6 r A0 C0 h.1 h.2),Ch.arr bG 136 h.1 h.2 r.out]) (λh=>[Im.sl (Ty.int .i64) A0 C0 r.order.bJ]):=by
 delta jz at H
 refine Cf Go.Proofs.Tryz.func180 λK=> ?_
 refine Z1 ?_
 refine Lx λg1=> ?_
 refine Z0 ?_
 refine Td [7,10] [0,0,0] mo ?_
 refine Dq 0 ?_
 refine Dq 1 ?_
 refine Dq 2 ?_
 refine Dq 3 ?_
 refine Db 4 1 ?_
 refine Db 5 0 ?_
 refine Da [] [1] rfl rfl (Ac.bs (ty:=bG) (xs:=[a]) (.cons (A2,C2) [0] rfl .nil) rfl rfl rfl rfl rfl rfl rfl) λf=> ?_
 refine D.frz 0 rfl ?_
 have ⟨_,b,c⟩:=bnd H
 refine D.one rfl rfl rfl (Dp.al [2] [0] (Ac.ap (ty:=bG) b rfl rfl rfl rfl rfl rfl rfl) rfl rfl rfl rfl rfl rfl rfl ?_)
 rintro ⟨d,e⟩
 refine Dq 8 ?_
 refine Dq 9 ?_
 refine Dt 2 ?_
 refine Dn ?_
 refine E.off ?_
 cases c
 exact Eo (d,e) [0,0] [1] .nil
theorem uy {p:aI} {b:Int} {r:aI} (H:jQ p b=some r):CT G 182 [.pointer (some ⟨N0,0,none⟩),.int .u8 b] [Ch.box N0 76 (l6 p A0 C0 A1 C1),Ch.arr (Ty.int .i64) 3 A0 C0 p.order.bJ,Ch.arr bG 136 A1 C1 p.out] [] (λh:(Option Addr×Nat)×(Option Addr×Nat)=> .tuple #[]) (λh=>[Ch.box N0 76 (l6 r h.1.1 h.1.2 h.2.1 h.2.2),Ch.opt (r.state == (3:Int)) (Ty.int .i64) 3 h.1.1 h.1.2 r.order.bJ,Ch.arr bG 136 h.2.1 h.2.2 r.out]) (λh=>[]):=by
 delta jQ at H
 refine Cf Go.Proofs.Tryz.func182 λK=> ?_
 refine Z1 ?_
 refine Lt 0 ?_
 refine Z2 ?_
 refine Tb H (λH2=> ?_) λH2=> ?_
 ·refine Z0 ?_
  refine E.GZ 1 (0 == (3:Int)) rfl ?_
  cases H2
  exact Eo ((A0,C0),(A1,C1)) [1,0,0] [] .nil
 refine Z2 ?_
 have ⟨d,f,g⟩:=bnd H2
 refine Tjh (η:=(Option Addr×Nat)) (λ_=>[]) [0,1] (λh=>(λa c=>[Ch.arr (Ty.int .i64) 3 a c d.order.bJ,Ch.arr bG 136 A1 C1 d.out,Ch.box N0 76 (l6 d a c A1 C1)]) h.1 h.2) [] (λ_=>[]) ?_ ?_
 ·refine Tb f (λe=> ?_) λe=> ?_
  ·refine Z0 ?_
   have ⟨v,i,j⟩:=bnd e
   refine Lk [0,0,0] [] (qY i) λ⟨k,l⟩=> ?_
   refine Z0 ?_
   cases j
   exact Eg (k,l) trivial [1,1,0] [] 0
  refine Z0 ?_
  cases e
  exact Eg (A0,C0) trivial [1,1,0] [] 0
 rintro ⟨a,c⟩
 refine Td [13] [1,1] mo ?_
 refine Dq 0 ?_
 refine Dq 1 ?_
 refine Dq 2 ?_
 refine Dq 3 ?_
 refine Dq 4 ?_
 refine Dq 5 ?_
 refine Db 6 1 ?_
 refine Dq 7 ?_
 refine Dq 8 ?_
 refine Dq 9 ?_
 refine Dq 10 ?_
 refine Db 11 1 ?_
 refine Dq 12 ?_
 refine D.frz 0 rfl ?_
 have ⟨m,n,o⟩:=bnd g
 refine Dkl [1,0] [0,0] (tD n) λ⟨q,s⟩=> ?_
 refine Dn ?_
 refine E.off ?_
 have ⟨_,t,u⟩:=bnd o
 refine E.oim 0 3 (m.state == (3:Int)) (Oi t) rfl ?_
 cases u
 exact Eo ((a,c),(q,s)) [1,0,0] [] .nil
theorem sf {p:aI} {b:Int} {r:aI} (H:iF p b=some r):CT G 141 [.pointer (some ⟨N0,0,none⟩),.int .u8 b] [Ch.box N0 76 (l6 p A0 C0 A1 C1),Ch.opt (p.state == (3:Int)) (Ty.int .i64) 3 A0 C0 p.order.bJ,Ch.arr bG 136 A1 C1 p.out] [] (λh:(Option Addr×Nat)×(Option Addr×Nat)=> .tuple #[]) (λh=>[Ch.box N0 76 (l6 r h.1.1 h.1.2 h.2.1 h.2.2),Ch.opt (r.state == (3:Int)) (Ty.int .i64) 3 h.1.1 h.1.2 r.order.bJ,Ch.arr bG 136 h.2.1 h.2.2 r.out]) (λh=>[]):=by
 delta iF at H
 refine Cf Go.Proofs.Tryz.func141 λK=> ?_
 refine Z2 ?_
 have ⟨r1,h2,H3⟩:=bnd H
 refine Lk [0,0,0] [] (lk h2) λ⟨a4,c5⟩=> ?_
 refine Z0 ?_
 refine Tb H3 (λH9=> ?_) λH9=> ?_
 ·refine Z0 ?_
  cases H9
  exact Eo ((A0,C0),(a4,c5)) [0,0,0] [] .nil
 refine Z2 ?_
 refine Lt 0 ?_
 refine Zl ?_
 refine Y1 ?_
 have ⟨k,l,m⟩:=bnd H9
 refine Tj0 [(22,.bool k)] [0,1,4] [] [0,1,2] ?_ ?_
 ·refine Z0 ?_
  refine Lw 25 l (λa=> ?_) λa=> ?_
  ·refine Z0 ?_
   cases a
   exact Eg0 [0,0,0] 0
  refine Z0 ?_
  cases a
  exact Eg0 [0,0,0] 0
 refine Tb m (λc=> ?_) λc=> ?_
 ·refine Z0 ?_
  refine Lt 0 ?_
  refine Z0 ?_
  refine Lt 0 ?_
  refine Ln (Eb (E.off ?_))
  cases c
  exact Eo ((A0,C0),(a4,c5)) [0,0,0] [] .nil
 refine Y1 ?_
 have ⟨n,o,q⟩:=bnd c
 refine Tj0 [(48,.bool n)] [0,1,4] [] [0,1,2] ?_ ?_
 ·refine Z0 ?_
  refine Lw 51 o (λd=> ?_) λd=> ?_
  ·refine Z0 ?_
   cases d
   exact Eg0 [0,0,0] 0
  refine Z0 ?_
  cases d
  exact Eg0 [0,0,0] 0
 refine Tb q (λe=> ?_) λe=> ?_
 ·refine Z1 ?_
  have ⟨_,s,t⟩:=bnd e
  refine L.Lm 1 s rfl ?_
  have ⟨u,v,w⟩:=bnd t
  refine Lk [1,0,0] [] (qY v) λ⟨x,y⟩=> ?_
  refine Z0 ?_
  refine Lt 0 ?_
  refine Ln (Eb (E.off ?_))
  refine E.GZ 1 (u.state == (3:Int)) rfl ?_
  cases w
  exact Eo ((x,y),(a4,c5)) [1,0,0] [] .nil
 refine Y1 ?_
 have ⟨z,A,B⟩:=bnd e
 refine Tj0 [(63,.bool z)] [0,1] [] [0,1,2] ?_ ?_
 ·refine Z0 ?_
  refine Lw 66 A (λf=> ?_) λf=> ?_
  ·refine Z0 ?_
   cases f
   exact Eg0 [0,0,0] 0
  refine Z0 ?_
  cases f
  exact Eg0 [0,0,0] 0
 refine Tb B (λg=> ?_) λg=> ?_
 ·refine Z0 ?_
  refine Lt 0 ?_
  refine Ln (Eb (E.off ?_))
  cases g
  exact Eo ((A0,C0),(a4,c5)) [0,0,0] [] .nil
 refine Y1 ?_
 have ⟨C,F,I⟩:=bnd g
 refine Tj0 [(73,.bool C)] [0,1] [] [0,1,2] ?_ ?_
 ·refine Z0 ?_
  refine Lw 76 F (λi=> ?_) λi=> ?_
  ·refine Z0 ?_
   cases i
   exact Eg0 [0,0,0] 0
  refine Z0 ?_
  cases i
  exact Eg0 [0,0,0] 0
 refine Tb I (λj=> ?_) λj=> ?_
 ·refine Z0 ?_
  have ⟨_,J,M⟩:=bnd j
  refine L.Lm 1 J rfl ?_
  have ⟨U,N,O⟩:=bnd M
  refine Lk [1,0,0] [] (uy N) λ⟨⟨P,Q⟩,⟨R,S⟩⟩=> ?_
  refine Ln (Eb (E.off ?_))
  cases O
  exact Eo ((P,Q),(R,S)) [0,0,0] [] .nil
 refine Z0 ?_
 refine Lt 0 ?_
 refine Ln (Eb (E.off ?_))
 cases j
 exact Eo ((A0,C0),(a4,c5)) [0,0,0] [] .nil
theorem qZ {s_:ByteArray} {prefix_:ByteArray} {r:Bool} (H:gQ s_ prefix_=some r):CT G 214 [.string s_,.string prefix_] [] [] (λ_:Unit=> .bool r) (λh=>[]) (λh=>[]):=by
 delta gQ at H
 refine Cf Go.Proofs.Tryz.func214 λK=> ?_
 refine Y2 ?_
 have ⟨e8,H9,b⟩:=bnd H
 refine Tj0 [(4,.bool e8)] [] [] [] ?_ ?_
 ·refine Z0 ?_
  refine Lw 10 H9 (λa=> ?_) λa=> ?_
  ·refine Z0 ?_
   have ⟨_,c,d⟩:=bnd a
   refine Ly (Yl.sc c rfl rfl rfl rfl rfl rfl) ?_
   refine Z0 ?_
   cases d
   exact Eg0 [] 0
  refine Z0 ?_
  cases a
  exact Eg0 [] 0
 refine Z0 ?_
 cases b
 exact Eo1 () [] []
theorem re {s_:ByteArray} {prefix_:ByteArray} {r:ByteArray×Bool} (H:jF s_ prefix_=some r):CT G 206 [.string s_,.string prefix_] [] [] (λ_:Unit=> .tuple #[.string r.1,.bool r.2]) (λh=>[]) (λh=>[]):=by
 delta jF at H
 refine Cf Go.Proofs.Tryz.func206 λK=> ?_
 refine Z3 ?_
 have ⟨r1,h2,H3⟩:=bnd H
 refine Lk [] [] (qZ h2) λ⟨⟩=> ?_
 refine Z0 ?_
 refine Tb H3 (λH5=> ?_) λH5=> ?_
 ·refine Z1 ?_
  cases H5
  exact Eo () [] [] (.tmp rfl (.tmp rfl .nil))
 refine Z1 ?_
 have ⟨_,h6,H7⟩:=bnd H5
 refine Ly (Yl.sc h6 rfl rfl rfl rfl rfl rfl) ?_
 refine Z0 ?_
 cases H7
 exact Eo () [] [] (.tmp rfl (.tmp rfl .nil))
theorem uz {s_:ByteArray} {prefix_:ByteArray} {r:ByteArray×Bool} (H:jO s_ prefix_=some r):CT G 183 [.string s_,.string prefix_] [] [] (λ_:Unit=> .tuple #[.string r.1,.bool r.2]) (λh=>[]) (λh=>[]):=by
 delta jO at H
 refine Cf Go.Proofs.Tryz.func183 λK=> ?_
 refine Z2 ?_
 have ⟨r1,h2,H3⟩:=bnd H
 refine Lk [] [] (re h2) λ⟨⟩=> ?_
 refine Z0 ?_
 cases H3
 exact Eo () [] [] (.tmp rfl (.tmp rfl .nil))
theorem qm {p:aI} {r:aI} (H:jG p=some r):CT G 143 [.pointer (some ⟨N0,0,none⟩)] [Ch.box N0 76 (l6 p A0 C0 A1 C1),Ch.opt (p.state == (3:Int)) (Ty.int .i64) 3 A0 C0 p.order.bJ,Ch.arr bG 136 A1 C1 p.out] [] (λh:(Option Addr×Nat)=> .tuple #[]) (λh=>[Ch.box N0 76 (l6 r A0 C0 h.1 h.2),Ch.opt (r.state == (3:Int)) (Ty.int .i64) 3 A0 C0 r.order.bJ,Ch.arr bG 136 h.1 h.2 r.out]) (λh=>[]):=by
 delta jG at H
 refine Cf Go.Proofs.Tryz.func143 λK=> ?_
 refine Z1 ?_
 refine Lt 0 ?_
 refine Z1 ?_
 refine La [] [] (Ac.bs (ty:=Ty.str) (xs:=[(ByteArray.mk #[48,59]),(ByteArray.mk #[50,59])]) (.cons () [] rfl (.cons () [] rfl .nil)) rfl rfl rfl rfl rfl rfl rfl) λg1=> ?_
 refine Z0 ?_
 have ⟨g,o,q⟩:=bnd H
 refine T.sR (η:=Unit×((Option Addr×Nat))) (λh=>True) (λh=>(λb c=>[]) h.2.1 h.2.2) (λh=>(λb c=>[Ch.opt (g.state == (3:Int)) (Ty.int .i64) 3 A0 C0 g.order.bJ,Ch.arr bG 136 b c g.out,Ch.box N0 76 (l6 g A0 C0 b c)]) h.2.1 h.2.2) (λh=>(λb c=>[]) h.2.1 h.2.2) ?_ ?_
 ·refine Yl0 ?_
  refine T.oset 2 (0 == (3:Int)) rfl rfl ?_
  refine Tq (η:=(Option Addr×Nat)) (λa h=>(λd e=>[(11,.int .i64 a.2)]) h.1 h.2) [0,9,10] (λa h=>(λd e=>[Ch.opt (a.1.state == (3:Int)) (Ty.int .i64) 3 A0 C0 a.1.order.bJ,Ch.arr bG 136 d e a.1.out,Ch.box N0 76 (l6 a.1 A0 C0 d e)]) h.1 h.2) [1] (λ_ _=>[]) (A1,C1) [0,2,1,0] [] o ?_
  rintro k_ a ⟨d,e⟩ O s t u
  refine Y2 ?_
  refine Tb s (λl=> ?_) λl=> ?_
  ·refine Y1 ?_
   have ⟨i,x,y⟩:=bnd l
   refine Tjh (η:=(Option Addr×Nat)) (λ_=>[]) [0,9,10,11] (λh=>(λj k=>[Ch.opt (i.state == (3:Int)) (Ty.int .i64) 3 A0 C0 i.order.bJ,Ch.arr bG 136 j k i.out,Ch.box N0 76 (l6 i A0 C0 j k)]) h.1 h.2) [3] (λ_=>[]) ?_ ?_
   ·refine Zl ?_
    refine Z1 ?_
    have ⟨z,n,B⟩:=bnd x
    refine Ly (Yl.ia n rfl rfl rfl rfl rfl rfl) ?_
    refine Ly (Yl.lo (v:= .string z) 3 a.2.toNat 0 (aU n).2 rfl rfl rfl rfl (λ_=>rfl)) ?_
    refine Z1 ?_
    have ⟨P,C,F⟩:=bnd B
    refine Lk [] [] (uz C) λ⟨⟩=> ?_
    refine Z1 ?_
    refine Tb F (λm=> ?_) λm=> ?_
    ·refine Z0 ?_
     refine L.jk [Im.sl (Ty.int .i64) none 0 []] (λA w _ _ f hf=>by rw [List.mem_singleton.1 hf]; exact Im.gF A w) ?_
     have ⟨Q,I,J⟩:=bnd m
     refine Lk [2,0,0] [0] (mr I) λ⟨M,N⟩=> ?_
     refine Z0 ?_
     cases J
     exact Eg (M,N) trivial [1,1,0,0] [] 1
    refine Z0 ?_
    cases m
    exact Eg (d,e) trivial [0,0,0,0] [] 0
   rintro ⟨j,k⟩
   refine Z0 ?_
   cases y
   exact Eg (_,(j,k)) (t _ rfl) [0,0,0,0] [] 0
  refine Z0 ?_
  cases l
  have hb:=u _ rfl
  subst g
  exact Egx ((),(d,e)) trivial [0,0,0] []
 rintro ⟨_,⟨b,c⟩⟩ _
 refine E.off ?_
 cases q
 exact Eo (b,c) [2,0,0] [] .nil
theorem tE {p:aI} {b:Int} {r:aI} (H:jA p b=some r):CT G 142 [.pointer (some ⟨N0,0,none⟩),.int .u8 b] [Ch.box N0 76 (l6 p A0 C0 A1 C1),Ch.opt (p.state == (3:Int)) (Ty.int .i64) 3 A0 C0 p.order.bJ,Ch.arr bG 136 A1 C1 p.out] [] (λh:(Option Addr×Nat)=> .tuple #[]) (λh=>[Ch.box N0 76 (l6 r A0 C0 h.1 h.2),Ch.opt (r.state == (3:Int)) (Ty.int .i64) 3 A0 C0 r.order.bJ,Ch.arr bG 136 h.1 h.2 r.out]) (λh=>[]):=by
 delta jA at H
 refine Cf Go.Proofs.Tryz.func142 λK=> ?_
 refine Zl ?_
 refine Z1 ?_
 refine Tb H (λH1=> ?_) λH1=> ?_
 ·refine Z0 ?_
  have ⟨r2,h3,H4⟩:=bnd H1
  refine Lk [0,0,0] [] (qm h3) λ⟨a5,c6⟩=> ?_
  refine Ln (Eb (E.off ?_))
  cases H4
  exact Eo (a5,c6) [0,0,0] [] .nil
 refine Y1 ?_
 have ⟨f,g,i⟩:=bnd H1
 refine Tj0 [(9,.bool f)] [0,1] [] [0,1,2] ?_ ?_
 ·refine Z0 ?_
  refine Lw 12 g (λa=> ?_) λa=> ?_
  ·refine Z0 ?_
   cases a
   exact Eg0 [0,0,0] 0
  refine Z0 ?_
  cases a
  exact Eg0 [0,0,0] 0
 refine Tb i (λc=> ?_) λc=> ?_
 ·refine Z0 ?_
  refine Lt 0 ?_
  refine Ln (Eb (E.off ?_))
  refine E.oset 1 (0 == (3:Int)) rfl rfl ?_
  cases c
  exact Eo (A1,C1) [1,0,0] [] .nil
 refine Z1 ?_
 refine Tb c (λd=> ?_) λd=> ?_
 ·refine Z0 ?_
  refine Lt 0 ?_
  refine Ln (Eb (E.off ?_))
  refine E.oset 1 (5 == (3:Int)) rfl rfl ?_
  cases d
  exact Eo (A1,C1) [1,0,0] [] .nil
 refine Z1 ?_
 refine Tb d (λe=> ?_) λe=> ?_
 ·refine Td [10] [0,0,0] mo ?_
  refine Dq 0 ?_
  refine Dq 1 ?_
  refine Dq 2 ?_
  refine Db 3 0 ?_
  refine Dq 4 ?_
  refine Da [] [] rfl rfl (Ac.bs (ty:=(Ty.int .u8)) (xs:=[b]) (.cons () [] rfl .nil) rfl rfl rfl rfl rfl rfl rfl) λl=> ?_
  refine D.frz 0 rfl ?_
  refine Dy 6 (Yl.bsi 0 rfl rfl rfl rfl rfl rfl rfl rfl rfl) ?_
  have ⟨_,j,k⟩:=bnd e
  refine Dy 7 (Yl.sa j rfl rfl rfl) ?_
  refine Dq 8 ?_
  refine Dq 9 ?_
  refine Dt 0 ?_
  refine Dn ?_
  refine Eb (E.off ?_)
  cases k
  exact Eo (A1,C1) [0,0,0] [] .nil
 refine Tk (Eb (E.off ?_))
 cases e
 exact Eo (A1,C1) [0,0,0] [] .nil
theorem xy {p:aI} {b:Int} {r:aI} (H:lz p b=some r):CT G 102 [.pointer (some ⟨N0,0,none⟩),.int .u8 b] [Ch.box N0 76 (l6 p A0 C0 A1 C1),Ch.opt (p.state == (3:Int)) (Ty.int .i64) 3 A0 C0 p.order.bJ,Ch.arr bG 136 A1 C1 p.out] [Im.sl eQ (some ⟨3,0,none⟩) 8 bX] (λh:(Option Addr×Nat)×(Option Addr×Nat)=> .tuple #[]) (λh=>[Ch.box N0 76 (l6 r h.1.1 h.1.2 h.2.1 h.2.2),Ch.opt (r.state == (3:Int)) (Ty.int .i64) 3 h.1.1 h.1.2 r.order.bJ,Ch.arr bG 136 h.2.1 h.2.2 r.out]) (λh=>[]):=by
 delta lz at H
 refine Cf Go.Proofs.Tryz.func102 λK=> ?_
 refine Z1 ?_
 refine Zl ?_
 refine Z1 ?_
 refine Tb H (λH1=> ?_) λH1=> ?_
 ·refine Z0 ?_
  have ⟨r2,h3,H4⟩:=bnd H1
  refine Lk [0,0,0] [0] (sI h3) λ⟨a5,c6⟩=> ?_
  refine Ln (Eb (E.off ?_))
  cases H4
  exact Eo ((A0,C0),(a5,c6)) [0,0,0] [] .nil
 refine Z1 ?_
 refine Tb H1 (λH9=> ?_) λH9=> ?_
 ·refine Z0 ?_
  have ⟨S,f,g⟩:=bnd H9
  refine Lk [0,0,0] [] (od f) λ⟨⟨i,j⟩,⟨k,l⟩⟩=> ?_
  refine Ln (Eb (E.off ?_))
  cases g
  exact Eo ((i,j),(k,l)) [0,0,0] [] .nil
 refine Z1 ?_
 refine Tb H9 (λa=> ?_) λa=> ?_
 ·refine Z0 ?_
  have ⟨U,m,n⟩:=bnd a
  refine Lk [0,0,0] [] (ux m) λ⟨o,q⟩=> ?_
  refine Ln (Eb (E.off ?_))
  cases n
  exact Eo ((A0,C0),(o,q)) [0,0,0] [] .nil
 refine Z1 ?_
 refine Tb a (λc=> ?_) λc=> ?_
 ·refine Z0 ?_
  have ⟨V,s,t⟩:=bnd c
  refine Lk [0,0,0] [] (sf s) λ⟨⟨u,v⟩,⟨w,x⟩⟩=> ?_
  refine Ln (Eb (E.off ?_))
  cases t
  exact Eo ((u,v),(w,x)) [0,0,0] [] .nil
 refine Z1 ?_
 refine Tb c (λd=> ?_) λd=> ?_
 ·refine Z0 ?_
  have ⟨W,y,z⟩:=bnd d
  refine Lk [0,0,0] [] (tE y) λ⟨A,B⟩=> ?_
  refine Ln (Eb (E.off ?_))
  cases z
  exact Eo ((A0,C0),(A,B)) [0,0,0] [] .nil
 refine Z2 ?_
 refine Tb d (λe=> ?_) λe=> ?_
 ·refine Z1 ?_
  have ⟨X,C,F⟩:=bnd e
  refine Lk [0,0,0] [] (qm C) λ⟨I,J⟩=> ?_
  refine Z0 ?_
  cases F
  exact Eo ((A0,C0),(I,J)) [0,0,0] [] .nil
 refine Z1 ?_
 refine Lt 0 ?_
 refine Z0 ?_
 refine L.oset 1 (1 == (3:Int)) rfl rfl ?_
 have ⟨Y,M,N⟩:=bnd e
 refine Lk [1,0,0] [] (od M) λ⟨⟨O,P⟩,⟨Q,R⟩⟩=> ?_
 refine Ln (Eb (E.off ?_))
 cases N
 exact Eo ((O,P),(Q,R)) [0,0,0] [] .nil
theorem wC {p:aI} {s_:ByteArray} {r:(List aZ)×aI} (H:kM p s_=some r):CT G 66 [.pointer (some ⟨N0,0,none⟩),.string s_] [Ch.box N0 76 (mh p A0 C0),Ch.opt (p.state == (3:Int)) (Ty.int .i64) 3 A0 C0 p.order.bJ] [Im.sl eQ (some ⟨3,0,none⟩) 8 bX] (λh:(Option Addr×Nat)×(Option Addr×Nat)×(Option Addr×Nat)=> .slice h.1.1 r.1.length h.1.2) (λh=>[Ch.arr bG 136 h.1.1 h.1.2 r.1,Ch.box N0 76 (mh r.2 h.2.1.1 h.2.1.2),Ch.opt (r.2.state == (3:Int)) (Ty.int .i64) 3 h.2.1.1 h.2.1.2 r.2.order.bJ]) (λh=>[]):=by
 delta kM at H
 refine Cf Go.Proofs.Tryz.func66 λK=> ?_
 refine Z3 ?_
 have ⟨b,m,n⟩:=bnd H
 refine Tjh (η:=(Option Addr×Nat)×(Option Addr×Nat)) (λ_=>[]) [0] (λh=>(λg i j k=>[Ch.opt (b.state == (3:Int)) (Ty.int .i64) 3 g i b.order.bJ,Ch.arr bG 136 j k b.out,Ch.box N0 76 (l6 b g i j k)]) h.1.1 h.1.2 h.2.1 h.2.2) [] (λ_=>[]) ?_ ?_
 ·refine Yl0 ?_
  refine T.iS bG 136 ?_
  refine Tq (η:=(Option Addr×Nat)×(Option Addr×Nat)) (λa h=>(λc d e f=>[(9,.int .i64 a.2)]) h.1.1 h.1.2 h.2.1 h.2.2) [0,1,8] (λa h=>(λc d e f=>[Ch.opt (a.1.state == (3:Int)) (Ty.int .i64) 3 c d a.1.order.bJ,Ch.arr bG 136 e f a.1.out,Ch.box N0 76 (l6 a.1 c d e f)]) h.1.1 h.1.2 h.2.1 h.2.2) [] (λ_ _=>[]) ((A0,C0),(none,0)) [2,0,0] [] m ?_
  rintro k_ a ⟨⟨c,d⟩,⟨e,f⟩⟩ B o q s
  refine Y2 ?_
  refine Tb o (λl=> ?_) λl=> ?_
  ·refine Z1 ?_
   refine Zl ?_
   refine Z1 ?_
   have ⟨C,t,u⟩:=bnd l
   refine Ly (Yl.si t rfl rfl rfl rfl rfl) ?_
   have ⟨F,v,w⟩:=bnd u
   refine Lk [2,0,0] [0] (xy v) λ⟨⟨x,y⟩,⟨z,A⟩⟩=> ?_
   refine Z0 ?_
   cases w
   exact Eg (_,((x,y),(z,A))) (q _ rfl) [1,1,0] [] 0
  refine Z0 ?_
  cases l
  have hb:=s _ rfl
  subst b
  exact Eg ((c,d),(e,f)) trivial [0,0,0] [] 0
 rintro ⟨⟨g,i⟩,⟨j,k⟩⟩
 refine Z2 ?_
 refine Lt 2 ?_
 refine Z1 ?_
 cases n
 exact Eo1 ((j,k),(g,i),(none,0)) [2,0,0] []
theorem Bc {l:List ju} {r_:Int} {r:Bool} (H:pw l r_=some r):CT G 184 [.slice A0 l.length C0,.int .i32 r_] [] [Im.sl cL A0 C0 l] (λ_:Unit=> .bool r) (λh=>[]) (λh=>[]):=by
 delta pw at H
 refine Cf Go.Proofs.Tryz.func184 λK=> ?_
 refine Y3 ?_
 have ⟨g,j,k⟩:=bnd H
 refine Tj0 [(5,.int .i64 g)] [0,1] [] [] ?_ ?_
 ·refine Yl0 ?_
  refine Tq (η:=Unit) (λa h=>[(5,.int .i64 a.1),(6,.int .i64 a.2)]) [0,1] (λ_ _=>[]) [] (λ_ _=>[]) () [] [] j ?_
  rintro k_ a ⟨⟩ w m i n
  refine Z2 ?_
  refine Tb m (λb=> ?_) λb=> ?_
  ·refine Zl ?_
   refine Z2 ?_
   have ⟨x,c,o⟩:=bnd b
   refine L.addr 0 rfl (cJ c) λy z p=> ?_
   subst p
   refine Ly (Yl.ia c rfl rfl rfl rfl rfl rfl) ?_
   refine L.el 0 rfl (aU c).2 ?_
   rintro _
   refine Z0 ?_
   refine Lc 0 1 ?_
   refine Z0 ?_
   refine Tb o (λd=> ?_) λd=> ?_
   ·refine Z0 ?_
    cases d
    exact Eg (_,()) (i _ rfl) [] [] 1
   refine Z0 ?_
   cases d
   exact Eg (_,()) (i _ rfl) [] [] 1
  refine Z0 ?_
  cases b
  have hb:=n _ rfl
  subst g
  exact Eg0 [] 0
 refine Y1 ?_
 have ⟨q,s,t⟩:=bnd k
 refine Tj0 [(4,.bool q)] [] [] [] ?_ ?_
 ·refine Z0 ?_
  refine Lw 31 s (λe=> ?_) λe=> ?_
  ·refine Z0 ?_
   have ⟨A,f,u⟩:=bnd e
   refine L.addr 0 rfl (cJ f) λB C v=> ?_
   subst v
   refine Ly (Yl.ia f rfl rfl rfl rfl rfl rfl) ?_
   refine L.el 0 rfl (aU f).2 ?_
   rintro _
   refine Z0 ?_
   refine Lc 0 0 ?_
   refine Z0 ?_
   cases u
   exact Eg0 [] 1
  refine Z0 ?_
  cases e
  exact Eg0 [] 0
 refine Z0 ?_
 cases t
 exact Eo1 () [] []
theorem Bd {r_:Int} {r:Int} (H:px r_=some r):CT G 144 [.int .i32 r_] [] [Im.sl cL (some ⟨0,0,none⟩) 13 dC,Im.sl cL (some ⟨1,0,none⟩) 14 dK] (λ_:Unit=> .int .i64 r) (λh=>[]) (λh=>[]):=by
 delta px at H
 refine Cf Go.Proofs.Tryz.func144 λK=> ?_
 refine Z2 ?_
 refine Zl ?_
 refine Z1 ?_
 have ⟨r9,c,d⟩:=bnd H
 refine Lk [] [0] (Bc c) λ⟨⟩=> ?_
 refine Z0 ?_
 refine Tb d (λa=> ?_) λa=> ?_
 ·refine Z1 ?_
  cases a
  exact Eo1 () [] []
 refine Z1 ?_
 have ⟨g,e,f⟩:=bnd a
 refine Lk [] [1] (Bc e) λ⟨⟩=> ?_
 refine Z0 ?_
 refine Tb f (λb=> ?_) λb=> ?_
 ·refine Z1 ?_
  cases b
  exact Eo1 () [] []
 refine Z1 ?_
 cases b
 exact Eo1 () [] []
theorem z6 {r_:aE} {r:aE} (H:ot r_=some r):CT G 198 [.agg #[.slice A0 r_.cells.length C0,.bool r_.wrapped]] [] [Im.sl aQ A0 C0 r_.cells] (λh:(Option Addr×Nat)=> .agg #[.slice h.1 r.cells.length h.2,.bool r.wrapped]) (λh=>[]) (λh=>[Im.sl aQ h.1 h.2 r.cells]):=by
 delta ot at H
 refine Cf Go.Proofs.Tryz.func198 λK=> ?_
 refine Z1 ?_
 refine Lx λg1=> ?_
 refine Ll λg2=> ?_
 refine Y1 ?_
 refine Td [6] [0,0] mo ?_
 refine Dq 0 ?_
 refine Db 1 1 ?_
 refine Dq 3 ?_
 refine Db 4 1 ?_
 have ⟨e,a,b⟩:=bnd H
 refine Dk [] [0] (lE A0 C0 a) λ⟨c,d⟩=> ?_
 refine Dq 5 ?_
 refine Dt 0 ?_
 refine Dn ?_
 refine Z0 ?_
 refine E.frz 2 rfl ?_
 cases b
 exact Eo (c,d) [] [0] (.cell 0 rfl rfl rfl .nil)
theorem l7 {g:aX} {y:Int} {r:aE} (H:fS g y=some r):CT G 185 [.pointer (some ⟨N0,0,none⟩),.int .i64 y] [Ch.box N0 169 [.int .i64 g.w,.slice A0 g.l.length C0],Ch.arr aC 107 A0 C0 g.l] [] (λh:(Option Addr×Nat)=> .agg #[.slice h.1 r.cells.length h.2,.bool r.wrapped]) (λh=>[Ch.box N0 169 [.int .i64 g.w,.slice A0 g.l.length C0],Ch.arr aC 107 A0 C0 g.l]) (λh=>[Im.sl aQ h.1 h.2 r.cells]):=by
 delta fS at H
 refine Cf Go.Proofs.Tryz.func185 λK=> ?_
 refine Z1 ?_
 refine Ll λg1=> ?_
 refine Y2 ?_
 have ⟨e5,H6,H7⟩:=bnd H
 refine Tj0 [(15,.bool e5)] [0,1,4] [] [0,1,2] ?_ ?_
 ·refine Z0 ?_
  refine Lw 7 H6 (λH8=> ?_) λH8=> ?_
  ·refine Z0 ?_
   cases H8
   exact Eg0 [0,0,0] 0
  refine Z0 ?_
  cases H8
  exact Eg0 [0,0,0] 0
 refine Tb H7 (λa=> ?_) λa=> ?_
 ·refine Z1 ?_
  refine Lt 0 ?_
  refine Z0 ?_
  refine E.jk [Im.sl aQ none 0 []] (λA w _ _ f hf=>by rw [List.mem_singleton.1 hf]; exact Im.gF A w) ?_
  cases a
  exact Eo (none,0) [1,1] [0] (.cell 0 rfl rfl rfl .nil)
 refine Z1 ?_
 have ⟨c,b,i⟩:=bnd a
 refine L.mj 2 rfl (cJ b) λp j=> ?_
 subst j
 refine Ly (Yl.ia b rfl rfl rfl rfl rfl rfl) ?_
 refine La [2] [] (Ac.lo y.toNat 0 (v:=(λh:(Option Addr×Nat)=>(λd e=> .agg #[.slice d c.cells.length e,.bool c.wrapped]) h.1 h.2)) (aU b).2 rfl rfl rfl (λ_=>rfl)) ?_
 rintro ⟨d,e⟩
 have ⟨q,k,m⟩:=bnd i
 refine Lk [] [0] (z6 k) λ⟨n,o⟩=> ?_
 refine Lt 1 ?_
 refine Z0 ?_
 cases m
 exact Eo (n,o) [2,1] [0] (.cell 0 rfl rfl rfl .nil)
theorem rh {r_:aE} {r:aE} (H:jH r_=some r):CT G 146 [.agg #[.slice A0 r_.cells.length C0,.bool r_.wrapped]] [] [Im.sl aQ A0 C0 r_.cells] (λ_:Unit=> .agg #[.slice A0 r.cells.length C0,.bool r.wrapped]) (λh=>[]) (λh=>[Im.sl aQ A0 C0 r.cells]):=by
 delta jH at H
 refine Cf Go.Proofs.Tryz.func146 λK=> ?_
 refine Z1 ?_
 refine Lx λg1=> ?_
 refine Ll λg2=> ?_
 refine Z1 ?_
 refine Lt 1 ?_
 refine Z1 ?_
 refine Lt 1 ?_
 refine Z0 ?_
 cases H
 exact Eo () [] [0] (.cell 0 rfl rfl rfl .nil)
theorem m7 {s_:aB} {r:aB} (H:cW s_=some r):CT G 145 [.pointer (some ⟨N0,0,none⟩),.func (.func 146) #[] #[]] [Ch.box N0 124 (cI s_ N1),Ch.box N1 169 [.int .i64 s_.g.w,.slice A0 s_.g.l.length C0],Ch.arr aC 107 A0 C0 s_.g.l] [] (λ_:Unit=> .tuple #[]) (λh=>[Ch.box N0 124 (cI r N1),Ch.box N1 169 [.int .i64 r.g.w,.slice A0 r.g.l.length C0],Ch.arr aC 107 A0 C0 r.g.l]) (λh=>[]):=by
 delta cW at H
 refine Cf Go.Proofs.Tryz.func145 λK=> ?_
 refine Td [21] [0,0,0] mo ?_
 refine Dq 0 ?_
 refine Dq 1 ?_
 refine Dq 2 ?_
 refine Db 3 0 ?_
 refine Dq 4 ?_
 refine Dq 5 ?_
 refine Dq 6 ?_
 refine Dq 7 ?_
 refine Db 8 0 ?_
 refine Dq 9 ?_
 refine Dq 10 ?_
 refine Dq 11 ?_
 refine Dq 12 ?_
 refine Db 13 0 ?_
 refine Dq 14 ?_
 refine Dq 15 ?_
 refine Dq 16 ?_
 refine Dq 17 ?_
 refine Db 18 0 ?_
 have ⟨i,a,b⟩:=bnd H
 refine D.one rfl rfl rfl (Dp.ab [1,1] [] [2,0,0] (Ac.call (l7 a) rfl rfl rfl rfl) rfl rfl rfl rfl rfl rfl (λ_=>rfl) ?_)
 rintro ⟨j,k⟩
 have ⟨m,c,d⟩:=bnd b
 refine Dk [] [0] (rh c) λ⟨⟩=> ?_
 have ⟨n,e,f⟩:=bnd d
 refine Dkl [1,1] [0] (kG e) λ⟨⟩=> ?_
 refine Dn ?_
 refine E.off ?_
 cases f
 exact Eo () [2,0,0] [] .nil
end Go.Tw.X
namespace Go.Tw.X
open Go Go.Tw
variable {A0 A1 A2 A3 A4 A5 A6 A7 A8 : Option Addr} {C0 C1 C2 C3 C4 C5 C6 C7 C8 : Nat}
variable {N0 N1 N2 N3 N4 : Nat}
variable {M0 : Option Nat}
theorem wD {s_:bE} {r:Bool} (H:kO s_=some r):CT G 207 [.agg (uQ s_).toArray] [] [] (λ_:Unit=> .bool r) (λh=>[]) (λh=>[]):=by
 delta kO at H
 refine Cf Go.Proofs.Tryz.func207 λK=> ?_
 refine Z1 ?_
 refine Lx λg1=> ?_
 refine Y1 ?_
 have ⟨e9,d,e⟩:=bnd H
 refine Tj0 [(2,.bool e9)] [] [] [0] ?_ ?_
 ·refine Z0 ?_
  refine Lw 6 d (λa=> ?_) λa=> ?_
  ·refine Z0 ?_
   refine Lw 11 a (λb=> ?_) λb=> ?_
   ·refine Z0 ?_
    refine Lw 16 b (λc=> ?_) λc=> ?_
    ·refine Z0 ?_
     cases c
     exact Eg0 [0] 0
    refine Z0 ?_
    cases c
    exact Eg0 [0] 0
   refine Z0 ?_
   cases b
   exact Eg0 [0] 0
  refine Z0 ?_
  cases a
  exact Eg0 [0] 0
 refine Z0 ?_
 cases e
 exact Eo1 () [] []
theorem tF {is:Bool} {n_:Int} {r:Int} (H:ny is n_=some r):CT G 208 [.bool is,.int .i64 n_] [] [] (λ_:Unit=> .int .i64 r) (λh=>[]) (λh=>[]):=by
 delta ny at H
 refine Cf Go.Proofs.Tryz.func208 λK=> ?_
 refine Z3 ?_
 refine Tb H (λH2=> ?_) λH2=> ?_
 ·refine Z1 ?_
  cases H2
  exact Eo1 () [] []
 refine Z1 ?_
 cases H2
 exact Eo1 () [] []
theorem wE {s_:bE} {r:Int} (H:kP s_=some r):CT G 186 [.agg (uQ s_).toArray] [] [] (λ_:Unit=> .int .i64 r) (λh=>[]) (λh=>[]):=by
 delta kP at H
 refine Cf Go.Proofs.Tryz.func186 λK=> ?_
 refine Z1 ?_
 refine Lx λg1=> ?_
 refine Z2 ?_
 have ⟨r2,h3,H4⟩:=bnd H
 refine Lk [] [] (wD h3) λ⟨⟩=> ?_
 refine Z0 ?_
 refine Tb H4 (λH6=> ?_) λH6=> ?_
 ·refine Z1 ?_
  cases H6
  exact Eo1 () [] []
 refine Y1 ?_
 refine Td [] [0] mo ?_
 refine Dq 0 ?_
 refine Db 1 0 ?_
 refine Dq 2 ?_
 refine Db 3 0 ?_
 refine Dq 4 ?_
 refine Dq 5 ?_
 refine Dq 6 ?_
 refine Db 7 0 ?_
 refine Dq 10 ?_
 refine Db 11 0 ?_
 refine Dq 14 ?_
 refine Db 15 0 ?_
 have ⟨g,a,b⟩:=bnd H6
 refine Dk [] [] (tF a) λ⟨⟩=> ?_
 refine Dq 9 ?_
 have ⟨i,c,d⟩:=bnd b
 refine Dk [] [] (tF c) λ⟨⟩=> ?_
 refine Dq 13 ?_
 have ⟨j,e,f⟩:=bnd d
 refine Dk [] [] (tF e) λ⟨⟩=> ?_
 refine Dq 17 ?_
 refine Dq 18 ?_
 refine Dn ?_
 refine Z0 ?_
 cases f
 exact Eo1 () [] []
theorem dI {s_:aB} {r:Int} (H:bY s_=some r):CT G 150 [.pointer (some ⟨N0,0,none⟩)] [] [Im.cells N0 0 [.pointer (some ⟨N1,0,none⟩),.int .i64 s_.spot.x,.int .i64 s_.spot.y,.int .i64 s_.spot.aM.ji,.int .i64 s_.spot.aM.back,.bool s_.spot.aM.bold,.bool s_.spot.aM.under,.bool s_.spot.aM.dX,.int .i64 s_.saved.x,.int .i64 s_.saved.y,.int .i64 s_.saved.aM.ji,.int .i64 s_.saved.aM.back,.bool s_.saved.aM.bold,.bool s_.saved.aM.under,.bool s_.saved.aM.dX,.bool s_.waiting,.int .i64 s_.top,.int .i64 s_.aL,.bool s_.aY,.string s_.title],Im.cells N1 0 [.int .i64 s_.g.w,.slice A0 s_.g.l.length C0],Im.sl aC A0 C0 s_.g.l] (λ_:Unit=> .int .i64 r) (λh=>[]) (λh=>[]):=by
 delta bY at H
 refine Cf Go.Proofs.Tryz.func150 λK=> ?_
 refine Z2 ?_
 refine Lc 0 3 ?_
 have ⟨r1,h2,H3⟩:=bnd H
 refine Lk [] [] (wE h2) λ⟨⟩=> ?_
 refine Z0 ?_
 cases H3
 exact Eo1 () [] []
theorem oe {g:aX} {top:Int} {aL:Int} {r:Unit} (H:eK g top aL=some (.inl r)):CT G 193 [.pointer (some ⟨N0,0,none⟩),.int .i64 top,.int .i64 aL] [Ch.box N0 169 [.int .i64 g.w,.slice A0 g.l.length C0],Ch.arr aC 107 A0 C0 g.l] [] (λ_:Unit=> .tuple #[.slice none 0 0,.bool false]) (λh=>[Ch.box N0 169 [.int .i64 g.w,.slice A0 g.l.length C0],Ch.arr aC 107 A0 C0 g.l]) (λh=>[]):=by
 delta eK at H
 refine Cf Go.Proofs.Tryz.func193 λK=> ?_
 refine Z3 ?_
 have ⟨r1,h2,H3⟩:=bnd H
 refine Lk [] [] (lM h2) λ⟨⟩=> ?_
 refine Z0 ?_
 have ⟨r4,h5,H6⟩:=bnd H3
 refine Lk [] [] (lM h5) λ⟨⟩=> ?_
 refine Z2 ?_
 refine Tb H6 (λH8=> ?_) λH8=> ?_
 ·refine Z1 ?_
  have hr:=Sum.inl.inj (Option.some.inj H8)
  subst r
  exact Eo () [0,0] [] (.tmp rfl (.tmp rfl .nil))
 refine Z1 ?_
 have ⟨_,h9,b⟩:=bnd H8
 refine L.cap 1 rfl λa=> ?_
 refine Ly (Yl.sv (ty:=aC) a h9 rfl rfl rfl rfl rfl rfl rfl rfl) ?_
 have c:Vw aC g.l A0 C0 (kX A0 C0 r1 (aC).sz) (C0 - r1.toNat) r1 (IntKind.i64.wrap (r4+1)):=wS h9 a
 refine Z0 ?_
 exact nomatch (Option.some.inj b)
theorem og {g:aX} {top:Int} {aL:Int} {r:(Int×Int)} (H:eK g top aL=some (.inr r)):CT G 193 [.pointer (some ⟨N0,0,none⟩),.int .i64 top,.int .i64 aL] [Ch.box N0 169 [.int .i64 g.w,.slice A0 g.l.length C0],Ch.arr aC 107 A0 C0 g.l] [] (λ_:Unit=> .tuple #[.slice (kX A0 C0 r.1 (aC).sz) (cut g.l r.1 r.2).length (C0 - r.1.toNat),.bool true]) (λh=>[Ch.box N0 169 [.int .i64 g.w,.slice A0 g.l.length C0],Ch.arr aC 107 A0 C0 g.l]) (λh=>[]):=by
 delta eK at H
 refine Cf Go.Proofs.Tryz.func193 λK=> ?_
 refine Z3 ?_
 have ⟨r1,h2,H3⟩:=bnd H
 refine Lk [] [] (lM h2) λ⟨⟩=> ?_
 refine Z0 ?_
 have ⟨r4,h5,H6⟩:=bnd H3
 refine Lk [] [] (lM h5) λ⟨⟩=> ?_
 refine Z2 ?_
 refine Tb H6 (λH8=> ?_) λH8=> ?_
 ·refine Z1 ?_
  exact nomatch (Option.some.inj H8)
 refine Z1 ?_
 have ⟨_,h9,b⟩:=bnd H8
 refine L.cap 1 rfl λa=> ?_
 refine Ly (Yl.sv (ty:=aC) a h9 rfl rfl rfl rfl rfl rfl rfl rfl) ?_
 have c:Vw aC g.l A0 C0 (kX A0 C0 r1 (aC).sz) (C0 - r1.toNat) r1 (IntKind.i64.wrap (r4+1)):=wS h9 a
 refine Z0 ?_
 have hr:=Sum.inr.inj (Option.some.inj b)
 subst r
 exact Eo () [0,0] [] (.tmp rfl (.tmp rfl .nil))
theorem tG {g:aX} {top:Int} {aL:Int} {n_:Int} {aM:Int} {r:(List aE)×aX} (H:gI g top aL n_ aM=some r):CT G 192 [.pointer (some ⟨N0,0,none⟩),.int .i64 top,.int .i64 aL,.int .i64 n_,.int .i64 aM] [Ch.box N0 169 [.int .i64 g.w,.slice A0 g.l.length C0],Ch.arr aC 107 A0 C0 g.l] [] (λh:(Option Addr×Nat)=> .slice h.1 r.1.length h.2) (λh=>[Ch.arr aC 107 h.1 h.2 r.1,Ch.box N0 169 [.int .i64 r.2.w,.slice A0 r.2.l.length C0],Ch.arr aC 107 A0 C0 r.2.l]) (λh=>[]):=by
 delta gI at H
 refine Cf Go.Proofs.Tryz.func192 λK=> ?_
 refine Z2 ?_
 have ⟨r1,h2,H3⟩:=bnd H
 rcases r1 with r1 | r1
 ·refine Lk [0,0] [] (oe h2) λ⟨⟩=> ?_
  refine Z2 ?_
  refine T.cond rfl (λ_=> ?_) (λh=>nomatch h)
  refine Z1 ?_
  refine E.iS aC 107 ?_
  cases H3
  exact Eo1 (none,0) [0,0,0] []
 refine Lk [0,0] [] (og h2) λ⟨⟩=> ?_
 have ⟨_,h5,H6⟩:=bnd H3
 refine L.cap 1 rfl λh7=> ?_
 have b:Vw aC g.l A0 C0 (kX A0 C0 r1.1 (aC).sz) (C0 - r1.1.toNat) r1.1 r1.2:=wS h5 h7
 refine Z2 ?_
 refine T.cond rfl (λh=>nomatch h) (λ_=> ?_)
 refine Z1 ?_
 have ⟨r9,k,m⟩:=bnd H6
 refine Lk [] [] (lM k) λ⟨⟩=> ?_
 refine Z1 ?_
 have ⟨_,n,o⟩:=bnd m
 refine L.vv b n rfl rfl rfl rfl rfl rfl rfl rfl rfl rfl rfl λp q s=> ?_
 have ⟨X,t,u⟩:=bnd o
 refine Lk [1] [] (jq A0 C0 p q s t) λ⟨v,x⟩=> ?_
 refine Z1 ?_
 have ⟨_,y,z⟩:=bnd u
 refine L.vv b y rfl rfl rfl rfl rfl rfl rfl rfl rfl rfl rfl λY Z A=> ?_
 refine La [1] [] (Ac.cpv (ty:=aC) b A rfl rfl rfl rfl rfl rfl rfl) λ_=> ?_
 have B:Vw aC (sF g.l r1.1 r1.2 (r1.1+r9) (r1.1+((cut g.l r1.1 r1.2).length:Int))) A0 C0 (kX A0 C0 r1.1 (aC).sz) (C0 - r1.1.toNat) r1.1 r1.2:=Vw.on b (qG b)
 refine L.sl 11 (k':=(cut (sF g.l r1.1 r1.2 (r1.1+r9) (r1.1+((cut g.l r1.1 r1.2).length:Int))) r1.1 r1.2).length) (o8 (qG b)) rfl ?_
 refine L.bx 2 (cs':=[.int .i64 g.w,.slice A0 (sF g.l r1.1 r1.2 (r1.1+r9) (r1.1+((cut g.l r1.1 r1.2).length:Int))).length C0]) (by rw [qG b]) rfl ?_
 refine Z2 ?_
 have ⟨c,C,F⟩:=bnd z
 refine Tj0 [] [13] [Ch.arr aC 107 A0 C0 c.l,Ch.box N0 169 [.int .i64 c.w,.slice A0 c.l.length C0]] [2] ?_ ?_
 ·refine Yl0 ?_
  refine Tq (η:=Unit) (λa h=>[(11,.slice (kX A0 C0 r1.1 (aC).sz) (cut a.1.l r1.1 r1.2).length (C0 - r1.1.toNat)),(14,.int .i64 a.2)]) [0,4,13] (λa h=>[Ch.arr aC 107 A0 C0 a.1.l,Ch.box N0 169 [.int .i64 a.1.w,.slice A0 a.1.l.length C0]]) [2] (λ_ _=>[]) () [1,0,0] [] C ?_
  rintro k_ a ⟨⟩ aa I J M
  refine Z2 ?_
  refine Tb I (λe=> ?_) λe=> ?_
  ·refine Z1 ?_
   refine Zl ?_
   have ⟨d,N,O⟩:=bnd e
   refine Lk [] [] (qk N) λ⟨P,Q⟩=> ?_
   have ⟨_,R,S⟩:=bnd O
   refine L.cap 0 rfl λU=> ?_
   have j:=No B R U
   have ⟨ab,f,V⟩:=bnd S
   refine L.mj 0 rfl (Ij (vw f)) λi W=> ?_
   subst W
   refine Ly (Yl.iv (ty:=aC) 0 j f rfl rfl rfl rfl rfl rfl rfl rfl) ?_
   refine La [0] [0] (Ac.se 0 d (vw f) rfl rfl rfl rfl rfl rfl (λ_=>⟨(P,Q),rfl,[1],rfl⟩)) λ_=> ?_
   have ac:Vw aC (a.1.l.set (r1.1.toNat+a.2.toNat) d) (some ⟨i,0,none⟩) C0 (kX (some ⟨i,0,none⟩) C0 r1.1 (aC).sz) (C0 - r1.1.toNat) r1.1 r1.2:=Vw.on j (List.length_set ..)
   refine L.sl 11 (k':=(cut (a.1.l.set (r1.1.toNat+a.2.toNat) d) r1.1 r1.2).length) (o8 (List.length_set ..)) rfl ?_
   refine L.bx 1 (cs':=[.int .i64 a.1.w,.slice (some ⟨i,0,none⟩) (a.1.l.set (r1.1.toNat+a.2.toNat) d).length C0]) (by rw [List.length_set ..]) rfl ?_
   refine Z0 ?_
   cases V
   exact Eg (_,()) (J _ rfl) [1,0,0] [] 1
  refine Z0 ?_
  cases e
  have hb:=M _ rfl
  subst c
  exact Eg0 [0,0,0] 0
 refine Z1 ?_
 cases F
 exact Eo1 (v,x) [2,1,0] []
theorem pS {s_:aB} {n_:Int} {r:(List aE)×aB} (H:je s_ n_=some r):CT G 159 [.pointer (some ⟨N0,0,none⟩),.int .i64 n_] [Ch.box N0 124 (cI s_ N1),Ch.box N1 169 [.int .i64 s_.g.w,.slice A0 s_.g.l.length C0],Ch.arr aC 107 A0 C0 s_.g.l] [] (λh:(Option Addr×Nat)=> .slice h.1 r.1.length h.2) (λh=>[Ch.arr aC 107 h.1 h.2 r.1,Ch.box N0 124 (cI r.2 N1),Ch.box N1 169 [.int .i64 r.2.g.w,.slice A0 r.2.g.l.length C0],Ch.arr aC 107 A0 C0 r.2.g.l]) (λh=>[]):=by
 delta je at H
 refine Cf Go.Proofs.Tryz.func159 λK=> ?_
 refine Y2 ?_
 refine Td [15] [0,0,0] mo ?_
 refine Dq 0 ?_
 refine Dq 1 ?_
 refine Dq 2 ?_
 refine Db 3 0 ?_
 refine Dq 4 ?_
 refine Dq 5 ?_
 refine Dq 6 ?_
 refine Db 7 0 ?_
 refine Dq 8 ?_
 refine Dq 9 ?_
 refine Dq 10 ?_
 refine Db 11 0 ?_
 refine Dq 12 ?_
 refine Dq 13 ?_
 have ⟨j,b,c⟩:=bnd H
 refine D.one rfl rfl rfl (Dp.br (Ac.call (dI b) rfl rfl rfl rfl) (Bw.bx 0 rfl (Bw.bx 1 rfl (Bw.ch 2 rfl (Bw.nil)))) rfl rfl rfl rfl ?_)
 intro _
 have ⟨k,d,e⟩:=bnd c
 refine Dkl [1,1] [] (tG d) λ⟨f,i⟩=> ?_
 refine Dq 16 ?_
 refine Dn ?_
 refine Z2 ?_
 refine Tb e (λa=> ?_) λa=> ?_
 ·refine Z1 ?_
  refine E.iS aC 107 ?_
  cases a
  exact Eo1 (none,0) [0,3,1,1] []
 refine Z1 ?_
 cases a
 exact Eo1 (f,i) [0,2,0,0] []
theorem kW {s_:aB} {r:(List aE)×aB} (H:dF s_=some r):CT G 147 [.pointer (some ⟨N0,0,none⟩)] [Ch.box N0 124 (cI s_ N1),Ch.box N1 169 [.int .i64 s_.g.w,.slice A0 s_.g.l.length C0],Ch.arr aC 107 A0 C0 s_.g.l] [] (λh:(Option Addr×Nat)=> .slice h.1 r.1.length h.2) (λh=>[Ch.arr aC 107 h.1 h.2 r.1,Ch.box N0 124 (cI r.2 N1),Ch.box N1 169 [.int .i64 r.2.g.w,.slice A0 r.2.g.l.length C0],Ch.arr aC 107 A0 C0 r.2.g.l]) (λh=>[]):=by
 delta dF at H
 refine Cf Go.Proofs.Tryz.func147 λK=> ?_
 refine Z2 ?_
 refine Lt 0 ?_
 refine Y2 ?_
 refine Td [] [0,0,0] mo ?_
 refine Dq 0 ?_
 refine Dq 1 ?_
 refine Dq 2 ?_
 refine Dq 3 ?_
 refine Db 4 0 ?_
 refine Dq 5 ?_
 refine Dq 6 ?_
 refine Dq 7 ?_
 refine Db 8 0 ?_
 refine Dq 9 ?_
 refine Dn ?_
 refine Z0 ?_
 refine Tb H (λH9=> ?_) λH9=> ?_
 ·refine Z1 ?_
  have ⟨i,a,b⟩:=bnd H9
  refine Lk [0,0,0] [] (pS a) λ⟨c,d⟩=> ?_
  refine Z0 ?_
  cases b
  exact Eo1 (c,d) [0,0,0,0] []
 refine Y1 ?_
 refine Td [12] [0,0,0] mo ?_
 refine Dq 0 ?_
 refine Dq 1 ?_
 refine Dq 2 ?_
 refine Dq 3 ?_
 refine Dq 4 ?_
 refine Db 5 0 ?_
 refine Dq 6 ?_
 refine Dq 7 ?_
 refine Dq 8 ?_
 refine Dq 9 ?_
 refine Db 10 0 ?_
 refine Dq 11 ?_
 have ⟨j,e,f⟩:=bnd H9
 refine Dkl [0,0,0] [] (bZ e) λ⟨⟩=> ?_
 refine Dn ?_
 refine Z1 ?_
 refine E.iS aC 107 ?_
 cases f
 exact Eo1 (none,0) [0,0,0,0] []
theorem z7 {r_:aE} {aM:Int} {r:aE} (H:mz r_ aM=some r):CT G 149 [.agg #[.slice A0 r_.cells.length C0,.bool r_.wrapped],.int .i64 aM] [] [Im.sl aQ A0 C0 r_.cells] (λh:(Option Addr×Nat)=> .agg #[.slice h.1 r.cells.length h.2,.bool r.wrapped]) (λh=>[]) (λh=>[Im.sl aQ h.1 h.2 r.cells]):=by
 delta mz at H
 refine Cf Go.Proofs.Tryz.func149 λK=> ?_
 refine Z1 ?_
 refine Lx λg1=> ?_
 refine Ll λg2=> ?_
 refine Z1 ?_
 have ⟨r3,h4,H5⟩:=bnd H
 refine Lk [] [0] (kF h4) λ⟨a6,c7⟩=> ?_
 refine Z3 ?_
 have ⟨c,d,e⟩:=bnd H5
 refine Tj0 [(5,.slice a6 c.length c7)] [4] [Ch.arr aQ 143 a6 c7 c] [1,2] ?_ ?_
 ·refine Tb d (λa=> ?_) λa=> ?_
  ·refine Z0 ?_
   have ⟨k,b,f⟩:=bnd a
   refine L.mj 0 rfl (cJ b) λl g=> ?_
   subst g
   refine Ly (Yl.ia b rfl rfl rfl rfl rfl rfl) ?_
   refine La [0] [] (Ac.se 0 (aG.mk 32 aM 3) (aU b).2 rfl rfl rfl rfl rfl rfl (λ_=>⟨(),rfl,[],rfl⟩)) λ_=> ?_
   refine L.sl 5 (k':=(r3.set ((IntKind.i64.wrap ((r3.length:Int) - 1)).toNat) (aG.mk 32 aM 3)).length) (List.length_set ..) rfl ?_
   refine Z0 ?_
   cases f
   exact Eg0 [0,0,0] 0
  refine Z0 ?_
  cases a
  exact Eg0 [0,0,0] 0
 refine Z1 ?_
 have ⟨m,i,j⟩:=bnd e
 refine Lk [0] [] (mF i) λ⟨⟩=> ?_
 refine Ll λn=> ?_
 refine Lt 0 ?_
 refine Z1 ?_
 refine Lt 0 ?_
 refine Z1 ?_
 refine Lt 1 ?_
 refine Z0 ?_
 cases j
 exact Eo (a6,c7) [] [0] (.cell 0 rfl rfl rfl .nil)
theorem ri {r_:aE} {x1:aB} {r:aE} (H:jI r_ x1=some r):CT G 148 [.agg #[.slice A0 r_.cells.length C0,.bool r_.wrapped],.pointer (some ⟨N0,0,none⟩)] [Ch.box N0 54 [.pointer (some ⟨N1,0,none⟩)],Ch.box N1 124 (cI x1 N2),Ch.box N2 169 [.int .i64 x1.g.w,.slice A1 x1.g.l.length C1],Ch.arr aC 107 A1 C1 x1.g.l] [Im.sl aQ A0 C0 r_.cells] (λh:(Option Addr×Nat)=> .agg #[.slice h.1 r.cells.length h.2,.bool r.wrapped]) (λh=>[Ch.box N0 54 [.pointer (some ⟨N1,0,none⟩)],Ch.box N1 124 (cI x1 N2),Ch.box N2 169 [.int .i64 x1.g.w,.slice A1 x1.g.l.length C1],Ch.arr aC 107 A1 C1 x1.g.l]) (λh=>[Im.sl aQ h.1 h.2 r.cells]):=by
 delta jI at H
 refine Cf Go.Proofs.Tryz.func148 λK=> ?_
 refine Z1 ?_
 refine Lx λg1=> ?_
 refine Ll λg2=> ?_
 refine Y1 ?_
 refine Td [3,4] [0,0,0,0,0,0] mo ?_
 refine Db 0 1 ?_
 refine Db 1 2 ?_
 have ⟨i,a,b⟩:=bnd H
 refine D.one rfl rfl rfl (Dp.br (Ac.call (dI a) rfl rfl rfl rfl) (Bw.bx 3 rfl (Bw.bx 4 rfl (Bw.ch 5 rfl (Bw.nil)))) rfl rfl rfl rfl ?_)
 intro _
 have ⟨j,c,d⟩:=bnd b
 refine Dkl [] [0] (z7 c) λ⟨e,f⟩=> ?_
 refine Dt 0 ?_
 refine Dn ?_
 refine Z0 ?_
 cases d
 exact Eo (e,f) [2,2,2,2] [0] (.cell 0 rfl rfl rfl .nil)
theorem m8 {s_:aB} {r:aB} (H:cX s_=some r):CT G 145 [.pointer (some ⟨N0,0,none⟩),.func (.func 148) #[] #[.pointer (some ⟨N2,0,none⟩)]] [Ch.box N0 124 (cI s_ N1),Ch.box N1 169 [.int .i64 s_.g.w,.slice A0 s_.g.l.length C0],Ch.arr aC 107 A0 C0 s_.g.l,Ch.box N2 54 [.pointer (some ⟨N0,0,none⟩)]] [] (λ_:Unit=> .tuple #[]) (λh=>[Ch.box N0 124 (cI r N1),Ch.box N1 169 [.int .i64 r.g.w,.slice A0 r.g.l.length C0],Ch.arr aC 107 A0 C0 r.g.l,Ch.box N2 54 [.pointer (some ⟨N0,0,none⟩)]]) (λh=>[]):=by
 delta cX at H
 refine Cf Go.Proofs.Tryz.func145 λK=> ?_
 refine Td [21] [0,0,0,0] mo ?_
 refine Dq 0 ?_
 refine Dq 1 ?_
 refine Dq 2 ?_
 refine Db 3 0 ?_
 refine Dq 4 ?_
 refine Dq 5 ?_
 refine Dq 6 ?_
 refine Dq 7 ?_
 refine Db 8 0 ?_
 refine Dq 9 ?_
 refine Dq 10 ?_
 refine Dq 11 ?_
 refine Dq 12 ?_
 refine Db 13 0 ?_
 refine Dq 14 ?_
 refine Dq 15 ?_
 refine Dq 16 ?_
 refine Dq 17 ?_
 refine Db 18 0 ?_
 have ⟨i,a,b⟩:=bnd H
 refine D.one rfl rfl rfl (Dp.ab [1,1] [] [2,0,0,0] (Ac.call (l7 a) rfl rfl rfl rfl) rfl rfl rfl rfl rfl rfl (λ_=>rfl) ?_)
 rintro ⟨j,k⟩
 have ⟨m,c,d⟩:=bnd b
 refine D.one rfl rfl rfl (Dp.ab [3,0,0,0] [0] [1,1,1,0] (Ac.call (ri c) rfl rfl rfl rfl) rfl rfl rfl rfl rfl rfl (λ_=>rfl) ?_)
 rintro ⟨n,o⟩
 have ⟨p,e,f⟩:=bnd d
 refine Dkl [1,1] [0] (kG e) λ⟨⟩=> ?_
 refine Dn ?_
 refine E.off ?_
 cases f
 exact Eo () [2,0,0,0] [] .nil
theorem Ai {r_:aE} {at_:Int} {x_:Int} {aM:Int} {r:aE} (H:mV r_ at_ x_ aM=some r):CT G 152 [.agg #[.slice A0 r_.cells.length C0,.bool r_.wrapped],.int .i64 at_,.int .i32 x_,.int .i64 aM] [] [Im.sl aQ A0 C0 r_.cells,Im.sl cL (some ⟨0,0,none⟩) 13 dC,Im.sl cL (some ⟨1,0,none⟩) 14 dK] (λh:(Option Addr×Nat)=> .agg #[.slice h.1 r.cells.length h.2,.bool r.wrapped]) (λh=>[]) (λh=>[Im.sl aQ h.1 h.2 r.cells]):=by
 delta mV at H
 refine Cf Go.Proofs.Tryz.func152 λK=> ?_
 refine Z1 ?_
 refine Lx λg1=> ?_
 refine Ll λg2=> ?_
 refine Z1 ?_
 have ⟨r3,h4,H5⟩:=bnd H
 refine Lk [] [0] (kF h4) λ⟨a6,c7⟩=> ?_
 refine Z1 ?_
 have ⟨r9,p,q⟩:=bnd H5
 refine Lk [] [1,2] (Bd p) λ⟨⟩=> ?_
 refine Y1 ?_
 have ⟨j,s,t⟩:=bnd q
 refine Tj0 [(9,.slice a6 j.length c7)] [8] [Ch.arr aQ 143 a6 c7 j] [1,2] ?_ ?_
 ·refine Zl ?_
  refine Y1 ?_
  have ⟨u,w,x⟩:=bnd s
  refine Tj0 [(50,.bool u)] [1,2,3,8,9,10] [] [1,2,0] ?_ ?_
  ·refine Z0 ?_
   refine Lw 53 w (λa=> ?_) λa=> ?_
   ·refine Z0 ?_
    cases a
    exact Eg0 [1,1,0] 0
   refine Z0 ?_
   refine Lw 57 a (λb=> ?_) λb=> ?_
   ·refine Z0 ?_
    cases b
    exact Eg0 [1,1,0] 0
   refine Z0 ?_
   cases b
   exact Eg0 [1,1,0] 0
  refine Tb x (λc=> ?_) λc=> ?_
  ·refine Z0 ?_
   cases c
   exact Eg0 [2,0,0] 0
  refine Z1 ?_
  refine Tb c (λd=> ?_) λd=> ?_
  ·refine Z0 ?_
   have ⟨W,e,y⟩:=bnd d
   refine L.mj 2 rfl (cJ e) λX z=> ?_
   subst z
   refine Ly (Yl.ia e rfl rfl rfl rfl rfl rfl) ?_
   refine La [2] [] (Ac.se 0 (aG.mk x_ aM 0) (aU e).2 rfl rfl rfl rfl rfl rfl (λ_=>⟨(),rfl,[],rfl⟩)) λ_=> ?_
   refine L.sl 9 (k':=(r3.set at_.toNat (aG.mk x_ aM 0)).length) (List.length_set ..) rfl ?_
   refine Z0 ?_
   cases y
   exact Eg0 [0,0,0] 0
  refine Z1 ?_
  have ⟨Y,f,A⟩:=bnd d
  refine L.mj 2 rfl (cJ f) λZ B=> ?_
  subst B
  refine Ly (Yl.ia f rfl rfl rfl rfl rfl rfl) ?_
  refine La [2] [] (Ac.se 0 (aG.mk x_ aM 1) (aU f).2 rfl rfl rfl rfl rfl rfl (λ_=>⟨(),rfl,[],rfl⟩)) λ_=> ?_
  refine L.sl 9 (k':=(r3.set at_.toNat (aG.mk x_ aM 1)).length) (List.length_set ..) rfl ?_
  refine L.sl 17 (k':=(r3.set at_.toNat (aG.mk x_ aM 1)).length) (List.length_set ..) rfl ?_
  have ⟨aa,k,C⟩:=bnd A
  refine Ly (Yl.ia k rfl rfl rfl rfl rfl rfl) ?_
  refine La [0] [] (Ac.se 0 (aG.mk x_ aM 2) (aU k).2 rfl rfl rfl rfl rfl rfl (λ_=>⟨(),rfl,[],rfl⟩)) λ_=> ?_
  refine L.sl 9 (k':=((r3.set at_.toNat (aG.mk x_ aM 1)).set ((IntKind.i64.wrap (at_+1)).toNat) (aG.mk x_ aM 2)).length) (List.length_set ..) rfl ?_
  refine Y1 ?_
  have ⟨F,I,J⟩:=bnd C
  refine Tj0 [(38,.bool F)] [1,8,9] [] [1,2,0] ?_ ?_
  ·refine Z0 ?_
   refine Lw 30 I (λg=> ?_) λg=> ?_
   ·refine Z0 ?_
    have ⟨M,l,N⟩:=bnd g
    refine Ly (Yl.ia l rfl rfl rfl rfl rfl rfl) ?_
    refine Z0 ?_
    refine Ly (Yl.lo (v:= .int .i64 M.part) 0 ((IntKind.i64.wrap (at_ - 1)).toNat) 2 (aU l).2 rfl rfl rfl rfl (λ_=>rfl)) ?_
    refine Z0 ?_
    cases N
    exact Eg0 [1,1,0] 0
   refine Z0 ?_
   cases g
   exact Eg0 [1,1,0] 0
  refine Tb J (λi=> ?_) λi=> ?_
  ·refine Z0 ?_
   have ⟨O,m,P⟩:=bnd i
   refine Ly (Yl.ia m rfl rfl rfl rfl rfl rfl) ?_
   refine Z0 ?_
   refine Ly (Yl.lo (v:= .int .i64 O.aM) 2 ((IntKind.i64.wrap (at_ - 1)).toNat) 1 (aU m).2 rfl rfl rfl rfl (λ_=>rfl)) ?_
   have ⟨n,Q,R⟩:=bnd P
   refine Lk [] [] (oQ Q) λ⟨⟩=> ?_
   have ⟨ab,o,S⟩:=bnd R
   refine Ly (Yl.ia o rfl rfl rfl rfl rfl rfl) ?_
   refine La [2] [] (Ac.se 0 n (aU o).2 rfl rfl rfl rfl rfl rfl (λ_=>⟨(),rfl,[],rfl⟩)) λ_=> ?_
   refine L.sl 9 (k':=(((r3.set at_.toNat (aG.mk x_ aM 1)).set ((IntKind.i64.wrap (at_+1)).toNat) (aG.mk x_ aM 2)).set ((IntKind.i64.wrap (at_ - 1)).toNat) n).length) (List.length_set ..) rfl ?_
   refine Z0 ?_
   cases S
   exact Eg0 [0,0,0] 0
  refine Z0 ?_
  cases i
  exact Eg0 [2,0,0] 0
 refine Z1 ?_
 have ⟨ac,U,V⟩:=bnd t
 refine Lk [0] [] (mF U) λ⟨⟩=> ?_
 refine Lt 0 ?_
 refine Z0 ?_
 cases V
 exact Eo (a6,c7) [] [0] (.cell 0 rfl rfl rfl .nil)
theorem rj {q:aE} {x1:aB} {x2:Int} {r:aE} (H:jJ q x1 x2=some r):CT G 151 [.agg #[.slice A0 q.cells.length C0,.bool q.wrapped],.pointer (some ⟨N0,0,none⟩),.pointer (some ⟨N3,0,none⟩)] [Ch.box N0 54 [.pointer (some ⟨N1,0,none⟩)],Ch.box N1 124 (cI x1 N2),Ch.box N2 169 [.int .i64 x1.g.w,.slice A1 x1.g.l.length C1],Ch.arr aC 107 A1 C1 x1.g.l,Ch.box N3 21 [.int .i32 x2]] [Im.sl aQ A0 C0 q.cells,Im.sl cL (some ⟨0,0,none⟩) 13 dC,Im.sl cL (some ⟨1,0,none⟩) 14 dK] (λh:(Option Addr×Nat)=> .agg #[.slice h.1 r.cells.length h.2,.bool r.wrapped]) (λh=>[Ch.box N0 54 [.pointer (some ⟨N1,0,none⟩)],Ch.box N1 124 (cI x1 N2),Ch.box N2 169 [.int .i64 x1.g.w,.slice A1 x1.g.l.length C1],Ch.arr aC 107 A1 C1 x1.g.l,Ch.box N3 21 [.int .i32 x2]]) (λh=>[Im.sl aQ h.1 h.2 r.cells]):=by
 delta jJ at H
 refine Cf Go.Proofs.Tryz.func151 λK=> ?_
 refine Z1 ?_
 refine Lx λg1=> ?_
 refine Ll λg2=> ?_
 refine Y1 ?_
 refine Td [9,10] [0,0,0,0,0,0,0] mo ?_
 refine Db 0 1 ?_
 refine Db 1 2 ?_
 refine Dq 2 ?_
 refine Dq 3 ?_
 refine Dq 4 ?_
 refine Db 5 3 ?_
 refine Db 6 6 ?_
 refine Db 7 2 ?_
 have ⟨i,a,b⟩:=bnd H
 refine D.one rfl rfl rfl (Dp.br (Ac.call (dI a) rfl rfl rfl rfl) (Bw.bx 3 rfl (Bw.bx 4 rfl (Bw.ch 5 rfl (Bw.nil)))) rfl rfl rfl rfl ?_)
 intro _
 have ⟨j,c,d⟩:=bnd b
 refine Dkl [] [0,1,2] (Ai c) λ⟨e,f⟩=> ?_
 refine Dt 0 ?_
 refine Dn ?_
 refine Z0 ?_
 cases d
 exact Eo (e,f) [2,2,2,2,2] [0] (.cell 0 rfl rfl rfl .nil)
theorem m9 {s_:aB} {f_1:Int} {r:aB} (H:dM s_ f_1=some r):CT G 145 [.pointer (some ⟨N0,0,none⟩),.func (.func 151) #[] #[.pointer (some ⟨N2,0,none⟩),.pointer (some ⟨N3,0,none⟩)]] [Ch.box N0 124 (cI s_ N1),Ch.box N1 169 [.int .i64 s_.g.w,.slice A0 s_.g.l.length C0],Ch.arr aC 107 A0 C0 s_.g.l,Ch.box N2 54 [.pointer (some ⟨N0,0,none⟩)],Ch.box N3 21 [.int .i32 f_1]] [Im.sl cL (some ⟨0,0,none⟩) 13 dC,Im.sl cL (some ⟨1,0,none⟩) 14 dK] (λ_:Unit=> .tuple #[]) (λh=>[Ch.box N0 124 (cI r N1),Ch.box N1 169 [.int .i64 r.g.w,.slice A0 r.g.l.length C0],Ch.arr aC 107 A0 C0 r.g.l,Ch.box N2 54 [.pointer (some ⟨N0,0,none⟩)],Ch.box N3 21 [.int .i32 f_1]]) (λh=>[]):=by
 delta dM at H
 refine Cf Go.Proofs.Tryz.func145 λK=> ?_
 refine Td [21] [0,0,0,0,0] mo ?_
 refine Dq 0 ?_
 refine Dq 1 ?_
 refine Dq 2 ?_
 refine Db 3 0 ?_
 refine Dq 4 ?_
 refine Dq 5 ?_
 refine Dq 6 ?_
 refine Dq 7 ?_
 refine Db 8 0 ?_
 refine Dq 9 ?_
 refine Dq 10 ?_
 refine Dq 11 ?_
 refine Dq 12 ?_
 refine Db 13 0 ?_
 refine Dq 14 ?_
 refine Dq 15 ?_
 refine Dq 16 ?_
 refine Dq 17 ?_
 refine Db 18 0 ?_
 have ⟨i,a,b⟩:=bnd H
 refine D.one rfl rfl rfl (Dp.ab [1,1] [] [2,0,0,0,0] (Ac.call (l7 a) rfl rfl rfl rfl) rfl rfl rfl rfl rfl rfl (λ_=>rfl) ?_)
 rintro ⟨j,k⟩
 have ⟨m,c,d⟩:=bnd b
 refine D.one rfl rfl rfl (Dp.ab [3,0,0,0,0] [0,1,2] [1,1,1,0,0] (Ac.call (rj c) rfl rfl rfl rfl) rfl rfl rfl rfl rfl rfl (λ_=>rfl) ?_)
 rintro ⟨n,o⟩
 have ⟨p,e,f⟩:=bnd d
 refine Dkl [1,1] [0] (kG e) λ⟨⟩=> ?_
 refine Dn ?_
 refine E.off ?_
 cases f
 exact Eo () [2,0,0,0,0] [] .nil
theorem sJ {s_:aB} {r_:Int} {r:(List aE)×aB} (H:iW s_ r_=some r):CT G 103 [.pointer (some ⟨N0,0,none⟩),.int .i32 r_] [Ch.box N0 124 (cI s_ N1),Ch.box N1 169 [.int .i64 s_.g.w,.slice A0 s_.g.l.length C0],Ch.arr aC 107 A0 C0 s_.g.l] [Im.sl cL (some ⟨0,0,none⟩) 13 dC,Im.sl cL (some ⟨1,0,none⟩) 14 dK] (λh:(Option Addr×Nat)=> .slice h.1 r.1.length h.2) (λh=>[Ch.arr aC 107 h.1 h.2 r.1,Ch.box N0 124 (cI r.2 N1),Ch.box N1 169 [.int .i64 r.2.g.w,.slice A0 r.2.g.l.length C0],Ch.arr aC 107 A0 C0 r.2.g.l]) (λh=>[]):=by
 delta iW at H
 refine Cf Go.Proofs.Tryz.func103 λK=> ?_
 refine Z1 ?_
 refine Lx λg1=> ?_
 refine Lx λg2=> ?_
 refine Z1 ?_
 have ⟨r3,h4,H5⟩:=bnd H
 refine Lk [] [0,1] (Bd h4) λ⟨⟩=> ?_
 refine Z1 ?_
 have ⟨r6,h7,H8⟩:=bnd H5
 refine Lk [3,3] [] (gX h7) λ⟨⟩=> ?_
 refine Y2 ?_
 have ⟨p,q,s⟩:=bnd H8
 refine Tj0 [(25,.bool p)] [2,3,5,6] [] [0,2,3,4,1] ?_ ?_
 ·refine Z0 ?_
  refine Lw 21 q (λi=> ?_) λi=> ?_
  ·refine Z0 ?_
   cases i
   exact Eg0 [0,1,1,1,0] 0
  refine Z0 ?_
  cases i
  exact Eg0 [0,1,1,1,0] 0
 refine Tb s (λj=> ?_) λj=> ?_
 ·refine Z1 ?_
  refine E.iS aC 107 ?_
  cases j
  exact Eo1 (none,0) [0,3,0,2] []
 refine Y3 ?_
 have ⟨t,u,v⟩:=bnd j
 refine Tj0 [(35,.bool t)] [2,3,5,6,8] [] [0,1,2,3,4] ?_ ?_
 ·refine Z0 ?_
  refine Lw 30 u (λk=> ?_) λk=> ?_
  ·refine Z0 ?_
   cases k
   exact Eg0 [0,0,0,0,0] 0
  refine Z0 ?_
  cases k
  exact Eg0 [0,0,0,0,0] 0
 have ⟨a,x,y⟩:=bnd v
 refine Tjh (η:=(Option Addr×Nat)) (λh=>(λb c=>[(8,.slice b a.1.length c)]) h.1 h.2) [2,3,5,6] (λh=>(λb c=>[Ch.arr aC 107 b c a.1,Ch.arr aC 107 A0 C0 a.2.1.l,Ch.box N1 169 [.int .i64 a.2.1.w,.slice A0 a.2.1.l.length C0],Ch.box N0 124 (cI a.2.2 N1)]) h.1 h.2) [1,2] (λ_=>[]) ?_ ?_
 ·refine Tb x (λm=> ?_) λm=> ?_
  ·refine Z1 ?_
   have ⟨aa,z,A⟩:=bnd m
   refine Lk [3,0,2] [] (m7 z) λ⟨⟩=> ?_
   refine Z1 ?_
   refine Lt 0 ?_
   refine Z0 ?_
   have ⟨ab,B,C⟩:=bnd A
   refine Lk [0,0,0] [] (kW B) λ⟨ac,ad⟩=> ?_
   refine L.iS aC 107 ?_
   refine L.frz 1 rfl ?_
   have ⟨_,F,I⟩:=bnd C
   refine La [0] [0] (Ac.ap (ty:=aC) F rfl rfl rfl rfl rfl rfl rfl) ?_
   rintro ⟨J,M⟩
   refine Z0 ?_
   cases I
   exact Eg (J,M) trivial [0,2,1,0,0,0] [] 1
  refine Z0 ?_
  refine E.iS aC 107 ?_
  cases m
  exact Eg (none,0) trivial [0,4,0,2,0,0] [] 0
 rintro ⟨b,c⟩
 refine Z2 ?_
 have ⟨d,N,O⟩:=bnd y
 refine Tjh (η:=(Option Addr×Nat)) (λh=>(λe f=>[(8,.slice e d.1.length f)]) h.1 h.2) [2,3,5,6] (λh=>(λe f=>[Ch.arr aC 107 e f d.1,Ch.arr aC 107 A0 C0 d.2.1.l,Ch.box N1 169 [.int .i64 d.2.1.w,.slice A0 d.2.1.l.length C0],Ch.box N0 124 (cI d.2.2 N1)]) h.1 h.2) [4,5] (λ_=>[]) ?_ ?_
 ·refine Tb N (λn=> ?_) λn=> ?_
  ·refine Z1 ?_
   refine Tb n (λo=> ?_) λo=> ?_
   ·refine Z1 ?_
    have ⟨ae,P,Q⟩:=bnd o
    refine Lk [3,2,1,2] [] (m8 P) λ⟨⟩=> ?_
    refine Z1 ?_
    refine Lt 0 ?_
    refine Z0 ?_
    have ⟨af,R,S⟩:=bnd Q
    refine Lk [0,0,0] [] (kW R) λ⟨ag,ah⟩=> ?_
    refine L.frz 0 rfl ?_
    have ⟨_,U,V⟩:=bnd S
    refine La [4] [0] (Ac.ap (ty:=aC) U rfl rfl rfl rfl rfl rfl rfl) ?_
    rintro ⟨W,X⟩
    refine Z0 ?_
    cases V
    exact Eg (W,X) trivial [0,2,1,0,1,0] [] 1
   refine Z0 ?_
   refine Lt 3 ?_
   refine Z0 ?_
   cases o
   exact Eg (b,c) trivial [1,1,1,0,0,0] [] 0
  refine Z0 ?_
  cases n
  exact Eg (b,c) trivial [0,0,0,0,0,0] [] 0
 rintro ⟨e,f⟩
 refine Z1 ?_
 have ⟨ai,Y,Z⟩:=bnd O
 refine Lk [3,2,1,2,1] [0,1] (m9 Y) λ⟨⟩=> ?_
 refine Z1 ?_
 refine Lt 0 ?_
 refine Y1 ?_
 refine Td [10] [0,0,0,0,0,0] mo ?_
 refine Db 0 3 ?_
 refine Db 1 3 ?_
 refine Dq 2 ?_
 refine Dq 3 ?_
 refine Dq 4 ?_
 refine Db 5 0 ?_
 refine Dq 6 ?_
 refine Dq 7 ?_
 refine Dq 8 ?_
 refine Dq 9 ?_
 refine Dt 0 ?_
 refine Dn ?_
 refine Y1 ?_
 refine Td [12] [0,0,0,0,0,0] mo ?_
 refine Db 0 3 ?_
 refine Db 1 3 ?_
 refine Dq 2 ?_
 refine Dq 3 ?_
 refine Dq 4 ?_
 refine Db 5 0 ?_
 refine Dq 6 ?_
 refine Dq 7 ?_
 refine Dq 8 ?_
 refine Dq 9 ?_
 refine Dq 10 ?_
 refine Dq 11 ?_
 refine Dt 0 ?_
 refine Dn ?_
 refine Z1 ?_
 cases Z
 exact Eo1 (e,f) [5,0,0,0] []
theorem rk {s_:aB} {b:Int} {r:(List aE)×aB} (H:gS s_ b=some r):CT G 104 [.pointer (some ⟨N0,0,none⟩),.int .u8 b] [Ch.box N0 124 (cI s_ N1),Ch.box N1 169 [.int .i64 s_.g.w,.slice A0 s_.g.l.length C0],Ch.arr aC 107 A0 C0 s_.g.l] [] (λh:(Option Addr×Nat)=> .slice h.1 r.1.length h.2) (λh=>[Ch.arr aC 107 h.1 h.2 r.1,Ch.box N0 124 (cI r.2 N1),Ch.box N1 169 [.int .i64 r.2.g.w,.slice A0 r.2.g.l.length C0],Ch.arr aC 107 A0 C0 r.2.g.l]) (λh=>[]):=by
 delta gS at H
 refine Cf Go.Proofs.Tryz.func104 λK=> ?_
 refine Z3 ?_
 have ⟨k,n,m⟩:=bnd H
 refine Tj (η:=(aB×aX)×Unit) (λh=>k = .inl h.1) (λ_=>[]) [] (λh=>(λa=>[Ch.arr aC 107 A0 C0 a.2.l,Ch.box N0 124 (cI a.1 N1),Ch.box N1 169 [.int .i64 a.2.w,.slice A0 a.2.l.length C0]]) h.1) [] (λ_=>[]) ?_ ?_
 ·refine Zl ?_
  refine Z1 ?_
  refine Tb n (λc=> ?_) λc=> ?_
  ·refine Td [12] [0,0,0] mo ?_
   refine Dq 0 ?_
   refine Dq 1 ?_
   refine Dq 2 ?_
   refine Dq 3 ?_
   refine Dq 4 ?_
   refine Db 5 0 ?_
   refine Dq 6 ?_
   refine Dq 7 ?_
   refine Dq 8 ?_
   refine Dq 9 ?_
   refine Dq 10 ?_
   refine Db 11 0 ?_
   have ⟨I,o,p⟩:=bnd c
   refine Dkl [0,0,0] [] (bZ o) λ⟨⟩=> ?_
   refine Dn ?_
   refine Z0 ?_
   cases p
   exact Eg (_,()) rfl [2,0,0] [] 0
  refine Z1 ?_
  refine Tb c (λd=> ?_) λd=> ?_
  ·refine Td [14] [0,0,0] mo ?_
   refine Dq 0 ?_
   refine Dq 1 ?_
   refine Dq 2 ?_
   refine Dq 3 ?_
   refine Dq 4 ?_
   refine Db 5 0 ?_
   refine Dq 6 ?_
   refine Dq 7 ?_
   refine Dq 8 ?_
   refine Dq 9 ?_
   refine Dq 10 ?_
   refine Dq 11 ?_
   refine Dq 12 ?_
   refine Db 13 0 ?_
   have ⟨J,q,s⟩:=bnd d
   refine Dkl [0,0,0] [] (bZ q) λ⟨⟩=> ?_
   refine Dn ?_
   refine Z0 ?_
   cases s
   exact Eg (_,()) rfl [2,0,0] [] 0
  refine Z2 ?_
  have ⟨t,u,v⟩:=bnd d
  refine Tj0 [(38,.bool t)] [0,5] [] [0,1,2] ?_ ?_
  ·refine Tb u (λe=> ?_) λe=> ?_
   ·refine Z0 ?_
    cases e
    exact Eg0 [0,0,0] 0
   refine Z1 ?_
   refine Tb e (λf=> ?_) λf=> ?_
   ·refine Z0 ?_
    cases f
    exact Eg0 [0,0,0] 0
   refine Z0 ?_
   cases f
   exact Eg0 [0,0,0] 0
  refine Tb v (λi=> ?_) λi=> ?_
  ·refine Z1 ?_
   have ⟨M,x,y⟩:=bnd i
   refine Lk [0,0,0] [] (kW x) λ⟨z,A⟩=> ?_
   refine Z0 ?_
   obtain ⟨N,hz,B⟩:=eC y
   subst k
   obtain rfl:=(sm m).symm
   refine Z0 ?_
   cases B
   exact Eo1 (z,A) [0,0,0,0] []
  refine Z1 ?_
  refine Tb i (λj=> ?_) λj=> ?_
  ·refine Z0 ?_
   have ⟨O,C,F⟩:=bnd j
   refine Lk [0,0,0] [] (bZ C) λ⟨⟩=> ?_
   refine Z0 ?_
   cases F
   exact Eg (_,()) rfl [2,0,0] [] 0
  refine Z0 ?_
  cases j
  exact Eg (_,()) rfl [2,0,0] [] 0
 rintro ⟨a,⟨⟩⟩ hy
 subst hy
 refine Z1 ?_
 refine E.iS aC 107 ?_
 cases m
 exact Eo1 (none,0) [0,1,1,0] []
theorem qv {s_:List aE} {r:(List aE)} (H:gG s_=some r):CT G 194 [.slice A0 s_.length C0] [Ch.arr aC 107 A0 C0 s_] [] (λ_:Unit=> .tuple #[]) (λh=>[Ch.arr aC 107 A0 C0 r]) (λh=>[]):=by
 delta gG at H
 refine Cf Go.Proofs.Tryz.func194 λK=> ?_
 refine Z1 ?_
 have ⟨i,x,y⟩:=bnd H
 refine T.sR (η:=Unit×Unit) (λh=>True) (λh=>[(0,.slice A0 i.length C0)]) (λh=>[Ch.arr aC 107 A0 C0 i]) (λh=>[]) ?_ ?_
 ·refine Yl0 ?_
  refine Tq (η:=Unit) (λb h=>[(0,.slice A0 b.1.length C0),(2,.int .i64 b.2.1),(3,.int .i64 b.2.2)]) [] (λb h=>[Ch.arr aC 107 A0 C0 b.1]) [] (λ_ _=>[]) () [0] [] x ?_
  rintro k_ b ⟨⟩ Q z A B
  refine Z2 ?_
  refine Tb z (λj=> ?_) λj=> ?_
  ·refine Y1 ?_
   have ⟨u,C,F⟩:=bnd j
   refine Tj0 [(0,.slice A0 u.length C0)] [2,3] [Ch.arr aC 107 A0 C0 u] [] ?_ ?_
   ·refine Yl0 ?_
    refine Td [15] [] mo ?_
    refine Dq 0 ?_
    refine Dq 1 ?_
    refine Dq 2 ?_
    refine Dq 3 ?_
    refine Dq 4 ?_
    refine Dq 5 ?_
    have ⟨c,e,I⟩:=bnd C
    refine D.mj 0 rfl (cJ e) λR J=> ?_
    subst J
    refine Dy 6 (Yl.ia e rfl rfl rfl rfl rfl rfl) ?_
    refine Dq 8 ?_
    refine Dq 9 ?_
    have ⟨d,k,M⟩:=bnd I
    refine Dy 10 (Yl.ia k rfl rfl rfl rfl rfl rfl) ?_
    have ⟨S,f,N⟩:=bnd M
    have ⟨U,g,w⟩:=bnd N
    refine D.two rfl rfl rfl ?_ ?_
    ·refine Dp.a [0] [] (Ac.lo b.2.2.toNat 0 (v:=(λh:(Option Addr×Nat)=>(λl m=> .agg #[.slice l c.cells.length m,.bool c.wrapped]) h.1 h.2)) (aU e).2 rfl rfl rfl (λ_=>rfl)) rfl rfl rfl rfl rfl rfl ?_
     rintro ⟨l,m⟩
     refine Da [0] [] rfl rfl (Ac.lo b.2.1.toNat 0 (v:=(λh:(Option Addr×Nat)=>(λn o=> .agg #[.slice n d.cells.length o,.bool d.wrapped]) h.1 h.2)) (aU k).2 rfl rfl rfl (λ_=>rfl)) ?_
     rintro ⟨n,o⟩
     refine Dy 12 (Yl.ia f rfl rfl rfl rfl rfl rfl) ?_
     refine Da [0] [1] rfl rfl (Ac.se 0 c (aU f).2 rfl rfl rfl rfl rfl rfl (λ_=>⟨(l,m),rfl,[1],rfl⟩)) λ_=> ?_
     refine Dy 14 (Yl.ia g rfl rfl rfl rfl rfl rfl) ?_
     obtain ⟨V,O⟩:=Cn (aU g).2
     refine D.one rfl rfl rfl (Dp.al [0] [0] (Ac.se 0 d O rfl rfl rfl rfl rfl rfl (λ_=>⟨(n,o),rfl,[1],rfl⟩)) rfl rfl rfl rfl rfl rfl rfl ?_)
     intro _
     refine Dn ?_
     refine E.sl 0 (k':=((b.1.set b.2.1.toNat c).set b.2.2.toNat d).length) ((List.length_set ..).trans (List.length_set ..)) rfl ?_
     refine Z0 ?_
     cases w
     exact Eg0 [0] 2
    refine Dp.a [0] [] (Ac.lo b.2.1.toNat 0 (v:=(λh:(Option Addr×Nat)=>(λp q=> .agg #[.slice p d.cells.length q,.bool d.wrapped]) h.1 h.2)) (aU k).2 rfl rfl rfl (λ_=>rfl)) rfl rfl rfl rfl rfl rfl ?_
    rintro ⟨p,q⟩
    refine Da [0] [] rfl rfl (Ac.lo b.2.2.toNat 0 (v:=(λh:(Option Addr×Nat)=>(λs t=> .agg #[.slice s c.cells.length t,.bool c.wrapped]) h.1 h.2)) (aU e).2 rfl rfl rfl (λ_=>rfl)) ?_
    rintro ⟨s,t⟩
    refine Dy 12 (Yl.ia f rfl rfl rfl rfl rfl rfl) ?_
    refine Da [0] [0] rfl rfl (Ac.se 0 c (aU f).2 rfl rfl rfl rfl rfl rfl (λ_=>⟨(s,t),rfl,[1],rfl⟩)) λ_=> ?_
    refine Dy 14 (Yl.ia g rfl rfl rfl rfl rfl rfl) ?_
    obtain ⟨W,P⟩:=Cn (aU g).2
    refine D.one rfl rfl rfl (Dp.al [0] [1] (Ac.se 0 d P rfl rfl rfl rfl rfl rfl (λ_=>⟨(p,q),rfl,[1],rfl⟩)) rfl rfl rfl rfl rfl rfl rfl ?_)
    intro _
    refine Dn ?_
    refine E.sl 0 (k':=((b.1.set b.2.1.toNat c).set b.2.2.toNat d).length) ((List.length_set ..).trans (List.length_set ..)) rfl ?_
    refine Z0 ?_
    cases w
    exact Eg0 [0] 2
   refine Z0 ?_
   cases F
   exact Eg (_,()) (A _ rfl) [0] [] 0
  refine Z0 ?_
  cases j
  have hb:=B _ rfl
  subst i
  exact Egx ((),()) trivial [0] []
 rintro ⟨_,⟨⟩⟩ _
 refine E.off ?_
 cases y
 exact Eo () [0] [] .nil
theorem oz {g:aX} {top:Int} {aL:Int} {n_:Int} {aM:Int} {r:(List aE)×aX} (H:eU g top aL n_ aM=some r):CT G 160 [.pointer (some ⟨N0,0,none⟩),.int .i64 top,.int .i64 aL,.int .i64 n_,.int .i64 aM] [Ch.box N0 169 [.int .i64 g.w,.slice A0 g.l.length C0],Ch.arr aC 107 A0 C0 g.l] [] (λh:(Option Addr×Nat)=> .slice h.1 r.1.length h.2) (λh=>[Ch.arr aC 107 h.1 h.2 r.1,Ch.box N0 169 [.int .i64 r.2.w,.slice A0 r.2.l.length C0],Ch.arr aC 107 A0 C0 r.2.l]) (λh=>[]):=by
 delta eU at H
 refine Cf Go.Proofs.Tryz.func160 λK=> ?_
 refine Z2 ?_
 have ⟨r1,h2,H3⟩:=bnd H
 rcases r1 with r1 | r1
 ·refine Lk [0,0] [] (oe h2) λ⟨⟩=> ?_
  refine Z2 ?_
  refine T.cond rfl (λ_=> ?_) (λh=>nomatch h)
  refine Z1 ?_
  refine E.iS aC 107 ?_
  cases H3
  exact Eo1 (none,0) [0,0,0] []
 refine Lk [0,0] [] (og h2) λ⟨⟩=> ?_
 have ⟨_,h5,H6⟩:=bnd H3
 refine L.cap 1 rfl λh7=> ?_
 have b:Vw aC g.l A0 C0 (kX A0 C0 r1.1 (aC).sz) (C0 - r1.1.toNat) r1.1 r1.2:=wS h5 h7
 refine Z2 ?_
 refine T.cond rfl (λh=>nomatch h) (λ_=> ?_)
 refine Z1 ?_
 have ⟨r9,m,n⟩:=bnd H6
 refine Lk [] [] (lM m) λ⟨⟩=> ?_
 refine Z1 ?_
 have ⟨_,o,p⟩:=bnd n
 refine L.vv b o rfl rfl rfl rfl rfl rfl rfl rfl rfl rfl rfl λq s t=> ?_
 have ⟨af,u,v⟩:=bnd p
 refine Lk [1] [] (jq A0 C0 q s t u) λ⟨x,y⟩=> ?_
 refine Z1 ?_
 have ⟨z,A,B⟩:=bnd v
 refine Lk [0] [] (qv A) λ⟨⟩=> ?_
 have ⟨_,C,F⟩:=bnd B
 refine L.sl 13 (k':=z.length) (dR C) rfl ?_
 refine Y1 ?_
 refine Td [] [0,1] mo ?_
 refine Dq 0 ?_
 refine Dq 1 ?_
 have ⟨_,I,J⟩:=bnd F
 refine D.vv 2 b I rfl rfl rfl rfl rfl rfl rfl rfl rfl rfl rfl rfl rfl rfl λag ah c=> ?_
 refine Dq 3 ?_
 refine Dq 4 ?_
 refine Dq 5 ?_
 refine Dq 6 ?_
 refine Dq 7 ?_
 have ⟨_,M,N⟩:=bnd J
 refine D.vv 8 b M rfl rfl rfl rfl rfl rfl rfl rfl rfl rfl rfl rfl rfl rfl λai aj O=> ?_
 refine Da [0] [] rfl rfl (Ac.cpv (ty:=aC) c O rfl rfl rfl rfl rfl rfl rfl) λ_=> ?_
 refine Dn ?_
 have P:Vw aC (sF g.l (r1.1+r9) (r1.1+((cut g.l r1.1 r1.2).length:Int)) (r1.1+0) (r1.1+(IntKind.i64.wrap (((cut g.l r1.1 r1.2).length:Int) - r9)))) A0 C0 (kX A0 C0 r1.1 (aC).sz) (C0 - r1.1.toNat) r1.1 r1.2:=Vw.on b (qG c)
 refine E.sl 11 (k':=(cut (sF g.l (r1.1+r9) (r1.1+((cut g.l r1.1 r1.2).length:Int)) (r1.1+0) (r1.1+(IntKind.i64.wrap (((cut g.l r1.1 r1.2).length:Int) - r9)))) r1.1 r1.2).length) (o8 (qG c)) rfl ?_
 refine E.bx 1 (cs':=[.int .i64 g.w,.slice A0 (sF g.l (r1.1+r9) (r1.1+((cut g.l r1.1 r1.2).length:Int)) (r1.1+0) (r1.1+(IntKind.i64.wrap (((cut g.l r1.1 r1.2).length:Int) - r9)))).length C0]) (by rw [(qG c)]) rfl ?_
 refine Z2 ?_
 have ⟨d,Q,R⟩:=bnd N
 refine Tj0 [] [13] [Ch.arr aC 107 A0 C0 d.l,Ch.box N0 169 [.int .i64 d.w,.slice A0 d.l.length C0]] [1] ?_ ?_
 ·refine Yl0 ?_
  refine Tq (η:=Unit) (λa h=>[(11,.slice (kX A0 C0 r1.1 (aC).sz) (cut a.1.l r1.1 r1.2).length (C0 - r1.1.toNat)),(48,.int .i64 a.2)]) [0,4,13,47] (λa h=>[Ch.arr aC 107 A0 C0 a.1.l,Ch.box N0 169 [.int .i64 a.1.w,.slice A0 a.1.l.length C0]]) [1] (λ_ _=>[]) () [2,0,0] [] Q ?_
  rintro k_ a ⟨⟩ ak S U V
  refine Y2 ?_
  refine Tb S (λf=> ?_) λf=> ?_
  ·refine Z1 ?_
   refine Zl ?_
   refine Z1 ?_
   have ⟨e,W,X⟩:=bnd f
   refine Lk [] [] (qk W) λ⟨Y,Z⟩=> ?_
   have ⟨_,aa,ab⟩:=bnd X
   refine L.cap 0 rfl λac=> ?_
   have k:=No P aa ac
   have ⟨al,i,ad⟩:=bnd ab
   refine L.mj 0 rfl (Ij (vw i)) λj ae=> ?_
   subst ae
   refine Ly (Yl.iv (ty:=aC) 0 k i rfl rfl rfl rfl rfl rfl rfl rfl) ?_
   refine La [0] [0] (Ac.se 0 e (vw i) rfl rfl rfl rfl rfl rfl (λ_=>⟨(Y,Z),rfl,[1],rfl⟩)) λ_=> ?_
   have am:Vw aC (a.1.l.set (r1.1.toNat+a.2.toNat) e) (some ⟨j,0,none⟩) C0 (kX (some ⟨j,0,none⟩) C0 r1.1 (aC).sz) (C0 - r1.1.toNat) r1.1 r1.2:=Vw.on k (List.length_set ..)
   refine L.sl 11 (k':=(cut (a.1.l.set (r1.1.toNat+a.2.toNat) e) r1.1 r1.2).length) (o8 (List.length_set ..)) rfl ?_
   refine L.bx 1 (cs':=[.int .i64 a.1.w,.slice (some ⟨j,0,none⟩) (a.1.l.set (r1.1.toNat+a.2.toNat) e).length C0]) (by rw [List.length_set ..]) rfl ?_
   refine Z0 ?_
   cases ad
   exact Eg (_,()) (U _ rfl) [1,0,0] [] 1
  refine Z0 ?_
  cases f
  have hb:=V _ rfl
  subst d
  exact Eg0 [0,0,0] 0
 refine Z1 ?_
 cases R
 exact Eo1 (x,y) [2,1,0] []
theorem tH {s_:aB} {r:aB} (H:jC s_=some r):CT G 153 [.pointer (some ⟨N0,0,none⟩)] [Ch.box N0 124 (cI s_ N1),Ch.box N1 169 [.int .i64 s_.g.w,.slice A0 s_.g.l.length C0],Ch.arr aC 107 A0 C0 s_.g.l] [] (λ_:Unit=> .tuple #[]) (λh=>[Ch.box N0 124 (cI r N1),Ch.box N1 169 [.int .i64 r.g.w,.slice A0 r.g.l.length C0],Ch.arr aC 107 A0 C0 r.g.l]) (λh=>[]):=by
 delta jC at H
 refine Cf Go.Proofs.Tryz.func153 λK=> ?_
 refine Z1 ?_
 refine Lt 0 ?_
 refine Y2 ?_
 refine Td [] [0,0,0] mo ?_
 refine Dq 0 ?_
 refine Dq 1 ?_
 refine Dq 2 ?_
 refine Dq 3 ?_
 refine Db 4 0 ?_
 refine Dq 5 ?_
 refine Dq 6 ?_
 refine Dq 7 ?_
 refine Db 8 0 ?_
 refine Dq 9 ?_
 refine Dn ?_
 refine Z0 ?_
 refine Tb H (λa=> ?_) λa=> ?_
 ·refine Y1 ?_
  refine Td [14] [0,0,0] mo ?_
  refine Dq 0 ?_
  refine Dq 1 ?_
  refine Dq 2 ?_
  refine Db 3 0 ?_
  refine Dq 4 ?_
  refine Dq 5 ?_
  refine Dq 6 ?_
  refine Db 7 0 ?_
  refine Dq 8 ?_
  refine Dq 9 ?_
  refine Dq 10 ?_
  refine Db 11 0 ?_
  refine Dq 12 ?_
  have ⟨j,b,c⟩:=bnd a
  refine D.one rfl rfl rfl (Dp.br (Ac.call (dI b) rfl rfl rfl rfl) (Bw.bx 0 rfl (Bw.bx 1 rfl (Bw.ch 2 rfl (Bw.nil)))) rfl rfl rfl rfl ?_)
  intro _
  have ⟨k,d,e⟩:=bnd c
  refine Dkl [1,1] [] (oz d) λ⟨m,n⟩=> ?_
  refine Dn ?_
  refine Z0 ?_
  cases e
  exact Eo () [3,1,1] [] .nil
 refine Z0 ?_
 refine Td [12] [0,0,0] mo ?_
 refine Dq 0 ?_
 refine Dq 1 ?_
 refine Dq 2 ?_
 refine Dq 3 ?_
 refine Dq 4 ?_
 refine Db 5 0 ?_
 refine Dq 6 ?_
 refine Dq 7 ?_
 refine Dq 8 ?_
 refine Dq 9 ?_
 refine Db 10 0 ?_
 refine Dq 11 ?_
 have ⟨o,f,i⟩:=bnd a
 refine Dkl [0,0,0] [] (bZ f) λ⟨⟩=> ?_
 refine Dn ?_
 refine E.off ?_
 cases i
 exact Eo () [0,0,0] [] .nil
theorem sg {s_:aB} {b:Int} {r:(List aE)×aB} (H:iG s_ b=some r):CT G 105 [.pointer (some ⟨N0,0,none⟩),.int .u8 b] [Ch.box N0 124 (cI s_ N1),Ch.box N1 169 [.int .i64 s_.g.w,.slice A0 s_.g.l.length C0],Ch.arr aC 107 A0 C0 s_.g.l] [] (λh:(Option Addr×Nat)×Nat×(Option Addr×Nat)=> .slice h.1.1 r.1.length h.1.2) (λh=>[Ch.arr aC 107 h.1.1 h.1.2 r.1,Ch.box N0 124 (cI r.2 h.2.1),Ch.box h.2.1 169 [.int .i64 r.2.g.w,.slice h.2.2.1 r.2.g.l.length h.2.2.2],Ch.arr aC 107 h.2.2.1 h.2.2.2 r.2.g.l]) (λh=>[]):=by
 delta iG at H
 refine Cf Go.Proofs.Tryz.func105 λK=> ?_
 refine Z3 ?_
 have ⟨q,u,s⟩:=bnd H
 refine Tj (η:=aB×(Nat×(Option Addr×Nat))) (λh=>q = .inl h.1) (λ_=>[]) [] (λh=>(λd=>(λe f i=>[Ch.arr aC 107 f i d.g.l,Ch.box N0 124 (cI d e),Ch.box e 169 [.int .i64 d.g.w,.slice f d.g.l.length i]]) h.2.1 h.2.2.1 h.2.2.2) h.1) [] (λ_=>[]) ?_ ?_
 ·refine Zl ?_
  refine Z1 ?_
  refine Zl ?_
  refine Z1 ?_
  refine Zl ?_
  refine Z1 ?_
  refine Zl ?_
  refine Z1 ?_
  refine Zl ?_
  refine Y1 ?_
  have ⟨a,v,c⟩:=bnd u
  refine Tj (η:=aB×Unit) (λh=>a = .inl h.1) (λ_=>[]) [0] (λh=>(λt=>[Ch.box N0 124 (cI t N1)]) h.1) [1,2] (λ_=>[]) ?_ ?_
  ·refine Zl ?_
   refine Z1 ?_
   refine Zl ?_
   refine Z3 ?_
   refine Tb v (λj=> ?_) λj=> ?_
   ·refine Z0 ?_
    refine Lt 0 ?_
    refine Z0 ?_
    cases j
    exact Eg (_,()) rfl [0,0,0] [] 0
   refine Z2 ?_
   refine Tb j (λk=> ?_) λk=> ?_
   ·refine Tx (Ex (Ex (E.eS rfl (Ex (Eh ?_)))))
    cases k
    exact Eg (_,()) rfl [0,0,0] [] 0
   refine Z2 ?_
   refine Tb k (λm=> ?_) λm=> ?_
   ·refine Tx (Ex (Ex (E.eS rfl (Ex (E.eS rfl ?_)))))
    obtain ⟨Z,hz,x⟩:=eC m
    subst a
    obtain rfl:=(sm c).symm
    refine Z1 ?_
    have ⟨aa,y,z⟩:=bnd x
    refine Lk [0,0,0] [] (tH y) λ⟨⟩=> ?_
    refine Ln (Et (Tx (E.eS rfl (Ex (E.eS rfl (Ex (E.eS rfl (Ex (Eh ?_)))))))))
    cases z
    exact Eg (_,(N1,(A0,C0))) rfl [2,0,0] [] 0
   refine Z2 ?_
   refine Tb m (λn=> ?_) λn=> ?_
   ·refine Tx (Ex (Ex (E.eS rfl (Ex (E.eS rfl ?_)))))
    obtain ⟨ab,hz,A⟩:=eC n
    subst a
    obtain rfl:=(sm c).symm
    refine Ex (E.eS rfl (Ex (Eh (Et (Ts (Tr ?_))))))
    refine Z0 ?_
    refine Lt 0 ?_
    refine Ln (Et (Tx (E.eS rfl (Ex (E.eS rfl (Ex (Eh ?_)))))))
    cases A
    exact Eg (_,(N1,(A0,C0))) rfl [2,0,0] [] 0
   refine Z2 ?_
   refine Tb n (λo=> ?_) λo=> ?_
   ·refine Tx (Ex (Ex (E.eS rfl (Ex (E.eS rfl ?_)))))
    obtain ⟨ac,hz,B⟩:=eC o
    subst a
    obtain rfl:=(sm c).symm
    refine Ex (E.eS rfl (Ex (E.eS rfl (Ex (Eh (Et (Ts (Ts (Tr ?_)))))))))
    refine Z0 ?_
    refine Lt 0 ?_
    refine Z0 ?_
    refine Td [11] [0,0,0] mo ?_
    refine Dq 0 ?_
    refine Dq 1 ?_
    refine Dq 2 ?_
    refine Dq 3 ?_
    refine Dq 4 ?_
    refine Db 5 0 ?_
    refine Dq 6 ?_
    refine Dq 7 ?_
    refine Dq 8 ?_
    refine Dq 9 ?_
    refine Db 10 0 ?_
    have ⟨ad,C,F⟩:=bnd B
    refine Dkl [0,0,0] [] (bZ C) λ⟨⟩=> ?_
    refine Dn ?_
    refine Et (Tx (E.eS rfl (Ex (Eh ?_))))
    cases F
    exact Eg (_,(N1,(A0,C0))) rfl [2,0,0] [] 0
   refine Z1 ?_
   refine Tb o (λp=> ?_) λp=> ?_
   ·refine Tx (Ex (E.eS rfl (Ex (E.eS rfl ?_))))
    obtain ⟨ae,hz,I⟩:=eC p
    subst a
    obtain rfl:=(sm c).symm
    refine Ex (E.eS rfl (Ex (E.eS rfl (Ex (E.eS rfl (Ex (Eh (Et (Ts (Tr ?_))))))))))
    refine Z0 ?_
    have ⟨af,J,M⟩:=bnd I
    refine Lk [1,1] [] (gX J) λ⟨⟩=> ?_
    refine Z0 ?_
    have ⟨ag,N,O⟩:=bnd M
    refine Lk [] [] (wy N) λ⟨ah,P,⟨Q,R⟩⟩=> ?_
    refine Z0 ?_
    refine Lt 5 ?_
    refine Z0 ?_
    cases O
    exact Eg (_,(P,(Q,R))) rfl [3,0,1] [] 0
   refine Tk (Et (Tx (E.eS rfl (Ex (E.eS rfl ?_)))))
   obtain ⟨ai,hz,S⟩:=eC p
   subst a
   obtain rfl:=(sm c).symm
   refine Ex (E.eS rfl (Ex (E.eS rfl (Ex (E.eS rfl (Ex (E.eS rfl (Ex (Eh ?_)))))))))
   cases S
   exact Eg (_,(N1,(A0,C0))) rfl [2,0,0] [] 0
  rintro ⟨t,⟨⟩⟩ hy
  subst hy
  refine Z2 ?_
  have ⟨aj,U,V⟩:=bnd c
  refine Lk [0,0,0] [] (kW U) λ⟨W,X⟩=> ?_
  refine Z0 ?_
  obtain ⟨ak,hz,Y⟩:=eC V
  subst q
  obtain rfl:=(sm s).symm
  refine Z0 ?_
  cases Y
  exact Eo1 ((W,X),N1,(A0,C0)) [0,0,0,0] []
 rintro ⟨d,⟨e,⟨f,i⟩⟩⟩ hy
 subst hy
 refine Z1 ?_
 refine E.iS aC 107 ?_
 cases s
 exact Eo1 ((none,0),e,(f,i)) [0,1,1,0] []
theorem mH {a:aZ} {i:Int} {d:Int} {r:Int} (H:fB a i d=some r):CT G 107 [.agg (z4 a A0 C0).toArray,.int .i64 i,.int .i64 d] [] [Im.sl (Ty.int .i64) A0 C0 a.bJ] (λ_:Unit=> .int .i64 r) (λh=>[]) (λh=>[]):=by
 delta fB at H
 refine Cf Go.Proofs.Tryz.func107 λK=> ?_
 refine Z1 ?_
 refine Lx λg1=> ?_
 refine Y2 ?_
 have ⟨g,j,k⟩:=bnd H
 refine Tj0 [(19,.bool g)] [1,2,3] [] [0] ?_ ?_
 ·refine Z0 ?_
  refine Lw 12 j (λb=> ?_) λb=> ?_
  ·refine Z0 ?_
   cases b
   exact Eg0 [0] 0
  refine Z0 ?_
  have ⟨p,c,l⟩:=bnd b
  refine L.addr 0 rfl (cJ c) λq s m=> ?_
  subst m
  refine Ly (Yl.ia c rfl rfl rfl rfl rfl rfl) ?_
  refine L.el 0 rfl (aU c).2 ?_
  rintro _
  refine Lc 0 0 ?_
  refine Z0 ?_
  cases l
  exact Eg0 [0] 1
 refine Tb k (λe=> ?_) λe=> ?_
 ·refine Z1 ?_
  cases e
  exact Eo1 () [] []
 refine Z1 ?_
 have ⟨t,f,n⟩:=bnd e
 refine L.addr 0 rfl (cJ f) λu v o=> ?_
 subst o
 refine Ly (Yl.ia f rfl rfl rfl rfl rfl rfl) ?_
 refine L.el 0 rfl (aU f).2 ?_
 rintro _
 refine Lc 0 0 ?_
 refine Z0 ?_
 cases n
 exact Eo1 () [] []
theorem oh {s_:aB} {n_:Int} {r:aB} (H:gD s_ n_=some r):CT G 154 [.pointer (some ⟨N0,0,none⟩),.int .i64 n_] [Ch.box N0 124 (cI s_ N1),Ch.box N1 169 [.int .i64 s_.g.w,.slice A0 s_.g.l.length C0],Ch.arr aC 107 A0 C0 s_.g.l] [] (λ_:Unit=> .tuple #[]) (λh=>[Ch.box N0 124 (cI r N1),Ch.box N1 169 [.int .i64 r.g.w,.slice A0 r.g.l.length C0],Ch.arr aC 107 A0 C0 r.g.l]) (λh=>[]):=by
 delta gD at H
 refine Cf Go.Proofs.Tryz.func154 λK=> ?_
 refine Z1 ?_
 have ⟨r1,h2,H3⟩:=bnd H
 refine Lk [0,0,0] [] (mG h2) λ⟨⟩=> ?_
 refine Y3 ?_
 have ⟨e9,e,f⟩:=bnd H3
 refine Tj0 [(27,.bool e9)] [0,1,6,7] [] [0,1,2] ?_ ?_
 ·refine Td [] [0,0,0] mo ?_
  refine Dq 0 ?_
  refine Dq 1 ?_
  refine Dq 2 ?_
  refine Dq 3 ?_
  refine Db 4 0 ?_
  refine Dq 5 ?_
  refine Dq 6 ?_
  refine Dq 7 ?_
  refine Db 8 0 ?_
  refine Dq 9 ?_
  refine Dq 10 ?_
  refine D.cs 24 e rfl (λhc a=> ?_) (λhc a=> ?_)
  ·refine Dq 11 ?_
   refine Dq 12 ?_
   refine Dq 13 ?_
   refine Dn ?_
   cases a
   exact Eg0 [0,0,0] 0
  refine Ds 11 ?_
  refine Ds 12 ?_
  refine Dq 13 ?_
  refine Dn ?_
  cases a
  exact Eg0 [0,0,0] 0
 have ⟨i,j,k⟩:=bnd f
 refine Tj0 [(6,.int .i64 i)] [0,1,7] [] [0,1,2] ?_ ?_
 ·refine Tb j (λb=> ?_) λb=> ?_
  ·refine Z0 ?_
   cases b
   exact Eg0 [0,0,0] 0
  refine Z0 ?_
  cases b
  exact Eg0 [0,0,0] 0
 refine Y2 ?_
 have ⟨m,n,o⟩:=bnd k
 refine Tj0 [(45,.bool m)] [0,1,6,7] [] [0,1,2] ?_ ?_
 ·refine Td [] [0,0,0] mo ?_
  refine Dq 0 ?_
  refine Dq 1 ?_
  refine Dq 2 ?_
  refine Dq 3 ?_
  refine Db 4 0 ?_
  refine Dq 5 ?_
  refine Dq 6 ?_
  refine Dq 7 ?_
  refine Db 8 0 ?_
  refine Dq 9 ?_
  refine Dq 10 ?_
  refine D.cs 42 n rfl (λhc c=> ?_) (λhc c=> ?_)
  ·refine Dq 11 ?_
   refine Dq 12 ?_
   refine Dq 13 ?_
   refine Dn ?_
   cases c
   exact Eg0 [0,0,0] 0
  refine Ds 11 ?_
  refine Ds 12 ?_
  refine Dq 13 ?_
  refine Dn ?_
  cases c
  exact Eg0 [0,0,0] 0
 have ⟨p,q,s⟩:=bnd o
 refine Tj0 [(7,.int .i64 p)] [0,1,6] [] [0,1,2] ?_ ?_
 ·refine Tb q (λd=> ?_) λd=> ?_
  ·refine Z0 ?_
   cases d
   exact Eg0 [0,0,0] 0
  refine Z0 ?_
  cases d
  exact Eg0 [0,0,0] 0
 refine Td [16] [0,0,0] mo ?_
 refine Dq 0 ?_
 refine Dq 1 ?_
 refine Dq 2 ?_
 refine Dq 3 ?_
 refine Dq 4 ?_
 refine Db 5 0 ?_
 refine Dq 6 ?_
 refine Dq 7 ?_
 refine Dq 8 ?_
 refine Dq 9 ?_
 refine Db 10 0 ?_
 refine Dq 11 ?_
 refine Dq 12 ?_
 refine Dq 13 ?_
 refine Dq 14 ?_
 have ⟨y,t,u⟩:=bnd s
 refine Dk [] [] (mg t) λ⟨⟩=> ?_
 have ⟨z,v,x⟩:=bnd u
 refine Dkl [0,0,0] [] (bZ v) λ⟨⟩=> ?_
 refine Dn ?_
 refine E.off ?_
 cases x
 exact Eo () [0,0,0] [] .nil
theorem sB {r_:aE} {from_:Int} {to:Int} {aM:Int} {r:aE} (H:kC r_ from_ to aM=some r):CT G 191 [.agg #[.slice A0 r_.cells.length C0,.bool r_.wrapped],.int .i64 from_,.int .i64 to,.int .i64 aM] [] [Im.sl aQ A0 C0 r_.cells] (λh:(Option Addr×Nat)=> .agg #[.slice h.1 r.cells.length h.2,.bool r.wrapped]) (λh=>[]) (λh=>[Im.sl aQ h.1 h.2 r.cells]):=by
 delta kC at H
 refine Cf Go.Proofs.Tryz.func191 λK=> ?_
 refine Z1 ?_
 refine Lx λg1=> ?_
 refine Ll λg2=> ?_
 refine Z1 ?_
 have ⟨r3,h4,H5⟩:=bnd H
 refine Lk [] [0] (kF h4) λ⟨a6,c7⟩=> ?_
 refine Z2 ?_
 have ⟨r9,f,g⟩:=bnd H5
 refine Lk [] [] (pQ f) λ⟨⟩=> ?_
 refine Z0 ?_
 have ⟨b,i,j⟩:=bnd g
 refine Tj0 [(9,.slice a6 b.length c7)] [8] [Ch.arr aQ 143 a6 c7 b] [1,2] ?_ ?_
 ·refine Yl0 ?_
  refine Tq (η:=Unit) (λa h=>[(9,.slice a6 a.2.length c7),(10,.int .i64 a.1)]) [2,3,8] (λa h=>[Ch.arr aQ 143 a6 c7 a.2]) [1,2] (λ_ _=>[]) () [0,0,0] [] i ?_
  rintro k_ a ⟨⟩ w k l m
  refine Z2 ?_
  have ⟨x,n,o⟩:=bnd k
  refine Lk [] [] (pQ n) λ⟨⟩=> ?_
  refine Z0 ?_
  refine Tb o (λc=> ?_) λc=> ?_
  ·refine Z1 ?_
   refine Zl ?_
   have ⟨e,p,q⟩:=bnd c
   refine Lk [] [] (oQ p) λ⟨⟩=> ?_
   have ⟨y,d,s⟩:=bnd q
   refine L.mj 0 rfl (cJ d) λz t=> ?_
   subst t
   refine Ly (Yl.ia d rfl rfl rfl rfl rfl rfl) ?_
   refine La [0] [] (Ac.se 0 e (aU d).2 rfl rfl rfl rfl rfl rfl (λ_=>⟨(),rfl,[],rfl⟩)) λ_=> ?_
   refine L.sl 9 (k':=(a.2.set a.1.toNat e).length) (List.length_set ..) rfl ?_
   refine Z0 ?_
   cases s
   exact Eg (_,()) (l _ rfl) [0,0,0] [] 0
  refine Z0 ?_
  cases c
  have hb:=m _ rfl
  subst b
  exact Eg0 [0,0,0] 0
 refine Z1 ?_
 have ⟨A,u,v⟩:=bnd j
 refine Lk [0] [] (mF u) λ⟨⟩=> ?_
 refine Lt 0 ?_
 refine Z0 ?_
 cases v
 exact Eo (a6,c7) [] [0] (.cell 0 rfl rfl rfl .nil)
theorem kz {s_:aB} {y:Int} {from_:Int} {to:Int} {r:aB} (H:eP s_ y from_ to=some r):CT G 187 [.pointer (some ⟨N0,0,none⟩),.int .i64 y,.int .i64 from_,.int .i64 to] [Ch.box N0 124 (cI s_ N1),Ch.box N1 169 [.int .i64 s_.g.w,.slice A0 s_.g.l.length C0],Ch.arr aC 107 A0 C0 s_.g.l] [] (λ_:Unit=> .tuple #[]) (λh=>[Ch.box N0 124 (cI r N1),Ch.box N1 169 [.int .i64 r.g.w,.slice A0 r.g.l.length C0],Ch.arr aC 107 A0 C0 r.g.l]) (λh=>[]):=by
 delta eP at H
 refine Cf Go.Proofs.Tryz.func187 λK=> ?_
 refine Td [16] [0,0,0] mo ?_
 refine Dq 0 ?_
 refine Dq 1 ?_
 refine Dq 2 ?_
 refine Db 3 0 ?_
 refine Dq 4 ?_
 refine Dq 5 ?_
 refine Dq 6 ?_
 refine Dq 7 ?_
 refine Db 8 0 ?_
 refine Dq 9 ?_
 refine Dq 11 ?_
 refine Dq 12 ?_
 refine Dq 13 ?_
 have ⟨k,a,b⟩:=bnd H
 refine D.one rfl rfl rfl (Dp.ab [1,1] [] [2,0,0] (Ac.call (l7 a) rfl rfl rfl rfl) rfl rfl rfl rfl rfl rfl (λ_=>rfl) ?_)
 rintro ⟨m,n⟩
 have ⟨o,c,d⟩:=bnd b
 refine D.one rfl rfl rfl (Dp.br (Ac.call (dI c) rfl rfl rfl rfl) (Bw.bx 0 rfl (Bw.bx 1 rfl (Bw.ch 2 rfl (Bw.nil)))) rfl rfl rfl rfl ?_)
 intro _
 have ⟨p,e,f⟩:=bnd d
 refine Dk [] [0] (sB e) λ⟨q,s⟩=> ?_
 have ⟨t,i,j⟩:=bnd f
 refine Dkl [1,1] [0] (kG i) λ⟨⟩=> ?_
 refine Dn ?_
 refine E.off ?_
 cases j
 exact Eo () [2,0,0] [] .nil
theorem oR {s_:aB} {n_:Int} {r:aB} (H:gT s_ n_=some r):CT G 156 [.pointer (some ⟨N0,0,none⟩),.int .i64 n_] [Ch.box N0 124 (cI s_ N1),Ch.box N1 169 [.int .i64 s_.g.w,.slice A0 s_.g.l.length C0],Ch.arr aC 107 A0 C0 s_.g.l] [] (λ_:Unit=> .tuple #[]) (λh=>[Ch.box N0 124 (cI r N1),Ch.box N1 169 [.int .i64 r.g.w,.slice A0 r.g.l.length C0],Ch.arr aC 107 A0 C0 r.g.l]) (λh=>[]):=by
 delta gT at H
 refine Cf Go.Proofs.Tryz.func156 λK=> ?_
 refine Z1 ?_
 have ⟨r1,h2,H3⟩:=bnd H
 refine Lk [1,1] [] (gX h2) λ⟨⟩=> ?_
 refine Z2 ?_
 have ⟨a,f,i⟩:=bnd H3
 refine Tj0 [] [0,1] [Ch.arr aC 107 A0 C0 a.1.l,Ch.box N1 169 [.int .i64 a.1.w,.slice A0 a.1.l.length C0],Ch.box N0 124 (cI a.2 N1)] [] ?_ ?_
 ·refine Zl ?_
  refine Z1 ?_
  refine Tb f (λb=> ?_) λb=> ?_
  ·refine Td [12] [0,0,0] mo ?_
   refine Dq 0 ?_
   refine Dq 1 ?_
   refine Dq 2 ?_
   refine Dq 3 ?_
   refine Dq 4 ?_
   refine Db 5 2 ?_
   refine Dq 6 ?_
   refine Dq 7 ?_
   refine Dq 8 ?_
   refine Dq 9 ?_
   refine Db 10 2 ?_
   refine Dq 11 ?_
   have ⟨q,j,k⟩:=bnd b
   refine Dkl [2,0,0] [] (kz j) λ⟨⟩=> ?_
   refine Dn ?_
   refine Z0 ?_
   cases k
   exact Eg0 [2,1,0] 0
  refine Z1 ?_
  refine Tb b (λc=> ?_) λc=> ?_
  ·refine Td [12] [0,0,0] mo ?_
   refine Dq 0 ?_
   refine Dq 1 ?_
   refine Dq 2 ?_
   refine Dq 3 ?_
   refine Dq 4 ?_
   refine Db 5 2 ?_
   refine Dq 6 ?_
   refine Dq 7 ?_
   refine Dq 8 ?_
   refine Dq 9 ?_
   refine Db 10 2 ?_
   refine Dq 11 ?_
   have ⟨s,m,n⟩:=bnd c
   refine Dkl [2,0,0] [] (kz m) λ⟨⟩=> ?_
   refine Dn ?_
   refine Z0 ?_
   cases n
   exact Eg0 [2,1,0] 0
  refine Z1 ?_
  refine Tb c (λd=> ?_) λd=> ?_
  ·refine Z0 ?_
   have ⟨t,o,p⟩:=bnd d
   refine Lk [2,0,0] [] (kz o) λ⟨⟩=> ?_
   refine Z0 ?_
   cases p
   exact Eg0 [2,1,0] 0
  refine Z0 ?_
  cases d
  exact Eg0 [1,0,0] 0
 refine Z0 ?_
 refine Lw 60 i (λe=> ?_) λe=> ?_
 ·refine Z0 ?_
  refine Lt 2 ?_
  refine Ln (E.off ?_)
  cases e
  exact Eo () [0,1,0] [] .nil
 refine Z0 ?_
 refine Lt 2 ?_
 refine Ln (E.off ?_)
 cases e
 exact Eo () [0,1,0] [] .nil
theorem tI {s_:aB} {n_:Int} {r:aB} (H:jD s_ n_=some r):CT G 155 [.pointer (some ⟨N0,0,none⟩),.int .i64 n_] [Ch.box N0 124 (cI s_ N1),Ch.box N1 169 [.int .i64 s_.g.w,.slice A0 s_.g.l.length C0],Ch.arr aC 107 A0 C0 s_.g.l] [] (λ_:Unit=> .tuple #[]) (λh=>[Ch.box N0 124 (cI r N1),Ch.box N1 169 [.int .i64 r.g.w,.slice A0 r.g.l.length C0],Ch.arr aC 107 A0 C0 r.g.l]) (λh=>[]):=by
 delta jD at H
 refine Cf Go.Proofs.Tryz.func155 λK=> ?_
 refine Z1 ?_
 have ⟨r1,h2,H3⟩:=bnd H
 refine Lk [1,1] [] (gX h2) λ⟨⟩=> ?_
 refine Z2 ?_
 have ⟨b,t,u⟩:=bnd H3
 refine Tj0 [] [0,1] [Ch.arr aC 107 A0 C0 b.1.l,Ch.box N1 169 [.int .i64 b.1.w,.slice A0 b.1.l.length C0],Ch.box N0 124 (cI b.2 N1)] [] ?_ ?_
 ·refine Yl0 ?_
  refine Tq (η:=Unit) (λa h=>[(16,.int .i64 a.2.2)]) [0,1,4,15] (λa h=>[Ch.arr aC 107 A0 C0 a.2.1.l,Ch.box N1 169 [.int .i64 a.2.1.w,.slice A0 a.2.1.l.length C0],Ch.box N0 124 (cI a.1 N1)]) [] (λ_ _=>[]) () [1,0,0] [] t ?_
  rintro k_ a ⟨⟩ O v x y
  refine Y2 ?_
  refine Tb v (λd=> ?_) λd=> ?_
  ·refine Y1 ?_
   have ⟨c,z,A⟩:=bnd d
   refine Tj0 [] [0,1,4,15,16] [Ch.arr aC 107 A0 C0 c.1.l,Ch.box N1 169 [.int .i64 c.1.w,.slice A0 c.1.l.length C0],Ch.box N0 124 (cI c.2 N1)] [] ?_ ?_
   ·refine Zl ?_
    refine Y2 ?_
    have ⟨B,C,F⟩:=bnd z
    refine Tj0 [(55,.bool B)] [0,1,4,6,15,16] [] [1,2,0] ?_ ?_
    ·refine Z0 ?_
     refine Lw 26 C (λe=> ?_) λe=> ?_
     ·refine Z0 ?_
      refine Lw 30 e (λf=> ?_) λf=> ?_
      ·refine Z0 ?_
       cases f
       exact Eg0 [1,1,0] 0
      refine Z0 ?_
      refine Lw 38 f (λi=> ?_) λi=> ?_
      ·refine Z0 ?_
       refine Lw 43 i (λj=> ?_) λj=> ?_
       ·refine Z0 ?_
        cases j
        exact Eg0 [1,1,0] 0
       refine Z0 ?_
       refine Lw 51 j (λk=> ?_) λk=> ?_
       ·refine Z0 ?_
        cases k
        exact Eg0 [1,1,0] 0
       refine Z0 ?_
       cases k
       exact Eg0 [1,1,0] 0
      refine Z0 ?_
      refine Lw 51 i (λm=> ?_) λm=> ?_
      ·refine Z0 ?_
       cases m
       exact Eg0 [1,1,0] 0
      refine Z0 ?_
      cases m
      exact Eg0 [1,1,0] 0
     refine Z0 ?_
     refine Lw 38 e (λn=> ?_) λn=> ?_
     ·refine Z0 ?_
      refine Lw 43 n (λo=> ?_) λo=> ?_
      ·refine Z0 ?_
       cases o
       exact Eg0 [1,1,0] 0
      refine Z0 ?_
      refine Lw 51 o (λp=> ?_) λp=> ?_
      ·refine Z0 ?_
       cases p
       exact Eg0 [1,1,0] 0
      refine Z0 ?_
      cases p
      exact Eg0 [1,1,0] 0
     refine Z0 ?_
     refine Lw 51 n (λq=> ?_) λq=> ?_
     ·refine Z0 ?_
      cases q
      exact Eg0 [1,1,0] 0
     refine Z0 ?_
     cases q
     exact Eg0 [1,1,0] 0
    refine Tb F (λs=> ?_) λs=> ?_
    ·refine Z0 ?_
     have ⟨P,I,J⟩:=bnd s
     refine Lk [1,0,0] [] (kz I) λ⟨⟩=> ?_
     refine Z0 ?_
     cases J
     exact Eg0 [2,1,0] 0
    refine Z0 ?_
    cases s
    exact Eg0 [2,0,0] 0
   refine Z0 ?_
   cases A
   exact Eg (_,()) (x _ rfl) [0,0,0] [] 0
  refine Z0 ?_
  cases d
  have hb:=y _ rfl
  subst b
  exact Eg0 [0,0,0] 0
 refine Z0 ?_
 have ⟨Q,M,N⟩:=bnd u
 refine Lk [2,1,0] [] (oR M) λ⟨⟩=> ?_
 refine Ln (E.off ?_)
 cases N
 exact Eo () [0,0,0] [] .nil
end Go.Tw.X
namespace Go.Tw.X
open Go Go.Tw
variable {A0 A1 A2 A3 A4 A5 A6 A7 A8 : Option Addr} {C0 C1 C2 C3 C4 C5 C6 C7 C8 : Nat}
variable {N0 N1 N2 N3 N4 : Nat}
variable {M0 : Option Nat}
theorem rm {r_:aE} {at_:Int} {n_:Int} {r:Int} (H:kc r_ at_ n_=some r):CT G 209 [.agg #[.slice A0 r_.cells.length C0,.bool r_.wrapped],.int .i64 at_,.int .i64 n_] [] [Im.sl aQ A0 C0 r_.cells] (λ_:Unit=> .int .i64 r) (λh=>[]) (λh=>[]):=by
 delta kc at H
 refine Cf Go.Proofs.Tryz.func209 λK=> ?_
 refine Z1 ?_
 refine Lx λg1=> ?_
 refine Y2 ?_
 have ⟨e5,H6,H7⟩:=bnd H
 refine Tj0 [(15,.bool e5)] [1,2,3] [] [0] ?_ ?_
 ·refine Z0 ?_
  refine Lw 9 H6 (λH8=> ?_) λH8=> ?_
  ·refine Z0 ?_
   cases H8
   exact Eg0 [0] 0
  refine Z0 ?_
  cases H8
  exact Eg0 [0] 0
 refine Tb H7 (λa=> ?_) λa=> ?_
 ·refine Z1 ?_
  cases a
  exact Eo1 () [] []
 refine Z1 ?_
 have ⟨d,b,c⟩:=bnd a
 refine Lk [] [] (pQ b) λ⟨⟩=> ?_
 refine Z0 ?_
 cases c
 exact Eo1 () [] []
theorem sj {n_:Int} {r:(List aG)} (H:iD n_=some r):CT G 215 [.slice none 0 0,.int .i64 n_] [] [] (λh:(Option Addr×Nat)=> .slice h.1 r.length h.2) (λh=>[Ch.arr aQ 143 h.1 h.2 r]) (λh=>[]):=by
 delta iD at H
 refine Cf Go.Proofs.Tryz.func215 λK=> ?_
 refine Z3 ?_
 refine Tb H (λH2=> ?_) λH2=> ?_
 ·cases H2
 refine Z3 ?_
 have ⟨d,e,g⟩:=bnd H2
 refine Tjh (η:=(Option Addr×Nat)) (λh=>(λa b=>[(0,.slice a d.length b)]) h.1 h.2) [] (λh=>(λa b=>[Ch.arr aQ 143 a b d]) h.1 h.2) [] (λ_=>[]) ?_ ?_
 ·refine Tb e (λc=> ?_) λc=> ?_
  ·refine Z0 ?_
   refine Ly (Yl.QU rfl rfl rfl rfl rfl rfl rfl) ?_
   refine Z0 ?_
   have ⟨_,i,j⟩:=bnd c
   refine La [] [] (Ac.gz (ty:=aQ) (aG.mk 0 0 0) () i (λ_ _ f hf=>by cases hf) rfl rfl rfl rfl rfl rfl rfl rfl rfl rfl) ?_
   rintro ⟨k,l⟩
   refine Z0 ?_
   have ⟨_,m,n⟩:=bnd j
   refine La [0] [] (Ac.rso m rfl rfl rfl rfl rfl rfl rfl) λ_=> ?_
   refine Z0 ?_
   cases n
   exact Eg (k,l) trivial [0] [] 0
  refine Z0 ?_
  refine E.iS aQ 143 ?_
  cases c
  exact Eg (none,0) trivial [0] [] 0
 rintro ⟨a,b⟩
 refine Z1 ?_
 cases g
 exact Eo1 (a,b) [0] []
theorem na {slices:List (List aG)} {r:(List aG)} (H:fI slices=some r):CT G 210 [.slice A0 slices.length C0] [] [Im.sl (Ty.slice aQ) A0 C0 slices] (λh:(Option Addr×Nat)=> .slice h.1 r.length h.2) (λh=>[Ch.arr aQ 143 h.1 h.2 r]) (λh=>[]):=by
 delta fI at H
 refine Cf Go.Proofs.Tryz.func210 λK=> ?_
 refine Z3 ?_
 refine Z1 ?_
 have ⟨n,o,p⟩:=bnd H
 refine Tj0 [(3,.int .i64 n)] [0] [] [] ?_ ?_
 ·refine Yl0 ?_
  refine Tq (η:=Unit) (λf h=>[(3,.int .i64 f.2),(11,.int .i64 f.1)]) [0,9,10] (λ_ _=>[]) [] (λ_ _=>[]) () [] [] o ?_
  rintro k_ f ⟨⟩ R q s t
  refine Y2 ?_
  refine Tb q (λg=> ?_) λg=> ?_
  ·refine Z1 ?_
   refine Zl ?_
   refine Z1 ?_
   have ⟨S,i,u⟩:=bnd g
   refine L.addr 0 rfl (cJ i) λU V v=> ?_
   subst v
   refine Ly (Yl.ia i rfl rfl rfl rfl rfl rfl) ?_
   refine L.el 0 rfl (aU i).2 ?_
   rintro ⟨W,X⟩
   refine Lc 0 0 ?_
   refine Z2 ?_
   refine Tb u (λj=> ?_) λj=> ?_
   ·cases j
   refine Z0 ?_
   cases j
   exact Eg (_,()) (s _ rfl) [] [] 2
  refine Z0 ?_
  cases g
  have hb:=t _ rfl
  subst n
  exact Eg0 [] 0
 refine Z1 ?_
 have ⟨Y,w,x⟩:=bnd p
 refine Lk [] [] (sj w) λ⟨y,z⟩=> ?_
 refine Z2 ?_
 have ⟨k,A,B⟩:=bnd x
 refine Tjh (η:=(Option Addr×Nat)) (λh=>(λa b=>[(6,.slice a k.length b)]) h.1 h.2) [] (λh=>(λa b=>[Ch.arr aQ 143 a b k]) h.1 h.2) [] (λ_=>[]) ?_ ?_
 ·refine Yl0 ?_
  refine Tq (η:=(Option Addr×Nat)) (λc h=>(λd e=>[(6,.slice d c.2.length e),(27,.int .i64 c.1)]) h.1 h.2) [25,26] (λc h=>(λd e=>[Ch.arr aQ 143 d e c.2]) h.1 h.2) [] (λ_ _=>[]) (y,z) [0] [] A ?_
  rintro k_ c ⟨d,e⟩ Z C F I
  refine Y2 ?_
  refine Tb C (λl=> ?_) λl=> ?_
  ·refine Z1 ?_
   refine Zl ?_
   refine Z1 ?_
   have ⟨aa,m,J⟩:=bnd l
   refine L.addr 0 rfl (cJ m) λab ac M=> ?_
   subst M
   refine Ly (Yl.ia m rfl rfl rfl rfl rfl rfl) ?_
   refine L.el 0 rfl (aU m).2 ?_
   rintro ⟨ad,ae⟩
   refine Lc 0 0 ?_
   refine Z0 ?_
   have ⟨_,N,O⟩:=bnd J
   refine La [0] [1] (Ac.ap (ty:=aQ) N rfl rfl rfl rfl rfl rfl rfl) ?_
   rintro ⟨P,Q⟩
   refine Z0 ?_
   cases O
   exact Eg (_,(P,Q)) (F _ rfl) [0] [] 2
  refine Z0 ?_
  cases l
  have hb:=I _ rfl
  subst k
  exact Eg (d,e) trivial [0] [] 0
 rintro ⟨a,b⟩
 refine Z1 ?_
 cases B
 exact Eo1 (a,b) [0] []
theorem xz {r_:aE} {at_:Int} {n_:Int} {aM:Int} {r:aE} (H:lu r_ at_ n_ aM=some r):CT G 189 [.agg #[.slice A0 r_.cells.length C0,.bool r_.wrapped],.int .i64 at_,.int .i64 n_,.int .i64 aM] [] [Im.sl aQ A0 C0 r_.cells] (λh:(Option Addr×Nat)=> .agg #[.slice h.1 r.cells.length h.2,.bool r.wrapped]) (λh=>[]) (λh=>[Im.sl aQ h.1 h.2 r.cells]):=by
 delta lu at H
 refine Cf Go.Proofs.Tryz.func189 λK=> ?_
 refine Z1 ?_
 refine Lx λg1=> ?_
 refine Ll λg2=> ?_
 refine Z1 ?_
 have ⟨r3,h4,H5⟩:=bnd H
 refine Lk [] [0] (rm h4) λ⟨⟩=> ?_
 refine Z2 ?_
 refine Tb H5 (λa=> ?_) λa=> ?_
 ·refine Z1 ?_
  have ⟨I,b,c⟩:=bnd a
  refine Lk [] [0] (kF b) λ⟨d,e⟩=> ?_
  have ⟨J,f,g⟩:=bnd c
  refine Lk [0] [] (mF f) λ⟨⟩=> ?_
  refine Lt 0 ?_
  refine Z0 ?_
  cases g
  exact Eo (d,e) [] [0] (.cell 0 rfl rfl rfl .nil)
 refine Y1 ?_
 refine Td [] [0,0] mo ?_
 refine Dq 0 ?_
 refine Db 1 1 ?_
 refine Dq 2 ?_
 have ⟨_,i,j⟩:=bnd a
 refine D.rsl 0 3 i rfl rfl rfl rfl rfl rfl rfl rfl rfl rfl rfl rfl rfl rfl ?_
 intro k l
 refine Dq 4 ?_
 refine Dq 5 ?_
 refine Dq 7 ?_
 refine Db 8 1 ?_
 refine Dq 9 ?_
 have ⟨_,m,n⟩:=bnd j
 refine D.rsl 1 10 m rfl rfl rfl rfl rfl rfl rfl rfl rfl rfl rfl rfl rfl rfl ?_
 intro o p
 have ⟨q,s,t⟩:=bnd n
 refine Dk [] [] (pq s) λ⟨u,v⟩=> ?_
 refine D.frz 0 rfl ?_
 refine Da [] [2,0,1] rfl rfl (Ac.bs (ty:=(Ty.slice aQ)) (xs:=[(cut r_.cells 0 at_),q,(cut r_.cells at_ (r_.cells.length:Int))]) (.cons (k,l) [0] rfl (.cons (u,v) [1] rfl (.cons (o,p) [2] rfl .nil))) rfl rfl rfl rfl rfl rfl rfl) λM=> ?_
 refine D.frz 0 rfl ?_
 have ⟨N,w,x⟩:=bnd t
 refine Dk [] [0] (na w) λ⟨y,z⟩=> ?_
 refine Dq 13 ?_
 refine Dn ?_
 refine Z1 ?_
 have ⟨_,A,B⟩:=bnd x
 refine La [2] [] (Ac.rso A rfl rfl rfl rfl rfl rfl rfl) λ_=> ?_
 have ⟨O,C,F⟩:=bnd B
 refine Lk [0] [] (mF C) λ⟨⟩=> ?_
 refine Lt 0 ?_
 refine Z0 ?_
 cases F
 exact Eo (y,z) [] [0] (.cell 0 rfl rfl rfl .nil)
theorem xA {r_:aE} {at_:Int} {n_:Int} {aM:Int} {r:aE} (H:lx r_ at_ n_ aM=some r):CT G 190 [.agg #[.slice A0 r_.cells.length C0,.bool r_.wrapped],.int .i64 at_,.int .i64 n_,.int .i64 aM] [] [Im.sl aQ A0 C0 r_.cells] (λh:(Option Addr×Nat)=> .agg #[.slice h.1 r.cells.length h.2,.bool r.wrapped]) (λh=>[]) (λh=>[Im.sl aQ h.1 h.2 r.cells]):=by
 delta lx at H
 refine Cf Go.Proofs.Tryz.func190 λK=> ?_
 refine Z1 ?_
 refine Lx λg1=> ?_
 refine Ll λg2=> ?_
 refine Z1 ?_
 have ⟨r3,h4,H5⟩:=bnd H
 refine Lk [] [0] (rm h4) λ⟨⟩=> ?_
 refine Z2 ?_
 refine Tb H5 (λa=> ?_) λa=> ?_
 ·refine Z1 ?_
  have ⟨C,b,c⟩:=bnd a
  refine Lk [] [0] (kF b) λ⟨d,e⟩=> ?_
  have ⟨F,f,g⟩:=bnd c
  refine Lk [0] [] (mF f) λ⟨⟩=> ?_
  refine Lt 0 ?_
  refine Z0 ?_
  cases g
  exact Eo (d,e) [] [0] (.cell 0 rfl rfl rfl .nil)
 refine Y1 ?_
 refine Td [16] [0,0] mo ?_
 refine Dq 0 ?_
 refine Db 1 1 ?_
 refine Dq 2 ?_
 have ⟨_,i,j⟩:=bnd a
 refine D.rsl 0 3 i rfl rfl rfl rfl rfl rfl rfl rfl rfl rfl rfl rfl rfl rfl ?_
 intro k l
 refine Dq 4 ?_
 refine Db 5 1 ?_
 refine Dq 6 ?_
 refine Dq 7 ?_
 refine Dq 8 ?_
 have ⟨_,m,n⟩:=bnd j
 refine D.rsl 1 9 m rfl rfl rfl rfl rfl rfl rfl rfl rfl rfl rfl rfl rfl rfl ?_
 intro o p
 refine Dq 10 ?_
 refine Dq 11 ?_
 have ⟨q,s,t⟩:=bnd n
 refine Dk [] [] (pq s) λ⟨u,v⟩=> ?_
 refine D.frz 0 rfl ?_
 refine Da [] [2,1,0] rfl rfl (Ac.bs (ty:=(Ty.slice aQ)) (xs:=[(cut r_.cells 0 at_),(cut r_.cells (IntKind.i64.wrap (at_+r3)) (r_.cells.length:Int)),q]) (.cons (k,l) [0] rfl (.cons (o,p) [1] rfl (.cons (u,v) [2] rfl .nil))) rfl rfl rfl rfl rfl rfl rfl) λI=> ?_
 refine D.frz 0 rfl ?_
 have ⟨J,w,x⟩:=bnd t
 refine Dk [] [0] (na w) λ⟨y,z⟩=> ?_
 have ⟨M,A,B⟩:=bnd x
 refine Dk [0] [] (mF A) λ⟨⟩=> ?_
 refine Dt 0 ?_
 refine Dn ?_
 refine Z0 ?_
 cases B
 exact Eo (y,z) [] [0] (.cell 0 rfl rfl rfl .nil)
theorem rn {r_:aE} {x1:Int} {x2:aB} {x3:Int} {r:aE} (H:gU r_ x1 x2 x3=some r):CT G 188 [.agg #[.slice A0 r_.cells.length C0,.bool r_.wrapped],.pointer (some ⟨N0,0,none⟩),.pointer (some ⟨N1,0,none⟩),.pointer (some ⟨N4,0,none⟩)] [Ch.box N0 5 [.int .u8 x1],Ch.box N1 54 [.pointer (some ⟨N2,0,none⟩)],Ch.box N2 124 (cI x2 N3),Ch.box N3 169 [.int .i64 x2.g.w,.slice A1 x2.g.l.length C1],Ch.arr aC 107 A1 C1 x2.g.l,Ch.box N4 3 [.int .i64 x3]] [Im.sl aQ A0 C0 r_.cells] (λh:(Option Addr×Nat)=> .agg #[.slice h.1 r.cells.length h.2,.bool r.wrapped]) (λh=>[Ch.box N0 5 [.int .u8 x1],Ch.box N1 54 [.pointer (some ⟨N2,0,none⟩)],Ch.box N2 124 (cI x2 N3),Ch.box N3 169 [.int .i64 x2.g.w,.slice A1 x2.g.l.length C1],Ch.arr aC 107 A1 C1 x2.g.l,Ch.box N4 3 [.int .i64 x3]]) (λh=>[Im.sl aQ h.1 h.2 r.cells]):=by
 delta gU at H
 refine Cf Go.Proofs.Tryz.func188 λK=> ?_
 refine Z1 ?_
 refine Lx λg1=> ?_
 refine Ll λg2=> ?_
 refine Z2 ?_
 refine Zl ?_
 refine Z1 ?_
 refine Tb H (λa=> ?_) λa=> ?_
 ·refine Y1 ?_
  refine Td [9,10] [0,0,0,0,0,0,0,0] mo ?_
  refine Db 0 1 ?_
  refine Db 1 3 ?_
  refine Dq 2 ?_
  refine Dq 3 ?_
  refine Dq 4 ?_
  refine Db 5 4 ?_
  refine Db 6 7 ?_
  refine Db 7 3 ?_
  have ⟨z,c,d⟩:=bnd a
  refine D.one rfl rfl rfl (Dp.br (Ac.call (dI c) rfl rfl rfl rfl) (Bw.bx 4 rfl (Bw.bx 5 rfl (Bw.ch 6 rfl (Bw.nil)))) rfl rfl rfl rfl ?_)
  intro _
  have ⟨A,e,f⟩:=bnd d
  refine Dkl [] [0] (xz e) λ⟨i,j⟩=> ?_
  refine Dt 0 ?_
  refine Dn ?_
  refine Z0 ?_
  cases f
  exact Eo (i,j) [2,2,2,2,2,2] [0] (.cell 0 rfl rfl rfl .nil)
 refine Z1 ?_
 refine Tb a (λb=> ?_) λb=> ?_
 ·refine Y1 ?_
  refine Td [9,10] [0,0,0,0,0,0,0,0] mo ?_
  refine Db 0 1 ?_
  refine Db 1 3 ?_
  refine Dq 2 ?_
  refine Dq 3 ?_
  refine Dq 4 ?_
  refine Db 5 4 ?_
  refine Db 6 7 ?_
  refine Db 7 3 ?_
  have ⟨B,k,m⟩:=bnd b
  refine D.one rfl rfl rfl (Dp.br (Ac.call (dI k) rfl rfl rfl rfl) (Bw.bx 4 rfl (Bw.bx 5 rfl (Bw.ch 6 rfl (Bw.nil)))) rfl rfl rfl rfl ?_)
  intro _
  have ⟨C,n,o⟩:=bnd m
  refine Dkl [] [0] (xA n) λ⟨p,q⟩=> ?_
  refine Dt 0 ?_
  refine Dn ?_
  refine Z0 ?_
  cases o
  exact Eo (p,q) [2,2,2,2,2,2] [0] (.cell 0 rfl rfl rfl .nil)
 refine Y1 ?_
 refine Td [16] [0,0,0,0,0,0,0,0] mo ?_
 refine Db 0 1 ?_
 refine Db 1 3 ?_
 refine Dq 2 ?_
 refine Dq 3 ?_
 refine Dq 4 ?_
 refine Db 5 4 ?_
 refine Db 6 3 ?_
 refine Dq 7 ?_
 refine Dq 8 ?_
 refine Dq 9 ?_
 refine Db 10 4 ?_
 refine Db 11 7 ?_
 refine Dq 12 ?_
 refine Db 13 3 ?_
 have ⟨F,s,t⟩:=bnd b
 refine D.one rfl rfl rfl (Dp.br (Ac.call (dI s) rfl rfl rfl rfl) (Bw.bx 4 rfl (Bw.bx 5 rfl (Bw.ch 6 rfl (Bw.nil)))) rfl rfl rfl rfl ?_)
 intro _
 have ⟨I,u,v⟩:=bnd t
 refine Dk [] [0] (sB u) λ⟨x,y⟩=> ?_
 refine Dt 0 ?_
 refine Dn ?_
 refine Z0 ?_
 cases v
 exact Eo (x,y) [2,2,2,2,2,2] [0] (.cell 0 rfl rfl rfl .nil)
theorem nf {s_:aB} {f_0:Int} {f_2:Int} {r:aB} (H:eW s_ f_0 f_2=some r):CT G 145 [.pointer (some ⟨N0,0,none⟩),.func (.func 188) #[] #[.pointer (some ⟨N2,0,none⟩),.pointer (some ⟨N3,0,none⟩),.pointer (some ⟨N4,0,none⟩)]] [Ch.box N0 124 (cI s_ N1),Ch.box N1 169 [.int .i64 s_.g.w,.slice A0 s_.g.l.length C0],Ch.arr aC 107 A0 C0 s_.g.l,Ch.box N2 5 [.int .u8 f_0],Ch.box N3 54 [.pointer (some ⟨N0,0,none⟩)],Ch.box N4 3 [.int .i64 f_2]] [] (λ_:Unit=> .tuple #[]) (λh=>[Ch.box N0 124 (cI r N1),Ch.box N1 169 [.int .i64 r.g.w,.slice A0 r.g.l.length C0],Ch.arr aC 107 A0 C0 r.g.l,Ch.box N2 5 [.int .u8 f_0],Ch.box N3 54 [.pointer (some ⟨N0,0,none⟩)],Ch.box N4 3 [.int .i64 f_2]]) (λh=>[]):=by
 delta eW at H
 refine Cf Go.Proofs.Tryz.func145 λK=> ?_
 refine Td [21] [0,0,0,0,0,0] mo ?_
 refine Dq 0 ?_
 refine Dq 1 ?_
 refine Dq 2 ?_
 refine Db 3 0 ?_
 refine Dq 4 ?_
 refine Dq 5 ?_
 refine Dq 6 ?_
 refine Dq 7 ?_
 refine Db 8 0 ?_
 refine Dq 9 ?_
 refine Dq 10 ?_
 refine Dq 11 ?_
 refine Dq 12 ?_
 refine Db 13 0 ?_
 refine Dq 14 ?_
 refine Dq 15 ?_
 refine Dq 16 ?_
 refine Dq 17 ?_
 refine Db 18 0 ?_
 have ⟨i,a,b⟩:=bnd H
 refine D.one rfl rfl rfl (Dp.ab [1,1] [] [2,0,0,0,0,0] (Ac.call (l7 a) rfl rfl rfl rfl) rfl rfl rfl rfl rfl rfl (λ_=>rfl) ?_)
 rintro ⟨j,k⟩
 have ⟨m,c,d⟩:=bnd b
 refine D.one rfl rfl rfl (Dp.ab [3,3,0,0,0,0] [0] [2,2,2,0,0,0] (Ac.call (rn c) rfl rfl rfl rfl) rfl rfl rfl rfl rfl rfl (λ_=>rfl) ?_)
 rintro ⟨n,o⟩
 have ⟨p,e,f⟩:=bnd d
 refine Dkl [1,1] [0] (kG e) λ⟨⟩=> ?_
 refine Dn ?_
 refine E.off ?_
 cases f
 exact Eo () [2,0,0,0,0,0] [] .nil
theorem sK {s_:aB} {b:Int} {n_:Int} {r:aB} (H:iX s_ b n_=some r):CT G 157 [.pointer (some ⟨N0,0,none⟩),.int .u8 b,.int .i64 n_] [Ch.box N0 124 (cI s_ N1),Ch.box N1 169 [.int .i64 s_.g.w,.slice A0 s_.g.l.length C0],Ch.arr aC 107 A0 C0 s_.g.l] [] (λ_:Unit=> .tuple #[]) (λh=>[Ch.box N0 124 (cI r N1),Ch.box N1 169 [.int .i64 r.g.w,.slice A0 r.g.l.length C0],Ch.arr aC 107 A0 C0 r.g.l]) (λh=>[]):=by
 delta iX at H
 refine Cf Go.Proofs.Tryz.func157 λK=> ?_
 refine Z1 ?_
 refine Lx λg1=> ?_
 refine Lx λg2=> ?_
 refine Lx λg3=> ?_
 refine Z1 ?_
 have ⟨r4,h5,H6⟩:=bnd H
 refine Lk [3,3,3,1,1,0] [] (nf h5) λ⟨⟩=> ?_
 refine Z0 ?_
 refine Lt 0 ?_
 refine Ln (E.off ?_)
 cases H6
 exact Eo () [0,0,0] [] .nil
theorem sL {s_:aB} {b:Int} {n_:Int} {r:aB} (H:iY s_ b n_=some r):CT G 158 [.pointer (some ⟨N0,0,none⟩),.int .u8 b,.int .i64 n_] [Ch.box N0 124 (cI s_ N1),Ch.box N1 169 [.int .i64 s_.g.w,.slice A0 s_.g.l.length C0],Ch.arr aC 107 A0 C0 s_.g.l] [] (λ_:Unit=> .tuple #[]) (λh=>[Ch.box N0 124 (cI r N1),Ch.box N1 169 [.int .i64 r.g.w,.slice A0 r.g.l.length C0],Ch.arr aC 107 A0 C0 r.g.l]) (λh=>[]):=by
 delta iY at H
 refine Cf Go.Proofs.Tryz.func158 λK=> ?_
 refine Y2 ?_
 have ⟨e6,H7,H8⟩:=bnd H
 refine Tj0 [(27,.bool e6)] [0,1,2] [] [0,1,2] ?_ ?_
 ·refine Td [] [0,0,0] mo ?_
  refine Dq 0 ?_
  refine Dq 1 ?_
  refine Dq 2 ?_
  refine Dq 3 ?_
  refine Db 4 0 ?_
  refine Dq 5 ?_
  refine Dq 6 ?_
  refine Dq 7 ?_
  refine Db 8 0 ?_
  refine Dq 9 ?_
  refine Dq 10 ?_
  refine D.cs 16 H7 rfl (λhc a=> ?_) (λhc a=> ?_)
  ·refine Ds 11 ?_
   refine Ds 12 ?_
   refine Ds 13 ?_
   refine Ds 14 ?_
   refine Ds 15 ?_
   refine Ds 16 ?_
   refine Ds 17 ?_
   refine Ds 18 ?_
   refine Ds 19 ?_
   refine Ds 20 ?_
   refine Dq 21 ?_
   refine Dn ?_
   cases a
   exact Eg0 [0,0,0] 0
  refine Dq 11 ?_
  refine Dq 12 ?_
  refine Dq 13 ?_
  refine Dq 14 ?_
  refine Db 15 0 ?_
  refine Dq 16 ?_
  refine Dq 17 ?_
  refine Dq 18 ?_
  refine Db 19 0 ?_
  refine Dq 20 ?_
  refine Dq 21 ?_
  refine Dn ?_
  cases a
  exact Eg0 [0,0,0] 0
 refine Tb H8 (λc=> ?_) λc=> ?_
 ·refine Z0 ?_
  cases c
  exact Eo () [0,0,0] [] .nil
 refine Z2 ?_
 have ⟨d,f,i⟩:=bnd c
 refine Tj0 [] [0] [Ch.arr aC 107 A0 C0 d.l,Ch.box N1 169 [.int .i64 d.w,.slice A0 d.l.length C0]] [0] ?_ ?_
 ·refine Tb f (λe=> ?_) λe=> ?_
  ·refine Td [16] [0,0,0] mo ?_
   refine Dq 0 ?_
   refine Dq 1 ?_
   refine Dq 2 ?_
   refine Db 3 0 ?_
   refine Dq 4 ?_
   refine Dq 5 ?_
   refine Dq 6 ?_
   refine Dq 7 ?_
   refine Db 8 0 ?_
   refine Dq 9 ?_
   refine Dq 10 ?_
   refine Dq 11 ?_
   refine Db 12 0 ?_
   refine Dq 13 ?_
   refine Dq 14 ?_
   have ⟨v,j,k⟩:=bnd e
   refine D.one rfl rfl rfl (Dp.br (Ac.call (dI j) rfl rfl rfl rfl) (Bw.bx 0 rfl (Bw.bx 1 rfl (Bw.ch 2 rfl (Bw.nil)))) rfl rfl rfl rfl ?_)
   intro _
   have ⟨x,m,n⟩:=bnd k
   refine Dkl [1,1] [] (oz m) λ⟨y,z⟩=> ?_
   refine Dn ?_
   cases n
   exact Eg0 [2,1,1] 0
  refine Td [16] [0,0,0] mo ?_
  refine Dq 0 ?_
  refine Dq 1 ?_
  refine Dq 2 ?_
  refine Db 3 0 ?_
  refine Dq 4 ?_
  refine Dq 5 ?_
  refine Dq 6 ?_
  refine Dq 7 ?_
  refine Db 8 0 ?_
  refine Dq 9 ?_
  refine Dq 10 ?_
  refine Dq 11 ?_
  refine Db 12 0 ?_
  refine Dq 13 ?_
  refine Dq 14 ?_
  have ⟨A,o,p⟩:=bnd e
  refine D.one rfl rfl rfl (Dp.br (Ac.call (dI o) rfl rfl rfl rfl) (Bw.bx 0 rfl (Bw.bx 1 rfl (Bw.ch 2 rfl (Bw.nil)))) rfl rfl rfl rfl ?_)
  intro _
  have ⟨B,q,s⟩:=bnd p
  refine Dkl [1,1] [] (tG q) λ⟨C,F⟩=> ?_
  refine Dn ?_
  cases s
  exact Eg0 [2,1,1] 0
 refine Z0 ?_
 have ⟨I,t,u⟩:=bnd i
 refine Lk [2,1,0] [] (bZ t) λ⟨⟩=> ?_
 refine Ln (E.off ?_)
 cases u
 exact Eo () [0,0,0] [] .nil
theorem Ca {l:List Int} {r:Int} (H:nJ l=some r):CT G 195 [.slice A0 l.length C0] [] [Im.sl (Ty.int .i64) A0 C0 l] (λ_:Unit=> .int .i64 r) (λh=>[]) (λh=>[]):=by
 delta nJ at H
 refine Cf Go.Proofs.Tryz.func195 λK=> ?_
 refine Z2 ?_
 refine Zl ?_
 refine Y1 ?_
 have ⟨g,i,j⟩:=bnd H
 refine Tj0 [(3,.bool g)] [0] [] [] ?_ ?_
 ·refine Z0 ?_
  refine Lw 7 i (λa=> ?_) λa=> ?_
  ·refine Z0 ?_
   have ⟨t,b,k⟩:=bnd a
   refine L.addr 0 rfl (cJ b) λu v m=> ?_
   subst m
   refine Ly (Yl.ia b rfl rfl rfl rfl rfl rfl) ?_
   refine L.el 0 rfl (aU b).2 ?_
   rintro _
   refine Lc 0 0 ?_
   refine Z0 ?_
   cases k
   exact Eg0 [] 1
  refine Z0 ?_
  cases a
  exact Eg0 [] 0
 refine Tb j (λc=> ?_) λc=> ?_
 ·refine Z1 ?_
  cases c
  exact Eo1 () [] []
 refine Y1 ?_
 have ⟨n,o,p⟩:=bnd c
 refine Tj0 [(16,.bool n)] [0] [] [] ?_ ?_
 ·refine Z0 ?_
  refine Lw 20 o (λd=> ?_) λd=> ?_
  ·refine Z0 ?_
   have ⟨w,e,q⟩:=bnd d
   refine L.addr 0 rfl (cJ e) λx y s=> ?_
   subst s
   refine Ly (Yl.ia e rfl rfl rfl rfl rfl rfl) ?_
   refine L.el 0 rfl (aU e).2 ?_
   rintro _
   refine Lc 0 0 ?_
   refine Z0 ?_
   cases q
   exact Eg0 [] 1
  refine Z0 ?_
  cases d
  exact Eg0 [] 0
 refine Tb p (λf=> ?_) λf=> ?_
 ·refine Z1 ?_
  cases f
  exact Eo1 () [] []
 refine Z1 ?_
 cases f
 exact Eo1 () [] []
theorem wF {s_:bE} {n_:Int} {r:bE} (H:kQ s_ n_=some r):CT G 196 [.agg (uQ s_).toArray,.int .i64 n_] [] [] (λ_:Unit=> .agg (uQ r).toArray) (λh=>[]) (λh=>[]):=by
 delta kQ at H
 refine Cf Go.Proofs.Tryz.func196 λK=> ?_
 refine Z1 ?_
 refine Lx λg1=> ?_
 refine Ll λg2=> ?_
 refine Y1 ?_
 have ⟨o,s,p⟩:=bnd H
 refine Tj (η:=bE×Unit) (λh=>o = .inl h.1) (λ_=>[]) [2,4] (λh=>(λq=>[Ch.box g1 120 (uQ q)]) h.1) [0] (λ_=>[]) ?_ ?_
 ·refine Zl ?_
  refine Z1 ?_
  refine Tb s (λa=> ?_) λa=> ?_
  ·refine Z1 ?_
   refine Lt 0 ?_
   refine Z0 ?_
   obtain ⟨P,hz,t⟩:=eC a
   subst o
   obtain rfl:=(sm p).symm
   refine Z0 ?_
   cases t
   exact Eo () [] [] (.cell 0 rfl rfl rfl .nil)
  refine Y1 ?_
  have ⟨u,v,w⟩:=bnd a
  refine Tj0 [(9,.bool u)] [1,2,4] [] [0,1] ?_ ?_
  ·refine Z0 ?_
   refine Lw 12 v (λb=> ?_) λb=> ?_
   ·refine Z0 ?_
    cases b
    exact Eg0 [0,0] 0
   refine Z0 ?_
   cases b
   exact Eg0 [0,0] 0
  refine Tb w (λc=> ?_) λc=> ?_
  ·refine Z0 ?_
   refine Lt 1 ?_
   refine Z0 ?_
   cases c
   exact Eg (_,()) rfl [0,0] [] 0
  refine Y1 ?_
  have ⟨x,y,z⟩:=bnd c
  refine Tj0 [(19,.bool x)] [1,2,4] [] [0,1] ?_ ?_
  ·refine Z0 ?_
   refine Lw 22 y (λd=> ?_) λd=> ?_
   ·refine Z0 ?_
    cases d
    exact Eg0 [0,0] 0
   refine Z0 ?_
   cases d
   exact Eg0 [0,0] 0
  refine Tb z (λe=> ?_) λe=> ?_
  ·refine Z0 ?_
   refine Lt 1 ?_
   refine Z0 ?_
   cases e
   exact Eg (_,()) rfl [0,0] [] 0
  refine Y1 ?_
  have ⟨A,B,C⟩:=bnd e
  refine Tj0 [(29,.bool A)] [1,2,4] [] [0,1] ?_ ?_
  ·refine Z0 ?_
   refine Lw 32 B (λf=> ?_) λf=> ?_
   ·refine Z0 ?_
    cases f
    exact Eg0 [0,0] 0
   refine Z0 ?_
   cases f
   exact Eg0 [0,0] 0
  refine Tb C (λg=> ?_) λg=> ?_
  ·refine Z0 ?_
   refine Lt 1 ?_
   refine Z0 ?_
   cases g
   exact Eg (_,()) rfl [0,0] [] 0
  refine Y1 ?_
  have ⟨F,I,J⟩:=bnd g
  refine Tj0 [(39,.bool F)] [1,2,4] [] [0,1] ?_ ?_
  ·refine Z0 ?_
   refine Lw 42 I (λi=> ?_) λi=> ?_
   ·refine Z0 ?_
    cases i
    exact Eg0 [0,0] 0
   refine Z0 ?_
   cases i
   exact Eg0 [0,0] 0
  refine Tb J (λj=> ?_) λj=> ?_
  ·refine Z0 ?_
   refine Lt 1 ?_
   refine Z0 ?_
   cases j
   exact Eg (_,()) rfl [0,0] [] 0
  refine Z1 ?_
  refine Tb j (λk=> ?_) λk=> ?_
  ·refine Z0 ?_
   refine Lt 1 ?_
   refine Z0 ?_
   cases k
   exact Eg (_,()) rfl [0,0] [] 0
  refine Y1 ?_
  have ⟨M,N,O⟩:=bnd k
  refine Tj0 [(54,.bool M)] [1,2,4] [] [0,1] ?_ ?_
  ·refine Z0 ?_
   refine Lw 57 N (λl=> ?_) λl=> ?_
   ·refine Z0 ?_
    cases l
    exact Eg0 [0,0] 0
   refine Z0 ?_
   cases l
   exact Eg0 [0,0] 0
  refine Tb O (λm=> ?_) λm=> ?_
  ·refine Z0 ?_
   refine Lt 1 ?_
   refine Z0 ?_
   cases m
   exact Eg (_,()) rfl [0,0] [] 0
  refine Z1 ?_
  refine Tb m (λn=> ?_) λn=> ?_
  ·refine Z0 ?_
   refine Lt 1 ?_
   refine Z0 ?_
   cases n
   exact Eg (_,()) rfl [0,0] [] 0
  refine Z0 ?_
  cases n
  exact Eg (_,()) rfl [1,0] [] 0
 rintro ⟨q,⟨⟩⟩ hy
 subst hy
 refine Z1 ?_
 refine Lt 1 ?_
 refine Z0 ?_
 cases p
 exact Eo () [] [] (.cell 0 rfl rfl rfl .nil)
theorem wG {s_:bE} {bJ:List Int} {r:bE} (H:kR s_ bJ=some r):CT G 161 [.agg (uQ s_).toArray,.slice A0 bJ.length C0] [] [Im.sl (Ty.int .i64) A0 C0 bJ] (λ_:Unit=> .agg (uQ r).toArray) (λh=>[]) (λh=>[]):=by
 delta kR at H
 refine Cf Go.Proofs.Tryz.func161 λK=> ?_
 refine Z1 ?_
 refine Lx λg1=> ?_
 refine Ll λg2=> ?_
 refine Z2 ?_
 refine Tb H (λH4=> ?_) λH4=> ?_
 ·refine Z1 ?_
  refine Lt 0 ?_
  refine Z0 ?_
  cases H4
  exact Eo () [] [] (.cell 0 rfl rfl rfl .nil)
 refine Z2 ?_
 have ⟨f,j,k⟩:=bnd H4
 refine Tj0 [] [2,4] [Ch.box g1 120 (uQ f)] [0] ?_ ?_
 ·refine Yl0 ?_
  refine Tq (η:=Unit) (λa h=>[(5,.int .i64 a.2)]) [1,2,4] (λa h=>[Ch.box g1 120 (uQ a.1)]) [0] (λ_ _=>[]) () [1,0] [] j ?_
  rintro k_ a ⟨⟩ F l m n
  refine Z2 ?_
  refine Tb l (λb=> ?_) λb=> ?_
  ·refine Y1 ?_
   have ⟨g,o,p⟩:=bnd b
   refine Tj0 [(5,.int .i64 g.1)] [1,2,4] [Ch.box g1 120 (uQ g.2)] [1] ?_ ?_
   ·refine Zl ?_
    refine Z2 ?_
    have ⟨I,c,q⟩:=bnd o
    refine L.addr 0 rfl (cJ c) λJ M s=> ?_
    subst s
    refine Ly (Yl.ia c rfl rfl rfl rfl rfl rfl) ?_
    refine L.el 0 rfl (aU c).2 ?_
    rintro _
    refine Lc 0 0 ?_
    refine Y1 ?_
    have ⟨t,u,v⟩:=bnd q
    refine Tj0 [(26,.bool t)] [1,2,4,5] [] [0,1] ?_ ?_
    ·refine Z0 ?_
     refine Lw 23 u (λd=> ?_) λd=> ?_
     ·refine Z0 ?_
      cases d
      exact Eg0 [0,0] 0
     refine Z0 ?_
     cases d
     exact Eg0 [0,0] 0
    refine Tb v (λe=> ?_) λe=> ?_
    ·refine Z1 ?_
     have ⟨_,w,x⟩:=bnd e
     refine L.rs 1 w rfl rfl rfl rfl rfl rfl rfl rfl rfl rfl rfl rfl ?_
     intro N O
     have ⟨P,y,z⟩:=bnd x
     refine Lk [] [0] (Ca y) λ⟨⟩=> ?_
     refine Z0 ?_
     cases z
     exact Eg0 [0,0] 2
    refine Z0 ?_
    refine Td [6] [0,0] mo ?_
    refine Db 0 0 ?_
    refine Dq 1 ?_
    refine Dq 2 ?_
    have ⟨Q,i,A⟩:=bnd e
    refine Dy 3 (Yl.ia i rfl rfl rfl rfl rfl rfl) ?_
    refine D.el 1 rfl (aU i).2 ?_
    rintro _
    refine Dy 4 (Yl.ldc 0 0 rfl rfl rfl rfl) ?_
    have ⟨R,B,C⟩:=bnd A
    refine Dk [] [] (wF B) λ⟨⟩=> ?_
    refine Dt 0 ?_
    refine Dn ?_
    refine Z0 ?_
    cases C
    exact Eg0 [0,0] 2
   refine Z0 ?_
   cases p
   exact Eg (_,()) (m _ rfl) [0,0] [] 0
  refine Z0 ?_
  cases b
  have hb:=n _ rfl
  subst f
  exact Eg0 [0,0] 0
 refine Z1 ?_
 refine Lt 1 ?_
 refine Z0 ?_
 cases k
 exact Eo () [] [] (.cell 0 rfl rfl rfl .nil)
theorem sn {s_:aB} {a:aZ} {r:aB} (H:iH s_ a=some r):CT G 162 [.pointer (some ⟨N0,0,none⟩),.agg (z4 a A1 C1).toArray] [Ch.box N0 124 (cI s_ N1),Ch.box N1 169 [.int .i64 s_.g.w,.slice A0 s_.g.l.length C0],Ch.arr aC 107 A0 C0 s_.g.l] [Im.sl (Ty.int .i64) A1 C1 a.bJ] (λ_:Unit=> .tuple #[]) (λh=>[Ch.box N0 124 (cI r N1),Ch.box N1 169 [.int .i64 r.g.w,.slice A0 r.g.l.length C0],Ch.arr aC 107 A0 C0 r.g.l]) (λh=>[]):=by
 delta iH at H
 refine Cf Go.Proofs.Tryz.func162 λK=> ?_
 refine Z1 ?_
 refine Lx λg1=> ?_
 refine Z1 ?_
 have ⟨r2,h3,H4⟩:=bnd H
 refine Lk [2,2] [] (gX h3) λ⟨⟩=> ?_
 refine Y1 ?_
 refine Td [9] [0,0,0,0] mo ?_
 refine Db 0 2 ?_
 refine Dq 2 ?_
 refine Db 5 2 ?_
 refine Dq 6 ?_
 refine Dq 8 ?_
 have ⟨p,c,d⟩:=bnd H4
 refine Dk [] [0] (mH c) λ⟨⟩=> ?_
 have ⟨q,e,f⟩:=bnd d
 refine Dk [] [] (mg e) λ⟨⟩=> ?_
 refine Dq 4 ?_
 have ⟨s,i,j⟩:=bnd f
 refine Dk [] [0] (mH i) λ⟨⟩=> ?_
 have ⟨t,k,m⟩:=bnd j
 refine Dkl [] [] (mg k) λ⟨⟩=> ?_
 refine Dq 10 ?_
 refine Dq 11 ?_
 refine Dq 12 ?_
 refine Dn ?_
 refine Z1 ?_
 refine Tb m (λb=> ?_) λb=> ?_
 ·refine Z1 ?_
  refine Lt 3 ?_
  refine Z0 ?_
  refine Lt 0 ?_
  refine Z0 ?_
  have ⟨u,n,o⟩:=bnd b
  refine Lk [0,0,0] [] (bZ n) λ⟨⟩=> ?_
  refine Ln (E.off ?_)
  cases o
  exact Eo () [0,0,0] [] .nil
 refine Tk (E.off ?_)
 cases b
 exact Eo () [3,0,0] [] .nil
theorem sM {s_:aB} {a:aZ} {r:(List aE)×aB} (H:iZ s_ a=some r):CT G 106 [.pointer (some ⟨N0,0,none⟩),.agg (z4 a A1 C1).toArray] [Ch.box N0 124 (cI s_ N1),Ch.box N1 169 [.int .i64 s_.g.w,.slice A0 s_.g.l.length C0],Ch.arr aC 107 A0 C0 s_.g.l] [Im.sl (Ty.int .i64) A1 C1 a.bJ] (λh:(Option Addr×Nat)=> .slice h.1 r.1.length h.2) (λh=>[Ch.arr aC 107 h.1 h.2 r.1,Ch.box N0 124 (cI r.2 N1),Ch.box N1 169 [.int .i64 r.2.g.w,.slice A0 r.2.g.l.length C0],Ch.arr aC 107 A0 C0 r.2.g.l]) (λh=>[]):=by
 delta iZ at H
 refine Cf Go.Proofs.Tryz.func106 λK=> ?_
 refine Z1 ?_
 refine Lx λg1=> ?_
 refine Z1 ?_
 have ⟨r2,h3,H4⟩:=bnd H
 refine Lk [] [0] (mH h3) λ⟨⟩=> ?_
 refine Z2 ?_
 have ⟨I,M,J⟩:=bnd H4
 refine Tj (η:=(aB×aX)×Unit) (λh=>I = .inl h.1) (λ_=>[]) [0,3] (λh=>(λb=>[Ch.arr aC 107 A0 C0 b.2.l,Ch.box N0 124 (cI b.1 N1),Ch.box N1 169 [.int .i64 b.2.w,.slice A0 b.2.l.length C0]]) h.1) [0] (λ_=>[]) ?_ ?_
 ·refine Zl ?_
  refine Z2 ?_
  have ⟨N,O,P⟩:=bnd M
  refine Tj0 [(10,.bool N)] [0,3,5,9] [] [0,1,2,3] ?_ ?_
  ·refine Tb O (λc=> ?_) λc=> ?_
   ·refine Z0 ?_
    cases c
    exact Eg0 [0,0,0,0] 0
   refine Z0 ?_
   cases c
   exact Eg0 [0,0,0,0] 0
  refine Tb P (λd=> ?_) λd=> ?_
  ·refine Z0 ?_
   have ⟨bq,Q,R⟩:=bnd d
   refine Lk [1,1,1] [] (oh Q) λ⟨⟩=> ?_
   refine Z0 ?_
   cases R
   exact Eg (_,()) rfl [2,0,0,0] [] 0
  refine Z2 ?_
  have ⟨S,U,V⟩:=bnd d
  refine Tj0 [(17,.bool S)] [0,3,5,9] [] [0,1,2,3] ?_ ?_
  ·refine Tb U (λe=> ?_) λe=> ?_
   ·refine Z0 ?_
    cases e
    exact Eg0 [0,0,0,0] 0
   refine Z0 ?_
   cases e
   exact Eg0 [0,0,0,0] 0
  refine Tb V (λf=> ?_) λf=> ?_
  ·refine Z0 ?_
   have ⟨bs,W,X⟩:=bnd f
   refine Lk [1,1,1] [] (oh W) λ⟨⟩=> ?_
   refine Z0 ?_
   cases X
   exact Eg (_,()) rfl [2,0,0,0] [] 0
  refine Z1 ?_
  refine Tb f (λi=> ?_) λi=> ?_
  ·refine Td [13] [0,0,0,0] mo ?_
   refine Dq 0 ?_
   refine Dq 1 ?_
   refine Dq 2 ?_
   refine Dq 3 ?_
   refine Dq 4 ?_
   refine Db 5 1 ?_
   refine Dq 6 ?_
   refine Dq 7 ?_
   refine Dq 8 ?_
   refine Dq 9 ?_
   refine Dq 10 ?_
   refine Dq 11 ?_
   refine Db 12 1 ?_
   have ⟨bt,Y,Z⟩:=bnd i
   refine Dkl [1,1,1] [] (bZ Y) λ⟨⟩=> ?_
   refine Dn ?_
   refine Z0 ?_
   cases Z
   exact Eg (_,()) rfl [2,0,0,0] [] 0
  refine Z1 ?_
  refine Tb i (λj=> ?_) λj=> ?_
  ·refine Td [13] [0,0,0,0] mo ?_
   refine Dq 0 ?_
   refine Dq 1 ?_
   refine Dq 2 ?_
   refine Dq 3 ?_
   refine Dq 4 ?_
   refine Db 5 1 ?_
   refine Dq 6 ?_
   refine Dq 7 ?_
   refine Dq 8 ?_
   refine Dq 9 ?_
   refine Dq 10 ?_
   refine Dq 11 ?_
   refine Db 12 1 ?_
   have ⟨bu,aa,ab⟩:=bnd j
   refine Dkl [1,1,1] [] (bZ aa) λ⟨⟩=> ?_
   refine Dn ?_
   refine Z0 ?_
   cases ab
   exact Eg (_,()) rfl [2,0,0,0] [] 0
  refine Z1 ?_
  refine Tb j (λk=> ?_) λk=> ?_
  ·refine Z0 ?_
   have ⟨bv,ac,ad⟩:=bnd k
   refine Lk [1,1,1] [] (bZ ac) λ⟨⟩=> ?_
   refine Z0 ?_
   cases ad
   exact Eg (_,()) rfl [2,0,0,0] [] 0
  refine Z1 ?_
  refine Tb k (λm=> ?_) λm=> ?_
  ·refine Z0 ?_
   have ⟨bw,ae,af⟩:=bnd m
   refine Lk [1,1,1] [] (bZ ae) λ⟨⟩=> ?_
   refine Z0 ?_
   cases af
   exact Eg (_,()) rfl [2,0,0,0] [] 0
  refine Z2 ?_
  have ⟨ag,ah,ai⟩:=bnd m
  refine Tj0 [(77,.bool ag)] [0,3,5,9] [] [0,1,2,3] ?_ ?_
  ·refine Tb ah (λn=> ?_) λn=> ?_
   ·refine Z0 ?_
    cases n
    exact Eg0 [0,0,0,0] 0
   refine Z0 ?_
   cases n
   exact Eg0 [0,0,0,0] 0
  refine Tb ai (λo=> ?_) λo=> ?_
  ·refine Z0 ?_
   have ⟨bz,aj,ak⟩:=bnd o
   refine Lk [] [0] (mH aj) λ⟨⟩=> ?_
   refine Z0 ?_
   have ⟨b0,al,am⟩:=bnd ak
   refine Lk [1,1,1] [] (bZ al) λ⟨⟩=> ?_
   refine Z0 ?_
   cases am
   exact Eg (_,()) rfl [2,0,0,0] [] 0
  refine Z1 ?_
  refine Tb o (λp=> ?_) λp=> ?_
  ·refine Z0 ?_
   have ⟨b1,an,ao⟩:=bnd p
   refine Lk [] [0] (mH an) λ⟨⟩=> ?_
   have ⟨b2,ap,aq⟩:=bnd ao
   refine Lk [1,1,1] [] (tI ap) λ⟨⟩=> ?_
   refine Z0 ?_
   cases aq
   exact Eg (_,()) rfl [2,0,0,0] [] 0
  refine Z1 ?_
  refine Tb p (λq=> ?_) λq=> ?_
  ·refine Z0 ?_
   have ⟨b3,ar,au⟩:=bnd q
   refine Lk [] [0] (mH ar) λ⟨⟩=> ?_
   have ⟨b4,av,aw⟩:=bnd au
   refine Lk [1,1,1] [] (oR av) λ⟨⟩=> ?_
   refine Z0 ?_
   cases aw
   exact Eg (_,()) rfl [2,0,0,0] [] 0
  refine Z2 ?_
  have ⟨ax,ay,az⟩:=bnd q
  refine Tj0 [(99,.bool ax)] [0,3,5,9] [] [0,1,2,3] ?_ ?_
  ·refine Tb ay (λs=> ?_) λs=> ?_
   ·refine Z0 ?_
    cases s
    exact Eg0 [0,0,0,0] 0
   refine Z1 ?_
   refine Tb s (λt=> ?_) λt=> ?_
   ·refine Z0 ?_
    cases t
    exact Eg0 [0,0,0,0] 0
   refine Z0 ?_
   cases t
   exact Eg0 [0,0,0,0] 0
  refine Tb az (λu=> ?_) λu=> ?_
  ·refine Z0 ?_
   have ⟨b5,a0,a1⟩:=bnd u
   refine Lk [1,1,1] [] (sK a0) λ⟨⟩=> ?_
   refine Z0 ?_
   cases a1
   exact Eg (_,()) rfl [2,0,0,0] [] 0
  refine Z2 ?_
  have ⟨a2,a3,a4⟩:=bnd u
  refine Tj0 [(108,.bool a2)] [0,3,5,9] [] [0,1,2,3] ?_ ?_
  ·refine Tb a3 (λv=> ?_) λv=> ?_
   ·refine Z0 ?_
    cases v
    exact Eg0 [0,0,0,0] 0
   refine Z0 ?_
   cases v
   exact Eg0 [0,0,0,0] 0
  refine Tb a4 (λx=> ?_) λx=> ?_
  ·refine Z0 ?_
   have ⟨b6,a5,a6⟩:=bnd x
   refine Lk [1,1,1] [] (sL a5) λ⟨⟩=> ?_
   refine Z0 ?_
   cases a6
   exact Eg (_,()) rfl [2,0,0,0] [] 0
  refine Z1 ?_
  refine Tb x (λy=> ?_) λy=> ?_
  ·refine Z1 ?_
   refine Lt 1 ?_
   refine Z1 ?_
   have ⟨b7,a7,a8⟩:=bnd y
   refine Lk [0,1,1] [] (pS a7) λ⟨a9,ba⟩=> ?_
   refine Z0 ?_
   obtain ⟨b8,hz,bb⟩:=eC a8
   subst I
   obtain rfl:=(sm J).symm
   refine Z0 ?_
   cases bb
   exact Eo1 (a9,ba) [0,0,0,0] []
  refine Z1 ?_
  refine Tb y (λz=> ?_) λz=> ?_
  ·refine Z1 ?_
   refine Lt 1 ?_
   refine Z0 ?_
   refine Td [15] [0,0,0,0] mo ?_
   refine Dq 0 ?_
   refine Dq 1 ?_
   refine Dq 2 ?_
   refine Db 3 0 ?_
   refine Dq 4 ?_
   refine Dq 5 ?_
   refine Dq 6 ?_
   refine Db 7 0 ?_
   refine Dq 8 ?_
   refine Dq 9 ?_
   refine Dq 10 ?_
   refine Db 11 0 ?_
   refine Dq 12 ?_
   refine Dq 13 ?_
   have ⟨b9,bc,bd⟩:=bnd z
   refine D.one rfl rfl rfl (Dp.br (Ac.call (dI bc) rfl rfl rfl rfl) (Bw.bx 0 rfl (Bw.bx 2 rfl (Bw.ch 3 rfl (Bw.nil)))) rfl rfl rfl rfl ?_)
   intro _
   have ⟨ca,be,bf⟩:=bnd bd
   refine Dkl [2,2] [] (oz be) λ⟨cb,cc⟩=> ?_
   refine Dn ?_
   refine Z0 ?_
   cases bf
   exact Eg (_,()) rfl [2,2,1,1] [] 0
  refine Z1 ?_
  refine Tb z (λA=> ?_) λA=> ?_
  ·refine Td [8,12] [0,0,0,0] mo ?_
   refine Dq 0 ?_
   refine Dq 1 ?_
   refine Dq 2 ?_
   refine Dq 3 ?_
   refine Dq 4 ?_
   refine Db 5 1 ?_
   refine Dq 6 ?_
   refine Db 7 0 ?_
   have ⟨cd,bg,bh⟩:=bnd A
   refine Dkl [] [0] (wG bg) λ⟨⟩=> ?_
   refine Dq 9 ?_
   refine Dq 10 ?_
   refine Dq 11 ?_
   refine Dt 1 ?_
   refine Dn ?_
   refine Z0 ?_
   cases bh
   exact Eg (_,()) rfl [3,0,1,0] [] 0
  refine Z1 ?_
  refine Tb A (λB=> ?_) λB=> ?_
  ·refine Z0 ?_
   have ⟨ce,bi,bj⟩:=bnd B
   refine Lk [1,1,1] [0] (sn bi) λ⟨⟩=> ?_
   refine Z0 ?_
   cases bj
   exact Eg (_,()) rfl [2,0,0,0] [] 0
  refine Z0 ?_
  cases B
  exact Eg (_,()) rfl [3,1,1,0] [] 0
 rintro ⟨b,⟨⟩⟩ hy
 subst hy
 refine Y2 ?_
 have ⟨bk,bl,bm⟩:=bnd J
 refine Tj0 [(171,.bool bk)] [0] [] [1,2,3,0] ?_ ?_
 ·refine Z0 ?_
  refine Lw 167 bl (λC=> ?_) λC=> ?_
  ·refine Z0 ?_
   cases C
   exact Eg0 [1,1,1,0] 0
  refine Z0 ?_
  cases C
  exact Eg0 [1,1,1,0] 0
 have ⟨bn,bo,bp⟩:=bnd bm
 refine Tj0 [] [] [Ch.box N0 124 (cI bn N1)] [1,2,3] ?_ ?_
 ·refine Tb bo (λF=> ?_) λF=> ?_
  ·refine Z0 ?_
   refine Lt 0 ?_
   refine Z0 ?_
   cases F
   exact Eg0 [0,0,0,0] 0
  refine Z0 ?_
  cases F
  exact Eg0 [0,0,0,0] 0
 refine Z1 ?_
 refine E.iS aC 107 ?_
 cases bp
 exact Eo1 (none,0) [0,0,0,1] []
theorem vo {s_:aB} {a:aZ} {r:(List aE)×aB} (H:gP s_ a=some r):CT G 67 [.pointer (some ⟨N0,0,none⟩),.agg (z4 a A1 C1).toArray] [Ch.box N0 124 (cI s_ N1),Ch.box N1 169 [.int .i64 s_.g.w,.slice A0 s_.g.l.length C0],Ch.arr aC 107 A0 C0 s_.g.l] [Im.sl (Ty.int .i64) A1 C1 a.bJ,Im.sl cL (some ⟨0,0,none⟩) 13 dC,Im.sl cL (some ⟨1,0,none⟩) 14 dK] (λh:(Option Addr×Nat)×Nat×(Option Addr×Nat)=> .slice h.1.1 r.1.length h.1.2) (λh=>[Ch.arr aC 107 h.1.1 h.1.2 r.1,Ch.box N0 124 (cI r.2 h.2.1),Ch.box h.2.1 169 [.int .i64 r.2.g.w,.slice h.2.2.1 r.2.g.l.length h.2.2.2],Ch.arr aC 107 h.2.2.1 h.2.2.2 r.2.g.l]) (λh=>[]):=by
 delta gP at H
 refine Cf Go.Proofs.Tryz.func67 λK=> ?_
 refine Z1 ?_
 refine Lx λg1=> ?_
 refine Z2 ?_
 have ⟨b,q,c⟩:=bnd H
 refine Tj (η:=aB×Unit) (λh=>b = .inl h.1) (λ_=>[]) [] (λh=>(λp=>[Ch.box N0 124 (cI p N1)]) h.1) [0,2,3] (λ_=>[]) ?_ ?_
 ·refine Zl ?_
  refine Z1 ?_
  refine Tb q (λd=> ?_) λd=> ?_
  ·refine Z1 ?_
   have ⟨ac,s,t⟩:=bnd d
   refine Lk [1,1,1] [1,2] (sJ s) λ⟨u,v⟩=> ?_
   refine Z0 ?_
   obtain ⟨ad,hz,x⟩:=eC t
   subst b
   obtain rfl:=(sm c).symm
   refine Z0 ?_
   cases x
   exact Eo1 ((u,v),N1,(A0,C0)) [0,0,0,0] []
  refine Z1 ?_
  refine Tb d (λe=> ?_) λe=> ?_
  ·refine Z1 ?_
   have ⟨ae,y,z⟩:=bnd e
   refine Lk [1,1,1] [] (rk y) λ⟨A,B⟩=> ?_
   refine Z0 ?_
   obtain ⟨af,hz,C⟩:=eC z
   subst b
   obtain rfl:=(sm c).symm
   refine Z0 ?_
   cases C
   exact Eo1 ((A,B),N1,(A0,C0)) [0,0,0,0] []
  refine Z1 ?_
  refine Tb e (λf=> ?_) λf=> ?_
  ·refine Z1 ?_
   have ⟨ag,F,I⟩:=bnd f
   refine Lk [1,1,1] [] (sg F) λ⟨⟨J,M⟩,N,⟨O,P⟩⟩=> ?_
   refine Z0 ?_
   obtain ⟨ah,hz,Q⟩:=eC I
   subst b
   obtain rfl:=(sm c).symm
   refine Z0 ?_
   cases Q
   exact Eo1 ((J,M),N,(O,P)) [0,0,0,0] []
  refine Z1 ?_
  refine Tb f (λi=> ?_) λi=> ?_
  ·refine Z0 ?_
   refine Lt 1 ?_
   refine Z0 ?_
   cases i
   exact Eg (_,()) rfl [0,0,0,0] [] 0
  refine Z1 ?_
  refine Tb i (λj=> ?_) λj=> ?_
  ·refine Z2 ?_
   refine Tb j (λk=> ?_) λk=> ?_
   ·refine Z1 ?_
    have ⟨ai,R,S⟩:=bnd k
    refine Lk [1,1,1] [0] (sM R) λ⟨U,V⟩=> ?_
    refine Z0 ?_
    obtain ⟨aj,hz,W⟩:=eC S
    subst b
    obtain rfl:=(sm c).symm
    refine Z0 ?_
    cases W
    exact Eo1 ((U,V),N1,(A0,C0)) [0,0,0,0] []
   refine Y1 ?_
   have ⟨X,Y,Z⟩:=bnd k
   refine Tj0 [(52,.bool X)] [0,3] [] [0,1,2,3] ?_ ?_
   ·refine Z0 ?_
    have ⟨ak,aa,ab⟩:=bnd Y
    refine Lk [] [0] (mH aa) λ⟨⟩=> ?_
    refine Z0 ?_
    refine Lw 43 ab (λm=> ?_) λm=> ?_
    ·refine Z0 ?_
     refine Lw 47 m (λn=> ?_) λn=> ?_
     ·refine Z0 ?_
      cases n
      exact Eg0 [0,0,0,0] 0
     refine Z0 ?_
     cases n
     exact Eg0 [0,0,0,0] 0
    refine Z0 ?_
    cases m
    exact Eg0 [0,0,0,0] 0
   refine Tb Z (λo=> ?_) λo=> ?_
   ·refine Z0 ?_
    refine Lt 1 ?_
    refine Z0 ?_
    cases o
    exact Eg (_,()) rfl [0,0,0,0] [] 0
   refine Z0 ?_
   cases o
   exact Eg (_,()) rfl [1,0,0,0] [] 0
  refine Z0 ?_
  cases j
  exact Eg (_,()) rfl [1,0,0,0] [] 0
 rintro ⟨p,⟨⟩⟩ hy
 subst hy
 refine Z1 ?_
 refine E.iS aC 107 ?_
 cases c
 exact Eo1 ((none,0),N1,(A0,C0)) [0,0,1,1] []
theorem uA {σ η:Type} {Y:σ->(List aE)->Option (σ×Bool)} {y0:σ} {x1:bB} {x2:ByteArray} (g_1:Nat) (g_1_0:Nat) (g_1_1:Nat) (a_1_2:Option Addr) (c_1_2:Nat) (a_1_3:Option Addr) (c_1_3:Nat) (a_1_4:Option Addr) (c_1_4:Nat) (g_1_5:Nat) (a_1_6:Option Addr) (c_1_6:Nat) (a_1_7:Option Addr) (c_1_7:Nat) (g_1_8:Nat) (g_1_9:Nat) (a_1_10:Option Addr) (c_1_10:Nat) (g_2:Nat) {yl:Nat} {C:σ->η->Ch} (hY: ∀ s (h:η) (x:(List aE)) (t:(Option Addr×Nat)) z,Y s x=some z->YT G yl [.slice t.1 x.length t.2] [C s h,Ch.box g_1_0 56 (sb x1 g_1_1 g_1_5 g_1_8)] [Im.sl aC t.1 t.2 x] (λ_:η=> .bool z.2) (λh2=>[C z.1 h2,Ch.box g_1_0 56 (sb x1 g_1_1 g_1_5 g_1_8)]) (λ_=>[])) (h0:η) {r:σ×bB} (H:jU Y y0 x1 x2=some r):CT G 65 [.func (.yield yl) #[] #[],.pointer (some ⟨g_1,0,none⟩),.pointer (some ⟨g_2,0,none⟩)] [C y0 h0,Ch.box g_1 24 [.pointer (some ⟨g_1_0,0,none⟩)],Ch.box g_1_0 56 (sb x1 g_1_1 g_1_5 g_1_8),Ch.box g_1_5 76 (mh x1.parser a_1_6 c_1_6),Ch.opt (x1.parser.state == (3:Int)) (Ty.int .i64) 3 a_1_6 c_1_6 x1.parser.order.bJ,Ch.box g_1_8 124 (cI x1.aV g_1_9),Ch.box g_1_9 169 [.int .i64 x1.aV.g.w,.slice a_1_10 x1.aV.g.l.length c_1_10],Ch.arr aC 107 a_1_10 c_1_10 x1.aV.g.l,Ch.box g_2 9 [.string x2]] [Im.sl cL (some ⟨0,0,none⟩) 13 dC,Im.sl cL (some ⟨1,0,none⟩) 14 dK,Im.sl eQ (some ⟨3,0,none⟩) 8 bX] (λh:η×(Option Addr×Nat)×(Option Addr×Nat)×Nat×(Option Addr×Nat)=> .tuple #[]) (λh=>[C r.1 h.1,Ch.box g_1 24 [.pointer (some ⟨g_1_0,0,none⟩)],Ch.box g_1_0 56 (sb r.2 g_1_1 g_1_5 g_1_8),Ch.box g_1_5 76 (mh r.2.parser h.2.1.1 h.2.1.2),Ch.opt (r.2.parser.state == (3:Int)) (Ty.int .i64) 3 h.2.1.1 h.2.1.2 r.2.parser.order.bJ,Ch.box g_1_8 124 (cI r.2.aV h.2.2.2.1),Ch.box h.2.2.2.1 169 [.int .i64 r.2.aV.g.w,.slice h.2.2.2.2.1 r.2.aV.g.l.length h.2.2.2.2.2],Ch.arr aC 107 h.2.2.2.2.1 h.2.2.2.2.2 r.2.aV.g.l,Ch.box g_2 9 [.string x2]]) (λh=>[]):=by
  delta jU at H
  refine Cf Go.Proofs.Tryz.func65 λK=> ?_
  refine Y1 ?_
  refine Td [] [0,0,0,2,2,2,2] mo ?_
  refine Db 0 1 ?_
  refine Dq 1 ?_
  refine Dq 2 ?_
  refine Db 3 2 ?_
  refine Db 4 6 ?_
  refine Dq 7 ?_
  have ⟨p,Q,R⟩:=bnd H
  refine Dk [0,0] [2] (wC Q) λ⟨⟨ai,aj⟩,⟨m,n⟩,⟨ak,al⟩⟩=> ?_
  refine Dq 6 ?_
  refine Dn ?_
  refine Z0 ?_
  have ⟨q,S,B⟩:=bnd R
  refine T.sR (η:=(aB×σ)×(Nat×(Option Addr×Nat)×η)) (λh=>q = .inl h.1) (λh=>(λb=>(λc d e f=>[]) h.2.1 h.2.2.1.1 h.2.2.1.2 h.2.2.2) h.1) (λh=>(λb=>(λc d e f=>[Ch.arr aC 107 d e b.1.g.l,C b.2 f,Ch.box g_1_8 124 (cI b.1 c),Ch.box c 169 [.int .i64 b.1.g.w,.slice d b.1.g.l.length e],Ch.box g_1 24 [.pointer (some ⟨g_1_0,0,none⟩)],Ch.box g_1_0 56 (sb x1 g_1_1 g_1_5 g_1_8),Ch.box g_2 9 [.string x2],Ch.box g_1_5 76 (mh p.2 m n),Ch.opt (p.2.state == (3:Int)) (Ty.int .i64) 3 m n p.2.order.bJ]) h.2.1 h.2.2.1.1 h.2.2.1.2 h.2.2.2) h.1) (λh=>(λb=>(λc d e f=>[Im.sl cL (some ⟨0,0,none⟩) 13 dC,Im.sl cL (some ⟨1,0,none⟩) 14 dK,Im.sl eQ (some ⟨3,0,none⟩) 8 bX]) h.2.1 h.2.2.1.1 h.2.2.1.2 h.2.2.2) h.1) ?_ ?_
  ·refine Yl0 ?_
   refine Tq (η:=Nat×(Option Addr×Nat)×η) (λa h=>(λi j k o=>[(14,.int .i64 a.2.1)]) h.1 h.2.1.1 h.2.1.2 h.2.2) [0,1,12,13] (λa h=>(λi j k o=>[Ch.arr aC 107 j k a.1.g.l,C a.2.2 o,Ch.box g_1_8 124 (cI a.1 i),Ch.box i 169 [.int .i64 a.1.g.w,.slice j a.1.g.l.length k]]) h.1 h.2.1.1 h.2.1.2 h.2.2) [1,2,6,8,7,9] (λ_ _=>[]) (g_1_9,(a_1_10,c_1_10),h0) [5,0,2,2,0,0,0,1,0,0] [] S ?_
   rintro k_ a ⟨i,⟨j,k⟩,o⟩ U V W F
   refine Y2 ?_
   refine Tb V (λu=> ?_) λu=> ?_
   ·refine Z1 ?_
    refine Zl ?_
    refine Z1 ?_
    have ⟨X,y,Z⟩:=bnd u
    refine L.mj 8 rfl (cJ y) λam aa=> ?_
    subst aa
    refine Ly (Yl.ia y rfl rfl rfl rfl rfl rfl) ?_
    refine La [8] [] (Ac.lo a.2.1.toNat 0 (v:=(λh:(Option Addr×Nat)=>(λI J=> .agg (z4 X I J).toArray) h.1 h.2)) (aU y).2 rfl rfl rfl (λ_=>rfl)) ?_
    rintro ⟨I,J⟩
    refine Ll λan=> ?_
    refine Lt 0 ?_
    refine Y1 ?_
    refine Td [] [0,0,1,3,3,3,3,3] mo ?_
    refine Db 0 3 ?_
    refine Dq 1 ?_
    refine Dq 2 ?_
    refine Db 3 4 ?_
    refine Db 4 0 ?_
    have ⟨ao,ab,ac⟩:=bnd Z
    refine Dk [1,1,0] [0,1,2] (vo ab) λ⟨⟨ad,ae⟩,M,⟨N,O⟩⟩=> ?_
    refine Dq 6 ?_
    refine Dn ?_
    refine Z1 ?_
    refine L.frz 8 rfl ?_
    have ⟨ap,af,ag⟩:=bnd ac
    refine L.yd [2,3] [0] (hY _ _ _ (ad,ae) _ af) rfl rfl rfl rfl rfl rfl rfl rfl ?_
    intro P
    refine Z0 ?_
    refine Tb ag (λA=> ?_) λA=> ?_
    ·refine Z0 ?_
     obtain ⟨aq,hz,ah⟩:=fH A
     subst U
     have hb:=F _ rfl
     subst q
     obtain rfl:=(sm B).symm
     refine Z0 ?_
     cases ah
     exact Eo (P,(m,n),(none,0),M,(N,O)) [0,3,0,3,3,3,3,3,2] [] .nil
    refine Z0 ?_
    cases A
    exact Eg (_,(M,(N,O),P)) (W _ rfl) [10,0,7,7,3,0,2,2,1,1] [] 2
   refine Z0 ?_
   cases u
   have hb:=F _ rfl
   subst q
   exact Egx (_,(i,(j,k),o)) rfl [0,0,0,0,0,0,0,0,1] [0,1,2]
  rintro ⟨b,⟨c,⟨d,e⟩,f⟩⟩ hy
  subst hy
  refine E.off ?_
  cases B
  exact Eo (f,(m,n),(none,0),c,(d,e)) [1,3,3,4,4,1,1,0,0] [] .nil
theorem xB {m_:bB} {e:lO} {r:Int×bB} (H:eV m_ e=some r):CT G 10 [.pointer (some ⟨N0,0,none⟩),.agg (Nl e).toArray] [Ch.box N0 56 (sb m_ N1 N2 N3),Ch.box N1 115 [.slice A0 m_.book.l.length C0,.slice A1 m_.book.bV.length C1,.slice A2 m_.book.begun.length C2],Ch.arr (Ty.slice aD) 40 A0 C0 m_.book.l,Ch.arr (Ty.int .i64) 3 A1 C1 m_.book.bV,Ch.arr aD 112 A2 C2 m_.book.begun,Ch.box N2 76 (mh m_.parser A3 C3),Ch.opt (m_.parser.state == (3:Int)) (Ty.int .i64) 3 A3 C3 m_.parser.order.bJ,Ch.box N3 124 (cI m_.aV N4),Ch.box N4 169 [.int .i64 m_.aV.g.w,.slice A5 m_.aV.g.l.length C5],Ch.arr aC 107 A5 C5 m_.aV.g.l] [Im.sl cL (some ⟨0,0,none⟩) 13 dC,Im.sl cL (some ⟨1,0,none⟩) 14 dK,Im.sl (Ty.int .u32) (some ⟨2,0,none⟩) 16 dA,Im.sl eQ (some ⟨3,0,none⟩) 8 bX] (λh:(Option Addr×Nat)×(Option Addr×Nat)×(Option Addr×Nat)×(Option Addr×Nat)×(Option Addr×Nat)×Nat×(Option Addr×Nat)=> .int .i64 r.1) (λh=>[Ch.box N0 56 (sb r.2 N1 N2 N3),Ch.box N1 115 [.slice h.1.1 r.2.book.l.length h.1.2,.slice h.2.1.1 r.2.book.bV.length h.2.1.2,.slice h.2.2.1.1 r.2.book.begun.length h.2.2.1.2],Ch.arr (Ty.slice aD) 40 h.1.1 h.1.2 r.2.book.l,Ch.arr (Ty.int .i64) 3 h.2.1.1 h.2.1.2 r.2.book.bV,Ch.arr aD 112 h.2.2.1.1 h.2.2.1.2 r.2.book.begun,Ch.box N2 76 (mh r.2.parser h.2.2.2.1.1 h.2.2.2.1.2),Ch.opt (r.2.parser.state == (3:Int)) (Ty.int .i64) 3 h.2.2.2.1.1 h.2.2.2.1.2 r.2.parser.order.bJ,Ch.box N3 124 (cI r.2.aV h.2.2.2.2.2.1),Ch.box h.2.2.2.2.2.1 169 [.int .i64 r.2.aV.g.w,.slice h.2.2.2.2.2.2.1 r.2.aV.g.l.length h.2.2.2.2.2.2.2],Ch.arr aC 107 h.2.2.2.2.2.2.1 h.2.2.2.2.2.2.2 r.2.aV.g.l]) (λh=>[]):=by
 delta eV at H
 refine Cf Go.Proofs.Tryz.func10 λK=> ?_
 refine T.yS ?_
 refine Z1 ?_
 refine Lx λg1=> ?_
 refine Lx λg2=> ?_
 refine Z2 ?_
 have ⟨r3,h4,H5⟩:=bnd H
 refine Lk [] [] (uv h4) λ⟨⟩=> ?_
 refine Z1 ?_
 refine Tb H5 (λH7=> ?_) λH7=> ?_
 ·refine Z1 ?_
  cases H7
  exact E.vu ((A0,C0),(A1,C1),(A2,C2),(A3,C3),(none,0),N4,(A5,C5)) 2 [2,2,2,2,2,2,2,2,2,2] [] rfl (.tmp rfl .nil) rfl rfl rfl
 refine Z2 ?_
 have ⟨a,J,M⟩:=bnd H7
 refine T.Ar (η:=Unit×((Option Addr×Nat)×(Option Addr×Nat)×(Option Addr×Nat)×(Option Addr×Nat)×Nat×(Option Addr×Nat)×List Nat)) (λh=>True) (λh=>(λc d f i j k m n o p q s=>s) h.2.1.1 h.2.1.2 h.2.2.1.1 h.2.2.1.2 h.2.2.2.1.1 h.2.2.2.1.2 h.2.2.2.2.1.1 h.2.2.2.2.1.2 h.2.2.2.2.2.1 h.2.2.2.2.2.2.1.1 h.2.2.2.2.2.2.1.2 h.2.2.2.2.2.2.2) (λh=>(λc d f i j k m n o p q s=>[(2,.pointer (some ⟨g1,0,none⟩))]) h.2.1.1 h.2.1.2 h.2.2.1.1 h.2.2.1.2 h.2.2.2.1.1 h.2.2.2.1.2 h.2.2.2.2.1.1 h.2.2.2.2.1.2 h.2.2.2.2.2.1 h.2.2.2.2.2.2.1.1 h.2.2.2.2.2.2.1.2 h.2.2.2.2.2.2.2) (λh=>(λc d f i j k m n o p q s=>[Ch.arr (Ty.slice aD) 40 c d a.book.l,Ch.arr (Ty.int .i64) 3 f i a.book.bV,Ch.arr aD 112 j k a.book.begun,Ch.opt (a.parser.state == (3:Int)) (Ty.int .i64) 3 m n a.parser.order.bJ,Ch.arr aC 107 p q a.aV.g.l,Ch.box g2 37 (Nl e),Ch.box g1 24 [.pointer (some ⟨N0,0,none⟩)],Ch.dfs s,Ch.box N0 56 (sb a N1 N2 N3),Ch.box N1 115 [.slice c a.book.l.length d,.slice f a.book.bV.length i,.slice j a.book.begun.length k],Ch.box N2 76 (mh a.parser m n),Ch.box N3 124 (cI a.aV o),Ch.box o 169 [.int .i64 a.aV.g.w,.slice p a.aV.g.l.length q]]) h.2.1.1 h.2.1.2 h.2.2.1.1 h.2.2.1.2 h.2.2.2.1.1 h.2.2.2.1.2 h.2.2.2.2.1.1 h.2.2.2.2.1.2 h.2.2.2.2.2.1 h.2.2.2.2.2.2.1.1 h.2.2.2.2.2.2.1.2 h.2.2.2.2.2.2.2) (λh=>(λc d f i j k m n o p q s=>[Im.sl cL (some ⟨0,0,none⟩) 13 dC,Im.sl cL (some ⟨1,0,none⟩) 14 dK,Im.sl (Ty.int .u32) (some ⟨2,0,none⟩) 16 dA,Im.sl eQ (some ⟨3,0,none⟩) 8 bX]) h.2.1.1 h.2.1.2 h.2.2.1.1 h.2.2.1.2 h.2.2.2.1.1 h.2.2.2.1.2 h.2.2.2.2.1.1 h.2.2.2.2.1.2 h.2.2.2.2.2.1 h.2.2.2.2.2.2.1.1 h.2.2.2.2.2.2.1.2 h.2.2.2.2.2.2.2) ?_ ?_
 ·refine Tb J (λI=> ?_) λI=> ?_
  ·refine Td [] [0,0,0,0,4,4] mo ?_
   refine Db 0 1 ?_
   refine Dq 1 ?_
   refine Dq 2 ?_
   refine Db 3 3 ?_
   refine Db 4 1 ?_
   refine Dq 5 ?_
   refine Dq 6 ?_
   refine Db 7 3 ?_
   refine Dq 8 ?_
   refine Db 9 0 ?_
   refine Dq 10 ?_
   refine Db 11 0 ?_
   have ⟨az,N,O⟩:=bnd I
   refine Dk [4,4,4] [] (sd N) λ⟨⟨a0,a1⟩,⟨P,Q⟩⟩=> ?_
   refine D.frz 0 rfl ?_
   have ⟨a2,R,S⟩:=bnd O
   refine Dk [3,3,3,3] [0,3] (sA R) λ⟨⟨U,V⟩,⟨W,Y⟩,⟨Z,aa⟩⟩=> ?_
   refine Dn ?_
   cases S
   exact E.qF ((),((U,V),(W,Y),(Z,aa),(A3,C3),N4,(P,Q),[])) [7,7,7,5,8,0,0,0,0,1,0,0,0] [1,2,3,4] trivial rfl ⟨rfl,trivial⟩ rfl rfl
  refine Z1 ?_
  have ⟨a3,ab,ac⟩:=bnd I
  refine Lk [3,3,3,3,3,3,3,3,3,3] [0,1,3] (wA ab) λ⟨ad,ae⟩=> ?_
  refine Yl0 ?_
  have ⟨af,ag,ah⟩:=bnd ac
  refine T.rf4 (σ:=cF) (η:=(Option Addr×Nat)×(Option Addr×Nat)×(Option Addr×Nat)) (X:=(List aE)) (θ:=(Option Addr×Nat)) (τ:=((Option Addr×Nat)×(Option Addr×Nat)×(Option Addr×Nat))×(Option Addr×Nat)×(Option Addr×Nat)×Nat×(Option Addr×Nat)) (s1:=af.1) (hx:=λx=>x.1) (λx t=>[.slice t.1 x.length t.2]) (λx t=>[Im.sl aC t.1 t.2 x]) (λ_=>none) _ [Ch.box N0 56 (sb m_ N1 N2 N3)] (λb h=>(λv y z A B F=>[Ch.arr (Ty.slice aD) 40 v y b.l,Ch.arr (Ty.int .i64) 3 z A b.bV,Ch.arr aD 112 B F b.begun,Ch.box N1 115 [.slice v b.l.length y,.slice z b.bV.length A,.slice B b.begun.length F],Ch.box g2 37 (Nl e),Ch.box g1 24 [.pointer (some ⟨N0,0,none⟩)]]) h.1.1 h.1.2 h.2.1.1 h.2.1.2 h.2.2.1 h.2.2.2) (λb h=>(λv y z A B F=>[Im.sl cL (some ⟨0,0,none⟩) 13 dC,Im.sl cL (some ⟨1,0,none⟩) 14 dK,Im.sl (Ty.int .u32) (some ⟨2,0,none⟩) 16 dA,Im.sl eQ (some ⟨3,0,none⟩) 8 bX]) h.1.1 h.1.2 h.2.1.1 h.2.1.2 h.2.2.1 h.2.2.2) 14 [4,4,4,3,8,8,0,1,1,1,1,1,1,0] [0,1,2,3] [0,1,3] rfl rfl (λ_ _=>rfl) rfl (λyl C hY=>(uA ad N0 N1 A0 C0 A1 C1 A2 C2 N2 A3 C3 none 0 N3 N4 A5 C5 ae hY ((A0,C0),(A1,C1),(A2,C2)) ag:_)) (λ_ _ _ _=>rfl) rfl rfl rfl rfl rfl ?_ rfl ?_
  ·rintro yl K2 b ⟨⟨v,y⟩,⟨z,A⟩,⟨B,F⟩⟩ a4 ⟨a5,a6⟩ a7 ai
   refine Z0 ?_
   refine E.begin λK3=> ?_
   refine Zl ?_
   have ⟨a8,aj,ak⟩:=bnd ai
   refine Lk [3,0,0,0] [0,3] (sA aj) λ⟨⟨al,am⟩,⟨an,ao⟩,⟨ap,aq⟩⟩=> ?_
   refine Z0 ?_
   cases ak
   exact E.on ((al,am),(an,ao),(ap,aq)) [1,1,1,0,0,0,0] [1,2,3,4] rfl rfl rfl rfl
  rintro ⟨u,⟨ar,au⟩,⟨a9,ba⟩,av,⟨aw,ax⟩⟩ ay
  refine Z0 ?_
  cases ah
  exact E.qF ((),((u.1.1,u.1.2),(u.2.1.1,u.2.1.2),(u.2.2.1,u.2.2.2),(ar,au),av,(aw,ax),(ay::[]))) [1,1,1,7,9,2,2,0,2,0,1,1,1] [0,1,2,3] trivial rfl ⟨rfl,trivial⟩ rfl rfl
 rintro ⟨_,⟨⟨c,d⟩,⟨f,i⟩,⟨j,k⟩,⟨m,n⟩,o,⟨p,q⟩,s⟩⟩ _
 refine Z1 ?_
 refine Lt 8 ?_
 refine Z1 ?_
 cases M
 exact E.vu ((c,d),(f,i),(j,k),(m,n),(none,0),o,(p,q)) 8 [0,7,0,0,0,4,0,3,3,0] [] rfl (.tmp rfl .nil) rfl rfl rfl
theorem z8 {l:List aE} {r:(List aE)} (H:nI l=some r):CT G 163 [.slice A0 l.length C0] [Ch.arr aC 107 A0 C0 l] [] (λh:Nat=> .func (.func 197) #[] #[.pointer (some ⟨h,0,none⟩)]) (λh=>[Ch.box h 39 [.slice A0 r.length C0],Ch.arr aC 107 A0 C0 r]) (λh=>[]):=by
 delta nI at H
 refine Cf Go.Proofs.Tryz.func163 λK=> ?_
 refine Z1 ?_
 refine Lx λg1=> ?_
 refine Z1 ?_
 cases H
 exact Eo1 g1 [0,0] []
theorem xC {σ η:Type} {Y:σ->aE->Option (σ×Bool)} {y0:σ} {x1:List aE} {yl:Nat} {C:σ->η->Ch} (hY: ∀ s (h:η) (x:aE) (t:(Option Addr×Nat)) z,Y s x=some z->YT G yl [.agg #[.slice t.1 x.cells.length t.2,.bool x.wrapped]] [C s h] [Im.sl aQ t.1 t.2 x.cells] (λ_:η=> .bool z.2) (λh2=>[C z.1 h2]) (λ_=>[])) (h0:η) (g_1:Nat) (a_1_0:Option Addr) (c_1_0:Nat) {r:σ} (H:kf Y y0 x1=some r):CT G 197 [.func (.yield yl) #[] #[],.pointer (some ⟨g_1,0,none⟩)] [C y0 h0,Ch.box g_1 39 [.slice a_1_0 x1.length c_1_0],Ch.arr aC 107 a_1_0 c_1_0 x1] [] (λh:η=> .tuple #[]) (λh=>[C r h,Ch.box g_1 39 [.slice a_1_0 x1.length c_1_0],Ch.arr aC 107 a_1_0 c_1_0 x1]) (λh=>[]):=by
  delta kf at H
  refine Cf Go.Proofs.Tryz.func197 λK=> ?_
  refine Z1 ?_
  have ⟨e,p,j⟩:=bnd H
  refine T.sR (η:=σ×(η)) (λh=>e = .inl h.1) (λh=>(λc=>(λa=>[]) h.2) h.1) (λh=>(λc=>(λa=>[C c a,Ch.box g_1 39 [.slice a_1_0 x1.length c_1_0],Ch.arr aC 107 a_1_0 c_1_0 x1]) h.2) h.1) (λh=>(λc=>(λa=>[]) h.2) h.1) ?_ ?_
  ·refine Yl0 ?_
   refine Tq (η:=η) (λb h=>(λd=>[(7,.int .i64 b.1)]) h) [0,5,6] (λb h=>(λd=>[C b.2 d]) h) [1,2] (λ_ _=>[]) h0 [0,0,0] [] p ?_
   rintro k_ b d q u w k
   refine Y2 ?_
   refine Tb u (λf=> ?_) λf=> ?_
   ·refine Z1 ?_
    refine Zl ?_
    refine Z1 ?_
    have ⟨l,g,y⟩:=bnd f
    refine L.mj 2 rfl (cJ g) λP A=> ?_
    subst A
    refine Ly (Yl.ia g rfl rfl rfl rfl rfl rfl) ?_
    refine La [2] [] (Ac.lo b.1.toNat 0 (v:=(λh:(Option Addr×Nat)=>(λm n=> .agg #[.slice m l.cells.length n,.bool l.wrapped]) h.1 h.2)) (aU g).2 rfl rfl rfl (λ_=>rfl)) ?_
    rintro ⟨m,n⟩
    refine Ll λQ=> ?_
    refine Lt 0 ?_
    refine Z1 ?_
    have ⟨R,B,F⟩:=bnd y
    refine Lk [] [0] (z6 B) λ⟨I,J⟩=> ?_
    have ⟨S,M,N⟩:=bnd F
    refine L.yd [2] [0] (hY _ _ _ (I,J) _ M) rfl rfl rfl rfl rfl rfl rfl rfl ?_
    intro o
    refine Z0 ?_
    refine Tb N (λi=> ?_) λi=> ?_
    ·refine Z0 ?_
     obtain ⟨U,hz,O⟩:=fH i
     subst q
     have hb:=k _ rfl
     subst e
     obtain rfl:=(sm j).symm
     refine Z0 ?_
     cases O
     exact Eo o [0,2,1] [] .nil
    refine Z0 ?_
    cases i
    exact Eg (_,o) (w _ rfl) [0,2,1] [] 2
   refine Z0 ?_
   cases f
   have hb:=k _ rfl
   subst e
   exact Egx (_,d) rfl [0,0,0] []
  rintro ⟨c,a⟩ hy
  subst hy
  refine E.off ?_
  cases j
  exact Eo a [0,0,0] [] .nil
end Go.Tw.X

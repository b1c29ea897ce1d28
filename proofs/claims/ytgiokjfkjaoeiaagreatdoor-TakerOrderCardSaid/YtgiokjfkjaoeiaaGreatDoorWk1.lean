import Derived.Test.YtgiokjfkjaoeiaaGreatDoorFw2
import Derived.Test.YtgiokjfkjaoeiaaGreatDoorProg
import Derived.Test.YtgiokjfkjaoeiaaGreatDoorXp1
set_option maxHeartbeats 2000000
set_option linter.unusedVariables false
set_option linter.unusedSimpArgs false
set_option maxRecDepth 10000
namespace Go.Tw.X
open Go Go.Tw
def mN:Ty eR:=⟨4,(Option Addr×Nat),fun x h=>[.int .i64 x.L5,.int .i64 x.kind,.slice h.1 x.bH.length h.2,.string x.data],fun x h=>[Im.sl (Ty.int .i64) h.1 h.2 x.bH],fun _ _=>rfl,by simp [Value.oneCell']⟩
def aO:Ty aG:=⟨3,Unit,fun x h=>[.int .i32 x.rune,.int .i64 x.aL,.int .i64 x.part],fun x h=>[],fun _ _=>rfl,by simp [Value.oneCell']⟩
def aC:Ty aE:=⟨2,(Option Addr×Nat),fun x h=>[.slice h.1 x.cells.length h.2,.bool x.wrapped],fun x h=>[Im.sl aO h.1 h.2 x.cells],fun _ _=>rfl,by simp [Value.oneCell']⟩
def aD:Ty aJ:=⟨2,Unit,fun x h=>[.int .i32 x.rune,.int .i64 x.aL],fun x h=>[],fun _ _=>rfl,by simp [Value.oneCell']⟩
def eS:Ty aI:=⟨10,(Option Addr×Nat)×(Option Addr×Nat),fun x h=>[.int .i64 x.k,.int .i64 x.w,.int .i64 x.h,.int .i64 x.x,.int .i64 x.y,.string x.title,.slice h.1.1 x.rows.length h.1.2,.int .i64 x.len,.int .i64 x.chain,.slice h.2.1 x.begun.length h.2.2],fun x h=>[Im.sl aC h.1.1 h.1.2 x.rows,Im.sl aD h.2.1 h.2.2 x.begun],fun _ _=>rfl,by simp [Value.oneCell']⟩
def nz:Ty cH:=⟨4,Unit,fun x h=>[.int .i64 x.kind,.string x.text,.int .i64 x.w,.int .i64 x.h],fun x h=>[],fun _ _=>rfl,by simp [Value.oneCell']⟩
def bE:Ty aZ:=⟨6,(Option Addr×Nat),fun x h=>[.int .i64 x.kind,.int .i32 x.rune,.int .u8 x.byte,.bool x.eE,.slice h.1 x.bH.length h.2,.string x.text],fun x h=>[Im.sl (Ty.int .i64) h.1 h.2 x.bH],fun _ _=>rfl,by simp [Value.oneCell']⟩
def cI:Ty iK:=⟨2,Unit,fun x h=>[.int .i32 x.from_,.int .i32 x.to],fun x h=>[],fun _ _=>rfl,by simp [Value.oneCell']⟩
def eK:Ty kM:=⟨5,Unit,fun x h=>[.int .u8 x.first,.int .u8 x.last,.int .i64 x.jm,.int .u8 x.low,.int .u8 x.high],fun x h=>[],fun _ _=>rfl,by simp [Value.oneCell']⟩
abbrev L1 (x:ky):List Value:=[.int .i64 x.kind,.string x.text,.int .i64 x.w,.int .i64 x.h]
abbrev kZ (x:aI) (a1:Option Addr) (c1:Nat) (a2:Option Addr) (c2:Nat):List Value:=[.int .i64 x.k,.int .i64 x.w,.int .i64 x.h,.int .i64 x.x,.int .i64 x.y,.string x.title,.slice a1 x.rows.length c1,.int .i64 x.len,.int .i64 x.chain,.slice a2 x.begun.length c2]
abbrev Ek (x:eR) (a1:Option Addr) (c1:Nat):List Value:=[.int .i64 x.L5,.int .i64 x.kind,.slice a1 x.bH.length c1,.string x.data]
abbrev pJ (x:bA) (g1:Nat) (g2:Nat) (g3:Nat):List Value:=[.pointer (some ⟨g1,0,none⟩),.pointer (some ⟨g2,0,none⟩),.pointer (some ⟨g3,0,none⟩),.int .i64 x.k]
abbrev L2 (x:cH):List Value:=[.int .i64 x.kind,.string x.text,.int .i64 x.w,.int .i64 x.h]
abbrev rD (x:bB) (g1:Nat) (a2:Option Addr) (c2:Nat) (a3:Option Addr) (c3:Nat):List Value:=[.pointer (some ⟨g1,0,none⟩),.int .i64 x.cN.k,.int .i64 x.cN.w,.int .i64 x.cN.h,.int .i64 x.cN.x,.int .i64 x.cN.y,.string x.cN.title,.slice a2 x.cN.rows.length c2,.int .i64 x.cN.len,.int .i64 x.cN.chain,.slice a3 x.cN.begun.length c3]
abbrev lA (x:aH) (a1:Option Addr) (c1:Nat) (a2:Option Addr) (c2:Nat):List Value:=[.int .i64 x.state,.bool x.order.eE,.bool x.order.mU,.bool x.order.any,.bool x.order.some,.int .i64 x.order.n,.slice a1 x.order.bH.length c1,.string x.text,.int .u8 x.cK.lead,.int .i32 x.cK.rune,.int .i64 x.cK.jm,.slice a2 x.out.length c2]
abbrev kV (x:aH) (a1:Option Addr) (c1:Nat):List Value:=[.int .i64 x.state,.bool x.order.eE,.bool x.order.mU,.bool x.order.any,.bool x.order.some,.int .i64 x.order.n,.slice a1 x.order.bH.length c1,.string x.text,.int .u8 x.cK.lead,.int .i32 x.cK.rune,.int .i64 x.cK.jm,.slice none 0 0]
abbrev Po (x:bU) (a1:Option Addr) (c1:Nat) (a2:Option Addr) (c2:Nat):List Value:=[.int .i64 x.id,.int .i64 x.key,.int .i64 x.base,.slice a1 x.parts.length c1,.slice a2 x.there.length c2,.int .i64 x.due]
abbrev zc (x:aP) (a1:Option Addr) (c1:Nat) (a2:Option Addr) (c2:Nat) (a3:Option Addr) (c3:Nat) (a4:Option Addr) (c4:Nat) (a5:Option Addr) (c5:Nat) (a6:Option Addr) (c6:Nat) (a7:Option Addr) (c7:Nat):List Value:=[.int .i64 x.config.part,.int .i64 x.config.every,.int .i64 x.config.most,.int .i64 x.current.k,.int .i64 x.current.w,.int .i64 x.current.h,.int .i64 x.current.x,.int .i64 x.current.y,.string x.current.title,.slice a1 x.current.rows.length c1,.int .i64 x.current.len,.int .i64 x.current.chain,.slice a2 x.current.begun.length c2,.int .i64 x.aY.k,.int .i64 x.aY.w,.int .i64 x.aY.h,.int .i64 x.aY.x,.int .i64 x.aY.y,.string x.aY.title,.slice a3 x.aY.rows.length c3,.int .i64 x.aY.len,.int .i64 x.aY.chain,.slice a4 x.aY.begun.length c4,.slice a5 x.kept.length c5,.int .i64 x.message.id,.int .i64 x.message.key,.int .i64 x.message.base,.slice a6 x.message.parts.length c6,.slice a7 x.message.there.length c7,.int .i64 x.message.due,.int .i64 x.next]
abbrev kB (x:cG) (v1:Option Nat):List Value:=[.int .i64 x.key,.int .i64 x.count,.map v1,.int .i64 x.bytes]
abbrev tT (x:bC):List Value:=[.int .i64 x.iD,.int .i64 x.back,.bool x.bold,.bool x.under,.bool x.dU]
abbrev cD (x:aB) (g1:Nat):List Value:=[.pointer (some ⟨g1,0,none⟩),.int .i64 x.spot.x,.int .i64 x.spot.y,.int .i64 x.spot.aL.iD,.int .i64 x.spot.aL.back,.bool x.spot.aL.bold,.bool x.spot.aL.under,.bool x.spot.aL.dU,.int .i64 x.saved.x,.int .i64 x.saved.y,.int .i64 x.saved.aL.iD,.int .i64 x.saved.aL.back,.bool x.saved.aL.bold,.bool x.saved.aL.under,.bool x.saved.aL.dU,.bool x.waiting,.int .i64 x.top,.int .i64 x.aK,.bool x.aX,.string x.title]
abbrev yV (x:aZ) (a1:Option Addr) (c1:Nat):List Value:=[.int .i64 x.kind,.int .i32 x.rune,.int .u8 x.byte,.bool x.eE,.slice a1 x.bH.length c1,.string x.text]
abbrev CG (x:bO) (a1:Option Addr) (c1:Nat) (a2:Option Addr) (c2:Nat) (v3:Option Nat):List Value:=[.int .i64 x.sum,.int .i64 x.to.k,.int .i64 x.to.w,.int .i64 x.to.h,.int .i64 x.to.x,.int .i64 x.to.y,.string x.to.title,.slice a1 x.to.rows.length c1,.int .i64 x.to.len,.int .i64 x.to.chain,.slice a2 x.to.begun.length c2,.map v3]
abbrev FY (x:bO) (a2:Option Addr) (c2:Nat) (v3:Option Nat):List Value:=[.int .i64 x.sum,.int .i64 x.to.k,.int .i64 x.to.w,.int .i64 x.to.h,.int .i64 x.to.x,.int .i64 x.to.y,.string x.to.title,.slice none 0 0,.int .i64 x.to.len,.int .i64 x.to.chain,.slice a2 x.to.begun.length c2,.map v3]
abbrev Pp (x:kM):List Value:=[.int .u8 x.first,.int .u8 x.last,.int .i64 x.jm,.int .u8 x.low,.int .u8 x.high]
def tab:Tab:=[(3,⟨.int .i64,1,8,[.int .i64 0],false,false⟩),
  (4,⟨.bool,1,1,[.bool false],false,false⟩),
  (5,⟨.int .u8,1,1,[.int .u8 0],false,false⟩),
  (9,⟨.string,1,16,[.string ⟨#[]⟩],false,false⟩),
  (21,⟨.int .i32,1,4,[.int .i32 0],false,false⟩),
  (22,⟨.slice 9,1,24,[.slice none 0 0],false,false⟩),
  (23,⟨.slice 3,1,24,[.slice none 0 0],false,false⟩),
  (24,⟨.pointer 56,1,8,[.pointer none],false,false⟩),
  (26,⟨.pointer 83,1,8,[.pointer none],false,false⟩),
  (29,⟨.struct [(3,0),(3,1),(3,2)],3,24,[.int .i64 0,.int .i64 0,.int .i64 0],true,false⟩),
  (30,⟨.pointer 65,1,8,[.pointer none],false,false⟩),
  (32,⟨.slice 46,1,24,[.slice none 0 0],false,false⟩),
  (33,⟨.int .i64,1,8,[.int .i64 0],false,false⟩),
  (37,⟨.struct [(3,0),(9,1),(3,2),(3,3)],4,40,[.int .i64 0,.string ⟨#[]⟩,.int .i64 0,.int .i64 0],true,false⟩),
  (39,⟨.slice 107,1,24,[.slice none 0 0],false,false⟩),
  (40,⟨.slice 112,1,24,[.slice none 0 0],false,false⟩),
  (42,⟨.struct [(3,0),(3,1),(3,2),(3,3),(3,4),(9,5),(39,6),(3,7),(3,8),(40,9)],10,120,[.int .i64 0,.int .i64 0,.int .i64 0,.int .i64 0,.int .i64 0,.string ⟨#[]⟩,.slice none 0 0,.int .i64 0,.int .i64 0,.slice none 0 0],true,false⟩),
  (46,⟨.struct [(3,0),(3,1),(23,2),(9,3)],4,56,[.int .i64 0,.int .i64 0,.slice none 0 0,.string ⟨#[]⟩],true,false⟩),
  (52,⟨.pointer 115,1,8,[.pointer none],false,false⟩),
  (53,⟨.pointer 76,1,8,[.pointer none],false,false⟩),
  (54,⟨.pointer 124,1,8,[.pointer none],false,false⟩),
  (56,⟨.struct [(52,0),(53,1),(54,2),(3,3)],4,32,[.pointer none,.pointer none,.pointer none,.int .i64 0],true,false⟩),
  (58,⟨.slice 60,1,24,[.slice none 0 0],false,false⟩),
  (60,⟨.struct [(3,0),(9,1),(3,2),(3,3)],4,40,[.int .i64 0,.string ⟨#[]⟩,.int .i64 0,.int .i64 0],true,false⟩),
  (63,⟨.pointer 86,1,8,[.pointer none],false,false⟩),
  (65,⟨.struct [(63,0),(42,1)],11,128,[.pointer none,.int .i64 0,.int .i64 0,.int .i64 0,.int .i64 0,.int .i64 0,.string ⟨#[]⟩,.slice none 0 0,.int .i64 0,.int .i64 0,.slice none 0 0],true,false⟩),
  (67,⟨.slice 42,1,24,[.slice none 0 0],false,false⟩),
  (71,⟨.struct [(4,0),(4,1),(4,2),(4,3),(3,4),(23,5)],6,40,[.bool false,.bool false,.bool false,.bool false,.int .i64 0,.slice none 0 0],true,false⟩),
  (73,⟨.struct [(5,0),(21,1),(3,2)],3,16,[.int .u8 0,.int .i32 0,.int .i64 0],true,false⟩),
  (74,⟨.slice 136,1,24,[.slice none 0 0],false,false⟩),
  (76,⟨.struct [(3,0),(71,1),(9,7),(73,8),(74,11)],12,104,[.int .i64 0,.bool false,.bool false,.bool false,.bool false,.int .i64 0,.slice none 0 0,.string ⟨#[]⟩,.int .u8 0,.int .i32 0,.int .i64 0,.slice none 0 0],true,false⟩),
  (79,⟨.slice 4,1,24,[.slice none 0 0],false,false⟩),
  (81,⟨.struct [(3,0),(3,1),(3,2),(22,3),(79,4),(3,5)],6,80,[.int .i64 0,.int .i64 0,.int .i64 0,.slice none 0 0,.slice none 0 0,.int .i64 0],true,false⟩),
  (83,⟨.struct [(29,0),(42,3),(42,13),(67,23),(81,24),(3,30)],31,376,[.int .i64 0,.int .i64 0,.int .i64 0,.int .i64 0,.int .i64 0,.int .i64 0,.int .i64 0,.int .i64 0,.string ⟨#[]⟩,.slice none 0 0,.int .i64 0,.int .i64 0,.slice none 0 0,.int .i64 0,.int .i64 0,.int .i64 0,.int .i64 0,.int .i64 0,.string ⟨#[]⟩,.slice none 0 0,.int .i64 0,.int .i64 0,.slice none 0 0,.slice none 0 0,.int .i64 0,.int .i64 0,.int .i64 0,.slice none 0 0,.slice none 0 0,.int .i64 0,.int .i64 0],true,false⟩),
  (84,⟨.map 3 9,1,8,[.map none],false,false⟩),
  (86,⟨.struct [(3,0),(3,1),(84,2),(3,3)],4,32,[.int .i64 0,.int .i64 0,.map none,.int .i64 0],true,false⟩),
  (99,⟨.slice 5,1,24,[.slice none 0 0],false,false⟩),
  (105,⟨.slice 143,1,24,[.slice none 0 0],false,false⟩),
  (107,⟨.struct [(105,0),(4,1)],2,32,[.slice none 0 0,.bool false],true,false⟩),
  (112,⟨.struct [(21,0),(3,1)],2,16,[.int .i32 0,.int .i64 0],true,true⟩),
  (113,⟨.slice 40,1,24,[.slice none 0 0],false,false⟩),
  (115,⟨.struct [(113,0),(23,1),(40,2)],3,72,[.slice none 0 0,.slice none 0 0,.slice none 0 0],true,false⟩),
  (117,⟨.pointer 169,1,8,[.pointer none],false,false⟩),
  (120,⟨.struct [(3,0),(3,1),(4,2),(4,3),(4,4)],5,24,[.int .i64 0,.int .i64 0,.bool false,.bool false,.bool false],true,false⟩),
  (122,⟨.struct [(3,0),(3,1),(120,2)],7,40,[.int .i64 0,.int .i64 0,.int .i64 0,.int .i64 0,.bool false,.bool false,.bool false],true,false⟩),
  (124,⟨.struct [(117,0),(122,1),(122,8),(4,15),(3,16),(3,17),(4,18),(9,19)],20,136,[.pointer none,.int .i64 0,.int .i64 0,.int .i64 0,.int .i64 0,.bool false,.bool false,.bool false,.int .i64 0,.int .i64 0,.int .i64 0,.int .i64 0,.bool false,.bool false,.bool false,.bool false,.int .i64 0,.int .i64 0,.bool false,.string ⟨#[]⟩],true,false⟩),
  (136,⟨.struct [(3,0),(21,1),(5,2),(4,3),(23,4),(9,5)],6,56,[.int .i64 0,.int .i32 0,.int .u8 0,.bool false,.slice none 0 0,.string ⟨#[]⟩],true,false⟩),
  (143,⟨.struct [(21,0),(3,1),(3,2)],3,24,[.int .i32 0,.int .i64 0,.int .i64 0],true,true⟩),
  (154,⟨.pointer 156,1,8,[.pointer none],false,false⟩),
  (156,⟨.struct [(154,0),(99,1)],2,32,[.pointer none,.slice none 0 0],true,false⟩),
  (162,⟨.map 3 107,1,8,[.map none],false,false⟩),
  (164,⟨.struct [(3,0),(42,1),(162,11)],12,136,[.int .i64 0,.int .i64 0,.int .i64 0,.int .i64 0,.int .i64 0,.int .i64 0,.string ⟨#[]⟩,.slice none 0 0,.int .i64 0,.int .i64 0,.slice none 0 0,.map none],true,false⟩),
  (169,⟨.struct [(3,0),(39,1)],2,32,[.int .i64 0,.slice none 0 0],true,false⟩),
  (182,⟨.struct [(99,0)],1,24,[.slice none 0 0],true,false⟩),
  (183,⟨.pointer 182,1,8,[.pointer none],false,false⟩),
  (199,⟨.int .u32,1,4,[.int .u32 0],false,false⟩),
  (225,⟨.struct [(9,0),(33,1)],2,24,[.string ⟨#[]⟩,.int .i64 0],true,false⟩),
  (235,⟨.slice 21,1,24,[.slice none 0 0],false,false⟩),
  (242,⟨.slice 244,1,24,[.slice none 0 0],false,false⟩),
  (244,⟨.struct [(21,0),(21,1)],2,8,[.int .i32 0,.int .i32 0],true,false⟩),
  (245,⟨.array 13 244,26,104,[.int .i32 0,.int .i32 0,.int .i32 0,.int .i32 0,.int .i32 0,.int .i32 0,.int .i32 0,.int .i32 0,.int .i32 0,.int .i32 0,.int .i32 0,.int .i32 0,.int .i32 0,.int .i32 0,.int .i32 0,.int .i32 0,.int .i32 0,.int .i32 0,.int .i32 0,.int .i32 0,.int .i32 0,.int .i32 0,.int .i32 0,.int .i32 0,.int .i32 0,.int .i32 0],true,false⟩),
  (246,⟨.array 14 244,28,112,[.int .i32 0,.int .i32 0,.int .i32 0,.int .i32 0,.int .i32 0,.int .i32 0,.int .i32 0,.int .i32 0,.int .i32 0,.int .i32 0,.int .i32 0,.int .i32 0,.int .i32 0,.int .i32 0,.int .i32 0,.int .i32 0,.int .i32 0,.int .i32 0,.int .i32 0,.int .i32 0,.int .i32 0,.int .i32 0,.int .i32 0,.int .i32 0,.int .i32 0,.int .i32 0,.int .i32 0,.int .i32 0],true,false⟩),
  (254,⟨.int .u64,1,8,[.int .u64 0],false,false⟩),
  (256,⟨.array 3 3,3,24,[.int .i64 0,.int .i64 0,.int .i64 0],true,false⟩),
  (259,⟨.array 16 199,16,64,[.int .u32 0,.int .u32 0,.int .u32 0,.int .u32 0,.int .u32 0,.int .u32 0,.int .u32 0,.int .u32 0,.int .u32 0,.int .u32 0,.int .u32 0,.int .u32 0,.int .u32 0,.int .u32 0,.int .u32 0,.int .u32 0],true,false⟩),
  (267,⟨.int .u64,1,8,[.int .u64 0],false,false⟩),
  (271,⟨.struct [(5,0),(5,1),(3,2),(5,3),(5,4)],5,24,[.int .u8 0,.int .u8 0,.int .i64 0,.int .u8 0,.int .u8 0],true,false⟩),
  (275,⟨.slice 105,1,24,[.slice none 0 0],false,false⟩),
  (276,⟨.array 8 271,40,192,[.int .u8 0,.int .u8 0,.int .i64 0,.int .u8 0,.int .u8 0,.int .u8 0,.int .u8 0,.int .i64 0,.int .u8 0,.int .u8 0,.int .u8 0,.int .u8 0,.int .i64 0,.int .u8 0,.int .u8 0,.int .u8 0,.int .u8 0,.int .i64 0,.int .u8 0,.int .u8 0,.int .u8 0,.int .u8 0,.int .i64 0,.int .u8 0,.int .u8 0,.int .u8 0,.int .u8 0,.int .i64 0,.int .u8 0,.int .u8 0,.int .u8 0,.int .u8 0,.int .i64 0,.int .u8 0,.int .u8 0,.int .u8 0,.int .u8 0,.int .i64 0,.int .u8 0,.int .u8 0],true,false⟩)]
theorem Oc:lO Go.Proofs.Tryz.prog tab:=EC (by kernel_rfl)
noncomputable def G:Pg:=⟨Go.Proofs.Tryz.prog,tab,Oc,none⟩
theorem mo:G.P.follows .mixedOrders=true:=by kernel_rfl
theorem Mt:Ka G.P 5=true:=by kernel_rfl
theorem JX:F7 G.P 9 false=true:=by kernel_rfl
theorem L3:F7 G.P 107 true=true:=by kernel_rfl
end Go.Tw.X
set_option maxHeartbeats 2000000
set_option linter.unusedVariables false
set_option linter.unusedSimpArgs false
set_option maxRecDepth 10000
namespace Go.Tw.X
open Go Go.Tw
variable {A0 A1 A2 A3 A4 A5 A6 A7 A8 : Option Addr} {C0 C1 C2 C3 C4 C5 C6 C7 C8 : Nat}
variable {N0 N1 N2 N3 N4 : Nat}
variable {M0 : Option Nat}
theorem El {r:cC} (H:qE=some r):CT G 27 [] [] [] (fun h:Nat×(Option Addr×Nat)×(Option Addr×Nat)×(Option Addr×Nat)=> .pointer (some ⟨h.1,0,none⟩)) (fun h=>[Ch.box h.1 115 [.slice h.2.1.1 r.l.length h.2.1.2,.slice h.2.2.1.1 r.bP.length h.2.2.1.2,.slice h.2.2.2.1 r.begun.length h.2.2.2.2],Ch.arr (Ty.slice aD) 40 h.2.1.1 h.2.1.2 r.l,Ch.arr (Ty.int .i64) 3 h.2.2.1.1 h.2.2.1.2 r.bP,Ch.arr aD 112 h.2.2.2.1 h.2.2.2.2 r.begun]) (fun h=>[]):=by
 delta qE at H
 refine Cf Go.Proofs.Tryz.func27 fun K=> ?_
 refine Z2 ?_
 refine La [] [] (Ac.bs (ty:=(Ty.int .i64)) (xs:=[0]) (.cons () [] rfl .nil) rfl rfl rfl rfl rfl rfl rfl) fun g1=> ?_
 refine Z0 ?_
 refine Lx fun g3=> ?_
 refine Z0 ?_
 refine E.iw (Ty.slice aD) 40 ?_
 refine E.iw aD 112 ?_
 cases H
 exact Eo1 (g3,(none,0),((some ⟨g1,0,none⟩),1),(none,0)) [2,1,1,0] []
theorem k9 {n_:Int} {lo:Int} {hi:Int} {r:Int} (H:iN n_ lo hi=some r):CT G 99 [.int .i64 n_,.int .i64 lo,.int .i64 hi] [] [] (fun _:Unit=> .int .i64 r) (fun h=>[]) (fun h=>[]):=by
 delta iN at H
 refine Cf Go.Proofs.Tryz.func99 fun K=> ?_
 refine Z2 ?_
 cases H
 exact Eo1 () [] []
theorem mW {n_:Int} {r:Int} (H:jv n_=some r):CT G 95 [.int .i64 n_] [] [] (fun _:Unit=> .int .i64 r) (fun h=>[]) (fun h=>[]):=by
 delta jv at H
 refine Cf Go.Proofs.Tryz.func95 fun K=> ?_
 refine Z2 ?_
 have ⟨r1,h2,H3⟩:=bnd H
 refine Lk [] [] (k9 h2) fun ⟨⟩=> ?_
 refine Z0 ?_
 cases H3
 exact Eo1 () [] []
theorem o6 {n_:Int} {lo:Int} {hi:Int} {r:Int} (H:kx n_ lo hi=some r):CT G 136 [.int .i64 n_,.int .i64 lo,.int .i64 hi] [] [] (fun _:Unit=> .int .i64 r) (fun h=>[]) (fun h=>[]):=by
 delta kx at H
 refine Cf Go.Proofs.Tryz.func136 fun K=> ?_
 refine Z2 ?_
 cases H
 exact Eo1 () [] []
theorem oc {aL:Int} {r:aG} (H:iL aL=some r):CT G 97 [.int .i64 aL] [] [] (fun _:Unit=> .agg #[.int .i32 r.rune,.int .i64 r.aL,.int .i64 r.part]) (fun h=>[]) (fun h=>[]):=by
 delta iL at H
 refine Cf Go.Proofs.Tryz.func97 fun K=> ?_
 refine Z1 ?_
 refine Ll fun g1=> ?_
 refine Z1 ?_
 refine Lt 0 ?_
 refine Z0 ?_
 cases H
 exact Eo () [] [] (.cell 0 rfl rfl rfl .nil)
theorem Bj {x_:Int} {y:Int} {r:Int×Int} (H:oA x_ y=some r):CT G 212 [.int .u64 x_,.int .u64 y] [] [] (fun _:Unit=> .tuple #[.int .u64 r.1,.int .u64 r.2]) (fun h=>[]) (fun h=>[]):=by
 delta oA at H
 refine Cf Go.Proofs.Tryz.func212 fun K=> ?_
 refine Z3 ?_
 refine Z3 ?_
 refine Z3 ?_
 refine Z3 ?_
 cases H
 exact Eo () [] [] (.tmp rfl (.tmp rfl .nil))
theorem Em {x_:Int} {y:Int} {r:Int×Int} (H:oN x_ y=some r):CT G 202 [.int .u64 x_,.int .u64 y] [] [] (fun _:Unit=> .tuple #[.int .u64 r.1,.int .u64 r.2]) (fun h=>[]) (fun h=>[]):=by
 delta oN at H
 refine Cf Go.Proofs.Tryz.func202 fun K=> ?_
 refine Y2 ?_
 refine T.cond rfl (fun h=>nomatch h) (fun _=> ?_)
 refine Z1 ?_
 have ⟨r1,h2,H3⟩:=bnd H
 refine Lk [] [] (Bj h2) fun ⟨⟩=> ?_
 refine Z1 ?_
 cases H3
 exact Eo () [] [] (.tmp rfl (.tmp rfl .nil))
theorem my {x_:List aG} {count:Int} {r:(List aG)} (H:eG x_ count=some r):CT G 172 [.slice A0 x_.length C0,.int .i64 count] [] [Im.sl aO A0 C0 x_] (fun h:(Option Addr×Nat)=> .slice h.1 r.length h.2) (fun h=>[Ch.arr aO 143 h.1 h.2 r]) (fun h=>[]):=by
 delta eG at H
 refine Cf Go.Proofs.Tryz.func172 fun K=> ?_
 refine Z3 ?_
 refine Tb H (fun H2=> ?_) fun H2=> ?_
 ·cases H2
 refine Z1 ?_
 have ⟨r3,h4,H5⟩:=bnd H2
 refine Lk [] [] (Em h4) fun ⟨⟩=> ?_
 refine Y2 ?_
 have ⟨e9,m,n⟩:=bnd H5
 refine Tj0 [(26,.bool e9)] [0,6] [] [] ?_ ?_
 ·refine Z0 ?_
  refine Lw 23 m (fun g=> ?_) fun g=> ?_
  ·refine Z0 ?_
   cases g
   exact Eg0 [] 0
  refine Z0 ?_
  cases g
  exact Eg0 [] 0
 refine Tb n (fun i=> ?_) fun i=> ?_
 ·cases i
 refine Z1 ?_
 have ⟨_,o,p⟩:=bnd i
 refine La [] [] (Ac.mk (ty:=aO) (aG.mk 0 0 0) () o (fun _ _ f hf=>by cases hf) rfl rfl rfl rfl rfl rfl rfl) fun q=> ?_
 refine Z1 ?_
 refine La [0] [0] (Ac.cp (ty:=aO) rfl rfl rfl rfl rfl rfl rfl) fun _=> ?_
 refine L.sl 7 (k':=(cpy (List.replicate (IntKind.i64.wrap r3.2).toNat (aG.mk 0 0 0)) x_).length) (CZ ..) rfl ?_
 refine Y1 ?_
 have ⟨j,s,t⟩:=bnd p
 refine Tjh (η:=(Option Addr×Nat)) (fun h=>(fun d e=>[(7,.slice d j.length e)]) h.1 h.2) [] (fun h=>(fun d e=>[Ch.arr aO 143 d e j]) h.1 h.2) [] (fun _=>[]) ?_ ?_
 ·refine Yl0 ?_
  refine Tq (η:=(Option Addr×Nat)) (fun a h=>(fun b c=>[(7,.slice b a.1.length c),(8,.int .i64 a.2)]) h.1 h.2) [] (fun a h=>(fun b c=>[Ch.arr aO 143 b c a.1]) h.1 h.2) [] (fun _ _=>[]) ((some ⟨q,0,none⟩),(IntKind.i64.wrap r3.2).toNat) [0] [] s ?_
  rintro k_ a ⟨b,c⟩ C u v w
  refine Z2 ?_
  refine Tb u (fun k=> ?_) fun k=> ?_
  ·refine Yl0 ?_
   refine Td [] [] mo ?_
   refine Dq 0 ?_
   refine Dq 1 ?_
   refine Dq 2 ?_
   have ⟨_,l,x⟩:=bnd k
   refine D.cap 0 rfl fun y=> ?_
   refine Dy 3 (Yl.sv (ty:=aO) y l rfl rfl rfl rfl rfl rfl rfl rfl) ?_
   refine Dq 4 ?_
   refine Dq 5 ?_
   have ⟨_,z,A⟩:=bnd x
   refine D.cap 0 rfl fun B=> ?_
   refine Dy 6 (Yl.sv (ty:=aO) B z rfl rfl rfl rfl rfl rfl rfl rfl) ?_
   refine Da [0] [] rfl rfl (Ac.cps (ty:=aO) l rfl rfl rfl rfl rfl rfl rfl) fun _=> ?_
   refine Dq 8 ?_
   refine Dq 9 ?_
   refine Dn ?_
   refine E.sl 7 (k':=(y4 a.1 a.2.toNat).length) (He l) rfl ?_
   refine Z0 ?_
   cases A
   exact Eg (_,(b,c)) (v _ rfl) [0] [] 0
  refine Z0 ?_
  cases k
  have hb:=w _ rfl
  subst j
  exact Eg (b,c) trivial [0] [] 0
 rintro ⟨d,e⟩
 refine Z1 ?_
 cases t
 exact Eo1 (d,e) [0] []
theorem oH {n_:Int} {aL:Int} {r:(List aG)} (H:jV n_ aL=some r):CT G 135 [.int .i64 n_,.int .i64 aL] [] [] (fun h:(Option Addr×Nat)=> .slice h.1 r.length h.2) (fun h=>[Ch.arr aO 143 h.1 h.2 r]) (fun h=>[]):=by
 delta jV at H
 refine Cf Go.Proofs.Tryz.func135 fun K=> ?_
 refine Z2 ?_
 have ⟨r1,h2,H3⟩:=bnd H
 refine Lk [] [] (oc h2) fun ⟨⟩=> ?_
 refine La [] [] (Ac.bs (ty:=aO) (xs:=[r1]) (.cons () [] rfl .nil) rfl rfl rfl rfl rfl rfl rfl) fun g4=> ?_
 refine Z0 ?_
 refine L.frz 0 rfl ?_
 have ⟨r7,h8,H9⟩:=bnd H3
 refine Lk [] [0] (my h8) fun ⟨a,b⟩=> ?_
 refine Z0 ?_
 cases H9
 exact Eo1 (a,b) [0] []
theorem pC {w:Int} {aL:Int} {r:aE} (H:jW w aL=some r):CT G 96 [.int .i64 w,.int .i64 aL] [] [] (fun h:(Option Addr×Nat)=> .agg #[.slice h.1 r.cells.length h.2,.bool r.wrapped]) (fun h=>[]) (fun h=>[Im.sl aO h.1 h.2 r.cells]):=by
 delta jW at H
 refine Cf Go.Proofs.Tryz.func96 fun K=> ?_
 refine Z1 ?_
 refine Ll fun g1=> ?_
 refine Z1 ?_
 have ⟨r2,h3,H4⟩:=bnd H
 refine Lk [] [] (o6 h3) fun ⟨⟩=> ?_
 refine Z0 ?_
 have ⟨r5,h6,H7⟩:=bnd H4
 refine Lk [] [] (oH h6) fun ⟨a8,c9⟩=> ?_
 refine Z0 ?_
 refine Lt 1 ?_
 refine Z0 ?_
 refine E.frz 1 rfl ?_
 cases H7
 exact Eo (a8,c9) [] [0] (.cell 0 rfl rfl rfl .nil)
theorem En {w:Int} {h_:Int} {r:aW} (H:oO w h_=some r):CT G 55 [.int .i64 w,.int .i64 h_] [] [] (fun h:Nat×(Option Addr×Nat)=> .pointer (some ⟨h.1,0,none⟩)) (fun h=>[Ch.box h.1 169 [.int .i64 r.w,.slice h.2.1 r.l.length h.2.2],Ch.arr aC 107 h.2.1 h.2.2 r.l]) (fun h=>[]):=by
 delta oO at H
 refine Cf Go.Proofs.Tryz.func55 fun K=> ?_
 refine Z2 ?_
 have ⟨r1,h2,H3⟩:=bnd H
 refine Lk [] [] (mW h2) fun ⟨⟩=> ?_
 refine Z0 ?_
 refine Lx fun g4=> ?_
 refine Z2 ?_
 have ⟨r5,h6,H7⟩:=bnd H3
 refine Lk [] [] (mW h6) fun ⟨⟩=> ?_
 refine Z0 ?_
 have ⟨d,i,j⟩:=bnd H7
 refine Tjh (η:=(Option Addr×Nat)) (fun _=>[]) [5] (fun h=>(fun e f=>[Ch.arr aC 107 e f d.l,Ch.box g4 169 [.int .i64 d.w,.slice e d.l.length f]]) h.1 h.2) [] (fun _=>[]) ?_ ?_
 ·refine Yl0 ?_
  refine T.iw aC 107 ?_
  refine Tq (η:=(Option Addr×Nat)) (fun a h=>(fun b c=>[(12,.int .i64 a.2)]) h.1 h.2) [5,11] (fun a h=>(fun b c=>[Ch.arr aC 107 b c a.1.l,Ch.box g4 169 [.int .i64 a.1.w,.slice b a.1.l.length c]]) h.1 h.2) [] (fun _ _=>[]) (none,0) [0,0] [] i ?_
  rintro k_ a ⟨b,c⟩ z k m n
  refine Y2 ?_
  refine Tb k (fun g=> ?_) fun g=> ?_
  ·refine Z1 ?_
   refine Yl0 ?_
   refine Td [14] [1] mo ?_
   refine Dq 0 ?_
   refine Dq 1 ?_
   refine Dq 2 ?_
   refine Dq 3 ?_
   refine Db 4 0 ?_
   refine Dq 5 ?_
   refine Dq 6 ?_
   refine Dq 7 ?_
   refine Db 8 0 ?_
   have ⟨o,p,q⟩:=bnd g
   refine Dk [] [] (pC p) fun ⟨s,t⟩=> ?_
   refine Da [] [0] rfl rfl (Ac.bs (ty:=aC) (xs:=[o]) (.cons (s,t) [0] rfl .nil) rfl rfl rfl rfl rfl rfl rfl) fun A=> ?_
   refine D.frz 0 rfl ?_
   have ⟨_,u,v⟩:=bnd q
   refine Da [0] [0] rfl rfl (Ac.ap (ty:=aC) u rfl rfl rfl rfl rfl rfl rfl) ?_
   rintro ⟨x,y⟩
   refine Dq 12 ?_
   refine Dq 13 ?_
   refine Dt 0 ?_
   refine Dn ?_
   refine Z0 ?_
   cases v
   exact Eg (_,(x,y)) (m _ rfl) [1,0] [] 2
  refine Z0 ?_
  cases g
  have hb:=n _ rfl
  subst d
  exact Eg (b,c) trivial [0,0] [] 0
 rintro ⟨e,f⟩
 refine Z1 ?_
 cases j
 exact Eo1 (g4,(e,f)) [1,0] []
theorem gJ {g:aW} {r:Int×Int} (H:dY g=some r):CT G 56 [.pointer (some ⟨N0,0,none⟩)] [Ch.box N0 169 [.int .i64 g.w,.slice A0 g.l.length C0],Ch.arr aC 107 A0 C0 g.l] [] (fun _:Unit=> .tuple #[.int .i64 r.1,.int .i64 r.2]) (fun h=>[Ch.box N0 169 [.int .i64 g.w,.slice A0 g.l.length C0],Ch.arr aC 107 A0 C0 g.l]) (fun h=>[]):=by
 delta dY at H
 refine Cf Go.Proofs.Tryz.func56 fun K=> ?_
 refine Y2 ?_
 refine Td [] [0,0] mo ?_
 refine Dq 0 ?_
 refine Dq 1 ?_
 refine Dq 2 ?_
 refine Db 3 0 ?_
 refine Dq 4 ?_
 refine Dq 5 ?_
 refine Dq 6 ?_
 refine Db 7 0 ?_
 refine Dq 8 ?_
 refine Dq 9 ?_
 refine Dq 10 ?_
 refine Dn ?_
 refine Z0 ?_
 cases H
 exact Eo () [0,0] [] (.tmp rfl (.tmp rfl .nil))
theorem vh {w:Int} {h_:Int} {r:aB} (H:l8 w h_=some r):CT G 28 [.int .i64 w,.int .i64 h_] [] [] (fun h:Nat×Nat×(Option Addr×Nat)=> .pointer (some ⟨h.1,0,none⟩)) (fun h=>[Ch.box h.1 124 (cD r h.2.1),Ch.box h.2.1 169 [.int .i64 r.g.w,.slice h.2.2.1 r.g.l.length h.2.2.2],Ch.arr aC 107 h.2.2.1 h.2.2.2 r.g.l]) (fun h=>[]):=by
 delta l8 at H
 refine Cf Go.Proofs.Tryz.func28 fun K=> ?_
 refine Z2 ?_
 have ⟨r1,h2,H3⟩:=bnd H
 refine Lk [] [] (En h2) fun ⟨g4,⟨a5,c6⟩⟩=> ?_
 refine Z0 ?_
 refine Lx fun g8=> ?_
 refine Z1 ?_
 have ⟨r9,a,b⟩:=bnd H3
 refine Lk [1,1] [] (gJ a) fun ⟨⟩=> ?_
 refine Z0 ?_
 refine Lt 2 ?_
 refine Z1 ?_
 refine Lt 0 ?_
 refine Z1 ?_
 cases b
 exact Eo1 (g8,g4,(a5,c6)) [0,0,0] []
theorem w7 {w:Int} {h_:Int} {r:bA} (H:mT w h_=some r):CT G 7 [.int .i64 w,.int .i64 h_] [] [] (fun h:Nat×Nat×(Option Addr×Nat)×(Option Addr×Nat)×(Option Addr×Nat)×Nat×(Option Addr×Nat)×(Option Addr×Nat)×Nat×Nat×(Option Addr×Nat)=> .pointer (some ⟨h.1,0,none⟩)) (fun h=>[Ch.box h.1 56 (pJ r h.2.1 h.2.2.2.2.2.1 h.2.2.2.2.2.2.2.2.1),Ch.box h.2.1 115 [.slice h.2.2.1.1 r.book.l.length h.2.2.1.2,.slice h.2.2.2.1.1 r.book.bP.length h.2.2.2.1.2,.slice h.2.2.2.2.1.1 r.book.begun.length h.2.2.2.2.1.2],Ch.arr (Ty.slice aD) 40 h.2.2.1.1 h.2.2.1.2 r.book.l,Ch.arr (Ty.int .i64) 3 h.2.2.2.1.1 h.2.2.2.1.2 r.book.bP,Ch.arr aD 112 h.2.2.2.2.1.1 h.2.2.2.2.1.2 r.book.begun,Ch.box h.2.2.2.2.2.1 76 (kV r.parser h.2.2.2.2.2.2.1.1 h.2.2.2.2.2.2.1.2),Ch.opt (r.parser.state == (3:Int)) (Ty.int .i64) 3 h.2.2.2.2.2.2.1.1 h.2.2.2.2.2.2.1.2 r.parser.order.bH,Ch.box h.2.2.2.2.2.2.2.2.1 124 (cD r.aR h.2.2.2.2.2.2.2.2.2.1),Ch.box h.2.2.2.2.2.2.2.2.2.1 169 [.int .i64 r.aR.g.w,.slice h.2.2.2.2.2.2.2.2.2.2.1 r.aR.g.l.length h.2.2.2.2.2.2.2.2.2.2.2],Ch.arr aC 107 h.2.2.2.2.2.2.2.2.2.2.1 h.2.2.2.2.2.2.2.2.2.2.2 r.aR.g.l]) (fun h=>[]):=by
 delta mT at H
 refine Cf Go.Proofs.Tryz.func7 fun K=> ?_
 refine Z2 ?_
 have ⟨r1,h2,H3⟩:=bnd H
 refine Lk [] [] (El h2) fun ⟨g4,⟨a5,c6⟩,⟨a7,c8⟩,⟨a9,a⟩⟩=> ?_
 refine Z0 ?_
 refine Lx fun b=> ?_
 refine Z0 ?_
 have ⟨m,c,d⟩:=bnd H3
 refine Lk [] [] (vh c) fun ⟨e,f,⟨i,j⟩⟩=> ?_
 refine Z0 ?_
 refine Lx fun k=> ?_
 refine Z0 ?_
 refine E.iw (Ty.int .i64) 3 ?_
 refine E.F9 0 (0 == (3:Int)) rfl ?_
 cases d
 exact Eo1 (k,g4,(a5,c6),(a7,c8),(a9,a),b,(none,0),(none,0),e,f,(i,j)) [1,5,5,5,5,4,0,0,0,0] []
theorem pK {n_:Int} {lo:Int} {hi:Int} {r:Int} (H:mq n_ lo hi=some r):CT G 57 [.int .i64 n_,.int .i64 lo,.int .i64 hi] [] [] (fun _:Unit=> .int .i64 r) (fun h=>[]) (fun h=>[]):=by
 delta mq at H
 refine Cf Go.Proofs.Tryz.func57 fun K=> ?_
 refine Z2 ?_
 cases H
 exact Eo1 () [] []
theorem sq {c:dF} {r:dF} (H:lU c=some r):CT G 29 [.agg #[.int .i64 c.part,.int .i64 c.every,.int .i64 c.most]] [] [] (fun _:Unit=> .agg #[.int .i64 r.part,.int .i64 r.every,.int .i64 r.most]) (fun h=>[]) (fun h=>[]):=by
 delta lU at H
 refine Cf Go.Proofs.Tryz.func29 fun K=> ?_
 refine Z1 ?_
 refine Lx fun g1=> ?_
 refine Ll fun g2=> ?_
 refine Y1 ?_
 refine Td [10] [0,0] mo ?_
 refine Dq 0 ?_
 refine Db 1 1 ?_
 refine Dq 3 ?_
 refine Db 4 1 ?_
 refine Dq 6 ?_
 refine Db 7 1 ?_
 have ⟨i,a,b⟩:=bnd H
 refine Dk [] [] (pK a) fun ⟨⟩=> ?_
 have ⟨j,d,e⟩:=bnd b
 refine Dk [] [] (pK d) fun ⟨⟩=> ?_
 have ⟨k,f,g⟩:=bnd e
 refine Dk [] [] (pK f) fun ⟨⟩=> ?_
 refine Dq 9 ?_
 refine Dt 0 ?_
 refine Dn ?_
 refine Z0 ?_
 cases g
 exact Eo () [] [] (.cell 0 rfl rfl rfl .nil)
theorem vi {c:dF} {r:aP} (H:m9 c=some r):CT G 8 [.agg #[.int .i64 c.part,.int .i64 c.every,.int .i64 c.most]] [] [] (fun h:Nat×(Option Addr×Nat)×(Option Addr×Nat)×(Option Addr×Nat)×(Option Addr×Nat)×(Option Addr×Nat)×(Option Addr×Nat)×(Option Addr×Nat)=> .pointer (some ⟨h.1,0,none⟩)) (fun h=>[Ch.box h.1 83 (zc r h.2.1.1 h.2.1.2 h.2.2.1.1 h.2.2.1.2 h.2.2.2.1.1 h.2.2.2.1.2 h.2.2.2.2.1.1 h.2.2.2.2.1.2 h.2.2.2.2.2.1.1 h.2.2.2.2.2.1.2 h.2.2.2.2.2.2.1.1 h.2.2.2.2.2.2.1.2 h.2.2.2.2.2.2.2.1 h.2.2.2.2.2.2.2.2),Ch.aro eS 42 h.2.2.2.2.2.1.1 h.2.2.2.2.2.1.2 r.kept,Ch.arr Ty.bool 4 h.2.2.2.2.2.2.2.1 h.2.2.2.2.2.2.2.2 r.message.there]) (fun h=>[Im.sl aC h.2.1.1 h.2.1.2 r.current.rows,Im.sl aD h.2.2.1.1 h.2.2.1.2 r.current.begun,Im.sl aC h.2.2.2.1.1 h.2.2.2.1.2 r.aY.rows,Im.sl aD h.2.2.2.2.1.1 h.2.2.2.2.1.2 r.aY.begun,Im.sl Ty.str h.2.2.2.2.2.2.1.1 h.2.2.2.2.2.2.1.2 r.message.parts]):=by
 delta m9 at H
 refine Cf Go.Proofs.Tryz.func8 fun K=> ?_
 refine Z1 ?_
 refine Lx fun g1=> ?_
 refine Z1 ?_
 have ⟨r2,h3,H4⟩:=bnd H
 refine Lk [] [] (sq h3) fun ⟨⟩=> ?_
 refine Z0 ?_
 refine L.rv 5 (.agg #[.int .i64 r2.part,.int .i64 r2.every,.int .i64 r2.most,.int .i64 0,.int .i64 0,.int .i64 0,.int .i64 0,.int .i64 0,.string (ByteArray.mk #[]),.slice none 0 0,.int .i64 0,.int .i64 0,.slice none 0 0,.int .i64 0,.int .i64 0,.int .i64 0,.int .i64 0,.int .i64 0,.string (ByteArray.mk #[]),.slice none 0 0,.int .i64 0,.int .i64 0,.slice none 0 0,.slice none 0 0,.int .i64 0,.int .i64 0,.int .i64 0,.slice none 0 0,.slice none 0 0,.int .i64 0,.int .i64 1]) rfl ?_
 refine Lx fun g5=> ?_
 refine Z0 ?_
 refine E.jr [Im.sl aC none 0 []] (fun A w _ _ f hf=>by rw [List.mem_singleton.1 hf]; exact Im.ib A w) ?_
 refine E.jr [Im.sl aD none 0 []] (fun A w _ _ f hf=>by rw [List.mem_singleton.1 hf]; exact Im.ib A w) ?_
 refine E.jr [Im.sl aC none 0 []] (fun A w _ _ f hf=>by rw [List.mem_singleton.1 hf]; exact Im.ib A w) ?_
 refine E.jr [Im.sl aD none 0 []] (fun A w _ _ f hf=>by rw [List.mem_singleton.1 hf]; exact Im.ib A w) ?_
 refine E.iw eS 42 ?_
 refine E.PA 0 rfl ?_
 refine E.jr [Im.sl Ty.str none 0 []] (fun A w _ _ f hf=>by rw [List.mem_singleton.1 hf]; exact Im.ib A w) ?_
 refine E.iw Ty.bool 4 ?_
 cases H4
 exact Eo1 (g5,(none,0),(none,0),(none,0),(none,0),(none,0),(none,0),(none,0)) [2,1,0] [4,3,2,1,0]
theorem w9 {r:bB} (H:nZ=some r):CT G 9 [] [] [] (fun h:Nat×Nat×Option Nat×(Option Addr×Nat)×(Option Addr×Nat)=> .pointer (some ⟨h.1,0,none⟩)) (fun h=>[Ch.box h.1 65 (rD r h.2.1 h.2.2.2.1.1 h.2.2.2.1.2 h.2.2.2.2.1 h.2.2.2.2.2),Ch.box h.2.1 86 (kB r.slot h.2.2.1),Ch.mp Ty.str false h.2.2.1 r.slot.parts]) (fun h=>[Im.sl aC h.2.2.2.1.1 h.2.2.2.1.2 r.cN.rows,Im.sl aD h.2.2.2.2.1 h.2.2.2.2.2 r.cN.begun]):=by
 delta nZ at H
 refine Cf Go.Proofs.Tryz.func9 fun K=> ?_
 refine Z2 ?_
 refine Lx fun g1=> ?_
 refine Z0 ?_
 refine Lx fun g2=> ?_
 refine Z0 ?_
 refine E.mp0 Ty.str false ?_
 refine E.jr [Im.sl aC none 0 []] (fun A w _ _ f hf=>by rw [List.mem_singleton.1 hf]; exact Im.ib A w) ?_
 refine E.jr [Im.sl aD none 0 []] (fun A w _ _ f hf=>by rw [List.mem_singleton.1 hf]; exact Im.ib A w) ?_
 cases H
 exact Eo1 (g2,g1,none,(none,0),(none,0)) [1,1,0] [1,0]
theorem CH {s_:ByteArray} {n_:Int} {r:ByteArray} (H:n5 s_ n_=some r):CT G 11 [.string s_,.int .i64 n_] [] [] (fun _:Unit=> .string r) (fun h=>[]) (fun h=>[]):=by
 delta n5 at H
 refine Cf Go.Proofs.Tryz.func11 fun K=> ?_
 refine Z3 ?_
 refine Tb H (fun H4=> ?_) fun H4=> ?_
 ·refine Z1 ?_
  have ⟨_,h5,H6⟩:=bnd H4
  refine Ly (Yl.sc h5 rfl rfl rfl rfl rfl rfl) ?_
  refine Z0 ?_
  cases H6
  exact Eo1 () [] []
 refine Z1 ?_
 cases H4
 exact Eo1 () [] []
theorem tv {e:ky} {r:Int} (H:jj e=some r):CT G 30 [.agg (L1 e).toArray] [] [] (fun _:Unit=> .int .i64 r) (fun h=>[]) (fun h=>[]):=by
 delta jj at H
 refine Cf Go.Proofs.Tryz.func30 fun K=> ?_
 refine Z1 ?_
 refine Lx fun g1=> ?_
 refine Z2 ?_
 have ⟨a,l,b⟩:=bnd H
 refine Tj (η:=Unit×Unit) (fun h=>a = .inl h.1) (fun _=>[]) [] (fun _=>[]) [0] (fun _=>[]) ?_ ?_
 ·refine Zl ?_
  refine Z1 ?_
  refine Tb l (fun c=> ?_) fun c=> ?_
  ·refine Z1 ?_
   refine Tb c (fun d=> ?_) fun d=> ?_
   ·refine Z1 ?_
    obtain ⟨t,hz,m⟩:=dX d
    subst a
    obtain rfl:=(sm b).symm
    refine Z0 ?_
    cases m
    exact Eo1 () [] []
   refine Z0 ?_
   cases d
   exact Eg (_,()) rfl [0] [] 0
  refine Z1 ?_
  refine Tb c (fun f=> ?_) fun f=> ?_
  ·refine Y1 ?_
   have ⟨n,o,p⟩:=bnd f
   refine Tj0 [(30,.bool n)] [] [] [0] ?_ ?_
   ·refine Z0 ?_
    refine Lw 16 o (fun g=> ?_) fun g=> ?_
    ·refine Z0 ?_
     cases g
     exact Eg0 [0] 0
    refine Z0 ?_
    refine Lw 21 g (fun i=> ?_) fun i=> ?_
    ·refine Z0 ?_
     cases i
     exact Eg0 [0] 0
    refine Z0 ?_
    refine Lw 26 i (fun j=> ?_) fun j=> ?_
    ·refine Z0 ?_
     cases j
     exact Eg0 [0] 0
    refine Z0 ?_
    cases j
    exact Eg0 [0] 0
   refine Tb p (fun k=> ?_) fun k=> ?_
   ·refine Z1 ?_
    obtain ⟨u,hz,q⟩:=dX k
    subst a
    obtain rfl:=(sm b).symm
    refine Z0 ?_
    cases q
    exact Eo1 () [] []
   refine Z0 ?_
   cases k
   exact Eg (_,()) rfl [0] [] 0
  refine Z1 ?_
  obtain ⟨v,hz,s⟩:=dX f
  subst a
  obtain rfl:=(sm b).symm
  refine Z0 ?_
  cases s
  exact Eo1 () [] []
 rintro ⟨w,⟨⟩⟩ hy
 subst hy
 refine Z1 ?_
 cases b
 exact Eo1 () [] []
theorem lJ {n_:Int} {lo:Int} {hi:Int} {r:Int} (H:gN n_ lo hi=some r):CT G 61 [.int .i64 n_,.int .i64 lo,.int .i64 hi] [] [] (fun _:Unit=> .int .i64 r) (fun h=>[]) (fun h=>[]):=by
 delta gN at H
 refine Cf Go.Proofs.Tryz.func61 fun K=> ?_
 refine Z2 ?_
 cases H
 exact Eo1 () [] []
theorem iH {ys:List aE} (a_0:Option Addr) (c_0:Nat) (a9:Option Addr) (c9:Nat) {lo hi:Int} (hv:Vw aC ys a_0 c_0 a9 c9 lo hi) {r:List aE} (H:eC (cut ys lo hi)=some r):CT G 100 [.slice a9 (cut ys lo hi).length c9] [Ch.arr aC 107 a_0 c_0 ys] [] (fun h:(Option Addr×Nat)=> .slice h.1 r.length h.2) (fun h=>[Ch.arr aC 107 h.1 h.2 r,Ch.arr aC 107 a_0 c_0 ys]) (fun h=>[]):=by
  delta eC at H
  refine Cf Go.Proofs.Tryz.func100 fun K=> ?_
  have ⟨_,h0,H⟩:=bnd H
  have hr:=Option.some.inj H
  refine T.seq (T.region (L.q 1 rfl (L.nil (E.then (T.seq (T.seq (T.region ?_)))))))
  refine L.q 1 rfl ?_
  refine L.Ok 0 hv rfl rfl rfl rfl rfl rfl rfl rfl rfl (fun hx=> ?_) ?_
  · refine L.nil (E.then (T.cond rfl (fun _=> ?_) (fun h=>nomatch h)))
    refine T.seq (T.region (L.q 1 rfl (L.nil (E.then (T.ret (E.rL ?_))))))
    rw [hx] at hr
    subst r
    refine E.iw aC 107 ?_
    exact E.ret (none,0) [0,0] [] (.tmp rfl .nil) rfl rfl rfl
  · refine L.nil (E.then (T.cond rfl (fun h=>nomatch h) (fun _=> ?_)))
    refine T.skip (E.then (T.seq (T.region ?_)))
    refine L.a [] [] (Ac.bs (ty:=aC) (xs:=[]) .nil rfl rfl rfl rfl rfl rfl rfl) rfl rfl rfl rfl rfl ?_
    intro g1
    refine L.q 1 rfl ?_
    refine L.a [0,0] [] (Ac.apv (ty:=aC) hv h0 rfl rfl rfl rfl rfl rfl rfl) rfl rfl rfl rfl rfl ?_
    rintro ⟨a1,c1⟩
    refine L.q 1 rfl ?_
    refine L.nil (E.then (T.ret ?_))
    subst r
    exact E.ret (a1,c1) [0,0] [] (.tmp rfl .nil) rfl rfl rfl
theorem kW {s_:List aG} (a_0:Option Addr) (c_0:Nat) {r:List aG} (H:eP s_=some r):CT G 76 [.slice a_0 s_.length c_0] [] [Im.sl aO a_0 c_0 s_] (fun h:(Option Addr×Nat)=> .slice h.1 r.length h.2) (fun h=>[Ch.arr aO 143 h.1 h.2 r]) (fun h=>[]):=by
  delta eP at H
  refine Cf Go.Proofs.Tryz.func76 fun K=> ?_
  have ⟨_,h0,H⟩:=bnd H
  have hr:=Option.some.inj H
  refine T.seq (T.region (L.q 1 rfl (L.nil (E.then (T.seq (T.seq (T.region ?_)))))))
  refine L.q 1 rfl ?_
  refine L.Oi 0 rfl rfl rfl rfl rfl rfl rfl rfl rfl (fun ha hx=> ?_) ?_
  · refine L.nil (E.then (T.cond rfl (fun _=> ?_) (fun h=>nomatch h)))
    refine T.seq (T.region (L.q 1 rfl (L.nil (E.then (T.ret (E.rL ?_))))))
    subst hx
    subst r
    refine E.iw aO 143 ?_
    exact E.ret (none,0) [0] [] (.tmp rfl .nil) rfl rfl rfl
  · refine L.nil (E.then (T.cond rfl (fun h=>nomatch h) (fun _=> ?_)))
    refine T.skip (E.then (T.seq (T.region ?_)))
    refine L.a [] [] (Ac.bs (ty:=aO) (xs:=[]) .nil rfl rfl rfl rfl rfl rfl rfl) rfl rfl rfl rfl rfl ?_
    intro g1
    refine L.q 1 rfl ?_
    refine L.a [0] [0] (Ac.ap (ty:=aO) h0 rfl rfl rfl rfl rfl rfl rfl) rfl rfl rfl rfl rfl ?_
    rintro ⟨a1,c1⟩
    refine L.q 1 rfl ?_
    refine L.nil (E.then (T.ret ?_))
    subst r
    exact E.ret (a1,c1) [0] [] (.tmp rfl .nil) rfl rfl rfl
theorem jT {r_:aE} {r:(List aG)} (H:fM r_=some r):CT G 174 [.agg #[.slice A0 r_.cells.length C0,.bool r_.wrapped]] [] [Im.sl aO A0 C0 r_.cells] (fun h:(Option Addr×Nat)=> .slice h.1 r.length h.2) (fun h=>[Ch.arr aO 143 h.1 h.2 r]) (fun h=>[]):=by
 delta fM at H
 refine Cf Go.Proofs.Tryz.func174 fun K=> ?_
 refine Z1 ?_
 refine Lx fun g1=> ?_
 refine Z1 ?_
 have ⟨r2,h3,H4⟩:=bnd H
 refine Lk [] [0] (kW A0 C0 h3) fun ⟨a5,c6⟩=> ?_
 refine Z0 ?_
 cases H4
 exact Eo1 (a5,c6) [0] []
theorem Bk {l:List aG} {i:Int} {r:Bool} (H:l7 l i=some r):CT G 203 [.slice A0 l.length C0,.int .i64 i] [] [Im.sl aO A0 C0 l] (fun _:Unit=> .bool r) (fun h=>[]) (fun h=>[]):=by
 delta l7 at H
 refine Cf Go.Proofs.Tryz.func203 fun K=> ?_
 refine Z3 ?_
 have ⟨x1,h2,H3⟩:=bnd H
 refine L.addr 0 rfl (cL h2) fun b4 o5 e6=> ?_
 subst e6
 refine Ly (Yl.ia h2 rfl rfl rfl rfl rfl rfl) ?_
 refine L.el 0 rfl (aU h2).2 ?_
 rintro _
 refine Z0 ?_
 refine Lc 0 2 ?_
 refine Zl ?_
 refine Z1 ?_
 refine Tb H3 (fun a=> ?_) fun a=> ?_
 ·refine Y1 ?_
  have ⟨j,k,m⟩:=bnd a
  refine Tj0 [(4,.bool j)] [] [] [] ?_ ?_
  ·refine Z0 ?_
   refine Lw 17 k (fun b=> ?_) fun b=> ?_
   ·refine Z0 ?_
    cases b
    exact Eg0 [] 0
   refine Z0 ?_
   have ⟨t,f,n⟩:=bnd b
   refine Ly (Yl.ia f rfl rfl rfl rfl rfl rfl) ?_
   refine L.el 1 rfl (aU f).2 ?_
   rintro _
   refine Z0 ?_
   refine Lc 0 2 ?_
   refine Z0 ?_
   cases n
   exact Eg0 [] 1
  refine Z0 ?_
  cases m
  exact Eo1 () [] []
 refine Z1 ?_
 refine Tb a (fun c=> ?_) fun c=> ?_
 ·refine Y1 ?_
  have ⟨o,p,q⟩:=bnd c
  refine Tj0 [(4,.bool o)] [] [] [] ?_ ?_
  ·refine Z0 ?_
   refine Lw 30 p (fun d=> ?_) fun d=> ?_
   ·refine Z0 ?_
    cases d
    exact Eg0 [] 0
   refine Z0 ?_
   have ⟨u,g,s⟩:=bnd d
   refine Ly (Yl.ia g rfl rfl rfl rfl rfl rfl) ?_
   refine L.el 1 rfl (aU g).2 ?_
   rintro _
   refine Z0 ?_
   refine Lc 0 2 ?_
   refine Z0 ?_
   cases s
   exact Eg0 [] 1
  refine Z0 ?_
  cases q
  exact Eo1 () [] []
 refine Z1 ?_
 refine Tb c (fun e=> ?_) fun e=> ?_
 ·refine Z1 ?_
  cases e
  exact Eo1 () [] []
 refine Z1 ?_
 cases e
 exact Eo1 () [] []
theorem lY {l:List aG} {r:aE} (H:fH l=some r):CT G 175 [.slice A0 l.length C0] [Ch.arr aO 143 A0 C0 l] [] (fun _:Unit=> .agg #[.slice A0 r.cells.length C0,.bool r.wrapped]) (fun h=>[]) (fun h=>[Im.sl aO A0 C0 r.cells]):=by
 delta fH at H
 refine Cf Go.Proofs.Tryz.func175 fun K=> ?_
 refine Z1 ?_
 refine Ll fun g1=> ?_
 refine Z2 ?_
 have ⟨b,j,k⟩:=bnd H
 refine Tj0 [(0,.slice A0 b.length C0)] [2] [Ch.arr aO 143 A0 C0 b] [0] ?_ ?_
 ·refine Yl0 ?_
  refine Tq (η:=Unit) (fun a h=>[(0,.slice A0 a.1.length C0),(6,.int .i64 a.2)]) [2,5] (fun a h=>[Ch.arr aO 143 A0 C0 a.1]) [0] (fun _ _=>[]) () [1,0] [] j ?_
  rintro k_ a ⟨⟩ B m n o
  refine Y2 ?_
  refine Tb m (fun c=> ?_) fun c=> ?_
  ·refine Y1 ?_
   have ⟨f,p,q⟩:=bnd c
   refine Tj0 [(0,.slice A0 f.length C0)] [2,5,6] [Ch.arr aO 143 A0 C0 f] [1] ?_ ?_
   ·refine Zl ?_
    refine Z2 ?_
    have ⟨C,s,t⟩:=bnd p
    refine L.br (Ac.call (Bk s) rfl rfl rfl rfl) (Bw.ch 0 rfl (Bw.nil)) rfl rfl rfl ?_
    intro _
    refine Z0 ?_
    refine Tb t (fun d=> ?_) fun d=> ?_
    ·refine Z0 ?_
     have ⟨u,e,w⟩:=bnd d
     refine L.lQ 0 rfl (cL e) fun F x=> ?_
     subst x
     refine Ly (Yl.ia e rfl rfl rfl rfl rfl rfl) ?_
     refine Z0 ?_
     refine Ly (Yl.lo (v:= .int .i64 u.aL) 0 a.2.toNat 1 (aU e).2 rfl rfl rfl rfl (fun _=>rfl)) ?_
     have ⟨g,y,z⟩:=bnd w
     refine Lk [] [] (oc y) fun ⟨⟩=> ?_
     have ⟨I,i,A⟩:=bnd z
     refine Ly (Yl.ia i rfl rfl rfl rfl rfl rfl) ?_
     refine La [0] [] (Ac.se 0 g (aU i).2 rfl rfl rfl rfl rfl rfl (fun _=>⟨(),rfl,[],rfl⟩)) fun _=> ?_
     refine L.sl 0 (k':=(a.1.set a.2.toNat g).length) (List.length_set ..) rfl ?_
     refine Z0 ?_
     cases A
     exact Eg0 [0,0] 0
    refine Z0 ?_
    cases d
    exact Eg0 [0,0] 0
   refine Z0 ?_
   cases q
   exact Eg (_,()) (n _ rfl) [0,0] [] 0
  refine Z0 ?_
  cases c
  have hb:=o _ rfl
  subst b
  exact Eg0 [0,0] 0
 refine Z1 ?_
 refine Lt 1 ?_
 refine Z0 ?_
 refine E.frz 1 rfl ?_
 cases k
 exact Eo () [] [0] (.cell 0 rfl rfl rfl .nil)
theorem wA {r_:aE} {w:Int} {r:aE} (H:jA r_ w=some r):CT G 137 [.agg #[.slice A0 r_.cells.length C0,.bool r_.wrapped],.int .i64 w] [] [Im.sl aO A0 C0 r_.cells] (fun h:(Option Addr×Nat)=> .agg #[.slice h.1 r.cells.length h.2,.bool r.wrapped]) (fun h=>[]) (fun h=>[Im.sl aO h.1 h.2 r.cells]):=by
 delta jA at H
 refine Cf Go.Proofs.Tryz.func137 fun K=> ?_
 refine Z1 ?_
 refine Lx fun g1=> ?_
 refine Ll fun g2=> ?_
 refine Z1 ?_
 have ⟨r3,h4,H5⟩:=bnd H
 refine Lk [] [] (o6 h4) fun ⟨⟩=> ?_
 refine Z1 ?_
 have ⟨r6,h7,H8⟩:=bnd H5
 refine Lk [] [0] (jT h7) fun ⟨a9,c⟩=> ?_
 refine Z2 ?_
 refine Tb H8 (fun b=> ?_) fun b=> ?_
 ·refine Z1 ?_
  refine Lt 1 ?_
  refine Z0 ?_
  refine E.frz 1 rfl ?_
  cases b
  exact Eo (a9,c) [] [0] (.cell 0 rfl rfl rfl .nil)
 refine Y1 ?_
 refine Td [13] [1,1] mo ?_
 refine Dq 0 ?_
 refine Dq 1 ?_
 refine Dq 2 ?_
 refine Dq 3 ?_
 refine Dq 4 ?_
 refine Dq 6 ?_
 refine Dq 7 ?_
 refine Dq 8 ?_
 refine Dq 9 ?_
 refine DF.of rfl ?_
 have ⟨o,d,e⟩:=bnd b
 refine DF.add _ (FSp.ac 10 [] (Ac.frz (Ac.call (oH d) rfl rfl rfl rfl)) rfl rfl rfl rfl rfl) rfl ?_
 refine DF.step 5 rfl rfl rfl rfl rfl ?_
 have ⟨_,f,g⟩:=bnd e
 refine DFp.a [0] [] (Ac.rso f rfl rfl rfl rfl rfl rfl rfl) rfl rfl rfl rfl rfl rfl rfl rfl ?_
 intro _
 refine DF.step 11 rfl rfl rfl rfl rfl ?_
 refine DFp.use 0 rfl rfl rfl ?_
 rintro ⟨p,q⟩
 have ⟨_,i,j⟩:=bnd g
 refine DFp.a [0] [0] (Ac.ap (ty:=aO) i rfl rfl rfl rfl rfl rfl rfl) rfl rfl rfl rfl rfl rfl rfl rfl ?_
 rintro ⟨k,l⟩
 refine DF.step 12 rfl rfl rfl rfl rfl ?_
 have ⟨s,m,n⟩:=bnd j
 refine DFp.a [0] [] (Ac.call (lY m) rfl rfl rfl rfl) rfl rfl rfl rfl rfl rfl rfl rfl ?_
 rintro ⟨⟩
 refine DF.step 13 rfl rfl rfl rfl rfl ?_
 refine DFp.al [0] [] (Ac.stb rfl rfl rfl rfl rfl rfl) rfl rfl rfl rfl rfl rfl rfl ?_
 intro _
 refine DF.fin rfl rfl rfl rfl rfl ?_
 refine DFe.nil ?_
 refine Z0 ?_
 cases n
 exact Eo (k,l) [] [0] (.cell 0 rfl rfl rfl .nil)
theorem jU {g:aW} {y:Int} {r_:aE} {r:Bool×aW} (H:fA g y r_=some r):CT G 101 [.pointer (some ⟨N0,0,none⟩),.int .i64 y,.agg #[.slice A1 r_.cells.length C1,.bool r_.wrapped]] [Ch.box N0 169 [.int .i64 g.w,.slice A0 g.l.length C0],Ch.arr aC 107 A0 C0 g.l] [Im.sl aO A1 C1 r_.cells] (fun _:Unit=> .bool r.1) (fun h=>[Ch.box N0 169 [.int .i64 r.2.w,.slice A0 r.2.l.length C0],Ch.arr aC 107 A0 C0 r.2.l]) (fun h=>[]):=by
 delta fA at H
 refine Cf Go.Proofs.Tryz.func101 fun K=> ?_
 refine Z1 ?_
 refine Lx fun g1=> ?_
 refine Y2 ?_
 have ⟨e5,H6,H7⟩:=bnd H
 refine Tj0 [(17,.bool e5)] [0,1,5] [] [0,1,2] ?_ ?_
 ·refine Z0 ?_
  refine Lw 9 H6 (fun H8=> ?_) fun H8=> ?_
  ·refine Z0 ?_
   cases H8
   exact Eg0 [0,0,0] 0
  refine Z0 ?_
  cases H8
  exact Eg0 [0,0,0] 0
 refine Tb H7 (fun a=> ?_) fun a=> ?_
 ·refine Z1 ?_
  cases a
  exact Eo1 () [1,1] []
 refine Y1 ?_
 refine Td [12] [0,0,0] mo ?_
 refine Dq 0 ?_
 refine Dq 1 ?_
 refine Dq 2 ?_
 refine Db 3 1 ?_
 refine Dq 4 ?_
 refine Db 5 0 ?_
 refine Dq 6 ?_
 refine Dq 7 ?_
 refine Dq 8 ?_
 refine Db 9 1 ?_
 have ⟨c,d,e⟩:=bnd a
 refine Dk [] [0] (wA d) fun ⟨f,i⟩=> ?_
 have ⟨n,b,j⟩:=bnd e
 refine D.lQ 2 rfl (cL b) fun k m=> ?_
 subst m
 refine Dy 11 (Yl.ia b rfl rfl rfl rfl rfl rfl) ?_
 refine D.one rfl rfl rfl (Dp.al [2] [0] (Ac.se 0 c (aU b).2 rfl rfl rfl rfl rfl rfl (fun _=>⟨(f,i),rfl,[1],rfl⟩)) rfl rfl rfl rfl rfl rfl rfl ?_)
 intro _
 refine Dn ?_
 refine E.bx 2 (cs':=[.int .i64 g.w,.slice (some ⟨k,0,none⟩) (g.l.set y.toNat c).length C0]) (by rw [(List.length_set ..)]) rfl ?_
 refine Z1 ?_
 cases j
 exact Eo1 () [0,0] []
theorem uB {g:aW} {w:Int} {h_:Int} {off:Int} {r:(List aE)×aW} (H:jF g w h_ off=some r):CT G 62 [.pointer (some ⟨N0,0,none⟩),.int .i64 w,.int .i64 h_,.int .i64 off] [Ch.box N0 169 [.int .i64 g.w,.slice A0 g.l.length C0],Ch.arr aC 107 A0 C0 g.l] [] (fun h:(Option Addr×Nat)×(Option Addr×Nat)=> .slice h.1.1 r.1.length h.1.2) (fun h=>[Ch.arr aC 107 h.1.1 h.1.2 r.1,Ch.box N0 169 [.int .i64 r.2.w,.slice h.2.1 r.2.l.length h.2.2],Ch.arr aC 107 h.2.1 h.2.2 r.2.l]) (fun h=>[]):=by
 delta jF at H
 refine Cf Go.Proofs.Tryz.func62 fun K=> ?_
 refine Z2 ?_
 have ⟨r1,h2,H3⟩:=bnd H
 refine Lk [] [] (k9 h2) fun ⟨⟩=> ?_
 refine Z1 ?_
 have ⟨_,h4,H5⟩:=bnd H3
 refine L.cap 1 rfl fun h9=> ?_
 refine Ly (Yl.sv (ty:=aC) h9 h4 rfl rfl rfl rfl rfl rfl rfl rfl) ?_
 have A:Vw aC g.l A0 C0 (ku A0 C0 0 (aC).sz) (C0 - (0:Int).toNat) 0 r1:=vM h4 h9
 have ⟨a3,B,C⟩:=bnd H5
 refine Lk [1] [] (iH A0 C0 (ku A0 C0 0 (aC).sz) (C0 - (0:Int).toNat) A B) fun ⟨F,I⟩=> ?_
 refine Z1 ?_
 have ⟨_,t,J⟩:=bnd C
 refine L.cap 1 rfl fun u=> ?_
 refine Ly (Yl.sv (ty:=aC) u t rfl rfl rfl rfl rfl rfl rfl rfl) ?_
 have M:Vw aC g.l A0 C0 (ku A0 C0 r1 (aC).sz) (C0 - r1.toNat) r1 (g.l.length:Int):=vM t u
 have ⟨a4,N,O⟩:=bnd J
 refine Lk [1] [] (iH A0 C0 (ku A0 C0 r1 (aC).sz) (C0 - r1.toNat) M N) fun ⟨P,Q⟩=> ?_
 refine Z1 ?_
 have ⟨a5,R,S⟩:=bnd O
 refine Lk [] [] (mW R) fun ⟨⟩=> ?_
 refine Z0 ?_
 have ⟨_,U,V⟩:=bnd S
 refine La [0] [] (Ac.rso U rfl rfl rfl rfl rfl rfl rfl) fun _=> ?_
 refine Y1 ?_
 have ⟨o,W,X⟩:=bnd V
 refine Tjh (η:=(Option Addr×Nat)) (fun h=>(fun c d=>[(10,.slice c o.length d)]) h.1 h.2) [0,1,9] (fun h=>(fun c d=>[Ch.arr aC 107 c d o]) h.1 h.2) [3,1,2] (fun _=>[]) ?_ ?_
 ·refine Yl0 ?_
  refine Tq (η:=(Option Addr×Nat)) (fun j h=>(fun e f=>[(10,.slice e j.length f)]) h.1 h.2) [0,1,2,9] (fun j h=>(fun e f=>[Ch.arr aC 107 e f j]) h.1 h.2) [3,1,2] (fun _ _=>[]) (P,Q) [0,2,0,0] [] W ?_
  rintro k_ j ⟨e,f⟩ a6 Y Z aa
  refine Z2 ?_
  have ⟨a7,ab,ac⟩:=bnd Y
  refine Lk [] [] (mW ab) fun ⟨⟩=> ?_
  refine Z0 ?_
  refine Tb ac (fun p=> ?_) fun p=> ?_
  ·refine Zl ?_
   have ⟨a8,ad,ae⟩:=bnd p
   refine Lk [] [] (mW ad) fun ⟨⟩=> ?_
   have ⟨af,ag,ah⟩:=bnd ae
   refine Lk [] [] (pC ag) fun ⟨ai,aj⟩=> ?_
   refine La [] [0] (Ac.bs (ty:=aC) (xs:=[af]) (.cons (ai,aj) [0] rfl .nil) rfl rfl rfl rfl rfl rfl rfl) fun a9=> ?_
   refine L.frz 0 rfl ?_
   have ⟨_,ak,al⟩:=bnd ah
   refine La [0] [0] (Ac.ap (ty:=aC) ak rfl rfl rfl rfl rfl rfl rfl) ?_
   rintro ⟨am,an⟩
   refine Z0 ?_
   cases al
   exact Eg (_,(am,an)) (Z _ rfl) [0,0,0,0] [] 2
  refine Z0 ?_
  cases p
  have hb:=aa _ rfl
  subst o
  exact Eg (e,f) trivial [0,0,0,0] [] 0
 rintro ⟨c,d⟩
 refine Z1 ?_
 have ⟨ba,ao,aq⟩:=bnd X
 refine Lk [] [] (mW ao) fun ⟨⟩=> ?_
 refine Z0 ?_
 refine Lt 1 ?_
 refine Z0 ?_
 refine Lt 0 ?_
 refine Z2 ?_
 have ⟨k,ar,au⟩:=bnd aq
 refine Tjh (η:=(Option Addr×Nat)) (fun _=>[]) [9] (fun h=>(fun m n=>[Ch.arr aC 107 m n k.l,Ch.box N0 169 [.int .i64 k.w,.slice m k.l.length n]]) h.1 h.2) [3] (fun _=>[]) ?_ ?_
 ·refine Yl0 ?_
  refine Tq (η:=(Option Addr×Nat)) (fun a h=>(fun i b=>[(66,.int .i64 a.2)]) h.1 h.2) [0,9,65] (fun a h=>(fun i b=>[Ch.arr aC 107 i b a.1.l,Ch.box N0 169 [.int .i64 a.1.w,.slice i a.1.l.length b]]) h.1 h.2) [3] (fun _ _=>[]) (c,d) [1,0,1] [] ar ?_
  rintro k_ a ⟨i,b⟩ bb av aw ax
  refine Y2 ?_
  refine Tb av (fun q=> ?_) fun q=> ?_
  ·refine Z1 ?_
   refine Zl ?_
   refine Z1 ?_
   have ⟨x,s,ay⟩:=bnd q
   refine L.lQ 0 rfl (cL s) fun az a0=> ?_
   subst a0
   refine Ly (Yl.ia s rfl rfl rfl rfl rfl rfl) ?_
   refine La [0] [] (Ac.lo a.2.toNat 0 (v:=(fun h:(Option Addr×Nat)=>(fun y z=> .agg #[.slice y x.cells.length z,.bool x.wrapped]) h.1 h.2)) (aU s).2 rfl rfl rfl (fun _=>rfl)) ?_
   rintro ⟨y,z⟩
   have ⟨bc,a1,a2⟩:=bnd ay
   refine Lk [1,0] [0] (jU a1) fun ⟨⟩=> ?_
   refine Z0 ?_
   cases a2
   exact Eg (_,((some ⟨az,0,none⟩),b)) (aw _ rfl) [1,0,0] [] 1
  refine Z0 ?_
  cases q
  have hb:=ax _ rfl
  subst k
  exact Eg (i,b) trivial [0,0,0] [] 0
 rintro ⟨m,n⟩
 refine Z1 ?_
 cases au
 exact Eo1 ((F,I),(m,n)) [2,1,0] []
theorem lZ {s_:aB} {r:Int×Int} (H:eD s_=some r):CT G 64 [.pointer (some ⟨N0,0,none⟩)] [Ch.box N0 124 (cD s_ N1),Ch.box N1 169 [.int .i64 s_.g.w,.slice A0 s_.g.l.length C0],Ch.arr aC 107 A0 C0 s_.g.l] [] (fun _:Unit=> .tuple #[.int .i64 r.1,.int .i64 r.2]) (fun h=>[Ch.box N0 124 (cD s_ N1),Ch.box N1 169 [.int .i64 s_.g.w,.slice A0 s_.g.l.length C0],Ch.arr aC 107 A0 C0 s_.g.l]) (fun h=>[]):=by
 delta eD at H
 refine Cf Go.Proofs.Tryz.func64 fun K=> ?_
 refine Z2 ?_
 have ⟨r1,h2,H3⟩:=bnd H
 refine Lk [1,1] [] (gJ h2) fun ⟨⟩=> ?_
 refine Z1 ?_
 cases H3
 exact Eo () [2,0,0] [] (.tmp rfl (.tmp rfl .nil))
theorem bX {s_:aB} {x_:Int} {y:Int} {r:aB} (H:bG s_ x_ y=some r):CT G 63 [.pointer (some ⟨N0,0,none⟩),.int .i64 x_,.int .i64 y] [Ch.box N0 124 (cD s_ N1),Ch.box N1 169 [.int .i64 s_.g.w,.slice A0 s_.g.l.length C0],Ch.arr aC 107 A0 C0 s_.g.l] [] (fun _:Unit=> .tuple #[]) (fun h=>[Ch.box N0 124 (cD r N1),Ch.box N1 169 [.int .i64 r.g.w,.slice A0 r.g.l.length C0],Ch.arr aC 107 A0 C0 r.g.l]) (fun h=>[]):=by
 delta bG at H
 refine Cf Go.Proofs.Tryz.func63 fun K=> ?_
 refine Z1 ?_
 have ⟨r1,h2,H3⟩:=bnd H
 refine Lk [0,0,0] [] (lZ h2) fun ⟨⟩=> ?_
 refine Z0 ?_
 have ⟨r4,h5,H6⟩:=bnd H3
 refine Lk [] [] (lJ h5) fun ⟨⟩=> ?_
 refine Z0 ?_
 have ⟨r7,h8,H9⟩:=bnd H6
 refine Lk [] [] (lJ h8) fun ⟨⟩=> ?_
 refine Z0 ?_
 refine Lt 0 ?_
 refine Z0 ?_
 refine Lt 0 ?_
 refine Z0 ?_
 refine Lt 0 ?_
 refine Ln (E.off ?_)
 cases H9
 exact Eo () [0,0,0] [] .nil
theorem qW {s_:aB} {w:Int} {h_:Int} {r:(List aE)×aB} (H:gU s_ w h_=some r):CT G 32 [.pointer (some ⟨N0,0,none⟩),.int .i64 w,.int .i64 h_] [Ch.box N0 124 (cD s_ N1),Ch.box N1 169 [.int .i64 s_.g.w,.slice A0 s_.g.l.length C0],Ch.arr aC 107 A0 C0 s_.g.l] [] (fun h:(Option Addr×Nat)×(Option Addr×Nat)=> .slice h.1.1 r.1.length h.1.2) (fun h=>[Ch.arr aC 107 h.1.1 h.1.2 r.1,Ch.box N0 124 (cD r.2 N1),Ch.box N1 169 [.int .i64 r.2.g.w,.slice h.2.1 r.2.g.l.length h.2.2],Ch.arr aC 107 h.2.1 h.2.2 r.2.g.l]) (fun h=>[]):=by
 delta gU at H
 refine Cf Go.Proofs.Tryz.func32 fun K=> ?_
 refine Y2 ?_
 refine Td [9] [0,0,0] mo ?_
 refine Dq 0 ?_
 refine Dq 1 ?_
 refine Dq 2 ?_
 refine Dq 3 ?_
 refine Db 4 0 ?_
 refine Dq 5 ?_
 have ⟨p,a,b⟩:=bnd H
 refine Dk [] [] (lJ a) fun ⟨⟩=> ?_
 refine Dq 7 ?_
 refine Dq 8 ?_
 refine Dq 9 ?_
 refine Dq 10 ?_
 refine Dn ?_
 refine Z1 ?_
 have ⟨q,c,d⟩:=bnd b
 refine Lk [1,1] [] (uB c) fun ⟨⟨e,f⟩,⟨i,j⟩⟩=> ?_
 refine Y1 ?_
 refine Td [13] [0,0,0,0] mo ?_
 refine Dq 0 ?_
 refine Dq 1 ?_
 refine Dq 2 ?_
 refine Dq 3 ?_
 refine Dq 4 ?_
 refine Db 5 3 ?_
 refine Dq 6 ?_
 refine Dq 7 ?_
 refine Dq 8 ?_
 refine Dq 9 ?_
 refine Db 10 3 ?_
 refine Dq 11 ?_
 refine Dq 12 ?_
 have ⟨s,k,m⟩:=bnd d
 refine Dkl [3,1,1] [] (bX k) fun ⟨⟩=> ?_
 refine Dn ?_
 refine Z1 ?_
 have ⟨t,n,o⟩:=bnd m
 refine Lk [0,0,0] [] (lZ n) fun ⟨⟩=> ?_
 refine Z1 ?_
 refine Lt 0 ?_
 refine Z0 ?_
 refine Lt 0 ?_
 refine Z1 ?_
 cases o
 exact Eo1 ((e,f),(i,j)) [3,0,0,0] []
theorem wB {r_:aE} {r:(List aJ)} (H:jy r_=some r):CT G 58 [.agg #[.slice A0 r_.cells.length C0,.bool r_.wrapped]] [] [Im.sl aO A0 C0 r_.cells] (fun h:(Option Addr×Nat)=> .slice h.1 r.length h.2) (fun h=>[Ch.arr aD 112 h.1 h.2 r]) (fun h=>[]):=by
 delta jy at H
 refine Cf Go.Proofs.Tryz.func58 fun K=> ?_
 refine Z1 ?_
 refine Lx fun g1=> ?_
 refine Y2 ?_
 have ⟨n,A,B⟩:=bnd H
 refine Tjh (η:=(Option Addr×Nat)) (fun h=>(fun k l=>[(3,.slice k n.length l)]) h.1 h.2) [] (fun _=>[]) [0] (fun h=>(fun k l=>[Im.sl aO k l n]) h.1 h.2) ?_ ?_
 ·refine Yl0 ?_
  refine Tq (η:=(Option Addr×Nat)) (fun m h=>(fun c d=>[(3,.slice c m.length d)]) h.1 h.2) [1] (fun _ _=>[]) [0] (fun m h=>(fun c d=>[Im.sl aO c d m]) h.1 h.2) (A0,C0) [0] [0] A ?_
  rintro k_ m ⟨c,d⟩ an C F I
  refine Y2 ?_
  have ⟨J,M,N⟩:=bnd C
  refine Tj0 [(26,.bool J)] [1,3] [] [0] ?_ ?_
  ·refine Td [] [0] mo ?_
   refine Dq 0 ?_
   refine Db 1 0 ?_
   refine Dq 2 ?_
   refine Dq 3 ?_
   refine D.cs 12 M rfl (fun hc o=> ?_) (fun hc o=> ?_)
   ·refine Dq 4 ?_
    refine Dq 5 ?_
    refine Dq 6 ?_
    refine Dq 7 ?_
    refine Dq 8 ?_
    refine D.cs 17 o rfl (fun hc p=> ?_) (fun hc p=> ?_)
    ·refine Dq 9 ?_
     refine Dq 10 ?_
     refine Dq 11 ?_
     refine Dq 12 ?_
     have ⟨ao,q,O⟩:=bnd p
     refine D.addr 0 rfl (cL q) fun aq ar P=> ?_
     subst P
     refine Dy 13 (Yl.ia q rfl rfl rfl rfl rfl rfl) ?_
     refine D.el 0 rfl (aU q).2 ?_
     rintro _
     refine Dy 14 (Yl.ldc 0 0 rfl rfl rfl rfl) ?_
     have ⟨au,Q,R⟩:=bnd O
     refine Dk [] [] (oc Q) fun ⟨⟩=> ?_
     refine Dq 16 ?_
     refine Dq 17 ?_
     refine Dn ?_
     cases R
     exact Eg0 [0] 1
    refine Ds 9 ?_
    refine Ds 10 ?_
    refine Ds 11 ?_
    refine Ds 12 ?_
    refine Ds 13 ?_
    refine Ds 14 ?_
    refine Ds 15 ?_
    refine Ds 16 ?_
    refine Dq 17 ?_
    refine Dn ?_
    cases p
    exact Eg0 [0] 0
   refine Ds 4 ?_
   refine Ds 5 ?_
   refine Ds 6 ?_
   refine Dq 7 ?_
   refine Dq 8 ?_
   refine Ds 9 ?_
   refine Ds 10 ?_
   refine Ds 11 ?_
   refine Ds 12 ?_
   refine Ds 13 ?_
   refine Ds 14 ?_
   refine Ds 15 ?_
   refine Ds 16 ?_
   refine Dq 17 ?_
   refine Dn ?_
   cases o
   exact Eg0 [0] 0
  refine Tb N (fun s=> ?_) fun s=> ?_
  ·refine Zl ?_
   have ⟨_,S,U⟩:=bnd s
   refine L.rs 0 S rfl rfl rfl rfl rfl rfl rfl rfl rfl rfl rfl rfl ?_
   intro V W
   refine Z0 ?_
   cases U
   exact Eg (_,(V,W)) (F _ rfl) [0] [0] 2
  refine Z0 ?_
  cases s
  have hb:=I _ rfl
  subst n
  exact Eg (c,d) trivial [0] [0] 1
 rintro ⟨k,l⟩
 refine Z3 ?_
 have ⟨t,X,Y⟩:=bnd B
 refine Tjh (η:=(Option Addr×Nat)) (fun h=>(fun e f=>[(4,.slice e t.length f)]) h.1 h.2) [] (fun h=>(fun e f=>[Ch.arr aD 112 e f t]) h.1 h.2) [0] (fun _=>[]) ?_ ?_
 ·refine Yl0 ?_
  refine T.iw aD 112 ?_
  refine Tq (η:=(Option Addr×Nat)) (fun g h=>(fun a b=>[(4,.slice a g.2.length b),(34,.int .i64 g.1)]) h.1 h.2) [32,33] (fun g h=>(fun a b=>[Ch.arr aD 112 a b g.2]) h.1 h.2) [1] (fun _ _=>[]) (none,0) [0,0] [] X ?_
  rintro k_ g ⟨a,b⟩ av Z aa ab
  refine Y2 ?_
  refine Tb Z (fun u=> ?_) fun u=> ?_
  ·refine Y1 ?_
   have ⟨y,ac,ad⟩:=bnd u
   refine Tjh (η:=(Option Addr×Nat)) (fun h=>(fun i j=>[(4,.slice i y.length j)]) h.1 h.2) [32,33,34] (fun h=>(fun i j=>[Ch.arr aD 112 i j y]) h.1 h.2) [1] (fun _=>[]) ?_ ?_
   ·refine Zl ?_
    refine Z1 ?_
    have ⟨z,v,ae⟩:=bnd ac
    refine L.addr 0 rfl (cL v) fun aw ax af=> ?_
    subst af
    refine Ly (Yl.ia v rfl rfl rfl rfl rfl rfl) ?_
    refine L.el 0 rfl (aU v).2 ?_
    rintro _
    refine Lc 0 0 ?_
    refine Ll fun ay=> ?_
    refine Lt 0 ?_
    refine Y1 ?_
    have ⟨ag,ah,ai⟩:=bnd ae
    refine Tj0 [(45,.bool ag)] [4,6,32,33,34] [] [0,2,1] ?_ ?_
    ·refine Z0 ?_
     refine Lw 41 ah (fun w=> ?_) fun w=> ?_
     ·refine Z0 ?_
      cases w
      exact Eg0 [0,1,0] 0
     refine Z0 ?_
     cases w
     exact Eg0 [0,1,0] 0
    refine Tb ai (fun x=> ?_) fun x=> ?_
    ·refine Z0 ?_
     refine La [] [] (Ac.bs (ty:=aD) (xs:=[(aJ.mk z.rune z.aL)]) (.cons () [] rfl .nil) rfl rfl rfl rfl rfl rfl rfl) fun az=> ?_
     refine L.frz 0 rfl ?_
     have ⟨_,aj,ak⟩:=bnd x
     refine La [2] [0] (Ac.ap (ty:=aD) aj rfl rfl rfl rfl rfl rfl rfl) ?_
     rintro ⟨al,am⟩
     refine Z0 ?_
     cases ak
     exact Eg (al,am) trivial [0,1] [] 2
    refine Z0 ?_
    cases x
    exact Eg (a,b) trivial [2,1] [] 1
   rintro ⟨i,j⟩
   refine Z0 ?_
   cases ad
   exact Eg (_,(i,j)) (aa _ rfl) [0,0] [] 0
  refine Z0 ?_
  cases u
  have hb:=ab _ rfl
  subst t
  exact Eg (a,b) trivial [0,0] [] 0
 rintro ⟨e,f⟩
 refine Z1 ?_
 cases Y
 exact Eo1 (e,f) [0] []
theorem kC {s_:List aJ} (a_0:Option Addr) (c_0:Nat) {r:List aJ} (H:bZ s_=some r):CT G 60 [.slice a_0 s_.length c_0] [] [Im.sl aD a_0 c_0 s_] (fun h:(Option Addr×Nat)=> .slice h.1 r.length h.2) (fun h=>[Ch.arr aD 112 h.1 h.2 r]) (fun h=>[]):=by
  delta bZ at H
  refine Cf Go.Proofs.Tryz.func60 fun K=> ?_
  have ⟨_,h0,H⟩:=bnd H
  have hr:=Option.some.inj H
  refine T.seq (T.region (L.q 1 rfl (L.nil (E.then (T.seq (T.seq (T.region ?_)))))))
  refine L.q 1 rfl ?_
  refine L.Oi 0 rfl rfl rfl rfl rfl rfl rfl rfl rfl (fun ha hx=> ?_) ?_
  · refine L.nil (E.then (T.cond rfl (fun _=> ?_) (fun h=>nomatch h)))
    refine T.seq (T.region (L.q 1 rfl (L.nil (E.then (T.ret (E.rL ?_))))))
    subst hx
    subst r
    refine E.iw aD 112 ?_
    exact E.ret (none,0) [0] [] (.tmp rfl .nil) rfl rfl rfl
  · refine L.nil (E.then (T.cond rfl (fun h=>nomatch h) (fun _=> ?_)))
    refine T.skip (E.then (T.seq (T.region ?_)))
    refine L.a [] [] (Ac.bs (ty:=aD) (xs:=[]) .nil rfl rfl rfl rfl rfl rfl rfl) rfl rfl rfl rfl rfl ?_
    intro g1
    refine L.q 1 rfl ?_
    refine L.a [0] [0] (Ac.ap (ty:=aD) h0 rfl rfl rfl rfl rfl rfl rfl) rfl rfl rfl rfl rfl ?_
    rintro ⟨a1,c1⟩
    refine L.q 1 rfl ?_
    refine L.nil (E.then (T.ret ?_))
    subst r
    exact E.ret (a1,c1) [0] [] (.tmp rfl .nil) rfl rfl rfl
theorem Bl {n_:Int} {r:Int} (H:oz n_=some r):CT G 164 [.int .i64 n_] [] [] (fun h:Nat=> .func (.func 199) #[] #[.pointer (some ⟨h,0,none⟩)]) (fun h=>[Ch.box h 3 [.int .i64 r]]) (fun h=>[]):=by
 delta oz at H
 refine Cf Go.Proofs.Tryz.func164 fun K=> ?_
 refine Z1 ?_
 refine Lx fun g1=> ?_
 refine Z1 ?_
 cases H
 exact Eo1 g1 [0] []
theorem Ep {n_:Int} {r:Int} (H:qD n_=some r):CT G 200 [.int .i64 n_] [] [] (fun _:Unit=> .int .i64 r) (fun h=>[]) (fun h=>[]):=by
 delta qD at H
 refine Cf Go.Proofs.Tryz.func200 fun K=> ?_
 refine Z2 ?_
 cases H
 exact Eo1 () [] []
theorem yW {σ η:Type} {Y:σ→Int→Option (σ×Bool)} {y0:σ} {x1:Int} {yl:Nat} {C:σ→η→Ch} (hY: ∀ s (h:η) (x:Int) (t:Unit) z,Y s x=some z→YT G yl [.int .u8 x] [C s h] [] (fun _:η=> .bool z.2) (fun h2=>[C z.1 h2]) (fun _=>[])) (h0:η) (g_1:Nat) {r:σ×Int} (H:lR Y y0 x1=some r):CT G 199 [.func (.yield yl) #[] #[],.pointer (some ⟨g_1,0,none⟩)] [C y0 h0,Ch.box g_1 3 [.int .i64 x1]] [] (fun h:η=> .tuple #[]) (fun h=>[C r.1 h,Ch.box g_1 3 [.int .i64 r.2]]) (fun h=>[]):=by
  delta lR at H
  refine Cf Go.Proofs.Tryz.func199 fun K=> ?_
  refine Z2 ?_
  have ⟨r1,h2,H3⟩:=bnd H
  refine Lk [] [] (Ep h2) fun ⟨⟩=> ?_
  refine Lt 1 ?_
  refine Z0 ?_
  have ⟨a,l,g⟩:=bnd H3
  refine Tj (η:=(Int×σ)×(η)) (fun h=>a = .inl h.1) (fun _=>[]) [0,1] (fun h=>(fun b=>(fun i=>[Ch.box g_1 3 [.int .i64 b.1],C b.2 i]) h.2) h.1) [] (fun _=>[]) ?_ ?_
  ·refine Yl0 ?_
   refine Tq (η:=η) (fun _ _=>[]) [0,1] (fun c h=>(fun d=>[Ch.box g_1 3 [.int .i64 c.1],C c.2 d]) h) [] (fun _ _=>[]) h0 [0,0] [] l ?_
   rintro k_ c d m n o j
   refine Z2 ?_
   refine Tb n (fun e=> ?_) fun e=> ?_
   ·refine Z1 ?_
    refine Zl ?_
    refine Z1 ?_
    have ⟨A,p,q⟩:=bnd e
    refine L.yd [1] [] (hY _ _ _ () _ p) rfl rfl rfl rfl rfl rfl rfl rfl ?_
    intro k
    refine Z0 ?_
    refine Tb q (fun f=> ?_) fun f=> ?_
    ·refine Z0 ?_
     obtain ⟨B,hz,u⟩:=fG f
     subst m
     have hb:=j _ rfl
     subst a
     obtain rfl:=(sm g).symm
     refine Z0 ?_
     cases u
     exact Eo k [0,0] [] .nil
    refine Z0 ?_
    refine Lt 1 ?_
    refine Z0 ?_
    cases f
    exact Eg (_,k) (o _ rfl) [0,0] [] 0
   refine Z0 ?_
   cases e
   have hb:=j _ rfl
   subst a
   exact Eg (_,d) rfl [0,0] [] 0
  rintro ⟨b,i⟩ hy
  subst hy
  refine Z0 ?_
  have ⟨F,v,w⟩:=bnd g
  refine L.yd [1] [] (hY _ _ _ () _ v) rfl rfl rfl rfl rfl rfl rfl rfl ?_
  intro y
  refine Ln (E.off ?_)
  cases w
  exact Eo y [0,0] [] .nil
theorem gu {o:cE} {l:List Int} {r:cE} (H:cX o l=some r):CT G 114 [.pointer (some ⟨N0,0,none⟩),.slice A1 l.length C1] [Ch.box N0 182 [.slice A0 o.b.length C0],Ch.arr (Ty.int .u8) 5 A0 C0 o.b] [Im.sl (Ty.int .i64) A1 C1 l] (fun h:(Option Addr×Nat)=> .pointer (some ⟨N0,0,none⟩)) (fun h=>[Ch.box N0 182 [.slice h.1 r.b.length h.2],Ch.arr (Ty.int .u8) 5 h.1 h.2 r.b]) (fun h=>[]):=by
 delta cX at H
 refine Cf Go.Proofs.Tryz.func114 fun K=> ?_
 refine T.xX ?_
 refine Z1 ?_
 refine Lx fun g1=> ?_
 refine Z2 ?_
 have ⟨n,w,y⟩:=bnd H
 refine T.zr (η:=Unit×((Option Addr×Nat)×List Nat)) (fun h=>True) (fun h=>(fun f g i=>i) h.2.1.1 h.2.1.2 h.2.2) (fun h=>(fun f g i=>[(2,.pointer (some ⟨g1,0,none⟩))]) h.2.1.1 h.2.1.2 h.2.2) (fun h=>(fun f g i=>[Ch.arr (Ty.int .u8) 5 f g n.b,Ch.box g1 183 [.pointer (some ⟨N0,0,none⟩)],Ch.dfs i,Ch.box N0 182 [.slice f n.b.length g]]) h.2.1.1 h.2.1.2 h.2.2) (fun h=>(fun f g i=>[Im.sl (Ty.int .i64) A1 C1 l]) h.2.1.1 h.2.1.2 h.2.2) ?_ ?_
 ·refine Yl0 ?_
  refine T.lpD (η:=(Option Addr×Nat)×List Nat) (fun a h=>(fun c d e=>e) h.1.1 h.1.2 h.2) (fun a h=>(fun c d e=>[(2,.pointer (some ⟨g1,0,none⟩)),(8,.slice A1 l.length C1),(9,.int .i64 (l.length:Int)),(10,.int .i64 a.2)]) h.1.1 h.1.2 h.2) (fun a h=>(fun c d e=>[Ch.arr (Ty.int .u8) 5 c d a.1.b,Ch.box g1 183 [.pointer (some ⟨N0,0,none⟩)],Ch.dfs e,Ch.box N0 182 [.slice c a.1.b.length d]]) h.1.1 h.1.2 h.2) (fun a h=>(fun c d e=>[Im.sl (Ty.int .i64) A1 C1 l]) h.1.1 h.1.2 h.2) ((A0,C0),[]) [3,0,0,0] [0] w rfl ⟨rfl,rfl,rfl,rfl,trivial⟩ rfl rfl ?_
  rintro k_ a ⟨⟨c,d⟩,e⟩ ab z A B
  refine Y2 ?_
  refine Tb z (fun p=> ?_) fun p=> ?_
  ·refine Z1 ?_
   refine Zl ?_
   refine Z1 ?_
   have ⟨F,q,I⟩:=bnd p
   refine L.addr 0 rfl (cL q) fun s u J=> ?_
   subst J
   refine Ly (Yl.ia q rfl rfl rfl rfl rfl rfl) ?_
   refine L.el 0 rfl (aU q).2 ?_
   rintro _
   refine Lc 0 0 ?_
   refine Z1 ?_
   have ⟨ac,M,N⟩:=bnd I
   refine Lk [] [] (Bl M) fun O=> ?_
   refine Yl0 ?_
   have ⟨P,Q,R⟩:=bnd N
   refine T.rf2 (σ:=cE) (η:=(Option Addr×Nat)) (X:=Int) (θ:=Unit) (τ:=(Option Addr×Nat)) (s1:=P.1) (hx:=fun x=>x) (fun x t=>[.int .u8 x]) (fun x t=>[]) (fun _=>none) (fun j h=>(fun k m=>[Ch.arr (Ty.int .u8) 5 k m j.b,Ch.box g1 183 [.pointer (some ⟨N0,0,none⟩)],Ch.box N0 182 [.slice k j.b.length m]]) h.1 h.2) (fun j h=>(fun k m=>[Im.cells s (u+a.2.toNat*1) [.int .i64 F],Im.sl (Ty.int .i64) (some ⟨s,u,none⟩) C1 l]) h.1 h.2) 3 [1,1,1,0] [0,1] [] rfl rfl (fun _ _=>rfl) rfl (fun yl C hY=>(yW hY (c,d) O Q:_)) (fun _ _ _ _=>rfl) rfl rfl rfl rfl rfl ?_ rfl ?_
   ·rintro yl K2 j ⟨k,m⟩ S ⟨⟩ ad U
    refine Z0 ?_
    refine E.begin fun K3=> ?_
    refine Yl0 ?_
    refine Td [10] [1,1] mo ?_
    refine Db 0 0 ?_
    refine Db 1 0 ?_
    refine Dq 2 ?_
    refine Dq 3 ?_
    refine Db 4 1 ?_
    refine Dq 5 ?_
    refine Da [] [] rfl rfl (Ac.bs (ty:=(Ty.int .u8)) (xs:=[S]) (.cons () [] rfl .nil) rfl rfl rfl rfl rfl rfl rfl) fun ae=> ?_
    refine D.frz 0 rfl ?_
    have ⟨_,V,W⟩:=bnd U
    refine Da [0] [0] rfl rfl (Ac.ap (ty:=(Ty.int .u8)) V rfl rfl rfl rfl rfl rfl rfl) ?_
    rintro ⟨Y,Z⟩
    refine Dq 8 ?_
    refine Dq 9 ?_
    refine Dt 1 ?_
    refine Dn ?_
    refine Z0 ?_
    cases W
    exact E.on (Y,Z) [2,1,0] [1,2] rfl rfl rfl rfl
   rintro v aa
   refine Z0 ?_
   cases R
   exact E.pS (_,((v.1,v.2),(aa::e))) [1,1,0,0] [1] (A _ rfl) rfl ⟨rfl,rfl,rfl,rfl,trivial⟩ rfl rfl
  refine Z0 ?_
  cases p
  have hb:=B _ rfl
  subst n
  exact E.pS ((),((c,d),e)) [0,0,0,0] [0] trivial rfl ⟨rfl,trivial⟩ rfl rfl
 rintro ⟨_,⟨⟨f,g⟩,i⟩⟩ _
 refine Z1 ?_
 cases y
 exact E.uI (f,g) 2 [2,0] [] rfl (.tmp rfl .nil) rfl rfl rfl
theorem mK {o:cE} {r:ByteArray} (H:hU o=some r):CT G 121 [.pointer (some ⟨N0,0,none⟩)] [Ch.box N0 182 [.slice A0 o.b.length C0],Ch.arr (Ty.int .u8) 5 A0 C0 o.b] [] (fun _:Unit=> .string r) (fun h=>[Ch.box N0 182 [.slice A0 o.b.length C0],Ch.arr (Ty.int .u8) 5 A0 C0 o.b]) (fun h=>[]):=by
 delta hU at H
 refine Cf Go.Proofs.Tryz.func121 fun K=> ?_
 refine Z2 ?_
 refine Ly (Yl.bs 1 rfl rfl rfl rfl rfl rfl rfl rfl rfl) ?_
 refine Z0 ?_
 cases H
 exact Eo1 () [0,0] []
theorem sr {l:List aJ} {r:ByteArray} (H:lT l=some r):CT G 117 [.slice A0 l.length C0] [] [Im.sl aD A0 C0 l] (fun _:Unit=> .string r) (fun h=>[]) (fun h=>[]):=by
 delta lT at H
 refine Cf Go.Proofs.Tryz.func117 fun K=> ?_
 refine Z2 ?_
 refine Ll fun g1=> ?_
 refine Z1 ?_
 refine La [] [] (Ac.bs (ty:=(Ty.int .i64)) (xs:=[(l.length:Int)]) (.cons () [] rfl .nil) rfl rfl rfl rfl rfl rfl rfl) fun g2=> ?_
 refine L.iw (Ty.int .u8) 5 ?_
 refine L.frz 1 rfl ?_
 have ⟨r6,h7,H8⟩:=bnd H
 refine Lk [1,0] [0] (gu h7) fun ⟨a9,m⟩=> ?_
 refine Z2 ?_
 have ⟨e,n,o⟩:=bnd H8
 refine Tjh (η:=(Option Addr×Nat)) (fun _=>[]) [3] (fun h=>(fun f g=>[Ch.arr (Ty.int .u8) 5 f g e.b,Ch.box g1 182 [.slice f e.b.length g]]) h.1 h.2) [] (fun _=>[]) ?_ ?_
 ·refine Yl0 ?_
  refine Tq (η:=(Option Addr×Nat)) (fun a h=>(fun c d=>[(12,.int .i64 a.2)]) h.1 h.2) [3,10,11] (fun a h=>(fun c d=>[Ch.arr (Ty.int .u8) 5 c d a.1.b,Ch.box g1 182 [.slice c a.1.b.length d]]) h.1 h.2) [] (fun _ _=>[]) (a9,m) [1,0] [] n ?_
  rintro k_ a ⟨c,d⟩ B p q s
  refine Y2 ?_
  refine Tb p (fun i=> ?_) fun i=> ?_
  ·refine Z1 ?_
   refine Zl ?_
   refine Z1 ?_
   have ⟨k,j,t⟩:=bnd i
   refine L.addr 1 rfl (cL j) fun C F u=> ?_
   subst u
   refine Ly (Yl.ia j rfl rfl rfl rfl rfl rfl) ?_
   refine L.el 1 rfl (aU j).2 ?_
   rintro _
   refine Lc 0 0 ?_
   refine Ll fun I=> ?_
   refine Lt 0 ?_
   refine Z0 ?_
   refine La [] [] (Ac.bs (ty:=(Ty.int .i64)) (xs:=[(IntKind.i64.wrap k.rune),k.aL]) (.cons () [] rfl (.cons () [] rfl .nil)) rfl rfl rfl rfl rfl rfl rfl) fun J=> ?_
   refine L.frz 0 rfl ?_
   have ⟨M,v,w⟩:=bnd t
   refine Lk [2,1] [0] (gu v) fun ⟨x,y⟩=> ?_
   refine Z0 ?_
   cases w
   exact Eg (_,(x,y)) (q _ rfl) [1,0] [] 2
  refine Z0 ?_
  cases i
  have hb:=s _ rfl
  subst e
  exact Eg (c,d) trivial [0,0] [] 0
 rintro ⟨f,g⟩
 refine Z1 ?_
 have ⟨N,z,A⟩:=bnd o
 refine Lk [1,0] [] (mK z) fun ⟨⟩=> ?_
 refine Z0 ?_
 cases A
 exact Eo1 () [] []
theorem Es {x_:Int} {b:Int} {r:Int} (H:nJ x_ b=some r):CT G 173 [.int .u32 x_,.int .u8 b] [] [Im.sl (Ty.int .u32) (some ⟨2,0,none⟩) 16 cV] (fun _:Unit=> .int .u32 r) (fun h=>[]) (fun h=>[]):=by
 delta nJ at H
 refine Cf Go.Proofs.Tryz.func173 fun K=> ?_
 refine Z3 ?_
 have ⟨x1,h2,H3⟩:=bnd H
 refine Ly (Yl.xg h2 rfl rfl rfl rfl rfl rfl rfl) ?_
 refine L.el 0 rfl (aU h2).2 ?_
 rintro _
 refine Lc 0 0 ?_
 refine Z1 ?_
 have ⟨x5,h6,H7⟩:=bnd H3
 refine Ly (Yl.xg h6 rfl rfl rfl rfl rfl rfl rfl) ?_
 refine L.el 1 rfl (aU h6).2 ?_
 rintro _
 refine Lc 0 0 ?_
 refine Z0 ?_
 cases H7
 exact Eo1 () [] []
theorem CI {l:List ByteArray} {r:Int} (H:pV l=some r):CT G 132 [.slice A0 l.length C0] [] [Im.sl Ty.str A0 C0 l,Im.sl (Ty.int .u32) (some ⟨2,0,none⟩) 16 cV] (fun _:Unit=> .int .u32 r) (fun h=>[]) (fun h=>[]):=by
 delta pV at H
 refine Cf Go.Proofs.Tryz.func132 fun K=> ?_
 refine Z3 ?_
 refine Z1 ?_
 have ⟨j,m,n⟩:=bnd H
 refine Tj0 [(3,.int .u32 j)] [] [] [] ?_ ?_
 ·refine Yl0 ?_
  refine Tq (η:=Unit) (fun a h=>[(3,.int .u32 a.1),(9,.int .i64 a.2)]) [7,8] (fun _ _=>[]) [] (fun _ _=>[]) () [] [] m ?_
  rintro k_ a ⟨⟩ I o p q
  refine Y2 ?_
  refine Tb o (fun b=> ?_) fun b=> ?_
  ·refine Z1 ?_
   refine Zl ?_
   refine Z1 ?_
   have ⟨s,d,t⟩:=bnd b
   refine L.addr 0 rfl (cL d) fun e f u=> ?_
   subst u
   refine Ly (Yl.ia d rfl rfl rfl rfl rfl rfl) ?_
   refine L.el 0 rfl (aU d).2 ?_
   rintro _
   refine Lc 0 0 ?_
   refine Z1 ?_
   have ⟨k,v,w⟩:=bnd t
   refine T.tJ (η:=Unit×Unit) (fun h=>True) (fun h=>[(3,.int .u32 k),(7,.slice (some ⟨e,f,none⟩) l.length C0),(8,.int .i64 (l.length:Int)),(9,.int .i64 a.2)]) (fun h=>[]) (fun h=>[Im.cells e (f+a.2.toNat*1) [.string s],Im.sl Ty.str (some ⟨e,f,none⟩) C0 l,Im.sl (Ty.int .u32) (some ⟨2,0,none⟩) 16 cV]) ?_ ?_
   ·refine Yl0 ?_
    refine Tq (η:=Unit) (fun g h=>[(3,.int .u32 g.2),(15,.int .i64 g.1)]) [5,7,8,9,14] (fun _ _=>[]) [] (fun _ _=>[]) () [] [] v ?_
    rintro k_ g ⟨⟩ J x y z
    refine Y2 ?_
    refine Tb x (fun i=> ?_) fun i=> ?_
    ·refine Z1 ?_
     refine Zl ?_
     refine Z1 ?_
     have ⟨M,A,B⟩:=bnd i
     refine Ly (Yl.si A rfl rfl rfl rfl rfl) ?_
     have ⟨N,C,F⟩:=bnd B
     refine Lk [] [2] (Es C) fun ⟨⟩=> ?_
     refine Z0 ?_
     cases F
     exact Eg (_,()) (y _ rfl) [] [] 0
    refine Z0 ?_
    cases i
    have hb:=z _ rfl
    subst k
    exact Egx ((),()) trivial [] [0,1,2]
   rintro ⟨_,⟨⟩⟩ _
   refine Z0 ?_
   cases w
   exact Eg (_,()) (p _ rfl) [] [] 1
  refine Z0 ?_
  cases b
  have hb:=q _ rfl
  subst j
  exact Eg0 [] 0
 refine Z1 ?_
 refine Ly (Yl.com (c:=4294967295) rfl rfl rfl) ?_
 refine Z0 ?_
 cases n
 exact Eo1 () [] []
end Go.Tw.X
set_option maxHeartbeats 2000000
set_option linter.unusedVariables false
set_option linter.unusedSimpArgs false
set_option maxRecDepth 10000
namespace Go.Tw.X
open Go Go.Tw
variable {A0 A1 A2 A3 A4 A5 A6 A7 A8 : Option Addr} {C0 C1 C2 C3 C4 C5 C6 C7 C8 : Nat}
variable {N0 N1 N2 N3 N4 : Nat}
variable {M0 : Option Nat}
theorem CJ {chain:Int} {l:List aJ} {r:Int} (H:nX chain l=some r):CT G 98 [.int .i64 chain,.slice A0 l.length C0] [] [Im.sl aD A0 C0 l,Im.sl (Ty.int .u32) (some ⟨2,0,none⟩) 16 cV] (fun _:Unit=> .int .i64 r) (fun h=>[]) (fun h=>[]):=by
 delta nX at H
 refine Cf Go.Proofs.Tryz.func98 fun K=> ?_
 refine Z2 ?_
 have ⟨r1,h2,H3⟩:=bnd H
 refine Lk [] [0] (sr h2) fun ⟨⟩=> ?_
 refine La [] [] (Ac.bs (ty:=Ty.str) (xs:=[r1]) (.cons () [] rfl .nil) rfl rfl rfl rfl rfl rfl rfl) fun g4=> ?_
 have ⟨r6,h7,H8⟩:=bnd H3
 refine L.br (Ac.call (CI h7) rfl rfl rfl rfl) (Bw.ch 0 rfl (Bw.im 1 rfl (Bw.nil))) rfl rfl rfl ?_
 intro _
 refine Z0 ?_
 cases H8
 exact Eo1 () [] []
theorem pD {b:cC} {l:List aJ} {r:cC} (H:fV b l=some r):CT G 59 [.pointer (some ⟨N0,0,none⟩),.slice A3 l.length C3] [Ch.box N0 115 [.slice A0 b.l.length C0,.slice A1 b.bP.length C1,.slice A2 b.begun.length C2],Ch.arr (Ty.slice aD) 40 A0 C0 b.l,Ch.arr (Ty.int .i64) 3 A1 C1 b.bP] [Im.sl aD A2 C2 b.begun,Im.sl aD A3 C3 l,Im.sl (Ty.int .u32) (some ⟨2,0,none⟩) 16 cV] (fun h:(Option Addr×Nat)×(Option Addr×Nat)=> .tuple #[]) (fun h=>[Ch.box N0 115 [.slice h.1.1 r.l.length h.1.2,.slice h.2.1 r.bP.length h.2.2,.slice A2 r.begun.length C2],Ch.arr (Ty.slice aD) 40 h.1.1 h.1.2 r.l,Ch.arr (Ty.int .i64) 3 h.2.1 h.2.2 r.bP]) (fun h=>[Im.sl aD A2 C2 r.begun]):=by
 delta fV at H
 refine Cf Go.Proofs.Tryz.func59 fun K=> ?_
 refine Y1 ?_
 refine Td [11] [0,1] mo ?_
 refine Dq 0 ?_
 refine Dq 1 ?_
 refine Dq 2 ?_
 refine Dq 3 ?_
 refine Db 4 0 ?_
 refine Dq 5 ?_
 have ⟨c,d,e⟩:=bnd H
 refine Dk [] [1] (kC A3 C3 d) fun ⟨f,g⟩=> ?_
 refine D.frz 0 rfl ?_
 refine Da [] [0] rfl rfl (Ac.bs (ty:=(Ty.slice aD)) (xs:=[c]) (.cons (f,g) [0] rfl .nil) rfl rfl rfl rfl rfl rfl rfl) fun z=> ?_
 refine D.frz 0 rfl ?_
 have ⟨_,i,j⟩:=bnd e
 refine Da [0] [0] rfl rfl (Ac.ap (ty:=(Ty.slice aD)) i rfl rfl rfl rfl rfl rfl rfl) ?_
 rintro ⟨k,m⟩
 refine Dq 9 ?_
 refine Dq 10 ?_
 refine Dt 0 ?_
 refine Dn ?_
 refine Z0 ?_
 refine Td [23] [0,1] mo ?_
 refine Dq 0 ?_
 refine Dq 1 ?_
 refine Dq 2 ?_
 refine Dq 3 ?_
 refine Db 4 0 ?_
 refine Dq 5 ?_
 refine Dq 6 ?_
 refine Dq 7 ?_
 refine Db 8 0 ?_
 refine Dq 9 ?_
 refine Dq 10 ?_
 refine Dq 11 ?_
 refine Db 12 0 ?_
 refine Dq 13 ?_
 refine Dq 14 ?_
 have ⟨n,a,o⟩:=bnd j
 refine D.lQ 2 rfl (cL a) fun A p=> ?_
 subst p
 refine Dy 15 (Yl.ia a rfl rfl rfl rfl rfl rfl) ?_
 refine Dq 17 ?_
 refine Da [0] [] rfl rfl (Ac.ofY (Yl.lo (ty:=(Ty.int .i64)) (v:= .int .i64 n) 0 ((IntKind.i64.wrap ((b.bP.length:Int) - 1)).toNat) 0 (aU a).2 rfl rfl rfl rfl (fun _=>rfl))) fun _=> ?_
 have ⟨q,s,t⟩:=bnd o
 refine Dk [] [3,4] (CJ s) fun ⟨⟩=> ?_
 refine Da [] [] rfl rfl (Ac.bs (ty:=(Ty.int .i64)) (xs:=[q]) (.cons () [] rfl .nil) rfl rfl rfl rfl rfl rfl rfl) fun B=> ?_
 refine D.frz 0 rfl ?_
 have ⟨_,u,w⟩:=bnd t
 refine Da [0] [0] rfl rfl (Ac.ap (ty:=(Ty.int .i64)) u rfl rfl rfl rfl rfl rfl rfl) ?_
 rintro ⟨x,y⟩
 refine Dq 21 ?_
 refine Dq 22 ?_
 refine Dt 0 ?_
 refine Dn ?_
 refine E.off ?_
 cases w
 exact Eo ((k,m),(x,y)) [0,0,0] [3] .nil
theorem rm {b:cC} {rows:List aE} {r:Int×cC} (H:jb b rows=some r):CT G 31 [.pointer (some ⟨N0,0,none⟩),.slice A3 rows.length C3] [Ch.box N0 115 [.slice A0 b.l.length C0,.slice A1 b.bP.length C1,.slice A2 b.begun.length C2],Ch.arr (Ty.slice aD) 40 A0 C0 b.l,Ch.arr (Ty.int .i64) 3 A1 C1 b.bP,Ch.arr aD 112 A2 C2 b.begun] [Im.sl aC A3 C3 rows,Im.sl (Ty.int .u32) (some ⟨2,0,none⟩) 16 cV] (fun h:(Option Addr×Nat)×(Option Addr×Nat)×(Option Addr×Nat)=> .int .i64 r.1) (fun h=>[Ch.box N0 115 [.slice h.1.1 r.2.l.length h.1.2,.slice h.2.1.1 r.2.bP.length h.2.1.2,.slice h.2.2.1 r.2.begun.length h.2.2.2],Ch.arr (Ty.slice aD) 40 h.1.1 h.1.2 r.2.l,Ch.arr (Ty.int .i64) 3 h.2.1.1 h.2.1.2 r.2.bP,Ch.arr aD 112 h.2.2.1 h.2.2.2 r.2.begun]) (fun h=>[]):=by
 delta jb at H
 refine Cf Go.Proofs.Tryz.func31 fun K=> ?_
 refine Z3 ?_
 refine Z1 ?_
 have ⟨c,Y,Z⟩:=bnd H
 refine Tjh (η:=(Option Addr×Nat)×(Option Addr×Nat)×(Option Addr×Nat)) (fun _=>[]) [0,5] (fun h=>(fun o p q s t u=>[Ch.arr (Ty.slice aD) 40 o p c.l,Ch.arr (Ty.int .i64) 3 q s c.bP,Ch.arr aD 112 t u c.begun,Ch.box N0 115 [.slice o c.l.length p,.slice q c.bP.length s,.slice t c.begun.length u]]) h.1.1 h.1.2 h.2.1.1 h.2.1.2 h.2.2.1 h.2.2.2) [] (fun _=>[]) ?_ ?_
 ·refine Yl0 ?_
  refine Tq (η:=(Option Addr×Nat)×(Option Addr×Nat)×(Option Addr×Nat)) (fun a h=>(fun f g i j m n=>[(15,.int .i64 a.2)]) h.1.1 h.1.2 h.2.1.1 h.2.1.2 h.2.2.1 h.2.2.2) [0,5,13,14] (fun a h=>(fun f g i j m n=>[Ch.arr (Ty.slice aD) 40 f g a.1.l,Ch.arr (Ty.int .i64) 3 i j a.1.bP,Ch.arr aD 112 m n a.1.begun,Ch.box N0 115 [.slice f a.1.l.length g,.slice i a.1.bP.length j,.slice m a.1.begun.length n]]) h.1.1 h.1.2 h.2.1.1 h.2.1.2 h.2.2.1 h.2.2.2) [] (fun _ _=>[]) ((A0,C0),(A1,C1),(A2,C2)) [1,1,1,0] [] Y ?_
  rintro k_ a ⟨⟨f,g⟩,⟨i,j⟩,⟨m,n⟩⟩ bh aa ab ac
  refine Y2 ?_
  refine Tb aa (fun U=> ?_) fun U=> ?_
  ·refine Y1 ?_
   have ⟨k,ad,ae⟩:=bnd U
   refine Tjh (η:=(Option Addr×Nat)×(Option Addr×Nat)×(Option Addr×Nat)) (fun _=>[]) [0,5,13,14,15] (fun h=>(fun v w x y z A=>[Ch.arr (Ty.slice aD) 40 v w k.l,Ch.arr (Ty.int .i64) 3 x y k.bP,Ch.arr aD 112 z A k.begun,Ch.box N0 115 [.slice v k.l.length w,.slice x k.bP.length y,.slice z k.begun.length A]]) h.1.1 h.1.2 h.2.1.1 h.2.1.2 h.2.2.1 h.2.2.2) [] (fun _=>[]) ?_ ?_
   ·refine Zl ?_
    refine Z1 ?_
    have ⟨bi,V,af⟩:=bnd ad
    refine L.addr 0 rfl (cL V) fun bj bk ag=> ?_
    subst ag
    refine Ly (Yl.ia V rfl rfl rfl rfl rfl rfl) ?_
    refine L.el 0 rfl (aU V).2 ?_
    rintro ⟨bl,bm⟩
    refine Lc 0 0 ?_
    refine Ll fun bn=> ?_
    refine Lt 0 ?_
    refine Y1 ?_
    refine Td [10] [0,0,0,1] mo ?_
    refine Dq 0 ?_
    refine Dq 1 ?_
    refine Dq 2 ?_
    refine Dq 3 ?_
    refine Db 4 3 ?_
    refine Db 5 0 ?_
    have ⟨bo,ah,ai⟩:=bnd af
    refine Dk [] [1] (wB ah) fun ⟨bp,bq⟩=> ?_
    refine D.frz 0 rfl ?_
    have ⟨_,aj,ak⟩:=bnd ai
    refine Da [0] [0] rfl rfl (Ac.ap (ty:=aD) aj rfl rfl rfl rfl rfl rfl rfl) ?_
    rintro ⟨al,am⟩
    refine Dq 8 ?_
    refine Dq 9 ?_
    refine Dt 3 ?_
    refine Dn ?_
    refine Y1 ?_
    have ⟨d,an,ao⟩:=bnd ak
    refine Tjh (η:=(Option Addr×Nat)×(Option Addr×Nat)×(Option Addr×Nat)) (fun _=>[]) [0,5,7,13,14,15] (fun h=>(fun B C F I J M=>[Ch.arr (Ty.slice aD) 40 B C d.l,Ch.arr (Ty.int .i64) 3 F I d.bP,Ch.arr aD 112 J M d.begun,Ch.box N0 115 [.slice B d.l.length C,.slice F d.bP.length I,.slice J d.begun.length M]]) h.1.1 h.1.2 h.2.1.1 h.2.1.2 h.2.2.1 h.2.2.2) [1] (fun _=>[]) ?_ ?_
    ·refine Yl0 ?_
     refine Tq (η:=(Option Addr×Nat)×(Option Addr×Nat)×(Option Addr×Nat)) (fun _ _=>[]) [0,5,7,13,14,15] (fun e h=>(fun N O P Q R S=>[Ch.arr (Ty.slice aD) 40 N O e.l,Ch.arr (Ty.int .i64) 3 P Q e.bP,Ch.arr aD 112 R S e.begun,Ch.box N0 115 [.slice N e.l.length O,.slice P e.bP.length Q,.slice R e.begun.length S]]) h.1.1 h.1.2 h.2.1.1 h.2.1.2 h.2.2.1 h.2.2.2) [1] (fun _ _=>[]) ((f,g),(i,j),(al,am)) [2,2,2,0,0] [] an ?_
     rintro k_ e ⟨⟨N,O⟩,⟨P,Q⟩,⟨R,S⟩⟩ br aq ar au
     refine Z2 ?_
     refine Tb aq (fun W=> ?_) fun W=> ?_
     ·refine Zl ?_
      refine Z1 ?_
      refine L.frz 2 rfl ?_
      have ⟨_,av,aw⟩:=bnd W
      refine L.rs 0 av rfl rfl rfl rfl rfl rfl rfl rfl rfl rfl rfl rfl ?_
      intro bs bt
      have ⟨bu,ax,ay⟩:=bnd aw
      refine Lk [2,0,0] [1,0,6] (pD ax) fun ⟨⟨az,a0⟩,⟨a1,a2⟩⟩=> ?_
      refine Z0 ?_
      have ⟨_,a3,a4⟩:=bnd ay
      refine L.rs 0 a3 rfl rfl rfl rfl rfl rfl rfl rfl rfl rfl rfl rfl ?_
      intro a5 a6
      have ⟨bv,a7,a8⟩:=bnd a4
      refine Lk [] [0] (kC a5 a6 a7) fun ⟨a9,ba⟩=> ?_
      refine Z0 ?_
      refine Lt 1 ?_
      refine Z0 ?_
      cases a8
      exact Eg (_,((az,a0),(a1,a2),(a9,ba))) (ar _ rfl) [2,2,1,0,0] [] 4
     refine Z0 ?_
     cases W
     have hb:=au _ rfl
     subst d
     exact Eg ((N,O),(P,Q),(R,S)) trivial [0,0,0,0,0] [] 0
    rintro ⟨⟨B,C⟩,⟨F,I⟩,⟨J,M⟩⟩
    refine Z1 ?_
    refine Tb ao (fun X=> ?_) fun X=> ?_
    ·refine Z1 ?_
     refine L.frz 2 rfl ?_
     have ⟨bw,bb,bc⟩:=bnd X
     refine Lk [2,0,0] [0,0,5] (pD bb) fun ⟨⟨bd,be⟩,⟨bf,bg⟩⟩=> ?_
     refine Z0 ?_
     refine Lt 0 ?_
     refine Z0 ?_
     refine E.iw aD 112 ?_
     cases bc
     exact Eg ((bd,be),(bf,bg),(none,0)) trivial [2,2,0,0] [] 5
    refine Z0 ?_
    cases X
    exact Eg ((B,C),(F,I),(J,M)) trivial [0,0,0,0] [] 3
   rintro ⟨⟨v,w⟩,⟨x,y⟩,⟨z,A⟩⟩
   refine Z0 ?_
   cases ae
   exact Eg (_,((v,w),(x,y),(z,A))) (ab _ rfl) [0,0,0,0] [] 0
  refine Z0 ?_
  cases U
  have hb:=ac _ rfl
  subst c
  exact Eg ((f,g),(i,j),(m,n)) trivial [0,0,0,0] [] 0
 rintro ⟨⟨o,p⟩,⟨q,s⟩,⟨t,u⟩⟩
 refine Z1 ?_
 cases Z
 exact Eo1 ((o,p),(q,s),(t,u)) [3,0,0,0] []
theorem vj {m_:bA} {text:ByteArray} {r:ByteArray} (H:lL m_ text=some r):CT G 33 [.pointer (some ⟨N0,0,none⟩),.string text] [Ch.box N0 56 (pJ m_ N1 N2 N3),Ch.box N1 115 [.slice A0 m_.book.l.length C0,.slice A1 m_.book.bP.length C1,.slice A2 m_.book.begun.length C2],Ch.arr (Ty.slice aD) 40 A0 C0 m_.book.l,Ch.arr (Ty.int .i64) 3 A1 C1 m_.book.bP,Ch.arr aD 112 A2 C2 m_.book.begun,Ch.box N2 76 (kV m_.parser A3 C3),Ch.opt (m_.parser.state == (3:Int)) (Ty.int .i64) 3 A3 C3 m_.parser.order.bH,Ch.box N3 124 (cD m_.aR N4),Ch.box N4 169 [.int .i64 m_.aR.g.w,.slice A5 m_.aR.g.l.length C5],Ch.arr aC 107 A5 C5 m_.aR.g.l] [Im.sl cI (some ⟨0,0,none⟩) 13 cY,Im.sl cI (some ⟨1,0,none⟩) 14 dH,Im.sl eK (some ⟨3,0,none⟩) 8 bV] (fun h:Nat×Nat=> .func (.func 65) #[] #[.pointer (some ⟨h.1,0,none⟩),.pointer (some ⟨h.2,0,none⟩)]) (fun h=>[Ch.box h.1 24 [.pointer (some ⟨N0,0,none⟩)],Ch.box h.2 9 [.string r],Ch.box N0 56 (pJ m_ N1 N2 N3),Ch.box N1 115 [.slice A0 m_.book.l.length C0,.slice A1 m_.book.bP.length C1,.slice A2 m_.book.begun.length C2],Ch.arr (Ty.slice aD) 40 A0 C0 m_.book.l,Ch.arr (Ty.int .i64) 3 A1 C1 m_.book.bP,Ch.arr aD 112 A2 C2 m_.book.begun,Ch.box N2 76 (kV m_.parser A3 C3),Ch.opt (m_.parser.state == (3:Int)) (Ty.int .i64) 3 A3 C3 m_.parser.order.bH,Ch.box N3 124 (cD m_.aR N4),Ch.box N4 169 [.int .i64 m_.aR.g.w,.slice A5 m_.aR.g.l.length C5],Ch.arr aC 107 A5 C5 m_.aR.g.l]) (fun h=>[]):=by
 delta lL at H
 refine Cf Go.Proofs.Tryz.func33 fun K=> ?_
 refine Z1 ?_
 refine Lx fun g1=> ?_
 refine Lx fun g2=> ?_
 refine Z1 ?_
 cases H
 exact Eo1 (g1,g2) [1,0,0,0,0,0,0,0,0,0,0,0] []
theorem tw {d:bQ} {r:(List Int)} (H:jd d=some r):CT G 177 [.agg #[.int .u8 d.lead,.int .i32 d.rune,.int .i64 d.jm]] [] [] (fun h:(Option Addr×Nat)=> .slice h.1 r.length h.2) (fun h=>[Ch.arr (Ty.int .i32) 21 h.1 h.2 r]) (fun h=>[]):=by
 delta jd at H
 refine Cf Go.Proofs.Tryz.func177 fun K=> ?_
 refine Z1 ?_
 refine Lx fun g1=> ?_
 refine Z2 ?_
 refine Tb H (fun H3=> ?_) fun H3=> ?_
 ·refine Z1 ?_
  refine E.iw (Ty.int .i32) 21 ?_
  cases H3
  exact Eo1 (none,0) [0] []
 refine Z1 ?_
 refine La [] [] (Ac.bs (ty:=(Ty.int .i32)) (xs:=[65533]) (.cons () [] rfl .nil) rfl rfl rfl rfl rfl rfl rfl) fun g5=> ?_
 refine Z0 ?_
 cases H3
 exact Eo1 ((some ⟨g5,0,none⟩),1) [0] []
theorem lM {p:aH} {a:aZ} {r:aH} (H:fW p a=some r):CT G 180 [.pointer (some ⟨N0,0,none⟩),.agg (yV a A2 C2).toArray] [Ch.box N0 76 (lA p A0 C0 A1 C1),Ch.opt (p.state == (3:Int)) (Ty.int .i64) 3 A0 C0 p.order.bH,Ch.arr bE 136 A1 C1 p.out] [Im.sl (Ty.int .i64) A2 C2 a.bH] (fun h:(Option Addr×Nat)=> .tuple #[]) (fun h=>[Ch.box N0 76 (lA r A0 C0 h.1 h.2),Ch.opt (r.state == (3:Int)) (Ty.int .i64) 3 A0 C0 r.order.bH,Ch.arr bE 136 h.1 h.2 r.out]) (fun h=>[]):=by
 delta fW at H
 refine Cf Go.Proofs.Tryz.func180 fun K=> ?_
 refine Z1 ?_
 refine Lx fun g1=> ?_
 refine Z0 ?_
 refine Td [7,10] [0,0,0,0] mo ?_
 refine Dq 0 ?_
 refine Dq 1 ?_
 refine Dq 2 ?_
 refine Dq 3 ?_
 refine Db 4 1 ?_
 refine Db 5 0 ?_
 refine Da [] [0] rfl rfl (Ac.bs (ty:=bE) (xs:=[a]) (.cons (A2,C2) [0] rfl .nil) rfl rfl rfl rfl rfl rfl rfl) fun f=> ?_
 refine D.frz 0 rfl ?_
 have ⟨_,b,c⟩:=bnd H
 refine D.one rfl rfl rfl (Dp.al [3] [0] (Ac.ap (ty:=bE) b rfl rfl rfl rfl rfl rfl rfl) rfl rfl rfl rfl rfl rfl rfl ?_)
 rintro ⟨d,e⟩
 refine Dq 8 ?_
 refine Dq 9 ?_
 refine Dt 2 ?_
 refine Dn ?_
 refine E.off ?_
 cases c
 exact Eo (d,e) [0,2,0] [] .nil
theorem o7 {p:aH} {l:List Int} {r:aH} (H:iy p l=some r):CT G 176 [.pointer (some ⟨N0,0,none⟩),.slice A2 l.length C2] [Ch.box N0 76 (lA p A0 C0 A1 C1),Ch.opt (p.state == (3:Int)) (Ty.int .i64) 3 A0 C0 p.order.bH,Ch.arr bE 136 A1 C1 p.out] [Im.sl (Ty.int .i32) A2 C2 l] (fun h:(Option Addr×Nat)=> .tuple #[]) (fun h=>[Ch.box N0 76 (lA r A0 C0 h.1 h.2),Ch.opt (r.state == (3:Int)) (Ty.int .i64) 3 A0 C0 r.order.bH,Ch.arr bE 136 h.1 h.2 r.out]) (fun h=>[]):=by
 delta iy at H
 refine Cf Go.Proofs.Tryz.func176 fun K=> ?_
 refine Z1 ?_
 have ⟨d,k,m⟩:=bnd H
 refine T.tJ (η:=Unit×((Option Addr×Nat))) (fun h=>True) (fun h=>(fun b c=>[]) h.2.1 h.2.2) (fun h=>(fun b c=>[Ch.opt (d.state == (3:Int)) (Ty.int .i64) 3 A0 C0 d.order.bH,Ch.arr bE 136 b c d.out,Ch.box N0 76 (lA d A0 C0 b c)]) h.2.1 h.2.2) (fun h=>(fun b c=>[Im.sl (Ty.int .i32) A2 C2 l]) h.2.1 h.2.2) ?_ ?_
 ·refine Yl0 ?_
  refine Tq (η:=(Option Addr×Nat)) (fun a h=>(fun e g=>[(8,.int .i64 a.2)]) h.1 h.2) [0,6,7] (fun a h=>(fun e g=>[Ch.opt (a.1.state == (3:Int)) (Ty.int .i64) 3 A0 C0 a.1.order.bH,Ch.arr bE 136 e g a.1.out,Ch.box N0 76 (lA a.1 A0 C0 e g)]) h.1 h.2) [] (fun _ _=>[]) (A1,C1) [1,1,0] [] k ?_
  rintro k_ a ⟨e,g⟩ z n o q
  refine Y2 ?_
  refine Tb n (fun i=> ?_) fun i=> ?_
  ·refine Z1 ?_
   refine Zl ?_
   refine Z1 ?_
   have ⟨B,j,s⟩:=bnd i
   refine L.addr 0 rfl (cL j) fun C F t=> ?_
   subst t
   refine Ly (Yl.ia j rfl rfl rfl rfl rfl rfl) ?_
   refine L.el 0 rfl (aU j).2 ?_
   rintro _
   refine Lc 0 0 ?_
   refine Z0 ?_
   refine L.jr [Im.sl (Ty.int .i64) none 0 []] (fun A w _ _ f hf=>by rw [List.mem_singleton.1 hf]; exact Im.ib A w) ?_
   have ⟨I,u,v⟩:=bnd s
   refine Lk [2,0,0] [0] (lM u) fun ⟨x,y⟩=> ?_
   refine Z0 ?_
   cases v
   exact Eg (_,(x,y)) (o _ rfl) [1,1,0] [] 2
  refine Z0 ?_
  cases i
  have hb:=q _ rfl
  subst d
  exact Egx ((),(e,g)) trivial [0,0,0] [0]
 rintro ⟨_,⟨b,c⟩⟩ _
 refine E.off ?_
 cases m
 exact Eo (b,c) [2,0,0] [] .nil
theorem kJ {p:aH} {b:Int} {r:Bool×aH} (H:fD p b=some r):CT G 178 [.pointer (some ⟨N0,0,none⟩),.int .u8 b] [Ch.box N0 76 (lA p A0 C0 A1 C1),Ch.opt (p.state == (3:Int)) (Ty.int .i64) 3 A0 C0 p.order.bH,Ch.arr bE 136 A1 C1 p.out] [] (fun h:(Option Addr×Nat)=> .bool r.1) (fun h=>[Ch.box N0 76 (lA r.2 A0 C0 h.1 h.2),Ch.opt (r.2.state == (3:Int)) (Ty.int .i64) 3 A0 C0 r.2.order.bH,Ch.arr bE 136 h.1 h.2 r.2.out]) (fun h=>[]):=by
 delta fD at H
 refine Cf Go.Proofs.Tryz.func178 fun K=> ?_
 refine Y2 ?_
 have ⟨k,m,l⟩:=bnd H
 refine Tj (η:=aH×((Option Addr×Nat))) (fun h=>k = .inl h.1) (fun _=>[]) [] (fun h=>(fun a=>(fun c d=>[Ch.opt (a.state == (3:Int)) (Ty.int .i64) 3 A0 C0 a.order.bH,Ch.arr bE 136 c d a.out,Ch.box N0 76 (lA a A0 C0 c d)]) h.2.1 h.2.2) h.1) [] (fun _=>[]) ?_ ?_
 ·refine Zl ?_
  refine Y1 ?_
  have ⟨n,o,q⟩:=bnd m
  refine Tj0 [(7,.bool n)] [0,1] [] [0,1,2] ?_ ?_
  ·refine Z0 ?_
   refine Lw 10 o (fun e=> ?_) fun e=> ?_
   ·refine Z0 ?_
    cases e
    exact Eg0 [0,0,0] 0
   refine Z0 ?_
   cases e
   exact Eg0 [0,0,0] 0
  refine Tb q (fun g=> ?_) fun g=> ?_
  ·refine Z0 ?_
   refine Lt 0 ?_
   refine Z0 ?_
   refine E.oset 1 (0 == (3:Int)) rfl rfl ?_
   cases g
   exact Eg (_,(A1,C1)) rfl [0,1,0] [] 0
  refine Z1 ?_
  refine Tb g (fun i=> ?_) fun i=> ?_
  ·refine Z0 ?_
   refine Lt 0 ?_
   refine Z0 ?_
   refine E.oset 1 (1 == (3:Int)) rfl rfl ?_
   cases i
   exact Eg (_,(A1,C1)) rfl [0,1,0] [] 0
  refine Z1 ?_
  refine Tb i (fun j=> ?_) fun j=> ?_
  ·refine Z0 ?_
   refine L.jr [Im.sl (Ty.int .i64) none 0 []] (fun A w _ _ f hf=>by rw [List.mem_singleton.1 hf]; exact Im.ib A w) ?_
   have ⟨y,s,t⟩:=bnd j
   refine Lk [0,0,0] [0] (lM s) fun ⟨u,v⟩=> ?_
   refine Z0 ?_
   cases t
   exact Eg (_,(u,v)) rfl [1,1,0] [] 1
  refine Z1 ?_
  obtain ⟨z,hz,x⟩:=dX j
  subst k
  obtain rfl:=(sm l).symm
  refine Z0 ?_
  cases x
  exact Eo1 (A1,C1) [0,0,0] []
 rintro ⟨a,⟨c,d⟩⟩ hy
 subst hy
 refine Z1 ?_
 cases l
 exact Eo1 (c,d) [2,0,0] []
theorem vk {b:Int} {r:kM×Bool} (H:l6 b=some r):CT G 213 [.int .u8 b] [] [Im.sl eK (some ⟨3,0,none⟩) 8 bV] (fun _:Unit=> .tuple #[.agg (Pp r.1).toArray,.bool r.2]) (fun h=>[]) (fun h=>[]):=by
 delta l6 at H
 refine Cf Go.Proofs.Tryz.func213 fun K=> ?_
 refine Z1 ?_
 refine Ll fun g1=> ?_
 refine Z2 ?_
 refine Ly (Yl.ldt (ty:=eK) (h0:=()) 0 rfl rfl rfl (fun _ _=>rfl) rfl rfl rfl rfl) ?_
 refine Z0 ?_
 have ⟨a,j,f⟩:=bnd H
 refine Tj (η:=Unit×Unit) (fun h=>a = .inl h.1) (fun _=>[]) [2] (fun _=>[]) [0] (fun _=>[]) ?_ ?_
 ·refine Yl0 ?_
  refine Tq (η:=Unit) (fun g h=>[(7,.int .i64 g)]) [0,2,6] (fun _ _=>[]) [0] (fun _ _=>[]) () [0] [] j ?_
  rintro k_ g ⟨⟩ k l m i
  refine Y2 ?_
  refine Tb l (fun c=> ?_) fun c=> ?_
  ·refine Z1 ?_
   refine Zl ?_
   refine Z1 ?_
   have ⟨u,n,o⟩:=bnd c
   refine Ly (Yl.xav (ty:=eK) (h0:=()) n rfl rfl rfl rfl rfl rfl rfl rfl rfl) ?_
   refine Ll fun v=> ?_
   refine Lt 0 ?_
   refine Y1 ?_
   have ⟨p,q,s⟩:=bnd o
   refine Tj0 [(19,.bool p)] [0,2,5,6,7] [] [0,1] ?_ ?_
   ·refine Z0 ?_
    refine Lw 14 q (fun d=> ?_) fun d=> ?_
    ·refine Z0 ?_
     cases d
     exact Eg0 [0,0] 0
    refine Z0 ?_
    cases d
    exact Eg0 [0,0] 0
   refine Tb s (fun e=> ?_) fun e=> ?_
   ·refine Z1 ?_
    refine Lt 1 ?_
    refine Z0 ?_
    obtain ⟨w,hz,t⟩:=fG e
    subst k
    have hb:=i _ rfl
    subst a
    obtain rfl:=(sm f).symm
    refine Z0 ?_
    cases t
    exact Eo () [] [] (.cell 0 rfl rfl rfl (.tmp rfl .nil))
   refine Z0 ?_
   cases e
   exact Eg (_,()) (m _ rfl) [1] [] 0
  refine Z0 ?_
  cases c
  have hb:=i _ rfl
  subst a
  exact Eg (_,()) rfl [0] [] 0
 rintro ⟨x,⟨⟩⟩ hy
 subst hy
 refine Z1 ?_
 refine Lt 0 ?_
 refine Z0 ?_
 cases f
 exact Eo () [] [] (.cell 0 rfl rfl rfl (.tmp rfl .nil))
theorem tU {b:Int} {r:bQ×(List Int)} (H:lE b=some r):CT G 204 [.int .u8 b] [] [Im.sl eK (some ⟨3,0,none⟩) 8 bV] (fun h:(Option Addr×Nat)=> .tuple #[.agg #[.int .u8 r.1.lead,.int .i32 r.1.rune,.int .i64 r.1.jm],.slice h.1 r.2.length h.2]) (fun h=>[Ch.arr (Ty.int .i32) 21 h.1 h.2 r.2]) (fun h=>[]):=by
 delta lE at H
 refine Cf Go.Proofs.Tryz.func204 fun K=> ?_
 refine Z1 ?_
 refine Ll fun g1=> ?_
 refine Z2 ?_
 refine Tb H (fun H5=> ?_) fun H5=> ?_
 ·refine Z1 ?_
  refine La [] [] (Ac.bs (ty:=(Ty.int .i32)) (xs:=[(IntKind.i32.wrap b)]) (.cons () [] rfl .nil) rfl rfl rfl rfl rfl rfl rfl) fun g6=> ?_
  refine Lt 1 ?_
  refine Z0 ?_
  cases H5
  exact Eo ((some ⟨g6,0,none⟩),1) [1] [] (.cell 0 rfl rfl rfl (.tmp rfl .nil))
 refine Z1 ?_
 have ⟨r8,h9,c⟩:=bnd H5
 refine Lk [] [0] (vk h9) fun ⟨⟩=> ?_
 refine Z0 ?_
 refine Ll fun g=> ?_
 refine Lt 0 ?_
 refine Z2 ?_
 refine Tb c (fun a=> ?_) fun a=> ?_
 ·refine Z1 ?_
  refine La [] [] (Ac.bs (ty:=(Ty.int .i32)) (xs:=[65533]) (.cons () [] rfl .nil) rfl rfl rfl rfl rfl rfl rfl) fun d=> ?_
  refine Lt 2 ?_
  refine Z0 ?_
  cases a
  exact Eo ((some ⟨d,0,none⟩),1) [1] [] (.cell 0 rfl rfl rfl (.tmp rfl .nil))
 refine Y1 ?_
 refine Td [10] [0,0] mo ?_
 refine Dq 0 ?_
 refine Dq 1 ?_
 refine Dq 2 ?_
 refine Dq 3 ?_
 refine Db 4 0 ?_
 have ⟨_,e,f⟩:=bnd a
 refine Dy 5 (Yl.shr (nb:=32) rfl e rfl rfl rfl) ?_
 refine Dq 6 ?_
 refine Dq 7 ?_
 refine Db 8 0 ?_
 refine Dq 9 ?_
 refine Dt 1 ?_
 refine Dq 11 ?_
 refine Dn ?_
 refine Z0 ?_
 refine E.iw (Ty.int .i32) 21 ?_
 cases f
 exact Eo (none,0) [0] [] (.cell 1 rfl rfl rfl (.tmp rfl .nil))
theorem ss {d:bQ} {b:Int} {r:Bool} (H:iI d b=some r):CT G 205 [.agg #[.int .u8 d.lead,.int .i32 d.rune,.int .i64 d.jm],.int .u8 b] [] [Im.sl eK (some ⟨3,0,none⟩) 8 bV] (fun _:Unit=> .bool r) (fun h=>[]) (fun h=>[]):=by
 delta iI at H
 refine Cf Go.Proofs.Tryz.func205 fun K=> ?_
 refine Z1 ?_
 refine Lx fun g1=> ?_
 refine Z1 ?_
 have ⟨r2,h3,H4⟩:=bnd H
 refine Lk [] [0] (vk h3) fun ⟨⟩=> ?_
 refine Z0 ?_
 refine Ll fun g5=> ?_
 refine Lt 0 ?_
 refine Z2 ?_
 refine Tb H4 (fun a=> ?_) fun a=> ?_
 ·refine Y1 ?_
  have ⟨f,g,i⟩:=bnd a
  refine Tj0 [(4,.bool f)] [] [] [0,1] ?_ ?_
  ·refine Z0 ?_
   refine Lw 20 g (fun c=> ?_) fun c=> ?_
   ·refine Z0 ?_
    cases c
    exact Eg0 [0,0] 0
   refine Z0 ?_
   cases c
   exact Eg0 [0,0] 0
  refine Z0 ?_
  cases i
  exact Eo1 () [] []
 refine Y1 ?_
 have ⟨j,k,l⟩:=bnd a
 refine Tj0 [(4,.bool j)] [] [] [0,1] ?_ ?_
 ·refine Z0 ?_
  refine Lw 28 k (fun e=> ?_) fun e=> ?_
  ·refine Z0 ?_
   cases e
   exact Eg0 [0,0] 0
  refine Z0 ?_
  cases e
  exact Eg0 [0,0] 0
 refine Z0 ?_
 cases l
 exact Eo1 () [] []
theorem su {d:bQ} {b:Int} {r:bQ×(List Int)} (H:iJ d b=some r):CT G 179 [.agg #[.int .u8 d.lead,.int .i32 d.rune,.int .i64 d.jm],.int .u8 b] [] [Im.sl eK (some ⟨3,0,none⟩) 8 bV] (fun h:(Option Addr×Nat)=> .tuple #[.agg #[.int .u8 r.1.lead,.int .i32 r.1.rune,.int .i64 r.1.jm],.slice h.1 r.2.length h.2]) (fun h=>[Ch.arr (Ty.int .i32) 21 h.1 h.2 r.2]) (fun h=>[]):=by
 delta iJ at H
 refine Cf Go.Proofs.Tryz.func179 fun K=> ?_
 refine Z1 ?_
 refine Lx fun g1=> ?_
 refine Ll fun g2=> ?_
 refine Z2 ?_
 refine Tb H (fun f=> ?_) fun f=> ?_
 ·refine Z1 ?_
  have ⟨B,l,m⟩:=bnd f
  refine Lk [] [0] (tU l) fun ⟨n,o⟩=> ?_
  refine Z0 ?_
  refine Lt 1 ?_
  refine Z0 ?_
  cases m
  exact Eo (n,o) [1] [] (.cell 0 rfl rfl rfl (.tmp rfl .nil))
 refine Z2 ?_
 have ⟨C,p,q⟩:=bnd f
 refine Lk [] [0] (ss p) fun ⟨⟩=> ?_
 refine Z0 ?_
 refine Tb q (fun g=> ?_) fun g=> ?_
 ·refine Z1 ?_
  have ⟨F,s,t⟩:=bnd g
  refine Lk [] [0] (tU s) fun ⟨I,J⟩=> ?_
  refine Z0 ?_
  refine Ll fun M=> ?_
  refine Lt 0 ?_
  refine Y1 ?_
  refine Td [4] [0,1,1] mo ?_
  refine Db 0 0 ?_
  refine Dq 2 ?_
  refine Da [] [] rfl rfl (Ac.bs (ty:=(Ty.int .i32)) (xs:=[65533]) (.cons () [] rfl .nil) rfl rfl rfl rfl rfl rfl rfl) fun N=> ?_
  refine D.frz 1 rfl ?_
  have ⟨_,u,v⟩:=bnd t
  refine Da [0] [0] rfl rfl (Ac.ap (ty:=(Ty.int .i32)) u rfl rfl rfl rfl rfl rfl rfl) ?_
  rintro ⟨w,x⟩
  refine Dt 1 ?_
  refine Dq 5 ?_
  refine Dn ?_
  refine Z0 ?_
  cases v
  exact Eo (w,x) [3] [] (.cell 0 rfl rfl rfl (.tmp rfl .nil))
 refine Z1 ?_
 refine Lt 1 ?_
 refine Z0 ?_
 refine Lt 0 ?_
 refine Z2 ?_
 refine Tb g (fun i=> ?_) fun i=> ?_
 ·refine Y1 ?_
  have ⟨j,k,y⟩:=bnd i
  refine Tjh (η:=(Option Addr×Nat)) (fun h=>(fun c e=>[(5,.slice c j.length e)]) h.1 h.2) [4] (fun h=>(fun c e=>[Ch.arr (Ty.int .i32) 21 c e j]) h.1 h.2) [0,1] (fun _=>[]) ?_ ?_
  ·refine Td [] [0] mo ?_
   refine Dq 0 ?_
   refine Dq 1 ?_
   refine Db 2 0 ?_
   refine D.two rfl rfl rfl ?_ ?_
   ·refine Dp.a [] [] (Ac.bs (ty:=(Ty.int .i32)) (xs:=[(Go.bits .or .i32 (IntKind.i32.wrap (d.rune*2 ^ (min 6 32))) (Go.bits .and .i32 (IntKind.i32.wrap b) 63))]) (.cons () [] rfl .nil) rfl rfl rfl rfl rfl rfl rfl) rfl rfl rfl rfl rfl rfl ?_
    intro z
    refine Da [1] [] rfl rfl (Ac.stb rfl rfl rfl rfl rfl rfl) fun _=> ?_
    refine Dq 5 ?_
    refine Dn ?_
    cases k
    exact Eg ((some ⟨z,0,none⟩),1) trivial [2,0,0] [] 0
   refine Dp.a [0] [] (Ac.stb rfl rfl rfl rfl rfl rfl) rfl rfl rfl rfl rfl rfl ?_
   intro _
   refine Da [] [] rfl rfl (Ac.bs (ty:=(Ty.int .i32)) (xs:=[(Go.bits .or .i32 (IntKind.i32.wrap (d.rune*2 ^ (min 6 32))) (Go.bits .and .i32 (IntKind.i32.wrap b) 63))]) (.cons () [] rfl .nil) rfl rfl rfl rfl rfl rfl rfl) fun A=> ?_
   refine Dq 5 ?_
   refine Dn ?_
   cases k
   exact Eg ((some ⟨A,0,none⟩),1) trivial [1,0,0] [] 0
  rintro ⟨c,e⟩
  refine Z0 ?_
  cases y
  exact Eo (c,e) [0] [] (.cell 2 rfl rfl rfl (.tmp rfl .nil))
 refine Z1 ?_
 refine Lt 1 ?_
 refine Z0 ?_
 refine E.iw (Ty.int .i32) 21 ?_
 cases i
 exact Eo (none,0) [0] [] (.cell 1 rfl rfl rfl (.tmp rfl .nil))
theorem rE {p:aH} {b:Int} {r:aH} (H:ig p b=some r):CT G 138 [.pointer (some ⟨N0,0,none⟩),.int .u8 b] [Ch.box N0 76 (lA p A0 C0 A1 C1),Ch.opt (p.state == (3:Int)) (Ty.int .i64) 3 A0 C0 p.order.bH,Ch.arr bE 136 A1 C1 p.out] [Im.sl eK (some ⟨3,0,none⟩) 8 bV] (fun h:(Option Addr×Nat)=> .tuple #[]) (fun h=>[Ch.box N0 76 (lA r A0 C0 h.1 h.2),Ch.opt (r.state == (3:Int)) (Ty.int .i64) 3 A0 C0 r.order.bH,Ch.arr bE 136 h.1 h.2 r.out]) (fun h=>[]):=by
 delta ig at H
 refine Cf Go.Proofs.Tryz.func138 fun K=> ?_
 refine Y2 ?_
 have ⟨e4,H5,H6⟩:=bnd H
 refine Tj0 [(10,.bool e4)] [0,1] [] [0,1,2] ?_ ?_
 ·refine Z0 ?_
  refine Lw 7 H5 (fun H7=> ?_) fun H7=> ?_
  ·refine Z0 ?_
   cases H7
   exact Eg0 [0,0,0] 0
  refine Z0 ?_
  cases H7
  exact Eg0 [0,0,0] 0
 refine Tb H6 (fun a=> ?_) fun a=> ?_
 ·refine Z1 ?_
  have ⟨t,c,d⟩:=bnd a
  refine Lk [] [] (tw c) fun ⟨u,v⟩=> ?_
  refine L.frz 0 rfl ?_
  have ⟨w,e,f⟩:=bnd d
  refine Lk [0,0,0] [0] (o7 e) fun ⟨x,y⟩=> ?_
  refine Z1 ?_
  refine Lt 0 ?_
  refine Z1 ?_
  have ⟨z,g,i⟩:=bnd f
  refine Lk [0,0,0] [] (kJ g) fun ⟨j,k⟩=> ?_
  refine Z0 ?_
  cases i
  exact Eo (j,k) [0,0,0] [] .nil
 refine Z2 ?_
 have ⟨A,l,m⟩:=bnd a
 refine Lk [] [0] (su l) fun ⟨B,C⟩=> ?_
 refine Z0 ?_
 refine Lt 1 ?_
 refine Z0 ?_
 refine L.frz 1 rfl ?_
 have ⟨F,n,o⟩:=bnd m
 refine Lk [0,0,0] [0] (o7 n) fun ⟨q,s⟩=> ?_
 refine Ln (E.off ?_)
 cases o
 exact Eo (q,s) [0,0,0] [] .nil
theorem nD {p:aH} {b:Int} {r:aH} (H:fX p b=some r):CT G 139 [.pointer (some ⟨N0,0,none⟩),.int .u8 b] [Ch.box N0 76 (lA p A0 C0 A1 C1),Ch.opt (p.state == (3:Int)) (Ty.int .i64) 3 A0 C0 p.order.bH,Ch.arr bE 136 A1 C1 p.out] [] (fun h:(Option Addr×Nat)×(Option Addr×Nat)=> .tuple #[]) (fun h=>[Ch.box N0 76 (lA r h.1.1 h.1.2 h.2.1 h.2.2),Ch.opt (r.state == (3:Int)) (Ty.int .i64) 3 h.1.1 h.1.2 r.order.bH,Ch.arr bE 136 h.2.1 h.2.2 r.out]) (fun h=>[]):=by
 delta fX at H
 refine Cf Go.Proofs.Tryz.func139 fun K=> ?_
 refine Z2 ?_
 have ⟨r1,h2,H3⟩:=bnd H
 refine Lk [0,0,0] [] (kJ h2) fun ⟨a4,c5⟩=> ?_
 refine Z0 ?_
 refine Tb H3 (fun H9=> ?_) fun H9=> ?_
 ·refine Z0 ?_
  cases H9
  exact Eo ((A0,C0),(a4,c5)) [0,0,0] [] .nil
 refine Y1 ?_
 have ⟨c,m,d⟩:=bnd H9
 refine Tj (η:=aH×((Option Addr×Nat))) (fun h=>c = .inl h.1) (fun _=>[]) [0] (fun h=>(fun a=>(fun e g=>[Ch.opt (a.state == (3:Int)) (Ty.int .i64) 3 A0 C0 a.order.bH,Ch.arr bE 136 e g a.out,Ch.box N0 76 (lA a A0 C0 e g)]) h.2.1 h.2.2) h.1) [] (fun _=>[]) ?_ ?_
 ·refine Zl ?_
  refine Z1 ?_
  refine Tb m (fun i=> ?_) fun i=> ?_
  ·refine Z1 ?_
   refine Lt 0 ?_
   refine Z0 ?_
   refine Lt 0 ?_
   refine Z0 ?_
   obtain ⟨x,hz,n⟩:=dX i
   subst c
   obtain rfl:=(sm d).symm
   refine Z0 ?_
   refine E.iw (Ty.int .i64) 3 ?_
   refine E.F9 0 (3 == (3:Int)) rfl ?_
   cases n
   exact Eo ((none,0),(a4,c5)) [1,0,1] [] .nil
  refine Z1 ?_
  refine Tb i (fun j=> ?_) fun j=> ?_
  ·refine Z1 ?_
   refine Lt 0 ?_
   refine Z0 ?_
   refine Lt 0 ?_
   refine Z0 ?_
   obtain ⟨y,hz,o⟩:=dX j
   subst c
   obtain rfl:=(sm d).symm
   refine Z0 ?_
   refine E.oset 1 (4 == (3:Int)) rfl rfl ?_
   cases o
   exact Eo ((A0,C0),(a4,c5)) [1,0,0] [] .nil
  refine Z1 ?_
  refine Tb j (fun k=> ?_) fun k=> ?_
  ·refine Z1 ?_
   refine Lt 0 ?_
   refine Z0 ?_
   obtain ⟨z,hz,q⟩:=dX k
   subst c
   obtain rfl:=(sm d).symm
   refine Z0 ?_
   refine E.oset 1 (2 == (3:Int)) rfl rfl ?_
   cases q
   exact Eo ((A0,C0),(a4,c5)) [1,0,0] [] .nil
  refine Z1 ?_
  refine Tb k (fun l=> ?_) fun l=> ?_
  ·refine Z0 ?_
   refine L.jr [Im.sl (Ty.int .i64) none 0 []] (fun A w _ _ f hf=>by rw [List.mem_singleton.1 hf]; exact Im.ib A w) ?_
   have ⟨B,s,t⟩:=bnd l
   refine Lk [0,0,0] [0] (lM s) fun ⟨u,v⟩=> ?_
   refine Z0 ?_
   cases t
   exact Eg (_,(u,v)) rfl [1,1,0] [] 1
  refine Z0 ?_
  cases l
  exact Eg (_,(a4,c5)) rfl [1,1,0] [] 0
 rintro ⟨a,⟨e,g⟩⟩ hy
 subst hy
 refine Z0 ?_
 refine Lt 2 ?_
 refine Ln (E.off ?_)
 refine E.oset 1 (0 == (3:Int)) rfl rfl ?_
 cases d
 exact Eo ((A0,C0),(e,g)) [1,0,0] [] .nil
theorem tz {p:aH} {b:Int} {r:aH} (H:jf p b=some r):CT G 140 [.pointer (some ⟨N0,0,none⟩),.int .u8 b] [Ch.box N0 76 (lA p A0 C0 A1 C1),Ch.opt (p.state == (3:Int)) (Ty.int .i64) 3 A0 C0 p.order.bH,Ch.arr bE 136 A1 C1 p.out] [] (fun h:(Option Addr×Nat)=> .tuple #[]) (fun h=>[Ch.box N0 76 (lA r A0 C0 h.1 h.2),Ch.opt (r.state == (3:Int)) (Ty.int .i64) 3 A0 C0 r.order.bH,Ch.arr bE 136 h.1 h.2 r.out]) (fun h=>[]):=by
 delta jf at H
 refine Cf Go.Proofs.Tryz.func140 fun K=> ?_
 refine Y1 ?_
 have ⟨d,j,k⟩:=bnd H
 refine Tjh (η:=(Option Addr×Nat)) (fun h=>(fun a c=>[(11,.bool d.1)]) h.1 h.2) [0] (fun h=>(fun a c=>[Ch.opt (d.2.state == (3:Int)) (Ty.int .i64) 3 A0 C0 d.2.order.bH,Ch.arr bE 136 a c d.2.out,Ch.box N0 76 (lA d.2 A0 C0 a c)]) h.1 h.2) [] (fun _=>[]) ?_ ?_
 ·refine Z0 ?_
  have ⟨n,l,m⟩:=bnd j
  refine Lk [0,0,0] [] (kJ l) fun ⟨g,i⟩=> ?_
  refine Z0 ?_
  refine Lw 8 m (fun e=> ?_) fun e=> ?_
  ·refine Z0 ?_
   cases e
   exact Eg (g,i) trivial [1,1,0] [] 0
  refine Z0 ?_
  cases e
  exact Eg (g,i) trivial [1,1,0] [] 0
 rintro ⟨a,c⟩
 refine Tb k (fun f=> ?_) fun f=> ?_
 ·refine Z0 ?_
  refine Lt 2 ?_
  refine Ln (E.off ?_)
  refine E.oset 1 (0 == (3:Int)) rfl rfl ?_
  cases f
  exact Eo (a,c) [1,0,0] [] .nil
 refine Tk (E.off ?_)
 cases f
 exact Eo (a,c) [2,0,0] [] .nil
theorem ql {o:aH} {r:aH} (H:jD o=some r):CT G 181 [.pointer (some ⟨N0,1,none⟩)] [Ch.box N0 76 (lA o A0 C0 A1 C1),Ch.arr (Ty.int .i64) 3 A0 C0 o.order.bH,Ch.arr bE 136 A1 C1 o.out] [] (fun h:(Option Addr×Nat)=> .tuple #[]) (fun h=>[Ch.box N0 76 (lA r h.1 h.2 A1 C1),Ch.arr (Ty.int .i64) 3 h.1 h.2 r.order.bH,Ch.arr bE 136 A1 C1 r.out]) (fun h=>[]):=by
 delta jD at H
 refine Cf Go.Proofs.Tryz.func181 fun K=> ?_
 refine Z2 ?_
 have ⟨c,e,f⟩:=bnd H
 refine Tjh (η:=(Option Addr×Nat)) (fun _=>[]) [0] (fun h=>(fun a b=>[Ch.arr (Ty.int .i64) 3 a b c.order.bH,Ch.arr bE 136 A1 C1 c.out,Ch.box N0 76 (lA c a b A1 C1)]) h.1 h.2) [] (fun _=>[]) ?_ ?_
 ·refine Tb e (fun d=> ?_) fun d=> ?_
  ·refine Td [13] [0,1] mo ?_
   refine Dq 0 ?_
   refine Dq 1 ?_
   refine Dq 2 ?_
   refine Dq 3 ?_
   refine Db 4 0 ?_
   refine Dq 5 ?_
   refine Dq 6 ?_
   refine Dq 7 ?_
   refine Db 8 0 ?_
   refine Da [] [] rfl rfl (Ac.bs (ty:=(Ty.int .i64)) (xs:=[o.order.n]) (.cons () [] rfl .nil) rfl rfl rfl rfl rfl rfl rfl) fun l=> ?_
   refine D.frz 0 rfl ?_
   have ⟨_,g,i⟩:=bnd d
   refine Da [0] [0] rfl rfl (Ac.ap (ty:=(Ty.int .i64)) g rfl rfl rfl rfl rfl rfl rfl) ?_
   rintro ⟨j,k⟩
   refine Dq 11 ?_
   refine Dq 12 ?_
   refine Dt 0 ?_
   refine Dn ?_
   cases i
   exact Eg (j,k) trivial [2,1,0] [] 1
  refine Z0 ?_
  cases d
  exact Eg (A0,C0) trivial [1,1,0] [] 0
 rintro ⟨a,b⟩
 refine Z0 ?_
 refine Lt 2 ?_
 refine Ln (E.off ?_)
 cases f
 exact Eo (a,b) [0,0,0] [] .nil
theorem sA {p:aH} {a:aZ} {r:aH} (H:iO p a=some r):CT G 180 [.pointer (some ⟨N0,0,none⟩),.agg (yV a A2 C2).toArray] [Ch.box N0 76 (lA p A0 C0 A1 C1),Ch.arr bE 136 A1 C1 p.out] [Im.sl (Ty.int .i64) A0 C0 p.order.bH,Im.sl (Ty.int .i64) A2 C2 a.bH] (fun h:(Option Addr×Nat)=> .tuple #[]) (fun h=>[Ch.box N0 76 (lA r A0 C0 h.1 h.2),Ch.arr bE 136 h.1 h.2 r.out]) (fun h=>[Im.sl (Ty.int .i64) A0 C0 r.order.bH]):=by
 delta iO at H
 refine Cf Go.Proofs.Tryz.func180 fun K=> ?_
 refine Z1 ?_
 refine Lx fun g1=> ?_
 refine Z0 ?_
 refine Td [7,10] [0,0,0] mo ?_
 refine Dq 0 ?_
 refine Dq 1 ?_
 refine Dq 2 ?_
 refine Dq 3 ?_
 refine Db 4 1 ?_
 refine Db 5 0 ?_
 refine Da [] [1] rfl rfl (Ac.bs (ty:=bE) (xs:=[a]) (.cons (A2,C2) [0] rfl .nil) rfl rfl rfl rfl rfl rfl rfl) fun f=> ?_
 refine D.frz 0 rfl ?_
 have ⟨_,b,c⟩:=bnd H
 refine D.one rfl rfl rfl (Dp.al [2] [0] (Ac.ap (ty:=bE) b rfl rfl rfl rfl rfl rfl rfl) rfl rfl rfl rfl rfl rfl rfl ?_)
 rintro ⟨d,e⟩
 refine Dq 8 ?_
 refine Dq 9 ?_
 refine Dt 2 ?_
 refine Dn ?_
 refine E.off ?_
 cases c
 exact Eo (d,e) [0,0] [1] .nil
theorem tB {p:aH} {b:Int} {r:aH} (H:jg p b=some r):CT G 182 [.pointer (some ⟨N0,0,none⟩),.int .u8 b] [Ch.box N0 76 (lA p A0 C0 A1 C1),Ch.arr (Ty.int .i64) 3 A0 C0 p.order.bH,Ch.arr bE 136 A1 C1 p.out] [] (fun h:(Option Addr×Nat)×(Option Addr×Nat)=> .tuple #[]) (fun h=>[Ch.box N0 76 (lA r h.1.1 h.1.2 h.2.1 h.2.2),Ch.opt (r.state == (3:Int)) (Ty.int .i64) 3 h.1.1 h.1.2 r.order.bH,Ch.arr bE 136 h.2.1 h.2.2 r.out]) (fun h=>[]):=by
 delta jg at H
 refine Cf Go.Proofs.Tryz.func182 fun K=> ?_
 refine Z1 ?_
 refine Lt 0 ?_
 refine Z2 ?_
 refine Tb H (fun H2=> ?_) fun H2=> ?_
 ·refine Z0 ?_
  refine E.F9 1 (0 == (3:Int)) rfl ?_
  cases H2
  exact Eo ((A0,C0),(A1,C1)) [1,0,0] [] .nil
 refine Z2 ?_
 have ⟨d,f,g⟩:=bnd H2
 refine Tjh (η:=(Option Addr×Nat)) (fun _=>[]) [0,1] (fun h=>(fun a c=>[Ch.arr (Ty.int .i64) 3 a c d.order.bH,Ch.arr bE 136 A1 C1 d.out,Ch.box N0 76 (lA d a c A1 C1)]) h.1 h.2) [] (fun _=>[]) ?_ ?_
 ·refine Tb f (fun e=> ?_) fun e=> ?_
  ·refine Z0 ?_
   have ⟨v,i,j⟩:=bnd e
   refine Lk [0,0,0] [] (ql i) fun ⟨k,l⟩=> ?_
   refine Z0 ?_
   cases j
   exact Eg (k,l) trivial [1,1,0] [] 0
  refine Z0 ?_
  cases e
  exact Eg (A0,C0) trivial [1,1,0] [] 0
 rintro ⟨a,c⟩
 refine Td [13] [1,1] mo ?_
 refine Dq 0 ?_
 refine Dq 1 ?_
 refine Dq 2 ?_
 refine Dq 3 ?_
 refine Dq 4 ?_
 refine Dq 5 ?_
 refine Db 6 1 ?_
 refine Dq 7 ?_
 refine Dq 8 ?_
 refine Dq 9 ?_
 refine Dq 10 ?_
 refine Db 11 1 ?_
 refine Dq 12 ?_
 refine D.frz 0 rfl ?_
 have ⟨m,n,o⟩:=bnd g
 refine Dkl [1,0] [0,0] (sA n) fun ⟨q,s⟩=> ?_
 refine Dn ?_
 refine E.off ?_
 have ⟨_,t,u⟩:=bnd o
 refine E.oim 0 3 (m.state == (3:Int)) (MP t) rfl ?_
 cases u
 exact Eo ((a,c),(q,s)) [1,0,0] [] .nil
theorem qX {p:aH} {b:Int} {r:aH} (H:gR p b=some r):CT G 141 [.pointer (some ⟨N0,0,none⟩),.int .u8 b] [Ch.box N0 76 (lA p A0 C0 A1 C1),Ch.opt (p.state == (3:Int)) (Ty.int .i64) 3 A0 C0 p.order.bH,Ch.arr bE 136 A1 C1 p.out] [] (fun h:(Option Addr×Nat)×(Option Addr×Nat)=> .tuple #[]) (fun h=>[Ch.box N0 76 (lA r h.1.1 h.1.2 h.2.1 h.2.2),Ch.opt (r.state == (3:Int)) (Ty.int .i64) 3 h.1.1 h.1.2 r.order.bH,Ch.arr bE 136 h.2.1 h.2.2 r.out]) (fun h=>[]):=by
 delta gR at H
 refine Cf Go.Proofs.Tryz.func141 fun K=> ?_
 refine Z2 ?_
 have ⟨r1,h2,H3⟩:=bnd H
 refine Lk [0,0,0] [] (kJ h2) fun ⟨a4,c5⟩=> ?_
 refine Z0 ?_
 refine Tb H3 (fun H9=> ?_) fun H9=> ?_
 ·refine Z0 ?_
  cases H9
  exact Eo ((A0,C0),(a4,c5)) [0,0,0] [] .nil
 refine Z2 ?_
 refine Lt 0 ?_
 refine Zl ?_
 refine Y1 ?_
 have ⟨k,l,m⟩:=bnd H9
 refine Tj0 [(22,.bool k)] [0,1,4] [] [0,1,2] ?_ ?_
 ·refine Z0 ?_
  refine Lw 25 l (fun a=> ?_) fun a=> ?_
  ·refine Z0 ?_
   cases a
   exact Eg0 [0,0,0] 0
  refine Z0 ?_
  cases a
  exact Eg0 [0,0,0] 0
 refine Tb m (fun c=> ?_) fun c=> ?_
 ·refine Z0 ?_
  refine Lt 0 ?_
  refine Z0 ?_
  refine Lt 0 ?_
  refine Ln (Eb (E.off ?_))
  cases c
  exact Eo ((A0,C0),(a4,c5)) [0,0,0] [] .nil
 refine Y1 ?_
 have ⟨n,o,q⟩:=bnd c
 refine Tj0 [(48,.bool n)] [0,1,4] [] [0,1,2] ?_ ?_
 ·refine Z0 ?_
  refine Lw 51 o (fun d=> ?_) fun d=> ?_
  ·refine Z0 ?_
   cases d
   exact Eg0 [0,0,0] 0
  refine Z0 ?_
  cases d
  exact Eg0 [0,0,0] 0
 refine Tb q (fun e=> ?_) fun e=> ?_
 ·refine Z1 ?_
  have ⟨_,s,t⟩:=bnd e
  refine L.Kk 1 s rfl ?_
  have ⟨u,v,w⟩:=bnd t
  refine Lk [1,0,0] [] (ql v) fun ⟨x,y⟩=> ?_
  refine Z0 ?_
  refine Lt 0 ?_
  refine Ln (Eb (E.off ?_))
  refine E.F9 1 (u.state == (3:Int)) rfl ?_
  cases w
  exact Eo ((x,y),(a4,c5)) [1,0,0] [] .nil
 refine Y1 ?_
 have ⟨z,A,B⟩:=bnd e
 refine Tj0 [(63,.bool z)] [0,1] [] [0,1,2] ?_ ?_
 ·refine Z0 ?_
  refine Lw 66 A (fun f=> ?_) fun f=> ?_
  ·refine Z0 ?_
   cases f
   exact Eg0 [0,0,0] 0
  refine Z0 ?_
  cases f
  exact Eg0 [0,0,0] 0
 refine Tb B (fun g=> ?_) fun g=> ?_
 ·refine Z0 ?_
  refine Lt 0 ?_
  refine Ln (Eb (E.off ?_))
  cases g
  exact Eo ((A0,C0),(a4,c5)) [0,0,0] [] .nil
 refine Y1 ?_
 have ⟨C,F,I⟩:=bnd g
 refine Tj0 [(73,.bool C)] [0,1] [] [0,1,2] ?_ ?_
 ·refine Z0 ?_
  refine Lw 76 F (fun i=> ?_) fun i=> ?_
  ·refine Z0 ?_
   cases i
   exact Eg0 [0,0,0] 0
  refine Z0 ?_
  cases i
  exact Eg0 [0,0,0] 0
 refine Tb I (fun j=> ?_) fun j=> ?_
 ·refine Z0 ?_
  have ⟨_,J,M⟩:=bnd j
  refine L.Kk 1 J rfl ?_
  have ⟨U,N,O⟩:=bnd M
  refine Lk [1,0,0] [] (tB N) fun ⟨⟨P,Q⟩,⟨R,S⟩⟩=> ?_
  refine Ln (Eb (E.off ?_))
  cases O
  exact Eo ((P,Q),(R,S)) [0,0,0] [] .nil
 refine Z0 ?_
 refine Lt 0 ?_
 refine Ln (Eb (E.off ?_))
 cases j
 exact Eo ((A0,C0),(a4,c5)) [0,0,0] [] .nil
theorem qm {s_:ByteArray} {prefix_:ByteArray} {r:Bool} (H:gD s_ prefix_=some r):CT G 214 [.string s_,.string prefix_] [] [] (fun _:Unit=> .bool r) (fun h=>[]) (fun h=>[]):=by
 delta gD at H
 refine Cf Go.Proofs.Tryz.func214 fun K=> ?_
 refine Y2 ?_
 have ⟨e8,H9,b⟩:=bnd H
 refine Tj0 [(4,.bool e8)] [] [] [] ?_ ?_
 ·refine Z0 ?_
  refine Lw 10 H9 (fun a=> ?_) fun a=> ?_
  ·refine Z0 ?_
   have ⟨_,c,d⟩:=bnd a
   refine Ly (Yl.sc c rfl rfl rfl rfl rfl rfl) ?_
   refine Z0 ?_
   cases d
   exact Eg0 [] 0
  refine Z0 ?_
  cases a
  exact Eg0 [] 0
 refine Z0 ?_
 cases b
 exact Eo1 () [] []
theorem qn {s_:ByteArray} {prefix_:ByteArray} {r:ByteArray×Bool} (H:iU s_ prefix_=some r):CT G 206 [.string s_,.string prefix_] [] [] (fun _:Unit=> .tuple #[.string r.1,.bool r.2]) (fun h=>[]) (fun h=>[]):=by
 delta iU at H
 refine Cf Go.Proofs.Tryz.func206 fun K=> ?_
 refine Z3 ?_
 have ⟨r1,h2,H3⟩:=bnd H
 refine Lk [] [] (qm h2) fun ⟨⟩=> ?_
 refine Z0 ?_
 refine Tb H3 (fun H5=> ?_) fun H5=> ?_
 ·refine Z1 ?_
  cases H5
  exact Eo () [] [] (.tmp rfl (.tmp rfl .nil))
 refine Z1 ?_
 have ⟨_,h6,H7⟩:=bnd H5
 refine Ly (Yl.sc h6 rfl rfl rfl rfl rfl rfl) ?_
 refine Z0 ?_
 cases H7
 exact Eo () [] [] (.tmp rfl (.tmp rfl .nil))
theorem tC {s_:ByteArray} {prefix_:ByteArray} {r:ByteArray×Bool} (H:je s_ prefix_=some r):CT G 183 [.string s_,.string prefix_] [] [] (fun _:Unit=> .tuple #[.string r.1,.bool r.2]) (fun h=>[]) (fun h=>[]):=by
 delta je at H
 refine Cf Go.Proofs.Tryz.func183 fun K=> ?_
 refine Z2 ?_
 have ⟨r1,h2,H3⟩:=bnd H
 refine Lk [] [] (qn h2) fun ⟨⟩=> ?_
 refine Z0 ?_
 cases H3
 exact Eo () [] [] (.tmp rfl (.tmp rfl .nil))
theorem pE {p:aH} {r:aH} (H:iV p=some r):CT G 143 [.pointer (some ⟨N0,0,none⟩)] [Ch.box N0 76 (lA p A0 C0 A1 C1),Ch.opt (p.state == (3:Int)) (Ty.int .i64) 3 A0 C0 p.order.bH,Ch.arr bE 136 A1 C1 p.out] [] (fun h:(Option Addr×Nat)=> .tuple #[]) (fun h=>[Ch.box N0 76 (lA r A0 C0 h.1 h.2),Ch.opt (r.state == (3:Int)) (Ty.int .i64) 3 A0 C0 r.order.bH,Ch.arr bE 136 h.1 h.2 r.out]) (fun h=>[]):=by
 delta iV at H
 refine Cf Go.Proofs.Tryz.func143 fun K=> ?_
 refine Z1 ?_
 refine Lt 0 ?_
 refine Z1 ?_
 refine La [] [] (Ac.bs (ty:=Ty.str) (xs:=[(ByteArray.mk #[48,59]),(ByteArray.mk #[50,59])]) (.cons () [] rfl (.cons () [] rfl .nil)) rfl rfl rfl rfl rfl rfl rfl) fun g1=> ?_
 refine Z0 ?_
 have ⟨g,o,q⟩:=bnd H
 refine T.tJ (η:=Unit×((Option Addr×Nat))) (fun h=>True) (fun h=>(fun b c=>[]) h.2.1 h.2.2) (fun h=>(fun b c=>[Ch.opt (g.state == (3:Int)) (Ty.int .i64) 3 A0 C0 g.order.bH,Ch.arr bE 136 b c g.out,Ch.box N0 76 (lA g A0 C0 b c)]) h.2.1 h.2.2) (fun h=>(fun b c=>[]) h.2.1 h.2.2) ?_ ?_
 ·refine Yl0 ?_
  refine T.oset 2 (0 == (3:Int)) rfl rfl ?_
  refine Tq (η:=(Option Addr×Nat)) (fun a h=>(fun d e=>[(11,.int .i64 a.2)]) h.1 h.2) [0,9,10] (fun a h=>(fun d e=>[Ch.opt (a.1.state == (3:Int)) (Ty.int .i64) 3 A0 C0 a.1.order.bH,Ch.arr bE 136 d e a.1.out,Ch.box N0 76 (lA a.1 A0 C0 d e)]) h.1 h.2) [1] (fun _ _=>[]) (A1,C1) [0,2,1,0] [] o ?_
  rintro k_ a ⟨d,e⟩ O s t u
  refine Y2 ?_
  refine Tb s (fun l=> ?_) fun l=> ?_
  ·refine Y1 ?_
   have ⟨i,x,y⟩:=bnd l
   refine Tjh (η:=(Option Addr×Nat)) (fun _=>[]) [0,9,10,11] (fun h=>(fun j k=>[Ch.opt (i.state == (3:Int)) (Ty.int .i64) 3 A0 C0 i.order.bH,Ch.arr bE 136 j k i.out,Ch.box N0 76 (lA i A0 C0 j k)]) h.1 h.2) [3] (fun _=>[]) ?_ ?_
   ·refine Zl ?_
    refine Z1 ?_
    have ⟨z,n,B⟩:=bnd x
    refine Ly (Yl.ia n rfl rfl rfl rfl rfl rfl) ?_
    refine Ly (Yl.lo (v:= .string z) 3 a.2.toNat 0 (aU n).2 rfl rfl rfl rfl (fun _=>rfl)) ?_
    refine Z1 ?_
    have ⟨P,C,F⟩:=bnd B
    refine Lk [] [] (tC C) fun ⟨⟩=> ?_
    refine Z1 ?_
    refine Tb F (fun m=> ?_) fun m=> ?_
    ·refine Z0 ?_
     refine L.jr [Im.sl (Ty.int .i64) none 0 []] (fun A w _ _ f hf=>by rw [List.mem_singleton.1 hf]; exact Im.ib A w) ?_
     have ⟨Q,I,J⟩:=bnd m
     refine Lk [2,0,0] [0] (lM I) fun ⟨M,N⟩=> ?_
     refine Z0 ?_
     cases J
     exact Eg (M,N) trivial [1,1,0,0] [] 1
    refine Z0 ?_
    cases m
    exact Eg (d,e) trivial [0,0,0,0] [] 0
   rintro ⟨j,k⟩
   refine Z0 ?_
   cases y
   exact Eg (_,(j,k)) (t _ rfl) [0,0,0,0] [] 0
  refine Z0 ?_
  cases l
  have hb:=u _ rfl
  subst g
  exact Egx ((),(d,e)) trivial [0,0,0] []
 rintro ⟨_,⟨b,c⟩⟩ _
 refine E.off ?_
 cases q
 exact Eo (b,c) [2,0,0] [] .nil
theorem sB {p:aH} {b:Int} {r:aH} (H:iP p b=some r):CT G 142 [.pointer (some ⟨N0,0,none⟩),.int .u8 b] [Ch.box N0 76 (lA p A0 C0 A1 C1),Ch.opt (p.state == (3:Int)) (Ty.int .i64) 3 A0 C0 p.order.bH,Ch.arr bE 136 A1 C1 p.out] [] (fun h:(Option Addr×Nat)=> .tuple #[]) (fun h=>[Ch.box N0 76 (lA r A0 C0 h.1 h.2),Ch.opt (r.state == (3:Int)) (Ty.int .i64) 3 A0 C0 r.order.bH,Ch.arr bE 136 h.1 h.2 r.out]) (fun h=>[]):=by
 delta iP at H
 refine Cf Go.Proofs.Tryz.func142 fun K=> ?_
 refine Zl ?_
 refine Z1 ?_
 refine Tb H (fun H1=> ?_) fun H1=> ?_
 ·refine Z0 ?_
  have ⟨r2,h3,H4⟩:=bnd H1
  refine Lk [0,0,0] [] (pE h3) fun ⟨a5,c6⟩=> ?_
  refine Ln (Eb (E.off ?_))
  cases H4
  exact Eo (a5,c6) [0,0,0] [] .nil
 refine Y1 ?_
 have ⟨f,g,i⟩:=bnd H1
 refine Tj0 [(9,.bool f)] [0,1] [] [0,1,2] ?_ ?_
 ·refine Z0 ?_
  refine Lw 12 g (fun a=> ?_) fun a=> ?_
  ·refine Z0 ?_
   cases a
   exact Eg0 [0,0,0] 0
  refine Z0 ?_
  cases a
  exact Eg0 [0,0,0] 0
 refine Tb i (fun c=> ?_) fun c=> ?_
 ·refine Z0 ?_
  refine Lt 0 ?_
  refine Ln (Eb (E.off ?_))
  refine E.oset 1 (0 == (3:Int)) rfl rfl ?_
  cases c
  exact Eo (A1,C1) [1,0,0] [] .nil
 refine Z1 ?_
 refine Tb c (fun d=> ?_) fun d=> ?_
 ·refine Z0 ?_
  refine Lt 0 ?_
  refine Ln (Eb (E.off ?_))
  refine E.oset 1 (5 == (3:Int)) rfl rfl ?_
  cases d
  exact Eo (A1,C1) [1,0,0] [] .nil
 refine Z1 ?_
 refine Tb d (fun e=> ?_) fun e=> ?_
 ·refine Td [10] [0,0,0] mo ?_
  refine Dq 0 ?_
  refine Dq 1 ?_
  refine Dq 2 ?_
  refine Db 3 0 ?_
  refine Dq 4 ?_
  refine Da [] [] rfl rfl (Ac.bs (ty:=(Ty.int .u8)) (xs:=[b]) (.cons () [] rfl .nil) rfl rfl rfl rfl rfl rfl rfl) fun l=> ?_
  refine D.frz 0 rfl ?_
  refine Dy 6 (Yl.bsi 0 rfl rfl rfl rfl rfl rfl rfl rfl rfl) ?_
  have ⟨_,j,k⟩:=bnd e
  refine Dy 7 (Yl.sa j rfl rfl rfl) ?_
  refine Dq 8 ?_
  refine Dq 9 ?_
  refine Dt 0 ?_
  refine Dn ?_
  refine Eb (E.off ?_)
  cases k
  exact Eo (A1,C1) [0,0,0] [] .nil
 refine Tk (Eb (E.off ?_))
 cases e
 exact Eo (A1,C1) [0,0,0] [] .nil
theorem wC {p:aH} {b:Int} {r:aH} (H:kR p b=some r):CT G 102 [.pointer (some ⟨N0,0,none⟩),.int .u8 b] [Ch.box N0 76 (lA p A0 C0 A1 C1),Ch.opt (p.state == (3:Int)) (Ty.int .i64) 3 A0 C0 p.order.bH,Ch.arr bE 136 A1 C1 p.out] [Im.sl eK (some ⟨3,0,none⟩) 8 bV] (fun h:(Option Addr×Nat)×(Option Addr×Nat)=> .tuple #[]) (fun h=>[Ch.box N0 76 (lA r h.1.1 h.1.2 h.2.1 h.2.2),Ch.opt (r.state == (3:Int)) (Ty.int .i64) 3 h.1.1 h.1.2 r.order.bH,Ch.arr bE 136 h.2.1 h.2.2 r.out]) (fun h=>[]):=by
 delta kR at H
 refine Cf Go.Proofs.Tryz.func102 fun K=> ?_
 refine Z1 ?_
 refine Zl ?_
 refine Z1 ?_
 refine Tb H (fun H1=> ?_) fun H1=> ?_
 ·refine Z0 ?_
  have ⟨r2,h3,H4⟩:=bnd H1
  refine Lk [0,0,0] [0] (rE h3) fun ⟨a5,c6⟩=> ?_
  refine Ln (Eb (E.off ?_))
  cases H4
  exact Eo ((A0,C0),(a5,c6)) [0,0,0] [] .nil
 refine Z1 ?_
 refine Tb H1 (fun H9=> ?_) fun H9=> ?_
 ·refine Z0 ?_
  have ⟨S,f,g⟩:=bnd H9
  refine Lk [0,0,0] [] (nD f) fun ⟨⟨i,j⟩,⟨k,l⟩⟩=> ?_
  refine Ln (Eb (E.off ?_))
  cases g
  exact Eo ((i,j),(k,l)) [0,0,0] [] .nil
 refine Z1 ?_
 refine Tb H9 (fun a=> ?_) fun a=> ?_
 ·refine Z0 ?_
  have ⟨U,m,n⟩:=bnd a
  refine Lk [0,0,0] [] (tz m) fun ⟨o,q⟩=> ?_
  refine Ln (Eb (E.off ?_))
  cases n
  exact Eo ((A0,C0),(o,q)) [0,0,0] [] .nil
 refine Z1 ?_
 refine Tb a (fun c=> ?_) fun c=> ?_
 ·refine Z0 ?_
  have ⟨V,s,t⟩:=bnd c
  refine Lk [0,0,0] [] (qX s) fun ⟨⟨u,v⟩,⟨w,x⟩⟩=> ?_
  refine Ln (Eb (E.off ?_))
  cases t
  exact Eo ((u,v),(w,x)) [0,0,0] [] .nil
 refine Z1 ?_
 refine Tb c (fun d=> ?_) fun d=> ?_
 ·refine Z0 ?_
  have ⟨W,y,z⟩:=bnd d
  refine Lk [0,0,0] [] (sB y) fun ⟨A,B⟩=> ?_
  refine Ln (Eb (E.off ?_))
  cases z
  exact Eo ((A0,C0),(A,B)) [0,0,0] [] .nil
 refine Z2 ?_
 refine Tb d (fun e=> ?_) fun e=> ?_
 ·refine Z1 ?_
  have ⟨X,C,F⟩:=bnd e
  refine Lk [0,0,0] [] (pE C) fun ⟨I,J⟩=> ?_
  refine Z0 ?_
  cases F
  exact Eo ((A0,C0),(I,J)) [0,0,0] [] .nil
 refine Z1 ?_
 refine Lt 0 ?_
 refine Z0 ?_
 refine L.oset 1 (1 == (3:Int)) rfl rfl ?_
 have ⟨Y,M,N⟩:=bnd e
 refine Lk [1,0,0] [] (nD M) fun ⟨⟨O,P⟩,⟨Q,R⟩⟩=> ?_
 refine Ln (Eb (E.off ?_))
 cases N
 exact Eo ((O,P),(Q,R)) [0,0,0] [] .nil
theorem vl {p:aH} {s_:ByteArray} {r:(List aZ)×aH} (H:ka p s_=some r):CT G 66 [.pointer (some ⟨N0,0,none⟩),.string s_] [Ch.box N0 76 (kV p A0 C0),Ch.opt (p.state == (3:Int)) (Ty.int .i64) 3 A0 C0 p.order.bH] [Im.sl eK (some ⟨3,0,none⟩) 8 bV] (fun h:(Option Addr×Nat)×(Option Addr×Nat)×(Option Addr×Nat)=> .slice h.1.1 r.1.length h.1.2) (fun h=>[Ch.arr bE 136 h.1.1 h.1.2 r.1,Ch.box N0 76 (kV r.2 h.2.1.1 h.2.1.2),Ch.opt (r.2.state == (3:Int)) (Ty.int .i64) 3 h.2.1.1 h.2.1.2 r.2.order.bH]) (fun h=>[]):=by
 delta ka at H
 refine Cf Go.Proofs.Tryz.func66 fun K=> ?_
 refine Z3 ?_
 have ⟨b,m,n⟩:=bnd H
 refine Tjh (η:=(Option Addr×Nat)×(Option Addr×Nat)) (fun _=>[]) [0] (fun h=>(fun g i j k=>[Ch.opt (b.state == (3:Int)) (Ty.int .i64) 3 g i b.order.bH,Ch.arr bE 136 j k b.out,Ch.box N0 76 (lA b g i j k)]) h.1.1 h.1.2 h.2.1 h.2.2) [] (fun _=>[]) ?_ ?_
 ·refine Yl0 ?_
  refine T.iw bE 136 ?_
  refine Tq (η:=(Option Addr×Nat)×(Option Addr×Nat)) (fun a h=>(fun c d e f=>[(9,.int .i64 a.2)]) h.1.1 h.1.2 h.2.1 h.2.2) [0,1,8] (fun a h=>(fun c d e f=>[Ch.opt (a.1.state == (3:Int)) (Ty.int .i64) 3 c d a.1.order.bH,Ch.arr bE 136 e f a.1.out,Ch.box N0 76 (lA a.1 c d e f)]) h.1.1 h.1.2 h.2.1 h.2.2) [] (fun _ _=>[]) ((A0,C0),(none,0)) [2,0,0] [] m ?_
  rintro k_ a ⟨⟨c,d⟩,⟨e,f⟩⟩ B o q s
  refine Y2 ?_
  refine Tb o (fun l=> ?_) fun l=> ?_
  ·refine Z1 ?_
   refine Zl ?_
   refine Z1 ?_
   have ⟨C,t,u⟩:=bnd l
   refine Ly (Yl.si t rfl rfl rfl rfl rfl) ?_
   have ⟨F,v,w⟩:=bnd u
   refine Lk [2,0,0] [0] (wC v) fun ⟨⟨x,y⟩,⟨z,A⟩⟩=> ?_
   refine Z0 ?_
   cases w
   exact Eg (_,((x,y),(z,A))) (q _ rfl) [1,1,0] [] 0
  refine Z0 ?_
  cases l
  have hb:=s _ rfl
  subst b
  exact Eg ((c,d),(e,f)) trivial [0,0,0] [] 0
 rintro ⟨⟨g,i⟩,⟨j,k⟩⟩
 refine Z2 ?_
 refine Lt 2 ?_
 refine Z1 ?_
 cases n
 exact Eo1 ((j,k),(g,i),(none,0)) [2,0,0] []
theorem Al {l:List iK} {r_:Int} {r:Bool} (H:oJ l r_=some r):CT G 184 [.slice A0 l.length C0,.int .i32 r_] [] [Im.sl cI A0 C0 l] (fun _:Unit=> .bool r) (fun h=>[]) (fun h=>[]):=by
 delta oJ at H
 refine Cf Go.Proofs.Tryz.func184 fun K=> ?_
 refine Y3 ?_
 have ⟨g,j,k⟩:=bnd H
 refine Tj0 [(5,.int .i64 g)] [0,1] [] [] ?_ ?_
 ·refine Yl0 ?_
  refine Tq (η:=Unit) (fun a h=>[(5,.int .i64 a.1),(6,.int .i64 a.2)]) [0,1] (fun _ _=>[]) [] (fun _ _=>[]) () [] [] j ?_
  rintro k_ a ⟨⟩ w m i n
  refine Z2 ?_
  refine Tb m (fun b=> ?_) fun b=> ?_
  ·refine Zl ?_
   refine Z2 ?_
   have ⟨x,c,o⟩:=bnd b
   refine L.addr 0 rfl (cL c) fun y z p=> ?_
   subst p
   refine Ly (Yl.ia c rfl rfl rfl rfl rfl rfl) ?_
   refine L.el 0 rfl (aU c).2 ?_
   rintro _
   refine Z0 ?_
   refine Lc 0 1 ?_
   refine Z0 ?_
   refine Tb o (fun d=> ?_) fun d=> ?_
   ·refine Z0 ?_
    cases d
    exact Eg (_,()) (i _ rfl) [] [] 1
   refine Z0 ?_
   cases d
   exact Eg (_,()) (i _ rfl) [] [] 1
  refine Z0 ?_
  cases b
  have hb:=n _ rfl
  subst g
  exact Eg0 [] 0
 refine Y1 ?_
 have ⟨q,s,t⟩:=bnd k
 refine Tj0 [(4,.bool q)] [] [] [] ?_ ?_
 ·refine Z0 ?_
  refine Lw 31 s (fun e=> ?_) fun e=> ?_
  ·refine Z0 ?_
   have ⟨A,f,u⟩:=bnd e
   refine L.addr 0 rfl (cL f) fun B C v=> ?_
   subst v
   refine Ly (Yl.ia f rfl rfl rfl rfl rfl rfl) ?_
   refine L.el 0 rfl (aU f).2 ?_
   rintro _
   refine Z0 ?_
   refine Lc 0 0 ?_
   refine Z0 ?_
   cases u
   exact Eg0 [] 1
  refine Z0 ?_
  cases e
  exact Eg0 [] 0
 refine Z0 ?_
 cases t
 exact Eo1 () [] []
theorem Am {r_:Int} {r:Int} (H:oK r_=some r):CT G 144 [.int .i32 r_] [] [Im.sl cI (some ⟨0,0,none⟩) 13 cY,Im.sl cI (some ⟨1,0,none⟩) 14 dH] (fun _:Unit=> .int .i64 r) (fun h=>[]) (fun h=>[]):=by
 delta oK at H
 refine Cf Go.Proofs.Tryz.func144 fun K=> ?_
 refine Z2 ?_
 refine Zl ?_
 refine Z1 ?_
 have ⟨r9,c,d⟩:=bnd H
 refine Lk [] [0] (Al c) fun ⟨⟩=> ?_
 refine Z0 ?_
 refine Tb d (fun a=> ?_) fun a=> ?_
 ·refine Z1 ?_
  cases a
  exact Eo1 () [] []
 refine Z1 ?_
 have ⟨g,e,f⟩:=bnd a
 refine Lk [] [1] (Al e) fun ⟨⟩=> ?_
 refine Z0 ?_
 refine Tb f (fun b=> ?_) fun b=> ?_
 ·refine Z1 ?_
  cases b
  exact Eo1 () [] []
 refine Z1 ?_
 cases b
 exact Eo1 () [] []
theorem yX {r_:aE} {r:aE} (H:nK r_=some r):CT G 198 [.agg #[.slice A0 r_.cells.length C0,.bool r_.wrapped]] [] [Im.sl aO A0 C0 r_.cells] (fun h:(Option Addr×Nat)=> .agg #[.slice h.1 r.cells.length h.2,.bool r.wrapped]) (fun h=>[]) (fun h=>[Im.sl aO h.1 h.2 r.cells]):=by
 delta nK at H
 refine Cf Go.Proofs.Tryz.func198 fun K=> ?_
 refine Z1 ?_
 refine Lx fun g1=> ?_
 refine Ll fun g2=> ?_
 refine Y1 ?_
 refine Td [6] [0,0] mo ?_
 refine Dq 0 ?_
 refine Db 1 1 ?_
 refine Dq 3 ?_
 refine Db 4 1 ?_
 have ⟨e,a,b⟩:=bnd H
 refine Dk [] [0] (kW A0 C0 a) fun ⟨c,d⟩=> ?_
 refine Dq 5 ?_
 refine Dt 0 ?_
 refine Dn ?_
 refine Z0 ?_
 refine E.frz 2 rfl ?_
 cases b
 exact Eo (c,d) [] [0] (.cell 0 rfl rfl rfl .nil)
theorem lB {g:aW} {y:Int} {r:aE} (H:fN g y=some r):CT G 185 [.pointer (some ⟨N0,0,none⟩),.int .i64 y] [Ch.box N0 169 [.int .i64 g.w,.slice A0 g.l.length C0],Ch.arr aC 107 A0 C0 g.l] [] (fun h:(Option Addr×Nat)=> .agg #[.slice h.1 r.cells.length h.2,.bool r.wrapped]) (fun h=>[Ch.box N0 169 [.int .i64 g.w,.slice A0 g.l.length C0],Ch.arr aC 107 A0 C0 g.l]) (fun h=>[Im.sl aO h.1 h.2 r.cells]):=by
 delta fN at H
 refine Cf Go.Proofs.Tryz.func185 fun K=> ?_
 refine Z1 ?_
 refine Ll fun g1=> ?_
 refine Y2 ?_
 have ⟨e5,H6,H7⟩:=bnd H
 refine Tj0 [(15,.bool e5)] [0,1,4] [] [0,1,2] ?_ ?_
 ·refine Z0 ?_
  refine Lw 7 H6 (fun H8=> ?_) fun H8=> ?_
  ·refine Z0 ?_
   cases H8
   exact Eg0 [0,0,0] 0
  refine Z0 ?_
  cases H8
  exact Eg0 [0,0,0] 0
 refine Tb H7 (fun a=> ?_) fun a=> ?_
 ·refine Z1 ?_
  refine Lt 0 ?_
  refine Z0 ?_
  refine E.jr [Im.sl aO none 0 []] (fun A w _ _ f hf=>by rw [List.mem_singleton.1 hf]; exact Im.ib A w) ?_
  cases a
  exact Eo (none,0) [1,1] [0] (.cell 0 rfl rfl rfl .nil)
 refine Z1 ?_
 have ⟨c,b,i⟩:=bnd a
 refine L.lQ 2 rfl (cL b) fun p j=> ?_
 subst j
 refine Ly (Yl.ia b rfl rfl rfl rfl rfl rfl) ?_
 refine La [2] [] (Ac.lo y.toNat 0 (v:=(fun h:(Option Addr×Nat)=>(fun d e=> .agg #[.slice d c.cells.length e,.bool c.wrapped]) h.1 h.2)) (aU b).2 rfl rfl rfl (fun _=>rfl)) ?_
 rintro ⟨d,e⟩
 have ⟨q,k,m⟩:=bnd i
 refine Lk [] [0] (yX k) fun ⟨n,o⟩=> ?_
 refine Lt 1 ?_
 refine Z0 ?_
 cases m
 exact Eo (n,o) [2,1] [0] (.cell 0 rfl rfl rfl .nil)
theorem qo {r_:aE} {r:aE} (H:iW r_=some r):CT G 146 [.agg #[.slice A0 r_.cells.length C0,.bool r_.wrapped]] [] [Im.sl aO A0 C0 r_.cells] (fun _:Unit=> .agg #[.slice A0 r.cells.length C0,.bool r.wrapped]) (fun h=>[]) (fun h=>[Im.sl aO A0 C0 r.cells]):=by
 delta iW at H
 refine Cf Go.Proofs.Tryz.func146 fun K=> ?_
 refine Z1 ?_
 refine Lx fun g1=> ?_
 refine Ll fun g2=> ?_
 refine Z1 ?_
 refine Lt 1 ?_
 refine Z1 ?_
 refine Lt 1 ?_
 refine Z0 ?_
 cases H
 exact Eo () [] [0] (.cell 0 rfl rfl rfl .nil)
theorem mz {s_:aB} {r:aB} (H:cO s_=some r):CT G 145 [.pointer (some ⟨N0,0,none⟩),.func (.func 146) #[] #[]] [Ch.box N0 124 (cD s_ N1),Ch.box N1 169 [.int .i64 s_.g.w,.slice A0 s_.g.l.length C0],Ch.arr aC 107 A0 C0 s_.g.l] [] (fun _:Unit=> .tuple #[]) (fun h=>[Ch.box N0 124 (cD r N1),Ch.box N1 169 [.int .i64 r.g.w,.slice A0 r.g.l.length C0],Ch.arr aC 107 A0 C0 r.g.l]) (fun h=>[]):=by
 delta cO at H
 refine Cf Go.Proofs.Tryz.func145 fun K=> ?_
 refine Td [21] [0,0,0] mo ?_
 refine Dq 0 ?_
 refine Dq 1 ?_
 refine Dq 2 ?_
 refine Db 3 0 ?_
 refine Dq 4 ?_
 refine Dq 5 ?_
 refine Dq 6 ?_
 refine Dq 7 ?_
 refine Db 8 0 ?_
 refine Dq 9 ?_
 refine Dq 10 ?_
 refine Dq 11 ?_
 refine Dq 12 ?_
 refine Db 13 0 ?_
 refine Dq 14 ?_
 refine Dq 15 ?_
 refine Dq 16 ?_
 refine Dq 17 ?_
 refine Db 18 0 ?_
 have ⟨i,a,b⟩:=bnd H
 refine D.one rfl rfl rfl (Dp.ab [1,1] [] [2,0,0] (Ac.call (lB a) rfl rfl rfl rfl) rfl rfl rfl rfl rfl rfl (fun _=>rfl) ?_)
 rintro ⟨j,k⟩
 have ⟨m,c,d⟩:=bnd b
 refine Dk [] [0] (qo c) fun ⟨⟩=> ?_
 have ⟨n,e,f⟩:=bnd d
 refine Dkl [1,1] [0] (jU e) fun ⟨⟩=> ?_
 refine Dn ?_
 refine E.off ?_
 cases f
 exact Eo () [2,0,0] [] .nil
end Go.Tw.X
set_option maxHeartbeats 2000000
set_option linter.unusedVariables false
set_option linter.unusedSimpArgs false
set_option maxRecDepth 10000
namespace Go.Tw.X
open Go Go.Tw
variable {A0 A1 A2 A3 A4 A5 A6 A7 A8 : Option Addr} {C0 C1 C2 C3 C4 C5 C6 C7 C8 : Nat}
variable {N0 N1 N2 N3 N4 : Nat}
variable {M0 : Option Nat}
theorem vm {s_:bC} {r:Bool} (H:kb s_=some r):CT G 207 [.agg (tT s_).toArray] [] [] (fun _:Unit=> .bool r) (fun h=>[]) (fun h=>[]):=by
 delta kb at H
 refine Cf Go.Proofs.Tryz.func207 fun K=> ?_
 refine Z1 ?_
 refine Lx fun g1=> ?_
 refine Y1 ?_
 have ⟨e9,d,e⟩:=bnd H
 refine Tj0 [(2,.bool e9)] [] [] [0] ?_ ?_
 ·refine Z0 ?_
  refine Lw 6 d (fun a=> ?_) fun a=> ?_
  ·refine Z0 ?_
   refine Lw 11 a (fun b=> ?_) fun b=> ?_
   ·refine Z0 ?_
    refine Lw 16 b (fun c=> ?_) fun c=> ?_
    ·refine Z0 ?_
     cases c
     exact Eg0 [0] 0
    refine Z0 ?_
    cases c
    exact Eg0 [0] 0
   refine Z0 ?_
   cases b
   exact Eg0 [0] 0
  refine Z0 ?_
  cases a
  exact Eg0 [0] 0
 refine Z0 ?_
 cases e
 exact Eo1 () [] []
theorem sC {is:Bool} {n_:Int} {r:Int} (H:mS is n_=some r):CT G 208 [.bool is,.int .i64 n_] [] [] (fun _:Unit=> .int .i64 r) (fun h=>[]) (fun h=>[]):=by
 delta mS at H
 refine Cf Go.Proofs.Tryz.func208 fun K=> ?_
 refine Z3 ?_
 refine Tb H (fun H2=> ?_) fun H2=> ?_
 ·refine Z1 ?_
  cases H2
  exact Eo1 () [] []
 refine Z1 ?_
 cases H2
 exact Eo1 () [] []
theorem vn {s_:bC} {r:Int} (H:kc s_=some r):CT G 186 [.agg (tT s_).toArray] [] [] (fun _:Unit=> .int .i64 r) (fun h=>[]) (fun h=>[]):=by
 delta kc at H
 refine Cf Go.Proofs.Tryz.func186 fun K=> ?_
 refine Z1 ?_
 refine Lx fun g1=> ?_
 refine Z2 ?_
 have ⟨r2,h3,H4⟩:=bnd H
 refine Lk [] [] (vm h3) fun ⟨⟩=> ?_
 refine Z0 ?_
 refine Tb H4 (fun H6=> ?_) fun H6=> ?_
 ·refine Z1 ?_
  cases H6
  exact Eo1 () [] []
 refine Y1 ?_
 refine Td [] [0] mo ?_
 refine Dq 0 ?_
 refine Db 1 0 ?_
 refine Dq 2 ?_
 refine Db 3 0 ?_
 refine Dq 4 ?_
 refine Dq 5 ?_
 refine Dq 6 ?_
 refine Db 7 0 ?_
 refine Dq 10 ?_
 refine Db 11 0 ?_
 refine Dq 14 ?_
 refine Db 15 0 ?_
 have ⟨g,a,b⟩:=bnd H6
 refine Dk [] [] (sC a) fun ⟨⟩=> ?_
 refine Dq 9 ?_
 have ⟨i,c,d⟩:=bnd b
 refine Dk [] [] (sC c) fun ⟨⟩=> ?_
 refine Dq 13 ?_
 have ⟨j,e,f⟩:=bnd d
 refine Dk [] [] (sC e) fun ⟨⟩=> ?_
 refine Dq 17 ?_
 refine Dq 18 ?_
 refine Dn ?_
 refine Z0 ?_
 cases f
 exact Eo1 () [] []
theorem dD {s_:aB} {r:Int} (H:bW s_=some r):CT G 150 [.pointer (some ⟨N0,0,none⟩)] [] [Im.cells N0 0 [.pointer (some ⟨N1,0,none⟩),.int .i64 s_.spot.x,.int .i64 s_.spot.y,.int .i64 s_.spot.aL.iD,.int .i64 s_.spot.aL.back,.bool s_.spot.aL.bold,.bool s_.spot.aL.under,.bool s_.spot.aL.dU,.int .i64 s_.saved.x,.int .i64 s_.saved.y,.int .i64 s_.saved.aL.iD,.int .i64 s_.saved.aL.back,.bool s_.saved.aL.bold,.bool s_.saved.aL.under,.bool s_.saved.aL.dU,.bool s_.waiting,.int .i64 s_.top,.int .i64 s_.aK,.bool s_.aX,.string s_.title],Im.cells N1 0 [.int .i64 s_.g.w,.slice A0 s_.g.l.length C0],Im.sl aC A0 C0 s_.g.l] (fun _:Unit=> .int .i64 r) (fun h=>[]) (fun h=>[]):=by
 delta bW at H
 refine Cf Go.Proofs.Tryz.func150 fun K=> ?_
 refine Z2 ?_
 refine Lc 0 3 ?_
 have ⟨r1,h2,H3⟩:=bnd H
 refine Lk [] [] (vn h2) fun ⟨⟩=> ?_
 refine Z0 ?_
 cases H3
 exact Eo1 () [] []
theorem nE {g:aW} {top:Int} {aK:Int} {r:Unit} (H:eH g top aK=some (.inl r)):CT G 193 [.pointer (some ⟨N0,0,none⟩),.int .i64 top,.int .i64 aK] [Ch.box N0 169 [.int .i64 g.w,.slice A0 g.l.length C0],Ch.arr aC 107 A0 C0 g.l] [] (fun _:Unit=> .tuple #[.slice none 0 0,.bool false]) (fun h=>[Ch.box N0 169 [.int .i64 g.w,.slice A0 g.l.length C0],Ch.arr aC 107 A0 C0 g.l]) (fun h=>[]):=by
 delta eH at H
 refine Cf Go.Proofs.Tryz.func193 fun K=> ?_
 refine Z3 ?_
 have ⟨r1,h2,H3⟩:=bnd H
 refine Lk [] [] (k9 h2) fun ⟨⟩=> ?_
 refine Z0 ?_
 have ⟨r4,h5,H6⟩:=bnd H3
 refine Lk [] [] (k9 h5) fun ⟨⟩=> ?_
 refine Z2 ?_
 refine Tb H6 (fun H8=> ?_) fun H8=> ?_
 ·refine Z1 ?_
  have hr:=Sum.inl.inj (Option.some.inj H8)
  subst r
  exact Eo () [0,0] [] (.tmp rfl (.tmp rfl .nil))
 refine Z1 ?_
 have ⟨_,h9,b⟩:=bnd H8
 refine L.cap 1 rfl fun a=> ?_
 refine Ly (Yl.sv (ty:=aC) a h9 rfl rfl rfl rfl rfl rfl rfl rfl) ?_
 have c:Vw aC g.l A0 C0 (ku A0 C0 r1 (aC).sz) (C0 - r1.toNat) r1 (IntKind.i64.wrap (r4+1)):=vM h9 a
 refine Z0 ?_
 exact nomatch (Option.some.inj b)
theorem nF {g:aW} {top:Int} {aK:Int} {r:(Int×Int)} (H:eH g top aK=some (.inr r)):CT G 193 [.pointer (some ⟨N0,0,none⟩),.int .i64 top,.int .i64 aK] [Ch.box N0 169 [.int .i64 g.w,.slice A0 g.l.length C0],Ch.arr aC 107 A0 C0 g.l] [] (fun _:Unit=> .tuple #[.slice (ku A0 C0 r.1 (aC).sz) (cut g.l r.1 r.2).length (C0 - r.1.toNat),.bool true]) (fun h=>[Ch.box N0 169 [.int .i64 g.w,.slice A0 g.l.length C0],Ch.arr aC 107 A0 C0 g.l]) (fun h=>[]):=by
 delta eH at H
 refine Cf Go.Proofs.Tryz.func193 fun K=> ?_
 refine Z3 ?_
 have ⟨r1,h2,H3⟩:=bnd H
 refine Lk [] [] (k9 h2) fun ⟨⟩=> ?_
 refine Z0 ?_
 have ⟨r4,h5,H6⟩:=bnd H3
 refine Lk [] [] (k9 h5) fun ⟨⟩=> ?_
 refine Z2 ?_
 refine Tb H6 (fun H8=> ?_) fun H8=> ?_
 ·refine Z1 ?_
  exact nomatch (Option.some.inj H8)
 refine Z1 ?_
 have ⟨_,h9,b⟩:=bnd H8
 refine L.cap 1 rfl fun a=> ?_
 refine Ly (Yl.sv (ty:=aC) a h9 rfl rfl rfl rfl rfl rfl rfl rfl) ?_
 have c:Vw aC g.l A0 C0 (ku A0 C0 r1 (aC).sz) (C0 - r1.toNat) r1 (IntKind.i64.wrap (r4+1)):=vM h9 a
 refine Z0 ?_
 have hr:=Sum.inr.inj (Option.some.inj b)
 subst r
 exact Eo () [0,0] [] (.tmp rfl (.tmp rfl .nil))
theorem sD {g:aW} {top:Int} {aK:Int} {n_:Int} {aL:Int} {r:(List aE)×aW} (H:gq g top aK n_ aL=some r):CT G 192 [.pointer (some ⟨N0,0,none⟩),.int .i64 top,.int .i64 aK,.int .i64 n_,.int .i64 aL] [Ch.box N0 169 [.int .i64 g.w,.slice A0 g.l.length C0],Ch.arr aC 107 A0 C0 g.l] [] (fun h:(Option Addr×Nat)=> .slice h.1 r.1.length h.2) (fun h=>[Ch.arr aC 107 h.1 h.2 r.1,Ch.box N0 169 [.int .i64 r.2.w,.slice A0 r.2.l.length C0],Ch.arr aC 107 A0 C0 r.2.l]) (fun h=>[]):=by
 delta gq at H
 refine Cf Go.Proofs.Tryz.func192 fun K=> ?_
 refine Z2 ?_
 have ⟨r1,h2,H3⟩:=bnd H
 rcases r1 with r1 | r1
 ·refine Lk [0,0] [] (nE h2) fun ⟨⟩=> ?_
  refine Z2 ?_
  refine T.cond rfl (fun _=> ?_) (fun h=>nomatch h)
  refine Z1 ?_
  refine E.iw aC 107 ?_
  cases H3
  exact Eo1 (none,0) [0,0,0] []
 refine Lk [0,0] [] (nF h2) fun ⟨⟩=> ?_
 have ⟨_,h5,H6⟩:=bnd H3
 refine L.cap 1 rfl fun h7=> ?_
 have b:Vw aC g.l A0 C0 (ku A0 C0 r1.1 (aC).sz) (C0 - r1.1.toNat) r1.1 r1.2:=vM h5 h7
 refine Z2 ?_
 refine T.cond rfl (fun h=>nomatch h) (fun _=> ?_)
 refine Z1 ?_
 have ⟨r9,k,m⟩:=bnd H6
 refine Lk [] [] (k9 k) fun ⟨⟩=> ?_
 refine Z1 ?_
 have ⟨_,n,o⟩:=bnd m
 refine L.vv b n rfl rfl rfl rfl rfl rfl rfl rfl rfl rfl rfl fun p q s=> ?_
 have ⟨X,t,u⟩:=bnd o
 refine Lk [1] [] (iH A0 C0 p q s t) fun ⟨v,x⟩=> ?_
 refine Z1 ?_
 have ⟨_,y,z⟩:=bnd u
 refine L.vv b y rfl rfl rfl rfl rfl rfl rfl rfl rfl rfl rfl fun Y Z A=> ?_
 refine La [1] [] (Ac.cpv (ty:=aC) b A rfl rfl rfl rfl rfl rfl rfl) fun _=> ?_
 have B:Vw aC (rA g.l r1.1 r1.2 (r1.1+r9) (r1.1+((cut g.l r1.1 r1.2).length:Int))) A0 C0 (ku A0 C0 r1.1 (aC).sz) (C0 - r1.1.toNat) r1.1 r1.2:=Vw.on b (pT b)
 refine L.sl 11 (k':=(cut (rA g.l r1.1 r1.2 (r1.1+r9) (r1.1+((cut g.l r1.1 r1.2).length:Int))) r1.1 r1.2).length) (oy (pT b)) rfl ?_
 refine L.bx 2 (cs':=[.int .i64 g.w,.slice A0 (rA g.l r1.1 r1.2 (r1.1+r9) (r1.1+((cut g.l r1.1 r1.2).length:Int))).length C0]) (by rw [pT b]) rfl ?_
 refine Z2 ?_
 have ⟨c,C,F⟩:=bnd z
 refine Tj0 [] [13] [Ch.arr aC 107 A0 C0 c.l,Ch.box N0 169 [.int .i64 c.w,.slice A0 c.l.length C0]] [2] ?_ ?_
 ·refine Yl0 ?_
  refine Tq (η:=Unit) (fun a h=>[(11,.slice (ku A0 C0 r1.1 (aC).sz) (cut a.1.l r1.1 r1.2).length (C0 - r1.1.toNat)),(14,.int .i64 a.2)]) [0,4,13] (fun a h=>[Ch.arr aC 107 A0 C0 a.1.l,Ch.box N0 169 [.int .i64 a.1.w,.slice A0 a.1.l.length C0]]) [2] (fun _ _=>[]) () [1,0,0] [] C ?_
  rintro k_ a ⟨⟩ aa I J M
  refine Z2 ?_
  refine Tb I (fun e=> ?_) fun e=> ?_
  ·refine Z1 ?_
   refine Zl ?_
   have ⟨d,N,O⟩:=bnd e
   refine Lk [] [] (pC N) fun ⟨P,Q⟩=> ?_
   have ⟨_,R,S⟩:=bnd O
   refine L.cap 0 rfl fun U=> ?_
   have j:=L4 B R U
   have ⟨ab,f,V⟩:=bnd S
   refine L.lQ 0 rfl (Hg (uJ f)) fun i W=> ?_
   subst W
   refine Ly (Yl.iv (ty:=aC) 0 j f rfl rfl rfl rfl rfl rfl rfl rfl) ?_
   refine La [0] [0] (Ac.se 0 d (uJ f) rfl rfl rfl rfl rfl rfl (fun _=>⟨(P,Q),rfl,[1],rfl⟩)) fun _=> ?_
   have ac:Vw aC (a.1.l.set (r1.1.toNat+a.2.toNat) d) (some ⟨i,0,none⟩) C0 (ku (some ⟨i,0,none⟩) C0 r1.1 (aC).sz) (C0 - r1.1.toNat) r1.1 r1.2:=Vw.on j (List.length_set ..)
   refine L.sl 11 (k':=(cut (a.1.l.set (r1.1.toNat+a.2.toNat) d) r1.1 r1.2).length) (oy (List.length_set ..)) rfl ?_
   refine L.bx 1 (cs':=[.int .i64 a.1.w,.slice (some ⟨i,0,none⟩) (a.1.l.set (r1.1.toNat+a.2.toNat) d).length C0]) (by rw [List.length_set ..]) rfl ?_
   refine Z0 ?_
   cases V
   exact Eg (_,()) (J _ rfl) [1,0,0] [] 1
  refine Z0 ?_
  cases e
  have hb:=M _ rfl
  subst c
  exact Eg0 [0,0,0] 0
 refine Z1 ?_
 cases F
 exact Eo1 (v,x) [2,1,0] []
theorem o8 {s_:aB} {n_:Int} {r:(List aE)×aB} (H:iz s_ n_=some r):CT G 159 [.pointer (some ⟨N0,0,none⟩),.int .i64 n_] [Ch.box N0 124 (cD s_ N1),Ch.box N1 169 [.int .i64 s_.g.w,.slice A0 s_.g.l.length C0],Ch.arr aC 107 A0 C0 s_.g.l] [] (fun h:(Option Addr×Nat)=> .slice h.1 r.1.length h.2) (fun h=>[Ch.arr aC 107 h.1 h.2 r.1,Ch.box N0 124 (cD r.2 N1),Ch.box N1 169 [.int .i64 r.2.g.w,.slice A0 r.2.g.l.length C0],Ch.arr aC 107 A0 C0 r.2.g.l]) (fun h=>[]):=by
 delta iz at H
 refine Cf Go.Proofs.Tryz.func159 fun K=> ?_
 refine Y2 ?_
 refine Td [15] [0,0,0] mo ?_
 refine Dq 0 ?_
 refine Dq 1 ?_
 refine Dq 2 ?_
 refine Db 3 0 ?_
 refine Dq 4 ?_
 refine Dq 5 ?_
 refine Dq 6 ?_
 refine Db 7 0 ?_
 refine Dq 8 ?_
 refine Dq 9 ?_
 refine Dq 10 ?_
 refine Db 11 0 ?_
 refine Dq 12 ?_
 refine Dq 13 ?_
 have ⟨j,b,c⟩:=bnd H
 refine D.one rfl rfl rfl (Dp.br (Ac.call (dD b) rfl rfl rfl rfl) (Bw.bx 0 rfl (Bw.bx 1 rfl (Bw.ch 2 rfl (Bw.nil)))) rfl rfl rfl rfl ?_)
 intro _
 have ⟨k,d,e⟩:=bnd c
 refine Dkl [1,1] [] (sD d) fun ⟨f,i⟩=> ?_
 refine Dq 16 ?_
 refine Dn ?_
 refine Z2 ?_
 refine Tb e (fun a=> ?_) fun a=> ?_
 ·refine Z1 ?_
  refine E.iw aC 107 ?_
  cases a
  exact Eo1 (none,0) [0,3,1,1] []
 refine Z1 ?_
 cases a
 exact Eo1 (f,i) [0,2,0,0] []
theorem kr {s_:aB} {r:(List aE)×aB} (H:dA s_=some r):CT G 147 [.pointer (some ⟨N0,0,none⟩)] [Ch.box N0 124 (cD s_ N1),Ch.box N1 169 [.int .i64 s_.g.w,.slice A0 s_.g.l.length C0],Ch.arr aC 107 A0 C0 s_.g.l] [] (fun h:(Option Addr×Nat)=> .slice h.1 r.1.length h.2) (fun h=>[Ch.arr aC 107 h.1 h.2 r.1,Ch.box N0 124 (cD r.2 N1),Ch.box N1 169 [.int .i64 r.2.g.w,.slice A0 r.2.g.l.length C0],Ch.arr aC 107 A0 C0 r.2.g.l]) (fun h=>[]):=by
 delta dA at H
 refine Cf Go.Proofs.Tryz.func147 fun K=> ?_
 refine Z2 ?_
 refine Lt 0 ?_
 refine Y2 ?_
 refine Td [] [0,0,0] mo ?_
 refine Dq 0 ?_
 refine Dq 1 ?_
 refine Dq 2 ?_
 refine Dq 3 ?_
 refine Db 4 0 ?_
 refine Dq 5 ?_
 refine Dq 6 ?_
 refine Dq 7 ?_
 refine Db 8 0 ?_
 refine Dq 9 ?_
 refine Dn ?_
 refine Z0 ?_
 refine Tb H (fun H9=> ?_) fun H9=> ?_
 ·refine Z1 ?_
  have ⟨i,a,b⟩:=bnd H9
  refine Lk [0,0,0] [] (o8 a) fun ⟨c,d⟩=> ?_
  refine Z0 ?_
  cases b
  exact Eo1 (c,d) [0,0,0,0] []
 refine Y1 ?_
 refine Td [12] [0,0,0] mo ?_
 refine Dq 0 ?_
 refine Dq 1 ?_
 refine Dq 2 ?_
 refine Dq 3 ?_
 refine Dq 4 ?_
 refine Db 5 0 ?_
 refine Dq 6 ?_
 refine Dq 7 ?_
 refine Dq 8 ?_
 refine Dq 9 ?_
 refine Db 10 0 ?_
 refine Dq 11 ?_
 have ⟨j,e,f⟩:=bnd H9
 refine Dkl [0,0,0] [] (bX e) fun ⟨⟩=> ?_
 refine Dn ?_
 refine Z1 ?_
 refine E.iw aC 107 ?_
 cases f
 exact Eo1 (none,0) [0,0,0,0] []
theorem yY {r_:aE} {aL:Int} {r:aE} (H:lS r_ aL=some r):CT G 149 [.agg #[.slice A0 r_.cells.length C0,.bool r_.wrapped],.int .i64 aL] [] [Im.sl aO A0 C0 r_.cells] (fun h:(Option Addr×Nat)=> .agg #[.slice h.1 r.cells.length h.2,.bool r.wrapped]) (fun h=>[]) (fun h=>[Im.sl aO h.1 h.2 r.cells]):=by
 delta lS at H
 refine Cf Go.Proofs.Tryz.func149 fun K=> ?_
 refine Z1 ?_
 refine Lx fun g1=> ?_
 refine Ll fun g2=> ?_
 refine Z1 ?_
 have ⟨r3,h4,H5⟩:=bnd H
 refine Lk [] [0] (jT h4) fun ⟨a6,c7⟩=> ?_
 refine Z3 ?_
 have ⟨c,d,e⟩:=bnd H5
 refine Tj0 [(5,.slice a6 c.length c7)] [4] [Ch.arr aO 143 a6 c7 c] [1,2] ?_ ?_
 ·refine Tb d (fun a=> ?_) fun a=> ?_
  ·refine Z0 ?_
   have ⟨k,b,f⟩:=bnd a
   refine L.lQ 0 rfl (cL b) fun l g=> ?_
   subst g
   refine Ly (Yl.ia b rfl rfl rfl rfl rfl rfl) ?_
   refine La [0] [] (Ac.se 0 (aG.mk 32 aL 3) (aU b).2 rfl rfl rfl rfl rfl rfl (fun _=>⟨(),rfl,[],rfl⟩)) fun _=> ?_
   refine L.sl 5 (k':=(r3.set ((IntKind.i64.wrap ((r3.length:Int) - 1)).toNat) (aG.mk 32 aL 3)).length) (List.length_set ..) rfl ?_
   refine Z0 ?_
   cases f
   exact Eg0 [0,0,0] 0
  refine Z0 ?_
  cases a
  exact Eg0 [0,0,0] 0
 refine Z1 ?_
 have ⟨m,i,j⟩:=bnd e
 refine Lk [0] [] (lY i) fun ⟨⟩=> ?_
 refine Ll fun n=> ?_
 refine Lt 0 ?_
 refine Z1 ?_
 refine Lt 0 ?_
 refine Z1 ?_
 refine Lt 1 ?_
 refine Z0 ?_
 cases j
 exact Eo (a6,c7) [] [0] (.cell 0 rfl rfl rfl .nil)
theorem qp {r_:aE} {x1:aB} {r:aE} (H:iX r_ x1=some r):CT G 148 [.agg #[.slice A0 r_.cells.length C0,.bool r_.wrapped],.pointer (some ⟨N0,0,none⟩)] [Ch.box N0 54 [.pointer (some ⟨N1,0,none⟩)],Ch.box N1 124 (cD x1 N2),Ch.box N2 169 [.int .i64 x1.g.w,.slice A1 x1.g.l.length C1],Ch.arr aC 107 A1 C1 x1.g.l] [Im.sl aO A0 C0 r_.cells] (fun h:(Option Addr×Nat)=> .agg #[.slice h.1 r.cells.length h.2,.bool r.wrapped]) (fun h=>[Ch.box N0 54 [.pointer (some ⟨N1,0,none⟩)],Ch.box N1 124 (cD x1 N2),Ch.box N2 169 [.int .i64 x1.g.w,.slice A1 x1.g.l.length C1],Ch.arr aC 107 A1 C1 x1.g.l]) (fun h=>[Im.sl aO h.1 h.2 r.cells]):=by
 delta iX at H
 refine Cf Go.Proofs.Tryz.func148 fun K=> ?_
 refine Z1 ?_
 refine Lx fun g1=> ?_
 refine Ll fun g2=> ?_
 refine Y1 ?_
 refine Td [3,4] [0,0,0,0,0,0] mo ?_
 refine Db 0 1 ?_
 refine Db 1 2 ?_
 have ⟨i,a,b⟩:=bnd H
 refine D.one rfl rfl rfl (Dp.br (Ac.call (dD a) rfl rfl rfl rfl) (Bw.bx 3 rfl (Bw.bx 4 rfl (Bw.ch 5 rfl (Bw.nil)))) rfl rfl rfl rfl ?_)
 intro _
 have ⟨j,c,d⟩:=bnd b
 refine Dkl [] [0] (yY c) fun ⟨e,f⟩=> ?_
 refine Dt 0 ?_
 refine Dn ?_
 refine Z0 ?_
 cases d
 exact Eo (e,f) [2,2,2,2] [0] (.cell 0 rfl rfl rfl .nil)
theorem mA {s_:aB} {r:aB} (H:cP s_=some r):CT G 145 [.pointer (some ⟨N0,0,none⟩),.func (.func 148) #[] #[.pointer (some ⟨N2,0,none⟩)]] [Ch.box N0 124 (cD s_ N1),Ch.box N1 169 [.int .i64 s_.g.w,.slice A0 s_.g.l.length C0],Ch.arr aC 107 A0 C0 s_.g.l,Ch.box N2 54 [.pointer (some ⟨N0,0,none⟩)]] [] (fun _:Unit=> .tuple #[]) (fun h=>[Ch.box N0 124 (cD r N1),Ch.box N1 169 [.int .i64 r.g.w,.slice A0 r.g.l.length C0],Ch.arr aC 107 A0 C0 r.g.l,Ch.box N2 54 [.pointer (some ⟨N0,0,none⟩)]]) (fun h=>[]):=by
 delta cP at H
 refine Cf Go.Proofs.Tryz.func145 fun K=> ?_
 refine Td [21] [0,0,0,0] mo ?_
 refine Dq 0 ?_
 refine Dq 1 ?_
 refine Dq 2 ?_
 refine Db 3 0 ?_
 refine Dq 4 ?_
 refine Dq 5 ?_
 refine Dq 6 ?_
 refine Dq 7 ?_
 refine Db 8 0 ?_
 refine Dq 9 ?_
 refine Dq 10 ?_
 refine Dq 11 ?_
 refine Dq 12 ?_
 refine Db 13 0 ?_
 refine Dq 14 ?_
 refine Dq 15 ?_
 refine Dq 16 ?_
 refine Dq 17 ?_
 refine Db 18 0 ?_
 have ⟨i,a,b⟩:=bnd H
 refine D.one rfl rfl rfl (Dp.ab [1,1] [] [2,0,0,0] (Ac.call (lB a) rfl rfl rfl rfl) rfl rfl rfl rfl rfl rfl (fun _=>rfl) ?_)
 rintro ⟨j,k⟩
 have ⟨m,c,d⟩:=bnd b
 refine D.one rfl rfl rfl (Dp.ab [3,0,0,0] [0] [1,1,1,0] (Ac.call (qp c) rfl rfl rfl rfl) rfl rfl rfl rfl rfl rfl (fun _=>rfl) ?_)
 rintro ⟨n,o⟩
 have ⟨p,e,f⟩:=bnd d
 refine Dkl [1,1] [0] (jU e) fun ⟨⟩=> ?_
 refine Dn ?_
 refine E.off ?_
 cases f
 exact Eo () [2,0,0,0] [] .nil
theorem zd {r_:aE} {at_:Int} {x_:Int} {aL:Int} {r:aE} (H:mj r_ at_ x_ aL=some r):CT G 152 [.agg #[.slice A0 r_.cells.length C0,.bool r_.wrapped],.int .i64 at_,.int .i32 x_,.int .i64 aL] [] [Im.sl aO A0 C0 r_.cells,Im.sl cI (some ⟨0,0,none⟩) 13 cY,Im.sl cI (some ⟨1,0,none⟩) 14 dH] (fun h:(Option Addr×Nat)=> .agg #[.slice h.1 r.cells.length h.2,.bool r.wrapped]) (fun h=>[]) (fun h=>[Im.sl aO h.1 h.2 r.cells]):=by
 delta mj at H
 refine Cf Go.Proofs.Tryz.func152 fun K=> ?_
 refine Z1 ?_
 refine Lx fun g1=> ?_
 refine Ll fun g2=> ?_
 refine Z1 ?_
 have ⟨r3,h4,H5⟩:=bnd H
 refine Lk [] [0] (jT h4) fun ⟨a6,c7⟩=> ?_
 refine Z1 ?_
 have ⟨r9,p,q⟩:=bnd H5
 refine Lk [] [1,2] (Am p) fun ⟨⟩=> ?_
 refine Y1 ?_
 have ⟨j,s,t⟩:=bnd q
 refine Tj0 [(9,.slice a6 j.length c7)] [8] [Ch.arr aO 143 a6 c7 j] [1,2] ?_ ?_
 ·refine Zl ?_
  refine Y1 ?_
  have ⟨u,w,x⟩:=bnd s
  refine Tj0 [(50,.bool u)] [1,2,3,8,9,10] [] [1,2,0] ?_ ?_
  ·refine Z0 ?_
   refine Lw 53 w (fun a=> ?_) fun a=> ?_
   ·refine Z0 ?_
    cases a
    exact Eg0 [1,1,0] 0
   refine Z0 ?_
   refine Lw 57 a (fun b=> ?_) fun b=> ?_
   ·refine Z0 ?_
    cases b
    exact Eg0 [1,1,0] 0
   refine Z0 ?_
   cases b
   exact Eg0 [1,1,0] 0
  refine Tb x (fun c=> ?_) fun c=> ?_
  ·refine Z0 ?_
   cases c
   exact Eg0 [2,0,0] 0
  refine Z1 ?_
  refine Tb c (fun d=> ?_) fun d=> ?_
  ·refine Z0 ?_
   have ⟨W,e,y⟩:=bnd d
   refine L.lQ 2 rfl (cL e) fun X z=> ?_
   subst z
   refine Ly (Yl.ia e rfl rfl rfl rfl rfl rfl) ?_
   refine La [2] [] (Ac.se 0 (aG.mk x_ aL 0) (aU e).2 rfl rfl rfl rfl rfl rfl (fun _=>⟨(),rfl,[],rfl⟩)) fun _=> ?_
   refine L.sl 9 (k':=(r3.set at_.toNat (aG.mk x_ aL 0)).length) (List.length_set ..) rfl ?_
   refine Z0 ?_
   cases y
   exact Eg0 [0,0,0] 0
  refine Z1 ?_
  have ⟨Y,f,A⟩:=bnd d
  refine L.lQ 2 rfl (cL f) fun Z B=> ?_
  subst B
  refine Ly (Yl.ia f rfl rfl rfl rfl rfl rfl) ?_
  refine La [2] [] (Ac.se 0 (aG.mk x_ aL 1) (aU f).2 rfl rfl rfl rfl rfl rfl (fun _=>⟨(),rfl,[],rfl⟩)) fun _=> ?_
  refine L.sl 9 (k':=(r3.set at_.toNat (aG.mk x_ aL 1)).length) (List.length_set ..) rfl ?_
  refine L.sl 17 (k':=(r3.set at_.toNat (aG.mk x_ aL 1)).length) (List.length_set ..) rfl ?_
  have ⟨aa,k,C⟩:=bnd A
  refine Ly (Yl.ia k rfl rfl rfl rfl rfl rfl) ?_
  refine La [0] [] (Ac.se 0 (aG.mk x_ aL 2) (aU k).2 rfl rfl rfl rfl rfl rfl (fun _=>⟨(),rfl,[],rfl⟩)) fun _=> ?_
  refine L.sl 9 (k':=((r3.set at_.toNat (aG.mk x_ aL 1)).set ((IntKind.i64.wrap (at_+1)).toNat) (aG.mk x_ aL 2)).length) (List.length_set ..) rfl ?_
  refine Y1 ?_
  have ⟨F,I,J⟩:=bnd C
  refine Tj0 [(38,.bool F)] [1,8,9] [] [1,2,0] ?_ ?_
  ·refine Z0 ?_
   refine Lw 30 I (fun g=> ?_) fun g=> ?_
   ·refine Z0 ?_
    have ⟨M,l,N⟩:=bnd g
    refine Ly (Yl.ia l rfl rfl rfl rfl rfl rfl) ?_
    refine Z0 ?_
    refine Ly (Yl.lo (v:= .int .i64 M.part) 0 ((IntKind.i64.wrap (at_ - 1)).toNat) 2 (aU l).2 rfl rfl rfl rfl (fun _=>rfl)) ?_
    refine Z0 ?_
    cases N
    exact Eg0 [1,1,0] 0
   refine Z0 ?_
   cases g
   exact Eg0 [1,1,0] 0
  refine Tb J (fun i=> ?_) fun i=> ?_
  ·refine Z0 ?_
   have ⟨O,m,P⟩:=bnd i
   refine Ly (Yl.ia m rfl rfl rfl rfl rfl rfl) ?_
   refine Z0 ?_
   refine Ly (Yl.lo (v:= .int .i64 O.aL) 2 ((IntKind.i64.wrap (at_ - 1)).toNat) 1 (aU m).2 rfl rfl rfl rfl (fun _=>rfl)) ?_
   have ⟨n,Q,R⟩:=bnd P
   refine Lk [] [] (oc Q) fun ⟨⟩=> ?_
   have ⟨ab,o,S⟩:=bnd R
   refine Ly (Yl.ia o rfl rfl rfl rfl rfl rfl) ?_
   refine La [2] [] (Ac.se 0 n (aU o).2 rfl rfl rfl rfl rfl rfl (fun _=>⟨(),rfl,[],rfl⟩)) fun _=> ?_
   refine L.sl 9 (k':=(((r3.set at_.toNat (aG.mk x_ aL 1)).set ((IntKind.i64.wrap (at_+1)).toNat) (aG.mk x_ aL 2)).set ((IntKind.i64.wrap (at_ - 1)).toNat) n).length) (List.length_set ..) rfl ?_
   refine Z0 ?_
   cases S
   exact Eg0 [0,0,0] 0
  refine Z0 ?_
  cases i
  exact Eg0 [2,0,0] 0
 refine Z1 ?_
 have ⟨ac,U,V⟩:=bnd t
 refine Lk [0] [] (lY U) fun ⟨⟩=> ?_
 refine Lt 0 ?_
 refine Z0 ?_
 cases V
 exact Eo (a6,c7) [] [0] (.cell 0 rfl rfl rfl .nil)
theorem qq {q:aE} {x1:aB} {x2:Int} {r:aE} (H:iY q x1 x2=some r):CT G 151 [.agg #[.slice A0 q.cells.length C0,.bool q.wrapped],.pointer (some ⟨N0,0,none⟩),.pointer (some ⟨N3,0,none⟩)] [Ch.box N0 54 [.pointer (some ⟨N1,0,none⟩)],Ch.box N1 124 (cD x1 N2),Ch.box N2 169 [.int .i64 x1.g.w,.slice A1 x1.g.l.length C1],Ch.arr aC 107 A1 C1 x1.g.l,Ch.box N3 21 [.int .i32 x2]] [Im.sl aO A0 C0 q.cells,Im.sl cI (some ⟨0,0,none⟩) 13 cY,Im.sl cI (some ⟨1,0,none⟩) 14 dH] (fun h:(Option Addr×Nat)=> .agg #[.slice h.1 r.cells.length h.2,.bool r.wrapped]) (fun h=>[Ch.box N0 54 [.pointer (some ⟨N1,0,none⟩)],Ch.box N1 124 (cD x1 N2),Ch.box N2 169 [.int .i64 x1.g.w,.slice A1 x1.g.l.length C1],Ch.arr aC 107 A1 C1 x1.g.l,Ch.box N3 21 [.int .i32 x2]]) (fun h=>[Im.sl aO h.1 h.2 r.cells]):=by
 delta iY at H
 refine Cf Go.Proofs.Tryz.func151 fun K=> ?_
 refine Z1 ?_
 refine Lx fun g1=> ?_
 refine Ll fun g2=> ?_
 refine Y1 ?_
 refine Td [9,10] [0,0,0,0,0,0,0] mo ?_
 refine Db 0 1 ?_
 refine Db 1 2 ?_
 refine Dq 2 ?_
 refine Dq 3 ?_
 refine Dq 4 ?_
 refine Db 5 3 ?_
 refine Db 6 6 ?_
 refine Db 7 2 ?_
 have ⟨i,a,b⟩:=bnd H
 refine D.one rfl rfl rfl (Dp.br (Ac.call (dD a) rfl rfl rfl rfl) (Bw.bx 3 rfl (Bw.bx 4 rfl (Bw.ch 5 rfl (Bw.nil)))) rfl rfl rfl rfl ?_)
 intro _
 have ⟨j,c,d⟩:=bnd b
 refine Dkl [] [0,1,2] (zd c) fun ⟨e,f⟩=> ?_
 refine Dt 0 ?_
 refine Dn ?_
 refine Z0 ?_
 cases d
 exact Eo (e,f) [2,2,2,2,2] [0] (.cell 0 rfl rfl rfl .nil)
theorem mB {s_:aB} {f_1:Int} {r:aB} (H:dJ s_ f_1=some r):CT G 145 [.pointer (some ⟨N0,0,none⟩),.func (.func 151) #[] #[.pointer (some ⟨N2,0,none⟩),.pointer (some ⟨N3,0,none⟩)]] [Ch.box N0 124 (cD s_ N1),Ch.box N1 169 [.int .i64 s_.g.w,.slice A0 s_.g.l.length C0],Ch.arr aC 107 A0 C0 s_.g.l,Ch.box N2 54 [.pointer (some ⟨N0,0,none⟩)],Ch.box N3 21 [.int .i32 f_1]] [Im.sl cI (some ⟨0,0,none⟩) 13 cY,Im.sl cI (some ⟨1,0,none⟩) 14 dH] (fun _:Unit=> .tuple #[]) (fun h=>[Ch.box N0 124 (cD r N1),Ch.box N1 169 [.int .i64 r.g.w,.slice A0 r.g.l.length C0],Ch.arr aC 107 A0 C0 r.g.l,Ch.box N2 54 [.pointer (some ⟨N0,0,none⟩)],Ch.box N3 21 [.int .i32 f_1]]) (fun h=>[]):=by
 delta dJ at H
 refine Cf Go.Proofs.Tryz.func145 fun K=> ?_
 refine Td [21] [0,0,0,0,0] mo ?_
 refine Dq 0 ?_
 refine Dq 1 ?_
 refine Dq 2 ?_
 refine Db 3 0 ?_
 refine Dq 4 ?_
 refine Dq 5 ?_
 refine Dq 6 ?_
 refine Dq 7 ?_
 refine Db 8 0 ?_
 refine Dq 9 ?_
 refine Dq 10 ?_
 refine Dq 11 ?_
 refine Dq 12 ?_
 refine Db 13 0 ?_
 refine Dq 14 ?_
 refine Dq 15 ?_
 refine Dq 16 ?_
 refine Dq 17 ?_
 refine Db 18 0 ?_
 have ⟨i,a,b⟩:=bnd H
 refine D.one rfl rfl rfl (Dp.ab [1,1] [] [2,0,0,0,0] (Ac.call (lB a) rfl rfl rfl rfl) rfl rfl rfl rfl rfl rfl (fun _=>rfl) ?_)
 rintro ⟨j,k⟩
 have ⟨m,c,d⟩:=bnd b
 refine D.one rfl rfl rfl (Dp.ab [3,0,0,0,0] [0,1,2] [1,1,1,0,0] (Ac.call (qq c) rfl rfl rfl rfl) rfl rfl rfl rfl rfl rfl (fun _=>rfl) ?_)
 rintro ⟨n,o⟩
 have ⟨p,e,f⟩:=bnd d
 refine Dkl [1,1] [0] (jU e) fun ⟨⟩=> ?_
 refine Dn ?_
 refine E.off ?_
 cases f
 exact Eo () [2,0,0,0,0] [] .nil
theorem rF {s_:aB} {r_:Int} {r:(List aE)×aB} (H:ij s_ r_=some r):CT G 103 [.pointer (some ⟨N0,0,none⟩),.int .i32 r_] [Ch.box N0 124 (cD s_ N1),Ch.box N1 169 [.int .i64 s_.g.w,.slice A0 s_.g.l.length C0],Ch.arr aC 107 A0 C0 s_.g.l] [Im.sl cI (some ⟨0,0,none⟩) 13 cY,Im.sl cI (some ⟨1,0,none⟩) 14 dH] (fun h:(Option Addr×Nat)=> .slice h.1 r.1.length h.2) (fun h=>[Ch.arr aC 107 h.1 h.2 r.1,Ch.box N0 124 (cD r.2 N1),Ch.box N1 169 [.int .i64 r.2.g.w,.slice A0 r.2.g.l.length C0],Ch.arr aC 107 A0 C0 r.2.g.l]) (fun h=>[]):=by
 delta ij at H
 refine Cf Go.Proofs.Tryz.func103 fun K=> ?_
 refine Z1 ?_
 refine Lx fun g1=> ?_
 refine Lx fun g2=> ?_
 refine Z1 ?_
 have ⟨r3,h4,H5⟩:=bnd H
 refine Lk [] [0,1] (Am h4) fun ⟨⟩=> ?_
 refine Z1 ?_
 have ⟨r6,h7,H8⟩:=bnd H5
 refine Lk [3,3] [] (gJ h7) fun ⟨⟩=> ?_
 refine Y2 ?_
 have ⟨p,q,s⟩:=bnd H8
 refine Tj0 [(25,.bool p)] [2,3,5,6] [] [0,2,3,4,1] ?_ ?_
 ·refine Z0 ?_
  refine Lw 21 q (fun i=> ?_) fun i=> ?_
  ·refine Z0 ?_
   cases i
   exact Eg0 [0,1,1,1,0] 0
  refine Z0 ?_
  cases i
  exact Eg0 [0,1,1,1,0] 0
 refine Tb s (fun j=> ?_) fun j=> ?_
 ·refine Z1 ?_
  refine E.iw aC 107 ?_
  cases j
  exact Eo1 (none,0) [0,3,0,2] []
 refine Y3 ?_
 have ⟨t,u,v⟩:=bnd j
 refine Tj0 [(35,.bool t)] [2,3,5,6,8] [] [0,1,2,3,4] ?_ ?_
 ·refine Z0 ?_
  refine Lw 30 u (fun k=> ?_) fun k=> ?_
  ·refine Z0 ?_
   cases k
   exact Eg0 [0,0,0,0,0] 0
  refine Z0 ?_
  cases k
  exact Eg0 [0,0,0,0,0] 0
 have ⟨a,x,y⟩:=bnd v
 refine Tjh (η:=(Option Addr×Nat)) (fun h=>(fun b c=>[(8,.slice b a.1.length c)]) h.1 h.2) [2,3,5,6] (fun h=>(fun b c=>[Ch.arr aC 107 b c a.1,Ch.arr aC 107 A0 C0 a.2.1.l,Ch.box N1 169 [.int .i64 a.2.1.w,.slice A0 a.2.1.l.length C0],Ch.box N0 124 (cD a.2.2 N1)]) h.1 h.2) [1,2] (fun _=>[]) ?_ ?_
 ·refine Tb x (fun m=> ?_) fun m=> ?_
  ·refine Z1 ?_
   have ⟨aa,z,A⟩:=bnd m
   refine Lk [3,0,2] [] (mz z) fun ⟨⟩=> ?_
   refine Z1 ?_
   refine Lt 0 ?_
   refine Z0 ?_
   have ⟨ab,B,C⟩:=bnd A
   refine Lk [0,0,0] [] (kr B) fun ⟨ac,ad⟩=> ?_
   refine L.iw aC 107 ?_
   refine L.frz 1 rfl ?_
   have ⟨_,F,I⟩:=bnd C
   refine La [0] [0] (Ac.ap (ty:=aC) F rfl rfl rfl rfl rfl rfl rfl) ?_
   rintro ⟨J,M⟩
   refine Z0 ?_
   cases I
   exact Eg (J,M) trivial [0,2,1,0,0,0] [] 1
  refine Z0 ?_
  refine E.iw aC 107 ?_
  cases m
  exact Eg (none,0) trivial [0,4,0,2,0,0] [] 0
 rintro ⟨b,c⟩
 refine Z2 ?_
 have ⟨d,N,O⟩:=bnd y
 refine Tjh (η:=(Option Addr×Nat)) (fun h=>(fun e f=>[(8,.slice e d.1.length f)]) h.1 h.2) [2,3,5,6] (fun h=>(fun e f=>[Ch.arr aC 107 e f d.1,Ch.arr aC 107 A0 C0 d.2.1.l,Ch.box N1 169 [.int .i64 d.2.1.w,.slice A0 d.2.1.l.length C0],Ch.box N0 124 (cD d.2.2 N1)]) h.1 h.2) [4,5] (fun _=>[]) ?_ ?_
 ·refine Tb N (fun n=> ?_) fun n=> ?_
  ·refine Z1 ?_
   refine Tb n (fun o=> ?_) fun o=> ?_
   ·refine Z1 ?_
    have ⟨ae,P,Q⟩:=bnd o
    refine Lk [3,2,1,2] [] (mA P) fun ⟨⟩=> ?_
    refine Z1 ?_
    refine Lt 0 ?_
    refine Z0 ?_
    have ⟨af,R,S⟩:=bnd Q
    refine Lk [0,0,0] [] (kr R) fun ⟨ag,ah⟩=> ?_
    refine L.frz 0 rfl ?_
    have ⟨_,U,V⟩:=bnd S
    refine La [4] [0] (Ac.ap (ty:=aC) U rfl rfl rfl rfl rfl rfl rfl) ?_
    rintro ⟨W,X⟩
    refine Z0 ?_
    cases V
    exact Eg (W,X) trivial [0,2,1,0,1,0] [] 1
   refine Z0 ?_
   refine Lt 3 ?_
   refine Z0 ?_
   cases o
   exact Eg (b,c) trivial [1,1,1,0,0,0] [] 0
  refine Z0 ?_
  cases n
  exact Eg (b,c) trivial [0,0,0,0,0,0] [] 0
 rintro ⟨e,f⟩
 refine Z1 ?_
 have ⟨ai,Y,Z⟩:=bnd O
 refine Lk [3,2,1,2,1] [0,1] (mB Y) fun ⟨⟩=> ?_
 refine Z1 ?_
 refine Lt 0 ?_
 refine Y1 ?_
 refine Td [10] [0,0,0,0,0,0] mo ?_
 refine Db 0 3 ?_
 refine Db 1 3 ?_
 refine Dq 2 ?_
 refine Dq 3 ?_
 refine Dq 4 ?_
 refine Db 5 0 ?_
 refine Dq 6 ?_
 refine Dq 7 ?_
 refine Dq 8 ?_
 refine Dq 9 ?_
 refine Dt 0 ?_
 refine Dn ?_
 refine Y1 ?_
 refine Td [12] [0,0,0,0,0,0] mo ?_
 refine Db 0 3 ?_
 refine Db 1 3 ?_
 refine Dq 2 ?_
 refine Dq 3 ?_
 refine Dq 4 ?_
 refine Db 5 0 ?_
 refine Dq 6 ?_
 refine Dq 7 ?_
 refine Dq 8 ?_
 refine Dq 9 ?_
 refine Dq 10 ?_
 refine Dq 11 ?_
 refine Dt 0 ?_
 refine Dn ?_
 refine Z1 ?_
 cases Z
 exact Eo1 (e,f) [5,0,0,0] []
theorem qs {s_:aB} {b:Int} {r:(List aE)×aB} (H:gF s_ b=some r):CT G 104 [.pointer (some ⟨N0,0,none⟩),.int .u8 b] [Ch.box N0 124 (cD s_ N1),Ch.box N1 169 [.int .i64 s_.g.w,.slice A0 s_.g.l.length C0],Ch.arr aC 107 A0 C0 s_.g.l] [] (fun h:(Option Addr×Nat)=> .slice h.1 r.1.length h.2) (fun h=>[Ch.arr aC 107 h.1 h.2 r.1,Ch.box N0 124 (cD r.2 N1),Ch.box N1 169 [.int .i64 r.2.g.w,.slice A0 r.2.g.l.length C0],Ch.arr aC 107 A0 C0 r.2.g.l]) (fun h=>[]):=by
 delta gF at H
 refine Cf Go.Proofs.Tryz.func104 fun K=> ?_
 refine Z3 ?_
 have ⟨k,n,m⟩:=bnd H
 refine Tj (η:=(aB×aW)×Unit) (fun h=>k = .inl h.1) (fun _=>[]) [] (fun h=>(fun a=>[Ch.arr aC 107 A0 C0 a.2.l,Ch.box N0 124 (cD a.1 N1),Ch.box N1 169 [.int .i64 a.2.w,.slice A0 a.2.l.length C0]]) h.1) [] (fun _=>[]) ?_ ?_
 ·refine Zl ?_
  refine Z1 ?_
  refine Tb n (fun c=> ?_) fun c=> ?_
  ·refine Td [12] [0,0,0] mo ?_
   refine Dq 0 ?_
   refine Dq 1 ?_
   refine Dq 2 ?_
   refine Dq 3 ?_
   refine Dq 4 ?_
   refine Db 5 0 ?_
   refine Dq 6 ?_
   refine Dq 7 ?_
   refine Dq 8 ?_
   refine Dq 9 ?_
   refine Dq 10 ?_
   refine Db 11 0 ?_
   have ⟨I,o,p⟩:=bnd c
   refine Dkl [0,0,0] [] (bX o) fun ⟨⟩=> ?_
   refine Dn ?_
   refine Z0 ?_
   cases p
   exact Eg (_,()) rfl [2,0,0] [] 0
  refine Z1 ?_
  refine Tb c (fun d=> ?_) fun d=> ?_
  ·refine Td [14] [0,0,0] mo ?_
   refine Dq 0 ?_
   refine Dq 1 ?_
   refine Dq 2 ?_
   refine Dq 3 ?_
   refine Dq 4 ?_
   refine Db 5 0 ?_
   refine Dq 6 ?_
   refine Dq 7 ?_
   refine Dq 8 ?_
   refine Dq 9 ?_
   refine Dq 10 ?_
   refine Dq 11 ?_
   refine Dq 12 ?_
   refine Db 13 0 ?_
   have ⟨J,q,s⟩:=bnd d
   refine Dkl [0,0,0] [] (bX q) fun ⟨⟩=> ?_
   refine Dn ?_
   refine Z0 ?_
   cases s
   exact Eg (_,()) rfl [2,0,0] [] 0
  refine Z2 ?_
  have ⟨t,u,v⟩:=bnd d
  refine Tj0 [(38,.bool t)] [0,5] [] [0,1,2] ?_ ?_
  ·refine Tb u (fun e=> ?_) fun e=> ?_
   ·refine Z0 ?_
    cases e
    exact Eg0 [0,0,0] 0
   refine Z1 ?_
   refine Tb e (fun f=> ?_) fun f=> ?_
   ·refine Z0 ?_
    cases f
    exact Eg0 [0,0,0] 0
   refine Z0 ?_
   cases f
   exact Eg0 [0,0,0] 0
  refine Tb v (fun i=> ?_) fun i=> ?_
  ·refine Z1 ?_
   have ⟨M,x,y⟩:=bnd i
   refine Lk [0,0,0] [] (kr x) fun ⟨z,A⟩=> ?_
   refine Z0 ?_
   obtain ⟨N,hz,B⟩:=dX y
   subst k
   obtain rfl:=(sm m).symm
   refine Z0 ?_
   cases B
   exact Eo1 (z,A) [0,0,0,0] []
  refine Z1 ?_
  refine Tb i (fun j=> ?_) fun j=> ?_
  ·refine Z0 ?_
   have ⟨O,C,F⟩:=bnd j
   refine Lk [0,0,0] [] (bX C) fun ⟨⟩=> ?_
   refine Z0 ?_
   cases F
   exact Eg (_,()) rfl [2,0,0] [] 0
  refine Z0 ?_
  cases j
  exact Eg (_,()) rfl [2,0,0] [] 0
 rintro ⟨a,⟨⟩⟩ hy
 subst hy
 refine Z1 ?_
 refine E.iw aC 107 ?_
 cases m
 exact Eo1 (none,0) [0,1,1,0] []
theorem pL {s_:List aE} {r:(List aE)} (H:gn s_=some r):CT G 194 [.slice A0 s_.length C0] [Ch.arr aC 107 A0 C0 s_] [] (fun _:Unit=> .tuple #[]) (fun h=>[Ch.arr aC 107 A0 C0 r]) (fun h=>[]):=by
 delta gn at H
 refine Cf Go.Proofs.Tryz.func194 fun K=> ?_
 refine Z1 ?_
 have ⟨i,x,y⟩:=bnd H
 refine T.tJ (η:=Unit×Unit) (fun h=>True) (fun h=>[(0,.slice A0 i.length C0)]) (fun h=>[Ch.arr aC 107 A0 C0 i]) (fun h=>[]) ?_ ?_
 ·refine Yl0 ?_
  refine Tq (η:=Unit) (fun b h=>[(0,.slice A0 b.1.length C0),(2,.int .i64 b.2.1),(3,.int .i64 b.2.2)]) [] (fun b h=>[Ch.arr aC 107 A0 C0 b.1]) [] (fun _ _=>[]) () [0] [] x ?_
  rintro k_ b ⟨⟩ Q z A B
  refine Z2 ?_
  refine Tb z (fun j=> ?_) fun j=> ?_
  ·refine Y1 ?_
   have ⟨u,C,F⟩:=bnd j
   refine Tj0 [(0,.slice A0 u.length C0)] [2,3] [Ch.arr aC 107 A0 C0 u] [] ?_ ?_
   ·refine Yl0 ?_
    refine Td [15] [] mo ?_
    refine Dq 0 ?_
    refine Dq 1 ?_
    refine Dq 2 ?_
    refine Dq 3 ?_
    refine Dq 4 ?_
    refine Dq 5 ?_
    have ⟨c,e,I⟩:=bnd C
    refine D.lQ 0 rfl (cL e) fun R J=> ?_
    subst J
    refine Dy 6 (Yl.ia e rfl rfl rfl rfl rfl rfl) ?_
    refine Dq 8 ?_
    refine Dq 9 ?_
    have ⟨d,k,M⟩:=bnd I
    refine Dy 10 (Yl.ia k rfl rfl rfl rfl rfl rfl) ?_
    have ⟨S,f,N⟩:=bnd M
    have ⟨U,g,w⟩:=bnd N
    refine D.two rfl rfl rfl ?_ ?_
    ·refine Dp.a [0] [] (Ac.lo b.2.2.toNat 0 (v:=(fun h:(Option Addr×Nat)=>(fun l m=> .agg #[.slice l c.cells.length m,.bool c.wrapped]) h.1 h.2)) (aU e).2 rfl rfl rfl (fun _=>rfl)) rfl rfl rfl rfl rfl rfl ?_
     rintro ⟨l,m⟩
     refine Da [0] [] rfl rfl (Ac.lo b.2.1.toNat 0 (v:=(fun h:(Option Addr×Nat)=>(fun n o=> .agg #[.slice n d.cells.length o,.bool d.wrapped]) h.1 h.2)) (aU k).2 rfl rfl rfl (fun _=>rfl)) ?_
     rintro ⟨n,o⟩
     refine Dy 12 (Yl.ia f rfl rfl rfl rfl rfl rfl) ?_
     refine Da [0] [1] rfl rfl (Ac.se 0 c (aU f).2 rfl rfl rfl rfl rfl rfl (fun _=>⟨(l,m),rfl,[1],rfl⟩)) fun _=> ?_
     refine Dy 14 (Yl.ia g rfl rfl rfl rfl rfl rfl) ?_
     obtain ⟨V,O⟩:=By (aU g).2
     refine D.one rfl rfl rfl (Dp.al [0] [0] (Ac.se 0 d O rfl rfl rfl rfl rfl rfl (fun _=>⟨(n,o),rfl,[1],rfl⟩)) rfl rfl rfl rfl rfl rfl rfl ?_)
     intro _
     refine Dn ?_
     refine E.sl 0 (k':=((b.1.set b.2.1.toNat c).set b.2.2.toNat d).length) ((List.length_set ..).trans (List.length_set ..)) rfl ?_
     refine Z0 ?_
     cases w
     exact Eg0 [0] 2
    refine Dp.a [0] [] (Ac.lo b.2.1.toNat 0 (v:=(fun h:(Option Addr×Nat)=>(fun p q=> .agg #[.slice p d.cells.length q,.bool d.wrapped]) h.1 h.2)) (aU k).2 rfl rfl rfl (fun _=>rfl)) rfl rfl rfl rfl rfl rfl ?_
    rintro ⟨p,q⟩
    refine Da [0] [] rfl rfl (Ac.lo b.2.2.toNat 0 (v:=(fun h:(Option Addr×Nat)=>(fun s t=> .agg #[.slice s c.cells.length t,.bool c.wrapped]) h.1 h.2)) (aU e).2 rfl rfl rfl (fun _=>rfl)) ?_
    rintro ⟨s,t⟩
    refine Dy 12 (Yl.ia f rfl rfl rfl rfl rfl rfl) ?_
    refine Da [0] [0] rfl rfl (Ac.se 0 c (aU f).2 rfl rfl rfl rfl rfl rfl (fun _=>⟨(s,t),rfl,[1],rfl⟩)) fun _=> ?_
    refine Dy 14 (Yl.ia g rfl rfl rfl rfl rfl rfl) ?_
    obtain ⟨W,P⟩:=By (aU g).2
    refine D.one rfl rfl rfl (Dp.al [0] [1] (Ac.se 0 d P rfl rfl rfl rfl rfl rfl (fun _=>⟨(p,q),rfl,[1],rfl⟩)) rfl rfl rfl rfl rfl rfl rfl ?_)
    intro _
    refine Dn ?_
    refine E.sl 0 (k':=((b.1.set b.2.1.toNat c).set b.2.2.toNat d).length) ((List.length_set ..).trans (List.length_set ..)) rfl ?_
    refine Z0 ?_
    cases w
    exact Eg0 [0] 2
   refine Z0 ?_
   cases F
   exact Eg (_,()) (A _ rfl) [0] [] 0
  refine Z0 ?_
  cases j
  have hb:=B _ rfl
  subst i
  exact Egx ((),()) trivial [0] []
 rintro ⟨_,⟨⟩⟩ _
 refine E.off ?_
 cases y
 exact Eo () [0] [] .nil
theorem nR {g:aW} {top:Int} {aK:Int} {n_:Int} {aL:Int} {r:(List aE)×aW} (H:eQ g top aK n_ aL=some r):CT G 160 [.pointer (some ⟨N0,0,none⟩),.int .i64 top,.int .i64 aK,.int .i64 n_,.int .i64 aL] [Ch.box N0 169 [.int .i64 g.w,.slice A0 g.l.length C0],Ch.arr aC 107 A0 C0 g.l] [] (fun h:(Option Addr×Nat)=> .slice h.1 r.1.length h.2) (fun h=>[Ch.arr aC 107 h.1 h.2 r.1,Ch.box N0 169 [.int .i64 r.2.w,.slice A0 r.2.l.length C0],Ch.arr aC 107 A0 C0 r.2.l]) (fun h=>[]):=by
 delta eQ at H
 refine Cf Go.Proofs.Tryz.func160 fun K=> ?_
 refine Z2 ?_
 have ⟨r1,h2,H3⟩:=bnd H
 rcases r1 with r1 | r1
 ·refine Lk [0,0] [] (nE h2) fun ⟨⟩=> ?_
  refine Z2 ?_
  refine T.cond rfl (fun _=> ?_) (fun h=>nomatch h)
  refine Z1 ?_
  refine E.iw aC 107 ?_
  cases H3
  exact Eo1 (none,0) [0,0,0] []
 refine Lk [0,0] [] (nF h2) fun ⟨⟩=> ?_
 have ⟨_,h5,H6⟩:=bnd H3
 refine L.cap 1 rfl fun h7=> ?_
 have b:Vw aC g.l A0 C0 (ku A0 C0 r1.1 (aC).sz) (C0 - r1.1.toNat) r1.1 r1.2:=vM h5 h7
 refine Z2 ?_
 refine T.cond rfl (fun h=>nomatch h) (fun _=> ?_)
 refine Z1 ?_
 have ⟨r9,m,n⟩:=bnd H6
 refine Lk [] [] (k9 m) fun ⟨⟩=> ?_
 refine Z1 ?_
 have ⟨_,o,p⟩:=bnd n
 refine L.vv b o rfl rfl rfl rfl rfl rfl rfl rfl rfl rfl rfl fun q s t=> ?_
 have ⟨af,u,v⟩:=bnd p
 refine Lk [1] [] (iH A0 C0 q s t u) fun ⟨x,y⟩=> ?_
 refine Z1 ?_
 have ⟨z,A,B⟩:=bnd v
 refine Lk [0] [] (pL A) fun ⟨⟩=> ?_
 have ⟨_,C,F⟩:=bnd B
 refine L.sl 13 (k':=z.length) (dM C) rfl ?_
 refine Y1 ?_
 refine Td [] [0,1] mo ?_
 refine Dq 0 ?_
 refine Dq 1 ?_
 have ⟨_,I,J⟩:=bnd F
 refine D.vv 2 b I rfl rfl rfl rfl rfl rfl rfl rfl rfl rfl rfl rfl rfl rfl fun ag ah c=> ?_
 refine Dq 3 ?_
 refine Dq 4 ?_
 refine Dq 5 ?_
 refine Dq 6 ?_
 refine Dq 7 ?_
 have ⟨_,M,N⟩:=bnd J
 refine D.vv 8 b M rfl rfl rfl rfl rfl rfl rfl rfl rfl rfl rfl rfl rfl rfl fun ai aj O=> ?_
 refine Da [0] [] rfl rfl (Ac.cpv (ty:=aC) c O rfl rfl rfl rfl rfl rfl rfl) fun _=> ?_
 refine Dn ?_
 have P:Vw aC (rA g.l (r1.1+r9) (r1.1+((cut g.l r1.1 r1.2).length:Int)) (r1.1+0) (r1.1+(IntKind.i64.wrap (((cut g.l r1.1 r1.2).length:Int) - r9)))) A0 C0 (ku A0 C0 r1.1 (aC).sz) (C0 - r1.1.toNat) r1.1 r1.2:=Vw.on b (pT c)
 refine E.sl 11 (k':=(cut (rA g.l (r1.1+r9) (r1.1+((cut g.l r1.1 r1.2).length:Int)) (r1.1+0) (r1.1+(IntKind.i64.wrap (((cut g.l r1.1 r1.2).length:Int) - r9)))) r1.1 r1.2).length) (oy (pT c)) rfl ?_
 refine E.bx 1 (cs':=[.int .i64 g.w,.slice A0 (rA g.l (r1.1+r9) (r1.1+((cut g.l r1.1 r1.2).length:Int)) (r1.1+0) (r1.1+(IntKind.i64.wrap (((cut g.l r1.1 r1.2).length:Int) - r9)))).length C0]) (by rw [(pT c)]) rfl ?_
 refine Z2 ?_
 have ⟨d,Q,R⟩:=bnd N
 refine Tj0 [] [13] [Ch.arr aC 107 A0 C0 d.l,Ch.box N0 169 [.int .i64 d.w,.slice A0 d.l.length C0]] [1] ?_ ?_
 ·refine Yl0 ?_
  refine Tq (η:=Unit) (fun a h=>[(11,.slice (ku A0 C0 r1.1 (aC).sz) (cut a.1.l r1.1 r1.2).length (C0 - r1.1.toNat)),(48,.int .i64 a.2)]) [0,4,13,47] (fun a h=>[Ch.arr aC 107 A0 C0 a.1.l,Ch.box N0 169 [.int .i64 a.1.w,.slice A0 a.1.l.length C0]]) [1] (fun _ _=>[]) () [2,0,0] [] Q ?_
  rintro k_ a ⟨⟩ ak S U V
  refine Y2 ?_
  refine Tb S (fun f=> ?_) fun f=> ?_
  ·refine Z1 ?_
   refine Zl ?_
   refine Z1 ?_
   have ⟨e,W,X⟩:=bnd f
   refine Lk [] [] (pC W) fun ⟨Y,Z⟩=> ?_
   have ⟨_,aa,ab⟩:=bnd X
   refine L.cap 0 rfl fun ac=> ?_
   have k:=L4 P aa ac
   have ⟨al,i,ad⟩:=bnd ab
   refine L.lQ 0 rfl (Hg (uJ i)) fun j ae=> ?_
   subst ae
   refine Ly (Yl.iv (ty:=aC) 0 k i rfl rfl rfl rfl rfl rfl rfl rfl) ?_
   refine La [0] [0] (Ac.se 0 e (uJ i) rfl rfl rfl rfl rfl rfl (fun _=>⟨(Y,Z),rfl,[1],rfl⟩)) fun _=> ?_
   have am:Vw aC (a.1.l.set (r1.1.toNat+a.2.toNat) e) (some ⟨j,0,none⟩) C0 (ku (some ⟨j,0,none⟩) C0 r1.1 (aC).sz) (C0 - r1.1.toNat) r1.1 r1.2:=Vw.on k (List.length_set ..)
   refine L.sl 11 (k':=(cut (a.1.l.set (r1.1.toNat+a.2.toNat) e) r1.1 r1.2).length) (oy (List.length_set ..)) rfl ?_
   refine L.bx 1 (cs':=[.int .i64 a.1.w,.slice (some ⟨j,0,none⟩) (a.1.l.set (r1.1.toNat+a.2.toNat) e).length C0]) (by rw [List.length_set ..]) rfl ?_
   refine Z0 ?_
   cases ad
   exact Eg (_,()) (U _ rfl) [1,0,0] [] 1
  refine Z0 ?_
  cases f
  have hb:=V _ rfl
  subst d
  exact Eg0 [0,0,0] 0
 refine Z1 ?_
 cases R
 exact Eo1 (x,y) [2,1,0] []
theorem sE {s_:aB} {r:aB} (H:iR s_=some r):CT G 153 [.pointer (some ⟨N0,0,none⟩)] [Ch.box N0 124 (cD s_ N1),Ch.box N1 169 [.int .i64 s_.g.w,.slice A0 s_.g.l.length C0],Ch.arr aC 107 A0 C0 s_.g.l] [] (fun _:Unit=> .tuple #[]) (fun h=>[Ch.box N0 124 (cD r N1),Ch.box N1 169 [.int .i64 r.g.w,.slice A0 r.g.l.length C0],Ch.arr aC 107 A0 C0 r.g.l]) (fun h=>[]):=by
 delta iR at H
 refine Cf Go.Proofs.Tryz.func153 fun K=> ?_
 refine Z1 ?_
 refine Lt 0 ?_
 refine Y2 ?_
 refine Td [] [0,0,0] mo ?_
 refine Dq 0 ?_
 refine Dq 1 ?_
 refine Dq 2 ?_
 refine Dq 3 ?_
 refine Db 4 0 ?_
 refine Dq 5 ?_
 refine Dq 6 ?_
 refine Dq 7 ?_
 refine Db 8 0 ?_
 refine Dq 9 ?_
 refine Dn ?_
 refine Z0 ?_
 refine Tb H (fun a=> ?_) fun a=> ?_
 ·refine Y1 ?_
  refine Td [14] [0,0,0] mo ?_
  refine Dq 0 ?_
  refine Dq 1 ?_
  refine Dq 2 ?_
  refine Db 3 0 ?_
  refine Dq 4 ?_
  refine Dq 5 ?_
  refine Dq 6 ?_
  refine Db 7 0 ?_
  refine Dq 8 ?_
  refine Dq 9 ?_
  refine Dq 10 ?_
  refine Db 11 0 ?_
  refine Dq 12 ?_
  have ⟨j,b,c⟩:=bnd a
  refine D.one rfl rfl rfl (Dp.br (Ac.call (dD b) rfl rfl rfl rfl) (Bw.bx 0 rfl (Bw.bx 1 rfl (Bw.ch 2 rfl (Bw.nil)))) rfl rfl rfl rfl ?_)
  intro _
  have ⟨k,d,e⟩:=bnd c
  refine Dkl [1,1] [] (nR d) fun ⟨m,n⟩=> ?_
  refine Dn ?_
  refine Z0 ?_
  cases e
  exact Eo () [3,1,1] [] .nil
 refine Z0 ?_
 refine Td [12] [0,0,0] mo ?_
 refine Dq 0 ?_
 refine Dq 1 ?_
 refine Dq 2 ?_
 refine Dq 3 ?_
 refine Dq 4 ?_
 refine Db 5 0 ?_
 refine Dq 6 ?_
 refine Dq 7 ?_
 refine Dq 8 ?_
 refine Dq 9 ?_
 refine Db 10 0 ?_
 refine Dq 11 ?_
 have ⟨o,f,i⟩:=bnd a
 refine Dkl [0,0,0] [] (bX f) fun ⟨⟩=> ?_
 refine Dn ?_
 refine E.off ?_
 cases i
 exact Eo () [0,0,0] [] .nil
theorem qY {s_:aB} {b:Int} {r:(List aE)×aB} (H:gS s_ b=some r):CT G 105 [.pointer (some ⟨N0,0,none⟩),.int .u8 b] [Ch.box N0 124 (cD s_ N1),Ch.box N1 169 [.int .i64 s_.g.w,.slice A0 s_.g.l.length C0],Ch.arr aC 107 A0 C0 s_.g.l] [] (fun h:(Option Addr×Nat)×Nat×(Option Addr×Nat)=> .slice h.1.1 r.1.length h.1.2) (fun h=>[Ch.arr aC 107 h.1.1 h.1.2 r.1,Ch.box N0 124 (cD r.2 h.2.1),Ch.box h.2.1 169 [.int .i64 r.2.g.w,.slice h.2.2.1 r.2.g.l.length h.2.2.2],Ch.arr aC 107 h.2.2.1 h.2.2.2 r.2.g.l]) (fun h=>[]):=by
 delta gS at H
 refine Cf Go.Proofs.Tryz.func105 fun K=> ?_
 refine Z3 ?_
 have ⟨q,u,s⟩:=bnd H
 refine Tj (η:=aB×(Nat×(Option Addr×Nat))) (fun h=>q = .inl h.1) (fun _=>[]) [] (fun h=>(fun d=>(fun e f i=>[Ch.arr aC 107 f i d.g.l,Ch.box N0 124 (cD d e),Ch.box e 169 [.int .i64 d.g.w,.slice f d.g.l.length i]]) h.2.1 h.2.2.1 h.2.2.2) h.1) [] (fun _=>[]) ?_ ?_
 ·refine Zl ?_
  refine Z1 ?_
  refine Zl ?_
  refine Z1 ?_
  refine Zl ?_
  refine Z1 ?_
  refine Zl ?_
  refine Z1 ?_
  refine Zl ?_
  refine Y1 ?_
  have ⟨a,v,c⟩:=bnd u
  refine Tj (η:=aB×Unit) (fun h=>a = .inl h.1) (fun _=>[]) [0] (fun h=>(fun t=>[Ch.box N0 124 (cD t N1)]) h.1) [1,2] (fun _=>[]) ?_ ?_
  ·refine Zl ?_
   refine Z1 ?_
   refine Zl ?_
   refine Z3 ?_
   refine Tb v (fun j=> ?_) fun j=> ?_
   ·refine Z0 ?_
    refine Lt 0 ?_
    refine Z0 ?_
    cases j
    exact Eg (_,()) rfl [0,0,0] [] 0
   refine Z2 ?_
   refine Tb j (fun k=> ?_) fun k=> ?_
   ·refine Tx (Ex (Ex (E.eM rfl (Ex (Eh ?_)))))
    cases k
    exact Eg (_,()) rfl [0,0,0] [] 0
   refine Z2 ?_
   refine Tb k (fun m=> ?_) fun m=> ?_
   ·refine Tx (Ex (Ex (E.eM rfl (Ex (E.eM rfl ?_)))))
    obtain ⟨Z,hz,x⟩:=dX m
    subst a
    obtain rfl:=(sm c).symm
    refine Z1 ?_
    have ⟨aa,y,z⟩:=bnd x
    refine Lk [0,0,0] [] (sE y) fun ⟨⟩=> ?_
    refine Ln (Et (Tx (E.eM rfl (Ex (E.eM rfl (Ex (E.eM rfl (Ex (Eh ?_)))))))))
    cases z
    exact Eg (_,(N1,(A0,C0))) rfl [2,0,0] [] 0
   refine Z2 ?_
   refine Tb m (fun n=> ?_) fun n=> ?_
   ·refine Tx (Ex (Ex (E.eM rfl (Ex (E.eM rfl ?_)))))
    obtain ⟨ab,hz,A⟩:=dX n
    subst a
    obtain rfl:=(sm c).symm
    refine Ex (E.eM rfl (Ex (Eh (Et (Ts (Tr ?_))))))
    refine Z0 ?_
    refine Lt 0 ?_
    refine Ln (Et (Tx (E.eM rfl (Ex (E.eM rfl (Ex (Eh ?_)))))))
    cases A
    exact Eg (_,(N1,(A0,C0))) rfl [2,0,0] [] 0
   refine Z2 ?_
   refine Tb n (fun o=> ?_) fun o=> ?_
   ·refine Tx (Ex (Ex (E.eM rfl (Ex (E.eM rfl ?_)))))
    obtain ⟨ac,hz,B⟩:=dX o
    subst a
    obtain rfl:=(sm c).symm
    refine Ex (E.eM rfl (Ex (E.eM rfl (Ex (Eh (Et (Ts (Ts (Tr ?_)))))))))
    refine Z0 ?_
    refine Lt 0 ?_
    refine Z0 ?_
    refine Td [11] [0,0,0] mo ?_
    refine Dq 0 ?_
    refine Dq 1 ?_
    refine Dq 2 ?_
    refine Dq 3 ?_
    refine Dq 4 ?_
    refine Db 5 0 ?_
    refine Dq 6 ?_
    refine Dq 7 ?_
    refine Dq 8 ?_
    refine Dq 9 ?_
    refine Db 10 0 ?_
    have ⟨ad,C,F⟩:=bnd B
    refine Dkl [0,0,0] [] (bX C) fun ⟨⟩=> ?_
    refine Dn ?_
    refine Et (Tx (E.eM rfl (Ex (Eh ?_))))
    cases F
    exact Eg (_,(N1,(A0,C0))) rfl [2,0,0] [] 0
   refine Z1 ?_
   refine Tb o (fun p=> ?_) fun p=> ?_
   ·refine Tx (Ex (E.eM rfl (Ex (E.eM rfl ?_))))
    obtain ⟨ae,hz,I⟩:=dX p
    subst a
    obtain rfl:=(sm c).symm
    refine Ex (E.eM rfl (Ex (E.eM rfl (Ex (E.eM rfl (Ex (Eh (Et (Ts (Tr ?_))))))))))
    refine Z0 ?_
    have ⟨af,J,M⟩:=bnd I
    refine Lk [1,1] [] (gJ J) fun ⟨⟩=> ?_
    refine Z0 ?_
    have ⟨ag,N,O⟩:=bnd M
    refine Lk [] [] (vh N) fun ⟨ah,P,⟨Q,R⟩⟩=> ?_
    refine Z0 ?_
    refine Lt 5 ?_
    refine Z0 ?_
    cases O
    exact Eg (_,(P,(Q,R))) rfl [3,0,1] [] 0
   refine Tk (Et (Tx (E.eM rfl (Ex (E.eM rfl ?_)))))
   obtain ⟨ai,hz,S⟩:=dX p
   subst a
   obtain rfl:=(sm c).symm
   refine Ex (E.eM rfl (Ex (E.eM rfl (Ex (E.eM rfl (Ex (E.eM rfl (Ex (Eh ?_)))))))))
   cases S
   exact Eg (_,(N1,(A0,C0))) rfl [2,0,0] [] 0
  rintro ⟨t,⟨⟩⟩ hy
  subst hy
  refine Z2 ?_
  have ⟨aj,U,V⟩:=bnd c
  refine Lk [0,0,0] [] (kr U) fun ⟨W,X⟩=> ?_
  refine Z0 ?_
  obtain ⟨ak,hz,Y⟩:=dX V
  subst q
  obtain rfl:=(sm s).symm
  refine Z0 ?_
  cases Y
  exact Eo1 ((W,X),N1,(A0,C0)) [0,0,0,0] []
 rintro ⟨d,⟨e,⟨f,i⟩⟩⟩ hy
 subst hy
 refine Z1 ?_
 refine E.iw aC 107 ?_
 cases s
 exact Eo1 ((none,0),e,(f,i)) [0,1,1,0] []
theorem l4 {a:aZ} {i:Int} {d:Int} {r:Int} (H:eX a i d=some r):CT G 107 [.agg (yV a A0 C0).toArray,.int .i64 i,.int .i64 d] [] [Im.sl (Ty.int .i64) A0 C0 a.bH] (fun _:Unit=> .int .i64 r) (fun h=>[]) (fun h=>[]):=by
 delta eX at H
 refine Cf Go.Proofs.Tryz.func107 fun K=> ?_
 refine Z1 ?_
 refine Lx fun g1=> ?_
 refine Y2 ?_
 have ⟨g,j,k⟩:=bnd H
 refine Tj0 [(19,.bool g)] [1,2,3] [] [0] ?_ ?_
 ·refine Z0 ?_
  refine Lw 12 j (fun b=> ?_) fun b=> ?_
  ·refine Z0 ?_
   cases b
   exact Eg0 [0] 0
  refine Z0 ?_
  have ⟨p,c,l⟩:=bnd b
  refine L.addr 0 rfl (cL c) fun q s m=> ?_
  subst m
  refine Ly (Yl.ia c rfl rfl rfl rfl rfl rfl) ?_
  refine L.el 0 rfl (aU c).2 ?_
  rintro _
  refine Lc 0 0 ?_
  refine Z0 ?_
  cases l
  exact Eg0 [0] 1
 refine Tb k (fun e=> ?_) fun e=> ?_
 ·refine Z1 ?_
  cases e
  exact Eo1 () [] []
 refine Z1 ?_
 have ⟨t,f,n⟩:=bnd e
 refine L.addr 0 rfl (cL f) fun u v o=> ?_
 subst o
 refine Ly (Yl.ia f rfl rfl rfl rfl rfl rfl) ?_
 refine L.el 0 rfl (aU f).2 ?_
 rintro _
 refine Lc 0 0 ?_
 refine Z0 ?_
 cases n
 exact Eo1 () [] []
theorem nG {s_:aB} {n_:Int} {r:aB} (H:fY s_ n_=some r):CT G 154 [.pointer (some ⟨N0,0,none⟩),.int .i64 n_] [Ch.box N0 124 (cD s_ N1),Ch.box N1 169 [.int .i64 s_.g.w,.slice A0 s_.g.l.length C0],Ch.arr aC 107 A0 C0 s_.g.l] [] (fun _:Unit=> .tuple #[]) (fun h=>[Ch.box N0 124 (cD r N1),Ch.box N1 169 [.int .i64 r.g.w,.slice A0 r.g.l.length C0],Ch.arr aC 107 A0 C0 r.g.l]) (fun h=>[]):=by
 delta fY at H
 refine Cf Go.Proofs.Tryz.func154 fun K=> ?_
 refine Z1 ?_
 have ⟨r1,h2,H3⟩:=bnd H
 refine Lk [0,0,0] [] (lZ h2) fun ⟨⟩=> ?_
 refine Y3 ?_
 have ⟨e9,e,f⟩:=bnd H3
 refine Tj0 [(27,.bool e9)] [0,1,6,7] [] [0,1,2] ?_ ?_
 ·refine Td [] [0,0,0] mo ?_
  refine Dq 0 ?_
  refine Dq 1 ?_
  refine Dq 2 ?_
  refine Dq 3 ?_
  refine Db 4 0 ?_
  refine Dq 5 ?_
  refine Dq 6 ?_
  refine Dq 7 ?_
  refine Db 8 0 ?_
  refine Dq 9 ?_
  refine Dq 10 ?_
  refine D.cs 24 e rfl (fun hc a=> ?_) (fun hc a=> ?_)
  ·refine Dq 11 ?_
   refine Dq 12 ?_
   refine Dq 13 ?_
   refine Dn ?_
   cases a
   exact Eg0 [0,0,0] 0
  refine Ds 11 ?_
  refine Ds 12 ?_
  refine Dq 13 ?_
  refine Dn ?_
  cases a
  exact Eg0 [0,0,0] 0
 have ⟨i,j,k⟩:=bnd f
 refine Tj0 [(6,.int .i64 i)] [0,1,7] [] [0,1,2] ?_ ?_
 ·refine Tb j (fun b=> ?_) fun b=> ?_
  ·refine Z0 ?_
   cases b
   exact Eg0 [0,0,0] 0
  refine Z0 ?_
  cases b
  exact Eg0 [0,0,0] 0
 refine Y2 ?_
 have ⟨m,n,o⟩:=bnd k
 refine Tj0 [(45,.bool m)] [0,1,6,7] [] [0,1,2] ?_ ?_
 ·refine Td [] [0,0,0] mo ?_
  refine Dq 0 ?_
  refine Dq 1 ?_
  refine Dq 2 ?_
  refine Dq 3 ?_
  refine Db 4 0 ?_
  refine Dq 5 ?_
  refine Dq 6 ?_
  refine Dq 7 ?_
  refine Db 8 0 ?_
  refine Dq 9 ?_
  refine Dq 10 ?_
  refine D.cs 42 n rfl (fun hc c=> ?_) (fun hc c=> ?_)
  ·refine Dq 11 ?_
   refine Dq 12 ?_
   refine Dq 13 ?_
   refine Dn ?_
   cases c
   exact Eg0 [0,0,0] 0
  refine Ds 11 ?_
  refine Ds 12 ?_
  refine Dq 13 ?_
  refine Dn ?_
  cases c
  exact Eg0 [0,0,0] 0
 have ⟨p,q,s⟩:=bnd o
 refine Tj0 [(7,.int .i64 p)] [0,1,6] [] [0,1,2] ?_ ?_
 ·refine Tb q (fun d=> ?_) fun d=> ?_
  ·refine Z0 ?_
   cases d
   exact Eg0 [0,0,0] 0
  refine Z0 ?_
  cases d
  exact Eg0 [0,0,0] 0
 refine Td [16] [0,0,0] mo ?_
 refine Dq 0 ?_
 refine Dq 1 ?_
 refine Dq 2 ?_
 refine Dq 3 ?_
 refine Dq 4 ?_
 refine Db 5 0 ?_
 refine Dq 6 ?_
 refine Dq 7 ?_
 refine Dq 8 ?_
 refine Dq 9 ?_
 refine Db 10 0 ?_
 refine Dq 11 ?_
 refine Dq 12 ?_
 refine Dq 13 ?_
 refine Dq 14 ?_
 have ⟨y,t,u⟩:=bnd s
 refine Dk [] [] (lJ t) fun ⟨⟩=> ?_
 have ⟨z,v,x⟩:=bnd u
 refine Dkl [0,0,0] [] (bX v) fun ⟨⟩=> ?_
 refine Dn ?_
 refine E.off ?_
 cases x
 exact Eo () [0,0,0] [] .nil
theorem rn {r_:aE} {from_:Int} {to:Int} {aL:Int} {r:aE} (H:jQ r_ from_ to aL=some r):CT G 191 [.agg #[.slice A0 r_.cells.length C0,.bool r_.wrapped],.int .i64 from_,.int .i64 to,.int .i64 aL] [] [Im.sl aO A0 C0 r_.cells] (fun h:(Option Addr×Nat)=> .agg #[.slice h.1 r.cells.length h.2,.bool r.wrapped]) (fun h=>[]) (fun h=>[Im.sl aO h.1 h.2 r.cells]):=by
 delta jQ at H
 refine Cf Go.Proofs.Tryz.func191 fun K=> ?_
 refine Z1 ?_
 refine Lx fun g1=> ?_
 refine Ll fun g2=> ?_
 refine Z1 ?_
 have ⟨r3,h4,H5⟩:=bnd H
 refine Lk [] [0] (jT h4) fun ⟨a6,c7⟩=> ?_
 refine Z2 ?_
 have ⟨r9,f,g⟩:=bnd H5
 refine Lk [] [] (o6 f) fun ⟨⟩=> ?_
 refine Z0 ?_
 have ⟨b,i,j⟩:=bnd g
 refine Tj0 [(9,.slice a6 b.length c7)] [8] [Ch.arr aO 143 a6 c7 b] [1,2] ?_ ?_
 ·refine Yl0 ?_
  refine Tq (η:=Unit) (fun a h=>[(9,.slice a6 a.2.length c7),(10,.int .i64 a.1)]) [2,3,8] (fun a h=>[Ch.arr aO 143 a6 c7 a.2]) [1,2] (fun _ _=>[]) () [0,0,0] [] i ?_
  rintro k_ a ⟨⟩ w k l m
  refine Z2 ?_
  have ⟨x,n,o⟩:=bnd k
  refine Lk [] [] (o6 n) fun ⟨⟩=> ?_
  refine Z0 ?_
  refine Tb o (fun c=> ?_) fun c=> ?_
  ·refine Z1 ?_
   refine Zl ?_
   have ⟨e,p,q⟩:=bnd c
   refine Lk [] [] (oc p) fun ⟨⟩=> ?_
   have ⟨y,d,s⟩:=bnd q
   refine L.lQ 0 rfl (cL d) fun z t=> ?_
   subst t
   refine Ly (Yl.ia d rfl rfl rfl rfl rfl rfl) ?_
   refine La [0] [] (Ac.se 0 e (aU d).2 rfl rfl rfl rfl rfl rfl (fun _=>⟨(),rfl,[],rfl⟩)) fun _=> ?_
   refine L.sl 9 (k':=(a.2.set a.1.toNat e).length) (List.length_set ..) rfl ?_
   refine Z0 ?_
   cases s
   exact Eg (_,()) (l _ rfl) [0,0,0] [] 0
  refine Z0 ?_
  cases c
  have hb:=m _ rfl
  subst b
  exact Eg0 [0,0,0] 0
 refine Z1 ?_
 have ⟨A,u,v⟩:=bnd j
 refine Lk [0] [] (lY u) fun ⟨⟩=> ?_
 refine Lt 0 ?_
 refine Z0 ?_
 cases v
 exact Eo (a6,c7) [] [0] (.cell 0 rfl rfl rfl .nil)
theorem jN {s_:aB} {y:Int} {from_:Int} {to:Int} {r:aB} (H:eJ s_ y from_ to=some r):CT G 187 [.pointer (some ⟨N0,0,none⟩),.int .i64 y,.int .i64 from_,.int .i64 to] [Ch.box N0 124 (cD s_ N1),Ch.box N1 169 [.int .i64 s_.g.w,.slice A0 s_.g.l.length C0],Ch.arr aC 107 A0 C0 s_.g.l] [] (fun _:Unit=> .tuple #[]) (fun h=>[Ch.box N0 124 (cD r N1),Ch.box N1 169 [.int .i64 r.g.w,.slice A0 r.g.l.length C0],Ch.arr aC 107 A0 C0 r.g.l]) (fun h=>[]):=by
 delta eJ at H
 refine Cf Go.Proofs.Tryz.func187 fun K=> ?_
 refine Td [16] [0,0,0] mo ?_
 refine Dq 0 ?_
 refine Dq 1 ?_
 refine Dq 2 ?_
 refine Db 3 0 ?_
 refine Dq 4 ?_
 refine Dq 5 ?_
 refine Dq 6 ?_
 refine Dq 7 ?_
 refine Db 8 0 ?_
 refine Dq 9 ?_
 refine Dq 11 ?_
 refine Dq 12 ?_
 refine Dq 13 ?_
 have ⟨k,a,b⟩:=bnd H
 refine D.one rfl rfl rfl (Dp.ab [1,1] [] [2,0,0] (Ac.call (lB a) rfl rfl rfl rfl) rfl rfl rfl rfl rfl rfl (fun _=>rfl) ?_)
 rintro ⟨m,n⟩
 have ⟨o,c,d⟩:=bnd b
 refine D.one rfl rfl rfl (Dp.br (Ac.call (dD c) rfl rfl rfl rfl) (Bw.bx 0 rfl (Bw.bx 1 rfl (Bw.ch 2 rfl (Bw.nil)))) rfl rfl rfl rfl ?_)
 intro _
 have ⟨p,e,f⟩:=bnd d
 refine Dk [] [0] (rn e) fun ⟨q,s⟩=> ?_
 have ⟨t,i,j⟩:=bnd f
 refine Dkl [1,1] [0] (jU i) fun ⟨⟩=> ?_
 refine Dn ?_
 refine E.off ?_
 cases j
 exact Eo () [2,0,0] [] .nil
theorem od {s_:aB} {n_:Int} {r:aB} (H:gG s_ n_=some r):CT G 156 [.pointer (some ⟨N0,0,none⟩),.int .i64 n_] [Ch.box N0 124 (cD s_ N1),Ch.box N1 169 [.int .i64 s_.g.w,.slice A0 s_.g.l.length C0],Ch.arr aC 107 A0 C0 s_.g.l] [] (fun _:Unit=> .tuple #[]) (fun h=>[Ch.box N0 124 (cD r N1),Ch.box N1 169 [.int .i64 r.g.w,.slice A0 r.g.l.length C0],Ch.arr aC 107 A0 C0 r.g.l]) (fun h=>[]):=by
 delta gG at H
 refine Cf Go.Proofs.Tryz.func156 fun K=> ?_
 refine Z1 ?_
 have ⟨r1,h2,H3⟩:=bnd H
 refine Lk [1,1] [] (gJ h2) fun ⟨⟩=> ?_
 refine Z2 ?_
 have ⟨a,f,i⟩:=bnd H3
 refine Tj0 [] [0,1] [Ch.arr aC 107 A0 C0 a.1.l,Ch.box N1 169 [.int .i64 a.1.w,.slice A0 a.1.l.length C0],Ch.box N0 124 (cD a.2 N1)] [] ?_ ?_
 ·refine Zl ?_
  refine Z1 ?_
  refine Tb f (fun b=> ?_) fun b=> ?_
  ·refine Td [12] [0,0,0] mo ?_
   refine Dq 0 ?_
   refine Dq 1 ?_
   refine Dq 2 ?_
   refine Dq 3 ?_
   refine Dq 4 ?_
   refine Db 5 2 ?_
   refine Dq 6 ?_
   refine Dq 7 ?_
   refine Dq 8 ?_
   refine Dq 9 ?_
   refine Db 10 2 ?_
   refine Dq 11 ?_
   have ⟨q,j,k⟩:=bnd b
   refine Dkl [2,0,0] [] (jN j) fun ⟨⟩=> ?_
   refine Dn ?_
   refine Z0 ?_
   cases k
   exact Eg0 [2,1,0] 0
  refine Z1 ?_
  refine Tb b (fun c=> ?_) fun c=> ?_
  ·refine Td [12] [0,0,0] mo ?_
   refine Dq 0 ?_
   refine Dq 1 ?_
   refine Dq 2 ?_
   refine Dq 3 ?_
   refine Dq 4 ?_
   refine Db 5 2 ?_
   refine Dq 6 ?_
   refine Dq 7 ?_
   refine Dq 8 ?_
   refine Dq 9 ?_
   refine Db 10 2 ?_
   refine Dq 11 ?_
   have ⟨s,m,n⟩:=bnd c
   refine Dkl [2,0,0] [] (jN m) fun ⟨⟩=> ?_
   refine Dn ?_
   refine Z0 ?_
   cases n
   exact Eg0 [2,1,0] 0
  refine Z1 ?_
  refine Tb c (fun d=> ?_) fun d=> ?_
  ·refine Z0 ?_
   have ⟨t,o,p⟩:=bnd d
   refine Lk [2,0,0] [] (jN o) fun ⟨⟩=> ?_
   refine Z0 ?_
   cases p
   exact Eg0 [2,1,0] 0
  refine Z0 ?_
  cases d
  exact Eg0 [1,0,0] 0
 refine Z0 ?_
 refine Lw 60 i (fun e=> ?_) fun e=> ?_
 ·refine Z0 ?_
  refine Lt 2 ?_
  refine Ln (E.off ?_)
  cases e
  exact Eo () [0,1,0] [] .nil
 refine Z0 ?_
 refine Lt 2 ?_
 refine Ln (E.off ?_)
 cases e
 exact Eo () [0,1,0] [] .nil
theorem sF {s_:aB} {n_:Int} {r:aB} (H:iS s_ n_=some r):CT G 155 [.pointer (some ⟨N0,0,none⟩),.int .i64 n_] [Ch.box N0 124 (cD s_ N1),Ch.box N1 169 [.int .i64 s_.g.w,.slice A0 s_.g.l.length C0],Ch.arr aC 107 A0 C0 s_.g.l] [] (fun _:Unit=> .tuple #[]) (fun h=>[Ch.box N0 124 (cD r N1),Ch.box N1 169 [.int .i64 r.g.w,.slice A0 r.g.l.length C0],Ch.arr aC 107 A0 C0 r.g.l]) (fun h=>[]):=by
 delta iS at H
 refine Cf Go.Proofs.Tryz.func155 fun K=> ?_
 refine Z1 ?_
 have ⟨r1,h2,H3⟩:=bnd H
 refine Lk [1,1] [] (gJ h2) fun ⟨⟩=> ?_
 refine Z2 ?_
 have ⟨b,t,u⟩:=bnd H3
 refine Tj0 [] [0,1] [Ch.arr aC 107 A0 C0 b.1.l,Ch.box N1 169 [.int .i64 b.1.w,.slice A0 b.1.l.length C0],Ch.box N0 124 (cD b.2 N1)] [] ?_ ?_
 ·refine Yl0 ?_
  refine Tq (η:=Unit) (fun a h=>[(16,.int .i64 a.2.2)]) [0,1,4,15] (fun a h=>[Ch.arr aC 107 A0 C0 a.2.1.l,Ch.box N1 169 [.int .i64 a.2.1.w,.slice A0 a.2.1.l.length C0],Ch.box N0 124 (cD a.1 N1)]) [] (fun _ _=>[]) () [1,0,0] [] t ?_
  rintro k_ a ⟨⟩ O v x y
  refine Y2 ?_
  refine Tb v (fun d=> ?_) fun d=> ?_
  ·refine Y1 ?_
   have ⟨c,z,A⟩:=bnd d
   refine Tj0 [] [0,1,4,15,16] [Ch.arr aC 107 A0 C0 c.1.l,Ch.box N1 169 [.int .i64 c.1.w,.slice A0 c.1.l.length C0],Ch.box N0 124 (cD c.2 N1)] [] ?_ ?_
   ·refine Zl ?_
    refine Y2 ?_
    have ⟨B,C,F⟩:=bnd z
    refine Tj0 [(55,.bool B)] [0,1,4,6,15,16] [] [1,2,0] ?_ ?_
    ·refine Z0 ?_
     refine Lw 26 C (fun e=> ?_) fun e=> ?_
     ·refine Z0 ?_
      refine Lw 30 e (fun f=> ?_) fun f=> ?_
      ·refine Z0 ?_
       cases f
       exact Eg0 [1,1,0] 0
      refine Z0 ?_
      refine Lw 38 f (fun i=> ?_) fun i=> ?_
      ·refine Z0 ?_
       refine Lw 43 i (fun j=> ?_) fun j=> ?_
       ·refine Z0 ?_
        cases j
        exact Eg0 [1,1,0] 0
       refine Z0 ?_
       refine Lw 51 j (fun k=> ?_) fun k=> ?_
       ·refine Z0 ?_
        cases k
        exact Eg0 [1,1,0] 0
       refine Z0 ?_
       cases k
       exact Eg0 [1,1,0] 0
      refine Z0 ?_
      refine Lw 51 i (fun m=> ?_) fun m=> ?_
      ·refine Z0 ?_
       cases m
       exact Eg0 [1,1,0] 0
      refine Z0 ?_
      cases m
      exact Eg0 [1,1,0] 0
     refine Z0 ?_
     refine Lw 38 e (fun n=> ?_) fun n=> ?_
     ·refine Z0 ?_
      refine Lw 43 n (fun o=> ?_) fun o=> ?_
      ·refine Z0 ?_
       cases o
       exact Eg0 [1,1,0] 0
      refine Z0 ?_
      refine Lw 51 o (fun p=> ?_) fun p=> ?_
      ·refine Z0 ?_
       cases p
       exact Eg0 [1,1,0] 0
      refine Z0 ?_
      cases p
      exact Eg0 [1,1,0] 0
     refine Z0 ?_
     refine Lw 51 n (fun q=> ?_) fun q=> ?_
     ·refine Z0 ?_
      cases q
      exact Eg0 [1,1,0] 0
     refine Z0 ?_
     cases q
     exact Eg0 [1,1,0] 0
    refine Tb F (fun s=> ?_) fun s=> ?_
    ·refine Z0 ?_
     have ⟨P,I,J⟩:=bnd s
     refine Lk [1,0,0] [] (jN I) fun ⟨⟩=> ?_
     refine Z0 ?_
     cases J
     exact Eg0 [2,1,0] 0
    refine Z0 ?_
    cases s
    exact Eg0 [2,0,0] 0
   refine Z0 ?_
   cases A
   exact Eg (_,()) (x _ rfl) [0,0,0] [] 0
  refine Z0 ?_
  cases d
  have hb:=y _ rfl
  subst b
  exact Eg0 [0,0,0] 0
 refine Z0 ?_
 have ⟨Q,M,N⟩:=bnd u
 refine Lk [2,1,0] [] (od M) fun ⟨⟩=> ?_
 refine Ln (E.off ?_)
 cases N
 exact Eo () [0,0,0] [] .nil
end Go.Tw.X
set_option maxHeartbeats 2000000
set_option linter.unusedVariables false
set_option linter.unusedSimpArgs false
set_option maxRecDepth 10000
namespace Go.Tw.X
open Go Go.Tw
variable {A0 A1 A2 A3 A4 A5 A6 A7 A8 : Option Addr} {C0 C1 C2 C3 C4 C5 C6 C7 C8 : Nat}
variable {N0 N1 N2 N3 N4 : Nat}
variable {M0 : Option Nat}
theorem qt {r_:aE} {at_:Int} {n_:Int} {r:Int} (H:jz r_ at_ n_=some r):CT G 209 [.agg #[.slice A0 r_.cells.length C0,.bool r_.wrapped],.int .i64 at_,.int .i64 n_] [] [Im.sl aO A0 C0 r_.cells] (fun _:Unit=> .int .i64 r) (fun h=>[]) (fun h=>[]):=by
 delta jz at H
 refine Cf Go.Proofs.Tryz.func209 fun K=> ?_
 refine Z1 ?_
 refine Lx fun g1=> ?_
 refine Y2 ?_
 have ⟨e5,H6,H7⟩:=bnd H
 refine Tj0 [(15,.bool e5)] [1,2,3] [] [0] ?_ ?_
 ·refine Z0 ?_
  refine Lw 9 H6 (fun H8=> ?_) fun H8=> ?_
  ·refine Z0 ?_
   cases H8
   exact Eg0 [0] 0
  refine Z0 ?_
  cases H8
  exact Eg0 [0] 0
 refine Tb H7 (fun a=> ?_) fun a=> ?_
 ·refine Z1 ?_
  cases a
  exact Eo1 () [] []
 refine Z1 ?_
 have ⟨d,b,c⟩:=bnd a
 refine Lk [] [] (o6 b) fun ⟨⟩=> ?_
 refine Z0 ?_
 cases c
 exact Eo1 () [] []
theorem qZ {n_:Int} {r:(List aG)} (H:gP n_=some r):CT G 215 [.slice none 0 0,.int .i64 n_] [] [] (fun h:(Option Addr×Nat)=> .slice h.1 r.length h.2) (fun h=>[Ch.arr aO 143 h.1 h.2 r]) (fun h=>[]):=by
 delta gP at H
 refine Cf Go.Proofs.Tryz.func215 fun K=> ?_
 refine Z3 ?_
 refine Tb H (fun H2=> ?_) fun H2=> ?_
 ·cases H2
 refine Z3 ?_
 have ⟨d,e,g⟩:=bnd H2
 refine Tjh (η:=(Option Addr×Nat)) (fun h=>(fun a b=>[(0,.slice a d.length b)]) h.1 h.2) [] (fun h=>(fun a b=>[Ch.arr aO 143 a b d]) h.1 h.2) [] (fun _=>[]) ?_ ?_
 ·refine Tb e (fun c=> ?_) fun c=> ?_
  ·refine Z0 ?_
   refine Ly (Yl.Pz rfl rfl rfl rfl rfl rfl rfl) ?_
   refine Z0 ?_
   have ⟨_,i,j⟩:=bnd c
   refine La [] [] (Ac.gz (ty:=aO) (aG.mk 0 0 0) () i (fun _ _ f hf=>by cases hf) rfl rfl rfl rfl rfl rfl rfl rfl rfl rfl) ?_
   rintro ⟨k,l⟩
   refine Z0 ?_
   have ⟨_,m,n⟩:=bnd j
   refine La [0] [] (Ac.rso m rfl rfl rfl rfl rfl rfl rfl) fun _=> ?_
   refine Z0 ?_
   cases n
   exact Eg (k,l) trivial [0] [] 0
  refine Z0 ?_
  refine E.iw aO 143 ?_
  cases c
  exact Eg (none,0) trivial [0] [] 0
 rintro ⟨a,b⟩
 refine Z1 ?_
 cases g
 exact Eo1 (a,b) [0] []
theorem mC {slices:List (List aG)} {r:(List aG)} (H:fC slices=some r):CT G 210 [.slice A0 slices.length C0] [] [Im.sl (Ty.slice aO) A0 C0 slices] (fun h:(Option Addr×Nat)=> .slice h.1 r.length h.2) (fun h=>[Ch.arr aO 143 h.1 h.2 r]) (fun h=>[]):=by
 delta fC at H
 refine Cf Go.Proofs.Tryz.func210 fun K=> ?_
 refine Z3 ?_
 refine Z1 ?_
 have ⟨n,o,p⟩:=bnd H
 refine Tj0 [(3,.int .i64 n)] [0] [] [] ?_ ?_
 ·refine Yl0 ?_
  refine Tq (η:=Unit) (fun f h=>[(3,.int .i64 f.2),(11,.int .i64 f.1)]) [0,9,10] (fun _ _=>[]) [] (fun _ _=>[]) () [] [] o ?_
  rintro k_ f ⟨⟩ R q s t
  refine Y2 ?_
  refine Tb q (fun g=> ?_) fun g=> ?_
  ·refine Z1 ?_
   refine Zl ?_
   refine Z1 ?_
   have ⟨S,i,u⟩:=bnd g
   refine L.addr 0 rfl (cL i) fun U V v=> ?_
   subst v
   refine Ly (Yl.ia i rfl rfl rfl rfl rfl rfl) ?_
   refine L.el 0 rfl (aU i).2 ?_
   rintro ⟨W,X⟩
   refine Lc 0 0 ?_
   refine Z2 ?_
   refine Tb u (fun j=> ?_) fun j=> ?_
   ·cases j
   refine Z0 ?_
   cases j
   exact Eg (_,()) (s _ rfl) [] [] 2
  refine Z0 ?_
  cases g
  have hb:=t _ rfl
  subst n
  exact Eg0 [] 0
 refine Z1 ?_
 have ⟨Y,w,x⟩:=bnd p
 refine Lk [] [] (qZ w) fun ⟨y,z⟩=> ?_
 refine Z2 ?_
 have ⟨k,A,B⟩:=bnd x
 refine Tjh (η:=(Option Addr×Nat)) (fun h=>(fun a b=>[(6,.slice a k.length b)]) h.1 h.2) [] (fun h=>(fun a b=>[Ch.arr aO 143 a b k]) h.1 h.2) [] (fun _=>[]) ?_ ?_
 ·refine Yl0 ?_
  refine Tq (η:=(Option Addr×Nat)) (fun c h=>(fun d e=>[(6,.slice d c.2.length e),(27,.int .i64 c.1)]) h.1 h.2) [25,26] (fun c h=>(fun d e=>[Ch.arr aO 143 d e c.2]) h.1 h.2) [] (fun _ _=>[]) (y,z) [0] [] A ?_
  rintro k_ c ⟨d,e⟩ Z C F I
  refine Y2 ?_
  refine Tb C (fun l=> ?_) fun l=> ?_
  ·refine Z1 ?_
   refine Zl ?_
   refine Z1 ?_
   have ⟨aa,m,J⟩:=bnd l
   refine L.addr 0 rfl (cL m) fun ab ac M=> ?_
   subst M
   refine Ly (Yl.ia m rfl rfl rfl rfl rfl rfl) ?_
   refine L.el 0 rfl (aU m).2 ?_
   rintro ⟨ad,ae⟩
   refine Lc 0 0 ?_
   refine Z0 ?_
   have ⟨_,N,O⟩:=bnd J
   refine La [0] [1] (Ac.ap (ty:=aO) N rfl rfl rfl rfl rfl rfl rfl) ?_
   rintro ⟨P,Q⟩
   refine Z0 ?_
   cases O
   exact Eg (_,(P,Q)) (F _ rfl) [0] [] 2
  refine Z0 ?_
  cases l
  have hb:=I _ rfl
  subst k
  exact Eg (d,e) trivial [0] [] 0
 rintro ⟨a,b⟩
 refine Z1 ?_
 cases B
 exact Eo1 (a,b) [0] []
theorem wD {r_:aE} {at_:Int} {n_:Int} {aL:Int} {r:aE} (H:kO r_ at_ n_ aL=some r):CT G 189 [.agg #[.slice A0 r_.cells.length C0,.bool r_.wrapped],.int .i64 at_,.int .i64 n_,.int .i64 aL] [] [Im.sl aO A0 C0 r_.cells] (fun h:(Option Addr×Nat)=> .agg #[.slice h.1 r.cells.length h.2,.bool r.wrapped]) (fun h=>[]) (fun h=>[Im.sl aO h.1 h.2 r.cells]):=by
 delta kO at H
 refine Cf Go.Proofs.Tryz.func189 fun K=> ?_
 refine Z1 ?_
 refine Lx fun g1=> ?_
 refine Ll fun g2=> ?_
 refine Z1 ?_
 have ⟨r3,h4,H5⟩:=bnd H
 refine Lk [] [0] (qt h4) fun ⟨⟩=> ?_
 refine Z2 ?_
 refine Tb H5 (fun a=> ?_) fun a=> ?_
 ·refine Z1 ?_
  have ⟨I,b,c⟩:=bnd a
  refine Lk [] [0] (jT b) fun ⟨d,e⟩=> ?_
  have ⟨J,f,g⟩:=bnd c
  refine Lk [0] [] (lY f) fun ⟨⟩=> ?_
  refine Lt 0 ?_
  refine Z0 ?_
  cases g
  exact Eo (d,e) [] [0] (.cell 0 rfl rfl rfl .nil)
 refine Y1 ?_
 refine Td [] [0,0] mo ?_
 refine Dq 0 ?_
 refine Db 1 1 ?_
 refine Dq 2 ?_
 have ⟨_,i,j⟩:=bnd a
 refine D.rsl 0 3 i rfl rfl rfl rfl rfl rfl rfl rfl rfl rfl rfl rfl rfl rfl ?_
 intro k l
 refine Dq 4 ?_
 refine Dq 5 ?_
 refine Dq 7 ?_
 refine Db 8 1 ?_
 refine Dq 9 ?_
 have ⟨_,m,n⟩:=bnd j
 refine D.rsl 1 10 m rfl rfl rfl rfl rfl rfl rfl rfl rfl rfl rfl rfl rfl rfl ?_
 intro o p
 have ⟨q,s,t⟩:=bnd n
 refine Dk [] [] (oH s) fun ⟨u,v⟩=> ?_
 refine D.frz 0 rfl ?_
 refine Da [] [2,0,1] rfl rfl (Ac.bs (ty:=(Ty.slice aO)) (xs:=[(cut r_.cells 0 at_),q,(cut r_.cells at_ (r_.cells.length:Int))]) (.cons (k,l) [0] rfl (.cons (u,v) [1] rfl (.cons (o,p) [2] rfl .nil))) rfl rfl rfl rfl rfl rfl rfl) fun M=> ?_
 refine D.frz 0 rfl ?_
 have ⟨N,w,x⟩:=bnd t
 refine Dk [] [0] (mC w) fun ⟨y,z⟩=> ?_
 refine Dq 13 ?_
 refine Dn ?_
 refine Z1 ?_
 have ⟨_,A,B⟩:=bnd x
 refine La [2] [] (Ac.rso A rfl rfl rfl rfl rfl rfl rfl) fun _=> ?_
 have ⟨O,C,F⟩:=bnd B
 refine Lk [0] [] (lY C) fun ⟨⟩=> ?_
 refine Lt 0 ?_
 refine Z0 ?_
 cases F
 exact Eo (y,z) [] [0] (.cell 0 rfl rfl rfl .nil)
theorem wE {r_:aE} {at_:Int} {n_:Int} {aL:Int} {r:aE} (H:kP r_ at_ n_ aL=some r):CT G 190 [.agg #[.slice A0 r_.cells.length C0,.bool r_.wrapped],.int .i64 at_,.int .i64 n_,.int .i64 aL] [] [Im.sl aO A0 C0 r_.cells] (fun h:(Option Addr×Nat)=> .agg #[.slice h.1 r.cells.length h.2,.bool r.wrapped]) (fun h=>[]) (fun h=>[Im.sl aO h.1 h.2 r.cells]):=by
 delta kP at H
 refine Cf Go.Proofs.Tryz.func190 fun K=> ?_
 refine Z1 ?_
 refine Lx fun g1=> ?_
 refine Ll fun g2=> ?_
 refine Z1 ?_
 have ⟨r3,h4,H5⟩:=bnd H
 refine Lk [] [0] (qt h4) fun ⟨⟩=> ?_
 refine Z2 ?_
 refine Tb H5 (fun a=> ?_) fun a=> ?_
 ·refine Z1 ?_
  have ⟨C,b,c⟩:=bnd a
  refine Lk [] [0] (jT b) fun ⟨d,e⟩=> ?_
  have ⟨F,f,g⟩:=bnd c
  refine Lk [0] [] (lY f) fun ⟨⟩=> ?_
  refine Lt 0 ?_
  refine Z0 ?_
  cases g
  exact Eo (d,e) [] [0] (.cell 0 rfl rfl rfl .nil)
 refine Y1 ?_
 refine Td [16] [0,0] mo ?_
 refine Dq 0 ?_
 refine Db 1 1 ?_
 refine Dq 2 ?_
 have ⟨_,i,j⟩:=bnd a
 refine D.rsl 0 3 i rfl rfl rfl rfl rfl rfl rfl rfl rfl rfl rfl rfl rfl rfl ?_
 intro k l
 refine Dq 4 ?_
 refine Db 5 1 ?_
 refine Dq 6 ?_
 refine Dq 7 ?_
 refine Dq 8 ?_
 have ⟨_,m,n⟩:=bnd j
 refine D.rsl 1 9 m rfl rfl rfl rfl rfl rfl rfl rfl rfl rfl rfl rfl rfl rfl ?_
 intro o p
 refine Dq 10 ?_
 refine Dq 11 ?_
 have ⟨q,s,t⟩:=bnd n
 refine Dk [] [] (oH s) fun ⟨u,v⟩=> ?_
 refine D.frz 0 rfl ?_
 refine Da [] [2,1,0] rfl rfl (Ac.bs (ty:=(Ty.slice aO)) (xs:=[(cut r_.cells 0 at_),(cut r_.cells (IntKind.i64.wrap (at_+r3)) (r_.cells.length:Int)),q]) (.cons (k,l) [0] rfl (.cons (o,p) [1] rfl (.cons (u,v) [2] rfl .nil))) rfl rfl rfl rfl rfl rfl rfl) fun I=> ?_
 refine D.frz 0 rfl ?_
 have ⟨J,w,x⟩:=bnd t
 refine Dk [] [0] (mC w) fun ⟨y,z⟩=> ?_
 have ⟨M,A,B⟩:=bnd x
 refine Dk [0] [] (lY A) fun ⟨⟩=> ?_
 refine Dt 0 ?_
 refine Dn ?_
 refine Z0 ?_
 cases B
 exact Eo (y,z) [] [0] (.cell 0 rfl rfl rfl .nil)
theorem qu {r_:aE} {x1:Int} {x2:aB} {x3:Int} {r:aE} (H:gH r_ x1 x2 x3=some r):CT G 188 [.agg #[.slice A0 r_.cells.length C0,.bool r_.wrapped],.pointer (some ⟨N0,0,none⟩),.pointer (some ⟨N1,0,none⟩),.pointer (some ⟨N4,0,none⟩)] [Ch.box N0 5 [.int .u8 x1],Ch.box N1 54 [.pointer (some ⟨N2,0,none⟩)],Ch.box N2 124 (cD x2 N3),Ch.box N3 169 [.int .i64 x2.g.w,.slice A1 x2.g.l.length C1],Ch.arr aC 107 A1 C1 x2.g.l,Ch.box N4 3 [.int .i64 x3]] [Im.sl aO A0 C0 r_.cells] (fun h:(Option Addr×Nat)=> .agg #[.slice h.1 r.cells.length h.2,.bool r.wrapped]) (fun h=>[Ch.box N0 5 [.int .u8 x1],Ch.box N1 54 [.pointer (some ⟨N2,0,none⟩)],Ch.box N2 124 (cD x2 N3),Ch.box N3 169 [.int .i64 x2.g.w,.slice A1 x2.g.l.length C1],Ch.arr aC 107 A1 C1 x2.g.l,Ch.box N4 3 [.int .i64 x3]]) (fun h=>[Im.sl aO h.1 h.2 r.cells]):=by
 delta gH at H
 refine Cf Go.Proofs.Tryz.func188 fun K=> ?_
 refine Z1 ?_
 refine Lx fun g1=> ?_
 refine Ll fun g2=> ?_
 refine Z2 ?_
 refine Zl ?_
 refine Z1 ?_
 refine Tb H (fun a=> ?_) fun a=> ?_
 ·refine Y1 ?_
  refine Td [9,10] [0,0,0,0,0,0,0,0] mo ?_
  refine Db 0 1 ?_
  refine Db 1 3 ?_
  refine Dq 2 ?_
  refine Dq 3 ?_
  refine Dq 4 ?_
  refine Db 5 4 ?_
  refine Db 6 7 ?_
  refine Db 7 3 ?_
  have ⟨z,c,d⟩:=bnd a
  refine D.one rfl rfl rfl (Dp.br (Ac.call (dD c) rfl rfl rfl rfl) (Bw.bx 4 rfl (Bw.bx 5 rfl (Bw.ch 6 rfl (Bw.nil)))) rfl rfl rfl rfl ?_)
  intro _
  have ⟨A,e,f⟩:=bnd d
  refine Dkl [] [0] (wD e) fun ⟨i,j⟩=> ?_
  refine Dt 0 ?_
  refine Dn ?_
  refine Z0 ?_
  cases f
  exact Eo (i,j) [2,2,2,2,2,2] [0] (.cell 0 rfl rfl rfl .nil)
 refine Z1 ?_
 refine Tb a (fun b=> ?_) fun b=> ?_
 ·refine Y1 ?_
  refine Td [9,10] [0,0,0,0,0,0,0,0] mo ?_
  refine Db 0 1 ?_
  refine Db 1 3 ?_
  refine Dq 2 ?_
  refine Dq 3 ?_
  refine Dq 4 ?_
  refine Db 5 4 ?_
  refine Db 6 7 ?_
  refine Db 7 3 ?_
  have ⟨B,k,m⟩:=bnd b
  refine D.one rfl rfl rfl (Dp.br (Ac.call (dD k) rfl rfl rfl rfl) (Bw.bx 4 rfl (Bw.bx 5 rfl (Bw.ch 6 rfl (Bw.nil)))) rfl rfl rfl rfl ?_)
  intro _
  have ⟨C,n,o⟩:=bnd m
  refine Dkl [] [0] (wE n) fun ⟨p,q⟩=> ?_
  refine Dt 0 ?_
  refine Dn ?_
  refine Z0 ?_
  cases o
  exact Eo (p,q) [2,2,2,2,2,2] [0] (.cell 0 rfl rfl rfl .nil)
 refine Y1 ?_
 refine Td [16] [0,0,0,0,0,0,0,0] mo ?_
 refine Db 0 1 ?_
 refine Db 1 3 ?_
 refine Dq 2 ?_
 refine Dq 3 ?_
 refine Dq 4 ?_
 refine Db 5 4 ?_
 refine Db 6 3 ?_
 refine Dq 7 ?_
 refine Dq 8 ?_
 refine Dq 9 ?_
 refine Db 10 4 ?_
 refine Db 11 7 ?_
 refine Dq 12 ?_
 refine Db 13 3 ?_
 have ⟨F,s,t⟩:=bnd b
 refine D.one rfl rfl rfl (Dp.br (Ac.call (dD s) rfl rfl rfl rfl) (Bw.bx 4 rfl (Bw.bx 5 rfl (Bw.ch 6 rfl (Bw.nil)))) rfl rfl rfl rfl ?_)
 intro _
 have ⟨I,u,v⟩:=bnd t
 refine Dk [] [0] (rn u) fun ⟨x,y⟩=> ?_
 refine Dt 0 ?_
 refine Dn ?_
 refine Z0 ?_
 cases v
 exact Eo (x,y) [2,2,2,2,2,2] [0] (.cell 0 rfl rfl rfl .nil)
theorem mD {s_:aB} {f_0:Int} {f_2:Int} {r:aB} (H:eT s_ f_0 f_2=some r):CT G 145 [.pointer (some ⟨N0,0,none⟩),.func (.func 188) #[] #[.pointer (some ⟨N2,0,none⟩),.pointer (some ⟨N3,0,none⟩),.pointer (some ⟨N4,0,none⟩)]] [Ch.box N0 124 (cD s_ N1),Ch.box N1 169 [.int .i64 s_.g.w,.slice A0 s_.g.l.length C0],Ch.arr aC 107 A0 C0 s_.g.l,Ch.box N2 5 [.int .u8 f_0],Ch.box N3 54 [.pointer (some ⟨N0,0,none⟩)],Ch.box N4 3 [.int .i64 f_2]] [] (fun _:Unit=> .tuple #[]) (fun h=>[Ch.box N0 124 (cD r N1),Ch.box N1 169 [.int .i64 r.g.w,.slice A0 r.g.l.length C0],Ch.arr aC 107 A0 C0 r.g.l,Ch.box N2 5 [.int .u8 f_0],Ch.box N3 54 [.pointer (some ⟨N0,0,none⟩)],Ch.box N4 3 [.int .i64 f_2]]) (fun h=>[]):=by
 delta eT at H
 refine Cf Go.Proofs.Tryz.func145 fun K=> ?_
 refine Td [21] [0,0,0,0,0,0] mo ?_
 refine Dq 0 ?_
 refine Dq 1 ?_
 refine Dq 2 ?_
 refine Db 3 0 ?_
 refine Dq 4 ?_
 refine Dq 5 ?_
 refine Dq 6 ?_
 refine Dq 7 ?_
 refine Db 8 0 ?_
 refine Dq 9 ?_
 refine Dq 10 ?_
 refine Dq 11 ?_
 refine Dq 12 ?_
 refine Db 13 0 ?_
 refine Dq 14 ?_
 refine Dq 15 ?_
 refine Dq 16 ?_
 refine Dq 17 ?_
 refine Db 18 0 ?_
 have ⟨i,a,b⟩:=bnd H
 refine D.one rfl rfl rfl (Dp.ab [1,1] [] [2,0,0,0,0,0] (Ac.call (lB a) rfl rfl rfl rfl) rfl rfl rfl rfl rfl rfl (fun _=>rfl) ?_)
 rintro ⟨j,k⟩
 have ⟨m,c,d⟩:=bnd b
 refine D.one rfl rfl rfl (Dp.ab [3,3,0,0,0,0] [0] [2,2,2,0,0,0] (Ac.call (qu c) rfl rfl rfl rfl) rfl rfl rfl rfl rfl rfl (fun _=>rfl) ?_)
 rintro ⟨n,o⟩
 have ⟨p,e,f⟩:=bnd d
 refine Dkl [1,1] [0] (jU e) fun ⟨⟩=> ?_
 refine Dn ?_
 refine E.off ?_
 cases f
 exact Eo () [2,0,0,0,0,0] [] .nil
theorem rG {s_:aB} {b:Int} {n_:Int} {r:aB} (H:ik s_ b n_=some r):CT G 157 [.pointer (some ⟨N0,0,none⟩),.int .u8 b,.int .i64 n_] [Ch.box N0 124 (cD s_ N1),Ch.box N1 169 [.int .i64 s_.g.w,.slice A0 s_.g.l.length C0],Ch.arr aC 107 A0 C0 s_.g.l] [] (fun _:Unit=> .tuple #[]) (fun h=>[Ch.box N0 124 (cD r N1),Ch.box N1 169 [.int .i64 r.g.w,.slice A0 r.g.l.length C0],Ch.arr aC 107 A0 C0 r.g.l]) (fun h=>[]):=by
 delta ik at H
 refine Cf Go.Proofs.Tryz.func157 fun K=> ?_
 refine Z1 ?_
 refine Lx fun g1=> ?_
 refine Lx fun g2=> ?_
 refine Lx fun g3=> ?_
 refine Z1 ?_
 have ⟨r4,h5,H6⟩:=bnd H
 refine Lk [3,3,3,1,1,0] [] (mD h5) fun ⟨⟩=> ?_
 refine Z0 ?_
 refine Lt 0 ?_
 refine Ln (E.off ?_)
 cases H6
 exact Eo () [0,0,0] [] .nil
theorem rH {s_:aB} {b:Int} {n_:Int} {r:aB} (H:il s_ b n_=some r):CT G 158 [.pointer (some ⟨N0,0,none⟩),.int .u8 b,.int .i64 n_] [Ch.box N0 124 (cD s_ N1),Ch.box N1 169 [.int .i64 s_.g.w,.slice A0 s_.g.l.length C0],Ch.arr aC 107 A0 C0 s_.g.l] [] (fun _:Unit=> .tuple #[]) (fun h=>[Ch.box N0 124 (cD r N1),Ch.box N1 169 [.int .i64 r.g.w,.slice A0 r.g.l.length C0],Ch.arr aC 107 A0 C0 r.g.l]) (fun h=>[]):=by
 delta il at H
 refine Cf Go.Proofs.Tryz.func158 fun K=> ?_
 refine Y2 ?_
 have ⟨e6,H7,H8⟩:=bnd H
 refine Tj0 [(27,.bool e6)] [0,1,2] [] [0,1,2] ?_ ?_
 ·refine Td [] [0,0,0] mo ?_
  refine Dq 0 ?_
  refine Dq 1 ?_
  refine Dq 2 ?_
  refine Dq 3 ?_
  refine Db 4 0 ?_
  refine Dq 5 ?_
  refine Dq 6 ?_
  refine Dq 7 ?_
  refine Db 8 0 ?_
  refine Dq 9 ?_
  refine Dq 10 ?_
  refine D.cs 16 H7 rfl (fun hc a=> ?_) (fun hc a=> ?_)
  ·refine Ds 11 ?_
   refine Ds 12 ?_
   refine Ds 13 ?_
   refine Ds 14 ?_
   refine Ds 15 ?_
   refine Ds 16 ?_
   refine Ds 17 ?_
   refine Ds 18 ?_
   refine Ds 19 ?_
   refine Ds 20 ?_
   refine Dq 21 ?_
   refine Dn ?_
   cases a
   exact Eg0 [0,0,0] 0
  refine Dq 11 ?_
  refine Dq 12 ?_
  refine Dq 13 ?_
  refine Dq 14 ?_
  refine Db 15 0 ?_
  refine Dq 16 ?_
  refine Dq 17 ?_
  refine Dq 18 ?_
  refine Db 19 0 ?_
  refine Dq 20 ?_
  refine Dq 21 ?_
  refine Dn ?_
  cases a
  exact Eg0 [0,0,0] 0
 refine Tb H8 (fun c=> ?_) fun c=> ?_
 ·refine Z0 ?_
  cases c
  exact Eo () [0,0,0] [] .nil
 refine Z2 ?_
 have ⟨d,f,i⟩:=bnd c
 refine Tj0 [] [0] [Ch.arr aC 107 A0 C0 d.l,Ch.box N1 169 [.int .i64 d.w,.slice A0 d.l.length C0]] [0] ?_ ?_
 ·refine Tb f (fun e=> ?_) fun e=> ?_
  ·refine Td [16] [0,0,0] mo ?_
   refine Dq 0 ?_
   refine Dq 1 ?_
   refine Dq 2 ?_
   refine Db 3 0 ?_
   refine Dq 4 ?_
   refine Dq 5 ?_
   refine Dq 6 ?_
   refine Dq 7 ?_
   refine Db 8 0 ?_
   refine Dq 9 ?_
   refine Dq 10 ?_
   refine Dq 11 ?_
   refine Db 12 0 ?_
   refine Dq 13 ?_
   refine Dq 14 ?_
   have ⟨v,j,k⟩:=bnd e
   refine D.one rfl rfl rfl (Dp.br (Ac.call (dD j) rfl rfl rfl rfl) (Bw.bx 0 rfl (Bw.bx 1 rfl (Bw.ch 2 rfl (Bw.nil)))) rfl rfl rfl rfl ?_)
   intro _
   have ⟨x,m,n⟩:=bnd k
   refine Dkl [1,1] [] (nR m) fun ⟨y,z⟩=> ?_
   refine Dn ?_
   cases n
   exact Eg0 [2,1,1] 0
  refine Td [16] [0,0,0] mo ?_
  refine Dq 0 ?_
  refine Dq 1 ?_
  refine Dq 2 ?_
  refine Db 3 0 ?_
  refine Dq 4 ?_
  refine Dq 5 ?_
  refine Dq 6 ?_
  refine Dq 7 ?_
  refine Db 8 0 ?_
  refine Dq 9 ?_
  refine Dq 10 ?_
  refine Dq 11 ?_
  refine Db 12 0 ?_
  refine Dq 13 ?_
  refine Dq 14 ?_
  have ⟨A,o,p⟩:=bnd e
  refine D.one rfl rfl rfl (Dp.br (Ac.call (dD o) rfl rfl rfl rfl) (Bw.bx 0 rfl (Bw.bx 1 rfl (Bw.ch 2 rfl (Bw.nil)))) rfl rfl rfl rfl ?_)
  intro _
  have ⟨B,q,s⟩:=bnd p
  refine Dkl [1,1] [] (sD q) fun ⟨C,F⟩=> ?_
  refine Dn ?_
  cases s
  exact Eg0 [2,1,1] 0
 refine Z0 ?_
 have ⟨I,t,u⟩:=bnd i
 refine Lk [2,1,0] [] (bX t) fun ⟨⟩=> ?_
 refine Ln (E.off ?_)
 cases u
 exact Eo () [0,0,0] [] .nil
theorem Bm {l:List Int} {r:Int} (H:m6 l=some r):CT G 195 [.slice A0 l.length C0] [] [Im.sl (Ty.int .i64) A0 C0 l] (fun _:Unit=> .int .i64 r) (fun h=>[]) (fun h=>[]):=by
 delta m6 at H
 refine Cf Go.Proofs.Tryz.func195 fun K=> ?_
 refine Z2 ?_
 refine Zl ?_
 refine Y1 ?_
 have ⟨g,i,j⟩:=bnd H
 refine Tj0 [(3,.bool g)] [0] [] [] ?_ ?_
 ·refine Z0 ?_
  refine Lw 7 i (fun a=> ?_) fun a=> ?_
  ·refine Z0 ?_
   have ⟨t,b,k⟩:=bnd a
   refine L.addr 0 rfl (cL b) fun u v m=> ?_
   subst m
   refine Ly (Yl.ia b rfl rfl rfl rfl rfl rfl) ?_
   refine L.el 0 rfl (aU b).2 ?_
   rintro _
   refine Lc 0 0 ?_
   refine Z0 ?_
   cases k
   exact Eg0 [] 1
  refine Z0 ?_
  cases a
  exact Eg0 [] 0
 refine Tb j (fun c=> ?_) fun c=> ?_
 ·refine Z1 ?_
  cases c
  exact Eo1 () [] []
 refine Y1 ?_
 have ⟨n,o,p⟩:=bnd c
 refine Tj0 [(16,.bool n)] [0] [] [] ?_ ?_
 ·refine Z0 ?_
  refine Lw 20 o (fun d=> ?_) fun d=> ?_
  ·refine Z0 ?_
   have ⟨w,e,q⟩:=bnd d
   refine L.addr 0 rfl (cL e) fun x y s=> ?_
   subst s
   refine Ly (Yl.ia e rfl rfl rfl rfl rfl rfl) ?_
   refine L.el 0 rfl (aU e).2 ?_
   rintro _
   refine Lc 0 0 ?_
   refine Z0 ?_
   cases q
   exact Eg0 [] 1
  refine Z0 ?_
  cases d
  exact Eg0 [] 0
 refine Tb p (fun f=> ?_) fun f=> ?_
 ·refine Z1 ?_
  cases f
  exact Eo1 () [] []
 refine Z1 ?_
 cases f
 exact Eo1 () [] []
theorem vo {s_:bC} {n_:Int} {r:bC} (H:kd s_ n_=some r):CT G 196 [.agg (tT s_).toArray,.int .i64 n_] [] [] (fun _:Unit=> .agg (tT r).toArray) (fun h=>[]) (fun h=>[]):=by
 delta kd at H
 refine Cf Go.Proofs.Tryz.func196 fun K=> ?_
 refine Z1 ?_
 refine Lx fun g1=> ?_
 refine Ll fun g2=> ?_
 refine Y1 ?_
 have ⟨o,s,p⟩:=bnd H
 refine Tj (η:=bC×Unit) (fun h=>o = .inl h.1) (fun _=>[]) [2,4] (fun h=>(fun q=>[Ch.box g1 120 (tT q)]) h.1) [0] (fun _=>[]) ?_ ?_
 ·refine Zl ?_
  refine Z1 ?_
  refine Tb s (fun a=> ?_) fun a=> ?_
  ·refine Z1 ?_
   refine Lt 0 ?_
   refine Z0 ?_
   obtain ⟨P,hz,t⟩:=dX a
   subst o
   obtain rfl:=(sm p).symm
   refine Z0 ?_
   cases t
   exact Eo () [] [] (.cell 0 rfl rfl rfl .nil)
  refine Y1 ?_
  have ⟨u,v,w⟩:=bnd a
  refine Tj0 [(9,.bool u)] [1,2,4] [] [0,1] ?_ ?_
  ·refine Z0 ?_
   refine Lw 12 v (fun b=> ?_) fun b=> ?_
   ·refine Z0 ?_
    cases b
    exact Eg0 [0,0] 0
   refine Z0 ?_
   cases b
   exact Eg0 [0,0] 0
  refine Tb w (fun c=> ?_) fun c=> ?_
  ·refine Z0 ?_
   refine Lt 1 ?_
   refine Z0 ?_
   cases c
   exact Eg (_,()) rfl [0,0] [] 0
  refine Y1 ?_
  have ⟨x,y,z⟩:=bnd c
  refine Tj0 [(19,.bool x)] [1,2,4] [] [0,1] ?_ ?_
  ·refine Z0 ?_
   refine Lw 22 y (fun d=> ?_) fun d=> ?_
   ·refine Z0 ?_
    cases d
    exact Eg0 [0,0] 0
   refine Z0 ?_
   cases d
   exact Eg0 [0,0] 0
  refine Tb z (fun e=> ?_) fun e=> ?_
  ·refine Z0 ?_
   refine Lt 1 ?_
   refine Z0 ?_
   cases e
   exact Eg (_,()) rfl [0,0] [] 0
  refine Y1 ?_
  have ⟨A,B,C⟩:=bnd e
  refine Tj0 [(29,.bool A)] [1,2,4] [] [0,1] ?_ ?_
  ·refine Z0 ?_
   refine Lw 32 B (fun f=> ?_) fun f=> ?_
   ·refine Z0 ?_
    cases f
    exact Eg0 [0,0] 0
   refine Z0 ?_
   cases f
   exact Eg0 [0,0] 0
  refine Tb C (fun g=> ?_) fun g=> ?_
  ·refine Z0 ?_
   refine Lt 1 ?_
   refine Z0 ?_
   cases g
   exact Eg (_,()) rfl [0,0] [] 0
  refine Y1 ?_
  have ⟨F,I,J⟩:=bnd g
  refine Tj0 [(39,.bool F)] [1,2,4] [] [0,1] ?_ ?_
  ·refine Z0 ?_
   refine Lw 42 I (fun i=> ?_) fun i=> ?_
   ·refine Z0 ?_
    cases i
    exact Eg0 [0,0] 0
   refine Z0 ?_
   cases i
   exact Eg0 [0,0] 0
  refine Tb J (fun j=> ?_) fun j=> ?_
  ·refine Z0 ?_
   refine Lt 1 ?_
   refine Z0 ?_
   cases j
   exact Eg (_,()) rfl [0,0] [] 0
  refine Z1 ?_
  refine Tb j (fun k=> ?_) fun k=> ?_
  ·refine Z0 ?_
   refine Lt 1 ?_
   refine Z0 ?_
   cases k
   exact Eg (_,()) rfl [0,0] [] 0
  refine Y1 ?_
  have ⟨M,N,O⟩:=bnd k
  refine Tj0 [(54,.bool M)] [1,2,4] [] [0,1] ?_ ?_
  ·refine Z0 ?_
   refine Lw 57 N (fun l=> ?_) fun l=> ?_
   ·refine Z0 ?_
    cases l
    exact Eg0 [0,0] 0
   refine Z0 ?_
   cases l
   exact Eg0 [0,0] 0
  refine Tb O (fun m=> ?_) fun m=> ?_
  ·refine Z0 ?_
   refine Lt 1 ?_
   refine Z0 ?_
   cases m
   exact Eg (_,()) rfl [0,0] [] 0
  refine Z1 ?_
  refine Tb m (fun n=> ?_) fun n=> ?_
  ·refine Z0 ?_
   refine Lt 1 ?_
   refine Z0 ?_
   cases n
   exact Eg (_,()) rfl [0,0] [] 0
  refine Z0 ?_
  cases n
  exact Eg (_,()) rfl [1,0] [] 0
 rintro ⟨q,⟨⟩⟩ hy
 subst hy
 refine Z1 ?_
 refine Lt 1 ?_
 refine Z0 ?_
 cases p
 exact Eo () [] [] (.cell 0 rfl rfl rfl .nil)
theorem vp {s_:bC} {bH:List Int} {r:bC} (H:kf s_ bH=some r):CT G 161 [.agg (tT s_).toArray,.slice A0 bH.length C0] [] [Im.sl (Ty.int .i64) A0 C0 bH] (fun _:Unit=> .agg (tT r).toArray) (fun h=>[]) (fun h=>[]):=by
 delta kf at H
 refine Cf Go.Proofs.Tryz.func161 fun K=> ?_
 refine Z1 ?_
 refine Lx fun g1=> ?_
 refine Ll fun g2=> ?_
 refine Z2 ?_
 refine Tb H (fun H4=> ?_) fun H4=> ?_
 ·refine Z1 ?_
  refine Lt 0 ?_
  refine Z0 ?_
  cases H4
  exact Eo () [] [] (.cell 0 rfl rfl rfl .nil)
 refine Z2 ?_
 have ⟨f,j,k⟩:=bnd H4
 refine Tj0 [] [2,4] [Ch.box g1 120 (tT f)] [0] ?_ ?_
 ·refine Yl0 ?_
  refine Tq (η:=Unit) (fun a h=>[(5,.int .i64 a.2)]) [1,2,4] (fun a h=>[Ch.box g1 120 (tT a.1)]) [0] (fun _ _=>[]) () [1,0] [] j ?_
  rintro k_ a ⟨⟩ F l m n
  refine Z2 ?_
  refine Tb l (fun b=> ?_) fun b=> ?_
  ·refine Y1 ?_
   have ⟨g,o,p⟩:=bnd b
   refine Tj0 [(5,.int .i64 g.1)] [1,2,4] [Ch.box g1 120 (tT g.2)] [1] ?_ ?_
   ·refine Zl ?_
    refine Z2 ?_
    have ⟨I,c,q⟩:=bnd o
    refine L.addr 0 rfl (cL c) fun J M s=> ?_
    subst s
    refine Ly (Yl.ia c rfl rfl rfl rfl rfl rfl) ?_
    refine L.el 0 rfl (aU c).2 ?_
    rintro _
    refine Lc 0 0 ?_
    refine Y1 ?_
    have ⟨t,u,v⟩:=bnd q
    refine Tj0 [(26,.bool t)] [1,2,4,5] [] [0,1] ?_ ?_
    ·refine Z0 ?_
     refine Lw 23 u (fun d=> ?_) fun d=> ?_
     ·refine Z0 ?_
      cases d
      exact Eg0 [0,0] 0
     refine Z0 ?_
     cases d
     exact Eg0 [0,0] 0
    refine Tb v (fun e=> ?_) fun e=> ?_
    ·refine Z1 ?_
     have ⟨_,w,x⟩:=bnd e
     refine L.rs 1 w rfl rfl rfl rfl rfl rfl rfl rfl rfl rfl rfl rfl ?_
     intro N O
     have ⟨P,y,z⟩:=bnd x
     refine Lk [] [0] (Bm y) fun ⟨⟩=> ?_
     refine Z0 ?_
     cases z
     exact Eg0 [0,0] 2
    refine Z0 ?_
    refine Td [6] [0,0] mo ?_
    refine Db 0 0 ?_
    refine Dq 1 ?_
    refine Dq 2 ?_
    have ⟨Q,i,A⟩:=bnd e
    refine Dy 3 (Yl.ia i rfl rfl rfl rfl rfl rfl) ?_
    refine D.el 1 rfl (aU i).2 ?_
    rintro _
    refine Dy 4 (Yl.ldc 0 0 rfl rfl rfl rfl) ?_
    have ⟨R,B,C⟩:=bnd A
    refine Dk [] [] (vo B) fun ⟨⟩=> ?_
    refine Dt 0 ?_
    refine Dn ?_
    refine Z0 ?_
    cases C
    exact Eg0 [0,0] 2
   refine Z0 ?_
   cases p
   exact Eg (_,()) (m _ rfl) [0,0] [] 0
  refine Z0 ?_
  cases b
  have hb:=n _ rfl
  subst f
  exact Eg0 [0,0] 0
 refine Z1 ?_
 refine Lt 1 ?_
 refine Z0 ?_
 cases k
 exact Eo () [] [] (.cell 0 rfl rfl rfl .nil)
theorem re {s_:aB} {a:aZ} {r:aB} (H:gT s_ a=some r):CT G 162 [.pointer (some ⟨N0,0,none⟩),.agg (yV a A1 C1).toArray] [Ch.box N0 124 (cD s_ N1),Ch.box N1 169 [.int .i64 s_.g.w,.slice A0 s_.g.l.length C0],Ch.arr aC 107 A0 C0 s_.g.l] [Im.sl (Ty.int .i64) A1 C1 a.bH] (fun _:Unit=> .tuple #[]) (fun h=>[Ch.box N0 124 (cD r N1),Ch.box N1 169 [.int .i64 r.g.w,.slice A0 r.g.l.length C0],Ch.arr aC 107 A0 C0 r.g.l]) (fun h=>[]):=by
 delta gT at H
 refine Cf Go.Proofs.Tryz.func162 fun K=> ?_
 refine Z1 ?_
 refine Lx fun g1=> ?_
 refine Z1 ?_
 have ⟨r2,h3,H4⟩:=bnd H
 refine Lk [2,2] [] (gJ h3) fun ⟨⟩=> ?_
 refine Y1 ?_
 refine Td [9] [0,0,0,0] mo ?_
 refine Db 0 2 ?_
 refine Dq 2 ?_
 refine Db 5 2 ?_
 refine Dq 6 ?_
 refine Dq 8 ?_
 have ⟨p,c,d⟩:=bnd H4
 refine Dk [] [0] (l4 c) fun ⟨⟩=> ?_
 have ⟨q,e,f⟩:=bnd d
 refine Dk [] [] (lJ e) fun ⟨⟩=> ?_
 refine Dq 4 ?_
 have ⟨s,i,j⟩:=bnd f
 refine Dk [] [0] (l4 i) fun ⟨⟩=> ?_
 have ⟨t,k,m⟩:=bnd j
 refine Dkl [] [] (lJ k) fun ⟨⟩=> ?_
 refine Dq 10 ?_
 refine Dq 11 ?_
 refine Dq 12 ?_
 refine Dn ?_
 refine Z1 ?_
 refine Tb m (fun b=> ?_) fun b=> ?_
 ·refine Z1 ?_
  refine Lt 3 ?_
  refine Z0 ?_
  refine Lt 0 ?_
  refine Z0 ?_
  have ⟨u,n,o⟩:=bnd b
  refine Lk [0,0,0] [] (bX n) fun ⟨⟩=> ?_
  refine Ln (E.off ?_)
  cases o
  exact Eo () [0,0,0] [] .nil
 refine Tk (E.off ?_)
 cases b
 exact Eo () [3,0,0] [] .nil
theorem rI {s_:aB} {a:aZ} {r:(List aE)×aB} (H:iq s_ a=some r):CT G 106 [.pointer (some ⟨N0,0,none⟩),.agg (yV a A1 C1).toArray] [Ch.box N0 124 (cD s_ N1),Ch.box N1 169 [.int .i64 s_.g.w,.slice A0 s_.g.l.length C0],Ch.arr aC 107 A0 C0 s_.g.l] [Im.sl (Ty.int .i64) A1 C1 a.bH] (fun h:(Option Addr×Nat)=> .slice h.1 r.1.length h.2) (fun h=>[Ch.arr aC 107 h.1 h.2 r.1,Ch.box N0 124 (cD r.2 N1),Ch.box N1 169 [.int .i64 r.2.g.w,.slice A0 r.2.g.l.length C0],Ch.arr aC 107 A0 C0 r.2.g.l]) (fun h=>[]):=by
 delta iq at H
 refine Cf Go.Proofs.Tryz.func106 fun K=> ?_
 refine Z1 ?_
 refine Lx fun g1=> ?_
 refine Z1 ?_
 have ⟨r2,h3,H4⟩:=bnd H
 refine Lk [] [0] (l4 h3) fun ⟨⟩=> ?_
 refine Z2 ?_
 have ⟨I,M,J⟩:=bnd H4
 refine Tj (η:=(aB×aW)×Unit) (fun h=>I = .inl h.1) (fun _=>[]) [0,3] (fun h=>(fun b=>[Ch.arr aC 107 A0 C0 b.2.l,Ch.box N0 124 (cD b.1 N1),Ch.box N1 169 [.int .i64 b.2.w,.slice A0 b.2.l.length C0]]) h.1) [0] (fun _=>[]) ?_ ?_
 ·refine Zl ?_
  refine Z2 ?_
  have ⟨N,O,P⟩:=bnd M
  refine Tj0 [(10,.bool N)] [0,3,5,9] [] [0,1,2,3] ?_ ?_
  ·refine Tb O (fun c=> ?_) fun c=> ?_
   ·refine Z0 ?_
    cases c
    exact Eg0 [0,0,0,0] 0
   refine Z0 ?_
   cases c
   exact Eg0 [0,0,0,0] 0
  refine Tb P (fun d=> ?_) fun d=> ?_
  ·refine Z0 ?_
   have ⟨bq,Q,R⟩:=bnd d
   refine Lk [1,1,1] [] (nG Q) fun ⟨⟩=> ?_
   refine Z0 ?_
   cases R
   exact Eg (_,()) rfl [2,0,0,0] [] 0
  refine Z2 ?_
  have ⟨S,U,V⟩:=bnd d
  refine Tj0 [(17,.bool S)] [0,3,5,9] [] [0,1,2,3] ?_ ?_
  ·refine Tb U (fun e=> ?_) fun e=> ?_
   ·refine Z0 ?_
    cases e
    exact Eg0 [0,0,0,0] 0
   refine Z0 ?_
   cases e
   exact Eg0 [0,0,0,0] 0
  refine Tb V (fun f=> ?_) fun f=> ?_
  ·refine Z0 ?_
   have ⟨bs,W,X⟩:=bnd f
   refine Lk [1,1,1] [] (nG W) fun ⟨⟩=> ?_
   refine Z0 ?_
   cases X
   exact Eg (_,()) rfl [2,0,0,0] [] 0
  refine Z1 ?_
  refine Tb f (fun i=> ?_) fun i=> ?_
  ·refine Td [13] [0,0,0,0] mo ?_
   refine Dq 0 ?_
   refine Dq 1 ?_
   refine Dq 2 ?_
   refine Dq 3 ?_
   refine Dq 4 ?_
   refine Db 5 1 ?_
   refine Dq 6 ?_
   refine Dq 7 ?_
   refine Dq 8 ?_
   refine Dq 9 ?_
   refine Dq 10 ?_
   refine Dq 11 ?_
   refine Db 12 1 ?_
   have ⟨bt,Y,Z⟩:=bnd i
   refine Dkl [1,1,1] [] (bX Y) fun ⟨⟩=> ?_
   refine Dn ?_
   refine Z0 ?_
   cases Z
   exact Eg (_,()) rfl [2,0,0,0] [] 0
  refine Z1 ?_
  refine Tb i (fun j=> ?_) fun j=> ?_
  ·refine Td [13] [0,0,0,0] mo ?_
   refine Dq 0 ?_
   refine Dq 1 ?_
   refine Dq 2 ?_
   refine Dq 3 ?_
   refine Dq 4 ?_
   refine Db 5 1 ?_
   refine Dq 6 ?_
   refine Dq 7 ?_
   refine Dq 8 ?_
   refine Dq 9 ?_
   refine Dq 10 ?_
   refine Dq 11 ?_
   refine Db 12 1 ?_
   have ⟨bu,aa,ab⟩:=bnd j
   refine Dkl [1,1,1] [] (bX aa) fun ⟨⟩=> ?_
   refine Dn ?_
   refine Z0 ?_
   cases ab
   exact Eg (_,()) rfl [2,0,0,0] [] 0
  refine Z1 ?_
  refine Tb j (fun k=> ?_) fun k=> ?_
  ·refine Z0 ?_
   have ⟨bv,ac,ad⟩:=bnd k
   refine Lk [1,1,1] [] (bX ac) fun ⟨⟩=> ?_
   refine Z0 ?_
   cases ad
   exact Eg (_,()) rfl [2,0,0,0] [] 0
  refine Z1 ?_
  refine Tb k (fun m=> ?_) fun m=> ?_
  ·refine Z0 ?_
   have ⟨bw,ae,af⟩:=bnd m
   refine Lk [1,1,1] [] (bX ae) fun ⟨⟩=> ?_
   refine Z0 ?_
   cases af
   exact Eg (_,()) rfl [2,0,0,0] [] 0
  refine Z2 ?_
  have ⟨ag,ah,ai⟩:=bnd m
  refine Tj0 [(77,.bool ag)] [0,3,5,9] [] [0,1,2,3] ?_ ?_
  ·refine Tb ah (fun n=> ?_) fun n=> ?_
   ·refine Z0 ?_
    cases n
    exact Eg0 [0,0,0,0] 0
   refine Z0 ?_
   cases n
   exact Eg0 [0,0,0,0] 0
  refine Tb ai (fun o=> ?_) fun o=> ?_
  ·refine Z0 ?_
   have ⟨bz,aj,ak⟩:=bnd o
   refine Lk [] [0] (l4 aj) fun ⟨⟩=> ?_
   refine Z0 ?_
   have ⟨b0,al,am⟩:=bnd ak
   refine Lk [1,1,1] [] (bX al) fun ⟨⟩=> ?_
   refine Z0 ?_
   cases am
   exact Eg (_,()) rfl [2,0,0,0] [] 0
  refine Z1 ?_
  refine Tb o (fun p=> ?_) fun p=> ?_
  ·refine Z0 ?_
   have ⟨b1,an,ao⟩:=bnd p
   refine Lk [] [0] (l4 an) fun ⟨⟩=> ?_
   have ⟨b2,ap,aq⟩:=bnd ao
   refine Lk [1,1,1] [] (sF ap) fun ⟨⟩=> ?_
   refine Z0 ?_
   cases aq
   exact Eg (_,()) rfl [2,0,0,0] [] 0
  refine Z1 ?_
  refine Tb p (fun q=> ?_) fun q=> ?_
  ·refine Z0 ?_
   have ⟨b3,ar,au⟩:=bnd q
   refine Lk [] [0] (l4 ar) fun ⟨⟩=> ?_
   have ⟨b4,av,aw⟩:=bnd au
   refine Lk [1,1,1] [] (od av) fun ⟨⟩=> ?_
   refine Z0 ?_
   cases aw
   exact Eg (_,()) rfl [2,0,0,0] [] 0
  refine Z2 ?_
  have ⟨ax,ay,az⟩:=bnd q
  refine Tj0 [(99,.bool ax)] [0,3,5,9] [] [0,1,2,3] ?_ ?_
  ·refine Tb ay (fun s=> ?_) fun s=> ?_
   ·refine Z0 ?_
    cases s
    exact Eg0 [0,0,0,0] 0
   refine Z1 ?_
   refine Tb s (fun t=> ?_) fun t=> ?_
   ·refine Z0 ?_
    cases t
    exact Eg0 [0,0,0,0] 0
   refine Z0 ?_
   cases t
   exact Eg0 [0,0,0,0] 0
  refine Tb az (fun u=> ?_) fun u=> ?_
  ·refine Z0 ?_
   have ⟨b5,a0,a1⟩:=bnd u
   refine Lk [1,1,1] [] (rG a0) fun ⟨⟩=> ?_
   refine Z0 ?_
   cases a1
   exact Eg (_,()) rfl [2,0,0,0] [] 0
  refine Z2 ?_
  have ⟨a2,a3,a4⟩:=bnd u
  refine Tj0 [(108,.bool a2)] [0,3,5,9] [] [0,1,2,3] ?_ ?_
  ·refine Tb a3 (fun v=> ?_) fun v=> ?_
   ·refine Z0 ?_
    cases v
    exact Eg0 [0,0,0,0] 0
   refine Z0 ?_
   cases v
   exact Eg0 [0,0,0,0] 0
  refine Tb a4 (fun x=> ?_) fun x=> ?_
  ·refine Z0 ?_
   have ⟨b6,a5,a6⟩:=bnd x
   refine Lk [1,1,1] [] (rH a5) fun ⟨⟩=> ?_
   refine Z0 ?_
   cases a6
   exact Eg (_,()) rfl [2,0,0,0] [] 0
  refine Z1 ?_
  refine Tb x (fun y=> ?_) fun y=> ?_
  ·refine Z1 ?_
   refine Lt 1 ?_
   refine Z1 ?_
   have ⟨b7,a7,a8⟩:=bnd y
   refine Lk [0,1,1] [] (o8 a7) fun ⟨a9,ba⟩=> ?_
   refine Z0 ?_
   obtain ⟨b8,hz,bb⟩:=dX a8
   subst I
   obtain rfl:=(sm J).symm
   refine Z0 ?_
   cases bb
   exact Eo1 (a9,ba) [0,0,0,0] []
  refine Z1 ?_
  refine Tb y (fun z=> ?_) fun z=> ?_
  ·refine Z1 ?_
   refine Lt 1 ?_
   refine Z0 ?_
   refine Td [15] [0,0,0,0] mo ?_
   refine Dq 0 ?_
   refine Dq 1 ?_
   refine Dq 2 ?_
   refine Db 3 0 ?_
   refine Dq 4 ?_
   refine Dq 5 ?_
   refine Dq 6 ?_
   refine Db 7 0 ?_
   refine Dq 8 ?_
   refine Dq 9 ?_
   refine Dq 10 ?_
   refine Db 11 0 ?_
   refine Dq 12 ?_
   refine Dq 13 ?_
   have ⟨b9,bc,bd⟩:=bnd z
   refine D.one rfl rfl rfl (Dp.br (Ac.call (dD bc) rfl rfl rfl rfl) (Bw.bx 0 rfl (Bw.bx 2 rfl (Bw.ch 3 rfl (Bw.nil)))) rfl rfl rfl rfl ?_)
   intro _
   have ⟨ca,be,bf⟩:=bnd bd
   refine Dkl [2,2] [] (nR be) fun ⟨cb,cc⟩=> ?_
   refine Dn ?_
   refine Z0 ?_
   cases bf
   exact Eg (_,()) rfl [2,2,1,1] [] 0
  refine Z1 ?_
  refine Tb z (fun A=> ?_) fun A=> ?_
  ·refine Td [8,12] [0,0,0,0] mo ?_
   refine Dq 0 ?_
   refine Dq 1 ?_
   refine Dq 2 ?_
   refine Dq 3 ?_
   refine Dq 4 ?_
   refine Db 5 1 ?_
   refine Dq 6 ?_
   refine Db 7 0 ?_
   have ⟨cd,bg,bh⟩:=bnd A
   refine Dkl [] [0] (vp bg) fun ⟨⟩=> ?_
   refine Dq 9 ?_
   refine Dq 10 ?_
   refine Dq 11 ?_
   refine Dt 1 ?_
   refine Dn ?_
   refine Z0 ?_
   cases bh
   exact Eg (_,()) rfl [3,0,1,0] [] 0
  refine Z1 ?_
  refine Tb A (fun B=> ?_) fun B=> ?_
  ·refine Z0 ?_
   have ⟨ce,bi,bj⟩:=bnd B
   refine Lk [1,1,1] [0] (re bi) fun ⟨⟩=> ?_
   refine Z0 ?_
   cases bj
   exact Eg (_,()) rfl [2,0,0,0] [] 0
  refine Z0 ?_
  cases B
  exact Eg (_,()) rfl [3,1,1,0] [] 0
 rintro ⟨b,⟨⟩⟩ hy
 subst hy
 refine Y2 ?_
 have ⟨bk,bl,bm⟩:=bnd J
 refine Tj0 [(171,.bool bk)] [0] [] [1,2,3,0] ?_ ?_
 ·refine Z0 ?_
  refine Lw 167 bl (fun C=> ?_) fun C=> ?_
  ·refine Z0 ?_
   cases C
   exact Eg0 [1,1,1,0] 0
  refine Z0 ?_
  cases C
  exact Eg0 [1,1,1,0] 0
 have ⟨bn,bo,bp⟩:=bnd bm
 refine Tj0 [] [] [Ch.box N0 124 (cD bn N1)] [1,2,3] ?_ ?_
 ·refine Tb bo (fun F=> ?_) fun F=> ?_
  ·refine Z0 ?_
   refine Lt 0 ?_
   refine Z0 ?_
   cases F
   exact Eg0 [0,0,0,0] 0
  refine Z0 ?_
  cases F
  exact Eg0 [0,0,0,0] 0
 refine Z1 ?_
 refine E.iw aC 107 ?_
 cases bp
 exact Eo1 (none,0) [0,0,0,1] []
theorem uC {s_:aB} {a:aZ} {r:(List aE)×aB} (H:gB s_ a=some r):CT G 67 [.pointer (some ⟨N0,0,none⟩),.agg (yV a A1 C1).toArray] [Ch.box N0 124 (cD s_ N1),Ch.box N1 169 [.int .i64 s_.g.w,.slice A0 s_.g.l.length C0],Ch.arr aC 107 A0 C0 s_.g.l] [Im.sl (Ty.int .i64) A1 C1 a.bH,Im.sl cI (some ⟨0,0,none⟩) 13 cY,Im.sl cI (some ⟨1,0,none⟩) 14 dH] (fun h:(Option Addr×Nat)×Nat×(Option Addr×Nat)=> .slice h.1.1 r.1.length h.1.2) (fun h=>[Ch.arr aC 107 h.1.1 h.1.2 r.1,Ch.box N0 124 (cD r.2 h.2.1),Ch.box h.2.1 169 [.int .i64 r.2.g.w,.slice h.2.2.1 r.2.g.l.length h.2.2.2],Ch.arr aC 107 h.2.2.1 h.2.2.2 r.2.g.l]) (fun h=>[]):=by
 delta gB at H
 refine Cf Go.Proofs.Tryz.func67 fun K=> ?_
 refine Z1 ?_
 refine Lx fun g1=> ?_
 refine Z2 ?_
 have ⟨b,q,c⟩:=bnd H
 refine Tj (η:=aB×Unit) (fun h=>b = .inl h.1) (fun _=>[]) [] (fun h=>(fun p=>[Ch.box N0 124 (cD p N1)]) h.1) [0,2,3] (fun _=>[]) ?_ ?_
 ·refine Zl ?_
  refine Z1 ?_
  refine Tb q (fun d=> ?_) fun d=> ?_
  ·refine Z1 ?_
   have ⟨ac,s,t⟩:=bnd d
   refine Lk [1,1,1] [1,2] (rF s) fun ⟨u,v⟩=> ?_
   refine Z0 ?_
   obtain ⟨ad,hz,x⟩:=dX t
   subst b
   obtain rfl:=(sm c).symm
   refine Z0 ?_
   cases x
   exact Eo1 ((u,v),N1,(A0,C0)) [0,0,0,0] []
  refine Z1 ?_
  refine Tb d (fun e=> ?_) fun e=> ?_
  ·refine Z1 ?_
   have ⟨ae,y,z⟩:=bnd e
   refine Lk [1,1,1] [] (qs y) fun ⟨A,B⟩=> ?_
   refine Z0 ?_
   obtain ⟨af,hz,C⟩:=dX z
   subst b
   obtain rfl:=(sm c).symm
   refine Z0 ?_
   cases C
   exact Eo1 ((A,B),N1,(A0,C0)) [0,0,0,0] []
  refine Z1 ?_
  refine Tb e (fun f=> ?_) fun f=> ?_
  ·refine Z1 ?_
   have ⟨ag,F,I⟩:=bnd f
   refine Lk [1,1,1] [] (qY F) fun ⟨⟨J,M⟩,N,⟨O,P⟩⟩=> ?_
   refine Z0 ?_
   obtain ⟨ah,hz,Q⟩:=dX I
   subst b
   obtain rfl:=(sm c).symm
   refine Z0 ?_
   cases Q
   exact Eo1 ((J,M),N,(O,P)) [0,0,0,0] []
  refine Z1 ?_
  refine Tb f (fun i=> ?_) fun i=> ?_
  ·refine Z0 ?_
   refine Lt 1 ?_
   refine Z0 ?_
   cases i
   exact Eg (_,()) rfl [0,0,0,0] [] 0
  refine Z1 ?_
  refine Tb i (fun j=> ?_) fun j=> ?_
  ·refine Z2 ?_
   refine Tb j (fun k=> ?_) fun k=> ?_
   ·refine Z1 ?_
    have ⟨ai,R,S⟩:=bnd k
    refine Lk [1,1,1] [0] (rI R) fun ⟨U,V⟩=> ?_
    refine Z0 ?_
    obtain ⟨aj,hz,W⟩:=dX S
    subst b
    obtain rfl:=(sm c).symm
    refine Z0 ?_
    cases W
    exact Eo1 ((U,V),N1,(A0,C0)) [0,0,0,0] []
   refine Y1 ?_
   have ⟨X,Y,Z⟩:=bnd k
   refine Tj0 [(52,.bool X)] [0,3] [] [0,1,2,3] ?_ ?_
   ·refine Z0 ?_
    have ⟨ak,aa,ab⟩:=bnd Y
    refine Lk [] [0] (l4 aa) fun ⟨⟩=> ?_
    refine Z0 ?_
    refine Lw 43 ab (fun m=> ?_) fun m=> ?_
    ·refine Z0 ?_
     refine Lw 47 m (fun n=> ?_) fun n=> ?_
     ·refine Z0 ?_
      cases n
      exact Eg0 [0,0,0,0] 0
     refine Z0 ?_
     cases n
     exact Eg0 [0,0,0,0] 0
    refine Z0 ?_
    cases m
    exact Eg0 [0,0,0,0] 0
   refine Tb Z (fun o=> ?_) fun o=> ?_
   ·refine Z0 ?_
    refine Lt 1 ?_
    refine Z0 ?_
    cases o
    exact Eg (_,()) rfl [0,0,0,0] [] 0
   refine Z0 ?_
   cases o
   exact Eg (_,()) rfl [1,0,0,0] [] 0
  refine Z0 ?_
  cases j
  exact Eg (_,()) rfl [1,0,0,0] [] 0
 rintro ⟨p,⟨⟩⟩ hy
 subst hy
 refine Z1 ?_
 refine E.iw aC 107 ?_
 cases c
 exact Eo1 ((none,0),N1,(A0,C0)) [0,0,1,1] []
theorem tD {σ η:Type} {Y:σ→(List aE)→Option (σ×Bool)} {y0:σ} {x1:bA} {x2:ByteArray} (g_1:Nat) (g_1_0:Nat) (g_1_1:Nat) (a_1_2:Option Addr) (c_1_2:Nat) (a_1_3:Option Addr) (c_1_3:Nat) (a_1_4:Option Addr) (c_1_4:Nat) (g_1_5:Nat) (a_1_6:Option Addr) (c_1_6:Nat) (a_1_7:Option Addr) (c_1_7:Nat) (g_1_8:Nat) (g_1_9:Nat) (a_1_10:Option Addr) (c_1_10:Nat) (g_2:Nat) {yl:Nat} {C:σ→η→Ch} (hY: ∀ s (h:η) (x:(List aE)) (t:(Option Addr×Nat)) z,Y s x=some z→YT G yl [.slice t.1 x.length t.2] [C s h,Ch.box g_1_0 56 (pJ x1 g_1_1 g_1_5 g_1_8)] [Im.sl aC t.1 t.2 x] (fun _:η=> .bool z.2) (fun h2=>[C z.1 h2,Ch.box g_1_0 56 (pJ x1 g_1_1 g_1_5 g_1_8)]) (fun _=>[])) (h0:η) {r:σ×bA} (H:jk Y y0 x1 x2=some r):CT G 65 [.func (.yield yl) #[] #[],.pointer (some ⟨g_1,0,none⟩),.pointer (some ⟨g_2,0,none⟩)] [C y0 h0,Ch.box g_1 24 [.pointer (some ⟨g_1_0,0,none⟩)],Ch.box g_1_0 56 (pJ x1 g_1_1 g_1_5 g_1_8),Ch.box g_1_5 76 (kV x1.parser a_1_6 c_1_6),Ch.opt (x1.parser.state == (3:Int)) (Ty.int .i64) 3 a_1_6 c_1_6 x1.parser.order.bH,Ch.box g_1_8 124 (cD x1.aR g_1_9),Ch.box g_1_9 169 [.int .i64 x1.aR.g.w,.slice a_1_10 x1.aR.g.l.length c_1_10],Ch.arr aC 107 a_1_10 c_1_10 x1.aR.g.l,Ch.box g_2 9 [.string x2]] [Im.sl cI (some ⟨0,0,none⟩) 13 cY,Im.sl cI (some ⟨1,0,none⟩) 14 dH,Im.sl eK (some ⟨3,0,none⟩) 8 bV] (fun h:η×(Option Addr×Nat)×(Option Addr×Nat)×Nat×(Option Addr×Nat)=> .tuple #[]) (fun h=>[C r.1 h.1,Ch.box g_1 24 [.pointer (some ⟨g_1_0,0,none⟩)],Ch.box g_1_0 56 (pJ r.2 g_1_1 g_1_5 g_1_8),Ch.box g_1_5 76 (kV r.2.parser h.2.1.1 h.2.1.2),Ch.opt (r.2.parser.state == (3:Int)) (Ty.int .i64) 3 h.2.1.1 h.2.1.2 r.2.parser.order.bH,Ch.box g_1_8 124 (cD r.2.aR h.2.2.2.1),Ch.box h.2.2.2.1 169 [.int .i64 r.2.aR.g.w,.slice h.2.2.2.2.1 r.2.aR.g.l.length h.2.2.2.2.2],Ch.arr aC 107 h.2.2.2.2.1 h.2.2.2.2.2 r.2.aR.g.l,Ch.box g_2 9 [.string x2]]) (fun h=>[]):=by
  delta jk at H
  refine Cf Go.Proofs.Tryz.func65 fun K=> ?_
  refine Y1 ?_
  refine Td [] [0,0,0,2,2,2,2] mo ?_
  refine Db 0 1 ?_
  refine Dq 1 ?_
  refine Dq 2 ?_
  refine Db 3 2 ?_
  refine Db 4 6 ?_
  refine Dq 7 ?_
  have ⟨p,Q,R⟩:=bnd H
  refine Dk [0,0] [2] (vl Q) fun ⟨⟨ai,aj⟩,⟨m,n⟩,⟨ak,al⟩⟩=> ?_
  refine Dq 6 ?_
  refine Dn ?_
  refine Z0 ?_
  have ⟨q,S,B⟩:=bnd R
  refine T.tJ (η:=(aB×σ)×(Nat×(Option Addr×Nat)×η)) (fun h=>q = .inl h.1) (fun h=>(fun b=>(fun c d e f=>[]) h.2.1 h.2.2.1.1 h.2.2.1.2 h.2.2.2) h.1) (fun h=>(fun b=>(fun c d e f=>[Ch.arr aC 107 d e b.1.g.l,C b.2 f,Ch.box g_1_8 124 (cD b.1 c),Ch.box c 169 [.int .i64 b.1.g.w,.slice d b.1.g.l.length e],Ch.box g_1 24 [.pointer (some ⟨g_1_0,0,none⟩)],Ch.box g_1_0 56 (pJ x1 g_1_1 g_1_5 g_1_8),Ch.box g_2 9 [.string x2],Ch.box g_1_5 76 (kV p.2 m n),Ch.opt (p.2.state == (3:Int)) (Ty.int .i64) 3 m n p.2.order.bH]) h.2.1 h.2.2.1.1 h.2.2.1.2 h.2.2.2) h.1) (fun h=>(fun b=>(fun c d e f=>[Im.sl cI (some ⟨0,0,none⟩) 13 cY,Im.sl cI (some ⟨1,0,none⟩) 14 dH,Im.sl eK (some ⟨3,0,none⟩) 8 bV]) h.2.1 h.2.2.1.1 h.2.2.1.2 h.2.2.2) h.1) ?_ ?_
  ·refine Yl0 ?_
   refine Tq (η:=Nat×(Option Addr×Nat)×η) (fun a h=>(fun i j k o=>[(14,.int .i64 a.2.1)]) h.1 h.2.1.1 h.2.1.2 h.2.2) [0,1,12,13] (fun a h=>(fun i j k o=>[Ch.arr aC 107 j k a.1.g.l,C a.2.2 o,Ch.box g_1_8 124 (cD a.1 i),Ch.box i 169 [.int .i64 a.1.g.w,.slice j a.1.g.l.length k]]) h.1 h.2.1.1 h.2.1.2 h.2.2) [1,2,6,8,7,9] (fun _ _=>[]) (g_1_9,(a_1_10,c_1_10),h0) [5,0,2,2,0,0,0,1,0,0] [] S ?_
   rintro k_ a ⟨i,⟨j,k⟩,o⟩ U V W F
   refine Y2 ?_
   refine Tb V (fun u=> ?_) fun u=> ?_
   ·refine Z1 ?_
    refine Zl ?_
    refine Z1 ?_
    have ⟨X,y,Z⟩:=bnd u
    refine L.lQ 8 rfl (cL y) fun am aa=> ?_
    subst aa
    refine Ly (Yl.ia y rfl rfl rfl rfl rfl rfl) ?_
    refine La [8] [] (Ac.lo a.2.1.toNat 0 (v:=(fun h:(Option Addr×Nat)=>(fun I J=> .agg (yV X I J).toArray) h.1 h.2)) (aU y).2 rfl rfl rfl (fun _=>rfl)) ?_
    rintro ⟨I,J⟩
    refine Ll fun an=> ?_
    refine Lt 0 ?_
    refine Y1 ?_
    refine Td [] [0,0,1,3,3,3,3,3] mo ?_
    refine Db 0 3 ?_
    refine Dq 1 ?_
    refine Dq 2 ?_
    refine Db 3 4 ?_
    refine Db 4 0 ?_
    have ⟨ao,ab,ac⟩:=bnd Z
    refine Dk [1,1,0] [0,1,2] (uC ab) fun ⟨⟨ad,ae⟩,M,⟨N,O⟩⟩=> ?_
    refine Dq 6 ?_
    refine Dn ?_
    refine Z1 ?_
    refine L.frz 8 rfl ?_
    have ⟨ap,af,ag⟩:=bnd ac
    refine L.yd [2,3] [0] (hY _ _ _ (ad,ae) _ af) rfl rfl rfl rfl rfl rfl rfl rfl ?_
    intro P
    refine Z0 ?_
    refine Tb ag (fun A=> ?_) fun A=> ?_
    ·refine Z0 ?_
     obtain ⟨aq,hz,ah⟩:=fG A
     subst U
     have hb:=F _ rfl
     subst q
     obtain rfl:=(sm B).symm
     refine Z0 ?_
     cases ah
     exact Eo (P,(m,n),(none,0),M,(N,O)) [0,3,0,3,3,3,3,3,2] [] .nil
    refine Z0 ?_
    cases A
    exact Eg (_,(M,(N,O),P)) (W _ rfl) [10,0,7,7,3,0,2,2,1,1] [] 2
   refine Z0 ?_
   cases u
   have hb:=F _ rfl
   subst q
   exact Egx (_,(i,(j,k),o)) rfl [0,0,0,0,0,0,0,0,1] [0,1,2]
  rintro ⟨b,⟨c,⟨d,e⟩,f⟩⟩ hy
  subst hy
  refine E.off ?_
  cases B
  exact Eo (f,(m,n),(none,0),c,(d,e)) [1,3,3,4,4,1,1,0,0] [] .nil
theorem wF {m_:bA} {e:ky} {r:Int×bA} (H:dZ m_ e=some r):CT G 10 [.pointer (some ⟨N0,0,none⟩),.agg (L1 e).toArray] [Ch.box N0 56 (pJ m_ N1 N2 N3),Ch.box N1 115 [.slice A0 m_.book.l.length C0,.slice A1 m_.book.bP.length C1,.slice A2 m_.book.begun.length C2],Ch.arr (Ty.slice aD) 40 A0 C0 m_.book.l,Ch.arr (Ty.int .i64) 3 A1 C1 m_.book.bP,Ch.arr aD 112 A2 C2 m_.book.begun,Ch.box N2 76 (kV m_.parser A3 C3),Ch.opt (m_.parser.state == (3:Int)) (Ty.int .i64) 3 A3 C3 m_.parser.order.bH,Ch.box N3 124 (cD m_.aR N4),Ch.box N4 169 [.int .i64 m_.aR.g.w,.slice A5 m_.aR.g.l.length C5],Ch.arr aC 107 A5 C5 m_.aR.g.l] [Im.sl cI (some ⟨0,0,none⟩) 13 cY,Im.sl cI (some ⟨1,0,none⟩) 14 dH,Im.sl (Ty.int .u32) (some ⟨2,0,none⟩) 16 cV,Im.sl eK (some ⟨3,0,none⟩) 8 bV] (fun h:(Option Addr×Nat)×(Option Addr×Nat)×(Option Addr×Nat)×(Option Addr×Nat)×(Option Addr×Nat)×Nat×(Option Addr×Nat)=> .int .i64 r.1) (fun h=>[Ch.box N0 56 (pJ r.2 N1 N2 N3),Ch.box N1 115 [.slice h.1.1 r.2.book.l.length h.1.2,.slice h.2.1.1 r.2.book.bP.length h.2.1.2,.slice h.2.2.1.1 r.2.book.begun.length h.2.2.1.2],Ch.arr (Ty.slice aD) 40 h.1.1 h.1.2 r.2.book.l,Ch.arr (Ty.int .i64) 3 h.2.1.1 h.2.1.2 r.2.book.bP,Ch.arr aD 112 h.2.2.1.1 h.2.2.1.2 r.2.book.begun,Ch.box N2 76 (kV r.2.parser h.2.2.2.1.1 h.2.2.2.1.2),Ch.opt (r.2.parser.state == (3:Int)) (Ty.int .i64) 3 h.2.2.2.1.1 h.2.2.2.1.2 r.2.parser.order.bH,Ch.box N3 124 (cD r.2.aR h.2.2.2.2.2.1),Ch.box h.2.2.2.2.2.1 169 [.int .i64 r.2.aR.g.w,.slice h.2.2.2.2.2.2.1 r.2.aR.g.l.length h.2.2.2.2.2.2.2],Ch.arr aC 107 h.2.2.2.2.2.2.1 h.2.2.2.2.2.2.2 r.2.aR.g.l]) (fun h=>[]):=by
 delta dZ at H
 refine Cf Go.Proofs.Tryz.func10 fun K=> ?_
 refine T.xX ?_
 refine Z1 ?_
 refine Lx fun g1=> ?_
 refine Lx fun g2=> ?_
 refine Z2 ?_
 have ⟨r3,h4,H5⟩:=bnd H
 refine Lk [] [] (tv h4) fun ⟨⟩=> ?_
 refine Z1 ?_
 refine Tb H5 (fun H7=> ?_) fun H7=> ?_
 ·refine Z1 ?_
  cases H7
  exact E.uI ((A0,C0),(A1,C1),(A2,C2),(A3,C3),(none,0),N4,(A5,C5)) 2 [2,2,2,2,2,2,2,2,2,2] [] rfl (.tmp rfl .nil) rfl rfl rfl
 refine Z2 ?_
 have ⟨a,J,M⟩:=bnd H7
 refine T.zr (η:=Unit×((Option Addr×Nat)×(Option Addr×Nat)×(Option Addr×Nat)×(Option Addr×Nat)×Nat×(Option Addr×Nat)×List Nat)) (fun h=>True) (fun h=>(fun c d f i j k m n o p q s=>s) h.2.1.1 h.2.1.2 h.2.2.1.1 h.2.2.1.2 h.2.2.2.1.1 h.2.2.2.1.2 h.2.2.2.2.1.1 h.2.2.2.2.1.2 h.2.2.2.2.2.1 h.2.2.2.2.2.2.1.1 h.2.2.2.2.2.2.1.2 h.2.2.2.2.2.2.2) (fun h=>(fun c d f i j k m n o p q s=>[(2,.pointer (some ⟨g1,0,none⟩))]) h.2.1.1 h.2.1.2 h.2.2.1.1 h.2.2.1.2 h.2.2.2.1.1 h.2.2.2.1.2 h.2.2.2.2.1.1 h.2.2.2.2.1.2 h.2.2.2.2.2.1 h.2.2.2.2.2.2.1.1 h.2.2.2.2.2.2.1.2 h.2.2.2.2.2.2.2) (fun h=>(fun c d f i j k m n o p q s=>[Ch.arr (Ty.slice aD) 40 c d a.book.l,Ch.arr (Ty.int .i64) 3 f i a.book.bP,Ch.arr aD 112 j k a.book.begun,Ch.opt (a.parser.state == (3:Int)) (Ty.int .i64) 3 m n a.parser.order.bH,Ch.arr aC 107 p q a.aR.g.l,Ch.box g2 37 (L1 e),Ch.box g1 24 [.pointer (some ⟨N0,0,none⟩)],Ch.dfs s,Ch.box N0 56 (pJ a N1 N2 N3),Ch.box N1 115 [.slice c a.book.l.length d,.slice f a.book.bP.length i,.slice j a.book.begun.length k],Ch.box N2 76 (kV a.parser m n),Ch.box N3 124 (cD a.aR o),Ch.box o 169 [.int .i64 a.aR.g.w,.slice p a.aR.g.l.length q]]) h.2.1.1 h.2.1.2 h.2.2.1.1 h.2.2.1.2 h.2.2.2.1.1 h.2.2.2.1.2 h.2.2.2.2.1.1 h.2.2.2.2.1.2 h.2.2.2.2.2.1 h.2.2.2.2.2.2.1.1 h.2.2.2.2.2.2.1.2 h.2.2.2.2.2.2.2) (fun h=>(fun c d f i j k m n o p q s=>[Im.sl cI (some ⟨0,0,none⟩) 13 cY,Im.sl cI (some ⟨1,0,none⟩) 14 dH,Im.sl (Ty.int .u32) (some ⟨2,0,none⟩) 16 cV,Im.sl eK (some ⟨3,0,none⟩) 8 bV]) h.2.1.1 h.2.1.2 h.2.2.1.1 h.2.2.1.2 h.2.2.2.1.1 h.2.2.2.1.2 h.2.2.2.2.1.1 h.2.2.2.2.1.2 h.2.2.2.2.2.1 h.2.2.2.2.2.2.1.1 h.2.2.2.2.2.2.1.2 h.2.2.2.2.2.2.2) ?_ ?_
 ·refine Tb J (fun I=> ?_) fun I=> ?_
  ·refine Td [] [0,0,0,0,4,4] mo ?_
   refine Db 0 1 ?_
   refine Dq 1 ?_
   refine Dq 2 ?_
   refine Db 3 3 ?_
   refine Db 4 1 ?_
   refine Dq 5 ?_
   refine Dq 6 ?_
   refine Db 7 3 ?_
   refine Dq 8 ?_
   refine Db 9 0 ?_
   refine Dq 10 ?_
   refine Db 11 0 ?_
   have ⟨az,N,O⟩:=bnd I
   refine Dk [4,4,4] [] (qW N) fun ⟨⟨a0,a1⟩,⟨P,Q⟩⟩=> ?_
   refine D.frz 0 rfl ?_
   have ⟨a2,R,S⟩:=bnd O
   refine Dk [3,3,3,3] [0,3] (rm R) fun ⟨⟨U,V⟩,⟨W,Y⟩,⟨Z,aa⟩⟩=> ?_
   refine Dn ?_
   cases S
   exact E.pS ((),((U,V),(W,Y),(Z,aa),(A3,C3),N4,(P,Q),[])) [7,7,7,5,8,0,0,0,0,1,0,0,0] [1,2,3,4] trivial rfl ⟨rfl,trivial⟩ rfl rfl
  refine Z1 ?_
  have ⟨a3,ab,ac⟩:=bnd I
  refine Lk [3,3,3,3,3,3,3,3,3,3] [0,1,3] (vj ab) fun ⟨ad,ae⟩=> ?_
  refine Yl0 ?_
  have ⟨af,ag,ah⟩:=bnd ac
  refine T.rf4 (σ:=cC) (η:=(Option Addr×Nat)×(Option Addr×Nat)×(Option Addr×Nat)) (X:=(List aE)) (θ:=(Option Addr×Nat)) (τ:=((Option Addr×Nat)×(Option Addr×Nat)×(Option Addr×Nat))×(Option Addr×Nat)×(Option Addr×Nat)×Nat×(Option Addr×Nat)) (s1:=af.1) (hx:=fun x=>x.1) (fun x t=>[.slice t.1 x.length t.2]) (fun x t=>[Im.sl aC t.1 t.2 x]) (fun _=>none) _ [Ch.box N0 56 (pJ m_ N1 N2 N3)] (fun b h=>(fun v y z A B F=>[Ch.arr (Ty.slice aD) 40 v y b.l,Ch.arr (Ty.int .i64) 3 z A b.bP,Ch.arr aD 112 B F b.begun,Ch.box N1 115 [.slice v b.l.length y,.slice z b.bP.length A,.slice B b.begun.length F],Ch.box g2 37 (L1 e),Ch.box g1 24 [.pointer (some ⟨N0,0,none⟩)]]) h.1.1 h.1.2 h.2.1.1 h.2.1.2 h.2.2.1 h.2.2.2) (fun b h=>(fun v y z A B F=>[Im.sl cI (some ⟨0,0,none⟩) 13 cY,Im.sl cI (some ⟨1,0,none⟩) 14 dH,Im.sl (Ty.int .u32) (some ⟨2,0,none⟩) 16 cV,Im.sl eK (some ⟨3,0,none⟩) 8 bV]) h.1.1 h.1.2 h.2.1.1 h.2.1.2 h.2.2.1 h.2.2.2) 14 [4,4,4,3,8,8,0,1,1,1,1,1,1,0] [0,1,2,3] [0,1,3] rfl rfl (fun _ _=>rfl) rfl (fun yl C hY=>(tD ad N0 N1 A0 C0 A1 C1 A2 C2 N2 A3 C3 none 0 N3 N4 A5 C5 ae hY ((A0,C0),(A1,C1),(A2,C2)) ag:_)) (fun _ _ _ _=>rfl) rfl rfl rfl rfl rfl ?_ rfl ?_
  ·rintro yl K2 b ⟨⟨v,y⟩,⟨z,A⟩,⟨B,F⟩⟩ a4 ⟨a5,a6⟩ a7 ai
   refine Z0 ?_
   refine E.begin fun K3=> ?_
   refine Zl ?_
   have ⟨a8,aj,ak⟩:=bnd ai
   refine Lk [3,0,0,0] [0,3] (rm aj) fun ⟨⟨al,am⟩,⟨an,ao⟩,⟨ap,aq⟩⟩=> ?_
   refine Z0 ?_
   cases ak
   exact E.on ((al,am),(an,ao),(ap,aq)) [1,1,1,0,0,0,0] [1,2,3,4] rfl rfl rfl rfl
  rintro ⟨u,⟨ar,au⟩,⟨a9,ba⟩,av,⟨aw,ax⟩⟩ ay
  refine Z0 ?_
  cases ah
  exact E.pS ((),((u.1.1,u.1.2),(u.2.1.1,u.2.1.2),(u.2.2.1,u.2.2.2),(ar,au),av,(aw,ax),(ay::[]))) [1,1,1,7,9,2,2,0,2,0,1,1,1] [0,1,2,3] trivial rfl ⟨rfl,trivial⟩ rfl rfl
 rintro ⟨_,⟨⟨c,d⟩,⟨f,i⟩,⟨j,k⟩,⟨m,n⟩,o,⟨p,q⟩,s⟩⟩ _
 refine Z1 ?_
 refine Lt 8 ?_
 refine Z1 ?_
 cases M
 exact E.uI ((c,d),(f,i),(j,k),(m,n),(none,0),o,(p,q)) 8 [0,7,0,0,0,4,0,3,3,0] [] rfl (.tmp rfl .nil) rfl rfl rfl
theorem yZ {l:List aE} {r:(List aE)} (H:m5 l=some r):CT G 163 [.slice A0 l.length C0] [Ch.arr aC 107 A0 C0 l] [] (fun h:Nat=> .func (.func 197) #[] #[.pointer (some ⟨h,0,none⟩)]) (fun h=>[Ch.box h 39 [.slice A0 r.length C0],Ch.arr aC 107 A0 C0 r]) (fun h=>[]):=by
 delta m5 at H
 refine Cf Go.Proofs.Tryz.func163 fun K=> ?_
 refine Z1 ?_
 refine Lx fun g1=> ?_
 refine Z1 ?_
 cases H
 exact Eo1 g1 [0,0] []
theorem wG {σ η:Type} {Y:σ→aE→Option (σ×Bool)} {y0:σ} {x1:List aE} {yl:Nat} {C:σ→η→Ch} (hY: ∀ s (h:η) (x:aE) (t:(Option Addr×Nat)) z,Y s x=some z→YT G yl [.agg #[.slice t.1 x.cells.length t.2,.bool x.wrapped]] [C s h] [Im.sl aO t.1 t.2 x.cells] (fun _:η=> .bool z.2) (fun h2=>[C z.1 h2]) (fun _=>[])) (h0:η) (g_1:Nat) (a_1_0:Option Addr) (c_1_0:Nat) {r:σ} (H:jB Y y0 x1=some r):CT G 197 [.func (.yield yl) #[] #[],.pointer (some ⟨g_1,0,none⟩)] [C y0 h0,Ch.box g_1 39 [.slice a_1_0 x1.length c_1_0],Ch.arr aC 107 a_1_0 c_1_0 x1] [] (fun h:η=> .tuple #[]) (fun h=>[C r h,Ch.box g_1 39 [.slice a_1_0 x1.length c_1_0],Ch.arr aC 107 a_1_0 c_1_0 x1]) (fun h=>[]):=by
  delta jB at H
  refine Cf Go.Proofs.Tryz.func197 fun K=> ?_
  refine Z1 ?_
  have ⟨e,p,j⟩:=bnd H
  refine T.tJ (η:=σ×(η)) (fun h=>e = .inl h.1) (fun h=>(fun c=>(fun a=>[]) h.2) h.1) (fun h=>(fun c=>(fun a=>[C c a,Ch.box g_1 39 [.slice a_1_0 x1.length c_1_0],Ch.arr aC 107 a_1_0 c_1_0 x1]) h.2) h.1) (fun h=>(fun c=>(fun a=>[]) h.2) h.1) ?_ ?_
  ·refine Yl0 ?_
   refine Tq (η:=η) (fun b h=>(fun d=>[(7,.int .i64 b.1)]) h) [0,5,6] (fun b h=>(fun d=>[C b.2 d]) h) [1,2] (fun _ _=>[]) h0 [0,0,0] [] p ?_
   rintro k_ b d q u w k
   refine Y2 ?_
   refine Tb u (fun f=> ?_) fun f=> ?_
   ·refine Z1 ?_
    refine Zl ?_
    refine Z1 ?_
    have ⟨l,g,y⟩:=bnd f
    refine L.lQ 2 rfl (cL g) fun P A=> ?_
    subst A
    refine Ly (Yl.ia g rfl rfl rfl rfl rfl rfl) ?_
    refine La [2] [] (Ac.lo b.1.toNat 0 (v:=(fun h:(Option Addr×Nat)=>(fun m n=> .agg #[.slice m l.cells.length n,.bool l.wrapped]) h.1 h.2)) (aU g).2 rfl rfl rfl (fun _=>rfl)) ?_
    rintro ⟨m,n⟩
    refine Ll fun Q=> ?_
    refine Lt 0 ?_
    refine Z1 ?_
    have ⟨R,B,F⟩:=bnd y
    refine Lk [] [0] (yX B) fun ⟨I,J⟩=> ?_
    have ⟨S,M,N⟩:=bnd F
    refine L.yd [2] [0] (hY _ _ _ (I,J) _ M) rfl rfl rfl rfl rfl rfl rfl rfl ?_
    intro o
    refine Z0 ?_
    refine Tb N (fun i=> ?_) fun i=> ?_
    ·refine Z0 ?_
     obtain ⟨U,hz,O⟩:=fG i
     subst q
     have hb:=k _ rfl
     subst e
     obtain rfl:=(sm j).symm
     refine Z0 ?_
     cases O
     exact Eo o [0,2,1] [] .nil
    refine Z0 ?_
    cases i
    exact Eg (_,o) (w _ rfl) [0,2,1] [] 2
   refine Z0 ?_
   cases f
   have hb:=k _ rfl
   subst e
   exact Egx (_,d) rfl [0,0,0] []
  rintro ⟨c,a⟩ hy
  subst hy
  refine E.off ?_
  cases j
  exact Eo a [0,0,0] [] .nil
end Go.Tw.X

import Derived.Test.YtcdklfbklcmbkaaGreatDoorFw2
import Derived.Test.YtcdklfbklcmbkaaGreatDoorProg
import Derived.Test.YtcdklfbklcmbkaaGreatDoorXp1
set_option maxHeartbeats 2000000
set_option linter.unusedVariables false
set_option linter.unusedSimpArgs false
set_option maxRecDepth 10000
namespace Go.Tw.X
open Go Go.Tw
def kh:Ty cL:=⟨4,(Option Addr×Nat),λx h=>[.int .i64 x.kn,.int .i64 x.kind,.slice h.1 x.bW.length h.2,.string x.data],λx h=>[Im.sl (Ty.int .i64) h.1 h.2 x.bW],λ_ _=>rfl,by simp [Value.oneCell']⟩
def dO:Ty cP:=⟨3,Unit,λx h=>[.int .i64 x.rune,.int .i64 x.aM,.int .i64 x.part],λx h=>[],λ_ _=>rfl,by simp [Value.oneCell']⟩
def bA:Ty aU:=⟨2,(Option Addr×Nat),λx h=>[.slice h.1 x.l.length h.2,.bool x.wrapped],λx h=>[Im.sl dO h.1 h.2 x.l],λ_ _=>rfl,by simp [Value.oneCell']⟩
def aP:Ty aN:=⟨2,Unit,λx h=>[.int .i64 x.rune,.int .i64 x.aM],λx h=>[],λ_ _=>rfl,by simp [Value.oneCell']⟩
def iY:Ty bY:=⟨4,(Option Addr×Nat),λx h=>[.int .i64 x.kn,.int .i64 x.kind,.slice h.1 x.bW.length h.2,.string x.data],λx h=>[Im.sl (Ty.int .i64) h.1 h.2 x.bW],λ_ _=>rfl,by simp [Value.oneCell']⟩
def aS:Ty aF:=⟨3,Unit,λx h=>[.int .i32 x.rune,.int .i64 x.aM,.int .i64 x.part],λx h=>[],λ_ _=>rfl,by simp [Value.oneCell']⟩
def aD:Ty aE:=⟨2,(Option Addr×Nat),λx h=>[.slice h.1 x.cells.length h.2,.bool x.wrapped],λx h=>[Im.sl aS h.1 h.2 x.cells],λ_ _=>rfl,by simp [Value.oneCell']⟩
def aB:Ty aG:=⟨2,Unit,λx h=>[.int .i32 x.rune,.int .i64 x.aM],λx h=>[],λ_ _=>rfl,by simp [Value.oneCell']⟩
def cU:Ty aC:=⟨10,(Option Addr×Nat)×(Option Addr×Nat),λx h=>[.int .i64 x.k,.int .i64 x.w,.int .i64 x.h,.int .i64 x.x,.int .i64 x.y,.string x.title,.slice h.1.1 x.rows.length h.1.2,.int .i64 x.len,.int .i64 x.chain,.slice h.2.1 x.begun.length h.2.2],λx h=>[Im.sl aD h.1.1 h.1.2 x.rows,Im.sl aB h.2.1 h.2.2 x.begun],λ_ _=>rfl,by simp [Value.oneCell']⟩
abbrev tf (x:aV) (a1:Option Addr) (c1:Nat) (a2:Option Addr) (c2:Nat):List Value:=[.int .i64 x.k,.int .i64 x.w,.int .i64 x.h,.int .i64 x.x,.int .i64 x.y,.string x.title,.slice a1 x.rows.length c1,.int .i64 x.len,.int .i64 x.chain,.slice a2 x.begun.length c2]
abbrev vL (x:bU) (a1:Option Addr) (c1:Nat) (a2:Option Addr) (c2:Nat) (a3:Option Addr) (c3:Nat) (a4:Option Addr) (c4:Nat):List Value:=[.int .i64 x.aO.k,.int .i64 x.aO.w,.int .i64 x.aO.h,.int .i64 x.aO.x,.int .i64 x.aO.y,.string x.aO.title,.slice a1 x.aO.rows.length c1,.int .i64 x.aO.len,.int .i64 x.aO.chain,.slice a2 x.aO.begun.length c2,.int .i64 x.slot.key,.slice a3 x.slot.has.length c3,.slice a4 x.slot.parts.length c4]
abbrev th (x:bY) (a1:Option Addr) (c1:Nat):List Value:=[.int .i64 x.kn,.int .i64 x.kind,.slice a1 x.bW.length c1,.string x.data]
abbrev xY (x:cL) (a1:Option Addr) (c1:Nat):List Value:=[.int .i64 x.kn,.int .i64 x.kind,.slice a1 x.bW.length c1,.string x.data]
abbrev gO (x:aC) (a1:Option Addr) (c1:Nat) (a2:Option Addr) (c2:Nat):List Value:=[.int .i64 x.k,.int .i64 x.w,.int .i64 x.h,.int .i64 x.x,.int .i64 x.y,.string x.title,.slice a1 x.rows.length c1,.int .i64 x.len,.int .i64 x.chain,.slice a2 x.begun.length c2]
abbrev fr (x:aW) (v1:Option Nat):List Value:=[.int .i64 x.key,.int .i64 x.count,.map v1,.int .i64 x.bytes]
abbrev km (x:aK) (g1:Nat) (a2:Option Addr) (c2:Nat) (a3:Option Addr) (c3:Nat):List Value:=[.pointer (some ⟨g1,0,none⟩),.int .i64 x.aO.k,.int .i64 x.aO.w,.int .i64 x.aO.h,.int .i64 x.aO.x,.int .i64 x.aO.y,.string x.aO.title,.slice a2 x.aO.rows.length c2,.int .i64 x.aO.len,.int .i64 x.aO.chain,.slice a3 x.aO.begun.length c3]
abbrev El (x:bD) (a1:Option Addr) (c1:Nat) (a2:Option Addr) (c2:Nat):List Value:=[.int .i64 x.id,.int .i64 x.key,.int .i64 x.base,.slice a1 x.parts.length c1,.slice a2 x.there.length c2,.int .i64 x.due]
abbrev ri (x:aH) (a1:Option Addr) (c1:Nat) (a2:Option Addr) (c2:Nat) (a3:Option Addr) (c3:Nat) (a4:Option Addr) (c4:Nat) (a5:Option Addr) (c5:Nat) (a6:Option Addr) (c6:Nat) (a7:Option Addr) (c7:Nat):List Value:=[.int .i64 x.config.part,.int .i64 x.config.every,.int .i64 x.config.most,.int .i64 x.current.k,.int .i64 x.current.w,.int .i64 x.current.h,.int .i64 x.current.x,.int .i64 x.current.y,.string x.current.title,.slice a1 x.current.rows.length c1,.int .i64 x.current.len,.int .i64 x.current.chain,.slice a2 x.current.begun.length c2,.int .i64 x.aL.k,.int .i64 x.aL.w,.int .i64 x.aL.h,.int .i64 x.aL.x,.int .i64 x.aL.y,.string x.aL.title,.slice a3 x.aL.rows.length c3,.int .i64 x.aL.len,.int .i64 x.aL.chain,.slice a4 x.aL.begun.length c4,.slice a5 x.kept.length c5,.int .i64 x.message.id,.int .i64 x.message.key,.int .i64 x.message.base,.slice a6 x.message.parts.length c6,.slice a7 x.message.there.length c7,.int .i64 x.message.due,.int .i64 x.next]
abbrev pY (x:bV) (a1:Option Addr) (c1:Nat):List Value:=[.int .i64 x.state,.bool x.order.ka,.bool x.order.qq,.bool x.order.any,.bool x.order.some,.int .i64 x.order.n,.slice a1 x.order.bW.length c1,.string x.text,.int .u8 x.jF.lead,.int .i32 x.jF.rune,.int .i64 x.jF.qZ,.slice none 0 0]
abbrev w8 (x:dJ) (g1:Nat) (g2:Nat) (g3:Nat):List Value:=[.pointer (some ⟨g1,0,none⟩),.pointer (some ⟨g2,0,none⟩),.pointer (some ⟨g3,0,none⟩),.int .i64 x.k]
abbrev uD (x:aZ) (a1:Option Addr) (c1:Nat) (a2:Option Addr) (c2:Nat) (v3:Option Nat):List Value:=[.int .i64 x.sum,.int .i64 x.to.k,.int .i64 x.to.w,.int .i64 x.to.h,.int .i64 x.to.x,.int .i64 x.to.y,.string x.to.title,.slice a1 x.to.rows.length c1,.int .i64 x.to.len,.int .i64 x.to.chain,.slice a2 x.to.begun.length c2,.map v3]
abbrev w9 (x:aZ) (a2:Option Addr) (c2:Nat) (v3:Option Nat):List Value:=[.int .i64 x.sum,.int .i64 x.to.k,.int .i64 x.to.w,.int .i64 x.to.h,.int .i64 x.to.x,.int .i64 x.to.y,.string x.to.title,.slice none 0 0,.int .i64 x.to.len,.int .i64 x.to.chain,.slice a2 x.to.begun.length c2,.map v3]
abbrev lM (x:aT) (g1:Nat):List Value:=[.pointer (some ⟨g1,0,none⟩),.int .i64 x.spot.x,.int .i64 x.spot.y,.int .i64 x.spot.aM.AE,.int .i64 x.spot.aM.back,.bool x.spot.aM.bold,.bool x.spot.aM.under,.bool x.spot.aM.pT,.int .i64 x.saved.x,.int .i64 x.saved.y,.int .i64 x.saved.aM.AE,.int .i64 x.saved.aM.back,.bool x.saved.aM.bold,.bool x.saved.aM.under,.bool x.saved.aM.pT,.bool x.waiting,.int .i64 x.top,.int .i64 x.iX,.bool x.lD,.string x.title]
def tab:Tab:=[(3,⟨.int .i64,1,8,[.int .i64 0],false,false⟩),
  (4,⟨.bool,1,1,[.bool false],false,false⟩),
  (5,⟨.int .u8,1,1,[.int .u8 0],false,false⟩),
  (9,⟨.string,1,16,[.string ⟨#[]⟩],false,false⟩),
  (21,⟨.int .i32,1,4,[.int .i32 0],false,false⟩),
  (22,⟨.slice 40,1,24,[.slice none 0 0],false,false⟩),
  (24,⟨.pointer 71,1,8,[.pointer none],false,false⟩),
  (26,⟨.slice 140,1,24,[.slice none 0 0],false,false⟩),
  (27,⟨.slice 193,1,24,[.slice none 0 0],false,false⟩),
  (28,⟨.slice 193,1,24,[.slice none 0 0],false,false⟩),
  (30,⟨.struct [(3,0),(3,1),(3,2),(3,3),(3,4),(9,5),(26,6),(3,7),(3,8),(28,9)],10,120,[.int .i64 0,.int .i64 0,.int .i64 0,.int .i64 0,.int .i64 0,.string ⟨#[]⟩,.slice none 0 0,.int .i64 0,.int .i64 0,.slice none 0 0],true,false⟩),
  (31,⟨.slice 4,1,24,[.slice none 0 0],false,false⟩),
  (32,⟨.slice 9,1,24,[.slice none 0 0],false,false⟩),
  (34,⟨.struct [(3,0),(31,1),(32,2)],3,56,[.int .i64 0,.slice none 0 0,.slice none 0 0],true,false⟩),
  (36,⟨.struct [(30,0),(34,10)],13,176,[.int .i64 0,.int .i64 0,.int .i64 0,.int .i64 0,.int .i64 0,.string ⟨#[]⟩,.slice none 0 0,.int .i64 0,.int .i64 0,.slice none 0 0,.int .i64 0,.slice none 0 0,.slice none 0 0],true,false⟩),
  (37,⟨.slice 3,1,24,[.slice none 0 0],false,false⟩),
  (39,⟨.struct [(3,0),(3,1),(37,2),(9,3)],4,56,[.int .i64 0,.int .i64 0,.slice none 0 0,.string ⟨#[]⟩],true,false⟩),
  (40,⟨.struct [(3,0),(3,1),(37,2),(9,3)],4,56,[.int .i64 0,.int .i64 0,.slice none 0 0,.string ⟨#[]⟩],true,false⟩),
  (45,⟨.int .i64,1,8,[.int .i64 0],false,false⟩),
  (49,⟨.pointer 94,1,8,[.pointer none],false,false⟩),
  (52,⟨.struct [(3,0),(3,1),(3,2)],3,24,[.int .i64 0,.int .i64 0,.int .i64 0],true,false⟩),
  (53,⟨.pointer 108,1,8,[.pointer none],false,false⟩),
  (56,⟨.slice 116,1,24,[.slice none 0 0],false,false⟩),
  (57,⟨.slice 121,1,24,[.slice none 0 0],false,false⟩),
  (59,⟨.struct [(3,0),(3,1),(3,2),(3,3),(3,4),(9,5),(56,6),(3,7),(3,8),(57,9)],10,120,[.int .i64 0,.int .i64 0,.int .i64 0,.int .i64 0,.int .i64 0,.string ⟨#[]⟩,.slice none 0 0,.int .i64 0,.int .i64 0,.slice none 0 0],true,false⟩),
  (61,⟨.slice 39,1,24,[.slice none 0 0],false,false⟩),
  (66,⟨.pointer 69,1,8,[.pointer none],false,false⟩),
  (67,⟨.map 3 9,1,8,[.map none],false,false⟩),
  (69,⟨.struct [(3,0),(3,1),(67,2),(3,3)],4,32,[.int .i64 0,.int .i64 0,.map none,.int .i64 0],true,false⟩),
  (71,⟨.struct [(66,0),(59,1)],11,128,[.pointer none,.int .i64 0,.int .i64 0,.int .i64 0,.int .i64 0,.int .i64 0,.string ⟨#[]⟩,.slice none 0 0,.int .i64 0,.int .i64 0,.slice none 0 0],true,false⟩),
  (90,⟨.slice 59,1,24,[.slice none 0 0],false,false⟩),
  (92,⟨.struct [(3,0),(3,1),(3,2),(32,3),(31,4),(3,5)],6,80,[.int .i64 0,.int .i64 0,.int .i64 0,.slice none 0 0,.slice none 0 0,.int .i64 0],true,false⟩),
  (94,⟨.struct [(52,0),(59,3),(59,13),(90,23),(92,24),(3,30)],31,376,[.int .i64 0,.int .i64 0,.int .i64 0,.int .i64 0,.int .i64 0,.int .i64 0,.int .i64 0,.int .i64 0,.string ⟨#[]⟩,.slice none 0 0,.int .i64 0,.int .i64 0,.slice none 0 0,.int .i64 0,.int .i64 0,.int .i64 0,.int .i64 0,.int .i64 0,.string ⟨#[]⟩,.slice none 0 0,.int .i64 0,.int .i64 0,.slice none 0 0,.slice none 0 0,.int .i64 0,.int .i64 0,.int .i64 0,.slice none 0 0,.slice none 0 0,.int .i64 0,.int .i64 0],true,false⟩),
  (95,⟨.pointer 167,1,8,[.pointer none],false,false⟩),
  (97,⟨.pointer 104,1,8,[.pointer none],false,false⟩),
  (99,⟨.struct [(4,0),(4,1),(4,2),(4,3),(3,4),(37,5)],6,40,[.bool false,.bool false,.bool false,.bool false,.int .i64 0,.slice none 0 0],true,false⟩),
  (101,⟨.struct [(5,0),(21,1),(3,2)],3,16,[.int .u8 0,.int .i32 0,.int .i64 0],true,false⟩),
  (102,⟨.slice 279,1,24,[.slice none 0 0],false,false⟩),
  (104,⟨.struct [(3,0),(99,1),(9,7),(101,8),(102,11)],12,104,[.int .i64 0,.bool false,.bool false,.bool false,.bool false,.int .i64 0,.slice none 0 0,.string ⟨#[]⟩,.int .u8 0,.int .i32 0,.int .i64 0,.slice none 0 0],true,false⟩),
  (105,⟨.pointer 175,1,8,[.pointer none],false,false⟩),
  (108,⟨.struct [(95,0),(97,1),(105,2),(3,3)],4,32,[.pointer none,.pointer none,.pointer none,.int .i64 0],true,false⟩),
  (114,⟨.slice 127,1,24,[.slice none 0 0],false,false⟩),
  (116,⟨.struct [(114,0),(4,1)],2,32,[.slice none 0 0,.bool false],true,false⟩),
  (121,⟨.struct [(21,0),(3,1)],2,16,[.int .i32 0,.int .i64 0],true,true⟩),
  (122,⟨.slice 5,1,24,[.slice none 0 0],false,false⟩),
  (127,⟨.struct [(21,0),(3,1),(3,2)],3,24,[.int .i32 0,.int .i64 0,.int .i64 0],true,true⟩),
  (131,⟨.struct [(9,0),(3,1)],2,24,[.string ⟨#[]⟩,.int .i64 0],true,false⟩),
  (138,⟨.slice 195,1,24,[.slice none 0 0],false,false⟩),
  (140,⟨.struct [(138,0),(4,1)],2,32,[.slice none 0 0,.bool false],true,false⟩),
  (147,⟨.pointer 149,1,8,[.pointer none],false,false⟩),
  (149,⟨.struct [(147,0),(122,1)],2,32,[.pointer none,.slice none 0 0],true,false⟩),
  (156,⟨.map 3 116,1,8,[.map none],false,false⟩),
  (158,⟨.struct [(3,0),(59,1),(156,11)],12,136,[.int .i64 0,.int .i64 0,.int .i64 0,.int .i64 0,.int .i64 0,.int .i64 0,.string ⟨#[]⟩,.slice none 0 0,.int .i64 0,.int .i64 0,.slice none 0 0,.map none],true,false⟩),
  (165,⟨.slice 57,1,24,[.slice none 0 0],false,false⟩),
  (167,⟨.struct [(165,0),(37,1),(57,2)],3,72,[.slice none 0 0,.slice none 0 0,.slice none 0 0],true,false⟩),
  (168,⟨.pointer 218,1,8,[.pointer none],false,false⟩),
  (171,⟨.struct [(3,0),(3,1),(4,2),(4,3),(4,4)],5,24,[.int .i64 0,.int .i64 0,.bool false,.bool false,.bool false],true,false⟩),
  (173,⟨.struct [(3,0),(3,1),(171,2)],7,40,[.int .i64 0,.int .i64 0,.int .i64 0,.int .i64 0,.bool false,.bool false,.bool false],true,false⟩),
  (175,⟨.struct [(168,0),(173,1),(173,8),(4,15),(3,16),(3,17),(4,18),(9,19)],20,136,[.pointer none,.int .i64 0,.int .i64 0,.int .i64 0,.int .i64 0,.bool false,.bool false,.bool false,.int .i64 0,.int .i64 0,.int .i64 0,.int .i64 0,.bool false,.bool false,.bool false,.bool false,.int .i64 0,.int .i64 0,.bool false,.string ⟨#[]⟩],true,false⟩),
  (193,⟨.struct [(3,0),(3,1)],2,16,[.int .i64 0,.int .i64 0],true,false⟩),
  (195,⟨.struct [(3,0),(3,1),(3,2)],3,24,[.int .i64 0,.int .i64 0,.int .i64 0],true,true⟩),
  (211,⟨.int .u32,1,4,[.int .u32 0],false,false⟩),
  (218,⟨.struct [(3,0),(56,1)],2,32,[.int .i64 0,.slice none 0 0],true,false⟩),
  (224,⟨.struct [(122,0)],1,24,[.slice none 0 0],true,false⟩),
  (225,⟨.pointer 224,1,8,[.pointer none],false,false⟩),
  (237,⟨.struct [(9,0),(45,1)],2,24,[.string ⟨#[]⟩,.int .i64 0],true,false⟩),
  (252,⟨.array 3 3,3,24,[.int .i64 0,.int .i64 0,.int .i64 0],true,false⟩),
  (253,⟨.int .u64,1,8,[.int .u64 0],false,false⟩),
  (256,⟨.array 16 211,16,64,[.int .u32 0,.int .u32 0,.int .u32 0,.int .u32 0,.int .u32 0,.int .u32 0,.int .u32 0,.int .u32 0,.int .u32 0,.int .u32 0,.int .u32 0,.int .u32 0,.int .u32 0,.int .u32 0,.int .u32 0,.int .u32 0],true,false⟩),
  (263,⟨.int .u64,1,8,[.int .u64 0],false,false⟩),
  (279,⟨.struct [(3,0),(21,1),(5,2),(4,3),(37,4),(9,5)],6,56,[.int .i64 0,.int .i32 0,.int .u8 0,.bool false,.slice none 0 0,.string ⟨#[]⟩],true,false⟩)]
theorem DT:iq Go.Proofs.Tryz.prog tab:=wj (by kernel_rfl)
noncomputable def G:Pg:=⟨Go.Proofs.Tryz.prog,tab,DT,none⟩
theorem mo:G.P.follows .mixedOrders=true:=by kernel_rfl
theorem B9:Av G.P 5=true:=by kernel_rfl
theorem Ah:xm G.P 9 false=true:=by kernel_rfl
theorem BV:xm G.P 116 true=true:=by kernel_rfl
variable {A0 A1 A2 A3 A4 A5 A6 A7 A8 : Option Addr} {C0 C1 C2 C3 C4 C5 C6 C7 C8 : Nat}
variable {N0 N1 N2 N3 N4 : Nat}
variable {M0 : Option Nat}
theorem lq {n_:Int} {lo:Int} {hi:Int} {r:Int} (H:iJ n_ lo hi=some r):CT G 73 [.int .i64 n_,.int .i64 lo,.int .i64 hi] [] [] (λ_:Unit=> .int .i64 r) (λh=>[]) (λh=>[]):=by
 delta iJ at H
 refine Cf Go.Proofs.Tryz.func73 λK=> ?_
 refine Z2 ?_
 cases H
 exact Eo1 () [] []
theorem mK {c:cK} {r:cK} (H:iu c=some r):CT G 38 [.agg #[.int .i64 c.part,.int .i64 c.every,.int .i64 c.most]] [] [] (λ_:Unit=> .agg #[.int .i64 r.part,.int .i64 r.every,.int .i64 r.most]) (λh=>[]) (λh=>[]):=by
 delta iu at H
 refine Cf Go.Proofs.Tryz.func38 λK=> ?_
 refine Z1 ?_
 refine Lx λg1=> ?_
 refine Ll λg2=> ?_
 refine Y1 ?_
 refine Td [10] [0,0] mo ?_
 refine Dq 0 ?_
 refine Db 1 1 ?_
 refine Dq 3 ?_
 refine Db 4 1 ?_
 refine Dq 6 ?_
 refine Db 7 1 ?_
 have ⟨i,a,b⟩:=bnd H
 refine Dk [] [] (lq a) λ⟨⟩=> ?_
 have ⟨j,d,e⟩:=bnd b
 refine Dk [] [] (lq d) λ⟨⟩=> ?_
 have ⟨k,f,g⟩:=bnd e
 refine Dk [] [] (lq f) λ⟨⟩=> ?_
 refine Dq 9 ?_
 refine Dt 0 ?_
 refine Dn ?_
 refine Z0 ?_
 cases g
 exact Eo () [] [] (.cell 0 rfl rfl rfl .nil)
theorem tj {c:cK} {r:aH} (H:kr c=some r):CT G 12 [.agg #[.int .i64 c.part,.int .i64 c.every,.int .i64 c.most]] [] [] (λh:Nat×(Option Addr×Nat)×(Option Addr×Nat)×(Option Addr×Nat)×(Option Addr×Nat)×(Option Addr×Nat)×(Option Addr×Nat)×(Option Addr×Nat)=> .pointer (some ⟨h.1,0,none⟩)) (λh=>[Ch.box h.1 94 (ri r h.2.1.1 h.2.1.2 h.2.2.1.1 h.2.2.1.2 h.2.2.2.1.1 h.2.2.2.1.2 h.2.2.2.2.1.1 h.2.2.2.2.1.2 h.2.2.2.2.2.1.1 h.2.2.2.2.2.1.2 h.2.2.2.2.2.2.1.1 h.2.2.2.2.2.2.1.2 h.2.2.2.2.2.2.2.1 h.2.2.2.2.2.2.2.2),Ch.aro cU 59 h.2.2.2.2.2.1.1 h.2.2.2.2.2.1.2 r.kept,Ch.arr Ty.bool 4 h.2.2.2.2.2.2.2.1 h.2.2.2.2.2.2.2.2 r.message.there]) (λh=>[Im.sl aD h.2.1.1 h.2.1.2 r.current.rows,Im.sl aB h.2.2.1.1 h.2.2.1.2 r.current.begun,Im.sl aD h.2.2.2.1.1 h.2.2.2.1.2 r.aL.rows,Im.sl aB h.2.2.2.2.1.1 h.2.2.2.2.1.2 r.aL.begun,Im.sl Ty.str h.2.2.2.2.2.2.1.1 h.2.2.2.2.2.2.1.2 r.message.parts]):=by
 delta kr at H
 refine Cf Go.Proofs.Tryz.func12 λK=> ?_
 refine Z1 ?_
 refine Lx λg1=> ?_
 refine Z1 ?_
 have ⟨r2,h3,H4⟩:=bnd H
 refine Lk [] [] (mK h3) λ⟨⟩=> ?_
 refine Z0 ?_
 refine L.rv 5 (.agg #[.int .i64 r2.part,.int .i64 r2.every,.int .i64 r2.most,.int .i64 0,.int .i64 0,.int .i64 0,.int .i64 0,.int .i64 0,.string (ByteArray.mk #[]),.slice none 0 0,.int .i64 0,.int .i64 0,.slice none 0 0,.int .i64 0,.int .i64 0,.int .i64 0,.int .i64 0,.int .i64 0,.string (ByteArray.mk #[]),.slice none 0 0,.int .i64 0,.int .i64 0,.slice none 0 0,.slice none 0 0,.int .i64 0,.int .i64 0,.int .i64 0,.slice none 0 0,.slice none 0 0,.int .i64 0,.int .i64 1]) rfl ?_
 refine Lx λg5=> ?_
 refine Z0 ?_
 refine E.dC [Im.sl aD none 0 []] (λA w _ _ f hf=>by rw [List.mem_singleton.1 hf]; exact Im.bS A w) ?_
 refine E.dC [Im.sl aB none 0 []] (λA w _ _ f hf=>by rw [List.mem_singleton.1 hf]; exact Im.bS A w) ?_
 refine E.dC [Im.sl aD none 0 []] (λA w _ _ f hf=>by rw [List.mem_singleton.1 hf]; exact Im.bS A w) ?_
 refine E.dC [Im.sl aB none 0 []] (λA w _ _ f hf=>by rw [List.mem_singleton.1 hf]; exact Im.bS A w) ?_
 refine E.gC cU 59 ?_
 refine E.Ez 0 rfl ?_
 refine E.dC [Im.sl Ty.str none 0 []] (λA w _ _ f hf=>by rw [List.mem_singleton.1 hf]; exact Im.bS A w) ?_
 refine E.gC Ty.bool 4 ?_
 cases H4
 exact Eo1 (g5,(none,0),(none,0),(none,0),(none,0),(none,0),(none,0),(none,0)) [2,1,0] [4,3,2,1,0]
theorem mL {r:aK} (H:iv=some r):CT G 5 [] [] [] (λh:Nat×Nat×Option Nat×(Option Addr×Nat)×(Option Addr×Nat)=> .pointer (some ⟨h.1,0,none⟩)) (λh=>[Ch.box h.1 71 (km r h.2.1 h.2.2.2.1.1 h.2.2.2.1.2 h.2.2.2.2.1 h.2.2.2.2.2),Ch.box h.2.1 69 (fr r.slot h.2.2.1),Ch.mp Ty.str false h.2.2.1 r.slot.parts]) (λh=>[Im.sl aD h.2.2.2.1.1 h.2.2.2.1.2 r.aO.rows,Im.sl aB h.2.2.2.2.1 h.2.2.2.2.2 r.aO.begun]):=by
 delta iv at H
 refine Cf Go.Proofs.Tryz.func5 λK=> ?_
 refine Z2 ?_
 refine Lx λg1=> ?_
 refine Z0 ?_
 refine Lx λg2=> ?_
 refine Z0 ?_
 refine E.mp0 Ty.str false ?_
 refine E.dC [Im.sl aD none 0 []] (λA w _ _ f hf=>by rw [List.mem_singleton.1 hf]; exact Im.bS A w) ?_
 refine E.dC [Im.sl aB none 0 []] (λA w _ _ f hf=>by rw [List.mem_singleton.1 hf]; exact Im.bS A w) ?_
 cases H
 exact Eo1 (g2,g1,none,(none,0),(none,0)) [1,1,0] [1,0]
theorem vM {r:fZ} (H:lV=some r):CT G 39 [] [] [] (λh:Nat×(Option Addr×Nat)×(Option Addr×Nat)×(Option Addr×Nat)=> .pointer (some ⟨h.1,0,none⟩)) (λh=>[Ch.box h.1 167 [.slice h.2.1.1 r.l.length h.2.1.2,.slice h.2.2.1.1 r.ff.length h.2.2.1.2,.slice h.2.2.2.1 r.begun.length h.2.2.2.2],Ch.arr (Ty.slice aB) 57 h.2.1.1 h.2.1.2 r.l,Ch.arr (Ty.int .i64) 3 h.2.2.1.1 h.2.2.1.2 r.ff,Ch.arr aB 121 h.2.2.2.1 h.2.2.2.2 r.begun]) (λh=>[]):=by
 delta lV at H
 refine Cf Go.Proofs.Tryz.func39 λK=> ?_
 refine Z2 ?_
 refine La [] [] (Ac.bs (ty:=(Ty.int .i64)) (xs:=[0]) (.cons () [] rfl .nil) rfl rfl rfl rfl rfl rfl rfl) λg1=> ?_
 refine Z0 ?_
 refine Lx λg3=> ?_
 refine Z0 ?_
 refine E.gC (Ty.slice aB) 57 ?_
 refine E.gC aB 121 ?_
 cases H
 exact Eo1 (g3,(none,0),((some ⟨g1,0,none⟩),1),(none,0)) [2,1,1,0] []
theorem uE {n_:Int} {lo:Int} {hi:Int} {r:Int} (H:k6 n_ lo hi=some r):CT G 142 [.int .i64 n_,.int .i64 lo,.int .i64 hi] [] [] (λ_:Unit=> .int .i64 r) (λh=>[]) (λh=>[]):=by
 delta k6 at H
 refine Cf Go.Proofs.Tryz.func142 λK=> ?_
 refine Z2 ?_
 cases H
 exact Eo1 () [] []
theorem pC {n_:Int} {r:Int} (H:je n_=some r):CT G 120 [.int .i64 n_] [] [] (λ_:Unit=> .int .i64 r) (λh=>[]) (λh=>[]):=by
 delta je at H
 refine Cf Go.Proofs.Tryz.func120 λK=> ?_
 refine Z2 ?_
 have ⟨r1,h2,H3⟩:=bnd H
 refine Lk [] [] (uE h2) λ⟨⟩=> ?_
 refine Z0 ?_
 cases H3
 exact Eo1 () [] []
theorem vO {n_:Int} {lo:Int} {hi:Int} {r:Int} (H:kB n_ lo hi=some r):CT G 144 [.int .i64 n_,.int .i64 lo,.int .i64 hi] [] [] (λ_:Unit=> .int .i64 r) (λh=>[]) (λh=>[]):=by
 delta kB at H
 refine Cf Go.Proofs.Tryz.func144 λK=> ?_
 refine Z2 ?_
 cases H
 exact Eo1 () [] []
theorem uF {aM:Int} {r:aF} (H:kZ aM=some r):CT G 151 [.int .i64 aM] [] [] (λ_:Unit=> .agg #[.int .i32 r.rune,.int .i64 r.aM,.int .i64 r.part]) (λh=>[]) (λh=>[]):=by
 delta kZ at H
 refine Cf Go.Proofs.Tryz.func151 λK=> ?_
 refine Z1 ?_
 refine Ll λg1=> ?_
 refine Z1 ?_
 refine Lt 0 ?_
 refine Z0 ?_
 cases H
 exact Eo () [] [] (.cell 0 rfl rfl rfl .nil)
theorem tn {x_:Int} {y:Int} {r:Int×Int} (H:kq x_ y=some r):CT G 158 [.int .u64 x_,.int .u64 y] [] [] (λ_:Unit=> .tuple #[.int .u64 r.1,.int .u64 r.2]) (λh=>[]) (λh=>[]):=by
 delta kq at H
 refine Cf Go.Proofs.Tryz.func158 λK=> ?_
 refine Z3 ?_
 refine Z3 ?_
 refine Z3 ?_
 refine Z3 ?_
 cases H
 exact Eo () [] [] (.tmp rfl (.tmp rfl .nil))
theorem vP {x_:Int} {y:Int} {r:Int×Int} (H:kA x_ y=some r):CT G 150 [.int .u64 x_,.int .u64 y] [] [] (λ_:Unit=> .tuple #[.int .u64 r.1,.int .u64 r.2]) (λh=>[]) (λh=>[]):=by
 delta kA at H
 refine Cf Go.Proofs.Tryz.func150 λK=> ?_
 refine Y2 ?_
 refine T.cond rfl (λh=>nomatch h) (λ_=> ?_)
 refine Z1 ?_
 have ⟨r1,h2,H3⟩:=bnd H
 refine Lk [] [] (tn h2) λ⟨⟩=> ?_
 refine Z1 ?_
 cases H3
 exact Eo () [] [] (.tmp rfl (.tmp rfl .nil))
theorem iN {x_:List aF} {count:Int} {r:(List aF)} (H:cS x_ count=some r):CT G 140 [.slice A0 x_.length C0,.int .i64 count] [] [Im.sl aS A0 C0 x_] (λh:(Option Addr×Nat)=> .slice h.1 r.length h.2) (λh=>[Ch.arr aS 127 h.1 h.2 r]) (λh=>[]):=by
 delta cS at H
 refine Cf Go.Proofs.Tryz.func140 λK=> ?_
 refine Z3 ?_
 refine Tb H (λH2=> ?_) λH2=> ?_
 ·cases H2
 refine Z1 ?_
 have ⟨r3,h4,H5⟩:=bnd H2
 refine Lk [] [] (vP h4) λ⟨⟩=> ?_
 refine Y2 ?_
 have ⟨e9,m,n⟩:=bnd H5
 refine Tj0 [(26,.bool e9)] [0,6] [] [] ?_ ?_
 ·refine Z0 ?_
  refine Lw 23 m (λg=> ?_) λg=> ?_
  ·refine Z0 ?_
   cases g
   exact Eg0 [] 0
  refine Z0 ?_
  cases g
  exact Eg0 [] 0
 refine Tb n (λi=> ?_) λi=> ?_
 ·cases i
 refine Z1 ?_
 have ⟨_,o,p⟩:=bnd i
 refine La [] [] (Ac.mk (ty:=aS) (aF.mk 0 0 0) () o (λ_ _ f hf=>by cases hf) rfl rfl rfl rfl rfl rfl rfl) λq=> ?_
 refine Z1 ?_
 refine La [0] [0] (Ac.cp (ty:=aS) rfl rfl rfl rfl rfl rfl rfl) λ_=> ?_
 refine L.sl 7 (k':=(cpy (List.replicate (IntKind.i64.wrap r3.2).toNat (aF.mk 0 0 0)) x_).length) (nD ..) rfl ?_
 refine Y1 ?_
 have ⟨j,s,t⟩:=bnd p
 refine Tjh (η:=(Option Addr×Nat)) (λh=>(λd e=>[(7,.slice d j.length e)]) h.1 h.2) [] (λh=>(λd e=>[Ch.arr aS 127 d e j]) h.1 h.2) [] (λ_=>[]) ?_ ?_
 ·refine Yl0 ?_
  refine Tq (η:=(Option Addr×Nat)) (λa h=>(λb c=>[(7,.slice b a.1.length c),(8,.int .i64 a.2)]) h.1 h.2) [] (λa h=>(λb c=>[Ch.arr aS 127 b c a.1]) h.1 h.2) [] (λ_ _=>[]) ((some ⟨q,0,none⟩),(IntKind.i64.wrap r3.2).toNat) [0] [] s ?_
  rintro k_ a ⟨b,c⟩ C u v w
  refine Z2 ?_
  refine Tb u (λk=> ?_) λk=> ?_
  ·refine Yl0 ?_
   refine Td [] [] mo ?_
   refine Dq 0 ?_
   refine Dq 1 ?_
   refine Dq 2 ?_
   have ⟨_,l,x⟩:=bnd k
   refine D.cap 0 rfl λy=> ?_
   refine Dy 3 (Yl.sv (ty:=aS) y l rfl rfl rfl rfl rfl rfl rfl rfl) ?_
   refine Dq 4 ?_
   refine Dq 5 ?_
   have ⟨_,z,A⟩:=bnd x
   refine D.cap 0 rfl λB=> ?_
   refine Dy 6 (Yl.sv (ty:=aS) B z rfl rfl rfl rfl rfl rfl rfl rfl) ?_
   refine Da [0] [] rfl rfl (Ac.cps (ty:=aS) l rfl rfl rfl rfl rfl rfl rfl) λ_=> ?_
   refine Dq 8 ?_
   refine Dq 9 ?_
   refine Dn ?_
   refine E.sl 7 (k':=(qW a.1 a.2.toNat).length) (yj l) rfl ?_
   refine Z0 ?_
   cases A
   exact Eg (_,(b,c)) (v _ rfl) [0] [] 0
  refine Z0 ?_
  cases k
  have hb:=w _ rfl
  subst j
  exact Eg (b,c) trivial [0] [] 0
 rintro ⟨d,e⟩
 refine Z1 ?_
 cases t
 exact Eo1 (d,e) [0] []
theorem tp {n_:Int} {aM:Int} {r:(List aF)} (H:jk n_ aM=some r):CT G 143 [.int .i64 n_,.int .i64 aM] [] [] (λh:(Option Addr×Nat)=> .slice h.1 r.length h.2) (λh=>[Ch.arr aS 127 h.1 h.2 r]) (λh=>[]):=by
 delta jk at H
 refine Cf Go.Proofs.Tryz.func143 λK=> ?_
 refine Z2 ?_
 have ⟨r1,h2,H3⟩:=bnd H
 refine Lk [] [] (uF h2) λ⟨⟩=> ?_
 refine La [] [] (Ac.bs (ty:=aS) (xs:=[r1]) (.cons () [] rfl .nil) rfl rfl rfl rfl rfl rfl rfl) λg4=> ?_
 refine Z0 ?_
 refine L.frz 0 rfl ?_
 have ⟨r7,h8,H9⟩:=bnd H3
 refine Lk [] [0] (iN h8) λ⟨a,b⟩=> ?_
 refine Z0 ?_
 cases H9
 exact Eo1 (a,b) [0] []
theorem uG {w:Int} {aM:Int} {r:aE} (H:jb w aM=some r):CT G 121 [.int .i64 w,.int .i64 aM] [] [] (λh:(Option Addr×Nat)=> .agg #[.slice h.1 r.cells.length h.2,.bool r.wrapped]) (λh=>[]) (λh=>[Im.sl aS h.1 h.2 r.cells]):=by
 delta jb at H
 refine Cf Go.Proofs.Tryz.func121 λK=> ?_
 refine Z1 ?_
 refine Ll λg1=> ?_
 refine Z1 ?_
 have ⟨r2,h3,H4⟩:=bnd H
 refine Lk [] [] (vO h3) λ⟨⟩=> ?_
 refine Z0 ?_
 have ⟨r5,h6,H7⟩:=bnd H4
 refine Lk [] [] (tp h6) λ⟨a8,c9⟩=> ?_
 refine Z0 ?_
 refine Lt 1 ?_
 refine Z0 ?_
 refine E.frz 1 rfl ?_
 cases H7
 exact Eo (a8,c9) [] [0] (.cell 0 rfl rfl rfl .nil)
theorem vQ {w:Int} {h_:Int} {r:cN} (H:kC w h_=some r):CT G 74 [.int .i64 w,.int .i64 h_] [] [] (λh:Nat×(Option Addr×Nat)=> .pointer (some ⟨h.1,0,none⟩)) (λh=>[Ch.box h.1 218 [.int .i64 r.w,.slice h.2.1 r.l.length h.2.2],Ch.arr aD 116 h.2.1 h.2.2 r.l]) (λh=>[]):=by
 delta kC at H
 refine Cf Go.Proofs.Tryz.func74 λK=> ?_
 refine Z2 ?_
 have ⟨r1,h2,H3⟩:=bnd H
 refine Lk [] [] (pC h2) λ⟨⟩=> ?_
 refine Z0 ?_
 refine Lx λg4=> ?_
 refine Z2 ?_
 have ⟨r5,h6,H7⟩:=bnd H3
 refine Lk [] [] (pC h6) λ⟨⟩=> ?_
 refine Z0 ?_
 have ⟨d,i,j⟩:=bnd H7
 refine Tjh (η:=(Option Addr×Nat)) (λ_=>[]) [5] (λh=>(λe f=>[Ch.arr aD 116 e f d.l,Ch.box g4 218 [.int .i64 d.w,.slice e d.l.length f]]) h.1 h.2) [] (λ_=>[]) ?_ ?_
 ·refine Yl0 ?_
  refine T.gC aD 116 ?_
  refine Tq (η:=(Option Addr×Nat)) (λa h=>(λb c=>[(12,.int .i64 a.2)]) h.1 h.2) [5,11] (λa h=>(λb c=>[Ch.arr aD 116 b c a.1.l,Ch.box g4 218 [.int .i64 a.1.w,.slice b a.1.l.length c]]) h.1 h.2) [] (λ_ _=>[]) (none,0) [0,0] [] i ?_
  rintro k_ a ⟨b,c⟩ z k m n
  refine Y2 ?_
  refine Tb k (λg=> ?_) λg=> ?_
  ·refine Z1 ?_
   refine Yl0 ?_
   refine Td [14] [1] mo ?_
   refine Dq 0 ?_
   refine Dq 1 ?_
   refine Dq 2 ?_
   refine Dq 3 ?_
   refine Db 4 0 ?_
   refine Dq 5 ?_
   refine Dq 6 ?_
   refine Dq 7 ?_
   refine Db 8 0 ?_
   have ⟨o,p,q⟩:=bnd g
   refine Dk [] [] (uG p) λ⟨s,t⟩=> ?_
   refine Da [] [0] rfl rfl (Ac.bs (ty:=aD) (xs:=[o]) (.cons (s,t) [0] rfl .nil) rfl rfl rfl rfl rfl rfl rfl) λA=> ?_
   refine D.frz 0 rfl ?_
   have ⟨_,u,v⟩:=bnd q
   refine Da [0] [0] rfl rfl (Ac.ap (ty:=aD) u rfl rfl rfl rfl rfl rfl rfl) ?_
   rintro ⟨x,y⟩
   refine Dq 12 ?_
   refine Dq 13 ?_
   refine Dt 0 ?_
   refine Dn ?_
   refine Z0 ?_
   cases v
   exact Eg (_,(x,y)) (m _ rfl) [1,0] [] 2
  refine Z0 ?_
  cases g
  have hb:=n _ rfl
  subst d
  exact Eg (b,c) trivial [0,0] [] 0
 rintro ⟨e,f⟩
 refine Z1 ?_
 cases j
 exact Eo1 (g4,(e,f)) [1,0] []
theorem lN {g:cN} {r:Int×Int} (H:fH g=some r):CT G 75 [.pointer (some ⟨N0,0,none⟩)] [Ch.box N0 218 [.int .i64 g.w,.slice A0 g.l.length C0],Ch.arr aD 116 A0 C0 g.l] [] (λ_:Unit=> .tuple #[.int .i64 r.1,.int .i64 r.2]) (λh=>[Ch.box N0 218 [.int .i64 g.w,.slice A0 g.l.length C0],Ch.arr aD 116 A0 C0 g.l]) (λh=>[]):=by
 delta fH at H
 refine Cf Go.Proofs.Tryz.func75 λK=> ?_
 refine Y2 ?_
 refine Td [] [0,0] mo ?_
 refine Dq 0 ?_
 refine Dq 1 ?_
 refine Dq 2 ?_
 refine Db 3 0 ?_
 refine Dq 4 ?_
 refine Dq 5 ?_
 refine Dq 6 ?_
 refine Db 7 0 ?_
 refine Dq 8 ?_
 refine Dq 9 ?_
 refine Dq 10 ?_
 refine Dn ?_
 refine Z0 ?_
 cases H
 exact Eo () [0,0] [] (.tmp rfl (.tmp rfl .nil))
theorem tq {w:Int} {h_:Int} {r:aT} (H:jn w h_=some r):CT G 40 [.int .i64 w,.int .i64 h_] [] [] (λh:Nat×Nat×(Option Addr×Nat)=> .pointer (some ⟨h.1,0,none⟩)) (λh=>[Ch.box h.1 175 (lM r h.2.1),Ch.box h.2.1 218 [.int .i64 r.g.w,.slice h.2.2.1 r.g.l.length h.2.2.2],Ch.arr aD 116 h.2.2.1 h.2.2.2 r.g.l]) (λh=>[]):=by
 delta jn at H
 refine Cf Go.Proofs.Tryz.func40 λK=> ?_
 refine Z2 ?_
 have ⟨r1,h2,H3⟩:=bnd H
 refine Lk [] [] (vQ h2) λ⟨g4,⟨a5,c6⟩⟩=> ?_
 refine Z0 ?_
 refine Lx λg8=> ?_
 refine Z1 ?_
 have ⟨r9,a,b⟩:=bnd H3
 refine Lk [1,1] [] (lN a) λ⟨⟩=> ?_
 refine Z0 ?_
 refine Lt 2 ?_
 refine Z1 ?_
 refine Lt 0 ?_
 refine Z1 ?_
 cases b
 exact Eo1 (g8,g4,(a5,c6)) [0,0,0] []
theorem uH {w:Int} {h_:Int} {r:dJ} (H:jT w h_=some r):CT G 13 [.int .i64 w,.int .i64 h_] [] [] (λh:Nat×Nat×(Option Addr×Nat)×(Option Addr×Nat)×(Option Addr×Nat)×Nat×(Option Addr×Nat)×(Option Addr×Nat)×Nat×Nat×(Option Addr×Nat)=> .pointer (some ⟨h.1,0,none⟩)) (λh=>[Ch.box h.1 108 (w8 r h.2.1 h.2.2.2.2.2.1 h.2.2.2.2.2.2.2.2.1),Ch.box h.2.1 167 [.slice h.2.2.1.1 r.book.l.length h.2.2.1.2,.slice h.2.2.2.1.1 r.book.ff.length h.2.2.2.1.2,.slice h.2.2.2.2.1.1 r.book.begun.length h.2.2.2.2.1.2],Ch.arr (Ty.slice aB) 57 h.2.2.1.1 h.2.2.1.2 r.book.l,Ch.arr (Ty.int .i64) 3 h.2.2.2.1.1 h.2.2.2.1.2 r.book.ff,Ch.arr aB 121 h.2.2.2.2.1.1 h.2.2.2.2.1.2 r.book.begun,Ch.box h.2.2.2.2.2.1 104 (pY r.parser h.2.2.2.2.2.2.1.1 h.2.2.2.2.2.2.1.2),Ch.opt (r.parser.state == (3:Int)) (Ty.int .i64) 3 h.2.2.2.2.2.2.1.1 h.2.2.2.2.2.2.1.2 r.parser.order.bW,Ch.box h.2.2.2.2.2.2.2.2.1 175 (lM r.bP h.2.2.2.2.2.2.2.2.2.1),Ch.box h.2.2.2.2.2.2.2.2.2.1 218 [.int .i64 r.bP.g.w,.slice h.2.2.2.2.2.2.2.2.2.2.1 r.bP.g.l.length h.2.2.2.2.2.2.2.2.2.2.2],Ch.arr aD 116 h.2.2.2.2.2.2.2.2.2.2.1 h.2.2.2.2.2.2.2.2.2.2.2 r.bP.g.l]) (λh=>[]):=by
 delta jT at H
 refine Cf Go.Proofs.Tryz.func13 λK=> ?_
 refine Z2 ?_
 have ⟨r1,h2,H3⟩:=bnd H
 refine Lk [] [] (vM h2) λ⟨g4,⟨a5,c6⟩,⟨a7,c8⟩,⟨a9,a⟩⟩=> ?_
 refine Z0 ?_
 refine Lx λb=> ?_
 refine Z0 ?_
 have ⟨m,c,d⟩:=bnd H3
 refine Lk [] [] (tq c) λ⟨e,f,⟨i,j⟩⟩=> ?_
 refine Z0 ?_
 refine Lx λk=> ?_
 refine Z0 ?_
 refine E.gC (Ty.int .i64) 3 ?_
 refine E.Cv 0 (0 == (3:Int)) rfl ?_
 cases d
 exact Eo1 (k,g4,(a5,c6),(a7,c8),(a9,a),b,(none,0),(none,0),e,f,(i,j)) [1,5,5,5,5,4,0,0,0,0] []
theorem jf {s_:List aF} (a_0:Option Addr) (c_0:Nat) {r:List aF} (H:dE s_=some r):CT G 53 [.slice a_0 s_.length c_0] [] [Im.sl aS a_0 c_0 s_] (λh:(Option Addr×Nat)=> .slice h.1 r.length h.2) (λh=>[Ch.arr aS 127 h.1 h.2 r]) (λh=>[]):=by
  delta dE at H
  refine Cf Go.Proofs.Tryz.func53 λK=> ?_
  have ⟨_,h0,H⟩:=bnd H
  have hr:=Option.some.inj H
  refine T.seq (T.region (L.q 1 rfl (L.nil (E.then (T.seq (T.seq (T.region ?_)))))))
  refine L.q 1 rfl ?_
  refine L.DZ 0 rfl rfl rfl rfl rfl rfl rfl rfl rfl (λha hx=> ?_) ?_
  · refine L.nil (E.then (T.cond rfl (λ_=> ?_) (λh=>nomatch h)))
    refine T.seq (T.region (L.q 1 rfl (L.nil (E.then (T.ret (E.n0 ?_))))))
    subst hx
    subst r
    refine E.gC aS 127 ?_
    exact E.ret (none,0) [0] [] (.tmp rfl .nil) rfl rfl rfl
  · refine L.nil (E.then (T.cond rfl (λh=>nomatch h) (λ_=> ?_)))
    refine T.skip (E.then (T.seq (T.region ?_)))
    refine L.a [] [] (Ac.bs (ty:=aS) (xs:=[]) .nil rfl rfl rfl rfl rfl rfl rfl) rfl rfl rfl rfl rfl ?_
    intro g1
    refine L.q 1 rfl ?_
    refine L.a [0] [0] (Ac.ap (ty:=aS) h0 rfl rfl rfl rfl rfl rfl rfl) rfl rfl rfl rfl rfl ?_
    rintro ⟨a1,c1⟩
    refine L.q 1 rfl ?_
    refine L.nil (E.then (T.ret ?_))
    subst r
    exact E.ret (a1,c1) [0] [] (.tmp rfl .nil) rfl rfl rfl
theorem vS {r_:aE} {r:aE} (H:kD r_=some r):CT G 153 [.agg #[.slice A0 r_.cells.length C0,.bool r_.wrapped]] [] [Im.sl aS A0 C0 r_.cells] (λh:(Option Addr×Nat)=> .agg #[.slice h.1 r.cells.length h.2,.bool r.wrapped]) (λh=>[]) (λh=>[Im.sl aS h.1 h.2 r.cells]):=by
 delta kD at H
 refine Cf Go.Proofs.Tryz.func153 λK=> ?_
 refine Z1 ?_
 refine Lx λg1=> ?_
 refine Ll λg2=> ?_
 refine Y1 ?_
 refine Td [6] [0,0] mo ?_
 refine Dq 0 ?_
 refine Db 1 1 ?_
 refine Dq 3 ?_
 refine Db 4 1 ?_
 have ⟨e,a,b⟩:=bnd H
 refine Dk [] [0] (jf A0 C0 a) λ⟨c,d⟩=> ?_
 refine Dq 5 ?_
 refine Dt 0 ?_
 refine Dn ?_
 refine Z0 ?_
 refine E.frz 2 rfl ?_
 cases b
 exact Eo (c,d) [] [0] (.cell 0 rfl rfl rfl .nil)
theorem qR {l:List aE} {r:(List aE)} (H:jm l=some r):CT G 145 [.slice A0 l.length C0] [Ch.arr aD 116 A0 C0 l] [] (λh:Nat=> .func (.func 152) #[] #[.pointer (some ⟨h,0,none⟩)]) (λh=>[Ch.box h 56 [.slice A0 r.length C0],Ch.arr aD 116 A0 C0 r]) (λh=>[]):=by
 delta jm at H
 refine Cf Go.Proofs.Tryz.func145 λK=> ?_
 refine Z1 ?_
 refine Lx λg1=> ?_
 refine Z1 ?_
 cases H
 exact Eo1 g1 [0,0] []
theorem o6 {σ η:Type} {Y:σ->aE->Option (σ×Bool)} {y0:σ} {x1:List aE} {yl:Nat} {C:σ->η->Ch} (hY: ∀ s (h:η) (x:aE) (t:(Option Addr×Nat)) z,Y s x=some z->YT G yl [.agg #[.slice t.1 x.cells.length t.2,.bool x.wrapped]] [C s h] [Im.sl aS t.1 t.2 x.cells] (λ_:η=> .bool z.2) (λh2=>[C z.1 h2]) (λ_=>[])) (h0:η) (g_1:Nat) (a_1_0:Option Addr) (c_1_0:Nat) {r:σ} (H:fI Y y0 x1=some r):CT G 152 [.func (.yield yl) #[] #[],.pointer (some ⟨g_1,0,none⟩)] [C y0 h0,Ch.box g_1 56 [.slice a_1_0 x1.length c_1_0],Ch.arr aD 116 a_1_0 c_1_0 x1] [] (λh:η=> .tuple #[]) (λh=>[C r h,Ch.box g_1 56 [.slice a_1_0 x1.length c_1_0],Ch.arr aD 116 a_1_0 c_1_0 x1]) (λh=>[]):=by
  delta fI at H
  refine Cf Go.Proofs.Tryz.func152 λK=> ?_
  refine Z1 ?_
  have ⟨e,p,j⟩:=bnd H
  refine T.n7 (η:=σ×(η)) (λh=>e = .inl h.1) (λh=>(λc=>(λa=>[]) h.2) h.1) (λh=>(λc=>(λa=>[C c a,Ch.box g_1 56 [.slice a_1_0 x1.length c_1_0],Ch.arr aD 116 a_1_0 c_1_0 x1]) h.2) h.1) (λh=>(λc=>(λa=>[]) h.2) h.1) ?_ ?_
  ·refine Yl0 ?_
   refine Tq (η:=η) (λb h=>(λd=>[(7,.int .i64 b.1)]) h) [0,5,6] (λb h=>(λd=>[C b.2 d]) h) [1,2] (λ_ _=>[]) h0 [0,0,0] [] p ?_
   rintro k_ b d q u w k
   refine Y2 ?_
   refine Tb u (λf=> ?_) λf=> ?_
   ·refine Z1 ?_
    refine Zl ?_
    refine Z1 ?_
    have ⟨l,g,y⟩:=bnd f
    refine L.iG 2 rfl (bH g) λP A=> ?_
    subst A
    refine Ly (Yl.ia g rfl rfl rfl rfl rfl rfl) ?_
    refine La [2] [] (Ac.lo b.1.toNat 0 (v:=(λh:(Option Addr×Nat)=>(λm n=> .agg #[.slice m l.cells.length n,.bool l.wrapped]) h.1 h.2)) (aJ g).2 rfl rfl rfl (λ_=>rfl)) ?_
    rintro ⟨m,n⟩
    refine Ll λQ=> ?_
    refine Lt 0 ?_
    refine Z1 ?_
    have ⟨R,B,F⟩:=bnd y
    refine Lk [] [0] (vS B) λ⟨I,J⟩=> ?_
    have ⟨S,M,N⟩:=bnd F
    refine L.yd [2] [0] (hY _ _ _ (I,J) _ M) rfl rfl rfl rfl rfl rfl rfl rfl ?_
    intro o
    refine Z0 ?_
    refine Tb N (λi=> ?_) λi=> ?_
    ·refine Z0 ?_
     obtain ⟨U,hz,O⟩:=bQ i
     subst q
     have hb:=k _ rfl
     subst e
     obtain rfl:=(sm j).symm
     refine Z0 ?_
     cases O
     exact Eo o [0,2,1] [] .nil
    refine Z0 ?_
    cases i
    exact Eg (_,o) (w _ rfl) [0,2,1] [] 2
   refine Z0 ?_
   cases f
   have hb:=k _ rfl
   subst e
   exact Egx (_,d) rfl [0,0,0] []
  rintro ⟨c,a⟩ hy
  subst hy
  refine E.off ?_
  cases j
  exact Eo a [0,0,0] [] .nil
theorem lO {l:List aE} {r:(List aE)×(List aE)} (H:fJ l=some r):CT G 126 [.slice A0 l.length C0] [Ch.arr aD 116 A0 C0 l] [] (λh:(Option Addr×Nat)=> .slice h.1 r.1.length h.2) (λh=>[Ch.arr aD 116 h.1 h.2 r.1,Ch.arr aD 116 A0 C0 r.2]) (λh=>[]):=by
 delta fJ at H
 refine Cf Go.Proofs.Tryz.func126 λK=> ?_
 refine T.qX ?_
 refine Z2 ?_
 refine Ll λg1=> ?_
 refine Z2 ?_
 have ⟨r2,h3,H4⟩:=bnd H
 refine Lk [2] [] (qR h3) λg5=> ?_
 refine Yl0 ?_
 refine T.gC aD 116 ?_
 have ⟨e,f,g⟩:=bnd H4
 refine T.rf2 (σ:=(List aE)) (η:=(Option Addr×Nat)) (X:=aE) (θ:=(Option Addr×Nat)) (τ:=(Option Addr×Nat)) (s1:=e) (hx:=λx=>x) (λx t=>[.agg #[.slice t.1 x.cells.length t.2,.bool x.wrapped]]) (λx t=>[Im.sl aS t.1 t.2 x.cells]) (λ_=>none) (λa h=>(λb c=>[Ch.arr aD 116 b c a,Ch.box g1 56 [.slice b a.length c]]) h.1 h.2) (λa h=>(λb c=>[]) h.1 h.2) 4 [0,2,0,0] [] [] rfl rfl (λ_ _=>rfl) rfl (λyl C hY=>(o6 hY (none,0) g5 A0 C0 f:_)) (λ_ _ _ _=>rfl) rfl rfl rfl rfl rfl ?_ rfl ?_
 ·rintro yl K2 a ⟨b,c⟩ x9 ⟨a7,c8⟩ o i
  refine Z0 ?_
  refine Ll λp=> ?_
  refine Lt 0 ?_
  refine Z0 ?_
  refine E.begin λK3=> ?_
  refine Zl ?_
  refine La [] [0] (Ac.bs (ty:=aD) (xs:=[x9]) (.cons (a7,c8) [0] rfl .nil) rfl rfl rfl rfl rfl rfl rfl) λq=> ?_
  refine L.frz 0 rfl ?_
  have ⟨_,j,k⟩:=bnd i
  refine La [1] [0] (Ac.ap (ty:=aD) j rfl rfl rfl rfl rfl rfl rfl) ?_
  rintro ⟨m,n⟩
  refine Lt 2 ?_
  refine Z0 ?_
  cases k
  exact E.on (m,n) [1,0] [] rfl rfl rfl rfl
 rintro d s
 refine Z1 ?_
 cases g
 exact E.pK (d.1,d.2) 0 [0,2] [] rfl (.tmp rfl .nil) rfl rfl rfl
theorem oH {g:cN} {r:cN×cN} (H:gk g=some r):CT G 125 [.pointer (some ⟨N0,0,none⟩)] [Ch.box N0 218 [.int .i64 g.w,.slice A0 g.l.length C0],Ch.arr aD 116 A0 C0 g.l] [] (λh:Nat×(Option Addr×Nat)=> .pointer (some ⟨h.1,0,none⟩)) (λh=>[Ch.box h.1 218 [.int .i64 r.1.w,.slice h.2.1 r.1.l.length h.2.2],Ch.arr aD 116 h.2.1 h.2.2 r.1.l,Ch.box N0 218 [.int .i64 r.2.w,.slice A0 r.2.l.length C0],Ch.arr aD 116 A0 C0 r.2.l]) (λh=>[]):=by
 delta gk at H
 refine Cf Go.Proofs.Tryz.func125 λK=> ?_
 refine Y2 ?_
 refine Td [] [0] mo ?_
 refine Dq 0 ?_
 refine Dq 1 ?_
 refine Dq 2 ?_
 refine Db 3 0 ?_
 refine Dq 4 ?_
 refine Dq 5 ?_
 refine Dq 6 ?_
 refine Db 7 0 ?_
 have ⟨a,b,c⟩:=bnd H
 refine Dk [0] [] (lO b) λ⟨d,e⟩=> ?_
 have ⟨_,f,i⟩:=bnd c
 refine Dq 9 ?_
 refine Da [] [] rfl rfl (Ac.box rfl rfl) λj=> ?_
 refine Dq 11 ?_
 refine Dn ?_
 refine E.bx 0 (cs':=[.int .i64 g.w,.slice A0 a.2.length C0]) (by rw [(eE f)]) rfl ?_
 refine Z0 ?_
 cases i
 exact Eo1 (j,(d,e)) [1,1,0,0] []
theorem mM {s_:aT} {r:cN×aT} (H:fp s_=some r):CT G 84 [.pointer (some ⟨N0,0,none⟩)] [Ch.box N0 175 (lM s_ N1),Ch.box N1 218 [.int .i64 s_.g.w,.slice A0 s_.g.l.length C0],Ch.arr aD 116 A0 C0 s_.g.l] [] (λh:Nat×(Option Addr×Nat)=> .pointer (some ⟨h.1,0,none⟩)) (λh=>[Ch.box h.1 218 [.int .i64 r.1.w,.slice h.2.1 r.1.l.length h.2.2],Ch.arr aD 116 h.2.1 h.2.2 r.1.l,Ch.box N0 175 (lM r.2 N1),Ch.box N1 218 [.int .i64 r.2.g.w,.slice A0 r.2.g.l.length C0],Ch.arr aD 116 A0 C0 r.2.g.l]) (λh=>[]):=by
 delta fp at H
 refine Cf Go.Proofs.Tryz.func84 λK=> ?_
 refine Z2 ?_
 have ⟨r1,h2,H3⟩:=bnd H
 refine Lk [1,1] [] (oH h2) λ⟨g4,⟨a5,c6⟩⟩=> ?_
 refine Z0 ?_
 cases H3
 exact Eo1 (g4,(a5,c6)) [0,0,2,0,0] []
theorem mr {s_:aT} {r:ByteArray} (H:fS s_=some r):CT G 85 [.pointer (some ⟨N0,0,none⟩)] [Ch.box N0 175 (lM s_ N1),Ch.box N1 218 [.int .i64 s_.g.w,.slice A0 s_.g.l.length C0],Ch.arr aD 116 A0 C0 s_.g.l] [] (λ_:Unit=> .string r) (λh=>[Ch.box N0 175 (lM s_ N1),Ch.box N1 218 [.int .i64 s_.g.w,.slice A0 s_.g.l.length C0],Ch.arr aD 116 A0 C0 s_.g.l]) (λh=>[]):=by
 delta fS at H
 refine Cf Go.Proofs.Tryz.func85 λK=> ?_
 refine Z2 ?_
 cases H
 exact Eo1 () [0,0,0] []
theorem o7 {g:cN} {r:(List aE)×cN} (H:gK g=some r):CT G 86 [.pointer (some ⟨N0,0,none⟩)] [Ch.box N0 218 [.int .i64 g.w,.slice A0 g.l.length C0],Ch.arr aD 116 A0 C0 g.l] [] (λh:(Option Addr×Nat)=> .slice h.1 r.1.length h.2) (λh=>[Ch.arr aD 116 h.1 h.2 r.1,Ch.box N0 218 [.int .i64 r.2.w,.slice A0 r.2.l.length C0],Ch.arr aD 116 A0 C0 r.2.l]) (λh=>[]):=by
 delta gK at H
 refine Cf Go.Proofs.Tryz.func86 λK=> ?_
 refine Z2 ?_
 have ⟨r1,h2,H3⟩:=bnd H
 refine Lk [1] [] (lO h2) λ⟨a4,c5⟩=> ?_
 have ⟨_,h8,H9⟩:=bnd H3
 refine L.bx 2 (cs':=[.int .i64 g.w,.slice A0 r1.2.length C0]) (by rw [eE h8]) rfl ?_
 refine Z0 ?_
 cases H9
 exact Eo1 (a4,c5) [1,0,0] []
theorem mf {b:fZ} {r:Int} (H:gW b=some r):CT G 87 [.pointer (some ⟨N0,0,none⟩)] [Ch.box N0 167 [.slice A0 b.l.length C0,.slice A1 b.ff.length C1,.slice A2 b.begun.length C2],Ch.arr (Ty.slice aB) 57 A0 C0 b.l,Ch.arr (Ty.int .i64) 3 A1 C1 b.ff,Ch.arr aB 121 A2 C2 b.begun] [] (λ_:Unit=> .int .i64 r) (λh=>[Ch.box N0 167 [.slice A0 b.l.length C0,.slice A1 b.ff.length C1,.slice A2 b.begun.length C2],Ch.arr (Ty.slice aB) 57 A0 C0 b.l,Ch.arr (Ty.int .i64) 3 A1 C1 b.ff,Ch.arr aB 121 A2 C2 b.begun]) (λh=>[]):=by
 delta gW at H
 refine Cf Go.Proofs.Tryz.func87 λK=> ?_
 refine Z2 ?_
 cases H
 exact Eo1 () [0,0,0,0] []
theorem oI {b:fZ} {n_:Int} {r:Int} (H:gg b n_=some r):CT G 88 [.pointer (some ⟨N0,0,none⟩),.int .i64 n_] [Ch.box N0 167 [.slice A0 b.l.length C0,.slice A1 b.ff.length C1,.slice A2 b.begun.length C2],Ch.arr (Ty.slice aB) 57 A0 C0 b.l,Ch.arr (Ty.int .i64) 3 A1 C1 b.ff,Ch.arr aB 121 A2 C2 b.begun] [] (λ_:Unit=> .int .i64 r) (λh=>[Ch.box N0 167 [.slice A0 b.l.length C0,.slice A1 b.ff.length C1,.slice A2 b.begun.length C2],Ch.arr (Ty.slice aB) 57 A0 C0 b.l,Ch.arr (Ty.int .i64) 3 A1 C1 b.ff,Ch.arr aB 121 A2 C2 b.begun]) (λh=>[]):=by
 delta gg at H
 refine Cf Go.Proofs.Tryz.func88 λK=> ?_
 refine Y2 ?_
 refine Td [] [0,0,0,0] mo ?_
 refine Dq 0 ?_
 refine Dq 1 ?_
 refine Dq 2 ?_
 refine Db 3 0 ?_
 refine Dq 4 ?_
 refine Dq 5 ?_
 refine Dq 6 ?_
 refine Dq 7 ?_
 refine Db 8 0 ?_
 refine Dq 9 ?_
 refine Dq 10 ?_
 refine Dq 11 ?_
 have ⟨c,a,d⟩:=bnd H
 refine D.iG 2 rfl (bH a) λf e=> ?_
 subst e
 refine Dy 12 (Yl.ia a rfl rfl rfl rfl rfl rfl) ?_
 refine Dy 13 (Yl.lo (v:= .int .i64 c) 2 ((imax 0 (gG n_ (b.l.length:Int))).toNat) 0 (aJ a).2 rfl rfl rfl rfl (λ_=>rfl)) ?_
 refine Dq 14 ?_
 refine Dn ?_
 refine Z0 ?_
 cases d
 exact Eo1 () [0,0,0,0] []
theorem lu {s_:List aG} (a_0:Option Addr) (c_0:Nat) {r:List aG} (H:cC s_=some r):CT G 54 [.slice a_0 s_.length c_0] [] [Im.sl aB a_0 c_0 s_] (λh:(Option Addr×Nat)=> .slice h.1 r.length h.2) (λh=>[Ch.arr aB 121 h.1 h.2 r]) (λh=>[]):=by
  delta cC at H
  refine Cf Go.Proofs.Tryz.func54 λK=> ?_
  have ⟨_,h0,H⟩:=bnd H
  have hr:=Option.some.inj H
  refine T.seq (T.region (L.q 1 rfl (L.nil (E.then (T.seq (T.seq (T.region ?_)))))))
  refine L.q 1 rfl ?_
  refine L.DZ 0 rfl rfl rfl rfl rfl rfl rfl rfl rfl (λha hx=> ?_) ?_
  · refine L.nil (E.then (T.cond rfl (λ_=> ?_) (λh=>nomatch h)))
    refine T.seq (T.region (L.q 1 rfl (L.nil (E.then (T.ret (E.n0 ?_))))))
    subst hx
    subst r
    refine E.gC aB 121 ?_
    exact E.ret (none,0) [0] [] (.tmp rfl .nil) rfl rfl rfl
  · refine L.nil (E.then (T.cond rfl (λh=>nomatch h) (λ_=> ?_)))
    refine T.skip (E.then (T.seq (T.region ?_)))
    refine L.a [] [] (Ac.bs (ty:=aB) (xs:=[]) .nil rfl rfl rfl rfl rfl rfl rfl) rfl rfl rfl rfl rfl ?_
    intro g1
    refine L.q 1 rfl ?_
    refine L.a [0] [0] (Ac.ap (ty:=aB) h0 rfl rfl rfl rfl rfl rfl rfl) rfl rfl rfl rfl rfl ?_
    rintro ⟨a1,c1⟩
    refine L.q 1 rfl ?_
    refine L.nil (E.then (T.ret ?_))
    subst r
    exact E.ret (a1,c1) [0] [] (.tmp rfl .nil) rfl rfl rfl
theorem kL {s_:List aG} (a_0:Option Addr) (c_0:Nat) {r:List aG} (H:cC s_=some r):CT G 54 [.slice a_0 s_.length c_0] [Ch.arr aB 121 a_0 c_0 s_] [] (λh:(Option Addr×Nat)=> .slice h.1 r.length h.2) (λh=>[Ch.arr aB 121 h.1 h.2 r,Ch.arr aB 121 a_0 c_0 s_]) (λh=>[]):=by
  delta cC at H
  refine Cf Go.Proofs.Tryz.func54 λK=> ?_
  have ⟨_,h0,H⟩:=bnd H
  have hr:=Option.some.inj H
  refine T.seq (T.region (L.q 1 rfl (L.nil (E.then (T.seq (T.seq (T.region ?_)))))))
  refine L.cap 0 rfl λhle=> ?_
  have hv:=Cp (ty:=aB) (a0:=a_0) hle
  rw [<- wy s_] at h0 hr
  refine L.sl 0 (k':=(cut s_ 0 (s_.length:Int)).length) (by rw [wy]) rfl ?_
  refine L.q 1 rfl ?_
  refine L.Ey 0 hv rfl rfl rfl rfl rfl rfl rfl rfl rfl (λhx=> ?_) ?_
  · refine L.nil (E.then (T.cond rfl (λ_=> ?_) (λh=>nomatch h)))
    refine T.seq (T.region (L.q 1 rfl (L.nil (E.then (T.ret (E.n0 ?_))))))
    rw [hx] at hr
    subst r
    refine E.gC aB 121 ?_
    exact E.ret (none,0) [0,0] [] (.tmp rfl .nil) rfl rfl rfl
  · refine L.nil (E.then (T.cond rfl (λh=>nomatch h) (λ_=> ?_)))
    refine T.skip (E.then (T.seq (T.region ?_)))
    refine L.a [] [] (Ac.bs (ty:=aB) (xs:=[]) .nil rfl rfl rfl rfl rfl rfl rfl) rfl rfl rfl rfl rfl ?_
    intro g1
    refine L.q 1 rfl ?_
    refine L.a [0,0] [] (Ac.apv (ty:=aB) hv h0 rfl rfl rfl rfl rfl rfl rfl) rfl rfl rfl rfl rfl ?_
    rintro ⟨a1,c1⟩
    refine L.q 1 rfl ?_
    refine L.nil (E.then (T.ret ?_))
    subst r
    exact E.ret (a1,c1) [0,0] [] (.tmp rfl .nil) rfl rfl rfl
theorem oJ {b:fZ} {r:(List aG)} (H:gj b=some r):CT G 89 [.pointer (some ⟨N0,0,none⟩)] [Ch.box N0 167 [.slice A0 b.l.length C0,.slice A1 b.ff.length C1,.slice A2 b.begun.length C2],Ch.arr (Ty.slice aB) 57 A0 C0 b.l,Ch.arr (Ty.int .i64) 3 A1 C1 b.ff,Ch.arr aB 121 A2 C2 b.begun] [] (λh:(Option Addr×Nat)=> .slice h.1 r.length h.2) (λh=>[Ch.arr aB 121 h.1 h.2 r,Ch.box N0 167 [.slice A0 b.l.length C0,.slice A1 b.ff.length C1,.slice A2 b.begun.length C2],Ch.arr (Ty.slice aB) 57 A0 C0 b.l,Ch.arr (Ty.int .i64) 3 A1 C1 b.ff,Ch.arr aB 121 A2 C2 b.begun]) (λh=>[]):=by
 delta gj at H
 refine Cf Go.Proofs.Tryz.func89 λK=> ?_
 refine Z2 ?_
 have ⟨r1,h2,H3⟩:=bnd H
 refine Lk [3] [] (kL A2 C2 h2) λ⟨a4,c5⟩=> ?_
 refine Z0 ?_
 cases H3
 exact Eo1 (a4,c5) [0,1,1,1,0] []
theorem ma {s_:aT} {r:Int×Int} (H:fD s_=some r):CT G 90 [.pointer (some ⟨N0,0,none⟩)] [Ch.box N0 175 (lM s_ N1),Ch.box N1 218 [.int .i64 s_.g.w,.slice A0 s_.g.l.length C0],Ch.arr aD 116 A0 C0 s_.g.l] [] (λ_:Unit=> .tuple #[.int .i64 r.1,.int .i64 r.2]) (λh=>[Ch.box N0 175 (lM s_ N1),Ch.box N1 218 [.int .i64 s_.g.w,.slice A0 s_.g.l.length C0],Ch.arr aD 116 A0 C0 s_.g.l]) (λh=>[]):=by
 delta fD at H
 refine Cf Go.Proofs.Tryz.func90 λK=> ?_
 refine Y2 ?_
 refine Td [] [0,0,0] mo ?_
 refine Dq 0 ?_
 refine Dq 1 ?_
 refine Dq 2 ?_
 refine Dq 3 ?_
 refine Db 4 0 ?_
 refine Dq 5 ?_
 refine Dq 6 ?_
 refine Dq 7 ?_
 refine Dq 8 ?_
 refine Db 9 0 ?_
 refine Dq 10 ?_
 refine Dq 11 ?_
 refine Dn ?_
 refine Z0 ?_
 cases H
 exact Eo () [0,0,0] [] (.tmp rfl (.tmp rfl .nil))
theorem xZ {k:Int} {s_:aT} {b:fZ} {r:aC×aT} (H:mX k s_ b=some r):CT G 42 [.int .i64 k,.pointer (some ⟨N0,0,none⟩),.pointer (some ⟨N2,0,none⟩)] [Ch.box N0 175 (lM s_ N1),Ch.box N1 218 [.int .i64 s_.g.w,.slice A0 s_.g.l.length C0],Ch.arr aD 116 A0 C0 s_.g.l,Ch.box N2 167 [.slice A1 b.l.length C1,.slice A2 b.ff.length C2,.slice A3 b.begun.length C3],Ch.arr (Ty.slice aB) 57 A1 C1 b.l,Ch.arr (Ty.int .i64) 3 A2 C2 b.ff,Ch.arr aB 121 A3 C3 b.begun] [] (λh:(Option Addr×Nat)×(Option Addr×Nat)=> .agg (gO r.1 h.1.1 h.1.2 h.2.1 h.2.2).toArray) (λh=>[Ch.box N0 175 (lM r.2 N1),Ch.box N1 218 [.int .i64 r.2.g.w,.slice A0 r.2.g.l.length C0],Ch.arr aD 116 A0 C0 r.2.g.l,Ch.box N2 167 [.slice A1 b.l.length C1,.slice A2 b.ff.length C2,.slice A3 b.begun.length C3],Ch.arr (Ty.slice aB) 57 A1 C1 b.l,Ch.arr (Ty.int .i64) 3 A2 C2 b.ff,Ch.arr aB 121 A3 C3 b.begun]) (λh=>[Im.sl aD h.1.1 h.1.2 r.1.rows,Im.sl aB h.2.1 h.2.2 r.1.begun]):=by
 delta mX at H
 refine Cf Go.Proofs.Tryz.func42 λK=> ?_
 refine Z1 ?_
 refine Ll λg1=> ?_
 refine Z1 ?_
 have ⟨r2,h3,H4⟩:=bnd H
 refine Lk [1,1,1] [] (mM h3) λ⟨g5,⟨a6,c7⟩⟩=> ?_
 refine Z1 ?_
 have ⟨B,a,c⟩:=bnd H4
 refine Lk [2,2,2] [] (mr a) λ⟨⟩=> ?_
 refine Z0 ?_
 have ⟨C,d,e⟩:=bnd c
 refine Lk [3,3] [] (o7 d) λ⟨f,i⟩=> ?_
 refine Z0 ?_
 have ⟨F,j,m⟩:=bnd e
 refine Lk [7,7,7,7] [] (mf j) λ⟨⟩=> ?_
 refine Z0 ?_
 have ⟨I,n,o⟩:=bnd m
 refine Lk [0,0,0,0] [] (mf n) λ⟨⟩=> ?_
 have ⟨J,p,q⟩:=bnd o
 refine Lk [0,0,0,0] [] (oI p) λ⟨⟩=> ?_
 refine Z0 ?_
 have ⟨M,s,t⟩:=bnd q
 refine Lk [0,0,0,0] [] (oJ s) λ⟨u,v⟩=> ?_
 refine Z0 ?_
 refine Ll λN=> ?_
 refine Lt 0 ?_
 refine Z1 ?_
 have ⟨O,x,y⟩:=bnd t
 refine Lk [7,7] [] (lN x) λ⟨⟩=> ?_
 refine Z0 ?_
 refine Lt 2 ?_
 refine Z0 ?_
 refine Lt 0 ?_
 refine Z1 ?_
 have ⟨P,z,A⟩:=bnd y
 refine Lk [9,9,9] [] (ma z) λ⟨⟩=> ?_
 refine Z0 ?_
 refine Lt 3 ?_
 refine Z0 ?_
 refine Lt 0 ?_
 refine Z1 ?_
 refine Lt 12 ?_
 refine Z0 ?_
 refine E.frz 12 rfl ?_
 refine E.frz 7 rfl ?_
 cases A
 exact Eo ((f,i),(u,v)) [2,2,2,4,4,4,4] [1,0] (.cell 0 rfl rfl rfl .nil)
theorem kM {m_:dJ} {r:aC×dJ} (H:eC m_=some r):CT G 15 [.pointer (some ⟨N0,0,none⟩)] [Ch.box N0 108 (w8 m_ N1 N2 N3),Ch.box N1 167 [.slice A0 m_.book.l.length C0,.slice A1 m_.book.ff.length C1,.slice A2 m_.book.begun.length C2],Ch.arr (Ty.slice aB) 57 A0 C0 m_.book.l,Ch.arr (Ty.int .i64) 3 A1 C1 m_.book.ff,Ch.arr aB 121 A2 C2 m_.book.begun,Ch.box N2 104 (pY m_.parser A3 C3),Ch.opt (m_.parser.state == (3:Int)) (Ty.int .i64) 3 A3 C3 m_.parser.order.bW,Ch.box N3 175 (lM m_.bP N4),Ch.box N4 218 [.int .i64 m_.bP.g.w,.slice A5 m_.bP.g.l.length C5],Ch.arr aD 116 A5 C5 m_.bP.g.l] [] (λh:(Option Addr×Nat)×(Option Addr×Nat)×(Option Addr×Nat)=> .agg (gO r.1 h.1.1 h.1.2 h.2.1.1 h.2.1.2).toArray) (λh=>[Ch.box N0 108 (w8 r.2 N1 N2 N3),Ch.box N1 167 [.slice A0 r.2.book.l.length C0,.slice A1 r.2.book.ff.length C1,.slice A2 r.2.book.begun.length C2],Ch.arr (Ty.slice aB) 57 A0 C0 r.2.book.l,Ch.arr (Ty.int .i64) 3 A1 C1 r.2.book.ff,Ch.arr aB 121 A2 C2 r.2.book.begun,Ch.box N2 104 (pY r.2.parser A3 C3),Ch.opt (r.2.parser.state == (3:Int)) (Ty.int .i64) 3 A3 C3 r.2.parser.order.bW,Ch.box N3 175 (lM r.2.bP N4),Ch.box N4 218 [.int .i64 r.2.bP.g.w,.slice A5 r.2.bP.g.l.length C5],Ch.arr aD 116 A5 C5 r.2.bP.g.l]) (λh=>[Im.sl aD h.1.1 h.1.2 r.1.rows,Im.sl aB h.2.1.1 h.2.1.2 r.1.begun]):=by
 delta eC at H
 refine Cf Go.Proofs.Tryz.func15 λK=> ?_
 refine Z1 ?_
 refine Ll λg1=> ?_
 refine Y1 ?_
 refine Td [14] [0,0,4,4] mo ?_
 refine Dq 0 ?_
 refine Dq 1 ?_
 refine Dq 2 ?_
 refine Db 3 1 ?_
 refine Dq 4 ?_
 refine Dq 5 ?_
 refine Dq 6 ?_
 refine Dq 7 ?_
 refine Db 8 1 ?_
 refine Dq 9 ?_
 refine Dq 10 ?_
 refine Dq 11 ?_
 refine Db 12 1 ?_
 have ⟨i,a,b⟩:=bnd H
 refine Dk [4,4,4,0,0,0,0] [] (xZ a) λ⟨⟨c,d⟩,⟨e,f⟩⟩=> ?_
 refine Dt 0 ?_
 refine Dn ?_
 refine Z0 ?_
 cases b
 exact Eo ((c,d),(e,f),(none,0)) [1,6,6,6,6,1,1,1,1,1] [0,1] (.cell 0 rfl rfl rfl .nil)
theorem lf {s_:aC} {r:Bool} (H:eP s_=some r):CT G 76 [.agg (gO s_ A0 C0 A1 C1).toArray] [] [Im.sl aD A0 C0 s_.rows,Im.sl aB A1 C1 s_.begun] (λ_:Unit=> .bool r) (λh=>[]) (λh=>[]):=by
 delta eP at H
 refine Cf Go.Proofs.Tryz.func76 λK=> ?_
 refine Z1 ?_
 refine Lx λg1=> ?_
 refine Y1 ?_
 have ⟨k,l,m⟩:=bnd H
 refine Tj0 [(2,.bool k)] [] [] [0] ?_ ?_
 ·refine Z0 ?_
  refine Lw 6 l (λa=> ?_) λa=> ?_
  ·refine Z0 ?_
   refine Lw 11 a (λb=> ?_) λb=> ?_
   ·refine Z0 ?_
    refine Lw 16 b (λc=> ?_) λc=> ?_
    ·refine Z0 ?_
     refine Lw 21 c (λd=> ?_) λd=> ?_
     ·refine Z0 ?_
      refine Lw 26 d (λe=> ?_) λe=> ?_
      ·refine Z0 ?_
       refine Lw 31 e (λf=> ?_) λf=> ?_
       ·refine Z0 ?_
        refine Lw 37 f (λg=> ?_) λg=> ?_
        ·refine Z0 ?_
         refine Lw 42 g (λi=> ?_) λi=> ?_
         ·refine Z0 ?_
          refine Lw 47 i (λj=> ?_) λj=> ?_
          ·refine Z0 ?_
           cases j
           exact Eg0 [0] 0
          refine Z0 ?_
          cases j
          exact Eg0 [0] 0
         refine Z0 ?_
         cases i
         exact Eg0 [0] 0
        refine Z0 ?_
        cases g
        exact Eg0 [0] 0
       refine Z0 ?_
       cases f
       exact Eg0 [0] 0
      refine Z0 ?_
      cases e
      exact Eg0 [0] 0
     refine Z0 ?_
     cases d
     exact Eg0 [0] 0
    refine Z0 ?_
    cases c
    exact Eg0 [0] 0
   refine Z0 ?_
   cases b
   exact Eg0 [0] 0
  refine Z0 ?_
  cases a
  exact Eg0 [0] 0
 refine Z0 ?_
 cases m
 exact Eo1 () [] []
theorem eM {n_:Int} {lo:Int} {hi:Int} {r:Bool} (H:cW n_ lo hi=some r):CT G 122 [.int .i64 n_,.int .i64 lo,.int .i64 hi] [] [] (λ_:Unit=> .bool r) (λh=>[]) (λh=>[]):=by
 delta cW at H
 refine Cf Go.Proofs.Tryz.func122 λK=> ?_
 refine Y2 ?_
 have ⟨e4,H5,H6⟩:=bnd H
 refine Tj0 [(6,.bool e4)] [] [] [] ?_ ?_
 ·refine Z0 ?_
  refine Lw 10 H5 (λH7=> ?_) λH7=> ?_
  ·refine Z0 ?_
   cases H7
   exact Eg0 [] 0
  refine Z0 ?_
  cases H7
  exact Eg0 [] 0
 refine Z0 ?_
 cases H6
 exact Eo1 () [] []
theorem oK {s_:aC} {r:Bool} (H:gm s_=some r):CT G 77 [.agg (gO s_ A0 C0 A1 C1).toArray] [] [Im.sl aD A0 C0 s_.rows,Im.sl aB A1 C1 s_.begun] (λ_:Unit=> .bool r) (λh=>[]) (λh=>[]):=by
 delta gm at H
 refine Cf Go.Proofs.Tryz.func77 λK=> ?_
 refine Z1 ?_
 refine Lx λg1=> ?_
 refine Y1 ?_
 have ⟨k,l,m⟩:=bnd H
 refine Tj0 [(2,.bool k)] [] [] [0] ?_ ?_
 ·refine Z0 ?_
  have ⟨C,n,o⟩:=bnd l
  refine Lk [] [] (eM n) λ⟨⟩=> ?_
  refine Z0 ?_
  refine Lw 6 o (λa=> ?_) λa=> ?_
  ·refine Z0 ?_
   have ⟨F,p,q⟩:=bnd a
   refine Lk [] [] (eM p) λ⟨⟩=> ?_
   refine Z0 ?_
   refine Lw 11 q (λb=> ?_) λb=> ?_
   ·refine Z0 ?_
    have ⟨I,s,t⟩:=bnd b
    refine Lk [] [] (eM s) λ⟨⟩=> ?_
    refine Z0 ?_
    refine Lw 16 t (λc=> ?_) λc=> ?_
    ·refine Z0 ?_
     have ⟨J,u,v⟩:=bnd c
     refine Lk [] [] (eM u) λ⟨⟩=> ?_
     refine Z0 ?_
     refine Lw 24 v (λd=> ?_) λd=> ?_
     ·refine Z0 ?_
      have ⟨M,w,x⟩:=bnd d
      refine Lk [] [] (eM w) λ⟨⟩=> ?_
      refine Z0 ?_
      refine Lw 32 x (λe=> ?_) λe=> ?_
      ·refine Z0 ?_
       refine Lw 40 e (λf=> ?_) λf=> ?_
       ·refine Z0 ?_
        refine Lw 46 f (λg=> ?_) λg=> ?_
        ·refine Z0 ?_
         have ⟨N,y,z⟩:=bnd g
         refine Lk [] [] (eM y) λ⟨⟩=> ?_
         refine Z0 ?_
         refine Lw 51 z (λi=> ?_) λi=> ?_
         ·refine Z0 ?_
          have ⟨O,A,B⟩:=bnd i
          refine Lk [] [] (eM A) λ⟨⟩=> ?_
          refine Z0 ?_
          refine Lw 56 B (λj=> ?_) λj=> ?_
          ·refine Z0 ?_
           cases j
           exact Eg0 [0] 0
          refine Z0 ?_
          cases j
          exact Eg0 [0] 0
         refine Z0 ?_
         cases i
         exact Eg0 [0] 0
        refine Z0 ?_
        cases g
        exact Eg0 [0] 0
       refine Z0 ?_
       cases f
       exact Eg0 [0] 0
      refine Z0 ?_
      cases e
      exact Eg0 [0] 0
     refine Z0 ?_
     cases d
     exact Eg0 [0] 0
    refine Z0 ?_
    cases c
    exact Eg0 [0] 0
   refine Z0 ?_
   cases b
   exact Eg0 [0] 0
  refine Z0 ?_
  cases a
  exact Eg0 [0] 0
 refine Z0 ?_
 cases m
 exact Eo1 () [] []
theorem oL {r_:Int} {aM:Int} {r:Bool} (H:iB r_ aM=some r):CT G 80 [.int .i32 r_,.int .i64 aM] [] [] (λ_:Unit=> .bool r) (λh=>[]) (λh=>[]):=by
 delta iB at H
 refine Cf Go.Proofs.Tryz.func80 λK=> ?_
 refine Y2 ?_
 have ⟨b,c,d⟩:=bnd H
 refine Tj0 [(4,.bool b)] [] [] [] ?_ ?_
 ·refine Z0 ?_
  have ⟨j,e,f⟩:=bnd c
  refine Lk [] [] (eM e) λ⟨⟩=> ?_
  refine Z0 ?_
  refine Lw 8 f (λa=> ?_) λa=> ?_
  ·refine Z0 ?_
   have ⟨k,g,i⟩:=bnd a
   refine Lk [] [] (eM g) λ⟨⟩=> ?_
   refine Z0 ?_
   cases i
   exact Eg0 [] 0
  refine Z0 ?_
  cases a
  exact Eg0 [] 0
 refine Z0 ?_
 cases d
 exact Eo1 () [] []
theorem ni {g:aG} {r:Bool} (H:fy g=some r):CT G 79 [.agg #[.int .i32 g.rune,.int .i64 g.aM]] [] [] (λ_:Unit=> .bool r) (λh=>[]) (λh=>[]):=by
 delta fy at H
 refine Cf Go.Proofs.Tryz.func79 λK=> ?_
 refine Z1 ?_
 refine Lx λg1=> ?_
 refine Z1 ?_
 have ⟨r2,h3,H4⟩:=bnd H
 refine Lk [] [] (oL h3) λ⟨⟩=> ?_
 refine Z0 ?_
 cases H4
 exact Eo1 () [] []
theorem g0 {s_:List aG} {r:Int} (H:cG s_=some r):CT G 123 [.slice A0 s_.length C0,.func (.func 79) #[] #[]] [] [Im.sl aB A0 C0 s_] (λ_:Unit=> .int .i64 r) (λh=>[]) (λh=>[]):=by
 delta cG at H
 refine Cf Go.Proofs.Tryz.func123 λK=> ?_
 refine Z3 ?_
 have ⟨a,i,e⟩:=bnd H
 refine Tj (η:=Unit×Unit) (λh=>a = .inl h.1) (λ_=>[]) [] (λ_=>[]) [] (λ_=>[]) ?_ ?_
 ·refine Yl0 ?_
  refine Tq (η:=Unit) (λf h=>[(8,.int .i64 f)]) [0,1,7] (λ_ _=>[]) [] (λ_ _=>[]) () [] [] i ?_
  rintro k_ f ⟨⟩ j k l g
  refine Y2 ?_
  refine Tb k (λb=> ?_) λb=> ?_
  ·refine Z1 ?_
   refine Zl ?_
   refine Z2 ?_
   have ⟨s,c,m⟩:=bnd b
   refine L.addr 0 rfl (bH c) λt u n=> ?_
   subst n
   refine Ly (Yl.ia c rfl rfl rfl rfl rfl rfl) ?_
   refine L.el 0 rfl (aJ c).2 ?_
   rintro _
   refine Lc 0 0 ?_
   have ⟨v,o,p⟩:=bnd m
   refine Lk [] [] (ni o) λ⟨⟩=> ?_
   refine Z0 ?_
   refine Tb p (λd=> ?_) λd=> ?_
   ·refine Z1 ?_
    obtain ⟨w,hz,q⟩:=bQ d
    subst j
    have hb:=g _ rfl
    subst a
    obtain rfl:=(sm e).symm
    refine Z0 ?_
    cases q
    exact Eo1 () [] []
   refine Z0 ?_
   cases d
   exact Eg (_,()) (l _ rfl) [] [] 1
  refine Z0 ?_
  cases b
  have hb:=g _ rfl
  subst a
  exact Eg (_,()) rfl [] [] 0
 rintro ⟨x,⟨⟩⟩ hy
 subst hy
 refine Z1 ?_
 cases e
 exact Eo1 () [] []
theorem gP {s_:List aG} {r:Bool} (H:bR s_=some r):CT G 78 [.slice A0 s_.length C0,.func (.func 79) #[] #[]] [] [Im.sl aB A0 C0 s_] (λ_:Unit=> .bool r) (λh=>[]) (λh=>[]):=by
 delta bR at H
 refine Cf Go.Proofs.Tryz.func78 λK=> ?_
 refine Z2 ?_
 have ⟨r1,h2,H3⟩:=bnd H
 refine Lk [] [0] (g0 h2) λ⟨⟩=> ?_
 refine Z0 ?_
 cases H3
 exact Eo1 () [] []
theorem uI {c:aF} {r:Bool} (H:jS c=some r):CT G 83 [.agg #[.int .i32 c.rune,.int .i64 c.aM,.int .i64 c.part]] [] [] (λ_:Unit=> .bool r) (λh=>[]) (λh=>[]):=by
 delta jS at H
 refine Cf Go.Proofs.Tryz.func83 λK=> ?_
 refine Z1 ?_
 refine Lx λg1=> ?_
 refine Y1 ?_
 have ⟨b,d,e⟩:=bnd H
 refine Tj0 [(2,.bool b)] [] [] [0] ?_ ?_
 ·refine Z0 ?_
  have ⟨k,f,g⟩:=bnd d
  refine Lk [] [] (oL f) λ⟨⟩=> ?_
  refine Z0 ?_
  refine Lw 8 g (λa=> ?_) λa=> ?_
  ·refine Z0 ?_
   have ⟨l,i,j⟩:=bnd a
   refine Lk [] [] (eM i) λ⟨⟩=> ?_
   refine Z0 ?_
   cases j
   exact Eg0 [0] 0
  refine Z0 ?_
  cases a
  exact Eg0 [0] 0
 refine Z0 ?_
 cases e
 exact Eo1 () [] []
theorem nj {c:aF} {r:Bool} (H:fz c=some r):CT G 82 [.agg #[.int .i32 c.rune,.int .i64 c.aM,.int .i64 c.part]] [] [] (λ_:Unit=> .bool r) (λh=>[]) (λh=>[]):=by
 delta fz at H
 refine Cf Go.Proofs.Tryz.func82 λK=> ?_
 refine Z1 ?_
 refine Lx λg1=> ?_
 refine Z1 ?_
 have ⟨r2,h3,H4⟩:=bnd H
 refine Lk [] [] (uI h3) λ⟨⟩=> ?_
 refine Z0 ?_
 cases H4
 exact Eo1 () [] []
theorem ig {s_:List aF} {r:Int} (H:cJ s_=some r):CT G 124 [.slice A0 s_.length C0,.func (.func 82) #[] #[]] [] [Im.sl aS A0 C0 s_] (λ_:Unit=> .int .i64 r) (λh=>[]) (λh=>[]):=by
 delta cJ at H
 refine Cf Go.Proofs.Tryz.func124 λK=> ?_
 refine Z3 ?_
 have ⟨a,i,e⟩:=bnd H
 refine Tj (η:=Unit×Unit) (λh=>a = .inl h.1) (λ_=>[]) [] (λ_=>[]) [] (λ_=>[]) ?_ ?_
 ·refine Yl0 ?_
  refine Tq (η:=Unit) (λf h=>[(8,.int .i64 f)]) [0,1,7] (λ_ _=>[]) [] (λ_ _=>[]) () [] [] i ?_
  rintro k_ f ⟨⟩ j k l g
  refine Y2 ?_
  refine Tb k (λb=> ?_) λb=> ?_
  ·refine Z1 ?_
   refine Zl ?_
   refine Z2 ?_
   have ⟨s,c,m⟩:=bnd b
   refine L.addr 0 rfl (bH c) λt u n=> ?_
   subst n
   refine Ly (Yl.ia c rfl rfl rfl rfl rfl rfl) ?_
   refine L.el 0 rfl (aJ c).2 ?_
   rintro _
   refine Lc 0 0 ?_
   have ⟨v,o,p⟩:=bnd m
   refine Lk [] [] (nj o) λ⟨⟩=> ?_
   refine Z0 ?_
   refine Tb p (λd=> ?_) λd=> ?_
   ·refine Z1 ?_
    obtain ⟨w,hz,q⟩:=bQ d
    subst j
    have hb:=g _ rfl
    subst a
    obtain rfl:=(sm e).symm
    refine Z0 ?_
    cases q
    exact Eo1 () [] []
   refine Z0 ?_
   cases d
   exact Eg (_,()) (l _ rfl) [] [] 1
  refine Z0 ?_
  cases b
  have hb:=g _ rfl
  subst a
  exact Eg (_,()) rfl [] [] 0
 rintro ⟨x,⟨⟩⟩ hy
 subst hy
 refine Z1 ?_
 cases e
 exact Eo1 () [] []
theorem gQ {s_:List aF} {r:Bool} (H:bF s_=some r):CT G 81 [.slice A0 s_.length C0,.func (.func 82) #[] #[]] [] [Im.sl aS A0 C0 s_] (λ_:Unit=> .bool r) (λh=>[]) (λh=>[]):=by
 delta bF at H
 refine Cf Go.Proofs.Tryz.func81 λK=> ?_
 refine Z2 ?_
 have ⟨r1,h2,H3⟩:=bnd H
 refine Lk [] [0] (ig h2) λ⟨⟩=> ?_
 refine Z0 ?_
 cases H3
 exact Eo1 () [] []
theorem ij {s_:aC} {r:Int} (H:cX s_=some r):CT G 41 [.agg (gO s_ A0 C0 A1 C1).toArray] [] [Im.sl aD A0 C0 s_.rows,Im.sl aB A1 C1 s_.begun] (λ_:Unit=> .int .i64 r) (λh=>[]) (λh=>[]):=by
 delta cX at H
 refine Cf Go.Proofs.Tryz.func41 λK=> ?_
 refine Z1 ?_
 refine Lx λg1=> ?_
 refine Z2 ?_
 have ⟨r2,h3,H4⟩:=bnd H
 refine Lk [] [0,1] (lf h3) λ⟨⟩=> ?_
 refine Z0 ?_
 refine Tb H4 (λH6=> ?_) λH6=> ?_
 ·refine Z1 ?_
  cases H6
  exact Eo1 () [] []
 refine Y2 ?_
 have ⟨l,m,n⟩:=bnd H6
 refine Tj0 [(14,.bool l)] [1] [] [0] ?_ ?_
 ·refine Z0 ?_
  have ⟨J,o,p⟩:=bnd m
  refine Lk [] [0,1] (oK o) λ⟨⟩=> ?_
  refine Z0 ?_
  refine Lw 10 p (λa=> ?_) λa=> ?_
  ·refine Z0 ?_
   cases a
   exact Eg0 [0] 0
  refine Z0 ?_
  have ⟨M,q,s⟩:=bnd a
  refine Lk [] [1] (gP q) λ⟨⟩=> ?_
  refine Z0 ?_
  cases s
  exact Eg0 [0] 0
 refine Tb n (λb=> ?_) λb=> ?_
 ·refine Z1 ?_
  cases b
  exact Eo1 () [] []
 refine Z2 ?_
 have ⟨c,t,i⟩:=bnd b
 refine Tj (η:=Unit×Unit) (λh=>c = .inl h.1) (λ_=>[]) [] (λ_=>[]) [0] (λ_=>[]) ?_ ?_
 ·refine Yl0 ?_
  refine Tq (η:=Unit) (λj h=>[(18,.int .i64 j)]) [1,16,17] (λ_ _=>[]) [0] (λ_ _=>[]) () [0] [] t ?_
  rintro k_ j ⟨⟩ u v w k
  refine Y2 ?_
  refine Tb v (λd=> ?_) λd=> ?_
  ·refine Z1 ?_
   refine Zl ?_
   refine Z1 ?_
   have ⟨N,e,x⟩:=bnd d
   refine L.addr 0 rfl (bH e) λO P y=> ?_
   subst y
   refine Ly (Yl.ia e rfl rfl rfl rfl rfl rfl) ?_
   refine L.el 0 rfl (aJ e).2 ?_
   rintro ⟨Q,R⟩
   refine Lc 0 0 ?_
   refine Ll λS=> ?_
   refine Lt 0 ?_
   refine Y1 ?_
   have ⟨z,A,B⟩:=bnd x
   refine Tj0 [(32,.bool z)] [1,16,17,18] [] [0,1] ?_ ?_
   ·refine Z0 ?_
    refine Lw 28 A (λf=> ?_) λf=> ?_
    ·refine Z0 ?_
     cases f
     exact Eg0 [0,0] 0
    refine Z0 ?_
    have ⟨U,C,F⟩:=bnd f
    refine Lk [] [1] (gQ C) λ⟨⟩=> ?_
    refine Z0 ?_
    cases F
    exact Eg0 [0,0] 0
   refine Tb B (λg=> ?_) λg=> ?_
   ·refine Z1 ?_
    obtain ⟨V,hz,I⟩:=bQ g
    subst u
    have hb:=k _ rfl
    subst c
    obtain rfl:=(sm i).symm
    refine Z0 ?_
    cases I
    exact Eo1 () [] []
   refine Z0 ?_
   cases g
   exact Eg (_,()) (w _ rfl) [1] [] 2
  refine Z0 ?_
  cases d
  have hb:=k _ rfl
  subst c
  exact Eg (_,()) rfl [0] [] 0
 rintro ⟨W,⟨⟩⟩ hy
 subst hy
 refine Z1 ?_
 cases i
 exact Eo1 () [] []
end Go.Tw.X
namespace Go.Tw.X
open Go Go.Tw
variable {A0 A1 A2 A3 A4 A5 A6 A7 A8 : Option Addr} {C0 C1 C2 C3 C4 C5 C6 C7 C8 : Nat}
variable {N0 N1 N2 N3 N4 : Nat}
variable {M0 : Option Nat}
theorem ik {s_:aC} {r:aC} (H:dT s_=some r):CT G 24 [.agg (gO s_ A0 C0 A1 C1).toArray] [] [Im.sl aD A0 C0 s_.rows,Im.sl aB A1 C1 s_.begun] (λh:(Option Addr×Nat)×(Option Addr×Nat)=> .agg (gO r h.1.1 h.1.2 h.2.1 h.2.2).toArray) (λh=>[]) (λh=>[Im.sl aD h.1.1 h.1.2 r.rows,Im.sl aB h.2.1 h.2.2 r.begun]):=by
 delta dT at H
 refine Cf Go.Proofs.Tryz.func24 λK=> ?_
 refine Z1 ?_
 refine Lx λg1=> ?_
 refine Ll λg2=> ?_
 refine Z3 ?_
 have ⟨f,j,k⟩:=bnd H
 refine Tjh (η:=(Option Addr×Nat)) (λh=>(λa b=>[(3,.slice a f.length b)]) h.1 h.2) [1,2] (λh=>(λa b=>[Ch.arr aD 116 a b f]) h.1 h.2) [0,1] (λ_=>[]) ?_ ?_
 ·refine Yl0 ?_
  refine T.gC aD 116 ?_
  refine Tq (η:=(Option Addr×Nat)) (λc h=>(λd e=>[(3,.slice d c.1.length e),(9,.int .i64 c.2)]) h.1 h.2) [1,2,7,8] (λc h=>(λd e=>[Ch.arr aD 116 d e c.1]) h.1 h.2) [1,2] (λ_ _=>[]) (none,0) [0,0,0] [] j ?_
  rintro k_ c ⟨d,e⟩ N l m n
  refine Y2 ?_
  refine Tb l (λg=> ?_) λg=> ?_
  ·refine Z1 ?_
   refine Zl ?_
   refine Z1 ?_
   have ⟨o,i,p⟩:=bnd g
   refine L.addr 0 rfl (bH i) λO P q=> ?_
   subst q
   refine Ly (Yl.ia i rfl rfl rfl rfl rfl rfl) ?_
   refine L.el 0 rfl (aJ i).2 ?_
   rintro ⟨s,t⟩
   refine Lc 0 0 ?_
   refine Ll λQ=> ?_
   refine Lt 0 ?_
   refine Z0 ?_
   refine Td [] [0,1,1] mo ?_
   refine Dq 0 ?_
   refine Dq 1 ?_
   refine Db 2 0 ?_
   refine Dq 4 ?_
   refine Db 5 0 ?_
   have ⟨u,v,w⟩:=bnd p
   refine Dk [] [1] (jf s t v) λ⟨x,y⟩=> ?_
   refine Dq 6 ?_
   refine D.frz 0 rfl ?_
   refine Da [] [0] rfl rfl (Ac.bs (ty:=aD) (xs:=[(aE.mk u o.wrapped)]) (.cons (x,y) [0] rfl .nil) rfl rfl rfl rfl rfl rfl rfl) λR=> ?_
   refine D.frz 0 rfl ?_
   have ⟨_,z,A⟩:=bnd w
   refine Da [0] [0] rfl rfl (Ac.ap (ty:=aD) z rfl rfl rfl rfl rfl rfl rfl) ?_
   rintro ⟨B,C⟩
   refine Dq 9 ?_
   refine Dn ?_
   refine Z0 ?_
   cases A
   exact Eg (_,(B,C)) (m _ rfl) [3,1,1] [] 4
  refine Z0 ?_
  cases g
  have hb:=n _ rfl
  subst f
  exact Eg (d,e) trivial [0,0,0] [] 0
 rintro ⟨a,b⟩
 refine Z1 ?_
 have ⟨S,F,I⟩:=bnd k
 refine Lk [] [1] (lu A1 C1 F) λ⟨J,M⟩=> ?_
 refine Z0 ?_
 refine Lt 3 ?_
 refine Z0 ?_
 refine Lt 0 ?_
 refine Z1 ?_
 refine Lt 3 ?_
 refine Z0 ?_
 refine E.frz 3 rfl ?_
 refine E.frz 2 rfl ?_
 cases I
 exact Eo ((a,b),(J,M)) [] [1,0] (.cell 0 rfl rfl rfl .nil)
theorem mN {s_:aH} {x_:aC} {r:Bool×aH} (H:eG s_ x_=some r):CT G 14 [.pointer (some ⟨N0,0,none⟩),.agg (gO x_ A7 C7 A8 C8).toArray] [Ch.box N0 94 (ri s_ A0 C0 A1 C1 A2 C2 A3 C3 A4 C4 A5 C5 A6 C6),Ch.aro cU 59 A4 C4 s_.kept,Ch.arr Ty.bool 4 A6 C6 s_.message.there] [Im.sl aD A0 C0 s_.current.rows,Im.sl aB A1 C1 s_.current.begun,Im.sl aD A2 C2 s_.aL.rows,Im.sl aB A3 C3 s_.aL.begun,Im.sl Ty.str A5 C5 s_.message.parts,Im.sl aD A7 C7 x_.rows,Im.sl aB A8 C8 x_.begun] (λh:(Option Addr×Nat)×(Option Addr×Nat)=> .bool r.1) (λh=>[Ch.box N0 94 (ri r.2 h.1.1 h.1.2 h.2.1 h.2.2 A2 C2 A3 C3 A4 C4 A5 C5 A6 C6),Ch.aro cU 59 A4 C4 r.2.kept,Ch.arr Ty.bool 4 A6 C6 r.2.message.there]) (λh=>[Im.sl aD h.1.1 h.1.2 r.2.current.rows,Im.sl aB h.2.1 h.2.2 r.2.current.begun,Im.sl aD A2 C2 r.2.aL.rows,Im.sl aB A3 C3 r.2.aL.begun,Im.sl Ty.str A5 C5 r.2.message.parts]):=by
 delta eG at H
 refine Cf Go.Proofs.Tryz.func14 λK=> ?_
 refine Z1 ?_
 refine Lx λg1=> ?_
 refine Y2 ?_
 have ⟨c,d,e⟩:=bnd H
 refine Tj0 [(17,.bool c)] [0,3] [] [0,1,2,3] ?_ ?_
 ·refine Td [] [0,0,0,0] mo ?_
  refine Db 0 0 ?_
  have ⟨o,f,g⟩:=bnd d
  refine Dk [] [5,6] (ij f) λ⟨⟩=> ?_
  refine Dq 2 ?_
  refine Dq 3 ?_
  refine D.cs 8 g rfl (λhc a=> ?_) (λhc a=> ?_)
  ·refine Ds 4 ?_
   refine Ds 5 ?_
   refine Ds 6 ?_
   refine Ds 7 ?_
   refine Ds 8 ?_
   refine Ds 9 ?_
   refine Ds 10 ?_
   refine Ds 11 ?_
   refine Dq 12 ?_
   refine Dn ?_
   cases a
   exact Eg0 [0,0,0,0] 0
  refine Dq 4 ?_
  refine Db 5 0 ?_
  refine Dq 6 ?_
  refine Dq 7 ?_
  refine Dq 8 ?_
  refine Dq 9 ?_
  refine Db 10 1 ?_
  refine Dq 11 ?_
  refine Dq 12 ?_
  refine Dn ?_
  cases a
  exact Eg0 [0,0,0,0] 0
 refine Tb e (λb=> ?_) λb=> ?_
 ·refine Z1 ?_
  cases b
  exact Eo1 ((A0,C0),(A1,C1)) [1,1,1] [0,1,2,3,4]
 refine Z1 ?_
 have ⟨p,i,j⟩:=bnd b
 refine Lk [] [5,6] (ik i) λ⟨⟨k,l⟩,⟨m,n⟩⟩=> ?_
 refine Z0 ?_
 refine Lt 1 ?_
 refine Z1 ?_
 cases j
 exact Eo1 ((k,l),(m,n)) [0,1,1] [0,1,4,5,6]
theorem tr {n_:Int} {r:Int} (H:ko n_=some r):CT G 146 [.int .i64 n_] [] [] (λh:Nat=> .func (.func 154) #[] #[.pointer (some ⟨h,0,none⟩)]) (λh=>[Ch.box h 3 [.int .i64 r]]) (λh=>[]):=by
 delta ko at H
 refine Cf Go.Proofs.Tryz.func146 λK=> ?_
 refine Z1 ?_
 refine Lx λg1=> ?_
 refine Z1 ?_
 cases H
 exact Eo1 g1 [0] []
theorem vU {n_:Int} {r:Int} (H:lU n_=some r):CT G 155 [.int .i64 n_] [] [] (λ_:Unit=> .int .i64 r) (λh=>[]) (λh=>[]):=by
 delta lU at H
 refine Cf Go.Proofs.Tryz.func155 λK=> ?_
 refine Z2 ?_
 cases H
 exact Eo1 () [] []
theorem qS {σ η:Type} {Y:σ->Int->Option (σ×Bool)} {y0:σ} {x1:Int} {yl:Nat} {C:σ->η->Ch} (hY: ∀ s (h:η) (x:Int) (t:Unit) z,Y s x=some z->YT G yl [.int .u8 x] [C s h] [] (λ_:η=> .bool z.2) (λh2=>[C z.1 h2]) (λ_=>[])) (h0:η) (g_1:Nat) {r:σ×Int} (H:ir Y y0 x1=some r):CT G 154 [.func (.yield yl) #[] #[],.pointer (some ⟨g_1,0,none⟩)] [C y0 h0,Ch.box g_1 3 [.int .i64 x1]] [] (λh:η=> .tuple #[]) (λh=>[C r.1 h,Ch.box g_1 3 [.int .i64 r.2]]) (λh=>[]):=by
  delta ir at H
  refine Cf Go.Proofs.Tryz.func154 λK=> ?_
  refine Z2 ?_
  have ⟨r1,h2,H3⟩:=bnd H
  refine Lk [] [] (vU h2) λ⟨⟩=> ?_
  refine Lt 1 ?_
  refine Z0 ?_
  have ⟨a,l,g⟩:=bnd H3
  refine Tj (η:=(Int×σ)×(η)) (λh=>a = .inl h.1) (λ_=>[]) [0,1] (λh=>(λb=>(λi=>[Ch.box g_1 3 [.int .i64 b.1],C b.2 i]) h.2) h.1) [] (λ_=>[]) ?_ ?_
  ·refine Yl0 ?_
   refine Tq (η:=η) (λ_ _=>[]) [0,1] (λc h=>(λd=>[Ch.box g_1 3 [.int .i64 c.1],C c.2 d]) h) [] (λ_ _=>[]) h0 [0,0] [] l ?_
   rintro k_ c d m n o j
   refine Z2 ?_
   refine Tb n (λe=> ?_) λe=> ?_
   ·refine Z1 ?_
    refine Zl ?_
    refine Z1 ?_
    have ⟨A,p,q⟩:=bnd e
    refine L.yd [1] [] (hY _ _ _ () _ p) rfl rfl rfl rfl rfl rfl rfl rfl ?_
    intro k
    refine Z0 ?_
    refine Tb q (λf=> ?_) λf=> ?_
    ·refine Z0 ?_
     obtain ⟨B,hz,u⟩:=bQ f
     subst m
     have hb:=j _ rfl
     subst a
     obtain rfl:=(sm g).symm
     refine Z0 ?_
     cases u
     exact Eo k [0,0] [] .nil
    refine Z0 ?_
    refine Lt 1 ?_
    refine Z0 ?_
    cases f
    exact Eg (_,k) (o _ rfl) [0,0] [] 0
   refine Z0 ?_
   cases e
   have hb:=j _ rfl
   subst a
   exact Eg (_,d) rfl [0,0] [] 0
  rintro ⟨b,i⟩ hy
  subst hy
  refine Z0 ?_
  have ⟨F,v,w⟩:=bnd g
  refine L.yd [1] [] (hY _ _ _ () _ v) rfl rfl rfl rfl rfl rfl rfl rfl ?_
  intro y
  refine Ln (E.off ?_)
  cases w
  exact Eo y [0,0] [] .nil
theorem dY {o:bJ} {l:List Int} {r:bJ} (H:cB o l=some r):CT G 127 [.pointer (some ⟨N0,0,none⟩),.slice A1 l.length C1] [Ch.box N0 224 [.slice A0 o.b.length C0],Ch.arr (Ty.int .u8) 5 A0 C0 o.b] [Im.sl (Ty.int .i64) A1 C1 l] (λh:(Option Addr×Nat)=> .pointer (some ⟨N0,0,none⟩)) (λh=>[Ch.box N0 224 [.slice h.1 r.b.length h.2],Ch.arr (Ty.int .u8) 5 h.1 h.2 r.b]) (λh=>[]):=by
 delta cB at H
 refine Cf Go.Proofs.Tryz.func127 λK=> ?_
 refine T.qX ?_
 refine Z1 ?_
 refine Lx λg1=> ?_
 refine Z2 ?_
 have ⟨n,w,y⟩:=bnd H
 refine T.tL (η:=Unit×((Option Addr×Nat)×List Nat)) (λh=>True) (λh=>(λf g i=>i) h.2.1.1 h.2.1.2 h.2.2) (λh=>(λf g i=>[(2,.pointer (some ⟨g1,0,none⟩))]) h.2.1.1 h.2.1.2 h.2.2) (λh=>(λf g i=>[Ch.arr (Ty.int .u8) 5 f g n.b,Ch.box g1 225 [.pointer (some ⟨N0,0,none⟩)],Ch.dfs i,Ch.box N0 224 [.slice f n.b.length g]]) h.2.1.1 h.2.1.2 h.2.2) (λh=>(λf g i=>[Im.sl (Ty.int .i64) A1 C1 l]) h.2.1.1 h.2.1.2 h.2.2) ?_ ?_
 ·refine Yl0 ?_
  refine T.lpD (η:=(Option Addr×Nat)×List Nat) (λa h=>(λc d e=>e) h.1.1 h.1.2 h.2) (λa h=>(λc d e=>[(2,.pointer (some ⟨g1,0,none⟩)),(8,.slice A1 l.length C1),(9,.int .i64 (l.length:Int)),(10,.int .i64 a.2)]) h.1.1 h.1.2 h.2) (λa h=>(λc d e=>[Ch.arr (Ty.int .u8) 5 c d a.1.b,Ch.box g1 225 [.pointer (some ⟨N0,0,none⟩)],Ch.dfs e,Ch.box N0 224 [.slice c a.1.b.length d]]) h.1.1 h.1.2 h.2) (λa h=>(λc d e=>[Im.sl (Ty.int .i64) A1 C1 l]) h.1.1 h.1.2 h.2) ((A0,C0),[]) [3,0,0,0] [0] w rfl ⟨rfl,rfl,rfl,rfl,trivial⟩ rfl rfl ?_
  rintro k_ a ⟨⟨c,d⟩,e⟩ ab z A B
  refine Y2 ?_
  refine Tb z (λp=> ?_) λp=> ?_
  ·refine Z1 ?_
   refine Zl ?_
   refine Z1 ?_
   have ⟨F,q,I⟩:=bnd p
   refine L.addr 0 rfl (bH q) λs u J=> ?_
   subst J
   refine Ly (Yl.ia q rfl rfl rfl rfl rfl rfl) ?_
   refine L.el 0 rfl (aJ q).2 ?_
   rintro _
   refine Lc 0 0 ?_
   refine Z1 ?_
   have ⟨ac,M,N⟩:=bnd I
   refine Lk [] [] (tr M) λO=> ?_
   refine Yl0 ?_
   have ⟨P,Q,R⟩:=bnd N
   refine T.rf2 (σ:=bJ) (η:=(Option Addr×Nat)) (X:=Int) (θ:=Unit) (τ:=(Option Addr×Nat)) (s1:=P.1) (hx:=λx=>x) (λx t=>[.int .u8 x]) (λx t=>[]) (λ_=>none) (λj h=>(λk m=>[Ch.arr (Ty.int .u8) 5 k m j.b,Ch.box g1 225 [.pointer (some ⟨N0,0,none⟩)],Ch.box N0 224 [.slice k j.b.length m]]) h.1 h.2) (λj h=>(λk m=>[Im.cells s (u+a.2.toNat*1) [.int .i64 F],Im.sl (Ty.int .i64) (some ⟨s,u,none⟩) C1 l]) h.1 h.2) 3 [1,1,1,0] [0,1] [] rfl rfl (λ_ _=>rfl) rfl (λyl C hY=>(qS hY (c,d) O Q:_)) (λ_ _ _ _=>rfl) rfl rfl rfl rfl rfl ?_ rfl ?_
   ·rintro yl K2 j ⟨k,m⟩ S ⟨⟩ ad U
    refine Z0 ?_
    refine E.begin λK3=> ?_
    refine Yl0 ?_
    refine Td [10] [1,1] mo ?_
    refine Db 0 0 ?_
    refine Db 1 0 ?_
    refine Dq 2 ?_
    refine Dq 3 ?_
    refine Db 4 1 ?_
    refine Dq 5 ?_
    refine Da [] [] rfl rfl (Ac.bs (ty:=(Ty.int .u8)) (xs:=[S]) (.cons () [] rfl .nil) rfl rfl rfl rfl rfl rfl rfl) λae=> ?_
    refine D.frz 0 rfl ?_
    have ⟨_,V,W⟩:=bnd U
    refine Da [0] [0] rfl rfl (Ac.ap (ty:=(Ty.int .u8)) V rfl rfl rfl rfl rfl rfl rfl) ?_
    rintro ⟨Y,Z⟩
    refine Dq 8 ?_
    refine Dq 9 ?_
    refine Dt 1 ?_
    refine Dn ?_
    refine Z0 ?_
    cases W
    exact E.on (Y,Z) [2,1,0] [1,2] rfl rfl rfl rfl
   rintro v aa
   refine Z0 ?_
   cases R
   exact E.mA (_,((v.1,v.2),(aa::e))) [1,1,0,0] [1] (A _ rfl) rfl ⟨rfl,rfl,rfl,rfl,trivial⟩ rfl rfl
  refine Z0 ?_
  cases p
  have hb:=B _ rfl
  subst n
  exact E.mA ((),((c,d),e)) [0,0,0,0] [0] trivial rfl ⟨rfl,trivial⟩ rfl rfl
 rintro ⟨_,⟨⟨f,g⟩,i⟩⟩ _
 refine Z1 ?_
 cases y
 exact E.pK (f,g) 2 [2,0] [] rfl (.tmp rfl .nil) rfl rfl rfl
theorem iO {o:bJ} {l:List ByteArray} {r:bJ} (H:eL o l=some r):CT G 129 [.pointer (some ⟨N0,0,none⟩),.slice A1 l.length C1] [Ch.box N0 224 [.slice A0 o.b.length C0],Ch.arr (Ty.int .u8) 5 A0 C0 o.b] [Im.sl Ty.str A1 C1 l] (λh:(Option Addr×Nat)=> .pointer (some ⟨N0,0,none⟩)) (λh=>[Ch.box N0 224 [.slice h.1 r.b.length h.2],Ch.arr (Ty.int .u8) 5 h.1 h.2 r.b]) (λh=>[]):=by
 delta eL at H
 refine Cf Go.Proofs.Tryz.func129 λK=> ?_
 refine Z3 ?_
 have ⟨g,k,m⟩:=bnd H
 refine Tjh (η:=(Option Addr×Nat)) (λ_=>[]) [0] (λh=>(λe f=>[Ch.arr (Ty.int .u8) 5 e f g.b,Ch.box N0 224 [.slice e g.b.length f]]) h.1 h.2) [] (λ_=>[]) ?_ ?_
 ·refine Yl0 ?_
  refine Tq (η:=(Option Addr×Nat)) (λa h=>(λc d=>[(9,.int .i64 a.2)]) h.1 h.2) [0,7,8] (λa h=>(λc d=>[Ch.arr (Ty.int .u8) 5 c d a.1.b,Ch.box N0 224 [.slice c a.1.b.length d]]) h.1 h.2) [] (λ_ _=>[]) (A0,C0) [1,0] [] k ?_
  rintro k_ a ⟨c,d⟩ y n p q
  refine Y2 ?_
  refine Tb n (λi=> ?_) λi=> ?_
  ·refine Z1 ?_
   refine Zl ?_
   refine Z1 ?_
   have ⟨z,j,s⟩:=bnd i
   refine L.addr 0 rfl (bH j) λA B t=> ?_
   subst t
   refine Ly (Yl.ia j rfl rfl rfl rfl rfl rfl) ?_
   refine L.el 0 rfl (aJ j).2 ?_
   rintro _
   refine Lc 0 0 ?_
   refine Z0 ?_
   have ⟨_,u,v⟩:=bnd s
   refine La [0] [] (Ac.aps u rfl rfl rfl rfl rfl rfl rfl rfl rfl B9) ?_
   rintro ⟨w,x⟩
   refine Z0 ?_
   refine Lt 1 ?_
   refine Z0 ?_
   cases v
   exact Eg (_,(w,x)) (p _ rfl) [1,0] [] 1
  refine Z0 ?_
  cases i
  have hb:=q _ rfl
  subst g
  exact Eg (c,d) trivial [0,0] [] 0
 rintro ⟨e,f⟩
 refine Z1 ?_
 cases m
 exact Eo1 (e,f) [1,0] []
theorem mO {o:bJ} {l:List ByteArray} {r:bJ} (H:gJ o l=some r):CT G 128 [.pointer (some ⟨N0,0,none⟩),.slice A1 l.length C1] [Ch.box N0 224 [.slice A0 o.b.length C0],Ch.arr (Ty.int .u8) 5 A0 C0 o.b] [Im.sl Ty.str A1 C1 l] (λh:(Option Addr×Nat)=> .pointer (some ⟨N0,0,none⟩)) (λh=>[Ch.box N0 224 [.slice h.1 r.b.length h.2],Ch.arr (Ty.int .u8) 5 h.1 h.2 r.b]) (λh=>[]):=by
 delta gJ at H
 refine Cf Go.Proofs.Tryz.func128 λK=> ?_
 refine Z3 ?_
 have ⟨g,m,n⟩:=bnd H
 refine Tjh (η:=(Option Addr×Nat)) (λ_=>[]) [0] (λh=>(λe f=>[Ch.arr (Ty.int .u8) 5 e f g.b,Ch.box N0 224 [.slice e g.b.length f]]) h.1 h.2) [] (λ_=>[]) ?_ ?_
 ·refine Yl0 ?_
  refine Tq (η:=(Option Addr×Nat)) (λa h=>(λc d=>[(9,.int .i64 a.2)]) h.1 h.2) [0,7,8] (λa h=>(λc d=>[Ch.arr (Ty.int .u8) 5 c d a.1.b,Ch.box N0 224 [.slice c a.1.b.length d]]) h.1 h.2) [] (λ_ _=>[]) (A0,C0) [1,0] [] m ?_
  rintro k_ a ⟨c,d⟩ B p q s
  refine Y2 ?_
  refine Tb p (λi=> ?_) λi=> ?_
  ·refine Z1 ?_
   refine Zl ?_
   refine Z1 ?_
   have ⟨k,j,t⟩:=bnd i
   refine L.addr 0 rfl (bH j) λC F u=> ?_
   subst u
   refine Ly (Yl.ia j rfl rfl rfl rfl rfl rfl) ?_
   refine L.el 0 rfl (aJ j).2 ?_
   rintro _
   refine Lc 0 0 ?_
   refine Z0 ?_
   refine La [] [] (Ac.bs (ty:=(Ty.int .i64)) (xs:=[(k.size:Int)]) (.cons () [] rfl .nil) rfl rfl rfl rfl rfl rfl rfl) λI=> ?_
   refine L.frz 0 rfl ?_
   have ⟨J,v,w⟩:=bnd t
   refine Lk [1,0] [0] (dY v) λ⟨M,N⟩=> ?_
   refine Z0 ?_
   refine La [] [] (Ac.bs (ty:=Ty.str) (xs:=[k]) (.cons () [] rfl .nil) rfl rfl rfl rfl rfl rfl rfl) λO=> ?_
   refine L.frz 0 rfl ?_
   have ⟨P,x,y⟩:=bnd w
   refine Lk [0,0] [0] (iO x) λ⟨z,A⟩=> ?_
   refine Z0 ?_
   cases y
   exact Eg (_,(z,A)) (q _ rfl) [1,0] [] 3
  refine Z0 ?_
  cases i
  have hb:=s _ rfl
  subst g
  exact Eg (c,d) trivial [0,0] [] 0
 rintro ⟨e,f⟩
 refine Z1 ?_
 cases n
 exact Eo1 (e,f) [1,0] []
theorem iT {o:bJ} {r:ByteArray} (H:eU o=some r):CT G 134 [.pointer (some ⟨N0,0,none⟩)] [Ch.box N0 224 [.slice A0 o.b.length C0],Ch.arr (Ty.int .u8) 5 A0 C0 o.b] [] (λ_:Unit=> .string r) (λh=>[Ch.box N0 224 [.slice A0 o.b.length C0],Ch.arr (Ty.int .u8) 5 A0 C0 o.b]) (λh=>[]):=by
 delta eU at H
 refine Cf Go.Proofs.Tryz.func134 λK=> ?_
 refine Z2 ?_
 refine Ly (Yl.bs 1 rfl rfl rfl rfl rfl rfl rfl rfl rfl) ?_
 refine Z0 ?_
 cases H
 exact Eo1 () [0,0] []
theorem pD {l:List aG} {r:ByteArray} (H:jc l=some r):CT G 130 [.slice A0 l.length C0] [] [Im.sl aB A0 C0 l] (λ_:Unit=> .string r) (λh=>[]) (λh=>[]):=by
 delta jc at H
 refine Cf Go.Proofs.Tryz.func130 λK=> ?_
 refine Z2 ?_
 refine Ll λg1=> ?_
 refine Z1 ?_
 refine La [] [] (Ac.bs (ty:=(Ty.int .i64)) (xs:=[(l.length:Int)]) (.cons () [] rfl .nil) rfl rfl rfl rfl rfl rfl rfl) λg2=> ?_
 refine L.gC (Ty.int .u8) 5 ?_
 refine L.frz 1 rfl ?_
 have ⟨r6,h7,H8⟩:=bnd H
 refine Lk [1,0] [0] (dY h7) λ⟨a9,m⟩=> ?_
 refine Z2 ?_
 have ⟨e,n,o⟩:=bnd H8
 refine Tjh (η:=(Option Addr×Nat)) (λ_=>[]) [3] (λh=>(λf g=>[Ch.arr (Ty.int .u8) 5 f g e.b,Ch.box g1 224 [.slice f e.b.length g]]) h.1 h.2) [] (λ_=>[]) ?_ ?_
 ·refine Yl0 ?_
  refine Tq (η:=(Option Addr×Nat)) (λa h=>(λc d=>[(12,.int .i64 a.2)]) h.1 h.2) [3,10,11] (λa h=>(λc d=>[Ch.arr (Ty.int .u8) 5 c d a.1.b,Ch.box g1 224 [.slice c a.1.b.length d]]) h.1 h.2) [] (λ_ _=>[]) (a9,m) [1,0] [] n ?_
  rintro k_ a ⟨c,d⟩ B p q s
  refine Y2 ?_
  refine Tb p (λi=> ?_) λi=> ?_
  ·refine Z1 ?_
   refine Zl ?_
   refine Z1 ?_
   have ⟨k,j,t⟩:=bnd i
   refine L.addr 1 rfl (bH j) λC F u=> ?_
   subst u
   refine Ly (Yl.ia j rfl rfl rfl rfl rfl rfl) ?_
   refine L.el 1 rfl (aJ j).2 ?_
   rintro _
   refine Lc 0 0 ?_
   refine Ll λI=> ?_
   refine Lt 0 ?_
   refine Z0 ?_
   refine La [] [] (Ac.bs (ty:=(Ty.int .i64)) (xs:=[(IntKind.i64.wrap k.rune),k.aM]) (.cons () [] rfl (.cons () [] rfl .nil)) rfl rfl rfl rfl rfl rfl rfl) λJ=> ?_
   refine L.frz 0 rfl ?_
   have ⟨M,v,w⟩:=bnd t
   refine Lk [2,1] [0] (dY v) λ⟨x,y⟩=> ?_
   refine Z0 ?_
   cases w
   exact Eg (_,(x,y)) (q _ rfl) [1,0] [] 2
  refine Z0 ?_
  cases i
  have hb:=s _ rfl
  subst e
  exact Eg (c,d) trivial [0,0] [] 0
 rintro ⟨f,g⟩
 refine Z1 ?_
 have ⟨N,z,A⟩:=bnd o
 refine Lk [1,0] [] (iT z) λ⟨⟩=> ?_
 refine Z0 ?_
 cases A
 exact Eo1 () [] []
theorem vV {is:Bool} {r:Int} (H:lX is=some r):CT G 148 [.bool is] [] [] (λ_:Unit=> .int .i64 r) (λh=>[]) (λh=>[]):=by
 delta lX at H
 refine Cf Go.Proofs.Tryz.func148 λK=> ?_
 refine Z3 ?_
 refine Tb H (λH2=> ?_) λH2=> ?_
 ·refine Z1 ?_
  cases H2
  exact Eo1 () [] []
 refine Z1 ?_
 cases H2
 exact Eo1 () [] []
theorem uJ {l:List aF} {r:(List aF)} (H:k7 l=some r):CT G 149 [.slice A0 l.length C0] [] [Im.sl aS A0 C0 l] (λh:Nat=> .func (.func 156) #[] #[.pointer (some ⟨h,0,none⟩)]) (λh=>[Ch.box h 114 [.slice A0 r.length C0]]) (λh=>[Im.sl aS A0 C0 r]):=by
 delta k7 at H
 refine Cf Go.Proofs.Tryz.func149 λK=> ?_
 refine Z1 ?_
 refine Lx λg1=> ?_
 refine Z1 ?_
 cases H
 exact Eo1 g1 [0] [0]
theorem rj {σ η:Type} {Y:σ->(Int×aF)->Option (σ×Bool)} {y0:σ} {x1:List aF} {yl:Nat} {C:σ->η->Ch} (hY: ∀ s (h:η) (x:Int×aF) (t:Unit) z,Y s x=some z->YT G yl [.int .i64 x.1,.agg #[.int .i32 x.2.rune,.int .i64 x.2.aM,.int .i64 x.2.part]] [C s h] [] (λ_:η=> .bool z.2) (λh2=>[C z.1 h2]) (λ_=>[])) (h0:η) (g_1:Nat) (a_1_0:Option Addr) (c_1_0:Nat) {r:σ×(List aF)} (H:jP Y y0 x1=some r):CT G 156 [.func (.yield yl) #[] #[],.pointer (some ⟨g_1,0,none⟩)] [C y0 h0,Ch.box g_1 114 [.slice a_1_0 x1.length c_1_0]] [Im.sl aS a_1_0 c_1_0 x1] (λh:η×(Option Addr×Nat)=> .tuple #[]) (λh=>[C r.1 h.1,Ch.box g_1 114 [.slice h.2.1 r.2.length h.2.2]]) (λh=>[Im.sl aS h.2.1 h.2.2 r.2]):=by
  delta jP at H
  refine Cf Go.Proofs.Tryz.func156 λK=> ?_
  have ⟨j,B,q⟩:=bnd H
  refine T.n7 (η:=((List aF)×σ)×((Option Addr×Nat)×η)) (λh=>j = .inl h.1) (λh=>(λa=>(λb c e=>[]) h.2.1.1 h.2.1.2 h.2.2) h.1) (λh=>(λa=>(λb c e=>[C a.2 e,Ch.box g_1 114 [.slice b a.1.length c]]) h.2.1.1 h.2.1.2 h.2.2) h.1) (λh=>(λa=>(λb c e=>[Im.sl aS b c a.1,Im.sl aS a_1_0 c_1_0 x1]) h.2.1.1 h.2.1.2 h.2.2) h.1) ?_ ?_
  ·refine Yl0 ?_
   refine Tq (η:=(Option Addr×Nat)×η) (λ_ _=>[]) [0,1] (λf h=>(λg d i=>[C f.2 i,Ch.box g_1 114 [.slice g f.1.length d]]) h.1.1 h.1.2 h.2) [] (λf h=>(λg d i=>[Im.sl aS g d f.1]) h.1.1 h.1.2 h.2) ((a_1_0,c_1_0),h0) [0,0] [0] B ?_
   rintro k_ f ⟨⟨g,d⟩,i⟩ F I J u
   refine Z2 ?_
   refine Tb I (λk=> ?_) λk=> ?_
   ·refine Zl ?_
    refine Y2 ?_
    have ⟨v,M,N⟩:=bnd k
    refine Tj0 [(3,.int .i64 v)] [0,1] [] [0,1] ?_ ?_
    ·refine Yl0 ?_
     refine Tq (η:=Unit) (λw h=>[(3,.int .i64 w)]) [0,1] (λ_ _=>[]) [0,1] (λ_ _=>[]) () [0,0] [] M ?_
     rintro k_ w ⟨⟩ ak O P Q
     refine Y2 ?_
     have ⟨R,S,U⟩:=bnd O
     refine Tj0 [(20,.bool R)] [0,1,3] [] [0,1] ?_ ?_
     ·refine Td [] [0,0] mo ?_
      refine Dq 0 ?_
      refine Db 1 1 ?_
      refine Dq 2 ?_
      refine Dq 3 ?_
      refine Dq 4 ?_
      refine D.cs 11 S rfl (λhc l=> ?_) (λhc l=> ?_)
      ·refine Db 5 1 ?_
       refine Dq 6 ?_
       have ⟨al,m,V⟩:=bnd l
       refine D.addr 0 rfl (bH m) λam an W=> ?_
       subst W
       refine Dy 7 (Yl.ia m rfl rfl rfl rfl rfl rfl) ?_
       refine D.el 0 rfl (aJ m).2 ?_
       rintro _
       refine Dy 8 (Yl.ldc 0 0 rfl rfl rfl rfl) ?_
       refine Db 9 1 ?_
       have ⟨ao,y,X⟩:=bnd V
       refine Dy 10 (Yl.ia y rfl rfl rfl rfl rfl rfl) ?_
       refine D.el 1 rfl (aJ y).2 ?_
       rintro _
       refine Dy 11 (Yl.ldc 0 0 rfl rfl rfl rfl) ?_
       refine Dq 12 ?_
       refine Dq 13 ?_
       refine Dn ?_
       cases X
       exact Eg0 [0,0] 2
      refine Ds 5 ?_
      refine Ds 6 ?_
      refine Ds 7 ?_
      refine Ds 8 ?_
      refine Ds 9 ?_
      refine Ds 10 ?_
      refine Ds 11 ?_
      refine Ds 12 ?_
      refine Dq 13 ?_
      refine Dn ?_
      cases l
      exact Eg0 [0,0] 0
     refine Tb U (λn=> ?_) λn=> ?_
     ·refine Zl ?_
      cases n
      exact Eg (_,()) (P _ rfl) [0,0] [] 0
     refine Z0 ?_
     cases n
     have hb:=Q _ rfl
     subst v
     exact Eg0 [0,0] 0
    refine Z2 ?_
    have ⟨ap,o,Z⟩:=bnd N
    refine L.addr 0 rfl (bH o) λaa ab ac=> ?_
    subst ac
    refine Ly (Yl.ia o rfl rfl rfl rfl rfl rfl) ?_
    refine L.el 0 rfl (aJ o).2 ?_
    rintro _
    refine Lc 0 0 ?_
    have ⟨aq,ad,ae⟩:=bnd Z
    refine L.yd [0] [] (hY _ _ _ () _ ad) rfl rfl rfl rfl rfl rfl rfl rfl ?_
    intro A
    refine Z0 ?_
    refine Tb ae (λp=> ?_) λp=> ?_
    ·refine Z0 ?_
     obtain ⟨ar,hz,af⟩:=bQ p
     subst F
     have hb:=u _ rfl
     subst j
     obtain rfl:=(sm q).symm
     refine Z0 ?_
     cases af
     exact Eo (A,((some ⟨aa,ab,none⟩),d)) [0,0] [1] .nil
    refine Z0 ?_
    have ⟨_,ag,ah⟩:=bnd p
    refine L.rs 1 ag rfl rfl rfl rfl rfl rfl rfl rfl rfl rfl rfl rfl ?_
    intro ai aj
    refine Lt 1 ?_
    refine Z0 ?_
    cases ah
    exact Eg (_,((ai,aj),A)) (J _ rfl) [1,0] [0] 3
   refine Z0 ?_
   cases k
   have hb:=u _ rfl
   subst j
   exact Egx (_,((g,d),i)) rfl [0,0] [0,1]
  rintro ⟨a,⟨⟨b,c⟩,e⟩⟩ hy
  subst hy
  refine E.off ?_
  cases q
  exact Eo (e,(b,c)) [0,0] [0] .nil
theorem mP {r_:aE} {r:ByteArray} (H:fO r_=some r):CT G 133 [.agg #[.slice A0 r_.cells.length C0,.bool r_.wrapped]] [] [Im.sl aS A0 C0 r_.cells] (λ_:Unit=> .string r) (λh=>[]) (λh=>[]):=by
 delta fO at H
 refine Cf Go.Proofs.Tryz.func133 λK=> ?_
 refine T.qX ?_
 refine Z1 ?_
 refine Lx λg1=> ?_
 refine Z1 ?_
 refine Ll λg2=> ?_
 refine Z1 ?_
 have ⟨r3,h4,H5⟩:=bnd H
 refine Lk [] [] (vV h4) λ⟨⟩=> ?_
 refine La [] [] (Ac.bs (ty:=(Ty.int .i64)) (xs:=[r3]) (.cons () [] rfl .nil) rfl rfl rfl rfl rfl rfl rfl) λg6=> ?_
 refine L.gC (Ty.int .u8) 5 ?_
 refine L.frz 1 rfl ?_
 have ⟨B,f,g⟩:=bnd H5
 refine Lk [1,0] [0] (dY f) λ⟨i,j⟩=> ?_
 refine Z2 ?_
 have ⟨k,l,m⟩:=bnd g
 refine Lk [] [1] (uJ l) λn=> ?_
 refine Yl0 ?_
 have ⟨o,p,q⟩:=bnd m
 refine T.rf2 (σ:=bJ) (η:=(Option Addr×Nat)) (X:=Int×aF) (θ:=Unit) (τ:=(Option Addr×Nat)×(Option Addr×Nat)) (s1:=o.1) (hx:=λx=>x.1) (λx t=>[.int .i64 x.1,.agg #[.int .i32 x.2.rune,.int .i64 x.2.aM,.int .i64 x.2.part]]) (λx t=>[]) (λ_=>none) (λa h=>(λc d=>[Ch.arr (Ty.int .u8) 5 c d a.b,Ch.box g2 224 [.slice c a.b.length d],Ch.box g1 116 [.slice A0 r_.cells.length C0,.bool r_.wrapped]]) h.1 h.2) (λa h=>(λc d=>[Im.sl aS A0 C0 k,Im.sl (Ty.int .i64) (some ⟨g6,0,none⟩) 1 [r3],Im.sl aS A0 C0 r_.cells]) h.1 h.2) 4 [2,1,1,0] [0,1,2] [0] rfl rfl (λ_ _=>rfl) rfl (λyl C hY=>(rj hY (i,j) n A0 C0 p:_)) (λ_ _ _ _=>rfl) rfl rfl rfl rfl rfl ?_ rfl ?_
 ·rintro yl K2 a ⟨c,d⟩ e ⟨⟩ F s
  refine Z1 ?_
  refine Ll λI=> ?_
  refine Lt 0 ?_
  refine Z0 ?_
  refine E.begin λK3=> ?_
  refine Zl ?_
  refine La [] [] (Ac.bs (ty:=(Ty.int .i64)) (xs:=[e.1,(IntKind.i64.wrap e.2.rune),e.2.aM,e.2.part]) (.cons () [] rfl (.cons () [] rfl (.cons () [] rfl (.cons () [] rfl .nil)))) rfl rfl rfl rfl rfl rfl rfl) λJ=> ?_
  refine L.frz 0 rfl ?_
  have ⟨M,u,v⟩:=bnd s
  refine Lk [2,1] [0] (dY u) λ⟨w,y⟩=> ?_
  refine Z0 ?_
  cases v
  exact E.on (w,y) [1,0,1] [1,2,3] rfl rfl rfl rfl
 rintro ⟨N,⟨O,P⟩⟩ Q
 refine Z1 ?_
 have ⟨R,z,A⟩:=bnd q
 refine Lk [2,1] [] (iT z) λ⟨⟩=> ?_
 refine Z0 ?_
 cases A
 exact E.pK () 2 [] [] rfl (.tmp rfl .nil) rfl rfl rfl
theorem lP {s_:aC} {r:ByteArray} (H:fK s_=some r):CT G 116 [.agg (gO s_ A0 C0 A1 C1).toArray] [] [Im.sl aD A0 C0 s_.rows,Im.sl aB A1 C1 s_.begun] (λ_:Unit=> .string r) (λh=>[]) (λh=>[]):=by
 delta fK at H
 refine Cf Go.Proofs.Tryz.func116 λK=> ?_
 refine Z1 ?_
 refine Lx λg1=> ?_
 refine Y2 ?_
 have ⟨p,q,s⟩:=bnd H
 refine Tj0 [(12,.bool p)] [1] [] [0] ?_ ?_
 ·refine Z0 ?_
  have ⟨al,t,u⟩:=bnd q
  refine Lk [] [0,1] (lf t) λ⟨⟩=> ?_
  refine Z0 ?_
  refine Lw 8 u (λf=> ?_) λf=> ?_
  ·refine Z0 ?_
   cases f
   exact Eg0 [0] 0
  refine Z0 ?_
  have ⟨am,v,z⟩:=bnd f
  refine Lk [] [0,1] (ij v) λ⟨⟩=> ?_
  refine Z0 ?_
  cases z
  exact Eg0 [0] 0
 refine Tb s (λg=> ?_) λg=> ?_
 ·refine Z1 ?_
  cases g
  exact Eo1 () [] []
 refine Z1 ?_
 refine Ll λo=> ?_
 refine Y1 ?_
 refine Td [] [1] mo ?_
 refine Dq 0 ?_
 refine Db 1 0 ?_
 refine Dq 2 ?_
 refine Db 3 0 ?_
 refine Dq 4 ?_
 refine Db 5 0 ?_
 refine Dq 6 ?_
 refine Db 7 0 ?_
 refine Dq 8 ?_
 refine Db 9 0 ?_
 refine Dq 12 ?_
 refine Db 13 0 ?_
 refine Dq 16 ?_
 refine Db 17 0 ?_
 refine Dq 18 ?_
 refine Db 19 0 ?_
 refine Dq 22 ?_
 refine Db 23 0 ?_
 refine DF.of rfl ?_
 refine DF.add _ (FSp.ac 10 [] (Ac.frz (Ac.bs (ty:=(Ty.int .i64)) (xs:=[s_.k,s_.w,s_.h,s_.x,s_.y]) (.cons () [] rfl (.cons () [] rfl (.cons () [] rfl (.cons () [] rfl (.cons () [] rfl .nil))))) rfl rfl rfl rfl rfl rfl rfl)) rfl rfl rfl rfl rfl) rfl ?_
 refine DF.add _ (FSp.ac 14 [] (Ac.frz (Ac.bs (ty:=Ty.str) (xs:=[s_.title]) (.cons () [] rfl .nil) rfl rfl rfl rfl rfl rfl rfl)) rfl rfl rfl rfl rfl) rfl ?_
 refine DF.add _ (FSp.ac 20 [] (Ac.frz (Ac.bs (ty:=(Ty.int .i64)) (xs:=[s_.len,s_.chain]) (.cons () [] rfl (.cons () [] rfl .nil)) rfl rfl rfl rfl rfl rfl rfl)) rfl rfl rfl rfl rfl) rfl ?_
 refine DF.step 11 rfl rfl rfl rfl rfl ?_
 refine DFp.use 2 rfl rfl rfl ?_
 intro an
 refine DFp.gC (Ty.int .u8) 5 ?_
 have ⟨ao,A,B⟩:=bnd g
 refine DFp.a [1,0] [0] (Ac.call (dY A) rfl rfl rfl rfl) rfl rfl rfl rfl rfl rfl rfl rfl ?_
 rintro ⟨ap,aq⟩
 refine DF.step 15 rfl rfl rfl rfl rfl ?_
 refine DFp.use 1 rfl rfl rfl ?_
 intro ar
 have ⟨au,C,F⟩:=bnd B
 refine DFp.a [0,0] [0] (Ac.call (mO C) rfl rfl rfl rfl) rfl rfl rfl rfl rfl rfl rfl rfl ?_
 rintro ⟨av,aw⟩
 refine DF.step 21 rfl rfl rfl rfl rfl ?_
 refine DFp.use 0 rfl rfl rfl ?_
 intro ax
 have ⟨ay,I,J⟩:=bnd F
 refine DFp.a [0,0] [0] (Ac.call (dY I) rfl rfl rfl rfl) rfl rfl rfl rfl rfl rfl rfl rfl ?_
 rintro ⟨az,a0⟩
 have ⟨M,N,O⟩:=bnd J
 refine DF.add _ (FSp.ac 24 [4] (Ac.call (pD N) rfl rfl rfl rfl) rfl rfl rfl rfl rfl) rfl ?_
 refine DF.add _ (FSp.dep 0 rfl rfl λ⟨⟩=>FSp.ac 25 [] (Ac.frz (Ac.bs (ty:=Ty.str) (xs:=[M]) (.cons () [] rfl .nil) rfl rfl rfl rfl rfl rfl rfl)) rfl rfl rfl rfl rfl) rfl ?_
 refine DF.step 26 rfl rfl rfl rfl rfl ?_
 refine DFp.use 0 rfl rfl rfl ?_
 intro a1
 refine DFp.use 0 rfl rfl rfl ?_
 rintro ⟨⟩
 have ⟨a2,P,Q⟩:=bnd O
 refine DFp.a [0,0] [0] (Ac.call (iO P) rfl rfl rfl rfl) rfl rfl rfl rfl rfl rfl rfl rfl ?_
 rintro ⟨R,S⟩
 refine DF.fin rfl rfl rfl rfl rfl ?_
 refine DFe.nil ?_
 refine Z2 ?_
 have ⟨i,U,V⟩:=bnd Q
 refine Tjh (η:=(Option Addr×Nat)) (λ_=>[]) [3] (λh=>(λj l=>[Ch.arr (Ty.int .u8) 5 j l i.b,Ch.box o 224 [.slice j i.b.length l]]) h.1 h.2) [0] (λ_=>[]) ?_ ?_
 ·refine Yl0 ?_
  refine Tq (η:=(Option Addr×Nat)) (λc h=>(λd e=>[(43,.int .i64 c.2)]) h.1 h.2) [3,41,42] (λc h=>(λd e=>[Ch.arr (Ty.int .u8) 5 d e c.1.b,Ch.box o 224 [.slice d c.1.b.length e]]) h.1 h.2) [0] (λ_ _=>[]) (R,S) [2,1,0] [] U ?_
  rintro k_ c ⟨d,e⟩ a3 W X Y
  refine Y2 ?_
  refine Tb W (λm=> ?_) λm=> ?_
  ·refine Z1 ?_
   refine Zl ?_
   refine Z1 ?_
   have ⟨a4,n,Z⟩:=bnd m
   refine L.addr 4 rfl (bH n) λa5 a6 aa=> ?_
   subst aa
   refine Ly (Yl.ia n rfl rfl rfl rfl rfl rfl) ?_
   refine L.el 4 rfl (aJ n).2 ?_
   rintro ⟨a7,a8⟩
   refine Lc 0 0 ?_
   refine Ll λa9=> ?_
   refine Lt 0 ?_
   refine Z0 ?_
   have ⟨ab,ad,ae⟩:=bnd Z
   refine Lk [] [1] (mP ad) λ⟨⟩=> ?_
   refine La [] [] (Ac.bs (ty:=Ty.str) (xs:=[ab]) (.cons () [] rfl .nil) rfl rfl rfl rfl rfl rfl rfl) λba=> ?_
   refine L.frz 0 rfl ?_
   have ⟨bb,af,ag⟩:=bnd ae
   refine Lk [2,1] [0] (iO af) λ⟨ah,ai⟩=> ?_
   refine Z0 ?_
   cases ag
   exact Eg (_,(ah,ai)) (X _ rfl) [1,0,1] [] 3
  refine Z0 ?_
  cases m
  have hb:=Y _ rfl
  subst i
  exact Eg (d,e) trivial [0,0,0] [] 0
 rintro ⟨j,l⟩
 refine Z1 ?_
 have ⟨bc,aj,ak⟩:=bnd V
 refine Lk [1,0] [] (iT aj) λ⟨⟩=> ?_
 refine Z0 ?_
 cases ak
 exact Eo1 () [] []
theorem pE {s_:aC} {r:Bool} (H:gn s_=some r):CT G 118 [.agg (gO s_ A0 C0 A1 C1).toArray] [] [Im.sl aD A0 C0 s_.rows,Im.sl aB A1 C1 s_.begun] (λ_:Unit=> .bool r) (λh=>[]) (λh=>[]):=by
 delta gn at H
 refine Cf Go.Proofs.Tryz.func118 λK=> ?_
 refine Z1 ?_
 refine Lx λg1=> ?_
 refine Z1 ?_
 have ⟨r2,h3,H4⟩:=bnd H
 refine Lk [] [0,1] (lP h3) λ⟨⟩=> ?_
 refine Z0 ?_
 cases H4
 exact Eo1 () [] []
theorem vW {x_:Int} {b:Int} {r:Int} (H:jI x_ b=some r):CT G 141 [.int .u32 x_,.int .u8 b] [] [Im.sl (Ty.int .u32) (some ⟨0,0,none⟩) 16 cT] (λ_:Unit=> .int .u32 r) (λh=>[]) (λh=>[]):=by
 delta jI at H
 refine Cf Go.Proofs.Tryz.func141 λK=> ?_
 refine Z3 ?_
 have ⟨x1,h2,H3⟩:=bnd H
 refine Ly (Yl.xg h2 rfl rfl rfl rfl rfl rfl rfl) ?_
 refine L.el 0 rfl (aJ h2).2 ?_
 rintro _
 refine Lc 0 0 ?_
 refine Z1 ?_
 have ⟨x5,h6,H7⟩:=bnd H3
 refine Ly (Yl.xg h6 rfl rfl rfl rfl rfl rfl rfl) ?_
 refine L.el 1 rfl (aJ h6).2 ?_
 rintro _
 refine Lc 0 0 ?_
 refine Z0 ?_
 cases H7
 exact Eo1 () [] []
theorem Ai {l:List ByteArray} {r:Int} (H:mC l=some r):CT G 115 [.slice A0 l.length C0] [] [Im.sl Ty.str A0 C0 l,Im.sl (Ty.int .u32) (some ⟨0,0,none⟩) 16 cT] (λ_:Unit=> .int .u32 r) (λh=>[]) (λh=>[]):=by
 delta mC at H
 refine Cf Go.Proofs.Tryz.func115 λK=> ?_
 refine Z3 ?_
 refine Z1 ?_
 have ⟨j,m,n⟩:=bnd H
 refine Tj0 [(3,.int .u32 j)] [] [] [] ?_ ?_
 ·refine Yl0 ?_
  refine Tq (η:=Unit) (λa h=>[(3,.int .u32 a.1),(9,.int .i64 a.2)]) [7,8] (λ_ _=>[]) [] (λ_ _=>[]) () [] [] m ?_
  rintro k_ a ⟨⟩ I o p q
  refine Y2 ?_
  refine Tb o (λb=> ?_) λb=> ?_
  ·refine Z1 ?_
   refine Zl ?_
   refine Z1 ?_
   have ⟨s,d,t⟩:=bnd b
   refine L.addr 0 rfl (bH d) λe f u=> ?_
   subst u
   refine Ly (Yl.ia d rfl rfl rfl rfl rfl rfl) ?_
   refine L.el 0 rfl (aJ d).2 ?_
   rintro _
   refine Lc 0 0 ?_
   refine Z1 ?_
   have ⟨k,v,w⟩:=bnd t
   refine T.n7 (η:=Unit×Unit) (λh=>True) (λh=>[(3,.int .u32 k),(7,.slice (some ⟨e,f,none⟩) l.length C0),(8,.int .i64 (l.length:Int)),(9,.int .i64 a.2)]) (λh=>[]) (λh=>[Im.cells e (f+a.2.toNat*1) [.string s],Im.sl Ty.str (some ⟨e,f,none⟩) C0 l,Im.sl (Ty.int .u32) (some ⟨0,0,none⟩) 16 cT]) ?_ ?_
   ·refine Yl0 ?_
    refine Tq (η:=Unit) (λg h=>[(3,.int .u32 g.2),(15,.int .i64 g.1)]) [5,7,8,9,14] (λ_ _=>[]) [] (λ_ _=>[]) () [] [] v ?_
    rintro k_ g ⟨⟩ J x y z
    refine Y2 ?_
    refine Tb x (λi=> ?_) λi=> ?_
    ·refine Z1 ?_
     refine Zl ?_
     refine Z1 ?_
     have ⟨M,A,B⟩:=bnd i
     refine Ly (Yl.si A rfl rfl rfl rfl rfl) ?_
     have ⟨N,C,F⟩:=bnd B
     refine Lk [] [2] (vW C) λ⟨⟩=> ?_
     refine Z0 ?_
     cases F
     exact Eg (_,()) (y _ rfl) [] [] 0
    refine Z0 ?_
    cases i
    have hb:=z _ rfl
    subst k
    exact Egx ((),()) trivial [] [0,1,2]
   rintro ⟨_,⟨⟩⟩ _
   refine Z0 ?_
   cases w
   exact Eg (_,()) (p _ rfl) [] [] 1
  refine Z0 ?_
  cases b
  have hb:=q _ rfl
  subst j
  exact Eg0 [] 0
 refine Z1 ?_
 refine Ly (Yl.com (c:=4294967295) rfl rfl rfl) ?_
 refine Z0 ?_
 cases n
 exact Eo1 () [] []
theorem mg {s_:aC} {r:Int} (H:fV s_=some r):CT G 68 [.agg (gO s_ A0 C0 A1 C1).toArray] [] [Im.sl aD A0 C0 s_.rows,Im.sl aB A1 C1 s_.begun,Im.sl (Ty.int .u32) (some ⟨0,0,none⟩) 16 cT] (λ_:Unit=> .int .i64 r) (λh=>[]) (λh=>[]):=by
 delta fV at H
 refine Cf Go.Proofs.Tryz.func68 λK=> ?_
 refine Z1 ?_
 refine Lx λg1=> ?_
 refine Z1 ?_
 have ⟨r2,h3,H4⟩:=bnd H
 refine Lk [] [0,1] (lP h3) λ⟨⟩=> ?_
 refine La [] [] (Ac.bs (ty:=Ty.str) (xs:=[r2]) (.cons () [] rfl .nil) rfl rfl rfl rfl rfl rfl rfl) λg5=> ?_
 have ⟨r7,h8,H9⟩:=bnd H4
 refine L.br (Ac.call (Ai h8) rfl rfl rfl rfl) (Bw.ch 0 rfl (Bw.im 2 rfl (Bw.nil))) rfl rfl rfl ?_
 intro _
 refine Z0 ?_
 cases H9
 exact Eo1 () [] []
theorem mi {a:aC} {b:aC} {r:(aC×aC)} (H:fW a b=some r):CT G 132 [.agg (gO a A0 C0 A1 C1).toArray,.agg (gO b A2 C2 A3 C3).toArray] [] [Im.sl aD A0 C0 a.rows,Im.sl aB A1 C1 a.begun,Im.sl aD A2 C2 b.rows,Im.sl aB A3 C3 b.begun] (λh:Nat×Nat=> .func (.func 147) #[] #[.pointer (some ⟨h.1,0,none⟩),.pointer (some ⟨h.2,0,none⟩)]) (λh=>[Ch.box h.1 59 (gO r.1 A2 C2 A3 C3),Ch.box h.2 59 (gO r.2 A0 C0 A1 C1)]) (λh=>[Im.sl aD A2 C2 r.1.rows,Im.sl aB A3 C3 r.1.begun,Im.sl aD A0 C0 r.2.rows,Im.sl aB A1 C1 r.2.begun]):=by
 delta fW at H
 refine Cf Go.Proofs.Tryz.func132 λK=> ?_
 refine Z1 ?_
 refine Lx λg1=> ?_
 refine Lx λg2=> ?_
 refine Z1 ?_
 cases H
 exact Eo1 (g2,g1) [0,0] [2,3,0,1]
theorem ny {s_:aC} {y:Int} {r:aE×Bool} (H:fh s_ y=some r):CT G 117 [.agg (gO s_ A0 C0 A1 C1).toArray,.int .i64 y] [] [Im.sl aD A0 C0 s_.rows,Im.sl aB A1 C1 s_.begun] (λh:(Option Addr×Nat)=> .tuple #[.agg #[.slice h.1 r.1.cells.length h.2,.bool r.1.wrapped],.bool r.2]) (λh=>[]) (λh=>[Im.sl aS h.1 h.2 r.1.cells]):=by
 delta fh at H
 refine Cf Go.Proofs.Tryz.func117 λK=> ?_
 refine Z1 ?_
 refine Lx λg1=> ?_
 refine Ll λg2=> ?_
 refine Y2 ?_
 have ⟨e6,H7,H8⟩:=bnd H
 refine Tj0 [(14,.bool e6)] [1,2,4] [] [0,1] ?_ ?_
 ·refine Z0 ?_
  refine Lw 8 H7 (λH9=> ?_) λH9=> ?_
  ·refine Z0 ?_
   cases H9
   exact Eg0 [0,0] 0
  refine Z0 ?_
  cases H9
  exact Eg0 [0,0] 0
 refine Tb H8 (λa=> ?_) λa=> ?_
 ·refine Z1 ?_
  refine Lt 0 ?_
  refine Z0 ?_
  refine E.dC [Im.sl aS none 0 []] (λA w _ _ f hf=>by rw [List.mem_singleton.1 hf]; exact Im.bS A w) ?_
  cases a
  exact Eo (none,0) [] [0] (.cell 0 rfl rfl rfl (.tmp rfl .nil))
 refine Z1 ?_
 have ⟨i,b,c⟩:=bnd a
 refine L.addr 0 rfl (bH b) λj k d=> ?_
 subst d
 refine Ly (Yl.ia b rfl rfl rfl rfl rfl rfl) ?_
 refine L.el 0 rfl (aJ b).2 ?_
 rintro ⟨e,g⟩
 refine Lc 0 0 ?_
 refine Lt 0 ?_
 refine Z0 ?_
 cases c
 exact Eo (e,g) [] [1] (.cell 0 rfl rfl rfl (.tmp rfl .nil))
theorem lQ {s1_:List aF} {s2_:List aF} {r:Bool} (H:eF s1_ s2_=some r):CT G 95 [.slice A0 s1_.length C0,.slice A1 s2_.length C1] [] [Im.sl aS A0 C0 s1_,Im.sl aS A1 C1 s2_] (λ_:Unit=> .bool r) (λh=>[]) (λh=>[]):=by
 delta eF at H
 refine Cf Go.Proofs.Tryz.func95 λK=> ?_
 refine Z3 ?_
 refine Tb H (λH2=> ?_) λH2=> ?_
 ·refine Z1 ?_
  cases H2
  exact Eo1 () [] []
 refine Z2 ?_
 have ⟨a,j,f⟩:=bnd H2
 refine Tj (η:=Unit×Unit) (λh=>a = .inl h.1) (λ_=>[]) [] (λ_=>[]) [] (λ_=>[]) ?_ ?_
 ·refine Yl0 ?_
  refine Tq (η:=Unit) (λg h=>[(13,.int .i64 g)]) [0,1,12] (λ_ _=>[]) [] (λ_ _=>[]) () [] [] j ?_
  rintro k_ g ⟨⟩ k l m i
  refine Y2 ?_
  refine Tb l (λb=> ?_) λb=> ?_
  ·refine Z1 ?_
   refine Zl ?_
   refine Y2 ?_
   refine Td [] [] mo ?_
   refine Dq 0 ?_
   refine Dq 1 ?_
   have ⟨t,c,n⟩:=bnd b
   refine D.addr 0 rfl (bH c) λu v o=> ?_
   subst o
   refine Dy 2 (Yl.ia c rfl rfl rfl rfl rfl rfl) ?_
   refine D.el 0 rfl (aJ c).2 ?_
   rintro _
   refine Dy 3 (Yl.ldc 0 0 rfl rfl rfl rfl) ?_
   refine Dq 4 ?_
   refine Dq 5 ?_
   have ⟨w,d,p⟩:=bnd n
   refine D.addr 2 rfl (bH d) λx y q=> ?_
   subst q
   refine Dy 6 (Yl.ia d rfl rfl rfl rfl rfl rfl) ?_
   refine D.el 2 rfl (aJ d).2 ?_
   rintro _
   refine Dy 7 (Yl.ldc 0 0 rfl rfl rfl rfl) ?_
   refine Dq 8 ?_
   refine Dn ?_
   refine Z0 ?_
   refine Tb p (λe=> ?_) λe=> ?_
   ·refine Z1 ?_
    obtain ⟨z,hz,s⟩:=bQ e
    subst k
    have hb:=i _ rfl
    subst a
    obtain rfl:=(sm f).symm
    refine Z0 ?_
    cases s
    exact Eo1 () [] []
   refine Z0 ?_
   cases e
   exact Eg (_,()) (m _ rfl) [] [] 2
  refine Z0 ?_
  cases b
  have hb:=i _ rfl
  subst a
  exact Eg (_,()) rfl [] [] 0
 rintro ⟨A,⟨⟩⟩ hy
 subst hy
 refine Z1 ?_
 cases f
 exact Eo1 () [] []
theorem kO {r_:aE} {q:aE} {r:Bool} (H:fm r_ q=some r):CT G 46 [.agg #[.slice A0 r_.cells.length C0,.bool r_.wrapped],.agg #[.slice A1 q.cells.length C1,.bool q.wrapped]] [] [Im.sl aS A0 C0 r_.cells,Im.sl aS A1 C1 q.cells] (λ_:Unit=> .bool r) (λh=>[]) (λh=>[]):=by
 delta fm at H
 refine Cf Go.Proofs.Tryz.func46 λK=> ?_
 refine Z1 ?_
 refine Lx λg1=> ?_
 refine Lx λg2=> ?_
 refine Y1 ?_
 have ⟨b,c,d⟩:=bnd H
 refine Tj0 [(4,.bool b)] [] [] [0,1] ?_ ?_
 ·refine Z0 ?_
  refine Lw 10 c (λa=> ?_) λa=> ?_
  ·refine Z0 ?_
   have ⟨g,e,f⟩:=bnd a
   refine Lk [] [0,1] (lQ e) λ⟨⟩=> ?_
   refine Z0 ?_
   cases f
   exact Eg0 [0,0] 0
  refine Z0 ?_
  cases a
  exact Eg0 [0,0] 0
 refine Z0 ?_
 cases d
 exact Eo1 () [] []
theorem lg {σ η:Type} {Y:σ->(Int×aE)->Option (σ×Bool)} {y0:σ} {x1:aC} {x2:aC} {yl:Nat} {C:σ->η->Ch} (hY: ∀ s (h:η) (x:Int×aE) (t:(Option Addr×Nat)) z,Y s x=some z->YT G yl [.int .i64 x.1,.agg #[.slice t.1 x.2.cells.length t.2,.bool x.2.wrapped]] [C s h] [Im.sl aS t.1 t.2 x.2.cells] (λ_:η=> .bool z.2) (λh2=>[C z.1 h2]) (λ_=>[])) (h0:η) (g_1:Nat) (a_1_0:Option Addr) (c_1_0:Nat) (a_1_1:Option Addr) (c_1_1:Nat) (g_2:Nat) (a_2_0:Option Addr) (c_2_0:Nat) (a_2_1:Option Addr) (c_2_1:Nat) {r:σ} (H:eQ Y y0 x1 x2=some r):CT G 147 [.func (.yield yl) #[] #[],.pointer (some ⟨g_1,0,none⟩),.pointer (some ⟨g_2,0,none⟩)] [C y0 h0,Ch.box g_1 59 (gO x1 a_1_0 c_1_0 a_1_1 c_1_1),Ch.box g_2 59 (gO x2 a_2_0 c_2_0 a_2_1 c_2_1)] [Im.sl aD a_1_0 c_1_0 x1.rows,Im.sl aB a_1_1 c_1_1 x1.begun,Im.sl aD a_2_0 c_2_0 x2.rows,Im.sl aB a_2_1 c_2_1 x2.begun] (λh:η=> .tuple #[]) (λh=>[C r h,Ch.box g_1 59 (gO x1 a_1_0 c_1_0 a_1_1 c_1_1),Ch.box g_2 59 (gO x2 a_2_0 c_2_0 a_2_1 c_2_1)]) (λh=>[]):=by
  delta eQ at H
  refine Cf Go.Proofs.Tryz.func147 λK=> ?_
  refine Z1 ?_
  have ⟨e,v,m⟩:=bnd H
  refine T.n7 (η:=σ×(η)) (λh=>e = .inl h.1) (λh=>(λc=>(λa=>[]) h.2) h.1) (λh=>(λc=>(λa=>[C c a,Ch.box g_1 59 (gO x1 a_1_0 c_1_0 a_1_1 c_1_1),Ch.box g_2 59 (gO x2 a_2_0 c_2_0 a_2_1 c_2_1)]) h.2) h.1) (λh=>(λc=>(λa=>[Im.sl aD a_1_0 c_1_0 x1.rows,Im.sl aB a_1_1 c_1_1 x1.begun,Im.sl aD a_2_0 c_2_0 x2.rows,Im.sl aB a_2_1 c_2_1 x2.begun]) h.2) h.1) ?_ ?_
  ·refine Yl0 ?_
   refine Tq (η:=η) (λd h=>(λb=>[(11,.int .i64 d.1)]) h) [0,2,9,10] (λd h=>(λb=>[C d.2 b]) h) [1,2] (λ_ _=>[]) h0 [0,0,0] [] v ?_
   rintro k_ d b w y A n
   refine Y2 ?_
   refine Tb y (λf=> ?_) λf=> ?_
   ·refine Y1 ?_
    have ⟨o,B,p⟩:=bnd f
    refine Tj (η:=σ×(η)) (λh=>o = .inl h.1) (λ_=>[]) [0,2,9,10,11] (λh=>(λq=>(λg=>[C q g]) h.2) h.1) [1,2] (λ_=>[]) ?_ ?_
    ·refine Zl ?_
     refine Z1 ?_
     have ⟨aa,i,F⟩:=bnd B
     refine L.addr 0 rfl (bH i) λab ac I=> ?_
     subst I
     refine Ly (Yl.ia i rfl rfl rfl rfl rfl rfl) ?_
     refine L.el 0 rfl (aJ i).2 ?_
     rintro ⟨J,M⟩
     refine Lc 0 0 ?_
     refine Ll λad=> ?_
     refine Z0 ?_
     refine Lt 0 ?_
     refine Z2 ?_
     have ⟨ae,N,O⟩:=bnd F
     refine Lk [] [4,5] (ny N) λ⟨af,ag⟩=> ?_
     refine Z0 ?_
     refine Ll λah=> ?_
     refine Lt 0 ?_
     refine Y1 ?_
     have ⟨P,Q,R⟩:=bnd O
     refine Tj0 [(27,.bool P)] [0,2,4,5,9,10,11] [] [0,1,2,3,4] ?_ ?_
     ·refine Z0 ?_
      refine Lw 23 Q (λj=> ?_) λj=> ?_
      ·refine Z0 ?_
       have ⟨ai,S,U⟩:=bnd j
       refine Lk [] [0,2] (kO S) λ⟨⟩=> ?_
       refine Z0 ?_
       cases U
       exact Eg0 [0,0,0,0,0] 0
      refine Z0 ?_
      cases j
      exact Eg0 [0,0,0,0,0] 0
     refine Tb R (λk=> ?_) λk=> ?_
     ·refine Z0 ?_
      cases k
      exact Eg (_,b) rfl [2,2,2] [] 3
     refine Z1 ?_
     have ⟨aj,V,W⟩:=bnd k
     refine L.yd [2] [2] (hY _ _ _ (J,M) _ V) rfl rfl rfl rfl rfl rfl rfl rfl ?_
     intro u
     refine Z0 ?_
     refine Tb W (λl=> ?_) λl=> ?_
     ·refine Z0 ?_
      obtain ⟨ak,hz,X⟩:=gH l
      subst o
      obtain rfl:=(sm p).symm
      refine Z0 ?_
      obtain ⟨al,hz,Z⟩:=bQ X
      subst w
      have hb:=n _ rfl
      subst e
      obtain rfl:=(sm m).symm
      refine Z0 ?_
      cases Z
      exact Eo u [0,2,2] [] .nil
     refine Z0 ?_
     cases l
     exact Eg (_,u) rfl [0,2,2] [] 3
    rintro ⟨q,g⟩ hy
    subst hy
    refine Z0 ?_
    cases p
    exact Eg (_,g) (A _ rfl) [0,0,0] [] 0
   refine Z0 ?_
   cases f
   have hb:=n _ rfl
   subst e
   exact Egx (_,b) rfl [0,0,0] [0,1,2,3]
  rintro ⟨c,a⟩ hy
  subst hy
  refine E.off ?_
  cases m
  exact Eo a [0,0,0] [] .nil
theorem pM {a:aC} {b:aC} {r:(List Int)} (H:gX a b=some r):CT G 131 [.agg (gO a A0 C0 A1 C1).toArray,.agg (gO b A2 C2 A3 C3).toArray] [] [Im.sl aD A0 C0 a.rows,Im.sl aB A1 C1 a.begun,Im.sl aD A2 C2 b.rows,Im.sl aB A3 C3 b.begun] (λh:(Option Addr×Nat)=> .slice h.1 r.length h.2) (λh=>[Ch.arr (Ty.int .i64) 3 h.1 h.2 r]) (λh=>[]):=by
 delta gX at H
 refine Cf Go.Proofs.Tryz.func131 λK=> ?_
 refine T.qX ?_
 refine Z1 ?_
 refine Lx λg1=> ?_
 refine Lx λg2=> ?_
 refine Z1 ?_
 refine Ll λg3=> ?_
 refine Z2 ?_
 have ⟨r4,h5,H6⟩:=bnd H
 refine Lk [] [0,1,2,3] (mi h5) λ⟨g7,g8⟩=> ?_
 refine Yl0 ?_
 refine T.gC (Ty.int .i64) 3 ?_
 have ⟨g,i,j⟩:=bnd H6
 refine T.rf2 (σ:=(List Int)) (η:=(Option Addr×Nat)) (X:=Int×aE) (θ:=(Option Addr×Nat)) (τ:=(Option Addr×Nat)) (s1:=g) (hx:=λx=>x) (λx t=>[.int .i64 x.1,.agg #[.slice t.1 x.2.cells.length t.2,.bool x.2.wrapped]]) (λx t=>[Im.sl aS t.1 t.2 x.2.cells]) (λ_=>none) (λc h=>(λd e=>[Ch.arr (Ty.int .i64) 3 d e c,Ch.box g3 37 [.slice d c.length e],Ch.box g2 59 (gO b A2 C2 A3 C3),Ch.box g1 59 (gO a A0 C0 A1 C1)]) h.1 h.2) (λc h=>(λd e=>[Im.sl aD A2 C2 r4.1.rows,Im.sl aB A3 C3 r4.1.begun,Im.sl aD A0 C0 r4.2.rows,Im.sl aB A1 C1 r4.2.begun,Im.sl aD A0 C0 a.rows,Im.sl aB A1 C1 a.begun,Im.sl aD A2 C2 b.rows,Im.sl aB A3 C3 b.begun]) h.1 h.2) 6 [0,2,2,2,0,0] [0,1,2,3,4,5,6,7] [0,1,2,3] rfl rfl (λ_ _=>rfl) rfl (λyl C hY=>(lg hY (none,0) g7 A2 C2 A3 C3 g8 A0 C0 A1 C1 i:_)) (λ_ _ _ _=>rfl) rfl rfl rfl rfl rfl ?_ rfl ?_
 ·rintro yl K2 c ⟨d,e⟩ k ⟨q,s⟩ u l
  refine Z0 ?_
  refine E.begin λK3=> ?_
  refine Zl ?_
  refine La [] [] (Ac.bs (ty:=(Ty.int .i64)) (xs:=[k.1]) (.cons () [] rfl .nil) rfl rfl rfl rfl rfl rfl rfl) λv=> ?_
  refine L.frz 0 rfl ?_
  have ⟨_,m,n⟩:=bnd l
  refine La [0] [0] (Ac.ap (ty:=(Ty.int .i64)) m rfl rfl rfl rfl rfl rfl rfl) ?_
  rintro ⟨o,p⟩
  refine Lt 1 ?_
  refine Z0 ?_
  cases n
  exact E.on (o,p) [1,0,0,0] [2,3,4,5,6,7,8,9] rfl rfl rfl rfl
 rintro f w
 refine Z1 ?_
 cases j
 exact E.pK (f.1,f.2) 0 [0] [] rfl (.tmp rfl .nil) rfl rfl rfl
theorem tt {a:aC} {b:aC} {r:ByteArray} (H:jq a b=some r):CT G 92 [.agg (gO a A0 C0 A1 C1).toArray,.agg (gO b A2 C2 A3 C3).toArray] [] [Im.sl aD A0 C0 a.rows,Im.sl aB A1 C1 a.begun,Im.sl aD A2 C2 b.rows,Im.sl aB A3 C3 b.begun,Im.sl (Ty.int .u32) (some ⟨0,0,none⟩) 16 cT] (λ_:Unit=> .string r) (λh=>[]) (λh=>[]):=by
 delta jq at H
 refine Cf Go.Proofs.Tryz.func92 λK=> ?_
 refine T.qX ?_
 refine Z1 ?_
 refine Lx λg1=> ?_
 refine Lx λg2=> ?_
 refine Y2 ?_
 have ⟨p,s,u⟩:=bnd H
 refine T.tL (η:=Unit×Unit) (λh=>True) (λh=>[]) (λh=>[(2,.pointer (some ⟨g1,0,none⟩)),(3,.pointer (some ⟨g2,0,none⟩)),(15,.bool p)]) (λh=>[Ch.box g2 59 (gO b A2 C2 A3 C3),Ch.box g1 59 (gO a A0 C0 A1 C1),Ch.dfs []]) (λh=>[Im.sl aD A0 C0 a.rows,Im.sl aB A1 C1 a.begun,Im.sl aD A2 C2 b.rows,Im.sl aB A3 C3 b.begun,Im.sl (Ty.int .u32) (some ⟨0,0,none⟩) 16 cT]) ?_ ?_
 ·refine Z0 ?_
  have ⟨a6,v,z⟩:=bnd s
  refine Lk [] [0,1] (ij v) λ⟨⟩=> ?_
  refine Z0 ?_
  refine Lw 11 z (λg=> ?_) λg=> ?_
  ·refine Z0 ?_
   cases g
   exact E.mA ((),()) [0,0,0] [0,1,2,3,4] trivial rfl ⟨rfl,rfl,rfl,trivial⟩ rfl rfl
  refine Z0 ?_
  have ⟨a7,A,B⟩:=bnd g
  refine Lk [] [2,3] (pE A) λ⟨⟩=> ?_
  refine Z0 ?_
  cases B
  exact E.mA ((),()) [0,0,0] [0,1,2,3,4] trivial rfl ⟨rfl,rfl,rfl,trivial⟩ rfl rfl
 rintro ⟨_,⟨⟩⟩ _
 refine Tb u (λi=> ?_) λi=> ?_
 ·refine Z1 ?_
  cases i
  exact E.pK () 2 [] [] rfl (.tmp rfl .nil) rfl rfl rfl
 refine Z1 ?_
 refine Ll λF=> ?_
 refine Y1 ?_
 refine Td [] [1,1,1] mo ?_
 refine Db 0 1 ?_
 refine Dq 2 ?_
 refine Db 3 0 ?_
 refine Dq 4 ?_
 refine Db 5 0 ?_
 refine Dq 6 ?_
 refine Db 7 0 ?_
 refine Dq 8 ?_
 refine Db 9 0 ?_
 refine Dq 10 ?_
 refine Db 11 0 ?_
 refine Dq 14 ?_
 refine Db 15 0 ?_
 refine Dq 18 ?_
 refine Db 19 0 ?_
 refine Dq 20 ?_
 refine Db 21 0 ?_
 refine Dq 24 ?_
 refine Db 25 0 ?_
 refine Db 29 1 ?_
 refine Db 30 0 ?_
 refine DF.of rfl ?_
 have ⟨l,I,J⟩:=bnd i
 refine DF.add _ (FSp.ac 1 [0,1,4] (Ac.call (mg I) rfl rfl rfl rfl) rfl rfl rfl rfl rfl) rfl ?_
 refine DF.add _ (FSp.dep 0 rfl rfl λ⟨⟩=>FSp.ac 12 [] (Ac.frz (Ac.bs (ty:=(Ty.int .i64)) (xs:=[l,b.k,b.w,b.h,b.x,b.y]) (.cons () [] rfl (.cons () [] rfl (.cons () [] rfl (.cons () [] rfl (.cons () [] rfl (.cons () [] rfl .nil)))))) rfl rfl rfl rfl rfl rfl rfl)) rfl rfl rfl rfl rfl) rfl ?_
 refine DF.add _ (FSp.ac 16 [] (Ac.frz (Ac.bs (ty:=Ty.str) (xs:=[b.title]) (.cons () [] rfl .nil) rfl rfl rfl rfl rfl rfl rfl)) rfl rfl rfl rfl rfl) rfl ?_
 refine DF.add _ (FSp.ac 22 [] (Ac.frz (Ac.bs (ty:=(Ty.int .i64)) (xs:=[b.len,b.chain]) (.cons () [] rfl (.cons () [] rfl .nil)) rfl rfl rfl rfl rfl rfl rfl)) rfl rfl rfl rfl rfl) rfl ?_
 refine DF.step 13 rfl rfl rfl rfl rfl ?_
 refine DFp.use 2 rfl rfl rfl ?_
 intro M
 refine DFp.use 2 rfl rfl rfl ?_
 rintro ⟨⟩
 refine DFp.gC (Ty.int .u8) 5 ?_
 have ⟨a8,N,O⟩:=bnd J
 refine DFp.a [1,0] [0] (Ac.call (dY N) rfl rfl rfl rfl) rfl rfl rfl rfl rfl rfl rfl rfl ?_
 rintro ⟨a9,ba⟩
 refine DF.step 17 rfl rfl rfl rfl rfl ?_
 refine DFp.use 1 rfl rfl rfl ?_
 intro P
 have ⟨bb,Q,R⟩:=bnd O
 refine DFp.a [0,0] [0] (Ac.call (mO Q) rfl rfl rfl rfl) rfl rfl rfl rfl rfl rfl rfl rfl ?_
 rintro ⟨bc,bd⟩
 refine DF.step 23 rfl rfl rfl rfl rfl ?_
 refine DFp.use 0 rfl rfl rfl ?_
 intro S
 have ⟨be,U,V⟩:=bnd R
 refine DFp.a [0,0] [0] (Ac.call (dY U) rfl rfl rfl rfl) rfl rfl rfl rfl rfl rfl rfl rfl ?_
 rintro ⟨bf,bg⟩
 have ⟨m,W,Y⟩:=bnd V
 refine DF.add _ (FSp.ac 26 [6] (Ac.call (pD W) rfl rfl rfl rfl) rfl rfl rfl rfl rfl) rfl ?_
 refine DF.add _ (FSp.dep 0 rfl rfl λ⟨⟩=>FSp.ac 27 [] (Ac.frz (Ac.bs (ty:=Ty.str) (xs:=[m]) (.cons () [] rfl .nil) rfl rfl rfl rfl rfl rfl rfl)) rfl rfl rfl rfl rfl) rfl ?_
 refine DF.step 28 rfl rfl rfl rfl rfl ?_
 refine DFp.use 0 rfl rfl rfl ?_
 intro Z
 refine DFp.use 0 rfl rfl rfl ?_
 rintro ⟨⟩
 have ⟨bh,aa,ab⟩:=bnd Y
 refine DFp.a [0,0] [0] (Ac.call (iO aa) rfl rfl rfl rfl) rfl rfl rfl rfl rfl rfl rfl rfl ?_
 rintro ⟨bi,bj⟩
 have ⟨j,ad,ae⟩:=bnd ab
 refine DF.add _ (FSp.ac 31 [4,5,6,7] (Ac.frz (Ac.call (pM ad) rfl rfl rfl rfl)) rfl rfl rfl rfl rfl) rfl ?_
 refine DF.add _ (FSp.dep 0 rfl rfl λ⟨n,o⟩=>FSp.q 32 rfl rfl rfl rfl rfl) rfl ?_
 refine DF.add _ (FSp.dep 0 rfl rfl λ_=>FSp.ac 33 [] (Ac.frz (Ac.bs (ty:=(Ty.int .i64)) (xs:=[(j.length:Int)]) (.cons () [] rfl .nil) rfl rfl rfl rfl rfl rfl rfl)) rfl rfl rfl rfl rfl) rfl ?_
 refine DF.step 34 rfl rfl rfl rfl rfl ?_
 refine DFp.use 0 rfl rfl rfl ?_
 intro af
 refine DFp.use 1 rfl rfl rfl ?_
 rintro ⟨n,o⟩
 have ⟨bk,ag,ah⟩:=bnd ae
 refine DFp.a [0,0] [1] (Ac.call (dY ag) rfl rfl rfl rfl) rfl rfl rfl rfl rfl rfl rfl rfl ?_
 rintro ⟨ai,aj⟩
 refine DF.fin rfl rfl rfl rfl rfl ?_
 refine DFe.use ?_
 intro _
 refine DFe.nil ?_
 refine Z2 ?_
 have ⟨c,ak,al⟩:=bnd ah
 refine Lk [] [6,7,8,9] (mi ak) λ⟨am,an⟩=> ?_
 refine Yl0 ?_
 have ⟨ao,ap,aq⟩:=bnd al
 refine T.rf2 (σ:=bJ) (η:=(Option Addr×Nat)) (X:=Int×aE) (θ:=(Option Addr×Nat)) (τ:=(Option Addr×Nat)) (s1:=ao) (hx:=λx=>x) (λx t=>[.int .i64 x.1,.agg #[.slice t.1 x.2.cells.length t.2,.bool x.2.wrapped]]) (λx t=>[Im.sl aS t.1 t.2 x.2.cells]) (λ_=>none) (λd h=>(λe f=>[Ch.arr (Ty.int .u8) 5 e f d.b,Ch.box g2 59 (gO b A2 C2 A3 C3),Ch.box g1 59 (gO a A0 C0 A1 C1),Ch.box F 224 [.slice e d.b.length f]]) h.1 h.2) (λd h=>(λe f=>[Im.sl aD A2 C2 c.1.rows,Im.sl aB A3 C3 c.1.begun,Im.sl aD A0 C0 c.2.rows,Im.sl aB A1 C1 c.2.begun,Im.sl (Ty.int .i64) n o j,Im.sl (Ty.int .i64) (some ⟨af,0,none⟩) 1 [(j.length:Int)],Im.sl Ty.str (some ⟨Z,0,none⟩) 1 [m],Im.sl (Ty.int .i64) (some ⟨S,0,none⟩) 2 [b.len,b.chain],Im.sl Ty.str (some ⟨P,0,none⟩) 1 [b.title],Im.sl (Ty.int .i64) (some ⟨M,0,none⟩) 6 [l,b.k,b.w,b.h,b.x,b.y],Im.sl aD A0 C0 a.rows,Im.sl aB A1 C1 a.begun,Im.sl aD A2 C2 b.rows,Im.sl aB A3 C3 b.begun,Im.sl (Ty.int .u32) (some ⟨0,0,none⟩) 16 cT]) h.1 h.2) 4 [5,2,2,2,0,0] [0,1,2,3,4,5,6,7,8,9,10,11,12,13,14] [0,1,2,3] rfl rfl (λ_ _=>rfl) rfl (λyl C hY=>(lg hY (ai,aj) am A2 C2 A3 C3 an A0 C0 A1 C1 ap:_)) (λ_ _ _ _=>rfl) rfl rfl rfl rfl rfl ?_ rfl ?_
 ·rintro yl K2 d ⟨e,f⟩ ar ⟨bl,bm⟩ bn au
  refine Z1 ?_
  refine Ll λbo=> ?_
  refine Lt 0 ?_
  refine Z0 ?_
  refine E.begin λK3=> ?_
  refine Yl0 ?_
  refine Td [] [0,1,1] mo ?_
  refine Dq 0 ?_
  refine Db 3 0 ?_
  refine Da [] [] rfl rfl (Ac.bs (ty:=(Ty.int .i64)) (xs:=[ar.1]) (.cons () [] rfl .nil) rfl rfl rfl rfl rfl rfl rfl) λbp=> ?_
  refine D.frz 0 rfl ?_
  have ⟨bq,av,aw⟩:=bnd au
  refine Dk [1,0] [0] (dY av) λ⟨br,bt⟩=> ?_
  have ⟨ax,ay,az⟩:=bnd aw
  refine Dk [] [1] (mP ay) λ⟨⟩=> ?_
  refine Da [] [] rfl rfl (Ac.bs (ty:=Ty.str) (xs:=[ax]) (.cons () [] rfl .nil) rfl rfl rfl rfl rfl rfl rfl) λbu=> ?_
  refine D.frz 0 rfl ?_
  have ⟨bv,a0,a1⟩:=bnd az
  refine Dk [0,0] [0] (iO a0) λ⟨a2,a3⟩=> ?_
  refine Dn ?_
  refine Z0 ?_
  cases a1
  exact E.on (a2,a3) [4,1,1,1] [3,4,5,6,7,8,9,10,11,12,13,14,15,16,17] rfl rfl rfl rfl
 rintro bw bx
 refine Z1 ?_
 have ⟨bz,a4,a5⟩:=bnd aq
 refine Lk [4,1] [] (iT a4) λ⟨⟩=> ?_
 refine Z0 ?_
 cases a5
 exact E.pK () 2 [] [] rfl (.tmp rfl .nil) rfl rfl rfl
theorem rk {s_:ByteArray} {size:Int} {r:(List ByteArray)} (H:iI s_ size=some r):CT G 91 [.string s_,.int .i64 size] [] [] (λh:(Option Addr×Nat)=> .slice h.1 r.length h.2) (λh=>[Ch.arr Ty.str 9 h.1 h.2 r]) (λh=>[]):=by
 delta iI at H
 refine Cf Go.Proofs.Tryz.func91 λK=> ?_
 refine Z3 ?_
 refine Y1 ?_
 have ⟨b,i,j⟩:=bnd H
 refine Tjh (η:=(Option Addr×Nat)) (λh=>(λe f=>[(0,.string b.1),(5,.slice e b.2.length f)]) h.1 h.2) [] (λh=>(λe f=>[Ch.arr Ty.str 9 e f b.2]) h.1 h.2) [] (λ_=>[]) ?_ ?_
 ·refine Yl0 ?_
  refine T.gC Ty.str 9 ?_
  refine Tq (η:=(Option Addr×Nat)) (λa h=>(λc d=>[(0,.string a.1),(5,.slice c a.2.length d)]) h.1 h.2) [1] (λa h=>(λc d=>[Ch.arr Ty.str 9 c d a.2]) h.1 h.2) [] (λ_ _=>[]) (none,0) [0] [] i ?_
  rintro k_ a ⟨c,d⟩ A k l m
  refine Z2 ?_
  refine Tb k (λg=> ?_) λg=> ?_
  ·refine Zl ?_
   refine Z1 ?_
   have ⟨_,n,o⟩:=bnd g
   refine Ly (Yl.sc n rfl rfl rfl rfl rfl rfl) ?_
   refine La [] [] (Ac.bs (ty:=Ty.str) (xs:=[(eK a.1 0 (imax 1 (gG size 8000)))]) (.cons () [] rfl .nil) rfl rfl rfl rfl rfl rfl rfl) λB=> ?_
   refine L.frz 0 rfl ?_
   have ⟨_,p,q⟩:=bnd o
   refine La [0] [0] (Ac.ap (ty:=Ty.str) p rfl rfl rfl rfl rfl rfl rfl) ?_
   rintro ⟨s,t⟩
   refine Z0 ?_
   have ⟨_,u,v⟩:=bnd q
   refine Ly (Yl.sc u rfl rfl rfl rfl rfl rfl) ?_
   refine Z0 ?_
   cases v
   exact Eg (_,(s,t)) (l _ rfl) [0] [] 1
  refine Z0 ?_
  cases g
  have hb:=m _ rfl
  subst b
  exact Eg (c,d) trivial [0] [] 0
 rintro ⟨e,f⟩
 refine Z1 ?_
 refine La [] [] (Ac.bs (ty:=Ty.str) (xs:=[b.1]) (.cons () [] rfl .nil) rfl rfl rfl rfl rfl rfl rfl) λC=> ?_
 refine L.frz 0 rfl ?_
 have ⟨_,w,x⟩:=bnd j
 refine La [0] [0] (Ac.ap (ty:=Ty.str) w rfl rfl rfl rfl rfl rfl rfl) ?_
 rintro ⟨y,z⟩
 refine Z0 ?_
 cases x
 exact Eo1 (y,z) [0] []
end Go.Tw.X
namespace Go.Tw.X
open Go Go.Tw
variable {A0 A1 A2 A3 A4 A5 A6 A7 A8 : Option Addr} {C0 C1 C2 C3 C4 C5 C6 C7 C8 : Nat}
variable {N0 N1 N2 N3 N4 : Nat}
variable {M0 : Option Nat}
theorem kP {x_:aC} {x1:aH} {r:Bool} (H:dL x_ x1=some r):CT G 94 [.agg (gO x_ A0 C0 A1 C1).toArray,.pointer (some ⟨N0,0,none⟩)] [] [Im.sl aD A0 C0 x_.rows,Im.sl aB A1 C1 x_.begun,Im.cells N0 0 [.pointer (some ⟨N1,0,none⟩)],Im.cells N1 0 [.int .i64 x1.config.part,.int .i64 x1.config.every,.int .i64 x1.config.most,.int .i64 x1.current.k,.int .i64 x1.current.w,.int .i64 x1.current.h,.int .i64 x1.current.x,.int .i64 x1.current.y,.string x1.current.title,.slice A2 x1.current.rows.length C2,.int .i64 x1.current.len,.int .i64 x1.current.chain,.slice A3 x1.current.begun.length C3,.int .i64 x1.aL.k,.int .i64 x1.aL.w,.int .i64 x1.aL.h,.int .i64 x1.aL.x,.int .i64 x1.aL.y,.string x1.aL.title,.slice A4 x1.aL.rows.length C4,.int .i64 x1.aL.len,.int .i64 x1.aL.chain,.slice A5 x1.aL.begun.length C5,.slice A6 x1.kept.length C6,.int .i64 x1.message.id,.int .i64 x1.message.key,.int .i64 x1.message.base,.slice A7 x1.message.parts.length C7,.slice A8 x1.message.there.length C8,.int .i64 x1.message.due,.int .i64 x1.next],Im.sl aD A2 C2 x1.current.rows,Im.sl aB A3 C3 x1.current.begun,Im.sl aD A4 C4 x1.aL.rows,Im.sl aB A5 C5 x1.aL.begun,Im.sl cU A6 C6 x1.kept,Im.sl Ty.str A7 C7 x1.message.parts,Im.sl Ty.bool A8 C8 x1.message.there] (λ_:Unit=> .bool r) (λh=>[]) (λh=>[]):=by
 delta dL at H
 refine Cf Go.Proofs.Tryz.func94 λK=> ?_
 refine Z1 ?_
 refine Lx λg1=> ?_
 refine Y1 ?_
 refine Td [] [0] mo ?_
 refine Dq 0 ?_
 refine Db 1 0 ?_
 refine Dy 2 (Yl.ldc 2 0 rfl rfl rfl rfl) ?_
 refine Dq 3 ?_
 refine Dq 4 ?_
 refine Dq 5 ?_
 refine Dy 6 (Yl.ldc 3 3 rfl rfl rfl rfl) ?_
 refine Dq 7 ?_
 refine Dq 8 ?_
 refine Dn ?_
 refine Z0 ?_
 cases H
 exact Eo1 () [] []
theorem gB {s_:List aC} {f_0:aH} {r:Int} (H:cD s_ f_0=some r):CT G 135 [.slice A0 s_.length C0,.func (.func 94) #[] #[.pointer (some ⟨N0,0,none⟩)]] [] [Im.sl cU A0 C0 s_,Im.cells N0 0 [.pointer (some ⟨N1,0,none⟩)],Im.cells N1 0 [.int .i64 f_0.config.part,.int .i64 f_0.config.every,.int .i64 f_0.config.most,.int .i64 f_0.current.k,.int .i64 f_0.current.w,.int .i64 f_0.current.h,.int .i64 f_0.current.x,.int .i64 f_0.current.y,.string f_0.current.title,.slice A1 f_0.current.rows.length C1,.int .i64 f_0.current.len,.int .i64 f_0.current.chain,.slice A2 f_0.current.begun.length C2,.int .i64 f_0.aL.k,.int .i64 f_0.aL.w,.int .i64 f_0.aL.h,.int .i64 f_0.aL.x,.int .i64 f_0.aL.y,.string f_0.aL.title,.slice A3 f_0.aL.rows.length C3,.int .i64 f_0.aL.len,.int .i64 f_0.aL.chain,.slice A4 f_0.aL.begun.length C4,.slice A5 f_0.kept.length C5,.int .i64 f_0.message.id,.int .i64 f_0.message.key,.int .i64 f_0.message.base,.slice A6 f_0.message.parts.length C6,.slice A7 f_0.message.there.length C7,.int .i64 f_0.message.due,.int .i64 f_0.next],Im.sl aD A1 C1 f_0.current.rows,Im.sl aB A2 C2 f_0.current.begun,Im.sl aD A3 C3 f_0.aL.rows,Im.sl aB A4 C4 f_0.aL.begun,Im.sl cU A5 C5 f_0.kept,Im.sl Ty.str A6 C6 f_0.message.parts,Im.sl Ty.bool A7 C7 f_0.message.there] (λ_:Unit=> .int .i64 r) (λh=>[]) (λh=>[]):=by
 delta cD at H
 refine Cf Go.Proofs.Tryz.func135 λK=> ?_
 refine Z3 ?_
 have ⟨a,i,e⟩:=bnd H
 refine Tj (η:=Unit×Unit) (λh=>a = .inl h.1) (λ_=>[]) [] (λ_=>[]) [] (λ_=>[]) ?_ ?_
 ·refine Yl0 ?_
  refine Tq (η:=Unit) (λf h=>[(8,.int .i64 f)]) [0,1,7] (λ_ _=>[]) [] (λ_ _=>[]) () [] [] i ?_
  rintro k_ f ⟨⟩ j l m g
  refine Y2 ?_
  refine Tb l (λb=> ?_) λb=> ?_
  ·refine Z1 ?_
   refine Zl ?_
   refine Z2 ?_
   have ⟨t,c,n⟩:=bnd b
   refine L.addr 0 rfl (bH c) λu v o=> ?_
   subst o
   refine Ly (Yl.ia c rfl rfl rfl rfl rfl rfl) ?_
   refine L.el 0 rfl (aJ c).2 ?_
   rintro ⟨⟨z,A⟩,⟨B,C⟩⟩
   refine Lc 0 0 ?_
   have ⟨F,p,q⟩:=bnd n
   refine Lk [] [1,2,4,5,6,7,8,9,10,11,12] (kP p) λ⟨⟩=> ?_
   refine Z0 ?_
   refine Tb q (λd=> ?_) λd=> ?_
   ·refine Z1 ?_
    obtain ⟨I,hz,s⟩:=bQ d
    subst j
    have hb:=g _ rfl
    subst a
    obtain rfl:=(sm e).symm
    refine Z0 ?_
    cases s
    exact Eo1 () [] []
   refine Z0 ?_
   cases d
   exact Eg (_,()) (m _ rfl) [] [] 3
  refine Z0 ?_
  cases b
  have hb:=g _ rfl
  subst a
  exact Eg (_,()) rfl [] [] 0
 rintro ⟨J,⟨⟩⟩ hy
 subst hy
 refine Z1 ?_
 cases e
 exact Eo1 () [] []
theorem fT {s_:List aC} {f_0:aH} {r:Bool} (H:bG s_ f_0=some r):CT G 93 [.slice A0 s_.length C0,.func (.func 94) #[] #[.pointer (some ⟨N0,0,none⟩)]] [] [Im.sl cU A0 C0 s_,Im.cells N0 0 [.pointer (some ⟨N1,0,none⟩)],Im.cells N1 0 [.int .i64 f_0.config.part,.int .i64 f_0.config.every,.int .i64 f_0.config.most,.int .i64 f_0.current.k,.int .i64 f_0.current.w,.int .i64 f_0.current.h,.int .i64 f_0.current.x,.int .i64 f_0.current.y,.string f_0.current.title,.slice A1 f_0.current.rows.length C1,.int .i64 f_0.current.len,.int .i64 f_0.current.chain,.slice A2 f_0.current.begun.length C2,.int .i64 f_0.aL.k,.int .i64 f_0.aL.w,.int .i64 f_0.aL.h,.int .i64 f_0.aL.x,.int .i64 f_0.aL.y,.string f_0.aL.title,.slice A3 f_0.aL.rows.length C3,.int .i64 f_0.aL.len,.int .i64 f_0.aL.chain,.slice A4 f_0.aL.begun.length C4,.slice A5 f_0.kept.length C5,.int .i64 f_0.message.id,.int .i64 f_0.message.key,.int .i64 f_0.message.base,.slice A6 f_0.message.parts.length C6,.slice A7 f_0.message.there.length C7,.int .i64 f_0.message.due,.int .i64 f_0.next],Im.sl aD A1 C1 f_0.current.rows,Im.sl aB A2 C2 f_0.current.begun,Im.sl aD A3 C3 f_0.aL.rows,Im.sl aB A4 C4 f_0.aL.begun,Im.sl cU A5 C5 f_0.kept,Im.sl Ty.str A6 C6 f_0.message.parts,Im.sl Ty.bool A7 C7 f_0.message.there] (λ_:Unit=> .bool r) (λh=>[]) (λh=>[]):=by
 delta bG at H
 refine Cf Go.Proofs.Tryz.func93 λK=> ?_
 refine Z2 ?_
 have ⟨r1,h2,H3⟩:=bnd H
 refine Lk [] [0,1,2,3,4,5,6,7,8,9] (gB h2) λ⟨⟩=> ?_
 refine Z0 ?_
 cases H3
 exact Eo1 () [] []
theorem mv {s_:aH} {now:Int} {r:aH} (H:dU s_ now=some r):CT G 43 [.pointer (some ⟨N0,0,none⟩),.int .i64 now] [Ch.box N0 94 (ri s_ A0 C0 A1 C1 A2 C2 A3 C3 A4 C4 A5 C5 A6 C6),Ch.aro cU 59 A4 C4 s_.kept,Ch.arr Ty.bool 4 A6 C6 s_.message.there] [Im.sl aD A0 C0 s_.current.rows,Im.sl aB A1 C1 s_.current.begun,Im.sl aD A2 C2 s_.aL.rows,Im.sl aB A3 C3 s_.aL.begun,Im.sl Ty.str A5 C5 s_.message.parts,Im.sl (Ty.int .u32) (some ⟨0,0,none⟩) 16 cT] (λh:(Option Addr×Nat)×(Option Addr×Nat)×(Option Addr×Nat)=> .tuple #[]) (λh=>[Ch.box N0 94 (ri r A0 C0 A1 C1 A2 C2 A3 C3 h.1.1 h.1.2 h.2.1.1 h.2.1.2 h.2.2.1 h.2.2.2),Ch.aro cU 59 h.1.1 h.1.2 r.kept,Ch.arr Ty.bool 4 h.2.2.1 h.2.2.2 r.message.there]) (λh=>[Im.sl aD A0 C0 r.current.rows,Im.sl aB A1 C1 r.current.begun,Im.sl aD A2 C2 r.aL.rows,Im.sl aB A3 C3 r.aL.begun,Im.sl Ty.str h.2.1.1 h.2.1.2 r.message.parts]):=by
 delta dU at H
 refine Cf Go.Proofs.Tryz.func43 λK=> ?_
 refine Z1 ?_
 refine Lx λg1=> ?_
 refine Y1 ?_
 refine Td [34] [0,0,0,0] mo ?_
 refine Db 0 0 ?_
 refine Db 1 0 ?_
 refine Dq 2 ?_
 refine Dq 3 ?_
 refine Db 4 1 ?_
 refine Db 5 0 ?_
 refine Dq 6 ?_
 refine Dq 7 ?_
 refine Dq 8 ?_
 refine Db 9 1 ?_
 refine Db 10 0 ?_
 refine Dq 11 ?_
 refine Dq 12 ?_
 refine Dq 13 ?_
 refine Db 14 1 ?_
 refine Db 15 0 ?_
 refine Dq 16 ?_
 refine Dq 17 ?_
 refine Db 18 1 ?_
 refine Db 19 0 ?_
 refine Dq 20 ?_
 refine Dq 21 ?_
 refine Db 22 1 ?_
 refine Db 24 0 ?_
 refine Dq 25 ?_
 refine Dq 26 ?_
 refine Dq 27 ?_
 refine Db 28 1 ?_
 refine Dq 30 ?_
 have ⟨J,m,n⟩:=bnd H
 refine Dk [] [2,3,0,1,5] (tt m) λ⟨⟩=> ?_
 have ⟨k,o,p⟩:=bnd n
 refine Dk [] [] (rk o) λ⟨g,i⟩=> ?_
 refine Dq 31 ?_
 refine Dq 32 ?_
 refine Dq 33 ?_
 refine Dt 1 ?_
 refine Dn ?_
 refine Y1 ?_
 refine Td [11] [0,0,0,0,0] mo ?_
 refine Db 0 1 ?_
 refine Db 1 1 ?_
 refine Dq 2 ?_
 refine Dq 3 ?_
 refine Dq 4 ?_
 refine Db 5 0 ?_
 refine Dq 6 ?_
 have ⟨_,q,s⟩:=bnd p
 refine Da [] [] rfl rfl (Ac.mk (ty:=Ty.bool) false () q (λ_ _ f hf=>by cases hf) rfl rfl rfl rfl rfl rfl rfl) λl=> ?_
 refine Dq 8 ?_
 refine Dq 9 ?_
 refine Dq 10 ?_
 refine Dt 0 ?_
 refine Dn ?_
 refine Z1 ?_
 refine Lt 0 ?_
 refine Z2 ?_
 have ⟨M,t,u⟩:=bnd s
 refine L.br (Ac.call (fT t) rfl rfl rfl rfl) (Bw.cho 2 rfl (Bw.bx 1 rfl (Bw.bx 0 rfl (Bw.im 0 rfl (Bw.im 1 rfl (Bw.im 2 rfl (Bw.im 3 rfl (Bw.cho 2 rfl (Bw.ch 4 rfl (Bw.ch 5 rfl (Bw.nil))))))))))) rfl rfl rfl ?_
 intro _
 refine Z0 ?_
 have ⟨a,v,w⟩:=bnd u
 refine Tjh (η:=(Option Addr×Nat)×(Option Addr×Nat)) (λ_=>[]) [2] (λh=>(λd e b c=>[Ch.aro cU 59 d e a.kept,Ch.arr Ty.str 9 g i a.message.parts,Ch.arr Ty.bool 4 b c a.message.there,Ch.box N0 94 (ri a A0 C0 A1 C1 A2 C2 A3 C3 d e g i b c)]) h.1.1 h.1.2 h.2.1 h.2.2) [1] (λh=>(λd e b c=>[Im.sl aD A0 C0 a.current.rows,Im.sl aB A1 C1 a.current.begun,Im.sl aD A2 C2 a.aL.rows,Im.sl aB A3 C3 a.aL.begun]) h.1.1 h.1.2 h.2.1 h.2.2) ?_ ?_
 ·refine Tb v (λj=> ?_) λj=> ?_
  ·refine Td [13] [0,0,1,1,1] mo ?_
   refine Db 0 1 ?_
   refine Db 1 1 ?_
   refine Dq 2 ?_
   refine Dq 3 ?_
   refine Db 4 0 ?_
   refine Db 5 1 ?_
   refine Dq 6 ?_
   refine Dq 7 ?_
   refine Db 8 0 ?_
   refine Da [] [0,1] rfl rfl (Ac.bs (ty:=cU) (xs:=[s_.current]) (.cons ((A0,C0),(A1,C1)) [0,1] rfl .nil) rfl rfl rfl rfl rfl rfl rfl) λN=> ?_
   refine D.frz 0 rfl ?_
   have ⟨_,x,y⟩:=bnd j
   refine Da [0] [0] rfl rfl (Ac.oap (ty:=cU) x rfl rfl rfl rfl rfl rfl rfl) ?_
   rintro ⟨z,A⟩
   refine Dq 11 ?_
   refine Dq 12 ?_
   refine Dt 0 ?_
   refine Dn ?_
   cases y
   exact Eg ((z,A),((some ⟨l,0,none⟩),(k.length:Int).toNat)) trivial [5,3,3,0,0] [1,2,3,4] 1
  refine Z0 ?_
  cases j
  exact Eg ((A4,C4),((some ⟨l,0,none⟩),(k.length:Int).toNat)) trivial [2,3,3,0,0] [0,1,2,3] 0
 rintro ⟨⟨d,e⟩,⟨b,c⟩⟩
 refine Td [20] [1,1,1,1] mo ?_
 refine Db 0 3 ?_
 refine Db 1 3 ?_
 refine Dq 2 ?_
 refine Dq 3 ?_
 refine Db 4 2 ?_
 refine Db 5 3 ?_
 refine Dq 6 ?_
 refine Dq 7 ?_
 refine Db 8 2 ?_
 refine Dq 9 ?_
 refine Db 10 3 ?_
 refine Dq 11 ?_
 refine Dq 12 ?_
 refine Dq 13 ?_
 refine Db 14 2 ?_
 refine Dq 15 ?_
 refine Dq 16 ?_
 have ⟨_,B,C⟩:=bnd w
 refine Da [0] [] rfl rfl (Ac.ors (ty:=cU) B rfl rfl rfl rfl rfl rfl rfl rfl) ?_
 rintro ⟨F,I⟩
 refine Dq 18 ?_
 refine Dq 19 ?_
 refine Dt 2 ?_
 refine Dn ?_
 refine E.off ?_
 refine E.frz 1 rfl ?_
 cases C
 exact Eo ((F,I),(g,i),(b,c)) [0,2,0] [1,2,3,4,0] .nil
theorem mb {σ η:Type} {m_:bD} {Y:σ->(Int×ByteArray)->Option (σ×Bool)} {y0:σ} (a_0_0:Option Addr) (c_0_0:Nat) (a_0_1:Option Addr) (c_0_1:Nat) {yl:Nat} {C:σ->η->Ch} (hY: ∀ s (h:η) (x:Int×ByteArray) (t:Unit) z,Y s x=some z->YT G yl [.int .i64 x.1,.string x.2] [C s h] [] (λ_:η=> .bool z.2) (λh2=>[C z.1 h2]) (λ_=>[])) (h0:η) {r:σ} (H:eR m_ Y y0=some r):CT G 44 [.agg (El m_ a_0_0 c_0_0 a_0_1 c_0_1).toArray,.func (.yield yl) #[] #[]] [C y0 h0,Ch.arr Ty.bool 4 a_0_1 c_0_1 m_.there] [Im.sl Ty.str a_0_0 c_0_0 m_.parts] (λh:η=> .tuple #[]) (λh=>[C r h,Ch.arr Ty.bool 4 a_0_1 c_0_1 m_.there]) (λh=>[]):=by
  delta eR at H
  refine Cf Go.Proofs.Tryz.func44 λK=> ?_
  refine Z1 ?_
  refine Lx λg1=> ?_
  refine Z1 ?_
  have ⟨f,p,m⟩:=bnd H
  refine T.n7 (η:=σ×(η)) (λh=>f = .inl h.1) (λh=>(λe=>(λa=>[]) h.2) h.1) (λh=>(λe=>(λa=>[C e a,Ch.box g1 92 (El m_ a_0_0 c_0_0 a_0_1 c_0_1),Ch.arr Ty.bool 4 a_0_1 c_0_1 m_.there]) h.2) h.1) (λh=>(λe=>(λa=>[Im.sl Ty.str a_0_0 c_0_0 m_.parts]) h.2) h.1) ?_ ?_
  ·refine Yl0 ?_
   refine Tq (η:=η) (λb h=>(λc=>[(9,.int .i64 b.1)]) h) [1,2,7,8] (λb h=>(λc=>[C b.2 c]) h) [0,2] (λ_ _=>[]) h0 [1,0,0] [] p ?_
   rintro k_ b c q u w n
   refine Y2 ?_
   refine Tb u (λg=> ?_) λg=> ?_
   ·refine Z1 ?_
    refine Zl ?_
    refine Z1 ?_
    have ⟨R,i,y⟩:=bnd g
    refine L.addr 0 rfl (bH i) λS U A=> ?_
    subst A
    refine Ly (Yl.ia i rfl rfl rfl rfl rfl rfl) ?_
    refine L.el 0 rfl (aJ i).2 ?_
    rintro _
    refine Lc 0 0 ?_
    refine Y1 ?_
    have ⟨o,B,F⟩:=bnd y
    refine Tjh (η:=η) (λh=>(λd=>[(26,.bool o.1)]) h) [1,2,7,8,9] (λh=>(λd=>[C o.2 d]) h) [1,2] (λ_=>[]) ?_ ?_
    ·refine Z0 ?_
     have ⟨I,j,J⟩:=bnd B
     refine L.iG 2 rfl (bH j) λV M=> ?_
     subst M
     refine Ly (Yl.ia j rfl rfl rfl rfl rfl rfl) ?_
     refine Ly (Yl.lo (v:= .bool I) 2 b.1.toNat 0 (aJ j).2 rfl rfl rfl rfl (λ_=>rfl)) ?_
     refine Z0 ?_
     refine Lw 20 J (λk=> ?_) λk=> ?_
     ·refine Z0 ?_
      have ⟨W,N,O⟩:=bnd k
      refine L.yd [0] [] (hY _ _ _ () _ N) rfl rfl rfl rfl rfl rfl rfl rfl ?_
      intro P
      refine Z0 ?_
      cases O
      exact Eg P trivial [0,0,0] [] 0
     refine Z0 ?_
     cases k
     exact Eg c trivial [0,0,0] [] 0
    rintro d
    refine Tb F (λl=> ?_) λl=> ?_
    ·refine Z0 ?_
     obtain ⟨X,hz,Q⟩:=bQ l
     subst q
     have hb:=n _ rfl
     subst f
     obtain rfl:=(sm m).symm
     refine Z0 ?_
     cases Q
     exact Eo d [0,1] [] .nil
    refine Z0 ?_
    cases l
    exact Eg (_,d) (w _ rfl) [0,0,0] [] 1
   refine Z0 ?_
   cases g
   have hb:=n _ rfl
   subst f
   exact Egx (_,c) rfl [0,0,0] [0]
  rintro ⟨e,a⟩ hy
  subst hy
  refine E.off ?_
  cases m
  exact Eo a [0,1] [] .nil
theorem mQ {s_:aH} {now:Int} {r:(List bY)×aH} (H:eH s_ now=some r):CT G 16 [.pointer (some ⟨N0,0,none⟩),.int .i64 now] [Ch.box N0 94 (ri s_ A0 C0 A1 C1 A2 C2 A3 C3 A4 C4 A5 C5 A6 C6),Ch.aro cU 59 A4 C4 s_.kept,Ch.arr Ty.bool 4 A6 C6 s_.message.there] [Im.sl aD A0 C0 s_.current.rows,Im.sl aB A1 C1 s_.current.begun,Im.sl aD A2 C2 s_.aL.rows,Im.sl aB A3 C3 s_.aL.begun,Im.sl Ty.str A5 C5 s_.message.parts,Im.sl (Ty.int .u32) (some ⟨0,0,none⟩) 16 cT] (λh:(Option Addr×Nat)×(Option Addr×Nat)×(Option Addr×Nat)×(Option Addr×Nat)=> .slice h.1.1 r.1.length h.1.2) (λh=>[Ch.arr iY 39 h.1.1 h.1.2 r.1,Ch.box N0 94 (ri r.2 A0 C0 A1 C1 A2 C2 A3 C3 h.2.1.1 h.2.1.2 h.2.2.1.1 h.2.2.1.2 h.2.2.2.1 h.2.2.2.2),Ch.aro cU 59 h.2.1.1 h.2.1.2 r.2.kept,Ch.arr Ty.bool 4 h.2.2.2.1 h.2.2.2.2 r.2.message.there]) (λh=>[Im.sl aD A0 C0 r.2.current.rows,Im.sl aB A1 C1 r.2.current.begun,Im.sl aD A2 C2 r.2.aL.rows,Im.sl aB A3 C3 r.2.aL.begun,Im.sl Ty.str h.2.2.1.1 h.2.2.1.2 r.2.message.parts]):=by
 delta eH at H
 refine Cf Go.Proofs.Tryz.func16 λK=> ?_
 refine T.qX ?_
 refine Z1 ?_
 refine Lx λg1=> ?_
 refine Y2 ?_
 refine Td [] [0,0,0,0,0] mo ?_
 refine Db 0 0 ?_
 refine Dq 1 ?_
 refine Dq 2 ?_
 refine Dq 3 ?_
 refine Db 4 2 ?_
 refine Db 5 0 ?_
 refine Dq 6 ?_
 refine Dq 7 ?_
 refine Dq 8 ?_
 refine Db 9 2 ?_
 refine Dq 10 ?_
 refine Dn ?_
 refine Z0 ?_
 refine Tb H (λH3=> ?_) λH3=> ?_
 ·refine Z1 ?_
  refine Lt 2 ?_
  refine Z1 ?_
  refine E.gC iY 39 ?_
  refine E.dC [Im.sl Ty.str none 0 []] (λA w _ _ f hf=>by rw [List.mem_singleton.1 hf]; exact Im.bS A w) ?_
  refine E.gC Ty.bool 4 ?_
  cases H3
  exact E.pK ((none,0),(A4,C4),(none,0),(none,0)) 4 [1,1,2,0] [1,2,3,4,0] rfl (.tmp rfl .nil) rfl rfl rfl
 refine Y2 ?_
 have ⟨v,z,B⟩:=bnd H3
 refine T.tL (η:=Unit×Unit) (λh=>True) (λh=>[]) (λh=>[(1,.int .i64 now),(2,.pointer (some ⟨g1,0,none⟩)),(54,.bool v)]) (λh=>[Ch.box g1 49 [.pointer (some ⟨N0,0,none⟩)],Ch.dfs [],Ch.box N0 94 (ri s_ A0 C0 A1 C1 A2 C2 A3 C3 A4 C4 A5 C5 A6 C6),Ch.aro cU 59 A4 C4 s_.kept,Ch.arr Ty.bool 4 A6 C6 s_.message.there]) (λh=>[Im.sl aD A0 C0 s_.current.rows,Im.sl aB A1 C1 s_.current.begun,Im.sl aD A2 C2 s_.aL.rows,Im.sl aB A3 C3 s_.aL.begun,Im.sl Ty.str A5 C5 s_.message.parts,Im.sl (Ty.int .u32) (some ⟨0,0,none⟩) 16 cT]) ?_ ?_
 ·refine Td [] [0,0,0,0,0] mo ?_
  refine Db 0 0 ?_
  refine Dq 1 ?_
  refine Dq 2 ?_
  refine Dq 3 ?_
  refine Db 4 2 ?_
  refine Dq 5 ?_
  refine Dq 6 ?_
  refine D.cs 29 z rfl (λhc n=> ?_) (λhc n=> ?_)
  ·refine Ds 7 ?_
   refine Ds 8 ?_
   refine Ds 9 ?_
   refine Ds 10 ?_
   refine Ds 11 ?_
   refine Ds 12 ?_
   refine Ds 13 ?_
   refine Ds 14 ?_
   refine Ds 15 ?_
   refine Ds 16 ?_
   refine Ds 17 ?_
   refine Dq 18 ?_
   refine Dq 19 ?_
   refine Ds 20 ?_
   refine Ds 21 ?_
   refine Ds 22 ?_
   refine Ds 23 ?_
   refine Ds 24 ?_
   refine Ds 25 ?_
   refine Ds 26 ?_
   refine Ds 27 ?_
   refine Ds 28 ?_
   refine Ds 29 ?_
   refine Ds 30 ?_
   refine Dq 31 ?_
   refine Dn ?_
   cases n
   exact E.mA ((),()) [0,0,0,0,0] [0,1,2,3,4,5] trivial rfl ⟨rfl,rfl,rfl,trivial⟩ rfl rfl
  refine Db 7 0 ?_
  refine Dq 8 ?_
  refine Dq 9 ?_
  refine Dq 10 ?_
  refine Db 11 2 ?_
  refine Db 12 0 ?_
  refine Dq 13 ?_
  refine Dq 14 ?_
  refine Dq 15 ?_
  refine Db 16 2 ?_
  refine Dq 17 ?_
  refine Dq 18 ?_
  refine Dq 19 ?_
  refine D.cs 42 n rfl (λhc o=> ?_) (λhc o=> ?_)
  ·refine Ds 20 ?_
   refine Ds 21 ?_
   refine Ds 22 ?_
   refine Ds 23 ?_
   refine Ds 24 ?_
   refine Ds 25 ?_
   refine Ds 26 ?_
   refine Ds 27 ?_
   refine Ds 28 ?_
   refine Ds 29 ?_
   refine Ds 30 ?_
   refine Dq 31 ?_
   refine Dn ?_
   cases o
   exact E.mA ((),()) [0,0,0,0,0] [0,1,2,3,4,5] trivial rfl ⟨rfl,rfl,rfl,trivial⟩ rfl rfl
  refine Db 20 0 ?_
  refine Dq 21 ?_
  refine Dq 22 ?_
  refine Dq 23 ?_
  refine Db 24 2 ?_
  refine Db 25 0 ?_
  refine Dq 26 ?_
  refine Dq 27 ?_
  refine Dq 28 ?_
  refine Db 29 2 ?_
  refine Dq 30 ?_
  refine Dq 31 ?_
  refine Dn ?_
  cases o
  exact E.mA ((),()) [0,0,0,0,0] [0,1,2,3,4,5] trivial rfl ⟨rfl,rfl,rfl,trivial⟩ rfl rfl
 rintro ⟨_,⟨⟩⟩ _
 have ⟨a,F,I⟩:=bnd B
 refine T.tL (η:=Unit×((Option Addr×Nat)×(Option Addr×Nat)×(Option Addr×Nat))) (λh=>True) (λh=>(λd e b c g i=>[]) h.2.1.1 h.2.1.2 h.2.2.1.1 h.2.2.1.2 h.2.2.2.1 h.2.2.2.2) (λh=>(λd e b c g i=>[(1,.int .i64 now),(2,.pointer (some ⟨g1,0,none⟩))]) h.2.1.1 h.2.1.2 h.2.2.1.1 h.2.2.1.2 h.2.2.2.1 h.2.2.2.2) (λh=>(λd e b c g i=>[Ch.aro cU 59 d e a.kept,Ch.arr Ty.bool 4 g i a.message.there,Ch.box g1 49 [.pointer (some ⟨N0,0,none⟩)],Ch.dfs [],Ch.box N0 94 (ri a A0 C0 A1 C1 A2 C2 A3 C3 d e b c g i)]) h.2.1.1 h.2.1.2 h.2.2.1.1 h.2.2.1.2 h.2.2.2.1 h.2.2.2.2) (λh=>(λd e b c g i=>[Im.sl aD A0 C0 a.current.rows,Im.sl aB A1 C1 a.current.begun,Im.sl aD A2 C2 a.aL.rows,Im.sl aB A3 C3 a.aL.begun,Im.sl Ty.str b c a.message.parts,Im.sl aD A0 C0 s_.current.rows,Im.sl aB A1 C1 s_.current.begun,Im.sl aD A2 C2 s_.aL.rows,Im.sl aB A3 C3 s_.aL.begun,Im.sl Ty.str A5 C5 s_.message.parts,Im.sl (Ty.int .u32) (some ⟨0,0,none⟩) 16 cT]) h.2.1.1 h.2.1.2 h.2.2.1.1 h.2.2.1.2 h.2.2.2.1 h.2.2.2.2) ?_ ?_
 ·refine Tb F (λp=> ?_) λp=> ?_
  ·refine Z0 ?_
   have ⟨af,J,M⟩:=bnd p
   refine Lk [2,2,2] [0,1,2,3,4,5] (mv J) λ⟨⟨N,O⟩,⟨P,Q⟩,⟨R,S⟩⟩=> ?_
   refine Z0 ?_
   cases M
   exact E.mA ((),((N,O),(P,Q),(R,S))) [1,1,1,1,0] [0,1,2,3,4,5,6,7,8,9,10] trivial rfl ⟨rfl,rfl,trivial⟩ rfl rfl
  refine Z0 ?_
  cases p
  exact E.mA ((),((A4,C4),(A5,C5),(A6,C6))) [3,3,0,0,0] [0,1,2,3,4,0,1,2,3,4,5] trivial rfl ⟨rfl,rfl,trivial⟩ rfl rfl
 rintro ⟨_,⟨⟨d,e⟩,⟨b,c⟩,⟨g,i⟩⟩⟩ _
 refine Z2 ?_
 refine Tb I (λq=> ?_) λq=> ?_
 ·refine Z1 ?_
  refine E.gC iY 39 ?_
  cases q
  exact E.pK ((none,0),(d,e),(b,c),(g,i)) 4 [0,3,0,0] [0,1,2,3,4] rfl (.tmp rfl .nil) rfl rfl rfl
 refine Y1 ?_
 refine Td [11] [0,0,0,0,0] mo ?_
 refine Db 0 2 ?_
 refine Dq 1 ?_
 refine Db 2 2 ?_
 refine Dq 3 ?_
 refine Dq 4 ?_
 refine Dq 5 ?_
 refine Db 6 4 ?_
 refine Dq 7 ?_
 refine Dq 8 ?_
 refine Dq 9 ?_
 refine Dq 10 ?_
 refine Dt 4 ?_
 refine Dn ?_
 refine Z1 ?_
 refine Ll λU=> ?_
 refine Z2 ?_
 refine Yl0 ?_
 refine T.gC iY 39 ?_
 have ⟨V,W,Y⟩:=bnd q
 refine T.rf2 (σ:=(List bY)) (η:=(Option Addr×Nat)) (X:=Int×ByteArray) (θ:=Unit) (τ:=(Option Addr×Nat)) (s1:=V) (hx:=λx=>x) (λx t=>[.int .i64 x.1,.string x.2]) (λx t=>[]) (λ_=>none) (λj h=>(λl m=>[Ch.arr iY 39 l m j,Ch.box U 61 [.slice l j.length m],Ch.box N0 94 [.int .i64 a.config.part,.int .i64 a.config.every,.int .i64 a.config.most,.int .i64 a.current.k,.int .i64 a.current.w,.int .i64 a.current.h,.int .i64 a.current.x,.int .i64 a.current.y,.string a.current.title,.slice A0 a.current.rows.length C0,.int .i64 a.current.len,.int .i64 a.current.chain,.slice A1 a.current.begun.length C1,.int .i64 a.aL.k,.int .i64 a.aL.w,.int .i64 a.aL.h,.int .i64 a.aL.x,.int .i64 a.aL.y,.string a.aL.title,.slice A2 a.aL.rows.length C2,.int .i64 a.aL.len,.int .i64 a.aL.chain,.slice A3 a.aL.begun.length C3,.slice d a.kept.length e,.int .i64 a.message.id,.int .i64 a.message.key,.int .i64 a.message.base,.slice b a.message.parts.length c,.slice g a.message.there.length i,.int .i64 (IntKind.i64.wrap (now+a.config.every)),.int .i64 a.next],Ch.box g1 49 [.pointer (some ⟨N0,0,none⟩)],Ch.aro cU 59 d e a.kept]) h.1 h.2) (λj h=>(λl m=>[Im.sl aD A0 C0 a.current.rows,Im.sl aB A1 C1 a.current.begun,Im.sl aD A2 C2 a.aL.rows,Im.sl aB A3 C3 a.aL.begun,Im.sl Ty.str b c a.message.parts,Im.sl aD A0 C0 s_.current.rows,Im.sl aB A1 C1 s_.current.begun,Im.sl aD A2 C2 s_.aL.rows,Im.sl aB A3 C3 s_.aL.begun,Im.sl Ty.str A5 C5 s_.message.parts,Im.sl (Ty.int .u32) (some ⟨0,0,none⟩) 16 cT]) h.1 h.2) 6 [0,0,0,2,0,0] [0,1,2,3,4,5,6,7,8,9,10] [4] rfl rfl (λ_ _=>rfl) rfl (λyl C hY=>(mb b c g i hY (none,0) W:_)) (λ_ _ _ _=>rfl) rfl rfl rfl rfl rfl ?_ rfl ?_
 ·rintro yl K2 j ⟨l,m⟩ s ⟨⟩ ag Z
  refine Z1 ?_
  refine E.begin λK3=> ?_
  refine Yl0 ?_
  refine Td [28] [1,1,1,1] mo ?_
  refine Db 0 0 ?_
  refine Db 1 2 ?_
  refine Dq 2 ?_
  refine Dq 3 ?_
  refine Dq 4 ?_
  refine Db 5 1 ?_
  refine Db 6 2 ?_
  refine Dq 7 ?_
  refine Dq 8 ?_
  refine Dq 9 ?_
  refine Db 10 1 ?_
  refine Db 11 2 ?_
  refine Dq 12 ?_
  refine Dq 13 ?_
  refine Dq 14 ?_
  refine Db 15 1 ?_
  refine Dq 16 ?_
  refine Db 17 2 ?_
  refine Dq 18 ?_
  refine Dq 19 ?_
  refine Dq 20 ?_
  refine Db 21 1 ?_
  refine Dq 22 ?_
  refine Dq 24 ?_
  refine Da [] [] rfl rfl (Ac.bs (ty:=(Ty.int .i64)) (xs:=[a.message.id,a.message.key,a.message.base,s.1,(a.message.parts.length:Int)]) (.cons () [] rfl (.cons () [] rfl (.cons () [] rfl (.cons () [] rfl (.cons () [] rfl .nil))))) rfl rfl rfl rfl rfl rfl rfl) λaa=> ?_
  refine Dq 25 ?_
  refine D.frz 0 rfl ?_
  refine Da [] [0] rfl rfl (Ac.bs (ty:=iY) (xs:=[(bY.mk 1 1 [a.message.id,a.message.key,a.message.base,s.1,(a.message.parts.length:Int)] s.2)]) (.cons ((some ⟨aa,0,none⟩),5) [0] rfl .nil) rfl rfl rfl rfl rfl rfl rfl) λah=> ?_
  refine D.frz 0 rfl ?_
  have ⟨_,ab,ac⟩:=bnd Z
  refine Da [0] [0] rfl rfl (Ac.ap (ty:=iY) ab rfl rfl rfl rfl rfl rfl rfl) ?_
  rintro ⟨ad,ae⟩
  refine Dt 0 ?_
  refine Dn ?_
  refine Z0 ?_
  cases ac
  exact E.on (ad,ae) [4,0,0,0,0] [2,3,4,5,6,7,8,9,10,11,12] rfl rfl rfl rfl
 rintro u ai
 refine Z1 ?_
 cases Y
 exact E.pK ((u.1,u.2),(d,e),(b,c),(g,i)) 0 [0,1,2,2] [0,1,2,3,4] rfl (.tmp rfl .nil) rfl rfl rfl
theorem o8 {s_:aW} {key:Int} {index:Int} {count:Int} {data:ByteArray} {r:Int×aW} (H:eY s_ key index count data=some r):CT G 63 [.pointer (some ⟨N0,0,none⟩),.int .i64 key,.int .i64 index,.int .i64 count,.string data] [Ch.box N0 69 (fr s_ M0),Ch.mp Ty.str false M0 s_.parts] [] (λh:Option Nat=> .int .i64 r.1) (λh=>[Ch.box N0 69 (fr r.2 h),Ch.mp Ty.str false h r.2.parts]) (λh=>[]):=by
 delta eY at H
 refine Cf Go.Proofs.Tryz.func63 λK=> ?_
 refine Y2 ?_
 have ⟨b,q,c⟩:=bnd H
 refine Tj (η:=aW×(Option Nat)) (λh=>b = .inl h.1) (λ_=>[]) [0,2,4] (λh=>(λd=>(λa=>[Ch.mp Ty.str false a d.parts,Ch.box N0 69 (fr d a)]) h.2) h.1) [] (λ_=>[]) ?_ ?_
 ·refine Zl ?_
  refine Y1 ?_
  have ⟨s,t,u⟩:=bnd q
  refine Tj0 [(13,.bool s)] [0,1,2,3,4] [] [0,1] ?_ ?_
  ·refine Z0 ?_
   refine Lw 16 t (λe=> ?_) λe=> ?_
   ·refine Z0 ?_
    cases e
    exact Eg0 [0,0] 0
   refine Z0 ?_
   refine Lw 20 e (λg=> ?_) λg=> ?_
   ·refine Z0 ?_
    cases g
    exact Eg0 [0,0] 0
   refine Z0 ?_
   refine Lw 24 g (λi=> ?_) λi=> ?_
   ·refine Z0 ?_
    cases i
    exact Eg0 [0,0] 0
   refine Z0 ?_
   refine Lw 29 i (λj=> ?_) λj=> ?_
   ·refine Z0 ?_
    cases j
    exact Eg0 [0,0] 0
   refine Z0 ?_
   cases j
   exact Eg0 [0,0] 0
  refine Tb u (λk=> ?_) λk=> ?_
  ·refine Z1 ?_
   obtain ⟨F,hz,v⟩:=gH k
   subst b
   obtain rfl:=(sm c).symm
   refine Z0 ?_
   cases v
   exact Eo1 M0 [0,0] []
  refine Z1 ?_
  refine Tb k (λl=> ?_) λl=> ?_
  ·refine Z1 ?_
   obtain ⟨I,hz,w⟩:=gH l
   subst b
   obtain rfl:=(sm c).symm
   refine Z0 ?_
   cases w
   exact Eo1 M0 [0,0] []
  refine Z1 ?_
  refine Tb l (λm=> ?_) λm=> ?_
  ·refine Z0 ?_
   refine La [] [] (Ac.mkm (ty:=Ty.str) (ag:=false) rfl rfl rfl) λx=> ?_
   refine Z0 ?_
   refine Lt 1 ?_
   refine Z0 ?_
   cases m
   exact Eg (_,(some x)) rfl [1,0] [] 0
  refine Z1 ?_
  refine Tb m (λn=> ?_) λn=> ?_
  ·refine Z1 ?_
   obtain ⟨J,hz,y⟩:=gH n
   subst b
   obtain rfl:=(sm c).symm
   refine Z0 ?_
   cases y
   exact Eo1 M0 [0,0] []
  refine Z0 ?_
  cases n
  exact Eg (_,M0) rfl [1,0] [] 0
 rintro ⟨d,a⟩ hy
 subst hy
 refine Z2 ?_
 refine La [0] [] (Ac.ml (ty:=Ty.str) (ag:=false) (vv:=(λ_:Unit=> .string (mgd d.parts index (ByteArray.mk #[])))) index (ByteArray.mk #[]) () rfl rfl rfl rfl rfl rfl rfl rfl rfl (λ_ _ f hf=>by cases hf) Ah (λ_=>rfl)) ?_
 rintro ⟨⟩
 refine Z1 ?_
 have ⟨p,z,A⟩:=bnd c
 refine Tj0 [] [] [Ch.mp Ty.str false a p.parts,Ch.box N0 69 (fr p a)] [] ?_ ?_
 ·refine Tb z (λo=> ?_) λo=> ?_
  ·refine Z1 ?_
   have ⟨_,B,C⟩:=bnd o
   refine La [0] [] (Ac.mu (ty:=Ty.str) (ag:=false) index data () B (.inl rfl) rfl rfl rfl rfl rfl rfl rfl rfl) λ_=> ?_
   refine Z0 ?_
   refine Lt 1 ?_
   refine Z0 ?_
   cases C
   exact Eg0 [1,0] 0
  refine Z0 ?_
  cases o
  exact Eg0 [0,0] 0
 refine Z1 ?_
 cases A
 exact Eo1 a [1,0] []
theorem nk {t_:aK} {g:bY} {r:Int×aK} (H:eT t_ g=some r):CT G 28 [.pointer (some ⟨N0,0,none⟩),.agg (th g A2 C2).toArray] [Ch.box N0 71 (km t_ N1 A0 C0 A1 C1),Ch.box N1 69 (fr t_.slot M0),Ch.mp Ty.str false M0 t_.slot.parts] [Im.sl aD A0 C0 t_.aO.rows,Im.sl aB A1 C1 t_.aO.begun,Im.sl (Ty.int .i64) A2 C2 g.bW] (λh:Option Nat=> .int .i64 r.1) (λh=>[Ch.box N0 71 (km r.2 N1 A0 C0 A1 C1),Ch.box N1 69 (fr r.2.slot h),Ch.mp Ty.str false h r.2.slot.parts]) (λh=>[Im.sl aD A0 C0 r.2.aO.rows,Im.sl aB A1 C1 r.2.aO.begun]):=by
 delta eT at H
 refine Cf Go.Proofs.Tryz.func28 λK=> ?_
 refine Z1 ?_
 refine Lx λg1=> ?_
 refine Z1 ?_
 refine Zl ?_
 refine Z1 ?_
 refine Tb H (λa=> ?_) λa=> ?_
 ·refine Z1 ?_
  cases a
  exact Eo1 M0 [1,1,1] [0,1]
 refine Z1 ?_
 refine Tb a (λb=> ?_) λb=> ?_
 ·refine Z1 ?_
  cases b
  exact Eo1 M0 [1,1,1] [0,1]
 refine Y1 ?_
 refine Td [] [0,0,0,0] mo ?_
 refine Dq 0 ?_
 refine Db 1 0 ?_
 have ⟨B,c,n⟩:=bnd b
 refine D.addr 2 rfl (bH c) λC F o=> ?_
 subst o
 refine Dy 2 (Yl.ia c rfl rfl rfl rfl rfl rfl) ?_
 refine D.el 2 rfl (aJ c).2 ?_
 rintro _
 refine Dy 3 (Yl.ldc 0 0 rfl rfl rfl rfl) ?_
 refine Dq 4 ?_
 refine Dq 5 ?_
 refine Dq 6 ?_
 refine Dq 7 ?_
 refine Db 8 1 ?_
 refine Dq 9 ?_
 refine Dq 10 ?_
 refine Dn ?_
 refine Z0 ?_
 refine Tb n (λd=> ?_) λd=> ?_
 ·refine Z1 ?_
  cases d
  exact Eo1 M0 [1,1,1] [1,2]
 refine Y1 ?_
 have ⟨p,q,s⟩:=bnd d
 refine Tj0 [(25,.bool p)] [0,3] [] [0,1,2,3] ?_ ?_
 ·refine Td [] [0,0,0,0] mo ?_
  refine Dq 0 ?_
  refine Db 1 0 ?_
  have ⟨I,i,t⟩:=bnd q
  refine Dy 2 (Yl.ia i rfl rfl rfl rfl rfl rfl) ?_
  refine D.el 3 rfl (aJ i).2 ?_
  rintro _
  refine Dy 3 (Yl.ldc 0 0 rfl rfl rfl rfl) ?_
  refine Dq 4 ?_
  refine Dq 5 ?_
  refine D.cs 31 t rfl (λhc e=> ?_) (λhc e=> ?_)
  ·refine Dq 6 ?_
   refine Db 7 0 ?_
   have ⟨J,j,u⟩:=bnd e
   refine Dy 8 (Yl.ia j rfl rfl rfl rfl rfl rfl) ?_
   refine D.el 4 rfl (aJ j).2 ?_
   rintro _
   refine Dy 9 (Yl.ldc 0 0 rfl rfl rfl rfl) ?_
   refine Dq 10 ?_
   refine Dq 11 ?_
   refine Dq 12 ?_
   refine Dq 13 ?_
   refine Db 14 1 ?_
   refine Dq 15 ?_
   refine Dq 16 ?_
   refine Dq 17 ?_
   refine Dn ?_
   cases u
   exact Eg0 [0,0,0,0] 2
  refine Ds 6 ?_
  refine Ds 7 ?_
  refine Ds 8 ?_
  refine Ds 9 ?_
  refine Ds 10 ?_
  refine Ds 11 ?_
  refine Ds 12 ?_
  refine Ds 13 ?_
  refine Ds 14 ?_
  refine Ds 15 ?_
  refine Dq 16 ?_
  refine Dq 17 ?_
  refine Dn ?_
  cases e
  exact Eg0 [0,0,0,0] 1
 refine Tb s (λf=> ?_) λf=> ?_
 ·refine Z1 ?_
  cases f
  exact Eo1 M0 [1,1,1] [1,2]
 refine Y1 ?_
 refine Td [] [0,0] mo ?_
 refine Dq 0 ?_
 refine Dq 1 ?_
 refine Dq 2 ?_
 refine Db 3 1 ?_
 refine Dq 4 ?_
 refine Db 5 0 ?_
 have ⟨M,k,v⟩:=bnd f
 refine Dy 6 (Yl.ia k rfl rfl rfl rfl rfl rfl) ?_
 refine D.el 3 rfl (aJ k).2 ?_
 rintro _
 refine Dy 7 (Yl.ldc 0 0 rfl rfl rfl rfl) ?_
 refine Dq 8 ?_
 refine Db 9 0 ?_
 have ⟨N,l,w⟩:=bnd v
 refine Dy 10 (Yl.ia l rfl rfl rfl rfl rfl rfl) ?_
 refine D.el 4 rfl (aJ l).2 ?_
 rintro _
 refine Dy 11 (Yl.ldc 0 0 rfl rfl rfl rfl) ?_
 refine Dq 12 ?_
 refine Db 13 0 ?_
 have ⟨O,m,x⟩:=bnd w
 refine Dy 14 (Yl.ia m rfl rfl rfl rfl rfl rfl) ?_
 refine D.el 5 rfl (aJ m).2 ?_
 rintro _
 refine Dy 15 (Yl.ldc 0 0 rfl rfl rfl rfl) ?_
 refine Dq 16 ?_
 refine Db 17 0 ?_
 have ⟨P,y,z⟩:=bnd x
 refine Dk [0,0] [] (o8 y) λA=> ?_
 refine Dq 19 ?_
 refine Dn ?_
 refine Z0 ?_
 cases z
 exact Eo1 A [1,1,1] [4,5]
theorem lh {σ η:Type} {s_:aW} {Y:σ->(Int×Bool)->Option (σ×Bool)} {y0:σ} (g_0:Nat) (v_0_0:Option Nat) {yl:Nat} {C:σ->η->Ch} (hY: ∀ s (h:η) (x:Int×Bool) (t:Unit) z,Y s x=some z->YT G yl [.int .i64 x.1,.bool x.2] [C s h,Ch.box g_0 69 (fr s_ v_0_0),Ch.mp Ty.str false v_0_0 s_.parts] [] (λ_:η=> .bool z.2) (λh2=>[C z.1 h2,Ch.box g_0 69 (fr s_ v_0_0),Ch.mp Ty.str false v_0_0 s_.parts]) (λ_=>[])) (h0:η) {r:σ} (H:fv s_ Y y0=some r):CT G 64 [.pointer (some ⟨g_0,0,none⟩),.func (.yield yl) #[] #[]] [C y0 h0,Ch.box g_0 69 (fr s_ v_0_0),Ch.mp Ty.str false v_0_0 s_.parts] [] (λh:η=> .tuple #[]) (λh=>[C r h,Ch.box g_0 69 (fr s_ v_0_0),Ch.mp Ty.str false v_0_0 s_.parts]) (λh=>[]):=by
  delta fv at H
  refine Cf Go.Proofs.Tryz.func64 λK=> ?_
  refine Z1 ?_
  have ⟨e,m,j⟩:=bnd H
  refine T.n7 (η:=σ×(η)) (λh=>e = .inl h.1) (λh=>(λc=>(λb=>[]) h.2) h.1) (λh=>(λc=>(λb=>[C c b,Ch.box g_0 69 (fr s_ v_0_0),Ch.mp Ty.str false v_0_0 s_.parts]) h.2) h.1) (λh=>(λc=>(λb=>[]) h.2) h.1) ?_ ?_
  ·refine Yl0 ?_
   refine Tq (η:=η) (λa h=>(λd=>[(11,.int .i64 a.1)]) h) [0,1,10] (λa h=>(λd=>[C a.2 d]) h) [1,2] (λ_ _=>[]) h0 [0,0,0] [] m ?_
   rintro k_ a d n o p k
   refine Y2 ?_
   refine Tb o (λg=> ?_) λg=> ?_
   ·refine Z1 ?_
    refine Zl ?_
    refine Z2 ?_
    refine La [2] [] (Ac.ml (ty:=Ty.str) (ag:=false) (vv:=(λh:Unit=> .string (mgd s_.parts a.1 (ByteArray.mk #[])))) a.1 (ByteArray.mk #[]) () rfl rfl rfl rfl rfl rfl rfl rfl rfl (λ_ _ f hf=>by cases hf) Ah (λ_=>rfl)) ?_
    rintro ⟨⟩
    refine Z1 ?_
    have ⟨w,q,u⟩:=bnd g
    refine L.yd [1,1,0] [] (hY _ _ _ () _ q) rfl rfl rfl rfl rfl rfl rfl rfl ?_
    intro l
    refine Z0 ?_
    refine Tb u (λi=> ?_) λi=> ?_
    ·refine Z0 ?_
     obtain ⟨y,hz,v⟩:=bQ i
     subst n
     have hb:=k _ rfl
     subst e
     obtain rfl:=(sm j).symm
     refine Z0 ?_
     cases v
     exact Eo l [0,0,0] [] .nil
    refine Z0 ?_
    cases i
    exact Eg (_,l) (p _ rfl) [0,0,0] [] 0
   refine Z0 ?_
   cases g
   have hb:=k _ rfl
   subst e
   exact Egx (_,d) rfl [0,0,0] []
  rintro ⟨c,b⟩ hy
  subst hy
  refine E.off ?_
  cases j
  exact Eo b [0,0,0] [] .nil
theorem kv (g:Nat) (u:Bool) (v:Value):CT G 105 [.pointer (some ⟨g,0,none⟩)] [Ch.box g 149 [.pointer (rF u g),v]] [] (λ_:Unit=> .tuple #[]) (λ_=>[Ch.box g 149 [.pointer (rF true g),v]]) (λ_=>[]):=by
 refine Cf Go.Proofs.Tryz.func105 λK=> ?_
 cases u
 ·refine Z1 ?_
  refine Ly (Yl.pz rfl rfl rfl rfl rfl) ?_
  refine Z0 ?_
  refine T.cond rfl (λ_=> ?_) (λh=>nomatch h)
  refine Z0 ?_
  refine Ly (Yl.tou (t:=149) 0 rfl rfl rfl (by kernel_rfl) (by kernel_rfl) rfl rfl rfl) ?_
  refine Ly (Yl.ED rfl rfl rfl Go.Proofs.Tryz.func136 (by kernel_rfl) (by kernel_rfl) (by kernel_rfl) (by kernel_rfl)) ?_
  refine Ly (Yl.fru (u:=149) 0 rfl rfl rfl (by kernel_rfl) (by kernel_rfl) rfl (by kernel_rfl)) ?_
  refine Z0 ?_
  refine Lt 0 ?_
  refine Z0 ?_
  refine E.off ?_
  exact Eo () [0] [] .nil
 refine Z1 ?_
 refine Ly (Yl.pn rfl rfl rfl rfl rfl rfl) ?_
 refine Z0 ?_
 refine T.cond rfl (λh=>nomatch h) (λ_=> ?_)
 refine Z1 ?_
 refine Ly (Yl.ps rfl rfl rfl rfl rfl rfl) ?_
 refine Z0 ?_
 refine T.cond rfl (λh=>nomatch h) (λ_=> ?_)
 refine Z0 ?_
 refine E.off ?_
 exact Eo () [0] [] .nil
theorem ki {b:bX} {s_:ByteArray} (g_0:Nat) (a_0_0:Option Addr) (c_0_0:Nat) {r:bX} (H:cZ b s_=some r):CT G 65 [.pointer (some ⟨g_0,0,none⟩),.string s_] [Ch.box g_0 149 [.pointer (rF b.addr g_0),.slice a_0_0 b.buf.length c_0_0],Ch.arr (Ty.int .u8) 5 a_0_0 c_0_0 b.buf] [] (λh:(Option Addr×Nat)=> .tuple #[.int .i64 (s_.size:Int),.nilIface]) (λh=>[Ch.box g_0 149 [.pointer (rF r.addr g_0),.slice h.1 r.buf.length h.2],Ch.arr (Ty.int .u8) 5 h.1 h.2 r.buf]) (λh=>[]):=by
  delta cZ at H
  refine Cf Go.Proofs.Tryz.func65 λK=> ?_
  refine Z2 ?_
  refine Lk [0] [] (kv g_0 b.addr _) λ⟨⟩=> ?_
  refine Z1 ?_
  have ⟨_,h1,H2⟩:=bnd H
  refine La [1] [] (Ac.aps h1 rfl rfl rfl rfl rfl rfl rfl rfl rfl B9) λ⟨a,c⟩=> ?_
  refine Z0 ?_
  refine Lt 1 ?_
  refine Z1 ?_
  cases H2
  exact Eo (a,c) [0,0] [] (.tmp rfl (.tmp rfl .nil))
theorem lx {b:bX} (g_0:Nat) (a_0_0:Option Addr) (c_0_0:Nat) {r:ByteArray} (H:gz b=some r):CT G 66 [.pointer (some ⟨g_0,0,none⟩)] [Ch.box g_0 149 [.pointer (rF b.addr g_0),.slice a_0_0 b.buf.length c_0_0],Ch.arr (Ty.int .u8) 5 a_0_0 c_0_0 b.buf] [] (λh:Unit=> .string r) (λh=>[]) (λh=>[]):=by
  delta gz at H
  refine Cf Go.Proofs.Tryz.func66 λK=> ?_
  refine Y2 ?_
  refine Td [] [0] mo ?_
  refine Dq 0 ?_
  refine Dq 1 ?_
  refine Dq 2 ?_
  refine Db 3 0 ?_
  refine Dq 5 ?_
  refine Dq 6 ?_
  refine Dq 7 ?_
  refine Db 8 0 ?_
  refine Dq 9 ?_
  refine Da [0] [] rfl rfl (Ac.usd (e:=5) rfl rfl (by kernel_rfl)) λp=> ?_
  refine Da [0] [] rfl rfl (Ac.ust (T:=5) rfl rfl rfl (by kernel_rfl) (by kernel_rfl)) λ_=> ?_
  refine Dq 11 ?_
  refine Dn ?_
  refine Z0 ?_
  cases H
  exact Eo1 () [] []
theorem nU {s_:aW} {r:ByteArray×Bool} (H:eD s_=some r):CT G 29 [.pointer (some ⟨N0,0,none⟩)] [Ch.box N0 69 (fr s_ M0),Ch.mp Ty.str false M0 s_.parts] [] (λ_:Unit=> .tuple #[.string r.1,.bool r.2]) (λh=>[Ch.box N0 69 (fr s_ M0),Ch.mp Ty.str false M0 s_.parts]) (λh=>[]):=by
 delta eD at H
 refine Cf Go.Proofs.Tryz.func29 λK=> ?_
 refine T.qX ?_
 refine Z1 ?_
 refine Lx λg1=> ?_
 refine Y2 ?_
 have ⟨e7,H8,H9⟩:=bnd H
 refine T.tL (η:=Unit×Unit) (λh=>True) (λh=>[]) (λh=>[(1,.pointer (some ⟨g1,0,none⟩)),(22,.bool e7)]) (λh=>[Ch.box g1 66 [.pointer (some ⟨N0,0,none⟩)],Ch.dfs [],Ch.box N0 69 (fr s_ M0),Ch.mp Ty.str false M0 s_.parts]) (λh=>[]) ?_ ?_
 ·refine Td [] [0,0,0,0] mo ?_
  refine Db 0 0 ?_
  refine Dq 1 ?_
  refine Dq 2 ?_
  refine Db 3 2 ?_
  refine Dq 4 ?_
  refine Dq 5 ?_
  refine D.cs 11 H8 rfl (λhc e=> ?_) (λhc e=> ?_)
  ·refine Ds 6 ?_
   refine Ds 7 ?_
   refine Ds 8 ?_
   refine Ds 9 ?_
   refine Ds 10 ?_
   refine Ds 11 ?_
   refine Ds 12 ?_
   refine Ds 13 ?_
   refine Ds 14 ?_
   refine Ds 15 ?_
   refine Dq 16 ?_
   refine Dn ?_
   cases e
   exact E.mA ((),()) [0,0,0,0] [] trivial rfl ⟨rfl,rfl,trivial⟩ rfl rfl
  refine Db 6 0 ?_
  refine Dq 7 ?_
  refine Dq 8 ?_
  refine Db 9 2 ?_
  refine Db 11 0 ?_
  refine Dq 12 ?_
  refine Dq 13 ?_
  refine Db 14 2 ?_
  refine Dy 10 (Yl.mn 3 rfl rfl rfl rfl rfl) ?_
  refine Dq 15 ?_
  refine Dq 16 ?_
  refine Dn ?_
  cases e
  exact E.mA ((),()) [0,0,0,0] [] trivial rfl ⟨rfl,rfl,trivial⟩ rfl rfl
 rintro ⟨_,⟨⟩⟩ _
 refine Tb H9 (λg=> ?_) λg=> ?_
 ·refine Z1 ?_
  cases g
  exact E.pK () 1 [1,1] [] rfl (.tmp rfl (.tmp rfl .nil)) rfl rfl rfl
 refine Z1 ?_
 refine Ll λd=> ?_
 refine Z2 ?_
 refine Yl0 ?_
 refine T.gC (Ty.int .u8) 5 ?_
 have ⟨k,l,m⟩:=bnd g
 refine T.rf3 (σ:=bX) (η:=(Option Addr×Nat)) (X:=Int×Bool) (θ:=Unit) (τ:=(Option Addr×Nat)) (s1:=k) (hx:=λx=>x) (λx t=>[.int .i64 x.1,.bool x.2]) (λx t=>[]) (λ_=>none) [Ch.box N0 69 (fr s_ M0),Ch.mp Ty.str false M0 s_.parts] (λa h=>(λb c=>[Ch.arr (Ty.int .u8) 5 b c a.buf,Ch.box d 149 [.pointer (rF a.addr d),.slice b a.buf.length c],Ch.box g1 66 [.pointer (some ⟨N0,0,none⟩)]]) h.1 h.2) (λa h=>(λb c=>[]) h.1 h.2) 3 [0,0,0,0,0] [] [] rfl rfl (λ_ _=>rfl) rfl (λyl C hY=>(lh N0 M0 hY (none,0) l:_)) (λ_ _ _ _=>rfl) rfl rfl rfl rfl rfl ?_ rfl ?_
 ·rintro yl K2 a ⟨b,c⟩ i ⟨⟩ w n
  refine Z0 ?_
  refine E.begin λK3=> ?_
  refine Zl ?_
  refine La [4] [] (Ac.ml1 (ty:=Ty.str) (ag:=false) (vv:=(λ_:Unit=> .string (mgd s_.parts i.1 (ByteArray.mk #[])))) i.1 (ByteArray.mk #[]) () rfl rfl rfl rfl rfl rfl rfl rfl rfl (λ_ _ f hf=>by cases hf) Ah (λ_=>rfl)) ?_
  rintro ⟨⟩
  have ⟨y,o,p⟩:=bnd n
  refine Lk [2,1] [] (ki d b c o) λ⟨q,s⟩=> ?_
  refine Z0 ?_
  cases p
  exact E.on (q,s) [1,0,1,1,0] [] rfl rfl rfl rfl
 rintro j z
 refine Z1 ?_
 have ⟨A,u,v⟩:=bnd m
 refine Lk [2,1] [] (lx d j.1 j.2 u) λ⟨⟩=> ?_
 refine Z0 ?_
 cases v
 exact E.pK () 0 [1,1] [] rfl (.tmp rfl (.tmp rfl .nil)) rfl rfl rfl
theorem nm {s_:aW} {r:aW} (H:fA s_=some r):CT G 30 [.pointer (some ⟨N0,0,none⟩)] [Ch.box N0 69 (fr s_ M0),Ch.mp Ty.str false M0 s_.parts] [] (λh:Option Nat=> .tuple #[]) (λh=>[Ch.box N0 69 (fr r h),Ch.mp Ty.str false h r.parts]) (λh=>[]):=by
 delta fA at H
 refine Cf Go.Proofs.Tryz.func30 λK=> ?_
 refine Z0 ?_
 refine Lt 0 ?_
 refine Ln (E.off ?_)
 refine E.mp0 Ty.str false ?_
 cases H
 exact Eo none [1,0] [] .nil
theorem Aj {s_:ByteArray} {r:aI} (H:oc s_=some r):CT G 106 [.string s_] [] [] (λh:Nat=> .pointer (some ⟨h,0,none⟩)) (λh=>[Ch.box h 237 [.string r.s,.int .i64 r.e]]) (λh=>[]):=by
 delta oc at H
 refine Cf Go.Proofs.Tryz.func106 λK=> ?_
 refine Z2 ?_
 refine Lx λg1=> ?_
 refine Z0 ?_
 cases H
 exact Eo1 g1 [0] []
theorem dZ {in_:aI} {e:Int} {r:aI} (H:bB in_ e=some r):CT G 112 [.pointer (some ⟨N0,0,none⟩),.int .i64 e] [Ch.box N0 237 [.string in_.s,.int .i64 in_.e]] [] (λ_:Unit=> .tuple #[]) (λh=>[Ch.box N0 237 [.string r.s,.int .i64 r.e]]) (λh=>[]):=by
 delta bB at H
 refine Cf Go.Proofs.Tryz.func112 λK=> ?_
 refine Y1 ?_
 have ⟨e4,H5,H6⟩:=bnd H
 refine Tj0 [(12,.bool e4)] [0,1] [] [0] ?_ ?_
 ·refine Z0 ?_
  refine Lw 9 H5 (λH7=> ?_) λH7=> ?_
  ·refine Z0 ?_
   cases H7
   exact Eg0 [0] 0
  refine Z0 ?_
  cases H7
  exact Eg0 [0] 0
 refine Tb H6 (λH8=> ?_) λH8=> ?_
 ·refine Z0 ?_
  refine Lt 0 ?_
  refine Z0 ?_
  refine Lt 0 ?_
  refine Ln (E.off ?_)
  cases H8
  exact Eo () [0] [] .nil
 refine Tk (E.off ?_)
 cases H8
 exact Eo () [0] [] .nil
theorem dD {in_:aI} {r:Int×aI} (H:bC in_=some r):CT G 107 [.pointer (some ⟨N0,0,none⟩)] [Ch.box N0 237 [.string in_.s,.int .i64 in_.e]] [] (λ_:Unit=> .int .i64 r.1) (λh=>[Ch.box N0 237 [.string r.2.s,.int .i64 r.2.e]]) (λh=>[]):=by
 delta bC at H
 refine Cf Go.Proofs.Tryz.func107 λK=> ?_
 refine Z3 ?_
 refine Z1 ?_
 have ⟨a,o,b⟩:=bnd H
 refine Tj (η:=Unit×Unit) (λh=>a = .inl h.1) (λ_=>[]) [0] (λ_=>[]) [0] (λ_=>[]) ?_ ?_
 ·refine Yl0 ?_
  refine Tq (η:=Unit) (λc h=>[(3,.int .i64 c.2),(12,.int .i64 c.1)]) [0,11] (λ_ _=>[]) [0] (λ_ _=>[]) () [0] [] o ?_
  rintro k_ c ⟨⟩ m p q d
  refine Y2 ?_
  refine Tb p (λf=> ?_) λf=> ?_
  ·refine Z1 ?_
   refine Zl ?_
   refine Z2 ?_
   have ⟨S,t,u⟩:=bnd f
   refine Ly (Yl.si t rfl rfl rfl rfl rfl) ?_
   refine Z1 ?_
   have ⟨_,v,w⟩:=bnd u
   refine Ly (Yl.shl (nb:=64) rfl v rfl rfl rfl) ?_
   refine Z2 ?_
   refine Tb w (λg=> ?_) λg=> ?_
   ·refine Z0 ?_
    cases g
    exact Eg (_,()) (q _ rfl) [0] [] 0
   refine Y2 ?_
   have ⟨x,y,z⟩:=bnd g
   refine Tj0 [(40,.bool x)] [0,3,4] [] [0] ?_ ?_
   ·refine Z0 ?_
    refine Lw 33 y (λi=> ?_) λi=> ?_
    ·refine Z0 ?_
     refine Lw 37 i (λj=> ?_) λj=> ?_
     ·refine Z0 ?_
      cases j
      exact Eg0 [0] 0
     refine Z0 ?_
     cases j
     exact Eg0 [0] 0
    refine Z0 ?_
    cases i
    exact Eg0 [0] 0
   refine Tb z (λk=> ?_) λk=> ?_
   ·refine Z1 ?_
    have ⟨U,A,B⟩:=bnd k
    refine Lk [0] [] (dZ A) λ⟨⟩=> ?_
    refine Z1 ?_
    obtain ⟨V,hz,C⟩:=bQ B
    subst m
    have hb:=d _ rfl
    subst a
    obtain rfl:=(sm b).symm
    refine Z0 ?_
    cases C
    exact Eo1 () [0] []
   refine Z1 ?_
   have ⟨_,F,I⟩:=bnd k
   refine Ly (Yl.sc F rfl rfl rfl rfl rfl rfl) ?_
   refine Z0 ?_
   refine Lt 0 ?_
   refine Z1 ?_
   obtain ⟨W,hz,J⟩:=bQ I
   subst m
   have hb:=d _ rfl
   subst a
   obtain rfl:=(sm b).symm
   refine Z0 ?_
   cases J
   exact Eo1 () [0] []
  refine Z0 ?_
  cases f
  have hb:=d _ rfl
  subst a
  exact Eg (_,()) rfl [0] [] 0
 rintro ⟨X,⟨⟩⟩ hy
 subst hy
 refine Z2 ?_
 have ⟨n,M,N⟩:=bnd b
 refine Tj0 [] [0] [Ch.box N0 237 [.string n.s,.int .i64 n.e]] [] ?_ ?_
 ·refine Tb M (λl=> ?_) λl=> ?_
  ·refine Z0 ?_
   have ⟨Y,O,P⟩:=bnd l
   refine Lk [0] [] (dZ O) λ⟨⟩=> ?_
   refine Z0 ?_
   cases P
   exact Eg0 [0] 0
  refine Z0 ?_
  cases l
  exact Eg0 [0] 0
 refine Z1 ?_
 have ⟨Z,Q,R⟩:=bnd N
 refine Lk [0] [] (dZ Q) λ⟨⟩=> ?_
 refine Z1 ?_
 cases R
 exact Eo1 () [0] []
theorem oM {in_:aI} {r:Int×aI} (H:gS in_=some r):CT G 108 [.pointer (some ⟨N0,0,none⟩)] [Ch.box N0 237 [.string in_.s,.int .i64 in_.e]] [] (λ_:Unit=> .int .i64 r.1) (λh=>[Ch.box N0 237 [.string r.2.s,.int .i64 r.2.e]]) (λh=>[]):=by
 delta gS at H
 refine Cf Go.Proofs.Tryz.func108 λK=> ?_
 refine Z2 ?_
 have ⟨r1,h2,H3⟩:=bnd H
 refine Lk [0] [] (dD h2) λ⟨⟩=> ?_
 refine Z2 ?_
 refine Tb H3 (λH8=> ?_) λH8=> ?_
 ·refine Z1 ?_
  have ⟨r9,a,b⟩:=bnd H8
  refine Lk [0] [] (dZ a) λ⟨⟩=> ?_
  refine Z1 ?_
  cases b
  exact Eo1 () [0] []
 refine Z1 ?_
 cases H8
 exact Eo1 () [0] []
theorem tu {in_:aI} {n_:Int} {r:ByteArray×aI} (H:ji in_ n_=some r):CT G 137 [.pointer (some ⟨N0,0,none⟩),.int .i64 n_] [Ch.box N0 237 [.string in_.s,.int .i64 in_.e]] [] (λ_:Unit=> .string r.1) (λh=>[Ch.box N0 237 [.string r.2.s,.int .i64 r.2.e]]) (λh=>[]):=by
 delta ji at H
 refine Cf Go.Proofs.Tryz.func137 λK=> ?_
 refine Z3 ?_
 refine Z1 ?_
 refine Tb H (λH5=> ?_) λH5=> ?_
 ·refine Z1 ?_
  have ⟨r6,h7,H8⟩:=bnd H5
  refine Lk [0] [] (dZ h7) λ⟨⟩=> ?_
  refine Z1 ?_
  cases H8
  exact Eo1 () [0] []
 refine Z1 ?_
 have ⟨_,h9,a⟩:=bnd H5
 refine Ly (Yl.sc h9 rfl rfl rfl rfl rfl rfl) ?_
 refine Z1 ?_
 have ⟨_,b,c⟩:=bnd a
 refine Ly (Yl.sc b rfl rfl rfl rfl rfl rfl) ?_
 refine Z0 ?_
 refine Lt 0 ?_
 refine Z1 ?_
 cases c
 exact Eo1 () [0] []
theorem rm {in_:aI} {r:ByteArray×aI} (H:hZ in_=some r):CT G 109 [.pointer (some ⟨N0,0,none⟩)] [Ch.box N0 237 [.string in_.s,.int .i64 in_.e]] [] (λ_:Unit=> .string r.1) (λh=>[Ch.box N0 237 [.string r.2.s,.int .i64 r.2.e]]) (λh=>[]):=by
 delta hZ at H
 refine Cf Go.Proofs.Tryz.func109 λK=> ?_
 refine Z2 ?_
 have ⟨r1,h2,H3⟩:=bnd H
 refine Lk [0] [] (dD h2) λ⟨⟩=> ?_
 have ⟨r4,h5,H6⟩:=bnd H3
 refine Lk [0] [] (tu h5) λ⟨⟩=> ?_
 refine Z0 ?_
 cases H6
 exact Eo1 () [0] []
theorem kQ {in_:aI} {most:Int} {r:Int×aI} (H:eO in_ most=some r):CT G 138 [.pointer (some ⟨N0,0,none⟩),.int .i64 most] [Ch.box N0 237 [.string in_.s,.int .i64 in_.e]] [] (λ_:Unit=> .int .i64 r.1) (λh=>[Ch.box N0 237 [.string r.2.s,.int .i64 r.2.e]]) (λh=>[]):=by
 delta eO at H
 refine Cf Go.Proofs.Tryz.func138 λK=> ?_
 refine Z2 ?_
 have ⟨r1,h2,H3⟩:=bnd H
 refine Lk [0] [] (dD h2) λ⟨⟩=> ?_
 refine Z2 ?_
 refine Tb H3 (λH8=> ?_) λH8=> ?_
 ·refine Z1 ?_
  have ⟨r9,a,b⟩:=bnd H8
  refine Lk [0] [] (dZ a) λ⟨⟩=> ?_
  refine Z1 ?_
  cases b
  exact Eo1 () [0] []
 refine Z1 ?_
 cases H8
 exact Eo1 () [0] []
theorem jE {in_:aI} {r:Int} (H:cI in_=some r):CT G 111 [.pointer (some ⟨N0,0,none⟩)] [Ch.box N0 237 [.string in_.s,.int .i64 in_.e]] [] (λ_:Unit=> .int .i64 r) (λh=>[Ch.box N0 237 [.string in_.s,.int .i64 in_.e]]) (λh=>[]):=by
 delta cI at H
 refine Cf Go.Proofs.Tryz.func111 λK=> ?_
 refine Z2 ?_
 cases H
 exact Eo1 () [0] []
theorem uK {in_:aI} {r:(List aG)×aI} (H:jd in_=some r):CT G 110 [.pointer (some ⟨N0,0,none⟩)] [Ch.box N0 237 [.string in_.s,.int .i64 in_.e]] [] (λh:(Option Addr×Nat)=> .slice h.1 r.1.length h.2) (λh=>[Ch.arr aB 121 h.1 h.2 r.1,Ch.box N0 237 [.string r.2.s,.int .i64 r.2.e]]) (λh=>[]):=by
 delta jd at H
 refine Cf Go.Proofs.Tryz.func110 λK=> ?_
 refine Z3 ?_
 refine Z1 ?_
 have ⟨r1,h2,H3⟩:=bnd H
 refine Lk [0] [] (kQ h2) λ⟨⟩=> ?_
 refine Z0 ?_
 have ⟨b,k,l⟩:=bnd H3
 refine Tjh (η:=(Option Addr×Nat)) (λh=>(λc d=>[(3,.slice c b.1.length d)]) h.1 h.2) [0] (λh=>(λc d=>[Ch.arr aB 121 c d b.1,Ch.box N0 237 [.string b.2.s,.int .i64 b.2.e]]) h.1 h.2) [] (λ_=>[]) ?_ ?_
 ·refine Yl0 ?_
  refine T.gC aB 121 ?_
  refine Tq (η:=(Option Addr×Nat)) (λa h=>(λf g=>[(3,.slice f a.2.1.length g),(6,.int .i64 a.2.2)]) h.1 h.2) [0,5] (λa h=>(λf g=>[Ch.arr aB 121 f g a.2.1,Ch.box N0 237 [.string a.1.s,.int .i64 a.1.e]]) h.1 h.2) [] (λ_ _=>[]) (none,0) [0,0] [] k ?_
  rintro k_ a ⟨f,g⟩ F m n o
  refine Y2 ?_
  refine Tb m (λi=> ?_) λi=> ?_
  ·refine Z1 ?_
   refine Zl ?_
   have ⟨p,q,t⟩:=bnd i
   refine Lk [1] [] (kQ q) λ⟨⟩=> ?_
   refine Z0 ?_
   have ⟨u,v,w⟩:=bnd t
   refine Lk [0] [] (kQ v) λ⟨⟩=> ?_
   refine Z0 ?_
   refine La [] [] (Ac.bs (ty:=aB) (xs:=[(aG.mk (IntKind.i32.wrap p.1) u.1)]) (.cons () [] rfl .nil) rfl rfl rfl rfl rfl rfl rfl) λI=> ?_
   refine L.frz 0 rfl ?_
   have ⟨_,x,y⟩:=bnd w
   refine La [1] [0] (Ac.ap (ty:=aB) x rfl rfl rfl rfl rfl rfl rfl) ?_
   rintro ⟨z,A⟩
   refine Z0 ?_
   cases y
   exact Eg (_,(z,A)) (n _ rfl) [0,0] [] 1
  refine Z0 ?_
  cases i
  have hb:=o _ rfl
  subst b
  exact Eg (f,g) trivial [0,0] [] 0
 rintro ⟨c,d⟩
 refine Z2 ?_
 have ⟨J,B,C⟩:=bnd l
 refine Lk [1] [] (jE B) λ⟨⟩=> ?_
 refine Z0 ?_
 refine Tb C (λj=> ?_) λj=> ?_
 ·refine Z1 ?_
  refine E.gC aB 121 ?_
  cases j
  exact Eo1 (none,0) [0,0] []
 refine Z1 ?_
 cases j
 exact Eo1 (c,d) [1,0] []
theorem vX {in_:aI} {left:Int} {r:Int×aF×Bool×aI} (H:jJ in_ left=some r):CT G 139 [.pointer (some ⟨N0,0,none⟩),.int .i64 left] [Ch.box N0 237 [.string in_.s,.int .i64 in_.e]] [] (λ_:Unit=> .tuple #[.int .i64 r.1,.agg #[.int .i32 r.2.1.rune,.int .i64 r.2.1.aM,.int .i64 r.2.1.part],.bool r.2.2.1]) (λh=>[Ch.box N0 237 [.string r.2.2.2.s,.int .i64 r.2.2.2.e]]) (λh=>[]):=by
 delta jJ at H
 refine Cf Go.Proofs.Tryz.func139 λK=> ?_
 refine Z1 ?_
 refine Ll λg1=> ?_
 refine Z1 ?_
 have ⟨r2,h3,H4⟩:=bnd H
 refine Lk [1] [] (dD h3) λ⟨⟩=> ?_
 refine Y2 ?_
 have ⟨e8,H9,n⟩:=bnd H4
 refine Tj0 [(19,.bool e8)] [0,5,7] [] [0,1] ?_ ?_
 ·refine Z0 ?_
  refine Lw 15 H9 (λd=> ?_) λd=> ?_
  ·refine Z0 ?_
   cases d
   exact Eg0 [0,0] 0
  refine Z0 ?_
  cases d
  exact Eg0 [0,0] 0
 have ⟨l,o,p⟩:=bnd n
 refine Tj0 [] [0,5,7] [Ch.box N0 237 [.string l.s,.int .i64 l.e]] [1] ?_ ?_
 ·refine Tb o (λf=> ?_) λf=> ?_
  ·refine Z0 ?_
   have ⟨V,q,t⟩:=bnd f
   refine Lk [0] [] (dZ q) λ⟨⟩=> ?_
   refine Z0 ?_
   cases t
   exact Eg0 [0,0] 0
  refine Z0 ?_
  cases f
  exact Eg0 [0,0] 0
 refine Z1 ?_
 refine Ll λg=> ?_
 refine Lt 0 ?_
 refine Z2 ?_
 have ⟨b,u,v⟩:=bnd p
 refine Tj0 [] [0,5,7,8] [Ch.box g 252 [.int .i64 b.1.e0,.int .i64 b.1.e1,.int .i64 b.1.e2],Ch.box N0 237 [.string b.2.s,.int .i64 b.2.e]] [2] ?_ ?_
 ·refine Yl0 ?_
  refine Tq (η:=Unit) (λa h=>[(24,.int .i64 a.2.2)]) [0,5,7,8,23] (λa h=>[Ch.box g 252 [.int .i64 a.1.e0,.int .i64 a.1.e1,.int .i64 a.1.e2],Ch.box N0 237 [.string a.2.1.s,.int .i64 a.2.1.e]]) [2] (λ_ _=>[]) () [0,0,0] [] u ?_
  rintro k_ a ⟨⟩ W w x y
  refine Y2 ?_
  refine Tb w (λi=> ?_) λi=> ?_
  ·refine Y1 ?_
   have ⟨c,z,A⟩:=bnd i
   refine Tj0 [] [0,5,7,8,23,24] [Ch.box g 252 [.int .i64 c.1.e0,.int .i64 c.1.e1,.int .i64 c.1.e2],Ch.box N0 237 [.string c.2.s,.int .i64 c.2.e]] [2] ?_ ?_
   ·refine Zl ?_
    refine Z1 ?_
    have ⟨X,B,C⟩:=bnd z
    refine Ly (Yl.xa B rfl rfl rfl rfl rfl rfl rfl rfl rfl) ?_
    refine Z1 ?_
    have ⟨Y,F,I⟩:=bnd C
    refine Lk [1] [] (dD F) λ⟨⟩=> ?_
    have ⟨_,m,J⟩:=bnd I
    refine Ly (Yl.xp m rfl rfl rfl rfl rfl rfl rfl) ?_
    refine La [1] [] (Ac.sx m [a.1.e0,a.1.e1,a.1.e2] rfl rfl rfl rfl rfl rfl rfl rfl) λ_=> ?_
    refine Z1 ?_
    have ⟨_,M,N⟩:=bnd J
    refine Ly (Yl.xp M rfl rfl rfl rfl rfl rfl rfl) ?_
    have ⟨Z,O,P⟩:=bnd N
    refine Ly (Yl.xl 0 O rfl rfl rfl rfl rfl rfl) ?_
    refine Z0 ?_
    refine Tb P (λj=> ?_) λj=> ?_
    ·refine Z0 ?_
     have ⟨aa,Q,R⟩:=bnd j
     refine Lk [1] [] (dZ Q) λ⟨⟩=> ?_
     refine Z0 ?_
     cases R
     exact Eg0 [1,0,0] 0
    refine Z0 ?_
    cases j
    exact Eg0 [0,0,0] 0
   refine Z0 ?_
   cases A
   exact Eg (_,()) (x _ rfl) [0,0,0] [] 0
  refine Z0 ?_
  cases i
  have hb:=y _ rfl
  subst b
  exact Eg0 [0,0,0] 0
 refine Z2 ?_
 have ⟨ab,S,U⟩:=bnd v
 refine Lk [1] [] (jE S) λ⟨⟩=> ?_
 refine Z0 ?_
 refine Tb U (λk=> ?_) λk=> ?_
 ·refine Z1 ?_
  refine Lt 2 ?_
  refine Z0 ?_
  cases k
  exact Eo () [1] [] (.tmp rfl (.cell 0 rfl rfl rfl (.tmp rfl .nil)))
 refine Y1 ?_
 refine Td [10] [0,0,0] mo ?_
 refine Dq 0 ?_
 refine Dq 1 ?_
 refine Db 2 1 ?_
 refine Dq 3 ?_
 refine Dq 4 ?_
 refine Db 5 1 ?_
 refine Dq 6 ?_
 refine Db 7 1 ?_
 refine Dq 8 ?_
 refine Dq 9 ?_
 refine Dt 2 ?_
 refine Dq 11 ?_
 refine Dn ?_
 refine Z0 ?_
 cases k
 exact Eo () [1] [] (.tmp rfl (.cell 0 rfl rfl rfl (.tmp rfl .nil)))
theorem qT {in_:aI} {w:Int} {r:aE×aI} (H:gL in_ w=some r):CT G 113 [.pointer (some ⟨N0,0,none⟩),.int .i64 w] [Ch.box N0 237 [.string in_.s,.int .i64 in_.e]] [] (λh:(Option Addr×Nat)=> .agg #[.slice h.1 r.1.cells.length h.2,.bool r.1.wrapped]) (λh=>[Ch.box N0 237 [.string r.2.s,.int .i64 r.2.e]]) (λh=>[Im.sl aS h.1 h.2 r.1.cells]):=by
 delta gL at H
 refine Cf Go.Proofs.Tryz.func113 λK=> ?_
 refine Z1 ?_
 refine Ll λg1=> ?_
 refine Z1 ?_
 have ⟨r2,h3,H4⟩:=bnd H
 refine Lk [1] [] (dD h3) λ⟨⟩=> ?_
 refine Z2 ?_
 have ⟨x,y,z⟩:=bnd H4
 refine Tj0 [] [0,1,4,5] [Ch.box N0 237 [.string x.s,.int .i64 x.e]] [1] ?_ ?_
 ·refine Tb y (λj=> ?_) λj=> ?_
  ·refine Z0 ?_
   have ⟨al,B,C⟩:=bnd j
   refine Lk [0] [] (dZ B) λ⟨⟩=> ?_
   refine Z0 ?_
   cases C
   exact Eg0 [0,0] 0
  refine Z0 ?_
  cases j
  exact Eg0 [0,0] 0
 refine Y2 ?_
 have ⟨d,F,I⟩:=bnd z
 refine Tjh (η:=(Option Addr×Nat)) (λh=>(λg i=>[(6,.slice g d.1.length i)]) h.1 h.2) [0,4,5] (λh=>(λg i=>[Ch.arr aS 127 g i d.1,Ch.box N0 237 [.string d.2.s,.int .i64 d.2.e]]) h.1 h.2) [1] (λ_=>[]) ?_ ?_
 ·refine Yl0 ?_
  refine T.gC aS 127 ?_
  refine Tq (η:=(Option Addr×Nat)) (λa h=>(λb c=>[(6,.slice b a.2.length c)]) h.1 h.2) [0,1,4,5] (λa h=>(λb c=>[Ch.arr aS 127 b c a.2,Ch.box N0 237 [.string a.1.s,.int .i64 a.1.e]]) h.1 h.2) [2] (λ_ _=>[]) (none,0) [0,0,0] [] F ?_
  rintro k_ a ⟨b,c⟩ am J k M
  refine Y2 ?_
  have ⟨N,O,P⟩:=bnd J
  refine Tj0 [(24,.bool N)] [0,1,4,5,6] [] [1,2,0] ?_ ?_
  ·refine Z0 ?_
   refine Lw 20 O (λl=> ?_) λl=> ?_
   ·refine Z0 ?_
    have ⟨an,Q,R⟩:=bnd l
    refine Lk [1] [] (jE Q) λ⟨⟩=> ?_
    refine Z0 ?_
    cases R
    exact Eg0 [0,1,0] 0
   refine Z0 ?_
   cases l
   exact Eg0 [1,1,0] 0
  refine Tb P (λm=> ?_) λm=> ?_
  ·refine Zl ?_
   refine Z1 ?_
   have ⟨S,U,V⟩:=bnd m
   refine Lk [0] [] (vX U) λ⟨⟩=> ?_
   refine Z0 ?_
   refine Ll λao=> ?_
   refine Z0 ?_
   refine Lt 0 ?_
   refine Zl ?_
   refine Z1 ?_
   refine Tb V (λn=> ?_) λn=> ?_
   ·refine Z0 ?_
    cases n
    exact Eg (_,(b,c)) (k _ rfl) [3,1,1] [] 0
   refine Y1 ?_
   have ⟨W,X,Y⟩:=bnd n
   refine Tj0 [(44,.bool W)] [0,1,4,5,6,7,8] [] [0,1,2,3] ?_ ?_
   ·refine Td [] [0,0,0,0] mo ?_
    refine Dq 0 ?_
    refine Dq 1 ?_
    refine Dq 2 ?_
    refine Dq 3 ?_
    refine D.cs 48 X rfl (λhc o=> ?_) (λhc o=> ?_)
    ·refine Dq 4 ?_
     refine Dq 5 ?_
     refine Dq 6 ?_
     refine Dq 7 ?_
     have ⟨p,q,Z⟩:=bnd o
     refine D.iG 3 rfl (bH q) λaq aa=> ?_
     subst aa
     refine Dy 8 (Yl.ia q rfl rfl rfl rfl rfl rfl) ?_
     refine Dy 9 (Yl.lo (v:= .agg #[.int .i32 p.rune,.int .i64 p.aM,.int .i64 p.part]) 3 ((IntKind.i64.wrap ((a.2.length:Int) - 1)).toNat) 0 (aJ q).2 rfl rfl rfl rfl (λ_=>rfl)) ?_
     refine Db 10 0 ?_
     refine Dq 11 ?_
     refine Dq 12 ?_
     refine Dq 13 ?_
     refine Dn ?_
     cases Z
     exact Eg0 [0,0,0,0] 0
    refine Ds 4 ?_
    refine Ds 5 ?_
    refine Ds 6 ?_
    refine Ds 7 ?_
    refine Ds 8 ?_
    refine Ds 9 ?_
    refine Ds 10 ?_
    refine Ds 11 ?_
    refine Dq 12 ?_
    refine Dq 13 ?_
    refine Dn ?_
    cases o
    exact Eg0 [0,0,0,0] 0
   refine Tb Y (λt=> ?_) λt=> ?_
   ·refine Z0 ?_
    have ⟨ar,ab,ac⟩:=bnd t
    refine Lk [1] [] (dZ ab) λ⟨⟩=> ?_
    refine Z0 ?_
    cases ac
    exact Eg (_,(b,c)) (k _ rfl) [3,0,1] [] 0
   refine Z0 ?_
   refine La [] [] (Ac.bs (ty:=aS) (xs:=[S.2.1]) (.cons () [] rfl .nil) rfl rfl rfl rfl rfl rfl rfl) λau=> ?_
   refine Z0 ?_
   refine L.frz 0 rfl ?_
   have ⟨av,ad,ae⟩:=bnd t
   refine Lk [] [0] (iN ad) λ⟨aw,ax⟩=> ?_
   refine L.frz 0 rfl ?_
   have ⟨_,af,ag⟩:=bnd ae
   refine La [3] [0] (Ac.ap (ty:=aS) af rfl rfl rfl rfl rfl rfl rfl) ?_
   rintro ⟨ah,ai⟩
   refine Z0 ?_
   cases ag
   exact Eg (_,(ah,ai)) (k _ rfl) [0,1,1] [] 2
  refine Z0 ?_
  cases m
  have hb:=M _ rfl
  subst d
  exact Eg (b,c) trivial [2,0,0] [] 0
 rintro ⟨g,i⟩
 refine Z2 ?_
 have ⟨ay,aj,ak⟩:=bnd I
 refine Lk [1] [] (jE aj) λ⟨⟩=> ?_
 refine Z0 ?_
 refine Tb ak (λu=> ?_) λu=> ?_
 ·refine Z1 ?_
  refine Lt 2 ?_
  refine Z0 ?_
  refine E.dC [Im.sl aS none 0 []] (λA w _ _ f hf=>by rw [List.mem_singleton.1 hf]; exact Im.bS A w) ?_
  cases u
  exact Eo (none,0) [1] [0] (.cell 0 rfl rfl rfl .nil)
 refine Z1 ?_
 refine Lt 2 ?_
 refine Z0 ?_
 refine E.frz 2 rfl ?_
 cases u
 exact Eo (g,i) [1] [0] (.cell 0 rfl rfl rfl .nil)
end Go.Tw.X
namespace Go.Tw.X
open Go Go.Tw
variable {A0 A1 A2 A3 A4 A5 A6 A7 A8 : Option Addr} {C0 C1 C2 C3 C4 C5 C6 C7 C8 : Nat}
variable {N0 N1 N2 N3 N4 : Nat}
variable {M0 : Option Nat}
theorem tv {in_:aI} {r:Int} (H:jj in_=some r):CT G 114 [.pointer (some ⟨N0,0,none⟩)] [Ch.box N0 237 [.string in_.s,.int .i64 in_.e]] [] (λ_:Unit=> .int .i64 r) (λh=>[Ch.box N0 237 [.string in_.s,.int .i64 in_.e]]) (λh=>[]):=by
 delta jj at H
 refine Cf Go.Proofs.Tryz.func114 λK=> ?_
 refine Z3 ?_
 refine Tb H (λH2=> ?_) λH2=> ?_
 ·refine Z1 ?_
  cases H2
  exact Eo1 () [0] []
 refine Z1 ?_
 cases H2
 exact Eo1 () [0] []
theorem tw {s_:ByteArray} {r:aZ×Int} (H:jr s_=some r):CT G 67 [.string s_] [] [] (λh:(Option Addr×Nat)×Option Nat=> .tuple #[.agg (uD r.1 none 0 h.1.1 h.1.2 h.2).toArray,.int .i64 r.2]) (λh=>[Ch.mp aD true h.2 r.1.rows]) (λh=>[Im.sl aD none 0 r.1.to.rows,Im.sl aB h.1.1 h.1.2 r.1.to.begun]):=by
 delta jr at H
 refine Cf Go.Proofs.Tryz.func67 λK=> ?_
 refine Z1 ?_
 refine Ll λg1=> ?_
 refine Z1 ?_
 have ⟨r2,h3,H4⟩:=bnd H
 refine Lk [] [] (Aj h3) λg5=> ?_
 refine Z1 ?_
 have ⟨r6,h7,H8⟩:=bnd H4
 refine Lk [0] [] (dD h7) λ⟨⟩=> ?_
 refine La [] [] (Ac.mkm (ty:=aD) (ag:=true) rfl rfl rfl) λg9=> ?_
 refine Z0 ?_
 refine Ll λn=> ?_
 refine Lt 0 ?_
 refine Z1 ?_
 have ⟨a1,p,q⟩:=bnd H8
 refine Lk [2] [] (dD p) λ⟨⟩=> ?_
 refine Z0 ?_
 have ⟨a2,t,u⟩:=bnd q
 refine Lk [0] [] (oM t) λ⟨⟩=> ?_
 refine Z0 ?_
 have ⟨a3,v,x⟩:=bnd u
 refine Lk [0] [] (oM v) λ⟨⟩=> ?_
 refine Z0 ?_
 have ⟨a4,y,z⟩:=bnd x
 refine Lk [0] [] (dD y) λ⟨⟩=> ?_
 refine Z0 ?_
 have ⟨a5,B,C⟩:=bnd z
 refine Lk [0] [] (dD B) λ⟨⟩=> ?_
 refine Z0 ?_
 have ⟨a6,F,I⟩:=bnd C
 refine Lk [0] [] (rm F) λ⟨⟩=> ?_
 refine Z0 ?_
 have ⟨a7,J,M⟩:=bnd I
 refine Lk [0] [] (dD J) λ⟨⟩=> ?_
 refine Z0 ?_
 have ⟨a8,N,O⟩:=bnd M
 refine Lk [0] [] (dD N) λ⟨⟩=> ?_
 refine Z0 ?_
 have ⟨a9,P,Q⟩:=bnd O
 refine Lk [0] [] (uK P) λ⟨d,g⟩=> ?_
 refine Z0 ?_
 refine Lt 2 ?_
 refine Z3 ?_
 have ⟨ba,R,S⟩:=bnd Q
 refine Lk [2] [] (dD R) λ⟨⟩=> ?_
 refine Z0 ?_
 have ⟨b,U,V⟩:=bnd S
 refine Tjh (η:=Option Nat) (λ_=>[]) [2,4,5] (λh=>(λi=>[Ch.arr aB 121 d g b.2.to.begun,Ch.mp aD true i b.2.rows,Ch.box g5 237 [.string b.1.s,.int .i64 b.1.e],Ch.box n 158 (w9 b.2 d g i)]) h) [4] (λ_=>[]) ?_ ?_
 ·refine Yl0 ?_
  refine Tq (η:=Option Nat) (λa h=>(λc=>[(6,.int .i64 a.2.2.1),(7,.int .i64 a.2.2.2)]) h) [2,4,5] (λa h=>(λc=>[Ch.arr aB 121 d g a.1.to.begun,Ch.mp aD true c a.1.rows,Ch.box g5 237 [.string a.2.1.s,.int .i64 a.2.1.e],Ch.box n 158 (w9 a.1 d g c)]) h) [4] (λ_ _=>[]) (some g9) [2,2,0,0,0] [] U ?_
  rintro k_ a c bb W X Y
  refine Y2 ?_
  have ⟨Z,aa,ac⟩:=bnd W
  refine Tj0 [(43,.bool Z)] [2,4,5,6,7] [] [2,3,4,0,1] ?_ ?_
  ·refine Z0 ?_
   refine Lw 39 aa (λj=> ?_) λj=> ?_
   ·refine Z0 ?_
    have ⟨bc,ad,ae⟩:=bnd j
    refine Lk [2] [] (jE ad) λ⟨⟩=> ?_
    refine Z0 ?_
    cases ae
    exact Eg0 [0,2,2,0,0] 0
   refine Z0 ?_
   cases j
   exact Eg0 [2,2,2,0,0] 0
  refine Tb ac (λk=> ?_) λk=> ?_
  ·refine Z1 ?_
   refine Zl ?_
   refine Z1 ?_
   have ⟨af,ah,ai⟩:=bnd k
   refine Lk [0] [] (dD ah) λ⟨⟩=> ?_
   refine Y2 ?_
   have ⟨aj,ak,al⟩:=bnd ai
   refine Tj0 [(57,.bool aj)] [2,4,5,7,8] [] [0,1,2,3,4] ?_ ?_
   ·refine Z0 ?_
    refine Lw 51 ak (λl=> ?_) λl=> ?_
    ·refine Z0 ?_
     cases l
     exact Eg0 [0,0,0,0,0] 0
    refine Z0 ?_
    cases l
    exact Eg0 [0,0,0,0,0] 0
   have ⟨o,am,an⟩:=bnd al
   refine Tj0 [] [2,4,5,7,8] [Ch.box g5 237 [.string o.s,.int .i64 o.e]] [1,2,3,4] ?_ ?_
   ·refine Tb am (λm=> ?_) λm=> ?_
    ·refine Z0 ?_
     have ⟨bd,ao,ap⟩:=bnd m
     refine Lk [0] [] (dZ ao) λ⟨⟩=> ?_
     refine Z0 ?_
     cases ap
     exact Eg0 [0,0,0,0,0] 0
    refine Z0 ?_
    cases m
    exact Eg0 [0,0,0,0,0] 0
   refine Z1 ?_
   refine Td [] [1,1,1] mo ?_
   refine Dq 0 ?_
   refine Db 1 0 ?_
   refine Dq 2 ?_
   refine Dq 3 ?_
   refine Dq 4 ?_
   refine Dq 5 ?_
   refine Db 6 0 ?_
   have ⟨aq,ar,au⟩:=bnd an
   refine Dk [0] [] (qT ar) λ⟨av,aw⟩=> ?_
   have ⟨_,ax,ay⟩:=bnd au
   refine Da [1] [0] rfl rfl (Ac.mu (ty:=aD) (ag:=true) af.1 aq.1 (av,aw) ax (.inl rfl) rfl rfl rfl rfl rfl rfl rfl rfl) λ_=> ?_
   refine Dn ?_
   refine Z0 ?_
   cases ay
   exact Eg (_,c) (X _ rfl) [2,2,2,0,0] [] 1
  refine Z0 ?_
  cases k
  have hb:=Y _ rfl
  subst b
  exact Eg c trivial [3,3,0,0,0] [] 0
 rintro i
 refine Y1 ?_
 refine Td [3] [0,0,0,0,0] mo ?_
 refine Db 0 3 ?_
 refine Dq 1 ?_
 have ⟨be,az,a0⟩:=bnd V
 refine D.one rfl rfl rfl (Dp.ab [2] [] [1,1,0,0,0] (Ac.call (tv az) rfl rfl rfl rfl) rfl rfl rfl rfl rfl rfl (λ_=>rfl) ?_)
 rintro ⟨⟩
 refine Dt 4 ?_
 refine Dq 4 ?_
 refine Dn ?_
 refine Z0 ?_
 refine E.dC [Im.sl aD none 0 []] (λA w _ _ f hf=>by rw [List.mem_singleton.1 hf]; exact Im.bS A w) ?_
 refine E.frz 1 rfl ?_
 cases a0
 exact Eo ((d,g),i) [1] [1,0] (.cell 0 rfl rfl rfl (.tmp rfl .nil))
theorem nq {p:aZ} {a:aC} {r:Bool×aZ} (H:dP p a=some r):CT G 69 [.pointer (some ⟨N0,0,none⟩),.agg (gO a A2 C2 A3 C3).toArray] [Ch.box N0 158 (uD p A0 C0 A1 C1 M0),Ch.arr aD 116 A0 C0 p.to.rows,Ch.mp aD true M0 p.rows] [Im.sl aB A1 C1 p.to.begun,Im.sl aD A2 C2 a.rows,Im.sl aB A3 C3 a.begun] (λh:(Option Addr×Nat)=> .bool r.1) (λh=>[Ch.box N0 158 (uD r.2 h.1 h.2 A1 C1 M0),Ch.mp aD true M0 r.2.rows]) (λh=>[Im.sl aD h.1 h.2 r.2.to.rows,Im.sl aB A1 C1 r.2.to.begun]):=by
 delta dP at H
 refine Cf Go.Proofs.Tryz.func69 λK=> ?_
 refine Z1 ?_
 refine Lx λg1=> ?_
 refine Z2 ?_
 have ⟨m,C,y⟩:=bnd H
 refine Tj (η:=aZ×((Option Addr×Nat))) (λh=>m = .inl h.1) (λ_=>[]) [0] (λh=>(λe=>(λi j=>[Ch.arr aD 116 i j e.to.rows,Ch.mp aD true M0 e.rows,Ch.box N0 158 (uD e i j A1 C1 M0)]) h.2.1 h.2.2) h.1) [0] (λh=>(λe=>(λi j=>[Im.sl aB A1 C1 e.to.begun]) h.2.1 h.2.2) h.1) ?_ ?_
 ·refine Yl0 ?_
  refine Tq (η:=(Option Addr×Nat)) (λb h=>(λc d=>[(15,.int .i64 b.2)]) h.1 h.2) [0,3,14] (λb h=>(λc d=>[Ch.arr aD 116 c d b.1.to.rows,Ch.mp aD true M0 b.1.rows,Ch.box N0 158 (uD b.1 c d A1 C1 M0)]) h.1 h.2) [0] (λb h=>(λc d=>[Im.sl aB A1 C1 b.1.to.begun]) h.1 h.2) (A0,C0) [2,2,1,0] [0] C ?_
  rintro k_ b ⟨c,d⟩ F I J z
  refine Y2 ?_
  refine Tb I (λn=> ?_) λn=> ?_
  ·refine Z1 ?_
   refine Zl ?_
   refine Z2 ?_
   have ⟨ak,M,N⟩:=bnd n
   refine Lk [] [2,3] (ny M) λ⟨O,P⟩=> ?_
   refine Z0 ?_
   refine Ll λal=> ?_
   refine Lt 0 ?_
   refine Z1 ?_
   refine La [2] [] (Ac.ml (ty:=aD) (ag:=true) (vv:=(λh:(Option Addr×Nat)=>(λo q=> .agg #[.slice o ((mgd b.1.rows b.2 (aE.mk ([]:List aF) false)).cells).length q,.bool ((mgd b.1.rows b.2 (aE.mk ([]:List aF) false)).wrapped)]) h.1 h.2)) b.2 (aE.mk ([]:List aF) false) (none,0) rfl rfl rfl rfl rfl rfl rfl rfl rfl (λ_ _ f hf=>by rw [List.mem_singleton.1 hf]; exact Im.bS _ _) BV (λ_=>rfl)) ?_
   rintro ⟨o,q⟩
   refine Z0 ?_
   refine Ll λQ=> ?_
   refine Lt 0 ?_
   refine Y1 ?_
   have ⟨A,R,B⟩:=bnd N
   refine Tj (η:=aE×((Option Addr×Nat))) (λh=>A = .inl h.1) (λ_=>[]) [0,3,8,14,15] (λh=>(λg=>(λk l=>[Ch.box Q 116 [.slice k g.cells.length l,.bool g.wrapped]]) h.2.1 h.2.2) h.1) [2,4,5,1,3] (λh=>(λg=>(λk l=>[Im.sl aS k l g.cells]) h.2.1 h.2.2) h.1) ?_ ?_
   ·refine Zl ?_
    refine Y2 ?_
    have ⟨S,U,V⟩:=bnd R
    refine Tj0 [(33,.bool S)] [0,3,6,7,8,9,14,15] [] [0,2,4,5,1,3] ?_ ?_
    ·refine Z0 ?_
     refine Lw 35 U (λs=> ?_) λs=> ?_
     ·refine Z0 ?_
      refine Lw 38 s (λt=> ?_) λt=> ?_
      ·refine Z0 ?_
       have ⟨am,W,X⟩:=bnd t
       refine Lk [] [1,0] (kO W) λ⟨⟩=> ?_
       refine Z0 ?_
       cases X
       exact Eg0 [0,1,2,2,0,0] 0
      refine Z0 ?_
      cases t
      exact Eg0 [0,1,2,2,0,0] 0
     refine Z0 ?_
     cases s
     exact Eg0 [0,1,2,2,0,0] 0
    have ⟨Y,Z,aa⟩:=bnd V
    refine Tj0 [(33,.bool Y)] [0,3,6,8,9,14,15] [] [0,1,2,3,4,5] ?_ ?_
    ·refine Tb Z (λu=> ?_) λu=> ?_
     ·refine Z0 ?_
      cases u
      exact Eg0 [0,0,0,0,0,0] 0
     refine Z0 ?_
     refine Lw 45 u (λv=> ?_) λv=> ?_
     ·refine Z0 ?_
      cases v
      exact Eg0 [0,0,0,0,0,0] 0
     refine Z0 ?_
     cases v
     exact Eg0 [0,0,0,0,0,0] 0
    refine Tb aa (λw=> ?_) λw=> ?_
    ·refine Z1 ?_
     obtain ⟨an,hz,ab⟩:=gH w
     subst A
     obtain rfl:=(sm B).symm
     refine Z0 ?_
     obtain ⟨ao,hz,ac⟩:=bQ ab
     subst F
     have hb:=z _ rfl
     subst m
     obtain rfl:=(sm y).symm
     refine Z0 ?_
     refine E.frz 5 rfl ?_
     cases ac
     exact Eo1 (c,d) [2,3] [0,3]
    refine Z1 ?_
    refine Tb w (λx=> ?_) λx=> ?_
    ·refine Z0 ?_
     refine Lt 0 ?_
     refine Z0 ?_
     cases x
     exact Eg (_,(O,P)) rfl [0,0,0,0,0,0] [1] 0
    refine Z0 ?_
    cases x
    exact Eg (_,(o,q)) rfl [0,0,0,0,0,0] [0] 0
   rintro ⟨g,⟨k,l⟩⟩ hy
   subst hy
   refine Td [12] [0,0,0,0,0] mo ?_
   refine Dq 0 ?_
   refine Dq 1 ?_
   refine Dq 2 ?_
   refine Dq 3 ?_
   refine Dq 4 ?_
   refine Db 5 2 ?_
   refine Db 6 0 ?_
   refine Da [] [0] rfl rfl (Ac.bs (ty:=aD) (xs:=[g]) (.cons (k,l) [0] rfl .nil) rfl rfl rfl rfl rfl rfl rfl) λaq=> ?_
   refine D.frz 0 rfl ?_
   have ⟨_,ad,ae⟩:=bnd B
   refine Da [0] [0] rfl rfl (Ac.ap (ty:=aD) ad rfl rfl rfl rfl rfl rfl rfl) ?_
   rintro ⟨af,ah⟩
   refine Dq 9 ?_
   refine Dq 10 ?_
   refine Dq 11 ?_
   refine Dt 2 ?_
   refine Dn ?_
   refine Z0 ?_
   cases ae
   exact Eg (_,(af,ah)) (J _ rfl) [5,4,0,2] [4] 5
  refine Z0 ?_
  cases n
  have hb:=z _ rfl
  subst m
  exact Eg (_,(c,d)) rfl [0,0,0,0] [0] 1
 rintro ⟨e,⟨i,j⟩⟩ hy
 subst hy
 refine Z1 ?_
 refine L.frz 0 rfl ?_
 have ⟨ar,ai,aj⟩:=bnd y
 refine Lk [] [0,1] (pE ai) λ⟨⟩=> ?_
 refine Z0 ?_
 cases aj
 exact Eo1 (i,j) [1,0] [0,1]
theorem rn {a:aC} {s_:ByteArray} {r:aC×Int} (H:ib a s_=some r):CT G 31 [.agg (gO a A0 C0 A1 C1).toArray,.string s_] [] [Im.sl aD A0 C0 a.rows,Im.sl aB A1 C1 a.begun,Im.sl (Ty.int .u32) (some ⟨0,0,none⟩) 16 cT] (λh:(Option Addr×Nat)×(Option Addr×Nat)=> .tuple #[.agg (gO r.1 h.1.1 h.1.2 h.2.1 h.2.2).toArray,.int .i64 r.2]) (λh=>[]) (λh=>[Im.sl aD h.1.1 h.1.2 r.1.rows,Im.sl aB h.2.1 h.2.2 r.1.begun]):=by
 delta ib at H
 refine Cf Go.Proofs.Tryz.func31 λK=> ?_
 refine Z1 ?_
 refine Lx λg1=> ?_
 refine Ll λg2=> ?_
 refine Z2 ?_
 have ⟨r3,h4,H5⟩:=bnd H
 refine Lk [] [0,1] (ij h4) λ⟨⟩=> ?_
 refine Z0 ?_
 refine Tb H5 (λH7=> ?_) λH7=> ?_
 ·refine Z1 ?_
  refine Lt 0 ?_
  refine Z0 ?_
  refine E.dC [Im.sl aD none 0 []] (λA w _ _ f hf=>by rw [List.mem_singleton.1 hf]; exact Im.bS A w) ?_
  refine E.dC [Im.sl aB none 0 []] (λA w _ _ f hf=>by rw [List.mem_singleton.1 hf]; exact Im.bS A w) ?_
  cases H7
  exact Eo ((none,0),(none,0)) [] [1,0] (.cell 0 rfl rfl rfl (.tmp rfl .nil))
 refine Z1 ?_
 have ⟨t,e,g⟩:=bnd H7
 refine Lk [] [] (tw e) λ⟨⟨u,v⟩,x⟩=> ?_
 refine Z0 ?_
 refine Ll λy=> ?_
 refine Lt 0 ?_
 refine Z1 ?_
 refine Zl ?_
 refine Z1 ?_
 refine Tb g (λb=> ?_) λb=> ?_
 ·refine Z1 ?_
  refine Lt 2 ?_
  refine Z0 ?_
  refine E.dC [Im.sl aD none 0 []] (λA w _ _ f hf=>by rw [List.mem_singleton.1 hf]; exact Im.bS A w) ?_
  refine E.dC [Im.sl aB none 0 []] (λA w _ _ f hf=>by rw [List.mem_singleton.1 hf]; exact Im.bS A w) ?_
  cases b
  exact Eo ((none,0),(none,0)) [] [1,0] (.cell 0 rfl rfl rfl (.tmp rfl .nil))
 refine Y1 ?_
 refine Td [] [0,0,0,0] mo ?_
 refine Dq 0 ?_
 refine Db 1 0 ?_
 refine Db 2 3 ?_
 have ⟨z,i,j⟩:=bnd b
 refine Dk [] [2,3,4] (mg i) λ⟨⟩=> ?_
 refine Dq 4 ?_
 refine Dq 5 ?_
 refine Dn ?_
 refine Z0 ?_
 refine Tb j (λc=> ?_) λc=> ?_
 ·refine Z1 ?_
  refine Lt 2 ?_
  refine Z0 ?_
  refine E.dC [Im.sl aD none 0 []] (λA w _ _ f hf=>by rw [List.mem_singleton.1 hf]; exact Im.bS A w) ?_
  refine E.dC [Im.sl aB none 0 []] (λA w _ _ f hf=>by rw [List.mem_singleton.1 hf]; exact Im.bS A w) ?_
  cases c
  exact Eo ((none,0),(none,0)) [] [1,0] (.cell 0 rfl rfl rfl (.tmp rfl .nil))
 refine Z1 ?_
 refine L.Cu 0 116 rfl ?_
 have ⟨B,k,l⟩:=bnd c
 refine Lk [1,0,0] [1,2,3] (nq k) λ⟨C,F⟩=> ?_
 refine Z0 ?_
 refine Tb l (λd=> ?_) λd=> ?_
 ·refine Z1 ?_
  refine Lt 2 ?_
  refine Z0 ?_
  refine E.dC [Im.sl aD none 0 []] (λA w _ _ f hf=>by rw [List.mem_singleton.1 hf]; exact Im.bS A w) ?_
  refine E.dC [Im.sl aB none 0 []] (λA w _ _ f hf=>by rw [List.mem_singleton.1 hf]; exact Im.bS A w) ?_
  cases d
  exact Eo ((none,0),(none,0)) [] [1,0] (.cell 0 rfl rfl rfl (.tmp rfl .nil))
 refine Z1 ?_
 have ⟨I,m,n⟩:=bnd d
 refine Lk [] [0,1] (ik m) λ⟨⟨o,p⟩,⟨q,s⟩⟩=> ?_
 refine Lt 2 ?_
 refine Z0 ?_
 cases n
 exact Eo ((o,p),(q,s)) [] [0,1] (.cell 0 rfl rfl rfl (.tmp rfl .nil))
theorem kR {t_:aK} {g:bY} {r:Int×aK} (H:dA t_ g=some r):CT G 9 [.pointer (some ⟨N0,0,none⟩),.agg (th g A2 C2).toArray] [Ch.box N0 71 (km t_ N1 A0 C0 A1 C1),Ch.box N1 69 (fr t_.slot M0),Ch.mp Ty.str false M0 t_.slot.parts] [Im.sl aD A0 C0 t_.aO.rows,Im.sl aB A1 C1 t_.aO.begun,Im.sl (Ty.int .i64) A2 C2 g.bW,Im.sl (Ty.int .u32) (some ⟨0,0,none⟩) 16 cT] (λh:Option Nat×(Option Addr×Nat)×(Option Addr×Nat)=> .int .i64 r.1) (λh=>[Ch.box N0 71 (km r.2 N1 h.2.1.1 h.2.1.2 h.2.2.1 h.2.2.2),Ch.box N1 69 (fr r.2.slot h.1),Ch.mp Ty.str false h.1 r.2.slot.parts]) (λh=>[Im.sl aD h.2.1.1 h.2.1.2 r.2.aO.rows,Im.sl aB h.2.2.1 h.2.2.2 r.2.aO.begun]):=by
 delta dA at H
 refine Cf Go.Proofs.Tryz.func9 λK=> ?_
 refine Z1 ?_
 refine Lx λg1=> ?_
 refine Z2 ?_
 have ⟨r2,h3,H4⟩:=bnd H
 refine Lk [1,1,1] [0,1,2] (nk h3) λv5=> ?_
 refine Z1 ?_
 refine Tb H4 (λl=> ?_) λl=> ?_
 ·refine Z1 ?_
  cases l
  exact Eo1 (v5,(A0,C0),(A1,C1)) [0,0,0] [0,1]
 refine Z1 ?_
 have ⟨ae,x,y⟩:=bnd l
 refine Lk [1,1] [] (nU x) λ⟨⟩=> ?_
 refine Z2 ?_
 refine Tb y (λm=> ?_) λm=> ?_
 ·refine Z1 ?_
  cases m
  exact Eo1 (v5,(A0,C0),(A1,C1)) [2,0,0] [0,1]
 refine Z1 ?_
 have ⟨af,z,B⟩:=bnd m
 refine Lk [0,0] [] (nm z) λC=> ?_
 refine Z1 ?_
 refine Ll λF=> ?_
 refine Z2 ?_
 have ⟨ag,n,I⟩:=bnd B
 refine L.addr 4 rfl (bH n) λah ai J=> ?_
 subst J
 refine Ly (Yl.ia n rfl rfl rfl rfl rfl rfl) ?_
 refine L.el 4 rfl (aJ n).2 ?_
 rintro _
 refine Lc 0 0 ?_
 refine Z0 ?_
 have ⟨o,M,N⟩:=bnd I
 refine Tjh (η:=(Option Addr×Nat)×(Option Addr×Nat)) (λ_=>[]) [0,3,6,8] (λh=>(λe i j k=>[Ch.box F 59 (gO o e i j k)]) h.1.1 h.1.2 h.2.1 h.2.2) [1,3,4,2] (λh=>(λe i j k=>[Im.sl aD e i o.rows,Im.sl aB j k o.begun]) h.1.1 h.1.2 h.2.1 h.2.2) ?_ ?_
 ·refine Tb M (λp=> ?_) λp=> ?_
  ·refine Z0 ?_
   refine Lt 0 ?_
   refine Z0 ?_
   cases p
   exact Eg ((A0,C0),(A1,C1)) trivial [0,0,1,1,0] [1,2] 0
  refine Z0 ?_
  refine E.dC [Im.sl aD none 0 []] (λA w _ _ f hf=>by rw [List.mem_singleton.1 hf]; exact Im.bS A w) ?_
  refine E.dC [Im.sl aB none 0 []] (λA w _ _ f hf=>by rw [List.mem_singleton.1 hf]; exact Im.bS A w) ?_
  cases p
  exact Eg ((none,0),(none,0)) trivial [0,0,1,1,0] [1,0] 2
 rintro ⟨⟨e,i⟩,⟨j,k⟩⟩
 refine Z1 ?_
 have ⟨aj,O,P⟩:=bnd N
 refine Lk [] [0,1,8] (rn O) λ⟨⟨Q,R⟩,⟨S,U⟩⟩=> ?_
 refine Z0 ?_
 refine Ll λak=> ?_
 refine Lt 0 ?_
 refine Y2 ?_
 have ⟨V,W,X⟩:=bnd P
 refine Tj0 [(57,.bool V)] [0,9,10] [] [0,1,2,3,4,5] ?_ ?_
 ·refine Td [] [0,0,0,0,0,0] mo ?_
  refine Dq 0 ?_
  refine Dq 1 ?_
  refine Dq 2 ?_
  refine D.cs 49 W rfl (λhc q=> ?_) (λhc q=> ?_)
  ·refine Dq 3 ?_
   refine Db 4 0 ?_
   refine Dq 5 ?_
   refine Db 6 4 ?_
   have ⟨al,v,Y⟩:=bnd q
   refine Dy 7 (Yl.ia v rfl rfl rfl rfl rfl rfl) ?_
   refine D.el 9 rfl (aJ v).2 ?_
   rintro _
   refine Dy 8 (Yl.ldc 0 0 rfl rfl rfl rfl) ?_
   refine Dq 9 ?_
   refine Dq 10 ?_
   refine Dn ?_
   cases Y
   exact Eg0 [0,0,0,0,0,0] 1
  refine Ds 3 ?_
  refine Ds 4 ?_
  refine Ds 5 ?_
  refine Ds 6 ?_
  refine Ds 7 ?_
  refine Ds 8 ?_
  refine Ds 9 ?_
  refine Dq 10 ?_
  refine Dn ?_
  cases q
  exact Eg0 [0,0,0,0,0,0] 0
 have ⟨Z,aa,ab⟩:=bnd X
 refine Tj0 [(10,.int .i64 Z)] [0,9] [] [0,1,2,3,4,5] ?_ ?_
 ·refine Tb aa (λs=> ?_) λs=> ?_
  ·refine Z0 ?_
   cases s
   exact Eg0 [0,0,0,0,0,0] 0
  refine Z0 ?_
  cases s
  exact Eg0 [0,0,0,0,0,0] 0
 refine Z2 ?_
 have ⟨t,ac,ad⟩:=bnd ab
 refine Tjh (η:=(Option Addr×Nat)×(Option Addr×Nat)) (λ_=>[]) [10] (λh=>(λa b c d=>[Ch.box N0 71 (km t N1 a b c d)]) h.1.1 h.1.2 h.2.1 h.2.2) [0,1,2,4,5] (λh=>(λa b c d=>[Im.sl aD a b t.aO.rows,Im.sl aB c d t.aO.begun]) h.1.1 h.1.2 h.2.1 h.2.2) ?_ ?_
 ·refine Tb ac (λu=> ?_) λu=> ?_
  ·refine Z0 ?_
   refine Lt 3 ?_
   refine Z0 ?_
   cases u
   exact Eg ((Q,R),(S,U)) trivial [0,0,0,0,0,0] [0,1] 0
  refine Z0 ?_
  cases u
  exact Eg ((A0,C0),(A1,C1)) trivial [3,0,0,0,0,0] [5,6] 0
 rintro ⟨⟨a,b⟩,⟨c,d⟩⟩
 refine Z1 ?_
 cases ad
 exact Eo1 (C,(a,b),(c,d)) [0,2,3] [0,1]
theorem mj {t_:aK} {r:Int} (H:fX t_=some r):CT G 17 [.pointer (some ⟨N0,0,none⟩)] [Ch.box N0 71 (km t_ N1 A0 C0 A1 C1),Ch.box N1 69 (fr t_.slot M0),Ch.mp Ty.str false M0 t_.slot.parts] [Im.sl aD A0 C0 t_.aO.rows,Im.sl aB A1 C1 t_.aO.begun] (λ_:Unit=> .int .i64 r) (λh=>[Ch.box N0 71 (km t_ N1 A0 C0 A1 C1),Ch.box N1 69 (fr t_.slot M0),Ch.mp Ty.str false M0 t_.slot.parts]) (λh=>[]):=by
 delta fX at H
 refine Cf Go.Proofs.Tryz.func17 λK=> ?_
 refine Z2 ?_
 cases H
 exact Eo1 () [0,0,0] []
theorem kS {t_:aK} {r:aC} (H:dM t_=some r):CT G 18 [.pointer (some ⟨N0,0,none⟩)] [Ch.box N0 71 (km t_ N1 A0 C0 A1 C1),Ch.box N1 69 (fr t_.slot M0),Ch.mp Ty.str false M0 t_.slot.parts] [Im.sl aD A0 C0 t_.aO.rows,Im.sl aB A1 C1 t_.aO.begun] (λh:(Option Addr×Nat)×(Option Addr×Nat)=> .agg (gO r h.1.1 h.1.2 h.2.1 h.2.2).toArray) (λh=>[Ch.box N0 71 (km t_ N1 A0 C0 A1 C1),Ch.box N1 69 (fr t_.slot M0),Ch.mp Ty.str false M0 t_.slot.parts]) (λh=>[Im.sl aD h.1.1 h.1.2 r.rows,Im.sl aB h.2.1 h.2.2 r.begun]):=by
 delta dM at H
 refine Cf Go.Proofs.Tryz.func18 λK=> ?_
 refine Z1 ?_
 refine Ll λg1=> ?_
 refine Z1 ?_
 have ⟨r2,h3,H4⟩:=bnd H
 refine Lk [] [0,1] (ik h3) λ⟨⟨a5,c6⟩,⟨a7,c8⟩⟩=> ?_
 refine Lt 0 ?_
 refine Z0 ?_
 cases H4
 exact Eo ((a5,c6),(a7,c8)) [1,1,1] [0,1] (.cell 0 rfl rfl rfl .nil)
theorem iP {s1_:List aE} {s2_:List aE} {r:Bool} (H:cE s1_ s2_=some r):CT G 45 [.slice A0 s1_.length C0,.slice A1 s2_.length C1,.func (.func 46) #[] #[]] [] [Im.sl aD A0 C0 s1_,Im.sl aD A1 C1 s2_] (λ_:Unit=> .bool r) (λh=>[]) (λh=>[]):=by
 delta cE at H
 refine Cf Go.Proofs.Tryz.func45 λK=> ?_
 refine Z3 ?_
 refine Tb H (λH2=> ?_) λH2=> ?_
 ·refine Z1 ?_
  cases H2
  exact Eo1 () [] []
 refine Z2 ?_
 have ⟨a,j,f⟩:=bnd H2
 refine Tj (η:=Unit×Unit) (λh=>a = .inl h.1) (λ_=>[]) [] (λ_=>[]) [] (λ_=>[]) ?_ ?_
 ·refine Yl0 ?_
  refine Tq (η:=Unit) (λg h=>[(17,.int .i64 g)]) [1,2,15,16] (λ_ _=>[]) [] (λ_ _=>[]) () [] [] j ?_
  rintro k_ g ⟨⟩ k l m i
  refine Y2 ?_
  refine Tb l (λb=> ?_) λb=> ?_
  ·refine Z1 ?_
   refine Zl ?_
   refine Z1 ?_
   have ⟨v,c,n⟩:=bnd b
   refine L.addr 0 rfl (bH c) λw x o=> ?_
   subst o
   refine Ly (Yl.ia c rfl rfl rfl rfl rfl rfl) ?_
   refine L.el 0 rfl (aJ c).2 ?_
   rintro ⟨y,z⟩
   refine Lc 0 0 ?_
   refine Ll λA=> ?_
   refine Z0 ?_
   refine Lt 0 ?_
   refine Z1 ?_
   have ⟨B,d,p⟩:=bnd n
   refine L.addr 3 rfl (bH d) λC F q=> ?_
   subst q
   refine Ly (Yl.ia d rfl rfl rfl rfl rfl rfl) ?_
   refine L.el 3 rfl (aJ d).2 ?_
   rintro ⟨I,J⟩
   refine Lc 0 0 ?_
   refine Ll λM=> ?_
   refine Lt 0 ?_
   refine Z1 ?_
   have ⟨N,s,t⟩:=bnd p
   refine Lk [] [3,1] (kO s) λ⟨⟩=> ?_
   refine Z0 ?_
   refine Tb t (λe=> ?_) λe=> ?_
   ·refine Z1 ?_
    obtain ⟨O,hz,u⟩:=bQ e
    subst k
    have hb:=i _ rfl
    subst a
    obtain rfl:=(sm f).symm
    refine Z0 ?_
    cases u
    exact Eo1 () [] []
   refine Z0 ?_
   cases e
   exact Eg (_,()) (m _ rfl) [] [] 4
  refine Z0 ?_
  cases b
  have hb:=i _ rfl
  subst a
  exact Eg (_,()) rfl [] [] 0
 rintro ⟨P,⟨⟩⟩ hy
 subst hy
 refine Z1 ?_
 cases f
 exact Eo1 () [] []
theorem ly {s1_:List aG} {s2_:List aG} {r:Bool} (H:dV s1_ s2_=some r):CT G 47 [.slice A0 s1_.length C0,.slice A1 s2_.length C1] [] [Im.sl aB A0 C0 s1_,Im.sl aB A1 C1 s2_] (λ_:Unit=> .bool r) (λh=>[]) (λh=>[]):=by
 delta dV at H
 refine Cf Go.Proofs.Tryz.func47 λK=> ?_
 refine Z3 ?_
 refine Tb H (λH2=> ?_) λH2=> ?_
 ·refine Z1 ?_
  cases H2
  exact Eo1 () [] []
 refine Z2 ?_
 have ⟨a,j,f⟩:=bnd H2
 refine Tj (η:=Unit×Unit) (λh=>a = .inl h.1) (λ_=>[]) [] (λ_=>[]) [] (λ_=>[]) ?_ ?_
 ·refine Yl0 ?_
  refine Tq (η:=Unit) (λg h=>[(13,.int .i64 g)]) [0,1,12] (λ_ _=>[]) [] (λ_ _=>[]) () [] [] j ?_
  rintro k_ g ⟨⟩ k l m i
  refine Y2 ?_
  refine Tb l (λb=> ?_) λb=> ?_
  ·refine Z1 ?_
   refine Zl ?_
   refine Y2 ?_
   refine Td [] [] mo ?_
   refine Dq 0 ?_
   refine Dq 1 ?_
   have ⟨t,c,n⟩:=bnd b
   refine D.addr 0 rfl (bH c) λu v o=> ?_
   subst o
   refine Dy 2 (Yl.ia c rfl rfl rfl rfl rfl rfl) ?_
   refine D.el 0 rfl (aJ c).2 ?_
   rintro _
   refine Dy 3 (Yl.ldc 0 0 rfl rfl rfl rfl) ?_
   refine Dq 4 ?_
   refine Dq 5 ?_
   have ⟨w,d,p⟩:=bnd n
   refine D.addr 2 rfl (bH d) λx y q=> ?_
   subst q
   refine Dy 6 (Yl.ia d rfl rfl rfl rfl rfl rfl) ?_
   refine D.el 2 rfl (aJ d).2 ?_
   rintro _
   refine Dy 7 (Yl.ldc 0 0 rfl rfl rfl rfl) ?_
   refine Dq 8 ?_
   refine Dn ?_
   refine Z0 ?_
   refine Tb p (λe=> ?_) λe=> ?_
   ·refine Z1 ?_
    obtain ⟨z,hz,s⟩:=bQ e
    subst k
    have hb:=i _ rfl
    subst a
    obtain rfl:=(sm f).symm
    refine Z0 ?_
    cases s
    exact Eo1 () [] []
   refine Z0 ?_
   cases e
   exact Eg (_,()) (m _ rfl) [] [] 2
  refine Z0 ?_
  cases b
  have hb:=i _ rfl
  subst a
  exact Eg (_,()) rfl [] [] 0
 rintro ⟨A,⟨⟩⟩ hy
 subst hy
 refine Z1 ?_
 cases f
 exact Eo1 () [] []
theorem o9 {s_:aC} {t_:aC} {r:Bool} (H:fL s_ t_=some r):CT G 19 [.agg (gO s_ A0 C0 A1 C1).toArray,.agg (gO t_ A2 C2 A3 C3).toArray] [] [Im.sl aD A0 C0 s_.rows,Im.sl aB A1 C1 s_.begun,Im.sl aD A2 C2 t_.rows,Im.sl aB A3 C3 t_.begun] (λ_:Unit=> .bool r) (λh=>[]) (λh=>[]):=by
 delta fL at H
 refine Cf Go.Proofs.Tryz.func19 λK=> ?_
 refine Z1 ?_
 refine Lx λg1=> ?_
 refine Lx λg2=> ?_
 refine Y1 ?_
 have ⟨k,l,m⟩:=bnd H
 refine Tj0 [(4,.bool k)] [] [] [0,1] ?_ ?_
 ·refine Tra ?_
  refine Z0 ?_
  refine Lw 10 l (λa=> ?_) λa=> ?_
  ·refine Z0 ?_
   refine Lw 17 a (λb=> ?_) λb=> ?_
   ·refine Z0 ?_
    refine Lw 24 b (λc=> ?_) λc=> ?_
    ·refine Z0 ?_
     refine Lw 31 c (λd=> ?_) λd=> ?_
     ·refine Z0 ?_
      refine Lw 38 d (λe=> ?_) λe=> ?_
      ·refine Z0 ?_
       refine Lw 45 e (λf=> ?_) λf=> ?_
       ·refine Z0 ?_
        refine Lw 52 f (λg=> ?_) λg=> ?_
        ·refine Z0 ?_
         refine Lw 59 g (λi=> ?_) λi=> ?_
         ·refine Z0 ?_
          have ⟨s,n,o⟩:=bnd i
          refine Lk [] [0,2] (iP n) λ⟨⟩=> ?_
          refine Z0 ?_
          refine Lw 66 o (λj=> ?_) λj=> ?_
          ·refine Z0 ?_
           have ⟨t,p,q⟩:=bnd j
           refine Lk [] [1,3] (ly p) λ⟨⟩=> ?_
           refine Z0 ?_
           cases q
           exact Eg0 [0,0] 0
          refine Z0 ?_
          cases j
          exact Eg0 [0,0] 0
         refine Z0 ?_
         cases i
         exact Eg0 [0,0] 0
        refine Z0 ?_
        cases g
        exact Eg0 [0,0] 0
       refine Z0 ?_
       cases f
       exact Eg0 [0,0] 0
      refine Z0 ?_
      cases e
      exact Eg0 [0,0] 0
     refine Z0 ?_
     cases d
     exact Eg0 [0,0] 0
    refine Z0 ?_
    cases c
    exact Eg0 [0,0] 0
   refine Z0 ?_
   cases b
   exact Eg0 [0,0] 0
  refine Z0 ?_
  cases a
  exact Eg0 [0,0] 0
 refine Z0 ?_
 cases m
 exact Eo1 () [] []
theorem nV {s_:aW} {r:Int} (H:eZ s_=some r):CT G 48 [.pointer (some ⟨N0,0,none⟩)] [Ch.box N0 69 (fr s_ M0),Ch.mp Ty.str false M0 s_.parts] [] (λ_:Unit=> .int .i64 r) (λh=>[Ch.box N0 69 (fr s_ M0),Ch.mp Ty.str false M0 s_.parts]) (λh=>[]):=by
 delta eZ at H
 refine Cf Go.Proofs.Tryz.func48 λK=> ?_
 refine Z2 ?_
 cases H
 exact Eo1 () [0,0] []
theorem kT {s_:aW} {there:Bool} {r:(List Int)} (H:dK s_ there=some r):CT G 72 [.pointer (some ⟨N0,0,none⟩),.bool there] [Ch.box N0 69 (fr s_ M0),Ch.mp Ty.str false M0 s_.parts] [] (λh:(Option Addr×Nat)=> .slice h.1 r.length h.2) (λh=>[Ch.arr (Ty.int .i64) 3 h.1 h.2 r,Ch.box N0 69 (fr s_ M0),Ch.mp Ty.str false M0 s_.parts]) (λh=>[]):=by
 delta dK at H
 refine Cf Go.Proofs.Tryz.func72 λK=> ?_
 refine T.qX ?_
 refine Z1 ?_
 refine Lx λg1=> ?_
 refine Z1 ?_
 refine Ll λg2=> ?_
 refine Z2 ?_
 refine Yl0 ?_
 refine T.gC (Ty.int .i64) 3 ?_
 have ⟨f,g,i⟩:=bnd H
 refine T.rf3 (σ:=(List Int)) (η:=(Option Addr×Nat)) (X:=Int×Bool) (θ:=Unit) (τ:=(Option Addr×Nat)) (s1:=f) (hx:=λx=>x) (λx t=>[.int .i64 x.1,.bool x.2]) (λx t=>[]) (λ_=>none) [Ch.box N0 69 (fr s_ M0),Ch.mp Ty.str false M0 s_.parts] (λc h=>(λa b=>[Ch.arr (Ty.int .i64) 3 a b c,Ch.box g2 37 [.slice a c.length b],Ch.box g1 4 [.bool there]]) h.1 h.2) (λc h=>(λa b=>[]) h.1 h.2) 3 [0,0,0,0,0] [] [] rfl rfl (λ_ _=>rfl) rfl (λyl C hY=>(lh N0 M0 hY (none,0) g:_)) (λ_ _ _ _=>rfl) rfl rfl rfl rfl rfl ?_ rfl ?_
 ·rintro yl K2 c ⟨a,b⟩ x3 ⟨⟩ o j
  refine Z1 ?_
  refine E.begin λK3=> ?_
  refine Zl ?_
  refine Z1 ?_
  refine Tb j (λd=> ?_) λd=> ?_
  ·refine Z0 ?_
   refine La [] [] (Ac.bs (ty:=(Ty.int .i64)) (xs:=[x3.1]) (.cons () [] rfl .nil) rfl rfl rfl rfl rfl rfl rfl) λp=> ?_
   refine L.frz 0 rfl ?_
   have ⟨_,k,l⟩:=bnd d
   refine La [0] [0] (Ac.ap (ty:=(Ty.int .i64)) k rfl rfl rfl rfl rfl rfl rfl) ?_
   rintro ⟨m,n⟩
   refine Lt 1 ?_
   refine Z0 ?_
   cases l
   exact E.on (m,n) [1,0,0,0,0] [] rfl rfl rfl rfl
  refine Z0 ?_
  cases d
  exact E.on (a,b) [0,0,0,0,0] [] rfl rfl rfl rfl
 rintro e q
 refine Z1 ?_
 cases i
 exact E.pK (e.1,e.2) 0 [0,2,2] [] rfl (.tmp rfl .nil) rfl rfl rfl
theorem oN {s_:aW} {r:(List Int)} (H:cQ s_=some r):CT G 49 [.pointer (some ⟨N0,0,none⟩)] [Ch.box N0 69 (fr s_ M0),Ch.mp Ty.str false M0 s_.parts] [] (λh:(Option Addr×Nat)=> .slice h.1 r.length h.2) (λh=>[Ch.arr (Ty.int .i64) 3 h.1 h.2 r,Ch.box N0 69 (fr s_ M0),Ch.mp Ty.str false M0 s_.parts]) (λh=>[]):=by
 delta cQ at H
 refine Cf Go.Proofs.Tryz.func49 λK=> ?_
 refine Z2 ?_
 have ⟨r1,h2,H3⟩:=bnd H
 refine Lk [0,0] [] (kT h2) λ⟨a4,c5⟩=> ?_
 refine Z0 ?_
 cases H3
 exact Eo1 (a4,c5) [0,0,0] []
theorem pc {s_:aW} {r:Int} (H:jK s_=some r):CT G 50 [.pointer (some ⟨N0,0,none⟩)] [Ch.box N0 69 (fr s_ M0),Ch.mp Ty.str false M0 s_.parts] [] (λ_:Unit=> .int .i64 r) (λh=>[Ch.box N0 69 (fr s_ M0),Ch.mp Ty.str false M0 s_.parts]) (λh=>[]):=by
 delta jK at H
 refine Cf Go.Proofs.Tryz.func50 λK=> ?_
 refine Z2 ?_
 cases H
 exact Eo1 () [0,0] []
theorem lj {t_:aK} {r:bY} (H:cY t_=some r):CT G 20 [.pointer (some ⟨N0,0,none⟩)] [Ch.box N0 71 (km t_ N1 A0 C0 A1 C1),Ch.box N1 69 (fr t_.slot M0),Ch.mp Ty.str false M0 t_.slot.parts] [Im.sl aD A0 C0 t_.aO.rows,Im.sl aB A1 C1 t_.aO.begun] (λh:(Option Addr×Nat)=> .agg (th r h.1 h.2).toArray) (λh=>[Ch.box N0 71 (km t_ N1 A0 C0 A1 C1),Ch.box N1 69 (fr t_.slot M0),Ch.mp Ty.str false M0 t_.slot.parts]) (λh=>[Im.sl (Ty.int .i64) h.1 h.2 r.bW]):=by
 delta cY at H
 refine Cf Go.Proofs.Tryz.func20 λK=> ?_
 refine Z1 ?_
 refine Ll λg1=> ?_
 refine Z1 ?_
 have ⟨r2,h3,H4⟩:=bnd H
 refine Lk [2,2] [] (nV h3) λ⟨⟩=> ?_
 refine Z0 ?_
 have ⟨_,h5,H6⟩:=bnd H4
 refine La [] [] (Ac.mk (ty:=(Ty.int .u8)) 0 () h5 (λ_ _ f hf=>by cases hf) rfl rfl rfl rfl rfl rfl rfl) λg7=> ?_
 refine Z2 ?_
 have ⟨r9,s,t⟩:=bnd H6
 refine Lk [1,1] [] (oN s) λ⟨U,V⟩=> ?_
 refine Z0 ?_
 have ⟨j,u,w⟩:=bnd t
 refine Tjh (η:=(Option Addr×Nat)) (λh=>(λg i=>[(3,.slice g j.length i)]) h.1 h.2) [0,2] (λh=>(λg i=>[Ch.arr (Ty.int .u8) 5 g i j]) h.1 h.2) [1,4,5,2] (λ_=>[]) ?_ ?_
 ·refine Yl0 ?_
  refine Tq (η:=(Option Addr×Nat)) (λb h=>(λd c=>[(3,.slice d b.2.length c),(21,.int .i64 b.1)]) h.1 h.2) [0,2,19,20] (λb h=>(λd c=>[Ch.arr (Ty.int .u8) 5 d c b.2]) h.1 h.2) [1,4,5,0,2] (λ_ _=>[]) ((some ⟨g7,0,none⟩),(IntKind.i64.wrap ((IntKind.i64.wrap ((IntKind.i64.wrap (r2+8)) - 1)).tdiv 8)).toNat) [3,1,2,2,0,0] [] u ?_
  rintro k_ b ⟨d,c⟩ W x z A
  refine Y2 ?_
  refine Tb x (λl=> ?_) λl=> ?_
  ·refine Z1 ?_
   refine Zl ?_
   refine Z1 ?_
   have ⟨e,m,B⟩:=bnd l
   refine L.iG 4 rfl (bH m) λX C=> ?_
   subst C
   refine Ly (Yl.ia m rfl rfl rfl rfl rfl rfl) ?_
   refine Ly (Yl.lo (v:= .int .i64 e) 4 b.1.toNat 0 (aJ m).2 rfl rfl rfl rfl (λ_=>rfl)) ?_
   refine Z0 ?_
   refine Td [10] [0,0,0,0,0,0] mo ?_
   refine Dq 0 ?_
   refine Dq 1 ?_
   refine Dq 2 ?_
   have ⟨n,o,F⟩:=bnd B
   refine D.iG 0 rfl (bH o) λI J=> ?_
   subst J
   refine Dy 3 (Yl.ia o rfl rfl rfl rfl rfl rfl) ?_
   refine Dy 4 (Yl.lo (v:= .int .u8 n) 0 ((IntKind.i64.wrap (e.tdiv 8)).toNat) 0 (aJ o).2 rfl rfl rfl rfl (λ_=>rfl)) ?_
   refine Dq 5 ?_
   refine Dq 6 ?_
   have ⟨_,M,N⟩:=bnd F
   refine Dy 7 (Yl.shl (nb:=8) rfl M rfl rfl rfl) ?_
   refine Dq 8 ?_
   have ⟨Y,p,O⟩:=bnd N
   refine Dy 9 (Yl.ia p rfl rfl rfl rfl rfl rfl) ?_
   refine D.one rfl rfl rfl (Dp.al [0] [] (Ac.se 0 (Go.bits .or .u8 n (IntKind.u8.wrap (1*2 ^ (min (e.tmod 8).toNat 8)))) (aJ p).2 rfl rfl rfl rfl rfl rfl (λ_=>⟨(),rfl,[],rfl⟩)) rfl rfl rfl rfl rfl rfl rfl ?_)
   intro _
   refine Dn ?_
   refine E.sl 3 (k':=(b.2.set ((IntKind.i64.wrap (e.tdiv 8)).toNat) (Go.bits .or .u8 n (IntKind.u8.wrap (1*2 ^ (min (e.tmod 8).toNat 8))))).length) (List.length_set ..) rfl ?_
   refine Z0 ?_
   cases O
   exact Eg (_,((some ⟨I,0,none⟩),c)) (z _ rfl) [0,0,0,0,0,0] [] 0
  refine Z0 ?_
  cases l
  have hb:=A _ rfl
  subst j
  exact Eg (d,c) trivial [0,0,0,0,1] [] 0
 rintro ⟨g,i⟩
 refine Y1 ?_
 refine Td [14] [0,1,1] mo ?_
 refine Dq 0 ?_
 refine Dq 1 ?_
 refine Dq 2 ?_
 refine Dq 3 ?_
 refine Db 4 2 ?_
 refine Dq 5 ?_
 refine Dq 6 ?_
 refine Dq 7 ?_
 refine Db 8 2 ?_
 refine Dq 11 ?_
 refine DF.of rfl ?_
 refine DF.add _ (FSp.y 12 (Yl.bs 0 rfl rfl rfl rfl rfl rfl rfl rfl rfl) rfl rfl rfl rfl) rfl ?_
 refine DF.step 9 rfl rfl rfl rfl rfl ?_
 have ⟨P,Q,R⟩:=bnd w
 refine DFp.a [0,0] [] (Ac.call (pc Q) rfl rfl rfl rfl) rfl rfl rfl rfl rfl rfl rfl rfl ?_
 rintro ⟨⟩
 refine DF.step 10 rfl rfl rfl rfl rfl ?_
 refine DFp.a [] [] (Ac.bs (ty:=(Ty.int .i64)) (xs:=[t_.aO.k,P]) (.cons () [] rfl (.cons () [] rfl .nil)) rfl rfl rfl rfl rfl rfl rfl) rfl rfl rfl rfl rfl rfl rfl rfl ?_
 intro S
 refine DF.step 13 rfl rfl rfl rfl rfl ?_
 refine DFp.use 0 rfl rfl rfl ?_
 intro _
 refine DFp.a [] [] (Ac.q rfl) rfl rfl rfl rfl rfl rfl rfl rfl ?_
 intro _
 refine DF.step 14 rfl rfl rfl rfl rfl ?_
 refine DFp.al [1] [] (Ac.stb rfl rfl rfl rfl rfl rfl) rfl rfl rfl rfl rfl rfl rfl ?_
 intro _
 refine DF.fin rfl rfl rfl rfl rfl ?_
 refine DFe.nil ?_
 refine Z0 ?_
 refine E.frz 3 rfl ?_
 cases R
 exact Eo ((some ⟨S,0,none⟩),2) [2,2,2] [0] (.cell 0 rfl rfl rfl .nil)
theorem rp {n_:Int} {lo:Int} {hi:Int} {r:Bool} (H:ll n_ lo hi=some r):CT G 51 [.int .i64 n_,.int .i64 lo,.int .i64 hi] [] [] (λ_:Unit=> .bool r) (λh=>[]) (λh=>[]):=by
 delta ll at H
 refine Cf Go.Proofs.Tryz.func51 λK=> ?_
 refine Y2 ?_
 have ⟨e4,H5,H6⟩:=bnd H
 refine Tj0 [(6,.bool e4)] [] [] [] ?_ ?_
 ·refine Z0 ?_
  refine Lw 10 H5 (λH7=> ?_) λH7=> ?_
  ·refine Z0 ?_
   cases H7
   exact Eg0 [] 0
  refine Z0 ?_
  cases H7
  exact Eg0 [] 0
 refine Z0 ?_
 cases H6
 exact Eo1 () [] []
theorem pN {g:bY} {i:Int} {r:Int} (H:kj g i=some r):CT G 21 [.agg (th g A0 C0).toArray,.int .i64 i] [] [Im.sl (Ty.int .i64) A0 C0 g.bW] (λ_:Unit=> .int .i64 r) (λh=>[]) (λh=>[]):=by
 delta kj at H
 refine Cf Go.Proofs.Tryz.func21 λK=> ?_
 refine Z1 ?_
 refine Lx λg1=> ?_
 refine Z2 ?_
 have ⟨r2,h3,H4⟩:=bnd H
 refine Lk [] [] (rp h3) λ⟨⟩=> ?_
 refine Z0 ?_
 refine Tb H4 (λH6=> ?_) λH6=> ?_
 ·refine Z1 ?_
  cases H6
  exact Eo1 () [] []
 refine Z1 ?_
 have ⟨x7,h8,H9⟩:=bnd H6
 refine L.addr 0 rfl (bH h8) λb c a=> ?_
 subst a
 refine Ly (Yl.ia h8 rfl rfl rfl rfl rfl rfl) ?_
 refine L.el 0 rfl (aJ h8).2 ?_
 rintro _
 refine Lc 0 0 ?_
 refine Z0 ?_
 cases H9
 exact Eo1 () [] []
theorem rq {r:Bool} (H:iL=some r):CT G 4 [] [] [Im.sl (Ty.int .u32) (some ⟨0,0,none⟩) 16 cT] (λ_:Unit=> .bool r) (λh=>[]) (λh=>[]):=by
 delta iL at H
 refine Cf Go.Proofs.Tryz.func4 λK=> ?_
 refine Z2 ?_
 have ⟨r1,h2,H3⟩:=bnd H
 refine Lk [] [] (tj h2) λ⟨g4,⟨a5,c6⟩,⟨a7,c8⟩,⟨a9,bo⟩,⟨bp,bq⟩,⟨br,bs⟩,⟨bt,bu⟩,⟨bv,bw⟩⟩=> ?_
 have ⟨bx,aa,ab⟩:=bnd H3
 refine Lk [] [] (mL aa) λ⟨A,k,ac,⟨ad,ae⟩,⟨af,ag⟩⟩=> ?_
 have ⟨bz,ah,ai⟩:=bnd ab
 refine Lk [] [] (uH ah) λ⟨aj,B,⟨C,F⟩,⟨I,J⟩,⟨M,N⟩,O,⟨P,Q⟩,⟨b0,b1⟩,R,S,⟨U,V⟩⟩=> ?_
 refine Z2 ?_
 refine Ly (Yl.pn rfl rfl rfl rfl rfl rfl) ?_
 refine Z0 ?_
 refine Ly (Yl.pn rfl rfl rfl rfl rfl rfl) ?_
 refine Z0 ?_
 refine Ly (Yl.pn rfl rfl rfl rfl rfl rfl) ?_
 refine Z0 ?_
 refine T.cond rfl (λh=>nomatch h) (λ_=> ?_)
 refine Z1 ?_
 have ⟨b2,ak,al⟩:=bnd ai
 refine Lk [0,0,0,0,0,0,0,0,0,0] [] (kM ak) λ⟨⟨b3,b4⟩,⟨b5,b6⟩,⟨b7,b8⟩⟩=> ?_
 have ⟨b9,am,an⟩:=bnd al
 refine Lk [13,13,13] [4,5,6,7,8,0,1] (mN am) λ⟨⟨ca,cb⟩,⟨cc,cd⟩⟩=> ?_
 refine Z2 ?_
 have ⟨ce,ao,ap⟩:=bnd an
 refine Lk [0,0,0] [0,1,2,3,4,14] (mQ ao) λ⟨⟨cf,cg⟩,⟨ch,ci⟩,⟨cj,ck⟩,⟨cl,cm⟩⟩=> ?_
 refine Z0 ?_
 have ⟨s,aq,W⟩:=bnd ap
 refine Tj (η:=aK×(Option Nat×(Option Addr×Nat)×(Option Addr×Nat))) (λh=>s = .inl h.1) (λ_=>[]) [2,3] (λh=>(λc=>(λm n o p q=>[Ch.mp Ty.str false m c.slot.parts,Ch.box A 71 (km c k n o p q),Ch.box k 69 (fr c.slot m)]) h.2.1 h.2.2.1.1 h.2.2.1.2 h.2.2.2.1 h.2.2.2.2) h.1) [1,4,5,9,11,12,2,3,6,7,8,10,13] (λh=>(λc=>(λm n o p q=>[Im.sl aD n o c.aO.rows,Im.sl aB p q c.aO.begun]) h.2.1 h.2.2.1.1 h.2.2.1.2 h.2.2.2.1 h.2.2.2.2) h.1) ?_ ?_
 ·refine Yl0 ?_
  refine Tq (η:=Option Nat×(Option Addr×Nat)×(Option Addr×Nat)) (λb h=>(λd e f i j=>[(27,.int .i64 b.2)]) h.1 h.2.1.1 h.2.1.2 h.2.2.1 h.2.2.2) [2,3,25,26] (λb h=>(λd e f i j=>[Ch.mp Ty.str false d b.1.slot.parts,Ch.box A 71 (km b.1 k e f i j),Ch.box k 69 (fr b.1.slot d)]) h.1 h.2.1.1 h.2.1.2 h.2.2.1 h.2.2.2) [1,4,5,9,11,12,0,2,3,6,7,8,10,13] (λb h=>(λd e f i j=>[Im.sl aD e f b.1.aO.rows,Im.sl aB i j b.1.aO.begun]) h.1 h.2.1.1 h.2.1.2 h.2.2.1 h.2.2.2) (ac,(ad,ae),(af,ag)) [16,14,14,1,3,3,6,7,7,0,0,0,0,0,0,0,0] [12,13] aq ?_
  rintro k_ b ⟨d,⟨e,f⟩,⟨i,j⟩⟩ ar au av X
  refine Y2 ?_
  refine Tb au (λt=> ?_) λt=> ?_
  ·refine Z1 ?_
   refine Zl ?_
   refine Z1 ?_
   have ⟨aw,u,ax⟩:=bnd t
   refine L.iG 9 rfl (bH u) λcn ay=> ?_
   subst ay
   refine Ly (Yl.ia u rfl rfl rfl rfl rfl rfl) ?_
   refine La [9] [] (Ac.lo b.2.toNat 0 (v:=(λh:(Option Addr×Nat)=>(λY Z=> .agg (th aw Y Z).toArray) h.1 h.2)) (aJ u).2 rfl rfl rfl (λ_=>rfl)) ?_
   rintro ⟨Y,Z⟩
   refine Ll λco=> ?_
   refine Lt 0 ?_
   refine Z1 ?_
   have ⟨cp,az,a0⟩:=bnd ax
   refine Lk [3,3,2] [1,2,0,22] (kR az) λ⟨a1,⟨a2,a3⟩,⟨a4,a6⟩⟩=> ?_
   refine Z0 ?_
   refine Tb a0 (λx=> ?_) λx=> ?_
   ·refine Z1 ?_
    obtain ⟨cq,hz,a8⟩:=bQ x
    subst ar
    have hb:=X _ rfl
    subst s
    obtain rfl:=(sm W).symm
    refine Z0 ?_
    cases a8
    exact Eo1 () [] []
   refine Z0 ?_
   cases x
   exact Eg (_,(a1,(a2,a3),(a4,a6))) (av _ rfl) [2,0,0,2,2,2,2,2,2,1,1,1,1,1,1,1,1] [0,1] 5
  refine Z0 ?_
  cases t
  have hb:=X _ rfl
  subst s
  exact Eg (_,(d,(e,f),(i,j))) rfl [0,0,0,0,0,0,0,0,0,1,1,1,1,1,1,1] [0,1] 2
 rintro ⟨c,⟨m,⟨n,o⟩,⟨p,q⟩⟩⟩ hy
 subst hy
 refine Y1 ?_
 have ⟨a,ba,bb⟩:=bnd W
 refine Tj0 [(0,.bool a.1)] [] [Ch.arr (Ty.slice aB) 57 C F a.2.book.l,Ch.arr (Ty.int .i64) 3 I J a.2.book.ff,Ch.arr aB 121 M N a.2.book.begun,Ch.opt (a.2.parser.state == (3:Int)) (Ty.int .i64) 3 P Q a.2.parser.order.bW,Ch.arr aD 116 U V a.2.bP.g.l,Ch.box aj 108 (w8 a.2 B O R),Ch.box B 167 [.slice C a.2.book.l.length F,.slice I a.2.book.ff.length J,.slice M a.2.book.begun.length N],Ch.box O 104 (pY a.2.parser P Q),Ch.box R 175 (lM a.2.bP S),Ch.box S 218 [.int .i64 a.2.bP.g.w,.slice U a.2.bP.g.l.length V]] [1,2,3,0,9,10] ?_ ?_
 ·refine Z0 ?_
  have ⟨cr,bc,bd⟩:=bnd ba
  refine Lk [1,1,0] [0,1] (mj bc) λ⟨⟩=> ?_
  refine Z0 ?_
  refine Lw 39 bd (λy=> ?_) λy=> ?_
  ·refine Z0 ?_
   have ⟨cs,be,bf⟩:=bnd y
   refine Lk [0,0,0] [0,1] (kS be) λ⟨⟨ct,cu⟩,⟨cv,cw⟩⟩=> ?_
   refine Z0 ?_
   have ⟨cx,bg,bh⟩:=bnd bf
   refine Lk [4,4,9,9,9,4,8,4,4,6] [] (kM bg) λ⟨⟨cy,cz⟩,⟨c0,c1⟩,⟨c2,c3⟩⟩=> ?_
   have ⟨c4,bi,bj⟩:=bnd bh
   refine Lk [] [2,3,0,1] (o9 bi) λ⟨⟩=> ?_
   refine Z0 ?_
   refine Lw 46 bj (λz=> ?_) λz=> ?_
   ·refine Z0 ?_
    have ⟨c5,bk,bl⟩:=bnd z
    refine Lk [10,10,10] [4,5] (lj bk) λ⟨c7,c9⟩=> ?_
    have ⟨da,bm,bn⟩:=bnd bl
    refine Lk [] [0] (pN bm) λ⟨⟩=> ?_
    refine Z0 ?_
    cases bn
    exact Eg0 [5,5,5,6,8,3,3,3,3,3,0,0,1,0,0,0] 5
   refine Z0 ?_
   cases z
   exact Eg0 [2,2,2,3,5,0,0,0,0,0,0,0,1,0,0,0] 4
  refine Z0 ?_
  cases y
  exact Eg0 [11,11,11,11,11,4,4,4,4,4,0,0,1,0,0,0] 0
 refine Z0 ?_
 cases bb
 exact Eo1 () [] []
theorem uL {s_:ByteArray} {n_:Int} {r:ByteArray} (H:gp s_ n_=some r):CT G 22 [.string s_,.int .i64 n_] [] [] (λ_:Unit=> .string r) (λh=>[]) (λh=>[]):=by
 delta gp at H
 refine Cf Go.Proofs.Tryz.func22 λK=> ?_
 refine Z3 ?_
 refine Tb H (λH4=> ?_) λH4=> ?_
 ·refine Z1 ?_
  have ⟨_,h5,H6⟩:=bnd H4
  refine Ly (Yl.sc h5 rfl rfl rfl rfl rfl rfl) ?_
  refine Z0 ?_
  cases H6
  exact Eo1 () [] []
 refine Z1 ?_
 cases H4
 exact Eo1 () [] []
theorem uM {x_:cL} {r:bY×cL} (H:jV x_=some r):CT G 6 [.agg (xY x_ A0 C0).toArray] [] [Im.sl (Ty.int .i64) A0 C0 x_.bW] (λh:(Option Addr×Nat)×(Option Addr×Nat)=> .tuple #[.agg (th r.1 h.1.1 h.1.2).toArray,.agg (xY r.2 h.2.1 h.2.2).toArray]) (λh=>[Ch.arr (Ty.int .i64) 3 h.1.1 h.1.2 r.1.bW,Ch.arr (Ty.int .i64) 3 h.2.1 h.2.2 r.2.bW]) (λh=>[]):=by
 delta jV at H
 refine Cf Go.Proofs.Tryz.func6 λK=> ?_
 refine Z1 ?_
 refine Lx λg1=> ?_
 refine Ll λg2=> ?_
 refine Ll λg3=> ?_
 refine Y1 ?_
 refine Td [17] [0,0,0] mo ?_
 refine Dq 0 ?_
 refine Db 1 2 ?_
 refine Dq 2 ?_
 refine Db 3 2 ?_
 refine Dq 5 ?_
 refine Db 6 2 ?_
 refine Dq 7 ?_
 refine Db 8 2 ?_
 refine Dq 9 ?_
 refine Dq 10 ?_
 have ⟨_,a,b⟩:=bnd H
 refine D.rsl 0 11 a rfl rfl rfl rfl rfl rfl rfl rfl rfl rfl rfl rfl rfl rfl ?_
 intro n o
 refine Dq 13 ?_
 refine Db 14 2 ?_
 refine Da [] [] rfl rfl (Ac.bs (ty:=(Ty.int .i64)) (xs:=[]) .nil rfl rfl rfl rfl rfl rfl rfl) λp=> ?_
 have ⟨_,c,d⟩:=bnd b
 refine Da [0] [0] rfl rfl (Ac.ap (ty:=(Ty.int .i64)) c rfl rfl rfl rfl rfl rfl rfl) ?_
 rintro ⟨e,f⟩
 have ⟨q,g,i⟩:=bnd d
 refine Dk [] [] (uL g) λ⟨⟩=> ?_
 refine Dq 16 ?_
 refine Dt 2 ?_
 refine Dn ?_
 refine Y1 ?_
 refine Td [13] [0,0] mo ?_
 refine Dq 0 ?_
 refine Db 1 0 ?_
 refine Dq 2 ?_
 refine Db 3 0 ?_
 refine Dq 5 ?_
 refine Db 6 0 ?_
 refine Dq 8 ?_
 refine Db 9 0 ?_
 refine Db 11 0 ?_
 refine Da [] [] rfl rfl (Ac.bs (ty:=(Ty.int .i64)) (xs:=[]) .nil rfl rfl rfl rfl rfl rfl rfl) λs=> ?_
 have ⟨_,j,k⟩:=bnd i
 refine Da [0,1] [] rfl rfl (Ac.apa (ty:=(Ty.int .i64)) j rfl rfl rfl rfl rfl rfl rfl) ?_
 rintro ⟨l,m⟩
 refine Dq 10 ?_
 refine Da [2] [] rfl rfl (Ac.stb rfl rfl rfl rfl rfl rfl) λ_=> ?_
 refine Dt 1 ?_
 refine Dn ?_
 refine Z0 ?_
 cases k
 exact Eo ((l,m),(e,f)) [3,3] [] (.cell 2 rfl rfl rfl (.cell 0 rfl rfl rfl .nil))
theorem nr {m_:Mp ByteArray} (v_0:Option Nat) {r:(Mp ByteArray)} (H:gD m_=some r):CT G 52 [.map v_0] [Ch.mp Ty.str false v_0 m_] [] (λh:Option Nat=> .map h) (λh=>[Ch.mp Ty.str false h r,Ch.mp Ty.str false v_0 m_]) (λh=>[]):=by
  delta gD at H
  cases H
  refine Cf Go.Proofs.Tryz.func52 λK=> ?_
  cases m_
  · refine Z3 ?_
    refine Ly (Yl.mz 0 rfl rfl rfl rfl rfl rfl) ?_
    refine Z0 ?_
    refine T.cond rfl (λ_=> ?_) (λh=>nomatch h)
    refine Z1 ?_
    refine E.mp0 Ty.str false ?_
    exact Eo1 none [0,0] []
  refine Z3 ?_
  refine Ly (Yl.mz 0 rfl rfl rfl rfl rfl rfl) ?_
  refine Z0 ?_
  refine T.cond rfl (λh=>nomatch h) (λ_=> ?_)
  refine Z1 ?_
  refine Ly (Yl.mif rfl rfl rfl rfl) ?_
  refine La [0] [] (Ac.mpc rfl rfl rfl Go.Proofs.Tryz.func96 (by kernel_rfl) (by kernel_rfl) (by kernel_rfl) (by kernel_rfl)) λg=> ?_
  refine Ly (Yl.mta rfl rfl rfl rfl) ?_
  refine Z0 ?_
  exact Eo1 (some g) [0,0] []
theorem nW {s_:aW} {r:aW} (H:gT s_=some r):CT G 23 [.pointer (some ⟨N0,0,none⟩)] [Ch.box N0 69 (fr s_ M0),Ch.mp Ty.str false M0 s_.parts] [] (λh:Nat×Option Nat=> .pointer (some ⟨h.1,0,none⟩)) (λh=>[Ch.box h.1 69 (fr r h.2),Ch.mp Ty.str false h.2 r.parts,Ch.box N0 69 (fr s_ M0),Ch.mp Ty.str false M0 s_.parts]) (λh=>[]):=by
 delta gT at H
 refine Cf Go.Proofs.Tryz.func23 λK=> ?_
 refine Z2 ?_
 refine Ll λg1=> ?_
 refine Lt 0 ?_
 refine Z1 ?_
 have ⟨r2,h3,H4⟩:=bnd H
 refine Lk [2] [] (nr M0 h3) λv5=> ?_
 refine Z0 ?_
 refine Lt 2 ?_
 refine Z1 ?_
 cases H4
 exact Eo1 (g1,v5) [0,0,1,0] []
theorem ns {t_:aK} {r:aK} (H:fB t_=some r):CT G 7 [.pointer (some ⟨N0,0,none⟩)] [Ch.box N0 71 (km t_ N1 A0 C0 A1 C1),Ch.box N1 69 (fr t_.slot M0),Ch.mp Ty.str false M0 t_.slot.parts] [Im.sl aD A0 C0 t_.aO.rows,Im.sl aB A1 C1 t_.aO.begun] (λh:Nat×Nat×Option Nat×(Option Addr×Nat)×(Option Addr×Nat)=> .pointer (some ⟨h.1,0,none⟩)) (λh=>[Ch.box h.1 71 (km r h.2.1 h.2.2.2.1.1 h.2.2.2.1.2 h.2.2.2.2.1 h.2.2.2.2.2),Ch.box h.2.1 69 (fr r.slot h.2.2.1),Ch.mp Ty.str false h.2.2.1 r.slot.parts,Ch.box N0 71 (km t_ N1 A0 C0 A1 C1),Ch.box N1 69 (fr t_.slot M0),Ch.mp Ty.str false M0 t_.slot.parts]) (λh=>[Im.sl aD h.2.2.2.1.1 h.2.2.2.1.2 r.aO.rows,Im.sl aB h.2.2.2.2.1 h.2.2.2.2.2 r.aO.begun]):=by
 delta fB at H
 refine Cf Go.Proofs.Tryz.func7 λK=> ?_
 refine Y2 ?_
 refine Td [] [0,0,0] mo ?_
 refine Dq 0 ?_
 refine Dq 1 ?_
 refine Dq 2 ?_
 refine Db 3 0 ?_
 refine Dq 5 ?_
 refine Dq 6 ?_
 refine Dq 7 ?_
 refine Db 8 0 ?_
 have ⟨m,a,b⟩:=bnd H
 refine D.one rfl rfl rfl (Dp.ab [1,1] [] [4,2,2] (Ac.call (nW a) rfl rfl rfl rfl) rfl rfl rfl rfl rfl rfl (λ_=>rfl) ?_)
 rintro ⟨c,d⟩
 have ⟨n,e,f⟩:=bnd b
 refine Dk [] [0,1] (ik e) λ⟨⟨g,i⟩,⟨j,k⟩⟩=> ?_
 refine Dq 10 ?_
 refine Da [] [] rfl rfl (Ac.box rfl rfl) λl=> ?_
 refine Dq 12 ?_
 refine Dn ?_
 refine Z0 ?_
 cases f
 exact Eo1 (l,c,d,(g,i),(j,k)) [3,3,3,0,0,0] [0,1]
theorem pF {s_:bZ} {key:Int} {index:Int} {count:Int} {data:ByteArray} {r:bZ×Int} (H:jX s_ key index count data=some r):CT G 25 [.agg #[.int .i64 s_.key,.slice A0 s_.has.length C0,.slice A1 s_.parts.length C1],.int .i64 key,.int .i64 index,.int .i64 count,.string data] [] [Im.sl Ty.bool A0 C0 s_.has,Im.sl Ty.str A1 C1 s_.parts] (λh:(Option Addr×Nat)×(Option Addr×Nat)=> .tuple #[.agg #[.int .i64 r.1.key,.slice h.1.1 r.1.has.length h.1.2,.slice h.2.1 r.1.parts.length h.2.2],.int .i64 r.2]) (λh=>[]) (λh=>[Im.sl Ty.bool h.1.1 h.1.2 r.1.has,Im.sl Ty.str h.2.1 h.2.2 r.1.parts]):=by
 delta jX at H
 refine Cf Go.Proofs.Tryz.func25 λK=> ?_
 refine Z1 ?_
 refine Lx λg1=> ?_
 refine Ll λg2=> ?_
 refine Y2 ?_
 have ⟨I,J,M⟩:=bnd H
 refine Tj0 [(31,.bool I)] [1,2,3,4,5,10] [] [0,1] ?_ ?_
 ·refine Z0 ?_
  refine Lw 15 J (λl=> ?_) λl=> ?_
  ·refine Z0 ?_
   cases l
   exact Eg0 [0,0] 0
  refine Z0 ?_
  refine Lw 19 l (λm=> ?_) λm=> ?_
  ·refine Z0 ?_
   cases m
   exact Eg0 [0,0] 0
  refine Z0 ?_
  refine Lw 23 m (λn=> ?_) λn=> ?_
  ·refine Z0 ?_
   cases n
   exact Eg0 [0,0] 0
  refine Z0 ?_
  refine Lw 28 n (λo=> ?_) λo=> ?_
  ·refine Z0 ?_
   cases o
   exact Eg0 [0,0] 0
  refine Z0 ?_
  cases o
  exact Eg0 [0,0] 0
 refine Tb M (λp=> ?_) λp=> ?_
 ·refine Z1 ?_
  refine Lt 0 ?_
  refine Z0 ?_
  cases p
  exact Eo ((A0,C0),(A1,C1)) [] [0,1] (.cell 0 rfl rfl rfl (.tmp rfl .nil))
 refine Z2 ?_
 refine Tb p (λs=> ?_) λs=> ?_
 ·refine Z1 ?_
  refine Lt 0 ?_
  refine Z0 ?_
  cases s
  exact Eo ((A0,C0),(A1,C1)) [] [0,1] (.cell 0 rfl rfl rfl (.tmp rfl .nil))
 refine Y1 ?_
 refine Td [7] [0,0] mo ?_
 refine Dq 0 ?_
 refine Dq 1 ?_
 refine Dq 3 ?_
 refine DF.of rfl ?_
 refine DF.add _ (FSp.ac 6 [] (Ac.alloc rfl rfl) rfl rfl rfl rfl rfl) rfl ?_
 have ⟨_,N,O⟩:=bnd s
 refine DF.add _ (FSp.ac 2 [] (Ac.mk (ty:=Ty.bool) false () N (λ_ _ f hf=>by cases hf) rfl rfl rfl rfl rfl rfl rfl) rfl rfl rfl rfl rfl) rfl ?_
 have ⟨_,P,Q⟩:=bnd O
 refine DF.add _ (FSp.ac 4 [] (Ac.mk (ty:=Ty.str) (ByteArray.mk #[]) () P (λ_ _ f hf=>by cases hf) rfl rfl rfl rfl rfl rfl rfl) rfl rfl rfl rfl rfl) rfl ?_
 refine DF.step 5 rfl rfl rfl rfl rfl ?_
 refine DFp.use 0 rfl rfl rfl ?_
 intro j
 refine DFp.use 0 rfl rfl rfl ?_
 intro k
 refine DFp.a [] [] (Ac.q rfl) rfl rfl rfl rfl rfl rfl rfl rfl ?_
 intro _
 refine DF.step 7 rfl rfl rfl rfl rfl ?_
 refine DFp.use 0 rfl rfl rfl ?_
 intro A
 refine DFp.al [2] [] (Ac.stb rfl rfl rfl rfl rfl rfl) rfl rfl rfl rfl rfl rfl rfl ?_
 intro _
 refine DF.fin rfl rfl rfl rfl rfl ?_
 refine DFe.nil ?_
 refine Z2 ?_
 have ⟨B,R,C⟩:=bnd Q
 refine Tj (η:=bZ×((Option Addr×Nat)×(Option Addr×Nat))) (λh=>B = .inl h.1) (λ_=>[]) [2,4,10,12] (λh=>(λb=>(λt c e d=>[Ch.arr Ty.bool 4 t c b.has,Ch.arr Ty.str 9 e d b.parts,Ch.box A 34 [.int .i64 b.key,.slice t b.has.length c,.slice e b.parts.length d]]) h.2.1.1 h.2.1.2 h.2.2.1 h.2.2.2) h.1) [1,2] (λ_=>[]) ?_ ?_
 ·refine Tb R (λu=> ?_) λu=> ?_
  ·refine Z2 ?_
   refine Tb u (λw=> ?_) λw=> ?_
   ·refine Z1 ?_
    refine Lt 1 ?_
    refine Z0 ?_
    obtain ⟨ae,hz,S⟩:=gH w
    subst B
    obtain rfl:=(sm C).symm
    refine Z0 ?_
    cases S
    exact Eo ((A0,C0),(A1,C1)) [] [0,1] (.cell 0 rfl rfl rfl (.tmp rfl .nil))
   refine Z1 ?_
   refine La [3] [0] (Ac.cp (ty:=Ty.bool) rfl rfl rfl rfl rfl rfl rfl) λ_=> ?_
   refine L.bx 1 (cs':=[.int .i64 key,.slice (some ⟨k,0,none⟩) (cpy (List.replicate count.toNat false) s_.has).length count.toNat,.slice (some ⟨j,0,none⟩) (List.replicate count.toNat (ByteArray.mk #[])).length count.toNat]) (by rw [nD ..]) rfl ?_
   refine Z0 ?_
   refine La [4] [1] (Ac.cp (ty:=Ty.str) rfl rfl rfl rfl rfl rfl rfl) λ_=> ?_
   refine L.bx 1 (cs':=[.int .i64 key,.slice (some ⟨k,0,none⟩) (cpy (List.replicate count.toNat false) s_.has).length count.toNat,.slice (some ⟨j,0,none⟩) (cpy (List.replicate count.toNat (ByteArray.mk #[])) s_.parts).length count.toNat]) (by simp only [nD]) rfl ?_
   refine Z0 ?_
   cases w
   exact Eg (_,(((some ⟨k,0,none⟩),count.toNat),((some ⟨j,0,none⟩),count.toNat))) rfl [2,1,0,0,0] [] 0
  refine Z0 ?_
  cases u
  exact Eg (_,(((some ⟨k,0,none⟩),count.toNat),((some ⟨j,0,none⟩),count.toNat))) rfl [3,3,0,0,0] [] 0
 rintro ⟨b,⟨⟨t,c⟩,⟨e,d⟩⟩⟩ hy
 subst hy
 refine Z2 ?_
 have ⟨U,x,V⟩:=bnd C
 refine L.iG 0 rfl (bH x) λg W=> ?_
 subst W
 refine Ly (Yl.ia x rfl rfl rfl rfl rfl rfl) ?_
 refine Ly (Yl.lo (v:= .bool U) 0 index.toNat 0 (aJ x).2 rfl rfl rfl rfl (λ_=>rfl)) ?_
 refine Z0 ?_
 have ⟨i,X,Y⟩:=bnd V
 refine Tj0 [] [10,12] [Ch.arr Ty.bool 4 (some ⟨g,0,none⟩) c i.has,Ch.arr Ty.str 9 e d i.parts,Ch.box A 34 [.int .i64 i.key,.slice (some ⟨g,0,none⟩) i.has.length c,.slice e i.parts.length d]] [3,4] ?_ ?_
 ·refine Tb X (λy=> ?_) λy=> ?_
  ·refine Z1 ?_
   have ⟨af,F,Z⟩:=bnd y
   refine Ly (Yl.ia F rfl rfl rfl rfl rfl rfl) ?_
   refine La [0] [] (Ac.se 0 true (aJ F).2 rfl rfl rfl rfl rfl rfl (λ_=>⟨(),rfl,[],rfl⟩)) λ_=> ?_
   refine L.bx 2 (cs':=[.int .i64 b.key,.slice (some ⟨g,0,none⟩) (b.has.set index.toNat true).length c,.slice e b.parts.length d]) (by rw [List.length_set ..]) rfl ?_
   refine Z0 ?_
   have ⟨ag,z,aa⟩:=bnd Z
   refine L.iG 2 rfl (bH z) λab ad=> ?_
   subst ad
   refine Ly (Yl.ia z rfl rfl rfl rfl rfl rfl) ?_
   refine La [2] [] (Ac.se 0 data (aJ z).2 rfl rfl rfl rfl rfl rfl (λ_=>⟨(),rfl,[],rfl⟩)) λ_=> ?_
   refine L.bx 1 (cs':=[.int .i64 b.key,.slice (some ⟨g,0,none⟩) (b.has.set index.toNat true).length c,.slice (some ⟨ab,0,none⟩) (b.parts.set index.toNat data).length d]) (by simp only [List.length_set]) rfl ?_
   refine Z0 ?_
   cases aa
   exact Eg0 [2,1,0,0,0] 0
  refine Z0 ?_
  cases y
  exact Eg0 [0,0,0,0,0] 0
 refine Z1 ?_
 refine Lt 3 ?_
 refine Z0 ?_
 refine E.frz 1 rfl ?_
 refine E.frz 1 rfl ?_
 cases Y
 exact Eo (((some ⟨g,0,none⟩),c),(e,d)) [] [1,0] (.cell 0 rfl rfl rfl (.tmp rfl .nil))
theorem nz {s_:bZ} {there:Bool} {r:(List Int)} (H:ic s_ there=some r):CT G 35 [.agg #[.int .i64 s_.key,.slice A0 s_.has.length C0,.slice A1 s_.parts.length C1],.bool there] [] [Im.sl Ty.bool A0 C0 s_.has,Im.sl Ty.str A1 C1 s_.parts] (λh:(Option Addr×Nat)=> .slice h.1 r.length h.2) (λh=>[Ch.arr (Ty.int .i64) 3 h.1 h.2 r]) (λh=>[]):=by
 delta ic at H
 refine Cf Go.Proofs.Tryz.func35 λK=> ?_
 refine Z1 ?_
 refine Lx λg1=> ?_
 refine Z1 ?_
 refine La [] [] (Ac.bs (ty:=(Ty.int .i64)) (xs:=[]) .nil rfl rfl rfl rfl rfl rfl rfl) λg2=> ?_
 refine Z2 ?_
 have ⟨i,n,o⟩:=bnd H
 refine Tjh (η:=(Option Addr×Nat)) (λh=>(λd e=>[(5,.slice d i.length e)]) h.1 h.2) [] (λh=>(λd e=>[Ch.arr (Ty.int .i64) 3 d e i]) h.1 h.2) [1] (λ_=>[]) ?_ ?_
 ·refine Yl0 ?_
  refine Tq (η:=(Option Addr×Nat)) (λa h=>(λb c=>[(5,.slice b a.2.length c),(12,.int .i64 a.1)]) h.1 h.2) [1,10,11] (λa h=>(λb c=>[Ch.arr (Ty.int .i64) 3 b c a.2]) h.1 h.2) [1] (λ_ _=>[]) ((some ⟨g2,0,none⟩),0) [0,0] [] n ?_
  rintro k_ a ⟨b,c⟩ B p q s
  refine Y2 ?_
  refine Tb p (λj=> ?_) λj=> ?_
  ·refine Y1 ?_
   have ⟨m,t,u⟩:=bnd j
   refine Tjh (η:=(Option Addr×Nat)) (λh=>(λf g=>[(5,.slice f m.length g)]) h.1 h.2) [1,10,11,12] (λh=>(λf g=>[Ch.arr (Ty.int .i64) 3 f g m]) h.1 h.2) [1] (λ_=>[]) ?_ ?_
   ·refine Zl ?_
    refine Z1 ?_
    have ⟨C,k,v⟩:=bnd t
    refine L.addr 0 rfl (bH k) λF I w=> ?_
    subst w
    refine Ly (Yl.ia k rfl rfl rfl rfl rfl rfl) ?_
    refine L.el 0 rfl (aJ k).2 ?_
    rintro _
    refine Lc 0 0 ?_
    refine Z1 ?_
    refine Tb v (λl=> ?_) λl=> ?_
    ·refine Z0 ?_
     refine La [] [] (Ac.bs (ty:=(Ty.int .i64)) (xs:=[a.1]) (.cons () [] rfl .nil) rfl rfl rfl rfl rfl rfl rfl) λJ=> ?_
     refine L.frz 0 rfl ?_
     have ⟨_,x,y⟩:=bnd l
     refine La [0] [0] (Ac.ap (ty:=(Ty.int .i64)) x rfl rfl rfl rfl rfl rfl rfl) ?_
     rintro ⟨z,A⟩
     refine Z0 ?_
     cases y
     exact Eg (z,A) trivial [0,0] [] 2
    refine Z0 ?_
    cases l
    exact Eg (b,c) trivial [0,0] [] 1
   rintro ⟨f,g⟩
   refine Z0 ?_
   cases u
   exact Eg (_,(f,g)) (q _ rfl) [0,0] [] 0
  refine Z0 ?_
  cases j
  have hb:=s _ rfl
  subst i
  exact Eg (b,c) trivial [0,0] [] 0
 rintro ⟨d,e⟩
 refine Z1 ?_
 cases o
 exact Eo1 (d,e) [0] []
theorem uN {s_:bZ} {r:ByteArray×Bool} (H:jY s_=some r):CT G 26 [.agg #[.int .i64 s_.key,.slice A0 s_.has.length C0,.slice A1 s_.parts.length C1]] [] [Im.sl Ty.bool A0 C0 s_.has,Im.sl Ty.str A1 C1 s_.parts] (λ_:Unit=> .tuple #[.string r.1,.bool r.2]) (λh=>[]) (λh=>[]):=by
 delta jY at H
 refine Cf Go.Proofs.Tryz.func26 λK=> ?_
 refine Z1 ?_
 refine Lx λg1=> ?_
 refine Z3 ?_
 have ⟨e,g,i⟩:=bnd H
 refine Tj0 [(4,.string e)] [1] [] [0] ?_ ?_
 ·refine Yl0 ?_
  refine Tq (η:=Unit) (λa h=>[(4,.string a.2),(10,.int .i64 a.1)]) [1,8,9] (λ_ _=>[]) [0] (λ_ _=>[]) () [0] [] g ?_
  rintro k_ a ⟨⟩ v j k l
  refine Y2 ?_
  refine Tb j (λb=> ?_) λb=> ?_
  ·refine Z1 ?_
   refine Zl ?_
   refine Z1 ?_
   have ⟨w,c,m⟩:=bnd b
   refine L.addr 1 rfl (bH c) λx y n=> ?_
   subst n
   refine Ly (Yl.ia c rfl rfl rfl rfl rfl rfl) ?_
   refine L.el 1 rfl (aJ c).2 ?_
   rintro _
   refine Lc 0 0 ?_
   refine Z0 ?_
   have ⟨_,o,p⟩:=bnd m
   refine Ly (Yl.sa o rfl rfl rfl) ?_
   refine Z0 ?_
   cases p
   exact Eg (_,()) (k _ rfl) [0] [] 1
  refine Z0 ?_
  cases b
  have hb:=l _ rfl
  subst e
  exact Eg0 [0] 0
 refine Y1 ?_
 have ⟨f,q,s⟩:=bnd i
 refine Tj0 [(2,.string f.1),(3,.bool f.2)] [] [] [0] ?_ ?_
 ·refine Z0 ?_
  refine Lw 22 q (λd=> ?_) λd=> ?_
  ·refine Z0 ?_
   have ⟨z,t,u⟩:=bnd d
   refine Lk [] [0,1] (nz t) λ⟨A,B⟩=> ?_
   refine Z0 ?_
   cases u
   exact Eg0 [1] 0
  refine Z0 ?_
  cases d
  exact Eg0 [0] 0
 refine Z0 ?_
 cases s
 exact Eo () [] [] (.tmp rfl (.tmp rfl .nil))
theorem nA {s_:aV} {r:Bool} (H:gA s_=some r):CT G 97 [.agg (tf s_ A0 C0 A1 C1).toArray] [] [Im.sl bA A0 C0 s_.rows,Im.sl aP A1 C1 s_.begun] (λ_:Unit=> .bool r) (λh=>[]) (λh=>[]):=by
 delta gA at H
 refine Cf Go.Proofs.Tryz.func97 λK=> ?_
 refine Z1 ?_
 refine Lx λg1=> ?_
 refine Y1 ?_
 have ⟨k,l,m⟩:=bnd H
 refine Tj0 [(2,.bool k)] [] [] [0] ?_ ?_
 ·refine Z0 ?_
  refine Lw 6 l (λa=> ?_) λa=> ?_
  ·refine Z0 ?_
   refine Lw 11 a (λb=> ?_) λb=> ?_
   ·refine Z0 ?_
    refine Lw 16 b (λc=> ?_) λc=> ?_
    ·refine Z0 ?_
     refine Lw 21 c (λd=> ?_) λd=> ?_
     ·refine Z0 ?_
      refine Lw 26 d (λe=> ?_) λe=> ?_
      ·refine Z0 ?_
       refine Lw 31 e (λf=> ?_) λf=> ?_
       ·refine Z0 ?_
        refine Lw 37 f (λg=> ?_) λg=> ?_
        ·refine Z0 ?_
         refine Lw 42 g (λi=> ?_) λi=> ?_
         ·refine Z0 ?_
          refine Lw 47 i (λj=> ?_) λj=> ?_
          ·refine Z0 ?_
           cases j
           exact Eg0 [0] 0
          refine Z0 ?_
          cases j
          exact Eg0 [0] 0
         refine Z0 ?_
         cases i
         exact Eg0 [0] 0
        refine Z0 ?_
        cases g
        exact Eg0 [0] 0
       refine Z0 ?_
       cases f
       exact Eg0 [0] 0
      refine Z0 ?_
      cases e
      exact Eg0 [0] 0
     refine Z0 ?_
     cases d
     exact Eg0 [0] 0
    refine Z0 ?_
    cases c
    exact Eg0 [0] 0
   refine Z0 ?_
   cases b
   exact Eg0 [0] 0
  refine Z0 ?_
  cases a
  exact Eg0 [0] 0
 refine Z0 ?_
 cases m
 exact Eo1 () [] []
end Go.Tw.X

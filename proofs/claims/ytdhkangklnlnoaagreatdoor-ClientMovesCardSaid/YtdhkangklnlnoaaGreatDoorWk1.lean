import Derived.Test.YtdhkangklnlnoaaGreatDoorFw2
import Derived.Test.YtdhkangklnlnoaaGreatDoorProg
import Derived.Test.YtdhkangklnlnoaaGreatDoorXp1
set_option maxHeartbeats 2000000
set_option linter.unusedVariables false
set_option linter.unusedSimpArgs false
set_option maxRecDepth 10000
namespace Go.Tw.X
open Go Go.Tw
def mN:Ty jJ:=⟨5,Unit,λx h=>[.int .i64 x.kind,.int .i64 x.later,.int .i64 x.from_,.int .i64 x.to,.string x.text],λx h=>[],λ_ _=>rfl,by simp [Value.oneCell']⟩
def jM:Ty aV:=⟨4,(Option Addr×Nat),λx h=>[.int .i64 x.aT,.int .i64 x.kind,.slice h.1 x.aX.length h.2,.string x.data],λx h=>[Im.sl (Ty.int .i64) h.1 h.2 x.aX],λ_ _=>rfl,by simp [Value.oneCell']⟩
def aC:Ty aB:=⟨2,Unit,λx h=>[.int .i64 x.from_,.int .i64 x.to],λx h=>[],λ_ _=>rfl,by simp [Value.oneCell']⟩
def fj:Ty dF:=⟨3,Unit,λx h=>[.int .i64 x.rune,.int .i64 x.bW,.int .i64 x.part],λx h=>[],λ_ _=>rfl,by simp [Value.oneCell']⟩
def bB:Ty bN:=⟨2,(Option Addr×Nat),λx h=>[.slice h.1 x.l.length h.2,.bool x.wrapped],λx h=>[Im.sl fj h.1 h.2 x.l],λ_ _=>rfl,by simp [Value.oneCell']⟩
def aJ:Ty aQ:=⟨2,Unit,λx h=>[.int .i64 x.rune,.int .i64 x.bW],λx h=>[],λ_ _=>rfl,by simp [Value.oneCell']⟩
def bF:Ty dP:=⟨2,(Option Addr×Nat),λx h=>[.int .i64 x.i,.slice h.1 x.l.length h.2],λx h=>[Im.sl aJ h.1 h.2 x.l],λ_ _=>rfl,by simp [Value.oneCell']⟩
def aR:Ty aD:=⟨2,Unit,λx h=>[.int .i64 x.from_,.int .i64 x.to],λx h=>[],λ_ _=>rfl,by simp [Value.oneCell']⟩
def cC:Ty aO:=⟨3,Unit,λx h=>[.int .i32 x.rune,.int .i64 x.bW,.int .i64 x.part],λx h=>[],λ_ _=>rfl,by simp [Value.oneCell']⟩
def aU:Ty aY:=⟨2,(Option Addr×Nat),λx h=>[.slice h.1 x.cells.length h.2,.bool x.wrapped],λx h=>[Im.sl cC h.1 h.2 x.cells],λ_ _=>rfl,by simp [Value.oneCell']⟩
def aF:Ty aM:=⟨2,Unit,λx h=>[.int .i32 x.rune,.int .i64 x.bW],λx h=>[],λ_ _=>rfl,by simp [Value.oneCell']⟩
def aE:Ty CacheEntry:=⟨2,(Option Addr×Nat),λx h=>[.slice h.1 x.l.length h.2,.int .i64 x.at_],λx h=>[Im.sl aF h.1 h.2 x.l],λ_ _=>rfl,by simp [Value.oneCell']⟩
abbrev Hl (x:jJ):List Value:=[.int .i64 x.kind,.int .i64 x.later,.int .i64 x.from_,.int .i64 x.to,.string x.text]
abbrev qR (x:aV) (a1:Option Addr) (c1:Nat):List Value:=[.int .i64 x.aT,.int .i64 x.kind,.slice a1 x.aX.length c1,.string x.data]
abbrev xX (x:bJ) (a1:Option Addr) (c1:Nat) (a2:Option Addr) (c2:Nat):List Value:=[.int .i64 x.k,.int .i64 x.w,.int .i64 x.h,.int .i64 x.x,.int .i64 x.y,.string x.title,.slice a1 x.rows.length c1,.int .i64 x.len,.int .i64 x.chain,.slice a2 x.begun.length c2]
abbrev GF (x:dL) (a1:Option Addr) (c1:Nat) (a2:Option Addr) (c2:Nat) (a3:Option Addr) (c3:Nat) (a4:Option Addr) (c4:Nat):List Value:=[.int .i64 x.aK.k,.int .i64 x.aK.w,.int .i64 x.aK.h,.int .i64 x.aK.x,.int .i64 x.aK.y,.string x.aK.title,.slice a1 x.aK.rows.length c1,.int .i64 x.aK.len,.int .i64 x.aK.chain,.slice a2 x.aK.begun.length c2,.int .i64 x.slot.key,.slice a3 x.slot.has.length c3,.slice a4 x.slot.parts.length c4]
abbrev wB (x:bR) (a1:Option Addr) (c1:Nat):List Value:=[.int .i64 x.most,.int .i64 x.every,.int .i64 x.due,.slice a1 x.l.length c1]
abbrev nO (x:aL) (a1:Option Addr) (c1:Nat) (a2:Option Addr) (c2:Nat) (a3:Option Addr) (c3:Nat) (a4:Option Addr) (c4:Nat) (a5:Option Addr) (c5:Nat) (a6:Option Addr) (c6:Nat):List Value:=[.int .i64 x.most,.int .i64 x.every,.int .i64 x.addr,.int .i64 x.aT,.int .i64 x.due,.int .i64 x.t.aK.k,.int .i64 x.t.aK.w,.int .i64 x.t.aK.h,.int .i64 x.t.aK.x,.int .i64 x.t.aK.y,.string x.t.aK.title,.slice a1 x.t.aK.rows.length c1,.int .i64 x.t.aK.len,.int .i64 x.t.aK.chain,.slice a2 x.t.aK.begun.length c2,.int .i64 x.t.slot.key,.slice a3 x.t.slot.has.length c3,.slice a4 x.t.slot.parts.length c4,.int .i64 x.l.most,.slice a5 x.l.l.length c5,.int .i64 x.f.most,.int .i64 x.f.every,.int .i64 x.f.due,.slice a6 x.f.l.length c6]
abbrev oG (x:aN) (a1:Option Addr) (c1:Nat) (a2:Option Addr) (c2:Nat):List Value:=[.int .i64 x.k,.int .i64 x.w,.int .i64 x.h,.int .i64 x.x,.int .i64 x.y,.string x.title,.slice a1 x.rows.length c1,.int .i64 x.len,.int .i64 x.chain,.slice a2 x.begun.length c2]
abbrev ko (x:aH) (g1:Nat) (g2:Nat) (g3:Nat):List Value:=[.int .i64 x.config.cache,.int .i64 x.config.every,.int .i64 x.config.addr,.int .i64 x.aT,.int .i64 x.due,.pointer (some ⟨g1,0,none⟩),.pointer (some ⟨g2,0,none⟩),.pointer (some ⟨g3,0,none⟩)]
abbrev oH (x:bA) (a1:Option Addr) (c1:Nat):List Value:=[.int .i64 x.aT,.int .i64 x.kind,.slice a1 x.aX.length c1,.string x.data]
abbrev cP (x:bU) (v1:Option Nat):List Value:=[.int .i64 x.key,.int .i64 x.count,.map v1,.int .i64 x.bytes]
abbrev eS (x:aZ) (g1:Nat) (a2:Option Addr) (c2:Nat) (a3:Option Addr) (c3:Nat):List Value:=[.pointer (some ⟨g1,0,none⟩),.int .i64 x.aK.k,.int .i64 x.aK.w,.int .i64 x.aK.h,.int .i64 x.aK.x,.int .i64 x.aK.y,.string x.aK.title,.slice a2 x.aK.rows.length c2,.int .i64 x.aK.len,.int .i64 x.aK.chain,.slice a3 x.aK.begun.length c3]
abbrev eT (x:bE) (g1:Nat):List Value:=[.int .i64 x.most,.int .i64 x.every,.int .i64 x.due,.pointer (some ⟨g1,0,none⟩)]
abbrev xY (x:bT) (a1:Option Addr) (c1:Nat) (a2:Option Addr) (c2:Nat) (v3:Option Nat):List Value:=[.int .i64 x.sum,.int .i64 x.to.k,.int .i64 x.to.w,.int .i64 x.to.h,.int .i64 x.to.x,.int .i64 x.to.y,.string x.to.title,.slice a1 x.to.rows.length c1,.int .i64 x.to.len,.int .i64 x.to.chain,.slice a2 x.to.begun.length c2,.map v3]
abbrev Az (x:bT) (a2:Option Addr) (c2:Nat) (v3:Option Nat):List Value:=[.int .i64 x.sum,.int .i64 x.to.k,.int .i64 x.to.w,.int .i64 x.to.h,.int .i64 x.to.x,.int .i64 x.to.y,.string x.to.title,.slice none 0 0,.int .i64 x.to.len,.int .i64 x.to.chain,.slice a2 x.to.begun.length c2,.map v3]
def tab:Tab:=[(3,⟨.int .i64,1,8,[.int .i64 0],false,false⟩),
  (4,⟨.bool,1,1,[.bool false],false,false⟩),
  (5,⟨.int .u8,1,1,[.int .u8 0],false,false⟩),
  (9,⟨.string,1,16,[.string ⟨#[]⟩],false,false⟩),
  (21,⟨.int .i32,1,4,[.int .i32 0],false,false⟩),
  (23,⟨.struct [(3,0),(3,1),(3,2)],3,24,[.int .i64 0,.int .i64 0,.int .i64 0],true,false⟩),
  (24,⟨.slice 31,1,24,[.slice none 0 0],false,false⟩),
  (27,⟨.pointer 94,1,8,[.pointer none],false,false⟩),
  (29,⟨.struct [(3,0),(3,1),(3,2)],3,24,[.int .i64 0,.int .i64 0,.int .i64 0],true,false⟩),
  (31,⟨.struct [(3,0),(3,1),(3,2),(3,3),(9,4)],5,48,[.int .i64 0,.int .i64 0,.int .i64 0,.int .i64 0,.string ⟨#[]⟩],true,false⟩),
  (32,⟨.int .i64,1,8,[.int .i64 0],false,false⟩),
  (35,⟨.slice 9,1,24,[.slice none 0 0],false,false⟩),
  (37,⟨.slice 3,1,24,[.slice none 0 0],false,false⟩),
  (39,⟨.struct [(3,0),(3,1),(37,2),(9,3)],4,56,[.int .i64 0,.int .i64 0,.slice none 0 0,.string ⟨#[]⟩],true,false⟩),
  (44,⟨.slice 47,1,24,[.slice none 0 0],false,false⟩),
  (47,⟨.struct [(3,0),(3,1)],2,16,[.int .i64 0,.int .i64 0],true,false⟩),
  (49,⟨.slice 265,1,24,[.slice none 0 0],false,false⟩),
  (50,⟨.slice 191,1,24,[.slice none 0 0],false,false⟩),
  (51,⟨.slice 191,1,24,[.slice none 0 0],false,false⟩),
  (53,⟨.struct [(3,0),(3,1),(3,2),(3,3),(3,4),(9,5),(49,6),(3,7),(3,8),(51,9)],10,120,[.int .i64 0,.int .i64 0,.int .i64 0,.int .i64 0,.int .i64 0,.string ⟨#[]⟩,.slice none 0 0,.int .i64 0,.int .i64 0,.slice none 0 0],true,false⟩),
  (54,⟨.slice 4,1,24,[.slice none 0 0],false,false⟩),
  (56,⟨.struct [(3,0),(54,1),(35,2)],3,56,[.int .i64 0,.slice none 0 0,.slice none 0 0],true,false⟩),
  (58,⟨.struct [(53,0),(56,10)],13,176,[.int .i64 0,.int .i64 0,.int .i64 0,.int .i64 0,.int .i64 0,.string ⟨#[]⟩,.slice none 0 0,.int .i64 0,.int .i64 0,.slice none 0 0,.int .i64 0,.slice none 0 0,.slice none 0 0],true,false⟩),
  (59,⟨.slice 119,1,24,[.slice none 0 0],false,false⟩),
  (61,⟨.struct [(3,0),(59,1)],2,32,[.int .i64 0,.slice none 0 0],true,false⟩),
  (62,⟨.slice 187,1,24,[.slice none 0 0],false,false⟩),
  (64,⟨.struct [(3,0),(3,1),(3,2),(62,3)],4,48,[.int .i64 0,.int .i64 0,.int .i64 0,.slice none 0 0],true,false⟩),
  (66,⟨.struct [(3,0),(3,1),(3,2),(3,3),(3,4),(58,5),(61,18),(64,20)],24,296,[.int .i64 0,.int .i64 0,.int .i64 0,.int .i64 0,.int .i64 0,.int .i64 0,.int .i64 0,.int .i64 0,.int .i64 0,.int .i64 0,.string ⟨#[]⟩,.slice none 0 0,.int .i64 0,.int .i64 0,.slice none 0 0,.int .i64 0,.slice none 0 0,.slice none 0 0,.int .i64 0,.slice none 0 0,.int .i64 0,.int .i64 0,.int .i64 0,.slice none 0 0],true,false⟩),
  (68,⟨.slice 144,1,24,[.slice none 0 0],false,false⟩),
  (69,⟨.slice 149,1,24,[.slice none 0 0],false,false⟩),
  (71,⟨.struct [(3,0),(3,1),(3,2),(3,3),(3,4),(9,5),(68,6),(3,7),(3,8),(69,9)],10,120,[.int .i64 0,.int .i64 0,.int .i64 0,.int .i64 0,.int .i64 0,.string ⟨#[]⟩,.slice none 0 0,.int .i64 0,.int .i64 0,.slice none 0 0],true,false⟩),
  (87,⟨.pointer 155,1,8,[.pointer none],false,false⟩),
  (89,⟨.pointer 158,1,8,[.pointer none],false,false⟩),
  (91,⟨.pointer 161,1,8,[.pointer none],false,false⟩),
  (94,⟨.struct [(29,0),(3,3),(3,4),(87,5),(89,6),(91,7)],8,64,[.int .i64 0,.int .i64 0,.int .i64 0,.int .i64 0,.int .i64 0,.pointer none,.pointer none,.pointer none],true,false⟩),
  (96,⟨.slice 39,1,24,[.slice none 0 0],false,false⟩),
  (106,⟨.struct [(44,0)],1,24,[.slice none 0 0],true,false⟩),
  (119,⟨.struct [(3,0),(51,1)],2,32,[.int .i64 0,.slice none 0 0],true,false⟩),
  (123,⟨.struct [(3,0),(3,1),(37,2),(9,3)],4,56,[.int .i64 0,.int .i64 0,.slice none 0 0,.string ⟨#[]⟩],true,false⟩),
  (128,⟨.slice 51,1,24,[.slice none 0 0],false,false⟩),
  (142,⟨.slice 222,1,24,[.slice none 0 0],false,false⟩),
  (144,⟨.struct [(142,0),(4,1)],2,32,[.slice none 0 0,.bool false],true,false⟩),
  (149,⟨.struct [(21,0),(3,1)],2,16,[.int .i32 0,.int .i64 0],true,true⟩),
  (150,⟨.pointer 153,1,8,[.pointer none],false,false⟩),
  (151,⟨.map 3 9,1,8,[.map none],false,false⟩),
  (153,⟨.struct [(3,0),(3,1),(151,2),(3,3)],4,32,[.int .i64 0,.int .i64 0,.map none,.int .i64 0],true,false⟩),
  (155,⟨.struct [(150,0),(71,1)],11,128,[.pointer none,.int .i64 0,.int .i64 0,.int .i64 0,.int .i64 0,.int .i64 0,.string ⟨#[]⟩,.slice none 0 0,.int .i64 0,.int .i64 0,.slice none 0 0],true,false⟩),
  (156,⟨.map 3 183,1,8,[.map none],false,false⟩),
  (158,⟨.struct [(3,0),(3,1),(156,2)],3,24,[.int .i64 0,.int .i64 0,.map none],true,false⟩),
  (159,⟨.pointer 106,1,8,[.pointer none],false,false⟩),
  (161,⟨.struct [(3,0),(3,1),(3,2),(159,3)],4,32,[.int .i64 0,.int .i64 0,.int .i64 0,.pointer none],true,false⟩),
  (162,⟨.slice 69,1,24,[.slice none 0 0],false,false⟩),
  (171,⟨.slice 5,1,24,[.slice none 0 0],false,false⟩),
  (174,⟨.int .u32,1,4,[.int .u32 0],false,false⟩),
  (177,⟨.struct [(9,0),(32,1)],2,24,[.string ⟨#[]⟩,.int .i64 0],true,false⟩),
  (183,⟨.struct [(69,0),(3,1)],2,32,[.slice none 0 0,.int .i64 0],true,false⟩),
  (187,⟨.struct [(3,0),(3,1)],2,16,[.int .i64 0,.int .i64 0],true,true⟩),
  (191,⟨.struct [(3,0),(3,1)],2,16,[.int .i64 0,.int .i64 0],true,false⟩),
  (193,⟨.struct [(9,0),(3,1)],2,24,[.string ⟨#[]⟩,.int .i64 0],true,false⟩),
  (222,⟨.struct [(21,0),(3,1),(3,2)],3,24,[.int .i32 0,.int .i64 0,.int .i64 0],true,true⟩),
  (224,⟨.struct [(171,0)],1,24,[.slice none 0 0],true,false⟩),
  (226,⟨.pointer 224,1,8,[.pointer none],false,false⟩),
  (238,⟨.pointer 240,1,8,[.pointer none],false,false⟩),
  (240,⟨.struct [(238,0),(171,1)],2,32,[.pointer none,.slice none 0 0],true,false⟩),
  (246,⟨.map 3 144,1,8,[.map none],false,false⟩),
  (248,⟨.struct [(3,0),(71,1),(246,11)],12,136,[.int .i64 0,.int .i64 0,.int .i64 0,.int .i64 0,.int .i64 0,.int .i64 0,.string ⟨#[]⟩,.slice none 0 0,.int .i64 0,.int .i64 0,.slice none 0 0,.map none],true,false⟩),
  (253,⟨.int .u64,1,8,[.int .u64 0],false,false⟩),
  (258,⟨.slice 44,1,24,[.slice none 0 0],false,false⟩),
  (263,⟨.slice 298,1,24,[.slice none 0 0],false,false⟩),
  (265,⟨.struct [(263,0),(4,1)],2,32,[.slice none 0 0,.bool false],true,false⟩),
  (296,⟨.array 16 174,16,64,[.int .u32 0,.int .u32 0,.int .u32 0,.int .u32 0,.int .u32 0,.int .u32 0,.int .u32 0,.int .u32 0,.int .u32 0,.int .u32 0,.int .u32 0,.int .u32 0,.int .u32 0,.int .u32 0,.int .u32 0,.int .u32 0],true,false⟩),
  (298,⟨.struct [(3,0),(3,1),(3,2)],3,24,[.int .i64 0,.int .i64 0,.int .i64 0],true,true⟩),
  (316,⟨.array 3 3,3,24,[.int .i64 0,.int .i64 0,.int .i64 0],true,false⟩),
  (323,⟨.int .u64,1,8,[.int .u64 0],false,false⟩)]
theorem GG:jz Go.Proofs.Tryz.prog tab:=zu (by kernel_rfl)
noncomputable def G:Pg:=⟨Go.Proofs.Tryz.prog,tab,GG,none⟩
theorem mo:G.P.follows .mixedOrders=true:=by kernel_rfl
theorem Fy:D7 G.P 5=true:=by kernel_rfl
theorem DU:yE G.P 9 false=true:=by kernel_rfl
theorem Fl:yE G.P 144 true=true:=by kernel_rfl
theorem o3:yE G.P 183 true=true:=by kernel_rfl
variable {A0 A1 A2 A3 A4 A5 A6 A7 A8 : Option Addr} {C0 C1 C2 C3 C4 C5 C6 C7 C8 : Nat}
variable {N0 N1 N2 N3 N4 N5 : Nat}
variable {M0 M1 : Option Nat}
theorem jk {n_:Int} {lo:Int} {hi:Int} {r:Int} (H:dK n_ lo hi=some r):CT G 30 [.int .i64 n_,.int .i64 lo,.int .i64 hi] [] [] (λ_:Unit=> .int .i64 r) (λh=>[]) (λh=>[]):=by
 delta dK at H
 refine Cf Go.Proofs.Tryz.func30 λK=> ?_
 refine Z2 ?_
 cases H
 exact Eo1 () [] []
theorem su {r:aZ} (H:lJ=some r):CT G 31 [] [] [] (λh:Nat×Nat×Option Nat×(Option Addr×Nat)×(Option Addr×Nat)=> .pointer (some ⟨h.1,0,none⟩)) (λh=>[Ch.box h.1 155 (eS r h.2.1 h.2.2.2.1.1 h.2.2.2.1.2 h.2.2.2.2.1 h.2.2.2.2.2),Ch.box h.2.1 153 (cP r.slot h.2.2.1),Ch.mp Ty.str false h.2.2.1 r.slot.parts]) (λh=>[Im.sl aU h.2.2.2.1.1 h.2.2.2.1.2 r.aK.rows,Im.sl aF h.2.2.2.2.1 h.2.2.2.2.2 r.aK.begun]):=by
 delta lJ at H
 refine Cf Go.Proofs.Tryz.func31 λK=> ?_
 refine Z2 ?_
 refine Lx λg1=> ?_
 refine Z0 ?_
 refine Lx λg2=> ?_
 refine Z0 ?_
 refine E.mp0 Ty.str false ?_
 refine E.dD [Im.sl aU none 0 []] (λA w _ _ f hf=>by rw [List.mem_singleton.1 hf]; exact Im.bV A w) ?_
 refine E.dD [Im.sl aF none 0 []] (λA w _ _ f hf=>by rw [List.mem_singleton.1 hf]; exact Im.bV A w) ?_
 cases H
 exact Eo1 (g2,g1,none,(none,0),(none,0)) [1,1,0] [1,0]
theorem xZ {most:Int} {r:aP} (H:kA most=some r):CT G 32 [.int .i64 most] [] [] (λh:Nat×Option Nat=> .pointer (some ⟨h.1,0,none⟩)) (λh=>[Ch.box h.1 158 [.int .i64 r.most,.int .i64 r.now,.map h.2],Ch.mp aE true h.2 r.l]) (λh=>[]):=by
 delta kA at H
 refine Cf Go.Proofs.Tryz.func32 λK=> ?_
 refine Z2 ?_
 refine La [] [] (Ac.mkm (ty:=aE) (ag:=true) rfl rfl rfl) λg1=> ?_
 refine Z0 ?_
 refine Lx λg3=> ?_
 refine Z0 ?_
 cases H
 exact Eo1 (g3,(some g1)) [0,0] []
theorem mv {n_:Int} {lo:Int} {hi:Int} {r:Int} (H:fJ n_ lo hi=some r):CT G 75 [.int .i64 n_,.int .i64 lo,.int .i64 hi] [] [] (λ_:Unit=> .int .i64 r) (λh=>[]) (λh=>[]):=by
 delta fJ at H
 refine Cf Go.Proofs.Tryz.func75 λK=> ?_
 refine Z2 ?_
 cases H
 exact Eo1 () [] []
theorem x4 {most:Int} {every:Int} {r:bE} (H:kB most every=some r):CT G 33 [.int .i64 most,.int .i64 every] [] [] (λh:Nat×Nat×(Option Addr×Nat)=> .pointer (some ⟨h.1,0,none⟩)) (λh=>[Ch.box h.1 161 (eT r h.2.1),Ch.box h.2.1 106 [.slice h.2.2.1 r.want.l.length h.2.2.2]]) (λh=>[Im.sl aC h.2.2.1 h.2.2.2 r.want.l]):=by
 delta kB at H
 refine Cf Go.Proofs.Tryz.func33 λK=> ?_
 refine Z2 ?_
 have ⟨r1,h2,H3⟩:=bnd H
 refine Lk [] [] (mv h2) λ⟨⟩=> ?_
 refine Z0 ?_
 have ⟨r4,h5,H6⟩:=bnd H3
 refine Lk [] [] (mv h5) λ⟨⟩=> ?_
 refine Z0 ?_
 refine Lx λg7=> ?_
 refine Z0 ?_
 refine Lx λg8=> ?_
 refine Z0 ?_
 refine E.dD [Im.sl aC none 0 []] (λA w _ _ f hf=>by rw [List.mem_singleton.1 hf]; exact Im.bV A w) ?_
 cases H6
 exact Eo1 (g8,g7,(none,0)) [0,0] [0]
theorem qS {c:gQ} {r:aH} (H:iT c=some r):CT G 10 [.agg #[.int .i64 c.cache,.int .i64 c.every,.int .i64 c.addr]] [] [] (λh:Nat×Nat×Nat×Option Nat×(Option Addr×Nat)×(Option Addr×Nat)×Nat×Option Nat×Nat×Nat×(Option Addr×Nat)=> .pointer (some ⟨h.1,0,none⟩)) (λh=>[Ch.box h.1 94 (ko r h.2.1 h.2.2.2.2.2.2.1 h.2.2.2.2.2.2.2.2.1),Ch.box h.2.1 155 (eS r.aS h.2.2.1 h.2.2.2.2.1.1 h.2.2.2.2.1.2 h.2.2.2.2.2.1.1 h.2.2.2.2.2.1.2),Ch.box h.2.2.1 153 (cP r.aS.slot h.2.2.2.1),Ch.mp Ty.str false h.2.2.2.1 r.aS.slot.parts,Ch.box h.2.2.2.2.2.2.1 158 [.int .i64 r.lines.most,.int .i64 r.lines.now,.map h.2.2.2.2.2.2.2.1],Ch.mp aE true h.2.2.2.2.2.2.2.1 r.lines.l,Ch.box h.2.2.2.2.2.2.2.2.1 161 (eT r.bS h.2.2.2.2.2.2.2.2.2.1),Ch.box h.2.2.2.2.2.2.2.2.2.1 106 [.slice h.2.2.2.2.2.2.2.2.2.2.1 r.bS.want.l.length h.2.2.2.2.2.2.2.2.2.2.2]]) (λh=>[Im.sl aU h.2.2.2.2.1.1 h.2.2.2.2.1.2 r.aS.aK.rows,Im.sl aF h.2.2.2.2.2.1.1 h.2.2.2.2.2.1.2 r.aS.aK.begun,Im.sl aC h.2.2.2.2.2.2.2.2.2.2.1 h.2.2.2.2.2.2.2.2.2.2.2 r.bS.want.l]):=by
 delta iT at H
 refine Cf Go.Proofs.Tryz.func10 λK=> ?_
 refine Z1 ?_
 refine Lx λg1=> ?_
 refine Y1 ?_
 refine Td [10] [0] mo ?_
 refine Dq 0 ?_
 refine Db 1 0 ?_
 refine Dq 3 ?_
 refine Db 4 0 ?_
 refine Dq 6 ?_
 refine Db 7 0 ?_
 have ⟨I,a,b⟩:=bnd H
 refine Dk [] [] (jk a) λ⟨⟩=> ?_
 have ⟨J,d,e⟩:=bnd b
 refine Dk [] [] (jk d) λ⟨⟩=> ?_
 have ⟨M,f,g⟩:=bnd e
 refine Dk [] [] (jk f) λ⟨⟩=> ?_
 refine Dq 9 ?_
 refine Dt 0 ?_
 refine Dn ?_
 refine Y1 ?_
 refine Td [] [0] mo ?_
 refine Db 0 0 ?_
 refine Dq 2 ?_
 refine Db 3 0 ?_
 refine Dq 5 ?_
 refine Db 6 0 ?_
 refine Dq 7 ?_
 refine Db 8 0 ?_
 have ⟨N,i,j⟩:=bnd g
 refine Dk [] [] (su i) λ⟨k,m,n,⟨o,p⟩,⟨q,s⟩⟩=> ?_
 have ⟨O,t,u⟩:=bnd j
 refine Dk [] [] (xZ t) λ⟨v,w⟩=> ?_
 have ⟨P,x,y⟩:=bnd u
 refine Dk [] [] (x4 x) λ⟨z,A,⟨B,C⟩⟩=> ?_
 refine Dq 10 ?_
 refine Da [] [] rfl rfl (Ac.box rfl rfl) λF=> ?_
 refine Dq 12 ?_
 refine Dn ?_
 refine Z0 ?_
 cases y
 exact Eo1 (F,k,m,n,(o,p),(q,s),v,w,z,A,(B,C)) [1,5,5,5,3,3,1,1] [1,2,0]
theorem pS {s_:bU} {r:Int} (H:gD s_=some r):CT G 86 [.pointer (some ⟨N0,0,none⟩)] [Ch.box N0 153 (cP s_ M0),Ch.mp Ty.str false M0 s_.parts] [] (λ_:Unit=> .int .i64 r) (λh=>[Ch.box N0 153 (cP s_ M0),Ch.mp Ty.str false M0 s_.parts]) (λh=>[]):=by
 delta gD at H
 refine Cf Go.Proofs.Tryz.func86 λK=> ?_
 refine Z2 ?_
 cases H
 exact Eo1 () [0,0] []
theorem m6 {σ η:Type} {s_:bU} {Y:σ->(Int×Bool)->Option (σ×Bool)} {y0:σ} (g_0:Nat) (v_0_0:Option Nat) {yl:Nat} {C:σ->η->Ch} (hY: ∀ s (h:η) (x:Int×Bool) (t:Unit) z,Y s x=some z->YT G yl [.int .i64 x.1,.bool x.2] [C s h,Ch.box g_0 153 (cP s_ v_0_0),Ch.mp Ty.str false v_0_0 s_.parts] [] (λ_:η=> .bool z.2) (λh2=>[C z.1 h2,Ch.box g_0 153 (cP s_ v_0_0),Ch.mp Ty.str false v_0_0 s_.parts]) (λ_=>[])) (h0:η) {r:σ} (H:gi s_ Y y0=some r):CT G 145 [.pointer (some ⟨g_0,0,none⟩),.func (.yield yl) #[] #[]] [C y0 h0,Ch.box g_0 153 (cP s_ v_0_0),Ch.mp Ty.str false v_0_0 s_.parts] [] (λh:η=> .tuple #[]) (λh=>[C r h,Ch.box g_0 153 (cP s_ v_0_0),Ch.mp Ty.str false v_0_0 s_.parts]) (λh=>[]):=by
  delta gi at H
  refine Cf Go.Proofs.Tryz.func145 λK=> ?_
  refine Z1 ?_
  have ⟨e,m,j⟩:=bnd H
  refine T.ou (η:=σ×(η)) (λh=>e = .inl h.1) (λh=>(λc=>(λb=>[]) h.2) h.1) (λh=>(λc=>(λb=>[C c b,Ch.box g_0 153 (cP s_ v_0_0),Ch.mp Ty.str false v_0_0 s_.parts]) h.2) h.1) (λh=>(λc=>(λb=>[]) h.2) h.1) ?_ ?_
  ·refine Yl0 ?_
   refine Tq (η:=η) (λa h=>(λd=>[(11,.int .i64 a.1)]) h) [0,1,10] (λa h=>(λd=>[C a.2 d]) h) [1,2] (λ_ _=>[]) h0 [0,0,0] [] m ?_
   rintro k_ a d n o p k
   refine Y2 ?_
   refine Tb o (λg=> ?_) λg=> ?_
   ·refine Z1 ?_
    refine Zl ?_
    refine Z2 ?_
    refine La [2] [] (Ac.ml (ty:=Ty.str) (ag:=false) (vv:=(λh:Unit=> .string (mgd s_.parts a.1 (ByteArray.mk #[])))) a.1 (ByteArray.mk #[]) () rfl rfl rfl rfl rfl rfl rfl rfl rfl (λ_ _ f hf=>by cases hf) DU (λ_=>rfl)) ?_
    rintro ⟨⟩
    refine Z1 ?_
    have ⟨w,q,u⟩:=bnd g
    refine L.yd [1,1,0] [] (hY _ _ _ () _ q) rfl rfl rfl rfl rfl rfl rfl rfl ?_
    intro l
    refine Z0 ?_
    refine Tb u (λi=> ?_) λi=> ?_
    ·refine Z0 ?_
     obtain ⟨y,hz,v⟩:=cK i
     subst n
     have hb:=k _ rfl
     subst e
     obtain rfl:=(sm j).symm
     refine Z0 ?_
     cases v
     exact Eo l [0,0,0] [] .nil
    refine Z0 ?_
    cases i
    exact Eg (_,l) (p _ rfl) [0,0,0] [] 0
   refine Z0 ?_
   cases g
   have hb:=k _ rfl
   subst e
   exact Egx (_,d) rfl [0,0,0] []
  rintro ⟨c,b⟩ hy
  subst hy
  refine E.off ?_
  cases j
  exact Eo b [0,0,0] [] .nil
theorem pT {s_:bU} {there:Bool} {r:(List Int)} (H:fT s_ there=some r):CT G 152 [.pointer (some ⟨N0,0,none⟩),.bool there] [Ch.box N0 153 (cP s_ M0),Ch.mp Ty.str false M0 s_.parts] [] (λh:(Option Addr×Nat)=> .slice h.1 r.length h.2) (λh=>[Ch.arr (Ty.int .i64) 3 h.1 h.2 r,Ch.box N0 153 (cP s_ M0),Ch.mp Ty.str false M0 s_.parts]) (λh=>[]):=by
 delta fT at H
 refine Cf Go.Proofs.Tryz.func152 λK=> ?_
 refine T.wZ ?_
 refine Z1 ?_
 refine Lx λg1=> ?_
 refine Z1 ?_
 refine Ll λg2=> ?_
 refine Z2 ?_
 refine Yl0 ?_
 refine T.fZ (Ty.int .i64) 3 ?_
 have ⟨f,g,i⟩:=bnd H
 refine T.rf3 (σ:=(List Int)) (η:=(Option Addr×Nat)) (X:=Int×Bool) (θ:=Unit) (τ:=(Option Addr×Nat)) (s1:=f) (hx:=λx=>x) (λx t=>[.int .i64 x.1,.bool x.2]) (λx t=>[]) (λ_=>none) [Ch.box N0 153 (cP s_ M0),Ch.mp Ty.str false M0 s_.parts] (λc h=>(λa b=>[Ch.arr (Ty.int .i64) 3 a b c,Ch.box g2 37 [.slice a c.length b],Ch.box g1 4 [.bool there]]) h.1 h.2) (λc h=>(λa b=>[]) h.1 h.2) 3 [0,0,0,0,0] [] [] rfl rfl (λ_ _=>rfl) rfl (λyl C hY=>(m6 N0 M0 hY (none,0) g:_)) (λ_ _ _ _=>rfl) rfl rfl rfl rfl rfl ?_ rfl ?_
 ·rintro yl K2 c ⟨a,b⟩ x3 ⟨⟩ o j
  refine Z1 ?_
  refine E.begin λK3=> ?_
  refine Zl ?_
  refine Z1 ?_
  refine Tb j (λd=> ?_) λd=> ?_
  ·refine Z0 ?_
   refine La [] [] (Ac.bs (ty:=(Ty.int .i64)) (xs:=[x3.1]) (.cons () [] rfl .nil) rfl rfl rfl rfl rfl rfl rfl) λp=> ?_
   refine L.frz 0 rfl ?_
   have ⟨_,k,l⟩:=bnd d
   refine La [0] [0] (Ac.ap (ty:=(Ty.int .i64)) k rfl rfl rfl rfl rfl rfl rfl) ?_
   rintro ⟨m,n⟩
   refine Lt 1 ?_
   refine Z0 ?_
   cases l
   exact E.on (m,n) [1,0,0,0,0] [] rfl rfl rfl rfl
  refine Z0 ?_
  cases d
  exact E.on (a,b) [0,0,0,0,0] [] rfl rfl rfl rfl
 rintro e q
 refine Z1 ?_
 cases i
 exact E.yB (e.1,e.2) 0 [0,2,2] [] rfl (.tmp rfl .nil) rfl rfl rfl
theorem qT {s_:bU} {r:(List Int)} (H:eH s_=some r):CT G 87 [.pointer (some ⟨N0,0,none⟩)] [Ch.box N0 153 (cP s_ M0),Ch.mp Ty.str false M0 s_.parts] [] (λh:(Option Addr×Nat)=> .slice h.1 r.length h.2) (λh=>[Ch.arr (Ty.int .i64) 3 h.1 h.2 r,Ch.box N0 153 (cP s_ M0),Ch.mp Ty.str false M0 s_.parts]) (λh=>[]):=by
 delta eH at H
 refine Cf Go.Proofs.Tryz.func87 λK=> ?_
 refine Z2 ?_
 have ⟨r1,h2,H3⟩:=bnd H
 refine Lk [0,0] [] (pT h2) λ⟨a4,c5⟩=> ?_
 refine Z0 ?_
 cases H3
 exact Eo1 (a4,c5) [0,0,0] []
theorem rS {s_:bU} {r:Int} (H:lk s_=some r):CT G 88 [.pointer (some ⟨N0,0,none⟩)] [Ch.box N0 153 (cP s_ M0),Ch.mp Ty.str false M0 s_.parts] [] (λ_:Unit=> .int .i64 r) (λh=>[Ch.box N0 153 (cP s_ M0),Ch.mp Ty.str false M0 s_.parts]) (λh=>[]):=by
 delta lk at H
 refine Cf Go.Proofs.Tryz.func88 λK=> ?_
 refine Z2 ?_
 cases H
 exact Eo1 () [0,0] []
theorem qU {t_:aZ} {r:aV} (H:dR t_=some r):CT G 37 [.pointer (some ⟨N0,0,none⟩)] [Ch.box N0 155 (eS t_ N1 A0 C0 A1 C1),Ch.box N1 153 (cP t_.slot M0),Ch.mp Ty.str false M0 t_.slot.parts] [Im.sl aU A0 C0 t_.aK.rows,Im.sl aF A1 C1 t_.aK.begun] (λh:(Option Addr×Nat)=> .agg (qR r h.1 h.2).toArray) (λh=>[Ch.box N0 155 (eS t_ N1 A0 C0 A1 C1),Ch.box N1 153 (cP t_.slot M0),Ch.mp Ty.str false M0 t_.slot.parts]) (λh=>[Im.sl (Ty.int .i64) h.1 h.2 r.aX]):=by
 delta dR at H
 refine Cf Go.Proofs.Tryz.func37 λK=> ?_
 refine Z1 ?_
 refine Ll λg1=> ?_
 refine Z1 ?_
 have ⟨r2,h3,H4⟩:=bnd H
 refine Lk [2,2] [] (pS h3) λ⟨⟩=> ?_
 refine Z0 ?_
 have ⟨_,h5,H6⟩:=bnd H4
 refine La [] [] (Ac.mk (ty:=(Ty.int .u8)) 0 () h5 (λ_ _ f hf=>by cases hf) rfl rfl rfl rfl rfl rfl rfl) λg7=> ?_
 refine Z2 ?_
 have ⟨r9,s,t⟩:=bnd H6
 refine Lk [1,1] [] (qT s) λ⟨U,V⟩=> ?_
 refine Z0 ?_
 have ⟨j,u,w⟩:=bnd t
 refine Tjh (η:=(Option Addr×Nat)) (λh=>(λg i=>[(3,.slice g j.length i)]) h.1 h.2) [0,2] (λh=>(λg i=>[Ch.arr (Ty.int .u8) 5 g i j]) h.1 h.2) [1,4,5,2] (λ_=>[]) ?_ ?_
 ·refine Yl0 ?_
  refine Tq (η:=(Option Addr×Nat)) (λb h=>(λd c=>[(3,.slice d b.2.length c),(21,.int .i64 b.1)]) h.1 h.2) [0,2,19,20] (λb h=>(λd c=>[Ch.arr (Ty.int .u8) 5 d c b.2]) h.1 h.2) [1,4,5,0,2] (λ_ _=>[]) ((some ⟨g7,0,none⟩),(IntKind.i64.wrap ((IntKind.i64.wrap ((IntKind.i64.wrap (r2+8)) - 1)).tdiv 8)).toNat) [3,1,2,2,0,0] [] u ?_
  rintro k_ b ⟨d,c⟩ W x z A
  refine Y2 ?_
  refine Tb x (λl=> ?_) λl=> ?_
  ·refine Z1 ?_
   refine Zl ?_
   refine Z1 ?_
   have ⟨e,m,B⟩:=bnd l
   refine L.iw 4 rfl (bH m) λX C=> ?_
   subst C
   refine Ly (Yl.ia m rfl rfl rfl rfl rfl rfl) ?_
   refine Ly (Yl.lo (v:= .int .i64 e) 4 b.1.toNat 0 (aI m).2 rfl rfl rfl rfl (λ_=>rfl)) ?_
   refine Z0 ?_
   refine Td [10] [0,0,0,0,0,0] mo ?_
   refine Dq 0 ?_
   refine Dq 1 ?_
   refine Dq 2 ?_
   have ⟨n,o,F⟩:=bnd B
   refine D.iw 0 rfl (bH o) λI J=> ?_
   subst J
   refine Dy 3 (Yl.ia o rfl rfl rfl rfl rfl rfl) ?_
   refine Dy 4 (Yl.lo (v:= .int .u8 n) 0 ((IntKind.i64.wrap (e.tdiv 8)).toNat) 0 (aI o).2 rfl rfl rfl rfl (λ_=>rfl)) ?_
   refine Dq 5 ?_
   refine Dq 6 ?_
   have ⟨_,M,N⟩:=bnd F
   refine Dy 7 (Yl.shl (nb:=8) rfl M rfl rfl rfl) ?_
   refine Dq 8 ?_
   have ⟨Y,p,O⟩:=bnd N
   refine Dy 9 (Yl.ia p rfl rfl rfl rfl rfl rfl) ?_
   refine D.one rfl rfl rfl (Dp.al [0] [] (Ac.se 0 (Go.bits .or .u8 n (IntKind.u8.wrap (1*2 ^ (min (e.tmod 8).toNat 8)))) (aI p).2 rfl rfl rfl rfl rfl rfl (λ_=>⟨(),rfl,[],rfl⟩)) rfl rfl rfl rfl rfl rfl rfl ?_)
   intro _
   refine Dn ?_
   refine E.sl 3 (k':=(b.2.set ((IntKind.i64.wrap (e.tdiv 8)).toNat) (Go.bits .or .u8 n (IntKind.u8.wrap (1*2 ^ (min (e.tmod 8).toNat 8))))).length) (List.length_set ..) rfl ?_
   refine Z0 ?_
   cases O
   exact Eg (_,((some ⟨I,0,none⟩),c)) (z _ rfl) [0,0,0,0,0,0] [] 0
  refine Z0 ?_
  cases l
  have hb:=A _ rfl
  subst j
  exact Eg (d,c) trivial [0,0,0,0,1] [] 0
 rintro ⟨g,i⟩
 refine Y1 ?_
 refine Td [14] [0,1,1] mo ?_
 refine Dq 0 ?_
 refine Dq 1 ?_
 refine Dq 2 ?_
 refine Dq 3 ?_
 refine Db 4 2 ?_
 refine Dq 5 ?_
 refine Dq 6 ?_
 refine Dq 7 ?_
 refine Db 8 2 ?_
 refine Dq 11 ?_
 refine DF.of rfl ?_
 refine DF.add _ (FSp.y 12 (Yl.bs 0 rfl rfl rfl rfl rfl rfl rfl rfl rfl) rfl rfl rfl rfl) rfl ?_
 refine DF.step 9 rfl rfl rfl rfl rfl ?_
 have ⟨P,Q,R⟩:=bnd w
 refine DFp.a [0,0] [] (Ac.call (rS Q) rfl rfl rfl rfl) rfl rfl rfl rfl rfl rfl rfl rfl ?_
 rintro ⟨⟩
 refine DF.step 10 rfl rfl rfl rfl rfl ?_
 refine DFp.a [] [] (Ac.bs (ty:=(Ty.int .i64)) (xs:=[t_.aK.k,P]) (.cons () [] rfl (.cons () [] rfl .nil)) rfl rfl rfl rfl rfl rfl rfl) rfl rfl rfl rfl rfl rfl rfl rfl ?_
 intro S
 refine DF.step 13 rfl rfl rfl rfl rfl ?_
 refine DFp.use 0 rfl rfl rfl ?_
 intro _
 refine DFp.a [] [] (Ac.q rfl) rfl rfl rfl rfl rfl rfl rfl rfl ?_
 intro _
 refine DF.step 14 rfl rfl rfl rfl rfl ?_
 refine DFp.al [1] [] (Ac.stb rfl rfl rfl rfl rfl rfl) rfl rfl rfl rfl rfl rfl rfl ?_
 intro _
 refine DF.fin rfl rfl rfl rfl rfl ?_
 refine DFe.nil ?_
 refine Z0 ?_
 refine E.frz 3 rfl ?_
 cases R
 exact Eo ((some ⟨S,0,none⟩),2) [2,2,2] [0] (.cell 0 rfl rfl rfl .nil)
theorem nP {s_:List aO} (a_0:Option Addr) (c_0:Nat) {r:List aO} (H:fz s_=some r):CT G 153 [.slice a_0 s_.length c_0] [] [Im.sl cC a_0 c_0 s_] (λh:(Option Addr×Nat)=> .slice h.1 r.length h.2) (λh=>[Ch.arr cC 222 h.1 h.2 r]) (λh=>[]):=by
  delta fz at H
  refine Cf Go.Proofs.Tryz.func153 λK=> ?_
  have ⟨_,h0,H⟩:=bnd H
  have hr:=Option.some.inj H
  refine T.seq (T.region (L.q 1 rfl (L.nil (E.then (T.seq (T.seq (T.region ?_)))))))
  refine L.q 1 rfl ?_
  refine L.FM 0 rfl rfl rfl rfl rfl rfl rfl rfl rfl (λha hx=> ?_) ?_
  · refine L.nil (E.then (T.cond rfl (λ_=> ?_) (λh=>nomatch h)))
    refine T.seq (T.region (L.q 1 rfl (L.nil (E.then (T.ret (E.pZ ?_))))))
    subst hx
    subst r
    refine E.fZ cC 222 ?_
    exact E.ret (none,0) [0] [] (.tmp rfl .nil) rfl rfl rfl
  · refine L.nil (E.then (T.cond rfl (λh=>nomatch h) (λ_=> ?_)))
    refine T.skip (E.then (T.seq (T.region ?_)))
    refine L.a [] [] (Ac.bs (ty:=cC) (xs:=[]) .nil rfl rfl rfl rfl rfl rfl rfl) rfl rfl rfl rfl rfl ?_
    intro g1
    refine L.q 1 rfl ?_
    refine L.a [0] [0] (Ac.ap (ty:=cC) h0 rfl rfl rfl rfl rfl rfl rfl) rfl rfl rfl rfl rfl ?_
    rintro ⟨a1,c1⟩
    refine L.q 1 rfl ?_
    refine L.nil (E.then (T.ret ?_))
    subst r
    exact E.ret (a1,c1) [0] [] (.tmp rfl .nil) rfl rfl rfl
theorem ie {s_:List aM} (a_0:Option Addr) (c_0:Nat) {r:List aM} (H:cT s_=some r):CT G 138 [.slice a_0 s_.length c_0] [] [Im.sl aF a_0 c_0 s_] (λh:(Option Addr×Nat)=> .slice h.1 r.length h.2) (λh=>[Ch.arr aF 149 h.1 h.2 r]) (λh=>[]):=by
  delta cT at H
  refine Cf Go.Proofs.Tryz.func138 λK=> ?_
  have ⟨_,h0,H⟩:=bnd H
  have hr:=Option.some.inj H
  refine T.seq (T.region (L.q 1 rfl (L.nil (E.then (T.seq (T.seq (T.region ?_)))))))
  refine L.q 1 rfl ?_
  refine L.FM 0 rfl rfl rfl rfl rfl rfl rfl rfl rfl (λha hx=> ?_) ?_
  · refine L.nil (E.then (T.cond rfl (λ_=> ?_) (λh=>nomatch h)))
    refine T.seq (T.region (L.q 1 rfl (L.nil (E.then (T.ret (E.pZ ?_))))))
    subst hx
    subst r
    refine E.fZ aF 149 ?_
    exact E.ret (none,0) [0] [] (.tmp rfl .nil) rfl rfl rfl
  · refine L.nil (E.then (T.cond rfl (λh=>nomatch h) (λ_=> ?_)))
    refine T.skip (E.then (T.seq (T.region ?_)))
    refine L.a [] [] (Ac.bs (ty:=aF) (xs:=[]) .nil rfl rfl rfl rfl rfl rfl rfl) rfl rfl rfl rfl rfl ?_
    intro g1
    refine L.q 1 rfl ?_
    refine L.a [0] [0] (Ac.ap (ty:=aF) h0 rfl rfl rfl rfl rfl rfl rfl) rfl rfl rfl rfl rfl ?_
    rintro ⟨a1,c1⟩
    refine L.q 1 rfl ?_
    refine L.nil (E.then (T.ret ?_))
    subst r
    exact E.ret (a1,c1) [0] [] (.tmp rfl .nil) rfl rfl rfl
theorem k7 {s_:aN} {r:aN} (H:fM s_=some r):CT G 89 [.agg (oG s_ A0 C0 A1 C1).toArray] [] [Im.sl aU A0 C0 s_.rows,Im.sl aF A1 C1 s_.begun] (λh:(Option Addr×Nat)×(Option Addr×Nat)=> .agg (oG r h.1.1 h.1.2 h.2.1 h.2.2).toArray) (λh=>[]) (λh=>[Im.sl aU h.1.1 h.1.2 r.rows,Im.sl aF h.2.1 h.2.2 r.begun]):=by
 delta fM at H
 refine Cf Go.Proofs.Tryz.func89 λK=> ?_
 refine Z1 ?_
 refine Lx λg1=> ?_
 refine Ll λg2=> ?_
 refine Z3 ?_
 have ⟨f,j,k⟩:=bnd H
 refine Tjh (η:=(Option Addr×Nat)) (λh=>(λa b=>[(3,.slice a f.length b)]) h.1 h.2) [1,2] (λh=>(λa b=>[Ch.arr aU 144 a b f]) h.1 h.2) [0,1] (λ_=>[]) ?_ ?_
 ·refine Yl0 ?_
  refine T.fZ aU 144 ?_
  refine Tq (η:=(Option Addr×Nat)) (λc h=>(λd e=>[(3,.slice d c.1.length e),(9,.int .i64 c.2)]) h.1 h.2) [1,2,7,8] (λc h=>(λd e=>[Ch.arr aU 144 d e c.1]) h.1 h.2) [1,2] (λ_ _=>[]) (none,0) [0,0,0] [] j ?_
  rintro k_ c ⟨d,e⟩ N l m n
  refine Y2 ?_
  refine Tb l (λg=> ?_) λg=> ?_
  ·refine Z1 ?_
   refine Zl ?_
   refine Z1 ?_
   have ⟨o,i,p⟩:=bnd g
   refine L.addr 0 rfl (bH i) λO P q=> ?_
   subst q
   refine Ly (Yl.ia i rfl rfl rfl rfl rfl rfl) ?_
   refine L.el 0 rfl (aI i).2 ?_
   rintro ⟨s,t⟩
   refine Lc 0 0 ?_
   refine Ll λQ=> ?_
   refine Lt 0 ?_
   refine Z0 ?_
   refine Td [] [0,1,1] mo ?_
   refine Dq 0 ?_
   refine Dq 1 ?_
   refine Db 2 0 ?_
   refine Dq 4 ?_
   refine Db 5 0 ?_
   have ⟨u,v,w⟩:=bnd p
   refine Dk [] [1] (nP s t v) λ⟨x,y⟩=> ?_
   refine Dq 6 ?_
   refine D.frz 0 rfl ?_
   refine Da [] [0] rfl rfl (Ac.bs (ty:=aU) (xs:=[(aY.mk u o.wrapped)]) (.cons (x,y) [0] rfl .nil) rfl rfl rfl rfl rfl rfl rfl) λR=> ?_
   refine D.frz 0 rfl ?_
   have ⟨_,z,A⟩:=bnd w
   refine Da [0] [0] rfl rfl (Ac.ap (ty:=aU) z rfl rfl rfl rfl rfl rfl rfl) ?_
   rintro ⟨B,C⟩
   refine Dq 9 ?_
   refine Dn ?_
   refine Z0 ?_
   cases A
   exact Eg (_,(B,C)) (m _ rfl) [3,1,1] [] 4
  refine Z0 ?_
  cases g
  have hb:=n _ rfl
  subst f
  exact Eg (d,e) trivial [0,0,0] [] 0
 rintro ⟨a,b⟩
 refine Z1 ?_
 have ⟨S,F,I⟩:=bnd k
 refine Lk [] [1] (ie A1 C1 F) λ⟨J,M⟩=> ?_
 refine Z0 ?_
 refine Lt 3 ?_
 refine Z0 ?_
 refine Lt 0 ?_
 refine Z1 ?_
 refine Lt 3 ?_
 refine Z0 ?_
 refine E.frz 3 rfl ?_
 refine E.frz 2 rfl ?_
 cases I
 exact Eo ((a,b),(J,M)) [] [1,0] (.cell 0 rfl rfl rfl .nil)
theorem mO {t_:aZ} {r:aN} (H:dW t_=some r):CT G 39 [.pointer (some ⟨N0,0,none⟩)] [Ch.box N0 155 (eS t_ N1 A0 C0 A1 C1),Ch.box N1 153 (cP t_.slot M0),Ch.mp Ty.str false M0 t_.slot.parts] [Im.sl aU A0 C0 t_.aK.rows,Im.sl aF A1 C1 t_.aK.begun] (λh:(Option Addr×Nat)×(Option Addr×Nat)=> .agg (oG r h.1.1 h.1.2 h.2.1 h.2.2).toArray) (λh=>[Ch.box N0 155 (eS t_ N1 A0 C0 A1 C1),Ch.box N1 153 (cP t_.slot M0),Ch.mp Ty.str false M0 t_.slot.parts]) (λh=>[Im.sl aU h.1.1 h.1.2 r.rows,Im.sl aF h.2.1 h.2.2 r.begun]):=by
 delta dW at H
 refine Cf Go.Proofs.Tryz.func39 λK=> ?_
 refine Z1 ?_
 refine Ll λg1=> ?_
 refine Z1 ?_
 have ⟨r2,h3,H4⟩:=bnd H
 refine Lk [] [0,1] (k7 h3) λ⟨⟨a5,c6⟩,⟨a7,c8⟩⟩=> ?_
 refine Lt 0 ?_
 refine Z0 ?_
 cases H4
 exact Eo ((a5,c6),(a7,c8)) [1,1,1] [0,1] (.cell 0 rfl rfl rfl .nil)
theorem lz {x_:aB} {r:aB} (H:eU x_=some r):CT G 97 [.agg #[.int .i64 x_.from_,.int .i64 x_.to]] [] [] (λ_:Unit=> .agg #[.int .i64 r.from_,.int .i64 r.to]) (λh=>[]) (λh=>[]):=by
 delta eU at H
 refine Cf Go.Proofs.Tryz.func97 λK=> ?_
 refine Z1 ?_
 refine Lx λg1=> ?_
 refine Ll λg2=> ?_
 refine Z1 ?_
 refine Lt 0 ?_
 refine Z0 ?_
 cases H
 exact Eo () [] [] (.cell 0 rfl rfl rfl .nil)
theorem qV {x_:aB} {y:aB} {r:aB} (H:jt x_ y=some r):CT G 100 [.agg #[.int .i64 x_.from_,.int .i64 x_.to],.agg #[.int .i64 y.from_,.int .i64 y.to]] [] [] (λ_:Unit=> .agg #[.int .i64 r.from_,.int .i64 r.to]) (λh=>[]) (λh=>[]):=by
 delta jt at H
 refine Cf Go.Proofs.Tryz.func100 λK=> ?_
 refine Z1 ?_
 refine Lx λg1=> ?_
 refine Lx λg2=> ?_
 refine Ll λg3=> ?_
 refine Z1 ?_
 refine Lt 0 ?_
 refine Z0 ?_
 cases H
 exact Eo () [] [] (.cell 0 rfl rfl rfl .nil)
theorem iV {x_:aB} {r:Bool} (H:dJ x_=some r):CT G 98 [.agg #[.int .i64 x_.from_,.int .i64 x_.to]] [] [] (λ_:Unit=> .bool r) (λh=>[]) (λh=>[]):=by
 delta dJ at H
 refine Cf Go.Proofs.Tryz.func98 λK=> ?_
 refine Z1 ?_
 refine Lx λg1=> ?_
 refine Z1 ?_
 cases H
 exact Eo1 () [] []
theorem oI {s_:bZ} {x_:aB} {r:(List aB)} (H:iz s_ x_=some r):CT G 47 [.pointer (some ⟨N0,0,none⟩),.agg #[.int .i64 x_.from_,.int .i64 x_.to]] [Ch.box N0 106 [.slice A0 s_.l.length C0]] [Im.sl aC A0 C0 s_.l] (λh:(Option Addr×Nat)=> .slice h.1 r.length h.2) (λh=>[Ch.arr aC 47 h.1 h.2 r,Ch.box N0 106 [.slice A0 s_.l.length C0]]) (λh=>[]):=by
 delta iz at H
 refine Cf Go.Proofs.Tryz.func47 λK=> ?_
 refine Z1 ?_
 refine Lx λg1=> ?_
 refine Z3 ?_
 have ⟨i,o,p⟩:=bnd H
 refine Tjh (η:=(Option Addr×Nat)) (λh=>(λc d=>[(5,.slice c i.length d)]) h.1 h.2) [] (λh=>(λc d=>[Ch.arr aC 47 c d i]) h.1 h.2) [0,1] (λ_=>[]) ?_ ?_
 ·refine Yl0 ?_
  refine T.fZ aC 47 ?_
  refine Tq (η:=(Option Addr×Nat)) (λe h=>(λa b=>[(5,.slice a e.2.length b),(14,.int .i64 e.1)]) h.1 h.2) [3,12,13] (λe h=>(λa b=>[Ch.arr aC 47 a b e.2]) h.1 h.2) [1,2] (λ_ _=>[]) (none,0) [0,0,0] [] o ?_
  rintro k_ e ⟨a,b⟩ P q s t
  refine Y2 ?_
  refine Tb q (λj=> ?_) λj=> ?_
  ·refine Y1 ?_
   have ⟨n,u,v⟩:=bnd j
   refine Tjh (η:=(Option Addr×Nat)) (λh=>(λf g=>[(5,.slice f n.length g)]) h.1 h.2) [3,12,13,14] (λh=>(λf g=>[Ch.arr aC 47 f g n]) h.1 h.2) [1,2] (λ_=>[]) ?_ ?_
   ·refine Zl ?_
    refine Z1 ?_
    have ⟨Q,k,w⟩:=bnd u
    refine L.addr 0 rfl (bH k) λR S x=> ?_
    subst x
    refine Ly (Yl.ia k rfl rfl rfl rfl rfl rfl) ?_
    refine L.el 0 rfl (aI k).2 ?_
    rintro _
    refine Lc 0 0 ?_
    refine Ll λU=> ?_
    refine Lt 0 ?_
    refine Y1 ?_
    refine Td [5] [0,0,0,0] mo ?_
    refine Db 0 0 ?_
    refine Db 1 2 ?_
    refine DF.of rfl ?_
    have ⟨V,y,z⟩:=bnd w
    refine DF.add _ (FSp.ac 2 [] (Ac.call (lz y) rfl rfl rfl rfl) rfl rfl rfl rfl rfl) rfl ?_
    have ⟨A,B,C⟩:=bnd z
    refine DF.add _ (FSp.dep 0 rfl rfl λ⟨⟩=>FSp.ac 3 [] (Ac.call (qV B) rfl rfl rfl rfl) rfl rfl rfl rfl rfl) rfl ?_
    refine DF.add _ (FSp.ac 4 [] (Ac.alloc rfl rfl) rfl rfl rfl rfl rfl) rfl ?_
    refine DF.step 5 rfl rfl rfl rfl rfl ?_
    refine DFp.use 0 rfl rfl rfl ?_
    intro W
    refine DFp.use 0 rfl rfl rfl ?_
    rintro ⟨⟩
    refine DFp.use 0 rfl rfl rfl ?_
    rintro ⟨⟩
    refine DFp.al [4] [] (Ac.stb rfl rfl rfl rfl rfl rfl) rfl rfl rfl rfl rfl rfl rfl ?_
    intro _
    refine DF.fin rfl rfl rfl rfl rfl ?_
    refine DFe.nil ?_
    refine Z1 ?_
    have ⟨X,F,I⟩:=bnd C
    refine Lk [] [] (iV F) λ⟨⟩=> ?_
    refine Z0 ?_
    refine Tb I (λm=> ?_) λm=> ?_
    ·refine Z0 ?_
     refine La [] [] (Ac.bs (ty:=aC) (xs:=[A]) (.cons () [] rfl .nil) rfl rfl rfl rfl rfl rfl rfl) λY=> ?_
     refine L.frz 0 rfl ?_
     have ⟨_,J,M⟩:=bnd m
     refine La [2] [0] (Ac.ap (ty:=aC) J rfl rfl rfl rfl rfl rfl rfl) ?_
     rintro ⟨N,O⟩
     refine Z0 ?_
     cases M
     exact Eg (N,O) trivial [0,2,2] [] 2
    refine Z0 ?_
    cases m
    exact Eg (a,b) trivial [2,2,2] [] 1
   rintro ⟨f,g⟩
   refine Z0 ?_
   cases v
   exact Eg (_,(f,g)) (s _ rfl) [0,0,0] [] 0
  refine Z0 ?_
  cases j
  have hb:=t _ rfl
  subst i
  exact Eg (a,b) trivial [0,0,0] [] 0
 rintro ⟨c,d⟩
 refine Z1 ?_
 cases p
 exact Eo1 (c,d) [0,1] []
theorem qW {f:bE} {now:Int} {length:Int} {r:(List aB)×bE} (H:eG f now length=some r):CT G 38 [.pointer (some ⟨N0,0,none⟩),.int .i64 now,.int .i64 length] [Ch.box N0 161 (eT f N1),Ch.box N1 106 [.slice A0 f.want.l.length C0]] [Im.sl aC A0 C0 f.want.l] (λh:(Option Addr×Nat)=> .slice h.1 r.1.length h.2) (λh=>[Ch.arr aC 47 h.1 h.2 r.1,Ch.box N0 161 (eT r.2 N1),Ch.box N1 106 [.slice A0 r.2.want.l.length C0]]) (λh=>[Im.sl aC A0 C0 r.2.want.l]):=by
 delta eG at H
 refine Cf Go.Proofs.Tryz.func38 λK=> ?_
 refine Z2 ?_
 have ⟨r1,h2,H3⟩:=bnd H
 refine Lk [1] [0] (oI h2) λ⟨a4,c5⟩=> ?_
 refine Y2 ?_
 have ⟨c,d,e⟩:=bnd H3
 refine Tj0 [(25,.bool c)] [0,1,7] [] [1,2,0] ?_ ?_
 ·refine Z0 ?_
  refine Lw 18 d (λa=> ?_) λa=> ?_
  ·refine Z0 ?_
   cases a
   exact Eg0 [1,1,0] 0
  refine Z0 ?_
  cases a
  exact Eg0 [1,1,0] 0
 refine Tb e (λb=> ?_) λb=> ?_
 ·refine Z1 ?_
  refine E.fZ aC 47 ?_
  cases b
  exact Eo1 (none,0) [0,1,0] [0]
 refine Z1 ?_
 refine Lt 1 ?_
 refine Z1 ?_
 have ⟨_,g,i⟩:=bnd b
 refine La [2] [] (Ac.rso g rfl rfl rfl rfl rfl rfl rfl) λ_=> ?_
 refine Z0 ?_
 cases i
 exact Eo1 (a4,c5) [0,0,0] [0]
theorem np {n_:Int} {lo:Int} {hi:Int} {r:Bool} (H:hZ n_ lo hi=some r):CT G 156 [.int .i64 n_,.int .i64 lo,.int .i64 hi] [] [] (λ_:Unit=> .bool r) (λh=>[]) (λh=>[]):=by
 delta hZ at H
 refine Cf Go.Proofs.Tryz.func156 λK=> ?_
 refine Y2 ?_
 have ⟨e4,H5,H6⟩:=bnd H
 refine Tj0 [(6,.bool e4)] [] [] [] ?_ ?_
 ·refine Z0 ?_
  refine Lw 10 H5 (λH7=> ?_) λH7=> ?_
  ·refine Z0 ?_
   cases H7
   exact Eg0 [] 0
  refine Z0 ?_
  cases H7
  exact Eg0 [] 0
 refine Z0 ?_
 cases H6
 exact Eo1 () [] []
theorem qX {g:aV} {r:Bool} (H:gO g=some r):CT G 95 [.agg (qR g A0 C0).toArray] [] [Im.sl (Ty.int .i64) A0 C0 g.aX] (λ_:Unit=> .bool r) (λh=>[]) (λh=>[]):=by
 delta gO at H
 refine Cf Go.Proofs.Tryz.func95 λK=> ?_
 refine Z1 ?_
 refine Lx λg1=> ?_
 refine Y2 ?_
 have ⟨m,n,o⟩:=bnd H
 refine Tj0 [(20,.bool m)] [1] [] [0] ?_ ?_
 ·refine Z0 ?_
  have ⟨F,p,q⟩:=bnd n
  refine Lk [] [] (np p) λ⟨⟩=> ?_
  refine Z0 ?_
  refine Lw 9 q (λa=> ?_) λa=> ?_
  ·refine Z0 ?_
   cases a
   exact Eg0 [0] 0
  refine Z0 ?_
  have ⟨I,s,t⟩:=bnd a
  refine Lk [] [] (np s) λ⟨⟩=> ?_
  refine Z0 ?_
  refine Lw 15 t (λb=> ?_) λb=> ?_
  ·refine Z0 ?_
   cases b
   exact Eg0 [0] 0
  refine Z0 ?_
  cases b
  exact Eg0 [0] 0
 refine Tb o (λc=> ?_) λc=> ?_
 ·refine Z1 ?_
  cases c
  exact Eo1 () [] []
 refine Z2 ?_
 have ⟨d,u,j⟩:=bnd c
 refine Tj (η:=Unit×Unit) (λh=>d = .inl h.1) (λ_=>[]) [] (λ_=>[]) [0] (λ_=>[]) ?_ ?_
 ·refine Yl0 ?_
  refine Tq (η:=Unit) (λk h=>[(24,.int .i64 k)]) [22,23] (λ_ _=>[]) [0] (λ_ _=>[]) () [0] [] u ?_
  rintro k_ k ⟨⟩ v w x l
  refine Y2 ?_
  refine Tb w (λe=> ?_) λe=> ?_
  ·refine Z1 ?_
   refine Zl ?_
   refine Z1 ?_
   have ⟨J,f,y⟩:=bnd e
   refine L.addr 0 rfl (bH f) λM N z=> ?_
   subst z
   refine Ly (Yl.ia f rfl rfl rfl rfl rfl rfl) ?_
   refine L.el 0 rfl (aI f).2 ?_
   rintro _
   refine Lc 0 0 ?_
   refine Z1 ?_
   have ⟨O,A,B⟩:=bnd y
   refine Lk [] [] (np A) λ⟨⟩=> ?_
   refine Z0 ?_
   refine Tb B (λi=> ?_) λi=> ?_
   ·refine Z1 ?_
    obtain ⟨P,hz,C⟩:=cK i
    subst v
    have hb:=l _ rfl
    subst d
    obtain rfl:=(sm j).symm
    refine Z0 ?_
    cases C
    exact Eo1 () [] []
   refine Z0 ?_
   cases i
   exact Eg (_,()) (x _ rfl) [0] [] 1
  refine Z0 ?_
  cases e
  have hb:=l _ rfl
  subst d
  exact Eg (_,()) rfl [0] [] 0
 rintro ⟨Q,⟨⟩⟩ hy
 subst hy
 refine Z1 ?_
 cases j
 exact Eo1 () [] []
theorem wC {n_:Int} {r:Int} (H:mc n_=some r):CT G 175 [.int .i64 n_] [] [] (λh:Nat=> .func (.func 208) #[] #[.pointer (some ⟨h,0,none⟩)]) (λh=>[Ch.box h 3 [.int .i64 r]]) (λh=>[]):=by
 delta mc at H
 refine Cf Go.Proofs.Tryz.func175 λK=> ?_
 refine Z1 ?_
 refine Lx λg1=> ?_
 refine Z1 ?_
 cases H
 exact Eo1 g1 [0] []
theorem zd {n_:Int} {r:Int} (H:nZ n_=some r):CT G 209 [.int .i64 n_] [] [] (λ_:Unit=> .int .i64 r) (λh=>[]) (λh=>[]):=by
 delta nZ at H
 refine Cf Go.Proofs.Tryz.func209 λK=> ?_
 refine Z2 ?_
 cases H
 exact Eo1 () [] []
theorem um {σ η:Type} {Y:σ->Int->Option (σ×Bool)} {y0:σ} {x1:Int} {yl:Nat} {C:σ->η->Ch} (hY: ∀ s (h:η) (x:Int) (t:Unit) z,Y s x=some z->YT G yl [.int .u8 x] [C s h] [] (λ_:η=> .bool z.2) (λh2=>[C z.1 h2]) (λ_=>[])) (h0:η) (g_1:Nat) {r:σ×Int} (H:jB Y y0 x1=some r):CT G 208 [.func (.yield yl) #[] #[],.pointer (some ⟨g_1,0,none⟩)] [C y0 h0,Ch.box g_1 3 [.int .i64 x1]] [] (λh:η=> .tuple #[]) (λh=>[C r.1 h,Ch.box g_1 3 [.int .i64 r.2]]) (λh=>[]):=by
  delta jB at H
  refine Cf Go.Proofs.Tryz.func208 λK=> ?_
  refine Z2 ?_
  have ⟨r1,h2,H3⟩:=bnd H
  refine Lk [] [] (zd h2) λ⟨⟩=> ?_
  refine Lt 1 ?_
  refine Z0 ?_
  have ⟨a,l,g⟩:=bnd H3
  refine Tj (η:=(Int×σ)×(η)) (λh=>a = .inl h.1) (λ_=>[]) [0,1] (λh=>(λb=>(λi=>[Ch.box g_1 3 [.int .i64 b.1],C b.2 i]) h.2) h.1) [] (λ_=>[]) ?_ ?_
  ·refine Yl0 ?_
   refine Tq (η:=η) (λ_ _=>[]) [0,1] (λc h=>(λd=>[Ch.box g_1 3 [.int .i64 c.1],C c.2 d]) h) [] (λ_ _=>[]) h0 [0,0] [] l ?_
   rintro k_ c d m n o j
   refine Z2 ?_
   refine Tb n (λe=> ?_) λe=> ?_
   ·refine Z1 ?_
    refine Zl ?_
    refine Z1 ?_
    have ⟨A,p,q⟩:=bnd e
    refine L.yd [1] [] (hY _ _ _ () _ p) rfl rfl rfl rfl rfl rfl rfl rfl ?_
    intro k
    refine Z0 ?_
    refine Tb q (λf=> ?_) λf=> ?_
    ·refine Z0 ?_
     obtain ⟨B,hz,u⟩:=cK f
     subst m
     have hb:=j _ rfl
     subst a
     obtain rfl:=(sm g).symm
     refine Z0 ?_
     cases u
     exact Eo k [0,0] [] .nil
    refine Z0 ?_
    refine Lt 1 ?_
    refine Z0 ?_
    cases f
    exact Eg (_,k) (o _ rfl) [0,0] [] 0
   refine Z0 ?_
   cases e
   have hb:=j _ rfl
   subst a
   exact Eg (_,d) rfl [0,0] [] 0
  rintro ⟨b,i⟩ hy
  subst hy
  refine Z0 ?_
  have ⟨F,v,w⟩:=bnd g
  refine L.yd [1] [] (hY _ _ _ () _ v) rfl rfl rfl rfl rfl rfl rfl rfl ?_
  intro y
  refine Ln (E.off ?_)
  cases w
  exact Eo y [0,0] [] .nil
theorem fV {o:cJ} {l:List Int} {r:cJ} (H:dI o l=some r):CT G 131 [.pointer (some ⟨N0,0,none⟩),.slice A1 l.length C1] [Ch.box N0 224 [.slice A0 o.b.length C0],Ch.arr (Ty.int .u8) 5 A0 C0 o.b] [Im.sl (Ty.int .i64) A1 C1 l] (λh:(Option Addr×Nat)=> .pointer (some ⟨N0,0,none⟩)) (λh=>[Ch.box N0 224 [.slice h.1 r.b.length h.2],Ch.arr (Ty.int .u8) 5 h.1 h.2 r.b]) (λh=>[]):=by
 delta dI at H
 refine Cf Go.Proofs.Tryz.func131 λK=> ?_
 refine T.wZ ?_
 refine Z1 ?_
 refine Lx λg1=> ?_
 refine Z2 ?_
 have ⟨n,w,y⟩:=bnd H
 refine T.BI (η:=Unit×((Option Addr×Nat)×List Nat)) (λh=>True) (λh=>(λf g i=>i) h.2.1.1 h.2.1.2 h.2.2) (λh=>(λf g i=>[(2,.pointer (some ⟨g1,0,none⟩))]) h.2.1.1 h.2.1.2 h.2.2) (λh=>(λf g i=>[Ch.arr (Ty.int .u8) 5 f g n.b,Ch.box g1 226 [.pointer (some ⟨N0,0,none⟩)],Ch.dfs i,Ch.box N0 224 [.slice f n.b.length g]]) h.2.1.1 h.2.1.2 h.2.2) (λh=>(λf g i=>[Im.sl (Ty.int .i64) A1 C1 l]) h.2.1.1 h.2.1.2 h.2.2) ?_ ?_
 ·refine Yl0 ?_
  refine T.lpD (η:=(Option Addr×Nat)×List Nat) (λa h=>(λc d e=>e) h.1.1 h.1.2 h.2) (λa h=>(λc d e=>[(2,.pointer (some ⟨g1,0,none⟩)),(8,.slice A1 l.length C1),(9,.int .i64 (l.length:Int)),(10,.int .i64 a.2)]) h.1.1 h.1.2 h.2) (λa h=>(λc d e=>[Ch.arr (Ty.int .u8) 5 c d a.1.b,Ch.box g1 226 [.pointer (some ⟨N0,0,none⟩)],Ch.dfs e,Ch.box N0 224 [.slice c a.1.b.length d]]) h.1.1 h.1.2 h.2) (λa h=>(λc d e=>[Im.sl (Ty.int .i64) A1 C1 l]) h.1.1 h.1.2 h.2) ((A0,C0),[]) [3,0,0,0] [0] w rfl ⟨rfl,rfl,rfl,rfl,trivial⟩ rfl rfl ?_
  rintro k_ a ⟨⟨c,d⟩,e⟩ ab z A B
  refine Y2 ?_
  refine Tb z (λp=> ?_) λp=> ?_
  ·refine Z1 ?_
   refine Zl ?_
   refine Z1 ?_
   have ⟨F,q,I⟩:=bnd p
   refine L.addr 0 rfl (bH q) λs u J=> ?_
   subst J
   refine Ly (Yl.ia q rfl rfl rfl rfl rfl rfl) ?_
   refine L.el 0 rfl (aI q).2 ?_
   rintro _
   refine Lc 0 0 ?_
   refine Z1 ?_
   have ⟨ac,M,N⟩:=bnd I
   refine Lk [] [] (wC M) λO=> ?_
   refine Yl0 ?_
   have ⟨P,Q,R⟩:=bnd N
   refine T.rf2 (σ:=cJ) (η:=(Option Addr×Nat)) (X:=Int) (θ:=Unit) (τ:=(Option Addr×Nat)) (s1:=P.1) (hx:=λx=>x) (λx t=>[.int .u8 x]) (λx t=>[]) (λ_=>none) (λj h=>(λk m=>[Ch.arr (Ty.int .u8) 5 k m j.b,Ch.box g1 226 [.pointer (some ⟨N0,0,none⟩)],Ch.box N0 224 [.slice k j.b.length m]]) h.1 h.2) (λj h=>(λk m=>[Im.cells s (u+a.2.toNat*1) [.int .i64 F],Im.sl (Ty.int .i64) (some ⟨s,u,none⟩) C1 l]) h.1 h.2) 3 [1,1,1,0] [0,1] [] rfl rfl (λ_ _=>rfl) rfl (λyl C hY=>(um hY (c,d) O Q:_)) (λ_ _ _ _=>rfl) rfl rfl rfl rfl rfl ?_ rfl ?_
   ·rintro yl K2 j ⟨k,m⟩ S ⟨⟩ ad U
    refine Z0 ?_
    refine E.begin λK3=> ?_
    refine Yl0 ?_
    refine Td [10] [1,1] mo ?_
    refine Db 0 0 ?_
    refine Db 1 0 ?_
    refine Dq 2 ?_
    refine Dq 3 ?_
    refine Db 4 1 ?_
    refine Dq 5 ?_
    refine Da [] [] rfl rfl (Ac.bs (ty:=(Ty.int .u8)) (xs:=[S]) (.cons () [] rfl .nil) rfl rfl rfl rfl rfl rfl rfl) λae=> ?_
    refine D.frz 0 rfl ?_
    have ⟨_,V,W⟩:=bnd U
    refine Da [0] [0] rfl rfl (Ac.ap (ty:=(Ty.int .u8)) V rfl rfl rfl rfl rfl rfl rfl) ?_
    rintro ⟨Y,Z⟩
    refine Dq 8 ?_
    refine Dq 9 ?_
    refine Dt 1 ?_
    refine Dn ?_
    refine Z0 ?_
    cases W
    exact E.on (Y,Z) [2,1,0] [1,2] rfl rfl rfl rfl
   rintro v aa
   refine Z0 ?_
   cases R
   exact E.rY (_,((v.1,v.2),(aa::e))) [1,1,0,0] [1] (A _ rfl) rfl ⟨rfl,rfl,rfl,rfl,trivial⟩ rfl rfl
  refine Z0 ?_
  cases p
  have hb:=B _ rfl
  subst n
  exact E.rY ((),((c,d),e)) [0,0,0,0] [0] trivial rfl ⟨rfl,trivial⟩ rfl rfl
 rintro ⟨_,⟨⟨f,g⟩,i⟩⟩ _
 refine Z1 ?_
 cases y
 exact E.yB (f,g) 2 [2,0] [] rfl (.tmp rfl .nil) rfl rfl rfl
theorem nq {o:cJ} {l:List ByteArray} {r:cJ} (H:gZ o l=some r):CT G 176 [.pointer (some ⟨N0,0,none⟩),.slice A1 l.length C1] [Ch.box N0 224 [.slice A0 o.b.length C0],Ch.arr (Ty.int .u8) 5 A0 C0 o.b] [Im.sl Ty.str A1 C1 l] (λh:(Option Addr×Nat)=> .pointer (some ⟨N0,0,none⟩)) (λh=>[Ch.box N0 224 [.slice h.1 r.b.length h.2],Ch.arr (Ty.int .u8) 5 h.1 h.2 r.b]) (λh=>[]):=by
 delta gZ at H
 refine Cf Go.Proofs.Tryz.func176 λK=> ?_
 refine Z3 ?_
 have ⟨g,k,m⟩:=bnd H
 refine Tjh (η:=(Option Addr×Nat)) (λ_=>[]) [0] (λh=>(λe f=>[Ch.arr (Ty.int .u8) 5 e f g.b,Ch.box N0 224 [.slice e g.b.length f]]) h.1 h.2) [] (λ_=>[]) ?_ ?_
 ·refine Yl0 ?_
  refine Tq (η:=(Option Addr×Nat)) (λa h=>(λc d=>[(9,.int .i64 a.2)]) h.1 h.2) [0,7,8] (λa h=>(λc d=>[Ch.arr (Ty.int .u8) 5 c d a.1.b,Ch.box N0 224 [.slice c a.1.b.length d]]) h.1 h.2) [] (λ_ _=>[]) (A0,C0) [1,0] [] k ?_
  rintro k_ a ⟨c,d⟩ y n p q
  refine Y2 ?_
  refine Tb n (λi=> ?_) λi=> ?_
  ·refine Z1 ?_
   refine Zl ?_
   refine Z1 ?_
   have ⟨z,j,s⟩:=bnd i
   refine L.addr 0 rfl (bH j) λA B t=> ?_
   subst t
   refine Ly (Yl.ia j rfl rfl rfl rfl rfl rfl) ?_
   refine L.el 0 rfl (aI j).2 ?_
   rintro _
   refine Lc 0 0 ?_
   refine Z0 ?_
   have ⟨_,u,v⟩:=bnd s
   refine La [0] [] (Ac.aps u rfl rfl rfl rfl rfl rfl rfl rfl rfl Fy) ?_
   rintro ⟨w,x⟩
   refine Z0 ?_
   refine Lt 1 ?_
   refine Z0 ?_
   cases v
   exact Eg (_,(w,x)) (p _ rfl) [1,0] [] 1
  refine Z0 ?_
  cases i
  have hb:=q _ rfl
  subst g
  exact Eg (c,d) trivial [0,0] [] 0
 rintro ⟨e,f⟩
 refine Z1 ?_
 cases m
 exact Eo1 (e,f) [1,0] []
theorem oJ {o:cJ} {l:List ByteArray} {r:cJ} (H:iy o l=some r):CT G 132 [.pointer (some ⟨N0,0,none⟩),.slice A1 l.length C1] [Ch.box N0 224 [.slice A0 o.b.length C0],Ch.arr (Ty.int .u8) 5 A0 C0 o.b] [Im.sl Ty.str A1 C1 l] (λh:(Option Addr×Nat)=> .pointer (some ⟨N0,0,none⟩)) (λh=>[Ch.box N0 224 [.slice h.1 r.b.length h.2],Ch.arr (Ty.int .u8) 5 h.1 h.2 r.b]) (λh=>[]):=by
 delta iy at H
 refine Cf Go.Proofs.Tryz.func132 λK=> ?_
 refine Z3 ?_
 have ⟨g,m,n⟩:=bnd H
 refine Tjh (η:=(Option Addr×Nat)) (λ_=>[]) [0] (λh=>(λe f=>[Ch.arr (Ty.int .u8) 5 e f g.b,Ch.box N0 224 [.slice e g.b.length f]]) h.1 h.2) [] (λ_=>[]) ?_ ?_
 ·refine Yl0 ?_
  refine Tq (η:=(Option Addr×Nat)) (λa h=>(λc d=>[(9,.int .i64 a.2)]) h.1 h.2) [0,7,8] (λa h=>(λc d=>[Ch.arr (Ty.int .u8) 5 c d a.1.b,Ch.box N0 224 [.slice c a.1.b.length d]]) h.1 h.2) [] (λ_ _=>[]) (A0,C0) [1,0] [] m ?_
  rintro k_ a ⟨c,d⟩ B p q s
  refine Y2 ?_
  refine Tb p (λi=> ?_) λi=> ?_
  ·refine Z1 ?_
   refine Zl ?_
   refine Z1 ?_
   have ⟨k,j,t⟩:=bnd i
   refine L.addr 0 rfl (bH j) λC F u=> ?_
   subst u
   refine Ly (Yl.ia j rfl rfl rfl rfl rfl rfl) ?_
   refine L.el 0 rfl (aI j).2 ?_
   rintro _
   refine Lc 0 0 ?_
   refine Z0 ?_
   refine La [] [] (Ac.bs (ty:=(Ty.int .i64)) (xs:=[(k.size:Int)]) (.cons () [] rfl .nil) rfl rfl rfl rfl rfl rfl rfl) λI=> ?_
   refine L.frz 0 rfl ?_
   have ⟨J,v,w⟩:=bnd t
   refine Lk [1,0] [0] (fV v) λ⟨M,N⟩=> ?_
   refine Z0 ?_
   refine La [] [] (Ac.bs (ty:=Ty.str) (xs:=[k]) (.cons () [] rfl .nil) rfl rfl rfl rfl rfl rfl rfl) λO=> ?_
   refine L.frz 0 rfl ?_
   have ⟨P,x,y⟩:=bnd w
   refine Lk [0,0] [0] (nq x) λ⟨z,A⟩=> ?_
   refine Z0 ?_
   cases y
   exact Eg (_,(z,A)) (q _ rfl) [1,0] [] 3
  refine Z0 ?_
  cases i
  have hb:=s _ rfl
  subst g
  exact Eg (c,d) trivial [0,0] [] 0
 rintro ⟨e,f⟩
 refine Z1 ?_
 cases n
 exact Eo1 (e,f) [1,0] []
theorem ku {o:cJ} {r:ByteArray} (H:fr o=some r):CT G 133 [.pointer (some ⟨N0,0,none⟩)] [Ch.box N0 224 [.slice A0 o.b.length C0],Ch.arr (Ty.int .u8) 5 A0 C0 o.b] [] (λ_:Unit=> .string r) (λh=>[Ch.box N0 224 [.slice A0 o.b.length C0],Ch.arr (Ty.int .u8) 5 A0 C0 o.b]) (λh=>[]):=by
 delta fr at H
 refine Cf Go.Proofs.Tryz.func133 λK=> ?_
 refine Z2 ?_
 refine Ly (Yl.bs 1 rfl rfl rfl rfl rfl rfl rfl rfl rfl) ?_
 refine Z0 ?_
 cases H
 exact Eo1 () [0,0] []
theorem zf {x_:Int} {b:Int} {r:Int} (H:lf x_ b=some r):CT G 154 [.int .u32 x_,.int .u8 b] [] [Im.sl (Ty.int .u32) (some ⟨0,0,none⟩) 16 dE] (λ_:Unit=> .int .u32 r) (λh=>[]) (λh=>[]):=by
 delta lf at H
 refine Cf Go.Proofs.Tryz.func154 λK=> ?_
 refine Z3 ?_
 have ⟨x1,h2,H3⟩:=bnd H
 refine Ly (Yl.xg h2 rfl rfl rfl rfl rfl rfl rfl) ?_
 refine L.el 0 rfl (aI h2).2 ?_
 rintro _
 refine Lc 0 0 ?_
 refine Z1 ?_
 have ⟨x5,h6,H7⟩:=bnd H3
 refine Ly (Yl.xg h6 rfl rfl rfl rfl rfl rfl rfl) ?_
 refine L.el 1 rfl (aI h6).2 ?_
 rintro _
 refine Lc 0 0 ?_
 refine Z0 ?_
 cases H7
 exact Eo1 () [] []
theorem uo {l:List ByteArray} {r:Int} (H:mE l=some r):CT G 91 [.slice A0 l.length C0] [] [Im.sl Ty.str A0 C0 l,Im.sl (Ty.int .u32) (some ⟨0,0,none⟩) 16 dE] (λ_:Unit=> .int .u32 r) (λh=>[]) (λh=>[]):=by
 delta mE at H
 refine Cf Go.Proofs.Tryz.func91 λK=> ?_
 refine Z3 ?_
 refine Z1 ?_
 have ⟨j,m,n⟩:=bnd H
 refine Tj0 [(3,.int .u32 j)] [] [] [] ?_ ?_
 ·refine Yl0 ?_
  refine Tq (η:=Unit) (λa h=>[(3,.int .u32 a.1),(9,.int .i64 a.2)]) [7,8] (λ_ _=>[]) [] (λ_ _=>[]) () [] [] m ?_
  rintro k_ a ⟨⟩ I o p q
  refine Y2 ?_
  refine Tb o (λb=> ?_) λb=> ?_
  ·refine Z1 ?_
   refine Zl ?_
   refine Z1 ?_
   have ⟨s,d,t⟩:=bnd b
   refine L.addr 0 rfl (bH d) λe f u=> ?_
   subst u
   refine Ly (Yl.ia d rfl rfl rfl rfl rfl rfl) ?_
   refine L.el 0 rfl (aI d).2 ?_
   rintro _
   refine Lc 0 0 ?_
   refine Z1 ?_
   have ⟨k,v,w⟩:=bnd t
   refine T.ou (η:=Unit×Unit) (λh=>True) (λh=>[(3,.int .u32 k),(7,.slice (some ⟨e,f,none⟩) l.length C0),(8,.int .i64 (l.length:Int)),(9,.int .i64 a.2)]) (λh=>[]) (λh=>[Im.cells e (f+a.2.toNat*1) [.string s],Im.sl Ty.str (some ⟨e,f,none⟩) C0 l,Im.sl (Ty.int .u32) (some ⟨0,0,none⟩) 16 dE]) ?_ ?_
   ·refine Yl0 ?_
    refine Tq (η:=Unit) (λg h=>[(3,.int .u32 g.2),(15,.int .i64 g.1)]) [5,7,8,9,14] (λ_ _=>[]) [] (λ_ _=>[]) () [] [] v ?_
    rintro k_ g ⟨⟩ J x y z
    refine Y2 ?_
    refine Tb x (λi=> ?_) λi=> ?_
    ·refine Z1 ?_
     refine Zl ?_
     refine Z1 ?_
     have ⟨M,A,B⟩:=bnd i
     refine Ly (Yl.si A rfl rfl rfl rfl rfl) ?_
     have ⟨N,C,F⟩:=bnd B
     refine Lk [] [2] (zf C) λ⟨⟩=> ?_
     refine Z0 ?_
     cases F
     exact Eg (_,()) (y _ rfl) [] [] 0
    refine Z0 ?_
    cases i
    have hb:=z _ rfl
    subst k
    exact Egx ((),()) trivial [] [0,1,2]
   rintro ⟨_,⟨⟩⟩ _
   refine Z0 ?_
   cases w
   exact Eg (_,()) (p _ rfl) [] [] 1
  refine Z0 ?_
  cases b
  have hb:=q _ rfl
  subst j
  exact Eg0 [] 0
 refine Z1 ?_
 refine Ly (Yl.com (c:=4294967295) rfl rfl rfl) ?_
 refine Z0 ?_
 cases n
 exact Eo1 () [] []
theorem uq {x_:Int} {r:ByteArray} (H:lg x_=some r):CT G 90 [.int .u32 x_] [] [] (λ_:Unit=> .string r) (λh=>[]) (λh=>[]):=by
 delta lg at H
 refine Cf Go.Proofs.Tryz.func90 λK=> ?_
 refine Z2 ?_
 refine La [] [] (Ac.bs (ty:=(Ty.int .u8)) (xs:=[(IntKind.u8.wrap x_),(IntKind.u8.wrap (x_.fdiv (2 ^ (min 8 32)))),(IntKind.u8.wrap (x_.fdiv (2 ^ (min 16 32)))),(IntKind.u8.wrap (x_.fdiv (2 ^ (min 24 32))))]) (.cons () [] rfl (.cons () [] rfl (.cons () [] rfl (.cons () [] rfl .nil)))) rfl rfl rfl rfl rfl rfl rfl) λg1=> ?_
 refine Ly (Yl.bs 0 rfl rfl rfl rfl rfl rfl rfl rfl rfl) ?_
 refine Z0 ?_
 cases H
 exact Eo1 () [] []
theorem zg {s_:ByteArray} {r:ByteArray} (H:lh s_=some r):CT G 130 [.string s_] [] [Im.sl (Ty.int .u32) (some ⟨0,0,none⟩) 16 dE] (λ_:Unit=> .string r) (λh=>[]) (λh=>[]):=by
 delta lh at H
 refine Cf Go.Proofs.Tryz.func130 λK=> ?_
 refine Z2 ?_
 refine La [] [] (Ac.bs (ty:=Ty.str) (xs:=[s_]) (.cons () [] rfl .nil) rfl rfl rfl rfl rfl rfl rfl) λg1=> ?_
 have ⟨r3,h4,H5⟩:=bnd H
 refine L.br (Ac.call (uo h4) rfl rfl rfl rfl) (Bw.ch 0 rfl (Bw.im 0 rfl (Bw.nil))) rfl rfl rfl ?_
 intro _
 have ⟨r6,h7,H8⟩:=bnd H5
 refine Lk [] [] (uq h7) λ⟨⟩=> ?_
 have ⟨_,h9,a⟩:=bnd H8
 refine Ly (Yl.sa h9 rfl rfl rfl) ?_
 refine Z0 ?_
 cases a
 exact Eo1 () [] []
theorem m7 {g:aV} {r:ByteArray} (H:gf g=some r):CT G 74 [.agg (qR g A0 C0).toArray] [] [Im.sl (Ty.int .i64) A0 C0 g.aX,Im.sl (Ty.int .u32) (some ⟨0,0,none⟩) 16 dE] (λ_:Unit=> .string r) (λh=>[]) (λh=>[]):=by
 delta gf at H
 refine Cf Go.Proofs.Tryz.func74 λK=> ?_
 refine Z1 ?_
 refine Lx λg1=> ?_
 refine Z1 ?_
 refine Ll λg2=> ?_
 refine Y1 ?_
 refine Td [] [1] mo ?_
 refine Dq 0 ?_
 refine Db 1 0 ?_
 refine Dq 2 ?_
 refine Db 3 0 ?_
 refine Dq 4 ?_
 refine Db 5 0 ?_
 refine Dq 6 ?_
 refine Dq 9 ?_
 refine Db 10 0 ?_
 refine Dq 12 ?_
 refine Db 13 0 ?_
 refine DF.of rfl ?_
 refine DF.add _ (FSp.ac 7 [] (Ac.frz (Ac.bs (ty:=(Ty.int .i64)) (xs:=[g.aT,g.kind,(g.aX.length:Int)]) (.cons () [] rfl (.cons () [] rfl (.cons () [] rfl .nil))) rfl rfl rfl rfl rfl rfl rfl)) rfl rfl rfl rfl rfl) rfl ?_
 refine DF.add _ (FSp.ac 14 [] (Ac.frz (Ac.bs (ty:=Ty.str) (xs:=[g.data]) (.cons () [] rfl .nil) rfl rfl rfl rfl rfl rfl rfl)) rfl rfl rfl rfl rfl) rfl ?_
 refine DF.step 8 rfl rfl rfl rfl rfl ?_
 refine DFp.use 1 rfl rfl rfl ?_
 intro n
 refine DFp.fZ (Ty.int .u8) 5 ?_
 have ⟨o,b,c⟩:=bnd H
 refine DFp.a [1,0] [0] (Ac.call (fV b) rfl rfl rfl rfl) rfl rfl rfl rfl rfl rfl rfl rfl ?_
 rintro ⟨p,s⟩
 refine DF.step 11 rfl rfl rfl rfl rfl ?_
 have ⟨t,d,e⟩:=bnd c
 refine DFp.a [0,0] [1] (Ac.call (fV d) rfl rfl rfl rfl) rfl rfl rfl rfl rfl rfl rfl rfl ?_
 rintro ⟨u,v⟩
 refine DF.step 15 rfl rfl rfl rfl rfl ?_
 refine DFp.use 0 rfl rfl rfl ?_
 intro w
 have ⟨x,f,i⟩:=bnd e
 refine DFp.a [0,0] [0] (Ac.call (oJ f) rfl rfl rfl rfl) rfl rfl rfl rfl rfl rfl rfl rfl ?_
 rintro ⟨y,z⟩
 refine DF.step 16 rfl rfl rfl rfl rfl ?_
 have ⟨A,j,k⟩:=bnd i
 refine DFp.a [0,0] [] (Ac.call (ku j) rfl rfl rfl rfl) rfl rfl rfl rfl rfl rfl rfl rfl ?_
 rintro ⟨⟩
 refine DF.step 17 rfl rfl rfl rfl rfl ?_
 have ⟨B,l,m⟩:=bnd k
 refine DFp.a [] [3] (Ac.call (zg l) rfl rfl rfl rfl) rfl rfl rfl rfl rfl rfl rfl rfl ?_
 rintro ⟨⟩
 refine DF.step 18 rfl rfl rfl rfl rfl ?_
 refine DFp.a0 [] [] (Ac.q rfl) rfl rfl rfl rfl rfl rfl ?_
 intro _
 refine DF.fin rfl rfl rfl rfl rfl ?_
 refine DFe.nil ?_
 refine Z0 ?_
 cases m
 exact Eo1 () [] []
theorem m8 {g:aV} {r:Int} (H:gg g=some r):CT G 44 [.agg (qR g A0 C0).toArray] [] [Im.sl (Ty.int .i64) A0 C0 g.aX,Im.sl (Ty.int .u32) (some ⟨0,0,none⟩) 16 dE] (λ_:Unit=> .int .i64 r) (λh=>[]) (λh=>[]):=by
 delta gg at H
 refine Cf Go.Proofs.Tryz.func44 λK=> ?_
 refine Z1 ?_
 refine Lx λg1=> ?_
 refine Z1 ?_
 refine Zl ?_
 refine Z1 ?_
 have ⟨i,c,d⟩:=bnd H
 refine Lk [] [0] (qX c) λ⟨⟩=> ?_
 refine Z0 ?_
 refine Tb d (λa=> ?_) λa=> ?_
 ·refine Z1 ?_
  cases a
  exact Eo1 () [] []
 refine Z1 ?_
 have ⟨j,e,f⟩:=bnd a
 refine Lk [] [0,1] (m7 e) λ⟨⟩=> ?_
 refine Z0 ?_
 refine Tb f (λb=> ?_) λb=> ?_
 ·refine Z1 ?_
  cases b
  exact Eo1 () [] []
 refine Z1 ?_
 cases b
 exact Eo1 () [] []
theorem nQ {g:aV} {r:ByteArray} (H:dZ g=some r):CT G 29 [.agg (qR g A0 C0).toArray] [] [Im.sl (Ty.int .i64) A0 C0 g.aX,Im.sl (Ty.int .u32) (some ⟨0,0,none⟩) 16 dE] (λ_:Unit=> .string r) (λh=>[]) (λh=>[]):=by
 delta dZ at H
 refine Cf Go.Proofs.Tryz.func29 λK=> ?_
 refine Z1 ?_
 refine Lx λg1=> ?_
 refine Z2 ?_
 have ⟨r2,h3,H4⟩:=bnd H
 refine Lk [] [0,1] (m8 h3) λ⟨⟩=> ?_
 refine Z0 ?_
 refine Tb H4 (λH6=> ?_) λH6=> ?_
 ·refine Z1 ?_
  cases H6
  exact Eo1 () [] []
 refine Z1 ?_
 have ⟨r7,h8,H9⟩:=bnd H6
 refine Lk [] [0,1] (m7 h8) λ⟨⟩=> ?_
 refine Z0 ?_
 cases H9
 exact Eo1 () [] []
theorem gY {c:aH} {now:Int} {r:(List ByteArray)×aH} (H:cU c now=some r):CT G 13 [.pointer (some ⟨N0,0,none⟩),.int .i64 now] [Ch.box N0 94 (ko c N1 N3 N4),Ch.box N1 155 (eS c.aS N2 A0 C0 A1 C1),Ch.box N2 153 (cP c.aS.slot M0),Ch.mp Ty.str false M0 c.aS.slot.parts,Ch.box N3 158 [.int .i64 c.lines.most,.int .i64 c.lines.now,.map M1],Ch.mp aE true M1 c.lines.l,Ch.box N4 161 (eT c.bS N5),Ch.box N5 106 [.slice A2 c.bS.want.l.length C2]] [Im.sl aU A0 C0 c.aS.aK.rows,Im.sl aF A1 C1 c.aS.aK.begun,Im.sl aC A2 C2 c.bS.want.l,Im.sl (Ty.int .u32) (some ⟨0,0,none⟩) 16 dE] (λh:(Option Addr×Nat)=> .slice h.1 r.1.length h.2) (λh=>[Ch.arr Ty.str 9 h.1 h.2 r.1,Ch.box N0 94 (ko r.2 N1 N3 N4),Ch.box N1 155 (eS r.2.aS N2 A0 C0 A1 C1),Ch.box N2 153 (cP r.2.aS.slot M0),Ch.mp Ty.str false M0 r.2.aS.slot.parts,Ch.box N3 158 [.int .i64 r.2.lines.most,.int .i64 r.2.lines.now,.map M1],Ch.mp aE true M1 r.2.lines.l,Ch.box N4 161 (eT r.2.bS N5),Ch.box N5 106 [.slice A2 r.2.bS.want.l.length C2]]) (λh=>[Im.sl aU A0 C0 r.2.aS.aK.rows,Im.sl aF A1 C1 r.2.aS.aK.begun,Im.sl aC A2 C2 r.2.bS.want.l]):=by
 delta cU at H
 refine Cf Go.Proofs.Tryz.func13 λK=> ?_
 refine Z3 ?_
 refine Z1 ?_
 have ⟨u,M,N⟩:=bnd H
 refine Tjh (η:=(Option Addr×Nat)) (λh=>(λd e=>[(5,.slice d u.1.length e)]) h.1 h.2) [0,1] (λh=>(λd e=>[Ch.arr jM 39 d e u.1,Ch.box N0 94 (ko u.2 N1 N3 N4)]) h.1 h.2) [1,2,4,6,7,3,5] (λ_=>[]) ?_ ?_
 ·refine Tb M (λw=> ?_) λw=> ?_
  ·refine Z1 ?_
   refine Lt 0 ?_
   refine Z0 ?_
   have ⟨O,P,Q⟩:=bnd w
   refine Lk [1,1,1] [0,1] (qU P) λ⟨R,S⟩=> ?_
   refine La [] [0] (Ac.bs (ty:=jM) (xs:=[O]) (.cons (R,S) [0] rfl .nil) rfl rfl rfl rfl rfl rfl rfl) λbc=> ?_
   refine L.fZ jM 39 ?_
   refine L.frz 1 rfl ?_
   have ⟨_,U,V⟩:=bnd Q
   refine La [0] [0] (Ac.ap (ty:=jM) U rfl rfl rfl rfl rfl rfl rfl) ?_
   rintro ⟨W,X⟩
   refine Z0 ?_
   cases V
   exact Eg (W,X) trivial [0,3,0,0,1,2,2,0,0] [] 2
  refine Z0 ?_
  refine E.fZ jM 39 ?_
  cases w
  exact Eg (none,0) trivial [0,0,0,0,1,2,2,0,0] [] 0
 rintro ⟨d,e⟩
 refine Y3 ?_
 refine Td [] [0,0,0,0,0,2,2] mo ?_
 refine Dq 0 ?_
 refine Dq 1 ?_
 refine Dq 2 ?_
 refine Db 3 1 ?_
 refine Dq 4 ?_
 refine Dq 5 ?_
 refine Dq 6 ?_
 refine Dq 7 ?_
 refine Db 8 1 ?_
 refine Dq 13 ?_
 have ⟨bd,Y,Z⟩:=bnd N
 refine D.one rfl rfl rfl (Dp.ab [2,2,3] [0,1] [3,3,0,0,1,0,0] (Ac.call (mO Y) rfl rfl rfl rfl) rfl rfl rfl rfl rfl rfl (λ_=>rfl) ?_)
 rintro ⟨⟨be,bf⟩,⟨bg,bh⟩⟩
 refine Dq 10 ?_
 have ⟨bi,aa,ac⟩:=bnd Z
 refine Dk [0,0] [4] (qW aa) λ⟨bj,bk⟩=> ?_
 refine Dq 12 ?_
 refine Dn ?_
 refine Z0 ?_
 have ⟨p,ad,ae⟩:=bnd ac
 refine Tjh (η:=(Option Addr×Nat)) (λh=>(λf g=>[(6,.slice f p.length g)]) h.1 h.2) [0,5] (λh=>(λf g=>[Ch.arr (Ty.int .i64) 3 f g p]) h.1 h.2) [1,2,3,4,8,9,0,5,6] (λ_=>[]) ?_ ?_
 ·refine Yl0 ?_
  refine T.fZ (Ty.int .i64) 3 ?_
  refine Tq (η:=(Option Addr×Nat)) (λa h=>(λi j=>[(6,.slice i a.2.length j),(49,.int .i64 a.1)]) h.1 h.2) [0,5,47,48] (λa h=>(λi j=>[Ch.arr (Ty.int .i64) 3 i j a.2]) h.1 h.2) [2,3,4,5,9,10,1,6,7,8] (λ_ _=>[]) (none,0) [0,1,1,1,1,4,4,0,0,0,0] [] ad ?_
  rintro k_ a ⟨i,j⟩ bl af ag ah
  refine Y2 ?_
  refine Tb af (λx=> ?_) λx=> ?_
  ·refine Z1 ?_
   refine Zl ?_
   refine Z1 ?_
   have ⟨q,y,ai⟩:=bnd x
   refine L.iw 10 rfl (bH y) λbm aj=> ?_
   subst aj
   refine Ly (Yl.ia y rfl rfl rfl rfl rfl rfl) ?_
   refine Ly (Yl.lo (v:= .agg #[.int .i64 q.from_,.int .i64 q.to]) 10 a.1.toNat 0 (aI y).2 rfl rfl rfl rfl (λ_=>rfl)) ?_
   refine Ll λbn=> ?_
   refine Lt 0 ?_
   refine Z0 ?_
   refine La [] [] (Ac.bs (ty:=(Ty.int .i64)) (xs:=[q.from_,q.to]) (.cons () [] rfl (.cons () [] rfl .nil)) rfl rfl rfl rfl rfl rfl rfl) λbo=> ?_
   refine L.frz 0 rfl ?_
   have ⟨_,ak,al⟩:=bnd ai
   refine La [1] [0] (Ac.ap (ty:=(Ty.int .i64)) ak rfl rfl rfl rfl rfl rfl rfl) ?_
   rintro ⟨am,an⟩
   refine Z0 ?_
   cases al
   exact Eg (_,(am,an)) (ag _ rfl) [0,1,1,1,1,1,1,1,1,1,1] [] 1
  refine Z0 ?_
  cases x
  have hb:=ah _ rfl
  subst p
  exact Eg (i,j) trivial [0,0,0,0,0,0,0,0,0,0] [] 0
 rintro ⟨f,g⟩
 refine Z2 ?_
 have ⟨F,ao,aq⟩:=bnd ae
 refine Tjh (η:=(Option Addr×Nat)) (λh=>(λs t=>[(5,.slice s F.length t)]) h.1 h.2) [0] (λh=>(λs t=>[Ch.arr jM 39 s t F]) h.1 h.2) [1,2,3,4,5,6,8,9] (λ_=>[]) ?_ ?_
 ·refine Tb ao (λz=> ?_) λz=> ?_
  ·refine Z0 ?_
   refine L.frz 0 rfl ?_
   refine La [] [0] (Ac.bs (ty:=jM) (xs:=[(aV.mk 0 3 p (ByteArray.mk #[]))]) (.cons (f,g) [0] rfl .nil) rfl rfl rfl rfl rfl rfl rfl) λbp=> ?_
   refine L.frz 0 rfl ?_
   have ⟨_,ar,au⟩:=bnd z
   refine La [6] [0] (Ac.ap (ty:=jM) ar rfl rfl rfl rfl rfl rfl rfl) ?_
   rintro ⟨av,aw⟩
   refine Z0 ?_
   cases au
   exact Eg (av,aw) trivial [0,0,0,0,0,0,0,0,0] [] 2
  refine Z0 ?_
  cases z
  exact Eg (d,e) trivial [7,1,1,1,1,1,1,1,1] [] 0
 rintro ⟨s,t⟩
 refine Z3 ?_
 have ⟨A,ax,ay⟩:=bnd aq
 refine Tjh (η:=(Option Addr×Nat)) (λh=>(λk m=>[(9,.slice k A.length m)]) h.1 h.2) [] (λh=>(λk m=>[Ch.arr Ty.str 9 k m A]) h.1 h.2) [1,2,3,4,5,6,7,8] (λ_=>[]) ?_ ?_
 ·refine Yl0 ?_
  refine T.fZ Ty.str 9 ?_
  refine Tq (η:=(Option Addr×Nat)) (λb h=>(λn o=>[(9,.slice n b.2.length o),(71,.int .i64 b.1)]) h.1 h.2) [0,69,70] (λb h=>(λn o=>[Ch.arr Ty.str 9 n o b.2]) h.1 h.2) [2,3,4,5,6,7,1,8,9] (λ_ _=>[]) (none,0) [0,1,1,1,1,1,1,0,0,0] [] ax ?_
  rintro k_ b ⟨n,o⟩ bq az a0 a1
  refine Y2 ?_
  refine Tb az (λB=> ?_) λB=> ?_
  ·refine Z1 ?_
   refine Zl ?_
   refine Z1 ?_
   have ⟨a2,C,a3⟩:=bnd B
   refine L.iw 7 rfl (bH C) λbr a4=> ?_
   subst a4
   refine Ly (Yl.ia C rfl rfl rfl rfl rfl rfl) ?_
   refine La [7] [] (Ac.lo b.1.toNat 0 (v:=(λh:(Option Addr×Nat)=>(λI J=> .agg (qR a2 I J).toArray) h.1 h.2)) (aI C).2 rfl rfl rfl (λ_=>rfl)) ?_
   rintro ⟨I,J⟩
   refine Ll λbt=> ?_
   refine Lt 0 ?_
   refine Z1 ?_
   refine Lt 0 ?_
   refine Z0 ?_
   have ⟨a5,a6,a7⟩:=bnd a3
   refine Lk [] [0,7] (nQ a6) λ⟨⟩=> ?_
   refine La [] [] (Ac.bs (ty:=Ty.str) (xs:=[a5]) (.cons () [] rfl .nil) rfl rfl rfl rfl rfl rfl rfl) λbu=> ?_
   refine L.frz 0 rfl ?_
   have ⟨_,a8,a9⟩:=bnd a7
   refine La [2] [0] (Ac.ap (ty:=Ty.str) a8 rfl rfl rfl rfl rfl rfl rfl) ?_
   rintro ⟨ba,bb⟩
   refine Z0 ?_
   cases a9
   exact Eg (_,(ba,bb)) (a0 _ rfl) [0,2,2,2,2,2,2,1,1,1] [] 2
  refine Z0 ?_
  cases B
  have hb:=a1 _ rfl
  subst A
  exact Eg (n,o) trivial [0,0,0,0,0,0,0,1,1] [] 0
 rintro ⟨k,m⟩
 refine Z1 ?_
 cases ay
 exact Eo1 (k,m) [0,0,0,0,3,0,2,0,0] [3,4,0]
theorem zh {s_:ByteArray} {r:ByteArray×Bool} (H:mF s_=some r):CT G 40 [.string s_] [] [Im.sl (Ty.int .u32) (some ⟨0,0,none⟩) 16 dE] (λ_:Unit=> .tuple #[.string r.1,.bool r.2]) (λh=>[]) (λh=>[]):=by
 delta mF at H
 refine Cf Go.Proofs.Tryz.func40 λK=> ?_
 refine Z3 ?_
 refine Y1 ?_
 have ⟨c,d,e⟩:=bnd H
 refine Tj0 [(21,.bool c)] [0,4] [] [] ?_ ?_
 ·refine Td [] [] mo ?_
  refine Dq 0 ?_
  refine Dq 1 ?_
  refine Dq 2 ?_
  refine D.cs 10 d rfl (λhc a=> ?_) (λhc a=> ?_)
  ·refine Ds 3 ?_
   refine Ds 4 ?_
   refine Ds 5 ?_
   refine Ds 6 ?_
   refine Ds 7 ?_
   refine Ds 8 ?_
   refine Ds 9 ?_
   refine Ds 10 ?_
   refine Ds 11 ?_
   refine Ds 12 ?_
   refine Dq 13 ?_
   refine Dn ?_
   cases a
   exact Eg0 [] 0
  refine Dq 3 ?_
  refine Dq 4 ?_
  have ⟨_,f,g⟩:=bnd a
  refine Dy 5 (Yl.sc f rfl rfl rfl rfl rfl rfl) ?_
  refine Dq 6 ?_
  refine Dq 7 ?_
  have ⟨_,i,j⟩:=bnd g
  refine Dy 8 (Yl.sc i rfl rfl rfl rfl rfl rfl) ?_
  refine Da [] [] rfl rfl (Ac.bs (ty:=Ty.str) (xs:=[(gG s_ 0 (IntKind.i64.wrap ((s_.size:Int) - 4)))]) (.cons () [] rfl .nil) rfl rfl rfl rfl rfl rfl rfl) λq=> ?_
  have ⟨s,k,l⟩:=bnd j
  refine D.one rfl rfl rfl (Dp.br (Ac.call (uo k) rfl rfl rfl rfl) (Bw.ch 0 rfl (Bw.im 0 rfl (Bw.nil))) rfl rfl rfl rfl ?_)
  intro _
  have ⟨t,m,n⟩:=bnd l
  refine Dk [] [] (uq m) λ⟨⟩=> ?_
  refine Dq 12 ?_
  refine Dq 13 ?_
  refine Dn ?_
  cases n
  exact Eg0 [] 0
 refine Tb e (λb=> ?_) λb=> ?_
 ·refine Z1 ?_
  cases b
  exact Eo () [] [] (.tmp rfl (.tmp rfl .nil))
 refine Z1 ?_
 have ⟨_,o,p⟩:=bnd b
 refine Ly (Yl.sc o rfl rfl rfl rfl rfl rfl) ?_
 refine Z0 ?_
 cases p
 exact Eo () [] [] (.tmp rfl (.tmp rfl .nil))
end Go.Tw.X
namespace Go.Tw.X
open Go Go.Tw
variable {A0 A1 A2 A3 A4 A5 A6 A7 A8 : Option Addr} {C0 C1 C2 C3 C4 C5 C6 C7 C8 : Nat}
variable {N0 N1 N2 N3 N4 N5 : Nat}
variable {M0 M1 : Option Nat}
theorem ur {s_:ByteArray} {r:aG} (H:kI s_=some r):CT G 41 [.string s_] [] [] (λh:Nat=> .pointer (some ⟨h,0,none⟩)) (λh=>[Ch.box h 177 [.string r.s,.int .i64 r.e]]) (λh=>[]):=by
 delta kI at H
 refine Cf Go.Proofs.Tryz.func41 λK=> ?_
 refine Z2 ?_
 refine Lx λg1=> ?_
 refine Z0 ?_
 cases H
 exact Eo1 g1 [0] []
theorem eR {in_:aG} {e:Int} {r:aG} (H:bP in_ e=some r):CT G 93 [.pointer (some ⟨N0,0,none⟩),.int .i64 e] [Ch.box N0 177 [.string in_.s,.int .i64 in_.e]] [] (λ_:Unit=> .tuple #[]) (λh=>[Ch.box N0 177 [.string r.s,.int .i64 r.e]]) (λh=>[]):=by
 delta bP at H
 refine Cf Go.Proofs.Tryz.func93 λK=> ?_
 refine Y1 ?_
 have ⟨e4,H5,H6⟩:=bnd H
 refine Tj0 [(12,.bool e4)] [0,1] [] [0] ?_ ?_
 ·refine Z0 ?_
  refine Lw 9 H5 (λH7=> ?_) λH7=> ?_
  ·refine Z0 ?_
   cases H7
   exact Eg0 [0] 0
  refine Z0 ?_
  cases H7
  exact Eg0 [0] 0
 refine Tb H6 (λH8=> ?_) λH8=> ?_
 ·refine Z0 ?_
  refine Lt 0 ?_
  refine Z0 ?_
  refine Lt 0 ?_
  refine Ln (E.off ?_)
  cases H8
  exact Eo () [0] [] .nil
 refine Tk (E.off ?_)
 cases H8
 exact Eo () [0] [] .nil
theorem dA {in_:aG} {r:Int×aG} (H:bM in_=some r):CT G 92 [.pointer (some ⟨N0,0,none⟩)] [Ch.box N0 177 [.string in_.s,.int .i64 in_.e]] [] (λ_:Unit=> .int .i64 r.1) (λh=>[Ch.box N0 177 [.string r.2.s,.int .i64 r.2.e]]) (λh=>[]):=by
 delta bM at H
 refine Cf Go.Proofs.Tryz.func92 λK=> ?_
 refine Z3 ?_
 refine Z1 ?_
 have ⟨a,o,b⟩:=bnd H
 refine Tj (η:=Unit×Unit) (λh=>a = .inl h.1) (λ_=>[]) [0] (λ_=>[]) [0] (λ_=>[]) ?_ ?_
 ·refine Yl0 ?_
  refine Tq (η:=Unit) (λc h=>[(3,.int .i64 c.2),(12,.int .i64 c.1)]) [0,11] (λ_ _=>[]) [0] (λ_ _=>[]) () [0] [] o ?_
  rintro k_ c ⟨⟩ m p q d
  refine Y2 ?_
  refine Tb p (λf=> ?_) λf=> ?_
  ·refine Z1 ?_
   refine Zl ?_
   refine Z2 ?_
   have ⟨S,t,u⟩:=bnd f
   refine Ly (Yl.si t rfl rfl rfl rfl rfl) ?_
   refine Z1 ?_
   have ⟨_,v,w⟩:=bnd u
   refine Ly (Yl.shl (nb:=64) rfl v rfl rfl rfl) ?_
   refine Z2 ?_
   refine Tb w (λg=> ?_) λg=> ?_
   ·refine Z0 ?_
    cases g
    exact Eg (_,()) (q _ rfl) [0] [] 0
   refine Y2 ?_
   have ⟨x,y,z⟩:=bnd g
   refine Tj0 [(40,.bool x)] [0,3,4] [] [0] ?_ ?_
   ·refine Z0 ?_
    refine Lw 33 y (λi=> ?_) λi=> ?_
    ·refine Z0 ?_
     refine Lw 37 i (λj=> ?_) λj=> ?_
     ·refine Z0 ?_
      cases j
      exact Eg0 [0] 0
     refine Z0 ?_
     cases j
     exact Eg0 [0] 0
    refine Z0 ?_
    cases i
    exact Eg0 [0] 0
   refine Tb z (λk=> ?_) λk=> ?_
   ·refine Z1 ?_
    have ⟨U,A,B⟩:=bnd k
    refine Lk [0] [] (eR A) λ⟨⟩=> ?_
    refine Z1 ?_
    obtain ⟨V,hz,C⟩:=cK B
    subst m
    have hb:=d _ rfl
    subst a
    obtain rfl:=(sm b).symm
    refine Z0 ?_
    cases C
    exact Eo1 () [0] []
   refine Z1 ?_
   have ⟨_,F,I⟩:=bnd k
   refine Ly (Yl.sc F rfl rfl rfl rfl rfl rfl) ?_
   refine Z0 ?_
   refine Lt 0 ?_
   refine Z1 ?_
   obtain ⟨W,hz,J⟩:=cK I
   subst m
   have hb:=d _ rfl
   subst a
   obtain rfl:=(sm b).symm
   refine Z0 ?_
   cases J
   exact Eo1 () [0] []
  refine Z0 ?_
  cases f
  have hb:=d _ rfl
  subst a
  exact Eg (_,()) rfl [0] [] 0
 rintro ⟨X,⟨⟩⟩ hy
 subst hy
 refine Z2 ?_
 have ⟨n,M,N⟩:=bnd b
 refine Tj0 [] [0] [Ch.box N0 177 [.string n.s,.int .i64 n.e]] [] ?_ ?_
 ·refine Tb M (λl=> ?_) λl=> ?_
  ·refine Z0 ?_
   have ⟨Y,O,P⟩:=bnd l
   refine Lk [0] [] (eR O) λ⟨⟩=> ?_
   refine Z0 ?_
   cases P
   exact Eg0 [0] 0
  refine Z0 ?_
  cases l
  exact Eg0 [0] 0
 refine Z1 ?_
 have ⟨Z,Q,R⟩:=bnd N
 refine Lk [0] [] (eR Q) λ⟨⟩=> ?_
 refine Z1 ?_
 cases R
 exact Eo1 () [0] []
theorem wD {in_:aG} {n_:Int} {r:ByteArray×aG} (H:kJ in_ n_=some r):CT G 155 [.pointer (some ⟨N0,0,none⟩),.int .i64 n_] [Ch.box N0 177 [.string in_.s,.int .i64 in_.e]] [] (λ_:Unit=> .string r.1) (λh=>[Ch.box N0 177 [.string r.2.s,.int .i64 r.2.e]]) (λh=>[]):=by
 delta kJ at H
 refine Cf Go.Proofs.Tryz.func155 λK=> ?_
 refine Z3 ?_
 refine Z1 ?_
 refine Tb H (λH5=> ?_) λH5=> ?_
 ·refine Z1 ?_
  have ⟨r6,h7,H8⟩:=bnd H5
  refine Lk [0] [] (eR h7) λ⟨⟩=> ?_
  refine Z1 ?_
  cases H8
  exact Eo1 () [0] []
 refine Z1 ?_
 have ⟨_,h9,a⟩:=bnd H5
 refine Ly (Yl.sc h9 rfl rfl rfl rfl rfl rfl) ?_
 refine Z1 ?_
 have ⟨_,b,c⟩:=bnd a
 refine Ly (Yl.sc b rfl rfl rfl rfl rfl rfl) ?_
 refine Z0 ?_
 refine Lt 0 ?_
 refine Z1 ?_
 cases c
 exact Eo1 () [0] []
theorem pB {in_:aG} {r:ByteArray×aG} (H:g0 in_=some r):CT G 94 [.pointer (some ⟨N0,0,none⟩)] [Ch.box N0 177 [.string in_.s,.int .i64 in_.e]] [] (λ_:Unit=> .string r.1) (λh=>[Ch.box N0 177 [.string r.2.s,.int .i64 r.2.e]]) (λh=>[]):=by
 delta g0 at H
 refine Cf Go.Proofs.Tryz.func94 λK=> ?_
 refine Z2 ?_
 have ⟨r1,h2,H3⟩:=bnd H
 refine Lk [0] [] (dA h2) λ⟨⟩=> ?_
 have ⟨r4,h5,H6⟩:=bnd H3
 refine Lk [0] [] (wD h5) λ⟨⟩=> ?_
 refine Z0 ?_
 cases H6
 exact Eo1 () [0] []
theorem x6 {in_:aG} {r:aV×aG} (H:lG in_=some r):CT G 42 [.pointer (some ⟨N0,0,none⟩)] [Ch.box N0 177 [.string in_.s,.int .i64 in_.e]] [] (λh:(Option Addr×Nat)=> .agg (qR r.1 h.1 h.2).toArray) (λh=>[Ch.box N0 177 [.string r.2.s,.int .i64 r.2.e]]) (λh=>[Im.sl (Ty.int .i64) h.1 h.2 r.1.aX]):=by
 delta lG at H
 refine Cf Go.Proofs.Tryz.func42 λK=> ?_
 refine Z1 ?_
 refine Ll λg1=> ?_
 refine Z1 ?_
 have ⟨r2,h3,H4⟩:=bnd H
 refine Lk [1] [] (dA h3) λ⟨⟩=> ?_
 refine Z0 ?_
 have ⟨r5,h6,H7⟩:=bnd H4
 refine Lk [0] [] (dA h6) λ⟨⟩=> ?_
 refine Z0 ?_
 refine Ll λg8=> ?_
 refine Lt 0 ?_
 refine Z1 ?_
 have ⟨r9,l,m⟩:=bnd H7
 refine Lk [1] [] (dA l) λ⟨⟩=> ?_
 refine Z2 ?_
 have ⟨k,n,o⟩:=bnd m
 refine Tj0 [] [0,2,3,4] [Ch.box N0 177 [.string k.s,.int .i64 k.e]] [1,2] ?_ ?_
 ·refine Tb n (λi=> ?_) λi=> ?_
  ·refine Z0 ?_
   have ⟨N,p,q⟩:=bnd i
   refine Lk [0] [] (eR p) λ⟨⟩=> ?_
   refine Z0 ?_
   cases q
   exact Eg0 [0,0,0] 0
  refine Z0 ?_
  cases i
  exact Eg0 [0,0,0] 0
 refine Z2 ?_
 have ⟨b,t,u⟩:=bnd o
 refine Tjh (η:=(Option Addr×Nat)) (λ_=>[]) [0,2,3] (λh=>(λf g=>[Ch.arr (Ty.int .i64) 3 f g b.2.aX,Ch.box N0 177 [.string b.1.s,.int .i64 b.1.e],Ch.box g8 39 (qR b.2 f g)]) h.1 h.2) [2] (λ_=>[]) ?_ ?_
 ·refine Yl0 ?_
  refine T.fZ (Ty.int .i64) 3 ?_
  refine Tq (η:=(Option Addr×Nat)) (λa h=>(λc d=>[(18,.int .i64 a.2.2)]) h.1 h.2) [0,2,3,17] (λa h=>(λc d=>[Ch.arr (Ty.int .i64) 3 c d a.1.aX,Ch.box N0 177 [.string a.2.1.s,.int .i64 a.2.1.e],Ch.box g8 39 (qR a.1 c d)]) h.1 h.2) [3] (λ_ _=>[]) (none,0) [0,0,0,0] [] t ?_
  rintro k_ a ⟨c,d⟩ O v w x
  refine Y2 ?_
  refine Tb v (λj=> ?_) λj=> ?_
  ·refine Z1 ?_
   refine Yl0 ?_
   refine Td [7] [2,2] mo ?_
   refine Dq 0 ?_
   refine Db 1 0 ?_
   refine Dq 2 ?_
   have ⟨y,z,A⟩:=bnd j
   refine Dk [1] [] (dA z) λ⟨⟩=> ?_
   refine Da [] [] rfl rfl (Ac.bs (ty:=(Ty.int .i64)) (xs:=[y.1]) (.cons () [] rfl .nil) rfl rfl rfl rfl rfl rfl rfl) λP=> ?_
   refine D.frz 0 rfl ?_
   have ⟨_,B,C⟩:=bnd A
   refine Da [1] [0] rfl rfl (Ac.ap (ty:=(Ty.int .i64)) B rfl rfl rfl rfl rfl rfl rfl) ?_
   rintro ⟨F,I⟩
   refine Dq 6 ?_
   refine Dt 0 ?_
   refine Dn ?_
   refine Z0 ?_
   cases C
   exact Eg (_,(F,I)) (w _ rfl) [2,2,0,0] [] 1
  refine Z0 ?_
  cases j
  have hb:=x _ rfl
  subst b
  exact Eg (c,d) trivial [0,0,0,0] [] 0
 rintro ⟨f,g⟩
 refine Z1 ?_
 have ⟨Q,J,M⟩:=bnd u
 refine Lk [1] [] (pB J) λ⟨⟩=> ?_
 refine Z0 ?_
 refine Lt 2 ?_
 refine Z1 ?_
 refine Lt 3 ?_
 refine Z0 ?_
 refine E.frz 3 rfl ?_
 cases M
 exact Eo (f,g) [2] [0] (.cell 0 rfl rfl rfl .nil)
theorem oc {in_:aG} {r:Int} (H:iP in_=some r):CT G 43 [.pointer (some ⟨N0,0,none⟩)] [Ch.box N0 177 [.string in_.s,.int .i64 in_.e]] [] (λ_:Unit=> .int .i64 r) (λh=>[Ch.box N0 177 [.string in_.s,.int .i64 in_.e]]) (λh=>[]):=by
 delta iP at H
 refine Cf Go.Proofs.Tryz.func43 λK=> ?_
 refine Z3 ?_
 refine Tb H (λH2=> ?_) λH2=> ?_
 ·refine Z1 ?_
  cases H2
  exact Eo1 () [0] []
 refine Z1 ?_
 cases H2
 exact Eo1 () [0] []
theorem qY {s_:ByteArray} {r:aV×Int} (H:jO s_=some r):CT G 14 [.string s_] [] [Im.sl (Ty.int .u32) (some ⟨0,0,none⟩) 16 dE] (λh:(Option Addr×Nat)=> .tuple #[.agg (qR r.1 h.1 h.2).toArray,.int .i64 r.2]) (λh=>[]) (λh=>[Im.sl (Ty.int .i64) h.1 h.2 r.1.aX]):=by
 delta jO at H
 refine Cf Go.Proofs.Tryz.func14 λK=> ?_
 refine Z1 ?_
 refine Ll λg1=> ?_
 refine Z2 ?_
 refine Tb H (λH3=> ?_) λH3=> ?_
 ·refine Z1 ?_
  refine Lt 0 ?_
  refine Z0 ?_
  refine E.dD [Im.sl (Ty.int .i64) none 0 []] (λA w _ _ f hf=>by rw [List.mem_singleton.1 hf]; exact Im.bV A w) ?_
  cases H3
  exact Eo (none,0) [] [0] (.cell 0 rfl rfl rfl (.tmp rfl .nil))
 refine Z1 ?_
 have ⟨r5,h6,H7⟩:=bnd H3
 refine Lk [] [0] (zh h6) λ⟨⟩=> ?_
 refine Z2 ?_
 refine Tb H7 (λH9=> ?_) λH9=> ?_
 ·refine Z1 ?_
  refine Lt 0 ?_
  refine Z0 ?_
  refine E.dD [Im.sl (Ty.int .i64) none 0 []] (λA w _ _ f hf=>by rw [List.mem_singleton.1 hf]; exact Im.bV A w) ?_
  cases H9
  exact Eo (none,0) [] [0] (.cell 0 rfl rfl rfl (.tmp rfl .nil))
 refine Z1 ?_
 have ⟨s,c,d⟩:=bnd H9
 refine Lk [] [] (ur c) λt=> ?_
 refine Z1 ?_
 have ⟨u,e,g⟩:=bnd d
 refine Lk [0] [] (x6 e) λ⟨i,j⟩=> ?_
 refine Ll λv=> ?_
 refine Lt 0 ?_
 refine Z1 ?_
 have ⟨x,k,l⟩:=bnd g
 refine Lk [1] [] (oc k) λ⟨⟩=> ?_
 refine Z2 ?_
 have ⟨m,n,o⟩:=bnd l
 refine Tj0 [(8,.int .i64 m)] [2,7] [] [0,1,2] ?_ ?_
 ·refine Tb n (λa=> ?_) λa=> ?_
  ·refine Z0 ?_
   have ⟨y,p,q⟩:=bnd a
   refine Lk [] [0,1] (m8 p) λ⟨⟩=> ?_
   refine Z0 ?_
   cases q
   exact Eg0 [0,0,0] 0
  refine Z0 ?_
  cases a
  exact Eg0 [0,0,0] 0
 refine Z2 ?_
 refine Tb o (λb=> ?_) λb=> ?_
 ·refine Z1 ?_
  refine Lt 2 ?_
  refine Z0 ?_
  refine E.dD [Im.sl (Ty.int .i64) none 0 []] (λA w _ _ f hf=>by rw [List.mem_singleton.1 hf]; exact Im.bV A w) ?_
  cases b
  exact Eo (none,0) [] [0] (.cell 0 rfl rfl rfl (.tmp rfl .nil))
 refine Z1 ?_
 refine Lt 2 ?_
 refine Z0 ?_
 cases b
 exact Eo (i,j) [] [0] (.cell 0 rfl rfl rfl (.tmp rfl .nil))
theorem o8 {t_:aZ} {r:aZ} (H:ir t_=some r):CT G 76 [.pointer (some ⟨N0,0,none⟩)] [Ch.box N0 155 (eS t_ N1 A0 C0 A1 C1),Ch.box N1 153 (cP t_.slot M0),Ch.mp Ty.str false M0 t_.slot.parts] [Im.sl aU A0 C0 t_.aK.rows,Im.sl aF A1 C1 t_.aK.begun] (λh:Nat×Option Nat×(Option Addr×Nat)×(Option Addr×Nat)=> .tuple #[]) (λh=>[Ch.box N0 155 (eS r h.1 h.2.2.1.1 h.2.2.1.2 h.2.2.2.1 h.2.2.2.2),Ch.box h.1 153 (cP r.slot h.2.1),Ch.mp Ty.str false h.2.1 r.slot.parts]) (λh=>[Im.sl aU h.2.2.1.1 h.2.2.1.2 r.aK.rows,Im.sl aF h.2.2.2.1 h.2.2.2.2 r.aK.begun]):=by
 delta ir at H
 refine Cf Go.Proofs.Tryz.func76 λK=> ?_
 refine Z0 ?_
 have ⟨r1,h2,H3⟩:=bnd H
 refine Lk [] [] (su h2) λ⟨g4,g5,v6,⟨a7,c8⟩,⟨a9,a⟩⟩=> ?_
 refine Z0 ?_
 refine Lt 3 ?_
 refine Ln (E.off ?_)
 cases H3
 exact Eo (g5,v6,(a7,c8),(a9,a)) [0,1,1] [0,1] .nil
theorem o9 {c:aP} {r:aP} (H:fO c=some r):CT G 77 [.pointer (some ⟨N0,0,none⟩)] [Ch.box N0 158 [.int .i64 c.most,.int .i64 c.now,.map M0],Ch.mp aE true M0 c.l] [] (λ_:Unit=> .tuple #[]) (λh=>[Ch.box N0 158 [.int .i64 r.most,.int .i64 r.now,.map M0],Ch.mp aE true M0 r.l]) (λh=>[]):=by
 delta fO at H
 refine Cf Go.Proofs.Tryz.func77 λK=> ?_
 refine Z0 ?_
 refine La [1] [] (Ac.mcl (ty:=aE) (ag:=true) rfl rfl rfl rfl) λ_=> ?_
 refine Ln (E.off ?_)
 cases H
 exact Eo () [1,0] [] .nil
theorem l8 {f:bE} {r:bE} (H:dB f=some r):CT G 78 [.pointer (some ⟨N0,0,none⟩)] [Ch.box N0 161 (eT f N1),Ch.box N1 106 [.slice A0 f.want.l.length C0]] [Im.sl aC A0 C0 f.want.l] (λh:Nat×(Option Addr×Nat)=> .tuple #[]) (λh=>[Ch.box N0 161 (eT r h.1),Ch.box h.1 106 [.slice h.2.1 r.want.l.length h.2.2]]) (λh=>[Im.sl aC h.2.1 h.2.2 r.want.l]):=by
 delta dB at H
 refine Cf Go.Proofs.Tryz.func78 λK=> ?_
 refine Z0 ?_
 refine Lx λg1=> ?_
 refine Z0 ?_
 refine Lt 1 ?_
 refine Z0 ?_
 refine Lt 0 ?_
 refine Ln (E.off ?_)
 refine E.dD [Im.sl aC none 0 []] (λA w _ _ f hf=>by rw [List.mem_singleton.1 hf]; exact Im.bV A w) ?_
 cases H
 exact Eo (g1,(none,0)) [0,0] [0] .nil
theorem oK {c:aH} {aT:Int} {r:aH} (H:eP c aT=some r):CT G 34 [.pointer (some ⟨N0,0,none⟩),.int .i64 aT] [Ch.box N0 94 (ko c N1 N3 N4),Ch.box N1 155 (eS c.aS N2 A0 C0 A1 C1),Ch.box N2 153 (cP c.aS.slot M0),Ch.mp Ty.str false M0 c.aS.slot.parts,Ch.box N3 158 [.int .i64 c.lines.most,.int .i64 c.lines.now,.map M1],Ch.mp aE true M1 c.lines.l,Ch.box N4 161 (eT c.bS N5),Ch.box N5 106 [.slice A2 c.bS.want.l.length C2]] [Im.sl aU A0 C0 c.aS.aK.rows,Im.sl aF A1 C1 c.aS.aK.begun,Im.sl aC A2 C2 c.bS.want.l] (λh:Nat×Option Nat×(Option Addr×Nat)×(Option Addr×Nat)×Nat×(Option Addr×Nat)=> .tuple #[]) (λh=>[Ch.box N0 94 (ko r N1 N3 N4),Ch.box N1 155 (eS r.aS h.1 h.2.2.1.1 h.2.2.1.2 h.2.2.2.1.1 h.2.2.2.1.2),Ch.box h.1 153 (cP r.aS.slot h.2.1),Ch.mp Ty.str false h.2.1 r.aS.slot.parts,Ch.box N3 158 [.int .i64 r.lines.most,.int .i64 r.lines.now,.map M1],Ch.mp aE true M1 r.lines.l,Ch.box N4 161 (eT r.bS h.2.2.2.2.1),Ch.box h.2.2.2.2.1 106 [.slice h.2.2.2.2.2.1 r.bS.want.l.length h.2.2.2.2.2.2]]) (λh=>[Im.sl aU h.2.2.1.1 h.2.2.1.2 r.aS.aK.rows,Im.sl aF h.2.2.2.1.1 h.2.2.2.1.2 r.aS.aK.begun,Im.sl aC h.2.2.2.2.2.1 h.2.2.2.2.2.2 r.bS.want.l]):=by
 delta eP at H
 refine Cf Go.Proofs.Tryz.func34 λK=> ?_
 refine Z1 ?_
 refine Lt 0 ?_
 refine Z1 ?_
 have ⟨r1,h2,H3⟩:=bnd H
 refine Lk [1,1,1] [0,1] (o8 h2) λ⟨g4,v5,⟨a6,c7⟩,⟨a8,c9⟩⟩=> ?_
 refine Z1 ?_
 have ⟨j,a,b⟩:=bnd H3
 refine Lk [4,4] [] (o9 a) λ⟨⟩=> ?_
 refine Z0 ?_
 have ⟨k,d,e⟩:=bnd b
 refine Lk [6,6] [4] (l8 d) λ⟨f,⟨g,i⟩⟩=> ?_
 refine Ln (E.off ?_)
 cases e
 exact Eo (g4,v5,(a6,c7),(a8,c9),f,(g,i)) [7,4,4,4,2,2,0,0] [1,2,0] .nil
theorem uF {in_:aG} {r:Int} (H:kd in_=some r):CT G 134 [.pointer (some ⟨N0,0,none⟩)] [Ch.box N0 177 [.string in_.s,.int .i64 in_.e]] [] (λ_:Unit=> .int .i64 r) (λh=>[Ch.box N0 177 [.string in_.s,.int .i64 in_.e]]) (λh=>[]):=by
 delta kd at H
 refine Cf Go.Proofs.Tryz.func134 λK=> ?_
 refine Z2 ?_
 cases H
 exact Eo1 () [0] []
theorem mP {in_:aG} {most:Int} {r:Int×aG} (H:fI in_ most=some r):CT G 177 [.pointer (some ⟨N0,0,none⟩),.int .i64 most] [Ch.box N0 177 [.string in_.s,.int .i64 in_.e]] [] (λ_:Unit=> .int .i64 r.1) (λh=>[Ch.box N0 177 [.string r.2.s,.int .i64 r.2.e]]) (λh=>[]):=by
 delta fI at H
 refine Cf Go.Proofs.Tryz.func177 λK=> ?_
 refine Z2 ?_
 have ⟨r1,h2,H3⟩:=bnd H
 refine Lk [0] [] (dA h2) λ⟨⟩=> ?_
 refine Z2 ?_
 refine Tb H3 (λH8=> ?_) λH8=> ?_
 ·refine Z1 ?_
  have ⟨r9,a,b⟩:=bnd H8
  refine Lk [0] [] (eR a) λ⟨⟩=> ?_
  refine Z1 ?_
  cases b
  exact Eo1 () [0] []
 refine Z1 ?_
 cases H8
 exact Eo1 () [0] []
theorem k8 {in_:aG} {r:Int} (H:cY in_=some r):CT G 178 [.pointer (some ⟨N0,0,none⟩)] [Ch.box N0 177 [.string in_.s,.int .i64 in_.e]] [] (λ_:Unit=> .int .i64 r) (λh=>[Ch.box N0 177 [.string in_.s,.int .i64 in_.e]]) (λh=>[]):=by
 delta cY at H
 refine Cf Go.Proofs.Tryz.func178 λK=> ?_
 refine Z2 ?_
 cases H
 exact Eo1 () [0] []
theorem sy {in_:aG} {r:(List aM)×aG} (H:iK in_=some r):CT G 135 [.pointer (some ⟨N0,0,none⟩)] [Ch.box N0 177 [.string in_.s,.int .i64 in_.e]] [] (λh:(Option Addr×Nat)=> .slice h.1 r.1.length h.2) (λh=>[Ch.arr aF 149 h.1 h.2 r.1,Ch.box N0 177 [.string r.2.s,.int .i64 r.2.e]]) (λh=>[]):=by
 delta iK at H
 refine Cf Go.Proofs.Tryz.func135 λK=> ?_
 refine Z3 ?_
 refine Z1 ?_
 have ⟨r1,h2,H3⟩:=bnd H
 refine Lk [0] [] (mP h2) λ⟨⟩=> ?_
 refine Z0 ?_
 have ⟨b,k,l⟩:=bnd H3
 refine Tjh (η:=(Option Addr×Nat)) (λh=>(λc d=>[(3,.slice c b.1.length d)]) h.1 h.2) [0] (λh=>(λc d=>[Ch.arr aF 149 c d b.1,Ch.box N0 177 [.string b.2.s,.int .i64 b.2.e]]) h.1 h.2) [] (λ_=>[]) ?_ ?_
 ·refine Yl0 ?_
  refine T.fZ aF 149 ?_
  refine Tq (η:=(Option Addr×Nat)) (λa h=>(λf g=>[(3,.slice f a.2.1.length g),(6,.int .i64 a.2.2)]) h.1 h.2) [0,5] (λa h=>(λf g=>[Ch.arr aF 149 f g a.2.1,Ch.box N0 177 [.string a.1.s,.int .i64 a.1.e]]) h.1 h.2) [] (λ_ _=>[]) (none,0) [0,0] [] k ?_
  rintro k_ a ⟨f,g⟩ F m n o
  refine Y2 ?_
  refine Tb m (λi=> ?_) λi=> ?_
  ·refine Z1 ?_
   refine Zl ?_
   have ⟨p,q,t⟩:=bnd i
   refine Lk [1] [] (mP q) λ⟨⟩=> ?_
   refine Z0 ?_
   have ⟨u,v,w⟩:=bnd t
   refine Lk [0] [] (mP v) λ⟨⟩=> ?_
   refine Z0 ?_
   refine La [] [] (Ac.bs (ty:=aF) (xs:=[(aM.mk (IntKind.i32.wrap p.1) u.1)]) (.cons () [] rfl .nil) rfl rfl rfl rfl rfl rfl rfl) λI=> ?_
   refine L.frz 0 rfl ?_
   have ⟨_,x,y⟩:=bnd w
   refine La [1] [0] (Ac.ap (ty:=aF) x rfl rfl rfl rfl rfl rfl rfl) ?_
   rintro ⟨z,A⟩
   refine Z0 ?_
   cases y
   exact Eg (_,(z,A)) (n _ rfl) [0,0] [] 1
  refine Z0 ?_
  cases i
  have hb:=o _ rfl
  subst b
  exact Eg (f,g) trivial [0,0] [] 0
 rintro ⟨c,d⟩
 refine Z2 ?_
 have ⟨J,B,C⟩:=bnd l
 refine Lk [1] [] (k8 B) λ⟨⟩=> ?_
 refine Z0 ?_
 refine Tb C (λj=> ?_) λj=> ?_
 ·refine Z1 ?_
  refine E.fZ aF 149 ?_
  cases j
  exact Eo1 (none,0) [0,0] []
 refine Z1 ?_
 cases j
 exact Eo1 (c,d) [1,0] []
theorem wE {g:aV} {r:Int×(List (List aM))×Int} (H:iQ g=some r):CT G 79 [.agg (qR g A0 C0).toArray] [] [Im.sl (Ty.int .i64) A0 C0 g.aX] (λh:(Option Addr×Nat)=> .tuple #[.int .i64 r.1,.slice h.1 r.2.1.length h.2,.int .i64 r.2.2]) (λh=>[Ch.arr (Ty.slice aF) 69 h.1 h.2 r.2.1]) (λh=>[]):=by
 delta iQ at H
 refine Cf Go.Proofs.Tryz.func79 λK=> ?_
 refine Z1 ?_
 refine Lx λg1=> ?_
 refine Z1 ?_
 refine Zl ?_
 refine Z1 ?_
 refine Tb H (λH4=> ?_) λH4=> ?_
 ·refine Z1 ?_
  refine E.fZ (Ty.slice aF) 69 ?_
  cases H4
  exact Eo (none,0) [0] [] (.tmp rfl (.tmp rfl (.tmp rfl .nil)))
 refine Z1 ?_
 refine Tb H4 (λH6=> ?_) λH6=> ?_
 ·refine Z1 ?_
  refine E.fZ (Ty.slice aF) 69 ?_
  cases H6
  exact Eo (none,0) [0] [] (.tmp rfl (.tmp rfl (.tmp rfl .nil)))
 refine Z1 ?_
 have ⟨r8,h9,u⟩:=bnd H6
 refine Lk [] [] (ur h9) λt=> ?_
 refine Y2 ?_
 have ⟨b,v,w⟩:=bnd u
 refine Tjh (η:=(Option Addr×Nat)) (λh=>(λc d=>[(6,.slice c b.1.length d)]) h.1 h.2) [1,5] (λh=>(λc d=>[Ch.arr (Ty.slice aF) 69 c d b.1,Ch.box t 177 [.string b.2.s,.int .i64 b.2.e]]) h.1 h.2) [1] (λ_=>[]) ?_ ?_
 ·refine Yl0 ?_
  refine T.fZ (Ty.slice aF) 69 ?_
  refine Tq (η:=(Option Addr×Nat)) (λa h=>(λf i=>[(6,.slice f a.2.length i)]) h.1 h.2) [1,5] (λa h=>(λf i=>[Ch.arr (Ty.slice aF) 69 f i a.2,Ch.box t 177 [.string a.1.s,.int .i64 a.1.e]]) h.1 h.2) [2] (λ_ _=>[]) (none,0) [0,0,0] [] v ?_
  rintro k_ a ⟨f,i⟩ aj x y z
  refine Y2 ?_
  have ⟨A,B,C⟩:=bnd x
  refine Tj0 [(31,.bool A)] [1,5,6] [] [1,2,0] ?_ ?_
  ·refine Z0 ?_
   have ⟨ak,F,I⟩:=bnd B
   refine Lk [1] [] (uF F) λ⟨⟩=> ?_
   refine Z0 ?_
   refine Lw 23 I (λj=> ?_) λj=> ?_
   ·refine Z0 ?_
    have ⟨al,k,J⟩:=bnd j
    refine L.addr 0 rfl (bH k) λam an M=> ?_
    subst M
    refine Ly (Yl.ia k rfl rfl rfl rfl rfl rfl) ?_
    refine L.el 0 rfl (aI k).2 ?_
    rintro _
    refine Lc 0 0 ?_
    refine Z0 ?_
    cases J
    exact Eg0 [0,1,0] 1
   refine Z0 ?_
   cases j
   exact Eg0 [0,1,0] 0
  refine Tb C (λl=> ?_) λl=> ?_
  ·refine Zl ?_
   have ⟨N,O,P⟩:=bnd l
   refine Lk [0] [] (sy O) λ⟨Q,R⟩=> ?_
   refine L.frz 0 rfl ?_
   refine La [] [0] (Ac.bs (ty:=(Ty.slice aF)) (xs:=[N.1]) (.cons (Q,R) [0] rfl .nil) rfl rfl rfl rfl rfl rfl rfl) λao=> ?_
   refine L.frz 0 rfl ?_
   have ⟨_,S,U⟩:=bnd P
   refine La [2] [0] (Ac.ap (ty:=(Ty.slice aF)) S rfl rfl rfl rfl rfl rfl rfl) ?_
   rintro ⟨V,W⟩
   refine Z0 ?_
   cases U
   exact Eg (_,(V,W)) (y _ rfl) [0,0,0] [] 2
  refine Z0 ?_
  cases l
  have hb:=z _ rfl
  subst b
  exact Eg (f,i) trivial [2,0,0] [] 0
 rintro ⟨c,d⟩
 refine Z1 ?_
 have ⟨aq,X,Y⟩:=bnd w
 refine Lk [1] [] (oc X) λ⟨⟩=> ?_
 refine Y2 ?_
 have ⟨Z,aa,ab⟩:=bnd Y
 refine Tj0 [(49,.bool Z)] [1,6,7] [] [0,2,1] ?_ ?_
 ·refine Z0 ?_
  refine Lw 41 aa (λm=> ?_) λm=> ?_
  ·refine Z0 ?_
   have ⟨ar,n,ac⟩:=bnd m
   refine L.addr 0 rfl (bH n) λau av ad=> ?_
   subst ad
   refine Ly (Yl.ia n rfl rfl rfl rfl rfl rfl) ?_
   refine L.el 0 rfl (aI n).2 ?_
   rintro _
   refine Lc 0 0 ?_
   refine Z0 ?_
   cases ac
   exact Eg0 [0,1,0] 1
  refine Z0 ?_
  cases m
  exact Eg0 [0,1,0] 0
 have ⟨ae,af,ag⟩:=bnd ab
 refine Tj0 [(7,.int .i64 ae)] [1,6] [] [0,1,2] ?_ ?_
 ·refine Tb af (λo=> ?_) λo=> ?_
  ·refine Z0 ?_
   cases o
   exact Eg0 [0,0,0] 0
  refine Z0 ?_
  cases o
  exact Eg0 [0,0,0] 0
 refine Z2 ?_
 refine Tb ag (λp=> ?_) λp=> ?_
 ·refine Z1 ?_
  refine E.fZ (Ty.slice aF) 69 ?_
  cases p
  exact Eo (none,0) [0] [] (.tmp rfl (.tmp rfl (.tmp rfl .nil)))
 refine Z1 ?_
 have ⟨aw,q,ah⟩:=bnd p
 refine L.addr 0 rfl (bH q) λax ay ai=> ?_
 subst ai
 refine Ly (Yl.ia q rfl rfl rfl rfl rfl rfl) ?_
 refine L.el 0 rfl (aI q).2 ?_
 rintro _
 refine Lc 0 0 ?_
 refine Z0 ?_
 cases ah
 exact Eo (c,d) [2] [] (.tmp rfl (.tmp rfl (.tmp rfl .nil)))
theorem qZ {x_:aB} {x1:Int} {r:Bool} (H:cV x_ x1=some r):CT G 180 [.agg #[.int .i64 x_.from_,.int .i64 x_.to],.pointer (some ⟨N0,0,none⟩)] [Ch.box N0 3 [.int .i64 x1]] [] (λ_:Unit=> .bool r) (λh=>[Ch.box N0 3 [.int .i64 x1]]) (λh=>[]):=by
 delta cV at H
 refine Cf Go.Proofs.Tryz.func180 λK=> ?_
 refine Z1 ?_
 refine Lx λg1=> ?_
 refine Y1 ?_
 have ⟨e5,H6,H7⟩:=bnd H
 refine Tj0 [(3,.bool e5)] [] [] [0,1] ?_ ?_
 ·refine Z0 ?_
  refine Lw 8 H6 (λH8=> ?_) λH8=> ?_
  ·refine Z0 ?_
   cases H8
   exact Eg0 [0,0] 0
  refine Z0 ?_
  cases H8
  exact Eg0 [0,0] 0
 refine Z0 ?_
 cases H7
 exact Eo1 () [1] []
theorem jy {s_:List aB} {f_0:Int} {r:Int} (H:cA s_ f_0=some r):CT G 210 [.slice A0 s_.length C0,.func (.func 180) #[] #[.pointer (some ⟨N0,0,none⟩)]] [Ch.box N0 3 [.int .i64 f_0]] [Im.sl aC A0 C0 s_] (λ_:Unit=> .int .i64 r) (λh=>[Ch.box N0 3 [.int .i64 f_0]]) (λh=>[]):=by
 delta cA at H
 refine Cf Go.Proofs.Tryz.func210 λK=> ?_
 refine Z3 ?_
 have ⟨a,i,e⟩:=bnd H
 refine Tj (η:=Unit×Unit) (λh=>a = .inl h.1) (λ_=>[]) [] (λ_=>[]) [0] (λ_=>[]) ?_ ?_
 ·refine Yl0 ?_
  refine Tq (η:=Unit) (λf h=>[(8,.int .i64 f)]) [0,1,7] (λ_ _=>[]) [0] (λ_ _=>[]) () [0] [] i ?_
  rintro k_ f ⟨⟩ j k l g
  refine Y2 ?_
  refine Tb k (λb=> ?_) λb=> ?_
  ·refine Z1 ?_
   refine Zl ?_
   refine Z2 ?_
   have ⟨s,c,m⟩:=bnd b
   refine L.addr 0 rfl (bH c) λt u n=> ?_
   subst n
   refine Ly (Yl.ia c rfl rfl rfl rfl rfl rfl) ?_
   refine L.el 0 rfl (aI c).2 ?_
   rintro _
   refine Lc 0 0 ?_
   have ⟨v,o,p⟩:=bnd m
   refine Lk [0] [] (qZ o) λ⟨⟩=> ?_
   refine Z0 ?_
   refine Tb p (λd=> ?_) λd=> ?_
   ·refine Z1 ?_
    obtain ⟨w,hz,q⟩:=cK d
    subst j
    have hb:=g _ rfl
    subst a
    obtain rfl:=(sm e).symm
    refine Z0 ?_
    cases q
    exact Eo1 () [0] []
   refine Z0 ?_
   cases d
   exact Eg (_,()) (l _ rfl) [0] [] 1
  refine Z0 ?_
  cases b
  have hb:=g _ rfl
  subst a
  exact Eg (_,()) rfl [0] [] 0
 rintro ⟨x,⟨⟩⟩ hy
 subst hy
 refine Z1 ?_
 cases e
 exact Eo1 () [0] []
theorem iW {s_:List aB} {f_0:Int} {r:Bool} (H:cL s_ f_0=some r):CT G 179 [.slice A0 s_.length C0,.func (.func 180) #[] #[.pointer (some ⟨N0,0,none⟩)]] [Ch.box N0 3 [.int .i64 f_0]] [Im.sl aC A0 C0 s_] (λ_:Unit=> .bool r) (λh=>[Ch.box N0 3 [.int .i64 f_0]]) (λh=>[]):=by
 delta cL at H
 refine Cf Go.Proofs.Tryz.func179 λK=> ?_
 refine Z2 ?_
 have ⟨r1,h2,H3⟩:=bnd H
 refine Lk [0] [0] (jy h2) λ⟨⟩=> ?_
 refine Z0 ?_
 cases H3
 exact Eo1 () [0] []
theorem sK {s_:bZ} {n_:Int} {r:Bool} (H:gm s_ n_=some r):CT G 136 [.pointer (some ⟨N0,0,none⟩),.int .i64 n_] [Ch.box N0 106 [.slice A0 s_.l.length C0]] [Im.sl aC A0 C0 s_.l] (λ_:Unit=> .bool r) (λh=>[Ch.box N0 106 [.slice A0 s_.l.length C0]]) (λh=>[]):=by
 delta gm at H
 refine Cf Go.Proofs.Tryz.func136 λK=> ?_
 refine Z1 ?_
 refine Lx λg1=> ?_
 refine Z1 ?_
 have ⟨r2,h3,H4⟩:=bnd H
 refine Lk [0] [0] (iW h3) λ⟨⟩=> ?_
 refine Z0 ?_
 cases H4
 exact Eo1 () [1] []
theorem x7 {is:Bool} {r:Int} (H:lH is=some r):CT G 137 [.bool is] [] [] (λ_:Unit=> .int .i64 r) (λh=>[]) (λh=>[]):=by
 delta lH at H
 refine Cf Go.Proofs.Tryz.func137 λK=> ?_
 refine Z3 ?_
 refine Tb H (λH2=> ?_) λH2=> ?_
 ·refine Z1 ?_
  cases H2
  exact Eo1 () [] []
 refine Z1 ?_
 cases H2
 exact Eo1 () [] []
theorem sL {l:List aB} {x_:aB} {r:((List aB)×aB)} (H:kr l x_=some r):CT G 159 [.slice A0 l.length C0,.agg #[.int .i64 x_.from_,.int .i64 x_.to]] [] [Im.sl aC A0 C0 l] (λh:Nat×Nat=> .func (.func 198) #[] #[.pointer (some ⟨h.1,0,none⟩),.pointer (some ⟨h.2,0,none⟩)]) (λh=>[Ch.box h.1 44 [.slice A0 r.1.length C0],Ch.box h.2 47 [.int .i64 r.2.from_,.int .i64 r.2.to]]) (λh=>[Im.sl aC A0 C0 r.1]):=by
 delta kr at H
 refine Cf Go.Proofs.Tryz.func159 λK=> ?_
 refine Z1 ?_
 refine Lx λg1=> ?_
 refine Lx λg2=> ?_
 refine Z1 ?_
 cases H
 exact Eo1 (g1,g2) [1,0] [0]
theorem q5 {σ η:Type} {Y:σ->aB->Option (σ×Bool)} {y0:σ} {x1:List aB} {x2:aB} {yl:Nat} {C:σ->η->Ch} (hY: ∀ s (h:η) (x:aB) (t:Unit) z,Y s x=some z->YT G yl [.agg #[.int .i64 x.from_,.int .i64 x.to]] [C s h] [] (λ_:η=> .bool z.2) (λh2=>[C z.1 h2]) (λ_=>[])) (h0:η) (g_1:Nat) (a_1_0:Option Addr) (c_1_0:Nat) (g_2:Nat) {r:σ} (H:gN Y y0 x1 x2=some r):CT G 198 [.func (.yield yl) #[] #[],.pointer (some ⟨g_1,0,none⟩),.pointer (some ⟨g_2,0,none⟩)] [C y0 h0,Ch.box g_1 44 [.slice a_1_0 x1.length c_1_0],Ch.box g_2 47 [.int .i64 x2.from_,.int .i64 x2.to]] [Im.sl aC a_1_0 c_1_0 x1] (λh:η=> .tuple #[]) (λh=>[C r h,Ch.box g_1 44 [.slice a_1_0 x1.length c_1_0],Ch.box g_2 47 [.int .i64 x2.from_,.int .i64 x2.to]]) (λh=>[]):=by
  delta gN at H
  refine Cf Go.Proofs.Tryz.func198 λK=> ?_
  refine Z1 ?_
  have ⟨n,O,A⟩:=bnd H
  refine T.ou (η:=σ×(η)) (λh=>n = .inl h.1) (λh=>(λj=>(λc=>[]) h.2) h.1) (λh=>(λj=>(λc=>[C j c,Ch.box g_1 44 [.slice a_1_0 x1.length c_1_0],Ch.box g_2 47 [.int .i64 x2.from_,.int .i64 x2.to]]) h.2) h.1) (λh=>(λj=>(λc=>[Im.sl aC a_1_0 c_1_0 x1]) h.2) h.1) ?_ ?_
  ·refine Yl0 ?_
   refine Tq (η:=η) (λb h=>(λd=>[(10,.int .i64 b.1)]) h) [0,2,8,9] (λb h=>(λd=>[C b.2 d]) h) [1,2] (λ_ _=>[]) h0 [0,0,0] [] O ?_
   rintro k_ b d P Q R B
   refine Y2 ?_
   refine Tb Q (λo=> ?_) λo=> ?_
   ·refine Z1 ?_
    refine Zl ?_
    refine Z1 ?_
    have ⟨a,p,S⟩:=bnd o
    refine L.addr 0 rfl (bH p) λk l U=> ?_
    subst U
    refine Ly (Yl.ia p rfl rfl rfl rfl rfl rfl) ?_
    refine L.el 0 rfl (aI p).2 ?_
    rintro _
    refine Lc 0 0 ?_
    refine Ll λV=> ?_
    refine Lt 0 ?_
    refine Z1 ?_
    refine La [] [] (Ac.bs (ty:=aC) (xs:=[(aB.mk a.from_ (cB a.to x2.from_)),(aB.mk (imax a.from_ x2.to) a.to)]) (.cons () [] rfl (.cons () [] rfl .nil)) rfl rfl rfl rfl rfl rfl rfl) λal=> ?_
    refine Z0 ?_
    have ⟨q,W,F⟩:=bnd S
    refine T.ou (η:=σ×(η)) (λh=>q = .inl h.1) (λh=>(λm=>(λe=>[(0,.func (.yield yl) #[] #[]),(2,.pointer (some ⟨g_2,0,none⟩)),(8,.slice (some ⟨k,l,none⟩) x1.length c_1_0),(9,.int .i64 (x1.length:Int)),(10,.int .i64 b.1)]) h.2) h.1) (λh=>(λm=>(λe=>[C m e,Ch.box V 47 [.int .i64 a.from_,.int .i64 a.to],Ch.box g_1 44 [.slice (some ⟨k,l,none⟩) x1.length c_1_0],Ch.box g_2 47 [.int .i64 x2.from_,.int .i64 x2.to]]) h.2) h.1) (λh=>(λm=>(λe=>[Im.cells k (l+b.1.toNat*2) [.int .i64 a.from_,.int .i64 a.to],Im.sl aC (some ⟨k,l,none⟩) c_1_0 x1]) h.2) h.1) ?_ ?_
    ·refine Yl0 ?_
     refine Tq (η:=η) (λf h=>(λg=>[(32,.int .i64 f.1)]) h) [0,2,8,9,10,30,31] (λf h=>(λg=>[C f.2 g]) h) [1,3,4,0] (λ_ _=>[]) d [2,1,1,1,0] [] W ?_
     rintro k_ f g X Z aa I
     refine Y2 ?_
     refine Tb Z (λu=> ?_) λu=> ?_
     ·refine Z1 ?_
      refine Zl ?_
      refine Z1 ?_
      have ⟨J,M,ab⟩:=bnd u
      refine Ly (Yl.ia M rfl rfl rfl rfl rfl rfl) ?_
      refine Ly (Yl.lo (v:= .agg #[.int .i64 J.from_,.int .i64 J.to]) 4 f.1.toNat 0 (aI M).2 rfl rfl rfl rfl (λ_=>rfl)) ?_
      refine Ll λam=> ?_
      refine Lt 0 ?_
      refine Y1 ?_
      have ⟨N,ac,ad⟩:=bnd ab
      refine Tjh (η:=η) (λh=>(λi=>[(44,.bool N.1)]) h) [0,2,8,9,10,30,31,32] (λh=>(λi=>[C N.2 i]) h) [0,2,3,4,5] (λ_=>[]) ?_ ?_
      ·refine Z0 ?_
       have ⟨an,ae,af⟩:=bnd ac
       refine Lk [] [] (iV ae) λ⟨⟩=> ?_
       refine Z0 ?_
       refine Lw 39 af (λw=> ?_) λw=> ?_
       ·refine Z0 ?_
        have ⟨ao,ag,ah⟩:=bnd w
        refine L.yd [1] [] (hY _ _ _ () _ ag) rfl rfl rfl rfl rfl rfl rfl rfl ?_
        intro ai
        refine Z0 ?_
        cases ah
        exact Eg ai trivial [0,0,0,0,0,0] [] 0
       refine Z0 ?_
       cases w
       exact Eg g trivial [1,0,0,0,0,0] [] 0
      rintro i
      refine Tb ad (λy=> ?_) λy=> ?_
      ·refine Z0 ?_
       obtain ⟨ap,hz,aj⟩:=cK y
       subst X
       have hb:=I _ rfl
       subst q
       obtain rfl:=(sm F).symm
       refine Z0 ?_
       obtain ⟨aq,hz,ak⟩:=cK aj
       subst P
       have hb:=B _ rfl
       subst n
       obtain rfl:=(sm A).symm
       refine Z0 ?_
       cases ak
       exact Eo i [0,2,2] [] .nil
      refine Z0 ?_
      cases y
      exact Eg (_,i) (aa _ rfl) [0,1,1,1,1] [] 0
     refine Z0 ?_
     cases u
     have hb:=I _ rfl
     subst q
     exact Egx (_,g) rfl [0,0,0,0] [0,1]
    rintro ⟨m,e⟩ hy
    subst hy
    refine Z0 ?_
    cases F
    exact Eg (_,e) (R _ rfl) [0,1,1] [] 1
   refine Z0 ?_
   cases o
   have hb:=B _ rfl
   subst n
   exact Egx (_,d) rfl [0,0,0] [0]
  rintro ⟨j,c⟩ hy
  subst hy
  refine E.off ?_
  cases A
  exact Eo c [0,0,0] [] .nil
theorem om {s_:bZ} {l:List aB} {r:bZ} (H:gJ s_ l=some r):CT G 103 [.pointer (some ⟨N0,0,none⟩),.slice A1 l.length C1] [Ch.box N0 106 [.slice A0 s_.l.length C0]] [Im.sl aC A0 C0 s_.l,Im.sl aC A1 C1 l] (λh:(Option Addr×Nat)=> .tuple #[]) (λh=>[Ch.box N0 106 [.slice h.1 r.l.length h.2]]) (λh=>[Im.sl aC h.1 h.2 r.l]):=by
 delta gJ at H
 refine Cf Go.Proofs.Tryz.func103 λK=> ?_
 refine T.wZ ?_
 refine Z1 ?_
 have ⟨p,F,I⟩:=bnd H
 refine T.FP (η:=Unit×((Option Addr×Nat)×List Nat)) (λh=>True) (λh=>(λe f k=>k) h.2.1.1 h.2.1.2 h.2.2) (λh=>(λe f k=>[]) h.2.1.1 h.2.1.2 h.2.2) (λh=>(λe f k=>[Ch.dfs k,Ch.box N0 106 [.slice e p.l.length f]]) h.2.1.1 h.2.1.2 h.2.2) (λh=>(λe f k=>[Im.sl aC e f p.l,Im.sl aC A0 C0 s_.l,Im.sl aC A1 C1 l]) h.2.1.1 h.2.1.2 h.2.2) ?_ ?_
 ·refine Yl0 ?_
  refine T.lpD (η:=(Option Addr×Nat)×List Nat) (λc h=>(λa b d=>d) h.1.1 h.1.2 h.2) (λc h=>(λa b d=>[(0,.pointer (some ⟨N0,0,none⟩)),(8,.slice A1 l.length C1),(9,.int .i64 (l.length:Int)),(10,.int .i64 c.2)]) h.1.1 h.1.2 h.2) (λc h=>(λa b d=>[Ch.dfs d,Ch.box N0 106 [.slice a c.1.l.length b]]) h.1.1 h.1.2 h.2) (λc h=>(λa b d=>[Im.sl aC a b c.1.l,Im.sl aC A0 C0 s_.l,Im.sl aC A1 C1 l]) h.1.1 h.1.2 h.2) ((A0,C0),[]) [0,0] [0,0,1] F rfl ⟨rfl,rfl,rfl,rfl,trivial⟩ rfl rfl ?_
  rintro k_ c ⟨⟨a,b⟩,d⟩ aq J M N
  refine Y2 ?_
  refine Tb J (λq=> ?_) λq=> ?_
  ·refine Y1 ?_
   have ⟨v,O,P⟩:=bnd q
   refine T.BI (η:=Unit×((Option Addr×Nat)×List Nat)) (λh=>True) (λh=>(λg i j=>j) h.2.1.1 h.2.1.2 h.2.2) (λh=>(λg i j=>[(0,.pointer (some ⟨N0,0,none⟩)),(8,.slice A1 l.length C1),(9,.int .i64 (l.length:Int)),(10,.int .i64 c.2)]) h.2.1.1 h.2.1.2 h.2.2) (λh=>(λg i j=>[Ch.dfs j,Ch.box N0 106 [.slice g v.l.length i]]) h.2.1.1 h.2.1.2 h.2.2) (λh=>(λg i j=>[Im.sl aC g i v.l,Im.sl aC a b c.1.l,Im.sl aC A0 C0 s_.l,Im.sl aC A1 C1 l]) h.2.1.1 h.2.1.2 h.2.2) ?_ ?_
   ·refine Zl ?_
    refine Z1 ?_
    have ⟨w,s,Q⟩:=bnd O
    refine L.addr 2 rfl (bH s) λy z R=> ?_
    subst R
    refine Ly (Yl.ia s rfl rfl rfl rfl rfl rfl) ?_
    refine L.el 2 rfl (aI s).2 ?_
    rintro _
    refine Lc 0 0 ?_
    refine Ll λS=> ?_
    refine Lt 0 ?_
    refine Z2 ?_
    have ⟨A,U,V⟩:=bnd Q
    refine Lk [] [] (lz U) λ⟨⟩=> ?_
    refine Lt 0 ?_
    refine Z1 ?_
    have ⟨ar,W,Y⟩:=bnd V
    refine Lk [] [] (iV W) λ⟨⟩=> ?_
    refine Z0 ?_
    refine Tb Y (λu=> ?_) λu=> ?_
    ·refine Z0 ?_
     cases u
     exact E.rY ((),((a,b),d)) [1,1] [1,1,2,3] trivial rfl ⟨rfl,rfl,rfl,rfl,trivial⟩ rfl rfl
    refine Z1 ?_
    refine Ll λZ=> ?_
    refine Y2 ?_
    refine Td [] [0,0,0,0] mo ?_
    refine Dq 0 ?_
    refine Dq 1 ?_
    refine Dq 2 ?_
    refine Db 3 3 ?_
    refine Db 4 1 ?_
    have ⟨aa,ab,ac⟩:=bnd u
    refine Dk [] [1] (sL ab) λ⟨ad,ae⟩=> ?_
    refine Dn ?_
    refine Yl0 ?_
    refine T.fZ aC 47 ?_
    have ⟨af,ag,ah⟩:=bnd ac
    refine T.rf2 (σ:=(List aB)) (η:=(Option Addr×Nat)) (X:=aB) (θ:=Unit) (τ:=(Option Addr×Nat)) (s1:=af) (hx:=λx=>x) (λx t=>[.agg #[.int .i64 x.from_,.int .i64 x.to]]) (λx t=>[]) (λ_=>none) (λm h=>(λn o=>[Ch.arr aC 47 n o m,Ch.box Z 44 [.slice n m.length o],Ch.box S 47 [.int .i64 A.from_,.int .i64 A.to],Ch.box N0 106 [.slice a c.1.l.length b]]) h.1 h.2) (λm h=>(λn o=>[Im.sl aC a b aa.1,Im.cells y (z+c.2.toNat*2) [.int .i64 w.from_,.int .i64 w.to],Im.sl aC a b c.1.l,Im.sl aC A0 C0 s_.l,Im.sl aC (some ⟨y,z,none⟩) C1 l]) h.1 h.2) 3 [0,0,0,0,0,0] [0,1,2,3,4] [0] rfl rfl (λ_ _=>rfl) rfl (λyl C hY=>(q5 hY (none,0) ad a b ae ag:_)) (λ_ _ _ _=>rfl) rfl rfl rfl rfl rfl ?_ rfl ?_
    ·rintro yl K2 m ⟨n,o⟩ ai ⟨⟩ au aj
     refine Z0 ?_
     refine Ll λav=> ?_
     refine Lt 0 ?_
     refine Z0 ?_
     refine E.begin λK3=> ?_
     refine Zl ?_
     refine La [] [] (Ac.bs (ty:=aC) (xs:=[ai]) (.cons () [] rfl .nil) rfl rfl rfl rfl rfl rfl rfl) λaw=> ?_
     refine L.frz 0 rfl ?_
     have ⟨_,ak,al⟩:=bnd aj
     refine La [1] [0] (Ac.ap (ty:=aC) ak rfl rfl rfl rfl rfl rfl rfl) ?_
     rintro ⟨am,an⟩
     refine Lt 2 ?_
     refine Z0 ?_
     cases al
     exact E.on (am,an) [1,0,1,1] [1,2,3,4,5] rfl rfl rfl rfl
    rintro B ao
    refine Z0 ?_
    refine Lt 4 ?_
    refine Z0 ?_
    refine E.frz 2 rfl ?_
    cases ah
    exact E.rY ((),((B.1,B.2),(ao::d))) [1,0] [0,3,4,5] trivial rfl ⟨rfl,rfl,rfl,rfl,trivial⟩ rfl rfl
   rintro ⟨_,⟨⟨g,i⟩,j⟩⟩ _
   refine Z0 ?_
   cases P
   exact E.rY (_,((g,i),j)) [0,0] [0,2,3] (M _ rfl) rfl ⟨rfl,rfl,rfl,rfl,trivial⟩ rfl rfl
  refine Z0 ?_
  cases q
  have hb:=N _ rfl
  subst p
  exact E.rY ((),((a,b),d)) [0,0] [0,1,2] trivial rfl trivial rfl rfl
 rintro ⟨_,⟨⟨e,f⟩,k⟩⟩ _
 refine E.off ?_
 cases I
 exact E.yB (e,f) 0 [0] [0] rfl .nil rfl rfl rfl
theorem q6 {f:bE} {i:Int} {r:Bool×bE} (H:fg f i=some r):CT G 80 [.pointer (some ⟨N0,0,none⟩),.int .i64 i] [Ch.box N0 161 (eT f N1),Ch.box N1 106 [.slice A0 f.want.l.length C0]] [Im.sl aC A0 C0 f.want.l] (λh:(Option Addr×Nat)=> .bool r.1) (λh=>[Ch.box N0 161 (eT r.2 N1),Ch.box N1 106 [.slice h.1 r.2.want.l.length h.2]]) (λh=>[Im.sl aC h.1 h.2 r.2.want.l]):=by
 delta fg at H
 refine Cf Go.Proofs.Tryz.func80 λK=> ?_
 refine Z2 ?_
 have ⟨r1,h2,H3⟩:=bnd H
 refine Lk [1] [0] (sK h2) λ⟨⟩=> ?_
 refine Y1 ?_
 refine Td [] [1] mo ?_
 refine Dq 0 ?_
 refine Dq 1 ?_
 refine Dq 2 ?_
 refine Db 3 0 ?_
 refine Dq 4 ?_
 refine Dq 5 ?_
 refine Dq 6 ?_
 refine Dq 7 ?_
 have ⟨a,b,c⟩:=bnd H3
 refine Dk [] [] (x7 b) λ⟨⟩=> ?_
 refine Dq 9 ?_
 refine Dq 10 ?_
 refine Da [] [] rfl rfl (Ac.bs (ty:=aC) (xs:=[(aB.mk i (IntKind.i64.wrap (i+a)))]) (.cons () [] rfl .nil) rfl rfl rfl rfl rfl rfl rfl) λk=> ?_
 refine D.frz 0 rfl ?_
 have ⟨m,d,e⟩:=bnd c
 refine Dk [0] [1,0] (om d) λ⟨g,j⟩=> ?_
 refine Dn ?_
 refine Z1 ?_
 cases e
 exact Eo1 (g,j) [0,0] [0]
theorem l9 {c:aP} {i:Int} {l:List aM} {r:aP} (H:eD c i l=some r):CT G 101 [.pointer (some ⟨N0,0,none⟩),.int .i64 i,.slice A0 l.length C0] [Ch.box N0 158 [.int .i64 c.most,.int .i64 c.now,.map M0],Ch.mp aE true M0 c.l] [Im.sl aF A0 C0 l] (λ_:Unit=> .tuple #[]) (λh=>[Ch.box N0 158 [.int .i64 r.most,.int .i64 r.now,.map M0],Ch.mp aE true M0 r.l]) (λh=>[]):=by
 delta eD at H
 refine Cf Go.Proofs.Tryz.func101 λK=> ?_
 refine Z1 ?_
 refine Lt 0 ?_
 refine Z0 ?_
 refine Td [] [0] mo ?_
 refine Dq 0 ?_
 refine Dq 1 ?_
 refine Dq 2 ?_
 refine Db 3 0 ?_
 refine Dq 4 ?_
 refine Dq 5 ?_
 refine Dq 6 ?_
 refine Dq 7 ?_
 refine Dq 8 ?_
 refine Db 9 0 ?_
 refine Dq 10 ?_
 have ⟨_,h3,H4⟩:=bnd H
 refine Da [0] [0] rfl rfl (Ac.mu (ty:=aE) (ag:=true) i (CacheEntry.mk l (IntKind.i64.wrap (c.now+1))) (A0,C0) h3 (.inl rfl) rfl rfl rfl rfl rfl rfl rfl rfl) λ_=> ?_
 refine Dn ?_
 refine E.off ?_
 cases H4
 exact Eo () [0,0] [] .nil
theorem nR {m_:Mp CacheEntry} (v_0:Option Nat) {r:Unit} (H:iA m_=some r):CT G 141 [.map v_0] [Ch.mp aE true v_0 m_] [] (λh:Nat=> .func (.func 182) #[] #[.pointer (some ⟨h,0,none⟩)]) (λh=>[Ch.box h 156 [.map v_0],Ch.mp aE true v_0 m_]) (λh=>[]):=by
  cases H
  refine Cf Go.Proofs.Tryz.func141 λK=> ?_
  refine Z1 ?_
  refine Lx λg1=> ?_
  refine Z1 ?_
  exact Eo1 g1 [0,0] []
theorem uG {σ η:Type} {Y:σ->Int->Option (σ×Bool)} {y0:σ} {m:List (Int×CacheEntry)} {yl:Nat} {C:σ->η->Ch} (hY: ∀ s (h:η) (x:Int) (t:Unit) z,Y s x=some z->YT G yl [.int .i64 x] [C s h] [] (λ_:η=> .bool z.2) (λh2=>[C z.1 h2]) (λ_=>[])) (h0:η) (g:Nat) (v:Option Nat) {r:σ} (H:vw m (λR=>mC (λs=>some (.inr s)) (λe s=>Option.bind (Y s e.1) λz=>bif !z.2 then some (.inr z.1) else some (.inl z.1)) R y0)=some r):CT G 182 [.func (.yield yl) #[] #[],.pointer (some ⟨g,0,none⟩)] [C y0 h0,Ch.box g 156 [.map v],Ch.mp aE true v (some m)] [] (λh:η=> .tuple #[]) (λh=>[C r h,Ch.box g 156 [.map v],Ch.mp aE true v (some m)]) (λh=>[]):=by
 refine Cf Go.Proofs.Tryz.func182 λK=> ?_
 refine Z1 ?_
 refine La [2] [] (Ac.mrg rfl rfl rfl rfl) λg5=> ?_
 refine Yl0 ?_
 refine T.lpm (η:=η) (λR s h=>[(0,.func (.yield yl) #[] #[]),(5,.pointer (some ⟨g5,0,none⟩))]) (λR s h=>[Ch.mit aE true v m g5 R none,C s h,Ch.box g 156 [.map v]]) (λ_ _ _=>[]) h0 [0,0,0] [] H ⟨rfl,rfl,trivial⟩ rfl rfl ?_
 intro R s h hA hB
 refine Z1 ?_
 refine La [0] [] (Ac.mnx rfl rfl) λz=> ?_
 rcases z with hR | ⟨k,x,R',hR,u1,u2⟩
 · refine Z1 ?_
   obtain ⟨z,hz,hr⟩:=hA hR
   cases hz
   have e:=hr _ rfl
   subst e
   refine T.cond rfl (λh=>nomatch h) (λ_=> ?_)
   refine Z0 ?_
   refine E.mof [0] rfl ?_
   refine E.off ?_
   exact Eo h [1,1,0] [] .nil
 refine Z1 ?_
 obtain ⟨z,hz,hr,hb⟩:=hB _ _ hR
 refine T.cond rfl (λ_=> ?_) (λh=>nomatch h)
 refine Zl ?_
 refine Z1 ?_
 refine La [0] [] (Ac.men rfl rfl) λu=> ?_
 refine Z1 ?_
 have ⟨q,hq,a⟩:=bnd hz
 refine L.yd [1] [] (hY _ _ _ () _ hq) rfl rfl rfl rfl rfl rfl rfl rfl ?_
 intro h3
 refine Z0 ?_
 refine Tb a (λe=> ?_) λe=> ?_
 · cases e
   have e:=hb _ rfl
   subst e
   refine Z0 ?_
   refine E.mof [1] rfl ?_
   exact Eo h3 [1,1,0] [] .nil
 · cases e
   refine Z0 ?_
   exact Egx ((R',q.1),h3) (hr _ rfl) [1,0,0] []
theorem zi (g:Nat) (v:Option Nat) {m:List (Int×CacheEntry)} {u:Unit} (hm:chk (cQ m.length 1 8)=some u):CT G 181 [.slice none 0 0,.func (.func 182) #[] #[.pointer (some ⟨g,0,none⟩)]] [Ch.box g 156 [.map v],Ch.mp aE true v (some m)] [] (λh:List Int×(Option Addr×Nat)=> .slice h.2.1 h.1.length h.2.2) (λh=>[Ch.arr (Ty.int .i64) 3 h.2.1 h.2.2 h.1,Ch.pr (h.1.Perm (mks (some m))),Ch.box g 156 [.map v],Ch.mp aE true v (some m)]) (λ_=>[]):=by
 refine Cf Go.Proofs.Tryz.func181 λK=> ?_
 refine T.wZ ?_
 refine Z1 ?_
 refine Lx λg1=> ?_
 refine Z2 ?_
 refine Yl0 ?_
 refine T.fZ (Ty.int .i64) 3 ?_
 refine T.prc (p:=([]:List Int).length=0 /\ ∀ k:Int,([]:List Int).count k=0) ⟨rfl,λ_=>rfl⟩ ?_
 refine T.rf2 (σ:=Nat×(Int->Nat)) (η:=List Int×(Option Addr×Nat)) (X:=Int) (θ:=Unit) (τ:=List Int×(Option Addr×Nat)) (Y:=kY) (s0:=(0,λ_=>0)) (h0:=([],(none,0))) (s1:=(m.length,λk=>(m.map Prod.fst).count k)) (hx:=λx=>x) (λx t=>[.int .i64 x]) (λx t=>[]) (λ_=>none) (λs h=>[Ch.pr (h.1.length=s.1 /\ ∀ k,h.1.count k=s.2 k),Ch.arr (Ty.int .i64) 3 h.2.1 h.2.2 h.1,Ch.box g1 37 [.slice h.2.1 h.1.length h.2.2]]) (λs h=>[]) 3 [0,0,0,0,0] [] [] rfl rfl (λ_ _=>rfl) rfl (λyl C hY=>(uG hY ([],(none,0)) g v (GQ m hm):_)) (λ_ _ _ _=>rfl) rfl rfl rfl rfl rfl ?_ rfl ?_
 · rintro yl K2 j ⟨ks,a,c⟩ S ⟨⟩ ad U
   refine Z0 ?_
   refine E.begin λK3=> ?_
   refine Zl ?_
   refine La [] [] (Ac.bs (ty:=Ty.int .i64) (xs:=[S]) (.cons () [] rfl .nil) rfl rfl rfl rfl rfl rfl rfl) λaw=> ?_
   refine L.frz 0 rfl ?_
   have ⟨_,ak,al⟩:=bnd U
   refine L.prd 0 rfl λhp=> ?_
   rw [<- hp.1] at ak
   refine La [0] [0] (Ac.ap (ty:=Ty.int .i64) ak rfl rfl rfl rfl rfl rfl rfl) ?_
   rintro ⟨am,an⟩
   refine Lt 1 ?_
   refine Z0 ?_
   cases al
   refine E.prc (p:=(ks++[S]).length=j.1+1 /\ ∀ k,(ks++[S]).count k=j.2 k+[S].count k) ⟨by rw [List.length_append,hp.1]; rfl,λk=>by rw [List.count_append,hp.2]⟩ ?_
   exact E.on (ks++[S],am,an) [0,1,0] [] rfl rfl rfl rfl
 rintro ⟨ks,a,c⟩ D
 refine Z1 ?_
 refine E.prd 1 rfl λhp=> ?_
 refine E.prc (p:=ks.Perm (mks (some m))) (List.perm_iff_count.2 hp.2) ?_
 exact E.yB (ks,(a,c)) 1 [1,0,1,1] [] rfl (.tmp rfl .nil) rfl rfl rfl
theorem l0 {seq_0:Mp CacheEntry} (g_0_0:Nat) (v_0_0_0:Option Nat) {r:Unit} (H:dX seq_0=some r):CT G 140 [.func (.func 182) #[] #[.pointer (some ⟨g_0_0,0,none⟩)]] [Ch.box g_0_0 156 [.map v_0_0_0],Ch.mp aE true v_0_0_0 seq_0] [] (λh:List Int×(Option Addr×Nat)=> .slice h.2.1 h.1.length h.2.2) (λh=>[Ch.arr (Ty.int .i64) 3 h.2.1 h.2.2 h.1,Ch.pr (h.1.Perm (mks seq_0)),Ch.box g_0_0 156 [.map v_0_0_0],Ch.mp aE true v_0_0_0 seq_0]) (λh=>[]):=by
  delta dX at H
  have ⟨_,h1,H2⟩:=bnd H
  have ⟨_,h3,H4⟩:=bnd H2
  cases H4
  cases seq_0 with
  | none=>cases h1
  | some m =>
    refine Cf Go.Proofs.Tryz.func140 λK=> ?_
    refine Z2 ?_
    refine Lk [0,0] [] (zi _ _ h3) λ⟨ks,a,c⟩=> ?_
    refine Z0 ?_
    exact Eo1 (ks,(a,c)) [0,0,0,0] []
theorem oo {x_:Int} {r:Bool} (H:iY x_=some r):CT G 183 [.int .i64 x_] [] [] (λ_:Unit=> .bool r) (λh=>[]) (λh=>[]):=by
 delta iY at H
 refine Cf Go.Proofs.Tryz.func183 λK=> ?_
 refine Z2 ?_
 cases H
 exact Eo1 () [] []
theorem m9 {x_:Int} {y:Int} {r:Int} (H:gM x_ y=some r):CT G 143 [.int .i64 x_,.int .i64 y] [] [] (λ_:Unit=> .int .i64 r) (λh=>[]) (λh=>[]):=by
 delta gM at H
 refine Cf Go.Proofs.Tryz.func143 λK=> ?_
 refine Z2 ?_
 have ⟨r1,h2,H3⟩:=bnd H
 refine Lk [] [] (oo h2) λ⟨⟩=> ?_
 refine Z1 ?_
 have ⟨r4,h5,H6⟩:=bnd H3
 refine Lk [] [] (oo h5) λ⟨⟩=> ?_
 refine Z2 ?_
 refine Tb H6 (λa=> ?_) λa=> ?_
 ·refine Z2 ?_
  refine Tb a (λb=> ?_) λb=> ?_
  ·refine Z1 ?_
   cases b
   exact Eo1 () [] []
  refine Z1 ?_
  cases b
  exact Eo1 () [] []
 refine Z2 ?_
 refine Tb a (λc=> ?_) λc=> ?_
 ·refine Z1 ?_
  cases c
  exact Eo1 () [] []
 refine Z2 ?_
 refine Tb c (λd=> ?_) λd=> ?_
 ·refine Z1 ?_
  cases d
  exact Eo1 () [] []
 refine Z2 ?_
 refine Tb d (λe=> ?_) λe=> ?_
 ·refine Z1 ?_
  cases e
  exact Eo1 () [] []
 refine Z1 ?_
 cases e
 exact Eo1 () [] []
theorem pb {a:Int} {b:Int} {x2:aP} {r:Int} (H:eW a b x2=some r):CT G 142 [.int .i64 a,.int .i64 b,.pointer (some ⟨N0,0,none⟩)] [Ch.box N0 89 [.pointer (some ⟨N1,0,none⟩)],Ch.box N1 158 [.int .i64 x2.most,.int .i64 x2.now,.map M0],Ch.mp aE true M0 x2.l] [] (λ_:Unit=> .int .i64 r) (λh=>[Ch.box N0 89 [.pointer (some ⟨N1,0,none⟩)],Ch.box N1 158 [.int .i64 x2.most,.int .i64 x2.now,.map M0],Ch.mp aE true M0 x2.l]) (λh=>[]):=by
 delta eW at H
 refine Cf Go.Proofs.Tryz.func142 λK=> ?_
 refine Y2 ?_
 have ⟨p,q,s⟩:=bnd H
 refine Tj0 [(5,.int .i64 p)] [] [] [0,1,2] ?_ ?_
 ·refine Td [] [0,0] mo ?_
  refine Db 0 0 ?_
  refine Dq 1 ?_
  refine Dq 2 ?_
  refine Db 3 1 ?_
  refine Dq 4 ?_
  refine Db 7 0 ?_
  refine Dq 8 ?_
  refine Dq 9 ?_
  refine Db 10 1 ?_
  refine Dq 11 ?_
  have ⟨t,c,d⟩:=bnd q
  refine D.two rfl rfl rfl ?_ ?_
  ·refine Dp.a [0] [] (Ac.ml1 (ty:=aE) (ag:=true) (vv:=(λh:(Option Addr×Nat)=>(λe g=> .agg #[.slice e ((mgd x2.l a (CacheEntry.mk ([]:List aM) 0)).l).length g,.int .i64 ((mgd x2.l a (CacheEntry.mk ([]:List aM) 0)).at_)]) h.1 h.2)) a (CacheEntry.mk ([]:List aM) 0) (none,0) rfl rfl rfl rfl rfl rfl rfl rfl rfl (λ_ _ f hf=>by rw [List.mem_singleton.1 hf]; exact Im.bV _ _) o3 (λ_=>rfl)) rfl rfl rfl rfl rfl rfl ?_
   rintro ⟨e,g⟩
   refine Dq 6 ?_
   refine Da [0] [] rfl rfl (Ac.ml1 (ty:=aE) (ag:=true) (vv:=(λh:(Option Addr×Nat)=>(λi j=> .agg #[.slice i ((mgd x2.l b (CacheEntry.mk ([]:List aM) 0)).l).length j,.int .i64 ((mgd x2.l b (CacheEntry.mk ([]:List aM) 0)).at_)]) h.1 h.2)) b (CacheEntry.mk ([]:List aM) 0) (none,0) rfl rfl rfl rfl rfl rfl rfl rfl rfl (λ_ _ f hf=>by rw [List.mem_singleton.1 hf]; exact Im.bV _ _) o3 (λ_=>rfl)) ?_
   rintro ⟨i,j⟩
   refine Dq 13 ?_
   refine Dk [] [] (m9 c) λ⟨⟩=> ?_
   refine Dq 15 ?_
   refine Dn ?_
   cases d
   exact Eg0 [0,0,0] 2
  refine Dp.a [0] [] (Ac.ml1 (ty:=aE) (ag:=true) (vv:=(λh:(Option Addr×Nat)=>(λk m=> .agg #[.slice k ((mgd x2.l b (CacheEntry.mk ([]:List aM) 0)).l).length m,.int .i64 ((mgd x2.l b (CacheEntry.mk ([]:List aM) 0)).at_)]) h.1 h.2)) b (CacheEntry.mk ([]:List aM) 0) (none,0) rfl rfl rfl rfl rfl rfl rfl rfl rfl (λ_ _ f hf=>by rw [List.mem_singleton.1 hf]; exact Im.bV _ _) o3 (λ_=>rfl)) rfl rfl rfl rfl rfl rfl ?_
  rintro ⟨k,m⟩
  refine Dq 13 ?_
  refine Da [0] [] rfl rfl (Ac.ml1 (ty:=aE) (ag:=true) (vv:=(λh:(Option Addr×Nat)=>(λn o=> .agg #[.slice n ((mgd x2.l a (CacheEntry.mk ([]:List aM) 0)).l).length o,.int .i64 ((mgd x2.l a (CacheEntry.mk ([]:List aM) 0)).at_)]) h.1 h.2)) a (CacheEntry.mk ([]:List aM) 0) (none,0) rfl rfl rfl rfl rfl rfl rfl rfl rfl (λ_ _ f hf=>by rw [List.mem_singleton.1 hf]; exact Im.bV _ _) o3 (λ_=>rfl)) ?_
  rintro ⟨n,o⟩
  refine Dq 6 ?_
  refine Dk [] [] (m9 c) λ⟨⟩=> ?_
  refine Dq 15 ?_
  refine Dn ?_
  cases d
  exact Eg0 [0,0,0] 2
 refine Z0 ?_
 cases s
 exact Eo1 () [0,0,0] []
theorem k9 {x_:List Int} {cmp_0:aP} {r:Int} (H:dG x_ cmp_0=some r):CT G 139 [.slice A0 x_.length C0,.func (.func 142) #[] #[.pointer (some ⟨N0,0,none⟩)]] [Ch.box N0 89 [.pointer (some ⟨N1,0,none⟩)],Ch.box N1 158 [.int .i64 cmp_0.most,.int .i64 cmp_0.now,.map M0],Ch.mp aE true M0 cmp_0.l] [Im.sl (Ty.int .i64) A0 C0 x_] (λ_:Unit=> .int .i64 r) (λh=>[Ch.box N0 89 [.pointer (some ⟨N1,0,none⟩)],Ch.box N1 158 [.int .i64 cmp_0.most,.int .i64 cmp_0.now,.map M0],Ch.mp aE true M0 cmp_0.l]) (λh=>[]):=by
 delta dG at H
 refine Cf Go.Proofs.Tryz.func139 λK=> ?_
 refine Z3 ?_
 refine Tb H (λH2=> ?_) λH2=> ?_
 ·cases H2
 refine Z1 ?_
 have ⟨x3,h4,H5⟩:=bnd H2
 refine L.addr 0 rfl (bH h4) λb6 o7 e8=> ?_
 subst e8
 refine Ly (Yl.ia h4 rfl rfl rfl rfl rfl rfl) ?_
 refine L.el 0 rfl (aI h4).2 ?_
 rintro _
 refine Lc 0 0 ?_
 refine Z2 ?_
 have ⟨d,g,i⟩:=bnd H5
 refine Tj0 [(5,.int .i64 d)] [] [] [0,1,2] ?_ ?_
 ·refine Yl0 ?_
  refine Tq (η:=Unit) (λa h=>[(5,.int .i64 a.1),(6,.int .i64 a.2)]) [0,1] (λ_ _=>[]) [0,1,2] (λ_ _=>[]) () [0,0,0] [] g ?_
  rintro k_ a ⟨⟩ v j k m
  refine Z2 ?_
  refine Tb j (λb=> ?_) λb=> ?_
  ·refine Y1 ?_
   have ⟨n,o,p⟩:=bnd b
   refine Tj0 [(5,.int .i64 n)] [0,1,6] [] [0,1,2] ?_ ?_
   ·refine Zl ?_
    refine Z1 ?_
    have ⟨w,e,q⟩:=bnd o
    refine Ly (Yl.ia e rfl rfl rfl rfl rfl rfl) ?_
    refine L.el 1 rfl (aI e).2 ?_
    rintro _
    refine Lc 0 0 ?_
    refine Z0 ?_
    have ⟨x,s,t⟩:=bnd q
    refine Lk [0,0,0] [] (pb s) λ⟨⟩=> ?_
    refine Z0 ?_
    refine Tb t (λc=> ?_) λc=> ?_
    ·refine Z0 ?_
     have ⟨y,f,u⟩:=bnd c
     refine Ly (Yl.ia f rfl rfl rfl rfl rfl rfl) ?_
     refine L.el 2 rfl (aI f).2 ?_
     rintro _
     refine Lc 0 0 ?_
     refine Z0 ?_
     cases u
     exact Eg0 [0,0,0] 2
    refine Z0 ?_
    cases c
    exact Eg0 [0,0,0] 1
   refine Z0 ?_
   cases p
   exact Eg (_,()) (k _ rfl) [0,0,0] [] 0
  refine Z0 ?_
  cases b
  have hb:=m _ rfl
  subst d
  exact Eg0 [0,0,0] 0
 refine Z1 ?_
 cases i
 exact Eo1 () [0,0,0] []
theorem q7 {c:aP} {i:Int} {l:List aM} {r:Int×Bool×aP} (H:gb c i l=some r):CT G 81 [.pointer (some ⟨N0,0,none⟩),.int .i64 i,.slice A0 l.length C0] [Ch.box N0 158 [.int .i64 c.most,.int .i64 c.now,.map M0],Ch.mp aE true M0 c.l] [Im.sl aF A0 C0 l] (λ_:Unit=> .tuple #[.int .i64 r.1,.bool r.2.1]) (λh=>[Ch.box N0 158 [.int .i64 r.2.2.most,.int .i64 r.2.2.now,.map M0],Ch.mp aE true M0 r.2.2.l]) (λh=>[]):=by
 delta gb at H
 refine Cf Go.Proofs.Tryz.func81 λK=> ?_
 refine Z1 ?_
 refine Lx λg1=> ?_
 refine Y2 ?_
 have ⟨e5,H6,H7⟩:=bnd H
 refine Tj0 [(14,.bool e5)] [1,2,3] [] [0,1,2] ?_ ?_
 ·refine Z0 ?_
  refine Lw 11 H6 (λH8=> ?_) λH8=> ?_
  ·refine Z0 ?_
   cases H8
   exact Eg0 [0,0,0] 0
  refine Z0 ?_
  cases H8
  exact Eg0 [0,0,0] 0
 refine Tb H7 (λa=> ?_) λa=> ?_
 ·refine Z1 ?_
  cases a
  exact Eo () [1,1] [] (.tmp rfl (.tmp rfl .nil))
 refine Y1 ?_
 refine Td [] [0] mo ?_
 refine Db 0 0 ?_
 refine Dq 1 ?_
 refine Dq 2 ?_
 have ⟨w,d,e⟩:=bnd a
 refine Dk [] [0] (ie A0 C0 d) λ⟨x,y⟩=> ?_
 refine D.frz 0 rfl ?_
 have ⟨z,f,g⟩:=bnd e
 refine Dk [0,0] [0] (l9 f) λ⟨⟩=> ?_
 refine Dn ?_
 refine Y2 ?_
 refine Td [] [0,0,0] mo ?_
 refine Db 0 0 ?_
 refine Dq 1 ?_
 refine Dq 2 ?_
 refine Db 3 1 ?_
 refine Db 5 0 ?_
 refine Dq 6 ?_
 refine Dq 7 ?_
 refine Db 8 1 ?_
 refine Dy 4 (Yl.mn 2 rfl rfl rfl rfl rfl) ?_
 refine Dq 9 ?_
 refine Dn ?_
 refine Z0 ?_
 refine Tb g (λb=> ?_) λb=> ?_
 ·refine Z1 ?_
  cases b
  exact Eo () [1,1] [] (.tmp rfl (.tmp rfl .nil))
 refine Z1 ?_
 have ⟨A,j,k⟩:=bnd b
 refine Lk [2] [] (nR M0 j) λm=> ?_
 have ⟨B,n,o⟩:=bnd k
 refine Lk [0,0] [] (l0 m M0 n) λ⟨p,⟨C,F⟩⟩=> ?_
 refine L.prd 1 rfl λq=> ?_
 have s:=uW o p q
 refine Z0 ?_
 refine L.frz 0 rfl ?_
 have ⟨t,u,v⟩:=bnd s
 refine Lk [2,2,1] [0] (k9 u) λ⟨⟩=> ?_
 refine Z1 ?_
 refine La [2] [] (Ac.mde (ty:=aE) (ag:=true) t rfl rfl rfl rfl rfl rfl rfl) λ_=> ?_
 refine Z1 ?_
 cases v
 exact Eo () [2,0] [] (.tmp rfl (.tmp rfl .nil))
theorem oL {c:aH} {g:aV} {r:Int×aH} (H:fB c g=some r):CT G 35 [.pointer (some ⟨N0,0,none⟩),.agg (qR g A3 C3).toArray] [Ch.box N0 94 (ko c N1 N3 N4),Ch.box N1 155 (eS c.aS N2 A0 C0 A1 C1),Ch.box N2 153 (cP c.aS.slot M0),Ch.mp Ty.str false M0 c.aS.slot.parts,Ch.box N3 158 [.int .i64 c.lines.most,.int .i64 c.lines.now,.map M1],Ch.mp aE true M1 c.lines.l,Ch.box N4 161 (eT c.bS N5),Ch.box N5 106 [.slice A2 c.bS.want.l.length C2]] [Im.sl aU A0 C0 c.aS.aK.rows,Im.sl aF A1 C1 c.aS.aK.begun,Im.sl aC A2 C2 c.bS.want.l,Im.sl (Ty.int .i64) A3 C3 g.aX] (λh:(Option Addr×Nat)=> .int .i64 r.1) (λh=>[Ch.box N0 94 (ko r.2 N1 N3 N4),Ch.box N1 155 (eS r.2.aS N2 A0 C0 A1 C1),Ch.box N2 153 (cP r.2.aS.slot M0),Ch.mp Ty.str false M0 r.2.aS.slot.parts,Ch.box N3 158 [.int .i64 r.2.lines.most,.int .i64 r.2.lines.now,.map M1],Ch.mp aE true M1 r.2.lines.l,Ch.box N4 161 (eT r.2.bS N5),Ch.box N5 106 [.slice h.1 r.2.bS.want.l.length h.2]]) (λh=>[Im.sl aU A0 C0 r.2.aS.aK.rows,Im.sl aF A1 C1 r.2.aS.aK.begun,Im.sl aC h.1 h.2 r.2.bS.want.l]):=by
 delta fB at H
 refine Cf Go.Proofs.Tryz.func35 λK=> ?_
 refine Z1 ?_
 refine Lx λg1=> ?_
 refine Z1 ?_
 have ⟨r2,h3,H4⟩:=bnd H
 refine Lk [] [3] (wE h3) λ⟨a5,c6⟩=> ?_
 refine Z2 ?_
 have ⟨b,w,x⟩:=bnd H4
 refine Tjh (η:=(Option Addr×Nat)) (λ_=>[]) [7] (λh=>(λi j=>[Ch.mp aE true M1 b.1.l,Ch.box N3 158 [.int .i64 b.1.most,.int .i64 b.1.now,.map M1],Ch.box N4 161 (eT b.2 N5),Ch.box N5 106 [.slice i b.2.want.l.length j]]) h.1 h.2) [1,2,3,4,5] (λh=>(λi j=>[Im.sl aC i j b.2.want.l]) h.1 h.2) ?_ ?_
 ·refine Yl0 ?_
  refine Tq (η:=(Option Addr×Nat)) (λa h=>(λd e=>[(18,.int .i64 a.2.2)]) h.1 h.2) [0,5,7,16,17] (λa h=>(λd e=>[Ch.mp aE true M1 a.1.l,Ch.box N3 158 [.int .i64 a.1.most,.int .i64 a.1.now,.map M1],Ch.box N4 161 (eT a.2.1 N5),Ch.box N5 106 [.slice d a.2.1.want.l.length e]]) h.1 h.2) [1,2,3,4,0,5] (λa h=>(λd e=>[Im.sl aC d e a.2.1.want.l]) h.1 h.2) (A2,C2) [7,6,6,6,1,1,1,1,0,0] [2] w ?_
  rintro k_ a ⟨d,e⟩ Q y z A
  refine Y2 ?_
  refine Tb y (λn=> ?_) λn=> ?_
  ·refine Y1 ?_
   have ⟨f,B,C⟩:=bnd n
   refine Tjh (η:=(Option Addr×Nat)) (λ_=>[]) [0,5,7,16,17,18] (λh=>(λk m=>[Ch.mp aE true M1 f.1.l,Ch.box N3 158 [.int .i64 f.1.most,.int .i64 f.1.now,.map M1],Ch.box N4 161 (eT f.2 N5),Ch.box N5 106 [.slice k f.2.want.l.length m]]) h.1 h.2) [4,5,6,7,8,9] (λh=>(λk m=>[Im.sl aC k m f.2.want.l]) h.1 h.2) ?_ ?_
   ·refine Zl ?_
    refine Z1 ?_
    have ⟨F,o,I⟩:=bnd B
    refine L.iw 8 rfl (bH o) λR J=> ?_
    subst J
    refine Ly (Yl.ia o rfl rfl rfl rfl rfl rfl) ?_
    refine La [8] [] (Ac.lo a.2.2.toNat 0 (v:=(λh:(Option Addr×Nat)=>(λq s=> .slice q F.length s) h.1 h.2)) (aI o).2 rfl rfl rfl (λ_=>rfl)) ?_
    rintro ⟨q,s⟩
    refine Z1 ?_
    have ⟨S,M,N⟩:=bnd I
    refine Lk [3,3] [1] (q6 M) λ⟨t,u⟩=> ?_
    refine Z0 ?_
    refine Tb N (λp=> ?_) λp=> ?_
    ·refine Z0 ?_
     have ⟨U,O,P⟩:=bnd p
     refine Lk [4,3] [1] (q7 O) λ⟨⟩=> ?_
     refine Z0 ?_
     cases P
     exact Eg (t,u) trivial [1,0,0,0,1,1,1,1,0,0] [0] 2
    refine Z0 ?_
    cases p
    exact Eg (t,u) trivial [3,3,0,0,1,1,1,1,0,0] [0] 2
   rintro ⟨k,m⟩
   refine Z0 ?_
   cases C
   exact Eg (_,(k,m)) (z _ rfl) [0,0,0,0,0,0,0,0,0,0] [0] 2
  refine Z0 ?_
  cases n
  have hb:=A _ rfl
  subst b
  exact Eg (d,e) trivial [0,0,0,0,0,0,0,0,1] [0] 1
 rintro ⟨i,j⟩
 refine Z1 ?_
 cases x
 exact Eo1 (i,j) [5,5,5,5,1,0,0,0] [1,2,0]
end Go.Tw.X
namespace Go.Tw.X
open Go Go.Tw
variable {A0 A1 A2 A3 A4 A5 A6 A7 A8 : Option Addr} {C0 C1 C2 C3 C4 C5 C6 C7 C8 : Nat}
variable {N0 N1 N2 N3 N4 N5 : Nat}
variable {M0 M1 : Option Nat}
theorem rT {s_:bU} {key:Int} {index:Int} {count:Int} {data:ByteArray} {r:Int×bU} (H:iD s_ key index count data=some r):CT G 144 [.pointer (some ⟨N0,0,none⟩),.int .i64 key,.int .i64 index,.int .i64 count,.string data] [Ch.box N0 153 (cP s_ M0),Ch.mp Ty.str false M0 s_.parts] [] (λh:Option Nat=> .int .i64 r.1) (λh=>[Ch.box N0 153 (cP r.2 h),Ch.mp Ty.str false h r.2.parts]) (λh=>[]):=by
 delta iD at H
 refine Cf Go.Proofs.Tryz.func144 λK=> ?_
 refine Y2 ?_
 have ⟨b,q,c⟩:=bnd H
 refine Tj (η:=bU×(Option Nat)) (λh=>b = .inl h.1) (λ_=>[]) [0,2,4] (λh=>(λd=>(λa=>[Ch.mp Ty.str false a d.parts,Ch.box N0 153 (cP d a)]) h.2) h.1) [] (λ_=>[]) ?_ ?_
 ·refine Zl ?_
  refine Y1 ?_
  have ⟨s,t,u⟩:=bnd q
  refine Tj0 [(13,.bool s)] [0,1,2,3,4] [] [0,1] ?_ ?_
  ·refine Z0 ?_
   refine Lw 16 t (λe=> ?_) λe=> ?_
   ·refine Z0 ?_
    cases e
    exact Eg0 [0,0] 0
   refine Z0 ?_
   refine Lw 20 e (λg=> ?_) λg=> ?_
   ·refine Z0 ?_
    cases g
    exact Eg0 [0,0] 0
   refine Z0 ?_
   refine Lw 24 g (λi=> ?_) λi=> ?_
   ·refine Z0 ?_
    cases i
    exact Eg0 [0,0] 0
   refine Z0 ?_
   refine Lw 29 i (λj=> ?_) λj=> ?_
   ·refine Z0 ?_
    cases j
    exact Eg0 [0,0] 0
   refine Z0 ?_
   cases j
   exact Eg0 [0,0] 0
  refine Tb u (λk=> ?_) λk=> ?_
  ·refine Z1 ?_
   obtain ⟨F,hz,v⟩:=gA k
   subst b
   obtain rfl:=(sm c).symm
   refine Z0 ?_
   cases v
   exact Eo1 M0 [0,0] []
  refine Z1 ?_
  refine Tb k (λl=> ?_) λl=> ?_
  ·refine Z1 ?_
   obtain ⟨I,hz,w⟩:=gA l
   subst b
   obtain rfl:=(sm c).symm
   refine Z0 ?_
   cases w
   exact Eo1 M0 [0,0] []
  refine Z1 ?_
  refine Tb l (λm=> ?_) λm=> ?_
  ·refine Z0 ?_
   refine La [] [] (Ac.mkm (ty:=Ty.str) (ag:=false) rfl rfl rfl) λx=> ?_
   refine Z0 ?_
   refine Lt 1 ?_
   refine Z0 ?_
   cases m
   exact Eg (_,(some x)) rfl [1,0] [] 0
  refine Z1 ?_
  refine Tb m (λn=> ?_) λn=> ?_
  ·refine Z1 ?_
   obtain ⟨J,hz,y⟩:=gA n
   subst b
   obtain rfl:=(sm c).symm
   refine Z0 ?_
   cases y
   exact Eo1 M0 [0,0] []
  refine Z0 ?_
  cases n
  exact Eg (_,M0) rfl [1,0] [] 0
 rintro ⟨d,a⟩ hy
 subst hy
 refine Z2 ?_
 refine La [0] [] (Ac.ml (ty:=Ty.str) (ag:=false) (vv:=(λ_:Unit=> .string (mgd d.parts index (ByteArray.mk #[])))) index (ByteArray.mk #[]) () rfl rfl rfl rfl rfl rfl rfl rfl rfl (λ_ _ f hf=>by cases hf) DU (λ_=>rfl)) ?_
 rintro ⟨⟩
 refine Z1 ?_
 have ⟨p,z,A⟩:=bnd c
 refine Tj0 [] [] [Ch.mp Ty.str false a p.parts,Ch.box N0 153 (cP p a)] [] ?_ ?_
 ·refine Tb z (λo=> ?_) λo=> ?_
  ·refine Z1 ?_
   have ⟨_,B,C⟩:=bnd o
   refine La [0] [] (Ac.mu (ty:=Ty.str) (ag:=false) index data () B (.inl rfl) rfl rfl rfl rfl rfl rfl rfl rfl) λ_=> ?_
   refine Z0 ?_
   refine Lt 1 ?_
   refine Z0 ?_
   cases C
   exact Eg0 [1,0] 0
  refine Z0 ?_
  cases o
  exact Eg0 [0,0] 0
 refine Z1 ?_
 cases A
 exact Eo1 a [1,0] []
theorem pc {t_:aZ} {g:aV} {r:Int×aZ} (H:iq t_ g=some r):CT G 82 [.pointer (some ⟨N0,0,none⟩),.agg (qR g A2 C2).toArray] [Ch.box N0 155 (eS t_ N1 A0 C0 A1 C1),Ch.box N1 153 (cP t_.slot M0),Ch.mp Ty.str false M0 t_.slot.parts] [Im.sl aU A0 C0 t_.aK.rows,Im.sl aF A1 C1 t_.aK.begun,Im.sl (Ty.int .i64) A2 C2 g.aX] (λh:Option Nat=> .int .i64 r.1) (λh=>[Ch.box N0 155 (eS r.2 N1 A0 C0 A1 C1),Ch.box N1 153 (cP r.2.slot h),Ch.mp Ty.str false h r.2.slot.parts]) (λh=>[Im.sl aU A0 C0 r.2.aK.rows,Im.sl aF A1 C1 r.2.aK.begun]):=by
 delta iq at H
 refine Cf Go.Proofs.Tryz.func82 λK=> ?_
 refine Z1 ?_
 refine Lx λg1=> ?_
 refine Z1 ?_
 refine Zl ?_
 refine Z1 ?_
 refine Tb H (λa=> ?_) λa=> ?_
 ·refine Z1 ?_
  cases a
  exact Eo1 M0 [1,1,1] [0,1]
 refine Z1 ?_
 refine Tb a (λb=> ?_) λb=> ?_
 ·refine Z1 ?_
  cases b
  exact Eo1 M0 [1,1,1] [0,1]
 refine Y1 ?_
 refine Td [] [0,0,0,0] mo ?_
 refine Dq 0 ?_
 refine Db 1 0 ?_
 have ⟨B,c,n⟩:=bnd b
 refine D.addr 2 rfl (bH c) λC F o=> ?_
 subst o
 refine Dy 2 (Yl.ia c rfl rfl rfl rfl rfl rfl) ?_
 refine D.el 2 rfl (aI c).2 ?_
 rintro _
 refine Dy 3 (Yl.ldc 0 0 rfl rfl rfl rfl) ?_
 refine Dq 4 ?_
 refine Dq 5 ?_
 refine Dq 6 ?_
 refine Dq 7 ?_
 refine Db 8 1 ?_
 refine Dq 9 ?_
 refine Dq 10 ?_
 refine Dn ?_
 refine Z0 ?_
 refine Tb n (λd=> ?_) λd=> ?_
 ·refine Z1 ?_
  cases d
  exact Eo1 M0 [1,1,1] [1,2]
 refine Y1 ?_
 have ⟨p,q,s⟩:=bnd d
 refine Tj0 [(25,.bool p)] [0,3] [] [0,1,2,3] ?_ ?_
 ·refine Td [] [0,0,0,0] mo ?_
  refine Dq 0 ?_
  refine Db 1 0 ?_
  have ⟨I,i,t⟩:=bnd q
  refine Dy 2 (Yl.ia i rfl rfl rfl rfl rfl rfl) ?_
  refine D.el 3 rfl (aI i).2 ?_
  rintro _
  refine Dy 3 (Yl.ldc 0 0 rfl rfl rfl rfl) ?_
  refine Dq 4 ?_
  refine Dq 5 ?_
  refine D.cs 31 t rfl (λhc e=> ?_) (λhc e=> ?_)
  ·refine Dq 6 ?_
   refine Db 7 0 ?_
   have ⟨J,j,u⟩:=bnd e
   refine Dy 8 (Yl.ia j rfl rfl rfl rfl rfl rfl) ?_
   refine D.el 4 rfl (aI j).2 ?_
   rintro _
   refine Dy 9 (Yl.ldc 0 0 rfl rfl rfl rfl) ?_
   refine Dq 10 ?_
   refine Dq 11 ?_
   refine Dq 12 ?_
   refine Dq 13 ?_
   refine Db 14 1 ?_
   refine Dq 15 ?_
   refine Dq 16 ?_
   refine Dq 17 ?_
   refine Dn ?_
   cases u
   exact Eg0 [0,0,0,0] 2
  refine Ds 6 ?_
  refine Ds 7 ?_
  refine Ds 8 ?_
  refine Ds 9 ?_
  refine Ds 10 ?_
  refine Ds 11 ?_
  refine Ds 12 ?_
  refine Ds 13 ?_
  refine Ds 14 ?_
  refine Ds 15 ?_
  refine Dq 16 ?_
  refine Dq 17 ?_
  refine Dn ?_
  cases e
  exact Eg0 [0,0,0,0] 1
 refine Tb s (λf=> ?_) λf=> ?_
 ·refine Z1 ?_
  cases f
  exact Eo1 M0 [1,1,1] [1,2]
 refine Y1 ?_
 refine Td [] [0,0] mo ?_
 refine Dq 0 ?_
 refine Dq 1 ?_
 refine Dq 2 ?_
 refine Db 3 1 ?_
 refine Dq 4 ?_
 refine Db 5 0 ?_
 have ⟨M,k,v⟩:=bnd f
 refine Dy 6 (Yl.ia k rfl rfl rfl rfl rfl rfl) ?_
 refine D.el 3 rfl (aI k).2 ?_
 rintro _
 refine Dy 7 (Yl.ldc 0 0 rfl rfl rfl rfl) ?_
 refine Dq 8 ?_
 refine Db 9 0 ?_
 have ⟨N,l,w⟩:=bnd v
 refine Dy 10 (Yl.ia l rfl rfl rfl rfl rfl rfl) ?_
 refine D.el 4 rfl (aI l).2 ?_
 rintro _
 refine Dy 11 (Yl.ldc 0 0 rfl rfl rfl rfl) ?_
 refine Dq 12 ?_
 refine Db 13 0 ?_
 have ⟨O,m,x⟩:=bnd w
 refine Dy 14 (Yl.ia m rfl rfl rfl rfl rfl rfl) ?_
 refine D.el 5 rfl (aI m).2 ?_
 rintro _
 refine Dy 15 (Yl.ldc 0 0 rfl rfl rfl rfl) ?_
 refine Dq 16 ?_
 refine Db 17 0 ?_
 have ⟨P,y,z⟩:=bnd x
 refine Dk [0,0] [] (rT y) λA=> ?_
 refine Dq 19 ?_
 refine Dn ?_
 refine Z0 ?_
 cases z
 exact Eo1 A [1,1,1] [4,5]
theorem mw (g:Nat) (u:Bool) (v:Value):CT G 184 [.pointer (some ⟨g,0,none⟩)] [Ch.box g 240 [.pointer (uV u g),v]] [] (λ_:Unit=> .tuple #[]) (λ_=>[Ch.box g 240 [.pointer (uV true g),v]]) (λ_=>[]):=by
 refine Cf Go.Proofs.Tryz.func184 λK=> ?_
 cases u
 ·refine Z1 ?_
  refine Ly (Yl.pz rfl rfl rfl rfl rfl) ?_
  refine Z0 ?_
  refine T.cond rfl (λ_=> ?_) (λh=>nomatch h)
  refine Z0 ?_
  refine Ly (Yl.tou (t:=240) 0 rfl rfl rfl (by kernel_rfl) (by kernel_rfl) rfl rfl rfl) ?_
  refine Ly (Yl.Hc rfl rfl rfl Go.Proofs.Tryz.func211 (by kernel_rfl) (by kernel_rfl) (by kernel_rfl) (by kernel_rfl)) ?_
  refine Ly (Yl.fru (u:=240) 0 rfl rfl rfl (by kernel_rfl) (by kernel_rfl) rfl (by kernel_rfl)) ?_
  refine Z0 ?_
  refine Lt 0 ?_
  refine Z0 ?_
  refine E.off ?_
  exact Eo () [0] [] .nil
 refine Z1 ?_
 refine Ly (Yl.pn rfl rfl rfl rfl rfl rfl) ?_
 refine Z0 ?_
 refine T.cond rfl (λh=>nomatch h) (λ_=> ?_)
 refine Z1 ?_
 refine Ly (Yl.ps rfl rfl rfl rfl rfl rfl) ?_
 refine Z0 ?_
 refine T.cond rfl (λh=>nomatch h) (λ_=> ?_)
 refine Z0 ?_
 refine E.off ?_
 exact Eo () [0] [] .nil
theorem lU {b:cN} {s_:ByteArray} (g_0:Nat) (a_0_0:Option Addr) (c_0_0:Nat) {r:cN} (H:dS b s_=some r):CT G 146 [.pointer (some ⟨g_0,0,none⟩),.string s_] [Ch.box g_0 240 [.pointer (uV b.addr g_0),.slice a_0_0 b.buf.length c_0_0],Ch.arr (Ty.int .u8) 5 a_0_0 c_0_0 b.buf] [] (λh:(Option Addr×Nat)=> .tuple #[.int .i64 (s_.size:Int),.nilIface]) (λh=>[Ch.box g_0 240 [.pointer (uV r.addr g_0),.slice h.1 r.buf.length h.2],Ch.arr (Ty.int .u8) 5 h.1 h.2 r.buf]) (λh=>[]):=by
  delta dS at H
  refine Cf Go.Proofs.Tryz.func146 λK=> ?_
  refine Z2 ?_
  refine Lk [0] [] (mw g_0 b.addr _) λ⟨⟩=> ?_
  refine Z1 ?_
  have ⟨_,h1,H2⟩:=bnd H
  refine La [1] [] (Ac.aps h1 rfl rfl rfl rfl rfl rfl rfl rfl rfl Fy) λ⟨a,c⟩=> ?_
  refine Z0 ?_
  refine Lt 1 ?_
  refine Z1 ?_
  cases H2
  exact Eo (a,c) [0,0] [] (.tmp rfl (.tmp rfl .nil))
theorem nr {b:cN} (g_0:Nat) (a_0_0:Option Addr) (c_0_0:Nat) {r:ByteArray} (H:hG b=some r):CT G 147 [.pointer (some ⟨g_0,0,none⟩)] [Ch.box g_0 240 [.pointer (uV b.addr g_0),.slice a_0_0 b.buf.length c_0_0],Ch.arr (Ty.int .u8) 5 a_0_0 c_0_0 b.buf] [] (λh:Unit=> .string r) (λh=>[]) (λh=>[]):=by
  delta hG at H
  refine Cf Go.Proofs.Tryz.func147 λK=> ?_
  refine Y2 ?_
  refine Td [] [0] mo ?_
  refine Dq 0 ?_
  refine Dq 1 ?_
  refine Dq 2 ?_
  refine Db 3 0 ?_
  refine Dq 5 ?_
  refine Dq 6 ?_
  refine Dq 7 ?_
  refine Db 8 0 ?_
  refine Dq 9 ?_
  refine Da [0] [] rfl rfl (Ac.usd (e:=5) rfl rfl (by kernel_rfl)) λp=> ?_
  refine Da [0] [] rfl rfl (Ac.ust (T:=5) rfl rfl rfl (by kernel_rfl) (by kernel_rfl)) λ_=> ?_
  refine Dq 11 ?_
  refine Dn ?_
  refine Z0 ?_
  cases H
  exact Eo1 () [] []
theorem pU {s_:bU} {r:ByteArray×Bool} (H:fw s_=some r):CT G 83 [.pointer (some ⟨N0,0,none⟩)] [Ch.box N0 153 (cP s_ M0),Ch.mp Ty.str false M0 s_.parts] [] (λ_:Unit=> .tuple #[.string r.1,.bool r.2]) (λh=>[Ch.box N0 153 (cP s_ M0),Ch.mp Ty.str false M0 s_.parts]) (λh=>[]):=by
 delta fw at H
 refine Cf Go.Proofs.Tryz.func83 λK=> ?_
 refine T.wZ ?_
 refine Z1 ?_
 refine Lx λg1=> ?_
 refine Y2 ?_
 have ⟨e7,H8,H9⟩:=bnd H
 refine T.BI (η:=Unit×Unit) (λh=>True) (λh=>[]) (λh=>[(1,.pointer (some ⟨g1,0,none⟩)),(22,.bool e7)]) (λh=>[Ch.box g1 150 [.pointer (some ⟨N0,0,none⟩)],Ch.dfs [],Ch.box N0 153 (cP s_ M0),Ch.mp Ty.str false M0 s_.parts]) (λh=>[]) ?_ ?_
 ·refine Td [] [0,0,0,0] mo ?_
  refine Db 0 0 ?_
  refine Dq 1 ?_
  refine Dq 2 ?_
  refine Db 3 2 ?_
  refine Dq 4 ?_
  refine Dq 5 ?_
  refine D.cs 11 H8 rfl (λhc e=> ?_) (λhc e=> ?_)
  ·refine Ds 6 ?_
   refine Ds 7 ?_
   refine Ds 8 ?_
   refine Ds 9 ?_
   refine Ds 10 ?_
   refine Ds 11 ?_
   refine Ds 12 ?_
   refine Ds 13 ?_
   refine Ds 14 ?_
   refine Ds 15 ?_
   refine Dq 16 ?_
   refine Dn ?_
   cases e
   exact E.rY ((),()) [0,0,0,0] [] trivial rfl ⟨rfl,rfl,trivial⟩ rfl rfl
  refine Db 6 0 ?_
  refine Dq 7 ?_
  refine Dq 8 ?_
  refine Db 9 2 ?_
  refine Db 11 0 ?_
  refine Dq 12 ?_
  refine Dq 13 ?_
  refine Db 14 2 ?_
  refine Dy 10 (Yl.mn 3 rfl rfl rfl rfl rfl) ?_
  refine Dq 15 ?_
  refine Dq 16 ?_
  refine Dn ?_
  cases e
  exact E.rY ((),()) [0,0,0,0] [] trivial rfl ⟨rfl,rfl,trivial⟩ rfl rfl
 rintro ⟨_,⟨⟩⟩ _
 refine Tb H9 (λg=> ?_) λg=> ?_
 ·refine Z1 ?_
  cases g
  exact E.yB () 1 [1,1] [] rfl (.tmp rfl (.tmp rfl .nil)) rfl rfl rfl
 refine Z1 ?_
 refine Ll λd=> ?_
 refine Z2 ?_
 refine Yl0 ?_
 refine T.fZ (Ty.int .u8) 5 ?_
 have ⟨k,l,m⟩:=bnd g
 refine T.rf3 (σ:=cN) (η:=(Option Addr×Nat)) (X:=Int×Bool) (θ:=Unit) (τ:=(Option Addr×Nat)) (s1:=k) (hx:=λx=>x) (λx t=>[.int .i64 x.1,.bool x.2]) (λx t=>[]) (λ_=>none) [Ch.box N0 153 (cP s_ M0),Ch.mp Ty.str false M0 s_.parts] (λa h=>(λb c=>[Ch.arr (Ty.int .u8) 5 b c a.buf,Ch.box d 240 [.pointer (uV a.addr d),.slice b a.buf.length c],Ch.box g1 150 [.pointer (some ⟨N0,0,none⟩)]]) h.1 h.2) (λa h=>(λb c=>[]) h.1 h.2) 3 [0,0,0,0,0] [] [] rfl rfl (λ_ _=>rfl) rfl (λyl C hY=>(m6 N0 M0 hY (none,0) l:_)) (λ_ _ _ _=>rfl) rfl rfl rfl rfl rfl ?_ rfl ?_
 ·rintro yl K2 a ⟨b,c⟩ i ⟨⟩ w n
  refine Z0 ?_
  refine E.begin λK3=> ?_
  refine Zl ?_
  refine La [4] [] (Ac.ml1 (ty:=Ty.str) (ag:=false) (vv:=(λ_:Unit=> .string (mgd s_.parts i.1 (ByteArray.mk #[])))) i.1 (ByteArray.mk #[]) () rfl rfl rfl rfl rfl rfl rfl rfl rfl (λ_ _ f hf=>by cases hf) DU (λ_=>rfl)) ?_
  rintro ⟨⟩
  have ⟨y,o,p⟩:=bnd n
  refine Lk [2,1] [] (lU d b c o) λ⟨q,s⟩=> ?_
  refine Z0 ?_
  cases p
  exact E.on (q,s) [1,0,1,1,0] [] rfl rfl rfl rfl
 rintro j z
 refine Z1 ?_
 have ⟨A,u,v⟩:=bnd m
 refine Lk [2,1] [] (nr d j.1 j.2 u) λ⟨⟩=> ?_
 refine Z0 ?_
 cases v
 exact E.yB () 0 [1,1] [] rfl (.tmp rfl (.tmp rfl .nil)) rfl rfl rfl
theorem pd {s_:bU} {r:bU} (H:il s_=some r):CT G 84 [.pointer (some ⟨N0,0,none⟩)] [Ch.box N0 153 (cP s_ M0),Ch.mp Ty.str false M0 s_.parts] [] (λh:Option Nat=> .tuple #[]) (λh=>[Ch.box N0 153 (cP r h),Ch.mp Ty.str false h r.parts]) (λh=>[]):=by
 delta il at H
 refine Cf Go.Proofs.Tryz.func84 λK=> ?_
 refine Z0 ?_
 refine Lt 0 ?_
 refine Ln (E.off ?_)
 refine E.mp0 Ty.str false ?_
 cases H
 exact Eo none [1,0] [] .nil
theorem na {s_:aN} {r:Bool} (H:fK s_=some r):CT G 185 [.agg (oG s_ A0 C0 A1 C1).toArray] [] [Im.sl aU A0 C0 s_.rows,Im.sl aF A1 C1 s_.begun] (λ_:Unit=> .bool r) (λh=>[]) (λh=>[]):=by
 delta fK at H
 refine Cf Go.Proofs.Tryz.func185 λK=> ?_
 refine Z1 ?_
 refine Lx λg1=> ?_
 refine Y1 ?_
 have ⟨k,l,m⟩:=bnd H
 refine Tj0 [(2,.bool k)] [] [] [0] ?_ ?_
 ·refine Z0 ?_
  refine Lw 6 l (λa=> ?_) λa=> ?_
  ·refine Z0 ?_
   refine Lw 11 a (λb=> ?_) λb=> ?_
   ·refine Z0 ?_
    refine Lw 16 b (λc=> ?_) λc=> ?_
    ·refine Z0 ?_
     refine Lw 21 c (λd=> ?_) λd=> ?_
     ·refine Z0 ?_
      refine Lw 26 d (λe=> ?_) λe=> ?_
      ·refine Z0 ?_
       refine Lw 31 e (λf=> ?_) λf=> ?_
       ·refine Z0 ?_
        refine Lw 37 f (λg=> ?_) λg=> ?_
        ·refine Z0 ?_
         refine Lw 42 g (λi=> ?_) λi=> ?_
         ·refine Z0 ?_
          refine Lw 47 i (λj=> ?_) λj=> ?_
          ·refine Z0 ?_
           cases j
           exact Eg0 [0] 0
          refine Z0 ?_
          cases j
          exact Eg0 [0] 0
         refine Z0 ?_
         cases i
         exact Eg0 [0] 0
        refine Z0 ?_
        cases g
        exact Eg0 [0] 0
       refine Z0 ?_
       cases f
       exact Eg0 [0] 0
      refine Z0 ?_
      cases e
      exact Eg0 [0] 0
     refine Z0 ?_
     cases d
     exact Eg0 [0] 0
    refine Z0 ?_
    cases c
    exact Eg0 [0] 0
   refine Z0 ?_
   cases b
   exact Eg0 [0] 0
  refine Z0 ?_
  cases a
  exact Eg0 [0] 0
 refine Z0 ?_
 cases m
 exact Eo1 () [] []
theorem fG {n_:Int} {lo:Int} {hi:Int} {r:Bool} (H:dQ n_ lo hi=some r):CT G 212 [.int .i64 n_,.int .i64 lo,.int .i64 hi] [] [] (λ_:Unit=> .bool r) (λh=>[]) (λh=>[]):=by
 delta dQ at H
 refine Cf Go.Proofs.Tryz.func212 λK=> ?_
 refine Y2 ?_
 have ⟨e4,H5,H6⟩:=bnd H
 refine Tj0 [(6,.bool e4)] [] [] [] ?_ ?_
 ·refine Z0 ?_
  refine Lw 10 H5 (λH7=> ?_) λH7=> ?_
  ·refine Z0 ?_
   cases H7
   exact Eg0 [] 0
  refine Z0 ?_
  cases H7
  exact Eg0 [] 0
 refine Z0 ?_
 cases H6
 exact Eo1 () [] []
theorem q8 {s_:aN} {r:Bool} (H:gP s_=some r):CT G 186 [.agg (oG s_ A0 C0 A1 C1).toArray] [] [Im.sl aU A0 C0 s_.rows,Im.sl aF A1 C1 s_.begun] (λ_:Unit=> .bool r) (λh=>[]) (λh=>[]):=by
 delta gP at H
 refine Cf Go.Proofs.Tryz.func186 λK=> ?_
 refine Z1 ?_
 refine Lx λg1=> ?_
 refine Y1 ?_
 have ⟨k,l,m⟩:=bnd H
 refine Tj0 [(2,.bool k)] [] [] [0] ?_ ?_
 ·refine Z0 ?_
  have ⟨C,n,o⟩:=bnd l
  refine Lk [] [] (fG n) λ⟨⟩=> ?_
  refine Z0 ?_
  refine Lw 6 o (λa=> ?_) λa=> ?_
  ·refine Z0 ?_
   have ⟨F,p,q⟩:=bnd a
   refine Lk [] [] (fG p) λ⟨⟩=> ?_
   refine Z0 ?_
   refine Lw 11 q (λb=> ?_) λb=> ?_
   ·refine Z0 ?_
    have ⟨I,s,t⟩:=bnd b
    refine Lk [] [] (fG s) λ⟨⟩=> ?_
    refine Z0 ?_
    refine Lw 16 t (λc=> ?_) λc=> ?_
    ·refine Z0 ?_
     have ⟨J,u,v⟩:=bnd c
     refine Lk [] [] (fG u) λ⟨⟩=> ?_
     refine Z0 ?_
     refine Lw 24 v (λd=> ?_) λd=> ?_
     ·refine Z0 ?_
      have ⟨M,w,x⟩:=bnd d
      refine Lk [] [] (fG w) λ⟨⟩=> ?_
      refine Z0 ?_
      refine Lw 32 x (λe=> ?_) λe=> ?_
      ·refine Z0 ?_
       refine Lw 40 e (λf=> ?_) λf=> ?_
       ·refine Z0 ?_
        refine Lw 46 f (λg=> ?_) λg=> ?_
        ·refine Z0 ?_
         have ⟨N,y,z⟩:=bnd g
         refine Lk [] [] (fG y) λ⟨⟩=> ?_
         refine Z0 ?_
         refine Lw 51 z (λi=> ?_) λi=> ?_
         ·refine Z0 ?_
          have ⟨O,A,B⟩:=bnd i
          refine Lk [] [] (fG A) λ⟨⟩=> ?_
          refine Z0 ?_
          refine Lw 56 B (λj=> ?_) λj=> ?_
          ·refine Z0 ?_
           cases j
           exact Eg0 [0] 0
          refine Z0 ?_
          cases j
          exact Eg0 [0] 0
         refine Z0 ?_
         cases i
         exact Eg0 [0] 0
        refine Z0 ?_
        cases g
        exact Eg0 [0] 0
       refine Z0 ?_
       cases f
       exact Eg0 [0] 0
      refine Z0 ?_
      cases e
      exact Eg0 [0] 0
     refine Z0 ?_
     cases d
     exact Eg0 [0] 0
    refine Z0 ?_
    cases c
    exact Eg0 [0] 0
   refine Z0 ?_
   cases b
   exact Eg0 [0] 0
  refine Z0 ?_
  cases a
  exact Eg0 [0] 0
 refine Z0 ?_
 cases m
 exact Eo1 () [] []
theorem q9 {r_:Int} {bW:Int} {r:Bool} (H:jP r_ bW=some r):CT G 189 [.int .i32 r_,.int .i64 bW] [] [] (λ_:Unit=> .bool r) (λh=>[]) (λh=>[]):=by
 delta jP at H
 refine Cf Go.Proofs.Tryz.func189 λK=> ?_
 refine Y2 ?_
 have ⟨b,c,d⟩:=bnd H
 refine Tj0 [(4,.bool b)] [] [] [] ?_ ?_
 ·refine Z0 ?_
  have ⟨j,e,f⟩:=bnd c
  refine Lk [] [] (fG e) λ⟨⟩=> ?_
  refine Z0 ?_
  refine Lw 8 f (λa=> ?_) λa=> ?_
  ·refine Z0 ?_
   have ⟨k,g,i⟩:=bnd a
   refine Lk [] [] (fG g) λ⟨⟩=> ?_
   refine Z0 ?_
   cases i
   exact Eg0 [] 0
  refine Z0 ?_
  cases a
  exact Eg0 [] 0
 refine Z0 ?_
 cases d
 exact Eo1 () [] []
theorem pg {g:aM} {r:Bool} (H:gq g=some r):CT G 188 [.agg #[.int .i32 g.rune,.int .i64 g.bW]] [] [] (λ_:Unit=> .bool r) (λh=>[]) (λh=>[]):=by
 delta gq at H
 refine Cf Go.Proofs.Tryz.func188 λK=> ?_
 refine Z1 ?_
 refine Lx λg1=> ?_
 refine Z1 ?_
 have ⟨r2,h3,H4⟩:=bnd H
 refine Lk [] [] (q9 h3) λ⟨⟩=> ?_
 refine Z0 ?_
 cases H4
 exact Eo1 () [] []
theorem je {s_:List aM} {r:Int} (H:cW s_=some r):CT G 213 [.slice A0 s_.length C0,.func (.func 188) #[] #[]] [] [Im.sl aF A0 C0 s_] (λ_:Unit=> .int .i64 r) (λh=>[]) (λh=>[]):=by
 delta cW at H
 refine Cf Go.Proofs.Tryz.func213 λK=> ?_
 refine Z3 ?_
 have ⟨a,i,e⟩:=bnd H
 refine Tj (η:=Unit×Unit) (λh=>a = .inl h.1) (λ_=>[]) [] (λ_=>[]) [] (λ_=>[]) ?_ ?_
 ·refine Yl0 ?_
  refine Tq (η:=Unit) (λf h=>[(8,.int .i64 f)]) [0,1,7] (λ_ _=>[]) [] (λ_ _=>[]) () [] [] i ?_
  rintro k_ f ⟨⟩ j k l g
  refine Y2 ?_
  refine Tb k (λb=> ?_) λb=> ?_
  ·refine Z1 ?_
   refine Zl ?_
   refine Z2 ?_
   have ⟨s,c,m⟩:=bnd b
   refine L.addr 0 rfl (bH c) λt u n=> ?_
   subst n
   refine Ly (Yl.ia c rfl rfl rfl rfl rfl rfl) ?_
   refine L.el 0 rfl (aI c).2 ?_
   rintro _
   refine Lc 0 0 ?_
   have ⟨v,o,p⟩:=bnd m
   refine Lk [] [] (pg o) λ⟨⟩=> ?_
   refine Z0 ?_
   refine Tb p (λd=> ?_) λd=> ?_
   ·refine Z1 ?_
    obtain ⟨w,hz,q⟩:=cK d
    subst j
    have hb:=g _ rfl
    subst a
    obtain rfl:=(sm e).symm
    refine Z0 ?_
    cases q
    exact Eo1 () [] []
   refine Z0 ?_
   cases d
   exact Eg (_,()) (l _ rfl) [] [] 1
  refine Z0 ?_
  cases b
  have hb:=g _ rfl
  subst a
  exact Eg (_,()) rfl [] [] 0
 rintro ⟨x,⟨⟩⟩ hy
 subst hy
 refine Z1 ?_
 cases e
 exact Eo1 () [] []
theorem iI {s_:List aM} {r:Bool} (H:cG s_=some r):CT G 187 [.slice A0 s_.length C0,.func (.func 188) #[] #[]] [] [Im.sl aF A0 C0 s_] (λ_:Unit=> .bool r) (λh=>[]) (λh=>[]):=by
 delta cG at H
 refine Cf Go.Proofs.Tryz.func187 λK=> ?_
 refine Z2 ?_
 have ⟨r1,h2,H3⟩:=bnd H
 refine Lk [] [0] (je h2) λ⟨⟩=> ?_
 refine Z0 ?_
 cases H3
 exact Eo1 () [] []
theorem x8 {c:aO} {r:Bool} (H:lI c=some r):CT G 192 [.agg #[.int .i32 c.rune,.int .i64 c.bW,.int .i64 c.part]] [] [] (λ_:Unit=> .bool r) (λh=>[]) (λh=>[]):=by
 delta lI at H
 refine Cf Go.Proofs.Tryz.func192 λK=> ?_
 refine Z1 ?_
 refine Lx λg1=> ?_
 refine Y1 ?_
 have ⟨b,d,e⟩:=bnd H
 refine Tj0 [(2,.bool b)] [] [] [0] ?_ ?_
 ·refine Z0 ?_
  have ⟨k,f,g⟩:=bnd d
  refine Lk [] [] (q9 f) λ⟨⟩=> ?_
  refine Z0 ?_
  refine Lw 8 g (λa=> ?_) λa=> ?_
  ·refine Z0 ?_
   have ⟨l,i,j⟩:=bnd a
   refine Lk [] [] (fG i) λ⟨⟩=> ?_
   refine Z0 ?_
   cases j
   exact Eg0 [0] 0
  refine Z0 ?_
  cases a
  exact Eg0 [0] 0
 refine Z0 ?_
 cases e
 exact Eo1 () [] []
theorem ph {c:aO} {r:Bool} (H:gr c=some r):CT G 191 [.agg #[.int .i32 c.rune,.int .i64 c.bW,.int .i64 c.part]] [] [] (λ_:Unit=> .bool r) (λh=>[]) (λh=>[]):=by
 delta gr at H
 refine Cf Go.Proofs.Tryz.func191 λK=> ?_
 refine Z1 ?_
 refine Lx λg1=> ?_
 refine Z1 ?_
 have ⟨r2,h3,H4⟩:=bnd H
 refine Lk [] [] (x8 h3) λ⟨⟩=> ?_
 refine Z0 ?_
 cases H4
 exact Eo1 () [] []
theorem jq {s_:List aO} {r:Int} (H:cZ s_=some r):CT G 214 [.slice A0 s_.length C0,.func (.func 191) #[] #[]] [] [Im.sl cC A0 C0 s_] (λ_:Unit=> .int .i64 r) (λh=>[]) (λh=>[]):=by
 delta cZ at H
 refine Cf Go.Proofs.Tryz.func214 λK=> ?_
 refine Z3 ?_
 have ⟨a,i,e⟩:=bnd H
 refine Tj (η:=Unit×Unit) (λh=>a = .inl h.1) (λ_=>[]) [] (λ_=>[]) [] (λ_=>[]) ?_ ?_
 ·refine Yl0 ?_
  refine Tq (η:=Unit) (λf h=>[(8,.int .i64 f)]) [0,1,7] (λ_ _=>[]) [] (λ_ _=>[]) () [] [] i ?_
  rintro k_ f ⟨⟩ j k l g
  refine Y2 ?_
  refine Tb k (λb=> ?_) λb=> ?_
  ·refine Z1 ?_
   refine Zl ?_
   refine Z2 ?_
   have ⟨s,c,m⟩:=bnd b
   refine L.addr 0 rfl (bH c) λt u n=> ?_
   subst n
   refine Ly (Yl.ia c rfl rfl rfl rfl rfl rfl) ?_
   refine L.el 0 rfl (aI c).2 ?_
   rintro _
   refine Lc 0 0 ?_
   have ⟨v,o,p⟩:=bnd m
   refine Lk [] [] (ph o) λ⟨⟩=> ?_
   refine Z0 ?_
   refine Tb p (λd=> ?_) λd=> ?_
   ·refine Z1 ?_
    obtain ⟨w,hz,q⟩:=cK d
    subst j
    have hb:=g _ rfl
    subst a
    obtain rfl:=(sm e).symm
    refine Z0 ?_
    cases q
    exact Eo1 () [] []
   refine Z0 ?_
   cases d
   exact Eg (_,()) (l _ rfl) [] [] 1
  refine Z0 ?_
  cases b
  have hb:=g _ rfl
  subst a
  exact Eg (_,()) rfl [] [] 0
 rintro ⟨x,⟨⟩⟩ hy
 subst hy
 refine Z1 ?_
 cases e
 exact Eo1 () [] []
theorem iJ {s_:List aO} {r:Bool} (H:cE s_=some r):CT G 190 [.slice A0 s_.length C0,.func (.func 191) #[] #[]] [] [Im.sl cC A0 C0 s_] (λ_:Unit=> .bool r) (λh=>[]) (λh=>[]):=by
 delta cE at H
 refine Cf Go.Proofs.Tryz.func190 λK=> ?_
 refine Z2 ?_
 have ⟨r1,h2,H3⟩:=bnd H
 refine Lk [] [0] (jq h2) λ⟨⟩=> ?_
 refine Z0 ?_
 cases H3
 exact Eo1 () [] []
theorem ng {s_:aN} {r:Int} (H:fL s_=some r):CT G 148 [.agg (oG s_ A0 C0 A1 C1).toArray] [] [Im.sl aU A0 C0 s_.rows,Im.sl aF A1 C1 s_.begun] (λ_:Unit=> .int .i64 r) (λh=>[]) (λh=>[]):=by
 delta fL at H
 refine Cf Go.Proofs.Tryz.func148 λK=> ?_
 refine Z1 ?_
 refine Lx λg1=> ?_
 refine Z2 ?_
 have ⟨r2,h3,H4⟩:=bnd H
 refine Lk [] [0,1] (na h3) λ⟨⟩=> ?_
 refine Z0 ?_
 refine Tb H4 (λH6=> ?_) λH6=> ?_
 ·refine Z1 ?_
  cases H6
  exact Eo1 () [] []
 refine Y2 ?_
 have ⟨l,m,n⟩:=bnd H6
 refine Tj0 [(14,.bool l)] [1] [] [0] ?_ ?_
 ·refine Z0 ?_
  have ⟨J,o,p⟩:=bnd m
  refine Lk [] [0,1] (q8 o) λ⟨⟩=> ?_
  refine Z0 ?_
  refine Lw 10 p (λa=> ?_) λa=> ?_
  ·refine Z0 ?_
   cases a
   exact Eg0 [0] 0
  refine Z0 ?_
  have ⟨M,q,s⟩:=bnd a
  refine Lk [] [1] (iI q) λ⟨⟩=> ?_
  refine Z0 ?_
  cases s
  exact Eg0 [0] 0
 refine Tb n (λb=> ?_) λb=> ?_
 ·refine Z1 ?_
  cases b
  exact Eo1 () [] []
 refine Z2 ?_
 have ⟨c,t,i⟩:=bnd b
 refine Tj (η:=Unit×Unit) (λh=>c = .inl h.1) (λ_=>[]) [] (λ_=>[]) [0] (λ_=>[]) ?_ ?_
 ·refine Yl0 ?_
  refine Tq (η:=Unit) (λj h=>[(18,.int .i64 j)]) [1,16,17] (λ_ _=>[]) [0] (λ_ _=>[]) () [0] [] t ?_
  rintro k_ j ⟨⟩ u v w k
  refine Y2 ?_
  refine Tb v (λd=> ?_) λd=> ?_
  ·refine Z1 ?_
   refine Zl ?_
   refine Z1 ?_
   have ⟨N,e,x⟩:=bnd d
   refine L.addr 0 rfl (bH e) λO P y=> ?_
   subst y
   refine Ly (Yl.ia e rfl rfl rfl rfl rfl rfl) ?_
   refine L.el 0 rfl (aI e).2 ?_
   rintro ⟨Q,R⟩
   refine Lc 0 0 ?_
   refine Ll λS=> ?_
   refine Lt 0 ?_
   refine Y1 ?_
   have ⟨z,A,B⟩:=bnd x
   refine Tj0 [(32,.bool z)] [1,16,17,18] [] [0,1] ?_ ?_
   ·refine Z0 ?_
    refine Lw 28 A (λf=> ?_) λf=> ?_
    ·refine Z0 ?_
     cases f
     exact Eg0 [0,0] 0
    refine Z0 ?_
    have ⟨U,C,F⟩:=bnd f
    refine Lk [] [1] (iJ C) λ⟨⟩=> ?_
    refine Z0 ?_
    cases F
    exact Eg0 [0,0] 0
   refine Tb B (λg=> ?_) λg=> ?_
   ·refine Z1 ?_
    obtain ⟨V,hz,I⟩:=cK g
    subst u
    have hb:=k _ rfl
    subst c
    obtain rfl:=(sm i).symm
    refine Z0 ?_
    cases I
    exact Eo1 () [] []
   refine Z0 ?_
   cases g
   exact Eg (_,()) (w _ rfl) [1] [] 2
  refine Z0 ?_
  cases d
  have hb:=k _ rfl
  subst c
  exact Eg (_,()) rfl [0] [] 0
 rintro ⟨W,⟨⟩⟩ hy
 subst hy
 refine Z1 ?_
 cases i
 exact Eo1 () [] []
theorem re {in_:aG} {r:Int×aG} (H:iR in_=some r):CT G 193 [.pointer (some ⟨N0,0,none⟩)] [Ch.box N0 177 [.string in_.s,.int .i64 in_.e]] [] (λ_:Unit=> .int .i64 r.1) (λh=>[Ch.box N0 177 [.string r.2.s,.int .i64 r.2.e]]) (λh=>[]):=by
 delta iR at H
 refine Cf Go.Proofs.Tryz.func193 λK=> ?_
 refine Z2 ?_
 have ⟨r1,h2,H3⟩:=bnd H
 refine Lk [0] [] (dA h2) λ⟨⟩=> ?_
 refine Z2 ?_
 refine Tb H3 (λH8=> ?_) λH8=> ?_
 ·refine Z1 ?_
  have ⟨r9,a,b⟩:=bnd H8
  refine Lk [0] [] (eR a) λ⟨⟩=> ?_
  refine Z1 ?_
  cases b
  exact Eo1 () [0] []
 refine Z1 ?_
 cases H8
 exact Eo1 () [0] []
theorem zj {in_:aG} {left:Int} {r:Int×aO×Bool×aG} (H:lj in_ left=some r):CT G 215 [.pointer (some ⟨N0,0,none⟩),.int .i64 left] [Ch.box N0 177 [.string in_.s,.int .i64 in_.e]] [] (λ_:Unit=> .tuple #[.int .i64 r.1,.agg #[.int .i32 r.2.1.rune,.int .i64 r.2.1.bW,.int .i64 r.2.1.part],.bool r.2.2.1]) (λh=>[Ch.box N0 177 [.string r.2.2.2.s,.int .i64 r.2.2.2.e]]) (λh=>[]):=by
 delta lj at H
 refine Cf Go.Proofs.Tryz.func215 λK=> ?_
 refine Z1 ?_
 refine Ll λg1=> ?_
 refine Z1 ?_
 have ⟨r2,h3,H4⟩:=bnd H
 refine Lk [1] [] (dA h3) λ⟨⟩=> ?_
 refine Y2 ?_
 have ⟨e8,H9,n⟩:=bnd H4
 refine Tj0 [(19,.bool e8)] [0,5,7] [] [0,1] ?_ ?_
 ·refine Z0 ?_
  refine Lw 15 H9 (λd=> ?_) λd=> ?_
  ·refine Z0 ?_
   cases d
   exact Eg0 [0,0] 0
  refine Z0 ?_
  cases d
  exact Eg0 [0,0] 0
 have ⟨l,o,p⟩:=bnd n
 refine Tj0 [] [0,5,7] [Ch.box N0 177 [.string l.s,.int .i64 l.e]] [1] ?_ ?_
 ·refine Tb o (λf=> ?_) λf=> ?_
  ·refine Z0 ?_
   have ⟨V,q,t⟩:=bnd f
   refine Lk [0] [] (eR q) λ⟨⟩=> ?_
   refine Z0 ?_
   cases t
   exact Eg0 [0,0] 0
  refine Z0 ?_
  cases f
  exact Eg0 [0,0] 0
 refine Z1 ?_
 refine Ll λg=> ?_
 refine Lt 0 ?_
 refine Z2 ?_
 have ⟨b,u,v⟩:=bnd p
 refine Tj0 [] [0,5,7,8] [Ch.box g 316 [.int .i64 b.1.e0,.int .i64 b.1.e1,.int .i64 b.1.e2],Ch.box N0 177 [.string b.2.s,.int .i64 b.2.e]] [2] ?_ ?_
 ·refine Yl0 ?_
  refine Tq (η:=Unit) (λa h=>[(24,.int .i64 a.2.2)]) [0,5,7,8,23] (λa h=>[Ch.box g 316 [.int .i64 a.1.e0,.int .i64 a.1.e1,.int .i64 a.1.e2],Ch.box N0 177 [.string a.2.1.s,.int .i64 a.2.1.e]]) [2] (λ_ _=>[]) () [0,0,0] [] u ?_
  rintro k_ a ⟨⟩ W w x y
  refine Y2 ?_
  refine Tb w (λi=> ?_) λi=> ?_
  ·refine Y1 ?_
   have ⟨c,z,A⟩:=bnd i
   refine Tj0 [] [0,5,7,8,23,24] [Ch.box g 316 [.int .i64 c.1.e0,.int .i64 c.1.e1,.int .i64 c.1.e2],Ch.box N0 177 [.string c.2.s,.int .i64 c.2.e]] [2] ?_ ?_
   ·refine Zl ?_
    refine Z1 ?_
    have ⟨X,B,C⟩:=bnd z
    refine Ly (Yl.xa B rfl rfl rfl rfl rfl rfl rfl rfl rfl) ?_
    refine Z1 ?_
    have ⟨Y,F,I⟩:=bnd C
    refine Lk [1] [] (dA F) λ⟨⟩=> ?_
    have ⟨_,m,J⟩:=bnd I
    refine Ly (Yl.xp m rfl rfl rfl rfl rfl rfl rfl) ?_
    refine La [1] [] (Ac.sx m [a.1.e0,a.1.e1,a.1.e2] rfl rfl rfl rfl rfl rfl rfl rfl) λ_=> ?_
    refine Z1 ?_
    have ⟨_,M,N⟩:=bnd J
    refine Ly (Yl.xp M rfl rfl rfl rfl rfl rfl rfl) ?_
    have ⟨Z,O,P⟩:=bnd N
    refine Ly (Yl.xl 0 O rfl rfl rfl rfl rfl rfl) ?_
    refine Z0 ?_
    refine Tb P (λj=> ?_) λj=> ?_
    ·refine Z0 ?_
     have ⟨aa,Q,R⟩:=bnd j
     refine Lk [1] [] (eR Q) λ⟨⟩=> ?_
     refine Z0 ?_
     cases R
     exact Eg0 [1,0,0] 0
    refine Z0 ?_
    cases j
    exact Eg0 [0,0,0] 0
   refine Z0 ?_
   cases A
   exact Eg (_,()) (x _ rfl) [0,0,0] [] 0
  refine Z0 ?_
  cases i
  have hb:=y _ rfl
  subst b
  exact Eg0 [0,0,0] 0
 refine Z2 ?_
 have ⟨ab,S,U⟩:=bnd v
 refine Lk [1] [] (k8 S) λ⟨⟩=> ?_
 refine Z0 ?_
 refine Tb U (λk=> ?_) λk=> ?_
 ·refine Z1 ?_
  refine Lt 2 ?_
  refine Z0 ?_
  cases k
  exact Eo () [1] [] (.tmp rfl (.cell 0 rfl rfl rfl (.tmp rfl .nil)))
 refine Y1 ?_
 refine Td [10] [0,0,0] mo ?_
 refine Dq 0 ?_
 refine Dq 1 ?_
 refine Db 2 1 ?_
 refine Dq 3 ?_
 refine Dq 4 ?_
 refine Db 5 1 ?_
 refine Dq 6 ?_
 refine Db 7 1 ?_
 refine Dq 8 ?_
 refine Dq 9 ?_
 refine Dt 2 ?_
 refine Dq 11 ?_
 refine Dn ?_
 refine Z0 ?_
 cases k
 exact Eo () [1] [] (.tmp rfl (.cell 0 rfl rfl rfl (.tmp rfl .nil)))
theorem wF {x_:Int} {y:Int} {r:Int×Int} (H:me x_ y=some r):CT G 224 [.int .u64 x_,.int .u64 y] [] [] (λ_:Unit=> .tuple #[.int .u64 r.1,.int .u64 r.2]) (λh=>[]) (λh=>[]):=by
 delta me at H
 refine Cf Go.Proofs.Tryz.func224 λK=> ?_
 refine Z3 ?_
 refine Z3 ?_
 refine Z3 ?_
 refine Z3 ?_
 cases H
 exact Eo () [] [] (.tmp rfl (.tmp rfl .nil))
theorem zl {x_:Int} {y:Int} {r:Int×Int} (H:mD x_ y=some r):CT G 220 [.int .u64 x_,.int .u64 y] [] [] (λ_:Unit=> .tuple #[.int .u64 r.1,.int .u64 r.2]) (λh=>[]) (λh=>[]):=by
 delta mD at H
 refine Cf Go.Proofs.Tryz.func220 λK=> ?_
 refine Y2 ?_
 refine T.cond rfl (λh=>nomatch h) (λ_=> ?_)
 refine Z1 ?_
 have ⟨r1,h2,H3⟩:=bnd H
 refine Lk [] [] (wF h2) λ⟨⟩=> ?_
 refine Z1 ?_
 cases H3
 exact Eo () [] [] (.tmp rfl (.tmp rfl .nil))
theorem ns {x_:List aO} {count:Int} {r:(List aO)} (H:dY x_ count=some r):CT G 216 [.slice A0 x_.length C0,.int .i64 count] [] [Im.sl cC A0 C0 x_] (λh:(Option Addr×Nat)=> .slice h.1 r.length h.2) (λh=>[Ch.arr cC 222 h.1 h.2 r]) (λh=>[]):=by
 delta dY at H
 refine Cf Go.Proofs.Tryz.func216 λK=> ?_
 refine Z3 ?_
 refine Tb H (λH2=> ?_) λH2=> ?_
 ·cases H2
 refine Z1 ?_
 have ⟨r3,h4,H5⟩:=bnd H2
 refine Lk [] [] (zl h4) λ⟨⟩=> ?_
 refine Y2 ?_
 have ⟨e9,m,n⟩:=bnd H5
 refine Tj0 [(26,.bool e9)] [0,6] [] [] ?_ ?_
 ·refine Z0 ?_
  refine Lw 23 m (λg=> ?_) λg=> ?_
  ·refine Z0 ?_
   cases g
   exact Eg0 [] 0
  refine Z0 ?_
  cases g
  exact Eg0 [] 0
 refine Tb n (λi=> ?_) λi=> ?_
 ·cases i
 refine Z1 ?_
 have ⟨_,o,p⟩:=bnd i
 refine La [] [] (Ac.mk (ty:=cC) (aO.mk 0 0 0) () o (λ_ _ f hf=>by cases hf) rfl rfl rfl rfl rfl rfl rfl) λq=> ?_
 refine Z1 ?_
 refine La [0] [0] (Ac.cp (ty:=cC) rfl rfl rfl rfl rfl rfl rfl) λ_=> ?_
 refine L.sl 7 (k':=(cpy (List.replicate (IntKind.i64.wrap r3.2).toNat (aO.mk 0 0 0)) x_).length) (pH ..) rfl ?_
 refine Y1 ?_
 have ⟨j,s,t⟩:=bnd p
 refine Tjh (η:=(Option Addr×Nat)) (λh=>(λd e=>[(7,.slice d j.length e)]) h.1 h.2) [] (λh=>(λd e=>[Ch.arr cC 222 d e j]) h.1 h.2) [] (λ_=>[]) ?_ ?_
 ·refine Yl0 ?_
  refine Tq (η:=(Option Addr×Nat)) (λa h=>(λb c=>[(7,.slice b a.1.length c),(8,.int .i64 a.2)]) h.1 h.2) [] (λa h=>(λb c=>[Ch.arr cC 222 b c a.1]) h.1 h.2) [] (λ_ _=>[]) ((some ⟨q,0,none⟩),(IntKind.i64.wrap r3.2).toNat) [0] [] s ?_
  rintro k_ a ⟨b,c⟩ C u v w
  refine Z2 ?_
  refine Tb u (λk=> ?_) λk=> ?_
  ·refine Yl0 ?_
   refine Td [] [] mo ?_
   refine Dq 0 ?_
   refine Dq 1 ?_
   refine Dq 2 ?_
   have ⟨_,l,x⟩:=bnd k
   refine D.cap 0 rfl λy=> ?_
   refine Dy 3 (Yl.sv (ty:=cC) y l rfl rfl rfl rfl rfl rfl rfl rfl) ?_
   refine Dq 4 ?_
   refine Dq 5 ?_
   have ⟨_,z,A⟩:=bnd x
   refine D.cap 0 rfl λB=> ?_
   refine Dy 6 (Yl.sv (ty:=cC) B z rfl rfl rfl rfl rfl rfl rfl rfl) ?_
   refine Da [0] [] rfl rfl (Ac.cps (ty:=cC) l rfl rfl rfl rfl rfl rfl rfl) λ_=> ?_
   refine Dq 8 ?_
   refine Dq 9 ?_
   refine Dn ?_
   refine E.sl 7 (k':=(uz a.1 a.2.toNat).length) (BE l) rfl ?_
   refine Z0 ?_
   cases A
   exact Eg (_,(b,c)) (v _ rfl) [0] [] 0
  refine Z0 ?_
  cases k
  have hb:=w _ rfl
  subst j
  exact Eg (b,c) trivial [0] [] 0
 rintro ⟨d,e⟩
 refine Z1 ?_
 cases t
 exact Eo1 (d,e) [0] []
theorem uu {in_:aG} {w:Int} {r:aY×aG} (H:iB in_ w=some r):CT G 194 [.pointer (some ⟨N0,0,none⟩),.int .i64 w] [Ch.box N0 177 [.string in_.s,.int .i64 in_.e]] [] (λh:(Option Addr×Nat)=> .agg #[.slice h.1 r.1.cells.length h.2,.bool r.1.wrapped]) (λh=>[Ch.box N0 177 [.string r.2.s,.int .i64 r.2.e]]) (λh=>[Im.sl cC h.1 h.2 r.1.cells]):=by
 delta iB at H
 refine Cf Go.Proofs.Tryz.func194 λK=> ?_
 refine Z1 ?_
 refine Ll λg1=> ?_
 refine Z1 ?_
 have ⟨r2,h3,H4⟩:=bnd H
 refine Lk [1] [] (dA h3) λ⟨⟩=> ?_
 refine Z2 ?_
 have ⟨x,y,z⟩:=bnd H4
 refine Tj0 [] [0,1,4,5] [Ch.box N0 177 [.string x.s,.int .i64 x.e]] [1] ?_ ?_
 ·refine Tb y (λj=> ?_) λj=> ?_
  ·refine Z0 ?_
   have ⟨al,B,C⟩:=bnd j
   refine Lk [0] [] (eR B) λ⟨⟩=> ?_
   refine Z0 ?_
   cases C
   exact Eg0 [0,0] 0
  refine Z0 ?_
  cases j
  exact Eg0 [0,0] 0
 refine Y2 ?_
 have ⟨d,F,I⟩:=bnd z
 refine Tjh (η:=(Option Addr×Nat)) (λh=>(λg i=>[(6,.slice g d.1.length i)]) h.1 h.2) [0,4,5] (λh=>(λg i=>[Ch.arr cC 222 g i d.1,Ch.box N0 177 [.string d.2.s,.int .i64 d.2.e]]) h.1 h.2) [1] (λ_=>[]) ?_ ?_
 ·refine Yl0 ?_
  refine T.fZ cC 222 ?_
  refine Tq (η:=(Option Addr×Nat)) (λa h=>(λb c=>[(6,.slice b a.2.length c)]) h.1 h.2) [0,1,4,5] (λa h=>(λb c=>[Ch.arr cC 222 b c a.2,Ch.box N0 177 [.string a.1.s,.int .i64 a.1.e]]) h.1 h.2) [2] (λ_ _=>[]) (none,0) [0,0,0] [] F ?_
  rintro k_ a ⟨b,c⟩ am J k M
  refine Y2 ?_
  have ⟨N,O,P⟩:=bnd J
  refine Tj0 [(24,.bool N)] [0,1,4,5,6] [] [1,2,0] ?_ ?_
  ·refine Z0 ?_
   refine Lw 20 O (λl=> ?_) λl=> ?_
   ·refine Z0 ?_
    have ⟨an,Q,R⟩:=bnd l
    refine Lk [1] [] (k8 Q) λ⟨⟩=> ?_
    refine Z0 ?_
    cases R
    exact Eg0 [0,1,0] 0
   refine Z0 ?_
   cases l
   exact Eg0 [1,1,0] 0
  refine Tb P (λm=> ?_) λm=> ?_
  ·refine Zl ?_
   refine Z1 ?_
   have ⟨S,U,V⟩:=bnd m
   refine Lk [0] [] (zj U) λ⟨⟩=> ?_
   refine Z0 ?_
   refine Ll λao=> ?_
   refine Z0 ?_
   refine Lt 0 ?_
   refine Zl ?_
   refine Z1 ?_
   refine Tb V (λn=> ?_) λn=> ?_
   ·refine Z0 ?_
    cases n
    exact Eg (_,(b,c)) (k _ rfl) [3,1,1] [] 0
   refine Y1 ?_
   have ⟨W,X,Y⟩:=bnd n
   refine Tj0 [(44,.bool W)] [0,1,4,5,6,7,8] [] [0,1,2,3] ?_ ?_
   ·refine Td [] [0,0,0,0] mo ?_
    refine Dq 0 ?_
    refine Dq 1 ?_
    refine Dq 2 ?_
    refine Dq 3 ?_
    refine D.cs 48 X rfl (λhc o=> ?_) (λhc o=> ?_)
    ·refine Dq 4 ?_
     refine Dq 5 ?_
     refine Dq 6 ?_
     refine Dq 7 ?_
     have ⟨p,q,Z⟩:=bnd o
     refine D.iw 3 rfl (bH q) λaq aa=> ?_
     subst aa
     refine Dy 8 (Yl.ia q rfl rfl rfl rfl rfl rfl) ?_
     refine Dy 9 (Yl.lo (v:= .agg #[.int .i32 p.rune,.int .i64 p.bW,.int .i64 p.part]) 3 ((IntKind.i64.wrap ((a.2.length:Int) - 1)).toNat) 0 (aI q).2 rfl rfl rfl rfl (λ_=>rfl)) ?_
     refine Db 10 0 ?_
     refine Dq 11 ?_
     refine Dq 12 ?_
     refine Dq 13 ?_
     refine Dn ?_
     cases Z
     exact Eg0 [0,0,0,0] 0
    refine Ds 4 ?_
    refine Ds 5 ?_
    refine Ds 6 ?_
    refine Ds 7 ?_
    refine Ds 8 ?_
    refine Ds 9 ?_
    refine Ds 10 ?_
    refine Ds 11 ?_
    refine Dq 12 ?_
    refine Dq 13 ?_
    refine Dn ?_
    cases o
    exact Eg0 [0,0,0,0] 0
   refine Tb Y (λt=> ?_) λt=> ?_
   ·refine Z0 ?_
    have ⟨ar,ab,ac⟩:=bnd t
    refine Lk [1] [] (eR ab) λ⟨⟩=> ?_
    refine Z0 ?_
    cases ac
    exact Eg (_,(b,c)) (k _ rfl) [3,0,1] [] 0
   refine Z0 ?_
   refine La [] [] (Ac.bs (ty:=cC) (xs:=[S.2.1]) (.cons () [] rfl .nil) rfl rfl rfl rfl rfl rfl rfl) λau=> ?_
   refine Z0 ?_
   refine L.frz 0 rfl ?_
   have ⟨av,ad,ae⟩:=bnd t
   refine Lk [] [0] (ns ad) λ⟨aw,ax⟩=> ?_
   refine L.frz 0 rfl ?_
   have ⟨_,af,ag⟩:=bnd ae
   refine La [3] [0] (Ac.ap (ty:=cC) af rfl rfl rfl rfl rfl rfl rfl) ?_
   rintro ⟨ah,ai⟩
   refine Z0 ?_
   cases ag
   exact Eg (_,(ah,ai)) (k _ rfl) [0,1,1] [] 2
  refine Z0 ?_
  cases m
  have hb:=M _ rfl
  subst d
  exact Eg (b,c) trivial [2,0,0] [] 0
 rintro ⟨g,i⟩
 refine Z2 ?_
 have ⟨ay,aj,ak⟩:=bnd I
 refine Lk [1] [] (k8 aj) λ⟨⟩=> ?_
 refine Z0 ?_
 refine Tb ak (λu=> ?_) λu=> ?_
 ·refine Z1 ?_
  refine Lt 2 ?_
  refine Z0 ?_
  refine E.dD [Im.sl cC none 0 []] (λA w _ _ f hf=>by rw [List.mem_singleton.1 hf]; exact Im.bV A w) ?_
  cases u
  exact Eo (none,0) [1] [0] (.cell 0 rfl rfl rfl .nil)
 refine Z1 ?_
 refine Lt 2 ?_
 refine Z0 ?_
 refine E.frz 2 rfl ?_
 cases u
 exact Eo (g,i) [1] [0] (.cell 0 rfl rfl rfl .nil)
theorem wG {s_:ByteArray} {r:bT×Int} (H:kL s_=some r):CT G 149 [.string s_] [] [] (λh:(Option Addr×Nat)×Option Nat=> .tuple #[.agg (xY r.1 none 0 h.1.1 h.1.2 h.2).toArray,.int .i64 r.2]) (λh=>[Ch.mp aU true h.2 r.1.rows]) (λh=>[Im.sl aU none 0 r.1.to.rows,Im.sl aF h.1.1 h.1.2 r.1.to.begun]):=by
 delta kL at H
 refine Cf Go.Proofs.Tryz.func149 λK=> ?_
 refine Z1 ?_
 refine Ll λg1=> ?_
 refine Z1 ?_
 have ⟨r2,h3,H4⟩:=bnd H
 refine Lk [] [] (ur h3) λg5=> ?_
 refine Z1 ?_
 have ⟨r6,h7,H8⟩:=bnd H4
 refine Lk [0] [] (dA h7) λ⟨⟩=> ?_
 refine La [] [] (Ac.mkm (ty:=aU) (ag:=true) rfl rfl rfl) λg9=> ?_
 refine Z0 ?_
 refine Ll λn=> ?_
 refine Lt 0 ?_
 refine Z1 ?_
 have ⟨a1,p,q⟩:=bnd H8
 refine Lk [2] [] (dA p) λ⟨⟩=> ?_
 refine Z0 ?_
 have ⟨a2,t,u⟩:=bnd q
 refine Lk [0] [] (re t) λ⟨⟩=> ?_
 refine Z0 ?_
 have ⟨a3,v,x⟩:=bnd u
 refine Lk [0] [] (re v) λ⟨⟩=> ?_
 refine Z0 ?_
 have ⟨a4,y,z⟩:=bnd x
 refine Lk [0] [] (dA y) λ⟨⟩=> ?_
 refine Z0 ?_
 have ⟨a5,B,C⟩:=bnd z
 refine Lk [0] [] (dA B) λ⟨⟩=> ?_
 refine Z0 ?_
 have ⟨a6,F,I⟩:=bnd C
 refine Lk [0] [] (pB F) λ⟨⟩=> ?_
 refine Z0 ?_
 have ⟨a7,J,M⟩:=bnd I
 refine Lk [0] [] (dA J) λ⟨⟩=> ?_
 refine Z0 ?_
 have ⟨a8,N,O⟩:=bnd M
 refine Lk [0] [] (dA N) λ⟨⟩=> ?_
 refine Z0 ?_
 have ⟨a9,P,Q⟩:=bnd O
 refine Lk [0] [] (sy P) λ⟨d,g⟩=> ?_
 refine Z0 ?_
 refine Lt 2 ?_
 refine Z3 ?_
 have ⟨ba,R,S⟩:=bnd Q
 refine Lk [2] [] (dA R) λ⟨⟩=> ?_
 refine Z0 ?_
 have ⟨b,U,V⟩:=bnd S
 refine Tjh (η:=Option Nat) (λ_=>[]) [2,4,5] (λh=>(λi=>[Ch.arr aF 149 d g b.2.to.begun,Ch.mp aU true i b.2.rows,Ch.box g5 177 [.string b.1.s,.int .i64 b.1.e],Ch.box n 248 (Az b.2 d g i)]) h) [4] (λ_=>[]) ?_ ?_
 ·refine Yl0 ?_
  refine Tq (η:=Option Nat) (λa h=>(λc=>[(6,.int .i64 a.2.2.1),(7,.int .i64 a.2.2.2)]) h) [2,4,5] (λa h=>(λc=>[Ch.arr aF 149 d g a.1.to.begun,Ch.mp aU true c a.1.rows,Ch.box g5 177 [.string a.2.1.s,.int .i64 a.2.1.e],Ch.box n 248 (Az a.1 d g c)]) h) [4] (λ_ _=>[]) (some g9) [2,2,0,0,0] [] U ?_
  rintro k_ a c bb W X Y
  refine Y2 ?_
  have ⟨Z,aa,ac⟩:=bnd W
  refine Tj0 [(43,.bool Z)] [2,4,5,6,7] [] [2,3,4,0,1] ?_ ?_
  ·refine Z0 ?_
   refine Lw 39 aa (λj=> ?_) λj=> ?_
   ·refine Z0 ?_
    have ⟨bc,ad,ae⟩:=bnd j
    refine Lk [2] [] (k8 ad) λ⟨⟩=> ?_
    refine Z0 ?_
    cases ae
    exact Eg0 [0,2,2,0,0] 0
   refine Z0 ?_
   cases j
   exact Eg0 [2,2,2,0,0] 0
  refine Tb ac (λk=> ?_) λk=> ?_
  ·refine Z1 ?_
   refine Zl ?_
   refine Z1 ?_
   have ⟨af,ah,ai⟩:=bnd k
   refine Lk [0] [] (dA ah) λ⟨⟩=> ?_
   refine Y2 ?_
   have ⟨aj,ak,al⟩:=bnd ai
   refine Tj0 [(57,.bool aj)] [2,4,5,7,8] [] [0,1,2,3,4] ?_ ?_
   ·refine Z0 ?_
    refine Lw 51 ak (λl=> ?_) λl=> ?_
    ·refine Z0 ?_
     cases l
     exact Eg0 [0,0,0,0,0] 0
    refine Z0 ?_
    cases l
    exact Eg0 [0,0,0,0,0] 0
   have ⟨o,am,an⟩:=bnd al
   refine Tj0 [] [2,4,5,7,8] [Ch.box g5 177 [.string o.s,.int .i64 o.e]] [1,2,3,4] ?_ ?_
   ·refine Tb am (λm=> ?_) λm=> ?_
    ·refine Z0 ?_
     have ⟨bd,ao,ap⟩:=bnd m
     refine Lk [0] [] (eR ao) λ⟨⟩=> ?_
     refine Z0 ?_
     cases ap
     exact Eg0 [0,0,0,0,0] 0
    refine Z0 ?_
    cases m
    exact Eg0 [0,0,0,0,0] 0
   refine Z1 ?_
   refine Td [] [1,1,1] mo ?_
   refine Dq 0 ?_
   refine Db 1 0 ?_
   refine Dq 2 ?_
   refine Dq 3 ?_
   refine Dq 4 ?_
   refine Dq 5 ?_
   refine Db 6 0 ?_
   have ⟨aq,ar,au⟩:=bnd an
   refine Dk [0] [] (uu ar) λ⟨av,aw⟩=> ?_
   have ⟨_,ax,ay⟩:=bnd au
   refine Da [1] [0] rfl rfl (Ac.mu (ty:=aU) (ag:=true) af.1 aq.1 (av,aw) ax (.inl rfl) rfl rfl rfl rfl rfl rfl rfl rfl) λ_=> ?_
   refine Dn ?_
   refine Z0 ?_
   cases ay
   exact Eg (_,c) (X _ rfl) [2,2,2,0,0] [] 1
  refine Z0 ?_
  cases k
  have hb:=Y _ rfl
  subst b
  exact Eg c trivial [3,3,0,0,0] [] 0
 rintro i
 refine Y1 ?_
 refine Td [3] [0,0,0,0,0] mo ?_
 refine Db 0 3 ?_
 refine Dq 1 ?_
 have ⟨be,az,a0⟩:=bnd V
 refine D.one rfl rfl rfl (Dp.ab [2] [] [1,1,0,0,0] (Ac.call (oc az) rfl rfl rfl rfl) rfl rfl rfl rfl rfl rfl (λ_=>rfl) ?_)
 rintro ⟨⟩
 refine Dt 4 ?_
 refine Dq 4 ?_
 refine Dn ?_
 refine Z0 ?_
 refine E.dD [Im.sl aU none 0 []] (λA w _ _ f hf=>by rw [List.mem_singleton.1 hf]; exact Im.bV A w) ?_
 refine E.frz 1 rfl ?_
 cases a0
 exact Eo ((d,g),i) [1] [1,0] (.cell 0 rfl rfl rfl (.tmp rfl .nil))
theorem x9 {l:List aM} {r:ByteArray} (H:lF l=some r):CT G 217 [.slice A0 l.length C0] [] [Im.sl aF A0 C0 l] (λ_:Unit=> .string r) (λh=>[]) (λh=>[]):=by
 delta lF at H
 refine Cf Go.Proofs.Tryz.func217 λK=> ?_
 refine Z2 ?_
 refine Ll λg1=> ?_
 refine Z1 ?_
 refine La [] [] (Ac.bs (ty:=(Ty.int .i64)) (xs:=[(l.length:Int)]) (.cons () [] rfl .nil) rfl rfl rfl rfl rfl rfl rfl) λg2=> ?_
 refine L.fZ (Ty.int .u8) 5 ?_
 refine L.frz 1 rfl ?_
 have ⟨r6,h7,H8⟩:=bnd H
 refine Lk [1,0] [0] (fV h7) λ⟨a9,m⟩=> ?_
 refine Z2 ?_
 have ⟨e,n,o⟩:=bnd H8
 refine Tjh (η:=(Option Addr×Nat)) (λ_=>[]) [3] (λh=>(λf g=>[Ch.arr (Ty.int .u8) 5 f g e.b,Ch.box g1 224 [.slice f e.b.length g]]) h.1 h.2) [] (λ_=>[]) ?_ ?_
 ·refine Yl0 ?_
  refine Tq (η:=(Option Addr×Nat)) (λa h=>(λc d=>[(12,.int .i64 a.2)]) h.1 h.2) [3,10,11] (λa h=>(λc d=>[Ch.arr (Ty.int .u8) 5 c d a.1.b,Ch.box g1 224 [.slice c a.1.b.length d]]) h.1 h.2) [] (λ_ _=>[]) (a9,m) [1,0] [] n ?_
  rintro k_ a ⟨c,d⟩ B p q s
  refine Y2 ?_
  refine Tb p (λi=> ?_) λi=> ?_
  ·refine Z1 ?_
   refine Zl ?_
   refine Z1 ?_
   have ⟨k,j,t⟩:=bnd i
   refine L.addr 1 rfl (bH j) λC F u=> ?_
   subst u
   refine Ly (Yl.ia j rfl rfl rfl rfl rfl rfl) ?_
   refine L.el 1 rfl (aI j).2 ?_
   rintro _
   refine Lc 0 0 ?_
   refine Ll λI=> ?_
   refine Lt 0 ?_
   refine Z0 ?_
   refine La [] [] (Ac.bs (ty:=(Ty.int .i64)) (xs:=[(IntKind.i64.wrap k.rune),k.bW]) (.cons () [] rfl (.cons () [] rfl .nil)) rfl rfl rfl rfl rfl rfl rfl) λJ=> ?_
   refine L.frz 0 rfl ?_
   have ⟨M,v,w⟩:=bnd t
   refine Lk [2,1] [0] (fV v) λ⟨x,y⟩=> ?_
   refine Z0 ?_
   cases w
   exact Eg (_,(x,y)) (q _ rfl) [1,0] [] 2
  refine Z0 ?_
  cases i
  have hb:=s _ rfl
  subst e
  exact Eg (c,d) trivial [0,0] [] 0
 rintro ⟨f,g⟩
 refine Z1 ?_
 have ⟨N,z,A⟩:=bnd o
 refine Lk [1,0] [] (ku z) λ⟨⟩=> ?_
 refine Z0 ?_
 cases A
 exact Eo1 () [] []
theorem zm {is:Bool} {r:Int} (H:n0 is=some r):CT G 221 [.bool is] [] [] (λ_:Unit=> .int .i64 r) (λh=>[]) (λh=>[]):=by
 delta n0 at H
 refine Cf Go.Proofs.Tryz.func221 λK=> ?_
 refine Z3 ?_
 refine Tb H (λH2=> ?_) λH2=> ?_
 ·refine Z1 ?_
  cases H2
  exact Eo1 () [] []
 refine Z1 ?_
 cases H2
 exact Eo1 () [] []
theorem ya {l:List aO} {r:(List aO)} (H:mS l=some r):CT G 222 [.slice A0 l.length C0] [] [Im.sl cC A0 C0 l] (λh:Nat=> .func (.func 225) #[] #[.pointer (some ⟨h,0,none⟩)]) (λh=>[Ch.box h 142 [.slice A0 r.length C0]]) (λh=>[Im.sl cC A0 C0 r]):=by
 delta mS at H
 refine Cf Go.Proofs.Tryz.func222 λK=> ?_
 refine Z1 ?_
 refine Lx λg1=> ?_
 refine Z1 ?_
 cases H
 exact Eo1 g1 [0] [0]
theorem uH {σ η:Type} {Y:σ->(Int×aO)->Option (σ×Bool)} {y0:σ} {x1:List aO} {yl:Nat} {C:σ->η->Ch} (hY: ∀ s (h:η) (x:Int×aO) (t:Unit) z,Y s x=some z->YT G yl [.int .i64 x.1,.agg #[.int .i32 x.2.rune,.int .i64 x.2.bW,.int .i64 x.2.part]] [C s h] [] (λ_:η=> .bool z.2) (λh2=>[C z.1 h2]) (λ_=>[])) (h0:η) (g_1:Nat) (a_1_0:Option Addr) (c_1_0:Nat) {r:σ×(List aO)} (H:lA Y y0 x1=some r):CT G 225 [.func (.yield yl) #[] #[],.pointer (some ⟨g_1,0,none⟩)] [C y0 h0,Ch.box g_1 142 [.slice a_1_0 x1.length c_1_0]] [Im.sl cC a_1_0 c_1_0 x1] (λh:η×(Option Addr×Nat)=> .tuple #[]) (λh=>[C r.1 h.1,Ch.box g_1 142 [.slice h.2.1 r.2.length h.2.2]]) (λh=>[Im.sl cC h.2.1 h.2.2 r.2]):=by
  delta lA at H
  refine Cf Go.Proofs.Tryz.func225 λK=> ?_
  have ⟨j,B,q⟩:=bnd H
  refine T.ou (η:=((List aO)×σ)×((Option Addr×Nat)×η)) (λh=>j = .inl h.1) (λh=>(λa=>(λb c e=>[]) h.2.1.1 h.2.1.2 h.2.2) h.1) (λh=>(λa=>(λb c e=>[C a.2 e,Ch.box g_1 142 [.slice b a.1.length c]]) h.2.1.1 h.2.1.2 h.2.2) h.1) (λh=>(λa=>(λb c e=>[Im.sl cC b c a.1,Im.sl cC a_1_0 c_1_0 x1]) h.2.1.1 h.2.1.2 h.2.2) h.1) ?_ ?_
  ·refine Yl0 ?_
   refine Tq (η:=(Option Addr×Nat)×η) (λ_ _=>[]) [0,1] (λf h=>(λg d i=>[C f.2 i,Ch.box g_1 142 [.slice g f.1.length d]]) h.1.1 h.1.2 h.2) [] (λf h=>(λg d i=>[Im.sl cC g d f.1]) h.1.1 h.1.2 h.2) ((a_1_0,c_1_0),h0) [0,0] [0] B ?_
   rintro k_ f ⟨⟨g,d⟩,i⟩ F I J u
   refine Z2 ?_
   refine Tb I (λk=> ?_) λk=> ?_
   ·refine Zl ?_
    refine Y2 ?_
    have ⟨v,M,N⟩:=bnd k
    refine Tj0 [(3,.int .i64 v)] [0,1] [] [0,1] ?_ ?_
    ·refine Yl0 ?_
     refine Tq (η:=Unit) (λw h=>[(3,.int .i64 w)]) [0,1] (λ_ _=>[]) [0,1] (λ_ _=>[]) () [0,0] [] M ?_
     rintro k_ w ⟨⟩ ak O P Q
     refine Y2 ?_
     have ⟨R,S,U⟩:=bnd O
     refine Tj0 [(20,.bool R)] [0,1,3] [] [0,1] ?_ ?_
     ·refine Td [] [0,0] mo ?_
      refine Dq 0 ?_
      refine Db 1 1 ?_
      refine Dq 2 ?_
      refine Dq 3 ?_
      refine Dq 4 ?_
      refine D.cs 11 S rfl (λhc l=> ?_) (λhc l=> ?_)
      ·refine Db 5 1 ?_
       refine Dq 6 ?_
       have ⟨al,m,V⟩:=bnd l
       refine D.addr 0 rfl (bH m) λam an W=> ?_
       subst W
       refine Dy 7 (Yl.ia m rfl rfl rfl rfl rfl rfl) ?_
       refine D.el 0 rfl (aI m).2 ?_
       rintro _
       refine Dy 8 (Yl.ldc 0 0 rfl rfl rfl rfl) ?_
       refine Db 9 1 ?_
       have ⟨ao,y,X⟩:=bnd V
       refine Dy 10 (Yl.ia y rfl rfl rfl rfl rfl rfl) ?_
       refine D.el 1 rfl (aI y).2 ?_
       rintro _
       refine Dy 11 (Yl.ldc 0 0 rfl rfl rfl rfl) ?_
       refine Dq 12 ?_
       refine Dq 13 ?_
       refine Dn ?_
       cases X
       exact Eg0 [0,0] 2
      refine Ds 5 ?_
      refine Ds 6 ?_
      refine Ds 7 ?_
      refine Ds 8 ?_
      refine Ds 9 ?_
      refine Ds 10 ?_
      refine Ds 11 ?_
      refine Ds 12 ?_
      refine Dq 13 ?_
      refine Dn ?_
      cases l
      exact Eg0 [0,0] 0
     refine Tb U (λn=> ?_) λn=> ?_
     ·refine Zl ?_
      cases n
      exact Eg (_,()) (P _ rfl) [0,0] [] 0
     refine Z0 ?_
     cases n
     have hb:=Q _ rfl
     subst v
     exact Eg0 [0,0] 0
    refine Z2 ?_
    have ⟨ap,o,Z⟩:=bnd N
    refine L.addr 0 rfl (bH o) λaa ab ac=> ?_
    subst ac
    refine Ly (Yl.ia o rfl rfl rfl rfl rfl rfl) ?_
    refine L.el 0 rfl (aI o).2 ?_
    rintro _
    refine Lc 0 0 ?_
    have ⟨aq,ad,ae⟩:=bnd Z
    refine L.yd [0] [] (hY _ _ _ () _ ad) rfl rfl rfl rfl rfl rfl rfl rfl ?_
    intro A
    refine Z0 ?_
    refine Tb ae (λp=> ?_) λp=> ?_
    ·refine Z0 ?_
     obtain ⟨ar,hz,af⟩:=cK p
     subst F
     have hb:=u _ rfl
     subst j
     obtain rfl:=(sm q).symm
     refine Z0 ?_
     cases af
     exact Eo (A,((some ⟨aa,ab,none⟩),d)) [0,0] [1] .nil
    refine Z0 ?_
    have ⟨_,ag,ah⟩:=bnd p
    refine L.rs 1 ag rfl rfl rfl rfl rfl rfl rfl rfl rfl rfl rfl rfl ?_
    intro ai aj
    refine Lt 1 ?_
    refine Z0 ?_
    cases ah
    exact Eg (_,((ai,aj),A)) (J _ rfl) [1,0] [0] 3
   refine Z0 ?_
   cases k
   have hb:=u _ rfl
   subst j
   exact Egx (_,((g,d),i)) rfl [0,0] [0,1]
  rintro ⟨a,⟨⟨b,c⟩,e⟩⟩ hy
  subst hy
  refine E.off ?_
  cases q
  exact Eo (e,(b,c)) [0,0] [0] .nil
theorem uv {r_:aY} {r:ByteArray} (H:jC r_=some r):CT G 218 [.agg #[.slice A0 r_.cells.length C0,.bool r_.wrapped]] [] [Im.sl cC A0 C0 r_.cells] (λ_:Unit=> .string r) (λh=>[]) (λh=>[]):=by
 delta jC at H
 refine Cf Go.Proofs.Tryz.func218 λK=> ?_
 refine T.wZ ?_
 refine Z1 ?_
 refine Lx λg1=> ?_
 refine Z1 ?_
 refine Ll λg2=> ?_
 refine Z1 ?_
 have ⟨r3,h4,H5⟩:=bnd H
 refine Lk [] [] (zm h4) λ⟨⟩=> ?_
 refine La [] [] (Ac.bs (ty:=(Ty.int .i64)) (xs:=[r3]) (.cons () [] rfl .nil) rfl rfl rfl rfl rfl rfl rfl) λg6=> ?_
 refine L.fZ (Ty.int .u8) 5 ?_
 refine L.frz 1 rfl ?_
 have ⟨B,f,g⟩:=bnd H5
 refine Lk [1,0] [0] (fV f) λ⟨i,j⟩=> ?_
 refine Z2 ?_
 have ⟨k,l,m⟩:=bnd g
 refine Lk [] [1] (ya l) λn=> ?_
 refine Yl0 ?_
 have ⟨o,p,q⟩:=bnd m
 refine T.rf2 (σ:=cJ) (η:=(Option Addr×Nat)) (X:=Int×aO) (θ:=Unit) (τ:=(Option Addr×Nat)×(Option Addr×Nat)) (s1:=o.1) (hx:=λx=>x.1) (λx t=>[.int .i64 x.1,.agg #[.int .i32 x.2.rune,.int .i64 x.2.bW,.int .i64 x.2.part]]) (λx t=>[]) (λ_=>none) (λa h=>(λc d=>[Ch.arr (Ty.int .u8) 5 c d a.b,Ch.box g2 224 [.slice c a.b.length d],Ch.box g1 144 [.slice A0 r_.cells.length C0,.bool r_.wrapped]]) h.1 h.2) (λa h=>(λc d=>[Im.sl cC A0 C0 k,Im.sl (Ty.int .i64) (some ⟨g6,0,none⟩) 1 [r3],Im.sl cC A0 C0 r_.cells]) h.1 h.2) 4 [2,1,1,0] [0,1,2] [0] rfl rfl (λ_ _=>rfl) rfl (λyl C hY=>(uH hY (i,j) n A0 C0 p:_)) (λ_ _ _ _=>rfl) rfl rfl rfl rfl rfl ?_ rfl ?_
 ·rintro yl K2 a ⟨c,d⟩ e ⟨⟩ F s
  refine Z1 ?_
  refine Ll λI=> ?_
  refine Lt 0 ?_
  refine Z0 ?_
  refine E.begin λK3=> ?_
  refine Zl ?_
  refine La [] [] (Ac.bs (ty:=(Ty.int .i64)) (xs:=[e.1,(IntKind.i64.wrap e.2.rune),e.2.bW,e.2.part]) (.cons () [] rfl (.cons () [] rfl (.cons () [] rfl (.cons () [] rfl .nil)))) rfl rfl rfl rfl rfl rfl rfl) λJ=> ?_
  refine L.frz 0 rfl ?_
  have ⟨M,u,v⟩:=bnd s
  refine Lk [2,1] [0] (fV u) λ⟨w,y⟩=> ?_
  refine Z0 ?_
  cases v
  exact E.on (w,y) [1,0,1] [1,2,3] rfl rfl rfl rfl
 rintro ⟨N,⟨O,P⟩⟩ Q
 refine Z1 ?_
 have ⟨R,z,A⟩:=bnd q
 refine Lk [2,1] [] (ku z) λ⟨⟩=> ?_
 refine Z0 ?_
 cases A
 exact E.yB () 2 [] [] rfl (.tmp rfl .nil) rfl rfl rfl
theorem nS {s_:aN} {r:ByteArray} (H:gB s_=some r):CT G 195 [.agg (oG s_ A0 C0 A1 C1).toArray] [] [Im.sl aU A0 C0 s_.rows,Im.sl aF A1 C1 s_.begun] (λ_:Unit=> .string r) (λh=>[]) (λh=>[]):=by
 delta gB at H
 refine Cf Go.Proofs.Tryz.func195 λK=> ?_
 refine Z1 ?_
 refine Lx λg1=> ?_
 refine Y2 ?_
 have ⟨p,q,s⟩:=bnd H
 refine Tj0 [(12,.bool p)] [1] [] [0] ?_ ?_
 ·refine Z0 ?_
  have ⟨al,t,u⟩:=bnd q
  refine Lk [] [0,1] (na t) λ⟨⟩=> ?_
  refine Z0 ?_
  refine Lw 8 u (λf=> ?_) λf=> ?_
  ·refine Z0 ?_
   cases f
   exact Eg0 [0] 0
  refine Z0 ?_
  have ⟨am,v,z⟩:=bnd f
  refine Lk [] [0,1] (ng v) λ⟨⟩=> ?_
  refine Z0 ?_
  cases z
  exact Eg0 [0] 0
 refine Tb s (λg=> ?_) λg=> ?_
 ·refine Z1 ?_
  cases g
  exact Eo1 () [] []
 refine Z1 ?_
 refine Ll λo=> ?_
 refine Y1 ?_
 refine Td [] [1] mo ?_
 refine Dq 0 ?_
 refine Db 1 0 ?_
 refine Dq 2 ?_
 refine Db 3 0 ?_
 refine Dq 4 ?_
 refine Db 5 0 ?_
 refine Dq 6 ?_
 refine Db 7 0 ?_
 refine Dq 8 ?_
 refine Db 9 0 ?_
 refine Dq 12 ?_
 refine Db 13 0 ?_
 refine Dq 16 ?_
 refine Db 17 0 ?_
 refine Dq 18 ?_
 refine Db 19 0 ?_
 refine Dq 22 ?_
 refine Db 23 0 ?_
 refine DF.of rfl ?_
 refine DF.add _ (FSp.ac 10 [] (Ac.frz (Ac.bs (ty:=(Ty.int .i64)) (xs:=[s_.k,s_.w,s_.h,s_.x,s_.y]) (.cons () [] rfl (.cons () [] rfl (.cons () [] rfl (.cons () [] rfl (.cons () [] rfl .nil))))) rfl rfl rfl rfl rfl rfl rfl)) rfl rfl rfl rfl rfl) rfl ?_
 refine DF.add _ (FSp.ac 14 [] (Ac.frz (Ac.bs (ty:=Ty.str) (xs:=[s_.title]) (.cons () [] rfl .nil) rfl rfl rfl rfl rfl rfl rfl)) rfl rfl rfl rfl rfl) rfl ?_
 refine DF.add _ (FSp.ac 20 [] (Ac.frz (Ac.bs (ty:=(Ty.int .i64)) (xs:=[s_.len,s_.chain]) (.cons () [] rfl (.cons () [] rfl .nil)) rfl rfl rfl rfl rfl rfl rfl)) rfl rfl rfl rfl rfl) rfl ?_
 refine DF.step 11 rfl rfl rfl rfl rfl ?_
 refine DFp.use 2 rfl rfl rfl ?_
 intro an
 refine DFp.fZ (Ty.int .u8) 5 ?_
 have ⟨ao,A,B⟩:=bnd g
 refine DFp.a [1,0] [0] (Ac.call (fV A) rfl rfl rfl rfl) rfl rfl rfl rfl rfl rfl rfl rfl ?_
 rintro ⟨ap,aq⟩
 refine DF.step 15 rfl rfl rfl rfl rfl ?_
 refine DFp.use 1 rfl rfl rfl ?_
 intro ar
 have ⟨au,C,F⟩:=bnd B
 refine DFp.a [0,0] [0] (Ac.call (oJ C) rfl rfl rfl rfl) rfl rfl rfl rfl rfl rfl rfl rfl ?_
 rintro ⟨av,aw⟩
 refine DF.step 21 rfl rfl rfl rfl rfl ?_
 refine DFp.use 0 rfl rfl rfl ?_
 intro ax
 have ⟨ay,I,J⟩:=bnd F
 refine DFp.a [0,0] [0] (Ac.call (fV I) rfl rfl rfl rfl) rfl rfl rfl rfl rfl rfl rfl rfl ?_
 rintro ⟨az,a0⟩
 have ⟨M,N,O⟩:=bnd J
 refine DF.add _ (FSp.ac 24 [4] (Ac.call (x9 N) rfl rfl rfl rfl) rfl rfl rfl rfl rfl) rfl ?_
 refine DF.add _ (FSp.dep 0 rfl rfl λ⟨⟩=>FSp.ac 25 [] (Ac.frz (Ac.bs (ty:=Ty.str) (xs:=[M]) (.cons () [] rfl .nil) rfl rfl rfl rfl rfl rfl rfl)) rfl rfl rfl rfl rfl) rfl ?_
 refine DF.step 26 rfl rfl rfl rfl rfl ?_
 refine DFp.use 0 rfl rfl rfl ?_
 intro a1
 refine DFp.use 0 rfl rfl rfl ?_
 rintro ⟨⟩
 have ⟨a2,P,Q⟩:=bnd O
 refine DFp.a [0,0] [0] (Ac.call (nq P) rfl rfl rfl rfl) rfl rfl rfl rfl rfl rfl rfl rfl ?_
 rintro ⟨R,S⟩
 refine DF.fin rfl rfl rfl rfl rfl ?_
 refine DFe.nil ?_
 refine Z2 ?_
 have ⟨i,U,V⟩:=bnd Q
 refine Tjh (η:=(Option Addr×Nat)) (λ_=>[]) [3] (λh=>(λj l=>[Ch.arr (Ty.int .u8) 5 j l i.b,Ch.box o 224 [.slice j i.b.length l]]) h.1 h.2) [0] (λ_=>[]) ?_ ?_
 ·refine Yl0 ?_
  refine Tq (η:=(Option Addr×Nat)) (λc h=>(λd e=>[(43,.int .i64 c.2)]) h.1 h.2) [3,41,42] (λc h=>(λd e=>[Ch.arr (Ty.int .u8) 5 d e c.1.b,Ch.box o 224 [.slice d c.1.b.length e]]) h.1 h.2) [0] (λ_ _=>[]) (R,S) [2,1,0] [] U ?_
  rintro k_ c ⟨d,e⟩ a3 W X Y
  refine Y2 ?_
  refine Tb W (λm=> ?_) λm=> ?_
  ·refine Z1 ?_
   refine Zl ?_
   refine Z1 ?_
   have ⟨a4,n,Z⟩:=bnd m
   refine L.addr 4 rfl (bH n) λa5 a6 aa=> ?_
   subst aa
   refine Ly (Yl.ia n rfl rfl rfl rfl rfl rfl) ?_
   refine L.el 4 rfl (aI n).2 ?_
   rintro ⟨a7,a8⟩
   refine Lc 0 0 ?_
   refine Ll λa9=> ?_
   refine Lt 0 ?_
   refine Z0 ?_
   have ⟨ab,ad,ae⟩:=bnd Z
   refine Lk [] [1] (uv ad) λ⟨⟩=> ?_
   refine La [] [] (Ac.bs (ty:=Ty.str) (xs:=[ab]) (.cons () [] rfl .nil) rfl rfl rfl rfl rfl rfl rfl) λba=> ?_
   refine L.frz 0 rfl ?_
   have ⟨bb,af,ag⟩:=bnd ae
   refine Lk [2,1] [0] (nq af) λ⟨ah,ai⟩=> ?_
   refine Z0 ?_
   cases ag
   exact Eg (_,(ah,ai)) (X _ rfl) [1,0,1] [] 3
  refine Z0 ?_
  cases m
  have hb:=Y _ rfl
  subst i
  exact Eg (d,e) trivial [0,0,0] [] 0
 rintro ⟨j,l⟩
 refine Z1 ?_
 have ⟨bc,aj,ak⟩:=bnd V
 refine Lk [1,0] [] (ku aj) λ⟨⟩=> ?_
 refine Z0 ?_
 cases ak
 exact Eo1 () [] []
end Go.Tw.X
namespace Go.Tw.X
open Go Go.Tw
variable {A0 A1 A2 A3 A4 A5 A6 A7 A8 : Option Addr} {C0 C1 C2 C3 C4 C5 C6 C7 C8 : Nat}
variable {N0 N1 N2 N3 N4 N5 : Nat}
variable {M0 M1 : Option Nat}
theorem sM {s_:aN} {r:Int} (H:ja s_=some r):CT G 150 [.agg (oG s_ A0 C0 A1 C1).toArray] [] [Im.sl aU A0 C0 s_.rows,Im.sl aF A1 C1 s_.begun,Im.sl (Ty.int .u32) (some ⟨0,0,none⟩) 16 dE] (λ_:Unit=> .int .i64 r) (λh=>[]) (λh=>[]):=by
 delta ja at H
 refine Cf Go.Proofs.Tryz.func150 λK=> ?_
 refine Z1 ?_
 refine Lx λg1=> ?_
 refine Z1 ?_
 have ⟨r2,h3,H4⟩:=bnd H
 refine Lk [] [0,1] (nS h3) λ⟨⟩=> ?_
 refine La [] [] (Ac.bs (ty:=Ty.str) (xs:=[r2]) (.cons () [] rfl .nil) rfl rfl rfl rfl rfl rfl rfl) λg5=> ?_
 have ⟨r7,h8,H9⟩:=bnd H4
 refine L.br (Ac.call (uo h8) rfl rfl rfl rfl) (Bw.ch 0 rfl (Bw.im 2 rfl (Bw.nil))) rfl rfl rfl ?_
 intro _
 refine Z0 ?_
 cases H9
 exact Eo1 () [] []
theorem uI {s_:aN} {y:Int} {r:aY×Bool} (H:gw s_ y=some r):CT G 196 [.agg (oG s_ A0 C0 A1 C1).toArray,.int .i64 y] [] [Im.sl aU A0 C0 s_.rows,Im.sl aF A1 C1 s_.begun] (λh:(Option Addr×Nat)=> .tuple #[.agg #[.slice h.1 r.1.cells.length h.2,.bool r.1.wrapped],.bool r.2]) (λh=>[]) (λh=>[Im.sl cC h.1 h.2 r.1.cells]):=by
 delta gw at H
 refine Cf Go.Proofs.Tryz.func196 λK=> ?_
 refine Z1 ?_
 refine Lx λg1=> ?_
 refine Ll λg2=> ?_
 refine Y2 ?_
 have ⟨e6,H7,H8⟩:=bnd H
 refine Tj0 [(14,.bool e6)] [1,2,4] [] [0,1] ?_ ?_
 ·refine Z0 ?_
  refine Lw 8 H7 (λH9=> ?_) λH9=> ?_
  ·refine Z0 ?_
   cases H9
   exact Eg0 [0,0] 0
  refine Z0 ?_
  cases H9
  exact Eg0 [0,0] 0
 refine Tb H8 (λa=> ?_) λa=> ?_
 ·refine Z1 ?_
  refine Lt 0 ?_
  refine Z0 ?_
  refine E.dD [Im.sl cC none 0 []] (λA w _ _ f hf=>by rw [List.mem_singleton.1 hf]; exact Im.bV A w) ?_
  cases a
  exact Eo (none,0) [] [0] (.cell 0 rfl rfl rfl (.tmp rfl .nil))
 refine Z1 ?_
 have ⟨i,b,c⟩:=bnd a
 refine L.addr 0 rfl (bH b) λj k d=> ?_
 subst d
 refine Ly (Yl.ia b rfl rfl rfl rfl rfl rfl) ?_
 refine L.el 0 rfl (aI b).2 ?_
 rintro ⟨e,g⟩
 refine Lc 0 0 ?_
 refine Lt 0 ?_
 refine Z0 ?_
 cases c
 exact Eo (e,g) [] [1] (.cell 0 rfl rfl rfl (.tmp rfl .nil))
theorem nT {s1_:List aO} {s2_:List aO} {r:Bool} (H:fA s1_ s2_=some r):CT G 129 [.slice A0 s1_.length C0,.slice A1 s2_.length C1] [] [Im.sl cC A0 C0 s1_,Im.sl cC A1 C1 s2_] (λ_:Unit=> .bool r) (λh=>[]) (λh=>[]):=by
 delta fA at H
 refine Cf Go.Proofs.Tryz.func129 λK=> ?_
 refine Z3 ?_
 refine Tb H (λH2=> ?_) λH2=> ?_
 ·refine Z1 ?_
  cases H2
  exact Eo1 () [] []
 refine Z2 ?_
 have ⟨a,j,f⟩:=bnd H2
 refine Tj (η:=Unit×Unit) (λh=>a = .inl h.1) (λ_=>[]) [] (λ_=>[]) [] (λ_=>[]) ?_ ?_
 ·refine Yl0 ?_
  refine Tq (η:=Unit) (λg h=>[(13,.int .i64 g)]) [0,1,12] (λ_ _=>[]) [] (λ_ _=>[]) () [] [] j ?_
  rintro k_ g ⟨⟩ k l m i
  refine Y2 ?_
  refine Tb l (λb=> ?_) λb=> ?_
  ·refine Z1 ?_
   refine Zl ?_
   refine Y2 ?_
   refine Td [] [] mo ?_
   refine Dq 0 ?_
   refine Dq 1 ?_
   have ⟨t,c,n⟩:=bnd b
   refine D.addr 0 rfl (bH c) λu v o=> ?_
   subst o
   refine Dy 2 (Yl.ia c rfl rfl rfl rfl rfl rfl) ?_
   refine D.el 0 rfl (aI c).2 ?_
   rintro _
   refine Dy 3 (Yl.ldc 0 0 rfl rfl rfl rfl) ?_
   refine Dq 4 ?_
   refine Dq 5 ?_
   have ⟨w,d,p⟩:=bnd n
   refine D.addr 2 rfl (bH d) λx y q=> ?_
   subst q
   refine Dy 6 (Yl.ia d rfl rfl rfl rfl rfl rfl) ?_
   refine D.el 2 rfl (aI d).2 ?_
   rintro _
   refine Dy 7 (Yl.ldc 0 0 rfl rfl rfl rfl) ?_
   refine Dq 8 ?_
   refine Dn ?_
   refine Z0 ?_
   refine Tb p (λe=> ?_) λe=> ?_
   ·refine Z1 ?_
    obtain ⟨z,hz,s⟩:=cK e
    subst k
    have hb:=i _ rfl
    subst a
    obtain rfl:=(sm f).symm
    refine Z0 ?_
    cases s
    exact Eo1 () [] []
   refine Z0 ?_
   cases e
   exact Eg (_,()) (m _ rfl) [] [] 2
  refine Z0 ?_
  cases b
  have hb:=i _ rfl
  subst a
  exact Eg (_,()) rfl [] [] 0
 rintro ⟨A,⟨⟩⟩ hy
 subst hy
 refine Z1 ?_
 cases f
 exact Eo1 () [] []
theorem oM {r_:aY} {q:aY} {r:Bool} (H:gC r_ q=some r):CT G 72 [.agg #[.slice A0 r_.cells.length C0,.bool r_.wrapped],.agg #[.slice A1 q.cells.length C1,.bool q.wrapped]] [] [Im.sl cC A0 C0 r_.cells,Im.sl cC A1 C1 q.cells] (λ_:Unit=> .bool r) (λh=>[]) (λh=>[]):=by
 delta gC at H
 refine Cf Go.Proofs.Tryz.func72 λK=> ?_
 refine Z1 ?_
 refine Lx λg1=> ?_
 refine Lx λg2=> ?_
 refine Y1 ?_
 have ⟨b,c,d⟩:=bnd H
 refine Tj0 [(4,.bool b)] [] [] [0,1] ?_ ?_
 ·refine Z0 ?_
  refine Lw 10 c (λa=> ?_) λa=> ?_
  ·refine Z0 ?_
   have ⟨g,e,f⟩:=bnd a
   refine Lk [] [0,1] (nT e) λ⟨⟩=> ?_
   refine Z0 ?_
   cases f
   exact Eg0 [0,0] 0
  refine Z0 ?_
  cases a
  exact Eg0 [0,0] 0
 refine Z0 ?_
 cases d
 exact Eo1 () [] []
theorem yb {s_:aN} {r:Bool} (H:jD s_=some r):CT G 197 [.agg (oG s_ A0 C0 A1 C1).toArray] [] [Im.sl aU A0 C0 s_.rows,Im.sl aF A1 C1 s_.begun] (λ_:Unit=> .bool r) (λh=>[]) (λh=>[]):=by
 delta jD at H
 refine Cf Go.Proofs.Tryz.func197 λK=> ?_
 refine Z1 ?_
 refine Lx λg1=> ?_
 refine Z1 ?_
 have ⟨r2,h3,H4⟩:=bnd H
 refine Lk [] [0,1] (nS h3) λ⟨⟩=> ?_
 refine Z0 ?_
 cases H4
 exact Eo1 () [] []
theorem pj {p:bT} {a:aN} {r:Bool×bT} (H:eX p a=some r):CT G 151 [.pointer (some ⟨N0,0,none⟩),.agg (oG a A2 C2 A3 C3).toArray] [Ch.box N0 248 (xY p A0 C0 A1 C1 M0),Ch.arr aU 144 A0 C0 p.to.rows,Ch.mp aU true M0 p.rows] [Im.sl aF A1 C1 p.to.begun,Im.sl aU A2 C2 a.rows,Im.sl aF A3 C3 a.begun] (λh:(Option Addr×Nat)=> .bool r.1) (λh=>[Ch.box N0 248 (xY r.2 h.1 h.2 A1 C1 M0),Ch.mp aU true M0 r.2.rows]) (λh=>[Im.sl aU h.1 h.2 r.2.to.rows,Im.sl aF A1 C1 r.2.to.begun]):=by
 delta eX at H
 refine Cf Go.Proofs.Tryz.func151 λK=> ?_
 refine Z1 ?_
 refine Lx λg1=> ?_
 refine Z2 ?_
 have ⟨m,C,y⟩:=bnd H
 refine Tj (η:=bT×((Option Addr×Nat))) (λh=>m = .inl h.1) (λ_=>[]) [0] (λh=>(λe=>(λi j=>[Ch.arr aU 144 i j e.to.rows,Ch.mp aU true M0 e.rows,Ch.box N0 248 (xY e i j A1 C1 M0)]) h.2.1 h.2.2) h.1) [0] (λh=>(λe=>(λi j=>[Im.sl aF A1 C1 e.to.begun]) h.2.1 h.2.2) h.1) ?_ ?_
 ·refine Yl0 ?_
  refine Tq (η:=(Option Addr×Nat)) (λb h=>(λc d=>[(15,.int .i64 b.2)]) h.1 h.2) [0,3,14] (λb h=>(λc d=>[Ch.arr aU 144 c d b.1.to.rows,Ch.mp aU true M0 b.1.rows,Ch.box N0 248 (xY b.1 c d A1 C1 M0)]) h.1 h.2) [0] (λb h=>(λc d=>[Im.sl aF A1 C1 b.1.to.begun]) h.1 h.2) (A0,C0) [2,2,1,0] [0] C ?_
  rintro k_ b ⟨c,d⟩ F I J z
  refine Y2 ?_
  refine Tb I (λn=> ?_) λn=> ?_
  ·refine Z1 ?_
   refine Zl ?_
   refine Z2 ?_
   have ⟨ak,M,N⟩:=bnd n
   refine Lk [] [2,3] (uI M) λ⟨O,P⟩=> ?_
   refine Z0 ?_
   refine Ll λal=> ?_
   refine Lt 0 ?_
   refine Z1 ?_
   refine La [2] [] (Ac.ml (ty:=aU) (ag:=true) (vv:=(λh:(Option Addr×Nat)=>(λo q=> .agg #[.slice o ((mgd b.1.rows b.2 (aY.mk ([]:List aO) false)).cells).length q,.bool ((mgd b.1.rows b.2 (aY.mk ([]:List aO) false)).wrapped)]) h.1 h.2)) b.2 (aY.mk ([]:List aO) false) (none,0) rfl rfl rfl rfl rfl rfl rfl rfl rfl (λ_ _ f hf=>by rw [List.mem_singleton.1 hf]; exact Im.bV _ _) Fl (λ_=>rfl)) ?_
   rintro ⟨o,q⟩
   refine Z0 ?_
   refine Ll λQ=> ?_
   refine Lt 0 ?_
   refine Y1 ?_
   have ⟨A,R,B⟩:=bnd N
   refine Tj (η:=aY×((Option Addr×Nat))) (λh=>A = .inl h.1) (λ_=>[]) [0,3,8,14,15] (λh=>(λg=>(λk l=>[Ch.box Q 144 [.slice k g.cells.length l,.bool g.wrapped]]) h.2.1 h.2.2) h.1) [2,4,5,1,3] (λh=>(λg=>(λk l=>[Im.sl cC k l g.cells]) h.2.1 h.2.2) h.1) ?_ ?_
   ·refine Zl ?_
    refine Y2 ?_
    have ⟨S,U,V⟩:=bnd R
    refine Tj0 [(33,.bool S)] [0,3,6,7,8,9,14,15] [] [0,2,4,5,1,3] ?_ ?_
    ·refine Z0 ?_
     refine Lw 35 U (λs=> ?_) λs=> ?_
     ·refine Z0 ?_
      refine Lw 38 s (λt=> ?_) λt=> ?_
      ·refine Z0 ?_
       have ⟨am,W,X⟩:=bnd t
       refine Lk [] [1,0] (oM W) λ⟨⟩=> ?_
       refine Z0 ?_
       cases X
       exact Eg0 [0,1,2,2,0,0] 0
      refine Z0 ?_
      cases t
      exact Eg0 [0,1,2,2,0,0] 0
     refine Z0 ?_
     cases s
     exact Eg0 [0,1,2,2,0,0] 0
    have ⟨Y,Z,aa⟩:=bnd V
    refine Tj0 [(33,.bool Y)] [0,3,6,8,9,14,15] [] [0,1,2,3,4,5] ?_ ?_
    ·refine Tb Z (λu=> ?_) λu=> ?_
     ·refine Z0 ?_
      cases u
      exact Eg0 [0,0,0,0,0,0] 0
     refine Z0 ?_
     refine Lw 45 u (λv=> ?_) λv=> ?_
     ·refine Z0 ?_
      cases v
      exact Eg0 [0,0,0,0,0,0] 0
     refine Z0 ?_
     cases v
     exact Eg0 [0,0,0,0,0,0] 0
    refine Tb aa (λw=> ?_) λw=> ?_
    ·refine Z1 ?_
     obtain ⟨an,hz,ab⟩:=gA w
     subst A
     obtain rfl:=(sm B).symm
     refine Z0 ?_
     obtain ⟨ao,hz,ac⟩:=cK ab
     subst F
     have hb:=z _ rfl
     subst m
     obtain rfl:=(sm y).symm
     refine Z0 ?_
     refine E.frz 5 rfl ?_
     cases ac
     exact Eo1 (c,d) [2,3] [0,3]
    refine Z1 ?_
    refine Tb w (λx=> ?_) λx=> ?_
    ·refine Z0 ?_
     refine Lt 0 ?_
     refine Z0 ?_
     cases x
     exact Eg (_,(O,P)) rfl [0,0,0,0,0,0] [1] 0
    refine Z0 ?_
    cases x
    exact Eg (_,(o,q)) rfl [0,0,0,0,0,0] [0] 0
   rintro ⟨g,⟨k,l⟩⟩ hy
   subst hy
   refine Td [12] [0,0,0,0,0] mo ?_
   refine Dq 0 ?_
   refine Dq 1 ?_
   refine Dq 2 ?_
   refine Dq 3 ?_
   refine Dq 4 ?_
   refine Db 5 2 ?_
   refine Db 6 0 ?_
   refine Da [] [0] rfl rfl (Ac.bs (ty:=aU) (xs:=[g]) (.cons (k,l) [0] rfl .nil) rfl rfl rfl rfl rfl rfl rfl) λaq=> ?_
   refine D.frz 0 rfl ?_
   have ⟨_,ad,ae⟩:=bnd B
   refine Da [0] [0] rfl rfl (Ac.ap (ty:=aU) ad rfl rfl rfl rfl rfl rfl rfl) ?_
   rintro ⟨af,ah⟩
   refine Dq 9 ?_
   refine Dq 10 ?_
   refine Dq 11 ?_
   refine Dt 2 ?_
   refine Dn ?_
   refine Z0 ?_
   cases ae
   exact Eg (_,(af,ah)) (J _ rfl) [5,4,0,2] [4] 5
  refine Z0 ?_
  cases n
  have hb:=z _ rfl
  subst m
  exact Eg (_,(c,d)) rfl [0,0,0,0] [0] 1
 rintro ⟨e,⟨i,j⟩⟩ hy
 subst hy
 refine Z1 ?_
 refine L.frz 0 rfl ?_
 have ⟨ar,ai,aj⟩:=bnd y
 refine Lk [] [0,1] (yb ai) λ⟨⟩=> ?_
 refine Z0 ?_
 cases aj
 exact Eo1 (i,j) [1,0] [0,1]
theorem uJ {a:aN} {s_:ByteArray} {r:aN×Int} (H:ke a s_=some r):CT G 85 [.agg (oG a A0 C0 A1 C1).toArray,.string s_] [] [Im.sl aU A0 C0 a.rows,Im.sl aF A1 C1 a.begun,Im.sl (Ty.int .u32) (some ⟨0,0,none⟩) 16 dE] (λh:(Option Addr×Nat)×(Option Addr×Nat)=> .tuple #[.agg (oG r.1 h.1.1 h.1.2 h.2.1 h.2.2).toArray,.int .i64 r.2]) (λh=>[]) (λh=>[Im.sl aU h.1.1 h.1.2 r.1.rows,Im.sl aF h.2.1 h.2.2 r.1.begun]):=by
 delta ke at H
 refine Cf Go.Proofs.Tryz.func85 λK=> ?_
 refine Z1 ?_
 refine Lx λg1=> ?_
 refine Ll λg2=> ?_
 refine Z2 ?_
 have ⟨r3,h4,H5⟩:=bnd H
 refine Lk [] [0,1] (ng h4) λ⟨⟩=> ?_
 refine Z0 ?_
 refine Tb H5 (λH7=> ?_) λH7=> ?_
 ·refine Z1 ?_
  refine Lt 0 ?_
  refine Z0 ?_
  refine E.dD [Im.sl aU none 0 []] (λA w _ _ f hf=>by rw [List.mem_singleton.1 hf]; exact Im.bV A w) ?_
  refine E.dD [Im.sl aF none 0 []] (λA w _ _ f hf=>by rw [List.mem_singleton.1 hf]; exact Im.bV A w) ?_
  cases H7
  exact Eo ((none,0),(none,0)) [] [1,0] (.cell 0 rfl rfl rfl (.tmp rfl .nil))
 refine Z1 ?_
 have ⟨t,e,g⟩:=bnd H7
 refine Lk [] [] (wG e) λ⟨⟨u,v⟩,x⟩=> ?_
 refine Z0 ?_
 refine Ll λy=> ?_
 refine Lt 0 ?_
 refine Z1 ?_
 refine Zl ?_
 refine Z1 ?_
 refine Tb g (λb=> ?_) λb=> ?_
 ·refine Z1 ?_
  refine Lt 2 ?_
  refine Z0 ?_
  refine E.dD [Im.sl aU none 0 []] (λA w _ _ f hf=>by rw [List.mem_singleton.1 hf]; exact Im.bV A w) ?_
  refine E.dD [Im.sl aF none 0 []] (λA w _ _ f hf=>by rw [List.mem_singleton.1 hf]; exact Im.bV A w) ?_
  cases b
  exact Eo ((none,0),(none,0)) [] [1,0] (.cell 0 rfl rfl rfl (.tmp rfl .nil))
 refine Y1 ?_
 refine Td [] [0,0,0,0] mo ?_
 refine Dq 0 ?_
 refine Db 1 0 ?_
 refine Db 2 3 ?_
 have ⟨z,i,j⟩:=bnd b
 refine Dk [] [2,3,4] (sM i) λ⟨⟩=> ?_
 refine Dq 4 ?_
 refine Dq 5 ?_
 refine Dn ?_
 refine Z0 ?_
 refine Tb j (λc=> ?_) λc=> ?_
 ·refine Z1 ?_
  refine Lt 2 ?_
  refine Z0 ?_
  refine E.dD [Im.sl aU none 0 []] (λA w _ _ f hf=>by rw [List.mem_singleton.1 hf]; exact Im.bV A w) ?_
  refine E.dD [Im.sl aF none 0 []] (λA w _ _ f hf=>by rw [List.mem_singleton.1 hf]; exact Im.bV A w) ?_
  cases c
  exact Eo ((none,0),(none,0)) [] [1,0] (.cell 0 rfl rfl rfl (.tmp rfl .nil))
 refine Z1 ?_
 refine L.FW 0 144 rfl ?_
 have ⟨B,k,l⟩:=bnd c
 refine Lk [1,0,0] [1,2,3] (pj k) λ⟨C,F⟩=> ?_
 refine Z0 ?_
 refine Tb l (λd=> ?_) λd=> ?_
 ·refine Z1 ?_
  refine Lt 2 ?_
  refine Z0 ?_
  refine E.dD [Im.sl aU none 0 []] (λA w _ _ f hf=>by rw [List.mem_singleton.1 hf]; exact Im.bV A w) ?_
  refine E.dD [Im.sl aF none 0 []] (λA w _ _ f hf=>by rw [List.mem_singleton.1 hf]; exact Im.bV A w) ?_
  cases d
  exact Eo ((none,0),(none,0)) [] [1,0] (.cell 0 rfl rfl rfl (.tmp rfl .nil))
 refine Z1 ?_
 have ⟨I,m,n⟩:=bnd d
 refine Lk [] [0,1] (k7 m) λ⟨⟨o,p⟩,⟨q,s⟩⟩=> ?_
 refine Lt 2 ?_
 refine Z0 ?_
 cases n
 exact Eo ((o,p),(q,s)) [] [0,1] (.cell 0 rfl rfl rfl (.tmp rfl .nil))
theorem pV {t_:aZ} {g:aV} {r:Int×aZ} (H:gE t_ g=some r):CT G 36 [.pointer (some ⟨N0,0,none⟩),.agg (qR g A2 C2).toArray] [Ch.box N0 155 (eS t_ N1 A0 C0 A1 C1),Ch.box N1 153 (cP t_.slot M0),Ch.mp Ty.str false M0 t_.slot.parts] [Im.sl aU A0 C0 t_.aK.rows,Im.sl aF A1 C1 t_.aK.begun,Im.sl (Ty.int .i64) A2 C2 g.aX,Im.sl (Ty.int .u32) (some ⟨0,0,none⟩) 16 dE] (λh:Option Nat×(Option Addr×Nat)×(Option Addr×Nat)=> .int .i64 r.1) (λh=>[Ch.box N0 155 (eS r.2 N1 h.2.1.1 h.2.1.2 h.2.2.1 h.2.2.2),Ch.box N1 153 (cP r.2.slot h.1),Ch.mp Ty.str false h.1 r.2.slot.parts]) (λh=>[Im.sl aU h.2.1.1 h.2.1.2 r.2.aK.rows,Im.sl aF h.2.2.1 h.2.2.2 r.2.aK.begun]):=by
 delta gE at H
 refine Cf Go.Proofs.Tryz.func36 λK=> ?_
 refine Z1 ?_
 refine Lx λg1=> ?_
 refine Z2 ?_
 have ⟨r2,h3,H4⟩:=bnd H
 refine Lk [1,1,1] [0,1,2] (pc h3) λv5=> ?_
 refine Z1 ?_
 refine Tb H4 (λl=> ?_) λl=> ?_
 ·refine Z1 ?_
  cases l
  exact Eo1 (v5,(A0,C0),(A1,C1)) [0,0,0] [0,1]
 refine Z1 ?_
 have ⟨ae,x,y⟩:=bnd l
 refine Lk [1,1] [] (pU x) λ⟨⟩=> ?_
 refine Z2 ?_
 refine Tb y (λm=> ?_) λm=> ?_
 ·refine Z1 ?_
  cases m
  exact Eo1 (v5,(A0,C0),(A1,C1)) [2,0,0] [0,1]
 refine Z1 ?_
 have ⟨af,z,B⟩:=bnd m
 refine Lk [0,0] [] (pd z) λC=> ?_
 refine Z1 ?_
 refine Ll λF=> ?_
 refine Z2 ?_
 have ⟨ag,n,I⟩:=bnd B
 refine L.addr 4 rfl (bH n) λah ai J=> ?_
 subst J
 refine Ly (Yl.ia n rfl rfl rfl rfl rfl rfl) ?_
 refine L.el 4 rfl (aI n).2 ?_
 rintro _
 refine Lc 0 0 ?_
 refine Z0 ?_
 have ⟨o,M,N⟩:=bnd I
 refine Tjh (η:=(Option Addr×Nat)×(Option Addr×Nat)) (λ_=>[]) [0,3,6,8] (λh=>(λe i j k=>[Ch.box F 71 (oG o e i j k)]) h.1.1 h.1.2 h.2.1 h.2.2) [1,3,4,2] (λh=>(λe i j k=>[Im.sl aU e i o.rows,Im.sl aF j k o.begun]) h.1.1 h.1.2 h.2.1 h.2.2) ?_ ?_
 ·refine Tb M (λp=> ?_) λp=> ?_
  ·refine Z0 ?_
   refine Lt 0 ?_
   refine Z0 ?_
   cases p
   exact Eg ((A0,C0),(A1,C1)) trivial [0,0,1,1,0] [1,2] 0
  refine Z0 ?_
  refine E.dD [Im.sl aU none 0 []] (λA w _ _ f hf=>by rw [List.mem_singleton.1 hf]; exact Im.bV A w) ?_
  refine E.dD [Im.sl aF none 0 []] (λA w _ _ f hf=>by rw [List.mem_singleton.1 hf]; exact Im.bV A w) ?_
  cases p
  exact Eg ((none,0),(none,0)) trivial [0,0,1,1,0] [1,0] 2
 rintro ⟨⟨e,i⟩,⟨j,k⟩⟩
 refine Z1 ?_
 have ⟨aj,O,P⟩:=bnd N
 refine Lk [] [0,1,8] (uJ O) λ⟨⟨Q,R⟩,⟨S,U⟩⟩=> ?_
 refine Z0 ?_
 refine Ll λak=> ?_
 refine Lt 0 ?_
 refine Y2 ?_
 have ⟨V,W,X⟩:=bnd P
 refine Tj0 [(57,.bool V)] [0,9,10] [] [0,1,2,3,4,5] ?_ ?_
 ·refine Td [] [0,0,0,0,0,0] mo ?_
  refine Dq 0 ?_
  refine Dq 1 ?_
  refine Dq 2 ?_
  refine D.cs 49 W rfl (λhc q=> ?_) (λhc q=> ?_)
  ·refine Dq 3 ?_
   refine Db 4 0 ?_
   refine Dq 5 ?_
   refine Db 6 4 ?_
   have ⟨al,v,Y⟩:=bnd q
   refine Dy 7 (Yl.ia v rfl rfl rfl rfl rfl rfl) ?_
   refine D.el 9 rfl (aI v).2 ?_
   rintro _
   refine Dy 8 (Yl.ldc 0 0 rfl rfl rfl rfl) ?_
   refine Dq 9 ?_
   refine Dq 10 ?_
   refine Dn ?_
   cases Y
   exact Eg0 [0,0,0,0,0,0] 1
  refine Ds 3 ?_
  refine Ds 4 ?_
  refine Ds 5 ?_
  refine Ds 6 ?_
  refine Ds 7 ?_
  refine Ds 8 ?_
  refine Ds 9 ?_
  refine Dq 10 ?_
  refine Dn ?_
  cases q
  exact Eg0 [0,0,0,0,0,0] 0
 have ⟨Z,aa,ab⟩:=bnd X
 refine Tj0 [(10,.int .i64 Z)] [0,9] [] [0,1,2,3,4,5] ?_ ?_
 ·refine Tb aa (λs=> ?_) λs=> ?_
  ·refine Z0 ?_
   cases s
   exact Eg0 [0,0,0,0,0,0] 0
  refine Z0 ?_
  cases s
  exact Eg0 [0,0,0,0,0,0] 0
 refine Z2 ?_
 have ⟨t,ac,ad⟩:=bnd ab
 refine Tjh (η:=(Option Addr×Nat)×(Option Addr×Nat)) (λ_=>[]) [10] (λh=>(λa b c d=>[Ch.box N0 155 (eS t N1 a b c d)]) h.1.1 h.1.2 h.2.1 h.2.2) [0,1,2,4,5] (λh=>(λa b c d=>[Im.sl aU a b t.aK.rows,Im.sl aF c d t.aK.begun]) h.1.1 h.1.2 h.2.1 h.2.2) ?_ ?_
 ·refine Tb ac (λu=> ?_) λu=> ?_
  ·refine Z0 ?_
   refine Lt 3 ?_
   refine Z0 ?_
   cases u
   exact Eg ((Q,R),(S,U)) trivial [0,0,0,0,0,0] [0,1] 0
  refine Z0 ?_
  cases u
  exact Eg ((A0,C0),(A1,C1)) trivial [3,0,0,0,0,0] [5,6] 0
 rintro ⟨⟨a,b⟩,⟨c,d⟩⟩
 refine Z1 ?_
 cases ad
 exact Eo1 (C,(a,b),(c,d)) [0,2,3] [0,1]
theorem lV {c:aH} {now:Int} {data:ByteArray} {r:Int×aH} (H:dT c now data=some r):CT G 11 [.pointer (some ⟨N0,0,none⟩),.int .i64 now,.string data] [Ch.box N0 94 (ko c N1 N3 N4),Ch.box N1 155 (eS c.aS N2 A0 C0 A1 C1),Ch.box N2 153 (cP c.aS.slot M0),Ch.mp Ty.str false M0 c.aS.slot.parts,Ch.box N3 158 [.int .i64 c.lines.most,.int .i64 c.lines.now,.map M1],Ch.mp aE true M1 c.lines.l,Ch.box N4 161 (eT c.bS N5),Ch.box N5 106 [.slice A2 c.bS.want.l.length C2]] [Im.sl aU A0 C0 c.aS.aK.rows,Im.sl aF A1 C1 c.aS.aK.begun,Im.sl aC A2 C2 c.bS.want.l,Im.sl (Ty.int .u32) (some ⟨0,0,none⟩) 16 dE] (λh:Nat×Option Nat×(Option Addr×Nat)×(Option Addr×Nat)×Nat×(Option Addr×Nat)=> .int .i64 r.1) (λh=>[Ch.box N0 94 (ko r.2 N1 N3 N4),Ch.box N1 155 (eS r.2.aS h.1 h.2.2.1.1 h.2.2.1.2 h.2.2.2.1.1 h.2.2.2.1.2),Ch.box h.1 153 (cP r.2.aS.slot h.2.1),Ch.mp Ty.str false h.2.1 r.2.aS.slot.parts,Ch.box N3 158 [.int .i64 r.2.lines.most,.int .i64 r.2.lines.now,.map M1],Ch.mp aE true M1 r.2.lines.l,Ch.box N4 161 (eT r.2.bS h.2.2.2.2.1),Ch.box h.2.2.2.2.1 106 [.slice h.2.2.2.2.2.1 r.2.bS.want.l.length h.2.2.2.2.2.2]]) (λh=>[Im.sl aU h.2.2.1.1 h.2.2.1.2 r.2.aS.aK.rows,Im.sl aF h.2.2.2.1.1 h.2.2.2.1.2 r.2.aS.aK.begun,Im.sl aC h.2.2.2.2.2.1 h.2.2.2.2.2.2 r.2.bS.want.l]):=by
 delta dT at H
 refine Cf Go.Proofs.Tryz.func11 λK=> ?_
 refine Z2 ?_
 have ⟨r1,h2,H3⟩:=bnd H
 refine Lk [] [3] (qY h2) λ⟨a4,c5⟩=> ?_
 refine Z0 ?_
 refine Ll λg7=> ?_
 refine Lt 0 ?_
 refine Y1 ?_
 have ⟨n,w,o⟩:=bnd H3
 refine Tj (η:=aH×(Nat×Option Nat×(Option Addr×Nat)×(Option Addr×Nat)×Nat×(Option Addr×Nat))) (λh=>n = .inl h.1) (λ_=>[]) [0,7] (λh=>(λa=>(λb e f g i j d k m=>[Ch.mp Ty.str false e a.aS.slot.parts,Ch.mp aE true M1 a.lines.l,Ch.box N0 94 (ko a N1 N3 N4),Ch.box N1 155 (eS a.aS b f g i j),Ch.box N3 158 [.int .i64 a.lines.most,.int .i64 a.lines.now,.map M1],Ch.box N4 161 (eT a.bS d),Ch.box b 153 (cP a.aS.slot e),Ch.box d 106 [.slice k a.bS.want.l.length m]]) h.2.1 h.2.2.1 h.2.2.2.1.1 h.2.2.2.1.2 h.2.2.2.2.1.1 h.2.2.2.2.1.2 h.2.2.2.2.2.1 h.2.2.2.2.2.2.1 h.2.2.2.2.2.2.2) h.1) [0] (λh=>(λa=>(λb e f g i j d k m=>[Im.sl aU f g a.aS.aK.rows,Im.sl aF i j a.aS.aK.begun,Im.sl aC k m a.bS.want.l]) h.2.1 h.2.2.1 h.2.2.2.1.1 h.2.2.2.1.2 h.2.2.2.2.1.1 h.2.2.2.2.1.2 h.2.2.2.2.2.1 h.2.2.2.2.2.2.1 h.2.2.2.2.2.2.2) h.1) ?_ ?_
 ·refine Zl ?_
  refine Z1 ?_
  refine Tb w (λp=> ?_) λp=> ?_
  ·refine Z1 ?_
   obtain ⟨ag,hz,x⟩:=gA p
   subst n
   obtain rfl:=(sm o).symm
   refine Z0 ?_
   cases x
   exact Eo1 (N2,M0,(A0,C0),(A1,C1),N5,(A2,C2)) [1,1,1,1,1,1,1,1] [1,2,3]
  refine Y1 ?_
  have ⟨y,z,A⟩:=bnd p
  refine Tj0 [(18,.bool y)] [0,7] [] [0,1,2,3,5,7,8,4,6] ?_ ?_
  ·refine Z0 ?_
   refine Lw 22 z (λq=> ?_) λq=> ?_
   ·refine Z0 ?_
    cases q
    exact Eg0 [0,0,0,0,1,2,2,0,0] 0
   refine Z0 ?_
   cases q
   exact Eg0 [0,0,0,0,1,2,2,0,0] 0
  refine Tb A (λs=> ?_) λs=> ?_
  ·refine Z1 ?_
   obtain ⟨ah,hz,B⟩:=gA s
   subst n
   obtain rfl:=(sm o).symm
   refine Z0 ?_
   cases B
   exact Eo1 (N2,M0,(A0,C0),(A1,C1),N5,(A2,C2)) [1,1,1,4,1,3,1,1] [1,2,3]
  refine Y1 ?_
  refine Td [] [0,0,0,0,0,0,0,0,0] mo ?_
  refine Dq 0 ?_
  refine Db 1 0 ?_
  refine Dq 2 ?_
  refine Dq 3 ?_
  refine Dq 4 ?_
  refine Db 5 1 ?_
  refine Dq 6 ?_
  refine Dq 7 ?_
  refine Dn ?_
  refine Z0 ?_
  refine Tb s (λt=> ?_) λt=> ?_
  ·refine Z1 ?_
   obtain ⟨ai,hz,C⟩:=gA t
   subst n
   obtain rfl:=(sm o).symm
   refine Z0 ?_
   cases C
   exact Eo1 (N2,M0,(A0,C0),(A1,C1),N5,(A2,C2)) [1,1,1,4,1,3,1,1] [1,2,3]
  refine Y1 ?_
  refine Td [] [0,0,0,0,0,0,0,0,0] mo ?_
  refine Dq 0 ?_
  refine Db 1 0 ?_
  refine Dq 2 ?_
  refine Dq 3 ?_
  refine Dq 4 ?_
  refine Db 5 1 ?_
  refine Dq 6 ?_
  refine Dq 7 ?_
  refine Dn ?_
  refine Z0 ?_
  refine Tb t (λu=> ?_) λu=> ?_
  ·refine Z0 ?_
   have ⟨aj,F,I⟩:=bnd u
   refine Lk [1,1,1,4,1,3,1,1] [1,2,3] (oK F) λ⟨J,M,⟨N,O⟩,⟨P,Q⟩,R,⟨S,U⟩⟩=> ?_
   refine Z0 ?_
   cases I
   exact Eg (_,(J,M,(N,O),(P,Q),R,(S,U))) rfl [3,4,0,0,1,1,0,0,0] [0,1,2] 3
  refine Z0 ?_
  cases u
  exact Eg (_,(N2,M0,(A0,C0),(A1,C1),N5,(A2,C2))) rfl [7,7,1,1,2,2,1,1,0] [1,2,3] 0
 rintro ⟨a,⟨b,e,⟨f,g⟩,⟨i,j⟩,d,⟨k,m⟩⟩⟩ hy
 subst hy
 refine Z2 ?_
 refine Tb o (λv=> ?_) λv=> ?_
 ·refine Z1 ?_
  have ⟨ak,V,W⟩:=bnd v
  refine Lk [2,2,4,0,1,0,0,0] [0,1,2,3] (oL V) λ⟨X,Y⟩=> ?_
  refine Z0 ?_
  cases W
  exact Eo1 (b,e,(f,g),(i,j),d,(X,Y)) [0,0,0,0,0,0,0,0] [0,1,2]
 refine Y1 ?_
 refine Td [] [1,1,2,2,3,3] mo ?_
 refine Dq 0 ?_
 refine Dq 1 ?_
 refine Dq 2 ?_
 refine Db 3 1 ?_
 refine Db 4 5 ?_
 have ⟨al,Z,aa⟩:=bnd v
 refine Dk [1,1,0] [0,1,3,7] (pV Z) λ⟨ab,⟨ac,ad⟩,⟨ae,af⟩⟩=> ?_
 refine Dq 6 ?_
 refine Dn ?_
 refine Z0 ?_
 cases aa
 exact Eo1 (b,ab,(ac,ad),(ae,af),d,(k,m)) [1,5,5,5,1,0,0,0] [0,1,4]
theorem jr {c:aH} {r:Int} (H:dN c=some r):CT G 15 [.pointer (some ⟨N0,0,none⟩)] [Ch.box N0 94 (ko c N1 N3 N4),Ch.box N1 155 (eS c.aS N2 A0 C0 A1 C1),Ch.box N2 153 (cP c.aS.slot M0),Ch.mp Ty.str false M0 c.aS.slot.parts,Ch.box N3 158 [.int .i64 c.lines.most,.int .i64 c.lines.now,.map M1],Ch.mp aE true M1 c.lines.l,Ch.box N4 161 (eT c.bS N5),Ch.box N5 106 [.slice A2 c.bS.want.l.length C2]] [Im.sl aU A0 C0 c.aS.aK.rows,Im.sl aF A1 C1 c.aS.aK.begun,Im.sl aC A2 C2 c.bS.want.l] (λ_:Unit=> .int .i64 r) (λh=>[Ch.box N0 94 (ko c N1 N3 N4),Ch.box N1 155 (eS c.aS N2 A0 C0 A1 C1),Ch.box N2 153 (cP c.aS.slot M0),Ch.mp Ty.str false M0 c.aS.slot.parts,Ch.box N3 158 [.int .i64 c.lines.most,.int .i64 c.lines.now,.map M1],Ch.mp aE true M1 c.lines.l,Ch.box N4 161 (eT c.bS N5),Ch.box N5 106 [.slice A2 c.bS.want.l.length C2]]) (λh=>[]):=by
 delta dN at H
 refine Cf Go.Proofs.Tryz.func15 λK=> ?_
 refine Z2 ?_
 cases H
 exact Eo1 () [0,0,0,0,0,0,0,0] []
theorem jN {c:aH} {r:Int} (H:dU c=some r):CT G 26 [.pointer (some ⟨N0,0,none⟩)] [Ch.box N0 94 (ko c N1 N3 N4),Ch.box N1 155 (eS c.aS N2 A0 C0 A1 C1),Ch.box N2 153 (cP c.aS.slot M0),Ch.mp Ty.str false M0 c.aS.slot.parts,Ch.box N3 158 [.int .i64 c.lines.most,.int .i64 c.lines.now,.map M1],Ch.mp aE true M1 c.lines.l,Ch.box N4 161 (eT c.bS N5),Ch.box N5 106 [.slice A2 c.bS.want.l.length C2]] [Im.sl aU A0 C0 c.aS.aK.rows,Im.sl aF A1 C1 c.aS.aK.begun,Im.sl aC A2 C2 c.bS.want.l] (λ_:Unit=> .int .i64 r) (λh=>[Ch.box N0 94 (ko c N1 N3 N4),Ch.box N1 155 (eS c.aS N2 A0 C0 A1 C1),Ch.box N2 153 (cP c.aS.slot M0),Ch.mp Ty.str false M0 c.aS.slot.parts,Ch.box N3 158 [.int .i64 c.lines.most,.int .i64 c.lines.now,.map M1],Ch.mp aE true M1 c.lines.l,Ch.box N4 161 (eT c.bS N5),Ch.box N5 106 [.slice A2 c.bS.want.l.length C2]]) (λh=>[]):=by
 delta dU at H
 refine Cf Go.Proofs.Tryz.func26 λK=> ?_
 refine Z2 ?_
 cases H
 exact Eo1 () [0,0,0,0,0,0,0,0] []
theorem nt {n_:Int} {r:(List aB)} (H:fq n_=some r):CT G 158 [.slice none 0 0,.int .i64 n_] [] [] (λh:(Option Addr×Nat)=> .slice h.1 r.length h.2) (λh=>[Ch.arr aC 47 h.1 h.2 r]) (λh=>[]):=by
 delta fq at H
 refine Cf Go.Proofs.Tryz.func158 λK=> ?_
 refine Z3 ?_
 refine Tb H (λH2=> ?_) λH2=> ?_
 ·cases H2
 refine Z3 ?_
 have ⟨d,e,g⟩:=bnd H2
 refine Tjh (η:=(Option Addr×Nat)) (λh=>(λa b=>[(0,.slice a d.length b)]) h.1 h.2) [] (λh=>(λa b=>[Ch.arr aC 47 a b d]) h.1 h.2) [] (λ_=>[]) ?_ ?_
 ·refine Tb e (λc=> ?_) λc=> ?_
  ·refine Z0 ?_
   refine Ly (Yl.G9 rfl rfl rfl rfl rfl rfl rfl) ?_
   refine Z0 ?_
   have ⟨_,i,j⟩:=bnd c
   refine La [] [] (Ac.gz (ty:=aC) (aB.mk 0 0) () i (λ_ _ f hf=>by cases hf) rfl rfl rfl rfl rfl rfl rfl rfl rfl rfl) ?_
   rintro ⟨k,l⟩
   refine Z0 ?_
   have ⟨_,m,n⟩:=bnd j
   refine La [0] [] (Ac.rso m rfl rfl rfl rfl rfl rfl rfl) λ_=> ?_
   refine Z0 ?_
   cases n
   exact Eg (k,l) trivial [0] [] 0
  refine Z0 ?_
  refine E.fZ aC 47 ?_
  cases c
  exact Eg (none,0) trivial [0] [] 0
 rintro ⟨a,b⟩
 refine Z1 ?_
 cases g
 exact Eo1 (a,b) [0] []
theorem mQ {slices:List (List aB)} {r:(List aB)} (H:dO slices=some r):CT G 99 [.slice A0 slices.length C0] [] [Im.sl (Ty.slice aC) A0 C0 slices] (λh:(Option Addr×Nat)=> .slice h.1 r.length h.2) (λh=>[Ch.arr aC 47 h.1 h.2 r]) (λh=>[]):=by
 delta dO at H
 refine Cf Go.Proofs.Tryz.func99 λK=> ?_
 refine Z3 ?_
 refine Z1 ?_
 have ⟨n,o,p⟩:=bnd H
 refine Tj0 [(3,.int .i64 n)] [0] [] [] ?_ ?_
 ·refine Yl0 ?_
  refine Tq (η:=Unit) (λf h=>[(3,.int .i64 f.2),(11,.int .i64 f.1)]) [0,9,10] (λ_ _=>[]) [] (λ_ _=>[]) () [] [] o ?_
  rintro k_ f ⟨⟩ R q s t
  refine Y2 ?_
  refine Tb q (λg=> ?_) λg=> ?_
  ·refine Z1 ?_
   refine Zl ?_
   refine Z1 ?_
   have ⟨S,i,u⟩:=bnd g
   refine L.addr 0 rfl (bH i) λU V v=> ?_
   subst v
   refine Ly (Yl.ia i rfl rfl rfl rfl rfl rfl) ?_
   refine L.el 0 rfl (aI i).2 ?_
   rintro ⟨W,X⟩
   refine Lc 0 0 ?_
   refine Z2 ?_
   refine Tb u (λj=> ?_) λj=> ?_
   ·cases j
   refine Z0 ?_
   cases j
   exact Eg (_,()) (s _ rfl) [] [] 2
  refine Z0 ?_
  cases g
  have hb:=t _ rfl
  subst n
  exact Eg0 [] 0
 refine Z1 ?_
 have ⟨Y,w,x⟩:=bnd p
 refine Lk [] [] (nt w) λ⟨y,z⟩=> ?_
 refine Z2 ?_
 have ⟨k,A,B⟩:=bnd x
 refine Tjh (η:=(Option Addr×Nat)) (λh=>(λa b=>[(6,.slice a k.length b)]) h.1 h.2) [] (λh=>(λa b=>[Ch.arr aC 47 a b k]) h.1 h.2) [] (λ_=>[]) ?_ ?_
 ·refine Yl0 ?_
  refine Tq (η:=(Option Addr×Nat)) (λc h=>(λd e=>[(6,.slice d c.2.length e),(27,.int .i64 c.1)]) h.1 h.2) [25,26] (λc h=>(λd e=>[Ch.arr aC 47 d e c.2]) h.1 h.2) [] (λ_ _=>[]) (y,z) [0] [] A ?_
  rintro k_ c ⟨d,e⟩ Z C F I
  refine Y2 ?_
  refine Tb C (λl=> ?_) λl=> ?_
  ·refine Z1 ?_
   refine Zl ?_
   refine Z1 ?_
   have ⟨aa,m,J⟩:=bnd l
   refine L.addr 0 rfl (bH m) λab ac M=> ?_
   subst M
   refine Ly (Yl.ia m rfl rfl rfl rfl rfl rfl) ?_
   refine L.el 0 rfl (aI m).2 ?_
   rintro ⟨ad,ae⟩
   refine Lc 0 0 ?_
   refine Z0 ?_
   have ⟨_,N,O⟩:=bnd J
   refine La [0] [1] (Ac.ap (ty:=aC) N rfl rfl rfl rfl rfl rfl rfl) ?_
   rintro ⟨P,Q⟩
   refine Z0 ?_
   cases O
   exact Eg (_,(P,Q)) (F _ rfl) [0] [] 2
  refine Z0 ?_
  cases l
  have hb:=I _ rfl
  subst k
  exact Eg (d,e) trivial [0] [] 0
 rintro ⟨a,b⟩
 refine Z1 ?_
 cases B
 exact Eo1 (a,b) [0] []
theorem l7 {s_:bZ} {l:List aB} {r:bZ} (H:fP s_ l=some r):CT G 46 [.pointer (some ⟨N0,0,none⟩),.slice A1 l.length C1] [Ch.box N0 106 [.slice A0 s_.l.length C0]] [Im.sl aC A0 C0 s_.l,Im.sl aC A1 C1 l] (λh:(Option Addr×Nat)=> .tuple #[]) (λh=>[Ch.box N0 106 [.slice h.1 r.l.length h.2]]) (λh=>[Im.sl aC h.1 h.2 r.l]):=by
 delta fP at H
 refine Cf Go.Proofs.Tryz.func46 λK=> ?_
 refine T.scope ?_
 refine Y1 ?_
 refine T.label ?_
 refine Z1 ?_
 have ⟨t,O,P⟩:=bnd H
 refine T.ou (η:=Unit×((Option Addr×Nat))) (λh=>True) (λh=>(λi j=>[]) h.2.1 h.2.2) (λh=>(λi j=>[Ch.box N0 106 [.slice i t.l.length j]]) h.2.1 h.2.2) (λh=>(λi j=>[Im.sl aC i j t.l,Im.sl aC A0 C0 s_.l,Im.sl aC A1 C1 l]) h.2.1 h.2.2) ?_ ?_
 ·refine Yl0 ?_
  refine Tq (η:=(Option Addr×Nat)) (λb h=>(λc d=>[(11,.int .i64 b.2)]) h.1 h.2) [0,9,10] (λb h=>(λc d=>[Ch.box N0 106 [.slice c b.1.l.length d]]) h.1 h.2) [] (λb h=>(λc d=>[Im.sl aC c d b.1.l]) h.1 h.2) (A0,C0) [0] [0] O ?_
  rintro k_ b ⟨c,d⟩ a6 Q R S
  refine Y2 ?_
  refine Tb Q (λu=> ?_) λu=> ?_
  ·refine Y1 ?_
   have ⟨F,U,V⟩:=bnd u
   refine Tjh (η:=(Option Addr×Nat)) (λ_=>[]) [0,9,10,11] (λh=>(λm n=>[Ch.box N0 106 [.slice m F.l.length n]]) h.1 h.2) [] (λh=>(λm n=>[Im.sl aC m n F.l]) h.1 h.2) ?_ ?_
   ·refine Zl ?_
    refine Z1 ?_
    have ⟨a7,v,W⟩:=bnd U
    refine L.addr 2 rfl (bH v) λa8 a9 X=> ?_
    subst X
    refine Ly (Yl.ia v rfl rfl rfl rfl rfl rfl) ?_
    refine L.el 2 rfl (aI v).2 ?_
    rintro _
    refine Lc 0 0 ?_
    refine Ll λw=> ?_
    refine Lt 0 ?_
    refine Z2 ?_
    have ⟨ba,Y,Z⟩:=bnd W
    refine Lk [] [] (lz Y) λ⟨⟩=> ?_
    refine Lt 0 ?_
    refine Z1 ?_
    have ⟨bb,aa,ab⟩:=bnd Z
    refine Lk [] [] (iV aa) λ⟨⟩=> ?_
    refine Z0 ?_
    refine Tb ab (λx=> ?_) λx=> ?_
    ·refine Z0 ?_
     cases x
     exact Eg (c,d) trivial [1] [1] 1
    refine Z3 ?_
    have ⟨y,ac,I⟩:=bnd x
    refine Tj (η:=((List aB)×aB)×((Option Addr×Nat))) (λh=>y = .inl h.1) (λh=>(λe=>(λq s=>[(6,.slice q e.1.length s)]) h.2.1 h.2.2) h.1) [0,5,9,10,11] (λh=>(λe=>(λq s=>[Ch.arr aC 47 q s e.1,Ch.box w 47 [.int .i64 e.2.from_,.int .i64 e.2.to]]) h.2.1 h.2.2) h.1) [1] (λ_=>[]) ?_ ?_
    ·refine Yl0 ?_
     refine T.fZ aC 47 ?_
     refine Tq (η:=(Option Addr×Nat)) (λa h=>(λf g=>[(6,.slice f a.2.2.length g),(24,.int .i64 a.2.1)]) h.1 h.2) [0,5,9,10,11,22,23] (λa h=>(λf g=>[Ch.arr aC 47 f g a.2.2,Ch.box w 47 [.int .i64 a.1.from_,.int .i64 a.1.to]]) h.1 h.2) [2] (λ_ _=>[]) (none,0) [0,0,0] [] ac ?_
     rintro k_ a ⟨f,g⟩ ad ae af J
     refine Y2 ?_
     refine Tb ae (λz=> ?_) λz=> ?_
     ·refine Y1 ?_
      have ⟨M,ag,N⟩:=bnd z
      refine Tj (η:=((List aB)×aB)×((Option Addr×Nat))) (λh=>M = .inl h.1) (λh=>(λk=>(λo p=>[(6,.slice o k.1.length p)]) h.2.1 h.2.2) h.1) [0,5,9,10,11,22,23,24] (λh=>(λk=>(λo p=>[Ch.arr aC 47 o p k.1,Ch.box w 47 [.int .i64 k.2.from_,.int .i64 k.2.to]]) h.2.1 h.2.2) h.1) [2] (λ_=>[]) ?_ ?_
      ·refine Zl ?_
       refine Z1 ?_
       have ⟨ah,A,ai⟩:=bnd ag
       refine L.addr 1 rfl (bH A) λbc bd aj=> ?_
       subst aj
       refine Ly (Yl.ia A rfl rfl rfl rfl rfl rfl) ?_
       refine L.el 1 rfl (aI A).2 ?_
       rintro _
       refine Lc 0 0 ?_
       refine Ll λbe=> ?_
       refine Z0 ?_
       refine Lt 0 ?_
       refine Zl ?_
       refine Z1 ?_
       refine Tb ai (λB=> ?_) λB=> ?_
       ·refine Z0 ?_
        refine La [] [] (Ac.bs (ty:=aC) (xs:=[ah]) (.cons () [] rfl .nil) rfl rfl rfl rfl rfl rfl rfl) λbf=> ?_
        refine L.frz 0 rfl ?_
        have ⟨_,ak,al⟩:=bnd B
        refine La [1] [0] (Ac.ap (ty:=aC) ak rfl rfl rfl rfl rfl rfl rfl) ?_
        rintro ⟨am,an⟩
        refine Z0 ?_
        cases al
        exact Eg (_,(am,an)) rfl [0,1,1] [] 2
       refine Z1 ?_
       refine Tb B (λC=> ?_) λC=> ?_
       ·refine Y1 ?_
        refine Td [14] [0,1,1] mo ?_
        refine Dq 0 ?_
        refine Dq 1 ?_
        refine Db 2 1 ?_
        refine Dq 4 ?_
        refine Dq 5 ?_
        refine Dq 6 ?_
        refine Db 7 2 ?_
        refine Dq 8 ?_
        have ⟨_,ao,aq⟩:=bnd C
        refine D.rsl 2 9 ao rfl rfl rfl rfl rfl rfl rfl rfl rfl rfl rfl rfl rfl rfl ?_
        intro ar au
        refine Da [] [] rfl rfl (Ac.bs (ty:=aC) (xs:=[a.1]) (.cons () [] rfl .nil) rfl rfl rfl rfl rfl rfl rfl) λav=> ?_
        refine D.frz 1 rfl ?_
        refine D.frz 0 rfl ?_
        refine Da [] [1,0,2] rfl rfl (Ac.bs (ty:=(Ty.slice aC)) (xs:=[a.2.2,[a.1],(cut b.1.l a.2.1 (b.1.l.length:Int))]) (.cons (f,g) [0] rfl (.cons ((some ⟨av,0,none⟩),1) [1] rfl (.cons (ar,au) [2] rfl .nil))) rfl rfl rfl rfl rfl rfl rfl) λbg=> ?_
        refine D.frz 0 rfl ?_
        have ⟨bh,aw,ax⟩:=bnd aq
        refine Dk [] [0] (mQ aw) λ⟨ay,az⟩=> ?_
        refine Dq 12 ?_
        refine Dq 13 ?_
        refine Dt 2 ?_
        refine Dn ?_
        refine Z0 ?_
        obtain ⟨bi,hz,a0⟩:=gA ax
        subst M
        obtain rfl:=(sm N).symm
        refine Z0 ?_
        obtain ⟨bj,hz,a1⟩:=cK a0
        subst ad
        have hb:=J _ rfl
        subst y
        obtain rfl:=(sm I).symm
        refine Z0 ?_
        refine E.frz 3 rfl ?_
        cases a1
        exact Eg (ay,az) trivial [0] [0] 7
       refine Z0 ?_
       refine Lt 2 ?_
       refine Z0 ?_
       cases C
       exact Eg (_,(f,g)) rfl [2,0,1] [] 1
      rintro ⟨k,⟨o,p⟩⟩ hy
      subst hy
      refine Z0 ?_
      cases N
      exact Eg (_,(o,p)) (af _ rfl) [0,0,0] [] 0
     refine Z0 ?_
     cases z
     have hb:=J _ rfl
     subst y
     exact Eg (_,(f,g)) rfl [0,0,0] [] 0
    rintro ⟨e,⟨q,s⟩⟩ hy
    subst hy
    refine Z0 ?_
    refine La [] [] (Ac.bs (ty:=aC) (xs:=[e.2]) (.cons () [] rfl .nil) rfl rfl rfl rfl rfl rfl rfl) λbk=> ?_
    refine L.frz 0 rfl ?_
    have ⟨_,a2,a3⟩:=bnd I
    refine La [0] [0] (Ac.ap (ty:=aC) a2 rfl rfl rfl rfl rfl rfl rfl) ?_
    rintro ⟨a4,a5⟩
    refine Z0 ?_
    refine Lt 2 ?_
    refine Z0 ?_
    refine E.frz 1 rfl ?_
    cases a3
    exact Eg (a4,a5) trivial [0] [0] 3
   rintro ⟨m,n⟩
   refine Z0 ?_
   cases V
   exact Eg (_,(m,n)) (R _ rfl) [0] [0] 2
  refine Z0 ?_
  cases u
  have hb:=S _ rfl
  subst t
  exact Egx ((),(c,d)) trivial [0] [0,1,2]
 rintro ⟨_,⟨i,j⟩⟩ _
 refine E.scn ?_
 refine E.off ?_
 cases P
 exact Eo (i,j) [0] [0] .nil
theorem jX {s_:List aB} (a_0:Option Addr) (c_0:Nat) {r:List aB} (H:eV s_=some r):CT G 157 [.slice a_0 s_.length c_0] [] [Im.sl aC a_0 c_0 s_] (λh:(Option Addr×Nat)=> .slice h.1 r.length h.2) (λh=>[Ch.arr aC 47 h.1 h.2 r]) (λh=>[]):=by
  delta eV at H
  refine Cf Go.Proofs.Tryz.func157 λK=> ?_
  have ⟨_,h0,H⟩:=bnd H
  have hr:=Option.some.inj H
  refine T.seq (T.region (L.q 1 rfl (L.nil (E.then (T.seq (T.seq (T.region ?_)))))))
  refine L.q 1 rfl ?_
  refine L.FM 0 rfl rfl rfl rfl rfl rfl rfl rfl rfl (λha hx=> ?_) ?_
  · refine L.nil (E.then (T.cond rfl (λ_=> ?_) (λh=>nomatch h)))
    refine T.seq (T.region (L.q 1 rfl (L.nil (E.then (T.ret (E.pZ ?_))))))
    subst hx
    subst r
    refine E.fZ aC 47 ?_
    exact E.ret (none,0) [0] [] (.tmp rfl .nil) rfl rfl rfl
  · refine L.nil (E.then (T.cond rfl (λh=>nomatch h) (λ_=> ?_)))
    refine T.skip (E.then (T.seq (T.region ?_)))
    refine L.a [] [] (Ac.bs (ty:=aC) (xs:=[]) .nil rfl rfl rfl rfl rfl rfl rfl) rfl rfl rfl rfl rfl ?_
    intro g1
    refine L.q 1 rfl ?_
    refine L.a [0] [0] (Ac.ap (ty:=aC) h0 rfl rfl rfl rfl rfl rfl rfl) rfl rfl rfl rfl rfl ?_
    rintro ⟨a1,c1⟩
    refine L.q 1 rfl ?_
    refine L.nil (E.then (T.ret ?_))
    subst r
    exact E.ret (a1,c1) [0] [] (.tmp rfl .nil) rfl rfl rfl
theorem rh {s_:bZ} {r:(List aB)} (H:kK s_=some r):CT G 96 [.pointer (some ⟨N0,0,none⟩)] [Ch.box N0 106 [.slice A0 s_.l.length C0]] [Im.sl aC A0 C0 s_.l] (λh:(Option Addr×Nat)=> .slice h.1 r.length h.2) (λh=>[Ch.arr aC 47 h.1 h.2 r,Ch.box N0 106 [.slice A0 s_.l.length C0]]) (λh=>[]):=by
 delta kK at H
 refine Cf Go.Proofs.Tryz.func96 λK=> ?_
 refine Z2 ?_
 have ⟨r1,h2,H3⟩:=bnd H
 refine Lk [] [0] (jX A0 C0 h2) λ⟨a4,c5⟩=> ?_
 refine Z0 ?_
 cases H3
 exact Eo1 (a4,c5) [0,0] []
theorem po {c:aP} (g_0:Nat) (v_0_0:Option Nat) {r:(List aB)} (H:eE c=some r):CT G 45 [.pointer (some ⟨g_0,0,none⟩)] [Ch.box g_0 158 [.int .i64 c.most,.int .i64 c.now,.map v_0_0],Ch.mp aE true v_0_0 c.l] [] (λh:(Option Addr×Nat)=> .slice h.1 r.length h.2) (λh=>[Ch.arr aC 47 h.1 h.2 r,Ch.box g_0 158 [.int .i64 c.most,.int .i64 c.now,.map v_0_0],Ch.mp aE true v_0_0 c.l]) (λh=>[]):=by
  delta eE at H
  have ⟨_,h1,H2⟩:=bnd H
  have ⟨s1,h3,H4⟩:=bnd H2
  refine Cf Go.Proofs.Tryz.func45 λK=> ?_
  refine Z2 ?_
  refine Ll λg1=> ?_
  refine Z2 ?_
  refine La [2] [] (Ac.Hd h1 rfl rfl rfl rfl) λg5=> ?_
  refine Yl0 ?_
  refine T.dD [Im.sl aC none 0 []] (λA w _ _ f hf=>by rw [List.mem_singleton.1 hf]; exact Im.bV A w) ?_
  refine T.lpm (η:=(Option Addr×Nat)) (λR s h=>[(3,.pointer (some ⟨g1,0,none⟩)),(9,.pointer (some ⟨g5,0,none⟩))]) (λR s h=>[Ch.mit aE true v_0_0 (c.l.getD []) g5 R none,Ch.box g1 106 [.slice h.1 s.l.length h.2],Ch.box g_0 158 [.int .i64 c.most,.int .i64 c.now,.map v_0_0]]) (λR s h=>[Im.sl aC h.1 h.2 s.l]) (none,0) [0,0,0] [0] h3 ⟨rfl,rfl,trivial⟩ rfl rfl ?_
  rintro R s ⟨a,c⟩ hA hB
  refine Z1 ?_
  refine La [0] [] (Ac.mnx rfl rfl) λz=> ?_
  rcases z with hR | ⟨k,x,R',hR,u1,u2⟩
  · refine Z1 ?_
    obtain ⟨z,hz,hr⟩:=hA hR
    cases hz
    have e:=hr _ rfl
    subst e
    refine T.cond rfl (λh=>nomatch h) (λ_=> ?_)
    refine T.He h1 [0] rfl ?_
    refine Z1 ?_
    refine Lk [1] [0] (rh H4) λ⟨a2,c2⟩=> ?_
    refine Z0 ?_
    exact Eo1 (a2,c2) [0,2,1] []
  refine Z1 ?_
  obtain ⟨z,hz,hr,hb⟩:=hB _ _ hR
  refine T.cond rfl (λ_=> ?_) (λh=>nomatch h)
  refine Zl ?_
  refine Z1 ?_
  refine La [0] [] (Ac.men rfl rfl) λu=> ?_
  refine Z0 ?_
  refine La [] [] (Ac.bs (ty:=aC) (xs:=[aB.mk k (IntKind.i64.wrap (k+1))]) (.cons () [] rfl .nil) rfl rfl rfl rfl rfl rfl rfl) λg7=> ?_
  refine L.frz 0 rfl ?_
  have ⟨s2,h5,h6⟩:=bnd hz
  refine Lk [1] [1,0] (l7 h5) λ⟨a2,c2⟩=> ?_
  refine Z0 ?_
  cases h6
  exact Egx ((R',s2),(a2,c2)) (hr _ rfl) [1,0,0] [0]
theorem pW {c:aP} {i:Int} {r:(List aM)×Bool} (H:fv c i=some r):CT G 102 [.pointer (some ⟨N0,0,none⟩),.int .i64 i] [Ch.box N0 158 [.int .i64 c.most,.int .i64 c.now,.map M0],Ch.mp aE true M0 c.l] [] (λh:(Option Addr×Nat)=> .tuple #[.slice h.1 r.1.length h.2,.bool r.2]) (λh=>[Ch.arr aF 149 h.1 h.2 r.1,Ch.box N0 158 [.int .i64 c.most,.int .i64 c.now,.map M0],Ch.mp aE true M0 c.l]) (λh=>[]):=by
 delta fv at H
 refine Cf Go.Proofs.Tryz.func102 λK=> ?_
 refine Z2 ?_
 refine La [1] [] (Ac.ml (ty:=aE) (ag:=true) (vv:=(λh:(Option Addr×Nat)=>(λa1 c2=> .agg #[.slice a1 ((mgd c.l i (CacheEntry.mk ([]:List aM) 0)).l).length c2,.int .i64 ((mgd c.l i (CacheEntry.mk ([]:List aM) 0)).at_)]) h.1 h.2)) i (CacheEntry.mk ([]:List aM) 0) (none,0) rfl rfl rfl rfl rfl rfl rfl rfl rfl (λ_ _ f hf=>by rw [List.mem_singleton.1 hf]; exact Im.bV _ _) o3 (λ_=>rfl)) ?_
 rintro ⟨a1,c2⟩
 refine Z0 ?_
 refine Ll λg4=> ?_
 refine Lt 0 ?_
 refine Z1 ?_
 have ⟨r5,h6,H7⟩:=bnd H
 refine Lk [] [0] (ie a1 c2 h6) λ⟨a8,c9⟩=> ?_
 refine Z0 ?_
 cases H7
 exact Eo (a8,c9) [0,2,1] [] (.tmp rfl (.tmp rfl .nil))
theorem ri {c:aP} {i:Int} {r:(List aM)×Bool×aP} (H:ff c i=some r):CT G 48 [.pointer (some ⟨N0,0,none⟩),.int .i64 i] [Ch.box N0 158 [.int .i64 c.most,.int .i64 c.now,.map M0],Ch.mp aE true M0 c.l] [] (λh:(Option Addr×Nat)=> .tuple #[.slice h.1 r.1.length h.2,.bool r.2.1]) (λh=>[Ch.arr aF 149 h.1 h.2 r.1,Ch.box N0 158 [.int .i64 r.2.2.most,.int .i64 r.2.2.now,.map M0],Ch.mp aE true M0 r.2.2.l]) (λh=>[]):=by
 delta ff at H
 refine Cf Go.Proofs.Tryz.func48 λK=> ?_
 refine Z3 ?_
 refine La [1] [] (Ac.ml (ty:=aE) (ag:=true) (vv:=(λh:(Option Addr×Nat)=>(λa1 c2=> .agg #[.slice a1 ((mgd c.l i (CacheEntry.mk ([]:List aM) 0)).l).length c2,.int .i64 ((mgd c.l i (CacheEntry.mk ([]:List aM) 0)).at_)]) h.1 h.2)) i (CacheEntry.mk ([]:List aM) 0) (none,0) rfl rfl rfl rfl rfl rfl rfl rfl rfl (λ_ _ f hf=>by rw [List.mem_singleton.1 hf]; exact Im.bV _ _) o3 (λ_=>rfl)) ?_
 rintro ⟨a1,c2⟩
 refine Z0 ?_
 refine Ll λg4=> ?_
 refine Lt 0 ?_
 refine Z1 ?_
 have ⟨a,d,e⟩:=bnd H
 refine Tj0 [] [0,1] [Ch.mp aE true M0 a.l,Ch.box N0 158 [.int .i64 a.most,.int .i64 a.now,.map M0]] [0] ?_ ?_
 ·refine Tb d (λb=> ?_) λb=> ?_
  ·refine Z0 ?_
   have ⟨p,g,j⟩:=bnd b
   refine Lk [2,1] [0] (l9 g) λ⟨⟩=> ?_
   refine Z0 ?_
   cases j
   exact Eg0 [1,0,0] 0
  refine Z0 ?_
  cases b
  exact Eg0 [1,1,0] 0
 refine Z1 ?_
 have ⟨q,k,m⟩:=bnd e
 refine Lk [1,0] [] (pW k) λ⟨n,o⟩=> ?_
 refine Z0 ?_
 cases m
 exact Eo (n,o) [0,0,0] [] (.tmp rfl (.tmp rfl .nil))
theorem sN {s_:bZ} {r:Int} (H:iZ s_=some r):CT G 104 [.pointer (some ⟨N0,0,none⟩)] [Ch.box N0 106 [.slice A0 s_.l.length C0]] [Im.sl aC A0 C0 s_.l] (λ_:Unit=> .int .i64 r) (λh=>[Ch.box N0 106 [.slice A0 s_.l.length C0]]) (λh=>[]):=by
 delta iZ at H
 refine Cf Go.Proofs.Tryz.func104 λK=> ?_
 refine Z3 ?_
 refine Z1 ?_
 have ⟨d,e,f⟩:=bnd H
 refine Tj0 [(3,.int .i64 d)] [] [] [0] ?_ ?_
 ·refine Yl0 ?_
  refine Tq (η:=Unit) (λa h=>[(3,.int .i64 a.2),(11,.int .i64 a.1)]) [9,10] (λ_ _=>[]) [0] (λ_ _=>[]) () [0] [] e ?_
  rintro k_ a ⟨⟩ n g i j
  refine Y2 ?_
  refine Tb g (λb=> ?_) λb=> ?_
  ·refine Z1 ?_
   refine Zl ?_
   refine Z1 ?_
   have ⟨o,c,k⟩:=bnd b
   refine L.addr 0 rfl (bH c) λp q m=> ?_
   subst m
   refine Ly (Yl.ia c rfl rfl rfl rfl rfl rfl) ?_
   refine L.el 0 rfl (aI c).2 ?_
   rintro _
   refine Lc 0 0 ?_
   refine Ll λs=> ?_
   refine Lt 0 ?_
   refine Z0 ?_
   cases k
   exact Eg (_,()) (i _ rfl) [1] [] 1
  refine Z0 ?_
  cases b
  have hb:=j _ rfl
  subst d
  exact Eg0 [0] 0
 refine Z1 ?_
 cases f
 exact Eo1 () [0] []
theorem pX {f:bE} {x_:aB} {aK:List aB} {r:Int×bE} (H:eO f x_ aK=some r):CT G 49 [.pointer (some ⟨N0,0,none⟩),.agg #[.int .i64 x_.from_,.int .i64 x_.to],.slice A1 aK.length C1] [Ch.box N0 161 (eT f N1),Ch.box N1 106 [.slice A0 f.want.l.length C0]] [Im.sl aC A0 C0 f.want.l,Im.sl aC A1 C1 aK] (λh:Nat×(Option Addr×Nat)=> .int .i64 r.1) (λh=>[Ch.box N0 161 (eT r.2 h.1),Ch.box h.1 106 [.slice h.2.1 r.2.want.l.length h.2.2]]) (λh=>[Im.sl aC h.2.1 h.2.2 r.2.want.l]):=by
 delta eO at H
 refine Cf Go.Proofs.Tryz.func49 λK=> ?_
 refine Z1 ?_
 refine Lx λg1=> ?_
 refine Y1 ?_
 refine Td [7] [0,0,0] mo ?_
 refine Dq 0 ?_
 refine Db 1 0 ?_
 refine Dq 3 ?_
 refine Db 4 0 ?_
 have ⟨a,b,c⟩:=bnd H
 refine Dk [] [] (mv b) λ⟨⟩=> ?_
 have ⟨d,e,g⟩:=bnd c
 refine Dk [] [] (mv e) λ⟨⟩=> ?_
 refine Dq 6 ?_
 refine Dt 0 ?_
 refine Dn ?_
 refine Y1 ?_
 refine Td [11] [0,0,0] mo ?_
 refine Dq 0 ?_
 refine Db 1 0 ?_
 refine Dq 2 ?_
 refine Db 3 0 ?_
 refine Dq 4 ?_
 refine Dq 5 ?_
 refine Dq 6 ?_
 refine Db 7 1 ?_
 refine Dq 8 ?_
 refine Dq 9 ?_
 refine Dq 10 ?_
 refine Dt 0 ?_
 refine Dn ?_
 refine Z1 ?_
 have ⟨v,i,j⟩:=bnd g
 refine Lk [1,1] [0] (l8 i) λ⟨k,⟨w,x⟩⟩=> ?_
 refine Y1 ?_
 refine Td [] [0,1] mo ?_
 refine Dq 0 ?_
 refine Dq 1 ?_
 refine Dq 2 ?_
 refine Db 3 0 ?_
 refine Db 4 1 ?_
 refine Da [] [] rfl rfl (Ac.bs (ty:=aC) (xs:=[(aB.mk a (cB d (IntKind.i64.wrap (a+f.most))))]) (.cons () [] rfl .nil) rfl rfl rfl rfl rfl rfl rfl) λy=> ?_
 refine D.frz 0 rfl ?_
 have ⟨z,m,n⟩:=bnd j
 refine Dk [0] [1,0] (l7 m) λ⟨A,B⟩=> ?_
 refine Dn ?_
 refine Z1 ?_
 have ⟨C,o,p⟩:=bnd n
 refine Lk [2] [0,4] (om o) λ⟨q,s⟩=> ?_
 refine Z1 ?_
 have ⟨F,t,u⟩:=bnd p
 refine Lk [0] [0] (sN t) λ⟨⟩=> ?_
 refine Z0 ?_
 cases u
 exact Eo1 (k,(q,s)) [1,0] [0]
theorem lW {c:aH} {from_:Int} {to:Int} {r:Int×aH} (H:dV c from_ to=some r):CT G 16 [.pointer (some ⟨N0,0,none⟩),.int .i64 from_,.int .i64 to] [Ch.box N0 94 (ko c N1 N3 N4),Ch.box N1 155 (eS c.aS N2 A0 C0 A1 C1),Ch.box N2 153 (cP c.aS.slot M0),Ch.mp Ty.str false M0 c.aS.slot.parts,Ch.box N3 158 [.int .i64 c.lines.most,.int .i64 c.lines.now,.map M1],Ch.mp aE true M1 c.lines.l,Ch.box N4 161 (eT c.bS N5),Ch.box N5 106 [.slice A2 c.bS.want.l.length C2]] [Im.sl aU A0 C0 c.aS.aK.rows,Im.sl aF A1 C1 c.aS.aK.begun,Im.sl aC A2 C2 c.bS.want.l] (λh:Nat×(Option Addr×Nat)=> .int .i64 r.1) (λh=>[Ch.box N0 94 (ko r.2 N1 N3 N4),Ch.box N1 155 (eS r.2.aS N2 A0 C0 A1 C1),Ch.box N2 153 (cP r.2.aS.slot M0),Ch.mp Ty.str false M0 r.2.aS.slot.parts,Ch.box N3 158 [.int .i64 r.2.lines.most,.int .i64 r.2.lines.now,.map M1],Ch.mp aE true M1 r.2.lines.l,Ch.box N4 161 (eT r.2.bS h.1),Ch.box h.1 106 [.slice h.2.1 r.2.bS.want.l.length h.2.2]]) (λh=>[Im.sl aU A0 C0 r.2.aS.aK.rows,Im.sl aF A1 C1 r.2.aS.aK.begun,Im.sl aC h.2.1 h.2.2 r.2.bS.want.l]):=by
 delta dV at H
 refine Cf Go.Proofs.Tryz.func16 λK=> ?_
 refine Z2 ?_
 have ⟨r1,h2,H3⟩:=bnd H
 refine Lk [] [] (jk h2) λ⟨⟩=> ?_
 refine Z0 ?_
 have ⟨r4,h5,H6⟩:=bnd H3
 refine Lk [] [] (jk h5) λ⟨⟩=> ?_
 refine Z2 ?_
 have ⟨r7,h8,H9⟩:=bnd H6
 refine Lk [4,4] [] (po N3 M1 h8) λ⟨n,o⟩=> ?_
 refine Z1 ?_
 refine Ll λx=> ?_
 refine Z1 ?_
 refine L.dD [Im.sl aC none 0 []] (λA w _ _ f hf=>by rw [List.mem_singleton.1 hf]; exact Im.bV A w) ?_
 refine L.frz 1 rfl ?_
 have ⟨p,y,z⟩:=bnd H9
 refine Lk [0] [1,0] (l7 y) λ⟨q,s⟩=> ?_
 refine Z2 ?_
 have ⟨i,B,C⟩:=bnd z
 refine Lk [0] [0] (oI B) λ⟨ae,t⟩=> ?_
 refine Z0 ?_
 have ⟨d,F,I⟩:=bnd C
 refine Tj0 [] [0,1,2,7] [Ch.mp aE true M1 d.l,Ch.box N3 158 [.int .i64 d.most,.int .i64 d.now,.map M1]] [1,4,5,6,8,9,7] ?_ ?_
 ·refine Yl0 ?_
  refine Tq (η:=Unit) (λa h=>[(37,.int .i64 a.2)]) [0,1,2,7,35,36] (λa h=>[Ch.mp aE true M1 a.1.l,Ch.box N3 158 [.int .i64 a.1.most,.int .i64 a.1.now,.map M1]]) [1,4,5,6,8,9,0,7] (λ_ _=>[]) () [3,2,1,1,1,1,2,2,0,0] [] F ?_
  rintro k_ a ⟨⟩ af J M N
  refine Y2 ?_
  refine Tb J (λj=> ?_) λj=> ?_
  ·refine Z1 ?_
   refine Zl ?_
   refine Z1 ?_
   have ⟨e,k,O⟩:=bnd j
   refine L.iw 8 rfl (bH k) λu P=> ?_
   subst P
   refine Ly (Yl.ia k rfl rfl rfl rfl rfl rfl) ?_
   refine Ly (Yl.lo (v:= .agg #[.int .i64 e.from_,.int .i64 e.to]) 8 a.2.toNat 0 (aI k).2 rfl rfl rfl rfl (λ_=>rfl)) ?_
   refine Ll λQ=> ?_
   refine Lt 0 ?_
   refine Z1 ?_
   have ⟨g,R,S⟩:=bnd O
   refine T.ou (η:=Unit×Unit) (λh=>True) (λh=>[(0,.pointer (some ⟨N0,0,none⟩)),(1,.int .i64 r1),(2,.int .i64 (cB r4 (IntKind.i64.wrap (r1+c.config.cache)))),(7,.slice n r7.length o),(35,.slice (some ⟨u,0,none⟩) i.length t),(36,.int .i64 (i.length:Int)),(37,.int .i64 a.2)]) (λh=>[Ch.mp aE true M1 g.l,Ch.box N3 158 [.int .i64 g.most,.int .i64 g.now,.map M1],Ch.box Q 47 [.int .i64 e.from_,.int .i64 e.to],Ch.box x 106 [.slice q p.l.length s],Ch.box N0 94 (ko c N1 N3 N4),Ch.box N1 155 (eS c.aS N2 A0 C0 A1 C1),Ch.box N2 153 (cP c.aS.slot M0),Ch.box N4 161 (eT c.bS N5),Ch.box N5 106 [.slice A2 c.bS.want.l.length C2],Ch.arr aC 47 (some ⟨u,0,none⟩) t i,Ch.mp Ty.str false M0 c.aS.slot.parts]) (λh=>[Im.sl aC q s p.l,Im.sl aC n o r7,Im.sl aC none 0 [],Im.sl aU A0 C0 c.aS.aK.rows,Im.sl aF A1 C1 c.aS.aK.begun,Im.sl aC A2 C2 c.bS.want.l]) ?_ ?_
   ·refine Yl0 ?_
    refine Tq (η:=Unit) (λb h=>[(11,.int .i64 b.2)]) [0,1,2,7,10,35,36,37] (λb h=>[Ch.mp aE true M1 b.1.l,Ch.box N3 158 [.int .i64 b.1.most,.int .i64 b.1.now,.map M1]]) [0,3,4,5,6,7,8,9,10] (λ_ _=>[]) () [1,1,0,0,0,0,0,0,0,0,0] [] R ?_
    rintro k_ b ⟨⟩ ag U V W
    refine Z2 ?_
    refine Tb U (λm=> ?_) λm=> ?_
    ·refine Z1 ?_
     refine Zl ?_
     have ⟨ah,X,Y⟩:=bnd m
     refine Lk [1,0] [] (ri X) λ⟨ai,aj⟩=> ?_
     refine Z0 ?_
     cases Y
     exact Eg (_,()) (V _ rfl) [2,1,1,1,1,1,1,1,1,1,1] [] 0
    refine Z0 ?_
    cases m
    have hb:=W _ rfl
    subst g
    exact Egx ((),()) trivial [0,0,0,0,0,0,0,0,0,0,0] [0,1,2,3,4,5]
   rintro ⟨_,⟨⟩⟩ _
   refine Z0 ?_
   cases S
   exact Eg (_,()) (M _ rfl) [0,0,1,1,1,1,1,1,1,1] [] 0
  refine Z0 ?_
  cases j
  have hb:=N _ rfl
  subst d
  exact Eg0 [0,0,0,0,0,0,0,0,1] 0
 refine Z1 ?_
 have ⟨ak,Z,aa⟩:=bnd I
 refine Lk [6,6] [5,1] (pX Z) λ⟨ab,⟨ac,ad⟩⟩=> ?_
 refine Z0 ?_
 cases aa
 exact Eo1 (ab,(ac,ad)) [5,5,5,5,3,2,0,0] [4,5,0]
theorem uK {r:Bool} (H:kj=some r):CT G 8 [] [] [Im.sl (Ty.int .u32) (some ⟨0,0,none⟩) 16 dE] (λ_:Unit=> .bool r) (λh=>[]) (λh=>[]):=by
 delta kj at H
 refine Cf Go.Proofs.Tryz.func8 λK=> ?_
 refine Z2 ?_
 have ⟨r1,h2,H3⟩:=bnd H
 refine Lk [] [] (qS h2) λ⟨g4,g5,g6,v7,⟨a8,c9⟩,⟨af,ag⟩,s,t,u,ah,⟨ai,aj⟩⟩=> ?_
 refine Z2 ?_
 refine Ly (Yl.pn rfl rfl rfl rfl rfl rfl) ?_
 refine Z0 ?_
 refine T.cond rfl (λh=>nomatch h) (λ_=> ?_)
 refine Z1 ?_
 have ⟨ak,C,F⟩:=bnd H3
 refine Lk [0,0,0,0,0,0,0,0] [0,1,2,3] (gY C) λ⟨al,am⟩=> ?_
 refine Z2 ?_
 refine Tb F (λi=> ?_) λi=> ?_
 ·refine Z1 ?_
  cases i
  exact Eo1 () [] []
 refine Z1 ?_
 have ⟨I,j,J⟩:=bnd i
 refine L.iw 0 rfl (bH j) λan M=> ?_
 subst M
 refine Ly (Yl.ia j rfl rfl rfl rfl rfl rfl) ?_
 refine Ly (Yl.lo (v:= .string I) 0 ((0:Int).toNat) 0 (aI j).2 rfl rfl rfl rfl (λ_=>rfl)) ?_
 have ⟨ao,N,O⟩:=bnd J
 refine Lk [] [6] (qY N) λ⟨ap,aq⟩=> ?_
 refine Z0 ?_
 refine Ll λar=> ?_
 refine Lt 0 ?_
 refine Z1 ?_
 refine La [] [] (Ac.bs (ty:=(Ty.int .i64)) (xs:=[0,0]) (.cons () [] rfl (.cons () [] rfl .nil)) rfl rfl rfl rfl rfl rfl rfl) λau=> ?_
 refine Z0 ?_
 refine L.frz 0 rfl ?_
 have ⟨av,P,Q⟩:=bnd O
 refine Lk [] [0,8] (nQ P) λ⟨⟩=> ?_
 have ⟨aw,R,S⟩:=bnd Q
 refine Lk [2,2,2,2,2,2,2,2] [2,3,4,8] (lV R) λ⟨w,x,⟨y,z⟩,⟨A,B⟩,b,⟨c,d⟩⟩=> ?_
 refine Y1 ?_
 have ⟨a,U,V⟩:=bnd S
 refine Tjh (η:=Nat×(Option Addr×Nat)) (λh=>(λe f g=>[(0,.bool a.1)]) h.1 h.2.1 h.2.2) [] (λh=>(λe f g=>[Ch.mp Ty.str false x a.2.aS.slot.parts,Ch.mp aE true t a.2.lines.l,Ch.box g4 94 (ko a.2 g5 s u),Ch.box g5 155 (eS a.2.aS w y z A B),Ch.box w 153 (cP a.2.aS.slot x),Ch.box s 158 [.int .i64 a.2.lines.most,.int .i64 a.2.lines.now,.map t],Ch.box u 161 (eT a.2.bS e),Ch.box e 106 [.slice f a.2.bS.want.l.length g]]) h.1 h.2.1 h.2.2) [8] (λh=>(λe f g=>[Im.sl aU y z a.2.aS.aK.rows,Im.sl aF A B a.2.aS.aK.begun,Im.sl aC f g a.2.bS.want.l]) h.1 h.2.1 h.2.2) ?_ ?_
 ·refine Z0 ?_
  refine Lw 29 U (λk=> ?_) λk=> ?_
  ·refine Z0 ?_
   refine Lw 34 k (λm=> ?_) λm=> ?_
   ·refine Z0 ?_
    refine Lw 39 m (λn=> ?_) λn=> ?_
    ·refine Z0 ?_
     refine Lw 43 n (λo=> ?_) λo=> ?_
     ·refine Z0 ?_
      have ⟨ax,W,X⟩:=bnd o
      refine Lk [0,0,0,0,0,0,0,0] [0,1,2] (jr W) λ⟨⟩=> ?_
      refine Z0 ?_
      refine Lw 48 X (λp=> ?_) λp=> ?_
      ·refine Z0 ?_
       have ⟨ay,Y,Z⟩:=bnd p
       refine Lk [0,0,0,0,0,0,0,0] [0,1,2] (jN Y) λ⟨⟩=> ?_
       refine Z0 ?_
       refine Lw 53 Z (λq=> ?_) λq=> ?_
       ·refine Z0 ?_
        have ⟨az,aa,ab⟩:=bnd q
        refine Lk [0,0,0,0,0,0,0,0] [0,1,2] (lW aa) λ⟨ac,⟨ad,ae⟩⟩=> ?_
        refine Z0 ?_
        cases ab
        exact Eg (ac,(ad,ae)) trivial [3,4,0,0,0,0,0,0,0] [0,1,2] 3
       refine Z0 ?_
       cases q
       exact Eg (b,(c,d)) trivial [3,4,0,0,0,0,0,0,0] [0,1,2] 0
      refine Z0 ?_
      cases p
      exact Eg (b,(c,d)) trivial [3,4,0,0,0,0,0,0,0] [0,1,2] 0
     refine Z0 ?_
     cases o
     exact Eg (b,(c,d)) trivial [3,4,0,0,0,0,0,0,0] [0,1,2] 0
    refine Z0 ?_
    cases n
    exact Eg (b,(c,d)) trivial [3,4,0,0,0,0,0,0,0] [0,1,2] 0
   refine Z0 ?_
   cases m
   exact Eg (b,(c,d)) trivial [3,4,0,0,0,0,0,0,0] [0,1,2] 0
  refine Z0 ?_
  cases k
  exact Eg (b,(c,d)) trivial [3,4,0,0,0,0,0,0,0] [0,1,2] 0
 rintro ⟨e,⟨f,g⟩⟩
 refine Z0 ?_
 cases V
 exact Eo1 () [] []
theorem yc {s_:ByteArray} {n_:Int} {r:ByteArray} (H:kC s_ n_=some r):CT G 12 [.string s_,.int .i64 n_] [] [] (λ_:Unit=> .string r) (λh=>[]) (λh=>[]):=by
 delta kC at H
 refine Cf Go.Proofs.Tryz.func12 λK=> ?_
 refine Z3 ?_
 refine Tb H (λH4=> ?_) λH4=> ?_
 ·refine Z1 ?_
  have ⟨_,h5,H6⟩:=bnd H4
  refine Ly (Yl.sc h5 rfl rfl rfl rfl rfl rfl) ?_
  refine Z0 ?_
  cases H6
  exact Eo1 () [] []
 refine Z1 ?_
 cases H4
 exact Eo1 () [] []
end Go.Tw.X

import Derived.Test.YtdhkangklnlnoaaGreatDoorFw2
import Derived.Test.YtdhkangklnlnoaaGreatDoorProg
import Derived.Test.YtdhkangklnlnoaaGreatDoorXp1
set_option maxHeartbeats 2000000
set_option linter.unusedVariables false
set_option linter.unusedSimpArgs false
set_option maxRecDepth 10000
namespace Go.Tw.X
open Go Go.Tw
def k8:Ty jh:=⟨5,Unit,λx h=>[.int .i64 x.kind,.int .i64 x.later,.int .i64 x.from_,.int .i64 x.to,.string x.text],λx h=>[],λ_ _=>rfl,by simp [Value.oneCell']⟩
def kv:Ty aV:=⟨4,(Option Addr×Nat),λx h=>[.int .i64 x.aU,.int .i64 x.kind,.slice h.1 x.bB.length h.2,.string x.data],λx h=>[Im.sl (Ty.int .i64) h.1 h.2 x.bB],λ_ _=>rfl,by simp [Value.oneCell']⟩
def aC:Ty aB:=⟨2,Unit,λx h=>[.int .i64 x.from_,.int .i64 x.to],λx h=>[],λ_ _=>rfl,by simp [Value.oneCell']⟩
def eP:Ty dE:=⟨3,Unit,λx h=>[.int .i64 x.rune,.int .i64 x.bU,.int .i64 x.part],λx h=>[],λ_ _=>rfl,by simp [Value.oneCell']⟩
def aW:Ty bK:=⟨2,(Option Addr×Nat),λx h=>[.slice h.1 x.l.length h.2,.bool x.wrapped],λx h=>[Im.sl eP h.1 h.2 x.l],λ_ _=>rfl,by simp [Value.oneCell']⟩
def aG:Ty aO:=⟨2,Unit,λx h=>[.int .i64 x.rune,.int .i64 x.bU],λx h=>[],λ_ _=>rfl,by simp [Value.oneCell']⟩
def aZ:Ty dP:=⟨2,(Option Addr×Nat),λx h=>[.int .i64 x.i,.slice h.1 x.l.length h.2],λx h=>[Im.sl aG h.1 h.2 x.l],λ_ _=>rfl,by simp [Value.oneCell']⟩
def aQ:Ty aD:=⟨2,Unit,λx h=>[.int .i64 x.from_,.int .i64 x.to],λx h=>[],λ_ _=>rfl,by simp [Value.oneCell']⟩
def bZ:Ty aP:=⟨3,Unit,λx h=>[.int .i32 x.rune,.int .i64 x.bU,.int .i64 x.part],λx h=>[],λ_ _=>rfl,by simp [Value.oneCell']⟩
def aT:Ty aY:=⟨2,(Option Addr×Nat),λx h=>[.slice h.1 x.cells.length h.2,.bool x.wrapped],λx h=>[Im.sl bZ h.1 h.2 x.cells],λ_ _=>rfl,by simp [Value.oneCell']⟩
def aH:Ty aN:=⟨2,Unit,λx h=>[.int .i32 x.rune,.int .i64 x.bU],λx h=>[],λ_ _=>rfl,by simp [Value.oneCell']⟩
def aE:Ty CacheEntry:=⟨2,(Option Addr×Nat),λx h=>[.slice h.1 x.l.length h.2,.int .i64 x.at_],λx h=>[Im.sl aH h.1 h.2 x.l],λ_ _=>rfl,by simp [Value.oneCell']⟩
abbrev Ik (x:jh):List Value:=[.int .i64 x.kind,.int .i64 x.later,.int .i64 x.from_,.int .i64 x.to,.string x.text]
abbrev rR (x:aV) (a1:Option Addr) (c1:Nat):List Value:=[.int .i64 x.aU,.int .i64 x.kind,.slice a1 x.bB.length c1,.string x.data]
abbrev xy (x:bL) (a1:Option Addr) (c1:Nat) (a2:Option Addr) (c2:Nat):List Value:=[.int .i64 x.k,.int .i64 x.w,.int .i64 x.h,.int .i64 x.x,.int .i64 x.y,.string x.title,.slice a1 x.rows.length c1,.int .i64 x.len,.int .i64 x.chain,.slice a2 x.begun.length c2]
abbrev Hw (x:dK) (a1:Option Addr) (c1:Nat) (a2:Option Addr) (c2:Nat) (a3:Option Addr) (c3:Nat) (a4:Option Addr) (c4:Nat):List Value:=[.int .i64 x.aJ.k,.int .i64 x.aJ.w,.int .i64 x.aJ.h,.int .i64 x.aJ.x,.int .i64 x.aJ.y,.string x.aJ.title,.slice a1 x.aJ.rows.length c1,.int .i64 x.aJ.len,.int .i64 x.aJ.chain,.slice a2 x.aJ.begun.length c2,.int .i64 x.slot.key,.slice a3 x.slot.has.length c3,.slice a4 x.slot.parts.length c4]
abbrev xz (x:bS) (a1:Option Addr) (c1:Nat):List Value:=[.int .i64 x.most,.int .i64 x.every,.int .i64 x.due,.slice a1 x.l.length c1]
abbrev mY (x:aL) (a1:Option Addr) (c1:Nat) (a2:Option Addr) (c2:Nat) (a3:Option Addr) (c3:Nat) (a4:Option Addr) (c4:Nat) (a5:Option Addr) (c5:Nat) (a6:Option Addr) (c6:Nat):List Value:=[.int .i64 x.most,.int .i64 x.every,.int .i64 x.addr,.int .i64 x.aU,.int .i64 x.due,.int .i64 x.t.aJ.k,.int .i64 x.t.aJ.w,.int .i64 x.t.aJ.h,.int .i64 x.t.aJ.x,.int .i64 x.t.aJ.y,.string x.t.aJ.title,.slice a1 x.t.aJ.rows.length c1,.int .i64 x.t.aJ.len,.int .i64 x.t.aJ.chain,.slice a2 x.t.aJ.begun.length c2,.int .i64 x.t.slot.key,.slice a3 x.t.slot.has.length c3,.slice a4 x.t.slot.parts.length c4,.int .i64 x.l.most,.slice a5 x.l.l.length c5,.int .i64 x.f.most,.int .i64 x.f.every,.int .i64 x.f.due,.slice a6 x.f.l.length c6]
abbrev qi (x:aS) (a1:Option Addr) (c1:Nat) (a2:Option Addr) (c2:Nat):List Value:=[.int .i64 x.k,.int .i64 x.w,.int .i64 x.h,.int .i64 x.x,.int .i64 x.y,.string x.title,.slice a1 x.rows.length c1,.int .i64 x.len,.int .i64 x.chain,.slice a2 x.begun.length c2]
abbrev jn (x:aF) (g1:Nat) (g2:Nat) (g3:Nat):List Value:=[.int .i64 x.config.cache,.int .i64 x.config.every,.int .i64 x.config.addr,.int .i64 x.aU,.int .i64 x.due,.pointer (some ⟨g1,0,none⟩),.pointer (some ⟨g2,0,none⟩),.pointer (some ⟨g3,0,none⟩)]
abbrev pD (x:bM) (a1:Option Addr) (c1:Nat):List Value:=[.int .i64 x.aU,.int .i64 x.kind,.slice a1 x.bB.length c1,.string x.data]
abbrev cL (x:bV) (v1:Option Nat):List Value:=[.int .i64 x.key,.int .i64 x.count,.map v1,.int .i64 x.bytes]
abbrev dQ (x:bA) (g1:Nat) (a2:Option Addr) (c2:Nat) (a3:Option Addr) (c3:Nat):List Value:=[.pointer (some ⟨g1,0,none⟩),.int .i64 x.aJ.k,.int .i64 x.aJ.w,.int .i64 x.aJ.h,.int .i64 x.aJ.x,.int .i64 x.aJ.y,.string x.aJ.title,.slice a2 x.aJ.rows.length c2,.int .i64 x.aJ.len,.int .i64 x.aJ.chain,.slice a3 x.aJ.begun.length c3]
abbrev dM (x:bE) (g1:Nat):List Value:=[.int .i64 x.most,.int .i64 x.every,.int .i64 x.due,.pointer (some ⟨g1,0,none⟩)]
abbrev yQ (x:bT) (a1:Option Addr) (c1:Nat) (a2:Option Addr) (c2:Nat) (v3:Option Nat):List Value:=[.int .i64 x.sum,.int .i64 x.to.k,.int .i64 x.to.w,.int .i64 x.to.h,.int .i64 x.to.x,.int .i64 x.to.y,.string x.to.title,.slice a1 x.to.rows.length c1,.int .i64 x.to.len,.int .i64 x.to.chain,.slice a2 x.to.begun.length c2,.map v3]
abbrev Bx (x:bT) (a2:Option Addr) (c2:Nat) (v3:Option Nat):List Value:=[.int .i64 x.sum,.int .i64 x.to.k,.int .i64 x.to.w,.int .i64 x.to.h,.int .i64 x.to.x,.int .i64 x.to.y,.string x.to.title,.slice none 0 0,.int .i64 x.to.len,.int .i64 x.to.chain,.slice a2 x.to.begun.length c2,.map v3]
def tab:Tab:=[(3,⟨.int .i64,1,8,[.int .i64 0],false,false⟩),
  (4,⟨.bool,1,1,[.bool false],false,false⟩),
  (5,⟨.int .u8,1,1,[.int .u8 0],false,false⟩),
  (9,⟨.string,1,16,[.string ⟨#[]⟩],false,false⟩),
  (21,⟨.int .i32,1,4,[.int .i32 0],false,false⟩),
  (23,⟨.struct [(3,0),(3,1),(3,2)],3,24,[.int .i64 0,.int .i64 0,.int .i64 0],true,false⟩),
  (24,⟨.slice 31,1,24,[.slice none 0 0],false,false⟩),
  (27,⟨.pointer 94,1,8,[.pointer none],false,false⟩),
  (29,⟨.struct [(3,0),(3,1),(3,2)],3,24,[.int .i64 0,.int .i64 0,.int .i64 0],true,false⟩),
  (31,⟨.struct [(3,0),(3,1),(3,2),(3,3),(9,4)],5,48,[.int .i64 0,.int .i64 0,.int .i64 0,.int .i64 0,.string ⟨#[]⟩],true,false⟩),
  (32,⟨.int .i64,1,8,[.int .i64 0],false,false⟩),
  (35,⟨.slice 9,1,24,[.slice none 0 0],false,false⟩),
  (37,⟨.slice 3,1,24,[.slice none 0 0],false,false⟩),
  (39,⟨.struct [(3,0),(3,1),(37,2),(9,3)],4,56,[.int .i64 0,.int .i64 0,.slice none 0 0,.string ⟨#[]⟩],true,false⟩),
  (44,⟨.slice 47,1,24,[.slice none 0 0],false,false⟩),
  (47,⟨.struct [(3,0),(3,1)],2,16,[.int .i64 0,.int .i64 0],true,false⟩),
  (49,⟨.slice 265,1,24,[.slice none 0 0],false,false⟩),
  (50,⟨.slice 191,1,24,[.slice none 0 0],false,false⟩),
  (51,⟨.slice 191,1,24,[.slice none 0 0],false,false⟩),
  (53,⟨.struct [(3,0),(3,1),(3,2),(3,3),(3,4),(9,5),(49,6),(3,7),(3,8),(51,9)],10,120,[.int .i64 0,.int .i64 0,.int .i64 0,.int .i64 0,.int .i64 0,.string ⟨#[]⟩,.slice none 0 0,.int .i64 0,.int .i64 0,.slice none 0 0],true,false⟩),
  (54,⟨.slice 4,1,24,[.slice none 0 0],false,false⟩),
  (56,⟨.struct [(3,0),(54,1),(35,2)],3,56,[.int .i64 0,.slice none 0 0,.slice none 0 0],true,false⟩),
  (58,⟨.struct [(53,0),(56,10)],13,176,[.int .i64 0,.int .i64 0,.int .i64 0,.int .i64 0,.int .i64 0,.string ⟨#[]⟩,.slice none 0 0,.int .i64 0,.int .i64 0,.slice none 0 0,.int .i64 0,.slice none 0 0,.slice none 0 0],true,false⟩),
  (59,⟨.slice 119,1,24,[.slice none 0 0],false,false⟩),
  (61,⟨.struct [(3,0),(59,1)],2,32,[.int .i64 0,.slice none 0 0],true,false⟩),
  (62,⟨.slice 187,1,24,[.slice none 0 0],false,false⟩),
  (64,⟨.struct [(3,0),(3,1),(3,2),(62,3)],4,48,[.int .i64 0,.int .i64 0,.int .i64 0,.slice none 0 0],true,false⟩),
  (66,⟨.struct [(3,0),(3,1),(3,2),(3,3),(3,4),(58,5),(61,18),(64,20)],24,296,[.int .i64 0,.int .i64 0,.int .i64 0,.int .i64 0,.int .i64 0,.int .i64 0,.int .i64 0,.int .i64 0,.int .i64 0,.int .i64 0,.string ⟨#[]⟩,.slice none 0 0,.int .i64 0,.int .i64 0,.slice none 0 0,.int .i64 0,.slice none 0 0,.slice none 0 0,.int .i64 0,.slice none 0 0,.int .i64 0,.int .i64 0,.int .i64 0,.slice none 0 0],true,false⟩),
  (68,⟨.slice 144,1,24,[.slice none 0 0],false,false⟩),
  (69,⟨.slice 149,1,24,[.slice none 0 0],false,false⟩),
  (71,⟨.struct [(3,0),(3,1),(3,2),(3,3),(3,4),(9,5),(68,6),(3,7),(3,8),(69,9)],10,120,[.int .i64 0,.int .i64 0,.int .i64 0,.int .i64 0,.int .i64 0,.string ⟨#[]⟩,.slice none 0 0,.int .i64 0,.int .i64 0,.slice none 0 0],true,false⟩),
  (87,⟨.pointer 155,1,8,[.pointer none],false,false⟩),
  (89,⟨.pointer 158,1,8,[.pointer none],false,false⟩),
  (91,⟨.pointer 161,1,8,[.pointer none],false,false⟩),
  (94,⟨.struct [(29,0),(3,3),(3,4),(87,5),(89,6),(91,7)],8,64,[.int .i64 0,.int .i64 0,.int .i64 0,.int .i64 0,.int .i64 0,.pointer none,.pointer none,.pointer none],true,false⟩),
  (96,⟨.slice 39,1,24,[.slice none 0 0],false,false⟩),
  (106,⟨.struct [(44,0)],1,24,[.slice none 0 0],true,false⟩),
  (119,⟨.struct [(3,0),(51,1)],2,32,[.int .i64 0,.slice none 0 0],true,false⟩),
  (123,⟨.struct [(3,0),(3,1),(37,2),(9,3)],4,56,[.int .i64 0,.int .i64 0,.slice none 0 0,.string ⟨#[]⟩],true,false⟩),
  (128,⟨.slice 51,1,24,[.slice none 0 0],false,false⟩),
  (142,⟨.slice 222,1,24,[.slice none 0 0],false,false⟩),
  (144,⟨.struct [(142,0),(4,1)],2,32,[.slice none 0 0,.bool false],true,false⟩),
  (149,⟨.struct [(21,0),(3,1)],2,16,[.int .i32 0,.int .i64 0],true,true⟩),
  (150,⟨.pointer 153,1,8,[.pointer none],false,false⟩),
  (151,⟨.map 3 9,1,8,[.map none],false,false⟩),
  (153,⟨.struct [(3,0),(3,1),(151,2),(3,3)],4,32,[.int .i64 0,.int .i64 0,.map none,.int .i64 0],true,false⟩),
  (155,⟨.struct [(150,0),(71,1)],11,128,[.pointer none,.int .i64 0,.int .i64 0,.int .i64 0,.int .i64 0,.int .i64 0,.string ⟨#[]⟩,.slice none 0 0,.int .i64 0,.int .i64 0,.slice none 0 0],true,false⟩),
  (156,⟨.map 3 183,1,8,[.map none],false,false⟩),
  (158,⟨.struct [(3,0),(3,1),(156,2)],3,24,[.int .i64 0,.int .i64 0,.map none],true,false⟩),
  (159,⟨.pointer 106,1,8,[.pointer none],false,false⟩),
  (161,⟨.struct [(3,0),(3,1),(3,2),(159,3)],4,32,[.int .i64 0,.int .i64 0,.int .i64 0,.pointer none],true,false⟩),
  (162,⟨.slice 69,1,24,[.slice none 0 0],false,false⟩),
  (171,⟨.slice 5,1,24,[.slice none 0 0],false,false⟩),
  (174,⟨.int .u32,1,4,[.int .u32 0],false,false⟩),
  (177,⟨.struct [(9,0),(32,1)],2,24,[.string ⟨#[]⟩,.int .i64 0],true,false⟩),
  (183,⟨.struct [(69,0),(3,1)],2,32,[.slice none 0 0,.int .i64 0],true,false⟩),
  (187,⟨.struct [(3,0),(3,1)],2,16,[.int .i64 0,.int .i64 0],true,true⟩),
  (191,⟨.struct [(3,0),(3,1)],2,16,[.int .i64 0,.int .i64 0],true,false⟩),
  (193,⟨.struct [(9,0),(3,1)],2,24,[.string ⟨#[]⟩,.int .i64 0],true,false⟩),
  (222,⟨.struct [(21,0),(3,1),(3,2)],3,24,[.int .i32 0,.int .i64 0,.int .i64 0],true,true⟩),
  (224,⟨.struct [(171,0)],1,24,[.slice none 0 0],true,false⟩),
  (226,⟨.pointer 224,1,8,[.pointer none],false,false⟩),
  (238,⟨.pointer 240,1,8,[.pointer none],false,false⟩),
  (240,⟨.struct [(238,0),(171,1)],2,32,[.pointer none,.slice none 0 0],true,false⟩),
  (246,⟨.map 3 144,1,8,[.map none],false,false⟩),
  (248,⟨.struct [(3,0),(71,1),(246,11)],12,136,[.int .i64 0,.int .i64 0,.int .i64 0,.int .i64 0,.int .i64 0,.int .i64 0,.string ⟨#[]⟩,.slice none 0 0,.int .i64 0,.int .i64 0,.slice none 0 0,.map none],true,false⟩),
  (253,⟨.int .u64,1,8,[.int .u64 0],false,false⟩),
  (258,⟨.slice 44,1,24,[.slice none 0 0],false,false⟩),
  (263,⟨.slice 298,1,24,[.slice none 0 0],false,false⟩),
  (265,⟨.struct [(263,0),(4,1)],2,32,[.slice none 0 0,.bool false],true,false⟩),
  (296,⟨.array 16 174,16,64,[.int .u32 0,.int .u32 0,.int .u32 0,.int .u32 0,.int .u32 0,.int .u32 0,.int .u32 0,.int .u32 0,.int .u32 0,.int .u32 0,.int .u32 0,.int .u32 0,.int .u32 0,.int .u32 0,.int .u32 0,.int .u32 0],true,false⟩),
  (298,⟨.struct [(3,0),(3,1),(3,2)],3,24,[.int .i64 0,.int .i64 0,.int .i64 0],true,true⟩),
  (316,⟨.array 3 3,3,24,[.int .i64 0,.int .i64 0,.int .i64 0],true,false⟩),
  (323,⟨.int .u64,1,8,[.int .u64 0],false,false⟩)]
theorem Hx:kf Go.Proofs.Tryz.prog tab:=Az (by kernel_rfl)
noncomputable def G:Pg:=⟨Go.Proofs.Tryz.prog,tab,Hx,none⟩
theorem mo:G.P.follows .mixedOrders=true:=by kernel_rfl
theorem Gq:E4 G.P 5=true:=by kernel_rfl
theorem ET:zv G.P 9 false=true:=by kernel_rfl
theorem Gc:zv G.P 144 true=true:=by kernel_rfl
theorem qe:zv G.P 183 true=true:=by kernel_rfl
variable {A0 A1 A2 A3 A4 A5 A6 A7 A8 : Option Addr} {C0 C1 C2 C3 C4 C5 C6 C7 C8 : Nat}
variable {N0 N1 N2 N3 N4 N5 : Nat}
variable {M0 M1 : Option Nat}
theorem jU {n_:Int} {lo:Int} {hi:Int} {r:Int} (H:dJ n_ lo hi=some r):CT G 30 [.int .i64 n_,.int .i64 lo,.int .i64 hi] [] [] (λ_:Unit=> .int .i64 r) (λh=>[]) (λh=>[]):=by
 delta dJ at H
 refine Cf Go.Proofs.Tryz.func30 λK=> ?_
 refine Z2 ?_
 cases H
 exact Eo1 () [] []
theorem tB {r:bA} (H:mE=some r):CT G 31 [] [] [] (λh:Nat×Nat×Option Nat×(Option Addr×Nat)×(Option Addr×Nat)=> .pointer (some ⟨h.1,0,none⟩)) (λh=>[Ch.box h.1 155 (dQ r h.2.1 h.2.2.2.1.1 h.2.2.2.1.2 h.2.2.2.2.1 h.2.2.2.2.2),Ch.box h.2.1 153 (cL r.slot h.2.2.1),Ch.mp Ty.str false h.2.2.1 r.slot.parts]) (λh=>[Im.sl aT h.2.2.2.1.1 h.2.2.2.1.2 r.aJ.rows,Im.sl aH h.2.2.2.2.1 h.2.2.2.2.2 r.aJ.begun]):=by
 delta mE at H
 refine Cf Go.Proofs.Tryz.func31 λK=> ?_
 refine Z2 ?_
 refine Lx λg1=> ?_
 refine Z0 ?_
 refine Lx λg2=> ?_
 refine Z0 ?_
 refine E.mp0 Ty.str false ?_
 refine E.dA [Im.sl aT none 0 []] (λA w _ _ f hf=>by rw [List.mem_singleton.1 hf]; exact Im.bW A w) ?_
 refine E.dA [Im.sl aH none 0 []] (λA w _ _ f hf=>by rw [List.mem_singleton.1 hf]; exact Im.bW A w) ?_
 cases H
 exact Eo1 (g2,g1,none,(none,0),(none,0)) [1,1,0] [1,0]
theorem yR {most:Int} {r:aR} (H:lg most=some r):CT G 32 [.int .i64 most] [] [] (λh:Nat×Option Nat=> .pointer (some ⟨h.1,0,none⟩)) (λh=>[Ch.box h.1 158 [.int .i64 r.most,.int .i64 r.now,.map h.2],Ch.mp aE true h.2 r.l]) (λh=>[]):=by
 delta lg at H
 refine Cf Go.Proofs.Tryz.func32 λK=> ?_
 refine Z2 ?_
 refine La [] [] (Ac.mkm (ty:=aE) (ag:=true) rfl rfl rfl) λg1=> ?_
 refine Z0 ?_
 refine Lx λg3=> ?_
 refine Z0 ?_
 cases H
 exact Eo1 (g3,(some g1)) [0,0] []
theorem ns {n_:Int} {lo:Int} {hi:Int} {r:Int} (H:fV n_ lo hi=some r):CT G 75 [.int .i64 n_,.int .i64 lo,.int .i64 hi] [] [] (λ_:Unit=> .int .i64 r) (λh=>[]) (λh=>[]):=by
 delta fV at H
 refine Cf Go.Proofs.Tryz.func75 λK=> ?_
 refine Z2 ?_
 cases H
 exact Eo1 () [] []
theorem yS {most:Int} {every:Int} {r:bE} (H:lh most every=some r):CT G 33 [.int .i64 most,.int .i64 every] [] [] (λh:Nat×Nat×(Option Addr×Nat)=> .pointer (some ⟨h.1,0,none⟩)) (λh=>[Ch.box h.1 161 (dM r h.2.1),Ch.box h.2.1 106 [.slice h.2.2.1 r.want.l.length h.2.2.2]]) (λh=>[Im.sl aC h.2.2.1 h.2.2.2 r.want.l]):=by
 delta lh at H
 refine Cf Go.Proofs.Tryz.func33 λK=> ?_
 refine Z2 ?_
 have ⟨r1,h2,H3⟩:=bnd H
 refine Lk [] [] (ns h2) λ⟨⟩=> ?_
 refine Z0 ?_
 have ⟨r4,h5,H6⟩:=bnd H3
 refine Lk [] [] (ns h5) λ⟨⟩=> ?_
 refine Z0 ?_
 refine Lx λg7=> ?_
 refine Z0 ?_
 refine Lx λg8=> ?_
 refine Z0 ?_
 refine E.dA [Im.sl aC none 0 []] (λA w _ _ f hf=>by rw [List.mem_singleton.1 hf]; exact Im.bW A w) ?_
 cases H6
 exact Eo1 (g8,g7,(none,0)) [0,0] [0]
theorem rS {c:iC} {r:aF} (H:jC c=some r):CT G 10 [.agg #[.int .i64 c.cache,.int .i64 c.every,.int .i64 c.addr]] [] [] (λh:Nat×Nat×Nat×Option Nat×(Option Addr×Nat)×(Option Addr×Nat)×Nat×Option Nat×Nat×Nat×(Option Addr×Nat)=> .pointer (some ⟨h.1,0,none⟩)) (λh=>[Ch.box h.1 94 (jn r h.2.1 h.2.2.2.2.2.2.1 h.2.2.2.2.2.2.2.2.1),Ch.box h.2.1 155 (dQ r.aM h.2.2.1 h.2.2.2.2.1.1 h.2.2.2.2.1.2 h.2.2.2.2.2.1.1 h.2.2.2.2.2.1.2),Ch.box h.2.2.1 153 (cL r.aM.slot h.2.2.2.1),Ch.mp Ty.str false h.2.2.2.1 r.aM.slot.parts,Ch.box h.2.2.2.2.2.2.1 158 [.int .i64 r.lines.most,.int .i64 r.lines.now,.map h.2.2.2.2.2.2.2.1],Ch.mp aE true h.2.2.2.2.2.2.2.1 r.lines.l,Ch.box h.2.2.2.2.2.2.2.2.1 161 (dM r.bF h.2.2.2.2.2.2.2.2.2.1),Ch.box h.2.2.2.2.2.2.2.2.2.1 106 [.slice h.2.2.2.2.2.2.2.2.2.2.1 r.bF.want.l.length h.2.2.2.2.2.2.2.2.2.2.2]]) (λh=>[Im.sl aT h.2.2.2.2.1.1 h.2.2.2.2.1.2 r.aM.aJ.rows,Im.sl aH h.2.2.2.2.2.1.1 h.2.2.2.2.2.1.2 r.aM.aJ.begun,Im.sl aC h.2.2.2.2.2.2.2.2.2.2.1 h.2.2.2.2.2.2.2.2.2.2.2 r.bF.want.l]):=by
 delta jC at H
 refine Cf Go.Proofs.Tryz.func10 λK=> ?_
 refine Z1 ?_
 refine Lx λg1=> ?_
 refine Y1 ?_
 refine Td [10] [0] mo ?_
 refine Dq 0 ?_
 refine Db 1 0 ?_
 refine Dq 3 ?_
 refine Db 4 0 ?_
 refine Dq 6 ?_
 refine Db 7 0 ?_
 have ⟨I,a,b⟩:=bnd H
 refine Dk [] [] (jU a) λ⟨⟩=> ?_
 have ⟨J,d,e⟩:=bnd b
 refine Dk [] [] (jU d) λ⟨⟩=> ?_
 have ⟨M,f,g⟩:=bnd e
 refine Dk [] [] (jU f) λ⟨⟩=> ?_
 refine Dq 9 ?_
 refine Dt 0 ?_
 refine Dn ?_
 refine Y1 ?_
 refine Td [] [0] mo ?_
 refine Db 0 0 ?_
 refine Dq 2 ?_
 refine Db 3 0 ?_
 refine Dq 5 ?_
 refine Db 6 0 ?_
 refine Dq 7 ?_
 refine Db 8 0 ?_
 have ⟨N,i,j⟩:=bnd g
 refine Dk [] [] (tB i) λ⟨k,m,n,⟨o,p⟩,⟨q,s⟩⟩=> ?_
 have ⟨O,t,u⟩:=bnd j
 refine Dk [] [] (yR t) λ⟨v,w⟩=> ?_
 have ⟨P,x,y⟩:=bnd u
 refine Dk [] [] (yS x) λ⟨z,A,⟨B,C⟩⟩=> ?_
 refine Dq 10 ?_
 refine Da [] [] rfl rfl (Ac.box rfl rfl) λF=> ?_
 refine Dq 12 ?_
 refine Dn ?_
 refine Z0 ?_
 cases y
 exact Eo1 (F,k,m,n,(o,p),(q,s),v,w,z,A,(B,C)) [1,5,5,5,3,3,1,1] [1,2,0]
theorem qO {s_:bV} {r:Int} (H:ie s_=some r):CT G 86 [.pointer (some ⟨N0,0,none⟩)] [Ch.box N0 153 (cL s_ M0),Ch.mp Ty.str false M0 s_.parts] [] (λ_:Unit=> .int .i64 r) (λh=>[Ch.box N0 153 (cL s_ M0),Ch.mp Ty.str false M0 s_.parts]) (λh=>[]):=by
 delta ie at H
 refine Cf Go.Proofs.Tryz.func86 λK=> ?_
 refine Z2 ?_
 cases H
 exact Eo1 () [0,0] []
theorem nV {σ η:Type} {s_:bV} {Y:σ->(Int×Bool)->Option (σ×Bool)} {y0:σ} (g_0:Nat) (v_0_0:Option Nat) {yl:Nat} {C:σ->η->Ch} (hY: ∀ s (h:η) (x:Int×Bool) (t:Unit) z,Y s x=some z->YT G yl [.int .i64 x.1,.bool x.2] [C s h,Ch.box g_0 153 (cL s_ v_0_0),Ch.mp Ty.str false v_0_0 s_.parts] [] (λ_:η=> .bool z.2) (λh2=>[C z.1 h2,Ch.box g_0 153 (cL s_ v_0_0),Ch.mp Ty.str false v_0_0 s_.parts]) (λ_=>[])) (h0:η) {r:σ} (H:gQ s_ Y y0=some r):CT G 145 [.pointer (some ⟨g_0,0,none⟩),.func (.yield yl) #[] #[]] [C y0 h0,Ch.box g_0 153 (cL s_ v_0_0),Ch.mp Ty.str false v_0_0 s_.parts] [] (λh:η=> .tuple #[]) (λh=>[C r h,Ch.box g_0 153 (cL s_ v_0_0),Ch.mp Ty.str false v_0_0 s_.parts]) (λh=>[]):=by
  delta gQ at H
  refine Cf Go.Proofs.Tryz.func145 λK=> ?_
  refine Z1 ?_
  have ⟨e,m,j⟩:=bnd H
  refine T.pc (η:=σ×(η)) (λh=>e = .inl h.1) (λh=>(λc=>(λb=>[]) h.2) h.1) (λh=>(λc=>(λb=>[C c b,Ch.box g_0 153 (cL s_ v_0_0),Ch.mp Ty.str false v_0_0 s_.parts]) h.2) h.1) (λh=>(λc=>(λb=>[]) h.2) h.1) ?_ ?_
  ·refine Yl0 ?_
   refine Tq (η:=η) (λa h=>(λd=>[(11,.int .i64 a.1)]) h) [0,1,10] (λa h=>(λd=>[C a.2 d]) h) [1,2] (λ_ _=>[]) h0 [0,0,0] [] m ?_
   rintro k_ a d n o p k
   refine Y2 ?_
   refine Tb o (λg=> ?_) λg=> ?_
   ·refine Z1 ?_
    refine Zl ?_
    refine Z2 ?_
    refine La [2] [] (Ac.ml (ty:=Ty.str) (ag:=false) (vv:=(λh:Unit=> .string (mgd s_.parts a.1 (ByteArray.mk #[])))) a.1 (ByteArray.mk #[]) () rfl rfl rfl rfl rfl rfl rfl rfl rfl (λ_ _ f hf=>by cases hf) ET (λ_=>rfl)) ?_
    rintro ⟨⟩
    refine Z1 ?_
    have ⟨w,q,u⟩:=bnd g
    refine L.yd [1,1,0] [] (hY _ _ _ () _ q) rfl rfl rfl rfl rfl rfl rfl rfl ?_
    intro l
    refine Z0 ?_
    refine Tb u (λi=> ?_) λi=> ?_
    ·refine Z0 ?_
     obtain ⟨y,hz,v⟩:=cF i
     subst n
     have hb:=k _ rfl
     subst e
     obtain rfl:=(sm j).symm
     refine Z0 ?_
     cases v
     exact Eo l [0,0,0] [] .nil
    refine Z0 ?_
    cases i
    exact Eg (_,l) (p _ rfl) [0,0,0] [] 0
   refine Z0 ?_
   cases g
   have hb:=k _ rfl
   subst e
   exact Egx (_,d) rfl [0,0,0] []
  rintro ⟨c,b⟩ hy
  subst hy
  refine E.off ?_
  cases j
  exact Eo b [0,0,0] [] .nil
theorem qP {s_:bV} {there:Bool} {r:(List Int)} (H:gF s_ there=some r):CT G 152 [.pointer (some ⟨N0,0,none⟩),.bool there] [Ch.box N0 153 (cL s_ M0),Ch.mp Ty.str false M0 s_.parts] [] (λh:(Option Addr×Nat)=> .slice h.1 r.length h.2) (λh=>[Ch.arr (Ty.int .i64) 3 h.1 h.2 r,Ch.box N0 153 (cL s_ M0),Ch.mp Ty.str false M0 s_.parts]) (λh=>[]):=by
 delta gF at H
 refine Cf Go.Proofs.Tryz.func152 λK=> ?_
 refine T.xY ?_
 refine Z1 ?_
 refine Lx λg1=> ?_
 refine Z1 ?_
 refine Ll λg2=> ?_
 refine Z2 ?_
 refine Yl0 ?_
 refine T.gK (Ty.int .i64) 3 ?_
 have ⟨f,g,i⟩:=bnd H
 refine T.rf3 (σ:=(List Int)) (η:=(Option Addr×Nat)) (X:=Int×Bool) (θ:=Unit) (τ:=(Option Addr×Nat)) (s1:=f) (hx:=λx=>x) (λx t=>[.int .i64 x.1,.bool x.2]) (λx t=>[]) (λ_=>none) [Ch.box N0 153 (cL s_ M0),Ch.mp Ty.str false M0 s_.parts] (λc h=>(λa b=>[Ch.arr (Ty.int .i64) 3 a b c,Ch.box g2 37 [.slice a c.length b],Ch.box g1 4 [.bool there]]) h.1 h.2) (λc h=>(λa b=>[]) h.1 h.2) 3 [0,0,0,0,0] [] [] rfl rfl (λ_ _=>rfl) rfl (λyl C hY=>(nV N0 M0 hY (none,0) g:_)) (λ_ _ _ _=>rfl) rfl rfl rfl rfl rfl ?_ rfl ?_
 ·rintro yl K2 c ⟨a,b⟩ x3 ⟨⟩ o j
  refine Z1 ?_
  refine E.begin λK3=> ?_
  refine Zl ?_
  refine Z1 ?_
  refine Tb j (λd=> ?_) λd=> ?_
  ·refine Z0 ?_
   refine La [] [] (Ac.bs (ty:=(Ty.int .i64)) (xs:=[x3.1]) (.cons () [] rfl .nil) rfl rfl rfl rfl rfl rfl rfl) λp=> ?_
   refine L.frz 0 rfl ?_
   have ⟨_,k,l⟩:=bnd d
   refine La [0] [0] (Ac.ap (ty:=(Ty.int .i64)) k rfl rfl rfl rfl rfl rfl rfl) ?_
   rintro ⟨m,n⟩
   refine Lt 1 ?_
   refine Z0 ?_
   cases l
   exact E.on (m,n) [1,0,0,0,0] [] rfl rfl rfl rfl
  refine Z0 ?_
  cases d
  exact E.on (a,b) [0,0,0,0,0] [] rfl rfl rfl rfl
 rintro e q
 refine Z1 ?_
 cases i
 exact E.zr (e.1,e.2) 0 [0,2,2] [] rfl (.tmp rfl .nil) rfl rfl rfl
theorem rT {s_:bV} {r:(List Int)} (H:eH s_=some r):CT G 87 [.pointer (some ⟨N0,0,none⟩)] [Ch.box N0 153 (cL s_ M0),Ch.mp Ty.str false M0 s_.parts] [] (λh:(Option Addr×Nat)=> .slice h.1 r.length h.2) (λh=>[Ch.arr (Ty.int .i64) 3 h.1 h.2 r,Ch.box N0 153 (cL s_ M0),Ch.mp Ty.str false M0 s_.parts]) (λh=>[]):=by
 delta eH at H
 refine Cf Go.Proofs.Tryz.func87 λK=> ?_
 refine Z2 ?_
 have ⟨r1,h2,H3⟩:=bnd H
 refine Lk [0,0] [] (qP h2) λ⟨a4,c5⟩=> ?_
 refine Z0 ?_
 cases H3
 exact Eo1 (a4,c5) [0,0,0] []
theorem s9 {s_:bV} {r:Int} (H:l8 s_=some r):CT G 88 [.pointer (some ⟨N0,0,none⟩)] [Ch.box N0 153 (cL s_ M0),Ch.mp Ty.str false M0 s_.parts] [] (λ_:Unit=> .int .i64 r) (λh=>[Ch.box N0 153 (cL s_ M0),Ch.mp Ty.str false M0 s_.parts]) (λh=>[]):=by
 delta l8 at H
 refine Cf Go.Proofs.Tryz.func88 λK=> ?_
 refine Z2 ?_
 cases H
 exact Eo1 () [0,0] []
theorem rU {t_:bA} {r:aV} (H:dS t_=some r):CT G 37 [.pointer (some ⟨N0,0,none⟩)] [Ch.box N0 155 (dQ t_ N1 A0 C0 A1 C1),Ch.box N1 153 (cL t_.slot M0),Ch.mp Ty.str false M0 t_.slot.parts] [Im.sl aT A0 C0 t_.aJ.rows,Im.sl aH A1 C1 t_.aJ.begun] (λh:(Option Addr×Nat)=> .agg (rR r h.1 h.2).toArray) (λh=>[Ch.box N0 155 (dQ t_ N1 A0 C0 A1 C1),Ch.box N1 153 (cL t_.slot M0),Ch.mp Ty.str false M0 t_.slot.parts]) (λh=>[Im.sl (Ty.int .i64) h.1 h.2 r.bB]):=by
 delta dS at H
 refine Cf Go.Proofs.Tryz.func37 λK=> ?_
 refine Z1 ?_
 refine Ll λg1=> ?_
 refine Z1 ?_
 have ⟨r2,h3,H4⟩:=bnd H
 refine Lk [2,2] [] (qO h3) λ⟨⟩=> ?_
 refine Z0 ?_
 have ⟨_,h5,H6⟩:=bnd H4
 refine La [] [] (Ac.mk (ty:=(Ty.int .u8)) 0 () h5 (λ_ _ f hf=>by cases hf) rfl rfl rfl rfl rfl rfl rfl) λg7=> ?_
 refine Z2 ?_
 have ⟨r9,s,t⟩:=bnd H6
 refine Lk [1,1] [] (rT s) λ⟨U,V⟩=> ?_
 refine Z0 ?_
 have ⟨j,u,w⟩:=bnd t
 refine Tjh (η:=(Option Addr×Nat)) (λh=>(λg i=>[(3,.slice g j.length i)]) h.1 h.2) [0,2] (λh=>(λg i=>[Ch.arr (Ty.int .u8) 5 g i j]) h.1 h.2) [1,4,5,2] (λ_=>[]) ?_ ?_
 ·refine Yl0 ?_
  refine Tq (η:=(Option Addr×Nat)) (λb h=>(λd c=>[(3,.slice d b.2.length c),(21,.int .i64 b.1)]) h.1 h.2) [0,2,19,20] (λb h=>(λd c=>[Ch.arr (Ty.int .u8) 5 d c b.2]) h.1 h.2) [1,4,5,0,2] (λ_ _=>[]) ((some ⟨g7,0,none⟩),(IntKind.i64.wrap ((IntKind.i64.wrap ((IntKind.i64.wrap (r2+8)) - 1)).tdiv 8)).toNat) [3,1,2,2,0,0] [] u ?_
  rintro k_ b ⟨d,c⟩ W x z A
  refine Y2 ?_
  refine Tb x (λl=> ?_) λl=> ?_
  ·refine Z1 ?_
   refine Zl ?_
   refine Z1 ?_
   have ⟨e,m,B⟩:=bnd l
   refine L.iZ 4 rfl (bH m) λX C=> ?_
   subst C
   refine Ly (Yl.ia m rfl rfl rfl rfl rfl rfl) ?_
   refine Ly (Yl.lo (v:= .int .i64 e) 4 b.1.toNat 0 (aI m).2 rfl rfl rfl rfl (λ_=>rfl)) ?_
   refine Z0 ?_
   refine Td [10] [0,0,0,0,0,0] mo ?_
   refine Dq 0 ?_
   refine Dq 1 ?_
   refine Dq 2 ?_
   have ⟨n,o,F⟩:=bnd B
   refine D.iZ 0 rfl (bH o) λI J=> ?_
   subst J
   refine Dy 3 (Yl.ia o rfl rfl rfl rfl rfl rfl) ?_
   refine Dy 4 (Yl.lo (v:= .int .u8 n) 0 ((IntKind.i64.wrap (e.tdiv 8)).toNat) 0 (aI o).2 rfl rfl rfl rfl (λ_=>rfl)) ?_
   refine Dq 5 ?_
   refine Dq 6 ?_
   have ⟨_,M,N⟩:=bnd F
   refine Dy 7 (Yl.shl (nb:=8) rfl M rfl rfl rfl) ?_
   refine Dq 8 ?_
   have ⟨Y,p,O⟩:=bnd N
   refine Dy 9 (Yl.ia p rfl rfl rfl rfl rfl rfl) ?_
   refine D.one rfl rfl rfl (Dp.al [0] [] (Ac.se 0 (Go.bits .or .u8 n (IntKind.u8.wrap (1*2 ^ (min (e.tmod 8).toNat 8)))) (aI p).2 rfl rfl rfl rfl rfl rfl (λ_=>⟨(),rfl,[],rfl⟩)) rfl rfl rfl rfl rfl rfl rfl ?_)
   intro _
   refine Dn ?_
   refine E.sl 3 (k':=(b.2.set ((IntKind.i64.wrap (e.tdiv 8)).toNat) (Go.bits .or .u8 n (IntKind.u8.wrap (1*2 ^ (min (e.tmod 8).toNat 8))))).length) (List.length_set ..) rfl ?_
   refine Z0 ?_
   cases O
   exact Eg (_,((some ⟨I,0,none⟩),c)) (z _ rfl) [0,0,0,0,0,0] [] 0
  refine Z0 ?_
  cases l
  have hb:=A _ rfl
  subst j
  exact Eg (d,c) trivial [0,0,0,0,1] [] 0
 rintro ⟨g,i⟩
 refine Y1 ?_
 refine Td [14] [0,1,1] mo ?_
 refine Dq 0 ?_
 refine Dq 1 ?_
 refine Dq 2 ?_
 refine Dq 3 ?_
 refine Db 4 2 ?_
 refine Dq 5 ?_
 refine Dq 6 ?_
 refine Dq 7 ?_
 refine Db 8 2 ?_
 refine Dq 11 ?_
 refine DF.of rfl ?_
 refine DF.add _ (FSp.y 12 (Yl.bs 0 rfl rfl rfl rfl rfl rfl rfl rfl rfl) rfl rfl rfl rfl) rfl ?_
 refine DF.step 9 rfl rfl rfl rfl rfl ?_
 have ⟨P,Q,R⟩:=bnd w
 refine DFp.a [0,0] [] (Ac.call (s9 Q) rfl rfl rfl rfl) rfl rfl rfl rfl rfl rfl rfl rfl ?_
 rintro ⟨⟩
 refine DF.step 10 rfl rfl rfl rfl rfl ?_
 refine DFp.a [] [] (Ac.bs (ty:=(Ty.int .i64)) (xs:=[t_.aJ.k,P]) (.cons () [] rfl (.cons () [] rfl .nil)) rfl rfl rfl rfl rfl rfl rfl) rfl rfl rfl rfl rfl rfl rfl rfl ?_
 intro S
 refine DF.step 13 rfl rfl rfl rfl rfl ?_
 refine DFp.use 0 rfl rfl rfl ?_
 intro _
 refine DFp.a [] [] (Ac.q rfl) rfl rfl rfl rfl rfl rfl rfl rfl ?_
 intro _
 refine DF.step 14 rfl rfl rfl rfl rfl ?_
 refine DFp.al [1] [] (Ac.stb rfl rfl rfl rfl rfl rfl) rfl rfl rfl rfl rfl rfl rfl ?_
 intro _
 refine DF.fin rfl rfl rfl rfl rfl ?_
 refine DFe.nil ?_
 refine Z0 ?_
 refine E.frz 3 rfl ?_
 cases R
 exact Eo ((some ⟨S,0,none⟩),2) [2,2,2] [0] (.cell 0 rfl rfl rfl .nil)
theorem oG {s_:List aP} (a_0:Option Addr) (c_0:Nat) {r:List aP} (H:fK s_=some r):CT G 153 [.slice a_0 s_.length c_0] [] [Im.sl bZ a_0 c_0 s_] (λh:(Option Addr×Nat)=> .slice h.1 r.length h.2) (λh=>[Ch.arr bZ 222 h.1 h.2 r]) (λh=>[]):=by
  delta fK at H
  refine Cf Go.Proofs.Tryz.func153 λK=> ?_
  have ⟨_,h0,H⟩:=bnd H
  have hr:=Option.some.inj H
  refine T.seq (T.region (L.q 1 rfl (L.nil (E.then (T.seq (T.seq (T.region ?_)))))))
  refine L.q 1 rfl ?_
  refine L.GH 0 rfl rfl rfl rfl rfl rfl rfl rfl rfl (λha hx=> ?_) ?_
  · refine L.nil (E.then (T.cond rfl (λ_=> ?_) (λh=>nomatch h)))
    refine T.seq (T.region (L.q 1 rfl (L.nil (E.then (T.ret (E.qU ?_))))))
    subst hx
    subst r
    refine E.gK bZ 222 ?_
    exact E.ret (none,0) [0] [] (.tmp rfl .nil) rfl rfl rfl
  · refine L.nil (E.then (T.cond rfl (λh=>nomatch h) (λ_=> ?_)))
    refine T.skip (E.then (T.seq (T.region ?_)))
    refine L.a [] [] (Ac.bs (ty:=bZ) (xs:=[]) .nil rfl rfl rfl rfl rfl rfl rfl) rfl rfl rfl rfl rfl ?_
    intro g1
    refine L.q 1 rfl ?_
    refine L.a [0] [0] (Ac.ap (ty:=bZ) h0 rfl rfl rfl rfl rfl rfl rfl) rfl rfl rfl rfl rfl ?_
    rintro ⟨a1,c1⟩
    refine L.q 1 rfl ?_
    refine L.nil (E.then (T.ret ?_))
    subst r
    exact E.ret (a1,c1) [0] [] (.tmp rfl .nil) rfl rfl rfl
theorem iR {s_:List aN} (a_0:Option Addr) (c_0:Nat) {r:List aN} (H:cS s_=some r):CT G 138 [.slice a_0 s_.length c_0] [] [Im.sl aH a_0 c_0 s_] (λh:(Option Addr×Nat)=> .slice h.1 r.length h.2) (λh=>[Ch.arr aH 149 h.1 h.2 r]) (λh=>[]):=by
  delta cS at H
  refine Cf Go.Proofs.Tryz.func138 λK=> ?_
  have ⟨_,h0,H⟩:=bnd H
  have hr:=Option.some.inj H
  refine T.seq (T.region (L.q 1 rfl (L.nil (E.then (T.seq (T.seq (T.region ?_)))))))
  refine L.q 1 rfl ?_
  refine L.GH 0 rfl rfl rfl rfl rfl rfl rfl rfl rfl (λha hx=> ?_) ?_
  · refine L.nil (E.then (T.cond rfl (λ_=> ?_) (λh=>nomatch h)))
    refine T.seq (T.region (L.q 1 rfl (L.nil (E.then (T.ret (E.qU ?_))))))
    subst hx
    subst r
    refine E.gK aH 149 ?_
    exact E.ret (none,0) [0] [] (.tmp rfl .nil) rfl rfl rfl
  · refine L.nil (E.then (T.cond rfl (λh=>nomatch h) (λ_=> ?_)))
    refine T.skip (E.then (T.seq (T.region ?_)))
    refine L.a [] [] (Ac.bs (ty:=aH) (xs:=[]) .nil rfl rfl rfl rfl rfl rfl rfl) rfl rfl rfl rfl rfl ?_
    intro g1
    refine L.q 1 rfl ?_
    refine L.a [0] [0] (Ac.ap (ty:=aH) h0 rfl rfl rfl rfl rfl rfl rfl) rfl rfl rfl rfl rfl ?_
    rintro ⟨a1,c1⟩
    refine L.q 1 rfl ?_
    refine L.nil (E.then (T.ret ?_))
    subst r
    exact E.ret (a1,c1) [0] [] (.tmp rfl .nil) rfl rfl rfl
theorem lR {s_:aS} {r:aS} (H:fY s_=some r):CT G 89 [.agg (qi s_ A0 C0 A1 C1).toArray] [] [Im.sl aT A0 C0 s_.rows,Im.sl aH A1 C1 s_.begun] (λh:(Option Addr×Nat)×(Option Addr×Nat)=> .agg (qi r h.1.1 h.1.2 h.2.1 h.2.2).toArray) (λh=>[]) (λh=>[Im.sl aT h.1.1 h.1.2 r.rows,Im.sl aH h.2.1 h.2.2 r.begun]):=by
 delta fY at H
 refine Cf Go.Proofs.Tryz.func89 λK=> ?_
 refine Z1 ?_
 refine Lx λg1=> ?_
 refine Ll λg2=> ?_
 refine Z3 ?_
 have ⟨f,j,k⟩:=bnd H
 refine Tjh (η:=(Option Addr×Nat)) (λh=>(λa b=>[(3,.slice a f.length b)]) h.1 h.2) [1,2] (λh=>(λa b=>[Ch.arr aT 144 a b f]) h.1 h.2) [0,1] (λ_=>[]) ?_ ?_
 ·refine Yl0 ?_
  refine T.gK aT 144 ?_
  refine Tq (η:=(Option Addr×Nat)) (λc h=>(λd e=>[(3,.slice d c.1.length e),(9,.int .i64 c.2)]) h.1 h.2) [1,2,7,8] (λc h=>(λd e=>[Ch.arr aT 144 d e c.1]) h.1 h.2) [1,2] (λ_ _=>[]) (none,0) [0,0,0] [] j ?_
  rintro k_ c ⟨d,e⟩ N l m n
  refine Y2 ?_
  refine Tb l (λg=> ?_) λg=> ?_
  ·refine Z1 ?_
   refine Zl ?_
   refine Z1 ?_
   have ⟨o,i,p⟩:=bnd g
   refine L.addr 0 rfl (bH i) λO P q=> ?_
   subst q
   refine Ly (Yl.ia i rfl rfl rfl rfl rfl rfl) ?_
   refine L.el 0 rfl (aI i).2 ?_
   rintro ⟨s,t⟩
   refine Lc 0 0 ?_
   refine Ll λQ=> ?_
   refine Lt 0 ?_
   refine Z0 ?_
   refine Td [] [0,1,1] mo ?_
   refine Dq 0 ?_
   refine Dq 1 ?_
   refine Db 2 0 ?_
   refine Dq 4 ?_
   refine Db 5 0 ?_
   have ⟨u,v,w⟩:=bnd p
   refine Dk [] [1] (oG s t v) λ⟨x,y⟩=> ?_
   refine Dq 6 ?_
   refine D.frz 0 rfl ?_
   refine Da [] [0] rfl rfl (Ac.bs (ty:=aT) (xs:=[(aY.mk u o.wrapped)]) (.cons (x,y) [0] rfl .nil) rfl rfl rfl rfl rfl rfl rfl) λR=> ?_
   refine D.frz 0 rfl ?_
   have ⟨_,z,A⟩:=bnd w
   refine Da [0] [0] rfl rfl (Ac.ap (ty:=aT) z rfl rfl rfl rfl rfl rfl rfl) ?_
   rintro ⟨B,C⟩
   refine Dq 9 ?_
   refine Dn ?_
   refine Z0 ?_
   cases A
   exact Eg (_,(B,C)) (m _ rfl) [3,1,1] [] 4
  refine Z0 ?_
  cases g
  have hb:=n _ rfl
  subst f
  exact Eg (d,e) trivial [0,0,0] [] 0
 rintro ⟨a,b⟩
 refine Z1 ?_
 have ⟨S,F,I⟩:=bnd k
 refine Lk [] [1] (iR A1 C1 F) λ⟨J,M⟩=> ?_
 refine Z0 ?_
 refine Lt 3 ?_
 refine Z0 ?_
 refine Lt 0 ?_
 refine Z1 ?_
 refine Lt 3 ?_
 refine Z0 ?_
 refine E.frz 3 rfl ?_
 refine E.frz 2 rfl ?_
 cases I
 exact Eo ((a,b),(J,M)) [] [1,0] (.cell 0 rfl rfl rfl .nil)
theorem k9 {t_:bA} {r:aS} (H:cQ t_=some r):CT G 39 [.pointer (some ⟨N0,0,none⟩)] [Ch.box N0 155 (dQ t_ N1 A0 C0 A1 C1),Ch.box N1 153 (cL t_.slot M0),Ch.mp Ty.str false M0 t_.slot.parts] [Im.sl aT A0 C0 t_.aJ.rows,Im.sl aH A1 C1 t_.aJ.begun] (λh:(Option Addr×Nat)×(Option Addr×Nat)=> .agg (qi r h.1.1 h.1.2 h.2.1 h.2.2).toArray) (λh=>[Ch.box N0 155 (dQ t_ N1 A0 C0 A1 C1),Ch.box N1 153 (cL t_.slot M0),Ch.mp Ty.str false M0 t_.slot.parts]) (λh=>[Im.sl aT h.1.1 h.1.2 r.rows,Im.sl aH h.2.1 h.2.2 r.begun]):=by
 delta cQ at H
 refine Cf Go.Proofs.Tryz.func39 λK=> ?_
 refine Z1 ?_
 refine Ll λg1=> ?_
 refine Z1 ?_
 have ⟨r2,h3,H4⟩:=bnd H
 refine Lk [] [0,1] (lR h3) λ⟨⟨a5,c6⟩,⟨a7,c8⟩⟩=> ?_
 refine Lt 0 ?_
 refine Z0 ?_
 cases H4
 exact Eo ((a5,c6),(a7,c8)) [1,1,1] [0,1] (.cell 0 rfl rfl rfl .nil)
theorem mi {x_:aB} {r:aB} (H:eS x_=some r):CT G 97 [.agg #[.int .i64 x_.from_,.int .i64 x_.to]] [] [] (λ_:Unit=> .agg #[.int .i64 r.from_,.int .i64 r.to]) (λh=>[]) (λh=>[]):=by
 delta eS at H
 refine Cf Go.Proofs.Tryz.func97 λK=> ?_
 refine Z1 ?_
 refine Lx λg1=> ?_
 refine Ll λg2=> ?_
 refine Z1 ?_
 refine Lt 0 ?_
 refine Z0 ?_
 cases H
 exact Eo () [] [] (.cell 0 rfl rfl rfl .nil)
theorem rV {x_:aB} {y:aB} {r:aB} (H:jZ x_ y=some r):CT G 100 [.agg #[.int .i64 x_.from_,.int .i64 x_.to],.agg #[.int .i64 y.from_,.int .i64 y.to]] [] [] (λ_:Unit=> .agg #[.int .i64 r.from_,.int .i64 r.to]) (λh=>[]) (λh=>[]):=by
 delta jZ at H
 refine Cf Go.Proofs.Tryz.func100 λK=> ?_
 refine Z1 ?_
 refine Lx λg1=> ?_
 refine Lx λg2=> ?_
 refine Ll λg3=> ?_
 refine Z1 ?_
 refine Lt 0 ?_
 refine Z0 ?_
 cases H
 exact Eo () [] [] (.cell 0 rfl rfl rfl .nil)
theorem jF {x_:aB} {r:Bool} (H:dI x_=some r):CT G 98 [.agg #[.int .i64 x_.from_,.int .i64 x_.to]] [] [] (λ_:Unit=> .bool r) (λh=>[]) (λh=>[]):=by
 delta dI at H
 refine Cf Go.Proofs.Tryz.func98 λK=> ?_
 refine Z1 ?_
 refine Lx λg1=> ?_
 refine Z1 ?_
 cases H
 exact Eo1 () [] []
theorem pE {s_:cA} {x_:aB} {r:(List aB)} (H:jc s_ x_=some r):CT G 47 [.pointer (some ⟨N0,0,none⟩),.agg #[.int .i64 x_.from_,.int .i64 x_.to]] [Ch.box N0 106 [.slice A0 s_.l.length C0]] [Im.sl aC A0 C0 s_.l] (λh:(Option Addr×Nat)=> .slice h.1 r.length h.2) (λh=>[Ch.arr aC 47 h.1 h.2 r,Ch.box N0 106 [.slice A0 s_.l.length C0]]) (λh=>[]):=by
 delta jc at H
 refine Cf Go.Proofs.Tryz.func47 λK=> ?_
 refine Z1 ?_
 refine Lx λg1=> ?_
 refine Z3 ?_
 have ⟨i,o,p⟩:=bnd H
 refine Tjh (η:=(Option Addr×Nat)) (λh=>(λc d=>[(5,.slice c i.length d)]) h.1 h.2) [] (λh=>(λc d=>[Ch.arr aC 47 c d i]) h.1 h.2) [0,1] (λ_=>[]) ?_ ?_
 ·refine Yl0 ?_
  refine T.gK aC 47 ?_
  refine Tq (η:=(Option Addr×Nat)) (λe h=>(λa b=>[(5,.slice a e.2.length b),(14,.int .i64 e.1)]) h.1 h.2) [3,12,13] (λe h=>(λa b=>[Ch.arr aC 47 a b e.2]) h.1 h.2) [1,2] (λ_ _=>[]) (none,0) [0,0,0] [] o ?_
  rintro k_ e ⟨a,b⟩ P q s t
  refine Y2 ?_
  refine Tb q (λj=> ?_) λj=> ?_
  ·refine Y1 ?_
   have ⟨n,u,v⟩:=bnd j
   refine Tjh (η:=(Option Addr×Nat)) (λh=>(λf g=>[(5,.slice f n.length g)]) h.1 h.2) [3,12,13,14] (λh=>(λf g=>[Ch.arr aC 47 f g n]) h.1 h.2) [1,2] (λ_=>[]) ?_ ?_
   ·refine Zl ?_
    refine Z1 ?_
    have ⟨Q,k,w⟩:=bnd u
    refine L.addr 0 rfl (bH k) λR S x=> ?_
    subst x
    refine Ly (Yl.ia k rfl rfl rfl rfl rfl rfl) ?_
    refine L.el 0 rfl (aI k).2 ?_
    rintro _
    refine Lc 0 0 ?_
    refine Ll λU=> ?_
    refine Lt 0 ?_
    refine Y1 ?_
    refine Td [5] [0,0,0,0] mo ?_
    refine Db 0 0 ?_
    refine Db 1 2 ?_
    refine DF.of rfl ?_
    have ⟨V,y,z⟩:=bnd w
    refine DF.add _ (FSp.ac 2 [] (Ac.call (mi y) rfl rfl rfl rfl) rfl rfl rfl rfl rfl) rfl ?_
    have ⟨A,B,C⟩:=bnd z
    refine DF.add _ (FSp.dep 0 rfl rfl λ⟨⟩=>FSp.ac 3 [] (Ac.call (rV B) rfl rfl rfl rfl) rfl rfl rfl rfl rfl) rfl ?_
    refine DF.add _ (FSp.ac 4 [] (Ac.alloc rfl rfl) rfl rfl rfl rfl rfl) rfl ?_
    refine DF.step 5 rfl rfl rfl rfl rfl ?_
    refine DFp.use 0 rfl rfl rfl ?_
    intro W
    refine DFp.use 0 rfl rfl rfl ?_
    rintro ⟨⟩
    refine DFp.use 0 rfl rfl rfl ?_
    rintro ⟨⟩
    refine DFp.al [4] [] (Ac.stb rfl rfl rfl rfl rfl rfl) rfl rfl rfl rfl rfl rfl rfl ?_
    intro _
    refine DF.fin rfl rfl rfl rfl rfl ?_
    refine DFe.nil ?_
    refine Z1 ?_
    have ⟨X,F,I⟩:=bnd C
    refine Lk [] [] (jF F) λ⟨⟩=> ?_
    refine Z0 ?_
    refine Tb I (λm=> ?_) λm=> ?_
    ·refine Z0 ?_
     refine La [] [] (Ac.bs (ty:=aC) (xs:=[A]) (.cons () [] rfl .nil) rfl rfl rfl rfl rfl rfl rfl) λY=> ?_
     refine L.frz 0 rfl ?_
     have ⟨_,J,M⟩:=bnd m
     refine La [2] [0] (Ac.ap (ty:=aC) J rfl rfl rfl rfl rfl rfl rfl) ?_
     rintro ⟨N,O⟩
     refine Z0 ?_
     cases M
     exact Eg (N,O) trivial [0,2,2] [] 2
    refine Z0 ?_
    cases m
    exact Eg (a,b) trivial [2,2,2] [] 1
   rintro ⟨f,g⟩
   refine Z0 ?_
   cases v
   exact Eg (_,(f,g)) (s _ rfl) [0,0,0] [] 0
  refine Z0 ?_
  cases j
  have hb:=t _ rfl
  subst i
  exact Eg (a,b) trivial [0,0,0] [] 0
 rintro ⟨c,d⟩
 refine Z1 ?_
 cases p
 exact Eo1 (c,d) [0,1] []
theorem rW {f:bE} {now:Int} {length:Int} {r:(List aB)×bE} (H:eG f now length=some r):CT G 38 [.pointer (some ⟨N0,0,none⟩),.int .i64 now,.int .i64 length] [Ch.box N0 161 (dM f N1),Ch.box N1 106 [.slice A0 f.want.l.length C0]] [Im.sl aC A0 C0 f.want.l] (λh:(Option Addr×Nat)=> .slice h.1 r.1.length h.2) (λh=>[Ch.arr aC 47 h.1 h.2 r.1,Ch.box N0 161 (dM r.2 N1),Ch.box N1 106 [.slice A0 r.2.want.l.length C0]]) (λh=>[Im.sl aC A0 C0 r.2.want.l]):=by
 delta eG at H
 refine Cf Go.Proofs.Tryz.func38 λK=> ?_
 refine Z2 ?_
 have ⟨r1,h2,H3⟩:=bnd H
 refine Lk [1] [0] (pE h2) λ⟨a4,c5⟩=> ?_
 refine Y2 ?_
 have ⟨c,d,e⟩:=bnd H3
 refine Tj0 [(25,.bool c)] [0,1,7] [] [1,2,0] ?_ ?_
 ·refine Z0 ?_
  refine Lw 18 d (λa=> ?_) λa=> ?_
  ·refine Z0 ?_
   cases a
   exact Eg0 [1,1,0] 0
  refine Z0 ?_
  cases a
  exact Eg0 [1,1,0] 0
 refine Tb e (λb=> ?_) λb=> ?_
 ·refine Z1 ?_
  refine E.gK aC 47 ?_
  cases b
  exact Eo1 (none,0) [0,1,0] [0]
 refine Z1 ?_
 refine Lt 1 ?_
 refine Z1 ?_
 have ⟨_,g,i⟩:=bnd b
 refine La [2] [] (Ac.rso g rfl rfl rfl rfl rfl rfl rfl) λ_=> ?_
 refine Z0 ?_
 cases i
 exact Eo1 (a4,c5) [0,0,0] [0]
theorem oa {n_:Int} {lo:Int} {hi:Int} {r:Bool} (H:iO n_ lo hi=some r):CT G 156 [.int .i64 n_,.int .i64 lo,.int .i64 hi] [] [] (λ_:Unit=> .bool r) (λh=>[]) (λh=>[]):=by
 delta iO at H
 refine Cf Go.Proofs.Tryz.func156 λK=> ?_
 refine Y2 ?_
 have ⟨e4,H5,H6⟩:=bnd H
 refine Tj0 [(6,.bool e4)] [] [] [] ?_ ?_
 ·refine Z0 ?_
  refine Lw 10 H5 (λH7=> ?_) λH7=> ?_
  ·refine Z0 ?_
   cases H7
   exact Eg0 [] 0
  refine Z0 ?_
  cases H7
  exact Eg0 [] 0
 refine Z0 ?_
 cases H6
 exact Eo1 () [] []
theorem rX {g:aV} {r:Bool} (H:iz g=some r):CT G 95 [.agg (rR g A0 C0).toArray] [] [Im.sl (Ty.int .i64) A0 C0 g.bB] (λ_:Unit=> .bool r) (λh=>[]) (λh=>[]):=by
 delta iz at H
 refine Cf Go.Proofs.Tryz.func95 λK=> ?_
 refine Z1 ?_
 refine Lx λg1=> ?_
 refine Y2 ?_
 have ⟨m,n,o⟩:=bnd H
 refine Tj0 [(20,.bool m)] [1] [] [0] ?_ ?_
 ·refine Z0 ?_
  have ⟨F,p,q⟩:=bnd n
  refine Lk [] [] (oa p) λ⟨⟩=> ?_
  refine Z0 ?_
  refine Lw 9 q (λa=> ?_) λa=> ?_
  ·refine Z0 ?_
   cases a
   exact Eg0 [0] 0
  refine Z0 ?_
  have ⟨I,s,t⟩:=bnd a
  refine Lk [] [] (oa s) λ⟨⟩=> ?_
  refine Z0 ?_
  refine Lw 15 t (λb=> ?_) λb=> ?_
  ·refine Z0 ?_
   cases b
   exact Eg0 [0] 0
  refine Z0 ?_
  cases b
  exact Eg0 [0] 0
 refine Tb o (λc=> ?_) λc=> ?_
 ·refine Z1 ?_
  cases c
  exact Eo1 () [] []
 refine Z2 ?_
 have ⟨d,u,j⟩:=bnd c
 refine Tj (η:=Unit×Unit) (λh=>d = .inl h.1) (λ_=>[]) [] (λ_=>[]) [0] (λ_=>[]) ?_ ?_
 ·refine Yl0 ?_
  refine Tq (η:=Unit) (λk h=>[(24,.int .i64 k)]) [22,23] (λ_ _=>[]) [0] (λ_ _=>[]) () [0] [] u ?_
  rintro k_ k ⟨⟩ v w x l
  refine Y2 ?_
  refine Tb w (λe=> ?_) λe=> ?_
  ·refine Z1 ?_
   refine Zl ?_
   refine Z1 ?_
   have ⟨J,f,y⟩:=bnd e
   refine L.addr 0 rfl (bH f) λM N z=> ?_
   subst z
   refine Ly (Yl.ia f rfl rfl rfl rfl rfl rfl) ?_
   refine L.el 0 rfl (aI f).2 ?_
   rintro _
   refine Lc 0 0 ?_
   refine Z1 ?_
   have ⟨O,A,B⟩:=bnd y
   refine Lk [] [] (oa A) λ⟨⟩=> ?_
   refine Z0 ?_
   refine Tb B (λi=> ?_) λi=> ?_
   ·refine Z1 ?_
    obtain ⟨P,hz,C⟩:=cF i
    subst v
    have hb:=l _ rfl
    subst d
    obtain rfl:=(sm j).symm
    refine Z0 ?_
    cases C
    exact Eo1 () [] []
   refine Z0 ?_
   cases i
   exact Eg (_,()) (x _ rfl) [0] [] 1
  refine Z0 ?_
  cases e
  have hb:=l _ rfl
  subst d
  exact Eg (_,()) rfl [0] [] 0
 rintro ⟨Q,⟨⟩⟩ hy
 subst hy
 refine Z1 ?_
 cases j
 exact Eo1 () [] []
theorem xA {n_:Int} {r:Int} (H:ng n_=some r):CT G 175 [.int .i64 n_] [] [] (λh:Nat=> .func (.func 208) #[] #[.pointer (some ⟨h,0,none⟩)]) (λh=>[Ch.box h 3 [.int .i64 r]]) (λh=>[]):=by
 delta ng at H
 refine Cf Go.Proofs.Tryz.func175 λK=> ?_
 refine Z1 ?_
 refine Lx λg1=> ?_
 refine Z1 ?_
 cases H
 exact Eo1 g1 [0] []
theorem Al {n_:Int} {r:Int} (H:oQ n_=some r):CT G 209 [.int .i64 n_] [] [] (λ_:Unit=> .int .i64 r) (λh=>[]) (λh=>[]):=by
 delta oQ at H
 refine Cf Go.Proofs.Tryz.func209 λK=> ?_
 refine Z2 ?_
 cases H
 exact Eo1 () [] []
theorem va {σ η:Type} {Y:σ->Int->Option (σ×Bool)} {y0:σ} {x1:Int} {yl:Nat} {C:σ->η->Ch} (hY: ∀ s (h:η) (x:Int) (t:Unit) z,Y s x=some z->YT G yl [.int .u8 x] [C s h] [] (λ_:η=> .bool z.2) (λh2=>[C z.1 h2]) (λ_=>[])) (h0:η) (g_1:Nat) {r:σ×Int} (H:kh Y y0 x1=some r):CT G 208 [.func (.yield yl) #[] #[],.pointer (some ⟨g_1,0,none⟩)] [C y0 h0,Ch.box g_1 3 [.int .i64 x1]] [] (λh:η=> .tuple #[]) (λh=>[C r.1 h,Ch.box g_1 3 [.int .i64 r.2]]) (λh=>[]):=by
  delta kh at H
  refine Cf Go.Proofs.Tryz.func208 λK=> ?_
  refine Z2 ?_
  have ⟨r1,h2,H3⟩:=bnd H
  refine Lk [] [] (Al h2) λ⟨⟩=> ?_
  refine Lt 1 ?_
  refine Z0 ?_
  have ⟨a,l,g⟩:=bnd H3
  refine Tj (η:=(Int×σ)×(η)) (λh=>a = .inl h.1) (λ_=>[]) [0,1] (λh=>(λb=>(λi=>[Ch.box g_1 3 [.int .i64 b.1],C b.2 i]) h.2) h.1) [] (λ_=>[]) ?_ ?_
  ·refine Yl0 ?_
   refine Tq (η:=η) (λ_ _=>[]) [0,1] (λc h=>(λd=>[Ch.box g_1 3 [.int .i64 c.1],C c.2 d]) h) [] (λ_ _=>[]) h0 [0,0] [] l ?_
   rintro k_ c d m n o j
   refine Z2 ?_
   refine Tb n (λe=> ?_) λe=> ?_
   ·refine Z1 ?_
    refine Zl ?_
    refine Z1 ?_
    have ⟨A,p,q⟩:=bnd e
    refine L.yd [1] [] (hY _ _ _ () _ p) rfl rfl rfl rfl rfl rfl rfl rfl ?_
    intro k
    refine Z0 ?_
    refine Tb q (λf=> ?_) λf=> ?_
    ·refine Z0 ?_
     obtain ⟨B,hz,u⟩:=cF f
     subst m
     have hb:=j _ rfl
     subst a
     obtain rfl:=(sm g).symm
     refine Z0 ?_
     cases u
     exact Eo k [0,0] [] .nil
    refine Z0 ?_
    refine Lt 1 ?_
    refine Z0 ?_
    cases f
    exact Eg (_,k) (o _ rfl) [0,0] [] 0
   refine Z0 ?_
   cases e
   have hb:=j _ rfl
   subst a
   exact Eg (_,d) rfl [0,0] [] 0
  rintro ⟨b,i⟩ hy
  subst hy
  refine Z0 ?_
  have ⟨F,v,w⟩:=bnd g
  refine L.yd [1] [] (hY _ _ _ () _ v) rfl rfl rfl rfl rfl rfl rfl rfl ?_
  intro y
  refine Ln (E.off ?_)
  cases w
  exact Eo y [0,0] [] .nil
theorem gI {o:cK} {l:List Int} {r:cK} (H:dH o l=some r):CT G 131 [.pointer (some ⟨N0,0,none⟩),.slice A1 l.length C1] [Ch.box N0 224 [.slice A0 o.b.length C0],Ch.arr (Ty.int .u8) 5 A0 C0 o.b] [Im.sl (Ty.int .i64) A1 C1 l] (λh:(Option Addr×Nat)=> .pointer (some ⟨N0,0,none⟩)) (λh=>[Ch.box N0 224 [.slice h.1 r.b.length h.2],Ch.arr (Ty.int .u8) 5 h.1 h.2 r.b]) (λh=>[]):=by
 delta dH at H
 refine Cf Go.Proofs.Tryz.func131 λK=> ?_
 refine T.xY ?_
 refine Z1 ?_
 refine Lx λg1=> ?_
 refine Z2 ?_
 have ⟨n,w,y⟩:=bnd H
 refine T.CA (η:=Unit×((Option Addr×Nat)×List Nat)) (λh=>True) (λh=>(λf g i=>i) h.2.1.1 h.2.1.2 h.2.2) (λh=>(λf g i=>[(2,.pointer (some ⟨g1,0,none⟩))]) h.2.1.1 h.2.1.2 h.2.2) (λh=>(λf g i=>[Ch.arr (Ty.int .u8) 5 f g n.b,Ch.box g1 226 [.pointer (some ⟨N0,0,none⟩)],Ch.dfs i,Ch.box N0 224 [.slice f n.b.length g]]) h.2.1.1 h.2.1.2 h.2.2) (λh=>(λf g i=>[Im.sl (Ty.int .i64) A1 C1 l]) h.2.1.1 h.2.1.2 h.2.2) ?_ ?_
 ·refine Yl0 ?_
  refine T.lpD (η:=(Option Addr×Nat)×List Nat) (λa h=>(λc d e=>e) h.1.1 h.1.2 h.2) (λa h=>(λc d e=>[(2,.pointer (some ⟨g1,0,none⟩)),(8,.slice A1 l.length C1),(9,.int .i64 (l.length:Int)),(10,.int .i64 a.2)]) h.1.1 h.1.2 h.2) (λa h=>(λc d e=>[Ch.arr (Ty.int .u8) 5 c d a.1.b,Ch.box g1 226 [.pointer (some ⟨N0,0,none⟩)],Ch.dfs e,Ch.box N0 224 [.slice c a.1.b.length d]]) h.1.1 h.1.2 h.2) (λa h=>(λc d e=>[Im.sl (Ty.int .i64) A1 C1 l]) h.1.1 h.1.2 h.2) ((A0,C0),[]) [3,0,0,0] [0] w rfl ⟨rfl,rfl,rfl,rfl,trivial⟩ rfl rfl ?_
  rintro k_ a ⟨⟨c,d⟩,e⟩ ab z A B
  refine Y2 ?_
  refine Tb z (λp=> ?_) λp=> ?_
  ·refine Z1 ?_
   refine Zl ?_
   refine Z1 ?_
   have ⟨F,q,I⟩:=bnd p
   refine L.addr 0 rfl (bH q) λs u J=> ?_
   subst J
   refine Ly (Yl.ia q rfl rfl rfl rfl rfl rfl) ?_
   refine L.el 0 rfl (aI q).2 ?_
   rintro _
   refine Lc 0 0 ?_
   refine Z1 ?_
   have ⟨ac,M,N⟩:=bnd I
   refine Lk [] [] (xA M) λO=> ?_
   refine Yl0 ?_
   have ⟨P,Q,R⟩:=bnd N
   refine T.rf2 (σ:=cK) (η:=(Option Addr×Nat)) (X:=Int) (θ:=Unit) (τ:=(Option Addr×Nat)) (s1:=P.1) (hx:=λx=>x) (λx t=>[.int .u8 x]) (λx t=>[]) (λ_=>none) (λj h=>(λk m=>[Ch.arr (Ty.int .u8) 5 k m j.b,Ch.box g1 226 [.pointer (some ⟨N0,0,none⟩)],Ch.box N0 224 [.slice k j.b.length m]]) h.1 h.2) (λj h=>(λk m=>[Im.cells s (u+a.2.toNat*1) [.int .i64 F],Im.sl (Ty.int .i64) (some ⟨s,u,none⟩) C1 l]) h.1 h.2) 3 [1,1,1,0] [0,1] [] rfl rfl (λ_ _=>rfl) rfl (λyl C hY=>(va hY (c,d) O Q:_)) (λ_ _ _ _=>rfl) rfl rfl rfl rfl rfl ?_ rfl ?_
   ·rintro yl K2 j ⟨k,m⟩ S ⟨⟩ ad U
    refine Z0 ?_
    refine E.begin λK3=> ?_
    refine Yl0 ?_
    refine Td [10] [1,1] mo ?_
    refine Db 0 0 ?_
    refine Db 1 0 ?_
    refine Dq 2 ?_
    refine Dq 3 ?_
    refine Db 4 1 ?_
    refine Dq 5 ?_
    refine Da [] [] rfl rfl (Ac.bs (ty:=(Ty.int .u8)) (xs:=[S]) (.cons () [] rfl .nil) rfl rfl rfl rfl rfl rfl rfl) λae=> ?_
    refine D.frz 0 rfl ?_
    have ⟨_,V,W⟩:=bnd U
    refine Da [0] [0] rfl rfl (Ac.ap (ty:=(Ty.int .u8)) V rfl rfl rfl rfl rfl rfl rfl) ?_
    rintro ⟨Y,Z⟩
    refine Dq 8 ?_
    refine Dq 9 ?_
    refine Dt 1 ?_
    refine Dn ?_
    refine Z0 ?_
    cases W
    exact E.on (Y,Z) [2,1,0] [1,2] rfl rfl rfl rfl
   rintro v aa
   refine Z0 ?_
   cases R
   exact E.tq (_,((v.1,v.2),(aa::e))) [1,1,0,0] [1] (A _ rfl) rfl ⟨rfl,rfl,rfl,rfl,trivial⟩ rfl rfl
  refine Z0 ?_
  cases p
  have hb:=B _ rfl
  subst n
  exact E.tq ((),((c,d),e)) [0,0,0,0] [0] trivial rfl ⟨rfl,trivial⟩ rfl rfl
 rintro ⟨_,⟨⟨f,g⟩,i⟩⟩ _
 refine Z1 ?_
 cases y
 exact E.zr (f,g) 2 [2,0] [] rfl (.tmp rfl .nil) rfl rfl rfl
theorem oc {o:cK} {l:List ByteArray} {r:cK} (H:iK o l=some r):CT G 176 [.pointer (some ⟨N0,0,none⟩),.slice A1 l.length C1] [Ch.box N0 224 [.slice A0 o.b.length C0],Ch.arr (Ty.int .u8) 5 A0 C0 o.b] [Im.sl Ty.str A1 C1 l] (λh:(Option Addr×Nat)=> .pointer (some ⟨N0,0,none⟩)) (λh=>[Ch.box N0 224 [.slice h.1 r.b.length h.2],Ch.arr (Ty.int .u8) 5 h.1 h.2 r.b]) (λh=>[]):=by
 delta iK at H
 refine Cf Go.Proofs.Tryz.func176 λK=> ?_
 refine Z3 ?_
 have ⟨g,k,m⟩:=bnd H
 refine Tjh (η:=(Option Addr×Nat)) (λ_=>[]) [0] (λh=>(λe f=>[Ch.arr (Ty.int .u8) 5 e f g.b,Ch.box N0 224 [.slice e g.b.length f]]) h.1 h.2) [] (λ_=>[]) ?_ ?_
 ·refine Yl0 ?_
  refine Tq (η:=(Option Addr×Nat)) (λa h=>(λc d=>[(9,.int .i64 a.2)]) h.1 h.2) [0,7,8] (λa h=>(λc d=>[Ch.arr (Ty.int .u8) 5 c d a.1.b,Ch.box N0 224 [.slice c a.1.b.length d]]) h.1 h.2) [] (λ_ _=>[]) (A0,C0) [1,0] [] k ?_
  rintro k_ a ⟨c,d⟩ y n p q
  refine Y2 ?_
  refine Tb n (λi=> ?_) λi=> ?_
  ·refine Z1 ?_
   refine Zl ?_
   refine Z1 ?_
   have ⟨z,j,s⟩:=bnd i
   refine L.addr 0 rfl (bH j) λA B t=> ?_
   subst t
   refine Ly (Yl.ia j rfl rfl rfl rfl rfl rfl) ?_
   refine L.el 0 rfl (aI j).2 ?_
   rintro _
   refine Lc 0 0 ?_
   refine Z0 ?_
   have ⟨_,u,v⟩:=bnd s
   refine La [0] [] (Ac.aps u rfl rfl rfl rfl rfl rfl rfl rfl rfl Gq) ?_
   rintro ⟨w,x⟩
   refine Z0 ?_
   refine Lt 1 ?_
   refine Z0 ?_
   cases v
   exact Eg (_,(w,x)) (p _ rfl) [1,0] [] 1
  refine Z0 ?_
  cases i
  have hb:=q _ rfl
  subst g
  exact Eg (c,d) trivial [0,0] [] 0
 rintro ⟨e,f⟩
 refine Z1 ?_
 cases m
 exact Eo1 (e,f) [1,0] []
theorem pF {o:cK} {l:List ByteArray} {r:cK} (H:ja o l=some r):CT G 132 [.pointer (some ⟨N0,0,none⟩),.slice A1 l.length C1] [Ch.box N0 224 [.slice A0 o.b.length C0],Ch.arr (Ty.int .u8) 5 A0 C0 o.b] [Im.sl Ty.str A1 C1 l] (λh:(Option Addr×Nat)=> .pointer (some ⟨N0,0,none⟩)) (λh=>[Ch.box N0 224 [.slice h.1 r.b.length h.2],Ch.arr (Ty.int .u8) 5 h.1 h.2 r.b]) (λh=>[]):=by
 delta ja at H
 refine Cf Go.Proofs.Tryz.func132 λK=> ?_
 refine Z3 ?_
 have ⟨g,m,n⟩:=bnd H
 refine Tjh (η:=(Option Addr×Nat)) (λ_=>[]) [0] (λh=>(λe f=>[Ch.arr (Ty.int .u8) 5 e f g.b,Ch.box N0 224 [.slice e g.b.length f]]) h.1 h.2) [] (λ_=>[]) ?_ ?_
 ·refine Yl0 ?_
  refine Tq (η:=(Option Addr×Nat)) (λa h=>(λc d=>[(9,.int .i64 a.2)]) h.1 h.2) [0,7,8] (λa h=>(λc d=>[Ch.arr (Ty.int .u8) 5 c d a.1.b,Ch.box N0 224 [.slice c a.1.b.length d]]) h.1 h.2) [] (λ_ _=>[]) (A0,C0) [1,0] [] m ?_
  rintro k_ a ⟨c,d⟩ B p q s
  refine Y2 ?_
  refine Tb p (λi=> ?_) λi=> ?_
  ·refine Z1 ?_
   refine Zl ?_
   refine Z1 ?_
   have ⟨k,j,t⟩:=bnd i
   refine L.addr 0 rfl (bH j) λC F u=> ?_
   subst u
   refine Ly (Yl.ia j rfl rfl rfl rfl rfl rfl) ?_
   refine L.el 0 rfl (aI j).2 ?_
   rintro _
   refine Lc 0 0 ?_
   refine Z0 ?_
   refine La [] [] (Ac.bs (ty:=(Ty.int .i64)) (xs:=[(k.size:Int)]) (.cons () [] rfl .nil) rfl rfl rfl rfl rfl rfl rfl) λI=> ?_
   refine L.frz 0 rfl ?_
   have ⟨J,v,w⟩:=bnd t
   refine Lk [1,0] [0] (gI v) λ⟨M,N⟩=> ?_
   refine Z0 ?_
   refine La [] [] (Ac.bs (ty:=Ty.str) (xs:=[k]) (.cons () [] rfl .nil) rfl rfl rfl rfl rfl rfl rfl) λO=> ?_
   refine L.frz 0 rfl ?_
   have ⟨P,x,y⟩:=bnd w
   refine Lk [0,0] [0] (oc x) λ⟨z,A⟩=> ?_
   refine Z0 ?_
   cases y
   exact Eg (_,(z,A)) (q _ rfl) [1,0] [] 3
  refine Z0 ?_
  cases i
  have hb:=s _ rfl
  subst g
  exact Eg (c,d) trivial [0,0] [] 0
 rintro ⟨e,f⟩
 refine Z1 ?_
 cases n
 exact Eo1 (e,f) [1,0] []
theorem kZ {o:cK} {r:ByteArray} (H:fG o=some r):CT G 133 [.pointer (some ⟨N0,0,none⟩)] [Ch.box N0 224 [.slice A0 o.b.length C0],Ch.arr (Ty.int .u8) 5 A0 C0 o.b] [] (λ_:Unit=> .string r) (λh=>[Ch.box N0 224 [.slice A0 o.b.length C0],Ch.arr (Ty.int .u8) 5 A0 C0 o.b]) (λh=>[]):=by
 delta fG at H
 refine Cf Go.Proofs.Tryz.func133 λK=> ?_
 refine Z2 ?_
 refine Ly (Yl.bs 1 rfl rfl rfl rfl rfl rfl rfl rfl rfl) ?_
 refine Z0 ?_
 cases H
 exact Eo1 () [0,0] []
theorem Am {x_:Int} {b:Int} {r:Int} (H:lY x_ b=some r):CT G 154 [.int .u32 x_,.int .u8 b] [] [Im.sl (Ty.int .u32) (some ⟨0,0,none⟩) 16 dD] (λ_:Unit=> .int .u32 r) (λh=>[]) (λh=>[]):=by
 delta lY at H
 refine Cf Go.Proofs.Tryz.func154 λK=> ?_
 refine Z3 ?_
 have ⟨x1,h2,H3⟩:=bnd H
 refine Ly (Yl.xg h2 rfl rfl rfl rfl rfl rfl rfl) ?_
 refine L.el 0 rfl (aI h2).2 ?_
 rintro _
 refine Lc 0 0 ?_
 refine Z1 ?_
 have ⟨x5,h6,H7⟩:=bnd H3
 refine Ly (Yl.xg h6 rfl rfl rfl rfl rfl rfl rfl) ?_
 refine L.el 1 rfl (aI h6).2 ?_
 rintro _
 refine Lc 0 0 ?_
 refine Z0 ?_
 cases H7
 exact Eo1 () [] []
theorem vb {l:List ByteArray} {r:Int} (H:nz l=some r):CT G 91 [.slice A0 l.length C0] [] [Im.sl Ty.str A0 C0 l,Im.sl (Ty.int .u32) (some ⟨0,0,none⟩) 16 dD] (λ_:Unit=> .int .u32 r) (λh=>[]) (λh=>[]):=by
 delta nz at H
 refine Cf Go.Proofs.Tryz.func91 λK=> ?_
 refine Z3 ?_
 refine Z1 ?_
 have ⟨j,m,n⟩:=bnd H
 refine Tj0 [(3,.int .u32 j)] [] [] [] ?_ ?_
 ·refine Yl0 ?_
  refine Tq (η:=Unit) (λa h=>[(3,.int .u32 a.1),(9,.int .i64 a.2)]) [7,8] (λ_ _=>[]) [] (λ_ _=>[]) () [] [] m ?_
  rintro k_ a ⟨⟩ I o p q
  refine Y2 ?_
  refine Tb o (λb=> ?_) λb=> ?_
  ·refine Z1 ?_
   refine Zl ?_
   refine Z1 ?_
   have ⟨s,d,t⟩:=bnd b
   refine L.addr 0 rfl (bH d) λe f u=> ?_
   subst u
   refine Ly (Yl.ia d rfl rfl rfl rfl rfl rfl) ?_
   refine L.el 0 rfl (aI d).2 ?_
   rintro _
   refine Lc 0 0 ?_
   refine Z1 ?_
   have ⟨k,v,w⟩:=bnd t
   refine T.pc (η:=Unit×Unit) (λh=>True) (λh=>[(3,.int .u32 k),(7,.slice (some ⟨e,f,none⟩) l.length C0),(8,.int .i64 (l.length:Int)),(9,.int .i64 a.2)]) (λh=>[]) (λh=>[Im.cells e (f+a.2.toNat*1) [.string s],Im.sl Ty.str (some ⟨e,f,none⟩) C0 l,Im.sl (Ty.int .u32) (some ⟨0,0,none⟩) 16 dD]) ?_ ?_
   ·refine Yl0 ?_
    refine Tq (η:=Unit) (λg h=>[(3,.int .u32 g.2),(15,.int .i64 g.1)]) [5,7,8,9,14] (λ_ _=>[]) [] (λ_ _=>[]) () [] [] v ?_
    rintro k_ g ⟨⟩ J x y z
    refine Y2 ?_
    refine Tb x (λi=> ?_) λi=> ?_
    ·refine Z1 ?_
     refine Zl ?_
     refine Z1 ?_
     have ⟨M,A,B⟩:=bnd i
     refine Ly (Yl.si A rfl rfl rfl rfl rfl) ?_
     have ⟨N,C,F⟩:=bnd B
     refine Lk [] [2] (Am C) λ⟨⟩=> ?_
     refine Z0 ?_
     cases F
     exact Eg (_,()) (y _ rfl) [] [] 0
    refine Z0 ?_
    cases i
    have hb:=z _ rfl
    subst k
    exact Egx ((),()) trivial [] [0,1,2]
   rintro ⟨_,⟨⟩⟩ _
   refine Z0 ?_
   cases w
   exact Eg (_,()) (p _ rfl) [] [] 1
  refine Z0 ?_
  cases b
  have hb:=q _ rfl
  subst j
  exact Eg0 [] 0
 refine Z1 ?_
 refine Ly (Yl.com (c:=4294967295) rfl rfl rfl) ?_
 refine Z0 ?_
 cases n
 exact Eo1 () [] []
theorem vd {x_:Int} {r:ByteArray} (H:lZ x_=some r):CT G 90 [.int .u32 x_] [] [] (λ_:Unit=> .string r) (λh=>[]) (λh=>[]):=by
 delta lZ at H
 refine Cf Go.Proofs.Tryz.func90 λK=> ?_
 refine Z2 ?_
 refine La [] [] (Ac.bs (ty:=(Ty.int .u8)) (xs:=[(IntKind.u8.wrap x_),(IntKind.u8.wrap (x_.fdiv (2 ^ (min 8 32)))),(IntKind.u8.wrap (x_.fdiv (2 ^ (min 16 32)))),(IntKind.u8.wrap (x_.fdiv (2 ^ (min 24 32))))]) (.cons () [] rfl (.cons () [] rfl (.cons () [] rfl (.cons () [] rfl .nil)))) rfl rfl rfl rfl rfl rfl rfl) λg1=> ?_
 refine Ly (Yl.bs 0 rfl rfl rfl rfl rfl rfl rfl rfl rfl) ?_
 refine Z0 ?_
 cases H
 exact Eo1 () [] []
theorem An {s_:ByteArray} {r:ByteArray} (H:l0 s_=some r):CT G 130 [.string s_] [] [Im.sl (Ty.int .u32) (some ⟨0,0,none⟩) 16 dD] (λ_:Unit=> .string r) (λh=>[]) (λh=>[]):=by
 delta l0 at H
 refine Cf Go.Proofs.Tryz.func130 λK=> ?_
 refine Z2 ?_
 refine La [] [] (Ac.bs (ty:=Ty.str) (xs:=[s_]) (.cons () [] rfl .nil) rfl rfl rfl rfl rfl rfl rfl) λg1=> ?_
 have ⟨r3,h4,H5⟩:=bnd H
 refine L.br (Ac.call (vb h4) rfl rfl rfl rfl) (Bw.ch 0 rfl (Bw.im 0 rfl (Bw.nil))) rfl rfl rfl ?_
 intro _
 have ⟨r6,h7,H8⟩:=bnd H5
 refine Lk [] [] (vd h7) λ⟨⟩=> ?_
 have ⟨_,h9,a⟩:=bnd H8
 refine Ly (Yl.sa h9 rfl rfl rfl) ?_
 refine Z0 ?_
 cases a
 exact Eo1 () [] []
theorem nW {g:aV} {r:ByteArray} (H:gO g=some r):CT G 74 [.agg (rR g A0 C0).toArray] [] [Im.sl (Ty.int .i64) A0 C0 g.bB,Im.sl (Ty.int .u32) (some ⟨0,0,none⟩) 16 dD] (λ_:Unit=> .string r) (λh=>[]) (λh=>[]):=by
 delta gO at H
 refine Cf Go.Proofs.Tryz.func74 λK=> ?_
 refine Z1 ?_
 refine Lx λg1=> ?_
 refine Z1 ?_
 refine Ll λg2=> ?_
 refine Y1 ?_
 refine Td [] [1] mo ?_
 refine Dq 0 ?_
 refine Db 1 0 ?_
 refine Dq 2 ?_
 refine Db 3 0 ?_
 refine Dq 4 ?_
 refine Db 5 0 ?_
 refine Dq 6 ?_
 refine Dq 9 ?_
 refine Db 10 0 ?_
 refine Dq 12 ?_
 refine Db 13 0 ?_
 refine DF.of rfl ?_
 refine DF.add _ (FSp.ac 7 [] (Ac.frz (Ac.bs (ty:=(Ty.int .i64)) (xs:=[g.aU,g.kind,(g.bB.length:Int)]) (.cons () [] rfl (.cons () [] rfl (.cons () [] rfl .nil))) rfl rfl rfl rfl rfl rfl rfl)) rfl rfl rfl rfl rfl) rfl ?_
 refine DF.add _ (FSp.ac 14 [] (Ac.frz (Ac.bs (ty:=Ty.str) (xs:=[g.data]) (.cons () [] rfl .nil) rfl rfl rfl rfl rfl rfl rfl)) rfl rfl rfl rfl rfl) rfl ?_
 refine DF.step 8 rfl rfl rfl rfl rfl ?_
 refine DFp.use 1 rfl rfl rfl ?_
 intro n
 refine DFp.gK (Ty.int .u8) 5 ?_
 have ⟨o,b,c⟩:=bnd H
 refine DFp.a [1,0] [0] (Ac.call (gI b) rfl rfl rfl rfl) rfl rfl rfl rfl rfl rfl rfl rfl ?_
 rintro ⟨p,s⟩
 refine DF.step 11 rfl rfl rfl rfl rfl ?_
 have ⟨t,d,e⟩:=bnd c
 refine DFp.a [0,0] [1] (Ac.call (gI d) rfl rfl rfl rfl) rfl rfl rfl rfl rfl rfl rfl rfl ?_
 rintro ⟨u,v⟩
 refine DF.step 15 rfl rfl rfl rfl rfl ?_
 refine DFp.use 0 rfl rfl rfl ?_
 intro w
 have ⟨x,f,i⟩:=bnd e
 refine DFp.a [0,0] [0] (Ac.call (pF f) rfl rfl rfl rfl) rfl rfl rfl rfl rfl rfl rfl rfl ?_
 rintro ⟨y,z⟩
 refine DF.step 16 rfl rfl rfl rfl rfl ?_
 have ⟨A,j,k⟩:=bnd i
 refine DFp.a [0,0] [] (Ac.call (kZ j) rfl rfl rfl rfl) rfl rfl rfl rfl rfl rfl rfl rfl ?_
 rintro ⟨⟩
 refine DF.step 17 rfl rfl rfl rfl rfl ?_
 have ⟨B,l,m⟩:=bnd k
 refine DFp.a [] [3] (Ac.call (An l) rfl rfl rfl rfl) rfl rfl rfl rfl rfl rfl rfl rfl ?_
 rintro ⟨⟩
 refine DF.step 18 rfl rfl rfl rfl rfl ?_
 refine DFp.a0 [] [] (Ac.q rfl) rfl rfl rfl rfl rfl rfl ?_
 intro _
 refine DF.fin rfl rfl rfl rfl rfl ?_
 refine DFe.nil ?_
 refine Z0 ?_
 cases m
 exact Eo1 () [] []
theorem nX {g:aV} {r:Int} (H:gP g=some r):CT G 44 [.agg (rR g A0 C0).toArray] [] [Im.sl (Ty.int .i64) A0 C0 g.bB,Im.sl (Ty.int .u32) (some ⟨0,0,none⟩) 16 dD] (λ_:Unit=> .int .i64 r) (λh=>[]) (λh=>[]):=by
 delta gP at H
 refine Cf Go.Proofs.Tryz.func44 λK=> ?_
 refine Z1 ?_
 refine Lx λg1=> ?_
 refine Z1 ?_
 refine Zl ?_
 refine Z1 ?_
 have ⟨i,c,d⟩:=bnd H
 refine Lk [] [0] (rX c) λ⟨⟩=> ?_
 refine Z0 ?_
 refine Tb d (λa=> ?_) λa=> ?_
 ·refine Z1 ?_
  cases a
  exact Eo1 () [] []
 refine Z1 ?_
 have ⟨j,e,f⟩:=bnd a
 refine Lk [] [0,1] (nW e) λ⟨⟩=> ?_
 refine Z0 ?_
 refine Tb f (λb=> ?_) λb=> ?_
 ·refine Z1 ?_
  cases b
  exact Eo1 () [] []
 refine Z1 ?_
 cases b
 exact Eo1 () [] []
theorem oH {g:aV} {r:ByteArray} (H:eC g=some r):CT G 29 [.agg (rR g A0 C0).toArray] [] [Im.sl (Ty.int .i64) A0 C0 g.bB,Im.sl (Ty.int .u32) (some ⟨0,0,none⟩) 16 dD] (λ_:Unit=> .string r) (λh=>[]) (λh=>[]):=by
 delta eC at H
 refine Cf Go.Proofs.Tryz.func29 λK=> ?_
 refine Z1 ?_
 refine Lx λg1=> ?_
 refine Z2 ?_
 have ⟨r2,h3,H4⟩:=bnd H
 refine Lk [] [0,1] (nX h3) λ⟨⟩=> ?_
 refine Z0 ?_
 refine Tb H4 (λH6=> ?_) λH6=> ?_
 ·refine Z1 ?_
  cases H6
  exact Eo1 () [] []
 refine Z1 ?_
 have ⟨r7,h8,H9⟩:=bnd H6
 refine Lk [] [0,1] (nW h8) λ⟨⟩=> ?_
 refine Z0 ?_
 cases H9
 exact Eo1 () [] []
theorem mR {c:aF} {now:Int} {r:(List ByteArray)×aF} (H:dU c now=some r):CT G 13 [.pointer (some ⟨N0,0,none⟩),.int .i64 now] [Ch.box N0 94 (jn c N1 N3 N4),Ch.box N1 155 (dQ c.aM N2 A0 C0 A1 C1),Ch.box N2 153 (cL c.aM.slot M0),Ch.mp Ty.str false M0 c.aM.slot.parts,Ch.box N3 158 [.int .i64 c.lines.most,.int .i64 c.lines.now,.map M1],Ch.mp aE true M1 c.lines.l,Ch.box N4 161 (dM c.bF N5),Ch.box N5 106 [.slice A2 c.bF.want.l.length C2]] [Im.sl aT A0 C0 c.aM.aJ.rows,Im.sl aH A1 C1 c.aM.aJ.begun,Im.sl aC A2 C2 c.bF.want.l,Im.sl (Ty.int .u32) (some ⟨0,0,none⟩) 16 dD] (λh:(Option Addr×Nat)=> .slice h.1 r.1.length h.2) (λh=>[Ch.arr Ty.str 9 h.1 h.2 r.1,Ch.box N0 94 (jn r.2 N1 N3 N4),Ch.box N1 155 (dQ r.2.aM N2 A0 C0 A1 C1),Ch.box N2 153 (cL r.2.aM.slot M0),Ch.mp Ty.str false M0 r.2.aM.slot.parts,Ch.box N3 158 [.int .i64 r.2.lines.most,.int .i64 r.2.lines.now,.map M1],Ch.mp aE true M1 r.2.lines.l,Ch.box N4 161 (dM r.2.bF N5),Ch.box N5 106 [.slice A2 r.2.bF.want.l.length C2]]) (λh=>[Im.sl aT A0 C0 r.2.aM.aJ.rows,Im.sl aH A1 C1 r.2.aM.aJ.begun,Im.sl aC A2 C2 r.2.bF.want.l]):=by
 delta dU at H
 refine Cf Go.Proofs.Tryz.func13 λK=> ?_
 refine Z3 ?_
 refine Z1 ?_
 have ⟨u,M,N⟩:=bnd H
 refine Tjh (η:=(Option Addr×Nat)) (λh=>(λd e=>[(5,.slice d u.1.length e)]) h.1 h.2) [0,1] (λh=>(λd e=>[Ch.arr kv 39 d e u.1,Ch.box N0 94 (jn u.2 N1 N3 N4)]) h.1 h.2) [1,2,4,6,7,3,5] (λ_=>[]) ?_ ?_
 ·refine Tb M (λw=> ?_) λw=> ?_
  ·refine Z1 ?_
   refine Lt 0 ?_
   refine Z0 ?_
   have ⟨O,P,Q⟩:=bnd w
   refine Lk [1,1,1] [0,1] (rU P) λ⟨R,S⟩=> ?_
   refine La [] [0] (Ac.bs (ty:=kv) (xs:=[O]) (.cons (R,S) [0] rfl .nil) rfl rfl rfl rfl rfl rfl rfl) λbc=> ?_
   refine L.gK kv 39 ?_
   refine L.frz 1 rfl ?_
   have ⟨_,U,V⟩:=bnd Q
   refine La [0] [0] (Ac.ap (ty:=kv) U rfl rfl rfl rfl rfl rfl rfl) ?_
   rintro ⟨W,X⟩
   refine Z0 ?_
   cases V
   exact Eg (W,X) trivial [0,3,0,0,1,2,2,0,0] [] 2
  refine Z0 ?_
  refine E.gK kv 39 ?_
  cases w
  exact Eg (none,0) trivial [0,0,0,0,1,2,2,0,0] [] 0
 rintro ⟨d,e⟩
 refine Y3 ?_
 refine Td [] [0,0,0,0,0,2,2] mo ?_
 refine Dq 0 ?_
 refine Dq 1 ?_
 refine Dq 2 ?_
 refine Db 3 1 ?_
 refine Dq 4 ?_
 refine Dq 5 ?_
 refine Dq 6 ?_
 refine Dq 7 ?_
 refine Db 8 1 ?_
 refine Dq 13 ?_
 have ⟨bd,Y,Z⟩:=bnd N
 refine D.one rfl rfl rfl (Dp.ab [2,2,3] [0,1] [3,3,0,0,1,0,0] (Ac.call (k9 Y) rfl rfl rfl rfl) rfl rfl rfl rfl rfl rfl (λ_=>rfl) ?_)
 rintro ⟨⟨be,bf⟩,⟨bg,bh⟩⟩
 refine Dq 10 ?_
 have ⟨bi,aa,ac⟩:=bnd Z
 refine Dk [0,0] [4] (rW aa) λ⟨bj,bk⟩=> ?_
 refine Dq 12 ?_
 refine Dn ?_
 refine Z0 ?_
 have ⟨p,ad,ae⟩:=bnd ac
 refine Tjh (η:=(Option Addr×Nat)) (λh=>(λf g=>[(6,.slice f p.length g)]) h.1 h.2) [0,5] (λh=>(λf g=>[Ch.arr (Ty.int .i64) 3 f g p]) h.1 h.2) [1,2,3,4,8,9,0,5,6] (λ_=>[]) ?_ ?_
 ·refine Yl0 ?_
  refine T.gK (Ty.int .i64) 3 ?_
  refine Tq (η:=(Option Addr×Nat)) (λa h=>(λi j=>[(6,.slice i a.2.length j),(49,.int .i64 a.1)]) h.1 h.2) [0,5,47,48] (λa h=>(λi j=>[Ch.arr (Ty.int .i64) 3 i j a.2]) h.1 h.2) [2,3,4,5,9,10,1,6,7,8] (λ_ _=>[]) (none,0) [0,1,1,1,1,4,4,0,0,0,0] [] ad ?_
  rintro k_ a ⟨i,j⟩ bl af ag ah
  refine Y2 ?_
  refine Tb af (λx=> ?_) λx=> ?_
  ·refine Z1 ?_
   refine Zl ?_
   refine Z1 ?_
   have ⟨q,y,ai⟩:=bnd x
   refine L.iZ 10 rfl (bH y) λbm aj=> ?_
   subst aj
   refine Ly (Yl.ia y rfl rfl rfl rfl rfl rfl) ?_
   refine Ly (Yl.lo (v:= .agg #[.int .i64 q.from_,.int .i64 q.to]) 10 a.1.toNat 0 (aI y).2 rfl rfl rfl rfl (λ_=>rfl)) ?_
   refine Ll λbn=> ?_
   refine Lt 0 ?_
   refine Z0 ?_
   refine La [] [] (Ac.bs (ty:=(Ty.int .i64)) (xs:=[q.from_,q.to]) (.cons () [] rfl (.cons () [] rfl .nil)) rfl rfl rfl rfl rfl rfl rfl) λbo=> ?_
   refine L.frz 0 rfl ?_
   have ⟨_,ak,al⟩:=bnd ai
   refine La [1] [0] (Ac.ap (ty:=(Ty.int .i64)) ak rfl rfl rfl rfl rfl rfl rfl) ?_
   rintro ⟨am,an⟩
   refine Z0 ?_
   cases al
   exact Eg (_,(am,an)) (ag _ rfl) [0,1,1,1,1,1,1,1,1,1,1] [] 1
  refine Z0 ?_
  cases x
  have hb:=ah _ rfl
  subst p
  exact Eg (i,j) trivial [0,0,0,0,0,0,0,0,0,0] [] 0
 rintro ⟨f,g⟩
 refine Z2 ?_
 have ⟨F,ao,aq⟩:=bnd ae
 refine Tjh (η:=(Option Addr×Nat)) (λh=>(λs t=>[(5,.slice s F.length t)]) h.1 h.2) [0] (λh=>(λs t=>[Ch.arr kv 39 s t F]) h.1 h.2) [1,2,3,4,5,6,8,9] (λ_=>[]) ?_ ?_
 ·refine Tb ao (λz=> ?_) λz=> ?_
  ·refine Z0 ?_
   refine L.frz 0 rfl ?_
   refine La [] [0] (Ac.bs (ty:=kv) (xs:=[(aV.mk 0 3 p (ByteArray.mk #[]))]) (.cons (f,g) [0] rfl .nil) rfl rfl rfl rfl rfl rfl rfl) λbp=> ?_
   refine L.frz 0 rfl ?_
   have ⟨_,ar,au⟩:=bnd z
   refine La [6] [0] (Ac.ap (ty:=kv) ar rfl rfl rfl rfl rfl rfl rfl) ?_
   rintro ⟨av,aw⟩
   refine Z0 ?_
   cases au
   exact Eg (av,aw) trivial [0,0,0,0,0,0,0,0,0] [] 2
  refine Z0 ?_
  cases z
  exact Eg (d,e) trivial [7,1,1,1,1,1,1,1,1] [] 0
 rintro ⟨s,t⟩
 refine Z3 ?_
 have ⟨A,ax,ay⟩:=bnd aq
 refine Tjh (η:=(Option Addr×Nat)) (λh=>(λk m=>[(9,.slice k A.length m)]) h.1 h.2) [] (λh=>(λk m=>[Ch.arr Ty.str 9 k m A]) h.1 h.2) [1,2,3,4,5,6,7,8] (λ_=>[]) ?_ ?_
 ·refine Yl0 ?_
  refine T.gK Ty.str 9 ?_
  refine Tq (η:=(Option Addr×Nat)) (λb h=>(λn o=>[(9,.slice n b.2.length o),(71,.int .i64 b.1)]) h.1 h.2) [0,69,70] (λb h=>(λn o=>[Ch.arr Ty.str 9 n o b.2]) h.1 h.2) [2,3,4,5,6,7,1,8,9] (λ_ _=>[]) (none,0) [0,1,1,1,1,1,1,0,0,0] [] ax ?_
  rintro k_ b ⟨n,o⟩ bq az a0 a1
  refine Y2 ?_
  refine Tb az (λB=> ?_) λB=> ?_
  ·refine Z1 ?_
   refine Zl ?_
   refine Z1 ?_
   have ⟨a2,C,a3⟩:=bnd B
   refine L.iZ 7 rfl (bH C) λbr a4=> ?_
   subst a4
   refine Ly (Yl.ia C rfl rfl rfl rfl rfl rfl) ?_
   refine La [7] [] (Ac.lo b.1.toNat 0 (v:=(λh:(Option Addr×Nat)=>(λI J=> .agg (rR a2 I J).toArray) h.1 h.2)) (aI C).2 rfl rfl rfl (λ_=>rfl)) ?_
   rintro ⟨I,J⟩
   refine Ll λbt=> ?_
   refine Lt 0 ?_
   refine Z1 ?_
   refine Lt 0 ?_
   refine Z0 ?_
   have ⟨a5,a6,a7⟩:=bnd a3
   refine Lk [] [0,7] (oH a6) λ⟨⟩=> ?_
   refine La [] [] (Ac.bs (ty:=Ty.str) (xs:=[a5]) (.cons () [] rfl .nil) rfl rfl rfl rfl rfl rfl rfl) λbu=> ?_
   refine L.frz 0 rfl ?_
   have ⟨_,a8,a9⟩:=bnd a7
   refine La [2] [0] (Ac.ap (ty:=Ty.str) a8 rfl rfl rfl rfl rfl rfl rfl) ?_
   rintro ⟨ba,bb⟩
   refine Z0 ?_
   cases a9
   exact Eg (_,(ba,bb)) (a0 _ rfl) [0,2,2,2,2,2,2,1,1,1] [] 2
  refine Z0 ?_
  cases B
  have hb:=a1 _ rfl
  subst A
  exact Eg (n,o) trivial [0,0,0,0,0,0,0,1,1] [] 0
 rintro ⟨k,m⟩
 refine Z1 ?_
 cases ay
 exact Eo1 (k,m) [0,0,0,0,3,0,2,0,0] [3,4,0]
theorem Ao {s_:ByteArray} {r:ByteArray×Bool} (H:nA s_=some r):CT G 40 [.string s_] [] [Im.sl (Ty.int .u32) (some ⟨0,0,none⟩) 16 dD] (λ_:Unit=> .tuple #[.string r.1,.bool r.2]) (λh=>[]) (λh=>[]):=by
 delta nA at H
 refine Cf Go.Proofs.Tryz.func40 λK=> ?_
 refine Z3 ?_
 refine Y1 ?_
 have ⟨c,d,e⟩:=bnd H
 refine Tj0 [(21,.bool c)] [0,4] [] [] ?_ ?_
 ·refine Td [] [] mo ?_
  refine Dq 0 ?_
  refine Dq 1 ?_
  refine Dq 2 ?_
  refine D.cs 10 d rfl (λhc a=> ?_) (λhc a=> ?_)
  ·refine Ds 3 ?_
   refine Ds 4 ?_
   refine Ds 5 ?_
   refine Ds 6 ?_
   refine Ds 7 ?_
   refine Ds 8 ?_
   refine Ds 9 ?_
   refine Ds 10 ?_
   refine Ds 11 ?_
   refine Ds 12 ?_
   refine Dq 13 ?_
   refine Dn ?_
   cases a
   exact Eg0 [] 0
  refine Dq 3 ?_
  refine Dq 4 ?_
  have ⟨_,f,g⟩:=bnd a
  refine Dy 5 (Yl.sc f rfl rfl rfl rfl rfl rfl) ?_
  refine Dq 6 ?_
  refine Dq 7 ?_
  have ⟨_,i,j⟩:=bnd g
  refine Dy 8 (Yl.sc i rfl rfl rfl rfl rfl rfl) ?_
  refine Da [] [] rfl rfl (Ac.bs (ty:=Ty.str) (xs:=[(ik s_ 0 (IntKind.i64.wrap ((s_.size:Int) - 4)))]) (.cons () [] rfl .nil) rfl rfl rfl rfl rfl rfl rfl) λq=> ?_
  have ⟨s,k,l⟩:=bnd j
  refine D.one rfl rfl rfl (Dp.br (Ac.call (vb k) rfl rfl rfl rfl) (Bw.ch 0 rfl (Bw.im 0 rfl (Bw.nil))) rfl rfl rfl rfl ?_)
  intro _
  have ⟨t,m,n⟩:=bnd l
  refine Dk [] [] (vd m) λ⟨⟩=> ?_
  refine Dq 12 ?_
  refine Dq 13 ?_
  refine Dn ?_
  cases n
  exact Eg0 [] 0
 refine Tb e (λb=> ?_) λb=> ?_
 ·refine Z1 ?_
  cases b
  exact Eo () [] [] (.tmp rfl (.tmp rfl .nil))
 refine Z1 ?_
 have ⟨_,o,p⟩:=bnd b
 refine Ly (Yl.sc o rfl rfl rfl rfl rfl rfl) ?_
 refine Z0 ?_
 cases p
 exact Eo () [] [] (.tmp rfl (.tmp rfl .nil))
end Go.Tw.X
namespace Go.Tw.X
open Go Go.Tw
variable {A0 A1 A2 A3 A4 A5 A6 A7 A8 : Option Addr} {C0 C1 C2 C3 C4 C5 C6 C7 C8 : Nat}
variable {N0 N1 N2 N3 N4 N5 : Nat}
variable {M0 M1 : Option Nat}
theorem ve {s_:ByteArray} {r:aK} (H:ly s_=some r):CT G 41 [.string s_] [] [] (λh:Nat=> .pointer (some ⟨h,0,none⟩)) (λh=>[Ch.box h 177 [.string r.s,.int .i64 r.e]]) (λh=>[]):=by
 delta ly at H
 refine Cf Go.Proofs.Tryz.func41 λK=> ?_
 refine Z2 ?_
 refine Lx λg1=> ?_
 refine Z0 ?_
 cases H
 exact Eo1 g1 [0] []
theorem eR {in_:aK} {e:Int} {r:aK} (H:bR in_ e=some r):CT G 93 [.pointer (some ⟨N0,0,none⟩),.int .i64 e] [Ch.box N0 177 [.string in_.s,.int .i64 in_.e]] [] (λ_:Unit=> .tuple #[]) (λh=>[Ch.box N0 177 [.string r.s,.int .i64 r.e]]) (λh=>[]):=by
 delta bR at H
 refine Cf Go.Proofs.Tryz.func93 λK=> ?_
 refine Y1 ?_
 have ⟨e4,H5,H6⟩:=bnd H
 refine Tj0 [(12,.bool e4)] [0,1] [] [0] ?_ ?_
 ·refine Z0 ?_
  refine Lw 9 H5 (λH7=> ?_) λH7=> ?_
  ·refine Z0 ?_
   cases H7
   exact Eg0 [0] 0
  refine Z0 ?_
  cases H7
  exact Eg0 [0] 0
 refine Tb H6 (λH8=> ?_) λH8=> ?_
 ·refine Z0 ?_
  refine Lt 0 ?_
  refine Z0 ?_
  refine Lt 0 ?_
  refine Ln (E.off ?_)
  cases H8
  exact Eo () [0] [] .nil
 refine Tk (E.off ?_)
 cases H8
 exact Eo () [0] [] .nil
theorem cZ {in_:aK} {r:Int×aK} (H:bO in_=some r):CT G 92 [.pointer (some ⟨N0,0,none⟩)] [Ch.box N0 177 [.string in_.s,.int .i64 in_.e]] [] (λ_:Unit=> .int .i64 r.1) (λh=>[Ch.box N0 177 [.string r.2.s,.int .i64 r.2.e]]) (λh=>[]):=by
 delta bO at H
 refine Cf Go.Proofs.Tryz.func92 λK=> ?_
 refine Z3 ?_
 refine Z1 ?_
 have ⟨a,o,b⟩:=bnd H
 refine Tj (η:=Unit×Unit) (λh=>a = .inl h.1) (λ_=>[]) [0] (λ_=>[]) [0] (λ_=>[]) ?_ ?_
 ·refine Yl0 ?_
  refine Tq (η:=Unit) (λc h=>[(3,.int .i64 c.2),(12,.int .i64 c.1)]) [0,11] (λ_ _=>[]) [0] (λ_ _=>[]) () [0] [] o ?_
  rintro k_ c ⟨⟩ m p q d
  refine Y2 ?_
  refine Tb p (λf=> ?_) λf=> ?_
  ·refine Z1 ?_
   refine Zl ?_
   refine Z2 ?_
   have ⟨S,t,u⟩:=bnd f
   refine Ly (Yl.si t rfl rfl rfl rfl rfl) ?_
   refine Z1 ?_
   have ⟨_,v,w⟩:=bnd u
   refine Ly (Yl.shl (nb:=64) rfl v rfl rfl rfl) ?_
   refine Z2 ?_
   refine Tb w (λg=> ?_) λg=> ?_
   ·refine Z0 ?_
    cases g
    exact Eg (_,()) (q _ rfl) [0] [] 0
   refine Y2 ?_
   have ⟨x,y,z⟩:=bnd g
   refine Tj0 [(40,.bool x)] [0,3,4] [] [0] ?_ ?_
   ·refine Z0 ?_
    refine Lw 33 y (λi=> ?_) λi=> ?_
    ·refine Z0 ?_
     refine Lw 37 i (λj=> ?_) λj=> ?_
     ·refine Z0 ?_
      cases j
      exact Eg0 [0] 0
     refine Z0 ?_
     cases j
     exact Eg0 [0] 0
    refine Z0 ?_
    cases i
    exact Eg0 [0] 0
   refine Tb z (λk=> ?_) λk=> ?_
   ·refine Z1 ?_
    have ⟨U,A,B⟩:=bnd k
    refine Lk [0] [] (eR A) λ⟨⟩=> ?_
    refine Z1 ?_
    obtain ⟨V,hz,C⟩:=cF B
    subst m
    have hb:=d _ rfl
    subst a
    obtain rfl:=(sm b).symm
    refine Z0 ?_
    cases C
    exact Eo1 () [0] []
   refine Z1 ?_
   have ⟨_,F,I⟩:=bnd k
   refine Ly (Yl.sc F rfl rfl rfl rfl rfl rfl) ?_
   refine Z0 ?_
   refine Lt 0 ?_
   refine Z1 ?_
   obtain ⟨W,hz,J⟩:=cF I
   subst m
   have hb:=d _ rfl
   subst a
   obtain rfl:=(sm b).symm
   refine Z0 ?_
   cases J
   exact Eo1 () [0] []
  refine Z0 ?_
  cases f
  have hb:=d _ rfl
  subst a
  exact Eg (_,()) rfl [0] [] 0
 rintro ⟨X,⟨⟩⟩ hy
 subst hy
 refine Z2 ?_
 have ⟨n,M,N⟩:=bnd b
 refine Tj0 [] [0] [Ch.box N0 177 [.string n.s,.int .i64 n.e]] [] ?_ ?_
 ·refine Tb M (λl=> ?_) λl=> ?_
  ·refine Z0 ?_
   have ⟨Y,O,P⟩:=bnd l
   refine Lk [0] [] (eR O) λ⟨⟩=> ?_
   refine Z0 ?_
   cases P
   exact Eg0 [0] 0
  refine Z0 ?_
  cases l
  exact Eg0 [0] 0
 refine Z1 ?_
 have ⟨Z,Q,R⟩:=bnd N
 refine Lk [0] [] (eR Q) λ⟨⟩=> ?_
 refine Z1 ?_
 cases R
 exact Eo1 () [0] []
theorem xB {in_:aK} {n_:Int} {r:ByteArray×aK} (H:lz in_ n_=some r):CT G 155 [.pointer (some ⟨N0,0,none⟩),.int .i64 n_] [Ch.box N0 177 [.string in_.s,.int .i64 in_.e]] [] (λ_:Unit=> .string r.1) (λh=>[Ch.box N0 177 [.string r.2.s,.int .i64 r.2.e]]) (λh=>[]):=by
 delta lz at H
 refine Cf Go.Proofs.Tryz.func155 λK=> ?_
 refine Z3 ?_
 refine Z1 ?_
 refine Tb H (λH5=> ?_) λH5=> ?_
 ·refine Z1 ?_
  have ⟨r6,h7,H8⟩:=bnd H5
  refine Lk [0] [] (eR h7) λ⟨⟩=> ?_
  refine Z1 ?_
  cases H8
  exact Eo1 () [0] []
 refine Z1 ?_
 have ⟨_,h9,a⟩:=bnd H5
 refine Ly (Yl.sc h9 rfl rfl rfl rfl rfl rfl) ?_
 refine Z1 ?_
 have ⟨_,b,c⟩:=bnd a
 refine Ly (Yl.sc b rfl rfl rfl rfl rfl rfl) ?_
 refine Z0 ?_
 refine Lt 0 ?_
 refine Z1 ?_
 cases c
 exact Eo1 () [0] []
theorem qw {in_:aK} {r:ByteArray×aK} (H:iL in_=some r):CT G 94 [.pointer (some ⟨N0,0,none⟩)] [Ch.box N0 177 [.string in_.s,.int .i64 in_.e]] [] (λ_:Unit=> .string r.1) (λh=>[Ch.box N0 177 [.string r.2.s,.int .i64 r.2.e]]) (λh=>[]):=by
 delta iL at H
 refine Cf Go.Proofs.Tryz.func94 λK=> ?_
 refine Z2 ?_
 have ⟨r1,h2,H3⟩:=bnd H
 refine Lk [0] [] (cZ h2) λ⟨⟩=> ?_
 have ⟨r4,h5,H6⟩:=bnd H3
 refine Lk [0] [] (xB h5) λ⟨⟩=> ?_
 refine Z0 ?_
 cases H6
 exact Eo1 () [0] []
theorem yT {in_:aK} {r:aV×aK} (H:my in_=some r):CT G 42 [.pointer (some ⟨N0,0,none⟩)] [Ch.box N0 177 [.string in_.s,.int .i64 in_.e]] [] (λh:(Option Addr×Nat)=> .agg (rR r.1 h.1 h.2).toArray) (λh=>[Ch.box N0 177 [.string r.2.s,.int .i64 r.2.e]]) (λh=>[Im.sl (Ty.int .i64) h.1 h.2 r.1.bB]):=by
 delta my at H
 refine Cf Go.Proofs.Tryz.func42 λK=> ?_
 refine Z1 ?_
 refine Ll λg1=> ?_
 refine Z1 ?_
 have ⟨r2,h3,H4⟩:=bnd H
 refine Lk [1] [] (cZ h3) λ⟨⟩=> ?_
 refine Z0 ?_
 have ⟨r5,h6,H7⟩:=bnd H4
 refine Lk [0] [] (cZ h6) λ⟨⟩=> ?_
 refine Z0 ?_
 refine Ll λg8=> ?_
 refine Lt 0 ?_
 refine Z1 ?_
 have ⟨r9,l,m⟩:=bnd H7
 refine Lk [1] [] (cZ l) λ⟨⟩=> ?_
 refine Z2 ?_
 have ⟨k,n,o⟩:=bnd m
 refine Tj0 [] [0,2,3,4] [Ch.box N0 177 [.string k.s,.int .i64 k.e]] [1,2] ?_ ?_
 ·refine Tb n (λi=> ?_) λi=> ?_
  ·refine Z0 ?_
   have ⟨N,p,q⟩:=bnd i
   refine Lk [0] [] (eR p) λ⟨⟩=> ?_
   refine Z0 ?_
   cases q
   exact Eg0 [0,0,0] 0
  refine Z0 ?_
  cases i
  exact Eg0 [0,0,0] 0
 refine Z2 ?_
 have ⟨b,t,u⟩:=bnd o
 refine Tjh (η:=(Option Addr×Nat)) (λ_=>[]) [0,2,3] (λh=>(λf g=>[Ch.arr (Ty.int .i64) 3 f g b.2.bB,Ch.box N0 177 [.string b.1.s,.int .i64 b.1.e],Ch.box g8 39 (rR b.2 f g)]) h.1 h.2) [2] (λ_=>[]) ?_ ?_
 ·refine Yl0 ?_
  refine T.gK (Ty.int .i64) 3 ?_
  refine Tq (η:=(Option Addr×Nat)) (λa h=>(λc d=>[(18,.int .i64 a.2.2)]) h.1 h.2) [0,2,3,17] (λa h=>(λc d=>[Ch.arr (Ty.int .i64) 3 c d a.1.bB,Ch.box N0 177 [.string a.2.1.s,.int .i64 a.2.1.e],Ch.box g8 39 (rR a.1 c d)]) h.1 h.2) [3] (λ_ _=>[]) (none,0) [0,0,0,0] [] t ?_
  rintro k_ a ⟨c,d⟩ O v w x
  refine Y2 ?_
  refine Tb v (λj=> ?_) λj=> ?_
  ·refine Z1 ?_
   refine Yl0 ?_
   refine Td [7] [2,2] mo ?_
   refine Dq 0 ?_
   refine Db 1 0 ?_
   refine Dq 2 ?_
   have ⟨y,z,A⟩:=bnd j
   refine Dk [1] [] (cZ z) λ⟨⟩=> ?_
   refine Da [] [] rfl rfl (Ac.bs (ty:=(Ty.int .i64)) (xs:=[y.1]) (.cons () [] rfl .nil) rfl rfl rfl rfl rfl rfl rfl) λP=> ?_
   refine D.frz 0 rfl ?_
   have ⟨_,B,C⟩:=bnd A
   refine Da [1] [0] rfl rfl (Ac.ap (ty:=(Ty.int .i64)) B rfl rfl rfl rfl rfl rfl rfl) ?_
   rintro ⟨F,I⟩
   refine Dq 6 ?_
   refine Dt 0 ?_
   refine Dn ?_
   refine Z0 ?_
   cases C
   exact Eg (_,(F,I)) (w _ rfl) [2,2,0,0] [] 1
  refine Z0 ?_
  cases j
  have hb:=x _ rfl
  subst b
  exact Eg (c,d) trivial [0,0,0,0] [] 0
 rintro ⟨f,g⟩
 refine Z1 ?_
 have ⟨Q,J,M⟩:=bnd u
 refine Lk [1] [] (qw J) λ⟨⟩=> ?_
 refine Z0 ?_
 refine Lt 2 ?_
 refine Z1 ?_
 refine Lt 3 ?_
 refine Z0 ?_
 refine E.frz 3 rfl ?_
 cases M
 exact Eo (f,g) [2] [0] (.cell 0 rfl rfl rfl .nil)
theorem oY {in_:aK} {r:Int} (H:jy in_=some r):CT G 43 [.pointer (some ⟨N0,0,none⟩)] [Ch.box N0 177 [.string in_.s,.int .i64 in_.e]] [] (λ_:Unit=> .int .i64 r) (λh=>[Ch.box N0 177 [.string in_.s,.int .i64 in_.e]]) (λh=>[]):=by
 delta jy at H
 refine Cf Go.Proofs.Tryz.func43 λK=> ?_
 refine Z3 ?_
 refine Tb H (λH2=> ?_) λH2=> ?_
 ·refine Z1 ?_
  cases H2
  exact Eo1 () [0] []
 refine Z1 ?_
 cases H2
 exact Eo1 () [0] []
theorem rY {s_:ByteArray} {r:aV×Int} (H:kx s_=some r):CT G 14 [.string s_] [] [Im.sl (Ty.int .u32) (some ⟨0,0,none⟩) 16 dD] (λh:(Option Addr×Nat)=> .tuple #[.agg (rR r.1 h.1 h.2).toArray,.int .i64 r.2]) (λh=>[]) (λh=>[Im.sl (Ty.int .i64) h.1 h.2 r.1.bB]):=by
 delta kx at H
 refine Cf Go.Proofs.Tryz.func14 λK=> ?_
 refine Z1 ?_
 refine Ll λg1=> ?_
 refine Z2 ?_
 refine Tb H (λH3=> ?_) λH3=> ?_
 ·refine Z1 ?_
  refine Lt 0 ?_
  refine Z0 ?_
  refine E.dA [Im.sl (Ty.int .i64) none 0 []] (λA w _ _ f hf=>by rw [List.mem_singleton.1 hf]; exact Im.bW A w) ?_
  cases H3
  exact Eo (none,0) [] [0] (.cell 0 rfl rfl rfl (.tmp rfl .nil))
 refine Z1 ?_
 have ⟨r5,h6,H7⟩:=bnd H3
 refine Lk [] [0] (Ao h6) λ⟨⟩=> ?_
 refine Z2 ?_
 refine Tb H7 (λH9=> ?_) λH9=> ?_
 ·refine Z1 ?_
  refine Lt 0 ?_
  refine Z0 ?_
  refine E.dA [Im.sl (Ty.int .i64) none 0 []] (λA w _ _ f hf=>by rw [List.mem_singleton.1 hf]; exact Im.bW A w) ?_
  cases H9
  exact Eo (none,0) [] [0] (.cell 0 rfl rfl rfl (.tmp rfl .nil))
 refine Z1 ?_
 have ⟨s,c,d⟩:=bnd H9
 refine Lk [] [] (ve c) λt=> ?_
 refine Z1 ?_
 have ⟨u,e,g⟩:=bnd d
 refine Lk [0] [] (yT e) λ⟨i,j⟩=> ?_
 refine Ll λv=> ?_
 refine Lt 0 ?_
 refine Z1 ?_
 have ⟨x,k,l⟩:=bnd g
 refine Lk [1] [] (oY k) λ⟨⟩=> ?_
 refine Z2 ?_
 have ⟨m,n,o⟩:=bnd l
 refine Tj0 [(8,.int .i64 m)] [2,7] [] [0,1,2] ?_ ?_
 ·refine Tb n (λa=> ?_) λa=> ?_
  ·refine Z0 ?_
   have ⟨y,p,q⟩:=bnd a
   refine Lk [] [0,1] (nX p) λ⟨⟩=> ?_
   refine Z0 ?_
   cases q
   exact Eg0 [0,0,0] 0
  refine Z0 ?_
  cases a
  exact Eg0 [0,0,0] 0
 refine Z2 ?_
 refine Tb o (λb=> ?_) λb=> ?_
 ·refine Z1 ?_
  refine Lt 2 ?_
  refine Z0 ?_
  refine E.dA [Im.sl (Ty.int .i64) none 0 []] (λA w _ _ f hf=>by rw [List.mem_singleton.1 hf]; exact Im.bW A w) ?_
  cases b
  exact Eo (none,0) [] [0] (.cell 0 rfl rfl rfl (.tmp rfl .nil))
 refine Z1 ?_
 refine Lt 2 ?_
 refine Z0 ?_
 cases b
 exact Eo (i,j) [] [0] (.cell 0 rfl rfl rfl (.tmp rfl .nil))
theorem qj {t_:bA} {r:bA} (H:iX t_=some r):CT G 76 [.pointer (some ⟨N0,0,none⟩)] [Ch.box N0 155 (dQ t_ N1 A0 C0 A1 C1),Ch.box N1 153 (cL t_.slot M0),Ch.mp Ty.str false M0 t_.slot.parts] [Im.sl aT A0 C0 t_.aJ.rows,Im.sl aH A1 C1 t_.aJ.begun] (λh:Nat×Option Nat×(Option Addr×Nat)×(Option Addr×Nat)=> .tuple #[]) (λh=>[Ch.box N0 155 (dQ r h.1 h.2.2.1.1 h.2.2.1.2 h.2.2.2.1 h.2.2.2.2),Ch.box h.1 153 (cL r.slot h.2.1),Ch.mp Ty.str false h.2.1 r.slot.parts]) (λh=>[Im.sl aT h.2.2.1.1 h.2.2.1.2 r.aJ.rows,Im.sl aH h.2.2.2.1 h.2.2.2.2 r.aJ.begun]):=by
 delta iX at H
 refine Cf Go.Proofs.Tryz.func76 λK=> ?_
 refine Z0 ?_
 have ⟨r1,h2,H3⟩:=bnd H
 refine Lk [] [] (tB h2) λ⟨g4,g5,v6,⟨a7,c8⟩,⟨a9,a⟩⟩=> ?_
 refine Z0 ?_
 refine Lt 3 ?_
 refine Ln (E.off ?_)
 cases H3
 exact Eo (g5,v6,(a7,c8),(a9,a)) [0,1,1] [0,1] .nil
theorem qk {c:aR} {r:aR} (H:gA c=some r):CT G 77 [.pointer (some ⟨N0,0,none⟩)] [Ch.box N0 158 [.int .i64 c.most,.int .i64 c.now,.map M0],Ch.mp aE true M0 c.l] [] (λ_:Unit=> .tuple #[]) (λh=>[Ch.box N0 158 [.int .i64 r.most,.int .i64 r.now,.map M0],Ch.mp aE true M0 r.l]) (λh=>[]):=by
 delta gA at H
 refine Cf Go.Proofs.Tryz.func77 λK=> ?_
 refine Z0 ?_
 refine La [1] [] (Ac.mcl (ty:=aE) (ag:=true) rfl rfl rfl rfl) λ_=> ?_
 refine Ln (E.off ?_)
 cases H
 exact Eo () [1,0] [] .nil
theorem m6 {f:bE} {r:bE} (H:dB f=some r):CT G 78 [.pointer (some ⟨N0,0,none⟩)] [Ch.box N0 161 (dM f N1),Ch.box N1 106 [.slice A0 f.want.l.length C0]] [Im.sl aC A0 C0 f.want.l] (λh:Nat×(Option Addr×Nat)=> .tuple #[]) (λh=>[Ch.box N0 161 (dM r h.1),Ch.box h.1 106 [.slice h.2.1 r.want.l.length h.2.2]]) (λh=>[Im.sl aC h.2.1 h.2.2 r.want.l]):=by
 delta dB at H
 refine Cf Go.Proofs.Tryz.func78 λK=> ?_
 refine Z0 ?_
 refine Lx λg1=> ?_
 refine Z0 ?_
 refine Lt 1 ?_
 refine Z0 ?_
 refine Lt 0 ?_
 refine Ln (E.off ?_)
 refine E.dA [Im.sl aC none 0 []] (λA w _ _ f hf=>by rw [List.mem_singleton.1 hf]; exact Im.bW A w) ?_
 cases H
 exact Eo (g1,(none,0)) [0,0] [0] .nil
theorem pG {c:aF} {aU:Int} {r:aF} (H:eO c aU=some r):CT G 34 [.pointer (some ⟨N0,0,none⟩),.int .i64 aU] [Ch.box N0 94 (jn c N1 N3 N4),Ch.box N1 155 (dQ c.aM N2 A0 C0 A1 C1),Ch.box N2 153 (cL c.aM.slot M0),Ch.mp Ty.str false M0 c.aM.slot.parts,Ch.box N3 158 [.int .i64 c.lines.most,.int .i64 c.lines.now,.map M1],Ch.mp aE true M1 c.lines.l,Ch.box N4 161 (dM c.bF N5),Ch.box N5 106 [.slice A2 c.bF.want.l.length C2]] [Im.sl aT A0 C0 c.aM.aJ.rows,Im.sl aH A1 C1 c.aM.aJ.begun,Im.sl aC A2 C2 c.bF.want.l] (λh:Nat×Option Nat×(Option Addr×Nat)×(Option Addr×Nat)×Nat×(Option Addr×Nat)=> .tuple #[]) (λh=>[Ch.box N0 94 (jn r N1 N3 N4),Ch.box N1 155 (dQ r.aM h.1 h.2.2.1.1 h.2.2.1.2 h.2.2.2.1.1 h.2.2.2.1.2),Ch.box h.1 153 (cL r.aM.slot h.2.1),Ch.mp Ty.str false h.2.1 r.aM.slot.parts,Ch.box N3 158 [.int .i64 r.lines.most,.int .i64 r.lines.now,.map M1],Ch.mp aE true M1 r.lines.l,Ch.box N4 161 (dM r.bF h.2.2.2.2.1),Ch.box h.2.2.2.2.1 106 [.slice h.2.2.2.2.2.1 r.bF.want.l.length h.2.2.2.2.2.2]]) (λh=>[Im.sl aT h.2.2.1.1 h.2.2.1.2 r.aM.aJ.rows,Im.sl aH h.2.2.2.1.1 h.2.2.2.1.2 r.aM.aJ.begun,Im.sl aC h.2.2.2.2.2.1 h.2.2.2.2.2.2 r.bF.want.l]):=by
 delta eO at H
 refine Cf Go.Proofs.Tryz.func34 λK=> ?_
 refine Z1 ?_
 refine Lt 0 ?_
 refine Z1 ?_
 have ⟨r1,h2,H3⟩:=bnd H
 refine Lk [1,1,1] [0,1] (qj h2) λ⟨g4,v5,⟨a6,c7⟩,⟨a8,c9⟩⟩=> ?_
 refine Z1 ?_
 have ⟨j,a,b⟩:=bnd H3
 refine Lk [4,4] [] (qk a) λ⟨⟩=> ?_
 refine Z0 ?_
 have ⟨k,d,e⟩:=bnd b
 refine Lk [6,6] [4] (m6 d) λ⟨f,⟨g,i⟩⟩=> ?_
 refine Ln (E.off ?_)
 cases e
 exact Eo (g4,v5,(a6,c7),(a8,c9),f,(g,i)) [7,4,4,4,2,2,0,0] [1,2,0] .nil
theorem vu {in_:aK} {r:Int} (H:kM in_=some r):CT G 134 [.pointer (some ⟨N0,0,none⟩)] [Ch.box N0 177 [.string in_.s,.int .i64 in_.e]] [] (λ_:Unit=> .int .i64 r) (λh=>[Ch.box N0 177 [.string in_.s,.int .i64 in_.e]]) (λh=>[]):=by
 delta kM at H
 refine Cf Go.Proofs.Tryz.func134 λK=> ?_
 refine Z2 ?_
 cases H
 exact Eo1 () [0] []
theorem nI {in_:aK} {most:Int} {r:Int×aK} (H:fU in_ most=some r):CT G 177 [.pointer (some ⟨N0,0,none⟩),.int .i64 most] [Ch.box N0 177 [.string in_.s,.int .i64 in_.e]] [] (λ_:Unit=> .int .i64 r.1) (λh=>[Ch.box N0 177 [.string r.2.s,.int .i64 r.2.e]]) (λh=>[]):=by
 delta fU at H
 refine Cf Go.Proofs.Tryz.func177 λK=> ?_
 refine Z2 ?_
 have ⟨r1,h2,H3⟩:=bnd H
 refine Lk [0] [] (cZ h2) λ⟨⟩=> ?_
 refine Z2 ?_
 refine Tb H3 (λH8=> ?_) λH8=> ?_
 ·refine Z1 ?_
  have ⟨r9,a,b⟩:=bnd H8
  refine Lk [0] [] (eR a) λ⟨⟩=> ?_
  refine Z1 ?_
  cases b
  exact Eo1 () [0] []
 refine Z1 ?_
 cases H8
 exact Eo1 () [0] []
theorem lS {in_:aK} {r:Int} (H:cX in_=some r):CT G 178 [.pointer (some ⟨N0,0,none⟩)] [Ch.box N0 177 [.string in_.s,.int .i64 in_.e]] [] (λ_:Unit=> .int .i64 r) (λh=>[Ch.box N0 177 [.string in_.s,.int .i64 in_.e]]) (λh=>[]):=by
 delta cX at H
 refine Cf Go.Proofs.Tryz.func178 λK=> ?_
 refine Z2 ?_
 cases H
 exact Eo1 () [0] []
theorem tC {in_:aK} {r:(List aN)×aK} (H:jr in_=some r):CT G 135 [.pointer (some ⟨N0,0,none⟩)] [Ch.box N0 177 [.string in_.s,.int .i64 in_.e]] [] (λh:(Option Addr×Nat)=> .slice h.1 r.1.length h.2) (λh=>[Ch.arr aH 149 h.1 h.2 r.1,Ch.box N0 177 [.string r.2.s,.int .i64 r.2.e]]) (λh=>[]):=by
 delta jr at H
 refine Cf Go.Proofs.Tryz.func135 λK=> ?_
 refine Z3 ?_
 refine Z1 ?_
 have ⟨r1,h2,H3⟩:=bnd H
 refine Lk [0] [] (nI h2) λ⟨⟩=> ?_
 refine Z0 ?_
 have ⟨b,k,l⟩:=bnd H3
 refine Tjh (η:=(Option Addr×Nat)) (λh=>(λc d=>[(3,.slice c b.1.length d)]) h.1 h.2) [0] (λh=>(λc d=>[Ch.arr aH 149 c d b.1,Ch.box N0 177 [.string b.2.s,.int .i64 b.2.e]]) h.1 h.2) [] (λ_=>[]) ?_ ?_
 ·refine Yl0 ?_
  refine T.gK aH 149 ?_
  refine Tq (η:=(Option Addr×Nat)) (λa h=>(λf g=>[(3,.slice f a.2.1.length g),(6,.int .i64 a.2.2)]) h.1 h.2) [0,5] (λa h=>(λf g=>[Ch.arr aH 149 f g a.2.1,Ch.box N0 177 [.string a.1.s,.int .i64 a.1.e]]) h.1 h.2) [] (λ_ _=>[]) (none,0) [0,0] [] k ?_
  rintro k_ a ⟨f,g⟩ F m n o
  refine Y2 ?_
  refine Tb m (λi=> ?_) λi=> ?_
  ·refine Z1 ?_
   refine Zl ?_
   have ⟨p,q,t⟩:=bnd i
   refine Lk [1] [] (nI q) λ⟨⟩=> ?_
   refine Z0 ?_
   have ⟨u,v,w⟩:=bnd t
   refine Lk [0] [] (nI v) λ⟨⟩=> ?_
   refine Z0 ?_
   refine La [] [] (Ac.bs (ty:=aH) (xs:=[(aN.mk (IntKind.i32.wrap p.1) u.1)]) (.cons () [] rfl .nil) rfl rfl rfl rfl rfl rfl rfl) λI=> ?_
   refine L.frz 0 rfl ?_
   have ⟨_,x,y⟩:=bnd w
   refine La [1] [0] (Ac.ap (ty:=aH) x rfl rfl rfl rfl rfl rfl rfl) ?_
   rintro ⟨z,A⟩
   refine Z0 ?_
   cases y
   exact Eg (_,(z,A)) (n _ rfl) [0,0] [] 1
  refine Z0 ?_
  cases i
  have hb:=o _ rfl
  subst b
  exact Eg (f,g) trivial [0,0] [] 0
 rintro ⟨c,d⟩
 refine Z2 ?_
 have ⟨J,B,C⟩:=bnd l
 refine Lk [1] [] (lS B) λ⟨⟩=> ?_
 refine Z0 ?_
 refine Tb C (λj=> ?_) λj=> ?_
 ·refine Z1 ?_
  refine E.gK aH 149 ?_
  cases j
  exact Eo1 (none,0) [0,0] []
 refine Z1 ?_
 cases j
 exact Eo1 (c,d) [1,0] []
theorem xC {g:aV} {r:Int×(List (List aN))×Int} (H:jz g=some r):CT G 79 [.agg (rR g A0 C0).toArray] [] [Im.sl (Ty.int .i64) A0 C0 g.bB] (λh:(Option Addr×Nat)=> .tuple #[.int .i64 r.1,.slice h.1 r.2.1.length h.2,.int .i64 r.2.2]) (λh=>[Ch.arr (Ty.slice aH) 69 h.1 h.2 r.2.1]) (λh=>[]):=by
 delta jz at H
 refine Cf Go.Proofs.Tryz.func79 λK=> ?_
 refine Z1 ?_
 refine Lx λg1=> ?_
 refine Z1 ?_
 refine Zl ?_
 refine Z1 ?_
 refine Tb H (λH4=> ?_) λH4=> ?_
 ·refine Z1 ?_
  refine E.gK (Ty.slice aH) 69 ?_
  cases H4
  exact Eo (none,0) [0] [] (.tmp rfl (.tmp rfl (.tmp rfl .nil)))
 refine Z1 ?_
 refine Tb H4 (λH6=> ?_) λH6=> ?_
 ·refine Z1 ?_
  refine E.gK (Ty.slice aH) 69 ?_
  cases H6
  exact Eo (none,0) [0] [] (.tmp rfl (.tmp rfl (.tmp rfl .nil)))
 refine Z1 ?_
 have ⟨r8,h9,u⟩:=bnd H6
 refine Lk [] [] (ve h9) λt=> ?_
 refine Y2 ?_
 have ⟨b,v,w⟩:=bnd u
 refine Tjh (η:=(Option Addr×Nat)) (λh=>(λc d=>[(6,.slice c b.1.length d)]) h.1 h.2) [1,5] (λh=>(λc d=>[Ch.arr (Ty.slice aH) 69 c d b.1,Ch.box t 177 [.string b.2.s,.int .i64 b.2.e]]) h.1 h.2) [1] (λ_=>[]) ?_ ?_
 ·refine Yl0 ?_
  refine T.gK (Ty.slice aH) 69 ?_
  refine Tq (η:=(Option Addr×Nat)) (λa h=>(λf i=>[(6,.slice f a.2.length i)]) h.1 h.2) [1,5] (λa h=>(λf i=>[Ch.arr (Ty.slice aH) 69 f i a.2,Ch.box t 177 [.string a.1.s,.int .i64 a.1.e]]) h.1 h.2) [2] (λ_ _=>[]) (none,0) [0,0,0] [] v ?_
  rintro k_ a ⟨f,i⟩ aj x y z
  refine Y2 ?_
  have ⟨A,B,C⟩:=bnd x
  refine Tj0 [(31,.bool A)] [1,5,6] [] [1,2,0] ?_ ?_
  ·refine Z0 ?_
   have ⟨ak,F,I⟩:=bnd B
   refine Lk [1] [] (vu F) λ⟨⟩=> ?_
   refine Z0 ?_
   refine Lw 23 I (λj=> ?_) λj=> ?_
   ·refine Z0 ?_
    have ⟨al,k,J⟩:=bnd j
    refine L.addr 0 rfl (bH k) λam an M=> ?_
    subst M
    refine Ly (Yl.ia k rfl rfl rfl rfl rfl rfl) ?_
    refine L.el 0 rfl (aI k).2 ?_
    rintro _
    refine Lc 0 0 ?_
    refine Z0 ?_
    cases J
    exact Eg0 [0,1,0] 1
   refine Z0 ?_
   cases j
   exact Eg0 [0,1,0] 0
  refine Tb C (λl=> ?_) λl=> ?_
  ·refine Zl ?_
   have ⟨N,O,P⟩:=bnd l
   refine Lk [0] [] (tC O) λ⟨Q,R⟩=> ?_
   refine L.frz 0 rfl ?_
   refine La [] [0] (Ac.bs (ty:=(Ty.slice aH)) (xs:=[N.1]) (.cons (Q,R) [0] rfl .nil) rfl rfl rfl rfl rfl rfl rfl) λao=> ?_
   refine L.frz 0 rfl ?_
   have ⟨_,S,U⟩:=bnd P
   refine La [2] [0] (Ac.ap (ty:=(Ty.slice aH)) S rfl rfl rfl rfl rfl rfl rfl) ?_
   rintro ⟨V,W⟩
   refine Z0 ?_
   cases U
   exact Eg (_,(V,W)) (y _ rfl) [0,0,0] [] 2
  refine Z0 ?_
  cases l
  have hb:=z _ rfl
  subst b
  exact Eg (f,i) trivial [2,0,0] [] 0
 rintro ⟨c,d⟩
 refine Z1 ?_
 have ⟨aq,X,Y⟩:=bnd w
 refine Lk [1] [] (oY X) λ⟨⟩=> ?_
 refine Y2 ?_
 have ⟨Z,aa,ab⟩:=bnd Y
 refine Tj0 [(49,.bool Z)] [1,6,7] [] [0,2,1] ?_ ?_
 ·refine Z0 ?_
  refine Lw 41 aa (λm=> ?_) λm=> ?_
  ·refine Z0 ?_
   have ⟨ar,n,ac⟩:=bnd m
   refine L.addr 0 rfl (bH n) λau av ad=> ?_
   subst ad
   refine Ly (Yl.ia n rfl rfl rfl rfl rfl rfl) ?_
   refine L.el 0 rfl (aI n).2 ?_
   rintro _
   refine Lc 0 0 ?_
   refine Z0 ?_
   cases ac
   exact Eg0 [0,1,0] 1
  refine Z0 ?_
  cases m
  exact Eg0 [0,1,0] 0
 have ⟨ae,af,ag⟩:=bnd ab
 refine Tj0 [(7,.int .i64 ae)] [1,6] [] [0,1,2] ?_ ?_
 ·refine Tb af (λo=> ?_) λo=> ?_
  ·refine Z0 ?_
   cases o
   exact Eg0 [0,0,0] 0
  refine Z0 ?_
  cases o
  exact Eg0 [0,0,0] 0
 refine Z2 ?_
 refine Tb ag (λp=> ?_) λp=> ?_
 ·refine Z1 ?_
  refine E.gK (Ty.slice aH) 69 ?_
  cases p
  exact Eo (none,0) [0] [] (.tmp rfl (.tmp rfl (.tmp rfl .nil)))
 refine Z1 ?_
 have ⟨aw,q,ah⟩:=bnd p
 refine L.addr 0 rfl (bH q) λax ay ai=> ?_
 subst ai
 refine Ly (Yl.ia q rfl rfl rfl rfl rfl rfl) ?_
 refine L.el 0 rfl (aI q).2 ?_
 rintro _
 refine Lc 0 0 ?_
 refine Z0 ?_
 cases ah
 exact Eo (c,d) [2] [] (.tmp rfl (.tmp rfl (.tmp rfl .nil)))
theorem rZ {x_:aB} {x1:Int} {r:Bool} (H:cT x_ x1=some r):CT G 180 [.agg #[.int .i64 x_.from_,.int .i64 x_.to],.pointer (some ⟨N0,0,none⟩)] [Ch.box N0 3 [.int .i64 x1]] [] (λ_:Unit=> .bool r) (λh=>[Ch.box N0 3 [.int .i64 x1]]) (λh=>[]):=by
 delta cT at H
 refine Cf Go.Proofs.Tryz.func180 λK=> ?_
 refine Z1 ?_
 refine Lx λg1=> ?_
 refine Y1 ?_
 have ⟨e5,H6,H7⟩:=bnd H
 refine Tj0 [(3,.bool e5)] [] [] [0,1] ?_ ?_
 ·refine Z0 ?_
  refine Lw 8 H6 (λH8=> ?_) λH8=> ?_
  ·refine Z0 ?_
   cases H8
   exact Eg0 [0,0] 0
  refine Z0 ?_
  cases H8
  exact Eg0 [0,0] 0
 refine Z0 ?_
 cases H7
 exact Eo1 () [1] []
theorem ke {s_:List aB} {f_0:Int} {r:Int} (H:cB s_ f_0=some r):CT G 210 [.slice A0 s_.length C0,.func (.func 180) #[] #[.pointer (some ⟨N0,0,none⟩)]] [Ch.box N0 3 [.int .i64 f_0]] [Im.sl aC A0 C0 s_] (λ_:Unit=> .int .i64 r) (λh=>[Ch.box N0 3 [.int .i64 f_0]]) (λh=>[]):=by
 delta cB at H
 refine Cf Go.Proofs.Tryz.func210 λK=> ?_
 refine Z3 ?_
 have ⟨a,i,e⟩:=bnd H
 refine Tj (η:=Unit×Unit) (λh=>a = .inl h.1) (λ_=>[]) [] (λ_=>[]) [0] (λ_=>[]) ?_ ?_
 ·refine Yl0 ?_
  refine Tq (η:=Unit) (λf h=>[(8,.int .i64 f)]) [0,1,7] (λ_ _=>[]) [0] (λ_ _=>[]) () [0] [] i ?_
  rintro k_ f ⟨⟩ j k l g
  refine Y2 ?_
  refine Tb k (λb=> ?_) λb=> ?_
  ·refine Z1 ?_
   refine Zl ?_
   refine Z2 ?_
   have ⟨s,c,m⟩:=bnd b
   refine L.addr 0 rfl (bH c) λt u n=> ?_
   subst n
   refine Ly (Yl.ia c rfl rfl rfl rfl rfl rfl) ?_
   refine L.el 0 rfl (aI c).2 ?_
   rintro _
   refine Lc 0 0 ?_
   have ⟨v,o,p⟩:=bnd m
   refine Lk [0] [] (rZ o) λ⟨⟩=> ?_
   refine Z0 ?_
   refine Tb p (λd=> ?_) λd=> ?_
   ·refine Z1 ?_
    obtain ⟨w,hz,q⟩:=cF d
    subst j
    have hb:=g _ rfl
    subst a
    obtain rfl:=(sm e).symm
    refine Z0 ?_
    cases q
    exact Eo1 () [0] []
   refine Z0 ?_
   cases d
   exact Eg (_,()) (l _ rfl) [0] [] 1
  refine Z0 ?_
  cases b
  have hb:=g _ rfl
  subst a
  exact Eg (_,()) rfl [0] [] 0
 rintro ⟨x,⟨⟩⟩ hy
 subst hy
 refine Z1 ?_
 cases e
 exact Eo1 () [0] []
theorem jG {s_:List aB} {f_0:Int} {r:Bool} (H:cM s_ f_0=some r):CT G 179 [.slice A0 s_.length C0,.func (.func 180) #[] #[.pointer (some ⟨N0,0,none⟩)]] [Ch.box N0 3 [.int .i64 f_0]] [Im.sl aC A0 C0 s_] (λ_:Unit=> .bool r) (λh=>[Ch.box N0 3 [.int .i64 f_0]]) (λh=>[]):=by
 delta cM at H
 refine Cf Go.Proofs.Tryz.func179 λK=> ?_
 refine Z2 ?_
 have ⟨r1,h2,H3⟩:=bnd H
 refine Lk [0] [0] (ke h2) λ⟨⟩=> ?_
 refine Z0 ?_
 cases H3
 exact Eo1 () [0] []
theorem tN {s_:cA} {n_:Int} {r:Bool} (H:gT s_ n_=some r):CT G 136 [.pointer (some ⟨N0,0,none⟩),.int .i64 n_] [Ch.box N0 106 [.slice A0 s_.l.length C0]] [Im.sl aC A0 C0 s_.l] (λ_:Unit=> .bool r) (λh=>[Ch.box N0 106 [.slice A0 s_.l.length C0]]) (λh=>[]):=by
 delta gT at H
 refine Cf Go.Proofs.Tryz.func136 λK=> ?_
 refine Z1 ?_
 refine Lx λg1=> ?_
 refine Z1 ?_
 have ⟨r2,h3,H4⟩:=bnd H
 refine Lk [0] [0] (jG h3) λ⟨⟩=> ?_
 refine Z0 ?_
 cases H4
 exact Eo1 () [1] []
theorem yU {is:Bool} {r:Int} (H:mC is=some r):CT G 137 [.bool is] [] [] (λ_:Unit=> .int .i64 r) (λh=>[]) (λh=>[]):=by
 delta mC at H
 refine Cf Go.Proofs.Tryz.func137 λK=> ?_
 refine Z3 ?_
 refine Tb H (λH2=> ?_) λH2=> ?_
 ·refine Z1 ?_
  cases H2
  exact Eo1 () [] []
 refine Z1 ?_
 cases H2
 exact Eo1 () [] []
theorem tO {l:List aB} {x_:aB} {r:((List aB)×aB)} (H:kW l x_=some r):CT G 159 [.slice A0 l.length C0,.agg #[.int .i64 x_.from_,.int .i64 x_.to]] [] [Im.sl aC A0 C0 l] (λh:Nat×Nat=> .func (.func 198) #[] #[.pointer (some ⟨h.1,0,none⟩),.pointer (some ⟨h.2,0,none⟩)]) (λh=>[Ch.box h.1 44 [.slice A0 r.1.length C0],Ch.box h.2 47 [.int .i64 r.2.from_,.int .i64 r.2.to]]) (λh=>[Im.sl aC A0 C0 r.1]):=by
 delta kW at H
 refine Cf Go.Proofs.Tryz.func159 λK=> ?_
 refine Z1 ?_
 refine Lx λg1=> ?_
 refine Lx λg2=> ?_
 refine Z1 ?_
 cases H
 exact Eo1 (g1,g2) [1,0] [0]
theorem sb {σ η:Type} {Y:σ->aB->Option (σ×Bool)} {y0:σ} {x1:List aB} {x2:aB} {yl:Nat} {C:σ->η->Ch} (hY: ∀ s (h:η) (x:aB) (t:Unit) z,Y s x=some z->YT G yl [.agg #[.int .i64 x.from_,.int .i64 x.to]] [C s h] [] (λ_:η=> .bool z.2) (λh2=>[C z.1 h2]) (λ_=>[])) (h0:η) (g_1:Nat) (a_1_0:Option Addr) (c_1_0:Nat) (g_2:Nat) {r:σ} (H:iy Y y0 x1 x2=some r):CT G 198 [.func (.yield yl) #[] #[],.pointer (some ⟨g_1,0,none⟩),.pointer (some ⟨g_2,0,none⟩)] [C y0 h0,Ch.box g_1 44 [.slice a_1_0 x1.length c_1_0],Ch.box g_2 47 [.int .i64 x2.from_,.int .i64 x2.to]] [Im.sl aC a_1_0 c_1_0 x1] (λh:η=> .tuple #[]) (λh=>[C r h,Ch.box g_1 44 [.slice a_1_0 x1.length c_1_0],Ch.box g_2 47 [.int .i64 x2.from_,.int .i64 x2.to]]) (λh=>[]):=by
  delta iy at H
  refine Cf Go.Proofs.Tryz.func198 λK=> ?_
  refine Z1 ?_
  have ⟨n,O,A⟩:=bnd H
  refine T.pc (η:=σ×(η)) (λh=>n = .inl h.1) (λh=>(λj=>(λc=>[]) h.2) h.1) (λh=>(λj=>(λc=>[C j c,Ch.box g_1 44 [.slice a_1_0 x1.length c_1_0],Ch.box g_2 47 [.int .i64 x2.from_,.int .i64 x2.to]]) h.2) h.1) (λh=>(λj=>(λc=>[Im.sl aC a_1_0 c_1_0 x1]) h.2) h.1) ?_ ?_
  ·refine Yl0 ?_
   refine Tq (η:=η) (λb h=>(λd=>[(10,.int .i64 b.1)]) h) [0,2,8,9] (λb h=>(λd=>[C b.2 d]) h) [1,2] (λ_ _=>[]) h0 [0,0,0] [] O ?_
   rintro k_ b d P Q R B
   refine Y2 ?_
   refine Tb Q (λo=> ?_) λo=> ?_
   ·refine Z1 ?_
    refine Zl ?_
    refine Z1 ?_
    have ⟨a,p,S⟩:=bnd o
    refine L.addr 0 rfl (bH p) λk l U=> ?_
    subst U
    refine Ly (Yl.ia p rfl rfl rfl rfl rfl rfl) ?_
    refine L.el 0 rfl (aI p).2 ?_
    rintro _
    refine Lc 0 0 ?_
    refine Ll λV=> ?_
    refine Lt 0 ?_
    refine Z1 ?_
    refine La [] [] (Ac.bs (ty:=aC) (xs:=[(aB.mk a.from_ (cD a.to x2.from_)),(aB.mk (imax a.from_ x2.to) a.to)]) (.cons () [] rfl (.cons () [] rfl .nil)) rfl rfl rfl rfl rfl rfl rfl) λal=> ?_
    refine Z0 ?_
    have ⟨q,W,F⟩:=bnd S
    refine T.pc (η:=σ×(η)) (λh=>q = .inl h.1) (λh=>(λm=>(λe=>[(0,.func (.yield yl) #[] #[]),(2,.pointer (some ⟨g_2,0,none⟩)),(8,.slice (some ⟨k,l,none⟩) x1.length c_1_0),(9,.int .i64 (x1.length:Int)),(10,.int .i64 b.1)]) h.2) h.1) (λh=>(λm=>(λe=>[C m e,Ch.box V 47 [.int .i64 a.from_,.int .i64 a.to],Ch.box g_1 44 [.slice (some ⟨k,l,none⟩) x1.length c_1_0],Ch.box g_2 47 [.int .i64 x2.from_,.int .i64 x2.to]]) h.2) h.1) (λh=>(λm=>(λe=>[Im.cells k (l+b.1.toNat*2) [.int .i64 a.from_,.int .i64 a.to],Im.sl aC (some ⟨k,l,none⟩) c_1_0 x1]) h.2) h.1) ?_ ?_
    ·refine Yl0 ?_
     refine Tq (η:=η) (λf h=>(λg=>[(32,.int .i64 f.1)]) h) [0,2,8,9,10,30,31] (λf h=>(λg=>[C f.2 g]) h) [1,3,4,0] (λ_ _=>[]) d [2,1,1,1,0] [] W ?_
     rintro k_ f g X Z aa I
     refine Y2 ?_
     refine Tb Z (λu=> ?_) λu=> ?_
     ·refine Z1 ?_
      refine Zl ?_
      refine Z1 ?_
      have ⟨J,M,ab⟩:=bnd u
      refine Ly (Yl.ia M rfl rfl rfl rfl rfl rfl) ?_
      refine Ly (Yl.lo (v:= .agg #[.int .i64 J.from_,.int .i64 J.to]) 4 f.1.toNat 0 (aI M).2 rfl rfl rfl rfl (λ_=>rfl)) ?_
      refine Ll λam=> ?_
      refine Lt 0 ?_
      refine Y1 ?_
      have ⟨N,ac,ad⟩:=bnd ab
      refine Tjh (η:=η) (λh=>(λi=>[(44,.bool N.1)]) h) [0,2,8,9,10,30,31,32] (λh=>(λi=>[C N.2 i]) h) [0,2,3,4,5] (λ_=>[]) ?_ ?_
      ·refine Z0 ?_
       have ⟨an,ae,af⟩:=bnd ac
       refine Lk [] [] (jF ae) λ⟨⟩=> ?_
       refine Z0 ?_
       refine Lw 39 af (λw=> ?_) λw=> ?_
       ·refine Z0 ?_
        have ⟨ao,ag,ah⟩:=bnd w
        refine L.yd [1] [] (hY _ _ _ () _ ag) rfl rfl rfl rfl rfl rfl rfl rfl ?_
        intro ai
        refine Z0 ?_
        cases ah
        exact Eg ai trivial [0,0,0,0,0,0] [] 0
       refine Z0 ?_
       cases w
       exact Eg g trivial [1,0,0,0,0,0] [] 0
      rintro i
      refine Tb ad (λy=> ?_) λy=> ?_
      ·refine Z0 ?_
       obtain ⟨ap,hz,aj⟩:=cF y
       subst X
       have hb:=I _ rfl
       subst q
       obtain rfl:=(sm F).symm
       refine Z0 ?_
       obtain ⟨aq,hz,ak⟩:=cF aj
       subst P
       have hb:=B _ rfl
       subst n
       obtain rfl:=(sm A).symm
       refine Z0 ?_
       cases ak
       exact Eo i [0,2,2] [] .nil
      refine Z0 ?_
      cases y
      exact Eg (_,i) (aa _ rfl) [0,1,1,1,1] [] 0
     refine Z0 ?_
     cases u
     have hb:=I _ rfl
     subst q
     exact Egx (_,g) rfl [0,0,0,0] [0,1]
    rintro ⟨m,e⟩ hy
    subst hy
    refine Z0 ?_
    cases F
    exact Eg (_,e) (R _ rfl) [0,1,1] [] 1
   refine Z0 ?_
   cases o
   have hb:=B _ rfl
   subst n
   exact Egx (_,d) rfl [0,0,0] [0]
  rintro ⟨j,c⟩ hy
  subst hy
  refine E.off ?_
  cases A
  exact Eo c [0,0,0] [] .nil
theorem o6 {s_:cA} {l:List aB} {r:cA} (H:ir s_ l=some r):CT G 103 [.pointer (some ⟨N0,0,none⟩),.slice A1 l.length C1] [Ch.box N0 106 [.slice A0 s_.l.length C0]] [Im.sl aC A0 C0 s_.l,Im.sl aC A1 C1 l] (λh:(Option Addr×Nat)=> .tuple #[]) (λh=>[Ch.box N0 106 [.slice h.1 r.l.length h.2]]) (λh=>[Im.sl aC h.1 h.2 r.l]):=by
 delta ir at H
 refine Cf Go.Proofs.Tryz.func103 λK=> ?_
 refine T.xY ?_
 refine Z1 ?_
 have ⟨p,F,I⟩:=bnd H
 refine T.GJ (η:=Unit×((Option Addr×Nat)×List Nat)) (λh=>True) (λh=>(λe f k=>k) h.2.1.1 h.2.1.2 h.2.2) (λh=>(λe f k=>[]) h.2.1.1 h.2.1.2 h.2.2) (λh=>(λe f k=>[Ch.dfs k,Ch.box N0 106 [.slice e p.l.length f]]) h.2.1.1 h.2.1.2 h.2.2) (λh=>(λe f k=>[Im.sl aC e f p.l,Im.sl aC A0 C0 s_.l,Im.sl aC A1 C1 l]) h.2.1.1 h.2.1.2 h.2.2) ?_ ?_
 ·refine Yl0 ?_
  refine T.lpD (η:=(Option Addr×Nat)×List Nat) (λc h=>(λa b d=>d) h.1.1 h.1.2 h.2) (λc h=>(λa b d=>[(0,.pointer (some ⟨N0,0,none⟩)),(8,.slice A1 l.length C1),(9,.int .i64 (l.length:Int)),(10,.int .i64 c.2)]) h.1.1 h.1.2 h.2) (λc h=>(λa b d=>[Ch.dfs d,Ch.box N0 106 [.slice a c.1.l.length b]]) h.1.1 h.1.2 h.2) (λc h=>(λa b d=>[Im.sl aC a b c.1.l,Im.sl aC A0 C0 s_.l,Im.sl aC A1 C1 l]) h.1.1 h.1.2 h.2) ((A0,C0),[]) [0,0] [0,0,1] F rfl ⟨rfl,rfl,rfl,rfl,trivial⟩ rfl rfl ?_
  rintro k_ c ⟨⟨a,b⟩,d⟩ aq J M N
  refine Y2 ?_
  refine Tb J (λq=> ?_) λq=> ?_
  ·refine Y1 ?_
   have ⟨v,O,P⟩:=bnd q
   refine T.CA (η:=Unit×((Option Addr×Nat)×List Nat)) (λh=>True) (λh=>(λg i j=>j) h.2.1.1 h.2.1.2 h.2.2) (λh=>(λg i j=>[(0,.pointer (some ⟨N0,0,none⟩)),(8,.slice A1 l.length C1),(9,.int .i64 (l.length:Int)),(10,.int .i64 c.2)]) h.2.1.1 h.2.1.2 h.2.2) (λh=>(λg i j=>[Ch.dfs j,Ch.box N0 106 [.slice g v.l.length i]]) h.2.1.1 h.2.1.2 h.2.2) (λh=>(λg i j=>[Im.sl aC g i v.l,Im.sl aC a b c.1.l,Im.sl aC A0 C0 s_.l,Im.sl aC A1 C1 l]) h.2.1.1 h.2.1.2 h.2.2) ?_ ?_
   ·refine Zl ?_
    refine Z1 ?_
    have ⟨w,s,Q⟩:=bnd O
    refine L.addr 2 rfl (bH s) λy z R=> ?_
    subst R
    refine Ly (Yl.ia s rfl rfl rfl rfl rfl rfl) ?_
    refine L.el 2 rfl (aI s).2 ?_
    rintro _
    refine Lc 0 0 ?_
    refine Ll λS=> ?_
    refine Lt 0 ?_
    refine Z2 ?_
    have ⟨A,U,V⟩:=bnd Q
    refine Lk [] [] (mi U) λ⟨⟩=> ?_
    refine Lt 0 ?_
    refine Z1 ?_
    have ⟨ar,W,Y⟩:=bnd V
    refine Lk [] [] (jF W) λ⟨⟩=> ?_
    refine Z0 ?_
    refine Tb Y (λu=> ?_) λu=> ?_
    ·refine Z0 ?_
     cases u
     exact E.tq ((),((a,b),d)) [1,1] [1,1,2,3] trivial rfl ⟨rfl,rfl,rfl,rfl,trivial⟩ rfl rfl
    refine Z1 ?_
    refine Ll λZ=> ?_
    refine Y2 ?_
    refine Td [] [0,0,0,0] mo ?_
    refine Dq 0 ?_
    refine Dq 1 ?_
    refine Dq 2 ?_
    refine Db 3 3 ?_
    refine Db 4 1 ?_
    have ⟨aa,ab,ac⟩:=bnd u
    refine Dk [] [1] (tO ab) λ⟨ad,ae⟩=> ?_
    refine Dn ?_
    refine Yl0 ?_
    refine T.gK aC 47 ?_
    have ⟨af,ag,ah⟩:=bnd ac
    refine T.rf2 (σ:=(List aB)) (η:=(Option Addr×Nat)) (X:=aB) (θ:=Unit) (τ:=(Option Addr×Nat)) (s1:=af) (hx:=λx=>x) (λx t=>[.agg #[.int .i64 x.from_,.int .i64 x.to]]) (λx t=>[]) (λ_=>none) (λm h=>(λn o=>[Ch.arr aC 47 n o m,Ch.box Z 44 [.slice n m.length o],Ch.box S 47 [.int .i64 A.from_,.int .i64 A.to],Ch.box N0 106 [.slice a c.1.l.length b]]) h.1 h.2) (λm h=>(λn o=>[Im.sl aC a b aa.1,Im.cells y (z+c.2.toNat*2) [.int .i64 w.from_,.int .i64 w.to],Im.sl aC a b c.1.l,Im.sl aC A0 C0 s_.l,Im.sl aC (some ⟨y,z,none⟩) C1 l]) h.1 h.2) 3 [0,0,0,0,0,0] [0,1,2,3,4] [0] rfl rfl (λ_ _=>rfl) rfl (λyl C hY=>(sb hY (none,0) ad a b ae ag:_)) (λ_ _ _ _=>rfl) rfl rfl rfl rfl rfl ?_ rfl ?_
    ·rintro yl K2 m ⟨n,o⟩ ai ⟨⟩ au aj
     refine Z0 ?_
     refine Ll λav=> ?_
     refine Lt 0 ?_
     refine Z0 ?_
     refine E.begin λK3=> ?_
     refine Zl ?_
     refine La [] [] (Ac.bs (ty:=aC) (xs:=[ai]) (.cons () [] rfl .nil) rfl rfl rfl rfl rfl rfl rfl) λaw=> ?_
     refine L.frz 0 rfl ?_
     have ⟨_,ak,al⟩:=bnd aj
     refine La [1] [0] (Ac.ap (ty:=aC) ak rfl rfl rfl rfl rfl rfl rfl) ?_
     rintro ⟨am,an⟩
     refine Lt 2 ?_
     refine Z0 ?_
     cases al
     exact E.on (am,an) [1,0,1,1] [1,2,3,4,5] rfl rfl rfl rfl
    rintro B ao
    refine Z0 ?_
    refine Lt 4 ?_
    refine Z0 ?_
    refine E.frz 2 rfl ?_
    cases ah
    exact E.tq ((),((B.1,B.2),(ao::d))) [1,0] [0,3,4,5] trivial rfl ⟨rfl,rfl,rfl,rfl,trivial⟩ rfl rfl
   rintro ⟨_,⟨⟨g,i⟩,j⟩⟩ _
   refine Z0 ?_
   cases P
   exact E.tq (_,((g,i),j)) [0,0] [0,2,3] (M _ rfl) rfl ⟨rfl,rfl,rfl,rfl,trivial⟩ rfl rfl
  refine Z0 ?_
  cases q
  have hb:=N _ rfl
  subst p
  exact E.tq ((),((a,b),d)) [0,0] [0,1,2] trivial rfl trivial rfl rfl
 rintro ⟨_,⟨⟨e,f⟩,k⟩⟩ _
 refine E.off ?_
 cases I
 exact E.zr (e,f) 0 [0] [0] rfl .nil rfl rfl rfl
theorem sd {f:bE} {i:Int} {r:Bool×bE} (H:eZ f i=some r):CT G 80 [.pointer (some ⟨N0,0,none⟩),.int .i64 i] [Ch.box N0 161 (dM f N1),Ch.box N1 106 [.slice A0 f.want.l.length C0]] [Im.sl aC A0 C0 f.want.l] (λh:(Option Addr×Nat)=> .bool r.1) (λh=>[Ch.box N0 161 (dM r.2 N1),Ch.box N1 106 [.slice h.1 r.2.want.l.length h.2]]) (λh=>[Im.sl aC h.1 h.2 r.2.want.l]):=by
 delta eZ at H
 refine Cf Go.Proofs.Tryz.func80 λK=> ?_
 refine Z2 ?_
 have ⟨r1,h2,H3⟩:=bnd H
 refine Lk [1] [0] (tN h2) λ⟨⟩=> ?_
 refine Y1 ?_
 refine Td [] [1] mo ?_
 refine Dq 0 ?_
 refine Dq 1 ?_
 refine Dq 2 ?_
 refine Db 3 0 ?_
 refine Dq 4 ?_
 refine Dq 5 ?_
 refine Dq 6 ?_
 refine Dq 7 ?_
 have ⟨a,b,c⟩:=bnd H3
 refine Dk [] [] (yU b) λ⟨⟩=> ?_
 refine Dq 9 ?_
 refine Dq 10 ?_
 refine Da [] [] rfl rfl (Ac.bs (ty:=aC) (xs:=[(aB.mk i (IntKind.i64.wrap (i+a)))]) (.cons () [] rfl .nil) rfl rfl rfl rfl rfl rfl rfl) λk=> ?_
 refine D.frz 0 rfl ?_
 have ⟨m,d,e⟩:=bnd c
 refine Dk [0] [1,0] (o6 d) λ⟨g,j⟩=> ?_
 refine Dn ?_
 refine Z1 ?_
 cases e
 exact Eo1 (g,j) [0,0] [0]
theorem m7 {c:aR} {i:Int} {l:List aN} {r:aR} (H:eE c i l=some r):CT G 101 [.pointer (some ⟨N0,0,none⟩),.int .i64 i,.slice A0 l.length C0] [Ch.box N0 158 [.int .i64 c.most,.int .i64 c.now,.map M0],Ch.mp aE true M0 c.l] [Im.sl aH A0 C0 l] (λ_:Unit=> .tuple #[]) (λh=>[Ch.box N0 158 [.int .i64 r.most,.int .i64 r.now,.map M0],Ch.mp aE true M0 r.l]) (λh=>[]):=by
 delta eE at H
 refine Cf Go.Proofs.Tryz.func101 λK=> ?_
 refine Z1 ?_
 refine Lt 0 ?_
 refine Z0 ?_
 refine Td [] [0] mo ?_
 refine Dq 0 ?_
 refine Dq 1 ?_
 refine Dq 2 ?_
 refine Db 3 0 ?_
 refine Dq 4 ?_
 refine Dq 5 ?_
 refine Dq 6 ?_
 refine Dq 7 ?_
 refine Dq 8 ?_
 refine Db 9 0 ?_
 refine Dq 10 ?_
 have ⟨_,h3,H4⟩:=bnd H
 refine Da [0] [0] rfl rfl (Ac.mu (ty:=aE) (ag:=true) i (CacheEntry.mk l (IntKind.i64.wrap (c.now+1))) (A0,C0) h3 (.inl rfl) rfl rfl rfl rfl rfl rfl rfl rfl) λ_=> ?_
 refine Dn ?_
 refine E.off ?_
 cases H4
 exact Eo () [0,0] [] .nil
theorem oI {m_:Mp CacheEntry} (v_0:Option Nat) {r:Unit} (H:jd m_=some r):CT G 141 [.map v_0] [Ch.mp aE true v_0 m_] [] (λh:Nat=> .func (.func 182) #[] #[.pointer (some ⟨h,0,none⟩)]) (λh=>[Ch.box h 156 [.map v_0],Ch.mp aE true v_0 m_]) (λh=>[]):=by
  cases H
  refine Cf Go.Proofs.Tryz.func141 λK=> ?_
  refine Z1 ?_
  refine Lx λg1=> ?_
  refine Z1 ?_
  exact Eo1 g1 [0,0] []
theorem vw {σ η:Type} {Y:σ->Int->Option (σ×Bool)} {y0:σ} {m:List (Int×CacheEntry)} {yl:Nat} {C:σ->η->Ch} (hY: ∀ s (h:η) (x:Int) (t:Unit) z,Y s x=some z->YT G yl [.int .i64 x] [C s h] [] (λ_:η=> .bool z.2) (λh2=>[C z.1 h2]) (λ_=>[])) (h0:η) (g:Nat) (v:Option Nat) {r:σ} (H:wN m (λR=>nw (λs=>some (.inr s)) (λe s=>Option.bind (Y s e.1) λz=>bif !z.2 then some (.inr z.1) else some (.inl z.1)) R y0)=some r):CT G 182 [.func (.yield yl) #[] #[],.pointer (some ⟨g,0,none⟩)] [C y0 h0,Ch.box g 156 [.map v],Ch.mp aE true v (some m)] [] (λh:η=> .tuple #[]) (λh=>[C r h,Ch.box g 156 [.map v],Ch.mp aE true v (some m)]) (λh=>[]):=by
 refine Cf Go.Proofs.Tryz.func182 λK=> ?_
 refine Z1 ?_
 refine La [2] [] (Ac.mrg rfl rfl rfl rfl) λg5=> ?_
 refine Yl0 ?_
 refine T.lpm (η:=η) (λR s h=>[(0,.func (.yield yl) #[] #[]),(5,.pointer (some ⟨g5,0,none⟩))]) (λR s h=>[Ch.mit aE true v m g5 R none,C s h,Ch.box g 156 [.map v]]) (λ_ _ _=>[]) h0 [0,0,0] [] H ⟨rfl,rfl,trivial⟩ rfl rfl ?_
 intro R s h hA hB
 refine Z1 ?_
 refine La [0] [] (Ac.mnx rfl rfl) λz=> ?_
 rcases z with hR | ⟨k,x,R',hR,u1,u2⟩
 · refine Z1 ?_
   obtain ⟨z,hz,hr⟩:=hA hR
   cases hz
   have e:=hr _ rfl
   subst e
   refine T.cond rfl (λh=>nomatch h) (λ_=> ?_)
   refine Z0 ?_
   refine E.mof [0] rfl ?_
   refine E.off ?_
   exact Eo h [1,1,0] [] .nil
 refine Z1 ?_
 obtain ⟨z,hz,hr,hb⟩:=hB _ _ hR
 refine T.cond rfl (λ_=> ?_) (λh=>nomatch h)
 refine Zl ?_
 refine Z1 ?_
 refine La [0] [] (Ac.men rfl rfl) λu=> ?_
 refine Z1 ?_
 have ⟨q,hq,a⟩:=bnd hz
 refine L.yd [1] [] (hY _ _ _ () _ hq) rfl rfl rfl rfl rfl rfl rfl rfl ?_
 intro h3
 refine Z0 ?_
 refine Tb a (λe=> ?_) λe=> ?_
 · cases e
   have e:=hb _ rfl
   subst e
   refine Z0 ?_
   refine E.mof [1] rfl ?_
   exact Eo h3 [1,1,0] [] .nil
 · cases e
   refine Z0 ?_
   exact Egx ((R',q.1),h3) (hr _ rfl) [1,0,0] []
theorem Ap (g:Nat) (v:Option Nat) {m:List (Int×CacheEntry)} {u:Unit} (hm:chk (cW m.length 1 8)=some u):CT G 181 [.slice none 0 0,.func (.func 182) #[] #[.pointer (some ⟨g,0,none⟩)]] [Ch.box g 156 [.map v],Ch.mp aE true v (some m)] [] (λh:List Int×(Option Addr×Nat)=> .slice h.2.1 h.1.length h.2.2) (λh=>[Ch.arr (Ty.int .i64) 3 h.2.1 h.2.2 h.1,Ch.pr (h.1.Perm (mks (some m))),Ch.box g 156 [.map v],Ch.mp aE true v (some m)]) (λ_=>[]):=by
 refine Cf Go.Proofs.Tryz.func181 λK=> ?_
 refine T.xY ?_
 refine Z1 ?_
 refine Lx λg1=> ?_
 refine Z2 ?_
 refine Yl0 ?_
 refine T.gK (Ty.int .i64) 3 ?_
 refine T.prc (p:=([]:List Int).length=0 /\ ∀ k:Int,([]:List Int).count k=0) ⟨rfl,λ_=>rfl⟩ ?_
 refine T.rf2 (σ:=Nat×(Int->Nat)) (η:=List Int×(Option Addr×Nat)) (X:=Int) (θ:=Unit) (τ:=List Int×(Option Addr×Nat)) (Y:=kY) (s0:=(0,λ_=>0)) (h0:=([],(none,0))) (s1:=(m.length,λk=>(m.map Prod.fst).count k)) (hx:=λx=>x) (λx t=>[.int .i64 x]) (λx t=>[]) (λ_=>none) (λs h=>[Ch.pr (h.1.length=s.1 /\ ∀ k,h.1.count k=s.2 k),Ch.arr (Ty.int .i64) 3 h.2.1 h.2.2 h.1,Ch.box g1 37 [.slice h.2.1 h.1.length h.2.2]]) (λs h=>[]) 3 [0,0,0,0,0] [] [] rfl rfl (λ_ _=>rfl) rfl (λyl C hY=>(vw hY ([],(none,0)) g v (HH m hm):_)) (λ_ _ _ _=>rfl) rfl rfl rfl rfl rfl ?_ rfl ?_
 · rintro yl K2 j ⟨ks,a,c⟩ S ⟨⟩ ad U
   refine Z0 ?_
   refine E.begin λK3=> ?_
   refine Zl ?_
   refine La [] [] (Ac.bs (ty:=Ty.int .i64) (xs:=[S]) (.cons () [] rfl .nil) rfl rfl rfl rfl rfl rfl rfl) λaw=> ?_
   refine L.frz 0 rfl ?_
   have ⟨_,ak,al⟩:=bnd U
   refine L.prd 0 rfl λhp=> ?_
   rw [<- hp.1] at ak
   refine La [0] [0] (Ac.ap (ty:=Ty.int .i64) ak rfl rfl rfl rfl rfl rfl rfl) ?_
   rintro ⟨am,an⟩
   refine Lt 1 ?_
   refine Z0 ?_
   cases al
   refine E.prc (p:=(ks++[S]).length=j.1+1 /\ ∀ k,(ks++[S]).count k=j.2 k+[S].count k) ⟨by rw [List.length_append,hp.1]; rfl,λk=>by rw [List.count_append,hp.2]⟩ ?_
   exact E.on (ks++[S],am,an) [0,1,0] [] rfl rfl rfl rfl
 rintro ⟨ks,a,c⟩ D
 refine Z1 ?_
 refine E.prd 1 rfl λhp=> ?_
 refine E.prc (p:=ks.Perm (mks (some m))) (List.perm_iff_count.2 hp.2) ?_
 exact E.zr (ks,(a,c)) 1 [1,0,1,1] [] rfl (.tmp rfl .nil) rfl rfl rfl
theorem mZ {seq_0:Mp CacheEntry} (g_0_0:Nat) (v_0_0_0:Option Nat) {r:Unit} (H:dY seq_0=some r):CT G 140 [.func (.func 182) #[] #[.pointer (some ⟨g_0_0,0,none⟩)]] [Ch.box g_0_0 156 [.map v_0_0_0],Ch.mp aE true v_0_0_0 seq_0] [] (λh:List Int×(Option Addr×Nat)=> .slice h.2.1 h.1.length h.2.2) (λh=>[Ch.arr (Ty.int .i64) 3 h.2.1 h.2.2 h.1,Ch.pr (h.1.Perm (mks seq_0)),Ch.box g_0_0 156 [.map v_0_0_0],Ch.mp aE true v_0_0_0 seq_0]) (λh=>[]):=by
  delta dY at H
  have ⟨_,h1,H2⟩:=bnd H
  have ⟨_,h3,H4⟩:=bnd H2
  cases H4
  cases seq_0 with
  | none=>cases h1
  | some m =>
    refine Cf Go.Proofs.Tryz.func140 λK=> ?_
    refine Z2 ?_
    refine Lk [0,0] [] (Ap _ _ h3) λ⟨ks,a,c⟩=> ?_
    refine Z0 ?_
    exact Eo1 (ks,(a,c)) [0,0,0,0] []
theorem o8 {x_:Int} {r:Bool} (H:jI x_=some r):CT G 183 [.int .i64 x_] [] [] (λ_:Unit=> .bool r) (λh=>[]) (λh=>[]):=by
 delta jI at H
 refine Cf Go.Proofs.Tryz.func183 λK=> ?_
 refine Z2 ?_
 cases H
 exact Eo1 () [] []
theorem nY {x_:Int} {y:Int} {r:Int} (H:iw x_ y=some r):CT G 143 [.int .i64 x_,.int .i64 y] [] [] (λ_:Unit=> .int .i64 r) (λh=>[]) (λh=>[]):=by
 delta iw at H
 refine Cf Go.Proofs.Tryz.func143 λK=> ?_
 refine Z2 ?_
 have ⟨r1,h2,H3⟩:=bnd H
 refine Lk [] [] (o8 h2) λ⟨⟩=> ?_
 refine Z1 ?_
 have ⟨r4,h5,H6⟩:=bnd H3
 refine Lk [] [] (o8 h5) λ⟨⟩=> ?_
 refine Z2 ?_
 refine Tb H6 (λa=> ?_) λa=> ?_
 ·refine Z2 ?_
  refine Tb a (λb=> ?_) λb=> ?_
  ·refine Z1 ?_
   cases b
   exact Eo1 () [] []
  refine Z1 ?_
  cases b
  exact Eo1 () [] []
 refine Z2 ?_
 refine Tb a (λc=> ?_) λc=> ?_
 ·refine Z1 ?_
  cases c
  exact Eo1 () [] []
 refine Z2 ?_
 refine Tb c (λd=> ?_) λd=> ?_
 ·refine Z1 ?_
  cases d
  exact Eo1 () [] []
 refine Z2 ?_
 refine Tb d (λe=> ?_) λe=> ?_
 ·refine Z1 ?_
  cases e
  exact Eo1 () [] []
 refine Z1 ?_
 cases e
 exact Eo1 () [] []
theorem ql {a:Int} {b:Int} {x2:aR} {r:Int} (H:eU a b x2=some r):CT G 142 [.int .i64 a,.int .i64 b,.pointer (some ⟨N0,0,none⟩)] [Ch.box N0 89 [.pointer (some ⟨N1,0,none⟩)],Ch.box N1 158 [.int .i64 x2.most,.int .i64 x2.now,.map M0],Ch.mp aE true M0 x2.l] [] (λ_:Unit=> .int .i64 r) (λh=>[Ch.box N0 89 [.pointer (some ⟨N1,0,none⟩)],Ch.box N1 158 [.int .i64 x2.most,.int .i64 x2.now,.map M0],Ch.mp aE true M0 x2.l]) (λh=>[]):=by
 delta eU at H
 refine Cf Go.Proofs.Tryz.func142 λK=> ?_
 refine Y2 ?_
 have ⟨p,q,s⟩:=bnd H
 refine Tj0 [(5,.int .i64 p)] [] [] [0,1,2] ?_ ?_
 ·refine Td [] [0,0] mo ?_
  refine Db 0 0 ?_
  refine Dq 1 ?_
  refine Dq 2 ?_
  refine Db 3 1 ?_
  refine Dq 4 ?_
  refine Db 7 0 ?_
  refine Dq 8 ?_
  refine Dq 9 ?_
  refine Db 10 1 ?_
  refine Dq 11 ?_
  have ⟨t,c,d⟩:=bnd q
  refine D.two rfl rfl rfl ?_ ?_
  ·refine Dp.a [0] [] (Ac.ml1 (ty:=aE) (ag:=true) (vv:=(λh:(Option Addr×Nat)=>(λe g=> .agg #[.slice e ((mgd x2.l a (CacheEntry.mk ([]:List aN) 0)).l).length g,.int .i64 ((mgd x2.l a (CacheEntry.mk ([]:List aN) 0)).at_)]) h.1 h.2)) a (CacheEntry.mk ([]:List aN) 0) (none,0) rfl rfl rfl rfl rfl rfl rfl rfl rfl (λ_ _ f hf=>by rw [List.mem_singleton.1 hf]; exact Im.bW _ _) qe (λ_=>rfl)) rfl rfl rfl rfl rfl rfl ?_
   rintro ⟨e,g⟩
   refine Dq 6 ?_
   refine Da [0] [] rfl rfl (Ac.ml1 (ty:=aE) (ag:=true) (vv:=(λh:(Option Addr×Nat)=>(λi j=> .agg #[.slice i ((mgd x2.l b (CacheEntry.mk ([]:List aN) 0)).l).length j,.int .i64 ((mgd x2.l b (CacheEntry.mk ([]:List aN) 0)).at_)]) h.1 h.2)) b (CacheEntry.mk ([]:List aN) 0) (none,0) rfl rfl rfl rfl rfl rfl rfl rfl rfl (λ_ _ f hf=>by rw [List.mem_singleton.1 hf]; exact Im.bW _ _) qe (λ_=>rfl)) ?_
   rintro ⟨i,j⟩
   refine Dq 13 ?_
   refine Dk [] [] (nY c) λ⟨⟩=> ?_
   refine Dq 15 ?_
   refine Dn ?_
   cases d
   exact Eg0 [0,0,0] 2
  refine Dp.a [0] [] (Ac.ml1 (ty:=aE) (ag:=true) (vv:=(λh:(Option Addr×Nat)=>(λk m=> .agg #[.slice k ((mgd x2.l b (CacheEntry.mk ([]:List aN) 0)).l).length m,.int .i64 ((mgd x2.l b (CacheEntry.mk ([]:List aN) 0)).at_)]) h.1 h.2)) b (CacheEntry.mk ([]:List aN) 0) (none,0) rfl rfl rfl rfl rfl rfl rfl rfl rfl (λ_ _ f hf=>by rw [List.mem_singleton.1 hf]; exact Im.bW _ _) qe (λ_=>rfl)) rfl rfl rfl rfl rfl rfl ?_
  rintro ⟨k,m⟩
  refine Dq 13 ?_
  refine Da [0] [] rfl rfl (Ac.ml1 (ty:=aE) (ag:=true) (vv:=(λh:(Option Addr×Nat)=>(λn o=> .agg #[.slice n ((mgd x2.l a (CacheEntry.mk ([]:List aN) 0)).l).length o,.int .i64 ((mgd x2.l a (CacheEntry.mk ([]:List aN) 0)).at_)]) h.1 h.2)) a (CacheEntry.mk ([]:List aN) 0) (none,0) rfl rfl rfl rfl rfl rfl rfl rfl rfl (λ_ _ f hf=>by rw [List.mem_singleton.1 hf]; exact Im.bW _ _) qe (λ_=>rfl)) ?_
  rintro ⟨n,o⟩
  refine Dq 6 ?_
  refine Dk [] [] (nY c) λ⟨⟩=> ?_
  refine Dq 15 ?_
  refine Dn ?_
  cases d
  exact Eg0 [0,0,0] 2
 refine Z0 ?_
 cases s
 exact Eo1 () [0,0,0] []
theorem lT {x_:List Int} {cmp_0:aR} {r:Int} (H:dF x_ cmp_0=some r):CT G 139 [.slice A0 x_.length C0,.func (.func 142) #[] #[.pointer (some ⟨N0,0,none⟩)]] [Ch.box N0 89 [.pointer (some ⟨N1,0,none⟩)],Ch.box N1 158 [.int .i64 cmp_0.most,.int .i64 cmp_0.now,.map M0],Ch.mp aE true M0 cmp_0.l] [Im.sl (Ty.int .i64) A0 C0 x_] (λ_:Unit=> .int .i64 r) (λh=>[Ch.box N0 89 [.pointer (some ⟨N1,0,none⟩)],Ch.box N1 158 [.int .i64 cmp_0.most,.int .i64 cmp_0.now,.map M0],Ch.mp aE true M0 cmp_0.l]) (λh=>[]):=by
 delta dF at H
 refine Cf Go.Proofs.Tryz.func139 λK=> ?_
 refine Z3 ?_
 refine Tb H (λH2=> ?_) λH2=> ?_
 ·cases H2
 refine Z1 ?_
 have ⟨x3,h4,H5⟩:=bnd H2
 refine L.addr 0 rfl (bH h4) λb6 o7 e8=> ?_
 subst e8
 refine Ly (Yl.ia h4 rfl rfl rfl rfl rfl rfl) ?_
 refine L.el 0 rfl (aI h4).2 ?_
 rintro _
 refine Lc 0 0 ?_
 refine Z2 ?_
 have ⟨d,g,i⟩:=bnd H5
 refine Tj0 [(5,.int .i64 d)] [] [] [0,1,2] ?_ ?_
 ·refine Yl0 ?_
  refine Tq (η:=Unit) (λa h=>[(5,.int .i64 a.1),(6,.int .i64 a.2)]) [0,1] (λ_ _=>[]) [0,1,2] (λ_ _=>[]) () [0,0,0] [] g ?_
  rintro k_ a ⟨⟩ v j k m
  refine Z2 ?_
  refine Tb j (λb=> ?_) λb=> ?_
  ·refine Y1 ?_
   have ⟨n,o,p⟩:=bnd b
   refine Tj0 [(5,.int .i64 n)] [0,1,6] [] [0,1,2] ?_ ?_
   ·refine Zl ?_
    refine Z1 ?_
    have ⟨w,e,q⟩:=bnd o
    refine Ly (Yl.ia e rfl rfl rfl rfl rfl rfl) ?_
    refine L.el 1 rfl (aI e).2 ?_
    rintro _
    refine Lc 0 0 ?_
    refine Z0 ?_
    have ⟨x,s,t⟩:=bnd q
    refine Lk [0,0,0] [] (ql s) λ⟨⟩=> ?_
    refine Z0 ?_
    refine Tb t (λc=> ?_) λc=> ?_
    ·refine Z0 ?_
     have ⟨y,f,u⟩:=bnd c
     refine Ly (Yl.ia f rfl rfl rfl rfl rfl rfl) ?_
     refine L.el 2 rfl (aI f).2 ?_
     rintro _
     refine Lc 0 0 ?_
     refine Z0 ?_
     cases u
     exact Eg0 [0,0,0] 2
    refine Z0 ?_
    cases c
    exact Eg0 [0,0,0] 1
   refine Z0 ?_
   cases p
   exact Eg (_,()) (k _ rfl) [0,0,0] [] 0
  refine Z0 ?_
  cases b
  have hb:=m _ rfl
  subst d
  exact Eg0 [0,0,0] 0
 refine Z1 ?_
 cases i
 exact Eo1 () [0,0,0] []
theorem sg {c:aR} {i:Int} {l:List aN} {r:Int×Bool×aR} (H:gN c i l=some r):CT G 81 [.pointer (some ⟨N0,0,none⟩),.int .i64 i,.slice A0 l.length C0] [Ch.box N0 158 [.int .i64 c.most,.int .i64 c.now,.map M0],Ch.mp aE true M0 c.l] [Im.sl aH A0 C0 l] (λ_:Unit=> .tuple #[.int .i64 r.1,.bool r.2.1]) (λh=>[Ch.box N0 158 [.int .i64 r.2.2.most,.int .i64 r.2.2.now,.map M0],Ch.mp aE true M0 r.2.2.l]) (λh=>[]):=by
 delta gN at H
 refine Cf Go.Proofs.Tryz.func81 λK=> ?_
 refine Z1 ?_
 refine Lx λg1=> ?_
 refine Y2 ?_
 have ⟨e5,H6,H7⟩:=bnd H
 refine Tj0 [(14,.bool e5)] [1,2,3] [] [0,1,2] ?_ ?_
 ·refine Z0 ?_
  refine Lw 11 H6 (λH8=> ?_) λH8=> ?_
  ·refine Z0 ?_
   cases H8
   exact Eg0 [0,0,0] 0
  refine Z0 ?_
  cases H8
  exact Eg0 [0,0,0] 0
 refine Tb H7 (λa=> ?_) λa=> ?_
 ·refine Z1 ?_
  cases a
  exact Eo () [1,1] [] (.tmp rfl (.tmp rfl .nil))
 refine Y1 ?_
 refine Td [] [0] mo ?_
 refine Db 0 0 ?_
 refine Dq 1 ?_
 refine Dq 2 ?_
 have ⟨w,d,e⟩:=bnd a
 refine Dk [] [0] (iR A0 C0 d) λ⟨x,y⟩=> ?_
 refine D.frz 0 rfl ?_
 have ⟨z,f,g⟩:=bnd e
 refine Dk [0,0] [0] (m7 f) λ⟨⟩=> ?_
 refine Dn ?_
 refine Y2 ?_
 refine Td [] [0,0,0] mo ?_
 refine Db 0 0 ?_
 refine Dq 1 ?_
 refine Dq 2 ?_
 refine Db 3 1 ?_
 refine Db 5 0 ?_
 refine Dq 6 ?_
 refine Dq 7 ?_
 refine Db 8 1 ?_
 refine Dy 4 (Yl.mn 2 rfl rfl rfl rfl rfl) ?_
 refine Dq 9 ?_
 refine Dn ?_
 refine Z0 ?_
 refine Tb g (λb=> ?_) λb=> ?_
 ·refine Z1 ?_
  cases b
  exact Eo () [1,1] [] (.tmp rfl (.tmp rfl .nil))
 refine Z1 ?_
 have ⟨A,j,k⟩:=bnd b
 refine Lk [2] [] (oI M0 j) λm=> ?_
 have ⟨B,n,o⟩:=bnd k
 refine Lk [0,0] [] (mZ m M0 n) λ⟨p,⟨C,F⟩⟩=> ?_
 refine L.prd 1 rfl λq=> ?_
 have s:=vY o p q
 refine Z0 ?_
 refine L.frz 0 rfl ?_
 have ⟨t,u,v⟩:=bnd s
 refine Lk [2,2,1] [0] (lT u) λ⟨⟩=> ?_
 refine Z1 ?_
 refine La [2] [] (Ac.mde (ty:=aE) (ag:=true) t rfl rfl rfl rfl rfl rfl rfl) λ_=> ?_
 refine Z1 ?_
 cases v
 exact Eo () [2,0] [] (.tmp rfl (.tmp rfl .nil))
theorem pH {c:aF} {g:aV} {r:Int×aF} (H:fM c g=some r):CT G 35 [.pointer (some ⟨N0,0,none⟩),.agg (rR g A3 C3).toArray] [Ch.box N0 94 (jn c N1 N3 N4),Ch.box N1 155 (dQ c.aM N2 A0 C0 A1 C1),Ch.box N2 153 (cL c.aM.slot M0),Ch.mp Ty.str false M0 c.aM.slot.parts,Ch.box N3 158 [.int .i64 c.lines.most,.int .i64 c.lines.now,.map M1],Ch.mp aE true M1 c.lines.l,Ch.box N4 161 (dM c.bF N5),Ch.box N5 106 [.slice A2 c.bF.want.l.length C2]] [Im.sl aT A0 C0 c.aM.aJ.rows,Im.sl aH A1 C1 c.aM.aJ.begun,Im.sl aC A2 C2 c.bF.want.l,Im.sl (Ty.int .i64) A3 C3 g.bB] (λh:(Option Addr×Nat)=> .int .i64 r.1) (λh=>[Ch.box N0 94 (jn r.2 N1 N3 N4),Ch.box N1 155 (dQ r.2.aM N2 A0 C0 A1 C1),Ch.box N2 153 (cL r.2.aM.slot M0),Ch.mp Ty.str false M0 r.2.aM.slot.parts,Ch.box N3 158 [.int .i64 r.2.lines.most,.int .i64 r.2.lines.now,.map M1],Ch.mp aE true M1 r.2.lines.l,Ch.box N4 161 (dM r.2.bF N5),Ch.box N5 106 [.slice h.1 r.2.bF.want.l.length h.2]]) (λh=>[Im.sl aT A0 C0 r.2.aM.aJ.rows,Im.sl aH A1 C1 r.2.aM.aJ.begun,Im.sl aC h.1 h.2 r.2.bF.want.l]):=by
 delta fM at H
 refine Cf Go.Proofs.Tryz.func35 λK=> ?_
 refine Z1 ?_
 refine Lx λg1=> ?_
 refine Z1 ?_
 have ⟨r2,h3,H4⟩:=bnd H
 refine Lk [] [3] (xC h3) λ⟨a5,c6⟩=> ?_
 refine Z2 ?_
 have ⟨b,w,x⟩:=bnd H4
 refine Tjh (η:=(Option Addr×Nat)) (λ_=>[]) [7] (λh=>(λi j=>[Ch.mp aE true M1 b.1.l,Ch.box N3 158 [.int .i64 b.1.most,.int .i64 b.1.now,.map M1],Ch.box N4 161 (dM b.2 N5),Ch.box N5 106 [.slice i b.2.want.l.length j]]) h.1 h.2) [1,2,3,4,5] (λh=>(λi j=>[Im.sl aC i j b.2.want.l]) h.1 h.2) ?_ ?_
 ·refine Yl0 ?_
  refine Tq (η:=(Option Addr×Nat)) (λa h=>(λd e=>[(18,.int .i64 a.2.2)]) h.1 h.2) [0,5,7,16,17] (λa h=>(λd e=>[Ch.mp aE true M1 a.1.l,Ch.box N3 158 [.int .i64 a.1.most,.int .i64 a.1.now,.map M1],Ch.box N4 161 (dM a.2.1 N5),Ch.box N5 106 [.slice d a.2.1.want.l.length e]]) h.1 h.2) [1,2,3,4,0,5] (λa h=>(λd e=>[Im.sl aC d e a.2.1.want.l]) h.1 h.2) (A2,C2) [7,6,6,6,1,1,1,1,0,0] [2] w ?_
  rintro k_ a ⟨d,e⟩ Q y z A
  refine Y2 ?_
  refine Tb y (λn=> ?_) λn=> ?_
  ·refine Y1 ?_
   have ⟨f,B,C⟩:=bnd n
   refine Tjh (η:=(Option Addr×Nat)) (λ_=>[]) [0,5,7,16,17,18] (λh=>(λk m=>[Ch.mp aE true M1 f.1.l,Ch.box N3 158 [.int .i64 f.1.most,.int .i64 f.1.now,.map M1],Ch.box N4 161 (dM f.2 N5),Ch.box N5 106 [.slice k f.2.want.l.length m]]) h.1 h.2) [4,5,6,7,8,9] (λh=>(λk m=>[Im.sl aC k m f.2.want.l]) h.1 h.2) ?_ ?_
   ·refine Zl ?_
    refine Z1 ?_
    have ⟨F,o,I⟩:=bnd B
    refine L.iZ 8 rfl (bH o) λR J=> ?_
    subst J
    refine Ly (Yl.ia o rfl rfl rfl rfl rfl rfl) ?_
    refine La [8] [] (Ac.lo a.2.2.toNat 0 (v:=(λh:(Option Addr×Nat)=>(λq s=> .slice q F.length s) h.1 h.2)) (aI o).2 rfl rfl rfl (λ_=>rfl)) ?_
    rintro ⟨q,s⟩
    refine Z1 ?_
    have ⟨S,M,N⟩:=bnd I
    refine Lk [3,3] [1] (sd M) λ⟨t,u⟩=> ?_
    refine Z0 ?_
    refine Tb N (λp=> ?_) λp=> ?_
    ·refine Z0 ?_
     have ⟨U,O,P⟩:=bnd p
     refine Lk [4,3] [1] (sg O) λ⟨⟩=> ?_
     refine Z0 ?_
     cases P
     exact Eg (t,u) trivial [1,0,0,0,1,1,1,1,0,0] [0] 2
    refine Z0 ?_
    cases p
    exact Eg (t,u) trivial [3,3,0,0,1,1,1,1,0,0] [0] 2
   rintro ⟨k,m⟩
   refine Z0 ?_
   cases C
   exact Eg (_,(k,m)) (z _ rfl) [0,0,0,0,0,0,0,0,0,0] [0] 2
  refine Z0 ?_
  cases n
  have hb:=A _ rfl
  subst b
  exact Eg (d,e) trivial [0,0,0,0,0,0,0,0,1] [0] 1
 rintro ⟨i,j⟩
 refine Z1 ?_
 cases x
 exact Eo1 (i,j) [5,5,5,5,1,0,0,0] [1,2,0]
end Go.Tw.X
namespace Go.Tw.X
open Go Go.Tw
variable {A0 A1 A2 A3 A4 A5 A6 A7 A8 : Option Addr} {C0 C1 C2 C3 C4 C5 C6 C7 C8 : Nat}
variable {N0 N1 N2 N3 N4 N5 : Nat}
variable {M0 M1 : Option Nat}
theorem td {s_:bV} {key:Int} {index:Int} {count:Int} {data:ByteArray} {r:Int×bV} (H:jf s_ key index count data=some r):CT G 144 [.pointer (some ⟨N0,0,none⟩),.int .i64 key,.int .i64 index,.int .i64 count,.string data] [Ch.box N0 153 (cL s_ M0),Ch.mp Ty.str false M0 s_.parts] [] (λh:Option Nat=> .int .i64 r.1) (λh=>[Ch.box N0 153 (cL r.2 h),Ch.mp Ty.str false h r.2.parts]) (λh=>[]):=by
 delta jf at H
 refine Cf Go.Proofs.Tryz.func144 λK=> ?_
 refine Y2 ?_
 have ⟨b,q,c⟩:=bnd H
 refine Tj (η:=bV×(Option Nat)) (λh=>b = .inl h.1) (λ_=>[]) [0,2,4] (λh=>(λd=>(λa=>[Ch.mp Ty.str false a d.parts,Ch.box N0 153 (cL d a)]) h.2) h.1) [] (λ_=>[]) ?_ ?_
 ·refine Zl ?_
  refine Y1 ?_
  have ⟨s,t,u⟩:=bnd q
  refine Tj0 [(13,.bool s)] [0,1,2,3,4] [] [0,1] ?_ ?_
  ·refine Z0 ?_
   refine Lw 16 t (λe=> ?_) λe=> ?_
   ·refine Z0 ?_
    cases e
    exact Eg0 [0,0] 0
   refine Z0 ?_
   refine Lw 20 e (λg=> ?_) λg=> ?_
   ·refine Z0 ?_
    cases g
    exact Eg0 [0,0] 0
   refine Z0 ?_
   refine Lw 24 g (λi=> ?_) λi=> ?_
   ·refine Z0 ?_
    cases i
    exact Eg0 [0,0] 0
   refine Z0 ?_
   refine Lw 29 i (λj=> ?_) λj=> ?_
   ·refine Z0 ?_
    cases j
    exact Eg0 [0,0] 0
   refine Z0 ?_
   cases j
   exact Eg0 [0,0] 0
  refine Tb u (λk=> ?_) λk=> ?_
  ·refine Z1 ?_
   obtain ⟨F,hz,v⟩:=ib k
   subst b
   obtain rfl:=(sm c).symm
   refine Z0 ?_
   cases v
   exact Eo1 M0 [0,0] []
  refine Z1 ?_
  refine Tb k (λl=> ?_) λl=> ?_
  ·refine Z1 ?_
   obtain ⟨I,hz,w⟩:=ib l
   subst b
   obtain rfl:=(sm c).symm
   refine Z0 ?_
   cases w
   exact Eo1 M0 [0,0] []
  refine Z1 ?_
  refine Tb l (λm=> ?_) λm=> ?_
  ·refine Z0 ?_
   refine La [] [] (Ac.mkm (ty:=Ty.str) (ag:=false) rfl rfl rfl) λx=> ?_
   refine Z0 ?_
   refine Lt 1 ?_
   refine Z0 ?_
   cases m
   exact Eg (_,(some x)) rfl [1,0] [] 0
  refine Z1 ?_
  refine Tb m (λn=> ?_) λn=> ?_
  ·refine Z1 ?_
   obtain ⟨J,hz,y⟩:=ib n
   subst b
   obtain rfl:=(sm c).symm
   refine Z0 ?_
   cases y
   exact Eo1 M0 [0,0] []
  refine Z0 ?_
  cases n
  exact Eg (_,M0) rfl [1,0] [] 0
 rintro ⟨d,a⟩ hy
 subst hy
 refine Z2 ?_
 refine La [0] [] (Ac.ml (ty:=Ty.str) (ag:=false) (vv:=(λ_:Unit=> .string (mgd d.parts index (ByteArray.mk #[])))) index (ByteArray.mk #[]) () rfl rfl rfl rfl rfl rfl rfl rfl rfl (λ_ _ f hf=>by cases hf) ET (λ_=>rfl)) ?_
 rintro ⟨⟩
 refine Z1 ?_
 have ⟨p,z,A⟩:=bnd c
 refine Tj0 [] [] [Ch.mp Ty.str false a p.parts,Ch.box N0 153 (cL p a)] [] ?_ ?_
 ·refine Tb z (λo=> ?_) λo=> ?_
  ·refine Z1 ?_
   have ⟨_,B,C⟩:=bnd o
   refine La [0] [] (Ac.mu (ty:=Ty.str) (ag:=false) index data () B (.inl rfl) rfl rfl rfl rfl rfl rfl rfl rfl) λ_=> ?_
   refine Z0 ?_
   refine Lt 1 ?_
   refine Z0 ?_
   cases C
   exact Eg0 [1,0] 0
  refine Z0 ?_
  cases o
  exact Eg0 [0,0] 0
 refine Z1 ?_
 cases A
 exact Eo1 a [1,0] []
theorem qm {t_:bA} {g:aV} {r:Int×bA} (H:iW t_ g=some r):CT G 82 [.pointer (some ⟨N0,0,none⟩),.agg (rR g A2 C2).toArray] [Ch.box N0 155 (dQ t_ N1 A0 C0 A1 C1),Ch.box N1 153 (cL t_.slot M0),Ch.mp Ty.str false M0 t_.slot.parts] [Im.sl aT A0 C0 t_.aJ.rows,Im.sl aH A1 C1 t_.aJ.begun,Im.sl (Ty.int .i64) A2 C2 g.bB] (λh:Option Nat=> .int .i64 r.1) (λh=>[Ch.box N0 155 (dQ r.2 N1 A0 C0 A1 C1),Ch.box N1 153 (cL r.2.slot h),Ch.mp Ty.str false h r.2.slot.parts]) (λh=>[Im.sl aT A0 C0 r.2.aJ.rows,Im.sl aH A1 C1 r.2.aJ.begun]):=by
 delta iW at H
 refine Cf Go.Proofs.Tryz.func82 λK=> ?_
 refine Z1 ?_
 refine Lx λg1=> ?_
 refine Z1 ?_
 refine Zl ?_
 refine Z1 ?_
 refine Tb H (λa=> ?_) λa=> ?_
 ·refine Z1 ?_
  cases a
  exact Eo1 M0 [1,1,1] [0,1]
 refine Z1 ?_
 refine Tb a (λb=> ?_) λb=> ?_
 ·refine Z1 ?_
  cases b
  exact Eo1 M0 [1,1,1] [0,1]
 refine Y1 ?_
 refine Td [] [0,0,0,0] mo ?_
 refine Dq 0 ?_
 refine Db 1 0 ?_
 have ⟨B,c,n⟩:=bnd b
 refine D.addr 2 rfl (bH c) λC F o=> ?_
 subst o
 refine Dy 2 (Yl.ia c rfl rfl rfl rfl rfl rfl) ?_
 refine D.el 2 rfl (aI c).2 ?_
 rintro _
 refine Dy 3 (Yl.ldc 0 0 rfl rfl rfl rfl) ?_
 refine Dq 4 ?_
 refine Dq 5 ?_
 refine Dq 6 ?_
 refine Dq 7 ?_
 refine Db 8 1 ?_
 refine Dq 9 ?_
 refine Dq 10 ?_
 refine Dn ?_
 refine Z0 ?_
 refine Tb n (λd=> ?_) λd=> ?_
 ·refine Z1 ?_
  cases d
  exact Eo1 M0 [1,1,1] [1,2]
 refine Y1 ?_
 have ⟨p,q,s⟩:=bnd d
 refine Tj0 [(25,.bool p)] [0,3] [] [0,1,2,3] ?_ ?_
 ·refine Td [] [0,0,0,0] mo ?_
  refine Dq 0 ?_
  refine Db 1 0 ?_
  have ⟨I,i,t⟩:=bnd q
  refine Dy 2 (Yl.ia i rfl rfl rfl rfl rfl rfl) ?_
  refine D.el 3 rfl (aI i).2 ?_
  rintro _
  refine Dy 3 (Yl.ldc 0 0 rfl rfl rfl rfl) ?_
  refine Dq 4 ?_
  refine Dq 5 ?_
  refine D.cs 31 t rfl (λhc e=> ?_) (λhc e=> ?_)
  ·refine Dq 6 ?_
   refine Db 7 0 ?_
   have ⟨J,j,u⟩:=bnd e
   refine Dy 8 (Yl.ia j rfl rfl rfl rfl rfl rfl) ?_
   refine D.el 4 rfl (aI j).2 ?_
   rintro _
   refine Dy 9 (Yl.ldc 0 0 rfl rfl rfl rfl) ?_
   refine Dq 10 ?_
   refine Dq 11 ?_
   refine Dq 12 ?_
   refine Dq 13 ?_
   refine Db 14 1 ?_
   refine Dq 15 ?_
   refine Dq 16 ?_
   refine Dq 17 ?_
   refine Dn ?_
   cases u
   exact Eg0 [0,0,0,0] 2
  refine Ds 6 ?_
  refine Ds 7 ?_
  refine Ds 8 ?_
  refine Ds 9 ?_
  refine Ds 10 ?_
  refine Ds 11 ?_
  refine Ds 12 ?_
  refine Ds 13 ?_
  refine Ds 14 ?_
  refine Ds 15 ?_
  refine Dq 16 ?_
  refine Dq 17 ?_
  refine Dn ?_
  cases e
  exact Eg0 [0,0,0,0] 1
 refine Tb s (λf=> ?_) λf=> ?_
 ·refine Z1 ?_
  cases f
  exact Eo1 M0 [1,1,1] [1,2]
 refine Y1 ?_
 refine Td [] [0,0] mo ?_
 refine Dq 0 ?_
 refine Dq 1 ?_
 refine Dq 2 ?_
 refine Db 3 1 ?_
 refine Dq 4 ?_
 refine Db 5 0 ?_
 have ⟨M,k,v⟩:=bnd f
 refine Dy 6 (Yl.ia k rfl rfl rfl rfl rfl rfl) ?_
 refine D.el 3 rfl (aI k).2 ?_
 rintro _
 refine Dy 7 (Yl.ldc 0 0 rfl rfl rfl rfl) ?_
 refine Dq 8 ?_
 refine Db 9 0 ?_
 have ⟨N,l,w⟩:=bnd v
 refine Dy 10 (Yl.ia l rfl rfl rfl rfl rfl rfl) ?_
 refine D.el 4 rfl (aI l).2 ?_
 rintro _
 refine Dy 11 (Yl.ldc 0 0 rfl rfl rfl rfl) ?_
 refine Dq 12 ?_
 refine Db 13 0 ?_
 have ⟨O,m,x⟩:=bnd w
 refine Dy 14 (Yl.ia m rfl rfl rfl rfl rfl rfl) ?_
 refine D.el 5 rfl (aI m).2 ?_
 rintro _
 refine Dy 15 (Yl.ldc 0 0 rfl rfl rfl rfl) ?_
 refine Dq 16 ?_
 refine Db 17 0 ?_
 have ⟨P,y,z⟩:=bnd x
 refine Dk [0,0] [] (td y) λA=> ?_
 refine Dq 19 ?_
 refine Dn ?_
 refine Z0 ?_
 cases z
 exact Eo1 A [1,1,1] [4,5]
theorem nt (g:Nat) (u:Bool) (v:Value):CT G 184 [.pointer (some ⟨g,0,none⟩)] [Ch.box g 240 [.pointer (vX u g),v]] [] (λ_:Unit=> .tuple #[]) (λ_=>[Ch.box g 240 [.pointer (vX true g),v]]) (λ_=>[]):=by
 refine Cf Go.Proofs.Tryz.func184 λK=> ?_
 cases u
 ·refine Z1 ?_
  refine Ly (Yl.pz rfl rfl rfl rfl rfl) ?_
  refine Z0 ?_
  refine T.cond rfl (λ_=> ?_) (λh=>nomatch h)
  refine Z0 ?_
  refine Ly (Yl.tou (t:=240) 0 rfl rfl rfl (by kernel_rfl) (by kernel_rfl) rfl rfl rfl) ?_
  refine Ly (Yl.Ia rfl rfl rfl Go.Proofs.Tryz.func211 (by kernel_rfl) (by kernel_rfl) (by kernel_rfl) (by kernel_rfl)) ?_
  refine Ly (Yl.fru (u:=240) 0 rfl rfl rfl (by kernel_rfl) (by kernel_rfl) rfl (by kernel_rfl)) ?_
  refine Z0 ?_
  refine Lt 0 ?_
  refine Z0 ?_
  refine E.off ?_
  exact Eo () [0] [] .nil
 refine Z1 ?_
 refine Ly (Yl.pn rfl rfl rfl rfl rfl rfl) ?_
 refine Z0 ?_
 refine T.cond rfl (λh=>nomatch h) (λ_=> ?_)
 refine Z1 ?_
 refine Ly (Yl.ps rfl rfl rfl rfl rfl rfl) ?_
 refine Z0 ?_
 refine T.cond rfl (λh=>nomatch h) (λ_=> ?_)
 refine Z0 ?_
 refine E.off ?_
 exact Eo () [0] [] .nil
theorem mS {b:cO} {s_:ByteArray} (g_0:Nat) (a_0_0:Option Addr) (c_0_0:Nat) {r:cO} (H:dT b s_=some r):CT G 146 [.pointer (some ⟨g_0,0,none⟩),.string s_] [Ch.box g_0 240 [.pointer (vX b.addr g_0),.slice a_0_0 b.buf.length c_0_0],Ch.arr (Ty.int .u8) 5 a_0_0 c_0_0 b.buf] [] (λh:(Option Addr×Nat)=> .tuple #[.int .i64 (s_.size:Int),.nilIface]) (λh=>[Ch.box g_0 240 [.pointer (vX r.addr g_0),.slice h.1 r.buf.length h.2],Ch.arr (Ty.int .u8) 5 h.1 h.2 r.buf]) (λh=>[]):=by
  delta dT at H
  refine Cf Go.Proofs.Tryz.func146 λK=> ?_
  refine Z2 ?_
  refine Lk [0] [] (nt g_0 b.addr _) λ⟨⟩=> ?_
  refine Z1 ?_
  have ⟨_,h1,H2⟩:=bnd H
  refine La [1] [] (Ac.aps h1 rfl rfl rfl rfl rfl rfl rfl rfl rfl Gq) λ⟨a,c⟩=> ?_
  refine Z0 ?_
  refine Lt 1 ?_
  refine Z1 ?_
  cases H2
  exact Eo (a,c) [0,0] [] (.tmp rfl (.tmp rfl .nil))
theorem od {b:cO} (g_0:Nat) (a_0_0:Option Addr) (c_0_0:Nat) {r:ByteArray} (H:iM b=some r):CT G 147 [.pointer (some ⟨g_0,0,none⟩)] [Ch.box g_0 240 [.pointer (vX b.addr g_0),.slice a_0_0 b.buf.length c_0_0],Ch.arr (Ty.int .u8) 5 a_0_0 c_0_0 b.buf] [] (λh:Unit=> .string r) (λh=>[]) (λh=>[]):=by
  delta iM at H
  refine Cf Go.Proofs.Tryz.func147 λK=> ?_
  refine Y2 ?_
  refine Td [] [0] mo ?_
  refine Dq 0 ?_
  refine Dq 1 ?_
  refine Dq 2 ?_
  refine Db 3 0 ?_
  refine Dq 5 ?_
  refine Dq 6 ?_
  refine Dq 7 ?_
  refine Db 8 0 ?_
  refine Dq 9 ?_
  refine Da [0] [] rfl rfl (Ac.usd (e:=5) rfl rfl (by kernel_rfl)) λp=> ?_
  refine Da [0] [] rfl rfl (Ac.ust (T:=5) rfl rfl rfl (by kernel_rfl) (by kernel_rfl)) λ_=> ?_
  refine Dq 11 ?_
  refine Dn ?_
  refine Z0 ?_
  cases H
  exact Eo1 () [] []
theorem qQ {s_:bV} {r:ByteArray×Bool} (H:fI s_=some r):CT G 83 [.pointer (some ⟨N0,0,none⟩)] [Ch.box N0 153 (cL s_ M0),Ch.mp Ty.str false M0 s_.parts] [] (λ_:Unit=> .tuple #[.string r.1,.bool r.2]) (λh=>[Ch.box N0 153 (cL s_ M0),Ch.mp Ty.str false M0 s_.parts]) (λh=>[]):=by
 delta fI at H
 refine Cf Go.Proofs.Tryz.func83 λK=> ?_
 refine T.xY ?_
 refine Z1 ?_
 refine Lx λg1=> ?_
 refine Y2 ?_
 have ⟨e7,H8,H9⟩:=bnd H
 refine T.CA (η:=Unit×Unit) (λh=>True) (λh=>[]) (λh=>[(1,.pointer (some ⟨g1,0,none⟩)),(22,.bool e7)]) (λh=>[Ch.box g1 150 [.pointer (some ⟨N0,0,none⟩)],Ch.dfs [],Ch.box N0 153 (cL s_ M0),Ch.mp Ty.str false M0 s_.parts]) (λh=>[]) ?_ ?_
 ·refine Td [] [0,0,0,0] mo ?_
  refine Db 0 0 ?_
  refine Dq 1 ?_
  refine Dq 2 ?_
  refine Db 3 2 ?_
  refine Dq 4 ?_
  refine Dq 5 ?_
  refine D.cs 11 H8 rfl (λhc e=> ?_) (λhc e=> ?_)
  ·refine Ds 6 ?_
   refine Ds 7 ?_
   refine Ds 8 ?_
   refine Ds 9 ?_
   refine Ds 10 ?_
   refine Ds 11 ?_
   refine Ds 12 ?_
   refine Ds 13 ?_
   refine Ds 14 ?_
   refine Ds 15 ?_
   refine Dq 16 ?_
   refine Dn ?_
   cases e
   exact E.tq ((),()) [0,0,0,0] [] trivial rfl ⟨rfl,rfl,trivial⟩ rfl rfl
  refine Db 6 0 ?_
  refine Dq 7 ?_
  refine Dq 8 ?_
  refine Db 9 2 ?_
  refine Db 11 0 ?_
  refine Dq 12 ?_
  refine Dq 13 ?_
  refine Db 14 2 ?_
  refine Dy 10 (Yl.mn 3 rfl rfl rfl rfl rfl) ?_
  refine Dq 15 ?_
  refine Dq 16 ?_
  refine Dn ?_
  cases e
  exact E.tq ((),()) [0,0,0,0] [] trivial rfl ⟨rfl,rfl,trivial⟩ rfl rfl
 rintro ⟨_,⟨⟩⟩ _
 refine Tb H9 (λg=> ?_) λg=> ?_
 ·refine Z1 ?_
  cases g
  exact E.zr () 1 [1,1] [] rfl (.tmp rfl (.tmp rfl .nil)) rfl rfl rfl
 refine Z1 ?_
 refine Ll λd=> ?_
 refine Z2 ?_
 refine Yl0 ?_
 refine T.gK (Ty.int .u8) 5 ?_
 have ⟨k,l,m⟩:=bnd g
 refine T.rf3 (σ:=cO) (η:=(Option Addr×Nat)) (X:=Int×Bool) (θ:=Unit) (τ:=(Option Addr×Nat)) (s1:=k) (hx:=λx=>x) (λx t=>[.int .i64 x.1,.bool x.2]) (λx t=>[]) (λ_=>none) [Ch.box N0 153 (cL s_ M0),Ch.mp Ty.str false M0 s_.parts] (λa h=>(λb c=>[Ch.arr (Ty.int .u8) 5 b c a.buf,Ch.box d 240 [.pointer (vX a.addr d),.slice b a.buf.length c],Ch.box g1 150 [.pointer (some ⟨N0,0,none⟩)]]) h.1 h.2) (λa h=>(λb c=>[]) h.1 h.2) 3 [0,0,0,0,0] [] [] rfl rfl (λ_ _=>rfl) rfl (λyl C hY=>(nV N0 M0 hY (none,0) l:_)) (λ_ _ _ _=>rfl) rfl rfl rfl rfl rfl ?_ rfl ?_
 ·rintro yl K2 a ⟨b,c⟩ i ⟨⟩ w n
  refine Z0 ?_
  refine E.begin λK3=> ?_
  refine Zl ?_
  refine La [4] [] (Ac.ml1 (ty:=Ty.str) (ag:=false) (vv:=(λ_:Unit=> .string (mgd s_.parts i.1 (ByteArray.mk #[])))) i.1 (ByteArray.mk #[]) () rfl rfl rfl rfl rfl rfl rfl rfl rfl (λ_ _ f hf=>by cases hf) ET (λ_=>rfl)) ?_
  rintro ⟨⟩
  have ⟨y,o,p⟩:=bnd n
  refine Lk [2,1] [] (mS d b c o) λ⟨q,s⟩=> ?_
  refine Z0 ?_
  cases p
  exact E.on (q,s) [1,0,1,1,0] [] rfl rfl rfl rfl
 rintro j z
 refine Z1 ?_
 have ⟨A,u,v⟩:=bnd m
 refine Lk [2,1] [] (od d j.1 j.2 u) λ⟨⟩=> ?_
 refine Z0 ?_
 cases v
 exact E.zr () 0 [1,1] [] rfl (.tmp rfl (.tmp rfl .nil)) rfl rfl rfl
theorem qn {s_:bV} {r:bV} (H:iV s_=some r):CT G 84 [.pointer (some ⟨N0,0,none⟩)] [Ch.box N0 153 (cL s_ M0),Ch.mp Ty.str false M0 s_.parts] [] (λh:Option Nat=> .tuple #[]) (λh=>[Ch.box N0 153 (cL r h),Ch.mp Ty.str false h r.parts]) (λh=>[]):=by
 delta iV at H
 refine Cf Go.Proofs.Tryz.func84 λK=> ?_
 refine Z0 ?_
 refine Lt 0 ?_
 refine Ln (E.off ?_)
 refine E.mp0 Ty.str false ?_
 cases H
 exact Eo none [1,0] [] .nil
theorem nZ {s_:aS} {r:Bool} (H:fW s_=some r):CT G 185 [.agg (qi s_ A0 C0 A1 C1).toArray] [] [Im.sl aT A0 C0 s_.rows,Im.sl aH A1 C1 s_.begun] (λ_:Unit=> .bool r) (λh=>[]) (λh=>[]):=by
 delta fW at H
 refine Cf Go.Proofs.Tryz.func185 λK=> ?_
 refine Z1 ?_
 refine Lx λg1=> ?_
 refine Y1 ?_
 have ⟨k,l,m⟩:=bnd H
 refine Tj0 [(2,.bool k)] [] [] [0] ?_ ?_
 ·refine Z0 ?_
  refine Lw 6 l (λa=> ?_) λa=> ?_
  ·refine Z0 ?_
   refine Lw 11 a (λb=> ?_) λb=> ?_
   ·refine Z0 ?_
    refine Lw 16 b (λc=> ?_) λc=> ?_
    ·refine Z0 ?_
     refine Lw 21 c (λd=> ?_) λd=> ?_
     ·refine Z0 ?_
      refine Lw 26 d (λe=> ?_) λe=> ?_
      ·refine Z0 ?_
       refine Lw 31 e (λf=> ?_) λf=> ?_
       ·refine Z0 ?_
        refine Lw 37 f (λg=> ?_) λg=> ?_
        ·refine Z0 ?_
         refine Lw 42 g (λi=> ?_) λi=> ?_
         ·refine Z0 ?_
          refine Lw 47 i (λj=> ?_) λj=> ?_
          ·refine Z0 ?_
           cases j
           exact Eg0 [0] 0
          refine Z0 ?_
          cases j
          exact Eg0 [0] 0
         refine Z0 ?_
         cases i
         exact Eg0 [0] 0
        refine Z0 ?_
        cases g
        exact Eg0 [0] 0
       refine Z0 ?_
       cases f
       exact Eg0 [0] 0
      refine Z0 ?_
      cases e
      exact Eg0 [0] 0
     refine Z0 ?_
     cases d
     exact Eg0 [0] 0
    refine Z0 ?_
    cases c
    exact Eg0 [0] 0
   refine Z0 ?_
   cases b
   exact Eg0 [0] 0
  refine Z0 ?_
  cases a
  exact Eg0 [0] 0
 refine Z0 ?_
 cases m
 exact Eo1 () [] []
theorem fT {n_:Int} {lo:Int} {hi:Int} {r:Bool} (H:dR n_ lo hi=some r):CT G 212 [.int .i64 n_,.int .i64 lo,.int .i64 hi] [] [] (λ_:Unit=> .bool r) (λh=>[]) (λh=>[]):=by
 delta dR at H
 refine Cf Go.Proofs.Tryz.func212 λK=> ?_
 refine Y2 ?_
 have ⟨e4,H5,H6⟩:=bnd H
 refine Tj0 [(6,.bool e4)] [] [] [] ?_ ?_
 ·refine Z0 ?_
  refine Lw 10 H5 (λH7=> ?_) λH7=> ?_
  ·refine Z0 ?_
   cases H7
   exact Eg0 [] 0
  refine Z0 ?_
  cases H7
  exact Eg0 [] 0
 refine Z0 ?_
 cases H6
 exact Eo1 () [] []
theorem sj {s_:aS} {r:Bool} (H:iB s_=some r):CT G 186 [.agg (qi s_ A0 C0 A1 C1).toArray] [] [Im.sl aT A0 C0 s_.rows,Im.sl aH A1 C1 s_.begun] (λ_:Unit=> .bool r) (λh=>[]) (λh=>[]):=by
 delta iB at H
 refine Cf Go.Proofs.Tryz.func186 λK=> ?_
 refine Z1 ?_
 refine Lx λg1=> ?_
 refine Y1 ?_
 have ⟨k,l,m⟩:=bnd H
 refine Tj0 [(2,.bool k)] [] [] [0] ?_ ?_
 ·refine Z0 ?_
  have ⟨C,n,o⟩:=bnd l
  refine Lk [] [] (fT n) λ⟨⟩=> ?_
  refine Z0 ?_
  refine Lw 6 o (λa=> ?_) λa=> ?_
  ·refine Z0 ?_
   have ⟨F,p,q⟩:=bnd a
   refine Lk [] [] (fT p) λ⟨⟩=> ?_
   refine Z0 ?_
   refine Lw 11 q (λb=> ?_) λb=> ?_
   ·refine Z0 ?_
    have ⟨I,s,t⟩:=bnd b
    refine Lk [] [] (fT s) λ⟨⟩=> ?_
    refine Z0 ?_
    refine Lw 16 t (λc=> ?_) λc=> ?_
    ·refine Z0 ?_
     have ⟨J,u,v⟩:=bnd c
     refine Lk [] [] (fT u) λ⟨⟩=> ?_
     refine Z0 ?_
     refine Lw 24 v (λd=> ?_) λd=> ?_
     ·refine Z0 ?_
      have ⟨M,w,x⟩:=bnd d
      refine Lk [] [] (fT w) λ⟨⟩=> ?_
      refine Z0 ?_
      refine Lw 32 x (λe=> ?_) λe=> ?_
      ·refine Z0 ?_
       refine Lw 40 e (λf=> ?_) λf=> ?_
       ·refine Z0 ?_
        refine Lw 46 f (λg=> ?_) λg=> ?_
        ·refine Z0 ?_
         have ⟨N,y,z⟩:=bnd g
         refine Lk [] [] (fT y) λ⟨⟩=> ?_
         refine Z0 ?_
         refine Lw 51 z (λi=> ?_) λi=> ?_
         ·refine Z0 ?_
          have ⟨O,A,B⟩:=bnd i
          refine Lk [] [] (fT A) λ⟨⟩=> ?_
          refine Z0 ?_
          refine Lw 56 B (λj=> ?_) λj=> ?_
          ·refine Z0 ?_
           cases j
           exact Eg0 [0] 0
          refine Z0 ?_
          cases j
          exact Eg0 [0] 0
         refine Z0 ?_
         cases i
         exact Eg0 [0] 0
        refine Z0 ?_
        cases g
        exact Eg0 [0] 0
       refine Z0 ?_
       cases f
       exact Eg0 [0] 0
      refine Z0 ?_
      cases e
      exact Eg0 [0] 0
     refine Z0 ?_
     cases d
     exact Eg0 [0] 0
    refine Z0 ?_
    cases c
    exact Eg0 [0] 0
   refine Z0 ?_
   cases b
   exact Eg0 [0] 0
  refine Z0 ?_
  cases a
  exact Eg0 [0] 0
 refine Z0 ?_
 cases m
 exact Eo1 () [] []
theorem sn {r_:Int} {bU:Int} {r:Bool} (H:ky r_ bU=some r):CT G 189 [.int .i32 r_,.int .i64 bU] [] [] (λ_:Unit=> .bool r) (λh=>[]) (λh=>[]):=by
 delta ky at H
 refine Cf Go.Proofs.Tryz.func189 λK=> ?_
 refine Y2 ?_
 have ⟨b,c,d⟩:=bnd H
 refine Tj0 [(4,.bool b)] [] [] [] ?_ ?_
 ·refine Z0 ?_
  have ⟨j,e,f⟩:=bnd c
  refine Lk [] [] (fT e) λ⟨⟩=> ?_
  refine Z0 ?_
  refine Lw 8 f (λa=> ?_) λa=> ?_
  ·refine Z0 ?_
   have ⟨k,g,i⟩:=bnd a
   refine Lk [] [] (fT g) λ⟨⟩=> ?_
   refine Z0 ?_
   cases i
   exact Eg0 [] 0
  refine Z0 ?_
  cases a
  exact Eg0 [] 0
 refine Z0 ?_
 cases d
 exact Eo1 () [] []
theorem qo {g:aN} {r:Bool} (H:gW g=some r):CT G 188 [.agg #[.int .i32 g.rune,.int .i64 g.bU]] [] [] (λ_:Unit=> .bool r) (λh=>[]) (λh=>[]):=by
 delta gW at H
 refine Cf Go.Proofs.Tryz.func188 λK=> ?_
 refine Z1 ?_
 refine Lx λg1=> ?_
 refine Z1 ?_
 have ⟨r2,h3,H4⟩:=bnd H
 refine Lk [] [] (sn h3) λ⟨⟩=> ?_
 refine Z0 ?_
 cases H4
 exact Eo1 () [] []
theorem jO {s_:List aN} {r:Int} (H:cU s_=some r):CT G 213 [.slice A0 s_.length C0,.func (.func 188) #[] #[]] [] [Im.sl aH A0 C0 s_] (λ_:Unit=> .int .i64 r) (λh=>[]) (λh=>[]):=by
 delta cU at H
 refine Cf Go.Proofs.Tryz.func213 λK=> ?_
 refine Z3 ?_
 have ⟨a,i,e⟩:=bnd H
 refine Tj (η:=Unit×Unit) (λh=>a = .inl h.1) (λ_=>[]) [] (λ_=>[]) [] (λ_=>[]) ?_ ?_
 ·refine Yl0 ?_
  refine Tq (η:=Unit) (λf h=>[(8,.int .i64 f)]) [0,1,7] (λ_ _=>[]) [] (λ_ _=>[]) () [] [] i ?_
  rintro k_ f ⟨⟩ j k l g
  refine Y2 ?_
  refine Tb k (λb=> ?_) λb=> ?_
  ·refine Z1 ?_
   refine Zl ?_
   refine Z2 ?_
   have ⟨s,c,m⟩:=bnd b
   refine L.addr 0 rfl (bH c) λt u n=> ?_
   subst n
   refine Ly (Yl.ia c rfl rfl rfl rfl rfl rfl) ?_
   refine L.el 0 rfl (aI c).2 ?_
   rintro _
   refine Lc 0 0 ?_
   have ⟨v,o,p⟩:=bnd m
   refine Lk [] [] (qo o) λ⟨⟩=> ?_
   refine Z0 ?_
   refine Tb p (λd=> ?_) λd=> ?_
   ·refine Z1 ?_
    obtain ⟨w,hz,q⟩:=cF d
    subst j
    have hb:=g _ rfl
    subst a
    obtain rfl:=(sm e).symm
    refine Z0 ?_
    cases q
    exact Eo1 () [] []
   refine Z0 ?_
   cases d
   exact Eg (_,()) (l _ rfl) [] [] 1
  refine Z0 ?_
  cases b
  have hb:=g _ rfl
  subst a
  exact Eg (_,()) rfl [] [] 0
 rintro ⟨x,⟨⟩⟩ hy
 subst hy
 refine Z1 ?_
 cases e
 exact Eo1 () [] []
theorem jo {s_:List aN} {r:Bool} (H:cH s_=some r):CT G 187 [.slice A0 s_.length C0,.func (.func 188) #[] #[]] [] [Im.sl aH A0 C0 s_] (λ_:Unit=> .bool r) (λh=>[]) (λh=>[]):=by
 delta cH at H
 refine Cf Go.Proofs.Tryz.func187 λK=> ?_
 refine Z2 ?_
 have ⟨r1,h2,H3⟩:=bnd H
 refine Lk [] [0] (jO h2) λ⟨⟩=> ?_
 refine Z0 ?_
 cases H3
 exact Eo1 () [] []
theorem yV {c:aP} {r:Bool} (H:mD c=some r):CT G 192 [.agg #[.int .i32 c.rune,.int .i64 c.bU,.int .i64 c.part]] [] [] (λ_:Unit=> .bool r) (λh=>[]) (λh=>[]):=by
 delta mD at H
 refine Cf Go.Proofs.Tryz.func192 λK=> ?_
 refine Z1 ?_
 refine Lx λg1=> ?_
 refine Y1 ?_
 have ⟨b,d,e⟩:=bnd H
 refine Tj0 [(2,.bool b)] [] [] [0] ?_ ?_
 ·refine Z0 ?_
  have ⟨k,f,g⟩:=bnd d
  refine Lk [] [] (sn f) λ⟨⟩=> ?_
  refine Z0 ?_
  refine Lw 8 g (λa=> ?_) λa=> ?_
  ·refine Z0 ?_
   have ⟨l,i,j⟩:=bnd a
   refine Lk [] [] (fT i) λ⟨⟩=> ?_
   refine Z0 ?_
   cases j
   exact Eg0 [0] 0
  refine Z0 ?_
  cases a
  exact Eg0 [0] 0
 refine Z0 ?_
 cases e
 exact Eo1 () [] []
theorem qp {c:aP} {r:Bool} (H:gX c=some r):CT G 191 [.agg #[.int .i32 c.rune,.int .i64 c.bU,.int .i64 c.part]] [] [] (λ_:Unit=> .bool r) (λh=>[]) (λh=>[]):=by
 delta gX at H
 refine Cf Go.Proofs.Tryz.func191 λK=> ?_
 refine Z1 ?_
 refine Lx λg1=> ?_
 refine Z1 ?_
 have ⟨r2,h3,H4⟩:=bnd H
 refine Lk [] [] (yV h3) λ⟨⟩=> ?_
 refine Z0 ?_
 cases H4
 exact Eo1 () [] []
theorem jY {s_:List aP} {r:Int} (H:cY s_=some r):CT G 214 [.slice A0 s_.length C0,.func (.func 191) #[] #[]] [] [Im.sl bZ A0 C0 s_] (λ_:Unit=> .int .i64 r) (λh=>[]) (λh=>[]):=by
 delta cY at H
 refine Cf Go.Proofs.Tryz.func214 λK=> ?_
 refine Z3 ?_
 have ⟨a,i,e⟩:=bnd H
 refine Tj (η:=Unit×Unit) (λh=>a = .inl h.1) (λ_=>[]) [] (λ_=>[]) [] (λ_=>[]) ?_ ?_
 ·refine Yl0 ?_
  refine Tq (η:=Unit) (λf h=>[(8,.int .i64 f)]) [0,1,7] (λ_ _=>[]) [] (λ_ _=>[]) () [] [] i ?_
  rintro k_ f ⟨⟩ j k l g
  refine Y2 ?_
  refine Tb k (λb=> ?_) λb=> ?_
  ·refine Z1 ?_
   refine Zl ?_
   refine Z2 ?_
   have ⟨s,c,m⟩:=bnd b
   refine L.addr 0 rfl (bH c) λt u n=> ?_
   subst n
   refine Ly (Yl.ia c rfl rfl rfl rfl rfl rfl) ?_
   refine L.el 0 rfl (aI c).2 ?_
   rintro _
   refine Lc 0 0 ?_
   have ⟨v,o,p⟩:=bnd m
   refine Lk [] [] (qp o) λ⟨⟩=> ?_
   refine Z0 ?_
   refine Tb p (λd=> ?_) λd=> ?_
   ·refine Z1 ?_
    obtain ⟨w,hz,q⟩:=cF d
    subst j
    have hb:=g _ rfl
    subst a
    obtain rfl:=(sm e).symm
    refine Z0 ?_
    cases q
    exact Eo1 () [] []
   refine Z0 ?_
   cases d
   exact Eg (_,()) (l _ rfl) [] [] 1
  refine Z0 ?_
  cases b
  have hb:=g _ rfl
  subst a
  exact Eg (_,()) rfl [] [] 0
 rintro ⟨x,⟨⟩⟩ hy
 subst hy
 refine Z1 ?_
 cases e
 exact Eo1 () [] []
theorem jq {s_:List aP} {r:Bool} (H:cE s_=some r):CT G 190 [.slice A0 s_.length C0,.func (.func 191) #[] #[]] [] [Im.sl bZ A0 C0 s_] (λ_:Unit=> .bool r) (λh=>[]) (λh=>[]):=by
 delta cE at H
 refine Cf Go.Proofs.Tryz.func190 λK=> ?_
 refine Z2 ?_
 have ⟨r1,h2,H3⟩:=bnd H
 refine Lk [] [0] (jY h2) λ⟨⟩=> ?_
 refine Z0 ?_
 cases H3
 exact Eo1 () [] []
theorem n0 {s_:aS} {r:Int} (H:fX s_=some r):CT G 148 [.agg (qi s_ A0 C0 A1 C1).toArray] [] [Im.sl aT A0 C0 s_.rows,Im.sl aH A1 C1 s_.begun] (λ_:Unit=> .int .i64 r) (λh=>[]) (λh=>[]):=by
 delta fX at H
 refine Cf Go.Proofs.Tryz.func148 λK=> ?_
 refine Z1 ?_
 refine Lx λg1=> ?_
 refine Z2 ?_
 have ⟨r2,h3,H4⟩:=bnd H
 refine Lk [] [0,1] (nZ h3) λ⟨⟩=> ?_
 refine Z0 ?_
 refine Tb H4 (λH6=> ?_) λH6=> ?_
 ·refine Z1 ?_
  cases H6
  exact Eo1 () [] []
 refine Y2 ?_
 have ⟨l,m,n⟩:=bnd H6
 refine Tj0 [(14,.bool l)] [1] [] [0] ?_ ?_
 ·refine Z0 ?_
  have ⟨J,o,p⟩:=bnd m
  refine Lk [] [0,1] (sj o) λ⟨⟩=> ?_
  refine Z0 ?_
  refine Lw 10 p (λa=> ?_) λa=> ?_
  ·refine Z0 ?_
   cases a
   exact Eg0 [0] 0
  refine Z0 ?_
  have ⟨M,q,s⟩:=bnd a
  refine Lk [] [1] (jo q) λ⟨⟩=> ?_
  refine Z0 ?_
  cases s
  exact Eg0 [0] 0
 refine Tb n (λb=> ?_) λb=> ?_
 ·refine Z1 ?_
  cases b
  exact Eo1 () [] []
 refine Z2 ?_
 have ⟨c,t,i⟩:=bnd b
 refine Tj (η:=Unit×Unit) (λh=>c = .inl h.1) (λ_=>[]) [] (λ_=>[]) [0] (λ_=>[]) ?_ ?_
 ·refine Yl0 ?_
  refine Tq (η:=Unit) (λj h=>[(18,.int .i64 j)]) [1,16,17] (λ_ _=>[]) [0] (λ_ _=>[]) () [0] [] t ?_
  rintro k_ j ⟨⟩ u v w k
  refine Y2 ?_
  refine Tb v (λd=> ?_) λd=> ?_
  ·refine Z1 ?_
   refine Zl ?_
   refine Z1 ?_
   have ⟨N,e,x⟩:=bnd d
   refine L.addr 0 rfl (bH e) λO P y=> ?_
   subst y
   refine Ly (Yl.ia e rfl rfl rfl rfl rfl rfl) ?_
   refine L.el 0 rfl (aI e).2 ?_
   rintro ⟨Q,R⟩
   refine Lc 0 0 ?_
   refine Ll λS=> ?_
   refine Lt 0 ?_
   refine Y1 ?_
   have ⟨z,A,B⟩:=bnd x
   refine Tj0 [(32,.bool z)] [1,16,17,18] [] [0,1] ?_ ?_
   ·refine Z0 ?_
    refine Lw 28 A (λf=> ?_) λf=> ?_
    ·refine Z0 ?_
     cases f
     exact Eg0 [0,0] 0
    refine Z0 ?_
    have ⟨U,C,F⟩:=bnd f
    refine Lk [] [1] (jq C) λ⟨⟩=> ?_
    refine Z0 ?_
    cases F
    exact Eg0 [0,0] 0
   refine Tb B (λg=> ?_) λg=> ?_
   ·refine Z1 ?_
    obtain ⟨V,hz,I⟩:=cF g
    subst u
    have hb:=k _ rfl
    subst c
    obtain rfl:=(sm i).symm
    refine Z0 ?_
    cases I
    exact Eo1 () [] []
   refine Z0 ?_
   cases g
   exact Eg (_,()) (w _ rfl) [1] [] 2
  refine Z0 ?_
  cases d
  have hb:=k _ rfl
  subst c
  exact Eg (_,()) rfl [0] [] 0
 rintro ⟨W,⟨⟩⟩ hy
 subst hy
 refine Z1 ?_
 cases i
 exact Eo1 () [] []
theorem sq {in_:aK} {r:Int×aK} (H:jA in_=some r):CT G 193 [.pointer (some ⟨N0,0,none⟩)] [Ch.box N0 177 [.string in_.s,.int .i64 in_.e]] [] (λ_:Unit=> .int .i64 r.1) (λh=>[Ch.box N0 177 [.string r.2.s,.int .i64 r.2.e]]) (λh=>[]):=by
 delta jA at H
 refine Cf Go.Proofs.Tryz.func193 λK=> ?_
 refine Z2 ?_
 have ⟨r1,h2,H3⟩:=bnd H
 refine Lk [0] [] (cZ h2) λ⟨⟩=> ?_
 refine Z2 ?_
 refine Tb H3 (λH8=> ?_) λH8=> ?_
 ·refine Z1 ?_
  have ⟨r9,a,b⟩:=bnd H8
  refine Lk [0] [] (eR a) λ⟨⟩=> ?_
  refine Z1 ?_
  cases b
  exact Eo1 () [0] []
 refine Z1 ?_
 cases H8
 exact Eo1 () [0] []
theorem Aq {in_:aK} {left:Int} {r:Int×aP×Bool×aK} (H:l7 in_ left=some r):CT G 215 [.pointer (some ⟨N0,0,none⟩),.int .i64 left] [Ch.box N0 177 [.string in_.s,.int .i64 in_.e]] [] (λ_:Unit=> .tuple #[.int .i64 r.1,.agg #[.int .i32 r.2.1.rune,.int .i64 r.2.1.bU,.int .i64 r.2.1.part],.bool r.2.2.1]) (λh=>[Ch.box N0 177 [.string r.2.2.2.s,.int .i64 r.2.2.2.e]]) (λh=>[]):=by
 delta l7 at H
 refine Cf Go.Proofs.Tryz.func215 λK=> ?_
 refine Z1 ?_
 refine Ll λg1=> ?_
 refine Z1 ?_
 have ⟨r2,h3,H4⟩:=bnd H
 refine Lk [1] [] (cZ h3) λ⟨⟩=> ?_
 refine Y2 ?_
 have ⟨e8,H9,n⟩:=bnd H4
 refine Tj0 [(19,.bool e8)] [0,5,7] [] [0,1] ?_ ?_
 ·refine Z0 ?_
  refine Lw 15 H9 (λd=> ?_) λd=> ?_
  ·refine Z0 ?_
   cases d
   exact Eg0 [0,0] 0
  refine Z0 ?_
  cases d
  exact Eg0 [0,0] 0
 have ⟨l,o,p⟩:=bnd n
 refine Tj0 [] [0,5,7] [Ch.box N0 177 [.string l.s,.int .i64 l.e]] [1] ?_ ?_
 ·refine Tb o (λf=> ?_) λf=> ?_
  ·refine Z0 ?_
   have ⟨V,q,t⟩:=bnd f
   refine Lk [0] [] (eR q) λ⟨⟩=> ?_
   refine Z0 ?_
   cases t
   exact Eg0 [0,0] 0
  refine Z0 ?_
  cases f
  exact Eg0 [0,0] 0
 refine Z1 ?_
 refine Ll λg=> ?_
 refine Lt 0 ?_
 refine Z2 ?_
 have ⟨b,u,v⟩:=bnd p
 refine Tj0 [] [0,5,7,8] [Ch.box g 316 [.int .i64 b.1.e0,.int .i64 b.1.e1,.int .i64 b.1.e2],Ch.box N0 177 [.string b.2.s,.int .i64 b.2.e]] [2] ?_ ?_
 ·refine Yl0 ?_
  refine Tq (η:=Unit) (λa h=>[(24,.int .i64 a.2.2)]) [0,5,7,8,23] (λa h=>[Ch.box g 316 [.int .i64 a.1.e0,.int .i64 a.1.e1,.int .i64 a.1.e2],Ch.box N0 177 [.string a.2.1.s,.int .i64 a.2.1.e]]) [2] (λ_ _=>[]) () [0,0,0] [] u ?_
  rintro k_ a ⟨⟩ W w x y
  refine Y2 ?_
  refine Tb w (λi=> ?_) λi=> ?_
  ·refine Y1 ?_
   have ⟨c,z,A⟩:=bnd i
   refine Tj0 [] [0,5,7,8,23,24] [Ch.box g 316 [.int .i64 c.1.e0,.int .i64 c.1.e1,.int .i64 c.1.e2],Ch.box N0 177 [.string c.2.s,.int .i64 c.2.e]] [2] ?_ ?_
   ·refine Zl ?_
    refine Z1 ?_
    have ⟨X,B,C⟩:=bnd z
    refine Ly (Yl.xa B rfl rfl rfl rfl rfl rfl rfl rfl rfl) ?_
    refine Z1 ?_
    have ⟨Y,F,I⟩:=bnd C
    refine Lk [1] [] (cZ F) λ⟨⟩=> ?_
    have ⟨_,m,J⟩:=bnd I
    refine Ly (Yl.xp m rfl rfl rfl rfl rfl rfl rfl) ?_
    refine La [1] [] (Ac.sx m [a.1.e0,a.1.e1,a.1.e2] rfl rfl rfl rfl rfl rfl rfl rfl) λ_=> ?_
    refine Z1 ?_
    have ⟨_,M,N⟩:=bnd J
    refine Ly (Yl.xp M rfl rfl rfl rfl rfl rfl rfl) ?_
    have ⟨Z,O,P⟩:=bnd N
    refine Ly (Yl.xl 0 O rfl rfl rfl rfl rfl rfl) ?_
    refine Z0 ?_
    refine Tb P (λj=> ?_) λj=> ?_
    ·refine Z0 ?_
     have ⟨aa,Q,R⟩:=bnd j
     refine Lk [1] [] (eR Q) λ⟨⟩=> ?_
     refine Z0 ?_
     cases R
     exact Eg0 [1,0,0] 0
    refine Z0 ?_
    cases j
    exact Eg0 [0,0,0] 0
   refine Z0 ?_
   cases A
   exact Eg (_,()) (x _ rfl) [0,0,0] [] 0
  refine Z0 ?_
  cases i
  have hb:=y _ rfl
  subst b
  exact Eg0 [0,0,0] 0
 refine Z2 ?_
 have ⟨ab,S,U⟩:=bnd v
 refine Lk [1] [] (lS S) λ⟨⟩=> ?_
 refine Z0 ?_
 refine Tb U (λk=> ?_) λk=> ?_
 ·refine Z1 ?_
  refine Lt 2 ?_
  refine Z0 ?_
  cases k
  exact Eo () [1] [] (.tmp rfl (.cell 0 rfl rfl rfl (.tmp rfl .nil)))
 refine Y1 ?_
 refine Td [10] [0,0,0] mo ?_
 refine Dq 0 ?_
 refine Dq 1 ?_
 refine Db 2 1 ?_
 refine Dq 3 ?_
 refine Dq 4 ?_
 refine Db 5 1 ?_
 refine Dq 6 ?_
 refine Db 7 1 ?_
 refine Dq 8 ?_
 refine Dq 9 ?_
 refine Dt 2 ?_
 refine Dq 11 ?_
 refine Dn ?_
 refine Z0 ?_
 cases k
 exact Eo () [1] [] (.tmp rfl (.cell 0 rfl rfl rfl (.tmp rfl .nil)))
theorem xD {x_:Int} {y:Int} {r:Int×Int} (H:nh x_ y=some r):CT G 224 [.int .u64 x_,.int .u64 y] [] [] (λ_:Unit=> .tuple #[.int .u64 r.1,.int .u64 r.2]) (λh=>[]) (λh=>[]):=by
 delta nh at H
 refine Cf Go.Proofs.Tryz.func224 λK=> ?_
 refine Z3 ?_
 refine Z3 ?_
 refine Z3 ?_
 refine Z3 ?_
 cases H
 exact Eo () [] [] (.tmp rfl (.tmp rfl .nil))
theorem Ar {x_:Int} {y:Int} {r:Int×Int} (H:ny x_ y=some r):CT G 220 [.int .u64 x_,.int .u64 y] [] [] (λ_:Unit=> .tuple #[.int .u64 r.1,.int .u64 r.2]) (λh=>[]) (λh=>[]):=by
 delta ny at H
 refine Cf Go.Proofs.Tryz.func220 λK=> ?_
 refine Y2 ?_
 refine T.cond rfl (λh=>nomatch h) (λ_=> ?_)
 refine Z1 ?_
 have ⟨r1,h2,H3⟩:=bnd H
 refine Lk [] [] (xD h2) λ⟨⟩=> ?_
 refine Z1 ?_
 cases H3
 exact Eo () [] [] (.tmp rfl (.tmp rfl .nil))
theorem oe {x_:List aP} {count:Int} {r:(List aP)} (H:dZ x_ count=some r):CT G 216 [.slice A0 x_.length C0,.int .i64 count] [] [Im.sl bZ A0 C0 x_] (λh:(Option Addr×Nat)=> .slice h.1 r.length h.2) (λh=>[Ch.arr bZ 222 h.1 h.2 r]) (λh=>[]):=by
 delta dZ at H
 refine Cf Go.Proofs.Tryz.func216 λK=> ?_
 refine Z3 ?_
 refine Tb H (λH2=> ?_) λH2=> ?_
 ·cases H2
 refine Z1 ?_
 have ⟨r3,h4,H5⟩:=bnd H2
 refine Lk [] [] (Ar h4) λ⟨⟩=> ?_
 refine Y2 ?_
 have ⟨e9,m,n⟩:=bnd H5
 refine Tj0 [(26,.bool e9)] [0,6] [] [] ?_ ?_
 ·refine Z0 ?_
  refine Lw 23 m (λg=> ?_) λg=> ?_
  ·refine Z0 ?_
   cases g
   exact Eg0 [] 0
  refine Z0 ?_
  cases g
  exact Eg0 [] 0
 refine Tb n (λi=> ?_) λi=> ?_
 ·cases i
 refine Z1 ?_
 have ⟨_,o,p⟩:=bnd i
 refine La [] [] (Ac.mk (ty:=bZ) (aP.mk 0 0 0) () o (λ_ _ f hf=>by cases hf) rfl rfl rfl rfl rfl rfl rfl) λq=> ?_
 refine Z1 ?_
 refine La [0] [0] (Ac.cp (ty:=bZ) rfl rfl rfl rfl rfl rfl rfl) λ_=> ?_
 refine L.sl 7 (k':=(cpy (List.replicate (IntKind.i64.wrap r3.2).toNat (aP.mk 0 0 0)) x_).length) (qD ..) rfl ?_
 refine Y1 ?_
 have ⟨j,s,t⟩:=bnd p
 refine Tjh (η:=(Option Addr×Nat)) (λh=>(λd e=>[(7,.slice d j.length e)]) h.1 h.2) [] (λh=>(λd e=>[Ch.arr bZ 222 d e j]) h.1 h.2) [] (λ_=>[]) ?_ ?_
 ·refine Yl0 ?_
  refine Tq (η:=(Option Addr×Nat)) (λa h=>(λb c=>[(7,.slice b a.1.length c),(8,.int .i64 a.2)]) h.1 h.2) [] (λa h=>(λb c=>[Ch.arr bZ 222 b c a.1]) h.1 h.2) [] (λ_ _=>[]) ((some ⟨q,0,none⟩),(IntKind.i64.wrap r3.2).toNat) [0] [] s ?_
  rintro k_ a ⟨b,c⟩ C u v w
  refine Z2 ?_
  refine Tb u (λk=> ?_) λk=> ?_
  ·refine Yl0 ?_
   refine Td [] [] mo ?_
   refine Dq 0 ?_
   refine Dq 1 ?_
   refine Dq 2 ?_
   have ⟨_,l,x⟩:=bnd k
   refine D.cap 0 rfl λy=> ?_
   refine Dy 3 (Yl.sv (ty:=bZ) y l rfl rfl rfl rfl rfl rfl rfl rfl) ?_
   refine Dq 4 ?_
   refine Dq 5 ?_
   have ⟨_,z,A⟩:=bnd x
   refine D.cap 0 rfl λB=> ?_
   refine Dy 6 (Yl.sv (ty:=bZ) B z rfl rfl rfl rfl rfl rfl rfl rfl) ?_
   refine Da [0] [] rfl rfl (Ac.cps (ty:=bZ) l rfl rfl rfl rfl rfl rfl rfl) λ_=> ?_
   refine Dq 8 ?_
   refine Dq 9 ?_
   refine Dn ?_
   refine E.sl 7 (k':=(vn a.1 a.2.toNat).length) (Cx l) rfl ?_
   refine Z0 ?_
   cases A
   exact Eg (_,(b,c)) (v _ rfl) [0] [] 0
  refine Z0 ?_
  cases k
  have hb:=w _ rfl
  subst j
  exact Eg (b,c) trivial [0] [] 0
 rintro ⟨d,e⟩
 refine Z1 ?_
 cases t
 exact Eo1 (d,e) [0] []
theorem vf {in_:aK} {w:Int} {r:aY×aK} (H:je in_ w=some r):CT G 194 [.pointer (some ⟨N0,0,none⟩),.int .i64 w] [Ch.box N0 177 [.string in_.s,.int .i64 in_.e]] [] (λh:(Option Addr×Nat)=> .agg #[.slice h.1 r.1.cells.length h.2,.bool r.1.wrapped]) (λh=>[Ch.box N0 177 [.string r.2.s,.int .i64 r.2.e]]) (λh=>[Im.sl bZ h.1 h.2 r.1.cells]):=by
 delta je at H
 refine Cf Go.Proofs.Tryz.func194 λK=> ?_
 refine Z1 ?_
 refine Ll λg1=> ?_
 refine Z1 ?_
 have ⟨r2,h3,H4⟩:=bnd H
 refine Lk [1] [] (cZ h3) λ⟨⟩=> ?_
 refine Z2 ?_
 have ⟨x,y,z⟩:=bnd H4
 refine Tj0 [] [0,1,4,5] [Ch.box N0 177 [.string x.s,.int .i64 x.e]] [1] ?_ ?_
 ·refine Tb y (λj=> ?_) λj=> ?_
  ·refine Z0 ?_
   have ⟨al,B,C⟩:=bnd j
   refine Lk [0] [] (eR B) λ⟨⟩=> ?_
   refine Z0 ?_
   cases C
   exact Eg0 [0,0] 0
  refine Z0 ?_
  cases j
  exact Eg0 [0,0] 0
 refine Y2 ?_
 have ⟨d,F,I⟩:=bnd z
 refine Tjh (η:=(Option Addr×Nat)) (λh=>(λg i=>[(6,.slice g d.1.length i)]) h.1 h.2) [0,4,5] (λh=>(λg i=>[Ch.arr bZ 222 g i d.1,Ch.box N0 177 [.string d.2.s,.int .i64 d.2.e]]) h.1 h.2) [1] (λ_=>[]) ?_ ?_
 ·refine Yl0 ?_
  refine T.gK bZ 222 ?_
  refine Tq (η:=(Option Addr×Nat)) (λa h=>(λb c=>[(6,.slice b a.2.length c)]) h.1 h.2) [0,1,4,5] (λa h=>(λb c=>[Ch.arr bZ 222 b c a.2,Ch.box N0 177 [.string a.1.s,.int .i64 a.1.e]]) h.1 h.2) [2] (λ_ _=>[]) (none,0) [0,0,0] [] F ?_
  rintro k_ a ⟨b,c⟩ am J k M
  refine Y2 ?_
  have ⟨N,O,P⟩:=bnd J
  refine Tj0 [(24,.bool N)] [0,1,4,5,6] [] [1,2,0] ?_ ?_
  ·refine Z0 ?_
   refine Lw 20 O (λl=> ?_) λl=> ?_
   ·refine Z0 ?_
    have ⟨an,Q,R⟩:=bnd l
    refine Lk [1] [] (lS Q) λ⟨⟩=> ?_
    refine Z0 ?_
    cases R
    exact Eg0 [0,1,0] 0
   refine Z0 ?_
   cases l
   exact Eg0 [1,1,0] 0
  refine Tb P (λm=> ?_) λm=> ?_
  ·refine Zl ?_
   refine Z1 ?_
   have ⟨S,U,V⟩:=bnd m
   refine Lk [0] [] (Aq U) λ⟨⟩=> ?_
   refine Z0 ?_
   refine Ll λao=> ?_
   refine Z0 ?_
   refine Lt 0 ?_
   refine Zl ?_
   refine Z1 ?_
   refine Tb V (λn=> ?_) λn=> ?_
   ·refine Z0 ?_
    cases n
    exact Eg (_,(b,c)) (k _ rfl) [3,1,1] [] 0
   refine Y1 ?_
   have ⟨W,X,Y⟩:=bnd n
   refine Tj0 [(44,.bool W)] [0,1,4,5,6,7,8] [] [0,1,2,3] ?_ ?_
   ·refine Td [] [0,0,0,0] mo ?_
    refine Dq 0 ?_
    refine Dq 1 ?_
    refine Dq 2 ?_
    refine Dq 3 ?_
    refine D.cs 48 X rfl (λhc o=> ?_) (λhc o=> ?_)
    ·refine Dq 4 ?_
     refine Dq 5 ?_
     refine Dq 6 ?_
     refine Dq 7 ?_
     have ⟨p,q,Z⟩:=bnd o
     refine D.iZ 3 rfl (bH q) λaq aa=> ?_
     subst aa
     refine Dy 8 (Yl.ia q rfl rfl rfl rfl rfl rfl) ?_
     refine Dy 9 (Yl.lo (v:= .agg #[.int .i32 p.rune,.int .i64 p.bU,.int .i64 p.part]) 3 ((IntKind.i64.wrap ((a.2.length:Int) - 1)).toNat) 0 (aI q).2 rfl rfl rfl rfl (λ_=>rfl)) ?_
     refine Db 10 0 ?_
     refine Dq 11 ?_
     refine Dq 12 ?_
     refine Dq 13 ?_
     refine Dn ?_
     cases Z
     exact Eg0 [0,0,0,0] 0
    refine Ds 4 ?_
    refine Ds 5 ?_
    refine Ds 6 ?_
    refine Ds 7 ?_
    refine Ds 8 ?_
    refine Ds 9 ?_
    refine Ds 10 ?_
    refine Ds 11 ?_
    refine Dq 12 ?_
    refine Dq 13 ?_
    refine Dn ?_
    cases o
    exact Eg0 [0,0,0,0] 0
   refine Tb Y (λt=> ?_) λt=> ?_
   ·refine Z0 ?_
    have ⟨ar,ab,ac⟩:=bnd t
    refine Lk [1] [] (eR ab) λ⟨⟩=> ?_
    refine Z0 ?_
    cases ac
    exact Eg (_,(b,c)) (k _ rfl) [3,0,1] [] 0
   refine Z0 ?_
   refine La [] [] (Ac.bs (ty:=bZ) (xs:=[S.2.1]) (.cons () [] rfl .nil) rfl rfl rfl rfl rfl rfl rfl) λau=> ?_
   refine Z0 ?_
   refine L.frz 0 rfl ?_
   have ⟨av,ad,ae⟩:=bnd t
   refine Lk [] [0] (oe ad) λ⟨aw,ax⟩=> ?_
   refine L.frz 0 rfl ?_
   have ⟨_,af,ag⟩:=bnd ae
   refine La [3] [0] (Ac.ap (ty:=bZ) af rfl rfl rfl rfl rfl rfl rfl) ?_
   rintro ⟨ah,ai⟩
   refine Z0 ?_
   cases ag
   exact Eg (_,(ah,ai)) (k _ rfl) [0,1,1] [] 2
  refine Z0 ?_
  cases m
  have hb:=M _ rfl
  subst d
  exact Eg (b,c) trivial [2,0,0] [] 0
 rintro ⟨g,i⟩
 refine Z2 ?_
 have ⟨ay,aj,ak⟩:=bnd I
 refine Lk [1] [] (lS aj) λ⟨⟩=> ?_
 refine Z0 ?_
 refine Tb ak (λu=> ?_) λu=> ?_
 ·refine Z1 ?_
  refine Lt 2 ?_
  refine Z0 ?_
  refine E.dA [Im.sl bZ none 0 []] (λA w _ _ f hf=>by rw [List.mem_singleton.1 hf]; exact Im.bW A w) ?_
  cases u
  exact Eo (none,0) [1] [0] (.cell 0 rfl rfl rfl .nil)
 refine Z1 ?_
 refine Lt 2 ?_
 refine Z0 ?_
 refine E.frz 2 rfl ?_
 cases u
 exact Eo (g,i) [1] [0] (.cell 0 rfl rfl rfl .nil)
theorem xE {s_:ByteArray} {r:bT×Int} (H:lA s_=some r):CT G 149 [.string s_] [] [] (λh:(Option Addr×Nat)×Option Nat=> .tuple #[.agg (yQ r.1 none 0 h.1.1 h.1.2 h.2).toArray,.int .i64 r.2]) (λh=>[Ch.mp aT true h.2 r.1.rows]) (λh=>[Im.sl aT none 0 r.1.to.rows,Im.sl aH h.1.1 h.1.2 r.1.to.begun]):=by
 delta lA at H
 refine Cf Go.Proofs.Tryz.func149 λK=> ?_
 refine Z1 ?_
 refine Ll λg1=> ?_
 refine Z1 ?_
 have ⟨r2,h3,H4⟩:=bnd H
 refine Lk [] [] (ve h3) λg5=> ?_
 refine Z1 ?_
 have ⟨r6,h7,H8⟩:=bnd H4
 refine Lk [0] [] (cZ h7) λ⟨⟩=> ?_
 refine La [] [] (Ac.mkm (ty:=aT) (ag:=true) rfl rfl rfl) λg9=> ?_
 refine Z0 ?_
 refine Ll λn=> ?_
 refine Lt 0 ?_
 refine Z1 ?_
 have ⟨a1,p,q⟩:=bnd H8
 refine Lk [2] [] (cZ p) λ⟨⟩=> ?_
 refine Z0 ?_
 have ⟨a2,t,u⟩:=bnd q
 refine Lk [0] [] (sq t) λ⟨⟩=> ?_
 refine Z0 ?_
 have ⟨a3,v,x⟩:=bnd u
 refine Lk [0] [] (sq v) λ⟨⟩=> ?_
 refine Z0 ?_
 have ⟨a4,y,z⟩:=bnd x
 refine Lk [0] [] (cZ y) λ⟨⟩=> ?_
 refine Z0 ?_
 have ⟨a5,B,C⟩:=bnd z
 refine Lk [0] [] (cZ B) λ⟨⟩=> ?_
 refine Z0 ?_
 have ⟨a6,F,I⟩:=bnd C
 refine Lk [0] [] (qw F) λ⟨⟩=> ?_
 refine Z0 ?_
 have ⟨a7,J,M⟩:=bnd I
 refine Lk [0] [] (cZ J) λ⟨⟩=> ?_
 refine Z0 ?_
 have ⟨a8,N,O⟩:=bnd M
 refine Lk [0] [] (cZ N) λ⟨⟩=> ?_
 refine Z0 ?_
 have ⟨a9,P,Q⟩:=bnd O
 refine Lk [0] [] (tC P) λ⟨d,g⟩=> ?_
 refine Z0 ?_
 refine Lt 2 ?_
 refine Z3 ?_
 have ⟨ba,R,S⟩:=bnd Q
 refine Lk [2] [] (cZ R) λ⟨⟩=> ?_
 refine Z0 ?_
 have ⟨b,U,V⟩:=bnd S
 refine Tjh (η:=Option Nat) (λ_=>[]) [2,4,5] (λh=>(λi=>[Ch.arr aH 149 d g b.2.to.begun,Ch.mp aT true i b.2.rows,Ch.box g5 177 [.string b.1.s,.int .i64 b.1.e],Ch.box n 248 (Bx b.2 d g i)]) h) [4] (λ_=>[]) ?_ ?_
 ·refine Yl0 ?_
  refine Tq (η:=Option Nat) (λa h=>(λc=>[(6,.int .i64 a.2.2.1),(7,.int .i64 a.2.2.2)]) h) [2,4,5] (λa h=>(λc=>[Ch.arr aH 149 d g a.1.to.begun,Ch.mp aT true c a.1.rows,Ch.box g5 177 [.string a.2.1.s,.int .i64 a.2.1.e],Ch.box n 248 (Bx a.1 d g c)]) h) [4] (λ_ _=>[]) (some g9) [2,2,0,0,0] [] U ?_
  rintro k_ a c bb W X Y
  refine Y2 ?_
  have ⟨Z,aa,ac⟩:=bnd W
  refine Tj0 [(43,.bool Z)] [2,4,5,6,7] [] [2,3,4,0,1] ?_ ?_
  ·refine Z0 ?_
   refine Lw 39 aa (λj=> ?_) λj=> ?_
   ·refine Z0 ?_
    have ⟨bc,ad,ae⟩:=bnd j
    refine Lk [2] [] (lS ad) λ⟨⟩=> ?_
    refine Z0 ?_
    cases ae
    exact Eg0 [0,2,2,0,0] 0
   refine Z0 ?_
   cases j
   exact Eg0 [2,2,2,0,0] 0
  refine Tb ac (λk=> ?_) λk=> ?_
  ·refine Z1 ?_
   refine Zl ?_
   refine Z1 ?_
   have ⟨af,ah,ai⟩:=bnd k
   refine Lk [0] [] (cZ ah) λ⟨⟩=> ?_
   refine Y2 ?_
   have ⟨aj,ak,al⟩:=bnd ai
   refine Tj0 [(57,.bool aj)] [2,4,5,7,8] [] [0,1,2,3,4] ?_ ?_
   ·refine Z0 ?_
    refine Lw 51 ak (λl=> ?_) λl=> ?_
    ·refine Z0 ?_
     cases l
     exact Eg0 [0,0,0,0,0] 0
    refine Z0 ?_
    cases l
    exact Eg0 [0,0,0,0,0] 0
   have ⟨o,am,an⟩:=bnd al
   refine Tj0 [] [2,4,5,7,8] [Ch.box g5 177 [.string o.s,.int .i64 o.e]] [1,2,3,4] ?_ ?_
   ·refine Tb am (λm=> ?_) λm=> ?_
    ·refine Z0 ?_
     have ⟨bd,ao,ap⟩:=bnd m
     refine Lk [0] [] (eR ao) λ⟨⟩=> ?_
     refine Z0 ?_
     cases ap
     exact Eg0 [0,0,0,0,0] 0
    refine Z0 ?_
    cases m
    exact Eg0 [0,0,0,0,0] 0
   refine Z1 ?_
   refine Td [] [1,1,1] mo ?_
   refine Dq 0 ?_
   refine Db 1 0 ?_
   refine Dq 2 ?_
   refine Dq 3 ?_
   refine Dq 4 ?_
   refine Dq 5 ?_
   refine Db 6 0 ?_
   have ⟨aq,ar,au⟩:=bnd an
   refine Dk [0] [] (vf ar) λ⟨av,aw⟩=> ?_
   have ⟨_,ax,ay⟩:=bnd au
   refine Da [1] [0] rfl rfl (Ac.mu (ty:=aT) (ag:=true) af.1 aq.1 (av,aw) ax (.inl rfl) rfl rfl rfl rfl rfl rfl rfl rfl) λ_=> ?_
   refine Dn ?_
   refine Z0 ?_
   cases ay
   exact Eg (_,c) (X _ rfl) [2,2,2,0,0] [] 1
  refine Z0 ?_
  cases k
  have hb:=Y _ rfl
  subst b
  exact Eg c trivial [3,3,0,0,0] [] 0
 rintro i
 refine Y1 ?_
 refine Td [3] [0,0,0,0,0] mo ?_
 refine Db 0 3 ?_
 refine Dq 1 ?_
 have ⟨be,az,a0⟩:=bnd V
 refine D.one rfl rfl rfl (Dp.ab [2] [] [1,1,0,0,0] (Ac.call (oY az) rfl rfl rfl rfl) rfl rfl rfl rfl rfl rfl (λ_=>rfl) ?_)
 rintro ⟨⟩
 refine Dt 4 ?_
 refine Dq 4 ?_
 refine Dn ?_
 refine Z0 ?_
 refine E.dA [Im.sl aT none 0 []] (λA w _ _ f hf=>by rw [List.mem_singleton.1 hf]; exact Im.bW A w) ?_
 refine E.frz 1 rfl ?_
 cases a0
 exact Eo ((d,g),i) [1] [1,0] (.cell 0 rfl rfl rfl (.tmp rfl .nil))
theorem yW {l:List aN} {r:ByteArray} (H:mw l=some r):CT G 217 [.slice A0 l.length C0] [] [Im.sl aH A0 C0 l] (λ_:Unit=> .string r) (λh=>[]) (λh=>[]):=by
 delta mw at H
 refine Cf Go.Proofs.Tryz.func217 λK=> ?_
 refine Z2 ?_
 refine Ll λg1=> ?_
 refine Z1 ?_
 refine La [] [] (Ac.bs (ty:=(Ty.int .i64)) (xs:=[(l.length:Int)]) (.cons () [] rfl .nil) rfl rfl rfl rfl rfl rfl rfl) λg2=> ?_
 refine L.gK (Ty.int .u8) 5 ?_
 refine L.frz 1 rfl ?_
 have ⟨r6,h7,H8⟩:=bnd H
 refine Lk [1,0] [0] (gI h7) λ⟨a9,m⟩=> ?_
 refine Z2 ?_
 have ⟨e,n,o⟩:=bnd H8
 refine Tjh (η:=(Option Addr×Nat)) (λ_=>[]) [3] (λh=>(λf g=>[Ch.arr (Ty.int .u8) 5 f g e.b,Ch.box g1 224 [.slice f e.b.length g]]) h.1 h.2) [] (λ_=>[]) ?_ ?_
 ·refine Yl0 ?_
  refine Tq (η:=(Option Addr×Nat)) (λa h=>(λc d=>[(12,.int .i64 a.2)]) h.1 h.2) [3,10,11] (λa h=>(λc d=>[Ch.arr (Ty.int .u8) 5 c d a.1.b,Ch.box g1 224 [.slice c a.1.b.length d]]) h.1 h.2) [] (λ_ _=>[]) (a9,m) [1,0] [] n ?_
  rintro k_ a ⟨c,d⟩ B p q s
  refine Y2 ?_
  refine Tb p (λi=> ?_) λi=> ?_
  ·refine Z1 ?_
   refine Zl ?_
   refine Z1 ?_
   have ⟨k,j,t⟩:=bnd i
   refine L.addr 1 rfl (bH j) λC F u=> ?_
   subst u
   refine Ly (Yl.ia j rfl rfl rfl rfl rfl rfl) ?_
   refine L.el 1 rfl (aI j).2 ?_
   rintro _
   refine Lc 0 0 ?_
   refine Ll λI=> ?_
   refine Lt 0 ?_
   refine Z0 ?_
   refine La [] [] (Ac.bs (ty:=(Ty.int .i64)) (xs:=[(IntKind.i64.wrap k.rune),k.bU]) (.cons () [] rfl (.cons () [] rfl .nil)) rfl rfl rfl rfl rfl rfl rfl) λJ=> ?_
   refine L.frz 0 rfl ?_
   have ⟨M,v,w⟩:=bnd t
   refine Lk [2,1] [0] (gI v) λ⟨x,y⟩=> ?_
   refine Z0 ?_
   cases w
   exact Eg (_,(x,y)) (q _ rfl) [1,0] [] 2
  refine Z0 ?_
  cases i
  have hb:=s _ rfl
  subst e
  exact Eg (c,d) trivial [0,0] [] 0
 rintro ⟨f,g⟩
 refine Z1 ?_
 have ⟨N,z,A⟩:=bnd o
 refine Lk [1,0] [] (kZ z) λ⟨⟩=> ?_
 refine Z0 ?_
 cases A
 exact Eo1 () [] []
theorem As {is:Bool} {r:Int} (H:oR is=some r):CT G 221 [.bool is] [] [] (λ_:Unit=> .int .i64 r) (λh=>[]) (λh=>[]):=by
 delta oR at H
 refine Cf Go.Proofs.Tryz.func221 λK=> ?_
 refine Z3 ?_
 refine Tb H (λH2=> ?_) λH2=> ?_
 ·refine Z1 ?_
  cases H2
  exact Eo1 () [] []
 refine Z1 ?_
 cases H2
 exact Eo1 () [] []
theorem yX {l:List aP} {r:(List aP)} (H:nM l=some r):CT G 222 [.slice A0 l.length C0] [] [Im.sl bZ A0 C0 l] (λh:Nat=> .func (.func 225) #[] #[.pointer (some ⟨h,0,none⟩)]) (λh=>[Ch.box h 142 [.slice A0 r.length C0]]) (λh=>[Im.sl bZ A0 C0 r]):=by
 delta nM at H
 refine Cf Go.Proofs.Tryz.func222 λK=> ?_
 refine Z1 ?_
 refine Lx λg1=> ?_
 refine Z1 ?_
 cases H
 exact Eo1 g1 [0] [0]
theorem vx {σ η:Type} {Y:σ->(Int×aP)->Option (σ×Bool)} {y0:σ} {x1:List aP} {yl:Nat} {C:σ->η->Ch} (hY: ∀ s (h:η) (x:Int×aP) (t:Unit) z,Y s x=some z->YT G yl [.int .i64 x.1,.agg #[.int .i32 x.2.rune,.int .i64 x.2.bU,.int .i64 x.2.part]] [C s h] [] (λ_:η=> .bool z.2) (λh2=>[C z.1 h2]) (λ_=>[])) (h0:η) (g_1:Nat) (a_1_0:Option Addr) (c_1_0:Nat) {r:σ×(List aP)} (H:mj Y y0 x1=some r):CT G 225 [.func (.yield yl) #[] #[],.pointer (some ⟨g_1,0,none⟩)] [C y0 h0,Ch.box g_1 142 [.slice a_1_0 x1.length c_1_0]] [Im.sl bZ a_1_0 c_1_0 x1] (λh:η×(Option Addr×Nat)=> .tuple #[]) (λh=>[C r.1 h.1,Ch.box g_1 142 [.slice h.2.1 r.2.length h.2.2]]) (λh=>[Im.sl bZ h.2.1 h.2.2 r.2]):=by
  delta mj at H
  refine Cf Go.Proofs.Tryz.func225 λK=> ?_
  have ⟨j,B,q⟩:=bnd H
  refine T.pc (η:=((List aP)×σ)×((Option Addr×Nat)×η)) (λh=>j = .inl h.1) (λh=>(λa=>(λb c e=>[]) h.2.1.1 h.2.1.2 h.2.2) h.1) (λh=>(λa=>(λb c e=>[C a.2 e,Ch.box g_1 142 [.slice b a.1.length c]]) h.2.1.1 h.2.1.2 h.2.2) h.1) (λh=>(λa=>(λb c e=>[Im.sl bZ b c a.1,Im.sl bZ a_1_0 c_1_0 x1]) h.2.1.1 h.2.1.2 h.2.2) h.1) ?_ ?_
  ·refine Yl0 ?_
   refine Tq (η:=(Option Addr×Nat)×η) (λ_ _=>[]) [0,1] (λf h=>(λg d i=>[C f.2 i,Ch.box g_1 142 [.slice g f.1.length d]]) h.1.1 h.1.2 h.2) [] (λf h=>(λg d i=>[Im.sl bZ g d f.1]) h.1.1 h.1.2 h.2) ((a_1_0,c_1_0),h0) [0,0] [0] B ?_
   rintro k_ f ⟨⟨g,d⟩,i⟩ F I J u
   refine Z2 ?_
   refine Tb I (λk=> ?_) λk=> ?_
   ·refine Zl ?_
    refine Y2 ?_
    have ⟨v,M,N⟩:=bnd k
    refine Tj0 [(3,.int .i64 v)] [0,1] [] [0,1] ?_ ?_
    ·refine Yl0 ?_
     refine Tq (η:=Unit) (λw h=>[(3,.int .i64 w)]) [0,1] (λ_ _=>[]) [0,1] (λ_ _=>[]) () [0,0] [] M ?_
     rintro k_ w ⟨⟩ ak O P Q
     refine Y2 ?_
     have ⟨R,S,U⟩:=bnd O
     refine Tj0 [(20,.bool R)] [0,1,3] [] [0,1] ?_ ?_
     ·refine Td [] [0,0] mo ?_
      refine Dq 0 ?_
      refine Db 1 1 ?_
      refine Dq 2 ?_
      refine Dq 3 ?_
      refine Dq 4 ?_
      refine D.cs 11 S rfl (λhc l=> ?_) (λhc l=> ?_)
      ·refine Db 5 1 ?_
       refine Dq 6 ?_
       have ⟨al,m,V⟩:=bnd l
       refine D.addr 0 rfl (bH m) λam an W=> ?_
       subst W
       refine Dy 7 (Yl.ia m rfl rfl rfl rfl rfl rfl) ?_
       refine D.el 0 rfl (aI m).2 ?_
       rintro _
       refine Dy 8 (Yl.ldc 0 0 rfl rfl rfl rfl) ?_
       refine Db 9 1 ?_
       have ⟨ao,y,X⟩:=bnd V
       refine Dy 10 (Yl.ia y rfl rfl rfl rfl rfl rfl) ?_
       refine D.el 1 rfl (aI y).2 ?_
       rintro _
       refine Dy 11 (Yl.ldc 0 0 rfl rfl rfl rfl) ?_
       refine Dq 12 ?_
       refine Dq 13 ?_
       refine Dn ?_
       cases X
       exact Eg0 [0,0] 2
      refine Ds 5 ?_
      refine Ds 6 ?_
      refine Ds 7 ?_
      refine Ds 8 ?_
      refine Ds 9 ?_
      refine Ds 10 ?_
      refine Ds 11 ?_
      refine Ds 12 ?_
      refine Dq 13 ?_
      refine Dn ?_
      cases l
      exact Eg0 [0,0] 0
     refine Tb U (λn=> ?_) λn=> ?_
     ·refine Zl ?_
      cases n
      exact Eg (_,()) (P _ rfl) [0,0] [] 0
     refine Z0 ?_
     cases n
     have hb:=Q _ rfl
     subst v
     exact Eg0 [0,0] 0
    refine Z2 ?_
    have ⟨ap,o,Z⟩:=bnd N
    refine L.addr 0 rfl (bH o) λaa ab ac=> ?_
    subst ac
    refine Ly (Yl.ia o rfl rfl rfl rfl rfl rfl) ?_
    refine L.el 0 rfl (aI o).2 ?_
    rintro _
    refine Lc 0 0 ?_
    have ⟨aq,ad,ae⟩:=bnd Z
    refine L.yd [0] [] (hY _ _ _ () _ ad) rfl rfl rfl rfl rfl rfl rfl rfl ?_
    intro A
    refine Z0 ?_
    refine Tb ae (λp=> ?_) λp=> ?_
    ·refine Z0 ?_
     obtain ⟨ar,hz,af⟩:=cF p
     subst F
     have hb:=u _ rfl
     subst j
     obtain rfl:=(sm q).symm
     refine Z0 ?_
     cases af
     exact Eo (A,((some ⟨aa,ab,none⟩),d)) [0,0] [1] .nil
    refine Z0 ?_
    have ⟨_,ag,ah⟩:=bnd p
    refine L.rs 1 ag rfl rfl rfl rfl rfl rfl rfl rfl rfl rfl rfl rfl ?_
    intro ai aj
    refine Lt 1 ?_
    refine Z0 ?_
    cases ah
    exact Eg (_,((ai,aj),A)) (J _ rfl) [1,0] [0] 3
   refine Z0 ?_
   cases k
   have hb:=u _ rfl
   subst j
   exact Egx (_,((g,d),i)) rfl [0,0] [0,1]
  rintro ⟨a,⟨⟨b,c⟩,e⟩⟩ hy
  subst hy
  refine E.off ?_
  cases q
  exact Eo (e,(b,c)) [0,0] [0] .nil
theorem vg {r_:aY} {r:ByteArray} (H:ki r_=some r):CT G 218 [.agg #[.slice A0 r_.cells.length C0,.bool r_.wrapped]] [] [Im.sl bZ A0 C0 r_.cells] (λ_:Unit=> .string r) (λh=>[]) (λh=>[]):=by
 delta ki at H
 refine Cf Go.Proofs.Tryz.func218 λK=> ?_
 refine T.xY ?_
 refine Z1 ?_
 refine Lx λg1=> ?_
 refine Z1 ?_
 refine Ll λg2=> ?_
 refine Z1 ?_
 have ⟨r3,h4,H5⟩:=bnd H
 refine Lk [] [] (As h4) λ⟨⟩=> ?_
 refine La [] [] (Ac.bs (ty:=(Ty.int .i64)) (xs:=[r3]) (.cons () [] rfl .nil) rfl rfl rfl rfl rfl rfl rfl) λg6=> ?_
 refine L.gK (Ty.int .u8) 5 ?_
 refine L.frz 1 rfl ?_
 have ⟨B,f,g⟩:=bnd H5
 refine Lk [1,0] [0] (gI f) λ⟨i,j⟩=> ?_
 refine Z2 ?_
 have ⟨k,l,m⟩:=bnd g
 refine Lk [] [1] (yX l) λn=> ?_
 refine Yl0 ?_
 have ⟨o,p,q⟩:=bnd m
 refine T.rf2 (σ:=cK) (η:=(Option Addr×Nat)) (X:=Int×aP) (θ:=Unit) (τ:=(Option Addr×Nat)×(Option Addr×Nat)) (s1:=o.1) (hx:=λx=>x.1) (λx t=>[.int .i64 x.1,.agg #[.int .i32 x.2.rune,.int .i64 x.2.bU,.int .i64 x.2.part]]) (λx t=>[]) (λ_=>none) (λa h=>(λc d=>[Ch.arr (Ty.int .u8) 5 c d a.b,Ch.box g2 224 [.slice c a.b.length d],Ch.box g1 144 [.slice A0 r_.cells.length C0,.bool r_.wrapped]]) h.1 h.2) (λa h=>(λc d=>[Im.sl bZ A0 C0 k,Im.sl (Ty.int .i64) (some ⟨g6,0,none⟩) 1 [r3],Im.sl bZ A0 C0 r_.cells]) h.1 h.2) 4 [2,1,1,0] [0,1,2] [0] rfl rfl (λ_ _=>rfl) rfl (λyl C hY=>(vx hY (i,j) n A0 C0 p:_)) (λ_ _ _ _=>rfl) rfl rfl rfl rfl rfl ?_ rfl ?_
 ·rintro yl K2 a ⟨c,d⟩ e ⟨⟩ F s
  refine Z1 ?_
  refine Ll λI=> ?_
  refine Lt 0 ?_
  refine Z0 ?_
  refine E.begin λK3=> ?_
  refine Zl ?_
  refine La [] [] (Ac.bs (ty:=(Ty.int .i64)) (xs:=[e.1,(IntKind.i64.wrap e.2.rune),e.2.bU,e.2.part]) (.cons () [] rfl (.cons () [] rfl (.cons () [] rfl (.cons () [] rfl .nil)))) rfl rfl rfl rfl rfl rfl rfl) λJ=> ?_
  refine L.frz 0 rfl ?_
  have ⟨M,u,v⟩:=bnd s
  refine Lk [2,1] [0] (gI u) λ⟨w,y⟩=> ?_
  refine Z0 ?_
  cases v
  exact E.on (w,y) [1,0,1] [1,2,3] rfl rfl rfl rfl
 rintro ⟨N,⟨O,P⟩⟩ Q
 refine Z1 ?_
 have ⟨R,z,A⟩:=bnd q
 refine Lk [2,1] [] (kZ z) λ⟨⟩=> ?_
 refine Z0 ?_
 cases A
 exact E.zr () 2 [] [] rfl (.tmp rfl .nil) rfl rfl rfl
theorem oJ {s_:aS} {r:ByteArray} (H:ic s_=some r):CT G 195 [.agg (qi s_ A0 C0 A1 C1).toArray] [] [Im.sl aT A0 C0 s_.rows,Im.sl aH A1 C1 s_.begun] (λ_:Unit=> .string r) (λh=>[]) (λh=>[]):=by
 delta ic at H
 refine Cf Go.Proofs.Tryz.func195 λK=> ?_
 refine Z1 ?_
 refine Lx λg1=> ?_
 refine Y2 ?_
 have ⟨p,q,s⟩:=bnd H
 refine Tj0 [(12,.bool p)] [1] [] [0] ?_ ?_
 ·refine Z0 ?_
  have ⟨al,t,u⟩:=bnd q
  refine Lk [] [0,1] (nZ t) λ⟨⟩=> ?_
  refine Z0 ?_
  refine Lw 8 u (λf=> ?_) λf=> ?_
  ·refine Z0 ?_
   cases f
   exact Eg0 [0] 0
  refine Z0 ?_
  have ⟨am,v,z⟩:=bnd f
  refine Lk [] [0,1] (n0 v) λ⟨⟩=> ?_
  refine Z0 ?_
  cases z
  exact Eg0 [0] 0
 refine Tb s (λg=> ?_) λg=> ?_
 ·refine Z1 ?_
  cases g
  exact Eo1 () [] []
 refine Z1 ?_
 refine Ll λo=> ?_
 refine Y1 ?_
 refine Td [] [1] mo ?_
 refine Dq 0 ?_
 refine Db 1 0 ?_
 refine Dq 2 ?_
 refine Db 3 0 ?_
 refine Dq 4 ?_
 refine Db 5 0 ?_
 refine Dq 6 ?_
 refine Db 7 0 ?_
 refine Dq 8 ?_
 refine Db 9 0 ?_
 refine Dq 12 ?_
 refine Db 13 0 ?_
 refine Dq 16 ?_
 refine Db 17 0 ?_
 refine Dq 18 ?_
 refine Db 19 0 ?_
 refine Dq 22 ?_
 refine Db 23 0 ?_
 refine DF.of rfl ?_
 refine DF.add _ (FSp.ac 10 [] (Ac.frz (Ac.bs (ty:=(Ty.int .i64)) (xs:=[s_.k,s_.w,s_.h,s_.x,s_.y]) (.cons () [] rfl (.cons () [] rfl (.cons () [] rfl (.cons () [] rfl (.cons () [] rfl .nil))))) rfl rfl rfl rfl rfl rfl rfl)) rfl rfl rfl rfl rfl) rfl ?_
 refine DF.add _ (FSp.ac 14 [] (Ac.frz (Ac.bs (ty:=Ty.str) (xs:=[s_.title]) (.cons () [] rfl .nil) rfl rfl rfl rfl rfl rfl rfl)) rfl rfl rfl rfl rfl) rfl ?_
 refine DF.add _ (FSp.ac 20 [] (Ac.frz (Ac.bs (ty:=(Ty.int .i64)) (xs:=[s_.len,s_.chain]) (.cons () [] rfl (.cons () [] rfl .nil)) rfl rfl rfl rfl rfl rfl rfl)) rfl rfl rfl rfl rfl) rfl ?_
 refine DF.step 11 rfl rfl rfl rfl rfl ?_
 refine DFp.use 2 rfl rfl rfl ?_
 intro an
 refine DFp.gK (Ty.int .u8) 5 ?_
 have ⟨ao,A,B⟩:=bnd g
 refine DFp.a [1,0] [0] (Ac.call (gI A) rfl rfl rfl rfl) rfl rfl rfl rfl rfl rfl rfl rfl ?_
 rintro ⟨ap,aq⟩
 refine DF.step 15 rfl rfl rfl rfl rfl ?_
 refine DFp.use 1 rfl rfl rfl ?_
 intro ar
 have ⟨au,C,F⟩:=bnd B
 refine DFp.a [0,0] [0] (Ac.call (pF C) rfl rfl rfl rfl) rfl rfl rfl rfl rfl rfl rfl rfl ?_
 rintro ⟨av,aw⟩
 refine DF.step 21 rfl rfl rfl rfl rfl ?_
 refine DFp.use 0 rfl rfl rfl ?_
 intro ax
 have ⟨ay,I,J⟩:=bnd F
 refine DFp.a [0,0] [0] (Ac.call (gI I) rfl rfl rfl rfl) rfl rfl rfl rfl rfl rfl rfl rfl ?_
 rintro ⟨az,a0⟩
 have ⟨M,N,O⟩:=bnd J
 refine DF.add _ (FSp.ac 24 [4] (Ac.call (yW N) rfl rfl rfl rfl) rfl rfl rfl rfl rfl) rfl ?_
 refine DF.add _ (FSp.dep 0 rfl rfl λ⟨⟩=>FSp.ac 25 [] (Ac.frz (Ac.bs (ty:=Ty.str) (xs:=[M]) (.cons () [] rfl .nil) rfl rfl rfl rfl rfl rfl rfl)) rfl rfl rfl rfl rfl) rfl ?_
 refine DF.step 26 rfl rfl rfl rfl rfl ?_
 refine DFp.use 0 rfl rfl rfl ?_
 intro a1
 refine DFp.use 0 rfl rfl rfl ?_
 rintro ⟨⟩
 have ⟨a2,P,Q⟩:=bnd O
 refine DFp.a [0,0] [0] (Ac.call (oc P) rfl rfl rfl rfl) rfl rfl rfl rfl rfl rfl rfl rfl ?_
 rintro ⟨R,S⟩
 refine DF.fin rfl rfl rfl rfl rfl ?_
 refine DFe.nil ?_
 refine Z2 ?_
 have ⟨i,U,V⟩:=bnd Q
 refine Tjh (η:=(Option Addr×Nat)) (λ_=>[]) [3] (λh=>(λj l=>[Ch.arr (Ty.int .u8) 5 j l i.b,Ch.box o 224 [.slice j i.b.length l]]) h.1 h.2) [0] (λ_=>[]) ?_ ?_
 ·refine Yl0 ?_
  refine Tq (η:=(Option Addr×Nat)) (λc h=>(λd e=>[(43,.int .i64 c.2)]) h.1 h.2) [3,41,42] (λc h=>(λd e=>[Ch.arr (Ty.int .u8) 5 d e c.1.b,Ch.box o 224 [.slice d c.1.b.length e]]) h.1 h.2) [0] (λ_ _=>[]) (R,S) [2,1,0] [] U ?_
  rintro k_ c ⟨d,e⟩ a3 W X Y
  refine Y2 ?_
  refine Tb W (λm=> ?_) λm=> ?_
  ·refine Z1 ?_
   refine Zl ?_
   refine Z1 ?_
   have ⟨a4,n,Z⟩:=bnd m
   refine L.addr 4 rfl (bH n) λa5 a6 aa=> ?_
   subst aa
   refine Ly (Yl.ia n rfl rfl rfl rfl rfl rfl) ?_
   refine L.el 4 rfl (aI n).2 ?_
   rintro ⟨a7,a8⟩
   refine Lc 0 0 ?_
   refine Ll λa9=> ?_
   refine Lt 0 ?_
   refine Z0 ?_
   have ⟨ab,ad,ae⟩:=bnd Z
   refine Lk [] [1] (vg ad) λ⟨⟩=> ?_
   refine La [] [] (Ac.bs (ty:=Ty.str) (xs:=[ab]) (.cons () [] rfl .nil) rfl rfl rfl rfl rfl rfl rfl) λba=> ?_
   refine L.frz 0 rfl ?_
   have ⟨bb,af,ag⟩:=bnd ae
   refine Lk [2,1] [0] (oc af) λ⟨ah,ai⟩=> ?_
   refine Z0 ?_
   cases ag
   exact Eg (_,(ah,ai)) (X _ rfl) [1,0,1] [] 3
  refine Z0 ?_
  cases m
  have hb:=Y _ rfl
  subst i
  exact Eg (d,e) trivial [0,0,0] [] 0
 rintro ⟨j,l⟩
 refine Z1 ?_
 have ⟨bc,aj,ak⟩:=bnd V
 refine Lk [1,0] [] (kZ aj) λ⟨⟩=> ?_
 refine Z0 ?_
 cases ak
 exact Eo1 () [] []
end Go.Tw.X
namespace Go.Tw.X
open Go Go.Tw
variable {A0 A1 A2 A3 A4 A5 A6 A7 A8 : Option Addr} {C0 C1 C2 C3 C4 C5 C6 C7 C8 : Nat}
variable {N0 N1 N2 N3 N4 N5 : Nat}
variable {M0 M1 : Option Nat}
theorem tP {s_:aS} {r:Int} (H:jK s_=some r):CT G 150 [.agg (qi s_ A0 C0 A1 C1).toArray] [] [Im.sl aT A0 C0 s_.rows,Im.sl aH A1 C1 s_.begun,Im.sl (Ty.int .u32) (some ⟨0,0,none⟩) 16 dD] (λ_:Unit=> .int .i64 r) (λh=>[]) (λh=>[]):=by
 delta jK at H
 refine Cf Go.Proofs.Tryz.func150 λK=> ?_
 refine Z1 ?_
 refine Lx λg1=> ?_
 refine Z1 ?_
 have ⟨r2,h3,H4⟩:=bnd H
 refine Lk [] [0,1] (oJ h3) λ⟨⟩=> ?_
 refine La [] [] (Ac.bs (ty:=Ty.str) (xs:=[r2]) (.cons () [] rfl .nil) rfl rfl rfl rfl rfl rfl rfl) λg5=> ?_
 have ⟨r7,h8,H9⟩:=bnd H4
 refine L.br (Ac.call (vb h8) rfl rfl rfl rfl) (Bw.ch 0 rfl (Bw.im 2 rfl (Bw.nil))) rfl rfl rfl ?_
 intro _
 refine Z0 ?_
 cases H9
 exact Eo1 () [] []
theorem vy {s_:aS} {y:Int} {r:aY×Bool} (H:hG s_ y=some r):CT G 196 [.agg (qi s_ A0 C0 A1 C1).toArray,.int .i64 y] [] [Im.sl aT A0 C0 s_.rows,Im.sl aH A1 C1 s_.begun] (λh:(Option Addr×Nat)=> .tuple #[.agg #[.slice h.1 r.1.cells.length h.2,.bool r.1.wrapped],.bool r.2]) (λh=>[]) (λh=>[Im.sl bZ h.1 h.2 r.1.cells]):=by
 delta hG at H
 refine Cf Go.Proofs.Tryz.func196 λK=> ?_
 refine Z1 ?_
 refine Lx λg1=> ?_
 refine Ll λg2=> ?_
 refine Y2 ?_
 have ⟨e6,H7,H8⟩:=bnd H
 refine Tj0 [(14,.bool e6)] [1,2,4] [] [0,1] ?_ ?_
 ·refine Z0 ?_
  refine Lw 8 H7 (λH9=> ?_) λH9=> ?_
  ·refine Z0 ?_
   cases H9
   exact Eg0 [0,0] 0
  refine Z0 ?_
  cases H9
  exact Eg0 [0,0] 0
 refine Tb H8 (λa=> ?_) λa=> ?_
 ·refine Z1 ?_
  refine Lt 0 ?_
  refine Z0 ?_
  refine E.dA [Im.sl bZ none 0 []] (λA w _ _ f hf=>by rw [List.mem_singleton.1 hf]; exact Im.bW A w) ?_
  cases a
  exact Eo (none,0) [] [0] (.cell 0 rfl rfl rfl (.tmp rfl .nil))
 refine Z1 ?_
 have ⟨i,b,c⟩:=bnd a
 refine L.addr 0 rfl (bH b) λj k d=> ?_
 subst d
 refine Ly (Yl.ia b rfl rfl rfl rfl rfl rfl) ?_
 refine L.el 0 rfl (aI b).2 ?_
 rintro ⟨e,g⟩
 refine Lc 0 0 ?_
 refine Lt 0 ?_
 refine Z0 ?_
 cases c
 exact Eo (e,g) [] [1] (.cell 0 rfl rfl rfl (.tmp rfl .nil))
theorem oK {s1_:List aP} {s2_:List aP} {r:Bool} (H:fL s1_ s2_=some r):CT G 129 [.slice A0 s1_.length C0,.slice A1 s2_.length C1] [] [Im.sl bZ A0 C0 s1_,Im.sl bZ A1 C1 s2_] (λ_:Unit=> .bool r) (λh=>[]) (λh=>[]):=by
 delta fL at H
 refine Cf Go.Proofs.Tryz.func129 λK=> ?_
 refine Z3 ?_
 refine Tb H (λH2=> ?_) λH2=> ?_
 ·refine Z1 ?_
  cases H2
  exact Eo1 () [] []
 refine Z2 ?_
 have ⟨a,j,f⟩:=bnd H2
 refine Tj (η:=Unit×Unit) (λh=>a = .inl h.1) (λ_=>[]) [] (λ_=>[]) [] (λ_=>[]) ?_ ?_
 ·refine Yl0 ?_
  refine Tq (η:=Unit) (λg h=>[(13,.int .i64 g)]) [0,1,12] (λ_ _=>[]) [] (λ_ _=>[]) () [] [] j ?_
  rintro k_ g ⟨⟩ k l m i
  refine Y2 ?_
  refine Tb l (λb=> ?_) λb=> ?_
  ·refine Z1 ?_
   refine Zl ?_
   refine Y2 ?_
   refine Td [] [] mo ?_
   refine Dq 0 ?_
   refine Dq 1 ?_
   have ⟨t,c,n⟩:=bnd b
   refine D.addr 0 rfl (bH c) λu v o=> ?_
   subst o
   refine Dy 2 (Yl.ia c rfl rfl rfl rfl rfl rfl) ?_
   refine D.el 0 rfl (aI c).2 ?_
   rintro _
   refine Dy 3 (Yl.ldc 0 0 rfl rfl rfl rfl) ?_
   refine Dq 4 ?_
   refine Dq 5 ?_
   have ⟨w,d,p⟩:=bnd n
   refine D.addr 2 rfl (bH d) λx y q=> ?_
   subst q
   refine Dy 6 (Yl.ia d rfl rfl rfl rfl rfl rfl) ?_
   refine D.el 2 rfl (aI d).2 ?_
   rintro _
   refine Dy 7 (Yl.ldc 0 0 rfl rfl rfl rfl) ?_
   refine Dq 8 ?_
   refine Dn ?_
   refine Z0 ?_
   refine Tb p (λe=> ?_) λe=> ?_
   ·refine Z1 ?_
    obtain ⟨z,hz,s⟩:=cF e
    subst k
    have hb:=i _ rfl
    subst a
    obtain rfl:=(sm f).symm
    refine Z0 ?_
    cases s
    exact Eo1 () [] []
   refine Z0 ?_
   cases e
   exact Eg (_,()) (m _ rfl) [] [] 2
  refine Z0 ?_
  cases b
  have hb:=i _ rfl
  subst a
  exact Eg (_,()) rfl [] [] 0
 rintro ⟨A,⟨⟩⟩ hy
 subst hy
 refine Z1 ?_
 cases f
 exact Eo1 () [] []
theorem vh {r_:aY} {q:aY} {r:Bool} (H:jb r_ q=some r):CT G 72 [.agg #[.slice A0 r_.cells.length C0,.bool r_.wrapped],.agg #[.slice A1 q.cells.length C1,.bool q.wrapped]] [] [Im.sl bZ A0 C0 r_.cells,Im.sl bZ A1 C1 q.cells] (λ_:Unit=> .bool r) (λh=>[]) (λh=>[]):=by
 delta jb at H
 refine Cf Go.Proofs.Tryz.func72 λK=> ?_
 refine Z1 ?_
 refine Lx λg1=> ?_
 refine Lx λg2=> ?_
 refine Y1 ?_
 have ⟨b,c,d⟩:=bnd H
 refine Tj0 [(4,.bool b)] [] [] [0,1] ?_ ?_
 ·refine Z0 ?_
  refine Lw 10 c (λa=> ?_) λa=> ?_
  ·refine Z0 ?_
   have ⟨g,e,f⟩:=bnd a
   refine Lk [] [0,1] (oK e) λ⟨⟩=> ?_
   refine Z0 ?_
   cases f
   exact Eg0 [0,0] 0
  refine Z0 ?_
  cases a
  exact Eg0 [0,0] 0
 refine Z0 ?_
 cases d
 exact Eo1 () [] []
theorem yY {s_:aS} {r:Bool} (H:kj s_=some r):CT G 197 [.agg (qi s_ A0 C0 A1 C1).toArray] [] [Im.sl aT A0 C0 s_.rows,Im.sl aH A1 C1 s_.begun] (λ_:Unit=> .bool r) (λh=>[]) (λh=>[]):=by
 delta kj at H
 refine Cf Go.Proofs.Tryz.func197 λK=> ?_
 refine Z1 ?_
 refine Lx λg1=> ?_
 refine Z1 ?_
 have ⟨r2,h3,H4⟩:=bnd H
 refine Lk [] [0,1] (oJ h3) λ⟨⟩=> ?_
 refine Z0 ?_
 cases H4
 exact Eo1 () [] []
theorem qq {p:bT} {a:aS} {r:Bool×bT} (H:eV p a=some r):CT G 151 [.pointer (some ⟨N0,0,none⟩),.agg (qi a A2 C2 A3 C3).toArray] [Ch.box N0 248 (yQ p A0 C0 A1 C1 M0),Ch.arr aT 144 A0 C0 p.to.rows,Ch.mp aT true M0 p.rows] [Im.sl aH A1 C1 p.to.begun,Im.sl aT A2 C2 a.rows,Im.sl aH A3 C3 a.begun] (λh:(Option Addr×Nat)=> .bool r.1) (λh=>[Ch.box N0 248 (yQ r.2 h.1 h.2 A1 C1 M0),Ch.mp aT true M0 r.2.rows]) (λh=>[Im.sl aT h.1 h.2 r.2.to.rows,Im.sl aH A1 C1 r.2.to.begun]):=by
 delta eV at H
 refine Cf Go.Proofs.Tryz.func151 λK=> ?_
 refine Z1 ?_
 refine Lx λg1=> ?_
 refine Z2 ?_
 have ⟨m,C,y⟩:=bnd H
 refine Tj (η:=bT×((Option Addr×Nat))) (λh=>m = .inl h.1) (λ_=>[]) [0] (λh=>(λe=>(λi j=>[Ch.arr aT 144 i j e.to.rows,Ch.mp aT true M0 e.rows,Ch.box N0 248 (yQ e i j A1 C1 M0)]) h.2.1 h.2.2) h.1) [0] (λh=>(λe=>(λi j=>[Im.sl aH A1 C1 e.to.begun]) h.2.1 h.2.2) h.1) ?_ ?_
 ·refine Yl0 ?_
  refine Tq (η:=(Option Addr×Nat)) (λb h=>(λc d=>[(15,.int .i64 b.2)]) h.1 h.2) [0,3,14] (λb h=>(λc d=>[Ch.arr aT 144 c d b.1.to.rows,Ch.mp aT true M0 b.1.rows,Ch.box N0 248 (yQ b.1 c d A1 C1 M0)]) h.1 h.2) [0] (λb h=>(λc d=>[Im.sl aH A1 C1 b.1.to.begun]) h.1 h.2) (A0,C0) [2,2,1,0] [0] C ?_
  rintro k_ b ⟨c,d⟩ F I J z
  refine Y2 ?_
  refine Tb I (λn=> ?_) λn=> ?_
  ·refine Z1 ?_
   refine Zl ?_
   refine Z2 ?_
   have ⟨ak,M,N⟩:=bnd n
   refine Lk [] [2,3] (vy M) λ⟨O,P⟩=> ?_
   refine Z0 ?_
   refine Ll λal=> ?_
   refine Lt 0 ?_
   refine Z1 ?_
   refine La [2] [] (Ac.ml (ty:=aT) (ag:=true) (vv:=(λh:(Option Addr×Nat)=>(λo q=> .agg #[.slice o ((mgd b.1.rows b.2 (aY.mk ([]:List aP) false)).cells).length q,.bool ((mgd b.1.rows b.2 (aY.mk ([]:List aP) false)).wrapped)]) h.1 h.2)) b.2 (aY.mk ([]:List aP) false) (none,0) rfl rfl rfl rfl rfl rfl rfl rfl rfl (λ_ _ f hf=>by rw [List.mem_singleton.1 hf]; exact Im.bW _ _) Gc (λ_=>rfl)) ?_
   rintro ⟨o,q⟩
   refine Z0 ?_
   refine Ll λQ=> ?_
   refine Lt 0 ?_
   refine Y1 ?_
   have ⟨A,R,B⟩:=bnd N
   refine Tj (η:=aY×((Option Addr×Nat))) (λh=>A = .inl h.1) (λ_=>[]) [0,3,8,14,15] (λh=>(λg=>(λk l=>[Ch.box Q 144 [.slice k g.cells.length l,.bool g.wrapped]]) h.2.1 h.2.2) h.1) [2,4,5,1,3] (λh=>(λg=>(λk l=>[Im.sl bZ k l g.cells]) h.2.1 h.2.2) h.1) ?_ ?_
   ·refine Zl ?_
    refine Y2 ?_
    have ⟨S,U,V⟩:=bnd R
    refine Tj0 [(33,.bool S)] [0,3,6,7,8,9,14,15] [] [0,2,4,5,1,3] ?_ ?_
    ·refine Z0 ?_
     refine Lw 35 U (λs=> ?_) λs=> ?_
     ·refine Z0 ?_
      refine Lw 38 s (λt=> ?_) λt=> ?_
      ·refine Z0 ?_
       have ⟨am,W,X⟩:=bnd t
       refine Lk [] [1,0] (vh W) λ⟨⟩=> ?_
       refine Z0 ?_
       cases X
       exact Eg0 [0,1,2,2,0,0] 0
      refine Z0 ?_
      cases t
      exact Eg0 [0,1,2,2,0,0] 0
     refine Z0 ?_
     cases s
     exact Eg0 [0,1,2,2,0,0] 0
    have ⟨Y,Z,aa⟩:=bnd V
    refine Tj0 [(33,.bool Y)] [0,3,6,8,9,14,15] [] [0,1,2,3,4,5] ?_ ?_
    ·refine Tb Z (λu=> ?_) λu=> ?_
     ·refine Z0 ?_
      cases u
      exact Eg0 [0,0,0,0,0,0] 0
     refine Z0 ?_
     refine Lw 45 u (λv=> ?_) λv=> ?_
     ·refine Z0 ?_
      cases v
      exact Eg0 [0,0,0,0,0,0] 0
     refine Z0 ?_
     cases v
     exact Eg0 [0,0,0,0,0,0] 0
    refine Tb aa (λw=> ?_) λw=> ?_
    ·refine Z1 ?_
     obtain ⟨an,hz,ab⟩:=ib w
     subst A
     obtain rfl:=(sm B).symm
     refine Z0 ?_
     obtain ⟨ao,hz,ac⟩:=cF ab
     subst F
     have hb:=z _ rfl
     subst m
     obtain rfl:=(sm y).symm
     refine Z0 ?_
     refine E.frz 5 rfl ?_
     cases ac
     exact Eo1 (c,d) [2,3] [0,3]
    refine Z1 ?_
    refine Tb w (λx=> ?_) λx=> ?_
    ·refine Z0 ?_
     refine Lt 0 ?_
     refine Z0 ?_
     cases x
     exact Eg (_,(O,P)) rfl [0,0,0,0,0,0] [1] 0
    refine Z0 ?_
    cases x
    exact Eg (_,(o,q)) rfl [0,0,0,0,0,0] [0] 0
   rintro ⟨g,⟨k,l⟩⟩ hy
   subst hy
   refine Td [12] [0,0,0,0,0] mo ?_
   refine Dq 0 ?_
   refine Dq 1 ?_
   refine Dq 2 ?_
   refine Dq 3 ?_
   refine Dq 4 ?_
   refine Db 5 2 ?_
   refine Db 6 0 ?_
   refine Da [] [0] rfl rfl (Ac.bs (ty:=aT) (xs:=[g]) (.cons (k,l) [0] rfl .nil) rfl rfl rfl rfl rfl rfl rfl) λaq=> ?_
   refine D.frz 0 rfl ?_
   have ⟨_,ad,ae⟩:=bnd B
   refine Da [0] [0] rfl rfl (Ac.ap (ty:=aT) ad rfl rfl rfl rfl rfl rfl rfl) ?_
   rintro ⟨af,ah⟩
   refine Dq 9 ?_
   refine Dq 10 ?_
   refine Dq 11 ?_
   refine Dt 2 ?_
   refine Dn ?_
   refine Z0 ?_
   cases ae
   exact Eg (_,(af,ah)) (J _ rfl) [5,4,0,2] [4] 5
  refine Z0 ?_
  cases n
  have hb:=z _ rfl
  subst m
  exact Eg (_,(c,d)) rfl [0,0,0,0] [0] 1
 rintro ⟨e,⟨i,j⟩⟩ hy
 subst hy
 refine Z1 ?_
 refine L.frz 0 rfl ?_
 have ⟨ar,ai,aj⟩:=bnd y
 refine Lk [] [0,1] (yY ai) λ⟨⟩=> ?_
 refine Z0 ?_
 cases aj
 exact Eo1 (i,j) [1,0] [0,1]
theorem vz {a:aS} {s_:ByteArray} {r:aS×Int} (H:kN a s_=some r):CT G 85 [.agg (qi a A0 C0 A1 C1).toArray,.string s_] [] [Im.sl aT A0 C0 a.rows,Im.sl aH A1 C1 a.begun,Im.sl (Ty.int .u32) (some ⟨0,0,none⟩) 16 dD] (λh:(Option Addr×Nat)×(Option Addr×Nat)=> .tuple #[.agg (qi r.1 h.1.1 h.1.2 h.2.1 h.2.2).toArray,.int .i64 r.2]) (λh=>[]) (λh=>[Im.sl aT h.1.1 h.1.2 r.1.rows,Im.sl aH h.2.1 h.2.2 r.1.begun]):=by
 delta kN at H
 refine Cf Go.Proofs.Tryz.func85 λK=> ?_
 refine Z1 ?_
 refine Lx λg1=> ?_
 refine Ll λg2=> ?_
 refine Z2 ?_
 have ⟨r3,h4,H5⟩:=bnd H
 refine Lk [] [0,1] (n0 h4) λ⟨⟩=> ?_
 refine Z0 ?_
 refine Tb H5 (λH7=> ?_) λH7=> ?_
 ·refine Z1 ?_
  refine Lt 0 ?_
  refine Z0 ?_
  refine E.dA [Im.sl aT none 0 []] (λA w _ _ f hf=>by rw [List.mem_singleton.1 hf]; exact Im.bW A w) ?_
  refine E.dA [Im.sl aH none 0 []] (λA w _ _ f hf=>by rw [List.mem_singleton.1 hf]; exact Im.bW A w) ?_
  cases H7
  exact Eo ((none,0),(none,0)) [] [1,0] (.cell 0 rfl rfl rfl (.tmp rfl .nil))
 refine Z1 ?_
 have ⟨t,e,g⟩:=bnd H7
 refine Lk [] [] (xE e) λ⟨⟨u,v⟩,x⟩=> ?_
 refine Z0 ?_
 refine Ll λy=> ?_
 refine Lt 0 ?_
 refine Z1 ?_
 refine Zl ?_
 refine Z1 ?_
 refine Tb g (λb=> ?_) λb=> ?_
 ·refine Z1 ?_
  refine Lt 2 ?_
  refine Z0 ?_
  refine E.dA [Im.sl aT none 0 []] (λA w _ _ f hf=>by rw [List.mem_singleton.1 hf]; exact Im.bW A w) ?_
  refine E.dA [Im.sl aH none 0 []] (λA w _ _ f hf=>by rw [List.mem_singleton.1 hf]; exact Im.bW A w) ?_
  cases b
  exact Eo ((none,0),(none,0)) [] [1,0] (.cell 0 rfl rfl rfl (.tmp rfl .nil))
 refine Y1 ?_
 refine Td [] [0,0,0,0] mo ?_
 refine Dq 0 ?_
 refine Db 1 0 ?_
 refine Db 2 3 ?_
 have ⟨z,i,j⟩:=bnd b
 refine Dk [] [2,3,4] (tP i) λ⟨⟩=> ?_
 refine Dq 4 ?_
 refine Dq 5 ?_
 refine Dn ?_
 refine Z0 ?_
 refine Tb j (λc=> ?_) λc=> ?_
 ·refine Z1 ?_
  refine Lt 2 ?_
  refine Z0 ?_
  refine E.dA [Im.sl aT none 0 []] (λA w _ _ f hf=>by rw [List.mem_singleton.1 hf]; exact Im.bW A w) ?_
  refine E.dA [Im.sl aH none 0 []] (λA w _ _ f hf=>by rw [List.mem_singleton.1 hf]; exact Im.bW A w) ?_
  cases c
  exact Eo ((none,0),(none,0)) [] [1,0] (.cell 0 rfl rfl rfl (.tmp rfl .nil))
 refine Z1 ?_
 refine L.GP 0 144 rfl ?_
 have ⟨B,k,l⟩:=bnd c
 refine Lk [1,0,0] [1,2,3] (qq k) λ⟨C,F⟩=> ?_
 refine Z0 ?_
 refine Tb l (λd=> ?_) λd=> ?_
 ·refine Z1 ?_
  refine Lt 2 ?_
  refine Z0 ?_
  refine E.dA [Im.sl aT none 0 []] (λA w _ _ f hf=>by rw [List.mem_singleton.1 hf]; exact Im.bW A w) ?_
  refine E.dA [Im.sl aH none 0 []] (λA w _ _ f hf=>by rw [List.mem_singleton.1 hf]; exact Im.bW A w) ?_
  cases d
  exact Eo ((none,0),(none,0)) [] [1,0] (.cell 0 rfl rfl rfl (.tmp rfl .nil))
 refine Z1 ?_
 have ⟨I,m,n⟩:=bnd d
 refine Lk [] [0,1] (lR m) λ⟨⟨o,p⟩,⟨q,s⟩⟩=> ?_
 refine Lt 2 ?_
 refine Z0 ?_
 cases n
 exact Eo ((o,p),(q,s)) [] [0,1] (.cell 0 rfl rfl rfl (.tmp rfl .nil))
theorem qR {t_:bA} {g:aV} {r:Int×bA} (H:ig t_ g=some r):CT G 36 [.pointer (some ⟨N0,0,none⟩),.agg (rR g A2 C2).toArray] [Ch.box N0 155 (dQ t_ N1 A0 C0 A1 C1),Ch.box N1 153 (cL t_.slot M0),Ch.mp Ty.str false M0 t_.slot.parts] [Im.sl aT A0 C0 t_.aJ.rows,Im.sl aH A1 C1 t_.aJ.begun,Im.sl (Ty.int .i64) A2 C2 g.bB,Im.sl (Ty.int .u32) (some ⟨0,0,none⟩) 16 dD] (λh:Option Nat×(Option Addr×Nat)×(Option Addr×Nat)=> .int .i64 r.1) (λh=>[Ch.box N0 155 (dQ r.2 N1 h.2.1.1 h.2.1.2 h.2.2.1 h.2.2.2),Ch.box N1 153 (cL r.2.slot h.1),Ch.mp Ty.str false h.1 r.2.slot.parts]) (λh=>[Im.sl aT h.2.1.1 h.2.1.2 r.2.aJ.rows,Im.sl aH h.2.2.1 h.2.2.2 r.2.aJ.begun]):=by
 delta ig at H
 refine Cf Go.Proofs.Tryz.func36 λK=> ?_
 refine Z1 ?_
 refine Lx λg1=> ?_
 refine Z2 ?_
 have ⟨r2,h3,H4⟩:=bnd H
 refine Lk [1,1,1] [0,1,2] (qm h3) λv5=> ?_
 refine Z1 ?_
 refine Tb H4 (λl=> ?_) λl=> ?_
 ·refine Z1 ?_
  cases l
  exact Eo1 (v5,(A0,C0),(A1,C1)) [0,0,0] [0,1]
 refine Z1 ?_
 have ⟨ae,x,y⟩:=bnd l
 refine Lk [1,1] [] (qQ x) λ⟨⟩=> ?_
 refine Z2 ?_
 refine Tb y (λm=> ?_) λm=> ?_
 ·refine Z1 ?_
  cases m
  exact Eo1 (v5,(A0,C0),(A1,C1)) [2,0,0] [0,1]
 refine Z1 ?_
 have ⟨af,z,B⟩:=bnd m
 refine Lk [0,0] [] (qn z) λC=> ?_
 refine Z1 ?_
 refine Ll λF=> ?_
 refine Z2 ?_
 have ⟨ag,n,I⟩:=bnd B
 refine L.addr 4 rfl (bH n) λah ai J=> ?_
 subst J
 refine Ly (Yl.ia n rfl rfl rfl rfl rfl rfl) ?_
 refine L.el 4 rfl (aI n).2 ?_
 rintro _
 refine Lc 0 0 ?_
 refine Z0 ?_
 have ⟨o,M,N⟩:=bnd I
 refine Tjh (η:=(Option Addr×Nat)×(Option Addr×Nat)) (λ_=>[]) [0,3,6,8] (λh=>(λe i j k=>[Ch.box F 71 (qi o e i j k)]) h.1.1 h.1.2 h.2.1 h.2.2) [1,3,4,2] (λh=>(λe i j k=>[Im.sl aT e i o.rows,Im.sl aH j k o.begun]) h.1.1 h.1.2 h.2.1 h.2.2) ?_ ?_
 ·refine Tb M (λp=> ?_) λp=> ?_
  ·refine Z0 ?_
   refine Lt 0 ?_
   refine Z0 ?_
   cases p
   exact Eg ((A0,C0),(A1,C1)) trivial [0,0,1,1,0] [1,2] 0
  refine Z0 ?_
  refine E.dA [Im.sl aT none 0 []] (λA w _ _ f hf=>by rw [List.mem_singleton.1 hf]; exact Im.bW A w) ?_
  refine E.dA [Im.sl aH none 0 []] (λA w _ _ f hf=>by rw [List.mem_singleton.1 hf]; exact Im.bW A w) ?_
  cases p
  exact Eg ((none,0),(none,0)) trivial [0,0,1,1,0] [1,0] 2
 rintro ⟨⟨e,i⟩,⟨j,k⟩⟩
 refine Z1 ?_
 have ⟨aj,O,P⟩:=bnd N
 refine Lk [] [0,1,8] (vz O) λ⟨⟨Q,R⟩,⟨S,U⟩⟩=> ?_
 refine Z0 ?_
 refine Ll λak=> ?_
 refine Lt 0 ?_
 refine Y2 ?_
 have ⟨V,W,X⟩:=bnd P
 refine Tj0 [(57,.bool V)] [0,9,10] [] [0,1,2,3,4,5] ?_ ?_
 ·refine Td [] [0,0,0,0,0,0] mo ?_
  refine Dq 0 ?_
  refine Dq 1 ?_
  refine Dq 2 ?_
  refine D.cs 49 W rfl (λhc q=> ?_) (λhc q=> ?_)
  ·refine Dq 3 ?_
   refine Db 4 0 ?_
   refine Dq 5 ?_
   refine Db 6 4 ?_
   have ⟨al,v,Y⟩:=bnd q
   refine Dy 7 (Yl.ia v rfl rfl rfl rfl rfl rfl) ?_
   refine D.el 9 rfl (aI v).2 ?_
   rintro _
   refine Dy 8 (Yl.ldc 0 0 rfl rfl rfl rfl) ?_
   refine Dq 9 ?_
   refine Dq 10 ?_
   refine Dn ?_
   cases Y
   exact Eg0 [0,0,0,0,0,0] 1
  refine Ds 3 ?_
  refine Ds 4 ?_
  refine Ds 5 ?_
  refine Ds 6 ?_
  refine Ds 7 ?_
  refine Ds 8 ?_
  refine Ds 9 ?_
  refine Dq 10 ?_
  refine Dn ?_
  cases q
  exact Eg0 [0,0,0,0,0,0] 0
 have ⟨Z,aa,ab⟩:=bnd X
 refine Tj0 [(10,.int .i64 Z)] [0,9] [] [0,1,2,3,4,5] ?_ ?_
 ·refine Tb aa (λs=> ?_) λs=> ?_
  ·refine Z0 ?_
   cases s
   exact Eg0 [0,0,0,0,0,0] 0
  refine Z0 ?_
  cases s
  exact Eg0 [0,0,0,0,0,0] 0
 refine Z2 ?_
 have ⟨t,ac,ad⟩:=bnd ab
 refine Tjh (η:=(Option Addr×Nat)×(Option Addr×Nat)) (λ_=>[]) [10] (λh=>(λa b c d=>[Ch.box N0 155 (dQ t N1 a b c d)]) h.1.1 h.1.2 h.2.1 h.2.2) [0,1,2,4,5] (λh=>(λa b c d=>[Im.sl aT a b t.aJ.rows,Im.sl aH c d t.aJ.begun]) h.1.1 h.1.2 h.2.1 h.2.2) ?_ ?_
 ·refine Tb ac (λu=> ?_) λu=> ?_
  ·refine Z0 ?_
   refine Lt 3 ?_
   refine Z0 ?_
   cases u
   exact Eg ((Q,R),(S,U)) trivial [0,0,0,0,0,0] [0,1] 0
  refine Z0 ?_
  cases u
  exact Eg ((A0,C0),(A1,C1)) trivial [3,0,0,0,0,0] [5,6] 0
 rintro ⟨⟨a,b⟩,⟨c,d⟩⟩
 refine Z1 ?_
 cases ad
 exact Eo1 (C,(a,b),(c,d)) [0,2,3] [0,1]
theorem mT {c:aF} {now:Int} {data:ByteArray} {r:Int×aF} (H:dV c now data=some r):CT G 11 [.pointer (some ⟨N0,0,none⟩),.int .i64 now,.string data] [Ch.box N0 94 (jn c N1 N3 N4),Ch.box N1 155 (dQ c.aM N2 A0 C0 A1 C1),Ch.box N2 153 (cL c.aM.slot M0),Ch.mp Ty.str false M0 c.aM.slot.parts,Ch.box N3 158 [.int .i64 c.lines.most,.int .i64 c.lines.now,.map M1],Ch.mp aE true M1 c.lines.l,Ch.box N4 161 (dM c.bF N5),Ch.box N5 106 [.slice A2 c.bF.want.l.length C2]] [Im.sl aT A0 C0 c.aM.aJ.rows,Im.sl aH A1 C1 c.aM.aJ.begun,Im.sl aC A2 C2 c.bF.want.l,Im.sl (Ty.int .u32) (some ⟨0,0,none⟩) 16 dD] (λh:Nat×Option Nat×(Option Addr×Nat)×(Option Addr×Nat)×Nat×(Option Addr×Nat)=> .int .i64 r.1) (λh=>[Ch.box N0 94 (jn r.2 N1 N3 N4),Ch.box N1 155 (dQ r.2.aM h.1 h.2.2.1.1 h.2.2.1.2 h.2.2.2.1.1 h.2.2.2.1.2),Ch.box h.1 153 (cL r.2.aM.slot h.2.1),Ch.mp Ty.str false h.2.1 r.2.aM.slot.parts,Ch.box N3 158 [.int .i64 r.2.lines.most,.int .i64 r.2.lines.now,.map M1],Ch.mp aE true M1 r.2.lines.l,Ch.box N4 161 (dM r.2.bF h.2.2.2.2.1),Ch.box h.2.2.2.2.1 106 [.slice h.2.2.2.2.2.1 r.2.bF.want.l.length h.2.2.2.2.2.2]]) (λh=>[Im.sl aT h.2.2.1.1 h.2.2.1.2 r.2.aM.aJ.rows,Im.sl aH h.2.2.2.1.1 h.2.2.2.1.2 r.2.aM.aJ.begun,Im.sl aC h.2.2.2.2.2.1 h.2.2.2.2.2.2 r.2.bF.want.l]):=by
 delta dV at H
 refine Cf Go.Proofs.Tryz.func11 λK=> ?_
 refine Z2 ?_
 have ⟨r1,h2,H3⟩:=bnd H
 refine Lk [] [3] (rY h2) λ⟨a4,c5⟩=> ?_
 refine Z0 ?_
 refine Ll λg7=> ?_
 refine Lt 0 ?_
 refine Y1 ?_
 have ⟨n,w,o⟩:=bnd H3
 refine Tj (η:=aF×(Nat×Option Nat×(Option Addr×Nat)×(Option Addr×Nat)×Nat×(Option Addr×Nat))) (λh=>n = .inl h.1) (λ_=>[]) [0,7] (λh=>(λa=>(λb e f g i j d k m=>[Ch.mp Ty.str false e a.aM.slot.parts,Ch.mp aE true M1 a.lines.l,Ch.box N0 94 (jn a N1 N3 N4),Ch.box N1 155 (dQ a.aM b f g i j),Ch.box N3 158 [.int .i64 a.lines.most,.int .i64 a.lines.now,.map M1],Ch.box N4 161 (dM a.bF d),Ch.box b 153 (cL a.aM.slot e),Ch.box d 106 [.slice k a.bF.want.l.length m]]) h.2.1 h.2.2.1 h.2.2.2.1.1 h.2.2.2.1.2 h.2.2.2.2.1.1 h.2.2.2.2.1.2 h.2.2.2.2.2.1 h.2.2.2.2.2.2.1 h.2.2.2.2.2.2.2) h.1) [0] (λh=>(λa=>(λb e f g i j d k m=>[Im.sl aT f g a.aM.aJ.rows,Im.sl aH i j a.aM.aJ.begun,Im.sl aC k m a.bF.want.l]) h.2.1 h.2.2.1 h.2.2.2.1.1 h.2.2.2.1.2 h.2.2.2.2.1.1 h.2.2.2.2.1.2 h.2.2.2.2.2.1 h.2.2.2.2.2.2.1 h.2.2.2.2.2.2.2) h.1) ?_ ?_
 ·refine Zl ?_
  refine Z1 ?_
  refine Tb w (λp=> ?_) λp=> ?_
  ·refine Z1 ?_
   obtain ⟨ag,hz,x⟩:=ib p
   subst n
   obtain rfl:=(sm o).symm
   refine Z0 ?_
   cases x
   exact Eo1 (N2,M0,(A0,C0),(A1,C1),N5,(A2,C2)) [1,1,1,1,1,1,1,1] [1,2,3]
  refine Y1 ?_
  have ⟨y,z,A⟩:=bnd p
  refine Tj0 [(18,.bool y)] [0,7] [] [0,1,2,3,5,7,8,4,6] ?_ ?_
  ·refine Z0 ?_
   refine Lw 22 z (λq=> ?_) λq=> ?_
   ·refine Z0 ?_
    cases q
    exact Eg0 [0,0,0,0,1,2,2,0,0] 0
   refine Z0 ?_
   cases q
   exact Eg0 [0,0,0,0,1,2,2,0,0] 0
  refine Tb A (λs=> ?_) λs=> ?_
  ·refine Z1 ?_
   obtain ⟨ah,hz,B⟩:=ib s
   subst n
   obtain rfl:=(sm o).symm
   refine Z0 ?_
   cases B
   exact Eo1 (N2,M0,(A0,C0),(A1,C1),N5,(A2,C2)) [1,1,1,4,1,3,1,1] [1,2,3]
  refine Y1 ?_
  refine Td [] [0,0,0,0,0,0,0,0,0] mo ?_
  refine Dq 0 ?_
  refine Db 1 0 ?_
  refine Dq 2 ?_
  refine Dq 3 ?_
  refine Dq 4 ?_
  refine Db 5 1 ?_
  refine Dq 6 ?_
  refine Dq 7 ?_
  refine Dn ?_
  refine Z0 ?_
  refine Tb s (λt=> ?_) λt=> ?_
  ·refine Z1 ?_
   obtain ⟨ai,hz,C⟩:=ib t
   subst n
   obtain rfl:=(sm o).symm
   refine Z0 ?_
   cases C
   exact Eo1 (N2,M0,(A0,C0),(A1,C1),N5,(A2,C2)) [1,1,1,4,1,3,1,1] [1,2,3]
  refine Y1 ?_
  refine Td [] [0,0,0,0,0,0,0,0,0] mo ?_
  refine Dq 0 ?_
  refine Db 1 0 ?_
  refine Dq 2 ?_
  refine Dq 3 ?_
  refine Dq 4 ?_
  refine Db 5 1 ?_
  refine Dq 6 ?_
  refine Dq 7 ?_
  refine Dn ?_
  refine Z0 ?_
  refine Tb t (λu=> ?_) λu=> ?_
  ·refine Z0 ?_
   have ⟨aj,F,I⟩:=bnd u
   refine Lk [1,1,1,4,1,3,1,1] [1,2,3] (pG F) λ⟨J,M,⟨N,O⟩,⟨P,Q⟩,R,⟨S,U⟩⟩=> ?_
   refine Z0 ?_
   cases I
   exact Eg (_,(J,M,(N,O),(P,Q),R,(S,U))) rfl [3,4,0,0,1,1,0,0,0] [0,1,2] 3
  refine Z0 ?_
  cases u
  exact Eg (_,(N2,M0,(A0,C0),(A1,C1),N5,(A2,C2))) rfl [7,7,1,1,2,2,1,1,0] [1,2,3] 0
 rintro ⟨a,⟨b,e,⟨f,g⟩,⟨i,j⟩,d,⟨k,m⟩⟩⟩ hy
 subst hy
 refine Z2 ?_
 refine Tb o (λv=> ?_) λv=> ?_
 ·refine Z1 ?_
  have ⟨ak,V,W⟩:=bnd v
  refine Lk [2,2,4,0,1,0,0,0] [0,1,2,3] (pH V) λ⟨X,Y⟩=> ?_
  refine Z0 ?_
  cases W
  exact Eo1 (b,e,(f,g),(i,j),d,(X,Y)) [0,0,0,0,0,0,0,0] [0,1,2]
 refine Y1 ?_
 refine Td [] [1,1,2,2,3,3] mo ?_
 refine Dq 0 ?_
 refine Dq 1 ?_
 refine Dq 2 ?_
 refine Db 3 1 ?_
 refine Db 4 5 ?_
 have ⟨al,Z,aa⟩:=bnd v
 refine Dk [1,1,0] [0,1,3,7] (qR Z) λ⟨ab,⟨ac,ad⟩,⟨ae,af⟩⟩=> ?_
 refine Dq 6 ?_
 refine Dn ?_
 refine Z0 ?_
 cases aa
 exact Eo1 (b,ab,(ac,ad),(ae,af),d,(k,m)) [1,5,5,5,1,0,0,0] [0,1,4]
theorem lU {c:aF} {r:Int} (H:fB c=some r):CT G 15 [.pointer (some ⟨N0,0,none⟩)] [Ch.box N0 94 (jn c N1 N3 N4),Ch.box N1 155 (dQ c.aM N2 A0 C0 A1 C1),Ch.box N2 153 (cL c.aM.slot M0),Ch.mp Ty.str false M0 c.aM.slot.parts,Ch.box N3 158 [.int .i64 c.lines.most,.int .i64 c.lines.now,.map M1],Ch.mp aE true M1 c.lines.l,Ch.box N4 161 (dM c.bF N5),Ch.box N5 106 [.slice A2 c.bF.want.l.length C2]] [Im.sl aT A0 C0 c.aM.aJ.rows,Im.sl aH A1 C1 c.aM.aJ.begun,Im.sl aC A2 C2 c.bF.want.l] (λ_:Unit=> .int .i64 r) (λh=>[Ch.box N0 94 (jn c N1 N3 N4),Ch.box N1 155 (dQ c.aM N2 A0 C0 A1 C1),Ch.box N2 153 (cL c.aM.slot M0),Ch.mp Ty.str false M0 c.aM.slot.parts,Ch.box N3 158 [.int .i64 c.lines.most,.int .i64 c.lines.now,.map M1],Ch.mp aE true M1 c.lines.l,Ch.box N4 161 (dM c.bF N5),Ch.box N5 106 [.slice A2 c.bF.want.l.length C2]]) (λh=>[]):=by
 delta fB at H
 refine Cf Go.Proofs.Tryz.func15 λK=> ?_
 refine Z2 ?_
 cases H
 exact Eo1 () [0,0,0,0,0,0,0,0] []
theorem mU {c:aF} {r:Int} (H:fN c=some r):CT G 26 [.pointer (some ⟨N0,0,none⟩)] [Ch.box N0 94 (jn c N1 N3 N4),Ch.box N1 155 (dQ c.aM N2 A0 C0 A1 C1),Ch.box N2 153 (cL c.aM.slot M0),Ch.mp Ty.str false M0 c.aM.slot.parts,Ch.box N3 158 [.int .i64 c.lines.most,.int .i64 c.lines.now,.map M1],Ch.mp aE true M1 c.lines.l,Ch.box N4 161 (dM c.bF N5),Ch.box N5 106 [.slice A2 c.bF.want.l.length C2]] [Im.sl aT A0 C0 c.aM.aJ.rows,Im.sl aH A1 C1 c.aM.aJ.begun,Im.sl aC A2 C2 c.bF.want.l] (λ_:Unit=> .int .i64 r) (λh=>[Ch.box N0 94 (jn c N1 N3 N4),Ch.box N1 155 (dQ c.aM N2 A0 C0 A1 C1),Ch.box N2 153 (cL c.aM.slot M0),Ch.mp Ty.str false M0 c.aM.slot.parts,Ch.box N3 158 [.int .i64 c.lines.most,.int .i64 c.lines.now,.map M1],Ch.mp aE true M1 c.lines.l,Ch.box N4 161 (dM c.bF N5),Ch.box N5 106 [.slice A2 c.bF.want.l.length C2]]) (λh=>[]):=by
 delta fN at H
 refine Cf Go.Proofs.Tryz.func26 λK=> ?_
 refine Z2 ?_
 cases H
 exact Eo1 () [0,0,0,0,0,0,0,0] []
theorem og {n_:Int} {r:(List aB)} (H:fE n_=some r):CT G 158 [.slice none 0 0,.int .i64 n_] [] [] (λh:(Option Addr×Nat)=> .slice h.1 r.length h.2) (λh=>[Ch.arr aC 47 h.1 h.2 r]) (λh=>[]):=by
 delta fE at H
 refine Cf Go.Proofs.Tryz.func158 λK=> ?_
 refine Z3 ?_
 refine Tb H (λH2=> ?_) λH2=> ?_
 ·cases H2
 refine Z3 ?_
 have ⟨d,e,g⟩:=bnd H2
 refine Tjh (η:=(Option Addr×Nat)) (λh=>(λa b=>[(0,.slice a d.length b)]) h.1 h.2) [] (λh=>(λa b=>[Ch.arr aC 47 a b d]) h.1 h.2) [] (λ_=>[]) ?_ ?_
 ·refine Tb e (λc=> ?_) λc=> ?_
  ·refine Z0 ?_
   refine Ly (Yl.HY rfl rfl rfl rfl rfl rfl rfl) ?_
   refine Z0 ?_
   have ⟨_,i,j⟩:=bnd c
   refine La [] [] (Ac.gz (ty:=aC) (aB.mk 0 0) () i (λ_ _ f hf=>by cases hf) rfl rfl rfl rfl rfl rfl rfl rfl rfl rfl) ?_
   rintro ⟨k,l⟩
   refine Z0 ?_
   have ⟨_,m,n⟩:=bnd j
   refine La [0] [] (Ac.rso m rfl rfl rfl rfl rfl rfl rfl) λ_=> ?_
   refine Z0 ?_
   cases n
   exact Eg (k,l) trivial [0] [] 0
  refine Z0 ?_
  refine E.gK aC 47 ?_
  cases c
  exact Eg (none,0) trivial [0] [] 0
 rintro ⟨a,b⟩
 refine Z1 ?_
 cases g
 exact Eo1 (a,b) [0] []
theorem nJ {slices:List (List aB)} {r:(List aB)} (H:dO slices=some r):CT G 99 [.slice A0 slices.length C0] [] [Im.sl (Ty.slice aC) A0 C0 slices] (λh:(Option Addr×Nat)=> .slice h.1 r.length h.2) (λh=>[Ch.arr aC 47 h.1 h.2 r]) (λh=>[]):=by
 delta dO at H
 refine Cf Go.Proofs.Tryz.func99 λK=> ?_
 refine Z3 ?_
 refine Z1 ?_
 have ⟨n,o,p⟩:=bnd H
 refine Tj0 [(3,.int .i64 n)] [0] [] [] ?_ ?_
 ·refine Yl0 ?_
  refine Tq (η:=Unit) (λf h=>[(3,.int .i64 f.2),(11,.int .i64 f.1)]) [0,9,10] (λ_ _=>[]) [] (λ_ _=>[]) () [] [] o ?_
  rintro k_ f ⟨⟩ R q s t
  refine Y2 ?_
  refine Tb q (λg=> ?_) λg=> ?_
  ·refine Z1 ?_
   refine Zl ?_
   refine Z1 ?_
   have ⟨S,i,u⟩:=bnd g
   refine L.addr 0 rfl (bH i) λU V v=> ?_
   subst v
   refine Ly (Yl.ia i rfl rfl rfl rfl rfl rfl) ?_
   refine L.el 0 rfl (aI i).2 ?_
   rintro ⟨W,X⟩
   refine Lc 0 0 ?_
   refine Z2 ?_
   refine Tb u (λj=> ?_) λj=> ?_
   ·cases j
   refine Z0 ?_
   cases j
   exact Eg (_,()) (s _ rfl) [] [] 2
  refine Z0 ?_
  cases g
  have hb:=t _ rfl
  subst n
  exact Eg0 [] 0
 refine Z1 ?_
 have ⟨Y,w,x⟩:=bnd p
 refine Lk [] [] (og w) λ⟨y,z⟩=> ?_
 refine Z2 ?_
 have ⟨k,A,B⟩:=bnd x
 refine Tjh (η:=(Option Addr×Nat)) (λh=>(λa b=>[(6,.slice a k.length b)]) h.1 h.2) [] (λh=>(λa b=>[Ch.arr aC 47 a b k]) h.1 h.2) [] (λ_=>[]) ?_ ?_
 ·refine Yl0 ?_
  refine Tq (η:=(Option Addr×Nat)) (λc h=>(λd e=>[(6,.slice d c.2.length e),(27,.int .i64 c.1)]) h.1 h.2) [25,26] (λc h=>(λd e=>[Ch.arr aC 47 d e c.2]) h.1 h.2) [] (λ_ _=>[]) (y,z) [0] [] A ?_
  rintro k_ c ⟨d,e⟩ Z C F I
  refine Y2 ?_
  refine Tb C (λl=> ?_) λl=> ?_
  ·refine Z1 ?_
   refine Zl ?_
   refine Z1 ?_
   have ⟨aa,m,J⟩:=bnd l
   refine L.addr 0 rfl (bH m) λab ac M=> ?_
   subst M
   refine Ly (Yl.ia m rfl rfl rfl rfl rfl rfl) ?_
   refine L.el 0 rfl (aI m).2 ?_
   rintro ⟨ad,ae⟩
   refine Lc 0 0 ?_
   refine Z0 ?_
   have ⟨_,N,O⟩:=bnd J
   refine La [0] [1] (Ac.ap (ty:=aC) N rfl rfl rfl rfl rfl rfl rfl) ?_
   rintro ⟨P,Q⟩
   refine Z0 ?_
   cases O
   exact Eg (_,(P,Q)) (F _ rfl) [0] [] 2
  refine Z0 ?_
  cases l
  have hb:=I _ rfl
  subst k
  exact Eg (d,e) trivial [0] [] 0
 rintro ⟨a,b⟩
 refine Z1 ?_
 cases B
 exact Eo1 (a,b) [0] []
theorem m5 {s_:cA} {l:List aB} {r:cA} (H:gB s_ l=some r):CT G 46 [.pointer (some ⟨N0,0,none⟩),.slice A1 l.length C1] [Ch.box N0 106 [.slice A0 s_.l.length C0]] [Im.sl aC A0 C0 s_.l,Im.sl aC A1 C1 l] (λh:(Option Addr×Nat)=> .tuple #[]) (λh=>[Ch.box N0 106 [.slice h.1 r.l.length h.2]]) (λh=>[Im.sl aC h.1 h.2 r.l]):=by
 delta gB at H
 refine Cf Go.Proofs.Tryz.func46 λK=> ?_
 refine T.scope ?_
 refine Y1 ?_
 refine T.label ?_
 refine Z1 ?_
 have ⟨t,O,P⟩:=bnd H
 refine T.pc (η:=Unit×((Option Addr×Nat))) (λh=>True) (λh=>(λi j=>[]) h.2.1 h.2.2) (λh=>(λi j=>[Ch.box N0 106 [.slice i t.l.length j]]) h.2.1 h.2.2) (λh=>(λi j=>[Im.sl aC i j t.l,Im.sl aC A0 C0 s_.l,Im.sl aC A1 C1 l]) h.2.1 h.2.2) ?_ ?_
 ·refine Yl0 ?_
  refine Tq (η:=(Option Addr×Nat)) (λb h=>(λc d=>[(11,.int .i64 b.2)]) h.1 h.2) [0,9,10] (λb h=>(λc d=>[Ch.box N0 106 [.slice c b.1.l.length d]]) h.1 h.2) [] (λb h=>(λc d=>[Im.sl aC c d b.1.l]) h.1 h.2) (A0,C0) [0] [0] O ?_
  rintro k_ b ⟨c,d⟩ a6 Q R S
  refine Y2 ?_
  refine Tb Q (λu=> ?_) λu=> ?_
  ·refine Y1 ?_
   have ⟨F,U,V⟩:=bnd u
   refine Tjh (η:=(Option Addr×Nat)) (λ_=>[]) [0,9,10,11] (λh=>(λm n=>[Ch.box N0 106 [.slice m F.l.length n]]) h.1 h.2) [] (λh=>(λm n=>[Im.sl aC m n F.l]) h.1 h.2) ?_ ?_
   ·refine Zl ?_
    refine Z1 ?_
    have ⟨a7,v,W⟩:=bnd U
    refine L.addr 2 rfl (bH v) λa8 a9 X=> ?_
    subst X
    refine Ly (Yl.ia v rfl rfl rfl rfl rfl rfl) ?_
    refine L.el 2 rfl (aI v).2 ?_
    rintro _
    refine Lc 0 0 ?_
    refine Ll λw=> ?_
    refine Lt 0 ?_
    refine Z2 ?_
    have ⟨ba,Y,Z⟩:=bnd W
    refine Lk [] [] (mi Y) λ⟨⟩=> ?_
    refine Lt 0 ?_
    refine Z1 ?_
    have ⟨bb,aa,ab⟩:=bnd Z
    refine Lk [] [] (jF aa) λ⟨⟩=> ?_
    refine Z0 ?_
    refine Tb ab (λx=> ?_) λx=> ?_
    ·refine Z0 ?_
     cases x
     exact Eg (c,d) trivial [1] [1] 1
    refine Z3 ?_
    have ⟨y,ac,I⟩:=bnd x
    refine Tj (η:=((List aB)×aB)×((Option Addr×Nat))) (λh=>y = .inl h.1) (λh=>(λe=>(λq s=>[(6,.slice q e.1.length s)]) h.2.1 h.2.2) h.1) [0,5,9,10,11] (λh=>(λe=>(λq s=>[Ch.arr aC 47 q s e.1,Ch.box w 47 [.int .i64 e.2.from_,.int .i64 e.2.to]]) h.2.1 h.2.2) h.1) [1] (λ_=>[]) ?_ ?_
    ·refine Yl0 ?_
     refine T.gK aC 47 ?_
     refine Tq (η:=(Option Addr×Nat)) (λa h=>(λf g=>[(6,.slice f a.2.2.length g),(24,.int .i64 a.2.1)]) h.1 h.2) [0,5,9,10,11,22,23] (λa h=>(λf g=>[Ch.arr aC 47 f g a.2.2,Ch.box w 47 [.int .i64 a.1.from_,.int .i64 a.1.to]]) h.1 h.2) [2] (λ_ _=>[]) (none,0) [0,0,0] [] ac ?_
     rintro k_ a ⟨f,g⟩ ad ae af J
     refine Y2 ?_
     refine Tb ae (λz=> ?_) λz=> ?_
     ·refine Y1 ?_
      have ⟨M,ag,N⟩:=bnd z
      refine Tj (η:=((List aB)×aB)×((Option Addr×Nat))) (λh=>M = .inl h.1) (λh=>(λk=>(λo p=>[(6,.slice o k.1.length p)]) h.2.1 h.2.2) h.1) [0,5,9,10,11,22,23,24] (λh=>(λk=>(λo p=>[Ch.arr aC 47 o p k.1,Ch.box w 47 [.int .i64 k.2.from_,.int .i64 k.2.to]]) h.2.1 h.2.2) h.1) [2] (λ_=>[]) ?_ ?_
      ·refine Zl ?_
       refine Z1 ?_
       have ⟨ah,A,ai⟩:=bnd ag
       refine L.addr 1 rfl (bH A) λbc bd aj=> ?_
       subst aj
       refine Ly (Yl.ia A rfl rfl rfl rfl rfl rfl) ?_
       refine L.el 1 rfl (aI A).2 ?_
       rintro _
       refine Lc 0 0 ?_
       refine Ll λbe=> ?_
       refine Z0 ?_
       refine Lt 0 ?_
       refine Zl ?_
       refine Z1 ?_
       refine Tb ai (λB=> ?_) λB=> ?_
       ·refine Z0 ?_
        refine La [] [] (Ac.bs (ty:=aC) (xs:=[ah]) (.cons () [] rfl .nil) rfl rfl rfl rfl rfl rfl rfl) λbf=> ?_
        refine L.frz 0 rfl ?_
        have ⟨_,ak,al⟩:=bnd B
        refine La [1] [0] (Ac.ap (ty:=aC) ak rfl rfl rfl rfl rfl rfl rfl) ?_
        rintro ⟨am,an⟩
        refine Z0 ?_
        cases al
        exact Eg (_,(am,an)) rfl [0,1,1] [] 2
       refine Z1 ?_
       refine Tb B (λC=> ?_) λC=> ?_
       ·refine Y1 ?_
        refine Td [14] [0,1,1] mo ?_
        refine Dq 0 ?_
        refine Dq 1 ?_
        refine Db 2 1 ?_
        refine Dq 4 ?_
        refine Dq 5 ?_
        refine Dq 6 ?_
        refine Db 7 2 ?_
        refine Dq 8 ?_
        have ⟨_,ao,aq⟩:=bnd C
        refine D.rsl 2 9 ao rfl rfl rfl rfl rfl rfl rfl rfl rfl rfl rfl rfl rfl rfl ?_
        intro ar au
        refine Da [] [] rfl rfl (Ac.bs (ty:=aC) (xs:=[a.1]) (.cons () [] rfl .nil) rfl rfl rfl rfl rfl rfl rfl) λav=> ?_
        refine D.frz 1 rfl ?_
        refine D.frz 0 rfl ?_
        refine Da [] [1,0,2] rfl rfl (Ac.bs (ty:=(Ty.slice aC)) (xs:=[a.2.2,[a.1],(cut b.1.l a.2.1 (b.1.l.length:Int))]) (.cons (f,g) [0] rfl (.cons ((some ⟨av,0,none⟩),1) [1] rfl (.cons (ar,au) [2] rfl .nil))) rfl rfl rfl rfl rfl rfl rfl) λbg=> ?_
        refine D.frz 0 rfl ?_
        have ⟨bh,aw,ax⟩:=bnd aq
        refine Dk [] [0] (nJ aw) λ⟨ay,az⟩=> ?_
        refine Dq 12 ?_
        refine Dq 13 ?_
        refine Dt 2 ?_
        refine Dn ?_
        refine Z0 ?_
        obtain ⟨bi,hz,a0⟩:=ib ax
        subst M
        obtain rfl:=(sm N).symm
        refine Z0 ?_
        obtain ⟨bj,hz,a1⟩:=cF a0
        subst ad
        have hb:=J _ rfl
        subst y
        obtain rfl:=(sm I).symm
        refine Z0 ?_
        refine E.frz 3 rfl ?_
        cases a1
        exact Eg (ay,az) trivial [0] [0] 7
       refine Z0 ?_
       refine Lt 2 ?_
       refine Z0 ?_
       cases C
       exact Eg (_,(f,g)) rfl [2,0,1] [] 1
      rintro ⟨k,⟨o,p⟩⟩ hy
      subst hy
      refine Z0 ?_
      cases N
      exact Eg (_,(o,p)) (af _ rfl) [0,0,0] [] 0
     refine Z0 ?_
     cases z
     have hb:=J _ rfl
     subst y
     exact Eg (_,(f,g)) rfl [0,0,0] [] 0
    rintro ⟨e,⟨q,s⟩⟩ hy
    subst hy
    refine Z0 ?_
    refine La [] [] (Ac.bs (ty:=aC) (xs:=[e.2]) (.cons () [] rfl .nil) rfl rfl rfl rfl rfl rfl rfl) λbk=> ?_
    refine L.frz 0 rfl ?_
    have ⟨_,a2,a3⟩:=bnd I
    refine La [0] [0] (Ac.ap (ty:=aC) a2 rfl rfl rfl rfl rfl rfl rfl) ?_
    rintro ⟨a4,a5⟩
    refine Z0 ?_
    refine Lt 2 ?_
    refine Z0 ?_
    refine E.frz 1 rfl ?_
    cases a3
    exact Eg (a4,a5) trivial [0] [0] 3
   rintro ⟨m,n⟩
   refine Z0 ?_
   cases V
   exact Eg (_,(m,n)) (R _ rfl) [0] [0] 2
  refine Z0 ?_
  cases u
  have hb:=S _ rfl
  subst t
  exact Egx ((),(c,d)) trivial [0] [0,1,2]
 rintro ⟨_,⟨i,j⟩⟩ _
 refine E.scn ?_
 refine E.off ?_
 cases P
 exact Eo (i,j) [0] [0] .nil
theorem kG {s_:List aB} (a_0:Option Addr) (c_0:Nat) {r:List aB} (H:eT s_=some r):CT G 157 [.slice a_0 s_.length c_0] [] [Im.sl aC a_0 c_0 s_] (λh:(Option Addr×Nat)=> .slice h.1 r.length h.2) (λh=>[Ch.arr aC 47 h.1 h.2 r]) (λh=>[]):=by
  delta eT at H
  refine Cf Go.Proofs.Tryz.func157 λK=> ?_
  have ⟨_,h0,H⟩:=bnd H
  have hr:=Option.some.inj H
  refine T.seq (T.region (L.q 1 rfl (L.nil (E.then (T.seq (T.seq (T.region ?_)))))))
  refine L.q 1 rfl ?_
  refine L.GH 0 rfl rfl rfl rfl rfl rfl rfl rfl rfl (λha hx=> ?_) ?_
  · refine L.nil (E.then (T.cond rfl (λ_=> ?_) (λh=>nomatch h)))
    refine T.seq (T.region (L.q 1 rfl (L.nil (E.then (T.ret (E.qU ?_))))))
    subst hx
    subst r
    refine E.gK aC 47 ?_
    exact E.ret (none,0) [0] [] (.tmp rfl .nil) rfl rfl rfl
  · refine L.nil (E.then (T.cond rfl (λh=>nomatch h) (λ_=> ?_)))
    refine T.skip (E.then (T.seq (T.region ?_)))
    refine L.a [] [] (Ac.bs (ty:=aC) (xs:=[]) .nil rfl rfl rfl rfl rfl rfl rfl) rfl rfl rfl rfl rfl ?_
    intro g1
    refine L.q 1 rfl ?_
    refine L.a [0] [0] (Ac.ap (ty:=aC) h0 rfl rfl rfl rfl rfl rfl rfl) rfl rfl rfl rfl rfl ?_
    rintro ⟨a1,c1⟩
    refine L.q 1 rfl ?_
    refine L.nil (E.then (T.ret ?_))
    subst r
    exact E.ret (a1,c1) [0] [] (.tmp rfl .nil) rfl rfl rfl
theorem n4 {s_:cA} {r:(List aB)} (H:ka s_=some r):CT G 96 [.pointer (some ⟨N0,0,none⟩)] [Ch.box N0 106 [.slice A0 s_.l.length C0]] [Im.sl aC A0 C0 s_.l] (λh:(Option Addr×Nat)=> .slice h.1 r.length h.2) (λh=>[Ch.arr aC 47 h.1 h.2 r,Ch.box N0 106 [.slice A0 s_.l.length C0]]) (λh=>[]):=by
 delta ka at H
 refine Cf Go.Proofs.Tryz.func96 λK=> ?_
 refine Z2 ?_
 have ⟨r1,h2,H3⟩:=bnd H
 refine Lk [] [0] (kG A0 C0 h2) λ⟨a4,c5⟩=> ?_
 refine Z0 ?_
 cases H3
 exact Eo1 (a4,c5) [0,0] []
theorem m8 {c:aR} (g_0:Nat) (v_0_0:Option Nat) {r:(List aB)} (H:dN c=some r):CT G 45 [.pointer (some ⟨g_0,0,none⟩)] [Ch.box g_0 158 [.int .i64 c.most,.int .i64 c.now,.map v_0_0],Ch.mp aE true v_0_0 c.l] [] (λh:(Option Addr×Nat)=> .slice h.1 r.length h.2) (λh=>[Ch.arr aC 47 h.1 h.2 r,Ch.box g_0 158 [.int .i64 c.most,.int .i64 c.now,.map v_0_0],Ch.mp aE true v_0_0 c.l]) (λh=>[]):=by
  delta dN at H
  have ⟨_,h1,H2⟩:=bnd H
  have ⟨s1,h3,H4⟩:=bnd H2
  refine Cf Go.Proofs.Tryz.func45 λK=> ?_
  refine Z2 ?_
  refine Ll λg1=> ?_
  refine Z2 ?_
  refine La [2] [] (Ac.Ib h1 rfl rfl rfl rfl) λg5=> ?_
  refine Yl0 ?_
  refine T.dA [Im.sl aC none 0 []] (λA w _ _ f hf=>by rw [List.mem_singleton.1 hf]; exact Im.bW A w) ?_
  refine T.lpm (η:=(Option Addr×Nat)) (λR s h=>[(3,.pointer (some ⟨g1,0,none⟩)),(9,.pointer (some ⟨g5,0,none⟩))]) (λR s h=>[Ch.mit aE true v_0_0 (c.l.getD []) g5 R none,Ch.box g1 106 [.slice h.1 s.l.length h.2],Ch.box g_0 158 [.int .i64 c.most,.int .i64 c.now,.map v_0_0]]) (λR s h=>[Im.sl aC h.1 h.2 s.l]) (none,0) [0,0,0] [0] h3 ⟨rfl,rfl,trivial⟩ rfl rfl ?_
  rintro R s ⟨a,c⟩ hA hB
  refine Z1 ?_
  refine La [0] [] (Ac.mnx rfl rfl) λz=> ?_
  rcases z with hR | ⟨k,x,R',hR,u1,u2⟩
  · refine Z1 ?_
    obtain ⟨z,hz,hr⟩:=hA hR
    cases hz
    have e:=hr _ rfl
    subst e
    refine T.cond rfl (λh=>nomatch h) (λ_=> ?_)
    refine T.Ic h1 [0] rfl ?_
    refine Z1 ?_
    refine Lk [1] [0] (n4 H4) λ⟨a2,c2⟩=> ?_
    refine Z0 ?_
    exact Eo1 (a2,c2) [0,2,1] []
  refine Z1 ?_
  obtain ⟨z,hz,hr,hb⟩:=hB _ _ hR
  refine T.cond rfl (λ_=> ?_) (λh=>nomatch h)
  refine Zl ?_
  refine Z1 ?_
  refine La [0] [] (Ac.men rfl rfl) λu=> ?_
  refine Z0 ?_
  refine La [] [] (Ac.bs (ty:=aC) (xs:=[aB.mk k (IntKind.i64.wrap (k+1))]) (.cons () [] rfl .nil) rfl rfl rfl rfl rfl rfl rfl) λg7=> ?_
  refine L.frz 0 rfl ?_
  have ⟨s2,h5,h6⟩:=bnd hz
  refine Lk [1] [1,0] (m5 h5) λ⟨a2,c2⟩=> ?_
  refine Z0 ?_
  cases h6
  exact Egx ((R',s2),(a2,c2)) (hr _ rfl) [1,0,0] [0]
theorem nK {c:aR} {i:Int} {r:(List aN)×Bool} (H:eM c i=some r):CT G 102 [.pointer (some ⟨N0,0,none⟩),.int .i64 i] [Ch.box N0 158 [.int .i64 c.most,.int .i64 c.now,.map M0],Ch.mp aE true M0 c.l] [] (λh:(Option Addr×Nat)=> .tuple #[.slice h.1 r.1.length h.2,.bool r.2]) (λh=>[Ch.arr aH 149 h.1 h.2 r.1,Ch.box N0 158 [.int .i64 c.most,.int .i64 c.now,.map M0],Ch.mp aE true M0 c.l]) (λh=>[]):=by
 delta eM at H
 refine Cf Go.Proofs.Tryz.func102 λK=> ?_
 refine Z2 ?_
 refine La [1] [] (Ac.ml (ty:=aE) (ag:=true) (vv:=(λh:(Option Addr×Nat)=>(λa1 c2=> .agg #[.slice a1 ((mgd c.l i (CacheEntry.mk ([]:List aN) 0)).l).length c2,.int .i64 ((mgd c.l i (CacheEntry.mk ([]:List aN) 0)).at_)]) h.1 h.2)) i (CacheEntry.mk ([]:List aN) 0) (none,0) rfl rfl rfl rfl rfl rfl rfl rfl rfl (λ_ _ f hf=>by rw [List.mem_singleton.1 hf]; exact Im.bW _ _) qe (λ_=>rfl)) ?_
 rintro ⟨a1,c2⟩
 refine Z0 ?_
 refine Ll λg4=> ?_
 refine Lt 0 ?_
 refine Z1 ?_
 have ⟨r5,h6,H7⟩:=bnd H
 refine Lk [] [0] (iR a1 c2 h6) λ⟨a8,c9⟩=> ?_
 refine Z0 ?_
 cases H7
 exact Eo (a8,c9) [0,2,1] [] (.tmp rfl (.tmp rfl .nil))
theorem ss {c:aR} {i:Int} {r:(List aN)×Bool×aR} (H:eY c i=some r):CT G 48 [.pointer (some ⟨N0,0,none⟩),.int .i64 i] [Ch.box N0 158 [.int .i64 c.most,.int .i64 c.now,.map M0],Ch.mp aE true M0 c.l] [] (λh:(Option Addr×Nat)=> .tuple #[.slice h.1 r.1.length h.2,.bool r.2.1]) (λh=>[Ch.arr aH 149 h.1 h.2 r.1,Ch.box N0 158 [.int .i64 r.2.2.most,.int .i64 r.2.2.now,.map M0],Ch.mp aE true M0 r.2.2.l]) (λh=>[]):=by
 delta eY at H
 refine Cf Go.Proofs.Tryz.func48 λK=> ?_
 refine Z3 ?_
 refine La [1] [] (Ac.ml (ty:=aE) (ag:=true) (vv:=(λh:(Option Addr×Nat)=>(λa1 c2=> .agg #[.slice a1 ((mgd c.l i (CacheEntry.mk ([]:List aN) 0)).l).length c2,.int .i64 ((mgd c.l i (CacheEntry.mk ([]:List aN) 0)).at_)]) h.1 h.2)) i (CacheEntry.mk ([]:List aN) 0) (none,0) rfl rfl rfl rfl rfl rfl rfl rfl rfl (λ_ _ f hf=>by rw [List.mem_singleton.1 hf]; exact Im.bW _ _) qe (λ_=>rfl)) ?_
 rintro ⟨a1,c2⟩
 refine Z0 ?_
 refine Ll λg4=> ?_
 refine Lt 0 ?_
 refine Z1 ?_
 have ⟨a,d,e⟩:=bnd H
 refine Tj0 [] [0,1] [Ch.mp aE true M0 a.l,Ch.box N0 158 [.int .i64 a.most,.int .i64 a.now,.map M0]] [0] ?_ ?_
 ·refine Tb d (λb=> ?_) λb=> ?_
  ·refine Z0 ?_
   have ⟨p,g,j⟩:=bnd b
   refine Lk [2,1] [0] (m7 g) λ⟨⟩=> ?_
   refine Z0 ?_
   cases j
   exact Eg0 [1,0,0] 0
  refine Z0 ?_
  cases b
  exact Eg0 [1,1,0] 0
 refine Z1 ?_
 have ⟨q,k,m⟩:=bnd e
 refine Lk [1,0] [] (nK k) λ⟨n,o⟩=> ?_
 refine Z0 ?_
 cases m
 exact Eo (n,o) [0,0,0] [] (.tmp rfl (.tmp rfl .nil))
theorem tQ {s_:cA} {r:Int} (H:jJ s_=some r):CT G 104 [.pointer (some ⟨N0,0,none⟩)] [Ch.box N0 106 [.slice A0 s_.l.length C0]] [Im.sl aC A0 C0 s_.l] (λ_:Unit=> .int .i64 r) (λh=>[Ch.box N0 106 [.slice A0 s_.l.length C0]]) (λh=>[]):=by
 delta jJ at H
 refine Cf Go.Proofs.Tryz.func104 λK=> ?_
 refine Z3 ?_
 refine Z1 ?_
 have ⟨d,e,f⟩:=bnd H
 refine Tj0 [(3,.int .i64 d)] [] [] [0] ?_ ?_
 ·refine Yl0 ?_
  refine Tq (η:=Unit) (λa h=>[(3,.int .i64 a.2),(11,.int .i64 a.1)]) [9,10] (λ_ _=>[]) [0] (λ_ _=>[]) () [0] [] e ?_
  rintro k_ a ⟨⟩ n g i j
  refine Y2 ?_
  refine Tb g (λb=> ?_) λb=> ?_
  ·refine Z1 ?_
   refine Zl ?_
   refine Z1 ?_
   have ⟨o,c,k⟩:=bnd b
   refine L.addr 0 rfl (bH c) λp q m=> ?_
   subst m
   refine Ly (Yl.ia c rfl rfl rfl rfl rfl rfl) ?_
   refine L.el 0 rfl (aI c).2 ?_
   rintro _
   refine Lc 0 0 ?_
   refine Ll λs=> ?_
   refine Lt 0 ?_
   refine Z0 ?_
   cases k
   exact Eg (_,()) (i _ rfl) [1] [] 1
  refine Z0 ?_
  cases b
  have hb:=j _ rfl
  subst d
  exact Eg0 [0] 0
 refine Z1 ?_
 cases f
 exact Eo1 () [0] []
theorem qS {f:bE} {x_:aB} {aJ:List aB} {r:Int×bE} (H:eN f x_ aJ=some r):CT G 49 [.pointer (some ⟨N0,0,none⟩),.agg #[.int .i64 x_.from_,.int .i64 x_.to],.slice A1 aJ.length C1] [Ch.box N0 161 (dM f N1),Ch.box N1 106 [.slice A0 f.want.l.length C0]] [Im.sl aC A0 C0 f.want.l,Im.sl aC A1 C1 aJ] (λh:Nat×(Option Addr×Nat)=> .int .i64 r.1) (λh=>[Ch.box N0 161 (dM r.2 h.1),Ch.box h.1 106 [.slice h.2.1 r.2.want.l.length h.2.2]]) (λh=>[Im.sl aC h.2.1 h.2.2 r.2.want.l]):=by
 delta eN at H
 refine Cf Go.Proofs.Tryz.func49 λK=> ?_
 refine Z1 ?_
 refine Lx λg1=> ?_
 refine Y1 ?_
 refine Td [7] [0,0,0] mo ?_
 refine Dq 0 ?_
 refine Db 1 0 ?_
 refine Dq 3 ?_
 refine Db 4 0 ?_
 have ⟨a,b,c⟩:=bnd H
 refine Dk [] [] (ns b) λ⟨⟩=> ?_
 have ⟨d,e,g⟩:=bnd c
 refine Dk [] [] (ns e) λ⟨⟩=> ?_
 refine Dq 6 ?_
 refine Dt 0 ?_
 refine Dn ?_
 refine Y1 ?_
 refine Td [11] [0,0,0] mo ?_
 refine Dq 0 ?_
 refine Db 1 0 ?_
 refine Dq 2 ?_
 refine Db 3 0 ?_
 refine Dq 4 ?_
 refine Dq 5 ?_
 refine Dq 6 ?_
 refine Db 7 1 ?_
 refine Dq 8 ?_
 refine Dq 9 ?_
 refine Dq 10 ?_
 refine Dt 0 ?_
 refine Dn ?_
 refine Z1 ?_
 have ⟨v,i,j⟩:=bnd g
 refine Lk [1,1] [0] (m6 i) λ⟨k,⟨w,x⟩⟩=> ?_
 refine Y1 ?_
 refine Td [] [0,1] mo ?_
 refine Dq 0 ?_
 refine Dq 1 ?_
 refine Dq 2 ?_
 refine Db 3 0 ?_
 refine Db 4 1 ?_
 refine Da [] [] rfl rfl (Ac.bs (ty:=aC) (xs:=[(aB.mk a (cD d (IntKind.i64.wrap (a+f.most))))]) (.cons () [] rfl .nil) rfl rfl rfl rfl rfl rfl rfl) λy=> ?_
 refine D.frz 0 rfl ?_
 have ⟨z,m,n⟩:=bnd j
 refine Dk [0] [1,0] (m5 m) λ⟨A,B⟩=> ?_
 refine Dn ?_
 refine Z1 ?_
 have ⟨C,o,p⟩:=bnd n
 refine Lk [2] [0,4] (o6 o) λ⟨q,s⟩=> ?_
 refine Z1 ?_
 have ⟨F,t,u⟩:=bnd p
 refine Lk [0] [0] (tQ t) λ⟨⟩=> ?_
 refine Z0 ?_
 cases u
 exact Eo1 (k,(q,s)) [1,0] [0]
theorem mV {c:aF} {from_:Int} {to:Int} {r:Int×aF} (H:dW c from_ to=some r):CT G 16 [.pointer (some ⟨N0,0,none⟩),.int .i64 from_,.int .i64 to] [Ch.box N0 94 (jn c N1 N3 N4),Ch.box N1 155 (dQ c.aM N2 A0 C0 A1 C1),Ch.box N2 153 (cL c.aM.slot M0),Ch.mp Ty.str false M0 c.aM.slot.parts,Ch.box N3 158 [.int .i64 c.lines.most,.int .i64 c.lines.now,.map M1],Ch.mp aE true M1 c.lines.l,Ch.box N4 161 (dM c.bF N5),Ch.box N5 106 [.slice A2 c.bF.want.l.length C2]] [Im.sl aT A0 C0 c.aM.aJ.rows,Im.sl aH A1 C1 c.aM.aJ.begun,Im.sl aC A2 C2 c.bF.want.l] (λh:Nat×(Option Addr×Nat)=> .int .i64 r.1) (λh=>[Ch.box N0 94 (jn r.2 N1 N3 N4),Ch.box N1 155 (dQ r.2.aM N2 A0 C0 A1 C1),Ch.box N2 153 (cL r.2.aM.slot M0),Ch.mp Ty.str false M0 r.2.aM.slot.parts,Ch.box N3 158 [.int .i64 r.2.lines.most,.int .i64 r.2.lines.now,.map M1],Ch.mp aE true M1 r.2.lines.l,Ch.box N4 161 (dM r.2.bF h.1),Ch.box h.1 106 [.slice h.2.1 r.2.bF.want.l.length h.2.2]]) (λh=>[Im.sl aT A0 C0 r.2.aM.aJ.rows,Im.sl aH A1 C1 r.2.aM.aJ.begun,Im.sl aC h.2.1 h.2.2 r.2.bF.want.l]):=by
 delta dW at H
 refine Cf Go.Proofs.Tryz.func16 λK=> ?_
 refine Z2 ?_
 have ⟨r1,h2,H3⟩:=bnd H
 refine Lk [] [] (jU h2) λ⟨⟩=> ?_
 refine Z0 ?_
 have ⟨r4,h5,H6⟩:=bnd H3
 refine Lk [] [] (jU h5) λ⟨⟩=> ?_
 refine Z2 ?_
 have ⟨r7,h8,H9⟩:=bnd H6
 refine Lk [4,4] [] (m8 N3 M1 h8) λ⟨n,o⟩=> ?_
 refine Z1 ?_
 refine Ll λx=> ?_
 refine Z1 ?_
 refine L.dA [Im.sl aC none 0 []] (λA w _ _ f hf=>by rw [List.mem_singleton.1 hf]; exact Im.bW A w) ?_
 refine L.frz 1 rfl ?_
 have ⟨p,y,z⟩:=bnd H9
 refine Lk [0] [1,0] (m5 y) λ⟨q,s⟩=> ?_
 refine Z2 ?_
 have ⟨i,B,C⟩:=bnd z
 refine Lk [0] [0] (pE B) λ⟨ae,t⟩=> ?_
 refine Z0 ?_
 have ⟨d,F,I⟩:=bnd C
 refine Tj0 [] [0,1,2,7] [Ch.mp aE true M1 d.l,Ch.box N3 158 [.int .i64 d.most,.int .i64 d.now,.map M1]] [1,4,5,6,8,9,7] ?_ ?_
 ·refine Yl0 ?_
  refine Tq (η:=Unit) (λa h=>[(37,.int .i64 a.2)]) [0,1,2,7,35,36] (λa h=>[Ch.mp aE true M1 a.1.l,Ch.box N3 158 [.int .i64 a.1.most,.int .i64 a.1.now,.map M1]]) [1,4,5,6,8,9,0,7] (λ_ _=>[]) () [3,2,1,1,1,1,2,2,0,0] [] F ?_
  rintro k_ a ⟨⟩ af J M N
  refine Y2 ?_
  refine Tb J (λj=> ?_) λj=> ?_
  ·refine Z1 ?_
   refine Zl ?_
   refine Z1 ?_
   have ⟨e,k,O⟩:=bnd j
   refine L.iZ 8 rfl (bH k) λu P=> ?_
   subst P
   refine Ly (Yl.ia k rfl rfl rfl rfl rfl rfl) ?_
   refine Ly (Yl.lo (v:= .agg #[.int .i64 e.from_,.int .i64 e.to]) 8 a.2.toNat 0 (aI k).2 rfl rfl rfl rfl (λ_=>rfl)) ?_
   refine Ll λQ=> ?_
   refine Lt 0 ?_
   refine Z1 ?_
   have ⟨g,R,S⟩:=bnd O
   refine T.pc (η:=Unit×Unit) (λh=>True) (λh=>[(0,.pointer (some ⟨N0,0,none⟩)),(1,.int .i64 r1),(2,.int .i64 (cD r4 (IntKind.i64.wrap (r1+c.config.cache)))),(7,.slice n r7.length o),(35,.slice (some ⟨u,0,none⟩) i.length t),(36,.int .i64 (i.length:Int)),(37,.int .i64 a.2)]) (λh=>[Ch.mp aE true M1 g.l,Ch.box N3 158 [.int .i64 g.most,.int .i64 g.now,.map M1],Ch.box Q 47 [.int .i64 e.from_,.int .i64 e.to],Ch.box x 106 [.slice q p.l.length s],Ch.box N0 94 (jn c N1 N3 N4),Ch.box N1 155 (dQ c.aM N2 A0 C0 A1 C1),Ch.box N2 153 (cL c.aM.slot M0),Ch.box N4 161 (dM c.bF N5),Ch.box N5 106 [.slice A2 c.bF.want.l.length C2],Ch.arr aC 47 (some ⟨u,0,none⟩) t i,Ch.mp Ty.str false M0 c.aM.slot.parts]) (λh=>[Im.sl aC q s p.l,Im.sl aC n o r7,Im.sl aC none 0 [],Im.sl aT A0 C0 c.aM.aJ.rows,Im.sl aH A1 C1 c.aM.aJ.begun,Im.sl aC A2 C2 c.bF.want.l]) ?_ ?_
   ·refine Yl0 ?_
    refine Tq (η:=Unit) (λb h=>[(11,.int .i64 b.2)]) [0,1,2,7,10,35,36,37] (λb h=>[Ch.mp aE true M1 b.1.l,Ch.box N3 158 [.int .i64 b.1.most,.int .i64 b.1.now,.map M1]]) [0,3,4,5,6,7,8,9,10] (λ_ _=>[]) () [1,1,0,0,0,0,0,0,0,0,0] [] R ?_
    rintro k_ b ⟨⟩ ag U V W
    refine Z2 ?_
    refine Tb U (λm=> ?_) λm=> ?_
    ·refine Z1 ?_
     refine Zl ?_
     have ⟨ah,X,Y⟩:=bnd m
     refine Lk [1,0] [] (ss X) λ⟨ai,aj⟩=> ?_
     refine Z0 ?_
     cases Y
     exact Eg (_,()) (V _ rfl) [2,1,1,1,1,1,1,1,1,1,1] [] 0
    refine Z0 ?_
    cases m
    have hb:=W _ rfl
    subst g
    exact Egx ((),()) trivial [0,0,0,0,0,0,0,0,0,0,0] [0,1,2,3,4,5]
   rintro ⟨_,⟨⟩⟩ _
   refine Z0 ?_
   cases S
   exact Eg (_,()) (M _ rfl) [0,0,1,1,1,1,1,1,1,1] [] 0
  refine Z0 ?_
  cases j
  have hb:=N _ rfl
  subst d
  exact Eg0 [0,0,0,0,0,0,0,0,1] 0
 refine Z1 ?_
 have ⟨ak,Z,aa⟩:=bnd I
 refine Lk [6,6] [5,1] (qS Z) λ⟨ab,⟨ac,ad⟩⟩=> ?_
 refine Z0 ?_
 cases aa
 exact Eo1 (ab,(ac,ad)) [5,5,5,5,3,2,0,0] [4,5,0]
theorem vI {r:Bool} (H:kR=some r):CT G 8 [] [] [Im.sl (Ty.int .u32) (some ⟨0,0,none⟩) 16 dD] (λ_:Unit=> .bool r) (λh=>[]) (λh=>[]):=by
 delta kR at H
 refine Cf Go.Proofs.Tryz.func8 λK=> ?_
 refine Z2 ?_
 have ⟨r1,h2,H3⟩:=bnd H
 refine Lk [] [] (rS h2) λ⟨g4,g5,g6,v7,⟨a8,c9⟩,⟨af,ag⟩,s,t,u,ah,⟨ai,aj⟩⟩=> ?_
 refine Z2 ?_
 refine Ly (Yl.pn rfl rfl rfl rfl rfl rfl) ?_
 refine Z0 ?_
 refine T.cond rfl (λh=>nomatch h) (λ_=> ?_)
 refine Z1 ?_
 have ⟨ak,C,F⟩:=bnd H3
 refine Lk [0,0,0,0,0,0,0,0] [0,1,2,3] (mR C) λ⟨al,am⟩=> ?_
 refine Z2 ?_
 refine Tb F (λi=> ?_) λi=> ?_
 ·refine Z1 ?_
  cases i
  exact Eo1 () [] []
 refine Z1 ?_
 have ⟨I,j,J⟩:=bnd i
 refine L.iZ 0 rfl (bH j) λan M=> ?_
 subst M
 refine Ly (Yl.ia j rfl rfl rfl rfl rfl rfl) ?_
 refine Ly (Yl.lo (v:= .string I) 0 ((0:Int).toNat) 0 (aI j).2 rfl rfl rfl rfl (λ_=>rfl)) ?_
 have ⟨ao,N,O⟩:=bnd J
 refine Lk [] [6] (rY N) λ⟨ap,aq⟩=> ?_
 refine Z0 ?_
 refine Ll λar=> ?_
 refine Lt 0 ?_
 refine Z1 ?_
 refine La [] [] (Ac.bs (ty:=(Ty.int .i64)) (xs:=[0,0]) (.cons () [] rfl (.cons () [] rfl .nil)) rfl rfl rfl rfl rfl rfl rfl) λau=> ?_
 refine Z0 ?_
 refine L.frz 0 rfl ?_
 have ⟨av,P,Q⟩:=bnd O
 refine Lk [] [0,8] (oH P) λ⟨⟩=> ?_
 have ⟨aw,R,S⟩:=bnd Q
 refine Lk [2,2,2,2,2,2,2,2] [2,3,4,8] (mT R) λ⟨w,x,⟨y,z⟩,⟨A,B⟩,b,⟨c,d⟩⟩=> ?_
 refine Y1 ?_
 have ⟨a,U,V⟩:=bnd S
 refine Tjh (η:=Nat×(Option Addr×Nat)) (λh=>(λe f g=>[(0,.bool a.1)]) h.1 h.2.1 h.2.2) [] (λh=>(λe f g=>[Ch.mp Ty.str false x a.2.aM.slot.parts,Ch.mp aE true t a.2.lines.l,Ch.box g4 94 (jn a.2 g5 s u),Ch.box g5 155 (dQ a.2.aM w y z A B),Ch.box w 153 (cL a.2.aM.slot x),Ch.box s 158 [.int .i64 a.2.lines.most,.int .i64 a.2.lines.now,.map t],Ch.box u 161 (dM a.2.bF e),Ch.box e 106 [.slice f a.2.bF.want.l.length g]]) h.1 h.2.1 h.2.2) [8] (λh=>(λe f g=>[Im.sl aT y z a.2.aM.aJ.rows,Im.sl aH A B a.2.aM.aJ.begun,Im.sl aC f g a.2.bF.want.l]) h.1 h.2.1 h.2.2) ?_ ?_
 ·refine Z0 ?_
  refine Lw 29 U (λk=> ?_) λk=> ?_
  ·refine Z0 ?_
   refine Lw 34 k (λm=> ?_) λm=> ?_
   ·refine Z0 ?_
    refine Lw 39 m (λn=> ?_) λn=> ?_
    ·refine Z0 ?_
     refine Lw 43 n (λo=> ?_) λo=> ?_
     ·refine Z0 ?_
      have ⟨ax,W,X⟩:=bnd o
      refine Lk [0,0,0,0,0,0,0,0] [0,1,2] (lU W) λ⟨⟩=> ?_
      refine Z0 ?_
      refine Lw 48 X (λp=> ?_) λp=> ?_
      ·refine Z0 ?_
       have ⟨ay,Y,Z⟩:=bnd p
       refine Lk [0,0,0,0,0,0,0,0] [0,1,2] (mU Y) λ⟨⟩=> ?_
       refine Z0 ?_
       refine Lw 53 Z (λq=> ?_) λq=> ?_
       ·refine Z0 ?_
        have ⟨az,aa,ab⟩:=bnd q
        refine Lk [0,0,0,0,0,0,0,0] [0,1,2] (mV aa) λ⟨ac,⟨ad,ae⟩⟩=> ?_
        refine Z0 ?_
        cases ab
        exact Eg (ac,(ad,ae)) trivial [3,4,0,0,0,0,0,0,0] [0,1,2] 3
       refine Z0 ?_
       cases q
       exact Eg (b,(c,d)) trivial [3,4,0,0,0,0,0,0,0] [0,1,2] 0
      refine Z0 ?_
      cases p
      exact Eg (b,(c,d)) trivial [3,4,0,0,0,0,0,0,0] [0,1,2] 0
     refine Z0 ?_
     cases o
     exact Eg (b,(c,d)) trivial [3,4,0,0,0,0,0,0,0] [0,1,2] 0
    refine Z0 ?_
    cases n
    exact Eg (b,(c,d)) trivial [3,4,0,0,0,0,0,0,0] [0,1,2] 0
   refine Z0 ?_
   cases m
   exact Eg (b,(c,d)) trivial [3,4,0,0,0,0,0,0,0] [0,1,2] 0
  refine Z0 ?_
  cases k
  exact Eg (b,(c,d)) trivial [3,4,0,0,0,0,0,0,0] [0,1,2] 0
 rintro ⟨e,⟨f,g⟩⟩
 refine Z0 ?_
 cases V
 exact Eo1 () [] []
theorem yZ {s_:ByteArray} {n_:Int} {r:ByteArray} (H:lj s_ n_=some r):CT G 12 [.string s_,.int .i64 n_] [] [] (λ_:Unit=> .string r) (λh=>[]) (λh=>[]):=by
 delta lj at H
 refine Cf Go.Proofs.Tryz.func12 λK=> ?_
 refine Z3 ?_
 refine Tb H (λH4=> ?_) λH4=> ?_
 ·refine Z1 ?_
  have ⟨_,h5,H6⟩:=bnd H4
  refine Ly (Yl.sc h5 rfl rfl rfl rfl rfl rfl) ?_
  refine Z0 ?_
  cases H6
  exact Eo1 () [] []
 refine Z1 ?_
 cases H4
 exact Eo1 () [] []
end Go.Tw.X

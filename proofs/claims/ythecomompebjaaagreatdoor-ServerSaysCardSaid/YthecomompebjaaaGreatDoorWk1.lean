import Derived.Test.YthecomompebjaaaGreatDoorFw2
import Derived.Test.YthecomompebjaaaGreatDoorProg
import Derived.Test.YthecomompebjaaaGreatDoorXp1
set_option maxHeartbeats 2000000
set_option linter.unusedVariables false
set_option linter.unusedSimpArgs false
set_option maxRecDepth 10000
namespace Go.Tw.X
open Go Go.Tw
def s9:Ty oR:=⟨3,Unit,λx h=>[.int .i64 x.part,.int .i64 x.every,.int .i64 x.most],λx h=>[],λ_ _=>rfl,by simp [Value.oneCell']⟩
def td:Ty gp:=⟨7,Unit,λx h=>[.int .i64 x.bH,.int .i64 x.w,.int .i64 x.h,.int .i64 x.to,.int .i64 x.aP.part,.int .i64 x.aP.every,.int .i64 x.aP.most],λx h=>[],λ_ _=>rfl,by simp [Value.oneCell']⟩
def uE:Ty cU:=⟨4,Unit,λx h=>[.int .i64 x.kind,.string x.text,.int .i64 x.w,.int .i64 x.h],λx h=>[],λ_ _=>rfl,by simp [Value.oneCell']⟩
def nh:Ty nF:=⟨8,Unit,λx h=>[.int .i64 x.kind,.int .i64 x.later,.int .i64 x.from_,.string x.text,.int .i64 x.event.kind,.string x.event.text,.int .i64 x.event.w,.int .i64 x.event.h],λx h=>[],λ_ _=>rfl,by simp [Value.oneCell']⟩
def gQ:Ty fH:=⟨2,Unit,λx h=>[.int .i64 x.to,.string x.data],λx h=>[],λ_ _=>rfl,by simp [Value.oneCell']⟩
def fZ:Ty aV:=⟨4,(Option Addr×Nat),λx h=>[.int .i64 x.bH,.int .i64 x.kind,.slice h.1 x.aW.length h.2,.string x.data],λx h=>[Im.sl (Ty.int .i64) h.1 h.2 x.aW],λ_ _=>rfl,by simp [Value.oneCell']⟩
def aT:Ty aH:=⟨3,Unit,λx h=>[.int .i32 x.rune,.int .i64 x.aO,.int .i64 x.part],λx h=>[],λ_ _=>rfl,by simp [Value.oneCell']⟩
def aD:Ty aG:=⟨2,(Option Addr×Nat),λx h=>[.slice h.1 x.cells.length h.2,.bool x.wrapped],λx h=>[Im.sl aT h.1 h.2 x.cells],λ_ _=>rfl,by simp [Value.oneCell']⟩
def aC:Ty aJ:=⟨2,Unit,λx h=>[.int .i32 x.rune,.int .i64 x.aO],λx h=>[],λ_ _=>rfl,by simp [Value.oneCell']⟩
def bE:Ty aL:=⟨10,(Option Addr×Nat)×(Option Addr×Nat),λx h=>[.int .i64 x.k,.int .i64 x.w,.int .i64 x.h,.int .i64 x.x,.int .i64 x.y,.string x.title,.slice h.1.1 x.rows.length h.1.2,.int .i64 x.len,.int .i64 x.chain,.slice h.2.1 x.begun.length h.2.2],λx h=>[Im.sl aD h.1.1 h.1.2 x.rows,Im.sl aC h.2.1 h.2.2 x.begun],λ_ _=>rfl,by simp [Value.oneCell']⟩
def gu:Ty dK:=⟨2,Unit,λx h=>[.int .i64 x.from_,.int .i64 x.to],λx h=>[],λ_ _=>rfl,by simp [Value.oneCell']⟩
def bL:Ty bC:=⟨6,(Option Addr×Nat),λx h=>[.int .i64 x.kind,.int .i32 x.rune,.int .u8 x.byte,.bool x.dZ,.slice h.1 x.aW.length h.2,.string x.text],λx h=>[Im.sl (Ty.int .i64) h.1 h.2 x.aW],λ_ _=>rfl,by simp [Value.oneCell']⟩
def cD:Ty iq:=⟨2,Unit,λx h=>[.int .i32 x.from_,.int .i32 x.to],λx h=>[],λ_ _=>rfl,by simp [Value.oneCell']⟩
def dQ:Ty ko:=⟨5,Unit,λx h=>[.int .u8 x.first,.int .u8 x.last,.int .i64 x.ja,.int .u8 x.low,.int .u8 x.high],λx h=>[],λ_ _=>rfl,by simp [Value.oneCell']⟩
abbrev Ix (x:gp):List Value:=[.int .i64 x.bH,.int .i64 x.w,.int .i64 x.h,.int .i64 x.to,.int .i64 x.aP.part,.int .i64 x.aP.every,.int .i64 x.aP.most]
abbrev MF (x:ic):List Value:=[.int .i64 x.bH,.int .i64 x.w,.int .i64 x.h,.int .i64 x.to,.int .i64 x.aP.part,.int .i64 x.aP.every,.int .i64 x.aP.most]
abbrev KA (x:cU):List Value:=[.int .i64 x.kind,.string x.text,.int .i64 x.w,.int .i64 x.h]
abbrev OA (x:nF):List Value:=[.int .i64 x.kind,.int .i64 x.later,.int .i64 x.from_,.string x.text,.int .i64 x.event.kind,.string x.event.text,.int .i64 x.event.w,.int .i64 x.event.h]
abbrev Iy (x:ju):List Value:=[.int .i64 x.kind,.string x.text,.int .i64 x.w,.int .i64 x.h]
abbrev yn (x:aV) (a1:Option Addr) (c1:Nat):List Value:=[.int .i64 x.bH,.int .i64 x.kind,.slice a1 x.aW.length c1,.string x.data]
abbrev pd (x:bD) (g1:Nat) (g2:Nat):List Value:=[.int .i64 x.bH,.int .i64 x.to,.pointer (some ⟨g1,0,none⟩),.pointer (some ⟨g2,0,none⟩)]
abbrev iD (x:aL) (a1:Option Addr) (c1:Nat) (a2:Option Addr) (c2:Nat):List Value:=[.int .i64 x.k,.int .i64 x.w,.int .i64 x.h,.int .i64 x.x,.int .i64 x.y,.string x.title,.slice a1 x.rows.length c1,.int .i64 x.len,.int .i64 x.chain,.slice a2 x.begun.length c2]
abbrev iE (x:bO) (g1:Nat) (g2:Nat) (g3:Nat):List Value:=[.pointer (some ⟨g1,0,none⟩),.pointer (some ⟨g2,0,none⟩),.pointer (some ⟨g3,0,none⟩),.int .i64 x.k]
abbrev gR (x:aE) (a1:Option Addr) (c1:Nat) (a2:Option Addr) (c2:Nat):List Value:=[.int .i64 x.state,.bool x.order.dZ,.bool x.order.mA,.bool x.order.any,.bool x.order.some,.int .i64 x.order.n,.slice a1 x.order.aW.length c1,.string x.text,.int .u8 x.cN.lead,.int .i32 x.cN.rune,.int .i64 x.cN.ja,.slice a2 x.out.length c2]
abbrev eF (x:aE) (a1:Option Addr) (c1:Nat):List Value:=[.int .i64 x.state,.bool x.order.dZ,.bool x.order.mA,.bool x.order.any,.bool x.order.some,.int .i64 x.order.n,.slice a1 x.order.aW.length c1,.string x.text,.int .u8 x.cN.lead,.int .i32 x.cN.rune,.int .i64 x.cN.ja,.slice none 0 0]
abbrev KZ (x:bK) (a1:Option Addr) (c1:Nat) (a2:Option Addr) (c2:Nat):List Value:=[.int .i64 x.id,.int .i64 x.key,.int .i64 x.base,.slice a1 x.parts.length c1,.slice a2 x.there.length c2,.int .i64 x.due]
abbrev gv (x:aI) (a1:Option Addr) (c1:Nat) (a2:Option Addr) (c2:Nat) (a3:Option Addr) (c3:Nat) (a4:Option Addr) (c4:Nat) (a5:Option Addr) (c5:Nat) (a6:Option Addr) (c6:Nat) (a7:Option Addr) (c7:Nat):List Value:=[.int .i64 x.config.part,.int .i64 x.config.every,.int .i64 x.config.most,.int .i64 x.current.k,.int .i64 x.current.w,.int .i64 x.current.h,.int .i64 x.current.x,.int .i64 x.current.y,.string x.current.title,.slice a1 x.current.rows.length c1,.int .i64 x.current.len,.int .i64 x.current.chain,.slice a2 x.current.begun.length c2,.int .i64 x.aM.k,.int .i64 x.aM.w,.int .i64 x.aM.h,.int .i64 x.aM.x,.int .i64 x.aM.y,.string x.aM.title,.slice a3 x.aM.rows.length c3,.int .i64 x.aM.len,.int .i64 x.aM.chain,.slice a4 x.aM.begun.length c4,.slice a5 x.kept.length c5,.int .i64 x.message.id,.int .i64 x.message.key,.int .i64 x.message.base,.slice a6 x.message.parts.length c6,.slice a7 x.message.there.length c7,.int .i64 x.message.due,.int .i64 x.next]
abbrev tf (x:bJ):List Value:=[.int .i64 x.ib,.int .i64 x.back,.bool x.bold,.bool x.under,.bool x.dS]
abbrev bY (x:aB) (g1:Nat):List Value:=[.pointer (some ⟨g1,0,none⟩),.int .i64 x.spot.x,.int .i64 x.spot.y,.int .i64 x.spot.aO.ib,.int .i64 x.spot.aO.back,.bool x.spot.aO.bold,.bool x.spot.aO.under,.bool x.spot.aO.dS,.int .i64 x.saved.x,.int .i64 x.saved.y,.int .i64 x.saved.aO.ib,.int .i64 x.saved.aO.back,.bool x.saved.aO.bold,.bool x.saved.aO.under,.bool x.saved.aO.dS,.bool x.waiting,.int .i64 x.top,.int .i64 x.aK,.bool x.bB,.string x.title]
abbrev xW (x:bC) (a1:Option Addr) (c1:Nat):List Value:=[.int .i64 x.kind,.int .i32 x.rune,.int .u8 x.byte,.bool x.dZ,.slice a1 x.aW.length c1,.string x.text]
abbrev NQ (x:ko):List Value:=[.int .u8 x.first,.int .u8 x.last,.int .i64 x.ja,.int .u8 x.low,.int .u8 x.high]
def tab:Tab:=[(3,⟨.int .i64,1,8,[.int .i64 0],false,false⟩),
  (4,⟨.bool,1,1,[.bool false],false,false⟩),
  (5,⟨.int .u8,1,1,[.int .u8 0],false,false⟩),
  (9,⟨.string,1,16,[.string ⟨#[]⟩],false,false⟩),
  (21,⟨.int .i32,1,4,[.int .i32 0],false,false⟩),
  (23,⟨.struct [(3,0),(3,1),(3,2)],3,24,[.int .i64 0,.int .i64 0,.int .i64 0],true,false⟩),
  (25,⟨.struct [(3,0),(3,1),(3,2),(3,3),(23,4)],7,56,[.int .i64 0,.int .i64 0,.int .i64 0,.int .i64 0,.int .i64 0,.int .i64 0,.int .i64 0],true,false⟩),
  (26,⟨.slice 38,1,24,[.slice none 0 0],false,false⟩),
  (28,⟨.struct [(3,0),(3,1),(3,2)],3,24,[.int .i64 0,.int .i64 0,.int .i64 0],true,false⟩),
  (30,⟨.struct [(3,0),(3,1),(3,2),(3,3),(28,4)],7,56,[.int .i64 0,.int .i64 0,.int .i64 0,.int .i64 0,.int .i64 0,.int .i64 0,.int .i64 0],true,false⟩),
  (33,⟨.pointer 98,1,8,[.pointer none],false,false⟩),
  (36,⟨.struct [(3,0),(9,1),(3,2),(3,3)],4,40,[.int .i64 0,.string ⟨#[]⟩,.int .i64 0,.int .i64 0],true,false⟩),
  (38,⟨.struct [(3,0),(3,1),(3,2),(9,3),(36,4)],8,80,[.int .i64 0,.int .i64 0,.int .i64 0,.string ⟨#[]⟩,.int .i64 0,.string ⟨#[]⟩,.int .i64 0,.int .i64 0],true,false⟩),
  (39,⟨.slice 49,1,24,[.slice none 0 0],false,false⟩),
  (40,⟨.int .i64,1,8,[.int .i64 0],false,false⟩),
  (42,⟨.struct [(3,0),(9,1),(3,2),(3,3)],4,40,[.int .i64 0,.string ⟨#[]⟩,.int .i64 0,.int .i64 0],true,false⟩),
  (49,⟨.struct [(3,0),(9,1)],2,24,[.int .i64 0,.string ⟨#[]⟩],true,false⟩),
  (50,⟨.slice 3,1,24,[.slice none 0 0],false,false⟩),
  (52,⟨.struct [(3,0),(3,1),(50,2),(9,3)],4,56,[.int .i64 0,.int .i64 0,.slice none 0 0,.string ⟨#[]⟩],true,false⟩),
  (57,⟨.slice 262,1,24,[.slice none 0 0],false,false⟩),
  (59,⟨.struct [(3,0),(57,1)],2,32,[.int .i64 0,.slice none 0 0],true,false⟩),
  (61,⟨.struct [(3,0),(3,1),(4,2),(4,3),(4,4)],5,24,[.int .i64 0,.int .i64 0,.bool false,.bool false,.bool false],true,true⟩),
  (63,⟨.struct [(59,0),(3,2),(3,3),(61,4),(3,9),(3,10),(61,11),(4,16),(3,17),(3,18),(4,19),(9,20)],21,160,[.int .i64 0,.slice none 0 0,.int .i64 0,.int .i64 0,.int .i64 0,.int .i64 0,.bool false,.bool false,.bool false,.int .i64 0,.int .i64 0,.int .i64 0,.int .i64 0,.bool false,.bool false,.bool false,.bool false,.int .i64 0,.int .i64 0,.bool false,.string ⟨#[]⟩],true,false⟩),
  (64,⟨.slice 66,1,24,[.slice none 0 0],false,false⟩),
  (65,⟨.slice 259,1,24,[.slice none 0 0],false,false⟩),
  (66,⟨.slice 259,1,24,[.slice none 0 0],false,false⟩),
  (68,⟨.struct [(64,0),(66,1)],2,48,[.slice none 0 0,.slice none 0 0],true,false⟩),
  (70,⟨.struct [(63,0),(68,21),(9,23),(3,24),(3,25)],26,240,[.int .i64 0,.slice none 0 0,.int .i64 0,.int .i64 0,.int .i64 0,.int .i64 0,.bool false,.bool false,.bool false,.int .i64 0,.int .i64 0,.int .i64 0,.int .i64 0,.bool false,.bool false,.bool false,.bool false,.int .i64 0,.int .i64 0,.bool false,.string ⟨#[]⟩,.slice none 0 0,.slice none 0 0,.string ⟨#[]⟩,.int .i64 0,.int .i64 0],true,false⟩),
  (72,⟨.struct [(3,0),(3,1),(3,2),(3,3),(3,4),(9,5),(57,6),(3,7),(3,8),(66,9)],10,120,[.int .i64 0,.int .i64 0,.int .i64 0,.int .i64 0,.int .i64 0,.string ⟨#[]⟩,.slice none 0 0,.int .i64 0,.int .i64 0,.slice none 0 0],true,false⟩),
  (73,⟨.slice 72,1,24,[.slice none 0 0],false,false⟩),
  (74,⟨.slice 9,1,24,[.slice none 0 0],false,false⟩),
  (75,⟨.slice 4,1,24,[.slice none 0 0],false,false⟩),
  (77,⟨.struct [(23,0),(72,3),(72,13),(73,23),(3,24),(3,25),(3,26),(74,27),(75,28),(3,29),(3,30)],31,376,[.int .i64 0,.int .i64 0,.int .i64 0,.int .i64 0,.int .i64 0,.int .i64 0,.int .i64 0,.int .i64 0,.string ⟨#[]⟩,.slice none 0 0,.int .i64 0,.int .i64 0,.slice none 0 0,.int .i64 0,.int .i64 0,.int .i64 0,.int .i64 0,.int .i64 0,.string ⟨#[]⟩,.slice none 0 0,.int .i64 0,.int .i64 0,.slice none 0 0,.slice none 0 0,.int .i64 0,.int .i64 0,.int .i64 0,.slice none 0 0,.slice none 0 0,.int .i64 0,.int .i64 0],true,false⟩),
  (79,⟨.struct [(3,0),(3,1),(70,2),(77,28)],59,632,[.int .i64 0,.int .i64 0,.int .i64 0,.slice none 0 0,.int .i64 0,.int .i64 0,.int .i64 0,.int .i64 0,.bool false,.bool false,.bool false,.int .i64 0,.int .i64 0,.int .i64 0,.int .i64 0,.bool false,.bool false,.bool false,.bool false,.int .i64 0,.int .i64 0,.bool false,.string ⟨#[]⟩,.slice none 0 0,.slice none 0 0,.string ⟨#[]⟩,.int .i64 0,.int .i64 0,.int .i64 0,.int .i64 0,.int .i64 0,.int .i64 0,.int .i64 0,.int .i64 0,.int .i64 0,.int .i64 0,.string ⟨#[]⟩,.slice none 0 0,.int .i64 0,.int .i64 0,.slice none 0 0,.int .i64 0,.int .i64 0,.int .i64 0,.int .i64 0,.int .i64 0,.string ⟨#[]⟩,.slice none 0 0,.int .i64 0,.int .i64 0,.slice none 0 0,.slice none 0 0,.int .i64 0,.int .i64 0,.int .i64 0,.slice none 0 0,.slice none 0 0,.int .i64 0,.int .i64 0],true,false⟩),
  (86,⟨.slice 143,1,24,[.slice none 0 0],false,false⟩),
  (93,⟨.pointer 120,1,8,[.pointer none],false,false⟩),
  (95,⟨.pointer 158,1,8,[.pointer none],false,false⟩),
  (98,⟨.struct [(3,0),(3,1),(93,2),(95,3)],4,32,[.int .i64 0,.int .i64 0,.pointer none,.pointer none],true,false⟩),
  (100,⟨.slice 232,1,24,[.slice none 0 0],false,false⟩),
  (101,⟨.slice 181,1,24,[.slice none 0 0],false,false⟩),
  (103,⟨.struct [(3,0),(3,1),(3,2),(3,3),(3,4),(9,5),(100,6),(3,7),(3,8),(101,9)],10,120,[.int .i64 0,.int .i64 0,.int .i64 0,.int .i64 0,.int .i64 0,.string ⟨#[]⟩,.slice none 0 0,.int .i64 0,.int .i64 0,.slice none 0 0],true,false⟩),
  (106,⟨.slice 52,1,24,[.slice none 0 0],false,false⟩),
  (111,⟨.slice 171,1,24,[.slice none 0 0],false,false⟩),
  (115,⟨.func,1,8,[.nilFunc],false,false⟩),
  (116,⟨.pointer 178,1,8,[.pointer none],false,false⟩),
  (117,⟨.pointer 151,1,8,[.pointer none],false,false⟩),
  (118,⟨.pointer 224,1,8,[.pointer none],false,false⟩),
  (120,⟨.struct [(116,0),(117,1),(118,2),(3,3)],4,32,[.pointer none,.pointer none,.pointer none,.int .i64 0],true,false⟩),
  (139,⟨.slice 194,1,24,[.slice none 0 0],false,false⟩),
  (143,⟨.struct [(3,0),(9,1)],2,24,[.int .i64 0,.string ⟨#[]⟩],true,true⟩),
  (146,⟨.struct [(4,0),(4,1),(4,2),(4,3),(3,4),(50,5)],6,40,[.bool false,.bool false,.bool false,.bool false,.int .i64 0,.slice none 0 0],true,false⟩),
  (148,⟨.struct [(5,0),(21,1),(3,2)],3,16,[.int .u8 0,.int .i32 0,.int .i64 0],true,false⟩),
  (149,⟨.slice 247,1,24,[.slice none 0 0],false,false⟩),
  (151,⟨.struct [(3,0),(146,1),(9,7),(148,8),(149,11)],12,104,[.int .i64 0,.bool false,.bool false,.bool false,.bool false,.int .i64 0,.slice none 0 0,.string ⟨#[]⟩,.int .u8 0,.int .i32 0,.int .i64 0,.slice none 0 0],true,false⟩),
  (154,⟨.slice 103,1,24,[.slice none 0 0],false,false⟩),
  (156,⟨.struct [(3,0),(3,1),(3,2),(74,3),(75,4),(3,5)],6,80,[.int .i64 0,.int .i64 0,.int .i64 0,.slice none 0 0,.slice none 0 0,.int .i64 0],true,false⟩),
  (158,⟨.struct [(28,0),(103,3),(103,13),(154,23),(156,24),(3,30)],31,376,[.int .i64 0,.int .i64 0,.int .i64 0,.int .i64 0,.int .i64 0,.int .i64 0,.int .i64 0,.int .i64 0,.string ⟨#[]⟩,.slice none 0 0,.int .i64 0,.int .i64 0,.slice none 0 0,.int .i64 0,.int .i64 0,.int .i64 0,.int .i64 0,.int .i64 0,.string ⟨#[]⟩,.slice none 0 0,.int .i64 0,.int .i64 0,.slice none 0 0,.slice none 0 0,.int .i64 0,.int .i64 0,.int .i64 0,.slice none 0 0,.slice none 0 0,.int .i64 0,.int .i64 0],true,false⟩),
  (171,⟨.struct [(3,0),(3,1)],2,16,[.int .i64 0,.int .i64 0],true,false⟩),
  (175,⟨.struct [(3,0),(3,1),(9,2)],3,32,[.int .i64 0,.int .i64 0,.string ⟨#[]⟩],true,false⟩),
  (176,⟨.slice 101,1,24,[.slice none 0 0],false,false⟩),
  (178,⟨.struct [(176,0),(50,1),(101,2)],3,72,[.slice none 0 0,.slice none 0 0,.slice none 0 0],true,false⟩),
  (181,⟨.struct [(21,0),(3,1)],2,16,[.int .i32 0,.int .i64 0],true,false⟩),
  (183,⟨.int .u32,1,4,[.int .u32 0],false,false⟩),
  (186,⟨.struct [(9,0),(40,1)],2,24,[.string ⟨#[]⟩,.int .i64 0],true,false⟩),
  (194,⟨.struct [(3,0),(3,1),(50,2),(9,3)],4,56,[.int .i64 0,.int .i64 0,.slice none 0 0,.string ⟨#[]⟩],true,false⟩),
  (198,⟨.slice 199,1,24,[.slice none 0 0],false,false⟩),
  (199,⟨.struct [(3,0),(3,1)],2,16,[.int .i64 0,.int .i64 0],true,false⟩),
  (211,⟨.slice 5,1,24,[.slice none 0 0],false,false⟩),
  (213,⟨.struct [(211,0)],1,24,[.slice none 0 0],true,false⟩),
  (215,⟨.pointer 213,1,8,[.pointer none],false,false⟩),
  (218,⟨.pointer 296,1,8,[.pointer none],false,false⟩),
  (220,⟨.struct [(3,0),(3,1),(4,2),(4,3),(4,4)],5,24,[.int .i64 0,.int .i64 0,.bool false,.bool false,.bool false],true,false⟩),
  (222,⟨.struct [(3,0),(3,1),(220,2)],7,40,[.int .i64 0,.int .i64 0,.int .i64 0,.int .i64 0,.bool false,.bool false,.bool false],true,false⟩),
  (224,⟨.struct [(218,0),(222,1),(222,8),(4,15),(3,16),(3,17),(4,18),(9,19)],20,136,[.pointer none,.int .i64 0,.int .i64 0,.int .i64 0,.int .i64 0,.bool false,.bool false,.bool false,.int .i64 0,.int .i64 0,.int .i64 0,.int .i64 0,.bool false,.bool false,.bool false,.bool false,.int .i64 0,.int .i64 0,.bool false,.string ⟨#[]⟩],true,false⟩),
  (230,⟨.slice 235,1,24,[.slice none 0 0],false,false⟩),
  (232,⟨.struct [(230,0),(4,1)],2,32,[.slice none 0 0,.bool false],true,false⟩),
  (235,⟨.struct [(21,0),(3,1),(3,2)],3,24,[.int .i32 0,.int .i64 0,.int .i64 0],true,true⟩),
  (247,⟨.struct [(3,0),(21,1),(5,2),(4,3),(50,4),(9,5)],6,56,[.int .i64 0,.int .i32 0,.int .u8 0,.bool false,.slice none 0 0,.string ⟨#[]⟩],true,false⟩),
  (254,⟨.int .u64,1,8,[.int .u64 0],false,false⟩),
  (259,⟨.struct [(3,0),(3,1)],2,16,[.int .i64 0,.int .i64 0],true,false⟩),
  (260,⟨.slice 264,1,24,[.slice none 0 0],false,false⟩),
  (262,⟨.struct [(260,0),(4,1)],2,32,[.slice none 0 0,.bool false],true,false⟩),
  (264,⟨.struct [(3,0),(3,1),(3,2)],3,24,[.int .i64 0,.int .i64 0,.int .i64 0],true,true⟩),
  (270,⟨.slice 273,1,24,[.slice none 0 0],false,false⟩),
  (273,⟨.struct [(3,0),(3,1),(3,2),(4,3),(50,4),(9,5)],6,72,[.int .i64 0,.int .i64 0,.int .i64 0,.bool false,.slice none 0 0,.string ⟨#[]⟩],true,false⟩),
  (276,⟨.struct [(9,0),(3,1)],2,24,[.string ⟨#[]⟩,.int .i64 0],true,false⟩),
  (296,⟨.struct [(3,0),(100,1)],2,32,[.int .i64 0,.slice none 0 0],true,false⟩),
  (312,⟨.array 16 183,16,64,[.int .u32 0,.int .u32 0,.int .u32 0,.int .u32 0,.int .u32 0,.int .u32 0,.int .u32 0,.int .u32 0,.int .u32 0,.int .u32 0,.int .u32 0,.int .u32 0,.int .u32 0,.int .u32 0,.int .u32 0,.int .u32 0],true,false⟩),
  (363,⟨.slice 21,1,24,[.slice none 0 0],false,false⟩),
  (374,⟨.slice 376,1,24,[.slice none 0 0],false,false⟩),
  (376,⟨.struct [(21,0),(21,1)],2,8,[.int .i32 0,.int .i32 0],true,false⟩),
  (377,⟨.array 13 376,26,104,[.int .i32 0,.int .i32 0,.int .i32 0,.int .i32 0,.int .i32 0,.int .i32 0,.int .i32 0,.int .i32 0,.int .i32 0,.int .i32 0,.int .i32 0,.int .i32 0,.int .i32 0,.int .i32 0,.int .i32 0,.int .i32 0,.int .i32 0,.int .i32 0,.int .i32 0,.int .i32 0,.int .i32 0,.int .i32 0,.int .i32 0,.int .i32 0,.int .i32 0,.int .i32 0],true,false⟩),
  (378,⟨.array 14 376,28,112,[.int .i32 0,.int .i32 0,.int .i32 0,.int .i32 0,.int .i32 0,.int .i32 0,.int .i32 0,.int .i32 0,.int .i32 0,.int .i32 0,.int .i32 0,.int .i32 0,.int .i32 0,.int .i32 0,.int .i32 0,.int .i32 0,.int .i32 0,.int .i32 0,.int .i32 0,.int .i32 0,.int .i32 0,.int .i32 0,.int .i32 0,.int .i32 0,.int .i32 0,.int .i32 0,.int .i32 0,.int .i32 0],true,false⟩),
  (389,⟨.array 2 3,2,16,[.int .i64 0,.int .i64 0],true,false⟩),
  (390,⟨.slice 389,1,24,[.slice none 0 0],false,false⟩),
  (402,⟨.int .u64,1,8,[.int .u64 0],false,false⟩),
  (406,⟨.struct [(5,0),(5,1),(3,2),(5,3),(5,4)],5,24,[.int .u8 0,.int .u8 0,.int .i64 0,.int .u8 0,.int .u8 0],true,false⟩),
  (410,⟨.slice 230,1,24,[.slice none 0 0],false,false⟩),
  (411,⟨.array 8 406,40,192,[.int .u8 0,.int .u8 0,.int .i64 0,.int .u8 0,.int .u8 0,.int .u8 0,.int .u8 0,.int .i64 0,.int .u8 0,.int .u8 0,.int .u8 0,.int .u8 0,.int .i64 0,.int .u8 0,.int .u8 0,.int .u8 0,.int .u8 0,.int .i64 0,.int .u8 0,.int .u8 0,.int .u8 0,.int .u8 0,.int .i64 0,.int .u8 0,.int .u8 0,.int .u8 0,.int .u8 0,.int .i64 0,.int .u8 0,.int .u8 0,.int .u8 0,.int .u8 0,.int .i64 0,.int .u8 0,.int .u8 0,.int .u8 0,.int .u8 0,.int .i64 0,.int .u8 0,.int .u8 0],true,false⟩)]
theorem MH:lh Go.Proofs.Tryz.prog tab:=CZ (by kernel_rfl)
noncomputable def G:Pg:=⟨Go.Proofs.Tryz.prog,tab,MH,none⟩
theorem mo:G.P.follows .mixedOrders=true:=by kernel_rfl
theorem NR:IM G.P 5=true:=by kernel_rfl
variable {A0 A1 A2 A3 A4 A5 A6 A7 A8 A9 A10 A11 A12 A13 A14 A15 A16 A17 A18 A19 A20 A21 A22 : Option Addr} {C0 C1 C2 C3 C4 C5 C6 C7 C8 C9 C10 C11 C12 C13 C14 C15 C16 C17 C18 C19 C20 C21 C22 : Nat}
variable {N0 N1 N2 N3 N4 N5 N6 : Nat}
theorem pf {n_:Int} {lo:Int} {hi:Int} {r:Int} (H:gE n_ lo hi=some r):CT G 26 [.int .i64 n_,.int .i64 lo,.int .i64 hi] [] [] (λ_:Unit=> .int .i64 r) (λh=>[]) (λh=>[]):=by
 delta gE at H
 refine Cf Go.Proofs.Tryz.func26 λK=> ?_
 refine Z2 ?_
 cases H
 exact Eo1 () [] []
theorem CM {r:bT} (H:qc=some r):CT G 59 [] [] [] (λh:Nat×(Option Addr×Nat)×(Option Addr×Nat)×(Option Addr×Nat)=> .pointer (some ⟨h.1,0,none⟩)) (λh=>[Ch.box h.1 178 [.slice h.2.1.1 r.l.length h.2.1.2,.slice h.2.2.1.1 r.bA.length h.2.2.1.2,.slice h.2.2.2.1 r.begun.length h.2.2.2.2],Ch.arr (Ty.slice aC) 101 h.2.1.1 h.2.1.2 r.l,Ch.arr (Ty.int .i64) 3 h.2.2.1.1 h.2.2.1.2 r.bA,Ch.arr aC 181 h.2.2.2.1 h.2.2.2.2 r.begun]) (λh=>[]):=by
 delta qc at H
 refine Cf Go.Proofs.Tryz.func59 λK=> ?_
 refine Z2 ?_
 refine La [] [] (Ac.bs (ty:=(Ty.int .i64)) (xs:=[0]) (.cons () [] rfl .nil) rfl rfl rfl rfl rfl rfl rfl) λg1=> ?_
 refine Z0 ?_
 refine Lx λg3=> ?_
 refine Z0 ?_
 refine E.gA (Ty.slice aC) 101 ?_
 refine E.gA aC 181 ?_
 cases H
 exact Eo1 (g3,(none,0),((some ⟨g1,0,none⟩),1),(none,0)) [2,1,1,0] []
theorem kH {n_:Int} {lo:Int} {hi:Int} {r:Int} (H:iu n_ lo hi=some r):CT G 183 [.int .i64 n_,.int .i64 lo,.int .i64 hi] [] [] (λ_:Unit=> .int .i64 r) (λh=>[]) (λh=>[]):=by
 delta iu at H
 refine Cf Go.Proofs.Tryz.func183 λK=> ?_
 refine Z2 ?_
 cases H
 exact Eo1 () [] []
theorem mD {n_:Int} {r:Int} (H:je n_=some r):CT G 175 [.int .i64 n_] [] [] (λ_:Unit=> .int .i64 r) (λh=>[]) (λh=>[]):=by
 delta je at H
 refine Cf Go.Proofs.Tryz.func175 λK=> ?_
 refine Z2 ?_
 have ⟨r1,h2,H3⟩:=bnd H
 refine Lk [] [] (kH h2) λ⟨⟩=> ?_
 refine Z0 ?_
 cases H3
 exact Eo1 () [] []
theorem oF {n_:Int} {lo:Int} {hi:Int} {r:Int} (H:kd n_ lo hi=some r):CT G 223 [.int .i64 n_,.int .i64 lo,.int .i64 hi] [] [] (λ_:Unit=> .int .i64 r) (λh=>[]) (λh=>[]):=by
 delta kd at H
 refine Cf Go.Proofs.Tryz.func223 λK=> ?_
 refine Z2 ?_
 cases H
 exact Eo1 () [] []
theorem nJ {aO:Int} {r:aH} (H:ir aO=some r):CT G 181 [.int .i64 aO] [] [] (λ_:Unit=> .agg #[.int .i32 r.rune,.int .i64 r.aO,.int .i64 r.part]) (λh=>[]) (λh=>[]):=by
 delta ir at H
 refine Cf Go.Proofs.Tryz.func181 λK=> ?_
 refine Z1 ?_
 refine Ll λg1=> ?_
 refine Z1 ?_
 refine Lt 0 ?_
 refine Z0 ?_
 cases H
 exact Eo () [] [] (.cell 0 rfl rfl rfl .nil)
theorem zS {x_:Int} {y:Int} {r:Int×Int} (H:nZ x_ y=some r):CT G 314 [.int .u64 x_,.int .u64 y] [] [] (λ_:Unit=> .tuple #[.int .u64 r.1,.int .u64 r.2]) (λh=>[]) (λh=>[]):=by
 delta nZ at H
 refine Cf Go.Proofs.Tryz.func314 λK=> ?_
 refine Z3 ?_
 refine Z3 ?_
 refine Z3 ?_
 refine Z3 ?_
 cases H
 exact Eo () [] [] (.tmp rfl (.tmp rfl .nil))
theorem CN {x_:Int} {y:Int} {r:Int×Int} (H:oq x_ y=some r):CT G 304 [.int .u64 x_,.int .u64 y] [] [] (λ_:Unit=> .tuple #[.int .u64 r.1,.int .u64 r.2]) (λh=>[]) (λh=>[]):=by
 delta oq at H
 refine Cf Go.Proofs.Tryz.func304 λK=> ?_
 refine Y2 ?_
 refine T.cond rfl (λh=>nomatch h) (λ_=> ?_)
 refine Z1 ?_
 have ⟨r1,h2,H3⟩:=bnd H
 refine Lk [] [] (zS h2) λ⟨⟩=> ?_
 refine Z1 ?_
 cases H3
 exact Eo () [] [] (.tmp rfl (.tmp rfl .nil))
theorem pg {x_:List aH} {count:Int} {r:(List aH)} (H:fR x_ count=some r):CT G 275 [.slice A0 x_.length C0,.int .i64 count] [] [Im.sl aT A0 C0 x_] (λh:(Option Addr×Nat)=> .slice h.1 r.length h.2) (λh=>[Ch.arr aT 235 h.1 h.2 r]) (λh=>[]):=by
 delta fR at H
 refine Cf Go.Proofs.Tryz.func275 λK=> ?_
 refine Z3 ?_
 refine Tb H (λH2=> ?_) λH2=> ?_
 ·cases H2
 refine Z1 ?_
 have ⟨r3,h4,H5⟩:=bnd H2
 refine Lk [] [] (CN h4) λ⟨⟩=> ?_
 refine Y2 ?_
 have ⟨e9,m,n⟩:=bnd H5
 refine Tj0 [(26,.bool e9)] [0,6] [] [] ?_ ?_
 ·refine Z0 ?_
  refine Lw 23 m (λg=> ?_) λg=> ?_
  ·refine Z0 ?_
   cases g
   exact Eg0 [] 0
  refine Z0 ?_
  cases g
  exact Eg0 [] 0
 refine Tb n (λi=> ?_) λi=> ?_
 ·cases i
 refine Z1 ?_
 have ⟨_,o,p⟩:=bnd i
 refine La [] [] (Ac.mk (ty:=aT) (aH.mk 0 0 0) () o (λ_ _ f hf=>by cases hf) rfl rfl rfl rfl rfl rfl rfl) λq=> ?_
 refine Z1 ?_
 refine La [0] [0] (Ac.cp (ty:=aT) rfl rfl rfl rfl rfl rfl rfl) λ_=> ?_
 refine L.sl 7 (k':=(cpy (List.replicate (IntKind.i64.wrap r3.2).toNat (aH.mk 0 0 0)) x_).length) (BN ..) rfl ?_
 refine Y1 ?_
 have ⟨j,s,t⟩:=bnd p
 refine Tjh (η:=(Option Addr×Nat)) (λh=>(λd e=>[(7,.slice d j.length e)]) h.1 h.2) [] (λh=>(λd e=>[Ch.arr aT 235 d e j]) h.1 h.2) [] (λ_=>[]) ?_ ?_
 ·refine Yl0 ?_
  refine Tq (η:=(Option Addr×Nat)) (λa h=>(λb c=>[(7,.slice b a.1.length c),(8,.int .i64 a.2)]) h.1 h.2) [] (λa h=>(λb c=>[Ch.arr aT 235 b c a.1]) h.1 h.2) [] (λ_ _=>[]) ((some ⟨q,0,none⟩),(IntKind.i64.wrap r3.2).toNat) [0] [] s ?_
  rintro k_ a ⟨b,c⟩ C u v w
  refine Z2 ?_
  refine Tb u (λk=> ?_) λk=> ?_
  ·refine Yl0 ?_
   refine Td [] [] mo ?_
   refine Dq 0 ?_
   refine Dq 1 ?_
   refine Dq 2 ?_
   have ⟨_,l,x⟩:=bnd k
   refine D.cap 0 rfl λy=> ?_
   refine Dy 3 (Yl.sv (ty:=aT) y l rfl rfl rfl rfl rfl rfl rfl rfl) ?_
   refine Dq 4 ?_
   refine Dq 5 ?_
   have ⟨_,z,A⟩:=bnd x
   refine D.cap 0 rfl λB=> ?_
   refine Dy 6 (Yl.sv (ty:=aT) B z rfl rfl rfl rfl rfl rfl rfl rfl) ?_
   refine Da [0] [] rfl rfl (Ac.cps (ty:=aT) l rfl rfl rfl rfl rfl rfl rfl) λ_=> ?_
   refine Dq 8 ?_
   refine Dq 9 ?_
   refine Dn ?_
   refine E.sl 7 (k':=(yb a.1 a.2.toNat).length) (F2 l) rfl ?_
   refine Z0 ?_
   cases A
   exact Eg (_,(b,c)) (v _ rfl) [0] [] 0
  refine Z0 ?_
  cases k
  have hb:=w _ rfl
  subst j
  exact Eg (b,c) trivial [0] [] 0
 rintro ⟨d,e⟩
 refine Z1 ?_
 cases t
 exact Eo1 (d,e) [0] []
theorem od {n_:Int} {aO:Int} {r:(List aH)} (H:jL n_ aO=some r):CT G 222 [.int .i64 n_,.int .i64 aO] [] [] (λh:(Option Addr×Nat)=> .slice h.1 r.length h.2) (λh=>[Ch.arr aT 235 h.1 h.2 r]) (λh=>[]):=by
 delta jL at H
 refine Cf Go.Proofs.Tryz.func222 λK=> ?_
 refine Z2 ?_
 have ⟨r1,h2,H3⟩:=bnd H
 refine Lk [] [] (nJ h2) λ⟨⟩=> ?_
 refine La [] [] (Ac.bs (ty:=aT) (xs:=[r1]) (.cons () [] rfl .nil) rfl rfl rfl rfl rfl rfl rfl) λg4=> ?_
 refine Z0 ?_
 refine L.frz 0 rfl ?_
 have ⟨r7,h8,H9⟩:=bnd H3
 refine Lk [] [0] (pg h8) λ⟨a,b⟩=> ?_
 refine Z0 ?_
 cases H9
 exact Eo1 (a,b) [0] []
theorem oX {w:Int} {aO:Int} {r:aG} (H:jM w aO=some r):CT G 176 [.int .i64 w,.int .i64 aO] [] [] (λh:(Option Addr×Nat)=> .agg #[.slice h.1 r.cells.length h.2,.bool r.wrapped]) (λh=>[]) (λh=>[Im.sl aT h.1 h.2 r.cells]):=by
 delta jM at H
 refine Cf Go.Proofs.Tryz.func176 λK=> ?_
 refine Z1 ?_
 refine Ll λg1=> ?_
 refine Z1 ?_
 have ⟨r2,h3,H4⟩:=bnd H
 refine Lk [] [] (oF h3) λ⟨⟩=> ?_
 refine Z0 ?_
 have ⟨r5,h6,H7⟩:=bnd H4
 refine Lk [] [] (od h6) λ⟨a8,c9⟩=> ?_
 refine Z0 ?_
 refine Lt 1 ?_
 refine Z0 ?_
 refine E.frz 1 rfl ?_
 cases H7
 exact Eo (a8,c9) [] [0] (.cell 0 rfl rfl rfl .nil)
theorem CO {w:Int} {h_:Int} {r:aZ} (H:ot w h_=some r):CT G 109 [.int .i64 w,.int .i64 h_] [] [] (λh:Nat×(Option Addr×Nat)=> .pointer (some ⟨h.1,0,none⟩)) (λh=>[Ch.box h.1 296 [.int .i64 r.w,.slice h.2.1 r.l.length h.2.2],Ch.arr aD 232 h.2.1 h.2.2 r.l]) (λh=>[]):=by
 delta ot at H
 refine Cf Go.Proofs.Tryz.func109 λK=> ?_
 refine Z2 ?_
 have ⟨r1,h2,H3⟩:=bnd H
 refine Lk [] [] (mD h2) λ⟨⟩=> ?_
 refine Z0 ?_
 refine Lx λg4=> ?_
 refine Z2 ?_
 have ⟨r5,h6,H7⟩:=bnd H3
 refine Lk [] [] (mD h6) λ⟨⟩=> ?_
 refine Z0 ?_
 have ⟨d,i,j⟩:=bnd H7
 refine Tjh (η:=(Option Addr×Nat)) (λ_=>[]) [5] (λh=>(λe f=>[Ch.arr aD 232 e f d.l,Ch.box g4 296 [.int .i64 d.w,.slice e d.l.length f]]) h.1 h.2) [] (λ_=>[]) ?_ ?_
 ·refine Yl0 ?_
  refine T.gA aD 232 ?_
  refine Tq (η:=(Option Addr×Nat)) (λa h=>(λb c=>[(12,.int .i64 a.2)]) h.1 h.2) [5,11] (λa h=>(λb c=>[Ch.arr aD 232 b c a.1.l,Ch.box g4 296 [.int .i64 a.1.w,.slice b a.1.l.length c]]) h.1 h.2) [] (λ_ _=>[]) (none,0) [0,0] [] i ?_
  rintro k_ a ⟨b,c⟩ z k m n
  refine Y2 ?_
  refine Tb k (λg=> ?_) λg=> ?_
  ·refine Z1 ?_
   refine Yl0 ?_
   refine Td [14] [1] mo ?_
   refine Dq 0 ?_
   refine Dq 1 ?_
   refine Dq 2 ?_
   refine Dq 3 ?_
   refine Db 4 0 ?_
   refine Dq 5 ?_
   refine Dq 6 ?_
   refine Dq 7 ?_
   refine Db 8 0 ?_
   have ⟨o,p,q⟩:=bnd g
   refine Dk [] [] (oX p) λ⟨s,t⟩=> ?_
   refine Da [] [0] rfl rfl (Ac.bs (ty:=aD) (xs:=[o]) (.cons (s,t) [0] rfl .nil) rfl rfl rfl rfl rfl rfl rfl) λA=> ?_
   refine D.frz 0 rfl ?_
   have ⟨_,u,v⟩:=bnd q
   refine Da [0] [0] rfl rfl (Ac.ap (ty:=aD) u rfl rfl rfl rfl rfl rfl rfl) ?_
   rintro ⟨x,y⟩
   refine Dq 12 ?_
   refine Dq 13 ?_
   refine Dt 0 ?_
   refine Dn ?_
   refine Z0 ?_
   cases v
   exact Eg (_,(x,y)) (m _ rfl) [1,0] [] 2
  refine Z0 ?_
  cases g
  have hb:=n _ rfl
  subst d
  exact Eg (b,c) trivial [0,0] [] 0
 rintro ⟨e,f⟩
 refine Z1 ?_
 cases j
 exact Eo1 (g4,(e,f)) [1,0] []
theorem gx {g:aZ} {r:Int×Int} (H:dV g=some r):CT G 110 [.pointer (some ⟨N0,0,none⟩)] [Ch.box N0 296 [.int .i64 g.w,.slice A0 g.l.length C0],Ch.arr aD 232 A0 C0 g.l] [] (λ_:Unit=> .tuple #[.int .i64 r.1,.int .i64 r.2]) (λh=>[Ch.box N0 296 [.int .i64 g.w,.slice A0 g.l.length C0],Ch.arr aD 232 A0 C0 g.l]) (λh=>[]):=by
 delta dV at H
 refine Cf Go.Proofs.Tryz.func110 λK=> ?_
 refine Y2 ?_
 refine Td [] [0,0] mo ?_
 refine Dq 0 ?_
 refine Dq 1 ?_
 refine Dq 2 ?_
 refine Db 3 0 ?_
 refine Dq 4 ?_
 refine Dq 5 ?_
 refine Dq 6 ?_
 refine Db 7 0 ?_
 refine Dq 8 ?_
 refine Dq 9 ?_
 refine Dq 10 ?_
 refine Dn ?_
 refine Z0 ?_
 cases H
 exact Eo () [0,0] [] (.tmp rfl (.tmp rfl .nil))
theorem uF {w:Int} {h_:Int} {r:aB} (H:lJ w h_=some r):CT G 60 [.int .i64 w,.int .i64 h_] [] [] (λh:Nat×Nat×(Option Addr×Nat)=> .pointer (some ⟨h.1,0,none⟩)) (λh=>[Ch.box h.1 224 (bY r h.2.1),Ch.box h.2.1 296 [.int .i64 r.g.w,.slice h.2.2.1 r.g.l.length h.2.2.2],Ch.arr aD 232 h.2.2.1 h.2.2.2 r.g.l]) (λh=>[]):=by
 delta lJ at H
 refine Cf Go.Proofs.Tryz.func60 λK=> ?_
 refine Z2 ?_
 have ⟨r1,h2,H3⟩:=bnd H
 refine Lk [] [] (CO h2) λ⟨g4,⟨a5,c6⟩⟩=> ?_
 refine Z0 ?_
 refine Lx λg8=> ?_
 refine Z1 ?_
 have ⟨r9,a,b⟩:=bnd H3
 refine Lk [1,1] [] (gx a) λ⟨⟩=> ?_
 refine Z0 ?_
 refine Lt 2 ?_
 refine Z1 ?_
 refine Lt 0 ?_
 refine Z1 ?_
 cases b
 exact Eo1 (g8,g4,(a5,c6)) [0,0,0] []
theorem Bt {w:Int} {h_:Int} {r:bO} (H:nD w h_=some r):CT G 27 [.int .i64 w,.int .i64 h_] [] [] (λh:Nat×Nat×(Option Addr×Nat)×(Option Addr×Nat)×(Option Addr×Nat)×Nat×(Option Addr×Nat)×(Option Addr×Nat)×Nat×Nat×(Option Addr×Nat)=> .pointer (some ⟨h.1,0,none⟩)) (λh=>[Ch.box h.1 120 (iE r h.2.1 h.2.2.2.2.2.1 h.2.2.2.2.2.2.2.2.1),Ch.box h.2.1 178 [.slice h.2.2.1.1 r.book.l.length h.2.2.1.2,.slice h.2.2.2.1.1 r.book.bA.length h.2.2.2.1.2,.slice h.2.2.2.2.1.1 r.book.begun.length h.2.2.2.2.1.2],Ch.arr (Ty.slice aC) 101 h.2.2.1.1 h.2.2.1.2 r.book.l,Ch.arr (Ty.int .i64) 3 h.2.2.2.1.1 h.2.2.2.1.2 r.book.bA,Ch.arr aC 181 h.2.2.2.2.1.1 h.2.2.2.2.1.2 r.book.begun,Ch.box h.2.2.2.2.2.1 151 (eF r.parser h.2.2.2.2.2.2.1.1 h.2.2.2.2.2.2.1.2),Ch.opt (r.parser.state == (3:Int)) (Ty.int .i64) 3 h.2.2.2.2.2.2.1.1 h.2.2.2.2.2.2.1.2 r.parser.order.aW,Ch.box h.2.2.2.2.2.2.2.2.1 224 (bY r.aN h.2.2.2.2.2.2.2.2.2.1),Ch.box h.2.2.2.2.2.2.2.2.2.1 296 [.int .i64 r.aN.g.w,.slice h.2.2.2.2.2.2.2.2.2.2.1 r.aN.g.l.length h.2.2.2.2.2.2.2.2.2.2.2],Ch.arr aD 232 h.2.2.2.2.2.2.2.2.2.2.1 h.2.2.2.2.2.2.2.2.2.2.2 r.aN.g.l]) (λh=>[]):=by
 delta nD at H
 refine Cf Go.Proofs.Tryz.func27 λK=> ?_
 refine Z2 ?_
 have ⟨r1,h2,H3⟩:=bnd H
 refine Lk [] [] (CM h2) λ⟨g4,⟨a5,c6⟩,⟨a7,c8⟩,⟨a9,a⟩⟩=> ?_
 refine Z0 ?_
 refine Lx λb=> ?_
 refine Z0 ?_
 have ⟨m,c,d⟩:=bnd H3
 refine Lk [] [] (uF c) λ⟨e,f,⟨i,j⟩⟩=> ?_
 refine Z0 ?_
 refine Lx λk=> ?_
 refine Z0 ?_
 refine E.gA (Ty.int .i64) 3 ?_
 refine E.EO 0 (0 == (3:Int)) rfl ?_
 cases d
 exact Eo1 (k,g4,(a5,c6),(a7,c8),(a9,a),b,(none,0),(none,0),e,f,(i,j)) [1,5,5,5,5,4,0,0,0,0] []
theorem ph {n_:Int} {lo:Int} {hi:Int} {r:Int} (H:lY n_ lo hi=some r):CT G 111 [.int .i64 n_,.int .i64 lo,.int .i64 hi] [] [] (λ_:Unit=> .int .i64 r) (λh=>[]) (λh=>[]):=by
 delta lY at H
 refine Cf Go.Proofs.Tryz.func111 λK=> ?_
 refine Z2 ?_
 cases H
 exact Eo1 () [] []
theorem rD {c:bW} {r:bW} (H:lr c=some r):CT G 61 [.agg #[.int .i64 c.part,.int .i64 c.every,.int .i64 c.most]] [] [] (λ_:Unit=> .agg #[.int .i64 r.part,.int .i64 r.every,.int .i64 r.most]) (λh=>[]) (λh=>[]):=by
 delta lr at H
 refine Cf Go.Proofs.Tryz.func61 λK=> ?_
 refine Z1 ?_
 refine Lx λg1=> ?_
 refine Ll λg2=> ?_
 refine Y1 ?_
 refine Td [10] [0,0] mo ?_
 refine Dq 0 ?_
 refine Db 1 1 ?_
 refine Dq 3 ?_
 refine Db 4 1 ?_
 refine Dq 6 ?_
 refine Db 7 1 ?_
 have ⟨i,a,b⟩:=bnd H
 refine Dk [] [] (ph a) λ⟨⟩=> ?_
 have ⟨j,d,e⟩:=bnd b
 refine Dk [] [] (ph d) λ⟨⟩=> ?_
 have ⟨k,f,g⟩:=bnd e
 refine Dk [] [] (ph f) λ⟨⟩=> ?_
 refine Dq 9 ?_
 refine Dt 0 ?_
 refine Dn ?_
 refine Z0 ?_
 cases g
 exact Eo () [] [] (.cell 0 rfl rfl rfl .nil)
theorem zT {c:bW} {r:aI} (H:n5 c=some r):CT G 28 [.agg #[.int .i64 c.part,.int .i64 c.every,.int .i64 c.most]] [] [] (λh:Nat×(Option Addr×Nat)×(Option Addr×Nat)×(Option Addr×Nat)×(Option Addr×Nat)×(Option Addr×Nat)×(Option Addr×Nat)×(Option Addr×Nat)=> .pointer (some ⟨h.1,0,none⟩)) (λh=>[Ch.box h.1 158 (gv r h.2.1.1 h.2.1.2 h.2.2.1.1 h.2.2.1.2 h.2.2.2.1.1 h.2.2.2.1.2 h.2.2.2.2.1.1 h.2.2.2.2.1.2 h.2.2.2.2.2.1.1 h.2.2.2.2.2.1.2 h.2.2.2.2.2.2.1.1 h.2.2.2.2.2.2.1.2 h.2.2.2.2.2.2.2.1 h.2.2.2.2.2.2.2.2),Ch.aro bE 103 h.2.2.2.2.2.1.1 h.2.2.2.2.2.1.2 r.kept,Ch.arr Ty.bool 4 h.2.2.2.2.2.2.2.1 h.2.2.2.2.2.2.2.2 r.message.there]) (λh=>[Im.sl aD h.2.1.1 h.2.1.2 r.current.rows,Im.sl aC h.2.2.1.1 h.2.2.1.2 r.current.begun,Im.sl aD h.2.2.2.1.1 h.2.2.2.1.2 r.aM.rows,Im.sl aC h.2.2.2.2.1.1 h.2.2.2.2.1.2 r.aM.begun,Im.sl Ty.str h.2.2.2.2.2.2.1.1 h.2.2.2.2.2.2.1.2 r.message.parts]):=by
 delta n5 at H
 refine Cf Go.Proofs.Tryz.func28 λK=> ?_
 refine Z1 ?_
 refine Lx λg1=> ?_
 refine Z1 ?_
 have ⟨r2,h3,H4⟩:=bnd H
 refine Lk [] [] (rD h3) λ⟨⟩=> ?_
 refine Z0 ?_
 refine L.rv 5 (.agg #[.int .i64 r2.part,.int .i64 r2.every,.int .i64 r2.most,.int .i64 0,.int .i64 0,.int .i64 0,.int .i64 0,.int .i64 0,.string (ByteArray.mk #[]),.slice none 0 0,.int .i64 0,.int .i64 0,.slice none 0 0,.int .i64 0,.int .i64 0,.int .i64 0,.int .i64 0,.int .i64 0,.string (ByteArray.mk #[]),.slice none 0 0,.int .i64 0,.int .i64 0,.slice none 0 0,.slice none 0 0,.int .i64 0,.int .i64 0,.int .i64 0,.slice none 0 0,.slice none 0 0,.int .i64 0,.int .i64 1]) rfl ?_
 refine Lx λg5=> ?_
 refine Z0 ?_
 refine E.lk [Im.sl aD none 0 []] (λA w _ _ f hf=>by rw [List.mem_singleton.1 hf]; exact Im.k9 A w) ?_
 refine E.lk [Im.sl aC none 0 []] (λA w _ _ f hf=>by rw [List.mem_singleton.1 hf]; exact Im.k9 A w) ?_
 refine E.lk [Im.sl aD none 0 []] (λA w _ _ f hf=>by rw [List.mem_singleton.1 hf]; exact Im.k9 A w) ?_
 refine E.lk [Im.sl aC none 0 []] (λA w _ _ f hf=>by rw [List.mem_singleton.1 hf]; exact Im.k9 A w) ?_
 refine E.gA bE 103 ?_
 refine E.MP 0 rfl ?_
 refine E.lk [Im.sl Ty.str none 0 []] (λA w _ _ f hf=>by rw [List.mem_singleton.1 hf]; exact Im.k9 A w) ?_
 refine E.gA Ty.bool 4 ?_
 cases H4
 exact Eo1 (g5,(none,0),(none,0),(none,0),(none,0),(none,0),(none,0),(none,0)) [2,1,0] [4,3,2,1,0]
theorem kB {s_:List aH} (a_0:Option Addr) (c_0:Nat) {r:List aH} (H:eJ s_=some r):CT G 120 [.slice a_0 s_.length c_0] [] [Im.sl aT a_0 c_0 s_] (λh:(Option Addr×Nat)=> .slice h.1 r.length h.2) (λh=>[Ch.arr aT 235 h.1 h.2 r]) (λh=>[]):=by
  delta eJ at H
  refine Cf Go.Proofs.Tryz.func120 λK=> ?_
  have ⟨_,h0,H⟩:=bnd H
  have hr:=Option.some.inj H
  refine T.seq (T.region (L.q 1 rfl (L.nil (E.then (T.seq (T.seq (T.region ?_)))))))
  refine L.q 1 rfl ?_
  refine L.Lj 0 rfl rfl rfl rfl rfl rfl rfl rfl rfl (λha hx=> ?_) ?_
  · refine L.nil (E.then (T.cond rfl (λ_=> ?_) (λh=>nomatch h)))
    refine T.seq (T.region (L.q 1 rfl (L.nil (E.then (T.ret (E.pt ?_))))))
    subst hx
    subst r
    refine E.gA aT 235 ?_
    exact E.ret (none,0) [0] [] (.tmp rfl .nil) rfl rfl rfl
  · refine L.nil (E.then (T.cond rfl (λh=>nomatch h) (λ_=> ?_)))
    refine T.skip (E.then (T.seq (T.region ?_)))
    refine L.a [] [] (Ac.bs (ty:=aT) (xs:=[]) .nil rfl rfl rfl rfl rfl rfl rfl) rfl rfl rfl rfl rfl ?_
    intro g1
    refine L.q 1 rfl ?_
    refine L.a [0] [0] (Ac.ap (ty:=aT) h0 rfl rfl rfl rfl rfl rfl rfl) rfl rfl rfl rfl rfl ?_
    rintro ⟨a1,c1⟩
    refine L.q 1 rfl ?_
    refine L.nil (E.then (T.ret ?_))
    subst r
    exact E.ret (a1,c1) [0] [] (.tmp rfl .nil) rfl rfl rfl
theorem xX {r_:aG} {r:aG} (H:na r_=some r):CT G 273 [.agg #[.slice A0 r_.cells.length C0,.bool r_.wrapped]] [] [Im.sl aT A0 C0 r_.cells] (λh:(Option Addr×Nat)=> .agg #[.slice h.1 r.cells.length h.2,.bool r.wrapped]) (λh=>[]) (λh=>[Im.sl aT h.1 h.2 r.cells]):=by
 delta na at H
 refine Cf Go.Proofs.Tryz.func273 λK=> ?_
 refine Z1 ?_
 refine Lx λg1=> ?_
 refine Ll λg2=> ?_
 refine Y1 ?_
 refine Td [6] [0,0] mo ?_
 refine Dq 0 ?_
 refine Db 1 1 ?_
 refine Dq 3 ?_
 refine Db 4 1 ?_
 have ⟨e,a,b⟩:=bnd H
 refine Dk [] [0] (kB A0 C0 a) λ⟨c,d⟩=> ?_
 refine Dq 5 ?_
 refine Dt 0 ?_
 refine Dn ?_
 refine Z0 ?_
 refine E.frz 2 rfl ?_
 cases b
 exact Eo (c,d) [] [0] (.cell 0 rfl rfl rfl .nil)
theorem xY {l:List aG} {r:(List aG)} (H:mH l=some r):CT G 224 [.slice A0 l.length C0] [Ch.arr aD 232 A0 C0 l] [] (λh:Nat=> .func (.func 276) #[] #[.pointer (some ⟨h,0,none⟩)]) (λh=>[Ch.box h 100 [.slice A0 r.length C0],Ch.arr aD 232 A0 C0 r]) (λh=>[]):=by
 delta mH at H
 refine Cf Go.Proofs.Tryz.func224 λK=> ?_
 refine Z1 ?_
 refine Lx λg1=> ?_
 refine Z1 ?_
 cases H
 exact Eo1 g1 [0,0] []
theorem vr {σ η:Type} {Y:σ->aG->Option (σ×Bool)} {y0:σ} {x1:List aG} {yl:Nat} {C:σ->η->Ch} (hY: ∀ s (h:η) (x:aG) (t:(Option Addr×Nat)) z,Y s x=some z->YT G yl [.agg #[.slice t.1 x.cells.length t.2,.bool x.wrapped]] [C s h] [Im.sl aT t.1 t.2 x.cells] (λ_:η=> .bool z.2) (λh2=>[C z.1 h2]) (λ_=>[])) (h0:η) (g_1:Nat) (a_1_0:Option Addr) (c_1_0:Nat) {r:σ} (H:jk Y y0 x1=some r):CT G 276 [.func (.yield yl) #[] #[],.pointer (some ⟨g_1,0,none⟩)] [C y0 h0,Ch.box g_1 100 [.slice a_1_0 x1.length c_1_0],Ch.arr aD 232 a_1_0 c_1_0 x1] [] (λh:η=> .tuple #[]) (λh=>[C r h,Ch.box g_1 100 [.slice a_1_0 x1.length c_1_0],Ch.arr aD 232 a_1_0 c_1_0 x1]) (λh=>[]):=by
  delta jk at H
  refine Cf Go.Proofs.Tryz.func276 λK=> ?_
  refine Z1 ?_
  have ⟨e,p,j⟩:=bnd H
  refine T.qB (η:=σ×(η)) (λh=>e = .inl h.1) (λh=>(λc=>(λa=>[]) h.2) h.1) (λh=>(λc=>(λa=>[C c a,Ch.box g_1 100 [.slice a_1_0 x1.length c_1_0],Ch.arr aD 232 a_1_0 c_1_0 x1]) h.2) h.1) (λh=>(λc=>(λa=>[]) h.2) h.1) ?_ ?_
  ·refine Yl0 ?_
   refine Tq (η:=η) (λb h=>(λd=>[(7,.int .i64 b.1)]) h) [0,5,6] (λb h=>(λd=>[C b.2 d]) h) [1,2] (λ_ _=>[]) h0 [0,0,0] [] p ?_
   rintro k_ b d q u w k
   refine Y2 ?_
   refine Tb u (λf=> ?_) λf=> ?_
   ·refine Z1 ?_
    refine Zl ?_
    refine Z1 ?_
    have ⟨l,g,y⟩:=bnd f
    refine L.lN 2 rfl (cQ g) λP A=> ?_
    subst A
    refine Ly (Yl.ia g rfl rfl rfl rfl rfl rfl) ?_
    refine La [2] [] (Ac.lo b.1.toNat 0 (v:=(λh:(Option Addr×Nat)=>(λm n=> .agg #[.slice m l.cells.length n,.bool l.wrapped]) h.1 h.2)) (aY g).2 rfl rfl rfl (λ_=>rfl)) ?_
    rintro ⟨m,n⟩
    refine Ll λQ=> ?_
    refine Lt 0 ?_
    refine Z1 ?_
    have ⟨R,B,F⟩:=bnd y
    refine Lk [] [0] (xX B) λ⟨I,J⟩=> ?_
    have ⟨S,M,N⟩:=bnd F
    refine L.yd [2] [0] (hY _ _ _ (I,J) _ M) rfl rfl rfl rfl rfl rfl rfl rfl ?_
    intro o
    refine Z0 ?_
    refine Tb N (λi=> ?_) λi=> ?_
    ·refine Z0 ?_
     obtain ⟨U,hz,O⟩:=fG i
     subst q
     have hb:=k _ rfl
     subst e
     obtain rfl:=(sm j).symm
     refine Z0 ?_
     cases O
     exact Eo o [0,2,1] [] .nil
    refine Z0 ?_
    cases i
    exact Eg (_,o) (w _ rfl) [0,2,1] [] 2
   refine Z0 ?_
   cases f
   have hb:=k _ rfl
   subst e
   exact Egx (_,d) rfl [0,0,0] []
  rintro ⟨c,a⟩ hy
  subst hy
  refine E.off ?_
  cases j
  exact Eo a [0,0,0] [] .nil
theorem pT {l:List aG} {r:(List aG)×(List aG)} (H:jm l=some r):CT G 180 [.slice A0 l.length C0] [Ch.arr aD 232 A0 C0 l] [] (λh:(Option Addr×Nat)=> .slice h.1 r.1.length h.2) (λh=>[Ch.arr aD 232 h.1 h.2 r.1,Ch.arr aD 232 A0 C0 r.2]) (λh=>[]):=by
 delta jm at H
 refine Cf Go.Proofs.Tryz.func180 λK=> ?_
 refine T.yc ?_
 refine Z2 ?_
 refine Ll λg1=> ?_
 refine Z2 ?_
 have ⟨r2,h3,H4⟩:=bnd H
 refine Lk [2] [] (xY h3) λg5=> ?_
 refine Yl0 ?_
 refine T.gA aD 232 ?_
 have ⟨e,f,g⟩:=bnd H4
 refine T.rf2 (σ:=(List aG)) (η:=(Option Addr×Nat)) (X:=aG) (θ:=(Option Addr×Nat)) (τ:=(Option Addr×Nat)) (s1:=e) (hx:=λx=>x) (λx t=>[.agg #[.slice t.1 x.cells.length t.2,.bool x.wrapped]]) (λx t=>[Im.sl aT t.1 t.2 x.cells]) (λ_=>none) (λa h=>(λb c=>[Ch.arr aD 232 b c a,Ch.box g1 100 [.slice b a.length c]]) h.1 h.2) (λa h=>(λb c=>[]) h.1 h.2) 4 [0,2,0,0] [] [] rfl rfl (λ_ _=>rfl) rfl (λyl C hY=>(vr hY (none,0) g5 A0 C0 f:_)) (λ_ _ _ _=>rfl) rfl rfl rfl rfl rfl ?_ rfl ?_
 ·rintro yl K2 a ⟨b,c⟩ x9 ⟨a7,c8⟩ o i
  refine Z0 ?_
  refine Ll λp=> ?_
  refine Lt 0 ?_
  refine Z0 ?_
  refine E.begin λK3=> ?_
  refine Zl ?_
  refine La [] [0] (Ac.bs (ty:=aD) (xs:=[x9]) (.cons (a7,c8) [0] rfl .nil) rfl rfl rfl rfl rfl rfl rfl) λq=> ?_
  refine L.frz 0 rfl ?_
  have ⟨_,j,k⟩:=bnd i
  refine La [1] [0] (Ac.ap (ty:=aD) j rfl rfl rfl rfl rfl rfl rfl) ?_
  rintro ⟨m,n⟩
  refine Lt 2 ?_
  refine Z0 ?_
  cases k
  exact E.on (m,n) [1,0] [] rfl rfl rfl rfl
 rintro d s
 refine Z1 ?_
 cases g
 exact E.u3 (d.1,d.2) 0 [0,2] [] rfl (.tmp rfl .nil) rfl rfl rfl
theorem uG {g:aZ} {r:aZ×aZ} (H:jQ g=some r):CT G 165 [.pointer (some ⟨N0,0,none⟩)] [Ch.box N0 296 [.int .i64 g.w,.slice A0 g.l.length C0],Ch.arr aD 232 A0 C0 g.l] [] (λh:Nat×(Option Addr×Nat)=> .pointer (some ⟨h.1,0,none⟩)) (λh=>[Ch.box h.1 296 [.int .i64 r.1.w,.slice h.2.1 r.1.l.length h.2.2],Ch.arr aD 232 h.2.1 h.2.2 r.1.l,Ch.box N0 296 [.int .i64 r.2.w,.slice A0 r.2.l.length C0],Ch.arr aD 232 A0 C0 r.2.l]) (λh=>[]):=by
 delta jQ at H
 refine Cf Go.Proofs.Tryz.func165 λK=> ?_
 refine Y2 ?_
 refine Td [] [0] mo ?_
 refine Dq 0 ?_
 refine Dq 1 ?_
 refine Dq 2 ?_
 refine Db 3 0 ?_
 refine Dq 4 ?_
 refine Dq 5 ?_
 refine Dq 6 ?_
 refine Db 7 0 ?_
 have ⟨a,b,c⟩:=bnd H
 refine Dk [0] [] (pT b) λ⟨d,e⟩=> ?_
 have ⟨_,f,i⟩:=bnd c
 refine Dq 9 ?_
 refine Da [] [] rfl rfl (Ac.box rfl rfl) λj=> ?_
 refine Dq 11 ?_
 refine Dn ?_
 refine E.bx 0 (cs':=[.int .i64 g.w,.slice A0 a.2.length C0]) (by rw [(eG f)]) rfl ?_
 refine Z0 ?_
 cases i
 exact Eo1 (j,(d,e)) [1,1,0,0] []
theorem rE {s_:aB} {r:aZ×aB} (H:iz s_=some r):CT G 121 [.pointer (some ⟨N0,0,none⟩)] [Ch.box N0 224 (bY s_ N1),Ch.box N1 296 [.int .i64 s_.g.w,.slice A0 s_.g.l.length C0],Ch.arr aD 232 A0 C0 s_.g.l] [] (λh:Nat×(Option Addr×Nat)=> .pointer (some ⟨h.1,0,none⟩)) (λh=>[Ch.box h.1 296 [.int .i64 r.1.w,.slice h.2.1 r.1.l.length h.2.2],Ch.arr aD 232 h.2.1 h.2.2 r.1.l,Ch.box N0 224 (bY r.2 N1),Ch.box N1 296 [.int .i64 r.2.g.w,.slice A0 r.2.g.l.length C0],Ch.arr aD 232 A0 C0 r.2.g.l]) (λh=>[]):=by
 delta iz at H
 refine Cf Go.Proofs.Tryz.func121 λK=> ?_
 refine Z2 ?_
 have ⟨r1,h2,H3⟩:=bnd H
 refine Lk [1,1] [] (uG h2) λ⟨g4,⟨a5,c6⟩⟩=> ?_
 refine Z0 ?_
 cases H3
 exact Eo1 (g4,(a5,c6)) [0,0,2,0,0] []
theorem qL {s_:aB} {r:ByteArray} (H:jy s_=some r):CT G 122 [.pointer (some ⟨N0,0,none⟩)] [Ch.box N0 224 (bY s_ N1),Ch.box N1 296 [.int .i64 s_.g.w,.slice A0 s_.g.l.length C0],Ch.arr aD 232 A0 C0 s_.g.l] [] (λ_:Unit=> .string r) (λh=>[Ch.box N0 224 (bY s_ N1),Ch.box N1 296 [.int .i64 s_.g.w,.slice A0 s_.g.l.length C0],Ch.arr aD 232 A0 C0 s_.g.l]) (λh=>[]):=by
 delta jy at H
 refine Cf Go.Proofs.Tryz.func122 λK=> ?_
 refine Z2 ?_
 cases H
 exact Eo1 () [0,0,0] []
theorem vt {g:aZ} {r:(List aG)×aZ} (H:ku g=some r):CT G 123 [.pointer (some ⟨N0,0,none⟩)] [Ch.box N0 296 [.int .i64 g.w,.slice A0 g.l.length C0],Ch.arr aD 232 A0 C0 g.l] [] (λh:(Option Addr×Nat)=> .slice h.1 r.1.length h.2) (λh=>[Ch.arr aD 232 h.1 h.2 r.1,Ch.box N0 296 [.int .i64 r.2.w,.slice A0 r.2.l.length C0],Ch.arr aD 232 A0 C0 r.2.l]) (λh=>[]):=by
 delta ku at H
 refine Cf Go.Proofs.Tryz.func123 λK=> ?_
 refine Z2 ?_
 have ⟨r1,h2,H3⟩:=bnd H
 refine Lk [1] [] (pT h2) λ⟨a4,c5⟩=> ?_
 have ⟨_,h8,H9⟩:=bnd H3
 refine L.bx 2 (cs':=[.int .i64 g.w,.slice A0 r1.2.length C0]) (by rw [eG h8]) rfl ?_
 refine Z0 ?_
 cases H9
 exact Eo1 (a4,c5) [1,0,0] []
theorem qE {b:bT} {r:Int} (H:kQ b=some r):CT G 94 [.pointer (some ⟨N0,0,none⟩)] [Ch.box N0 178 [.slice A0 b.l.length C0,.slice A1 b.bA.length C1,.slice A2 b.begun.length C2],Ch.arr (Ty.slice aC) 101 A0 C0 b.l,Ch.arr (Ty.int .i64) 3 A1 C1 b.bA,Ch.arr aC 181 A2 C2 b.begun] [] (λ_:Unit=> .int .i64 r) (λh=>[Ch.box N0 178 [.slice A0 b.l.length C0,.slice A1 b.bA.length C1,.slice A2 b.begun.length C2],Ch.arr (Ty.slice aC) 101 A0 C0 b.l,Ch.arr (Ty.int .i64) 3 A1 C1 b.bA,Ch.arr aC 181 A2 C2 b.begun]) (λh=>[]):=by
 delta kQ at H
 refine Cf Go.Proofs.Tryz.func94 λK=> ?_
 refine Z2 ?_
 cases H
 exact Eo1 () [0,0,0,0] []
theorem uH {b:bT} {n_:Int} {r:Int} (H:jN b n_=some r):CT G 124 [.pointer (some ⟨N0,0,none⟩),.int .i64 n_] [Ch.box N0 178 [.slice A0 b.l.length C0,.slice A1 b.bA.length C1,.slice A2 b.begun.length C2],Ch.arr (Ty.slice aC) 101 A0 C0 b.l,Ch.arr (Ty.int .i64) 3 A1 C1 b.bA,Ch.arr aC 181 A2 C2 b.begun] [] (λ_:Unit=> .int .i64 r) (λh=>[Ch.box N0 178 [.slice A0 b.l.length C0,.slice A1 b.bA.length C1,.slice A2 b.begun.length C2],Ch.arr (Ty.slice aC) 101 A0 C0 b.l,Ch.arr (Ty.int .i64) 3 A1 C1 b.bA,Ch.arr aC 181 A2 C2 b.begun]) (λh=>[]):=by
 delta jN at H
 refine Cf Go.Proofs.Tryz.func124 λK=> ?_
 refine Y2 ?_
 refine Td [] [0,0,0,0] mo ?_
 refine Dq 0 ?_
 refine Dq 1 ?_
 refine Dq 2 ?_
 refine Db 3 0 ?_
 refine Dq 4 ?_
 refine Dq 5 ?_
 refine Dq 6 ?_
 refine Dq 7 ?_
 refine Db 8 0 ?_
 refine Dq 9 ?_
 refine Dq 10 ?_
 refine Dq 11 ?_
 have ⟨c,a,d⟩:=bnd H
 refine D.lN 2 rfl (cQ a) λf e=> ?_
 subst e
 refine Dy 12 (Yl.ia a rfl rfl rfl rfl rfl rfl) ?_
 refine Dy 13 (Yl.lo (v:= .int .i64 c) 2 ((imax 0 (dF n_ (b.l.length:Int))).toNat) 0 (aY a).2 rfl rfl rfl rfl (λ_=>rfl)) ?_
 refine Dq 14 ?_
 refine Dn ?_
 refine Z0 ?_
 cases d
 exact Eo1 () [0,0,0,0] []
theorem ig {s_:List aJ} (a_0:Option Addr) (c_0:Nat) {r:List aJ} (H:cA s_=some r):CT G 77 [.slice a_0 s_.length c_0] [] [Im.sl aC a_0 c_0 s_] (λh:(Option Addr×Nat)=> .slice h.1 r.length h.2) (λh=>[Ch.arr aC 181 h.1 h.2 r]) (λh=>[]):=by
  delta cA at H
  refine Cf Go.Proofs.Tryz.func77 λK=> ?_
  have ⟨_,h0,H⟩:=bnd H
  have hr:=Option.some.inj H
  refine T.seq (T.region (L.q 1 rfl (L.nil (E.then (T.seq (T.seq (T.region ?_)))))))
  refine L.q 1 rfl ?_
  refine L.Lj 0 rfl rfl rfl rfl rfl rfl rfl rfl rfl (λha hx=> ?_) ?_
  · refine L.nil (E.then (T.cond rfl (λ_=> ?_) (λh=>nomatch h)))
    refine T.seq (T.region (L.q 1 rfl (L.nil (E.then (T.ret (E.pt ?_))))))
    subst hx
    subst r
    refine E.gA aC 181 ?_
    exact E.ret (none,0) [0] [] (.tmp rfl .nil) rfl rfl rfl
  · refine L.nil (E.then (T.cond rfl (λh=>nomatch h) (λ_=> ?_)))
    refine T.skip (E.then (T.seq (T.region ?_)))
    refine L.a [] [] (Ac.bs (ty:=aC) (xs:=[]) .nil rfl rfl rfl rfl rfl rfl rfl) rfl rfl rfl rfl rfl ?_
    intro g1
    refine L.q 1 rfl ?_
    refine L.a [0] [0] (Ac.ap (ty:=aC) h0 rfl rfl rfl rfl rfl rfl rfl) rfl rfl rfl rfl rfl ?_
    rintro ⟨a1,c1⟩
    refine L.q 1 rfl ?_
    refine L.nil (E.then (T.ret ?_))
    subst r
    exact E.ret (a1,c1) [0] [] (.tmp rfl .nil) rfl rfl rfl
theorem oG {s_:List aJ} (a_0:Option Addr) (c_0:Nat) {r:List aJ} (H:cA s_=some r):CT G 77 [.slice a_0 s_.length c_0] [Ch.arr aC 181 a_0 c_0 s_] [] (λh:(Option Addr×Nat)=> .slice h.1 r.length h.2) (λh=>[Ch.arr aC 181 h.1 h.2 r,Ch.arr aC 181 a_0 c_0 s_]) (λh=>[]):=by
  delta cA at H
  refine Cf Go.Proofs.Tryz.func77 λK=> ?_
  have ⟨_,h0,H⟩:=bnd H
  have hr:=Option.some.inj H
  refine T.seq (T.region (L.q 1 rfl (L.nil (E.then (T.seq (T.seq (T.region ?_)))))))
  refine L.cap 0 rfl λhle=> ?_
  have hv:=Lo (ty:=aC) (a0:=a_0) hle
  rw [<- Dg s_] at h0 hr
  refine L.sl 0 (k':=(cut s_ 0 (s_.length:Int)).length) (by rw [Dg]) rfl ?_
  refine L.q 1 rfl ?_
  refine L.MN 0 hv rfl rfl rfl rfl rfl rfl rfl rfl rfl (λhx=> ?_) ?_
  · refine L.nil (E.then (T.cond rfl (λ_=> ?_) (λh=>nomatch h)))
    refine T.seq (T.region (L.q 1 rfl (L.nil (E.then (T.ret (E.pt ?_))))))
    rw [hx] at hr
    subst r
    refine E.gA aC 181 ?_
    exact E.ret (none,0) [0,0] [] (.tmp rfl .nil) rfl rfl rfl
  · refine L.nil (E.then (T.cond rfl (λh=>nomatch h) (λ_=> ?_)))
    refine T.skip (E.then (T.seq (T.region ?_)))
    refine L.a [] [] (Ac.bs (ty:=aC) (xs:=[]) .nil rfl rfl rfl rfl rfl rfl rfl) rfl rfl rfl rfl rfl ?_
    intro g1
    refine L.q 1 rfl ?_
    refine L.a [0,0] [] (Ac.apv (ty:=aC) hv h0 rfl rfl rfl rfl rfl rfl rfl) rfl rfl rfl rfl rfl ?_
    rintro ⟨a1,c1⟩
    refine L.q 1 rfl ?_
    refine L.nil (E.then (T.ret ?_))
    subst r
    exact E.ret (a1,c1) [0,0] [] (.tmp rfl .nil) rfl rfl rfl
theorem uI {b:bT} {r:(List aJ)} (H:jO b=some r):CT G 125 [.pointer (some ⟨N0,0,none⟩)] [Ch.box N0 178 [.slice A0 b.l.length C0,.slice A1 b.bA.length C1,.slice A2 b.begun.length C2],Ch.arr (Ty.slice aC) 101 A0 C0 b.l,Ch.arr (Ty.int .i64) 3 A1 C1 b.bA,Ch.arr aC 181 A2 C2 b.begun] [] (λh:(Option Addr×Nat)=> .slice h.1 r.length h.2) (λh=>[Ch.arr aC 181 h.1 h.2 r,Ch.box N0 178 [.slice A0 b.l.length C0,.slice A1 b.bA.length C1,.slice A2 b.begun.length C2],Ch.arr (Ty.slice aC) 101 A0 C0 b.l,Ch.arr (Ty.int .i64) 3 A1 C1 b.bA,Ch.arr aC 181 A2 C2 b.begun]) (λh=>[]):=by
 delta jO at H
 refine Cf Go.Proofs.Tryz.func125 λK=> ?_
 refine Z2 ?_
 have ⟨r1,h2,H3⟩:=bnd H
 refine Lk [3] [] (oG A2 C2 h2) λ⟨a4,c5⟩=> ?_
 refine Z0 ?_
 cases H3
 exact Eo1 (a4,c5) [0,1,1,1,0] []
theorem qs {s_:aB} {r:Int×Int} (H:jc s_=some r):CT G 126 [.pointer (some ⟨N0,0,none⟩)] [Ch.box N0 224 (bY s_ N1),Ch.box N1 296 [.int .i64 s_.g.w,.slice A0 s_.g.l.length C0],Ch.arr aD 232 A0 C0 s_.g.l] [] (λ_:Unit=> .tuple #[.int .i64 r.1,.int .i64 r.2]) (λh=>[Ch.box N0 224 (bY s_ N1),Ch.box N1 296 [.int .i64 s_.g.w,.slice A0 s_.g.l.length C0],Ch.arr aD 232 A0 C0 s_.g.l]) (λh=>[]):=by
 delta jc at H
 refine Cf Go.Proofs.Tryz.func126 λK=> ?_
 refine Y2 ?_
 refine Td [] [0,0,0] mo ?_
 refine Dq 0 ?_
 refine Dq 1 ?_
 refine Dq 2 ?_
 refine Dq 3 ?_
 refine Db 4 0 ?_
 refine Dq 5 ?_
 refine Dq 6 ?_
 refine Dq 7 ?_
 refine Dq 8 ?_
 refine Db 9 0 ?_
 refine Dq 10 ?_
 refine Dq 11 ?_
 refine Dn ?_
 refine Z0 ?_
 cases H
 exact Eo () [0,0,0] [] (.tmp rfl (.tmp rfl .nil))
theorem FP {k:Int} {s_:aB} {b:bT} {r:aL×aB} (H:rT k s_ b=some r):CT G 64 [.int .i64 k,.pointer (some ⟨N0,0,none⟩),.pointer (some ⟨N2,0,none⟩)] [Ch.box N0 224 (bY s_ N1),Ch.box N1 296 [.int .i64 s_.g.w,.slice A0 s_.g.l.length C0],Ch.arr aD 232 A0 C0 s_.g.l,Ch.box N2 178 [.slice A1 b.l.length C1,.slice A2 b.bA.length C2,.slice A3 b.begun.length C3],Ch.arr (Ty.slice aC) 101 A1 C1 b.l,Ch.arr (Ty.int .i64) 3 A2 C2 b.bA,Ch.arr aC 181 A3 C3 b.begun] [] (λh:(Option Addr×Nat)×(Option Addr×Nat)=> .agg (iD r.1 h.1.1 h.1.2 h.2.1 h.2.2).toArray) (λh=>[Ch.box N0 224 (bY r.2 N1),Ch.box N1 296 [.int .i64 r.2.g.w,.slice A0 r.2.g.l.length C0],Ch.arr aD 232 A0 C0 r.2.g.l,Ch.box N2 178 [.slice A1 b.l.length C1,.slice A2 b.bA.length C2,.slice A3 b.begun.length C3],Ch.arr (Ty.slice aC) 101 A1 C1 b.l,Ch.arr (Ty.int .i64) 3 A2 C2 b.bA,Ch.arr aC 181 A3 C3 b.begun]) (λh=>[Im.sl aD h.1.1 h.1.2 r.1.rows,Im.sl aC h.2.1 h.2.2 r.1.begun]):=by
 delta rT at H
 refine Cf Go.Proofs.Tryz.func64 λK=> ?_
 refine Z1 ?_
 refine Ll λg1=> ?_
 refine Z1 ?_
 have ⟨r2,h3,H4⟩:=bnd H
 refine Lk [1,1,1] [] (rE h3) λ⟨g5,⟨a6,c7⟩⟩=> ?_
 refine Z1 ?_
 have ⟨B,a,c⟩:=bnd H4
 refine Lk [2,2,2] [] (qL a) λ⟨⟩=> ?_
 refine Z0 ?_
 have ⟨C,d,e⟩:=bnd c
 refine Lk [3,3] [] (vt d) λ⟨f,i⟩=> ?_
 refine Z0 ?_
 have ⟨F,j,m⟩:=bnd e
 refine Lk [7,7,7,7] [] (qE j) λ⟨⟩=> ?_
 refine Z0 ?_
 have ⟨I,n,o⟩:=bnd m
 refine Lk [0,0,0,0] [] (qE n) λ⟨⟩=> ?_
 have ⟨J,p,q⟩:=bnd o
 refine Lk [0,0,0,0] [] (uH p) λ⟨⟩=> ?_
 refine Z0 ?_
 have ⟨M,s,t⟩:=bnd q
 refine Lk [0,0,0,0] [] (uI s) λ⟨u,v⟩=> ?_
 refine Z0 ?_
 refine Ll λN=> ?_
 refine Lt 0 ?_
 refine Z1 ?_
 have ⟨O,x,y⟩:=bnd t
 refine Lk [7,7] [] (gx x) λ⟨⟩=> ?_
 refine Z0 ?_
 refine Lt 2 ?_
 refine Z0 ?_
 refine Lt 0 ?_
 refine Z1 ?_
 have ⟨P,z,A⟩:=bnd y
 refine Lk [9,9,9] [] (qs z) λ⟨⟩=> ?_
 refine Z0 ?_
 refine Lt 3 ?_
 refine Z0 ?_
 refine Lt 0 ?_
 refine Z1 ?_
 refine Lt 12 ?_
 refine Z0 ?_
 refine E.frz 12 rfl ?_
 refine E.frz 7 rfl ?_
 cases A
 exact Eo ((f,i),(u,v)) [2,2,2,4,4,4,4] [1,0] (.cell 0 rfl rfl rfl .nil)
theorem oH {m_:bO} {r:aL×bO} (H:fY m_=some r):CT G 30 [.pointer (some ⟨N0,0,none⟩)] [Ch.box N0 120 (iE m_ N1 N2 N3),Ch.box N1 178 [.slice A0 m_.book.l.length C0,.slice A1 m_.book.bA.length C1,.slice A2 m_.book.begun.length C2],Ch.arr (Ty.slice aC) 101 A0 C0 m_.book.l,Ch.arr (Ty.int .i64) 3 A1 C1 m_.book.bA,Ch.arr aC 181 A2 C2 m_.book.begun,Ch.box N2 151 (eF m_.parser A3 C3),Ch.opt (m_.parser.state == (3:Int)) (Ty.int .i64) 3 A3 C3 m_.parser.order.aW,Ch.box N3 224 (bY m_.aN N4),Ch.box N4 296 [.int .i64 m_.aN.g.w,.slice A5 m_.aN.g.l.length C5],Ch.arr aD 232 A5 C5 m_.aN.g.l] [] (λh:(Option Addr×Nat)×(Option Addr×Nat)×(Option Addr×Nat)=> .agg (iD r.1 h.1.1 h.1.2 h.2.1.1 h.2.1.2).toArray) (λh=>[Ch.box N0 120 (iE r.2 N1 N2 N3),Ch.box N1 178 [.slice A0 r.2.book.l.length C0,.slice A1 r.2.book.bA.length C1,.slice A2 r.2.book.begun.length C2],Ch.arr (Ty.slice aC) 101 A0 C0 r.2.book.l,Ch.arr (Ty.int .i64) 3 A1 C1 r.2.book.bA,Ch.arr aC 181 A2 C2 r.2.book.begun,Ch.box N2 151 (eF r.2.parser A3 C3),Ch.opt (r.2.parser.state == (3:Int)) (Ty.int .i64) 3 A3 C3 r.2.parser.order.aW,Ch.box N3 224 (bY r.2.aN N4),Ch.box N4 296 [.int .i64 r.2.aN.g.w,.slice A5 r.2.aN.g.l.length C5],Ch.arr aD 232 A5 C5 r.2.aN.g.l]) (λh=>[Im.sl aD h.1.1 h.1.2 r.1.rows,Im.sl aC h.2.1.1 h.2.1.2 r.1.begun]):=by
 delta fY at H
 refine Cf Go.Proofs.Tryz.func30 λK=> ?_
 refine Z1 ?_
 refine Ll λg1=> ?_
 refine Y1 ?_
 refine Td [14] [0,0,4,4] mo ?_
 refine Dq 0 ?_
 refine Dq 1 ?_
 refine Dq 2 ?_
 refine Db 3 1 ?_
 refine Dq 4 ?_
 refine Dq 5 ?_
 refine Dq 6 ?_
 refine Dq 7 ?_
 refine Db 8 1 ?_
 refine Dq 9 ?_
 refine Dq 10 ?_
 refine Dq 11 ?_
 refine Db 12 1 ?_
 have ⟨i,a,b⟩:=bnd H
 refine Dk [4,4,4,0,0,0,0] [] (FP a) λ⟨⟨c,d⟩,⟨e,f⟩⟩=> ?_
 refine Dt 0 ?_
 refine Dn ?_
 refine Z0 ?_
 cases b
 exact Eo ((c,d),(e,f),(none,0)) [1,6,6,6,6,1,1,1,1,1] [0,1] (.cell 0 rfl rfl rfl .nil)
theorem oY {s_:aL} {r:Bool} (H:gM s_=some r):CT G 112 [.agg (iD s_ A0 C0 A1 C1).toArray] [] [Im.sl aD A0 C0 s_.rows,Im.sl aC A1 C1 s_.begun] (λ_:Unit=> .bool r) (λh=>[]) (λh=>[]):=by
 delta gM at H
 refine Cf Go.Proofs.Tryz.func112 λK=> ?_
 refine Z1 ?_
 refine Lx λg1=> ?_
 refine Y1 ?_
 have ⟨k,l,m⟩:=bnd H
 refine Tj0 [(2,.bool k)] [] [] [0] ?_ ?_
 ·refine Z0 ?_
  refine Lw 6 l (λa=> ?_) λa=> ?_
  ·refine Z0 ?_
   refine Lw 11 a (λb=> ?_) λb=> ?_
   ·refine Z0 ?_
    refine Lw 16 b (λc=> ?_) λc=> ?_
    ·refine Z0 ?_
     refine Lw 21 c (λd=> ?_) λd=> ?_
     ·refine Z0 ?_
      refine Lw 26 d (λe=> ?_) λe=> ?_
      ·refine Z0 ?_
       refine Lw 31 e (λf=> ?_) λf=> ?_
       ·refine Z0 ?_
        refine Lw 37 f (λg=> ?_) λg=> ?_
        ·refine Z0 ?_
         refine Lw 42 g (λi=> ?_) λi=> ?_
         ·refine Z0 ?_
          refine Lw 47 i (λj=> ?_) λj=> ?_
          ·refine Z0 ?_
           cases j
           exact Eg0 [0] 0
          refine Z0 ?_
          cases j
          exact Eg0 [0] 0
         refine Z0 ?_
         cases i
         exact Eg0 [0] 0
        refine Z0 ?_
        cases g
        exact Eg0 [0] 0
       refine Z0 ?_
       cases f
       exact Eg0 [0] 0
      refine Z0 ?_
      cases e
      exact Eg0 [0] 0
     refine Z0 ?_
     cases d
     exact Eg0 [0] 0
    refine Z0 ?_
    cases c
    exact Eg0 [0] 0
   refine Z0 ?_
   cases b
   exact Eg0 [0] 0
  refine Z0 ?_
  cases a
  exact Eg0 [0] 0
 refine Z0 ?_
 cases m
 exact Eo1 () [] []
theorem gF {n_:Int} {lo:Int} {hi:Int} {r:Bool} (H:eM n_ lo hi=some r):CT G 177 [.int .i64 n_,.int .i64 lo,.int .i64 hi] [] [] (λ_:Unit=> .bool r) (λh=>[]) (λh=>[]):=by
 delta eM at H
 refine Cf Go.Proofs.Tryz.func177 λK=> ?_
 refine Y2 ?_
 have ⟨e4,H5,H6⟩:=bnd H
 refine Tj0 [(6,.bool e4)] [] [] [] ?_ ?_
 ·refine Z0 ?_
  refine Lw 10 H5 (λH7=> ?_) λH7=> ?_
  ·refine Z0 ?_
   cases H7
   exact Eg0 [] 0
  refine Z0 ?_
  cases H7
  exact Eg0 [] 0
 refine Z0 ?_
 cases H6
 exact Eo1 () [] []
theorem uJ {s_:aL} {r:Bool} (H:jW s_=some r):CT G 113 [.agg (iD s_ A0 C0 A1 C1).toArray] [] [Im.sl aD A0 C0 s_.rows,Im.sl aC A1 C1 s_.begun] (λ_:Unit=> .bool r) (λh=>[]) (λh=>[]):=by
 delta jW at H
 refine Cf Go.Proofs.Tryz.func113 λK=> ?_
 refine Z1 ?_
 refine Lx λg1=> ?_
 refine Y1 ?_
 have ⟨k,l,m⟩:=bnd H
 refine Tj0 [(2,.bool k)] [] [] [0] ?_ ?_
 ·refine Z0 ?_
  have ⟨C,n,o⟩:=bnd l
  refine Lk [] [] (gF n) λ⟨⟩=> ?_
  refine Z0 ?_
  refine Lw 6 o (λa=> ?_) λa=> ?_
  ·refine Z0 ?_
   have ⟨F,p,q⟩:=bnd a
   refine Lk [] [] (gF p) λ⟨⟩=> ?_
   refine Z0 ?_
   refine Lw 11 q (λb=> ?_) λb=> ?_
   ·refine Z0 ?_
    have ⟨I,s,t⟩:=bnd b
    refine Lk [] [] (gF s) λ⟨⟩=> ?_
    refine Z0 ?_
    refine Lw 16 t (λc=> ?_) λc=> ?_
    ·refine Z0 ?_
     have ⟨J,u,v⟩:=bnd c
     refine Lk [] [] (gF u) λ⟨⟩=> ?_
     refine Z0 ?_
     refine Lw 24 v (λd=> ?_) λd=> ?_
     ·refine Z0 ?_
      have ⟨M,w,x⟩:=bnd d
      refine Lk [] [] (gF w) λ⟨⟩=> ?_
      refine Z0 ?_
      refine Lw 32 x (λe=> ?_) λe=> ?_
      ·refine Z0 ?_
       refine Lw 40 e (λf=> ?_) λf=> ?_
       ·refine Z0 ?_
        refine Lw 46 f (λg=> ?_) λg=> ?_
        ·refine Z0 ?_
         have ⟨N,y,z⟩:=bnd g
         refine Lk [] [] (gF y) λ⟨⟩=> ?_
         refine Z0 ?_
         refine Lw 51 z (λi=> ?_) λi=> ?_
         ·refine Z0 ?_
          have ⟨O,A,B⟩:=bnd i
          refine Lk [] [] (gF A) λ⟨⟩=> ?_
          refine Z0 ?_
          refine Lw 56 B (λj=> ?_) λj=> ?_
          ·refine Z0 ?_
           cases j
           exact Eg0 [0] 0
          refine Z0 ?_
          cases j
          exact Eg0 [0] 0
         refine Z0 ?_
         cases i
         exact Eg0 [0] 0
        refine Z0 ?_
        cases g
        exact Eg0 [0] 0
       refine Z0 ?_
       cases f
       exact Eg0 [0] 0
      refine Z0 ?_
      cases e
      exact Eg0 [0] 0
     refine Z0 ?_
     cases d
     exact Eg0 [0] 0
    refine Z0 ?_
    cases c
    exact Eg0 [0] 0
   refine Z0 ?_
   cases b
   exact Eg0 [0] 0
  refine Z0 ?_
  cases a
  exact Eg0 [0] 0
 refine Z0 ?_
 cases m
 exact Eo1 () [] []
theorem uK {r_:Int} {aO:Int} {r:Bool} (H:lK r_ aO=some r):CT G 116 [.int .i32 r_,.int .i64 aO] [] [] (λ_:Unit=> .bool r) (λh=>[]) (λh=>[]):=by
 delta lK at H
 refine Cf Go.Proofs.Tryz.func116 λK=> ?_
 refine Y2 ?_
 have ⟨b,c,d⟩:=bnd H
 refine Tj0 [(4,.bool b)] [] [] [] ?_ ?_
 ·refine Z0 ?_
  have ⟨j,e,f⟩:=bnd c
  refine Lk [] [] (gF e) λ⟨⟩=> ?_
  refine Z0 ?_
  refine Lw 8 f (λa=> ?_) λa=> ?_
  ·refine Z0 ?_
   have ⟨k,g,i⟩:=bnd a
   refine Lk [] [] (gF g) λ⟨⟩=> ?_
   refine Z0 ?_
   cases i
   exact Eg0 [] 0
  refine Z0 ?_
  cases a
  exact Eg0 [] 0
 refine Z0 ?_
 cases d
 exact Eo1 () [] []
theorem sI {g:aJ} {r:Bool} (H:iV g=some r):CT G 115 [.agg #[.int .i32 g.rune,.int .i64 g.aO]] [] [] (λ_:Unit=> .bool r) (λh=>[]) (λh=>[]):=by
 delta iV at H
 refine Cf Go.Proofs.Tryz.func115 λK=> ?_
 refine Z1 ?_
 refine Lx λg1=> ?_
 refine Z1 ?_
 have ⟨r2,h3,H4⟩:=bnd H
 refine Lk [] [] (uK h3) λ⟨⟩=> ?_
 refine Z0 ?_
 cases H4
 exact Eo1 () [] []
theorem kW {s_:List aJ} {r:Int} (H:dL s_=some r):CT G 178 [.slice A0 s_.length C0,.func (.func 115) #[] #[]] [] [Im.sl aC A0 C0 s_] (λ_:Unit=> .int .i64 r) (λh=>[]) (λh=>[]):=by
 delta dL at H
 refine Cf Go.Proofs.Tryz.func178 λK=> ?_
 refine Z3 ?_
 have ⟨a,i,e⟩:=bnd H
 refine Tj (η:=Unit×Unit) (λh=>a = .inl h.1) (λ_=>[]) [] (λ_=>[]) [] (λ_=>[]) ?_ ?_
 ·refine Yl0 ?_
  refine Tq (η:=Unit) (λf h=>[(8,.int .i64 f)]) [0,1,7] (λ_ _=>[]) [] (λ_ _=>[]) () [] [] i ?_
  rintro k_ f ⟨⟩ j k l g
  refine Y2 ?_
  refine Tb k (λb=> ?_) λb=> ?_
  ·refine Z1 ?_
   refine Zl ?_
   refine Z2 ?_
   have ⟨s,c,m⟩:=bnd b
   refine L.addr 0 rfl (cQ c) λt u n=> ?_
   subst n
   refine Ly (Yl.ia c rfl rfl rfl rfl rfl rfl) ?_
   refine L.el 0 rfl (aY c).2 ?_
   rintro _
   refine Lc 0 0 ?_
   have ⟨v,o,p⟩:=bnd m
   refine Lk [] [] (sI o) λ⟨⟩=> ?_
   refine Z0 ?_
   refine Tb p (λd=> ?_) λd=> ?_
   ·refine Z1 ?_
    obtain ⟨w,hz,q⟩:=fG d
    subst j
    have hb:=g _ rfl
    subst a
    obtain rfl:=(sm e).symm
    refine Z0 ?_
    cases q
    exact Eo1 () [] []
   refine Z0 ?_
   cases d
   exact Eg (_,()) (l _ rfl) [] [] 1
  refine Z0 ?_
  cases b
  have hb:=g _ rfl
  subst a
  exact Eg (_,()) rfl [] [] 0
 rintro ⟨x,⟨⟩⟩ hy
 subst hy
 refine Z1 ?_
 cases e
 exact Eo1 () [] []
theorem kC {s_:List aJ} {r:Bool} (H:cL s_=some r):CT G 114 [.slice A0 s_.length C0,.func (.func 115) #[] #[]] [] [Im.sl aC A0 C0 s_] (λ_:Unit=> .bool r) (λh=>[]) (λh=>[]):=by
 delta cL at H
 refine Cf Go.Proofs.Tryz.func114 λK=> ?_
 refine Z2 ?_
 have ⟨r1,h2,H3⟩:=bnd H
 refine Lk [] [0] (kW h2) λ⟨⟩=> ?_
 refine Z0 ?_
 cases H3
 exact Eo1 () [] []
theorem Bu {c:aH} {r:Bool} (H:nC c=some r):CT G 119 [.agg #[.int .i32 c.rune,.int .i64 c.aO,.int .i64 c.part]] [] [] (λ_:Unit=> .bool r) (λh=>[]) (λh=>[]):=by
 delta nC at H
 refine Cf Go.Proofs.Tryz.func119 λK=> ?_
 refine Z1 ?_
 refine Lx λg1=> ?_
 refine Y1 ?_
 have ⟨b,d,e⟩:=bnd H
 refine Tj0 [(2,.bool b)] [] [] [0] ?_ ?_
 ·refine Z0 ?_
  have ⟨k,f,g⟩:=bnd d
  refine Lk [] [] (uK f) λ⟨⟩=> ?_
  refine Z0 ?_
  refine Lw 8 g (λa=> ?_) λa=> ?_
  ·refine Z0 ?_
   have ⟨l,i,j⟩:=bnd a
   refine Lk [] [] (gF i) λ⟨⟩=> ?_
   refine Z0 ?_
   cases j
   exact Eg0 [0] 0
  refine Z0 ?_
  cases a
  exact Eg0 [0] 0
 refine Z0 ?_
 cases e
 exact Eo1 () [] []
theorem sJ {c:aH} {r:Bool} (H:iW c=some r):CT G 118 [.agg #[.int .i32 c.rune,.int .i64 c.aO,.int .i64 c.part]] [] [] (λ_:Unit=> .bool r) (λh=>[]) (λh=>[]):=by
 delta iW at H
 refine Cf Go.Proofs.Tryz.func118 λK=> ?_
 refine Z1 ?_
 refine Lx λg1=> ?_
 refine Z1 ?_
 have ⟨r2,h3,H4⟩:=bnd H
 refine Lk [] [] (Bu h3) λ⟨⟩=> ?_
 refine Z0 ?_
 cases H4
 exact Eo1 () [] []
theorem lb {s_:List aH} {r:Int} (H:dO s_=some r):CT G 179 [.slice A0 s_.length C0,.func (.func 118) #[] #[]] [] [Im.sl aT A0 C0 s_] (λ_:Unit=> .int .i64 r) (λh=>[]) (λh=>[]):=by
 delta dO at H
 refine Cf Go.Proofs.Tryz.func179 λK=> ?_
 refine Z3 ?_
 have ⟨a,i,e⟩:=bnd H
 refine Tj (η:=Unit×Unit) (λh=>a = .inl h.1) (λ_=>[]) [] (λ_=>[]) [] (λ_=>[]) ?_ ?_
 ·refine Yl0 ?_
  refine Tq (η:=Unit) (λf h=>[(8,.int .i64 f)]) [0,1,7] (λ_ _=>[]) [] (λ_ _=>[]) () [] [] i ?_
  rintro k_ f ⟨⟩ j k l g
  refine Y2 ?_
  refine Tb k (λb=> ?_) λb=> ?_
  ·refine Z1 ?_
   refine Zl ?_
   refine Z2 ?_
   have ⟨s,c,m⟩:=bnd b
   refine L.addr 0 rfl (cQ c) λt u n=> ?_
   subst n
   refine Ly (Yl.ia c rfl rfl rfl rfl rfl rfl) ?_
   refine L.el 0 rfl (aY c).2 ?_
   rintro _
   refine Lc 0 0 ?_
   have ⟨v,o,p⟩:=bnd m
   refine Lk [] [] (sJ o) λ⟨⟩=> ?_
   refine Z0 ?_
   refine Tb p (λd=> ?_) λd=> ?_
   ·refine Z1 ?_
    obtain ⟨w,hz,q⟩:=fG d
    subst j
    have hb:=g _ rfl
    subst a
    obtain rfl:=(sm e).symm
    refine Z0 ?_
    cases q
    exact Eo1 () [] []
   refine Z0 ?_
   cases d
   exact Eg (_,()) (l _ rfl) [] [] 1
  refine Z0 ?_
  cases b
  have hb:=g _ rfl
  subst a
  exact Eg (_,()) rfl [] [] 0
 rintro ⟨x,⟨⟩⟩ hy
 subst hy
 refine Z1 ?_
 cases e
 exact Eo1 () [] []
theorem kE {s_:List aH} {r:Bool} (H:cF s_=some r):CT G 117 [.slice A0 s_.length C0,.func (.func 118) #[] #[]] [] [Im.sl aT A0 C0 s_] (λ_:Unit=> .bool r) (λh=>[]) (λh=>[]):=by
 delta cF at H
 refine Cf Go.Proofs.Tryz.func117 λK=> ?_
 refine Z2 ?_
 have ⟨r1,h2,H3⟩:=bnd H
 refine Lk [] [0] (lb h2) λ⟨⟩=> ?_
 refine Z0 ?_
 cases H3
 exact Eo1 () [] []
theorem mX {s_:aL} {r:Int} (H:fv s_=some r):CT G 62 [.agg (iD s_ A0 C0 A1 C1).toArray] [] [Im.sl aD A0 C0 s_.rows,Im.sl aC A1 C1 s_.begun] (λ_:Unit=> .int .i64 r) (λh=>[]) (λh=>[]):=by
 delta fv at H
 refine Cf Go.Proofs.Tryz.func62 λK=> ?_
 refine Z1 ?_
 refine Lx λg1=> ?_
 refine Z2 ?_
 have ⟨r2,h3,H4⟩:=bnd H
 refine Lk [] [0,1] (oY h3) λ⟨⟩=> ?_
 refine Z0 ?_
 refine Tb H4 (λH6=> ?_) λH6=> ?_
 ·refine Z1 ?_
  cases H6
  exact Eo1 () [] []
 refine Y2 ?_
 have ⟨l,m,n⟩:=bnd H6
 refine Tj0 [(14,.bool l)] [1] [] [0] ?_ ?_
 ·refine Z0 ?_
  have ⟨J,o,p⟩:=bnd m
  refine Lk [] [0,1] (uJ o) λ⟨⟩=> ?_
  refine Z0 ?_
  refine Lw 10 p (λa=> ?_) λa=> ?_
  ·refine Z0 ?_
   cases a
   exact Eg0 [0] 0
  refine Z0 ?_
  have ⟨M,q,s⟩:=bnd a
  refine Lk [] [1] (kC q) λ⟨⟩=> ?_
  refine Z0 ?_
  cases s
  exact Eg0 [0] 0
 refine Tb n (λb=> ?_) λb=> ?_
 ·refine Z1 ?_
  cases b
  exact Eo1 () [] []
 refine Z2 ?_
 have ⟨c,t,i⟩:=bnd b
 refine Tj (η:=Unit×Unit) (λh=>c = .inl h.1) (λ_=>[]) [] (λ_=>[]) [0] (λ_=>[]) ?_ ?_
 ·refine Yl0 ?_
  refine Tq (η:=Unit) (λj h=>[(18,.int .i64 j)]) [1,16,17] (λ_ _=>[]) [0] (λ_ _=>[]) () [0] [] t ?_
  rintro k_ j ⟨⟩ u v w k
  refine Y2 ?_
  refine Tb v (λd=> ?_) λd=> ?_
  ·refine Z1 ?_
   refine Zl ?_
   refine Z1 ?_
   have ⟨N,e,x⟩:=bnd d
   refine L.addr 0 rfl (cQ e) λO P y=> ?_
   subst y
   refine Ly (Yl.ia e rfl rfl rfl rfl rfl rfl) ?_
   refine L.el 0 rfl (aY e).2 ?_
   rintro ⟨Q,R⟩
   refine Lc 0 0 ?_
   refine Ll λS=> ?_
   refine Lt 0 ?_
   refine Y1 ?_
   have ⟨z,A,B⟩:=bnd x
   refine Tj0 [(32,.bool z)] [1,16,17,18] [] [0,1] ?_ ?_
   ·refine Z0 ?_
    refine Lw 28 A (λf=> ?_) λf=> ?_
    ·refine Z0 ?_
     cases f
     exact Eg0 [0,0] 0
    refine Z0 ?_
    have ⟨U,C,F⟩:=bnd f
    refine Lk [] [1] (kE C) λ⟨⟩=> ?_
    refine Z0 ?_
    cases F
    exact Eg0 [0,0] 0
   refine Tb B (λg=> ?_) λg=> ?_
   ·refine Z1 ?_
    obtain ⟨V,hz,I⟩:=fG g
    subst u
    have hb:=k _ rfl
    subst c
    obtain rfl:=(sm i).symm
    refine Z0 ?_
    cases I
    exact Eo1 () [] []
   refine Z0 ?_
   cases g
   exact Eg (_,()) (w _ rfl) [1] [] 2
  refine Z0 ?_
  cases d
  have hb:=k _ rfl
  subst c
  exact Eg (_,()) rfl [0] [] 0
 rintro ⟨W,⟨⟩⟩ hy
 subst hy
 refine Z1 ?_
 cases i
 exact Eo1 () [] []
theorem uL {s_:aL} {r:aL} (H:jX s_=some r):CT G 63 [.agg (iD s_ A0 C0 A1 C1).toArray] [] [Im.sl aD A0 C0 s_.rows,Im.sl aC A1 C1 s_.begun] (λh:(Option Addr×Nat)×(Option Addr×Nat)=> .agg (iD r h.1.1 h.1.2 h.2.1 h.2.2).toArray) (λh=>[]) (λh=>[Im.sl aD h.1.1 h.1.2 r.rows,Im.sl aC h.2.1 h.2.2 r.begun]):=by
 delta jX at H
 refine Cf Go.Proofs.Tryz.func63 λK=> ?_
 refine Z1 ?_
 refine Lx λg1=> ?_
 refine Ll λg2=> ?_
 refine Z3 ?_
 have ⟨f,j,k⟩:=bnd H
 refine Tjh (η:=(Option Addr×Nat)) (λh=>(λa b=>[(3,.slice a f.length b)]) h.1 h.2) [1,2] (λh=>(λa b=>[Ch.arr aD 232 a b f]) h.1 h.2) [0,1] (λ_=>[]) ?_ ?_
 ·refine Yl0 ?_
  refine T.gA aD 232 ?_
  refine Tq (η:=(Option Addr×Nat)) (λc h=>(λd e=>[(3,.slice d c.1.length e),(9,.int .i64 c.2)]) h.1 h.2) [1,2,7,8] (λc h=>(λd e=>[Ch.arr aD 232 d e c.1]) h.1 h.2) [1,2] (λ_ _=>[]) (none,0) [0,0,0] [] j ?_
  rintro k_ c ⟨d,e⟩ N l m n
  refine Y2 ?_
  refine Tb l (λg=> ?_) λg=> ?_
  ·refine Z1 ?_
   refine Zl ?_
   refine Z1 ?_
   have ⟨o,i,p⟩:=bnd g
   refine L.addr 0 rfl (cQ i) λO P q=> ?_
   subst q
   refine Ly (Yl.ia i rfl rfl rfl rfl rfl rfl) ?_
   refine L.el 0 rfl (aY i).2 ?_
   rintro ⟨s,t⟩
   refine Lc 0 0 ?_
   refine Ll λQ=> ?_
   refine Lt 0 ?_
   refine Z0 ?_
   refine Td [] [0,1,1] mo ?_
   refine Dq 0 ?_
   refine Dq 1 ?_
   refine Db 2 0 ?_
   refine Dq 4 ?_
   refine Db 5 0 ?_
   have ⟨u,v,w⟩:=bnd p
   refine Dk [] [1] (kB s t v) λ⟨x,y⟩=> ?_
   refine Dq 6 ?_
   refine D.frz 0 rfl ?_
   refine Da [] [0] rfl rfl (Ac.bs (ty:=aD) (xs:=[(aG.mk u o.wrapped)]) (.cons (x,y) [0] rfl .nil) rfl rfl rfl rfl rfl rfl rfl) λR=> ?_
   refine D.frz 0 rfl ?_
   have ⟨_,z,A⟩:=bnd w
   refine Da [0] [0] rfl rfl (Ac.ap (ty:=aD) z rfl rfl rfl rfl rfl rfl rfl) ?_
   rintro ⟨B,C⟩
   refine Dq 9 ?_
   refine Dn ?_
   refine Z0 ?_
   cases A
   exact Eg (_,(B,C)) (m _ rfl) [3,1,1] [] 4
  refine Z0 ?_
  cases g
  have hb:=n _ rfl
  subst f
  exact Eg (d,e) trivial [0,0,0] [] 0
 rintro ⟨a,b⟩
 refine Z1 ?_
 have ⟨S,F,I⟩:=bnd k
 refine Lk [] [1] (ig A1 C1 F) λ⟨J,M⟩=> ?_
 refine Z0 ?_
 refine Lt 3 ?_
 refine Z0 ?_
 refine Lt 0 ?_
 refine Z1 ?_
 refine Lt 3 ?_
 refine Z0 ?_
 refine E.frz 3 rfl ?_
 refine E.frz 2 rfl ?_
 cases I
 exact Eo ((a,b),(J,M)) [] [1,0] (.cell 0 rfl rfl rfl .nil)
end Go.Tw.X
namespace Go.Tw.X
open Go Go.Tw
variable {A0 A1 A2 A3 A4 A5 A6 A7 A8 A9 A10 A11 A12 A13 A14 A15 A16 A17 A18 A19 A20 A21 A22 : Option Addr} {C0 C1 C2 C3 C4 C5 C6 C7 C8 C9 C10 C11 C12 C13 C14 C15 C16 C17 C18 C19 C20 C21 C22 : Nat}
variable {N0 N1 N2 N3 N4 N5 N6 : Nat}
theorem nK {s_:aI} {x_:aL} {r:Bool×aI} (H:fA s_ x_=some r):CT G 29 [.pointer (some ⟨N0,0,none⟩),.agg (iD x_ A7 C7 A8 C8).toArray] [Ch.box N0 158 (gv s_ A0 C0 A1 C1 A2 C2 A3 C3 A4 C4 A5 C5 A6 C6),Ch.aro bE 103 A4 C4 s_.kept,Ch.arr Ty.bool 4 A6 C6 s_.message.there] [Im.sl aD A0 C0 s_.current.rows,Im.sl aC A1 C1 s_.current.begun,Im.sl aD A2 C2 s_.aM.rows,Im.sl aC A3 C3 s_.aM.begun,Im.sl Ty.str A5 C5 s_.message.parts,Im.sl aD A7 C7 x_.rows,Im.sl aC A8 C8 x_.begun] (λh:(Option Addr×Nat)×(Option Addr×Nat)=> .bool r.1) (λh=>[Ch.box N0 158 (gv r.2 h.1.1 h.1.2 h.2.1 h.2.2 A2 C2 A3 C3 A4 C4 A5 C5 A6 C6),Ch.aro bE 103 A4 C4 r.2.kept,Ch.arr Ty.bool 4 A6 C6 r.2.message.there]) (λh=>[Im.sl aD h.1.1 h.1.2 r.2.current.rows,Im.sl aC h.2.1 h.2.2 r.2.current.begun,Im.sl aD A2 C2 r.2.aM.rows,Im.sl aC A3 C3 r.2.aM.begun,Im.sl Ty.str A5 C5 r.2.message.parts]):=by
 delta fA at H
 refine Cf Go.Proofs.Tryz.func29 λK=> ?_
 refine Z1 ?_
 refine Lx λg1=> ?_
 refine Y2 ?_
 have ⟨c,d,e⟩:=bnd H
 refine Tj0 [(17,.bool c)] [0,3] [] [0,1,2,3] ?_ ?_
 ·refine Td [] [0,0,0,0] mo ?_
  refine Db 0 0 ?_
  have ⟨o,f,g⟩:=bnd d
  refine Dk [] [5,6] (mX f) λ⟨⟩=> ?_
  refine Dq 2 ?_
  refine Dq 3 ?_
  refine D.cs 8 g rfl (λhc a=> ?_) (λhc a=> ?_)
  ·refine Ds 4 ?_
   refine Ds 5 ?_
   refine Ds 6 ?_
   refine Ds 7 ?_
   refine Ds 8 ?_
   refine Ds 9 ?_
   refine Ds 10 ?_
   refine Ds 11 ?_
   refine Dq 12 ?_
   refine Dn ?_
   cases a
   exact Eg0 [0,0,0,0] 0
  refine Dq 4 ?_
  refine Db 5 0 ?_
  refine Dq 6 ?_
  refine Dq 7 ?_
  refine Dq 8 ?_
  refine Dq 9 ?_
  refine Db 10 1 ?_
  refine Dq 11 ?_
  refine Dq 12 ?_
  refine Dn ?_
  cases a
  exact Eg0 [0,0,0,0] 0
 refine Tb e (λb=> ?_) λb=> ?_
 ·refine Z1 ?_
  cases b
  exact Eo1 ((A0,C0),(A1,C1)) [1,1,1] [0,1,2,3,4]
 refine Z1 ?_
 have ⟨p,i,j⟩:=bnd b
 refine Lk [] [5,6] (uL i) λ⟨⟨k,l⟩,⟨m,n⟩⟩=> ?_
 refine Z0 ?_
 refine Lt 1 ?_
 refine Z1 ?_
 cases j
 exact Eo1 ((k,l),(m,n)) [0,1,1] [0,1,4,5,6]
theorem uM {c:ic} {r:bD} (H:jY c=some r):CT G 9 [.agg (MF c).toArray] [] [] (λh:Nat×Nat×Nat×(Option Addr×Nat)×(Option Addr×Nat)×(Option Addr×Nat)×Nat×(Option Addr×Nat)×(Option Addr×Nat)×Nat×Nat×(Option Addr×Nat)×Nat×(Option Addr×Nat)×(Option Addr×Nat)×(Option Addr×Nat)×(Option Addr×Nat)×(Option Addr×Nat)×(Option Addr×Nat)×(Option Addr×Nat)=> .pointer (some ⟨h.1,0,none⟩)) (λh=>[Ch.box h.1 98 (pd r h.2.1 h.2.2.2.2.2.2.2.2.2.2.2.2.1),Ch.box h.2.1 120 (iE r.model h.2.2.1 h.2.2.2.2.2.2.1 h.2.2.2.2.2.2.2.2.2.1),Ch.box h.2.2.1 178 [.slice h.2.2.2.1.1 r.model.book.l.length h.2.2.2.1.2,.slice h.2.2.2.2.1.1 r.model.book.bA.length h.2.2.2.2.1.2,.slice h.2.2.2.2.2.1.1 r.model.book.begun.length h.2.2.2.2.2.1.2],Ch.arr (Ty.slice aC) 101 h.2.2.2.1.1 h.2.2.2.1.2 r.model.book.l,Ch.arr (Ty.int .i64) 3 h.2.2.2.2.1.1 h.2.2.2.2.1.2 r.model.book.bA,Ch.arr aC 181 h.2.2.2.2.2.1.1 h.2.2.2.2.2.1.2 r.model.book.begun,Ch.box h.2.2.2.2.2.2.1 151 (eF r.model.parser h.2.2.2.2.2.2.2.1.1 h.2.2.2.2.2.2.2.1.2),Ch.opt (r.model.parser.state == (3:Int)) (Ty.int .i64) 3 h.2.2.2.2.2.2.2.1.1 h.2.2.2.2.2.2.2.1.2 r.model.parser.order.aW,Ch.box h.2.2.2.2.2.2.2.2.2.1 224 (bY r.model.aN h.2.2.2.2.2.2.2.2.2.2.1),Ch.box h.2.2.2.2.2.2.2.2.2.2.1 296 [.int .i64 r.model.aN.g.w,.slice h.2.2.2.2.2.2.2.2.2.2.2.1.1 r.model.aN.g.l.length h.2.2.2.2.2.2.2.2.2.2.2.1.2],Ch.arr aD 232 h.2.2.2.2.2.2.2.2.2.2.2.1.1 h.2.2.2.2.2.2.2.2.2.2.2.1.2 r.model.aN.g.l,Ch.box h.2.2.2.2.2.2.2.2.2.2.2.2.1 158 (gv r.aP h.2.2.2.2.2.2.2.2.2.2.2.2.2.1.1 h.2.2.2.2.2.2.2.2.2.2.2.2.2.1.2 h.2.2.2.2.2.2.2.2.2.2.2.2.2.2.1.1 h.2.2.2.2.2.2.2.2.2.2.2.2.2.2.1.2 h.2.2.2.2.2.2.2.2.2.2.2.2.2.2.2.1.1 h.2.2.2.2.2.2.2.2.2.2.2.2.2.2.2.1.2 h.2.2.2.2.2.2.2.2.2.2.2.2.2.2.2.2.1.1 h.2.2.2.2.2.2.2.2.2.2.2.2.2.2.2.2.1.2 h.2.2.2.2.2.2.2.2.2.2.2.2.2.2.2.2.2.1.1 h.2.2.2.2.2.2.2.2.2.2.2.2.2.2.2.2.2.1.2 h.2.2.2.2.2.2.2.2.2.2.2.2.2.2.2.2.2.2.1.1 h.2.2.2.2.2.2.2.2.2.2.2.2.2.2.2.2.2.2.1.2 h.2.2.2.2.2.2.2.2.2.2.2.2.2.2.2.2.2.2.2.1 h.2.2.2.2.2.2.2.2.2.2.2.2.2.2.2.2.2.2.2.2),Ch.aro bE 103 h.2.2.2.2.2.2.2.2.2.2.2.2.2.2.2.2.2.1.1 h.2.2.2.2.2.2.2.2.2.2.2.2.2.2.2.2.2.1.2 r.aP.kept,Ch.arr Ty.bool 4 h.2.2.2.2.2.2.2.2.2.2.2.2.2.2.2.2.2.2.2.1 h.2.2.2.2.2.2.2.2.2.2.2.2.2.2.2.2.2.2.2.2 r.aP.message.there]) (λh=>[Im.sl aD h.2.2.2.2.2.2.2.2.2.2.2.2.2.1.1 h.2.2.2.2.2.2.2.2.2.2.2.2.2.1.2 r.aP.current.rows,Im.sl aC h.2.2.2.2.2.2.2.2.2.2.2.2.2.2.1.1 h.2.2.2.2.2.2.2.2.2.2.2.2.2.2.1.2 r.aP.current.begun,Im.sl aD h.2.2.2.2.2.2.2.2.2.2.2.2.2.2.2.1.1 h.2.2.2.2.2.2.2.2.2.2.2.2.2.2.2.1.2 r.aP.aM.rows,Im.sl aC h.2.2.2.2.2.2.2.2.2.2.2.2.2.2.2.2.1.1 h.2.2.2.2.2.2.2.2.2.2.2.2.2.2.2.2.1.2 r.aP.aM.begun,Im.sl Ty.str h.2.2.2.2.2.2.2.2.2.2.2.2.2.2.2.2.2.2.1.1 h.2.2.2.2.2.2.2.2.2.2.2.2.2.2.2.2.2.2.1.2 r.aP.message.parts]):=by
 delta jY at H
 refine Cf Go.Proofs.Tryz.func9 λK=> ?_
 refine Z1 ?_
 refine Lx λg1=> ?_
 refine Y1 ?_
 refine Td [] [0] mo ?_
 refine Dq 0 ?_
 refine Db 1 0 ?_
 refine Dq 3 ?_
 refine Db 4 0 ?_
 refine Dq 6 ?_
 refine Db 7 0 ?_
 refine Dq 8 ?_
 refine Db 9 0 ?_
 refine Dq 11 ?_
 refine Db 12 0 ?_
 have ⟨ae,a,b⟩:=bnd H
 refine Dk [] [] (pf a) λ⟨⟩=> ?_
 have ⟨af,d,e⟩:=bnd b
 refine Dk [] [] (pf d) λ⟨⟩=> ?_
 have ⟨ag,f,i⟩:=bnd e
 refine Dk [] [] (Bt f) λ⟨j,k,⟨m,n⟩,⟨o,p⟩,⟨q,s⟩,t,⟨u,v⟩,⟨ah,ai⟩,x,y,⟨z,A⟩⟩=> ?_
 have ⟨aj,B,C⟩:=bnd i
 refine Dk [] [] (zT B) λ⟨F,⟨ak,al⟩,⟨am,an⟩,⟨I,J⟩,⟨M,N⟩,⟨O,P⟩,⟨Q,R⟩,⟨S,U⟩⟩=> ?_
 refine Dq 14 ?_
 refine Da [] [] rfl rfl (Ac.box rfl rfl) λV=> ?_
 refine Dq 16 ?_
 refine Dn ?_
 refine Y1 ?_
 refine Td [] [0,0] mo ?_
 refine Dq 0 ?_
 refine Dq 1 ?_
 refine Dq 2 ?_
 refine Db 3 1 ?_
 refine Dq 4 ?_
 refine Dq 5 ?_
 refine Dq 6 ?_
 refine Db 7 1 ?_
 have ⟨ao,W,X⟩:=bnd C
 refine Dk [3,3,3,3,3,3,3,3,3,3] [] (oH W) λ⟨⟨ap,aq⟩,⟨ar,au⟩,⟨av,aw⟩⟩=> ?_
 have ⟨ax,Y,Z⟩:=bnd X
 refine Dk [10,10,10] [2,3,4,5,6,0,1] (nK Y) λ⟨⟨aa,ab⟩,⟨ac,ad⟩⟩=> ?_
 refine Dn ?_
 refine Z1 ?_
 cases Z
 exact Eo1 (V,j,k,(m,n),(o,p),(q,s),t,(u,v),(none,0),x,y,(z,A),F,(aa,ab),(ac,ad),(I,J),(M,N),(O,P),(Q,R),(S,U)) [1,4,4,4,4,4,4,4,4,4,4,1,1,1] [0,1,2,3,4]
theorem zU {n_:Int} {r:Int} (H:nY n_=some r):CT G 173 [.int .i64 n_] [] [] (λh:Nat=> .func (.func 220) #[] #[.pointer (some ⟨h,0,none⟩)]) (λh=>[Ch.box h 3 [.int .i64 r]]) (λh=>[]):=by
 delta nY at H
 refine Cf Go.Proofs.Tryz.func173 λK=> ?_
 refine Z1 ?_
 refine Lx λg1=> ?_
 refine Z1 ?_
 cases H
 exact Eo1 g1 [0] []
theorem CP {n_:Int} {r:Int} (H:qb n_=some r):CT G 221 [.int .i64 n_] [] [] (λ_:Unit=> .int .i64 r) (λh=>[]) (λh=>[]):=by
 delta qb at H
 refine Cf Go.Proofs.Tryz.func221 λK=> ?_
 refine Z2 ?_
 cases H
 exact Eo1 () [] []
theorem xZ {σ η:Type} {Y:σ->Int->Option (σ×Bool)} {y0:σ} {x1:Int} {yl:Nat} {C:σ->η->Ch} (hY: ∀ s (h:η) (x:Int) (t:Unit) z,Y s x=some z->YT G yl [.int .u8 x] [C s h] [] (λ_:η=> .bool z.2) (λh2=>[C z.1 h2]) (λ_=>[])) (h0:η) (g_1:Nat) {r:σ×Int} (H:ll Y y0 x1=some r):CT G 220 [.func (.yield yl) #[] #[],.pointer (some ⟨g_1,0,none⟩)] [C y0 h0,Ch.box g_1 3 [.int .i64 x1]] [] (λh:η=> .tuple #[]) (λh=>[C r.1 h,Ch.box g_1 3 [.int .i64 r.2]]) (λh=>[]):=by
  delta ll at H
  refine Cf Go.Proofs.Tryz.func220 λK=> ?_
  refine Z2 ?_
  have ⟨r1,h2,H3⟩:=bnd H
  refine Lk [] [] (CP h2) λ⟨⟩=> ?_
  refine Lt 1 ?_
  refine Z0 ?_
  have ⟨a,l,g⟩:=bnd H3
  refine Tj (η:=(Int×σ)×(η)) (λh=>a = .inl h.1) (λ_=>[]) [0,1] (λh=>(λb=>(λi=>[Ch.box g_1 3 [.int .i64 b.1],C b.2 i]) h.2) h.1) [] (λ_=>[]) ?_ ?_
  ·refine Yl0 ?_
   refine Tq (η:=η) (λ_ _=>[]) [0,1] (λc h=>(λd=>[Ch.box g_1 3 [.int .i64 c.1],C c.2 d]) h) [] (λ_ _=>[]) h0 [0,0] [] l ?_
   rintro k_ c d m n o j
   refine Z2 ?_
   refine Tb n (λe=> ?_) λe=> ?_
   ·refine Z1 ?_
    refine Zl ?_
    refine Z1 ?_
    have ⟨A,p,q⟩:=bnd e
    refine L.yd [1] [] (hY _ _ _ () _ p) rfl rfl rfl rfl rfl rfl rfl rfl ?_
    intro k
    refine Z0 ?_
    refine Tb q (λf=> ?_) λf=> ?_
    ·refine Z0 ?_
     obtain ⟨B,hz,u⟩:=fG f
     subst m
     have hb:=j _ rfl
     subst a
     obtain rfl:=(sm g).symm
     refine Z0 ?_
     cases u
     exact Eo k [0,0] [] .nil
    refine Z0 ?_
    refine Lt 1 ?_
    refine Z0 ?_
    cases f
    exact Eg (_,k) (o _ rfl) [0,0] [] 0
   refine Z0 ?_
   cases e
   have hb:=j _ rfl
   subst a
   exact Eg (_,d) rfl [0,0] [] 0
  rintro ⟨b,i⟩ hy
  subst hy
  refine Z0 ?_
  have ⟨F,v,w⟩:=bnd g
  refine L.yd [1] [] (hY _ _ _ () _ v) rfl rfl rfl rfl rfl rfl rfl rfl ?_
  intro y
  refine Ln (E.off ?_)
  cases w
  exact Eo y [0,0] [] .nil
theorem eV {o:cJ} {l:List Int} {r:cJ} (H:cP o l=some r):CT G 106 [.pointer (some ⟨N0,0,none⟩),.slice A1 l.length C1] [Ch.box N0 213 [.slice A0 o.b.length C0],Ch.arr (Ty.int .u8) 5 A0 C0 o.b] [Im.sl (Ty.int .i64) A1 C1 l] (λh:(Option Addr×Nat)=> .pointer (some ⟨N0,0,none⟩)) (λh=>[Ch.box N0 213 [.slice h.1 r.b.length h.2],Ch.arr (Ty.int .u8) 5 h.1 h.2 r.b]) (λh=>[]):=by
 delta cP at H
 refine Cf Go.Proofs.Tryz.func106 λK=> ?_
 refine T.yc ?_
 refine Z1 ?_
 refine Lx λg1=> ?_
 refine Z2 ?_
 have ⟨n,w,y⟩:=bnd H
 refine T.Af (η:=Unit×((Option Addr×Nat)×List Nat)) (λh=>True) (λh=>(λf g i=>i) h.2.1.1 h.2.1.2 h.2.2) (λh=>(λf g i=>[(2,.pointer (some ⟨g1,0,none⟩))]) h.2.1.1 h.2.1.2 h.2.2) (λh=>(λf g i=>[Ch.arr (Ty.int .u8) 5 f g n.b,Ch.box g1 215 [.pointer (some ⟨N0,0,none⟩)],Ch.dfs i,Ch.box N0 213 [.slice f n.b.length g]]) h.2.1.1 h.2.1.2 h.2.2) (λh=>(λf g i=>[Im.sl (Ty.int .i64) A1 C1 l]) h.2.1.1 h.2.1.2 h.2.2) ?_ ?_
 ·refine Yl0 ?_
  refine T.lpD (η:=(Option Addr×Nat)×List Nat) (λa h=>(λc d e=>e) h.1.1 h.1.2 h.2) (λa h=>(λc d e=>[(2,.pointer (some ⟨g1,0,none⟩)),(8,.slice A1 l.length C1),(9,.int .i64 (l.length:Int)),(10,.int .i64 a.2)]) h.1.1 h.1.2 h.2) (λa h=>(λc d e=>[Ch.arr (Ty.int .u8) 5 c d a.1.b,Ch.box g1 215 [.pointer (some ⟨N0,0,none⟩)],Ch.dfs e,Ch.box N0 213 [.slice c a.1.b.length d]]) h.1.1 h.1.2 h.2) (λa h=>(λc d e=>[Im.sl (Ty.int .i64) A1 C1 l]) h.1.1 h.1.2 h.2) ((A0,C0),[]) [3,0,0,0] [0] w rfl ⟨rfl,rfl,rfl,rfl,trivial⟩ rfl rfl ?_
  rintro k_ a ⟨⟨c,d⟩,e⟩ ab z A B
  refine Y2 ?_
  refine Tb z (λp=> ?_) λp=> ?_
  ·refine Z1 ?_
   refine Zl ?_
   refine Z1 ?_
   have ⟨F,q,I⟩:=bnd p
   refine L.addr 0 rfl (cQ q) λs u J=> ?_
   subst J
   refine Ly (Yl.ia q rfl rfl rfl rfl rfl rfl) ?_
   refine L.el 0 rfl (aY q).2 ?_
   rintro _
   refine Lc 0 0 ?_
   refine Z1 ?_
   have ⟨ac,M,N⟩:=bnd I
   refine Lk [] [] (zU M) λO=> ?_
   refine Yl0 ?_
   have ⟨P,Q,R⟩:=bnd N
   refine T.rf2 (σ:=cJ) (η:=(Option Addr×Nat)) (X:=Int) (θ:=Unit) (τ:=(Option Addr×Nat)) (s1:=P.1) (hx:=λx=>x) (λx t=>[.int .u8 x]) (λx t=>[]) (λ_=>none) (λj h=>(λk m=>[Ch.arr (Ty.int .u8) 5 k m j.b,Ch.box g1 215 [.pointer (some ⟨N0,0,none⟩)],Ch.box N0 213 [.slice k j.b.length m]]) h.1 h.2) (λj h=>(λk m=>[Im.cells s (u+a.2.toNat*1) [.int .i64 F],Im.sl (Ty.int .i64) (some ⟨s,u,none⟩) C1 l]) h.1 h.2) 3 [1,1,1,0] [0,1] [] rfl rfl (λ_ _=>rfl) rfl (λyl C hY=>(xZ hY (c,d) O Q:_)) (λ_ _ _ _=>rfl) rfl rfl rfl rfl rfl ?_ rfl ?_
   ·rintro yl K2 j ⟨k,m⟩ S ⟨⟩ ad U
    refine Z0 ?_
    refine E.begin λK3=> ?_
    refine Yl0 ?_
    refine Td [10] [1,1] mo ?_
    refine Db 0 0 ?_
    refine Db 1 0 ?_
    refine Dq 2 ?_
    refine Dq 3 ?_
    refine Db 4 1 ?_
    refine Dq 5 ?_
    refine Da [] [] rfl rfl (Ac.bs (ty:=(Ty.int .u8)) (xs:=[S]) (.cons () [] rfl .nil) rfl rfl rfl rfl rfl rfl rfl) λae=> ?_
    refine D.frz 0 rfl ?_
    have ⟨_,V,W⟩:=bnd U
    refine Da [0] [0] rfl rfl (Ac.ap (ty:=(Ty.int .u8)) V rfl rfl rfl rfl rfl rfl rfl) ?_
    rintro ⟨Y,Z⟩
    refine Dq 8 ?_
    refine Dq 9 ?_
    refine Dt 1 ?_
    refine Dn ?_
    refine Z0 ?_
    cases W
    exact E.on (Y,Z) [2,1,0] [1,2] rfl rfl rfl rfl
   rintro v aa
   refine Z0 ?_
   cases R
   exact E.qX (_,((v.1,v.2),(aa::e))) [1,1,0,0] [1] (A _ rfl) rfl ⟨rfl,rfl,rfl,rfl,trivial⟩ rfl rfl
  refine Z0 ?_
  cases p
  have hb:=B _ rfl
  subst n
  exact E.qX ((),((c,d),e)) [0,0,0,0] [0] trivial rfl ⟨rfl,trivial⟩ rfl rfl
 rintro ⟨_,⟨⟨f,g⟩,i⟩⟩ _
 refine Z1 ?_
 cases y
 exact E.u3 (f,g) 2 [2,0] [] rfl (.tmp rfl .nil) rfl rfl rfl
theorem l6 {o:cJ} {l:List ByteArray} {r:cJ} (H:gC o l=some r):CT G 174 [.pointer (some ⟨N0,0,none⟩),.slice A1 l.length C1] [Ch.box N0 213 [.slice A0 o.b.length C0],Ch.arr (Ty.int .u8) 5 A0 C0 o.b] [Im.sl Ty.str A1 C1 l] (λh:(Option Addr×Nat)=> .pointer (some ⟨N0,0,none⟩)) (λh=>[Ch.box N0 213 [.slice h.1 r.b.length h.2],Ch.arr (Ty.int .u8) 5 h.1 h.2 r.b]) (λh=>[]):=by
 delta gC at H
 refine Cf Go.Proofs.Tryz.func174 λK=> ?_
 refine Z3 ?_
 have ⟨g,k,m⟩:=bnd H
 refine Tjh (η:=(Option Addr×Nat)) (λ_=>[]) [0] (λh=>(λe f=>[Ch.arr (Ty.int .u8) 5 e f g.b,Ch.box N0 213 [.slice e g.b.length f]]) h.1 h.2) [] (λ_=>[]) ?_ ?_
 ·refine Yl0 ?_
  refine Tq (η:=(Option Addr×Nat)) (λa h=>(λc d=>[(9,.int .i64 a.2)]) h.1 h.2) [0,7,8] (λa h=>(λc d=>[Ch.arr (Ty.int .u8) 5 c d a.1.b,Ch.box N0 213 [.slice c a.1.b.length d]]) h.1 h.2) [] (λ_ _=>[]) (A0,C0) [1,0] [] k ?_
  rintro k_ a ⟨c,d⟩ y n p q
  refine Y2 ?_
  refine Tb n (λi=> ?_) λi=> ?_
  ·refine Z1 ?_
   refine Zl ?_
   refine Z1 ?_
   have ⟨z,j,s⟩:=bnd i
   refine L.addr 0 rfl (cQ j) λA B t=> ?_
   subst t
   refine Ly (Yl.ia j rfl rfl rfl rfl rfl rfl) ?_
   refine L.el 0 rfl (aY j).2 ?_
   rintro _
   refine Lc 0 0 ?_
   refine Z0 ?_
   have ⟨_,u,v⟩:=bnd s
   refine La [0] [] (Ac.aps u rfl rfl rfl rfl rfl rfl rfl rfl rfl NR) ?_
   rintro ⟨w,x⟩
   refine Z0 ?_
   refine Lt 1 ?_
   refine Z0 ?_
   cases v
   exact Eg (_,(w,x)) (p _ rfl) [1,0] [] 1
  refine Z0 ?_
  cases i
  have hb:=q _ rfl
  subst g
  exact Eg (c,d) trivial [0,0] [] 0
 rintro ⟨e,f⟩
 refine Z1 ?_
 cases m
 exact Eo1 (e,f) [1,0] []
theorem oI {o:cJ} {l:List ByteArray} {r:cJ} (H:jq o l=some r):CT G 107 [.pointer (some ⟨N0,0,none⟩),.slice A1 l.length C1] [Ch.box N0 213 [.slice A0 o.b.length C0],Ch.arr (Ty.int .u8) 5 A0 C0 o.b] [Im.sl Ty.str A1 C1 l] (λh:(Option Addr×Nat)=> .pointer (some ⟨N0,0,none⟩)) (λh=>[Ch.box N0 213 [.slice h.1 r.b.length h.2],Ch.arr (Ty.int .u8) 5 h.1 h.2 r.b]) (λh=>[]):=by
 delta jq at H
 refine Cf Go.Proofs.Tryz.func107 λK=> ?_
 refine Z3 ?_
 have ⟨g,m,n⟩:=bnd H
 refine Tjh (η:=(Option Addr×Nat)) (λ_=>[]) [0] (λh=>(λe f=>[Ch.arr (Ty.int .u8) 5 e f g.b,Ch.box N0 213 [.slice e g.b.length f]]) h.1 h.2) [] (λ_=>[]) ?_ ?_
 ·refine Yl0 ?_
  refine Tq (η:=(Option Addr×Nat)) (λa h=>(λc d=>[(9,.int .i64 a.2)]) h.1 h.2) [0,7,8] (λa h=>(λc d=>[Ch.arr (Ty.int .u8) 5 c d a.1.b,Ch.box N0 213 [.slice c a.1.b.length d]]) h.1 h.2) [] (λ_ _=>[]) (A0,C0) [1,0] [] m ?_
  rintro k_ a ⟨c,d⟩ B p q s
  refine Y2 ?_
  refine Tb p (λi=> ?_) λi=> ?_
  ·refine Z1 ?_
   refine Zl ?_
   refine Z1 ?_
   have ⟨k,j,t⟩:=bnd i
   refine L.addr 0 rfl (cQ j) λC F u=> ?_
   subst u
   refine Ly (Yl.ia j rfl rfl rfl rfl rfl rfl) ?_
   refine L.el 0 rfl (aY j).2 ?_
   rintro _
   refine Lc 0 0 ?_
   refine Z0 ?_
   refine La [] [] (Ac.bs (ty:=(Ty.int .i64)) (xs:=[(k.size:Int)]) (.cons () [] rfl .nil) rfl rfl rfl rfl rfl rfl rfl) λI=> ?_
   refine L.frz 0 rfl ?_
   have ⟨J,v,w⟩:=bnd t
   refine Lk [1,0] [0] (eV v) λ⟨M,N⟩=> ?_
   refine Z0 ?_
   refine La [] [] (Ac.bs (ty:=Ty.str) (xs:=[k]) (.cons () [] rfl .nil) rfl rfl rfl rfl rfl rfl rfl) λO=> ?_
   refine L.frz 0 rfl ?_
   have ⟨P,x,y⟩:=bnd w
   refine Lk [0,0] [0] (l6 x) λ⟨z,A⟩=> ?_
   refine Z0 ?_
   cases y
   exact Eg (_,(z,A)) (q _ rfl) [1,0] [] 3
  refine Z0 ?_
  cases i
  have hb:=s _ rfl
  subst g
  exact Eg (c,d) trivial [0,0] [] 0
 rintro ⟨e,f⟩
 refine Z1 ?_
 cases n
 exact Eo1 (e,f) [1,0] []
theorem kX {o:cJ} {r:ByteArray} (H:fD o=some r):CT G 108 [.pointer (some ⟨N0,0,none⟩)] [Ch.box N0 213 [.slice A0 o.b.length C0],Ch.arr (Ty.int .u8) 5 A0 C0 o.b] [] (λ_:Unit=> .string r) (λh=>[Ch.box N0 213 [.slice A0 o.b.length C0],Ch.arr (Ty.int .u8) 5 A0 C0 o.b]) (λh=>[]):=by
 delta fD at H
 refine Cf Go.Proofs.Tryz.func108 λK=> ?_
 refine Z2 ?_
 refine Ly (Yl.bs 1 rfl rfl rfl rfl rfl rfl rfl rfl rfl) ?_
 refine Z0 ?_
 cases H
 exact Eo1 () [0,0] []
theorem oZ {l:List aJ} {r:ByteArray} (H:jP l=some r):CT G 141 [.slice A0 l.length C0] [] [Im.sl aC A0 C0 l] (λ_:Unit=> .string r) (λh=>[]) (λh=>[]):=by
 delta jP at H
 refine Cf Go.Proofs.Tryz.func141 λK=> ?_
 refine Z2 ?_
 refine Ll λg1=> ?_
 refine Z1 ?_
 refine La [] [] (Ac.bs (ty:=(Ty.int .i64)) (xs:=[(l.length:Int)]) (.cons () [] rfl .nil) rfl rfl rfl rfl rfl rfl rfl) λg2=> ?_
 refine L.gA (Ty.int .u8) 5 ?_
 refine L.frz 1 rfl ?_
 have ⟨r6,h7,H8⟩:=bnd H
 refine Lk [1,0] [0] (eV h7) λ⟨a9,m⟩=> ?_
 refine Z2 ?_
 have ⟨e,n,o⟩:=bnd H8
 refine Tjh (η:=(Option Addr×Nat)) (λ_=>[]) [3] (λh=>(λf g=>[Ch.arr (Ty.int .u8) 5 f g e.b,Ch.box g1 213 [.slice f e.b.length g]]) h.1 h.2) [] (λ_=>[]) ?_ ?_
 ·refine Yl0 ?_
  refine Tq (η:=(Option Addr×Nat)) (λa h=>(λc d=>[(12,.int .i64 a.2)]) h.1 h.2) [3,10,11] (λa h=>(λc d=>[Ch.arr (Ty.int .u8) 5 c d a.1.b,Ch.box g1 213 [.slice c a.1.b.length d]]) h.1 h.2) [] (λ_ _=>[]) (a9,m) [1,0] [] n ?_
  rintro k_ a ⟨c,d⟩ B p q s
  refine Y2 ?_
  refine Tb p (λi=> ?_) λi=> ?_
  ·refine Z1 ?_
   refine Zl ?_
   refine Z1 ?_
   have ⟨k,j,t⟩:=bnd i
   refine L.addr 1 rfl (cQ j) λC F u=> ?_
   subst u
   refine Ly (Yl.ia j rfl rfl rfl rfl rfl rfl) ?_
   refine L.el 1 rfl (aY j).2 ?_
   rintro _
   refine Lc 0 0 ?_
   refine Ll λI=> ?_
   refine Lt 0 ?_
   refine Z0 ?_
   refine La [] [] (Ac.bs (ty:=(Ty.int .i64)) (xs:=[(IntKind.i64.wrap k.rune),k.aO]) (.cons () [] rfl (.cons () [] rfl .nil)) rfl rfl rfl rfl rfl rfl rfl) λJ=> ?_
   refine L.frz 0 rfl ?_
   have ⟨M,v,w⟩:=bnd t
   refine Lk [2,1] [0] (eV v) λ⟨x,y⟩=> ?_
   refine Z0 ?_
   cases w
   exact Eg (_,(x,y)) (q _ rfl) [1,0] [] 2
  refine Z0 ?_
  cases i
  have hb:=s _ rfl
  subst e
  exact Eg (c,d) trivial [0,0] [] 0
 rintro ⟨f,g⟩
 refine Z1 ?_
 have ⟨N,z,A⟩:=bnd o
 refine Lk [1,0] [] (kX z) λ⟨⟩=> ?_
 refine Z0 ?_
 cases A
 exact Eo1 () [] []
theorem CQ {is:Bool} {r:Int} (H:qd is=some r):CT G 255 [.bool is] [] [] (λ_:Unit=> .int .i64 r) (λh=>[]) (λh=>[]):=by
 delta qd at H
 refine Cf Go.Proofs.Tryz.func255 λK=> ?_
 refine Z3 ?_
 refine Tb H (λH2=> ?_) λH2=> ?_
 ·refine Z1 ?_
  cases H2
  exact Eo1 () [] []
 refine Z1 ?_
 cases H2
 exact Eo1 () [] []
theorem Bv {l:List aH} {r:(List aH)} (H:oP l=some r):CT G 256 [.slice A0 l.length C0] [] [Im.sl aT A0 C0 l] (λh:Nat=> .func (.func 300) #[] #[.pointer (some ⟨h,0,none⟩)]) (λh=>[Ch.box h 230 [.slice A0 r.length C0]]) (λh=>[Im.sl aT A0 C0 r]):=by
 delta oP at H
 refine Cf Go.Proofs.Tryz.func256 λK=> ?_
 refine Z1 ?_
 refine Lx λg1=> ?_
 refine Z1 ?_
 cases H
 exact Eo1 g1 [0] [0]
theorem yo {σ η:Type} {Y:σ->(Int×aH)->Option (σ×Bool)} {y0:σ} {x1:List aH} {yl:Nat} {C:σ->η->Ch} (hY: ∀ s (h:η) (x:Int×aH) (t:Unit) z,Y s x=some z->YT G yl [.int .i64 x.1,.agg #[.int .i32 x.2.rune,.int .i64 x.2.aO,.int .i64 x.2.part]] [C s h] [] (λ_:η=> .bool z.2) (λh2=>[C z.1 h2]) (λ_=>[])) (h0:η) (g_1:Nat) (a_1_0:Option Addr) (c_1_0:Nat) {r:σ×(List aH)} (H:nk Y y0 x1=some r):CT G 300 [.func (.yield yl) #[] #[],.pointer (some ⟨g_1,0,none⟩)] [C y0 h0,Ch.box g_1 230 [.slice a_1_0 x1.length c_1_0]] [Im.sl aT a_1_0 c_1_0 x1] (λh:η×(Option Addr×Nat)=> .tuple #[]) (λh=>[C r.1 h.1,Ch.box g_1 230 [.slice h.2.1 r.2.length h.2.2]]) (λh=>[Im.sl aT h.2.1 h.2.2 r.2]):=by
  delta nk at H
  refine Cf Go.Proofs.Tryz.func300 λK=> ?_
  have ⟨j,B,q⟩:=bnd H
  refine T.qB (η:=((List aH)×σ)×((Option Addr×Nat)×η)) (λh=>j = .inl h.1) (λh=>(λa=>(λb c e=>[]) h.2.1.1 h.2.1.2 h.2.2) h.1) (λh=>(λa=>(λb c e=>[C a.2 e,Ch.box g_1 230 [.slice b a.1.length c]]) h.2.1.1 h.2.1.2 h.2.2) h.1) (λh=>(λa=>(λb c e=>[Im.sl aT b c a.1,Im.sl aT a_1_0 c_1_0 x1]) h.2.1.1 h.2.1.2 h.2.2) h.1) ?_ ?_
  ·refine Yl0 ?_
   refine Tq (η:=(Option Addr×Nat)×η) (λ_ _=>[]) [0,1] (λf h=>(λg d i=>[C f.2 i,Ch.box g_1 230 [.slice g f.1.length d]]) h.1.1 h.1.2 h.2) [] (λf h=>(λg d i=>[Im.sl aT g d f.1]) h.1.1 h.1.2 h.2) ((a_1_0,c_1_0),h0) [0,0] [0] B ?_
   rintro k_ f ⟨⟨g,d⟩,i⟩ F I J u
   refine Z2 ?_
   refine Tb I (λk=> ?_) λk=> ?_
   ·refine Zl ?_
    refine Y2 ?_
    have ⟨v,M,N⟩:=bnd k
    refine Tj0 [(3,.int .i64 v)] [0,1] [] [0,1] ?_ ?_
    ·refine Yl0 ?_
     refine Tq (η:=Unit) (λw h=>[(3,.int .i64 w)]) [0,1] (λ_ _=>[]) [0,1] (λ_ _=>[]) () [0,0] [] M ?_
     rintro k_ w ⟨⟩ ak O P Q
     refine Y2 ?_
     have ⟨R,S,U⟩:=bnd O
     refine Tj0 [(20,.bool R)] [0,1,3] [] [0,1] ?_ ?_
     ·refine Td [] [0,0] mo ?_
      refine Dq 0 ?_
      refine Db 1 1 ?_
      refine Dq 2 ?_
      refine Dq 3 ?_
      refine Dq 4 ?_
      refine D.cs 11 S rfl (λhc l=> ?_) (λhc l=> ?_)
      ·refine Db 5 1 ?_
       refine Dq 6 ?_
       have ⟨al,m,V⟩:=bnd l
       refine D.addr 0 rfl (cQ m) λam an W=> ?_
       subst W
       refine Dy 7 (Yl.ia m rfl rfl rfl rfl rfl rfl) ?_
       refine D.el 0 rfl (aY m).2 ?_
       rintro _
       refine Dy 8 (Yl.ldc 0 0 rfl rfl rfl rfl) ?_
       refine Db 9 1 ?_
       have ⟨ao,y,X⟩:=bnd V
       refine Dy 10 (Yl.ia y rfl rfl rfl rfl rfl rfl) ?_
       refine D.el 1 rfl (aY y).2 ?_
       rintro _
       refine Dy 11 (Yl.ldc 0 0 rfl rfl rfl rfl) ?_
       refine Dq 12 ?_
       refine Dq 13 ?_
       refine Dn ?_
       cases X
       exact Eg0 [0,0] 2
      refine Ds 5 ?_
      refine Ds 6 ?_
      refine Ds 7 ?_
      refine Ds 8 ?_
      refine Ds 9 ?_
      refine Ds 10 ?_
      refine Ds 11 ?_
      refine Ds 12 ?_
      refine Dq 13 ?_
      refine Dn ?_
      cases l
      exact Eg0 [0,0] 0
     refine Tb U (λn=> ?_) λn=> ?_
     ·refine Zl ?_
      cases n
      exact Eg (_,()) (P _ rfl) [0,0] [] 0
     refine Z0 ?_
     cases n
     have hb:=Q _ rfl
     subst v
     exact Eg0 [0,0] 0
    refine Z2 ?_
    have ⟨ap,o,Z⟩:=bnd N
    refine L.addr 0 rfl (cQ o) λaa ab ac=> ?_
    subst ac
    refine Ly (Yl.ia o rfl rfl rfl rfl rfl rfl) ?_
    refine L.el 0 rfl (aY o).2 ?_
    rintro _
    refine Lc 0 0 ?_
    have ⟨aq,ad,ae⟩:=bnd Z
    refine L.yd [0] [] (hY _ _ _ () _ ad) rfl rfl rfl rfl rfl rfl rfl rfl ?_
    intro A
    refine Z0 ?_
    refine Tb ae (λp=> ?_) λp=> ?_
    ·refine Z0 ?_
     obtain ⟨ar,hz,af⟩:=fG p
     subst F
     have hb:=u _ rfl
     subst j
     obtain rfl:=(sm q).symm
     refine Z0 ?_
     cases af
     exact Eo (A,((some ⟨aa,ab,none⟩),d)) [0,0] [1] .nil
    refine Z0 ?_
    have ⟨_,ag,ah⟩:=bnd p
    refine L.rs 1 ag rfl rfl rfl rfl rfl rfl rfl rfl rfl rfl rfl rfl ?_
    intro ai aj
    refine Lt 1 ?_
    refine Z0 ?_
    cases ah
    exact Eg (_,((ai,aj),A)) (J _ rfl) [1,0] [0] 3
   refine Z0 ?_
   cases k
   have hb:=u _ rfl
   subst j
   exact Egx (_,((g,d),i)) rfl [0,0] [0,1]
  rintro ⟨a,⟨⟨b,c⟩,e⟩⟩ hy
  subst hy
  refine E.off ?_
  cases q
  exact Eo (e,(b,c)) [0,0] [0] .nil
theorem rF {r_:aG} {r:ByteArray} (H:jt r_=some r):CT G 196 [.agg #[.slice A0 r_.cells.length C0,.bool r_.wrapped]] [] [Im.sl aT A0 C0 r_.cells] (λ_:Unit=> .string r) (λh=>[]) (λh=>[]):=by
 delta jt at H
 refine Cf Go.Proofs.Tryz.func196 λK=> ?_
 refine T.yc ?_
 refine Z1 ?_
 refine Lx λg1=> ?_
 refine Z1 ?_
 refine Ll λg2=> ?_
 refine Z1 ?_
 have ⟨r3,h4,H5⟩:=bnd H
 refine Lk [] [] (CQ h4) λ⟨⟩=> ?_
 refine La [] [] (Ac.bs (ty:=(Ty.int .i64)) (xs:=[r3]) (.cons () [] rfl .nil) rfl rfl rfl rfl rfl rfl rfl) λg6=> ?_
 refine L.gA (Ty.int .u8) 5 ?_
 refine L.frz 1 rfl ?_
 have ⟨B,f,g⟩:=bnd H5
 refine Lk [1,0] [0] (eV f) λ⟨i,j⟩=> ?_
 refine Z2 ?_
 have ⟨k,l,m⟩:=bnd g
 refine Lk [] [1] (Bv l) λn=> ?_
 refine Yl0 ?_
 have ⟨o,p,q⟩:=bnd m
 refine T.rf2 (σ:=cJ) (η:=(Option Addr×Nat)) (X:=Int×aH) (θ:=Unit) (τ:=(Option Addr×Nat)×(Option Addr×Nat)) (s1:=o.1) (hx:=λx=>x.1) (λx t=>[.int .i64 x.1,.agg #[.int .i32 x.2.rune,.int .i64 x.2.aO,.int .i64 x.2.part]]) (λx t=>[]) (λ_=>none) (λa h=>(λc d=>[Ch.arr (Ty.int .u8) 5 c d a.b,Ch.box g2 213 [.slice c a.b.length d],Ch.box g1 232 [.slice A0 r_.cells.length C0,.bool r_.wrapped]]) h.1 h.2) (λa h=>(λc d=>[Im.sl aT A0 C0 k,Im.sl (Ty.int .i64) (some ⟨g6,0,none⟩) 1 [r3],Im.sl aT A0 C0 r_.cells]) h.1 h.2) 4 [2,1,1,0] [0,1,2] [0] rfl rfl (λ_ _=>rfl) rfl (λyl C hY=>(yo hY (i,j) n A0 C0 p:_)) (λ_ _ _ _=>rfl) rfl rfl rfl rfl rfl ?_ rfl ?_
 ·rintro yl K2 a ⟨c,d⟩ e ⟨⟩ F s
  refine Z1 ?_
  refine Ll λI=> ?_
  refine Lt 0 ?_
  refine Z0 ?_
  refine E.begin λK3=> ?_
  refine Zl ?_
  refine La [] [] (Ac.bs (ty:=(Ty.int .i64)) (xs:=[e.1,(IntKind.i64.wrap e.2.rune),e.2.aO,e.2.part]) (.cons () [] rfl (.cons () [] rfl (.cons () [] rfl (.cons () [] rfl .nil)))) rfl rfl rfl rfl rfl rfl rfl) λJ=> ?_
  refine L.frz 0 rfl ?_
  have ⟨M,u,v⟩:=bnd s
  refine Lk [2,1] [0] (eV u) λ⟨w,y⟩=> ?_
  refine Z0 ?_
  cases v
  exact E.on (w,y) [1,0,1] [1,2,3] rfl rfl rfl rfl
 rintro ⟨N,⟨O,P⟩⟩ Q
 refine Z1 ?_
 have ⟨R,z,A⟩:=bnd q
 refine Lk [2,1] [] (kX z) λ⟨⟩=> ?_
 refine Z0 ?_
 cases A
 exact E.u3 () 2 [] [] rfl (.tmp rfl .nil) rfl rfl rfl
theorem pU {s_:aL} {r:ByteArray} (H:jo s_=some r):CT G 251 [.agg (iD s_ A0 C0 A1 C1).toArray] [] [Im.sl aD A0 C0 s_.rows,Im.sl aC A1 C1 s_.begun] (λ_:Unit=> .string r) (λh=>[]) (λh=>[]):=by
 delta jo at H
 refine Cf Go.Proofs.Tryz.func251 λK=> ?_
 refine Z1 ?_
 refine Lx λg1=> ?_
 refine Y2 ?_
 have ⟨p,q,s⟩:=bnd H
 refine Tj0 [(12,.bool p)] [1] [] [0] ?_ ?_
 ·refine Z0 ?_
  have ⟨al,t,u⟩:=bnd q
  refine Lk [] [0,1] (oY t) λ⟨⟩=> ?_
  refine Z0 ?_
  refine Lw 8 u (λf=> ?_) λf=> ?_
  ·refine Z0 ?_
   cases f
   exact Eg0 [0] 0
  refine Z0 ?_
  have ⟨am,v,z⟩:=bnd f
  refine Lk [] [0,1] (mX v) λ⟨⟩=> ?_
  refine Z0 ?_
  cases z
  exact Eg0 [0] 0
 refine Tb s (λg=> ?_) λg=> ?_
 ·refine Z1 ?_
  cases g
  exact Eo1 () [] []
 refine Z1 ?_
 refine Ll λo=> ?_
 refine Y1 ?_
 refine Td [] [1] mo ?_
 refine Dq 0 ?_
 refine Db 1 0 ?_
 refine Dq 2 ?_
 refine Db 3 0 ?_
 refine Dq 4 ?_
 refine Db 5 0 ?_
 refine Dq 6 ?_
 refine Db 7 0 ?_
 refine Dq 8 ?_
 refine Db 9 0 ?_
 refine Dq 12 ?_
 refine Db 13 0 ?_
 refine Dq 16 ?_
 refine Db 17 0 ?_
 refine Dq 18 ?_
 refine Db 19 0 ?_
 refine Dq 22 ?_
 refine Db 23 0 ?_
 refine DF.of rfl ?_
 refine DF.add _ (FSp.ac 10 [] (Ac.frz (Ac.bs (ty:=(Ty.int .i64)) (xs:=[s_.k,s_.w,s_.h,s_.x,s_.y]) (.cons () [] rfl (.cons () [] rfl (.cons () [] rfl (.cons () [] rfl (.cons () [] rfl .nil))))) rfl rfl rfl rfl rfl rfl rfl)) rfl rfl rfl rfl rfl) rfl ?_
 refine DF.add _ (FSp.ac 14 [] (Ac.frz (Ac.bs (ty:=Ty.str) (xs:=[s_.title]) (.cons () [] rfl .nil) rfl rfl rfl rfl rfl rfl rfl)) rfl rfl rfl rfl rfl) rfl ?_
 refine DF.add _ (FSp.ac 20 [] (Ac.frz (Ac.bs (ty:=(Ty.int .i64)) (xs:=[s_.len,s_.chain]) (.cons () [] rfl (.cons () [] rfl .nil)) rfl rfl rfl rfl rfl rfl rfl)) rfl rfl rfl rfl rfl) rfl ?_
 refine DF.step 11 rfl rfl rfl rfl rfl ?_
 refine DFp.use 2 rfl rfl rfl ?_
 intro an
 refine DFp.gA (Ty.int .u8) 5 ?_
 have ⟨ao,A,B⟩:=bnd g
 refine DFp.a [1,0] [0] (Ac.call (eV A) rfl rfl rfl rfl) rfl rfl rfl rfl rfl rfl rfl rfl ?_
 rintro ⟨ap,aq⟩
 refine DF.step 15 rfl rfl rfl rfl rfl ?_
 refine DFp.use 1 rfl rfl rfl ?_
 intro ar
 have ⟨au,C,F⟩:=bnd B
 refine DFp.a [0,0] [0] (Ac.call (oI C) rfl rfl rfl rfl) rfl rfl rfl rfl rfl rfl rfl rfl ?_
 rintro ⟨av,aw⟩
 refine DF.step 21 rfl rfl rfl rfl rfl ?_
 refine DFp.use 0 rfl rfl rfl ?_
 intro ax
 have ⟨ay,I,J⟩:=bnd F
 refine DFp.a [0,0] [0] (Ac.call (eV I) rfl rfl rfl rfl) rfl rfl rfl rfl rfl rfl rfl rfl ?_
 rintro ⟨az,a0⟩
 have ⟨M,N,O⟩:=bnd J
 refine DF.add _ (FSp.ac 24 [4] (Ac.call (oZ N) rfl rfl rfl rfl) rfl rfl rfl rfl rfl) rfl ?_
 refine DF.add _ (FSp.dep 0 rfl rfl λ⟨⟩=>FSp.ac 25 [] (Ac.frz (Ac.bs (ty:=Ty.str) (xs:=[M]) (.cons () [] rfl .nil) rfl rfl rfl rfl rfl rfl rfl)) rfl rfl rfl rfl rfl) rfl ?_
 refine DF.step 26 rfl rfl rfl rfl rfl ?_
 refine DFp.use 0 rfl rfl rfl ?_
 intro a1
 refine DFp.use 0 rfl rfl rfl ?_
 rintro ⟨⟩
 have ⟨a2,P,Q⟩:=bnd O
 refine DFp.a [0,0] [0] (Ac.call (l6 P) rfl rfl rfl rfl) rfl rfl rfl rfl rfl rfl rfl rfl ?_
 rintro ⟨R,S⟩
 refine DF.fin rfl rfl rfl rfl rfl ?_
 refine DFe.nil ?_
 refine Z2 ?_
 have ⟨i,U,V⟩:=bnd Q
 refine Tjh (η:=(Option Addr×Nat)) (λ_=>[]) [3] (λh=>(λj l=>[Ch.arr (Ty.int .u8) 5 j l i.b,Ch.box o 213 [.slice j i.b.length l]]) h.1 h.2) [0] (λ_=>[]) ?_ ?_
 ·refine Yl0 ?_
  refine Tq (η:=(Option Addr×Nat)) (λc h=>(λd e=>[(43,.int .i64 c.2)]) h.1 h.2) [3,41,42] (λc h=>(λd e=>[Ch.arr (Ty.int .u8) 5 d e c.1.b,Ch.box o 213 [.slice d c.1.b.length e]]) h.1 h.2) [0] (λ_ _=>[]) (R,S) [2,1,0] [] U ?_
  rintro k_ c ⟨d,e⟩ a3 W X Y
  refine Y2 ?_
  refine Tb W (λm=> ?_) λm=> ?_
  ·refine Z1 ?_
   refine Zl ?_
   refine Z1 ?_
   have ⟨a4,n,Z⟩:=bnd m
   refine L.addr 4 rfl (cQ n) λa5 a6 aa=> ?_
   subst aa
   refine Ly (Yl.ia n rfl rfl rfl rfl rfl rfl) ?_
   refine L.el 4 rfl (aY n).2 ?_
   rintro ⟨a7,a8⟩
   refine Lc 0 0 ?_
   refine Ll λa9=> ?_
   refine Lt 0 ?_
   refine Z0 ?_
   have ⟨ab,ad,ae⟩:=bnd Z
   refine Lk [] [1] (rF ad) λ⟨⟩=> ?_
   refine La [] [] (Ac.bs (ty:=Ty.str) (xs:=[ab]) (.cons () [] rfl .nil) rfl rfl rfl rfl rfl rfl rfl) λba=> ?_
   refine L.frz 0 rfl ?_
   have ⟨bb,af,ag⟩:=bnd ae
   refine Lk [2,1] [0] (l6 af) λ⟨ah,ai⟩=> ?_
   refine Z0 ?_
   cases ag
   exact Eg (_,(ah,ai)) (X _ rfl) [1,0,1] [] 3
  refine Z0 ?_
  cases m
  have hb:=Y _ rfl
  subst i
  exact Eg (d,e) trivial [0,0,0] [] 0
 rintro ⟨j,l⟩
 refine Z1 ?_
 have ⟨bc,aj,ak⟩:=bnd V
 refine Lk [1,0] [] (kX aj) λ⟨⟩=> ?_
 refine Z0 ?_
 cases ak
 exact Eo1 () [] []
theorem Bx {s_:aL} {r:Bool} (H:mw s_=some r):CT G 192 [.agg (iD s_ A0 C0 A1 C1).toArray] [] [Im.sl aD A0 C0 s_.rows,Im.sl aC A1 C1 s_.begun] (λ_:Unit=> .bool r) (λh=>[]) (λh=>[]):=by
 delta mw at H
 refine Cf Go.Proofs.Tryz.func192 λK=> ?_
 refine Z1 ?_
 refine Lx λg1=> ?_
 refine Z1 ?_
 have ⟨r2,h3,H4⟩:=bnd H
 refine Lk [] [0,1] (pU h3) λ⟨⟩=> ?_
 refine Z0 ?_
 cases H4
 exact Eo1 () [] []
theorem CR {x_:Int} {b:Int} {r:Int} (H:m7 x_ b=some r):CT G 142 [.int .u32 x_,.int .u8 b] [] [Im.sl (Ty.int .u32) (some ⟨0,0,none⟩) 16 cB] (λ_:Unit=> .int .u32 r) (λh=>[]) (λh=>[]):=by
 delta m7 at H
 refine Cf Go.Proofs.Tryz.func142 λK=> ?_
 refine Z3 ?_
 have ⟨x1,h2,H3⟩:=bnd H
 refine Ly (Yl.xg h2 rfl rfl rfl rfl rfl rfl rfl) ?_
 refine L.el 0 rfl (aY h2).2 ?_
 rintro _
 refine Lc 0 0 ?_
 refine Z1 ?_
 have ⟨x5,h6,H7⟩:=bnd H3
 refine Ly (Yl.xg h6 rfl rfl rfl rfl rfl rfl rfl) ?_
 refine L.el 1 rfl (aY h6).2 ?_
 rintro _
 refine Lc 0 0 ?_
 refine Z0 ?_
 cases H7
 exact Eo1 () [] []
theorem uN {l:List ByteArray} {r:Int} (H:nz l=some r):CT G 79 [.slice A0 l.length C0] [] [Im.sl Ty.str A0 C0 l,Im.sl (Ty.int .u32) (some ⟨0,0,none⟩) 16 cB] (λ_:Unit=> .int .u32 r) (λh=>[]) (λh=>[]):=by
 delta nz at H
 refine Cf Go.Proofs.Tryz.func79 λK=> ?_
 refine Z3 ?_
 refine Z1 ?_
 have ⟨j,m,n⟩:=bnd H
 refine Tj0 [(3,.int .u32 j)] [] [] [] ?_ ?_
 ·refine Yl0 ?_
  refine Tq (η:=Unit) (λa h=>[(3,.int .u32 a.1),(9,.int .i64 a.2)]) [7,8] (λ_ _=>[]) [] (λ_ _=>[]) () [] [] m ?_
  rintro k_ a ⟨⟩ I o p q
  refine Y2 ?_
  refine Tb o (λb=> ?_) λb=> ?_
  ·refine Z1 ?_
   refine Zl ?_
   refine Z1 ?_
   have ⟨s,d,t⟩:=bnd b
   refine L.addr 0 rfl (cQ d) λe f u=> ?_
   subst u
   refine Ly (Yl.ia d rfl rfl rfl rfl rfl rfl) ?_
   refine L.el 0 rfl (aY d).2 ?_
   rintro _
   refine Lc 0 0 ?_
   refine Z1 ?_
   have ⟨k,v,w⟩:=bnd t
   refine T.qB (η:=Unit×Unit) (λh=>True) (λh=>[(3,.int .u32 k),(7,.slice (some ⟨e,f,none⟩) l.length C0),(8,.int .i64 (l.length:Int)),(9,.int .i64 a.2)]) (λh=>[]) (λh=>[Im.cells e (f+a.2.toNat*1) [.string s],Im.sl Ty.str (some ⟨e,f,none⟩) C0 l,Im.sl (Ty.int .u32) (some ⟨0,0,none⟩) 16 cB]) ?_ ?_
   ·refine Yl0 ?_
    refine Tq (η:=Unit) (λg h=>[(3,.int .u32 g.2),(15,.int .i64 g.1)]) [5,7,8,9,14] (λ_ _=>[]) [] (λ_ _=>[]) () [] [] v ?_
    rintro k_ g ⟨⟩ J x y z
    refine Y2 ?_
    refine Tb x (λi=> ?_) λi=> ?_
    ·refine Z1 ?_
     refine Zl ?_
     refine Z1 ?_
     have ⟨M,A,B⟩:=bnd i
     refine Ly (Yl.si A rfl rfl rfl rfl rfl) ?_
     have ⟨N,C,F⟩:=bnd B
     refine Lk [] [2] (CR C) λ⟨⟩=> ?_
     refine Z0 ?_
     cases F
     exact Eg (_,()) (y _ rfl) [] [] 0
    refine Z0 ?_
    cases i
    have hb:=z _ rfl
    subst k
    exact Egx ((),()) trivial [] [0,1,2]
   rintro ⟨_,⟨⟩⟩ _
   refine Z0 ?_
   cases w
   exact Eg (_,()) (p _ rfl) [] [] 1
  refine Z0 ?_
  cases b
  have hb:=q _ rfl
  subst j
  exact Eg0 [] 0
 refine Z1 ?_
 refine Ly (Yl.com (c:=4294967295) rfl rfl rfl) ?_
 refine Z0 ?_
 cases n
 exact Eo1 () [] []
theorem wh {s_:aL} {r:Int} (H:kR s_=some r):CT G 193 [.agg (iD s_ A0 C0 A1 C1).toArray] [] [Im.sl aD A0 C0 s_.rows,Im.sl aC A1 C1 s_.begun,Im.sl (Ty.int .u32) (some ⟨0,0,none⟩) 16 cB] (λ_:Unit=> .int .i64 r) (λh=>[]) (λh=>[]):=by
 delta kR at H
 refine Cf Go.Proofs.Tryz.func193 λK=> ?_
 refine Z1 ?_
 refine Lx λg1=> ?_
 refine Z1 ?_
 have ⟨r2,h3,H4⟩:=bnd H
 refine Lk [] [0,1] (pU h3) λ⟨⟩=> ?_
 refine La [] [] (Ac.bs (ty:=Ty.str) (xs:=[r2]) (.cons () [] rfl .nil) rfl rfl rfl rfl rfl rfl rfl) λg5=> ?_
 have ⟨r7,h8,H9⟩:=bnd H4
 refine L.br (Ac.call (uN h8) rfl rfl rfl rfl) (Bw.ch 0 rfl (Bw.im 2 rfl (Bw.nil))) rfl rfl rfl ?_
 intro _
 refine Z0 ?_
 cases H9
 exact Eo1 () [] []
theorem qF {a:aL} {b:aL} {r:(aL×aL)} (H:jG a b=some r):CT G 195 [.agg (iD a A0 C0 A1 C1).toArray,.agg (iD b A2 C2 A3 C3).toArray] [] [Im.sl aD A0 C0 a.rows,Im.sl aC A1 C1 a.begun,Im.sl aD A2 C2 b.rows,Im.sl aC A3 C3 b.begun] (λh:Nat×Nat=> .func (.func 252) #[] #[.pointer (some ⟨h.1,0,none⟩),.pointer (some ⟨h.2,0,none⟩)]) (λh=>[Ch.box h.1 103 (iD r.1 A2 C2 A3 C3),Ch.box h.2 103 (iD r.2 A0 C0 A1 C1)]) (λh=>[Im.sl aD A2 C2 r.1.rows,Im.sl aC A3 C3 r.1.begun,Im.sl aD A0 C0 r.2.rows,Im.sl aC A1 C1 r.2.begun]):=by
 delta jG at H
 refine Cf Go.Proofs.Tryz.func195 λK=> ?_
 refine Z1 ?_
 refine Lx λg1=> ?_
 refine Lx λg2=> ?_
 refine Z1 ?_
 cases H
 exact Eo1 (g2,g1) [0,0] [2,3,0,1]
theorem yp {s_:aL} {y:Int} {r:aG×Bool} (H:kf s_ y=some r):CT G 253 [.agg (iD s_ A0 C0 A1 C1).toArray,.int .i64 y] [] [Im.sl aD A0 C0 s_.rows,Im.sl aC A1 C1 s_.begun] (λh:(Option Addr×Nat)=> .tuple #[.agg #[.slice h.1 r.1.cells.length h.2,.bool r.1.wrapped],.bool r.2]) (λh=>[]) (λh=>[Im.sl aT h.1 h.2 r.1.cells]):=by
 delta kf at H
 refine Cf Go.Proofs.Tryz.func253 λK=> ?_
 refine Z1 ?_
 refine Lx λg1=> ?_
 refine Ll λg2=> ?_
 refine Y2 ?_
 have ⟨e6,H7,H8⟩:=bnd H
 refine Tj0 [(14,.bool e6)] [1,2,4] [] [0,1] ?_ ?_
 ·refine Z0 ?_
  refine Lw 8 H7 (λH9=> ?_) λH9=> ?_
  ·refine Z0 ?_
   cases H9
   exact Eg0 [0,0] 0
  refine Z0 ?_
  cases H9
  exact Eg0 [0,0] 0
 refine Tb H8 (λa=> ?_) λa=> ?_
 ·refine Z1 ?_
  refine Lt 0 ?_
  refine Z0 ?_
  refine E.lk [Im.sl aT none 0 []] (λA w _ _ f hf=>by rw [List.mem_singleton.1 hf]; exact Im.k9 A w) ?_
  cases a
  exact Eo (none,0) [] [0] (.cell 0 rfl rfl rfl (.tmp rfl .nil))
 refine Z1 ?_
 have ⟨i,b,c⟩:=bnd a
 refine L.addr 0 rfl (cQ b) λj k d=> ?_
 subst d
 refine Ly (Yl.ia b rfl rfl rfl rfl rfl rfl) ?_
 refine L.el 0 rfl (aY b).2 ?_
 rintro ⟨e,g⟩
 refine Lc 0 0 ?_
 refine Lt 0 ?_
 refine Z0 ?_
 cases c
 exact Eo (e,g) [] [1] (.cell 0 rfl rfl rfl (.tmp rfl .nil))
theorem pV {s1_:List aH} {s2_:List aH} {r:Bool} (H:gf s1_ s2_=some r):CT G 299 [.slice A0 s1_.length C0,.slice A1 s2_.length C1] [] [Im.sl aT A0 C0 s1_,Im.sl aT A1 C1 s2_] (λ_:Unit=> .bool r) (λh=>[]) (λh=>[]):=by
 delta gf at H
 refine Cf Go.Proofs.Tryz.func299 λK=> ?_
 refine Z3 ?_
 refine Tb H (λH2=> ?_) λH2=> ?_
 ·refine Z1 ?_
  cases H2
  exact Eo1 () [] []
 refine Z2 ?_
 have ⟨a,j,f⟩:=bnd H2
 refine Tj (η:=Unit×Unit) (λh=>a = .inl h.1) (λ_=>[]) [] (λ_=>[]) [] (λ_=>[]) ?_ ?_
 ·refine Yl0 ?_
  refine Tq (η:=Unit) (λg h=>[(13,.int .i64 g)]) [0,1,12] (λ_ _=>[]) [] (λ_ _=>[]) () [] [] j ?_
  rintro k_ g ⟨⟩ k l m i
  refine Y2 ?_
  refine Tb l (λb=> ?_) λb=> ?_
  ·refine Z1 ?_
   refine Zl ?_
   refine Y2 ?_
   refine Td [] [] mo ?_
   refine Dq 0 ?_
   refine Dq 1 ?_
   have ⟨t,c,n⟩:=bnd b
   refine D.addr 0 rfl (cQ c) λu v o=> ?_
   subst o
   refine Dy 2 (Yl.ia c rfl rfl rfl rfl rfl rfl) ?_
   refine D.el 0 rfl (aY c).2 ?_
   rintro _
   refine Dy 3 (Yl.ldc 0 0 rfl rfl rfl rfl) ?_
   refine Dq 4 ?_
   refine Dq 5 ?_
   have ⟨w,d,p⟩:=bnd n
   refine D.addr 2 rfl (cQ d) λx y q=> ?_
   subst q
   refine Dy 6 (Yl.ia d rfl rfl rfl rfl rfl rfl) ?_
   refine D.el 2 rfl (aY d).2 ?_
   rintro _
   refine Dy 7 (Yl.ldc 0 0 rfl rfl rfl rfl) ?_
   refine Dq 8 ?_
   refine Dn ?_
   refine Z0 ?_
   refine Tb p (λe=> ?_) λe=> ?_
   ·refine Z1 ?_
    obtain ⟨z,hz,s⟩:=fG e
    subst k
    have hb:=i _ rfl
    subst a
    obtain rfl:=(sm f).symm
    refine Z0 ?_
    cases s
    exact Eo1 () [] []
   refine Z0 ?_
   cases e
   exact Eg (_,()) (m _ rfl) [] [] 2
  refine Z0 ?_
  cases b
  have hb:=i _ rfl
  subst a
  exact Eg (_,()) rfl [] [] 0
 rintro ⟨A,⟨⟩⟩ hy
 subst hy
 refine Z1 ?_
 cases f
 exact Eo1 () [] []
theorem x4 {r_:aG} {q:aG} {r:Bool} (H:lq r_ q=some r):CT G 254 [.agg #[.slice A0 r_.cells.length C0,.bool r_.wrapped],.agg #[.slice A1 q.cells.length C1,.bool q.wrapped]] [] [Im.sl aT A0 C0 r_.cells,Im.sl aT A1 C1 q.cells] (λ_:Unit=> .bool r) (λh=>[]) (λh=>[]):=by
 delta lq at H
 refine Cf Go.Proofs.Tryz.func254 λK=> ?_
 refine Z1 ?_
 refine Lx λg1=> ?_
 refine Lx λg2=> ?_
 refine Y1 ?_
 have ⟨b,c,d⟩:=bnd H
 refine Tj0 [(4,.bool b)] [] [] [0,1] ?_ ?_
 ·refine Z0 ?_
  refine Lw 10 c (λa=> ?_) λa=> ?_
  ·refine Z0 ?_
   have ⟨g,e,f⟩:=bnd a
   refine Lk [] [0,1] (pV e) λ⟨⟩=> ?_
   refine Z0 ?_
   cases f
   exact Eg0 [0,0] 0
  refine Z0 ?_
  cases a
  exact Eg0 [0,0] 0
 refine Z0 ?_
 cases d
 exact Eo1 () [] []
theorem o3 {σ η:Type} {Y:σ->(Int×aG)->Option (σ×Bool)} {y0:σ} {x1:aL} {x2:aL} {yl:Nat} {C:σ->η->Ch} (hY: ∀ s (h:η) (x:Int×aG) (t:(Option Addr×Nat)) z,Y s x=some z->YT G yl [.int .i64 x.1,.agg #[.slice t.1 x.2.cells.length t.2,.bool x.2.wrapped]] [C s h] [Im.sl aT t.1 t.2 x.2.cells] (λ_:η=> .bool z.2) (λh2=>[C z.1 h2]) (λ_=>[])) (h0:η) (g_1:Nat) (a_1_0:Option Addr) (c_1_0:Nat) (a_1_1:Option Addr) (c_1_1:Nat) (g_2:Nat) (a_2_0:Option Addr) (c_2_0:Nat) (a_2_1:Option Addr) (c_2_1:Nat) {r:σ} (H:gN Y y0 x1 x2=some r):CT G 252 [.func (.yield yl) #[] #[],.pointer (some ⟨g_1,0,none⟩),.pointer (some ⟨g_2,0,none⟩)] [C y0 h0,Ch.box g_1 103 (iD x1 a_1_0 c_1_0 a_1_1 c_1_1),Ch.box g_2 103 (iD x2 a_2_0 c_2_0 a_2_1 c_2_1)] [Im.sl aD a_1_0 c_1_0 x1.rows,Im.sl aC a_1_1 c_1_1 x1.begun,Im.sl aD a_2_0 c_2_0 x2.rows,Im.sl aC a_2_1 c_2_1 x2.begun] (λh:η=> .tuple #[]) (λh=>[C r h,Ch.box g_1 103 (iD x1 a_1_0 c_1_0 a_1_1 c_1_1),Ch.box g_2 103 (iD x2 a_2_0 c_2_0 a_2_1 c_2_1)]) (λh=>[]):=by
  delta gN at H
  refine Cf Go.Proofs.Tryz.func252 λK=> ?_
  refine Z1 ?_
  have ⟨e,v,m⟩:=bnd H
  refine T.qB (η:=σ×(η)) (λh=>e = .inl h.1) (λh=>(λc=>(λa=>[]) h.2) h.1) (λh=>(λc=>(λa=>[C c a,Ch.box g_1 103 (iD x1 a_1_0 c_1_0 a_1_1 c_1_1),Ch.box g_2 103 (iD x2 a_2_0 c_2_0 a_2_1 c_2_1)]) h.2) h.1) (λh=>(λc=>(λa=>[Im.sl aD a_1_0 c_1_0 x1.rows,Im.sl aC a_1_1 c_1_1 x1.begun,Im.sl aD a_2_0 c_2_0 x2.rows,Im.sl aC a_2_1 c_2_1 x2.begun]) h.2) h.1) ?_ ?_
  ·refine Yl0 ?_
   refine Tq (η:=η) (λd h=>(λb=>[(11,.int .i64 d.1)]) h) [0,2,9,10] (λd h=>(λb=>[C d.2 b]) h) [1,2] (λ_ _=>[]) h0 [0,0,0] [] v ?_
   rintro k_ d b w y A n
   refine Y2 ?_
   refine Tb y (λf=> ?_) λf=> ?_
   ·refine Y1 ?_
    have ⟨o,B,p⟩:=bnd f
    refine Tj (η:=σ×(η)) (λh=>o = .inl h.1) (λ_=>[]) [0,2,9,10,11] (λh=>(λq=>(λg=>[C q g]) h.2) h.1) [1,2] (λ_=>[]) ?_ ?_
    ·refine Zl ?_
     refine Z1 ?_
     have ⟨aa,i,F⟩:=bnd B
     refine L.addr 0 rfl (cQ i) λab ac I=> ?_
     subst I
     refine Ly (Yl.ia i rfl rfl rfl rfl rfl rfl) ?_
     refine L.el 0 rfl (aY i).2 ?_
     rintro ⟨J,M⟩
     refine Lc 0 0 ?_
     refine Ll λad=> ?_
     refine Z0 ?_
     refine Lt 0 ?_
     refine Z2 ?_
     have ⟨ae,N,O⟩:=bnd F
     refine Lk [] [4,5] (yp N) λ⟨af,ag⟩=> ?_
     refine Z0 ?_
     refine Ll λah=> ?_
     refine Lt 0 ?_
     refine Y1 ?_
     have ⟨P,Q,R⟩:=bnd O
     refine Tj0 [(27,.bool P)] [0,2,4,5,9,10,11] [] [0,1,2,3,4] ?_ ?_
     ·refine Z0 ?_
      refine Lw 23 Q (λj=> ?_) λj=> ?_
      ·refine Z0 ?_
       have ⟨ai,S,U⟩:=bnd j
       refine Lk [] [0,2] (x4 S) λ⟨⟩=> ?_
       refine Z0 ?_
       cases U
       exact Eg0 [0,0,0,0,0] 0
      refine Z0 ?_
      cases j
      exact Eg0 [0,0,0,0,0] 0
     refine Tb R (λk=> ?_) λk=> ?_
     ·refine Z0 ?_
      cases k
      exact Eg (_,b) rfl [2,2,2] [] 3
     refine Z1 ?_
     have ⟨aj,V,W⟩:=bnd k
     refine L.yd [2] [2] (hY _ _ _ (J,M) _ V) rfl rfl rfl rfl rfl rfl rfl rfl ?_
     intro u
     refine Z0 ?_
     refine Tb W (λl=> ?_) λl=> ?_
     ·refine Z0 ?_
      obtain ⟨ak,hz,X⟩:=eP l
      subst o
      obtain rfl:=(sm p).symm
      refine Z0 ?_
      obtain ⟨al,hz,Z⟩:=fG X
      subst w
      have hb:=n _ rfl
      subst e
      obtain rfl:=(sm m).symm
      refine Z0 ?_
      cases Z
      exact Eo u [0,2,2] [] .nil
     refine Z0 ?_
     cases l
     exact Eg (_,u) rfl [0,2,2] [] 3
    rintro ⟨q,g⟩ hy
    subst hy
    refine Z0 ?_
    cases p
    exact Eg (_,g) (A _ rfl) [0,0,0] [] 0
   refine Z0 ?_
   cases f
   have hb:=n _ rfl
   subst e
   exact Egx (_,b) rfl [0,0,0] [0,1,2,3]
  rintro ⟨c,a⟩ hy
  subst hy
  refine E.off ?_
  cases m
  exact Eo a [0,0,0] [] .nil
theorem wj {a:aL} {b:aL} {r:(List Int)} (H:kS a b=some r):CT G 194 [.agg (iD a A0 C0 A1 C1).toArray,.agg (iD b A2 C2 A3 C3).toArray] [] [Im.sl aD A0 C0 a.rows,Im.sl aC A1 C1 a.begun,Im.sl aD A2 C2 b.rows,Im.sl aC A3 C3 b.begun] (λh:(Option Addr×Nat)=> .slice h.1 r.length h.2) (λh=>[Ch.arr (Ty.int .i64) 3 h.1 h.2 r]) (λh=>[]):=by
 delta kS at H
 refine Cf Go.Proofs.Tryz.func194 λK=> ?_
 refine T.yc ?_
 refine Z1 ?_
 refine Lx λg1=> ?_
 refine Lx λg2=> ?_
 refine Z1 ?_
 refine Ll λg3=> ?_
 refine Z2 ?_
 have ⟨r4,h5,H6⟩:=bnd H
 refine Lk [] [0,1,2,3] (qF h5) λ⟨g7,g8⟩=> ?_
 refine Yl0 ?_
 refine T.gA (Ty.int .i64) 3 ?_
 have ⟨g,i,j⟩:=bnd H6
 refine T.rf2 (σ:=(List Int)) (η:=(Option Addr×Nat)) (X:=Int×aG) (θ:=(Option Addr×Nat)) (τ:=(Option Addr×Nat)) (s1:=g) (hx:=λx=>x) (λx t=>[.int .i64 x.1,.agg #[.slice t.1 x.2.cells.length t.2,.bool x.2.wrapped]]) (λx t=>[Im.sl aT t.1 t.2 x.2.cells]) (λ_=>none) (λc h=>(λd e=>[Ch.arr (Ty.int .i64) 3 d e c,Ch.box g3 50 [.slice d c.length e],Ch.box g2 103 (iD b A2 C2 A3 C3),Ch.box g1 103 (iD a A0 C0 A1 C1)]) h.1 h.2) (λc h=>(λd e=>[Im.sl aD A2 C2 r4.1.rows,Im.sl aC A3 C3 r4.1.begun,Im.sl aD A0 C0 r4.2.rows,Im.sl aC A1 C1 r4.2.begun,Im.sl aD A0 C0 a.rows,Im.sl aC A1 C1 a.begun,Im.sl aD A2 C2 b.rows,Im.sl aC A3 C3 b.begun]) h.1 h.2) 6 [0,2,2,2,0,0] [0,1,2,3,4,5,6,7] [0,1,2,3] rfl rfl (λ_ _=>rfl) rfl (λyl C hY=>(o3 hY (none,0) g7 A2 C2 A3 C3 g8 A0 C0 A1 C1 i:_)) (λ_ _ _ _=>rfl) rfl rfl rfl rfl rfl ?_ rfl ?_
 ·rintro yl K2 c ⟨d,e⟩ k ⟨q,s⟩ u l
  refine Z0 ?_
  refine E.begin λK3=> ?_
  refine Zl ?_
  refine La [] [] (Ac.bs (ty:=(Ty.int .i64)) (xs:=[k.1]) (.cons () [] rfl .nil) rfl rfl rfl rfl rfl rfl rfl) λv=> ?_
  refine L.frz 0 rfl ?_
  have ⟨_,m,n⟩:=bnd l
  refine La [0] [0] (Ac.ap (ty:=(Ty.int .i64)) m rfl rfl rfl rfl rfl rfl rfl) ?_
  rintro ⟨o,p⟩
  refine Lt 1 ?_
  refine Z0 ?_
  cases n
  exact E.on (o,p) [1,0,0,0] [2,3,4,5,6,7,8,9] rfl rfl rfl rfl
 rintro f w
 refine Z1 ?_
 cases j
 exact E.u3 (f.1,f.2) 0 [0] [] rfl (.tmp rfl .nil) rfl rfl rfl
theorem zV {a:aL} {b:aL} {r:ByteArray} (H:mJ a b=some r):CT G 137 [.agg (iD a A0 C0 A1 C1).toArray,.agg (iD b A2 C2 A3 C3).toArray] [] [Im.sl aD A0 C0 a.rows,Im.sl aC A1 C1 a.begun,Im.sl aD A2 C2 b.rows,Im.sl aC A3 C3 b.begun,Im.sl (Ty.int .u32) (some ⟨0,0,none⟩) 16 cB] (λ_:Unit=> .string r) (λh=>[]) (λh=>[]):=by
 delta mJ at H
 refine Cf Go.Proofs.Tryz.func137 λK=> ?_
 refine T.yc ?_
 refine Z1 ?_
 refine Lx λg1=> ?_
 refine Lx λg2=> ?_
 refine Y2 ?_
 have ⟨p,s,u⟩:=bnd H
 refine T.Af (η:=Unit×Unit) (λh=>True) (λh=>[]) (λh=>[(2,.pointer (some ⟨g1,0,none⟩)),(3,.pointer (some ⟨g2,0,none⟩)),(15,.bool p)]) (λh=>[Ch.box g2 103 (iD b A2 C2 A3 C3),Ch.box g1 103 (iD a A0 C0 A1 C1),Ch.dfs []]) (λh=>[Im.sl aD A0 C0 a.rows,Im.sl aC A1 C1 a.begun,Im.sl aD A2 C2 b.rows,Im.sl aC A3 C3 b.begun,Im.sl (Ty.int .u32) (some ⟨0,0,none⟩) 16 cB]) ?_ ?_
 ·refine Z0 ?_
  have ⟨a6,v,z⟩:=bnd s
  refine Lk [] [0,1] (mX v) λ⟨⟩=> ?_
  refine Z0 ?_
  refine Lw 11 z (λg=> ?_) λg=> ?_
  ·refine Z0 ?_
   cases g
   exact E.qX ((),()) [0,0,0] [0,1,2,3,4] trivial rfl ⟨rfl,rfl,rfl,trivial⟩ rfl rfl
  refine Z0 ?_
  have ⟨a7,A,B⟩:=bnd g
  refine Lk [] [2,3] (Bx A) λ⟨⟩=> ?_
  refine Z0 ?_
  cases B
  exact E.qX ((),()) [0,0,0] [0,1,2,3,4] trivial rfl ⟨rfl,rfl,rfl,trivial⟩ rfl rfl
 rintro ⟨_,⟨⟩⟩ _
 refine Tb u (λi=> ?_) λi=> ?_
 ·refine Z1 ?_
  cases i
  exact E.u3 () 2 [] [] rfl (.tmp rfl .nil) rfl rfl rfl
 refine Z1 ?_
 refine Ll λF=> ?_
 refine Y1 ?_
 refine Td [] [1,1,1] mo ?_
 refine Db 0 1 ?_
 refine Dq 2 ?_
 refine Db 3 0 ?_
 refine Dq 4 ?_
 refine Db 5 0 ?_
 refine Dq 6 ?_
 refine Db 7 0 ?_
 refine Dq 8 ?_
 refine Db 9 0 ?_
 refine Dq 10 ?_
 refine Db 11 0 ?_
 refine Dq 14 ?_
 refine Db 15 0 ?_
 refine Dq 18 ?_
 refine Db 19 0 ?_
 refine Dq 20 ?_
 refine Db 21 0 ?_
 refine Dq 24 ?_
 refine Db 25 0 ?_
 refine Db 29 1 ?_
 refine Db 30 0 ?_
 refine DF.of rfl ?_
 have ⟨l,I,J⟩:=bnd i
 refine DF.add _ (FSp.ac 1 [0,1,4] (Ac.call (wh I) rfl rfl rfl rfl) rfl rfl rfl rfl rfl) rfl ?_
 refine DF.add _ (FSp.dep 0 rfl rfl λ⟨⟩=>FSp.ac 12 [] (Ac.frz (Ac.bs (ty:=(Ty.int .i64)) (xs:=[l,b.k,b.w,b.h,b.x,b.y]) (.cons () [] rfl (.cons () [] rfl (.cons () [] rfl (.cons () [] rfl (.cons () [] rfl (.cons () [] rfl .nil)))))) rfl rfl rfl rfl rfl rfl rfl)) rfl rfl rfl rfl rfl) rfl ?_
 refine DF.add _ (FSp.ac 16 [] (Ac.frz (Ac.bs (ty:=Ty.str) (xs:=[b.title]) (.cons () [] rfl .nil) rfl rfl rfl rfl rfl rfl rfl)) rfl rfl rfl rfl rfl) rfl ?_
 refine DF.add _ (FSp.ac 22 [] (Ac.frz (Ac.bs (ty:=(Ty.int .i64)) (xs:=[b.len,b.chain]) (.cons () [] rfl (.cons () [] rfl .nil)) rfl rfl rfl rfl rfl rfl rfl)) rfl rfl rfl rfl rfl) rfl ?_
 refine DF.step 13 rfl rfl rfl rfl rfl ?_
 refine DFp.use 2 rfl rfl rfl ?_
 intro M
 refine DFp.use 2 rfl rfl rfl ?_
 rintro ⟨⟩
 refine DFp.gA (Ty.int .u8) 5 ?_
 have ⟨a8,N,O⟩:=bnd J
 refine DFp.a [1,0] [0] (Ac.call (eV N) rfl rfl rfl rfl) rfl rfl rfl rfl rfl rfl rfl rfl ?_
 rintro ⟨a9,ba⟩
 refine DF.step 17 rfl rfl rfl rfl rfl ?_
 refine DFp.use 1 rfl rfl rfl ?_
 intro P
 have ⟨bb,Q,R⟩:=bnd O
 refine DFp.a [0,0] [0] (Ac.call (oI Q) rfl rfl rfl rfl) rfl rfl rfl rfl rfl rfl rfl rfl ?_
 rintro ⟨bc,bd⟩
 refine DF.step 23 rfl rfl rfl rfl rfl ?_
 refine DFp.use 0 rfl rfl rfl ?_
 intro S
 have ⟨be,U,V⟩:=bnd R
 refine DFp.a [0,0] [0] (Ac.call (eV U) rfl rfl rfl rfl) rfl rfl rfl rfl rfl rfl rfl rfl ?_
 rintro ⟨bf,bg⟩
 have ⟨m,W,Y⟩:=bnd V
 refine DF.add _ (FSp.ac 26 [6] (Ac.call (oZ W) rfl rfl rfl rfl) rfl rfl rfl rfl rfl) rfl ?_
 refine DF.add _ (FSp.dep 0 rfl rfl λ⟨⟩=>FSp.ac 27 [] (Ac.frz (Ac.bs (ty:=Ty.str) (xs:=[m]) (.cons () [] rfl .nil) rfl rfl rfl rfl rfl rfl rfl)) rfl rfl rfl rfl rfl) rfl ?_
 refine DF.step 28 rfl rfl rfl rfl rfl ?_
 refine DFp.use 0 rfl rfl rfl ?_
 intro Z
 refine DFp.use 0 rfl rfl rfl ?_
 rintro ⟨⟩
 have ⟨bh,aa,ab⟩:=bnd Y
 refine DFp.a [0,0] [0] (Ac.call (l6 aa) rfl rfl rfl rfl) rfl rfl rfl rfl rfl rfl rfl rfl ?_
 rintro ⟨bi,bj⟩
 have ⟨j,ad,ae⟩:=bnd ab
 refine DF.add _ (FSp.ac 31 [4,5,6,7] (Ac.frz (Ac.call (wj ad) rfl rfl rfl rfl)) rfl rfl rfl rfl rfl) rfl ?_
 refine DF.add _ (FSp.dep 0 rfl rfl λ⟨n,o⟩=>FSp.q 32 rfl rfl rfl rfl rfl) rfl ?_
 refine DF.add _ (FSp.dep 0 rfl rfl λ_=>FSp.ac 33 [] (Ac.frz (Ac.bs (ty:=(Ty.int .i64)) (xs:=[(j.length:Int)]) (.cons () [] rfl .nil) rfl rfl rfl rfl rfl rfl rfl)) rfl rfl rfl rfl rfl) rfl ?_
 refine DF.step 34 rfl rfl rfl rfl rfl ?_
 refine DFp.use 0 rfl rfl rfl ?_
 intro af
 refine DFp.use 1 rfl rfl rfl ?_
 rintro ⟨n,o⟩
 have ⟨bk,ag,ah⟩:=bnd ae
 refine DFp.a [0,0] [1] (Ac.call (eV ag) rfl rfl rfl rfl) rfl rfl rfl rfl rfl rfl rfl rfl ?_
 rintro ⟨ai,aj⟩
 refine DF.fin rfl rfl rfl rfl rfl ?_
 refine DFe.use ?_
 intro _
 refine DFe.nil ?_
 refine Z2 ?_
 have ⟨c,ak,al⟩:=bnd ah
 refine Lk [] [6,7,8,9] (qF ak) λ⟨am,an⟩=> ?_
 refine Yl0 ?_
 have ⟨ao,ap,aq⟩:=bnd al
 refine T.rf2 (σ:=cJ) (η:=(Option Addr×Nat)) (X:=Int×aG) (θ:=(Option Addr×Nat)) (τ:=(Option Addr×Nat)) (s1:=ao) (hx:=λx=>x) (λx t=>[.int .i64 x.1,.agg #[.slice t.1 x.2.cells.length t.2,.bool x.2.wrapped]]) (λx t=>[Im.sl aT t.1 t.2 x.2.cells]) (λ_=>none) (λd h=>(λe f=>[Ch.arr (Ty.int .u8) 5 e f d.b,Ch.box g2 103 (iD b A2 C2 A3 C3),Ch.box g1 103 (iD a A0 C0 A1 C1),Ch.box F 213 [.slice e d.b.length f]]) h.1 h.2) (λd h=>(λe f=>[Im.sl aD A2 C2 c.1.rows,Im.sl aC A3 C3 c.1.begun,Im.sl aD A0 C0 c.2.rows,Im.sl aC A1 C1 c.2.begun,Im.sl (Ty.int .i64) n o j,Im.sl (Ty.int .i64) (some ⟨af,0,none⟩) 1 [(j.length:Int)],Im.sl Ty.str (some ⟨Z,0,none⟩) 1 [m],Im.sl (Ty.int .i64) (some ⟨S,0,none⟩) 2 [b.len,b.chain],Im.sl Ty.str (some ⟨P,0,none⟩) 1 [b.title],Im.sl (Ty.int .i64) (some ⟨M,0,none⟩) 6 [l,b.k,b.w,b.h,b.x,b.y],Im.sl aD A0 C0 a.rows,Im.sl aC A1 C1 a.begun,Im.sl aD A2 C2 b.rows,Im.sl aC A3 C3 b.begun,Im.sl (Ty.int .u32) (some ⟨0,0,none⟩) 16 cB]) h.1 h.2) 4 [5,2,2,2,0,0] [0,1,2,3,4,5,6,7,8,9,10,11,12,13,14] [0,1,2,3] rfl rfl (λ_ _=>rfl) rfl (λyl C hY=>(o3 hY (ai,aj) am A2 C2 A3 C3 an A0 C0 A1 C1 ap:_)) (λ_ _ _ _=>rfl) rfl rfl rfl rfl rfl ?_ rfl ?_
 ·rintro yl K2 d ⟨e,f⟩ ar ⟨bl,bm⟩ bn au
  refine Z1 ?_
  refine Ll λbo=> ?_
  refine Lt 0 ?_
  refine Z0 ?_
  refine E.begin λK3=> ?_
  refine Yl0 ?_
  refine Td [] [0,1,1] mo ?_
  refine Dq 0 ?_
  refine Db 3 0 ?_
  refine Da [] [] rfl rfl (Ac.bs (ty:=(Ty.int .i64)) (xs:=[ar.1]) (.cons () [] rfl .nil) rfl rfl rfl rfl rfl rfl rfl) λbp=> ?_
  refine D.frz 0 rfl ?_
  have ⟨bq,av,aw⟩:=bnd au
  refine Dk [1,0] [0] (eV av) λ⟨br,bt⟩=> ?_
  have ⟨ax,ay,az⟩:=bnd aw
  refine Dk [] [1] (rF ay) λ⟨⟩=> ?_
  refine Da [] [] rfl rfl (Ac.bs (ty:=Ty.str) (xs:=[ax]) (.cons () [] rfl .nil) rfl rfl rfl rfl rfl rfl rfl) λbu=> ?_
  refine D.frz 0 rfl ?_
  have ⟨bv,a0,a1⟩:=bnd az
  refine Dk [0,0] [0] (l6 a0) λ⟨a2,a3⟩=> ?_
  refine Dn ?_
  refine Z0 ?_
  cases a1
  exact E.on (a2,a3) [4,1,1,1] [3,4,5,6,7,8,9,10,11,12,13,14,15,16,17] rfl rfl rfl rfl
 rintro bw bx
 refine Z1 ?_
 have ⟨bz,a4,a5⟩:=bnd aq
 refine Lk [4,1] [] (kX a4) λ⟨⟩=> ?_
 refine Z0 ?_
 cases a5
 exact E.u3 () 2 [] [] rfl (.tmp rfl .nil) rfl rfl rfl
theorem yq {s_:ByteArray} {size:Int} {r:(List ByteArray)} (H:lX s_ size=some r):CT G 136 [.string s_,.int .i64 size] [] [] (λh:(Option Addr×Nat)=> .slice h.1 r.length h.2) (λh=>[Ch.arr Ty.str 9 h.1 h.2 r]) (λh=>[]):=by
 delta lX at H
 refine Cf Go.Proofs.Tryz.func136 λK=> ?_
 refine Z3 ?_
 refine Y1 ?_
 have ⟨b,i,j⟩:=bnd H
 refine Tjh (η:=(Option Addr×Nat)) (λh=>(λe f=>[(0,.string b.1),(5,.slice e b.2.length f)]) h.1 h.2) [] (λh=>(λe f=>[Ch.arr Ty.str 9 e f b.2]) h.1 h.2) [] (λ_=>[]) ?_ ?_
 ·refine Yl0 ?_
  refine T.gA Ty.str 9 ?_
  refine Tq (η:=(Option Addr×Nat)) (λa h=>(λc d=>[(0,.string a.1),(5,.slice c a.2.length d)]) h.1 h.2) [1] (λa h=>(λc d=>[Ch.arr Ty.str 9 c d a.2]) h.1 h.2) [] (λ_ _=>[]) (none,0) [0] [] i ?_
  rintro k_ a ⟨c,d⟩ A k l m
  refine Z2 ?_
  refine Tb k (λg=> ?_) λg=> ?_
  ·refine Zl ?_
   refine Z1 ?_
   have ⟨_,n,o⟩:=bnd g
   refine Ly (Yl.sc n rfl rfl rfl rfl rfl rfl) ?_
   refine La [] [] (Ac.bs (ty:=Ty.str) (xs:=[(gB a.1 0 (imax 1 (dF size 8000)))]) (.cons () [] rfl .nil) rfl rfl rfl rfl rfl rfl rfl) λB=> ?_
   refine L.frz 0 rfl ?_
   have ⟨_,p,q⟩:=bnd o
   refine La [0] [0] (Ac.ap (ty:=Ty.str) p rfl rfl rfl rfl rfl rfl rfl) ?_
   rintro ⟨s,t⟩
   refine Z0 ?_
   have ⟨_,u,v⟩:=bnd q
   refine Ly (Yl.sc u rfl rfl rfl rfl rfl rfl) ?_
   refine Z0 ?_
   cases v
   exact Eg (_,(s,t)) (l _ rfl) [0] [] 1
  refine Z0 ?_
  cases g
  have hb:=m _ rfl
  subst b
  exact Eg (c,d) trivial [0] [] 0
 rintro ⟨e,f⟩
 refine Z1 ?_
 refine La [] [] (Ac.bs (ty:=Ty.str) (xs:=[b.1]) (.cons () [] rfl .nil) rfl rfl rfl rfl rfl rfl rfl) λC=> ?_
 refine L.frz 0 rfl ?_
 have ⟨_,w,x⟩:=bnd j
 refine La [0] [0] (Ac.ap (ty:=Ty.str) w rfl rfl rfl rfl rfl rfl rfl) ?_
 rintro ⟨y,z⟩
 refine Z0 ?_
 cases x
 exact Eo1 (y,z) [0] []
end Go.Tw.X
namespace Go.Tw.X
open Go Go.Tw
variable {A0 A1 A2 A3 A4 A5 A6 A7 A8 A9 A10 A11 A12 A13 A14 A15 A16 A17 A18 A19 A20 A21 A22 : Option Addr} {C0 C1 C2 C3 C4 C5 C6 C7 C8 C9 C10 C11 C12 C13 C14 C15 C16 C17 C18 C19 C20 C21 C22 : Nat}
variable {N0 N1 N2 N3 N4 N5 N6 : Nat}
theorem oJ {x_:aL} {x1:aI} {r:Bool} (H:fB x_ x1=some r):CT G 139 [.agg (iD x_ A0 C0 A1 C1).toArray,.pointer (some ⟨N0,0,none⟩)] [] [Im.sl aD A0 C0 x_.rows,Im.sl aC A1 C1 x_.begun,Im.cells N0 0 [.pointer (some ⟨N1,0,none⟩)],Im.cells N1 0 [.int .i64 x1.config.part,.int .i64 x1.config.every,.int .i64 x1.config.most,.int .i64 x1.current.k,.int .i64 x1.current.w,.int .i64 x1.current.h,.int .i64 x1.current.x,.int .i64 x1.current.y,.string x1.current.title,.slice A2 x1.current.rows.length C2,.int .i64 x1.current.len,.int .i64 x1.current.chain,.slice A3 x1.current.begun.length C3,.int .i64 x1.aM.k,.int .i64 x1.aM.w,.int .i64 x1.aM.h,.int .i64 x1.aM.x,.int .i64 x1.aM.y,.string x1.aM.title,.slice A4 x1.aM.rows.length C4,.int .i64 x1.aM.len,.int .i64 x1.aM.chain,.slice A5 x1.aM.begun.length C5,.slice A6 x1.kept.length C6,.int .i64 x1.message.id,.int .i64 x1.message.key,.int .i64 x1.message.base,.slice A7 x1.message.parts.length C7,.slice A8 x1.message.there.length C8,.int .i64 x1.message.due,.int .i64 x1.next],Im.sl aD A2 C2 x1.current.rows,Im.sl aC A3 C3 x1.current.begun,Im.sl aD A4 C4 x1.aM.rows,Im.sl aC A5 C5 x1.aM.begun,Im.sl bE A6 C6 x1.kept,Im.sl Ty.str A7 C7 x1.message.parts,Im.sl Ty.bool A8 C8 x1.message.there] (λ_:Unit=> .bool r) (λh=>[]) (λh=>[]):=by
 delta fB at H
 refine Cf Go.Proofs.Tryz.func139 λK=> ?_
 refine Z1 ?_
 refine Lx λg1=> ?_
 refine Y1 ?_
 refine Td [] [0] mo ?_
 refine Dq 0 ?_
 refine Db 1 0 ?_
 refine Dy 2 (Yl.ldc 2 0 rfl rfl rfl rfl) ?_
 refine Dq 3 ?_
 refine Dq 4 ?_
 refine Dq 5 ?_
 refine Dy 6 (Yl.ldc 3 3 rfl rfl rfl rfl) ?_
 refine Dq 7 ?_
 refine Dq 8 ?_
 refine Dn ?_
 refine Z0 ?_
 cases H
 exact Eo1 () [] []
theorem kh {s_:List aL} {f_0:aI} {r:Int} (H:dB s_ f_0=some r):CT G 72 [.slice A0 s_.length C0,.func (.func 139) #[] #[.pointer (some ⟨N0,0,none⟩)]] [] [Im.sl bE A0 C0 s_,Im.cells N0 0 [.pointer (some ⟨N1,0,none⟩)],Im.cells N1 0 [.int .i64 f_0.config.part,.int .i64 f_0.config.every,.int .i64 f_0.config.most,.int .i64 f_0.current.k,.int .i64 f_0.current.w,.int .i64 f_0.current.h,.int .i64 f_0.current.x,.int .i64 f_0.current.y,.string f_0.current.title,.slice A1 f_0.current.rows.length C1,.int .i64 f_0.current.len,.int .i64 f_0.current.chain,.slice A2 f_0.current.begun.length C2,.int .i64 f_0.aM.k,.int .i64 f_0.aM.w,.int .i64 f_0.aM.h,.int .i64 f_0.aM.x,.int .i64 f_0.aM.y,.string f_0.aM.title,.slice A3 f_0.aM.rows.length C3,.int .i64 f_0.aM.len,.int .i64 f_0.aM.chain,.slice A4 f_0.aM.begun.length C4,.slice A5 f_0.kept.length C5,.int .i64 f_0.message.id,.int .i64 f_0.message.key,.int .i64 f_0.message.base,.slice A6 f_0.message.parts.length C6,.slice A7 f_0.message.there.length C7,.int .i64 f_0.message.due,.int .i64 f_0.next],Im.sl aD A1 C1 f_0.current.rows,Im.sl aC A2 C2 f_0.current.begun,Im.sl aD A3 C3 f_0.aM.rows,Im.sl aC A4 C4 f_0.aM.begun,Im.sl bE A5 C5 f_0.kept,Im.sl Ty.str A6 C6 f_0.message.parts,Im.sl Ty.bool A7 C7 f_0.message.there] (λ_:Unit=> .int .i64 r) (λh=>[]) (λh=>[]):=by
 delta dB at H
 refine Cf Go.Proofs.Tryz.func72 λK=> ?_
 refine Z3 ?_
 have ⟨a,i,e⟩:=bnd H
 refine Tj (η:=Unit×Unit) (λh=>a = .inl h.1) (λ_=>[]) [] (λ_=>[]) [] (λ_=>[]) ?_ ?_
 ·refine Yl0 ?_
  refine Tq (η:=Unit) (λf h=>[(8,.int .i64 f)]) [0,1,7] (λ_ _=>[]) [] (λ_ _=>[]) () [] [] i ?_
  rintro k_ f ⟨⟩ j l m g
  refine Y2 ?_
  refine Tb l (λb=> ?_) λb=> ?_
  ·refine Z1 ?_
   refine Zl ?_
   refine Z2 ?_
   have ⟨t,c,n⟩:=bnd b
   refine L.addr 0 rfl (cQ c) λu v o=> ?_
   subst o
   refine Ly (Yl.ia c rfl rfl rfl rfl rfl rfl) ?_
   refine L.el 0 rfl (aY c).2 ?_
   rintro ⟨⟨z,A⟩,⟨B,C⟩⟩
   refine Lc 0 0 ?_
   have ⟨F,p,q⟩:=bnd n
   refine Lk [] [1,2,4,5,6,7,8,9,10,11,12] (oJ p) λ⟨⟩=> ?_
   refine Z0 ?_
   refine Tb q (λd=> ?_) λd=> ?_
   ·refine Z1 ?_
    obtain ⟨I,hz,s⟩:=fG d
    subst j
    have hb:=g _ rfl
    subst a
    obtain rfl:=(sm e).symm
    refine Z0 ?_
    cases s
    exact Eo1 () [] []
   refine Z0 ?_
   cases d
   exact Eg (_,()) (m _ rfl) [] [] 3
  refine Z0 ?_
  cases b
  have hb:=g _ rfl
  subst a
  exact Eg (_,()) rfl [] [] 0
 rintro ⟨J,⟨⟩⟩ hy
 subst hy
 refine Z1 ?_
 cases e
 exact Eo1 () [] []
theorem jC {s_:List aL} {f_0:aI} {r:Bool} (H:cH s_ f_0=some r):CT G 138 [.slice A0 s_.length C0,.func (.func 139) #[] #[.pointer (some ⟨N0,0,none⟩)]] [] [Im.sl bE A0 C0 s_,Im.cells N0 0 [.pointer (some ⟨N1,0,none⟩)],Im.cells N1 0 [.int .i64 f_0.config.part,.int .i64 f_0.config.every,.int .i64 f_0.config.most,.int .i64 f_0.current.k,.int .i64 f_0.current.w,.int .i64 f_0.current.h,.int .i64 f_0.current.x,.int .i64 f_0.current.y,.string f_0.current.title,.slice A1 f_0.current.rows.length C1,.int .i64 f_0.current.len,.int .i64 f_0.current.chain,.slice A2 f_0.current.begun.length C2,.int .i64 f_0.aM.k,.int .i64 f_0.aM.w,.int .i64 f_0.aM.h,.int .i64 f_0.aM.x,.int .i64 f_0.aM.y,.string f_0.aM.title,.slice A3 f_0.aM.rows.length C3,.int .i64 f_0.aM.len,.int .i64 f_0.aM.chain,.slice A4 f_0.aM.begun.length C4,.slice A5 f_0.kept.length C5,.int .i64 f_0.message.id,.int .i64 f_0.message.key,.int .i64 f_0.message.base,.slice A6 f_0.message.parts.length C6,.slice A7 f_0.message.there.length C7,.int .i64 f_0.message.due,.int .i64 f_0.next],Im.sl aD A1 C1 f_0.current.rows,Im.sl aC A2 C2 f_0.current.begun,Im.sl aD A3 C3 f_0.aM.rows,Im.sl aC A4 C4 f_0.aM.begun,Im.sl bE A5 C5 f_0.kept,Im.sl Ty.str A6 C6 f_0.message.parts,Im.sl Ty.bool A7 C7 f_0.message.there] (λ_:Unit=> .bool r) (λh=>[]) (λh=>[]):=by
 delta cH at H
 refine Cf Go.Proofs.Tryz.func138 λK=> ?_
 refine Z2 ?_
 have ⟨r1,h2,H3⟩:=bnd H
 refine Lk [] [0,1,2,3,4,5,6,7,8,9] (kh h2) λ⟨⟩=> ?_
 refine Z0 ?_
 cases H3
 exact Eo1 () [] []
theorem qM {s_:aI} {now:Int} {r:aI} (H:fQ s_ now=some r):CT G 69 [.pointer (some ⟨N0,0,none⟩),.int .i64 now] [Ch.box N0 158 (gv s_ A0 C0 A1 C1 A2 C2 A3 C3 A4 C4 A5 C5 A6 C6),Ch.aro bE 103 A4 C4 s_.kept,Ch.arr Ty.bool 4 A6 C6 s_.message.there] [Im.sl aD A0 C0 s_.current.rows,Im.sl aC A1 C1 s_.current.begun,Im.sl aD A2 C2 s_.aM.rows,Im.sl aC A3 C3 s_.aM.begun,Im.sl Ty.str A5 C5 s_.message.parts,Im.sl (Ty.int .u32) (some ⟨0,0,none⟩) 16 cB] (λh:(Option Addr×Nat)×(Option Addr×Nat)×(Option Addr×Nat)=> .tuple #[]) (λh=>[Ch.box N0 158 (gv r A0 C0 A1 C1 A2 C2 A3 C3 h.1.1 h.1.2 h.2.1.1 h.2.1.2 h.2.2.1 h.2.2.2),Ch.aro bE 103 h.1.1 h.1.2 r.kept,Ch.arr Ty.bool 4 h.2.2.1 h.2.2.2 r.message.there]) (λh=>[Im.sl aD A0 C0 r.current.rows,Im.sl aC A1 C1 r.current.begun,Im.sl aD A2 C2 r.aM.rows,Im.sl aC A3 C3 r.aM.begun,Im.sl Ty.str h.2.1.1 h.2.1.2 r.message.parts]):=by
 delta fQ at H
 refine Cf Go.Proofs.Tryz.func69 λK=> ?_
 refine Z1 ?_
 refine Lx λg1=> ?_
 refine Y1 ?_
 refine Td [34] [0,0,0,0] mo ?_
 refine Db 0 0 ?_
 refine Db 1 0 ?_
 refine Dq 2 ?_
 refine Dq 3 ?_
 refine Db 4 1 ?_
 refine Db 5 0 ?_
 refine Dq 6 ?_
 refine Dq 7 ?_
 refine Dq 8 ?_
 refine Db 9 1 ?_
 refine Db 10 0 ?_
 refine Dq 11 ?_
 refine Dq 12 ?_
 refine Dq 13 ?_
 refine Db 14 1 ?_
 refine Db 15 0 ?_
 refine Dq 16 ?_
 refine Dq 17 ?_
 refine Db 18 1 ?_
 refine Db 19 0 ?_
 refine Dq 20 ?_
 refine Dq 21 ?_
 refine Db 22 1 ?_
 refine Db 24 0 ?_
 refine Dq 25 ?_
 refine Dq 26 ?_
 refine Dq 27 ?_
 refine Db 28 1 ?_
 refine Dq 30 ?_
 have ⟨J,m,n⟩:=bnd H
 refine Dk [] [2,3,0,1,5] (zV m) λ⟨⟩=> ?_
 have ⟨k,o,p⟩:=bnd n
 refine Dk [] [] (yq o) λ⟨g,i⟩=> ?_
 refine Dq 31 ?_
 refine Dq 32 ?_
 refine Dq 33 ?_
 refine Dt 1 ?_
 refine Dn ?_
 refine Y1 ?_
 refine Td [11] [0,0,0,0,0] mo ?_
 refine Db 0 1 ?_
 refine Db 1 1 ?_
 refine Dq 2 ?_
 refine Dq 3 ?_
 refine Dq 4 ?_
 refine Db 5 0 ?_
 refine Dq 6 ?_
 have ⟨_,q,s⟩:=bnd p
 refine Da [] [] rfl rfl (Ac.mk (ty:=Ty.bool) false () q (λ_ _ f hf=>by cases hf) rfl rfl rfl rfl rfl rfl rfl) λl=> ?_
 refine Dq 8 ?_
 refine Dq 9 ?_
 refine Dq 10 ?_
 refine Dt 0 ?_
 refine Dn ?_
 refine Z1 ?_
 refine Lt 0 ?_
 refine Z2 ?_
 have ⟨M,t,u⟩:=bnd s
 refine L.br (Ac.call (jC t) rfl rfl rfl rfl) (Bw.cho 2 rfl (Bw.bx 1 rfl (Bw.bx 0 rfl (Bw.im 0 rfl (Bw.im 1 rfl (Bw.im 2 rfl (Bw.im 3 rfl (Bw.cho 2 rfl (Bw.ch 4 rfl (Bw.ch 5 rfl (Bw.nil))))))))))) rfl rfl rfl ?_
 intro _
 refine Z0 ?_
 have ⟨a,v,w⟩:=bnd u
 refine Tjh (η:=(Option Addr×Nat)×(Option Addr×Nat)) (λ_=>[]) [2] (λh=>(λd e b c=>[Ch.aro bE 103 d e a.kept,Ch.arr Ty.str 9 g i a.message.parts,Ch.arr Ty.bool 4 b c a.message.there,Ch.box N0 158 (gv a A0 C0 A1 C1 A2 C2 A3 C3 d e g i b c)]) h.1.1 h.1.2 h.2.1 h.2.2) [1] (λh=>(λd e b c=>[Im.sl aD A0 C0 a.current.rows,Im.sl aC A1 C1 a.current.begun,Im.sl aD A2 C2 a.aM.rows,Im.sl aC A3 C3 a.aM.begun]) h.1.1 h.1.2 h.2.1 h.2.2) ?_ ?_
 ·refine Tb v (λj=> ?_) λj=> ?_
  ·refine Td [13] [0,0,1,1,1] mo ?_
   refine Db 0 1 ?_
   refine Db 1 1 ?_
   refine Dq 2 ?_
   refine Dq 3 ?_
   refine Db 4 0 ?_
   refine Db 5 1 ?_
   refine Dq 6 ?_
   refine Dq 7 ?_
   refine Db 8 0 ?_
   refine Da [] [0,1] rfl rfl (Ac.bs (ty:=bE) (xs:=[s_.current]) (.cons ((A0,C0),(A1,C1)) [0,1] rfl .nil) rfl rfl rfl rfl rfl rfl rfl) λN=> ?_
   refine D.frz 0 rfl ?_
   have ⟨_,x,y⟩:=bnd j
   refine Da [0] [0] rfl rfl (Ac.oap (ty:=bE) x rfl rfl rfl rfl rfl rfl rfl) ?_
   rintro ⟨z,A⟩
   refine Dq 11 ?_
   refine Dq 12 ?_
   refine Dt 0 ?_
   refine Dn ?_
   cases y
   exact Eg ((z,A),((some ⟨l,0,none⟩),(k.length:Int).toNat)) trivial [5,3,3,0,0] [1,2,3,4] 1
  refine Z0 ?_
  cases j
  exact Eg ((A4,C4),((some ⟨l,0,none⟩),(k.length:Int).toNat)) trivial [2,3,3,0,0] [0,1,2,3] 0
 rintro ⟨⟨d,e⟩,⟨b,c⟩⟩
 refine Td [20] [1,1,1,1] mo ?_
 refine Db 0 3 ?_
 refine Db 1 3 ?_
 refine Dq 2 ?_
 refine Dq 3 ?_
 refine Db 4 2 ?_
 refine Db 5 3 ?_
 refine Dq 6 ?_
 refine Dq 7 ?_
 refine Db 8 2 ?_
 refine Dq 9 ?_
 refine Db 10 3 ?_
 refine Dq 11 ?_
 refine Dq 12 ?_
 refine Dq 13 ?_
 refine Db 14 2 ?_
 refine Dq 15 ?_
 refine Dq 16 ?_
 have ⟨_,B,C⟩:=bnd w
 refine Da [0] [] rfl rfl (Ac.ors (ty:=bE) B rfl rfl rfl rfl rfl rfl rfl rfl) ?_
 rintro ⟨F,I⟩
 refine Dq 18 ?_
 refine Dq 19 ?_
 refine Dt 2 ?_
 refine Dn ?_
 refine E.off ?_
 refine E.frz 1 rfl ?_
 cases C
 exact Eo ((F,I),(g,i),(b,c)) [0,2,0] [1,2,3,4,0] .nil
theorem qt {σ η:Type} {m_:bK} {Y:σ->(Int×ByteArray)->Option (σ×Bool)} {y0:σ} (a_0_0:Option Addr) (c_0_0:Nat) (a_0_1:Option Addr) (c_0_1:Nat) {yl:Nat} {C:σ->η->Ch} (hY: ∀ s (h:η) (x:Int×ByteArray) (t:Unit) z,Y s x=some z->YT G yl [.int .i64 x.1,.string x.2] [C s h] [] (λ_:η=> .bool z.2) (λh2=>[C z.1 h2]) (λ_=>[])) (h0:η) {r:σ} (H:gO m_ Y y0=some r):CT G 70 [.agg (KZ m_ a_0_0 c_0_0 a_0_1 c_0_1).toArray,.func (.yield yl) #[] #[]] [C y0 h0,Ch.arr Ty.bool 4 a_0_1 c_0_1 m_.there] [Im.sl Ty.str a_0_0 c_0_0 m_.parts] (λh:η=> .tuple #[]) (λh=>[C r h,Ch.arr Ty.bool 4 a_0_1 c_0_1 m_.there]) (λh=>[]):=by
  delta gO at H
  refine Cf Go.Proofs.Tryz.func70 λK=> ?_
  refine Z1 ?_
  refine Lx λg1=> ?_
  refine Z1 ?_
  have ⟨f,p,m⟩:=bnd H
  refine T.qB (η:=σ×(η)) (λh=>f = .inl h.1) (λh=>(λe=>(λa=>[]) h.2) h.1) (λh=>(λe=>(λa=>[C e a,Ch.box g1 156 (KZ m_ a_0_0 c_0_0 a_0_1 c_0_1),Ch.arr Ty.bool 4 a_0_1 c_0_1 m_.there]) h.2) h.1) (λh=>(λe=>(λa=>[Im.sl Ty.str a_0_0 c_0_0 m_.parts]) h.2) h.1) ?_ ?_
  ·refine Yl0 ?_
   refine Tq (η:=η) (λb h=>(λc=>[(9,.int .i64 b.1)]) h) [1,2,7,8] (λb h=>(λc=>[C b.2 c]) h) [0,2] (λ_ _=>[]) h0 [1,0,0] [] p ?_
   rintro k_ b c q u w n
   refine Y2 ?_
   refine Tb u (λg=> ?_) λg=> ?_
   ·refine Z1 ?_
    refine Zl ?_
    refine Z1 ?_
    have ⟨R,i,y⟩:=bnd g
    refine L.addr 0 rfl (cQ i) λS U A=> ?_
    subst A
    refine Ly (Yl.ia i rfl rfl rfl rfl rfl rfl) ?_
    refine L.el 0 rfl (aY i).2 ?_
    rintro _
    refine Lc 0 0 ?_
    refine Y1 ?_
    have ⟨o,B,F⟩:=bnd y
    refine Tjh (η:=η) (λh=>(λd=>[(26,.bool o.1)]) h) [1,2,7,8,9] (λh=>(λd=>[C o.2 d]) h) [1,2] (λ_=>[]) ?_ ?_
    ·refine Z0 ?_
     have ⟨I,j,J⟩:=bnd B
     refine L.lN 2 rfl (cQ j) λV M=> ?_
     subst M
     refine Ly (Yl.ia j rfl rfl rfl rfl rfl rfl) ?_
     refine Ly (Yl.lo (v:= .bool I) 2 b.1.toNat 0 (aY j).2 rfl rfl rfl rfl (λ_=>rfl)) ?_
     refine Z0 ?_
     refine Lw 20 J (λk=> ?_) λk=> ?_
     ·refine Z0 ?_
      have ⟨W,N,O⟩:=bnd k
      refine L.yd [0] [] (hY _ _ _ () _ N) rfl rfl rfl rfl rfl rfl rfl rfl ?_
      intro P
      refine Z0 ?_
      cases O
      exact Eg P trivial [0,0,0] [] 0
     refine Z0 ?_
     cases k
     exact Eg c trivial [0,0,0] [] 0
    rintro d
    refine Tb F (λl=> ?_) λl=> ?_
    ·refine Z0 ?_
     obtain ⟨X,hz,Q⟩:=fG l
     subst q
     have hb:=n _ rfl
     subst f
     obtain rfl:=(sm m).symm
     refine Z0 ?_
     cases Q
     exact Eo d [0,1] [] .nil
    refine Z0 ?_
    cases l
    exact Eg (_,d) (w _ rfl) [0,0,0] [] 1
   refine Z0 ?_
   cases g
   have hb:=n _ rfl
   subst f
   exact Egx (_,c) rfl [0,0,0] [0]
  rintro ⟨e,a⟩ hy
  subst hy
  refine E.off ?_
  cases m
  exact Eo a [0,1] [] .nil
theorem rG {s_:aI} {now:Int} {r:(List aV)×aI} (H:gm s_ now=some r):CT G 33 [.pointer (some ⟨N0,0,none⟩),.int .i64 now] [Ch.box N0 158 (gv s_ A0 C0 A1 C1 A2 C2 A3 C3 A4 C4 A5 C5 A6 C6),Ch.aro bE 103 A4 C4 s_.kept,Ch.arr Ty.bool 4 A6 C6 s_.message.there] [Im.sl aD A0 C0 s_.current.rows,Im.sl aC A1 C1 s_.current.begun,Im.sl aD A2 C2 s_.aM.rows,Im.sl aC A3 C3 s_.aM.begun,Im.sl Ty.str A5 C5 s_.message.parts,Im.sl (Ty.int .u32) (some ⟨0,0,none⟩) 16 cB] (λh:(Option Addr×Nat)×(Option Addr×Nat)×(Option Addr×Nat)×(Option Addr×Nat)=> .slice h.1.1 r.1.length h.1.2) (λh=>[Ch.arr fZ 52 h.1.1 h.1.2 r.1,Ch.box N0 158 (gv r.2 A0 C0 A1 C1 A2 C2 A3 C3 h.2.1.1 h.2.1.2 h.2.2.1.1 h.2.2.1.2 h.2.2.2.1 h.2.2.2.2),Ch.aro bE 103 h.2.1.1 h.2.1.2 r.2.kept,Ch.arr Ty.bool 4 h.2.2.2.1 h.2.2.2.2 r.2.message.there]) (λh=>[Im.sl aD A0 C0 r.2.current.rows,Im.sl aC A1 C1 r.2.current.begun,Im.sl aD A2 C2 r.2.aM.rows,Im.sl aC A3 C3 r.2.aM.begun,Im.sl Ty.str h.2.2.1.1 h.2.2.1.2 r.2.message.parts]):=by
 delta gm at H
 refine Cf Go.Proofs.Tryz.func33 λK=> ?_
 refine T.yc ?_
 refine Z1 ?_
 refine Lx λg1=> ?_
 refine Y2 ?_
 refine Td [] [0,0,0,0,0] mo ?_
 refine Db 0 0 ?_
 refine Dq 1 ?_
 refine Dq 2 ?_
 refine Dq 3 ?_
 refine Db 4 2 ?_
 refine Db 5 0 ?_
 refine Dq 6 ?_
 refine Dq 7 ?_
 refine Dq 8 ?_
 refine Db 9 2 ?_
 refine Dq 10 ?_
 refine Dn ?_
 refine Z0 ?_
 refine Tb H (λH3=> ?_) λH3=> ?_
 ·refine Z1 ?_
  refine Lt 2 ?_
  refine Z1 ?_
  refine E.gA fZ 52 ?_
  refine E.lk [Im.sl Ty.str none 0 []] (λA w _ _ f hf=>by rw [List.mem_singleton.1 hf]; exact Im.k9 A w) ?_
  refine E.gA Ty.bool 4 ?_
  cases H3
  exact E.u3 ((none,0),(A4,C4),(none,0),(none,0)) 4 [1,1,2,0] [1,2,3,4,0] rfl (.tmp rfl .nil) rfl rfl rfl
 refine Y2 ?_
 have ⟨v,z,B⟩:=bnd H3
 refine T.Af (η:=Unit×Unit) (λh=>True) (λh=>[]) (λh=>[(1,.int .i64 now),(2,.pointer (some ⟨g1,0,none⟩)),(54,.bool v)]) (λh=>[Ch.box g1 95 [.pointer (some ⟨N0,0,none⟩)],Ch.dfs [],Ch.box N0 158 (gv s_ A0 C0 A1 C1 A2 C2 A3 C3 A4 C4 A5 C5 A6 C6),Ch.aro bE 103 A4 C4 s_.kept,Ch.arr Ty.bool 4 A6 C6 s_.message.there]) (λh=>[Im.sl aD A0 C0 s_.current.rows,Im.sl aC A1 C1 s_.current.begun,Im.sl aD A2 C2 s_.aM.rows,Im.sl aC A3 C3 s_.aM.begun,Im.sl Ty.str A5 C5 s_.message.parts,Im.sl (Ty.int .u32) (some ⟨0,0,none⟩) 16 cB]) ?_ ?_
 ·refine Td [] [0,0,0,0,0] mo ?_
  refine Db 0 0 ?_
  refine Dq 1 ?_
  refine Dq 2 ?_
  refine Dq 3 ?_
  refine Db 4 2 ?_
  refine Dq 5 ?_
  refine Dq 6 ?_
  refine D.cs 29 z rfl (λhc n=> ?_) (λhc n=> ?_)
  ·refine Ds 7 ?_
   refine Ds 8 ?_
   refine Ds 9 ?_
   refine Ds 10 ?_
   refine Ds 11 ?_
   refine Ds 12 ?_
   refine Ds 13 ?_
   refine Ds 14 ?_
   refine Ds 15 ?_
   refine Ds 16 ?_
   refine Ds 17 ?_
   refine Dq 18 ?_
   refine Dq 19 ?_
   refine Ds 20 ?_
   refine Ds 21 ?_
   refine Ds 22 ?_
   refine Ds 23 ?_
   refine Ds 24 ?_
   refine Ds 25 ?_
   refine Ds 26 ?_
   refine Ds 27 ?_
   refine Ds 28 ?_
   refine Ds 29 ?_
   refine Ds 30 ?_
   refine Dq 31 ?_
   refine Dn ?_
   cases n
   exact E.qX ((),()) [0,0,0,0,0] [0,1,2,3,4,5] trivial rfl ⟨rfl,rfl,rfl,trivial⟩ rfl rfl
  refine Db 7 0 ?_
  refine Dq 8 ?_
  refine Dq 9 ?_
  refine Dq 10 ?_
  refine Db 11 2 ?_
  refine Db 12 0 ?_
  refine Dq 13 ?_
  refine Dq 14 ?_
  refine Dq 15 ?_
  refine Db 16 2 ?_
  refine Dq 17 ?_
  refine Dq 18 ?_
  refine Dq 19 ?_
  refine D.cs 42 n rfl (λhc o=> ?_) (λhc o=> ?_)
  ·refine Ds 20 ?_
   refine Ds 21 ?_
   refine Ds 22 ?_
   refine Ds 23 ?_
   refine Ds 24 ?_
   refine Ds 25 ?_
   refine Ds 26 ?_
   refine Ds 27 ?_
   refine Ds 28 ?_
   refine Ds 29 ?_
   refine Ds 30 ?_
   refine Dq 31 ?_
   refine Dn ?_
   cases o
   exact E.qX ((),()) [0,0,0,0,0] [0,1,2,3,4,5] trivial rfl ⟨rfl,rfl,rfl,trivial⟩ rfl rfl
  refine Db 20 0 ?_
  refine Dq 21 ?_
  refine Dq 22 ?_
  refine Dq 23 ?_
  refine Db 24 2 ?_
  refine Db 25 0 ?_
  refine Dq 26 ?_
  refine Dq 27 ?_
  refine Dq 28 ?_
  refine Db 29 2 ?_
  refine Dq 30 ?_
  refine Dq 31 ?_
  refine Dn ?_
  cases o
  exact E.qX ((),()) [0,0,0,0,0] [0,1,2,3,4,5] trivial rfl ⟨rfl,rfl,rfl,trivial⟩ rfl rfl
 rintro ⟨_,⟨⟩⟩ _
 have ⟨a,F,I⟩:=bnd B
 refine T.Af (η:=Unit×((Option Addr×Nat)×(Option Addr×Nat)×(Option Addr×Nat))) (λh=>True) (λh=>(λd e b c g i=>[]) h.2.1.1 h.2.1.2 h.2.2.1.1 h.2.2.1.2 h.2.2.2.1 h.2.2.2.2) (λh=>(λd e b c g i=>[(1,.int .i64 now),(2,.pointer (some ⟨g1,0,none⟩))]) h.2.1.1 h.2.1.2 h.2.2.1.1 h.2.2.1.2 h.2.2.2.1 h.2.2.2.2) (λh=>(λd e b c g i=>[Ch.aro bE 103 d e a.kept,Ch.arr Ty.bool 4 g i a.message.there,Ch.box g1 95 [.pointer (some ⟨N0,0,none⟩)],Ch.dfs [],Ch.box N0 158 (gv a A0 C0 A1 C1 A2 C2 A3 C3 d e b c g i)]) h.2.1.1 h.2.1.2 h.2.2.1.1 h.2.2.1.2 h.2.2.2.1 h.2.2.2.2) (λh=>(λd e b c g i=>[Im.sl aD A0 C0 a.current.rows,Im.sl aC A1 C1 a.current.begun,Im.sl aD A2 C2 a.aM.rows,Im.sl aC A3 C3 a.aM.begun,Im.sl Ty.str b c a.message.parts,Im.sl aD A0 C0 s_.current.rows,Im.sl aC A1 C1 s_.current.begun,Im.sl aD A2 C2 s_.aM.rows,Im.sl aC A3 C3 s_.aM.begun,Im.sl Ty.str A5 C5 s_.message.parts,Im.sl (Ty.int .u32) (some ⟨0,0,none⟩) 16 cB]) h.2.1.1 h.2.1.2 h.2.2.1.1 h.2.2.1.2 h.2.2.2.1 h.2.2.2.2) ?_ ?_
 ·refine Tb F (λp=> ?_) λp=> ?_
  ·refine Z0 ?_
   have ⟨af,J,M⟩:=bnd p
   refine Lk [2,2,2] [0,1,2,3,4,5] (qM J) λ⟨⟨N,O⟩,⟨P,Q⟩,⟨R,S⟩⟩=> ?_
   refine Z0 ?_
   cases M
   exact E.qX ((),((N,O),(P,Q),(R,S))) [1,1,1,1,0] [0,1,2,3,4,5,6,7,8,9,10] trivial rfl ⟨rfl,rfl,trivial⟩ rfl rfl
  refine Z0 ?_
  cases p
  exact E.qX ((),((A4,C4),(A5,C5),(A6,C6))) [3,3,0,0,0] [0,1,2,3,4,0,1,2,3,4,5] trivial rfl ⟨rfl,rfl,trivial⟩ rfl rfl
 rintro ⟨_,⟨⟨d,e⟩,⟨b,c⟩,⟨g,i⟩⟩⟩ _
 refine Z2 ?_
 refine Tb I (λq=> ?_) λq=> ?_
 ·refine Z1 ?_
  refine E.gA fZ 52 ?_
  cases q
  exact E.u3 ((none,0),(d,e),(b,c),(g,i)) 4 [0,3,0,0] [0,1,2,3,4] rfl (.tmp rfl .nil) rfl rfl rfl
 refine Y1 ?_
 refine Td [11] [0,0,0,0,0] mo ?_
 refine Db 0 2 ?_
 refine Dq 1 ?_
 refine Db 2 2 ?_
 refine Dq 3 ?_
 refine Dq 4 ?_
 refine Dq 5 ?_
 refine Db 6 4 ?_
 refine Dq 7 ?_
 refine Dq 8 ?_
 refine Dq 9 ?_
 refine Dq 10 ?_
 refine Dt 4 ?_
 refine Dn ?_
 refine Z1 ?_
 refine Ll λU=> ?_
 refine Z2 ?_
 refine Yl0 ?_
 refine T.gA fZ 52 ?_
 have ⟨V,W,Y⟩:=bnd q
 refine T.rf2 (σ:=(List aV)) (η:=(Option Addr×Nat)) (X:=Int×ByteArray) (θ:=Unit) (τ:=(Option Addr×Nat)) (s1:=V) (hx:=λx=>x) (λx t=>[.int .i64 x.1,.string x.2]) (λx t=>[]) (λ_=>none) (λj h=>(λl m=>[Ch.arr fZ 52 l m j,Ch.box U 106 [.slice l j.length m],Ch.box N0 158 [.int .i64 a.config.part,.int .i64 a.config.every,.int .i64 a.config.most,.int .i64 a.current.k,.int .i64 a.current.w,.int .i64 a.current.h,.int .i64 a.current.x,.int .i64 a.current.y,.string a.current.title,.slice A0 a.current.rows.length C0,.int .i64 a.current.len,.int .i64 a.current.chain,.slice A1 a.current.begun.length C1,.int .i64 a.aM.k,.int .i64 a.aM.w,.int .i64 a.aM.h,.int .i64 a.aM.x,.int .i64 a.aM.y,.string a.aM.title,.slice A2 a.aM.rows.length C2,.int .i64 a.aM.len,.int .i64 a.aM.chain,.slice A3 a.aM.begun.length C3,.slice d a.kept.length e,.int .i64 a.message.id,.int .i64 a.message.key,.int .i64 a.message.base,.slice b a.message.parts.length c,.slice g a.message.there.length i,.int .i64 (IntKind.i64.wrap (now+a.config.every)),.int .i64 a.next],Ch.box g1 95 [.pointer (some ⟨N0,0,none⟩)],Ch.aro bE 103 d e a.kept]) h.1 h.2) (λj h=>(λl m=>[Im.sl aD A0 C0 a.current.rows,Im.sl aC A1 C1 a.current.begun,Im.sl aD A2 C2 a.aM.rows,Im.sl aC A3 C3 a.aM.begun,Im.sl Ty.str b c a.message.parts,Im.sl aD A0 C0 s_.current.rows,Im.sl aC A1 C1 s_.current.begun,Im.sl aD A2 C2 s_.aM.rows,Im.sl aC A3 C3 s_.aM.begun,Im.sl Ty.str A5 C5 s_.message.parts,Im.sl (Ty.int .u32) (some ⟨0,0,none⟩) 16 cB]) h.1 h.2) 6 [0,0,0,2,0,0] [0,1,2,3,4,5,6,7,8,9,10] [4] rfl rfl (λ_ _=>rfl) rfl (λyl C hY=>(qt b c g i hY (none,0) W:_)) (λ_ _ _ _=>rfl) rfl rfl rfl rfl rfl ?_ rfl ?_
 ·rintro yl K2 j ⟨l,m⟩ s ⟨⟩ ag Z
  refine Z1 ?_
  refine E.begin λK3=> ?_
  refine Yl0 ?_
  refine Td [28] [1,1,1,1] mo ?_
  refine Db 0 0 ?_
  refine Db 1 2 ?_
  refine Dq 2 ?_
  refine Dq 3 ?_
  refine Dq 4 ?_
  refine Db 5 1 ?_
  refine Db 6 2 ?_
  refine Dq 7 ?_
  refine Dq 8 ?_
  refine Dq 9 ?_
  refine Db 10 1 ?_
  refine Db 11 2 ?_
  refine Dq 12 ?_
  refine Dq 13 ?_
  refine Dq 14 ?_
  refine Db 15 1 ?_
  refine Dq 16 ?_
  refine Db 17 2 ?_
  refine Dq 18 ?_
  refine Dq 19 ?_
  refine Dq 20 ?_
  refine Db 21 1 ?_
  refine Dq 22 ?_
  refine Dq 24 ?_
  refine Da [] [] rfl rfl (Ac.bs (ty:=(Ty.int .i64)) (xs:=[a.message.id,a.message.key,a.message.base,s.1,(a.message.parts.length:Int)]) (.cons () [] rfl (.cons () [] rfl (.cons () [] rfl (.cons () [] rfl (.cons () [] rfl .nil))))) rfl rfl rfl rfl rfl rfl rfl) λaa=> ?_
  refine Dq 25 ?_
  refine D.frz 0 rfl ?_
  refine Da [] [0] rfl rfl (Ac.bs (ty:=fZ) (xs:=[(aV.mk 1 1 [a.message.id,a.message.key,a.message.base,s.1,(a.message.parts.length:Int)] s.2)]) (.cons ((some ⟨aa,0,none⟩),5) [0] rfl .nil) rfl rfl rfl rfl rfl rfl rfl) λah=> ?_
  refine D.frz 0 rfl ?_
  have ⟨_,ab,ac⟩:=bnd Z
  refine Da [0] [0] rfl rfl (Ac.ap (ty:=fZ) ab rfl rfl rfl rfl rfl rfl rfl) ?_
  rintro ⟨ad,ae⟩
  refine Dt 0 ?_
  refine Dn ?_
  refine Z0 ?_
  cases ac
  exact E.on (ad,ae) [4,0,0,0,0] [2,3,4,5,6,7,8,9,10,11,12] rfl rfl rfl rfl
 rintro u ai
 refine Z1 ?_
 cases Y
 exact E.u3 ((u.1,u.2),(d,e),(b,c),(g,i)) 0 [0,1,2,2] [0,1,2,3,4] rfl (.tmp rfl .nil) rfl rfl rfl
theorem nw {n_:Int} {lo:Int} {hi:Int} {r:Bool} (H:jd n_ lo hi=some r):CT G 75 [.int .i64 n_,.int .i64 lo,.int .i64 hi] [] [] (λ_:Unit=> .bool r) (λh=>[]) (λh=>[]):=by
 delta jd at H
 refine Cf Go.Proofs.Tryz.func75 λK=> ?_
 refine Y2 ?_
 have ⟨e4,H5,H6⟩:=bnd H
 refine Tj0 [(6,.bool e4)] [] [] [] ?_ ?_
 ·refine Z0 ?_
  refine Lw 10 H5 (λH7=> ?_) λH7=> ?_
  ·refine Z0 ?_
   cases H7
   exact Eg0 [] 0
  refine Z0 ?_
  cases H7
  exact Eg0 [] 0
 refine Z0 ?_
 cases H6
 exact Eo1 () [] []
theorem uO {g:aV} {r:Bool} (H:jJ g=some r):CT G 83 [.agg (yn g A0 C0).toArray] [] [Im.sl (Ty.int .i64) A0 C0 g.aW] (λ_:Unit=> .bool r) (λh=>[]) (λh=>[]):=by
 delta jJ at H
 refine Cf Go.Proofs.Tryz.func83 λK=> ?_
 refine Z1 ?_
 refine Lx λg1=> ?_
 refine Y2 ?_
 have ⟨m,n,o⟩:=bnd H
 refine Tj0 [(20,.bool m)] [1] [] [0] ?_ ?_
 ·refine Z0 ?_
  have ⟨F,p,q⟩:=bnd n
  refine Lk [] [] (nw p) λ⟨⟩=> ?_
  refine Z0 ?_
  refine Lw 9 q (λa=> ?_) λa=> ?_
  ·refine Z0 ?_
   cases a
   exact Eg0 [0] 0
  refine Z0 ?_
  have ⟨I,s,t⟩:=bnd a
  refine Lk [] [] (nw s) λ⟨⟩=> ?_
  refine Z0 ?_
  refine Lw 15 t (λb=> ?_) λb=> ?_
  ·refine Z0 ?_
   cases b
   exact Eg0 [0] 0
  refine Z0 ?_
  cases b
  exact Eg0 [0] 0
 refine Tb o (λc=> ?_) λc=> ?_
 ·refine Z1 ?_
  cases c
  exact Eo1 () [] []
 refine Z2 ?_
 have ⟨d,u,j⟩:=bnd c
 refine Tj (η:=Unit×Unit) (λh=>d = .inl h.1) (λ_=>[]) [] (λ_=>[]) [0] (λ_=>[]) ?_ ?_
 ·refine Yl0 ?_
  refine Tq (η:=Unit) (λk h=>[(24,.int .i64 k)]) [22,23] (λ_ _=>[]) [0] (λ_ _=>[]) () [0] [] u ?_
  rintro k_ k ⟨⟩ v w x l
  refine Y2 ?_
  refine Tb w (λe=> ?_) λe=> ?_
  ·refine Z1 ?_
   refine Zl ?_
   refine Z1 ?_
   have ⟨J,f,y⟩:=bnd e
   refine L.addr 0 rfl (cQ f) λM N z=> ?_
   subst z
   refine Ly (Yl.ia f rfl rfl rfl rfl rfl rfl) ?_
   refine L.el 0 rfl (aY f).2 ?_
   rintro _
   refine Lc 0 0 ?_
   refine Z1 ?_
   have ⟨O,A,B⟩:=bnd y
   refine Lk [] [] (nw A) λ⟨⟩=> ?_
   refine Z0 ?_
   refine Tb B (λi=> ?_) λi=> ?_
   ·refine Z1 ?_
    obtain ⟨P,hz,C⟩:=fG i
    subst v
    have hb:=l _ rfl
    subst d
    obtain rfl:=(sm j).symm
    refine Z0 ?_
    cases C
    exact Eo1 () [] []
   refine Z0 ?_
   cases i
   exact Eg (_,()) (x _ rfl) [0] [] 1
  refine Z0 ?_
  cases e
  have hb:=l _ rfl
  subst d
  exact Eg (_,()) rfl [0] [] 0
 rintro ⟨Q,⟨⟩⟩ hy
 subst hy
 refine Z1 ?_
 cases j
 exact Eo1 () [] []
theorem x6 {x_:Int} {r:ByteArray} (H:m8 x_=some r):CT G 78 [.int .u32 x_] [] [] (λ_:Unit=> .string r) (λh=>[]) (λh=>[]):=by
 delta m8 at H
 refine Cf Go.Proofs.Tryz.func78 λK=> ?_
 refine Z2 ?_
 refine La [] [] (Ac.bs (ty:=(Ty.int .u8)) (xs:=[(IntKind.u8.wrap x_),(IntKind.u8.wrap (x_.fdiv (2 ^ (min 8 32)))),(IntKind.u8.wrap (x_.fdiv (2 ^ (min 16 32)))),(IntKind.u8.wrap (x_.fdiv (2 ^ (min 24 32))))]) (.cons () [] rfl (.cons () [] rfl (.cons () [] rfl (.cons () [] rfl .nil)))) rfl rfl rfl rfl rfl rfl rfl) λg1=> ?_
 refine Ly (Yl.bs 0 rfl rfl rfl rfl rfl rfl rfl rfl rfl) ?_
 refine Z0 ?_
 cases H
 exact Eo1 () [] []
theorem CS {s_:ByteArray} {r:ByteArray} (H:m9 s_=some r):CT G 105 [.string s_] [] [Im.sl (Ty.int .u32) (some ⟨0,0,none⟩) 16 cB] (λ_:Unit=> .string r) (λh=>[]) (λh=>[]):=by
 delta m9 at H
 refine Cf Go.Proofs.Tryz.func105 λK=> ?_
 refine Z2 ?_
 refine La [] [] (Ac.bs (ty:=Ty.str) (xs:=[s_]) (.cons () [] rfl .nil) rfl rfl rfl rfl rfl rfl rfl) λg1=> ?_
 have ⟨r3,h4,H5⟩:=bnd H
 refine L.br (Ac.call (uN h4) rfl rfl rfl rfl) (Bw.ch 0 rfl (Bw.im 0 rfl (Bw.nil))) rfl rfl rfl ?_
 intro _
 have ⟨r6,h7,H8⟩:=bnd H5
 refine Lk [] [] (x6 h7) λ⟨⟩=> ?_
 have ⟨_,h9,a⟩:=bnd H8
 refine Ly (Yl.sa h9 rfl rfl rfl) ?_
 refine Z0 ?_
 cases a
 exact Eo1 () [] []
theorem o4 {g:aV} {r:ByteArray} (H:iH g=some r):CT G 57 [.agg (yn g A0 C0).toArray] [] [Im.sl (Ty.int .i64) A0 C0 g.aW,Im.sl (Ty.int .u32) (some ⟨0,0,none⟩) 16 cB] (λ_:Unit=> .string r) (λh=>[]) (λh=>[]):=by
 delta iH at H
 refine Cf Go.Proofs.Tryz.func57 λK=> ?_
 refine Z1 ?_
 refine Lx λg1=> ?_
 refine Z1 ?_
 refine Ll λg2=> ?_
 refine Y1 ?_
 refine Td [] [1] mo ?_
 refine Dq 0 ?_
 refine Db 1 0 ?_
 refine Dq 2 ?_
 refine Db 3 0 ?_
 refine Dq 4 ?_
 refine Db 5 0 ?_
 refine Dq 6 ?_
 refine Dq 9 ?_
 refine Db 10 0 ?_
 refine Dq 12 ?_
 refine Db 13 0 ?_
 refine DF.of rfl ?_
 refine DF.add _ (FSp.ac 7 [] (Ac.frz (Ac.bs (ty:=(Ty.int .i64)) (xs:=[g.bH,g.kind,(g.aW.length:Int)]) (.cons () [] rfl (.cons () [] rfl (.cons () [] rfl .nil))) rfl rfl rfl rfl rfl rfl rfl)) rfl rfl rfl rfl rfl) rfl ?_
 refine DF.add _ (FSp.ac 14 [] (Ac.frz (Ac.bs (ty:=Ty.str) (xs:=[g.data]) (.cons () [] rfl .nil) rfl rfl rfl rfl rfl rfl rfl)) rfl rfl rfl rfl rfl) rfl ?_
 refine DF.step 8 rfl rfl rfl rfl rfl ?_
 refine DFp.use 1 rfl rfl rfl ?_
 intro n
 refine DFp.gA (Ty.int .u8) 5 ?_
 have ⟨o,b,c⟩:=bnd H
 refine DFp.a [1,0] [0] (Ac.call (eV b) rfl rfl rfl rfl) rfl rfl rfl rfl rfl rfl rfl rfl ?_
 rintro ⟨p,s⟩
 refine DF.step 11 rfl rfl rfl rfl rfl ?_
 have ⟨t,d,e⟩:=bnd c
 refine DFp.a [0,0] [1] (Ac.call (eV d) rfl rfl rfl rfl) rfl rfl rfl rfl rfl rfl rfl rfl ?_
 rintro ⟨u,v⟩
 refine DF.step 15 rfl rfl rfl rfl rfl ?_
 refine DFp.use 0 rfl rfl rfl ?_
 intro w
 have ⟨x,f,i⟩:=bnd e
 refine DFp.a [0,0] [0] (Ac.call (oI f) rfl rfl rfl rfl) rfl rfl rfl rfl rfl rfl rfl rfl ?_
 rintro ⟨y,z⟩
 refine DF.step 16 rfl rfl rfl rfl rfl ?_
 have ⟨A,j,k⟩:=bnd i
 refine DFp.a [0,0] [] (Ac.call (kX j) rfl rfl rfl rfl) rfl rfl rfl rfl rfl rfl rfl rfl ?_
 rintro ⟨⟩
 refine DF.step 17 rfl rfl rfl rfl rfl ?_
 have ⟨B,l,m⟩:=bnd k
 refine DFp.a [] [3] (Ac.call (CS l) rfl rfl rfl rfl) rfl rfl rfl rfl rfl rfl rfl rfl ?_
 rintro ⟨⟩
 refine DF.step 18 rfl rfl rfl rfl rfl ?_
 refine DFp.a0 [] [] (Ac.q rfl) rfl rfl rfl rfl rfl rfl ?_
 intro _
 refine DF.fin rfl rfl rfl rfl rfl ?_
 refine DFe.nil ?_
 refine Z0 ?_
 cases m
 exact Eo1 () [] []
theorem o6 {g:aV} {r:Int} (H:iI g=some r):CT G 44 [.agg (yn g A0 C0).toArray] [] [Im.sl (Ty.int .i64) A0 C0 g.aW,Im.sl (Ty.int .u32) (some ⟨0,0,none⟩) 16 cB] (λ_:Unit=> .int .i64 r) (λh=>[]) (λh=>[]):=by
 delta iI at H
 refine Cf Go.Proofs.Tryz.func44 λK=> ?_
 refine Z1 ?_
 refine Lx λg1=> ?_
 refine Z1 ?_
 refine Zl ?_
 refine Z1 ?_
 have ⟨i,c,d⟩:=bnd H
 refine Lk [] [0] (uO c) λ⟨⟩=> ?_
 refine Z0 ?_
 refine Tb d (λa=> ?_) λa=> ?_
 ·refine Z1 ?_
  cases a
  exact Eo1 () [] []
 refine Z1 ?_
 have ⟨j,e,f⟩:=bnd a
 refine Lk [] [0,1] (o4 e) λ⟨⟩=> ?_
 refine Z0 ?_
 refine Tb f (λb=> ?_) λb=> ?_
 ·refine Z1 ?_
  cases b
  exact Eo1 () [] []
 refine Z1 ?_
 cases b
 exact Eo1 () [] []
theorem ni {g:aV} {r:ByteArray} (H:ga g=some r):CT G 23 [.agg (yn g A0 C0).toArray] [] [Im.sl (Ty.int .i64) A0 C0 g.aW,Im.sl (Ty.int .u32) (some ⟨0,0,none⟩) 16 cB] (λ_:Unit=> .string r) (λh=>[]) (λh=>[]):=by
 delta ga at H
 refine Cf Go.Proofs.Tryz.func23 λK=> ?_
 refine Z1 ?_
 refine Lx λg1=> ?_
 refine Z2 ?_
 have ⟨r2,h3,H4⟩:=bnd H
 refine Lk [] [0,1] (o6 h3) λ⟨⟩=> ?_
 refine Z0 ?_
 refine Tb H4 (λH6=> ?_) λH6=> ?_
 ·refine Z1 ?_
  cases H6
  exact Eo1 () [] []
 refine Z1 ?_
 have ⟨r7,h8,H9⟩:=bnd H6
 refine Lk [] [0,1] (o4 h8) λ⟨⟩=> ?_
 refine Z0 ?_
 cases H9
 exact Eo1 () [] []
theorem lS {s_:bD} {to:Int} {l:List aV} {r:(List fH)} (H:eX s_ to l=some r):CT G 32 [.pointer (some ⟨N0,0,none⟩),.int .i64 to,.slice A13 l.length C13] [Ch.box N0 98 (pd s_ N1 N6),Ch.box N1 120 (iE s_.model N2 N3 N4),Ch.box N2 178 [.slice A0 s_.model.book.l.length C0,.slice A1 s_.model.book.bA.length C1,.slice A2 s_.model.book.begun.length C2],Ch.arr (Ty.slice aC) 101 A0 C0 s_.model.book.l,Ch.arr (Ty.int .i64) 3 A1 C1 s_.model.book.bA,Ch.arr aC 181 A2 C2 s_.model.book.begun,Ch.box N3 151 (eF s_.model.parser A3 C3),Ch.opt (s_.model.parser.state == (3:Int)) (Ty.int .i64) 3 A3 C3 s_.model.parser.order.aW,Ch.box N4 224 (bY s_.model.aN N5),Ch.box N5 296 [.int .i64 s_.model.aN.g.w,.slice A5 s_.model.aN.g.l.length C5],Ch.arr aD 232 A5 C5 s_.model.aN.g.l,Ch.box N6 158 (gv s_.aP A6 C6 A7 C7 A8 C8 A9 C9 A10 C10 A11 C11 A12 C12),Ch.aro bE 103 A10 C10 s_.aP.kept,Ch.arr Ty.bool 4 A12 C12 s_.aP.message.there] [Im.sl aD A6 C6 s_.aP.current.rows,Im.sl aC A7 C7 s_.aP.current.begun,Im.sl aD A8 C8 s_.aP.aM.rows,Im.sl aC A9 C9 s_.aP.aM.begun,Im.sl Ty.str A11 C11 s_.aP.message.parts,Im.sl fZ A13 C13 l,Im.sl (Ty.int .u32) (some ⟨0,0,none⟩) 16 cB] (λh:(Option Addr×Nat)=> .slice h.1 r.length h.2) (λh=>[Ch.arr gQ 49 h.1 h.2 r,Ch.box N0 98 (pd s_ N1 N6),Ch.box N1 120 (iE s_.model N2 N3 N4),Ch.box N2 178 [.slice A0 s_.model.book.l.length C0,.slice A1 s_.model.book.bA.length C1,.slice A2 s_.model.book.begun.length C2],Ch.arr (Ty.slice aC) 101 A0 C0 s_.model.book.l,Ch.arr (Ty.int .i64) 3 A1 C1 s_.model.book.bA,Ch.arr aC 181 A2 C2 s_.model.book.begun,Ch.box N3 151 (eF s_.model.parser A3 C3),Ch.opt (s_.model.parser.state == (3:Int)) (Ty.int .i64) 3 A3 C3 s_.model.parser.order.aW,Ch.box N4 224 (bY s_.model.aN N5),Ch.box N5 296 [.int .i64 s_.model.aN.g.w,.slice A5 s_.model.aN.g.l.length C5],Ch.arr aD 232 A5 C5 s_.model.aN.g.l,Ch.box N6 158 (gv s_.aP A6 C6 A7 C7 A8 C8 A9 C9 A10 C10 A11 C11 A12 C12),Ch.aro bE 103 A10 C10 s_.aP.kept,Ch.arr Ty.bool 4 A12 C12 s_.aP.message.there]) (λh=>[]):=by
 delta eX at H
 refine Cf Go.Proofs.Tryz.func32 λK=> ?_
 refine Z3 ?_
 refine Z1 ?_
 have ⟨f,k,m⟩:=bnd H
 refine Tjh (η:=(Option Addr×Nat)) (λh=>(λa b=>[(7,.slice a f.length b)]) h.1 h.2) [] (λh=>(λa b=>[Ch.arr gQ 49 a b f]) h.1 h.2) [0,1,2,6,8,9,11,3,4,5,7,10,12,13] (λ_=>[]) ?_ ?_
 ·refine Yl0 ?_
  refine T.gA gQ 49 ?_
  refine Tq (η:=(Option Addr×Nat)) (λc h=>(λd e=>[(7,.slice d c.2.length e),(12,.int .i64 c.1)]) h.1 h.2) [0,1,10,11] (λc h=>(λd e=>[Ch.arr gQ 49 d e c.2]) h.1 h.2) [1,2,3,7,9,10,12,4,5,6,8,11,13,14] (λ_ _=>[]) (none,0) [0,0,0,0,3,4,4,5,0,0,0,0,0,0,0] [] k ?_
  rintro k_ c ⟨d,e⟩ B n o p
  refine Y2 ?_
  refine Tb n (λi=> ?_) λi=> ?_
  ·refine Z1 ?_
   refine Zl ?_
   refine Z1 ?_
   have ⟨C,j,q⟩:=bnd i
   refine L.addr 5 rfl (cQ j) λF I s=> ?_
   subst s
   refine Ly (Yl.ia j rfl rfl rfl rfl rfl rfl) ?_
   refine L.el 5 rfl (aY j).2 ?_
   rintro ⟨J,M⟩
   refine Lc 0 0 ?_
   refine Ll λN=> ?_
   refine Lt 0 ?_
   refine Z1 ?_
   refine Lt 0 ?_
   refine Z0 ?_
   have ⟨t,u,v⟩:=bnd q
   refine Lk [] [1,8] (ni u) λ⟨⟩=> ?_
   refine Z0 ?_
   refine La [] [] (Ac.bs (ty:=gQ) (xs:=[(fH.mk to t)]) (.cons () [] rfl .nil) rfl rfl rfl rfl rfl rfl rfl) λO=> ?_
   refine L.frz 0 rfl ?_
   have ⟨_,x,y⟩:=bnd v
   refine La [1] [0] (Ac.ap (ty:=gQ) x rfl rfl rfl rfl rfl rfl rfl) ?_
   rintro ⟨z,A⟩
   refine Z0 ?_
   cases y
   exact Eg (_,(z,A)) (o _ rfl) [0,1,1,1,1,1,1,1,1,1,1,1,1,1,1] [] 3
  refine Z0 ?_
  cases i
  have hb:=p _ rfl
  subst f
  exact Eg (d,e) trivial [0,0,0,0,0,0,0,0,0,0,0,0,0,0,0] [] 0
 rintro ⟨a,b⟩
 refine Z1 ?_
 cases m
 exact Eo1 (a,b) [0,0,0,0,4,4,4,0,3,0,0,1,0,0,0] []
theorem nL {s_:bD} {now:Int} {r:(List fH)×bD} (H:dY s_ now=some r):CT G 12 [.pointer (some ⟨N0,0,none⟩),.int .i64 now] [Ch.box N0 98 (pd s_ N1 N6),Ch.box N1 120 (iE s_.model N2 N3 N4),Ch.box N2 178 [.slice A0 s_.model.book.l.length C0,.slice A1 s_.model.book.bA.length C1,.slice A2 s_.model.book.begun.length C2],Ch.arr (Ty.slice aC) 101 A0 C0 s_.model.book.l,Ch.arr (Ty.int .i64) 3 A1 C1 s_.model.book.bA,Ch.arr aC 181 A2 C2 s_.model.book.begun,Ch.box N3 151 (eF s_.model.parser A3 C3),Ch.opt (s_.model.parser.state == (3:Int)) (Ty.int .i64) 3 A3 C3 s_.model.parser.order.aW,Ch.box N4 224 (bY s_.model.aN N5),Ch.box N5 296 [.int .i64 s_.model.aN.g.w,.slice A5 s_.model.aN.g.l.length C5],Ch.arr aD 232 A5 C5 s_.model.aN.g.l,Ch.box N6 158 (gv s_.aP A6 C6 A7 C7 A8 C8 A9 C9 A10 C10 A11 C11 A12 C12),Ch.aro bE 103 A10 C10 s_.aP.kept,Ch.arr Ty.bool 4 A12 C12 s_.aP.message.there] [Im.sl aD A6 C6 s_.aP.current.rows,Im.sl aC A7 C7 s_.aP.current.begun,Im.sl aD A8 C8 s_.aP.aM.rows,Im.sl aC A9 C9 s_.aP.aM.begun,Im.sl Ty.str A11 C11 s_.aP.message.parts,Im.sl (Ty.int .u32) (some ⟨0,0,none⟩) 16 cB] (λh:(Option Addr×Nat)×(Option Addr×Nat)×(Option Addr×Nat)×(Option Addr×Nat)×(Option Addr×Nat)=> .slice h.1.1 r.1.length h.1.2) (λh=>[Ch.arr gQ 49 h.1.1 h.1.2 r.1,Ch.box N0 98 (pd r.2 N1 N6),Ch.box N1 120 (iE r.2.model N2 N3 N4),Ch.box N2 178 [.slice A0 r.2.model.book.l.length C0,.slice A1 r.2.model.book.bA.length C1,.slice A2 r.2.model.book.begun.length C2],Ch.arr (Ty.slice aC) 101 A0 C0 r.2.model.book.l,Ch.arr (Ty.int .i64) 3 A1 C1 r.2.model.book.bA,Ch.arr aC 181 A2 C2 r.2.model.book.begun,Ch.box N3 151 (eF r.2.model.parser A3 C3),Ch.opt (r.2.model.parser.state == (3:Int)) (Ty.int .i64) 3 A3 C3 r.2.model.parser.order.aW,Ch.box N4 224 (bY r.2.model.aN N5),Ch.box N5 296 [.int .i64 r.2.model.aN.g.w,.slice A5 r.2.model.aN.g.l.length C5],Ch.arr aD 232 A5 C5 r.2.model.aN.g.l,Ch.box N6 158 (gv r.2.aP A6 C6 A7 C7 A8 C8 A9 C9 h.2.2.1.1 h.2.2.1.2 h.2.2.2.1.1 h.2.2.2.1.2 h.2.2.2.2.1 h.2.2.2.2.2),Ch.aro bE 103 h.2.2.1.1 h.2.2.1.2 r.2.aP.kept,Ch.arr Ty.bool 4 h.2.2.2.2.1 h.2.2.2.2.2 r.2.aP.message.there]) (λh=>[Im.sl aD A6 C6 r.2.aP.current.rows,Im.sl aC A7 C7 r.2.aP.current.begun,Im.sl aD A8 C8 r.2.aP.aM.rows,Im.sl aC A9 C9 r.2.aP.aM.begun,Im.sl Ty.str h.2.2.2.1.1 h.2.2.2.1.2 r.2.aP.message.parts]):=by
 delta dY at H
 refine Cf Go.Proofs.Tryz.func12 λK=> ?_
 refine Y2 ?_
 refine Td [] [0,0,0,0,0,0,0,0,0,0,0] mo ?_
 refine Dq 0 ?_
 refine Dq 1 ?_
 refine Dq 2 ?_
 refine Dq 3 ?_
 refine Db 4 0 ?_
 refine Dq 5 ?_
 refine Dq 6 ?_
 refine Dq 7 ?_
 refine Db 8 0 ?_
 refine Dq 9 ?_
 have ⟨p,a,b⟩:=bnd H
 refine Dk [0,0,0] [0,1,2,3,4,5] (rG a) λ⟨⟨q,s⟩,⟨c,d⟩,⟨e,f⟩,⟨i,j⟩⟩=> ?_
 refine D.frz 0 rfl ?_
 have ⟨t,k,m⟩:=bnd b
 refine D.one rfl rfl rfl (Dp.ab [0,0,0,0,0,0,0,0,0,0,0,0,0,0] [1,2,3,4,5,0,11] [1,1,1,1,1,1,1,1,1,1,1] (Ac.call (lS k) rfl rfl rfl rfl) rfl rfl rfl rfl rfl rfl (λ_=>rfl) ?_)
 rintro ⟨n,o⟩
 refine Dq 12 ?_
 refine Dn ?_
 refine Z0 ?_
 cases m
 exact Eo1 ((n,o),(none,0),(c,d),(e,f),(i,j)) [11,0,0,0,0,0,0,0,0,0,0,0,0,0,0] [1,2,3,4,5]
theorem CU {s_:ByteArray} {r:ByteArray×Bool} (H:oo s_=some r):CT G 40 [.string s_] [] [Im.sl (Ty.int .u32) (some ⟨0,0,none⟩) 16 cB] (λ_:Unit=> .tuple #[.string r.1,.bool r.2]) (λh=>[]) (λh=>[]):=by
 delta oo at H
 refine Cf Go.Proofs.Tryz.func40 λK=> ?_
 refine Z3 ?_
 refine Y1 ?_
 have ⟨c,d,e⟩:=bnd H
 refine Tj0 [(21,.bool c)] [0,4] [] [] ?_ ?_
 ·refine Td [] [] mo ?_
  refine Dq 0 ?_
  refine Dq 1 ?_
  refine Dq 2 ?_
  refine D.cs 10 d rfl (λhc a=> ?_) (λhc a=> ?_)
  ·refine Ds 3 ?_
   refine Ds 4 ?_
   refine Ds 5 ?_
   refine Ds 6 ?_
   refine Ds 7 ?_
   refine Ds 8 ?_
   refine Ds 9 ?_
   refine Ds 10 ?_
   refine Ds 11 ?_
   refine Ds 12 ?_
   refine Dq 13 ?_
   refine Dn ?_
   cases a
   exact Eg0 [] 0
  refine Dq 3 ?_
  refine Dq 4 ?_
  have ⟨_,f,g⟩:=bnd a
  refine Dy 5 (Yl.sc f rfl rfl rfl rfl rfl rfl) ?_
  refine Dq 6 ?_
  refine Dq 7 ?_
  have ⟨_,i,j⟩:=bnd g
  refine Dy 8 (Yl.sc i rfl rfl rfl rfl rfl rfl) ?_
  refine Da [] [] rfl rfl (Ac.bs (ty:=Ty.str) (xs:=[(gB s_ 0 (IntKind.i64.wrap ((s_.size:Int) - 4)))]) (.cons () [] rfl .nil) rfl rfl rfl rfl rfl rfl rfl) λq=> ?_
  have ⟨s,k,l⟩:=bnd j
  refine D.one rfl rfl rfl (Dp.br (Ac.call (uN k) rfl rfl rfl rfl) (Bw.ch 0 rfl (Bw.im 0 rfl (Bw.nil))) rfl rfl rfl rfl ?_)
  intro _
  have ⟨t,m,n⟩:=bnd l
  refine Dk [] [] (x6 m) λ⟨⟩=> ?_
  refine Dq 12 ?_
  refine Dq 13 ?_
  refine Dn ?_
  cases n
  exact Eg0 [] 0
 refine Tb e (λb=> ?_) λb=> ?_
 ·refine Z1 ?_
  cases b
  exact Eo () [] [] (.tmp rfl (.tmp rfl .nil))
 refine Z1 ?_
 have ⟨_,o,p⟩:=bnd b
 refine Ly (Yl.sc o rfl rfl rfl rfl rfl rfl) ?_
 refine Z0 ?_
 cases p
 exact Eo () [] [] (.tmp rfl (.tmp rfl .nil))
theorem Iz {s_:ByteArray} {r:cI} (H:tV s_=some r):CT G 41 [.string s_] [] [] (λh:Nat=> .pointer (some ⟨h,0,none⟩)) (λh=>[Ch.box h 186 [.string r.s,.int .i64 r.e]]) (λh=>[]):=by
 delta tV at H
 refine Cf Go.Proofs.Tryz.func41 λK=> ?_
 refine Z2 ?_
 refine Lx λg1=> ?_
 refine Z0 ?_
 cases H
 exact Eo1 g1 [0] []
theorem l7 {in_:cI} {e:Int} {r:cI} (H:dR in_ e=some r):CT G 81 [.pointer (some ⟨N0,0,none⟩),.int .i64 e] [Ch.box N0 186 [.string in_.s,.int .i64 in_.e]] [] (λ_:Unit=> .tuple #[]) (λh=>[Ch.box N0 186 [.string r.s,.int .i64 r.e]]) (λh=>[]):=by
 delta dR at H
 refine Cf Go.Proofs.Tryz.func81 λK=> ?_
 refine Y1 ?_
 have ⟨e4,H5,H6⟩:=bnd H
 refine Tj0 [(12,.bool e4)] [0,1] [] [0] ?_ ?_
 ·refine Z0 ?_
  refine Lw 9 H5 (λH7=> ?_) λH7=> ?_
  ·refine Z0 ?_
   cases H7
   exact Eg0 [0] 0
  refine Z0 ?_
  cases H7
  exact Eg0 [0] 0
 refine Tb H6 (λH8=> ?_) λH8=> ?_
 ·refine Z0 ?_
  refine Lt 0 ?_
  refine Z0 ?_
  refine Lt 0 ?_
  refine Ln (E.off ?_)
  cases H8
  exact Eo () [0] [] .nil
 refine Tk (E.off ?_)
 cases H8
 exact Eo () [0] [] .nil
theorem mY {in_:cI} {r:Int×cI} (H:gG in_=some r):CT G 80 [.pointer (some ⟨N0,0,none⟩)] [Ch.box N0 186 [.string in_.s,.int .i64 in_.e]] [] (λ_:Unit=> .int .i64 r.1) (λh=>[Ch.box N0 186 [.string r.2.s,.int .i64 r.2.e]]) (λh=>[]):=by
 delta gG at H
 refine Cf Go.Proofs.Tryz.func80 λK=> ?_
 refine Z3 ?_
 refine Z1 ?_
 have ⟨a,o,b⟩:=bnd H
 refine Tj (η:=Unit×Unit) (λh=>a = .inl h.1) (λ_=>[]) [0] (λ_=>[]) [0] (λ_=>[]) ?_ ?_
 ·refine Yl0 ?_
  refine Tq (η:=Unit) (λc h=>[(3,.int .i64 c.2),(12,.int .i64 c.1)]) [0,11] (λ_ _=>[]) [0] (λ_ _=>[]) () [0] [] o ?_
  rintro k_ c ⟨⟩ m p q d
  refine Y2 ?_
  refine Tb p (λf=> ?_) λf=> ?_
  ·refine Z1 ?_
   refine Zl ?_
   refine Z2 ?_
   have ⟨S,t,u⟩:=bnd f
   refine Ly (Yl.si t rfl rfl rfl rfl rfl) ?_
   refine Z1 ?_
   have ⟨_,v,w⟩:=bnd u
   refine Ly (Yl.shl (nb:=64) rfl v rfl rfl rfl) ?_
   refine Z2 ?_
   refine Tb w (λg=> ?_) λg=> ?_
   ·refine Z0 ?_
    cases g
    exact Eg (_,()) (q _ rfl) [0] [] 0
   refine Y2 ?_
   have ⟨x,y,z⟩:=bnd g
   refine Tj0 [(40,.bool x)] [0,3,4] [] [0] ?_ ?_
   ·refine Z0 ?_
    refine Lw 33 y (λi=> ?_) λi=> ?_
    ·refine Z0 ?_
     refine Lw 37 i (λj=> ?_) λj=> ?_
     ·refine Z0 ?_
      cases j
      exact Eg0 [0] 0
     refine Z0 ?_
     cases j
     exact Eg0 [0] 0
    refine Z0 ?_
    cases i
    exact Eg0 [0] 0
   refine Tb z (λk=> ?_) λk=> ?_
   ·refine Z1 ?_
    have ⟨U,A,B⟩:=bnd k
    refine Lk [0] [] (l7 A) λ⟨⟩=> ?_
    refine Z1 ?_
    obtain ⟨V,hz,C⟩:=fG B
    subst m
    have hb:=d _ rfl
    subst a
    obtain rfl:=(sm b).symm
    refine Z0 ?_
    cases C
    exact Eo1 () [0] []
   refine Z1 ?_
   have ⟨_,F,I⟩:=bnd k
   refine Ly (Yl.sc F rfl rfl rfl rfl rfl rfl) ?_
   refine Z0 ?_
   refine Lt 0 ?_
   refine Z1 ?_
   obtain ⟨W,hz,J⟩:=fG I
   subst m
   have hb:=d _ rfl
   subst a
   obtain rfl:=(sm b).symm
   refine Z0 ?_
   cases J
   exact Eo1 () [0] []
  refine Z0 ?_
  cases f
  have hb:=d _ rfl
  subst a
  exact Eg (_,()) rfl [0] [] 0
 rintro ⟨X,⟨⟩⟩ hy
 subst hy
 refine Z2 ?_
 have ⟨n,M,N⟩:=bnd b
 refine Tj0 [] [0] [Ch.box N0 186 [.string n.s,.int .i64 n.e]] [] ?_ ?_
 ·refine Tb M (λl=> ?_) λl=> ?_
  ·refine Z0 ?_
   have ⟨Y,O,P⟩:=bnd l
   refine Lk [0] [] (l7 O) λ⟨⟩=> ?_
   refine Z0 ?_
   cases P
   exact Eg0 [0] 0
  refine Z0 ?_
  cases l
  exact Eg0 [0] 0
 refine Z1 ?_
 have ⟨Z,Q,R⟩:=bnd N
 refine Lk [0] [] (l7 Q) λ⟨⟩=> ?_
 refine Z1 ?_
 cases R
 exact Eo1 () [0] []
theorem zW {in_:cI} {n_:Int} {r:ByteArray×cI} (H:mF in_ n_=some r):CT G 143 [.pointer (some ⟨N0,0,none⟩),.int .i64 n_] [Ch.box N0 186 [.string in_.s,.int .i64 in_.e]] [] (λ_:Unit=> .string r.1) (λh=>[Ch.box N0 186 [.string r.2.s,.int .i64 r.2.e]]) (λh=>[]):=by
 delta mF at H
 refine Cf Go.Proofs.Tryz.func143 λK=> ?_
 refine Z3 ?_
 refine Z1 ?_
 refine Tb H (λH5=> ?_) λH5=> ?_
 ·refine Z1 ?_
  have ⟨r6,h7,H8⟩:=bnd H5
  refine Lk [0] [] (l7 h7) λ⟨⟩=> ?_
  refine Z1 ?_
  cases H8
  exact Eo1 () [0] []
 refine Z1 ?_
 have ⟨_,h9,a⟩:=bnd H5
 refine Ly (Yl.sc h9 rfl rfl rfl rfl rfl rfl) ?_
 refine Z1 ?_
 have ⟨_,b,c⟩:=bnd a
 refine Ly (Yl.sc b rfl rfl rfl rfl rfl rfl) ?_
 refine Z0 ?_
 refine Lt 0 ?_
 refine Z1 ?_
 cases c
 exact Eo1 () [0] []
theorem yu {in_:cI} {r:ByteArray×cI} (H:lV in_=some r):CT G 82 [.pointer (some ⟨N0,0,none⟩)] [Ch.box N0 186 [.string in_.s,.int .i64 in_.e]] [] (λ_:Unit=> .string r.1) (λh=>[Ch.box N0 186 [.string r.2.s,.int .i64 r.2.e]]) (λh=>[]):=by
 delta lV at H
 refine Cf Go.Proofs.Tryz.func82 λK=> ?_
 refine Z2 ?_
 have ⟨r1,h2,H3⟩:=bnd H
 refine Lk [0] [] (mY h2) λ⟨⟩=> ?_
 have ⟨r4,h5,H6⟩:=bnd H3
 refine Lk [0] [] (zW h5) λ⟨⟩=> ?_
 refine Z0 ?_
 cases H6
 exact Eo1 () [0] []
theorem By {in_:cI} {r:aV×cI} (H:nA in_=some r):CT G 42 [.pointer (some ⟨N0,0,none⟩)] [Ch.box N0 186 [.string in_.s,.int .i64 in_.e]] [] (λh:(Option Addr×Nat)=> .agg (yn r.1 h.1 h.2).toArray) (λh=>[Ch.box N0 186 [.string r.2.s,.int .i64 r.2.e]]) (λh=>[Im.sl (Ty.int .i64) h.1 h.2 r.1.aW]):=by
 delta nA at H
 refine Cf Go.Proofs.Tryz.func42 λK=> ?_
 refine Z1 ?_
 refine Ll λg1=> ?_
 refine Z1 ?_
 have ⟨r2,h3,H4⟩:=bnd H
 refine Lk [1] [] (mY h3) λ⟨⟩=> ?_
 refine Z0 ?_
 have ⟨r5,h6,H7⟩:=bnd H4
 refine Lk [0] [] (mY h6) λ⟨⟩=> ?_
 refine Z0 ?_
 refine Ll λg8=> ?_
 refine Lt 0 ?_
 refine Z1 ?_
 have ⟨r9,l,m⟩:=bnd H7
 refine Lk [1] [] (mY l) λ⟨⟩=> ?_
 refine Z2 ?_
 have ⟨k,n,o⟩:=bnd m
 refine Tj0 [] [0,2,3,4] [Ch.box N0 186 [.string k.s,.int .i64 k.e]] [1,2] ?_ ?_
 ·refine Tb n (λi=> ?_) λi=> ?_
  ·refine Z0 ?_
   have ⟨N,p,q⟩:=bnd i
   refine Lk [0] [] (l7 p) λ⟨⟩=> ?_
   refine Z0 ?_
   cases q
   exact Eg0 [0,0,0] 0
  refine Z0 ?_
  cases i
  exact Eg0 [0,0,0] 0
 refine Z2 ?_
 have ⟨b,t,u⟩:=bnd o
 refine Tjh (η:=(Option Addr×Nat)) (λ_=>[]) [0,2,3] (λh=>(λf g=>[Ch.arr (Ty.int .i64) 3 f g b.2.aW,Ch.box N0 186 [.string b.1.s,.int .i64 b.1.e],Ch.box g8 52 (yn b.2 f g)]) h.1 h.2) [2] (λ_=>[]) ?_ ?_
 ·refine Yl0 ?_
  refine T.gA (Ty.int .i64) 3 ?_
  refine Tq (η:=(Option Addr×Nat)) (λa h=>(λc d=>[(18,.int .i64 a.2.2)]) h.1 h.2) [0,2,3,17] (λa h=>(λc d=>[Ch.arr (Ty.int .i64) 3 c d a.1.aW,Ch.box N0 186 [.string a.2.1.s,.int .i64 a.2.1.e],Ch.box g8 52 (yn a.1 c d)]) h.1 h.2) [3] (λ_ _=>[]) (none,0) [0,0,0,0] [] t ?_
  rintro k_ a ⟨c,d⟩ O v w x
  refine Y2 ?_
  refine Tb v (λj=> ?_) λj=> ?_
  ·refine Z1 ?_
   refine Yl0 ?_
   refine Td [7] [2,2] mo ?_
   refine Dq 0 ?_
   refine Db 1 0 ?_
   refine Dq 2 ?_
   have ⟨y,z,A⟩:=bnd j
   refine Dk [1] [] (mY z) λ⟨⟩=> ?_
   refine Da [] [] rfl rfl (Ac.bs (ty:=(Ty.int .i64)) (xs:=[y.1]) (.cons () [] rfl .nil) rfl rfl rfl rfl rfl rfl rfl) λP=> ?_
   refine D.frz 0 rfl ?_
   have ⟨_,B,C⟩:=bnd A
   refine Da [1] [0] rfl rfl (Ac.ap (ty:=(Ty.int .i64)) B rfl rfl rfl rfl rfl rfl rfl) ?_
   rintro ⟨F,I⟩
   refine Dq 6 ?_
   refine Dt 0 ?_
   refine Dn ?_
   refine Z0 ?_
   cases C
   exact Eg (_,(F,I)) (w _ rfl) [2,2,0,0] [] 1
  refine Z0 ?_
  cases j
  have hb:=x _ rfl
  subst b
  exact Eg (c,d) trivial [0,0,0,0] [] 0
 rintro ⟨f,g⟩
 refine Z1 ?_
 have ⟨Q,J,M⟩:=bnd u
 refine Lk [1] [] (yu J) λ⟨⟩=> ?_
 refine Z0 ?_
 refine Lt 2 ?_
 refine Z1 ?_
 refine Lt 3 ?_
 refine Z0 ?_
 refine E.frz 3 rfl ?_
 cases M
 exact Eo (f,g) [2] [0] (.cell 0 rfl rfl rfl .nil)
theorem zX {in_:cI} {r:Int} (H:mG in_=some r):CT G 43 [.pointer (some ⟨N0,0,none⟩)] [Ch.box N0 186 [.string in_.s,.int .i64 in_.e]] [] (λ_:Unit=> .int .i64 r) (λh=>[Ch.box N0 186 [.string in_.s,.int .i64 in_.e]]) (λh=>[]):=by
 delta mG at H
 refine Cf Go.Proofs.Tryz.func43 λK=> ?_
 refine Z3 ?_
 refine Tb H (λH2=> ?_) λH2=> ?_
 ·refine Z1 ?_
  cases H2
  exact Eo1 () [0] []
 refine Z1 ?_
 cases H2
 exact Eo1 () [0] []
theorem uP {s_:ByteArray} {r:aV×Int} (H:jK s_=some r):CT G 15 [.string s_] [] [Im.sl (Ty.int .u32) (some ⟨0,0,none⟩) 16 cB] (λh:(Option Addr×Nat)=> .tuple #[.agg (yn r.1 h.1 h.2).toArray,.int .i64 r.2]) (λh=>[]) (λh=>[Im.sl (Ty.int .i64) h.1 h.2 r.1.aW]):=by
 delta jK at H
 refine Cf Go.Proofs.Tryz.func15 λK=> ?_
 refine Z1 ?_
 refine Ll λg1=> ?_
 refine Z2 ?_
 refine Tb H (λH3=> ?_) λH3=> ?_
 ·refine Z1 ?_
  refine Lt 0 ?_
  refine Z0 ?_
  refine E.lk [Im.sl (Ty.int .i64) none 0 []] (λA w _ _ f hf=>by rw [List.mem_singleton.1 hf]; exact Im.k9 A w) ?_
  cases H3
  exact Eo (none,0) [] [0] (.cell 0 rfl rfl rfl (.tmp rfl .nil))
 refine Z1 ?_
 have ⟨r5,h6,H7⟩:=bnd H3
 refine Lk [] [0] (CU h6) λ⟨⟩=> ?_
 refine Z2 ?_
 refine Tb H7 (λH9=> ?_) λH9=> ?_
 ·refine Z1 ?_
  refine Lt 0 ?_
  refine Z0 ?_
  refine E.lk [Im.sl (Ty.int .i64) none 0 []] (λA w _ _ f hf=>by rw [List.mem_singleton.1 hf]; exact Im.k9 A w) ?_
  cases H9
  exact Eo (none,0) [] [0] (.cell 0 rfl rfl rfl (.tmp rfl .nil))
 refine Z1 ?_
 have ⟨s,c,d⟩:=bnd H9
 refine Lk [] [] (Iz c) λt=> ?_
 refine Z1 ?_
 have ⟨u,e,g⟩:=bnd d
 refine Lk [0] [] (By e) λ⟨i,j⟩=> ?_
 refine Ll λv=> ?_
 refine Lt 0 ?_
 refine Z1 ?_
 have ⟨x,k,l⟩:=bnd g
 refine Lk [1] [] (zX k) λ⟨⟩=> ?_
 refine Z2 ?_
 have ⟨m,n,o⟩:=bnd l
 refine Tj0 [(8,.int .i64 m)] [2,7] [] [0,1,2] ?_ ?_
 ·refine Tb n (λa=> ?_) λa=> ?_
  ·refine Z0 ?_
   have ⟨y,p,q⟩:=bnd a
   refine Lk [] [0,1] (o6 p) λ⟨⟩=> ?_
   refine Z0 ?_
   cases q
   exact Eg0 [0,0,0] 0
  refine Z0 ?_
  cases a
  exact Eg0 [0,0,0] 0
 refine Z2 ?_
 refine Tb o (λb=> ?_) λb=> ?_
 ·refine Z1 ?_
  refine Lt 2 ?_
  refine Z0 ?_
  refine E.lk [Im.sl (Ty.int .i64) none 0 []] (λA w _ _ f hf=>by rw [List.mem_singleton.1 hf]; exact Im.k9 A w) ?_
  cases b
  exact Eo (none,0) [] [0] (.cell 0 rfl rfl rfl (.tmp rfl .nil))
 refine Z1 ?_
 refine Lt 2 ?_
 refine Z0 ?_
 cases b
 exact Eo (i,j) [] [0] (.cell 0 rfl rfl rfl (.tmp rfl .nil))
theorem rH {l:List Int} {r:(List dK)×Bool} (H:kx l=some r):CT G 37 [.slice A0 l.length C0] [] [Im.sl (Ty.int .i64) A0 C0 l] (λh:(Option Addr×Nat)=> .tuple #[.slice h.1 r.1.length h.2,.bool r.2]) (λh=>[Ch.arr gu 171 h.1 h.2 r.1]) (λh=>[]):=by
 delta kx at H
 refine Cf Go.Proofs.Tryz.func37 λK=> ?_
 refine Y3 ?_
 have ⟨e4,H5,H6⟩:=bnd H
 refine Tj0 [(14,.bool e4)] [0] [] [] ?_ ?_
 ·refine Z0 ?_
  refine Lw 9 H5 (λH7=> ?_) λH7=> ?_
  ·refine Z0 ?_
   cases H7
   exact Eg0 [] 0
  refine Z0 ?_
  cases H7
  exact Eg0 [] 0
 refine Tb H6 (λH9=> ?_) λH9=> ?_
 ·refine Z1 ?_
  refine E.gA gu 171 ?_
  cases H9
  exact Eo (none,0) [0] [] (.tmp rfl (.tmp rfl .nil))
 refine Z3 ?_
 have ⟨f,k,m⟩:=bnd H9
 refine Tjh (η:=(Option Addr×Nat)) (λh=>(λa b=>[(4,.slice a f.length b)]) h.1 h.2) [] (λh=>(λa b=>[Ch.arr gu 171 a b f]) h.1 h.2) [] (λ_=>[]) ?_ ?_
 ·refine Yl0 ?_
  refine T.gA gu 171 ?_
  refine Tq (η:=(Option Addr×Nat)) (λc h=>(λd e=>[(4,.slice d c.1.length e),(5,.int .i64 c.2)]) h.1 h.2) [0] (λc h=>(λd e=>[Ch.arr gu 171 d e c.1]) h.1 h.2) [] (λ_ _=>[]) (none,0) [0] [] k ?_
  rintro k_ c ⟨d,e⟩ A n o p
  refine Z2 ?_
  refine Tb n (λg=> ?_) λg=> ?_
  ·refine Z1 ?_
   refine Yl0 ?_
   refine Td [] [] mo ?_
   refine Dq 0 ?_
   refine Dq 1 ?_
   refine Dq 2 ?_
   have ⟨q,i,s⟩:=bnd g
   refine D.addr 0 rfl (cQ i) λB C t=> ?_
   subst t
   refine Dy 3 (Yl.ia i rfl rfl rfl rfl rfl rfl) ?_
   refine D.el 0 rfl (aY i).2 ?_
   rintro _
   refine Dy 4 (Yl.ldc 0 0 rfl rfl rfl rfl) ?_
   refine Dq 5 ?_
   refine Dq 6 ?_
   refine Dq 7 ?_
   have ⟨u,j,v⟩:=bnd s
   refine Dy 8 (Yl.ia j rfl rfl rfl rfl rfl rfl) ?_
   refine D.el 1 rfl (aY j).2 ?_
   rintro _
   refine Dy 9 (Yl.ldc 0 0 rfl rfl rfl rfl) ?_
   refine Dq 10 ?_
   refine Da [] [] rfl rfl (Ac.bs (ty:=gu) (xs:=[(dK.mk q u)]) (.cons () [] rfl .nil) rfl rfl rfl rfl rfl rfl rfl) λF=> ?_
   refine D.frz 0 rfl ?_
   have ⟨_,w,x⟩:=bnd v
   refine Da [0] [0] rfl rfl (Ac.ap (ty:=gu) w rfl rfl rfl rfl rfl rfl rfl) ?_
   rintro ⟨y,z⟩
   refine Dq 13 ?_
   refine Dn ?_
   refine Z0 ?_
   cases x
   exact Eg (_,(y,z)) (o _ rfl) [0] [] 3
  refine Z0 ?_
  cases g
  have hb:=p _ rfl
  subst f
  exact Eg (d,e) trivial [0] [] 0
 rintro ⟨a,b⟩
 refine Z1 ?_
 cases m
 exact Eo (a,b) [0] [] (.tmp rfl (.tmp rfl .nil))
end Go.Tw.X
namespace Go.Tw.X
open Go Go.Tw
variable {A0 A1 A2 A3 A4 A5 A6 A7 A8 A9 A10 A11 A12 A13 A14 A15 A16 A17 A18 A19 A20 A21 A22 : Option Addr} {C0 C1 C2 C3 C4 C5 C6 C7 C8 C9 C10 C11 C12 C13 C14 C15 C16 C17 C18 C19 C20 C21 C22 : Nat}
variable {N0 N1 N2 N3 N4 N5 N6 : Nat}
theorem qN {s_:bD} {g:aV} {r:Int} (H:gY s_ g=some r):CT G 34 [.pointer (some ⟨N0,0,none⟩),.agg (yn g A13 C13).toArray] [Ch.box N0 98 (pd s_ N1 N6),Ch.box N1 120 (iE s_.model N2 N3 N4),Ch.box N2 178 [.slice A0 s_.model.book.l.length C0,.slice A1 s_.model.book.bA.length C1,.slice A2 s_.model.book.begun.length C2],Ch.arr (Ty.slice aC) 101 A0 C0 s_.model.book.l,Ch.arr (Ty.int .i64) 3 A1 C1 s_.model.book.bA,Ch.arr aC 181 A2 C2 s_.model.book.begun,Ch.box N3 151 (eF s_.model.parser A3 C3),Ch.opt (s_.model.parser.state == (3:Int)) (Ty.int .i64) 3 A3 C3 s_.model.parser.order.aW,Ch.box N4 224 (bY s_.model.aN N5),Ch.box N5 296 [.int .i64 s_.model.aN.g.w,.slice A5 s_.model.aN.g.l.length C5],Ch.arr aD 232 A5 C5 s_.model.aN.g.l,Ch.box N6 158 (gv s_.aP A6 C6 A7 C7 A8 C8 A9 C9 A10 C10 A11 C11 A12 C12),Ch.aro bE 103 A10 C10 s_.aP.kept,Ch.arr Ty.bool 4 A12 C12 s_.aP.message.there] [Im.sl aD A6 C6 s_.aP.current.rows,Im.sl aC A7 C7 s_.aP.current.begun,Im.sl aD A8 C8 s_.aP.aM.rows,Im.sl aC A9 C9 s_.aP.aM.begun,Im.sl Ty.str A11 C11 s_.aP.message.parts,Im.sl (Ty.int .i64) A13 C13 g.aW] (λ_:Unit=> .int .i64 r) (λh=>[Ch.box N0 98 (pd s_ N1 N6),Ch.box N1 120 (iE s_.model N2 N3 N4),Ch.box N2 178 [.slice A0 s_.model.book.l.length C0,.slice A1 s_.model.book.bA.length C1,.slice A2 s_.model.book.begun.length C2],Ch.arr (Ty.slice aC) 101 A0 C0 s_.model.book.l,Ch.arr (Ty.int .i64) 3 A1 C1 s_.model.book.bA,Ch.arr aC 181 A2 C2 s_.model.book.begun,Ch.box N3 151 (eF s_.model.parser A3 C3),Ch.opt (s_.model.parser.state == (3:Int)) (Ty.int .i64) 3 A3 C3 s_.model.parser.order.aW,Ch.box N4 224 (bY s_.model.aN N5),Ch.box N5 296 [.int .i64 s_.model.aN.g.w,.slice A5 s_.model.aN.g.l.length C5],Ch.arr aD 232 A5 C5 s_.model.aN.g.l,Ch.box N6 158 (gv s_.aP A6 C6 A7 C7 A8 C8 A9 C9 A10 C10 A11 C11 A12 C12),Ch.aro bE 103 A10 C10 s_.aP.kept,Ch.arr Ty.bool 4 A12 C12 s_.aP.message.there]) (λh=>[]):=by
 delta gY at H
 refine Cf Go.Proofs.Tryz.func34 λK=> ?_
 refine Z1 ?_
 refine Lx λg1=> ?_
 refine Z1 ?_
 have ⟨r2,h3,H4⟩:=bnd H
 refine Lk [] [5] (rH h3) λ⟨a5,c6⟩=> ?_
 refine Z1 ?_
 refine Zl ?_
 refine Y1 ?_
 have ⟨j,k,m⟩:=bnd H4
 refine Tj0 [(13,.bool j)] [0,3,6] [] [1,2,3,4,8,10,11,13,5,6,7,9,12,14,15] ?_ ?_
 ·refine Z0 ?_
  refine Lw 17 k (λa=> ?_) λa=> ?_
  ·refine Z0 ?_
   cases a
   exact Eg0 [1,1,1,1,4,5,5,6,1,1,1,1,1,1,1] 0
  refine Z0 ?_
  cases a
  exact Eg0 [1,1,1,1,4,5,5,6,1,1,1,1,1,1,1] 0
 refine Tb m (λb=> ?_) λb=> ?_
 ·refine Z1 ?_
  cases b
  exact Eo1 () [1,1,1,5,5,5,1,4,1,1,2,1,1,1] []
 refine Y1 ?_
 refine Td [] [0,0,0,0,0,0,0,0,0,0,0,0,0,0,0] mo ?_
 refine Dq 0 ?_
 refine Db 1 0 ?_
 refine Dq 2 ?_
 refine Dq 3 ?_
 refine Dq 4 ?_
 refine Db 5 1 ?_
 refine Dq 6 ?_
 refine Dq 7 ?_
 refine Dn ?_
 refine Z0 ?_
 refine Tb b (λc=> ?_) λc=> ?_
 ·refine Z1 ?_
  cases c
  exact Eo1 () [1,1,1,5,5,5,1,4,1,1,2,1,1,1] []
 refine Y1 ?_
 refine Td [] [0,0,0,0,0,0,0,0,0,0,0,0,0,0,0] mo ?_
 refine Dq 0 ?_
 refine Db 1 0 ?_
 refine Dq 2 ?_
 refine Dq 3 ?_
 refine Dq 4 ?_
 refine Db 5 1 ?_
 refine Dq 6 ?_
 refine Dq 7 ?_
 refine Dn ?_
 refine Z0 ?_
 refine Tb c (λd=> ?_) λd=> ?_
 ·refine Z1 ?_
  cases d
  exact Eo1 () [1,1,1,5,5,5,1,4,1,1,2,1,1,1] []
 refine Y2 ?_
 have ⟨n,o,p⟩:=bnd d
 refine Tj0 [(38,.bool n)] [6] [] [0,1,2,3,4,5,6,7,8,9,10,11,12,13,14] ?_ ?_
 ·refine Z0 ?_
  refine Lw 42 o (λe=> ?_) λe=> ?_
  ·refine Z0 ?_
   cases e
   exact Eg0 [0,0,0,0,0,0,0,0,0,0,0,0,0,0,0] 0
  refine Z0 ?_
  cases e
  exact Eg0 [0,0,0,0,0,0,0,0,0,0,0,0,0,0,0] 0
 have ⟨q,s,t⟩:=bnd p
 refine Tj0 [(38,.bool q)] [] [] [0,1,2,3,4,5,6,7,8,9,10,11,12,13,14] ?_ ?_
 ·refine Tb s (λf=> ?_) λf=> ?_
  ·refine Z0 ?_
   cases f
   exact Eg0 [0,0,0,0,0,0,0,0,0,0,0,0,0,0,0] 0
  refine Z0 ?_
  cases f
  exact Eg0 [0,0,0,0,0,0,0,0,0,0,0,0,0,0,0] 0
 refine Tb t (λi=> ?_) λi=> ?_
 ·refine Z1 ?_
  cases i
  exact Eo1 () [1,1,1,5,5,5,1,4,1,1,2,1,1,1] []
 refine Z1 ?_
 cases i
 exact Eo1 () [1,1,1,5,5,5,1,4,1,1,2,1,1,1] []
theorem qG {g:aV} {i:Int} {r:Int} (H:gP g i=some r):CT G 36 [.agg (yn g A0 C0).toArray,.int .i64 i] [] [Im.sl (Ty.int .i64) A0 C0 g.aW] (λ_:Unit=> .int .i64 r) (λh=>[]) (λh=>[]):=by
 delta gP at H
 refine Cf Go.Proofs.Tryz.func36 λK=> ?_
 refine Z1 ?_
 refine Lx λg1=> ?_
 refine Z2 ?_
 have ⟨r2,h3,H4⟩:=bnd H
 refine Lk [] [] (nw h3) λ⟨⟩=> ?_
 refine Z0 ?_
 refine Tb H4 (λH6=> ?_) λH6=> ?_
 ·refine Z1 ?_
  cases H6
  exact Eo1 () [] []
 refine Z1 ?_
 have ⟨x7,h8,H9⟩:=bnd H6
 refine L.addr 0 rfl (cQ h8) λb c a=> ?_
 subst a
 refine Ly (Yl.ia h8 rfl rfl rfl rfl rfl rfl) ?_
 refine L.el 0 rfl (aY h8).2 ?_
 rintro _
 refine Lc 0 0 ?_
 refine Z0 ?_
 cases H9
 exact Eo1 () [] []
theorem rI {s_:aI} {have_:ByteArray} {r:aI} (H:gn s_ have_=some r):CT G 71 [.pointer (some ⟨N0,0,none⟩),.string have_] [Ch.box N0 158 (gv s_ A0 C0 A1 C1 A2 C2 A3 C3 A4 C4 A5 C5 A6 C6),Ch.aro bE 103 A4 C4 s_.kept,Ch.arr Ty.bool 4 A6 C6 s_.message.there] [Im.sl aD A0 C0 s_.current.rows,Im.sl aC A1 C1 s_.current.begun,Im.sl aD A2 C2 s_.aM.rows,Im.sl aC A3 C3 s_.aM.begun,Im.sl Ty.str A5 C5 s_.message.parts] (λ_:Unit=> .tuple #[]) (λh=>[Ch.box N0 158 (gv r A0 C0 A1 C1 A2 C2 A3 C3 A4 C4 A5 C5 A6 C6),Ch.aro bE 103 A4 C4 r.kept,Ch.arr Ty.bool 4 A6 C6 r.message.there]) (λh=>[Im.sl aD A0 C0 r.current.rows,Im.sl aC A1 C1 r.current.begun,Im.sl aD A2 C2 r.aM.rows,Im.sl aC A3 C3 r.aM.begun,Im.sl Ty.str A5 C5 r.message.parts]):=by
 delta gn at H
 refine Cf Go.Proofs.Tryz.func71 λK=> ?_
 refine Z1 ?_
 have ⟨b,g,i⟩:=bnd H
 refine T.qB (η:=Unit×Unit) (λh=>True) (λh=>[]) (λh=>[Ch.aro bE 103 A4 C4 b.kept,Ch.arr Ty.bool 4 A6 C6 b.message.there,Ch.box N0 158 (gv b A0 C0 A1 C1 A2 C2 A3 C3 A4 C4 A5 C5 A6 C6)]) (λh=>[Im.sl aD A0 C0 b.current.rows,Im.sl aC A1 C1 b.current.begun,Im.sl aD A2 C2 b.aM.rows,Im.sl aC A3 C3 b.aM.begun,Im.sl Ty.str A5 C5 b.message.parts,Im.sl aD A0 C0 s_.current.rows,Im.sl aC A1 C1 s_.current.begun,Im.sl aD A2 C2 s_.aM.rows,Im.sl aC A3 C3 s_.aM.begun,Im.sl Ty.str A5 C5 s_.message.parts]) ?_ ?_
 ·refine Yl0 ?_
  refine Tq (η:=Unit) (λa h=>[(15,.int .i64 a.2)]) [0,1,14] (λa h=>[Ch.aro bE 103 A4 C4 a.1.kept,Ch.arr Ty.bool 4 A6 C6 a.1.message.there,Ch.box N0 158 (gv a.1 A0 C0 A1 C1 A2 C2 A3 C3 A4 C4 A5 C5 A6 C6)]) [] (λa h=>[Im.sl aD A0 C0 a.1.current.rows,Im.sl aC A1 C1 a.1.current.begun,Im.sl aD A2 C2 a.1.aM.rows,Im.sl aC A3 C3 a.1.aM.begun,Im.sl Ty.str A5 C5 a.1.message.parts]) () [1,1,0] [0,1,2,3,4] g ?_
  rintro k_ a ⟨⟩ A j l m
  refine Y2 ?_
  refine Tb j (λd=> ?_) λd=> ?_
  ·refine Y1 ?_
   have ⟨c,n,o⟩:=bnd d
   refine Tjh (η:=Unit) (λ_=>[]) [0,1,14,15] (λh=>[Ch.aro bE 103 A4 C4 c.kept,Ch.arr Ty.bool 4 A6 C6 c.message.there,Ch.box N0 158 (gv c A0 C0 A1 C1 A2 C2 A3 C3 A4 C4 A5 C5 A6 C6)]) [] (λh=>[Im.sl aD A0 C0 c.current.rows,Im.sl aC A1 C1 c.current.begun,Im.sl aD A2 C2 c.aM.rows,Im.sl aC A3 C3 c.aM.begun,Im.sl Ty.str A5 C5 c.message.parts]) ?_ ?_
   ·refine Zl ?_
    refine Z2 ?_
    have ⟨B,p,q⟩:=bnd n
    refine Ly (Yl.si p rfl rfl rfl rfl rfl) ?_
    refine Z0 ?_
    have ⟨_,s,t⟩:=bnd q
    refine Ly (Yl.shr (nb:=8) rfl s rfl rfl rfl) ?_
    refine Z0 ?_
    refine Tb t (λe=> ?_) λe=> ?_
    ·refine Z0 ?_
     have ⟨C,f,u⟩:=bnd e
     refine L.lN 1 rfl (cQ f) λv z=> ?_
     subst z
     refine Ly (Yl.ia f rfl rfl rfl rfl rfl rfl) ?_
     refine La [1] [] (Ac.se 0 true (aY f).2 rfl rfl rfl rfl rfl rfl (λ_=>⟨(),rfl,[],rfl⟩)) λ_=> ?_
     refine L.bx 2 (cs':=[.int .i64 a.1.config.part,.int .i64 a.1.config.every,.int .i64 a.1.config.most,.int .i64 a.1.current.k,.int .i64 a.1.current.w,.int .i64 a.1.current.h,.int .i64 a.1.current.x,.int .i64 a.1.current.y,.string a.1.current.title,.slice A0 a.1.current.rows.length C0,.int .i64 a.1.current.len,.int .i64 a.1.current.chain,.slice A1 a.1.current.begun.length C1,.int .i64 a.1.aM.k,.int .i64 a.1.aM.w,.int .i64 a.1.aM.h,.int .i64 a.1.aM.x,.int .i64 a.1.aM.y,.string a.1.aM.title,.slice A2 a.1.aM.rows.length C2,.int .i64 a.1.aM.len,.int .i64 a.1.aM.chain,.slice A3 a.1.aM.begun.length C3,.slice A4 a.1.kept.length C4,.int .i64 a.1.message.id,.int .i64 a.1.message.key,.int .i64 a.1.message.base,.slice A5 a.1.message.parts.length C5,.slice (some ⟨v,0,none⟩) (a.1.message.there.set a.2.toNat true).length C6,.int .i64 a.1.message.due,.int .i64 a.1.next]) (by rw [List.length_set ..]) rfl ?_
     refine Z0 ?_
     cases u
     exact Eg () trivial [2,1,0] [0,1,2,3,4] 0
    refine Z0 ?_
    cases e
    exact Eg () trivial [0,0,0] [0,1,2,3,4] 0
   rintro ⟨⟩
   refine Z0 ?_
   cases o
   exact Eg (_,()) (l _ rfl) [0,0,0] [0,1,2,3,4] 10
  refine Z0 ?_
  cases d
  have hb:=m _ rfl
  subst b
  exact Egx ((),()) trivial [0,0,0] [0,1,2,3,4,5,6,7,8,9]
 rintro ⟨_,⟨⟩⟩ _
 refine E.off ?_
 cases i
 exact Eo () [2,0,0] [0,1,2,3,4] .nil
theorem pj {x_:aL} {x1:Int} {r:Bool} (H:fW x_ x1=some r):CT G 73 [.agg (iD x_ A0 C0 A1 C1).toArray,.pointer (some ⟨N0,0,none⟩)] [] [Im.sl aD A0 C0 x_.rows,Im.sl aC A1 C1 x_.begun,Im.cells N0 0 [.int .i64 x1]] (λ_:Unit=> .bool r) (λh=>[]) (λh=>[]):=by
 delta fW at H
 refine Cf Go.Proofs.Tryz.func73 λK=> ?_
 refine Z1 ?_
 refine Lx λg1=> ?_
 refine Z1 ?_
 refine Lc 2 0 ?_
 refine Z0 ?_
 cases H
 exact Eo1 () [] []
theorem kD {s_:List aL} {f_0:Int} {r:Int} (H:cM s_ f_0=some r):CT G 72 [.slice A0 s_.length C0,.func (.func 73) #[] #[.pointer (some ⟨N0,0,none⟩)]] [] [Im.sl bE A0 C0 s_,Im.cells N0 0 [.int .i64 f_0]] (λ_:Unit=> .int .i64 r) (λh=>[]) (λh=>[]):=by
 delta cM at H
 refine Cf Go.Proofs.Tryz.func72 λK=> ?_
 refine Z3 ?_
 have ⟨a,i,e⟩:=bnd H
 refine Tj (η:=Unit×Unit) (λh=>a = .inl h.1) (λ_=>[]) [] (λ_=>[]) [] (λ_=>[]) ?_ ?_
 ·refine Yl0 ?_
  refine Tq (η:=Unit) (λf h=>[(8,.int .i64 f)]) [0,1,7] (λ_ _=>[]) [] (λ_ _=>[]) () [] [] i ?_
  rintro k_ f ⟨⟩ j k l g
  refine Y2 ?_
  refine Tb k (λb=> ?_) λb=> ?_
  ·refine Z1 ?_
   refine Zl ?_
   refine Z2 ?_
   have ⟨s,c,m⟩:=bnd b
   refine L.addr 0 rfl (cQ c) λt u n=> ?_
   subst n
   refine Ly (Yl.ia c rfl rfl rfl rfl rfl rfl) ?_
   refine L.el 0 rfl (aY c).2 ?_
   rintro ⟨⟨v,w⟩,⟨x,y⟩⟩
   refine Lc 0 0 ?_
   have ⟨z,o,p⟩:=bnd m
   refine Lk [] [1,2,4] (pj o) λ⟨⟩=> ?_
   refine Z0 ?_
   refine Tb p (λd=> ?_) λd=> ?_
   ·refine Z1 ?_
    obtain ⟨A,hz,q⟩:=fG d
    subst j
    have hb:=g _ rfl
    subst a
    obtain rfl:=(sm e).symm
    refine Z0 ?_
    cases q
    exact Eo1 () [] []
   refine Z0 ?_
   cases d
   exact Eg (_,()) (l _ rfl) [] [] 3
  refine Z0 ?_
  cases b
  have hb:=g _ rfl
  subst a
  exact Eg (_,()) rfl [] [] 0
 rintro ⟨B,⟨⟩⟩ hy
 subst hy
 refine Z1 ?_
 cases e
 exact Eo1 () [] []
theorem po {s_:List aL} (a_0:Option Addr) (c_0:Nat) {r:List aL} (H:fV s_=some r):CT G 74 [.slice a_0 s_.length c_0] [] [Im.sl bE a_0 c_0 s_] (λh:(Option Addr×Nat)=> .slice h.1 r.length h.2) (λh=>[Ch.arr bE 103 h.1 h.2 r]) (λh=>[]):=by
  delta fV at H
  refine Cf Go.Proofs.Tryz.func74 λK=> ?_
  have ⟨_,h0,H⟩:=bnd H
  have hr:=Option.some.inj H
  refine T.seq (T.region (L.q 1 rfl (L.nil (E.then (T.seq (T.seq (T.region ?_)))))))
  refine L.q 1 rfl ?_
  refine L.Lj 0 rfl rfl rfl rfl rfl rfl rfl rfl rfl (λha hx=> ?_) ?_
  · refine L.nil (E.then (T.cond rfl (λ_=> ?_) (λh=>nomatch h)))
    refine T.seq (T.region (L.q 1 rfl (L.nil (E.then (T.ret (E.pt ?_))))))
    subst hx
    subst r
    refine E.gA bE 103 ?_
    exact E.ret (none,0) [0] [] (.tmp rfl .nil) rfl rfl rfl
  · refine L.nil (E.then (T.cond rfl (λh=>nomatch h) (λ_=> ?_)))
    refine T.skip (E.then (T.seq (T.region ?_)))
    refine L.a [] [] (Ac.bs (ty:=bE) (xs:=[]) .nil rfl rfl rfl rfl rfl rfl rfl) rfl rfl rfl rfl rfl ?_
    intro g1
    refine L.q 1 rfl ?_
    refine L.a [0] [0] (Ac.ap (ty:=bE) h0 rfl rfl rfl rfl rfl rfl rfl) rfl rfl rfl rfl rfl ?_
    rintro ⟨a1,c1⟩
    refine L.q 1 rfl ?_
    refine L.nil (E.then (T.ret ?_))
    subst r
    exact E.ret (a1,c1) [0] [] (.tmp rfl .nil) rfl rfl rfl
theorem sK {s_:aI} {k:Int} {id:Int} {have_:ByteArray} {r:Bool×aI} (H:iZ s_ k id have_=some r):CT G 35 [.pointer (some ⟨N0,0,none⟩),.int .i64 k,.int .i64 id,.string have_] [Ch.box N0 158 (gv s_ A0 C0 A1 C1 A2 C2 A3 C3 A4 C4 A5 C5 A6 C6),Ch.aro bE 103 A4 C4 s_.kept,Ch.arr Ty.bool 4 A6 C6 s_.message.there] [Im.sl aD A0 C0 s_.current.rows,Im.sl aC A1 C1 s_.current.begun,Im.sl aD A2 C2 s_.aM.rows,Im.sl aC A3 C3 s_.aM.begun,Im.sl Ty.str A5 C5 s_.message.parts] (λh:(Option Addr×Nat)×(Option Addr×Nat)×(Option Addr×Nat)=> .bool r.1) (λh=>[Ch.box N0 158 (gv r.2 A0 C0 A1 C1 h.1.1 h.1.2 h.2.1.1 h.2.1.2 h.2.2.1 h.2.2.2 A5 C5 A6 C6),Ch.aro bE 103 h.2.2.1 h.2.2.2 r.2.kept,Ch.arr Ty.bool 4 A6 C6 r.2.message.there]) (λh=>[Im.sl aD A0 C0 r.2.current.rows,Im.sl aC A1 C1 r.2.current.begun,Im.sl aD h.1.1 h.1.2 r.2.aM.rows,Im.sl aC h.2.1.1 h.2.1.2 r.2.aM.begun,Im.sl Ty.str A5 C5 r.2.message.parts]):=by
 delta iZ at H
 refine Cf Go.Proofs.Tryz.func35 λK=> ?_
 refine Z1 ?_
 refine Lx λg1=> ?_
 refine Y2 ?_
 have ⟨e5,H6,H7⟩:=bnd H
 refine Tj0 [(20,.bool e5)] [0,3,5] [] [0,1,2,3] ?_ ?_
 ·refine Z0 ?_
  refine Lw 17 H6 (λH8=> ?_) λH8=> ?_
  ·refine Z0 ?_
   cases H8
   exact Eg0 [0,0,0,0] 0
  refine Z0 ?_
  cases H8
  exact Eg0 [0,0,0,0] 0
 have ⟨a,n,o⟩:=bnd H7
 refine Tjh (η:=Unit) (λ_=>[]) [0,5] (λh=>[Ch.aro bE 103 A4 C4 a.kept,Ch.arr Ty.bool 4 A6 C6 a.message.there,Ch.box N0 158 (gv a A0 C0 A1 C1 A2 C2 A3 C3 A4 C4 A5 C5 A6 C6)]) [0] (λh=>[Im.sl aD A0 C0 a.current.rows,Im.sl aC A1 C1 a.current.begun,Im.sl aD A2 C2 a.aM.rows,Im.sl aC A3 C3 a.aM.begun,Im.sl Ty.str A5 C5 a.message.parts]) ?_ ?_
 ·refine Tb n (λb=> ?_) λb=> ?_
  ·refine Z0 ?_
   have ⟨S,p,q⟩:=bnd b
   refine Lk [1,1,1] [0,1,2,3,4] (rI p) λ⟨⟩=> ?_
   refine Z0 ?_
   cases q
   exact Eg () trivial [1,1,0,0] [0,1,2,3,4] 5
  refine Z0 ?_
  cases b
  exact Eg () trivial [2,2,1,0] [0,1,2,3,4] 0
 rintro ⟨⟩
 refine Y2 ?_
 have ⟨s,t,u⟩:=bnd o
 refine Tj0 [(39,.bool s)] [0,5] [] [2,3,0,1] ?_ ?_
 ·refine Td [] [0,0,0,0] mo ?_
  refine Db 0 3 ?_
  refine Dq 1 ?_
  refine Dq 2 ?_
  refine Dq 3 ?_
  refine Dq 4 ?_
  refine Db 5 2 ?_
  refine Dq 6 ?_
  refine Dq 7 ?_
  refine D.cs 31 t rfl (λhc c=> ?_) (λhc c=> ?_)
  ·refine Ds 8 ?_
   refine Ds 9 ?_
   refine Ds 10 ?_
   refine Ds 11 ?_
   refine Ds 12 ?_
   refine Ds 13 ?_
   refine Ds 14 ?_
   refine Dq 15 ?_
   refine Dn ?_
   cases c
   exact Eg0 [2,2,0,0] 0
  refine Db 8 3 ?_
  refine Dq 9 ?_
  refine Dq 10 ?_
  refine Dq 11 ?_
  refine Dq 12 ?_
  refine Db 13 2 ?_
  refine Dq 14 ?_
  refine Dq 15 ?_
  refine Dn ?_
  cases c
  exact Eg0 [2,2,0,0] 0
 refine Tb u (λd=> ?_) λd=> ?_
 ·refine Z1 ?_
  cases d
  exact Eo1 ((A2,C2),(A3,C3),(A4,C4)) [0,1,1] [0,1,2,3,4]
 refine Z1 ?_
 have ⟨x,y,z⟩:=bnd d
 refine L.br (Ac.call (kD y) rfl rfl rfl rfl) (Bw.cho 2 rfl (Bw.bx 1 rfl (Bw.nil))) rfl rfl rfl ?_
 intro _
 refine Z2 ?_
 refine Tb z (λe=> ?_) λe=> ?_
 ·refine Z1 ?_
  refine Lt 0 ?_
  refine Z1 ?_
  refine E.lk [Im.sl aD none 0 []] (λA w _ _ f hf=>by rw [List.mem_singleton.1 hf]; exact Im.k9 A w) ?_
  refine E.lk [Im.sl aC none 0 []] (λA w _ _ f hf=>by rw [List.mem_singleton.1 hf]; exact Im.k9 A w) ?_
  cases e
  exact Eo1 ((none,0),(none,0),(A4,C4)) [0,1,1] [2,3,1,0,6]
 refine Z1 ?_
 have ⟨B,g,C⟩:=bnd e
 refine L.MR 2 rfl (cQ g) λU V F=> ?_
 subst F
 refine Ly (Yl.ia g rfl rfl rfl rfl rfl rfl) ?_
 refine La [2] [] (Ac.olo x.toNat 0 (v:=(λh:(Option Addr×Nat)×(Option Addr×Nat)=>(λi j l m=> .agg (iD B i j l m).toArray) h.1.1 h.1.2 h.2.1 h.2.2)) (aY g).2 rfl rfl rfl (λ_=>rfl)) ?_
 rintro ⟨⟨i,j⟩,⟨l,m⟩⟩
 refine Z0 ?_
 refine Lt 1 ?_
 refine Z1 ?_
 have ⟨_,I,J⟩:=bnd C
 refine La [1] [] (Ac.ors (ty:=bE) I rfl rfl rfl rfl rfl rfl rfl rfl) ?_
 rintro ⟨M,N⟩
 refine L.Ob 0 rfl ?_
 have ⟨W,O,P⟩:=bnd J
 refine Lk [] [0] (po M N O) λ⟨Q,R⟩=> ?_
 refine Z0 ?_
 refine Lt 1 ?_
 refine Z1 ?_
 refine E.MP 1 rfl ?_
 cases P
 exact Eo1 ((i,j),(l,m),(Q,R)) [1,0,1] [3,4,1,2,7]
theorem oO {line_0:bT} {l:List dK} (g_0_0:Nat) (a_0_0_0:Option Addr) (c_0_0_0:Nat) (a_0_0_1:Option Addr) (c_0_0_1:Nat) (a_0_0_2:Option Addr) (c_0_0_2:Nat) (a_1:Option Addr) (c_1:Nat) {r:Unit} (H:jE line_0 l=some r):CT G 76 [.func (.func 39) #[.pointer (some ⟨g_0_0,0,none⟩)] #[],.slice a_1 l.length c_1] [Ch.box g_0_0 178 [.slice a_0_0_0 line_0.l.length c_0_0_0,.slice a_0_0_1 line_0.bA.length c_0_0_1,.slice a_0_0_2 line_0.begun.length c_0_0_2],Ch.arr (Ty.slice aC) 101 a_0_0_0 c_0_0_0 line_0.l,Ch.arr (Ty.int .i64) 3 a_0_0_1 c_0_0_1 line_0.bA,Ch.arr aC 181 a_0_0_2 c_0_0_2 line_0.begun] [Im.sl gu a_1 c_1 l] (λh:Nat×Nat=> .func (.func 140) #[] #[.pointer (some ⟨h.1,0,none⟩),.pointer (some ⟨h.2,0,none⟩)]) (λh=>[Ch.box h.1 111 [.slice a_1 l.length c_1],Ch.box h.2 115 [.func (.func 39) #[.pointer (some ⟨g_0_0,0,none⟩)] #[]],Ch.box g_0_0 178 [.slice a_0_0_0 line_0.l.length c_0_0_0,.slice a_0_0_1 line_0.bA.length c_0_0_1,.slice a_0_0_2 line_0.begun.length c_0_0_2],Ch.arr (Ty.slice aC) 101 a_0_0_0 c_0_0_0 line_0.l,Ch.arr (Ty.int .i64) 3 a_0_0_1 c_0_0_1 line_0.bA,Ch.arr aC 181 a_0_0_2 c_0_0_2 line_0.begun]) (λh=>[]):=by
  cases H
  refine Cf Go.Proofs.Tryz.func76 λK=> ?_
  refine Z1 ?_
  refine Lx λg1=> ?_
  refine Lx λg2=> ?_
  refine Z1 ?_
  exact Eo1 (g2,g1) [0,0,0,0,0,0] []
theorem vu {b:bT} {i:Int} {r:(List aJ)×Bool} (H:kt b i=some r):CT G 39 [.pointer (some ⟨N0,0,none⟩),.int .i64 i] [Ch.box N0 178 [.slice A0 b.l.length C0,.slice A1 b.bA.length C1,.slice A2 b.begun.length C2],Ch.arr (Ty.slice aC) 101 A0 C0 b.l,Ch.arr (Ty.int .i64) 3 A1 C1 b.bA,Ch.arr aC 181 A2 C2 b.begun] [] (λh:(Option Addr×Nat)=> .tuple #[.slice h.1 r.1.length h.2,.bool r.2]) (λh=>[Ch.arr aC 181 h.1 h.2 r.1,Ch.box N0 178 [.slice A0 b.l.length C0,.slice A1 b.bA.length C1,.slice A2 b.begun.length C2],Ch.arr (Ty.slice aC) 101 A0 C0 b.l,Ch.arr (Ty.int .i64) 3 A1 C1 b.bA,Ch.arr aC 181 A2 C2 b.begun]) (λh=>[]):=by
 delta kt at H
 refine Cf Go.Proofs.Tryz.func39 λK=> ?_
 refine Y3 ?_
 have ⟨e4,H5,H6⟩:=bnd H
 refine Tj0 [(16,.bool e4)] [0,1] [] [0,1,2,3] ?_ ?_
 ·refine Z0 ?_
  refine Lw 8 H5 (λH7=> ?_) λH7=> ?_
  ·refine Z0 ?_
   cases H7
   exact Eg0 [0,0,0,0] 0
  refine Z0 ?_
  cases H7
  exact Eg0 [0,0,0,0] 0
 refine Tb H6 (λH9=> ?_) λH9=> ?_
 ·refine Z1 ?_
  refine E.gA aC 181 ?_
  cases H9
  exact Eo (none,0) [0,0,0,0,0] [] (.tmp rfl (.tmp rfl .nil))
 refine Z1 ?_
 have ⟨e,a,f⟩:=bnd H9
 refine L.lN 1 rfl (cQ a) λo g=> ?_
 subst g
 refine Ly (Yl.ia a rfl rfl rfl rfl rfl rfl) ?_
 refine La [1] [] (Ac.lo i.toNat 0 (v:=(λh:(Option Addr×Nat)=>(λc d=> .slice c e.length d) h.1 h.2)) (aY a).2 rfl rfl rfl (λ_=>rfl)) ?_
 rintro ⟨c,d⟩
 have ⟨p,j,k⟩:=bnd f
 refine Lk [] [0] (ig c d j) λ⟨m,n⟩=> ?_
 refine Z0 ?_
 cases k
 exact Eo (m,n) [0,1,0,0,0] [] (.tmp rfl (.tmp rfl .nil))
theorem uQ {σ η:Type} {Y:σ->bZ->Option (σ×Bool)} {y0:σ} {x1:List dK} {x2_0:bT} {yl:Nat} {C:σ->η->Ch} (hY: ∀ s (h:η) (x:bZ) (t:Unit) z,Y s x=some z->YT G yl [.agg #[.int .i64 x.first,.int .i64 x.count,.string x.data]] [C s h] [] (λ_:η=> .bool z.2) (λh2=>[C z.1 h2]) (λ_=>[])) (h0:η) (g_1:Nat) (a_1_0:Option Addr) (c_1_0:Nat) (g_2:Nat) (g_2_f_0:Nat) (a_2_f_0_0:Option Addr) (c_2_f_0_0:Nat) (a_2_f_0_1:Option Addr) (c_2_f_0_1:Nat) (a_2_f_0_2:Option Addr) (c_2_f_0_2:Nat) {r:σ} (H:ld Y y0 x1 x2_0=some r):CT G 140 [.func (.yield yl) #[] #[],.pointer (some ⟨g_1,0,none⟩),.pointer (some ⟨g_2,0,none⟩)] [C y0 h0,Ch.box g_1 111 [.slice a_1_0 x1.length c_1_0],Ch.box g_2 115 [.func (.func 39) #[.pointer (some ⟨g_2_f_0,0,none⟩)] #[]],Ch.box g_2_f_0 178 [.slice a_2_f_0_0 x2_0.l.length c_2_f_0_0,.slice a_2_f_0_1 x2_0.bA.length c_2_f_0_1,.slice a_2_f_0_2 x2_0.begun.length c_2_f_0_2],Ch.arr (Ty.slice aC) 101 a_2_f_0_0 c_2_f_0_0 x2_0.l,Ch.arr (Ty.int .i64) 3 a_2_f_0_1 c_2_f_0_1 x2_0.bA,Ch.arr aC 181 a_2_f_0_2 c_2_f_0_2 x2_0.begun] [Im.sl gu a_1_0 c_1_0 x1] (λh:η=> .tuple #[]) (λh=>[C r h,Ch.box g_1 111 [.slice a_1_0 x1.length c_1_0],Ch.box g_2 115 [.func (.func 39) #[.pointer (some ⟨g_2_f_0,0,none⟩)] #[]],Ch.box g_2_f_0 178 [.slice a_2_f_0_0 x2_0.l.length c_2_f_0_0,.slice a_2_f_0_1 x2_0.bA.length c_2_f_0_1,.slice a_2_f_0_2 x2_0.begun.length c_2_f_0_2],Ch.arr (Ty.slice aC) 101 a_2_f_0_0 c_2_f_0_0 x2_0.l,Ch.arr (Ty.int .i64) 3 a_2_f_0_1 c_2_f_0_1 x2_0.bA,Ch.arr aC 181 a_2_f_0_2 c_2_f_0_2 x2_0.begun]) (λh=>[]):=by
  delta ld at H
  refine Cf Go.Proofs.Tryz.func140 λK=> ?_
  refine T.scope ?_
  refine Y1 ?_
  refine T.label ?_
  refine Z1 ?_
  have ⟨i,R,S⟩:=bnd H
  refine T.qB (η:=Unit×(η)) (λh=>True) (λh=>(λc=>[]) h.2) (λh=>(λc=>[C i c,Ch.box g_1 111 [.slice a_1_0 x1.length c_1_0],Ch.box g_2 115 [.func (.func 39) #[.pointer (some ⟨g_2_f_0,0,none⟩)] #[]],Ch.box g_2_f_0 178 [.slice a_2_f_0_0 x2_0.l.length c_2_f_0_0,.slice a_2_f_0_1 x2_0.bA.length c_2_f_0_1,.slice a_2_f_0_2 x2_0.begun.length c_2_f_0_2],Ch.arr (Ty.slice aC) 101 a_2_f_0_0 c_2_f_0_0 x2_0.l,Ch.arr (Ty.int .i64) 3 a_2_f_0_1 c_2_f_0_1 x2_0.bA,Ch.arr aC 181 a_2_f_0_2 c_2_f_0_2 x2_0.begun]) h.2) (λh=>(λc=>[Im.sl gu a_1_0 c_1_0 x1]) h.2) ?_ ?_
  ·refine Yl0 ?_
   refine Tq (η:=η) (λj h=>(λd=>[(13,.int .i64 j.1)]) h) [0,2,11,12] (λj h=>(λd=>[C j.2 d]) h) [1,2,3,4,5,6] (λ_ _=>[]) h0 [0,0,0,0,0,0,0] [] R ?_
   rintro k_ j d ay U V m
   refine Y2 ?_
   refine Tb U (λn=> ?_) λn=> ?_
   ·refine Z1 ?_
    refine Zl ?_
    refine Z1 ?_
    have ⟨az,o,W⟩:=bnd n
    refine L.addr 0 rfl (cQ o) λa0 a1 X=> ?_
    subst X
    refine Ly (Yl.ia o rfl rfl rfl rfl rfl rfl) ?_
    refine L.el 0 rfl (aY o).2 ?_
    rintro _
    refine Lc 0 0 ?_
    refine Ll λa2=> ?_
    refine Lt 0 ?_
    refine Z1 ?_
    refine Ll λp=> ?_
    refine Lt 0 ?_
    refine Z2 ?_
    have ⟨k,Z,M⟩:=bnd W
    refine Tj (η:=(bZ×σ)×(η)) (λh=>k = .inl h.1) (λ_=>[]) [0,2,6,11,12,13] (λh=>(λe=>(λq=>[Ch.box p 175 [.int .i64 e.1.first,.int .i64 e.1.count,.string e.1.data],C e.2 q]) h.2) h.1) [1,3,4,5,6,7,8] (λ_=>[]) ?_ ?_
    ·refine Yl0 ?_
     refine Tq (η:=η) (λa h=>(λb=>[(7,.int .i64 a.2.1)]) h) [0,2,5,6,11,12,13] (λa h=>(λb=>[Ch.box p 175 [.int .i64 a.1.first,.int .i64 a.1.count,.string a.1.data],C a.2.2 b]) h) [1,3,4,5,6,7,8] (λ_ _=>[]) d [0,1,0,0,0,0,0,0,0] [] Z ?_
     rintro k_ a b aa ab ac u
     refine Z2 ?_
     refine Tb ab (λv=> ?_) λv=> ?_
     ·refine Z1 ?_
      refine Zl ?_
      refine Z1 ?_
      have ⟨a3,ad,ae⟩:=bnd v
      refine Lk [5,5,5,5] [] (vu ad) λ⟨a4,a5⟩=> ?_
      refine Z2 ?_
      refine Tb ae (λw=> ?_) λw=> ?_
      ·refine Z0 ?_
       cases w
       have hb:=u _ rfl
       subst k
       exact Eg (_,b) rfl [5,5,5,5,5,1,1,1,1] [] 0
      refine Z1 ?_
      have ⟨a6,af,ag⟩:=bnd w
      refine L.br (Ac.call (oZ af) rfl rfl rfl rfl) (Bw.ch 0 rfl (Bw.nil)) rfl rfl rfl ?_
      intro _
      refine Y2 ?_
      have ⟨ah,ai,aj⟩:=bnd ag
      refine Tj0 [(49,.bool ah)] [0,2,5,6,7,10,11,12,13] [] [1,5,6,7,8,9,2,3,4] ?_ ?_
      ·refine Z0 ?_
       refine Lw 41 ai (λy=> ?_) λy=> ?_
       ·refine Z0 ?_
        cases y
        exact Eg0 [1,4,4,4,4,4,1,1,1] 0
       refine Z0 ?_
       cases y
       exact Eg0 [1,4,4,4,4,4,1,1,1] 0
      have ⟨N,ak,O⟩:=bnd aj
      refine Tj (η:=(bZ×σ)×(η)) (λh=>N = .inl h.1) (λ_=>[]) [0,2,5,6,7,10,11,12,13] (λh=>(λf=>(λA=>[Ch.box p 175 [.int .i64 f.1.first,.int .i64 f.1.count,.string f.1.data],C f.2 A]) h.2) h.1) [0,3,4,5,6,7,8] (λ_=>[]) ?_ ?_
      ·refine Tb ak (λB=> ?_) λB=> ?_
       ·refine Z2 ?_
        have ⟨a7,al,am⟩:=bnd B
        refine L.yd [2] [] (hY _ _ _ () _ al) rfl rfl rfl rfl rfl rfl rfl rfl ?_
        intro P
        refine Z0 ?_
        refine Tb am (λF=> ?_) λF=> ?_
        ·refine Z0 ?_
         obtain ⟨a8,hz,an⟩:=eP F
         subst N
         obtain rfl:=(sm O).symm
         refine Z0 ?_
         obtain ⟨a9,hz,ao⟩:=fG an
         subst aa
         have hb:=u _ rfl
         subst k
         obtain rfl:=(sm M).symm
         refine Z0 ?_
         cases ao
         have hb:=m _ rfl
         subst i
         exact Egx ((),P) trivial [0,3,3,0,2,2,2] [1]
        refine Z0 ?_
        refine Lt 2 ?_
        refine Z0 ?_
        cases F
        exact Eg (_,P) rfl [0,0,0,0,0,0,0,0,0] [] 0
       refine Z0 ?_
       cases B
       exact Eg (_,b) rfl [1,1,0,0,0,0,0,0,0] [] 0
      rintro ⟨f,A⟩ hy
      subst hy
      refine Z1 ?_
      refine Lt 0 ?_
      refine Z0 ?_
      have ⟨_,ap,aq⟩:=bnd O
      refine Ly (Yl.sa ap rfl rfl rfl) ?_
      refine Z0 ?_
      refine Lt 0 ?_
      refine Z0 ?_
      cases aq
      exact Eg (_,A) (ac _ rfl) [0,0,1,1,1,0,0,0,0] [] 0
     refine Z0 ?_
     cases v
     have hb:=u _ rfl
     subst k
     exact Eg (_,b) rfl [0,0,0,0,0,0,0,0,0] [] 0
    rintro ⟨e,q⟩ hy
    subst hy
    refine Y1 ?_
    have ⟨Q,ar,au⟩:=bnd M
    refine Tjh (η:=η) (λh=>(λg=>[(73,.bool Q.1)]) h) [0,2,11,12,13] (λh=>(λg=>[C Q.2 g]) h) [0,2,3,4,5,6,7,8] (λ_=>[]) ?_ ?_
    ·refine Z0 ?_
     refine Lw 68 ar (λI=> ?_) λI=> ?_
     ·refine Z0 ?_
      have ⟨ba,av,aw⟩:=bnd I
      refine L.yd [1] [] (hY _ _ _ () _ av) rfl rfl rfl rfl rfl rfl rfl rfl ?_
      intro ax
      refine Z0 ?_
      cases aw
      exact Eg ax trivial [0,0,0,0,0,0,0,0,0] [] 0
     refine Z0 ?_
     cases I
     exact Eg q trivial [1,0,0,0,0,0,0,0,0] [] 0
    rintro g
    refine Tb au (λJ=> ?_) λJ=> ?_
    ·refine Z0 ?_
     cases J
     have hb:=m _ rfl
     subst i
     exact Egx ((),g) trivial [0,2,2,2,2,2,2] [1]
    refine Z0 ?_
    cases J
    exact Eg (_,g) (V _ rfl) [0,2,2,2,2,2,2] [] 1
   refine Z0 ?_
   cases n
   have hb:=m _ rfl
   subst i
   exact Egx ((),d) trivial [0,0,0,0,0,0,0] [0]
  rintro ⟨_,c⟩ _
  refine E.scn ?_
  refine E.off ?_
  cases S
  exact Eo c [0,0,0,0,0,0,0] [] .nil
theorem pq {bH:Int} {line_0:bT} {l:List dK} {r:(List aV)} (H:fT bH line_0 l=some r):CT G 38 [.int .i64 bH,.func (.func 39) #[.pointer (some ⟨N0,0,none⟩)] #[],.slice A3 l.length C3] [Ch.box N0 178 [.slice A0 line_0.l.length C0,.slice A1 line_0.bA.length C1,.slice A2 line_0.begun.length C2],Ch.arr (Ty.slice aC) 101 A0 C0 line_0.l,Ch.arr (Ty.int .i64) 3 A1 C1 line_0.bA,Ch.arr aC 181 A2 C2 line_0.begun] [Im.sl gu A3 C3 l] (λh:(Option Addr×Nat)=> .slice h.1 r.length h.2) (λh=>[Ch.arr fZ 52 h.1 h.2 r,Ch.box N0 178 [.slice A0 line_0.l.length C0,.slice A1 line_0.bA.length C1,.slice A2 line_0.begun.length C2],Ch.arr (Ty.slice aC) 101 A0 C0 line_0.l,Ch.arr (Ty.int .i64) 3 A1 C1 line_0.bA,Ch.arr aC 181 A2 C2 line_0.begun]) (λh=>[]):=by
 delta fT at H
 refine Cf Go.Proofs.Tryz.func38 λK=> ?_
 refine T.yc ?_
 refine Z1 ?_
 refine Lx λg1=> ?_
 refine Z1 ?_
 refine Ll λg2=> ?_
 refine Z2 ?_
 have ⟨r3,h4,H5⟩:=bnd H
 refine Lk [3,3,3,3] [0] (oO N0 A0 C0 A1 C1 A2 C2 A3 C3 h4) λ⟨g6,g7⟩=> ?_
 refine Yl0 ?_
 refine T.gA fZ 52 ?_
 have ⟨e,n,i⟩:=bnd H5
 refine T.rf2 (σ:=(List aV) ⊕ (List aV)) (η:=(Option Addr×Nat)) (X:=bZ) (θ:=Unit) (τ:=(Option Addr×Nat)) (s1:=e) (hx:=λx=>x) (λx t=>[.agg #[.int .i64 x.first,.int .i64 x.count,.string x.data]]) (λx t=>[]) (λ | .inl _=>none | .inr _=>some (.exit 0)) (λf h=>match f with | .inl a=>(λb c=>[Ch.arr fZ 52 b c a,Ch.box g2 106 [.slice b a.length c],Ch.box g1 3 [.int .i64 bH]]) h.1 h.2 | .inr a=>(λb c=>[Ch.arr fZ 52 b c a,Ch.box g2 106 [.slice b a.length c],Ch.box g1 3 [.int .i64 bH]]) h.1 h.2) (λf h=>match f with | .inl a=>(λb c=>[Im.sl gu A3 C3 l]) h.1 h.2 | .inr a=>(λb c=>[Im.sl gu A3 C3 l]) h.1 h.2) 9 [0,6,6,0,0,0,0,0,0] [0] [0] rfl rfl (λ_ _=>rfl) rfl (λyl C hY=>(uQ hY (none,0) g6 A3 C3 g7 N0 A0 C0 A1 C1 A2 C2 n:_)) (λs _ _ h=>by rcases s with _ | _ <;> first | rfl | cases h) rfl rfl rfl rfl rfl ?_ (by generalize e=q; rcases q with _ | _ <;> rfl) ?_
 ·rintro yl K2 (a | _) ⟨b,c⟩ x8 ⟨⟩ v j
  rotate_left
  ·cases j
  refine Z0 ?_
  refine Ll λw=> ?_
  refine Lt 0 ?_
  refine Z0 ?_
  refine E.begin λK3=> ?_
  refine Zl ?_
  refine Z1 ?_
  refine La [] [] (Ac.bs (ty:=(Ty.int .i64)) (xs:=[x8.first,x8.count]) (.cons () [] rfl (.cons () [] rfl .nil)) rfl rfl rfl rfl rfl rfl rfl) λo=> ?_
  refine Z0 ?_
  refine L.frz 0 rfl ?_
  refine La [] [0] (Ac.bs (ty:=fZ) (xs:=[(aV.mk bH 4 [x8.first,x8.count] x8.data)]) (.cons ((some ⟨o,0,none⟩),2) [0] rfl .nil) rfl rfl rfl rfl rfl rfl rfl) λy=> ?_
  refine L.frz 0 rfl ?_
  have ⟨_,p,u⟩:=bnd j
  refine La [1] [0] (Ac.ap (ty:=fZ) p rfl rfl rfl rfl rfl rfl rfl) ?_
  rintro ⟨k,m⟩
  refine Lt 2 ?_
  refine Z1 ?_
  refine Tb u (λg=> ?_) λg=> ?_
  ·refine Z0 ?_
   cases g
   exact E.onx (k,m) [1,0,1] [2] rfl rfl rfl rfl
  refine Z0 ?_
  cases g
  exact E.on (k,m) [1,0,1] [2] rfl rfl rfl rfl
 rintro d z
 rcases e with e68 | e68
 ·refine Z1 ?_
  cases i
  exact E.u3 (d.1,d.2) 0 [0,4,4,4,4] [] rfl (.tmp rfl .nil) rfl rfl rfl
 refine Z1 ?_
 cases i
 exact E.u3 (d.1,d.2) 0 [0,4,4,4,4] [] rfl (.tmp rfl .nil) rfl rfl rfl
theorem lC {s_:bD} {now:Int} {from_:Int} {data:ByteArray} {r:(List fH)×Int×bD} (H:cW s_ now from_ data=some r):CT G 13 [.pointer (some ⟨N0,0,none⟩),.int .i64 now,.int .i64 from_,.string data] [Ch.box N0 98 (pd s_ N1 N6),Ch.box N1 120 (iE s_.model N2 N3 N4),Ch.box N2 178 [.slice A0 s_.model.book.l.length C0,.slice A1 s_.model.book.bA.length C1,.slice A2 s_.model.book.begun.length C2],Ch.arr (Ty.slice aC) 101 A0 C0 s_.model.book.l,Ch.arr (Ty.int .i64) 3 A1 C1 s_.model.book.bA,Ch.arr aC 181 A2 C2 s_.model.book.begun,Ch.box N3 151 (eF s_.model.parser A3 C3),Ch.opt (s_.model.parser.state == (3:Int)) (Ty.int .i64) 3 A3 C3 s_.model.parser.order.aW,Ch.box N4 224 (bY s_.model.aN N5),Ch.box N5 296 [.int .i64 s_.model.aN.g.w,.slice A5 s_.model.aN.g.l.length C5],Ch.arr aD 232 A5 C5 s_.model.aN.g.l,Ch.box N6 158 (gv s_.aP A6 C6 A7 C7 A8 C8 A9 C9 A10 C10 A11 C11 A12 C12),Ch.aro bE 103 A10 C10 s_.aP.kept,Ch.arr Ty.bool 4 A12 C12 s_.aP.message.there] [Im.sl aD A6 C6 s_.aP.current.rows,Im.sl aC A7 C7 s_.aP.current.begun,Im.sl aD A8 C8 s_.aP.aM.rows,Im.sl aC A9 C9 s_.aP.aM.begun,Im.sl Ty.str A11 C11 s_.aP.message.parts,Im.sl (Ty.int .u32) (some ⟨0,0,none⟩) 16 cB] (λh:(Option Addr×Nat)×(Option Addr×Nat)×(Option Addr×Nat)×(Option Addr×Nat)×(Option Addr×Nat)=> .tuple #[.slice h.1.1 r.1.length h.1.2,.int .i64 r.2.1]) (λh=>[Ch.arr gQ 49 h.1.1 h.1.2 r.1,Ch.box N0 98 (pd r.2.2 N1 N6),Ch.box N1 120 (iE r.2.2.model N2 N3 N4),Ch.box N2 178 [.slice A0 r.2.2.model.book.l.length C0,.slice A1 r.2.2.model.book.bA.length C1,.slice A2 r.2.2.model.book.begun.length C2],Ch.arr (Ty.slice aC) 101 A0 C0 r.2.2.model.book.l,Ch.arr (Ty.int .i64) 3 A1 C1 r.2.2.model.book.bA,Ch.arr aC 181 A2 C2 r.2.2.model.book.begun,Ch.box N3 151 (eF r.2.2.model.parser A3 C3),Ch.opt (r.2.2.model.parser.state == (3:Int)) (Ty.int .i64) 3 A3 C3 r.2.2.model.parser.order.aW,Ch.box N4 224 (bY r.2.2.model.aN N5),Ch.box N5 296 [.int .i64 r.2.2.model.aN.g.w,.slice A5 r.2.2.model.aN.g.l.length C5],Ch.arr aD 232 A5 C5 r.2.2.model.aN.g.l,Ch.box N6 158 (gv r.2.2.aP A6 C6 A7 C7 h.2.2.1.1 h.2.2.1.2 h.2.2.2.1.1 h.2.2.2.1.2 h.2.2.2.2.1 h.2.2.2.2.2 A11 C11 A12 C12),Ch.aro bE 103 h.2.2.2.2.1 h.2.2.2.2.2 r.2.2.aP.kept,Ch.arr Ty.bool 4 A12 C12 r.2.2.aP.message.there]) (λh=>[Im.sl aD A6 C6 r.2.2.aP.current.rows,Im.sl aC A7 C7 r.2.2.aP.current.begun,Im.sl aD h.2.2.1.1 h.2.2.1.2 r.2.2.aP.aM.rows,Im.sl aC h.2.2.2.1.1 h.2.2.2.1.2 r.2.2.aP.aM.begun,Im.sl Ty.str A11 C11 r.2.2.aP.message.parts]):=by
 delta cW at H
 refine Cf Go.Proofs.Tryz.func13 λK=> ?_
 refine Z2 ?_
 have ⟨r1,h2,H3⟩:=bnd H
 refine Lk [] [] (pf h2) λ⟨⟩=> ?_
 refine Z1 ?_
 have ⟨r4,h5,H6⟩:=bnd H3
 refine Lk [] [5] (uP h5) λ⟨a7,c8⟩=> ?_
 refine Z0 ?_
 refine Ll λU=> ?_
 refine Lt 0 ?_
 refine Z2 ?_
 have ⟨e,f,i⟩:=bnd H6
 refine Tj0 [(11,.int .i64 e)] [0,2,10] [] [0,1,2,3,7,9,10,12,4,5,6,8,11,13,14] ?_ ?_
 ·refine Tb f (λa=> ?_) λa=> ?_
  ·refine Z0 ?_
   have ⟨V,j,k⟩:=bnd a
   refine Lk [1,1,1,1,1,1,1,1,1,1,1,1,1,1] [1,2,3,4,5,0] (qN j) λ⟨⟩=> ?_
   refine Z0 ?_
   cases k
   exact Eg0 [14,0,0,0,3,4,4,5,0,0,0,0,0,0,0] 0
  refine Z0 ?_
  cases a
  exact Eg0 [0,0,0,0,3,4,4,5,0,0,0,0,0,0,0] 0
 refine Z1 ?_
 refine Zl ?_
 refine Z1 ?_
 refine Tb i (λb=> ?_) λb=> ?_
 ·refine Z1 ?_
  refine La [] [] (Ac.bs (ty:=(Ty.int .i64)) (xs:=[0,0]) (.cons () [] rfl (.cons () [] rfl .nil)) rfl rfl rfl rfl rfl rfl rfl) λm=> ?_
  refine Z0 ?_
  refine L.frz 0 rfl ?_
  refine La [] [0] (Ac.bs (ty:=fZ) (xs:=[(aV.mk 0 4 [0,0] (ByteArray.mk #[]))]) (.cons ((some ⟨m,0,none⟩),2) [0] rfl .nil) rfl rfl rfl rfl rfl rfl rfl) λW=> ?_
  refine L.frz 0 rfl ?_
  have ⟨X,n,o⟩:=bnd b
  refine Lk [1,1,1,5,5,5,1,4,1,1,2,1,1,1] [3,4,5,6,7,0,8] (lS n) λ⟨p,q⟩=> ?_
  refine Z0 ?_
  cases o
  exact Eo ((p,q),(none,0),(A8,C8),(A9,C9),(A10,C10)) [0,0,0,0,0,0,0,0,0,0,0,0,0,0,0] [3,4,5,6,7] (.tmp rfl (.tmp rfl .nil))
 refine Z1 ?_
 refine Tb b (λc=> ?_) λc=> ?_
 ·refine Z1 ?_
  refine E.gA gQ 49 ?_
  cases c
  exact Eo ((none,0),(none,0),(A8,C8),(A9,C9),(A10,C10)) [0,1,1,1,5,5,5,1,4,1,1,2,1,1,1] [1,2,3,4,5] (.tmp rfl (.tmp rfl .nil))
 refine Z1 ?_
 refine Lt 1 ?_
 refine Z2 ?_
 refine Tb c (λd=> ?_) λd=> ?_
 ·refine Y1 ?_
  refine Td [] [0,0,0,0,0,0,0,1,1,1,1,1] mo ?_
  refine Dq 0 ?_
  refine Dq 1 ?_
  refine Dq 2 ?_
  refine Db 3 0 ?_
  refine Db 4 1 ?_
  refine Db 6 1 ?_
  refine Dq 8 ?_
  refine Db 9 1 ?_
  have ⟨Y,s,t⟩:=bnd d
  refine Dk [] [0] (qG s) λ⟨⟩=> ?_
  have ⟨Z,u,v⟩:=bnd t
  refine Dk [] [0] (qG u) λ⟨⟩=> ?_
  have ⟨aa,x,y⟩:=bnd v
  refine Dk [0,0,0] [1,2,3,4,5] (sK x) λ⟨⟨z,A⟩,⟨B,C⟩,⟨F,I⟩⟩=> ?_
  refine Dn ?_
  refine Z1 ?_
  refine E.gA gQ 49 ?_
  cases y
  exact Eo ((none,0),(none,0),(z,A),(B,C),(F,I)) [0,0,1,1,4,4,4,1,3,1,1,1,1,1,1] [0,1,2,3,4] (.tmp rfl (.tmp rfl .nil))
 refine Z1 ?_
 have ⟨ac,J,M⟩:=bnd d
 refine Lk [] [0] (rH J) λ⟨ad,ae⟩=> ?_
 refine Y1 ?_
 refine Td [] [1,1,1,1,1,1,1,1,1,1,1,1,1,1,1] mo ?_
 refine Dq 0 ?_
 refine Dq 1 ?_
 refine Dq 2 ?_
 refine Dq 3 ?_
 refine Dq 4 ?_
 refine Db 5 0 ?_
 refine Dq 6 ?_
 refine Dq 7 ?_
 refine Dq 8 ?_
 refine Db 9 0 ?_
 refine Dq 10 ?_
 refine Dq 11 ?_
 refine Db 12 2 ?_
 refine Dq 13 ?_
 refine Dq 14 ?_
 refine D.frz 0 rfl ?_
 have ⟨af,N,O⟩:=bnd M
 refine D.one rfl rfl rfl (Dp.ab [3,7,7,7] [0] [5,5,5,1,4,4,4,4,1,1,1,1,1,1,1] (Ac.call (pq N) rfl rfl rfl rfl) rfl rfl rfl rfl rfl rfl (λ_=>rfl) ?_)
 rintro ⟨ag,ah⟩
 refine D.frz 0 rfl ?_
 have ⟨ai,P,Q⟩:=bnd O
 refine D.one rfl rfl rfl (Dp.ab [0,1,1,5,5,5,1,4,1,1,2,1,1,1] [3,4,5,6,7,0,8] [1,14,1,1,4,5,5,6,1,1,1,1,1,1,1] (Ac.call (lS P) rfl rfl rfl rfl) rfl rfl rfl rfl rfl rfl (λ_=>rfl) ?_)
 rintro ⟨R,S⟩
 refine Dq 17 ?_
 refine Dq 18 ?_
 refine Dn ?_
 refine Z0 ?_
 cases Q
 exact Eo ((R,S),(none,0),(A8,C8),(A9,C9),(A10,C10)) [15,0,1,1,5,5,5,1,4,1,1,2,1,1,1] [3,4,5,6,7] (.tmp rfl (.tmp rfl .nil))
theorem tK {s_:bD} {r:Int} (H:ml s_=some r):CT G 24 [.pointer (some ⟨N0,0,none⟩)] [Ch.box N0 98 (pd s_ N1 N6),Ch.box N1 120 (iE s_.model N2 N3 N4),Ch.box N2 178 [.slice A0 s_.model.book.l.length C0,.slice A1 s_.model.book.bA.length C1,.slice A2 s_.model.book.begun.length C2],Ch.arr (Ty.slice aC) 101 A0 C0 s_.model.book.l,Ch.arr (Ty.int .i64) 3 A1 C1 s_.model.book.bA,Ch.arr aC 181 A2 C2 s_.model.book.begun,Ch.box N3 151 (eF s_.model.parser A3 C3),Ch.opt (s_.model.parser.state == (3:Int)) (Ty.int .i64) 3 A3 C3 s_.model.parser.order.aW,Ch.box N4 224 (bY s_.model.aN N5),Ch.box N5 296 [.int .i64 s_.model.aN.g.w,.slice A5 s_.model.aN.g.l.length C5],Ch.arr aD 232 A5 C5 s_.model.aN.g.l,Ch.box N6 158 (gv s_.aP A6 C6 A7 C7 A8 C8 A9 C9 A10 C10 A11 C11 A12 C12),Ch.aro bE 103 A10 C10 s_.aP.kept,Ch.arr Ty.bool 4 A12 C12 s_.aP.message.there] [Im.sl aD A6 C6 s_.aP.current.rows,Im.sl aC A7 C7 s_.aP.current.begun,Im.sl aD A8 C8 s_.aP.aM.rows,Im.sl aC A9 C9 s_.aP.aM.begun,Im.sl Ty.str A11 C11 s_.aP.message.parts] (λ_:Unit=> .int .i64 r) (λh=>[Ch.box N0 98 (pd s_ N1 N6),Ch.box N1 120 (iE s_.model N2 N3 N4),Ch.box N2 178 [.slice A0 s_.model.book.l.length C0,.slice A1 s_.model.book.bA.length C1,.slice A2 s_.model.book.begun.length C2],Ch.arr (Ty.slice aC) 101 A0 C0 s_.model.book.l,Ch.arr (Ty.int .i64) 3 A1 C1 s_.model.book.bA,Ch.arr aC 181 A2 C2 s_.model.book.begun,Ch.box N3 151 (eF s_.model.parser A3 C3),Ch.opt (s_.model.parser.state == (3:Int)) (Ty.int .i64) 3 A3 C3 s_.model.parser.order.aW,Ch.box N4 224 (bY s_.model.aN N5),Ch.box N5 296 [.int .i64 s_.model.aN.g.w,.slice A5 s_.model.aN.g.l.length C5],Ch.arr aD 232 A5 C5 s_.model.aN.g.l,Ch.box N6 158 (gv s_.aP A6 C6 A7 C7 A8 C8 A9 C9 A10 C10 A11 C11 A12 C12),Ch.aro bE 103 A10 C10 s_.aP.kept,Ch.arr Ty.bool 4 A12 C12 s_.aP.message.there]) (λh=>[]):=by
 delta ml at H
 refine Cf Go.Proofs.Tryz.func24 λK=> ?_
 refine Z2 ?_
 cases H
 exact Eo1 () [0,0,0,0,0,0,0,0,0,0,0,0,0,0] []
theorem qO {s_:aI} {r:Int} (H:la s_=some r):CT G 58 [.pointer (some ⟨N0,0,none⟩)] [Ch.box N0 158 (gv s_ A0 C0 A1 C1 A2 C2 A3 C3 A4 C4 A5 C5 A6 C6),Ch.aro bE 103 A4 C4 s_.kept,Ch.arr Ty.bool 4 A6 C6 s_.message.there] [Im.sl aD A0 C0 s_.current.rows,Im.sl aC A1 C1 s_.current.begun,Im.sl aD A2 C2 s_.aM.rows,Im.sl aC A3 C3 s_.aM.begun,Im.sl Ty.str A5 C5 s_.message.parts] (λ_:Unit=> .int .i64 r) (λh=>[Ch.box N0 158 (gv s_ A0 C0 A1 C1 A2 C2 A3 C3 A4 C4 A5 C5 A6 C6),Ch.aro bE 103 A4 C4 s_.kept,Ch.arr Ty.bool 4 A6 C6 s_.message.there]) (λh=>[]):=by
 delta la at H
 refine Cf Go.Proofs.Tryz.func58 λK=> ?_
 refine Z2 ?_
 cases H
 exact Eo1 () [0,0,0] []
theorem qP {s_:bD} {r:Int} (H:jz s_=some r):CT G 25 [.pointer (some ⟨N0,0,none⟩)] [Ch.box N0 98 (pd s_ N1 N6),Ch.box N1 120 (iE s_.model N2 N3 N4),Ch.box N2 178 [.slice A0 s_.model.book.l.length C0,.slice A1 s_.model.book.bA.length C1,.slice A2 s_.model.book.begun.length C2],Ch.arr (Ty.slice aC) 101 A0 C0 s_.model.book.l,Ch.arr (Ty.int .i64) 3 A1 C1 s_.model.book.bA,Ch.arr aC 181 A2 C2 s_.model.book.begun,Ch.box N3 151 (eF s_.model.parser A3 C3),Ch.opt (s_.model.parser.state == (3:Int)) (Ty.int .i64) 3 A3 C3 s_.model.parser.order.aW,Ch.box N4 224 (bY s_.model.aN N5),Ch.box N5 296 [.int .i64 s_.model.aN.g.w,.slice A5 s_.model.aN.g.l.length C5],Ch.arr aD 232 A5 C5 s_.model.aN.g.l,Ch.box N6 158 (gv s_.aP A6 C6 A7 C7 A8 C8 A9 C9 A10 C10 A11 C11 A12 C12),Ch.aro bE 103 A10 C10 s_.aP.kept,Ch.arr Ty.bool 4 A12 C12 s_.aP.message.there] [Im.sl aD A6 C6 s_.aP.current.rows,Im.sl aC A7 C7 s_.aP.current.begun,Im.sl aD A8 C8 s_.aP.aM.rows,Im.sl aC A9 C9 s_.aP.aM.begun,Im.sl Ty.str A11 C11 s_.aP.message.parts] (λ_:Unit=> .int .i64 r) (λh=>[Ch.box N0 98 (pd s_ N1 N6),Ch.box N1 120 (iE s_.model N2 N3 N4),Ch.box N2 178 [.slice A0 s_.model.book.l.length C0,.slice A1 s_.model.book.bA.length C1,.slice A2 s_.model.book.begun.length C2],Ch.arr (Ty.slice aC) 101 A0 C0 s_.model.book.l,Ch.arr (Ty.int .i64) 3 A1 C1 s_.model.book.bA,Ch.arr aC 181 A2 C2 s_.model.book.begun,Ch.box N3 151 (eF s_.model.parser A3 C3),Ch.opt (s_.model.parser.state == (3:Int)) (Ty.int .i64) 3 A3 C3 s_.model.parser.order.aW,Ch.box N4 224 (bY s_.model.aN N5),Ch.box N5 296 [.int .i64 s_.model.aN.g.w,.slice A5 s_.model.aN.g.l.length C5],Ch.arr aD 232 A5 C5 s_.model.aN.g.l,Ch.box N6 158 (gv s_.aP A6 C6 A7 C7 A8 C8 A9 C9 A10 C10 A11 C11 A12 C12),Ch.aro bE 103 A10 C10 s_.aP.kept,Ch.arr Ty.bool 4 A12 C12 s_.aP.message.there]) (λh=>[]):=by
 delta jz at H
 refine Cf Go.Proofs.Tryz.func25 λK=> ?_
 refine Z2 ?_
 have ⟨r1,h2,H3⟩:=bnd H
 refine Lk [11,11,11] [0,1,2,3,4] (qO h2) λ⟨⟩=> ?_
 refine Z0 ?_
 cases H3
 exact Eo1 () [3,3,3,3,3,3,3,3,3,3,3,0,0,0] []
theorem yv {r:Bool} (H:lZ=some r):CT G 7 [] [] [Im.sl (Ty.int .u32) (some ⟨0,0,none⟩) 16 cB] (λ_:Unit=> .bool r) (λh=>[]) (λh=>[]):=by
 delta lZ at H
 refine Cf Go.Proofs.Tryz.func7 λK=> ?_
 refine Z2 ?_
 have ⟨r1,h2,H3⟩:=bnd H
 refine Lk [] [] (uM h2) λ⟨g4,g5,g6,⟨a7,c8⟩,⟨a9,P⟩,⟨Q,R⟩,S,⟨U,V⟩,⟨W,X⟩,Y,Z,⟨aa,ab⟩,ac,⟨ad,ae⟩,⟨af,ag⟩,⟨ah,ai⟩,⟨aj,ak⟩,⟨al,am⟩,⟨an,ao⟩,⟨ap,aq⟩⟩=> ?_
 refine Z2 ?_
 refine Ly (Yl.pn rfl rfl rfl rfl rfl rfl) ?_
 refine Z0 ?_
 refine T.cond rfl (λh=>nomatch h) (λ_=> ?_)
 refine Z1 ?_
 have ⟨ar,k,l⟩:=bnd H3
 refine Lk [0,0,0,0,0,0,0,0,0,0,0,0,0,0] [0,1,2,3,4,5] (nL k) λ⟨⟨au,av⟩,⟨aw,ax⟩,⟨ay,az⟩,⟨a0,a1⟩,⟨a2,a3⟩⟩=> ?_
 refine Z1 ?_
 refine La [] [] (Ac.bs (ty:=(Ty.int .i64)) (xs:=[0,0]) (.cons () [] rfl (.cons () [] rfl .nil)) rfl rfl rfl rfl rfl rfl rfl) λa4=> ?_
 refine Z0 ?_
 refine L.frz 0 rfl ?_
 have ⟨a5,m,n⟩:=bnd l
 refine Lk [] [0,11] (ni m) λ⟨⟩=> ?_
 have ⟨a6,o,p⟩:=bnd n
 refine Lk [1,1,1,1,1,1,1,1,1,1,1,1,1,1] [1,2,3,4,5,11] (lC o) λ⟨⟨a8,ba⟩,⟨bb,bc⟩,⟨bd,be⟩,⟨bf,bg⟩,⟨bh,bi⟩⟩=> ?_
 refine Z1 ?_
 refine La [] [] (Ac.bs (ty:=(Ty.int .i64)) (xs:=[1,0]) (.cons () [] rfl (.cons () [] rfl .nil)) rfl rfl rfl rfl rfl rfl rfl) λbj=> ?_
 refine Z0 ?_
 refine L.frz 0 rfl ?_
 have ⟨bk,q,s⟩:=bnd p
 refine Lk [] [0,17] (ni q) λ⟨⟩=> ?_
 have ⟨bl,t,u⟩:=bnd s
 refine Lk [1,1,1,1,1,1,1,1,1,1,1,1,1,1] [1,2,3,4,5,17] (lC t) λ⟨⟨bm,bn⟩,⟨bo,bp⟩,⟨bq,br⟩,⟨bt,bu⟩,⟨bv,bw⟩⟩=> ?_
 refine Y1 ?_
 have ⟨w,x,y⟩:=bnd u
 refine Tj0 [(0,.bool w)] [] [] [1,2,3,7,9,10,12,4,5,6,8,11,13,14] ?_ ?_
 ·refine Z0 ?_
  refine Lw 33 x (λa=> ?_) λa=> ?_
  ·refine Z0 ?_
   have ⟨z,b,A⟩:=bnd a
   refine L.lN 16 rfl (cQ b) λbx B=> ?_
   subst B
   refine Ly (Yl.ia b rfl rfl rfl rfl rfl rfl) ?_
   refine Z0 ?_
   refine Ly (Yl.lo (v:= .int .i64 z.to) 16 ((0:Int).toNat) 0 (aY b).2 rfl rfl rfl rfl (λ_=>rfl)) ?_
   refine Z0 ?_
   refine Lw 40 A (λc=> ?_) λc=> ?_
   ·refine Z0 ?_
    refine Lw 44 c (λd=> ?_) λd=> ?_
    ·refine Z0 ?_
     refine Lw 49 d (λe=> ?_) λe=> ?_
     ·refine Z0 ?_
      have ⟨C,f,F⟩:=bnd e
      refine L.lN 15 rfl (cQ f) λbz I=> ?_
      subst I
      refine Ly (Yl.ia f rfl rfl rfl rfl rfl rfl) ?_
      refine Z0 ?_
      refine Ly (Yl.lo (v:= .int .i64 C.to) 15 ((0:Int).toNat) 0 (aY f).2 rfl rfl rfl rfl (λ_=>rfl)) ?_
      refine Z0 ?_
      refine Lw 56 F (λg=> ?_) λg=> ?_
      ·refine Z0 ?_
       refine Lw 60 g (λi=> ?_) λi=> ?_
       ·refine Z0 ?_
        have ⟨b0,J,M⟩:=bnd i
        refine Lk [1,1,1,1,1,1,1,1,1,1,1,1,1,1] [0,1,2,3,4] (tK J) λ⟨⟩=> ?_
        refine Z0 ?_
        refine Lw 65 M (λj=> ?_) λj=> ?_
        ·refine Z0 ?_
         have ⟨b1,N,O⟩:=bnd j
         refine Lk [0,0,0,0,0,0,0,0,0,0,0,0,0,0] [0,1,2,3,4] (qP N) λ⟨⟩=> ?_
         refine Z0 ?_
         cases O
         exact Eg0 [0,0,0,3,4,4,5,0,0,0,0,0,0,0] 0
        refine Z0 ?_
        cases j
        exact Eg0 [0,0,0,3,4,4,5,0,0,0,0,0,0,0] 0
       refine Z0 ?_
       cases i
       exact Eg0 [1,1,1,4,5,5,6,1,1,1,1,1,1,1] 0
      refine Z0 ?_
      cases g
      exact Eg0 [1,1,1,4,5,5,6,1,1,1,1,1,1,1] 0
     refine Z0 ?_
     cases e
     exact Eg0 [1,1,1,4,5,5,6,1,1,1,1,1,1,1] 0
    refine Z0 ?_
    cases d
    exact Eg0 [1,1,1,4,5,5,6,1,1,1,1,1,1,1] 0
   refine Z0 ?_
   cases c
   exact Eg0 [1,1,1,4,5,5,6,1,1,1,1,1,1,1] 0
  refine Z0 ?_
  cases a
  exact Eg0 [1,1,1,4,5,5,6,1,1,1,1,1,1,1] 0
 refine Z0 ?_
 cases y
 exact Eo1 () [] []
theorem Bz {c:gp} {r:ic×gp} (H:oS c=some r):CT G 8 [.agg (Ix c).toArray] [] [] (λ_:Unit=> .tuple #[.agg (MF r.1).toArray,.agg (Ix r.2).toArray]) (λh=>[]) (λh=>[]):=by
 delta oS at H
 refine Cf Go.Proofs.Tryz.func8 λK=> ?_
 refine Z1 ?_
 refine Lx λg1=> ?_
 refine Ll λg2=> ?_
 refine Ll λg3=> ?_
 refine Z1 ?_
 refine Lt 2 ?_
 refine Z0 ?_
 refine Lt 0 ?_
 refine Y1 ?_
 refine Td [13] [0,0] mo ?_
 refine Dq 0 ?_
 refine Db 1 0 ?_
 refine Dq 2 ?_
 refine Db 3 0 ?_
 refine Dq 4 ?_
 refine Db 5 0 ?_
 refine Dq 6 ?_
 refine Db 7 0 ?_
 refine Dq 8 ?_
 refine Db 9 0 ?_
 refine Dq 10 ?_
 refine Db 11 0 ?_
 refine Da [0] [] rfl rfl (Ac.stb rfl rfl rfl rfl rfl rfl) λ_=> ?_
 refine Dt 1 ?_
 refine Dn ?_
 refine Z0 ?_
 cases H
 exact Eo () [] [] (.cell 2 rfl rfl rfl (.cell 0 rfl rfl rfl .nil))
theorem vU {s_:ByteArray} {n_:Int} {r:ByteArray} (H:jf s_ n_=some r):CT G 14 [.string s_,.int .i64 n_] [] [] (λ_:Unit=> .string r) (λh=>[]) (λh=>[]):=by
 delta jf at H
 refine Cf Go.Proofs.Tryz.func14 λK=> ?_
 refine Z3 ?_
 refine Tb H (λH4=> ?_) λH4=> ?_
 ·refine Z1 ?_
  have ⟨_,h5,H6⟩:=bnd H4
  refine Ly (Yl.sc h5 rfl rfl rfl rfl rfl rfl) ?_
  refine Z0 ?_
  cases H6
  exact Eo1 () [] []
 refine Z1 ?_
 cases H4
 exact Eo1 () [] []
theorem BA {e:cU} {r:cU} (H:mz e=some r):CT G 11 [.agg (KA e).toArray] [] [] (λ_:Unit=> .agg (KA r).toArray) (λh=>[]) (λh=>[]):=by
 delta mz at H
 refine Cf Go.Proofs.Tryz.func11 λK=> ?_
 refine Z1 ?_
 refine Lx λg1=> ?_
 refine Ll λg2=> ?_
 refine Z1 ?_
 have ⟨r3,h4,H5⟩:=bnd H
 refine Lk [] [] (vU h4) λ⟨⟩=> ?_
 refine Z0 ?_
 refine Lt 1 ?_
 refine Y2 ?_
 have ⟨e9,f,g⟩:=bnd H5
 refine Tj0 [(14,.bool e9)] [1,2] [] [0,1] ?_ ?_
 ·refine Z0 ?_
  refine Lw 10 f (λa=> ?_) λa=> ?_
  ·refine Z0 ?_
   cases a
   exact Eg0 [0,0] 0
  refine Z0 ?_
  cases a
  exact Eg0 [0,0] 0
 have ⟨i,j,k⟩:=bnd g
 refine Tj0 [] [1,2] [Ch.box g1 36 (KA i)] [1] ?_ ?_
 ·refine Tb j (λb=> ?_) λb=> ?_
  ·refine Z0 ?_
   refine Lt 0 ?_
   refine Z0 ?_
   cases b
   exact Eg0 [0,0] 0
  refine Z0 ?_
  cases b
  exact Eg0 [0,0] 0
 refine Y2 ?_
 have ⟨l,m,n⟩:=bnd k
 refine Tj0 [(23,.bool l)] [1,2] [] [0,1] ?_ ?_
 ·refine Z0 ?_
  refine Lw 19 m (λc=> ?_) λc=> ?_
  ·refine Z0 ?_
   cases c
   exact Eg0 [0,0] 0
  refine Z0 ?_
  cases c
  exact Eg0 [0,0] 0
 have ⟨o,p,q⟩:=bnd n
 refine Tj0 [] [1,2] [Ch.box g1 36 (KA o)] [1] ?_ ?_
 ·refine Tb p (λd=> ?_) λd=> ?_
  ·refine Z0 ?_
   refine Lt 0 ?_
   refine Z0 ?_
   cases d
   exact Eg0 [0,0] 0
  refine Z0 ?_
  cases d
  exact Eg0 [0,0] 0
 refine Z1 ?_
 refine Lt 1 ?_
 refine Z0 ?_
 cases q
 exact Eo () [] [] (.cell 0 rfl rfl rfl .nil)
theorem sL {e:ju} {r:Int} (H:iX e=some r):CT G 65 [.agg (Iy e).toArray] [] [] (λ_:Unit=> .int .i64 r) (λh=>[]) (λh=>[]):=by
 delta iX at H
 refine Cf Go.Proofs.Tryz.func65 λK=> ?_
 refine Z1 ?_
 refine Lx λg1=> ?_
 refine Z2 ?_
 have ⟨a,l,b⟩:=bnd H
 refine Tj (η:=Unit×Unit) (λh=>a = .inl h.1) (λ_=>[]) [] (λ_=>[]) [0] (λ_=>[]) ?_ ?_
 ·refine Zl ?_
  refine Z1 ?_
  refine Tb l (λc=> ?_) λc=> ?_
  ·refine Z1 ?_
   refine Tb c (λd=> ?_) λd=> ?_
   ·refine Z1 ?_
    obtain ⟨t,hz,m⟩:=eP d
    subst a
    obtain rfl:=(sm b).symm
    refine Z0 ?_
    cases m
    exact Eo1 () [] []
   refine Z0 ?_
   cases d
   exact Eg (_,()) rfl [0] [] 0
  refine Z1 ?_
  refine Tb c (λf=> ?_) λf=> ?_
  ·refine Y1 ?_
   have ⟨n,o,p⟩:=bnd f
   refine Tj0 [(30,.bool n)] [] [] [0] ?_ ?_
   ·refine Z0 ?_
    refine Lw 16 o (λg=> ?_) λg=> ?_
    ·refine Z0 ?_
     cases g
     exact Eg0 [0] 0
    refine Z0 ?_
    refine Lw 21 g (λi=> ?_) λi=> ?_
    ·refine Z0 ?_
     cases i
     exact Eg0 [0] 0
    refine Z0 ?_
    refine Lw 26 i (λj=> ?_) λj=> ?_
    ·refine Z0 ?_
     cases j
     exact Eg0 [0] 0
    refine Z0 ?_
    cases j
    exact Eg0 [0] 0
   refine Tb p (λk=> ?_) λk=> ?_
   ·refine Z1 ?_
    obtain ⟨u,hz,q⟩:=eP k
    subst a
    obtain rfl:=(sm b).symm
    refine Z0 ?_
    cases q
    exact Eo1 () [] []
   refine Z0 ?_
   cases k
   exact Eg (_,()) rfl [0] [] 0
  refine Z1 ?_
  obtain ⟨v,hz,s⟩:=eP f
  subst a
  obtain rfl:=(sm b).symm
  refine Z0 ?_
  cases s
  exact Eo1 () [] []
 rintro ⟨w,⟨⟩⟩ hy
 subst hy
 refine Z1 ?_
 cases b
 exact Eo1 () [] []
theorem k6 {n_:Int} {lo:Int} {hi:Int} {r:Int} (H:gD n_ lo hi=some r):CT G 129 [.int .i64 n_,.int .i64 lo,.int .i64 hi] [] [] (λ_:Unit=> .int .i64 r) (λh=>[]) (λh=>[]):=by
 delta gD at H
 refine Cf Go.Proofs.Tryz.func129 λK=> ?_
 refine Z2 ?_
 cases H
 exact Eo1 () [] []
theorem ij {ys:List aG} (a_0:Option Addr) (c_0:Nat) (a9:Option Addr) (c9:Nat) {lo hi:Int} (hv:Vw aD ys a_0 c_0 a9 c9 lo hi) {r:List aG} (H:dW (cut ys lo hi)=some r):CT G 184 [.slice a9 (cut ys lo hi).length c9] [Ch.arr aD 232 a_0 c_0 ys] [] (λh:(Option Addr×Nat)=> .slice h.1 r.length h.2) (λh=>[Ch.arr aD 232 h.1 h.2 r,Ch.arr aD 232 a_0 c_0 ys]) (λh=>[]):=by
  delta dW at H
  refine Cf Go.Proofs.Tryz.func184 λK=> ?_
  have ⟨_,h0,H⟩:=bnd H
  have hr:=Option.some.inj H
  refine T.seq (T.region (L.q 1 rfl (L.nil (E.then (T.seq (T.seq (T.region ?_)))))))
  refine L.q 1 rfl ?_
  refine L.MN 0 hv rfl rfl rfl rfl rfl rfl rfl rfl rfl (λhx=> ?_) ?_
  · refine L.nil (E.then (T.cond rfl (λ_=> ?_) (λh=>nomatch h)))
    refine T.seq (T.region (L.q 1 rfl (L.nil (E.then (T.ret (E.pt ?_))))))
    rw [hx] at hr
    subst r
    refine E.gA aD 232 ?_
    exact E.ret (none,0) [0,0] [] (.tmp rfl .nil) rfl rfl rfl
  · refine L.nil (E.then (T.cond rfl (λh=>nomatch h) (λ_=> ?_)))
    refine T.skip (E.then (T.seq (T.region ?_)))
    refine L.a [] [] (Ac.bs (ty:=aD) (xs:=[]) .nil rfl rfl rfl rfl rfl rfl rfl) rfl rfl rfl rfl rfl ?_
    intro g1
    refine L.q 1 rfl ?_
    refine L.a [0,0] [] (Ac.apv (ty:=aD) hv h0 rfl rfl rfl rfl rfl rfl rfl) rfl rfl rfl rfl rfl ?_
    rintro ⟨a1,c1⟩
    refine L.q 1 rfl ?_
    refine L.nil (E.then (T.ret ?_))
    subst r
    exact E.ret (a1,c1) [0,0] [] (.tmp rfl .nil) rfl rfl rfl
end Go.Tw.X

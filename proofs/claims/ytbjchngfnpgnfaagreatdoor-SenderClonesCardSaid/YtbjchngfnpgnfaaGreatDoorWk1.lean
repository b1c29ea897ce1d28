import Derived.Test.YtbjchngfnpgnfaaGreatDoorFw2
import Derived.Test.YtbjchngfnpgnfaaGreatDoorProg
import Derived.Test.YtbjchngfnpgnfaaGreatDoorXp1
set_option maxHeartbeats 2000000
set_option linter.unusedVariables false
set_option linter.unusedSimpArgs false
set_option maxRecDepth 10000
namespace Go.Tw.X
open Go Go.Tw
def tyRowCell : Ty RowCell := ⟨3, Unit, fun x h => [.int .i32 x.rune, .int .i64 x.style, .int .i64 x.part], fun x h => [], fun _ _ => rfl, by simp [Value.oneCell']⟩
def tyRowRow : Ty RowRow := ⟨2, (Option Addr × Nat), fun x h => [.slice h.1 x.cells.length h.2, .bool x.wrapped], fun x h => [Im.sl tyRowCell h.1 h.2 x.cells], fun _ _ => rfl, by simp [Value.oneCell']⟩
def tyRowGlyph : Ty RowGlyph := ⟨2, Unit, fun x h => [.int .i32 x.rune, .int .i64 x.style], fun x h => [], fun _ _ => rfl, by simp [Value.oneCell']⟩
def tySnapSnap : Ty SnapSnap := ⟨10, (Option Addr × Nat) × (Option Addr × Nat), fun x h => [.int .i64 x.k, .int .i64 x.w, .int .i64 x.h, .int .i64 x.x, .int .i64 x.y, .string x.title, .slice h.1.1 x.rows.length h.1.2, .int .i64 x.len, .int .i64 x.chain, .slice h.2.1 x.begun.length h.2.2], fun x h => [Im.sl tyRowRow h.1.1 h.1.2 x.rows, Im.sl tyRowGlyph h.2.1 h.2.2 x.begun], fun _ _ => rfl, by simp [Value.oneCell']⟩
def tyLaw19Act : Ty Law19Act := ⟨15, (Option Addr × Nat) × (Option Addr × Nat), fun x h => [.int .i64 x.kind, .int .i64 x.k, .int .i64 x.iD, .int .i64 x.later, .string x.have_, .int .i64 x.snap.k, .int .i64 x.snap.w, .int .i64 x.snap.h, .int .i64 x.snap.x, .int .i64 x.snap.y, .string x.snap.title, .slice h.1.1 x.snap.rows.length h.1.2, .int .i64 x.snap.len, .int .i64 x.snap.chain, .slice h.2.1 x.snap.begun.length h.2.2], fun x h => [Im.sl tyRowRow h.1.1 h.1.2 x.snap.rows, Im.sl tyRowGlyph h.2.1 h.2.2 x.snap.begun], fun _ _ => rfl, by simp [Value.oneCell']⟩
def tyRef09Cell : Ty Ref09Cell := ⟨3, Unit, fun x h => [.int .i64 x.rune, .int .i64 x.style, .int .i64 x.part], fun x h => [], fun _ _ => rfl, by simp [Value.oneCell']⟩
def tyRef09Row : Ty Ref09Row := ⟨2, (Option Addr × Nat), fun x h => [.slice h.1 x.l.length h.2, .bool x.wrapped], fun x h => [Im.sl tyRef09Cell h.1 h.2 x.l], fun _ _ => rfl, by simp [Value.oneCell']⟩
def tyRef09Glyph : Ty Ref09Glyph := ⟨2, Unit, fun x h => [.int .i64 x.rune, .int .i64 x.style], fun x h => [], fun _ _ => rfl, by simp [Value.oneCell']⟩
def tyRef16Snap : Ty Ref16Snap := ⟨10, (Option Addr × Nat) × (Option Addr × Nat), fun x h => [.int .i64 x.k, .int .i64 x.w, .int .i64 x.h, .int .i64 x.x, .int .i64 x.y, .string x.title, .slice h.1.1 x.rows.length h.1.2, .int .i64 x.len, .int .i64 x.chain, .slice h.2.1 x.begun.length h.2.2], fun x h => [Im.sl tyRef09Row h.1.1 h.1.2 x.rows, Im.sl tyRef09Glyph h.2.1 h.2.2 x.begun], fun _ _ => rfl, by simp [Value.oneCell']⟩
def tyGramGram : Ty GramGram := ⟨4, (Option Addr × Nat), fun x h => [.int .i64 x.epoch, .int .i64 x.kind, .slice h.1 x.nums.length h.2, .string x.data], fun x h => [Im.sl (Ty.int .i64) h.1 h.2 x.nums], fun _ _ => rfl, by simp [Value.oneCell']⟩
def tyRef03Gram : Ty Ref03Gram := ⟨4, (Option Addr × Nat), fun x h => [.int .i64 x.epoch, .int .i64 x.kind, .slice h.1 x.nums.length h.2, .string x.data], fun x h => [Im.sl (Ty.int .i64) h.1 h.2 x.nums], fun _ _ => rfl, by simp [Value.oneCell']⟩
abbrev bx33 (x : Ref16Snap) (a1 : Option Addr) (c1 : Nat) (a2 : Option Addr) (c2 : Nat) : List Value := [.int .i64 x.k, .int .i64 x.w, .int .i64 x.h, .int .i64 x.x, .int .i64 x.y, .string x.title, .slice a1 x.rows.length c1, .int .i64 x.len, .int .i64 x.chain, .slice a2 x.begun.length c2]
abbrev bx38 (x : Ref19Sender) (a1 : Option Addr) (c1 : Nat) (a2 : Option Addr) (c2 : Nat) (a3 : Option Addr) (c3 : Nat) (a4 : Option Addr) (c4 : Nat) (a5 : Option Addr) (c5 : Nat) (a6 : Option Addr) (c6 : Nat) (a7 : Option Addr) (c7 : Nat) : List Value := [.int .i64 x.c.part, .int .i64 x.c.every, .int .i64 x.c.most, .int .i64 x.current.k, .int .i64 x.current.w, .int .i64 x.current.h, .int .i64 x.current.x, .int .i64 x.current.y, .string x.current.title, .slice a1 x.current.rows.length c1, .int .i64 x.current.len, .int .i64 x.current.chain, .slice a2 x.current.begun.length c2, .int .i64 x.acked.k, .int .i64 x.acked.w, .int .i64 x.acked.h, .int .i64 x.acked.x, .int .i64 x.acked.y, .string x.acked.title, .slice a3 x.acked.rows.length c3, .int .i64 x.acked.len, .int .i64 x.acked.chain, .slice a4 x.acked.begun.length c4, .slice a5 x.kept.length c5, .int .i64 x.iD, .int .i64 x.key, .int .i64 x.base, .slice a6 x.parts.length c6, .slice a7 x.there.length c7, .int .i64 x.due, .int .i64 x.next]
abbrev bx43 (x : SnapSnap) (a1 : Option Addr) (c1 : Nat) (a2 : Option Addr) (c2 : Nat) : List Value := [.int .i64 x.k, .int .i64 x.w, .int .i64 x.h, .int .i64 x.x, .int .i64 x.y, .string x.title, .slice a1 x.rows.length c1, .int .i64 x.len, .int .i64 x.chain, .slice a2 x.begun.length c2]
abbrev bx45 (x : Law19Act) (a1 : Option Addr) (c1 : Nat) (a2 : Option Addr) (c2 : Nat) : List Value := [.int .i64 x.kind, .int .i64 x.k, .int .i64 x.iD, .int .i64 x.later, .string x.have_, .int .i64 x.snap.k, .int .i64 x.snap.w, .int .i64 x.snap.h, .int .i64 x.snap.x, .int .i64 x.snap.y, .string x.snap.title, .slice a1 x.snap.rows.length c1, .int .i64 x.snap.len, .int .i64 x.snap.chain, .slice a2 x.snap.begun.length c2]
abbrev bx65 (x : SenderMessage) (a1 : Option Addr) (c1 : Nat) (a2 : Option Addr) (c2 : Nat) : List Value := [.int .i64 x.id, .int .i64 x.key, .int .i64 x.base, .slice a1 x.parts.length c1, .slice a2 x.there.length c2, .int .i64 x.due]
abbrev bx67 (x : SenderSender) (a1 : Option Addr) (c1 : Nat) (a2 : Option Addr) (c2 : Nat) (a3 : Option Addr) (c3 : Nat) (a4 : Option Addr) (c4 : Nat) (a5 : Option Addr) (c5 : Nat) (a6 : Option Addr) (c6 : Nat) (a7 : Option Addr) (c7 : Nat) : List Value := [.int .i64 x.config.part, .int .i64 x.config.every, .int .i64 x.config.most, .int .i64 x.current.k, .int .i64 x.current.w, .int .i64 x.current.h, .int .i64 x.current.x, .int .i64 x.current.y, .string x.current.title, .slice a1 x.current.rows.length c1, .int .i64 x.current.len, .int .i64 x.current.chain, .slice a2 x.current.begun.length c2, .int .i64 x.acked.k, .int .i64 x.acked.w, .int .i64 x.acked.h, .int .i64 x.acked.x, .int .i64 x.acked.y, .string x.acked.title, .slice a3 x.acked.rows.length c3, .int .i64 x.acked.len, .int .i64 x.acked.chain, .slice a4 x.acked.begun.length c4, .slice a5 x.kept.length c5, .int .i64 x.message.id, .int .i64 x.message.key, .int .i64 x.message.base, .slice a6 x.message.parts.length c6, .slice a7 x.message.there.length c7, .int .i64 x.message.due, .int .i64 x.next]
def tab : Tab := [(3, ⟨.int .i64, 1, 8, [.int .i64 0], false, false⟩),
  (4, ⟨.bool, 1, 1, [.bool false], false, false⟩),
  (5, ⟨.int .u8, 1, 1, [.int .u8 0], false, false⟩),
  (9, ⟨.string, 1, 16, [.string ⟨#[]⟩], false, false⟩),
  (21, ⟨.int .i32, 1, 4, [.int .i32 0], false, false⟩),
  (22, ⟨.slice 45, 1, 24, [.slice none 0 0], false, false⟩),
  (25, ⟨.struct [(3, 0), (3, 1), (3, 2)], 3, 24, [.int .i64 0, .int .i64 0, .int .i64 0], true, false⟩),
  (26, ⟨.pointer 67, 1, 8, [.pointer none], false, false⟩),
  (28, ⟨.struct [(3, 0), (3, 1), (3, 2)], 3, 24, [.int .i64 0, .int .i64 0, .int .i64 0], true, false⟩),
  (29, ⟨.slice 97, 1, 24, [.slice none 0 0], false, false⟩),
  (31, ⟨.slice 122, 1, 24, [.slice none 0 0], false, false⟩),
  (33, ⟨.struct [(3, 0), (3, 1), (3, 2), (3, 3), (3, 4), (9, 5), (29, 6), (3, 7), (3, 8), (31, 9)], 10, 120, [.int .i64 0, .int .i64 0, .int .i64 0, .int .i64 0, .int .i64 0, .string ⟨#[]⟩, .slice none 0 0, .int .i64 0, .int .i64 0, .slice none 0 0], true, false⟩),
  (34, ⟨.slice 33, 1, 24, [.slice none 0 0], false, false⟩),
  (35, ⟨.slice 9, 1, 24, [.slice none 0 0], false, false⟩),
  (36, ⟨.slice 4, 1, 24, [.slice none 0 0], false, false⟩),
  (38, ⟨.struct [(25, 0), (33, 3), (33, 13), (34, 23), (3, 24), (3, 25), (3, 26), (35, 27), (36, 28), (3, 29), (3, 30)], 31, 376, [.int .i64 0, .int .i64 0, .int .i64 0, .int .i64 0, .int .i64 0, .int .i64 0, .int .i64 0, .int .i64 0, .string ⟨#[]⟩, .slice none 0 0, .int .i64 0, .int .i64 0, .slice none 0 0, .int .i64 0, .int .i64 0, .int .i64 0, .int .i64 0, .int .i64 0, .string ⟨#[]⟩, .slice none 0 0, .int .i64 0, .int .i64 0, .slice none 0 0, .slice none 0 0, .int .i64 0, .int .i64 0, .int .i64 0, .slice none 0 0, .slice none 0 0, .int .i64 0, .int .i64 0], true, false⟩),
  (40, ⟨.slice 54, 1, 24, [.slice none 0 0], false, false⟩),
  (41, ⟨.slice 107, 1, 24, [.slice none 0 0], false, false⟩),
  (43, ⟨.struct [(3, 0), (3, 1), (3, 2), (3, 3), (3, 4), (9, 5), (40, 6), (3, 7), (3, 8), (41, 9)], 10, 120, [.int .i64 0, .int .i64 0, .int .i64 0, .int .i64 0, .int .i64 0, .string ⟨#[]⟩, .slice none 0 0, .int .i64 0, .int .i64 0, .slice none 0 0], true, false⟩),
  (45, ⟨.struct [(3, 0), (3, 1), (3, 2), (3, 3), (9, 4), (43, 5)], 15, 168, [.int .i64 0, .int .i64 0, .int .i64 0, .int .i64 0, .string ⟨#[]⟩, .int .i64 0, .int .i64 0, .int .i64 0, .int .i64 0, .int .i64 0, .string ⟨#[]⟩, .slice none 0 0, .int .i64 0, .int .i64 0, .slice none 0 0], true, false⟩),
  (52, ⟨.slice 112, 1, 24, [.slice none 0 0], false, false⟩),
  (54, ⟨.struct [(52, 0), (4, 1)], 2, 32, [.slice none 0 0, .bool false], true, false⟩),
  (56, ⟨.slice 60, 1, 24, [.slice none 0 0], false, false⟩),
  (58, ⟨.slice 3, 1, 24, [.slice none 0 0], false, false⟩),
  (60, ⟨.struct [(3, 0), (3, 1), (58, 2), (9, 3)], 4, 56, [.int .i64 0, .int .i64 0, .slice none 0 0, .string ⟨#[]⟩], true, false⟩),
  (63, ⟨.slice 43, 1, 24, [.slice none 0 0], false, false⟩),
  (65, ⟨.struct [(3, 0), (3, 1), (3, 2), (35, 3), (36, 4), (3, 5)], 6, 80, [.int .i64 0, .int .i64 0, .int .i64 0, .slice none 0 0, .slice none 0 0, .int .i64 0], true, false⟩),
  (67, ⟨.struct [(28, 0), (43, 3), (43, 13), (63, 23), (65, 24), (3, 30)], 31, 376, [.int .i64 0, .int .i64 0, .int .i64 0, .int .i64 0, .int .i64 0, .int .i64 0, .int .i64 0, .int .i64 0, .string ⟨#[]⟩, .slice none 0 0, .int .i64 0, .int .i64 0, .slice none 0 0, .int .i64 0, .int .i64 0, .int .i64 0, .int .i64 0, .int .i64 0, .string ⟨#[]⟩, .slice none 0 0, .int .i64 0, .int .i64 0, .slice none 0 0, .slice none 0 0, .int .i64 0, .int .i64 0, .int .i64 0, .slice none 0 0, .slice none 0 0, .int .i64 0, .int .i64 0], true, false⟩),
  (72, ⟨.slice 101, 1, 24, [.slice none 0 0], false, false⟩),
  (95, ⟨.slice 124, 1, 24, [.slice none 0 0], false, false⟩),
  (97, ⟨.struct [(95, 0), (4, 1)], 2, 32, [.slice none 0 0, .bool false], true, false⟩),
  (101, ⟨.struct [(3, 0), (3, 1), (58, 2), (9, 3)], 4, 56, [.int .i64 0, .int .i64 0, .slice none 0 0, .string ⟨#[]⟩], true, false⟩),
  (107, ⟨.struct [(21, 0), (3, 1)], 2, 16, [.int .i32 0, .int .i64 0], true, false⟩),
  (112, ⟨.struct [(21, 0), (3, 1), (3, 2)], 3, 24, [.int .i32 0, .int .i64 0, .int .i64 0], true, true⟩),
  (122, ⟨.struct [(3, 0), (3, 1)], 2, 16, [.int .i64 0, .int .i64 0], true, false⟩),
  (124, ⟨.struct [(3, 0), (3, 1), (3, 2)], 3, 24, [.int .i64 0, .int .i64 0, .int .i64 0], true, true⟩),
  (135, ⟨.int .u64, 1, 8, [.int .u64 0], false, false⟩),
  (138, ⟨.slice 5, 1, 24, [.slice none 0 0], false, false⟩),
  (140, ⟨.struct [(138, 0)], 1, 24, [.slice none 0 0], true, false⟩),
  (141, ⟨.pointer 140, 1, 8, [.pointer none], false, false⟩),
  (152, ⟨.int .u32, 1, 4, [.int .u32 0], false, false⟩),
  (155, ⟨.int .u64, 1, 8, [.int .u64 0], false, false⟩),
  (173, ⟨.array 16 152, 16, 64, [.int .u32 0, .int .u32 0, .int .u32 0, .int .u32 0, .int .u32 0, .int .u32 0, .int .u32 0, .int .u32 0, .int .u32 0, .int .u32 0, .int .u32 0, .int .u32 0, .int .u32 0, .int .u32 0, .int .u32 0, .int .u32 0], true, false⟩)]
theorem tab_ok : TabOk Go.Proofs.Tryz.prog tab := tabb_ok (by kernel_rfl)
noncomputable def G : Pg := ⟨Go.Proofs.Tryz.prog, tab, tab_ok, none⟩
theorem mo : G.P.follows .mixedOrders = true := by kernel_rfl
theorem zu8_5 : zu8b G.P 5 = true := by kernel_rfl
end Go.Tw.X

set_option maxHeartbeats 2000000
set_option linter.unusedVariables false
set_option linter.unusedSimpArgs false
set_option maxRecDepth 10000
namespace Go.Tw.X
open Go Go.Tw
theorem c_sender_clip {n_ : Int} {lo : Int} {hi : Int} {r : Int} (H : p_sender_clip n_ lo hi = some r) : CT G 37 [.int .i64 n_, .int .i64 lo, .int .i64 hi] [] [] (fun h : Unit => .int .i64 r) (fun h => []) (fun h => []) := by
  delta p_sender_clip at H
  refine CT.of Go.Proofs.Tryz.func37 (by kernel_rfl) rfl rfl rfl fun K => ?_
  refine T.seq (T.region ?_)
  refine L.q 1 rfl ?_
  refine L.nil (E.then (T.seq (T.region ?_)))
  refine L.q 6 rfl ?_
  refine L.nil (E.then (T.ret ?_))
  have hr := Option.some.inj H
  subst r
  exact E.ret () [] [] (.tmp rfl .nil) rfl rfl rfl

theorem c_sender_Config_Clip {c : SenderConfig} {r : SenderConfig} (H : p_sender_Config_Clip c = some r) : CT G 14 [.agg #[.int .i64 c.part, .int .i64 c.every, .int .i64 c.most]] [] [] (fun h : Unit => .agg #[.int .i64 r.part, .int .i64 r.every, .int .i64 r.most]) (fun h => []) (fun h => []) := by
  delta p_sender_Config_Clip at H
  refine CT.of Go.Proofs.Tryz.func14 (by kernel_rfl) rfl rfl rfl fun K => ?_
  refine T.seq (T.region ?_)
  refine L.a [] [] (Ac.box rfl rfl) rfl rfl rfl rfl rfl ?_
  intro g1
  refine L.a [] [] (Ac.alloc rfl rfl) rfl rfl rfl rfl rfl ?_
  intro g2
  refine L.nil (E.then (T.seq ?_))
  refine T.draw [10] [0, 0] mo (by rfl) rfl ?_
  refine D.q 0 rfl rfl rfl rfl rfl rfl ?_
  refine D.y 1 (Yl.ldb 1 rfl rfl rfl rfl) rfl rfl rfl rfl rfl rfl ?_
  refine D.q 3 rfl rfl rfl rfl rfl rfl ?_
  refine D.y 4 (Yl.ldb 1 rfl rfl rfl rfl) rfl rfl rfl rfl rfl rfl ?_
  refine D.q 6 rfl rfl rfl rfl rfl rfl ?_
  refine D.y 7 (Yl.ldb 1 rfl rfl rfl rfl) rfl rfl rfl rfl rfl rfl ?_
  obtain ⟨r30, h31, H32⟩ := bnd H
  refine D.one rfl rfl rfl (Dp.a [] [] (Ac.call (c_sender_clip h31) rfl rfl rfl rfl) rfl rfl rfl rfl rfl rfl ?_)
  rintro ⟨⟩
  obtain ⟨r33, h34, H35⟩ := bnd H32
  refine D.one rfl rfl rfl (Dp.a [] [] (Ac.call (c_sender_clip h34) rfl rfl rfl rfl) rfl rfl rfl rfl rfl rfl ?_)
  rintro ⟨⟩
  obtain ⟨r36, h37, H38⟩ := bnd H35
  refine D.one rfl rfl rfl (Dp.a [] [] (Ac.call (c_sender_clip h37) rfl rfl rfl rfl) rfl rfl rfl rfl rfl rfl ?_)
  rintro ⟨⟩
  refine D.q 9 rfl rfl rfl rfl rfl rfl ?_
  refine D.one rfl rfl rfl (Dp.al [0] [] (Ac.stb rfl rfl rfl rfl rfl rfl) rfl rfl rfl rfl rfl rfl rfl ?_)
  intro _
  refine D.nil rfl rfl ?_
  refine E.then (T.ret ?_)
  have hr := Option.some.inj H38
  subst r
  exact E.ret () [] [] (.cell 0 rfl rfl rfl .nil) rfl rfl rfl

theorem c_sender_New {c : SenderConfig} {r : SenderSender} (H : p_sender_New c = some r) : CT G 5 [.agg #[.int .i64 c.part, .int .i64 c.every, .int .i64 c.most]] [] [] (fun h : Nat × (Option Addr × Nat) × (Option Addr × Nat) × (Option Addr × Nat) × (Option Addr × Nat) × (Option Addr × Nat) × (Option Addr × Nat) × (Option Addr × Nat) => .pointer (some ⟨h.1, 0, none⟩)) (fun h => [Ch.box h.1 67 (bx67 r h.2.1.1 h.2.1.2 h.2.2.1.1 h.2.2.1.2 h.2.2.2.1.1 h.2.2.2.1.2 h.2.2.2.2.1.1 h.2.2.2.2.1.2 h.2.2.2.2.2.1.1 h.2.2.2.2.2.1.2 h.2.2.2.2.2.2.1.1 h.2.2.2.2.2.2.1.2 h.2.2.2.2.2.2.2.1 h.2.2.2.2.2.2.2.2), Ch.aro tySnapSnap 43 h.2.2.2.2.2.1.1 h.2.2.2.2.2.1.2 r.kept, Ch.arr Ty.bool 4 h.2.2.2.2.2.2.2.1 h.2.2.2.2.2.2.2.2 r.message.there]) (fun h => [Im.sl tyRowRow h.2.1.1 h.2.1.2 r.current.rows, Im.sl tyRowGlyph h.2.2.1.1 h.2.2.1.2 r.current.begun, Im.sl tyRowRow h.2.2.2.1.1 h.2.2.2.1.2 r.acked.rows, Im.sl tyRowGlyph h.2.2.2.2.1.1 h.2.2.2.2.1.2 r.acked.begun, Im.sl Ty.str h.2.2.2.2.2.2.1.1 h.2.2.2.2.2.2.1.2 r.message.parts]) := by
  delta p_sender_New at H
  refine CT.of Go.Proofs.Tryz.func5 (by kernel_rfl) rfl rfl rfl fun K => ?_
  refine T.seq (T.region ?_)
  refine L.a [] [] (Ac.box rfl rfl) rfl rfl rfl rfl rfl ?_
  intro g1
  refine L.q 1 rfl ?_
  refine L.nil (E.then (T.seq (T.region ?_)))
  refine L.y (Yl.ldb 0 rfl rfl rfl rfl) rfl rfl rfl ?_
  obtain ⟨r2, h3, H4⟩ := bnd H
  refine L.a [] [] (Ac.call (c_sender_Config_Clip h3) rfl rfl rfl rfl) rfl rfl rfl rfl rfl ?_
  rintro ⟨⟩
  refine L.q 1 rfl ?_
  refine L.a [] [] (Ac.box rfl rfl) rfl rfl rfl rfl rfl ?_
  intro g5
  refine L.q 1 rfl ?_
  refine L.nil (E.then (T.ret ?_))
  refine E.know [Im.sl tyRowRow none 0 []] (fun A w _ _ f hf => by rw [List.mem_singleton.1 hf]; exact Im.sl_nil A w) ?_
  refine E.know [Im.sl tyRowGlyph none 0 []] (fun A w _ _ f hf => by rw [List.mem_singleton.1 hf]; exact Im.sl_nil A w) ?_
  refine E.know [Im.sl tyRowRow none 0 []] (fun A w _ _ f hf => by rw [List.mem_singleton.1 hf]; exact Im.sl_nil A w) ?_
  refine E.know [Im.sl tyRowGlyph none 0 []] (fun A w _ _ f hf => by rw [List.mem_singleton.1 hf]; exact Im.sl_nil A w) ?_
  refine E.nil0 tySnapSnap 43 ?_
  refine E.off' 0 rfl ?_
  refine E.know [Im.sl Ty.str none 0 []] (fun A w _ _ f hf => by rw [List.mem_singleton.1 hf]; exact Im.sl_nil A w) ?_
  refine E.nil0 Ty.bool 4 ?_
  have hr := Option.some.inj H4
  subst r
  exact E.ret (g5, (none, 0), (none, 0), (none, 0), (none, 0), (none, 0), (none, 0), (none, 0)) [2, 1, 0] [4, 3, 2, 1, 0] (.tmp rfl .nil) rfl rfl rfl

theorem c_row_clip {n_ : Int} {lo : Int} {hi : Int} {r : Int} (H : p_row_clip n_ lo hi = some r) : CT G 34 [.int .i64 n_, .int .i64 lo, .int .i64 hi] [] [] (fun h : Unit => .int .i64 r) (fun h => []) (fun h => []) := by
  delta p_row_clip at H
  refine CT.of Go.Proofs.Tryz.func34 (by kernel_rfl) rfl rfl rfl fun K => ?_
  refine T.seq (T.region ?_)
  refine L.q 1 rfl ?_
  refine L.nil (E.then (T.seq (T.region ?_)))
  refine L.q 6 rfl ?_
  refine L.nil (E.then (T.ret ?_))
  have hr := Option.some.inj H
  subst r
  exact E.ret () [] [] (.tmp rfl .nil) rfl rfl rfl

theorem c_row_blank {style : Int} {r : RowCell} (H : p_row_blank style = some r) : CT G 59 [.int .i64 style] [] [] (fun h : Unit => .agg #[.int .i32 r.rune, .int .i64 r.style, .int .i64 r.part]) (fun h => []) (fun h => []) := by
  delta p_row_blank at H
  refine CT.of Go.Proofs.Tryz.func59 (by kernel_rfl) rfl rfl rfl fun K => ?_
  refine T.seq (T.region ?_)
  refine L.a [] [] (Ac.alloc rfl rfl) rfl rfl rfl rfl rfl ?_
  intro g1
  refine L.nil (E.then (T.seq (T.region ?_)))
  refine L.q 2 rfl ?_
  refine L.a [0] [] (Ac.stb rfl rfl rfl rfl rfl rfl) rfl rfl rfl rfl rfl ?_
  intro _
  refine L.nil (E.then (T.ret ?_))
  have hr := Option.some.inj H
  subst r
  exact E.ret () [] [] (.cell 0 rfl rfl rfl .nil) rfl rfl rfl

theorem c_bits_Mul64 {x_ : Int} {y : Int} {r : Int × Int} (H : p_bits_Mul64 x_ y = some r) : CT G 89 [.int .u64 x_, .int .u64 y] [] [] (fun h : Unit => .tuple #[.int .u64 r.1, .int .u64 r.2]) (fun h => []) (fun h => []) := by
  delta p_bits_Mul64 at H
  refine CT.of Go.Proofs.Tryz.func89 (by kernel_rfl) rfl rfl rfl fun K => ?_
  refine T.seq (T.region ?_)
  refine L.q 2 rfl ?_
  refine L.nil (E.then (T.seq (T.region ?_)))
  refine L.q 3 rfl ?_
  refine L.nil (E.then (T.seq (T.region ?_)))
  refine L.q 3 rfl ?_
  refine L.nil (E.then (T.seq (T.region ?_)))
  refine L.q 3 rfl ?_
  refine L.nil (E.then (T.seq (T.region ?_)))
  refine L.q 3 rfl ?_
  refine L.nil (E.then (T.seq (T.region ?_)))
  refine L.q 4 rfl ?_
  refine L.nil (E.then (T.seq (T.region ?_)))
  refine L.q 7 rfl ?_
  refine L.nil (E.then (T.seq (T.region ?_)))
  refine L.q 3 rfl ?_
  refine L.nil (E.then (T.seq (T.region ?_)))
  refine L.q 3 rfl ?_
  refine L.nil (E.then (T.seq (T.region ?_)))
  refine L.q 6 rfl ?_
  refine L.nil (E.then (T.seq (T.region ?_)))
  refine L.q 9 rfl ?_
  refine L.nil (E.then (T.seq (T.region ?_)))
  refine L.q 4 rfl ?_
  refine L.nil (E.then (T.ret ?_))
  have hr := Option.some.inj H
  subst r
  exact E.ret () [] [] (.tmp rfl (.tmp rfl .nil)) rfl rfl rfl

theorem c_bits_Mul {x_ : Int} {y : Int} {r : Int × Int} (H : p_bits_Mul x_ y = some r) : CT G 75 [.int .u64 x_, .int .u64 y] [] [] (fun h : Unit => .tuple #[.int .u64 r.1, .int .u64 r.2]) (fun h => []) (fun h => []) := by
  delta p_bits_Mul at H
  refine CT.of Go.Proofs.Tryz.func75 (by kernel_rfl) rfl rfl rfl fun K => ?_
  refine T.seq (T.region ?_)
  refine L.q 2 rfl ?_
  refine L.nil (E.then (T.seq ?_))
  refine T.cond rfl (fun h => nomatch h) (fun _ => ?_)
  refine T.skip (E.then (T.seq (T.region ?_)))
  refine L.q 2 rfl ?_
  obtain ⟨r1, h2, H3⟩ := bnd H
  refine L.a [] [] (Ac.call (c_bits_Mul64 h2) rfl rfl rfl rfl) rfl rfl rfl rfl rfl ?_
  rintro ⟨⟩
  refine L.q 5 rfl ?_
  refine L.nil (E.then (T.seq (T.region ?_)))
  refine L.q 4 rfl ?_
  refine L.nil (E.then (T.ret ?_))
  have hr := Option.some.inj H3
  subst r
  exact E.ret () [] [] (.tmp rfl (.tmp rfl .nil)) rfl rfl rfl

theorem c_slices_Repeat_row_Cell {x_ : List RowCell} {count : Int} (a_0 : Option Addr) (c_0 : Nat) {r : (List RowCell)} (H : p_slices_Repeat_row_Cell x_ count = some r) : CT G 58 [.slice a_0 x_.length c_0, .int .i64 count] [] [Im.sl tyRowCell a_0 c_0 x_] (fun h : (Option Addr × Nat) => .slice h.1 r.length h.2) (fun h => [Ch.arr tyRowCell 112 h.1 h.2 r]) (fun h => []) := by
  delta p_slices_Repeat_row_Cell at H
  refine CT.of Go.Proofs.Tryz.func58 (by kernel_rfl) rfl rfl rfl fun K => ?_
  refine T.seq (T.region ?_)
  refine L.q 1 rfl ?_
  refine L.nil (E.then (T.seq (T.seq (T.region ?_))))
  refine L.q 2 rfl ?_
  refine L.nil (E.then ?_)
  refine T.bif rfl H (fun hc H2 => ?_) (fun hc H2 => ?_)
  · cases H2
  refine T.skip (E.then (T.seq (T.region ?_)))
  refine L.q 5 rfl ?_
  obtain ⟨r3, h4, H5⟩ := bnd H2
  refine L.a [] [] (Ac.call (c_bits_Mul h4) rfl rfl rfl rfl) rfl rfl rfl rfl rfl ?_
  rintro ⟨⟩
  refine L.q 5 rfl ?_
  refine L.nil (E.then (T.seq (T.seq ?_)))
  obtain ⟨e9, H10, H11⟩ := bnd H5
  refine T.join (η := Unit × Unit) (fun h => True) (fun h => [(0, .slice a_0 x_.length c_0), (6, .int .u64 r3.2), (26, .bool e9)]) (fun h => []) (fun h => [Im.sl tyRowCell a_0 c_0 x_]) ?_ ?_
  · refine T.region ?_
    refine L.q 3 rfl ?_
    refine L.cs 23 H10 rfl (fun hc H12 => ?_) (fun hc H12 => ?_)
    · refine L.q 3 rfl ?_
      refine L.nil ?_
      have hr := Option.some.inj H12
      subst e9
      exact E.give ((), ()) [] [0] trivial ⟨rfl, rfl, rfl, trivial⟩ rfl rfl
    refine L.q 3 rfl ?_
    refine L.nil ?_
    have hr := Option.some.inj H12
    subst e9
    exact E.give ((), ()) [] [0] trivial ⟨rfl, rfl, rfl, trivial⟩ rfl rfl
  rintro ⟨_, ⟨⟩⟩ _
  refine T.bif rfl H11 (fun hc H14 => ?_) (fun hc H14 => ?_)
  · cases H14
  refine T.skip (E.then (T.seq (T.region ?_)))
  refine L.q 2 rfl ?_
  obtain ⟨_, h15, H16⟩ := bnd H14
  refine L.a [] [] (Ac.mk (ty := tyRowCell) (RowCell.mk 0 0 0) () h15 (fun _ _ f hf => by cases hf) rfl rfl rfl rfl rfl rfl rfl) rfl rfl rfl rfl rfl ?_
  intro g17
  refine L.q 1 rfl ?_
  refine L.nil (E.then (T.seq (T.region ?_)))
  refine L.q 2 rfl ?_
  refine L.a [0] [0] (Ac.cp (ty := tyRowCell) rfl rfl rfl rfl rfl rfl rfl) rfl rfl rfl rfl rfl ?_
  intro _
  refine L.sl 7 (k' := (cpy (List.replicate (IntKind.i64.wrap r3.2).toNat (RowCell.mk 0 0 0)) x_).length) (cpy_length ..) rfl ?_
  refine L.q 1 rfl ?_
  refine L.nil (E.then (T.seq ?_))
  obtain ⟨e88, H89, H90⟩ := bnd H16
  refine T.join (η := Unit × ((Option Addr × Nat))) (fun h => True) (fun h => (fun a85 c86 => [(7, .slice a85 e88.length c86)]) h.2.1 h.2.2) (fun h => (fun a85 c86 => [Ch.arr tyRowCell 112 a85 c86 e88]) h.2.1 h.2.2) (fun h => (fun a85 c86 => [Im.sl tyRowCell a_0 c_0 x_]) h.2.1 h.2.2) ?_ ?_
  · refine T.block ?_
    refine T.lp (η := (Option Addr × Nat)) (fun s67 h => (fun a63 c64 => [(7, .slice a63 s67.1.length c64), (8, .int .i64 s67.2)]) h.1 h.2) (fun s67 h => (fun a63 c64 => [Ch.arr tyRowCell 112 a63 c64 s67.1]) h.1 h.2) (fun s67 h => (fun a63 c64 => [Im.sl tyRowCell a_0 c_0 x_]) h.1 h.2) ((some ⟨g17, 0, none⟩), (IntKind.i64.wrap r3.2).toNat) [0] [0] H89 ⟨rfl, rfl, trivial⟩ rfl rfl ?_
    rintro k_ s67 ⟨a63, c64⟩ z92 H91 hag93 hbr94
    refine T.seq (T.seq (T.region ?_))
    refine L.q 4 rfl ?_
    refine L.nil (E.then ?_)
    refine T.bif rfl H91 (fun hc H96 => ?_) (fun hc H96 => ?_)
    · refine T.skip (E.then (T.block ?_))
      refine T.draw [] [] mo (by rfl) rfl ?_
      refine D.q 0 rfl rfl rfl rfl rfl rfl ?_
      refine D.q 1 rfl rfl rfl rfl rfl rfl ?_
      refine D.q 2 rfl rfl rfl rfl rfl rfl ?_
      obtain ⟨_, h104, H105⟩ := bnd H96
      refine D.cap 0 rfl fun h106 => ?_
      refine D.y 3 (Yl.sv (ty := tyRowCell) h106 h104 rfl rfl rfl rfl rfl rfl rfl rfl) rfl rfl rfl rfl rfl rfl ?_
      refine D.q 4 rfl rfl rfl rfl rfl rfl ?_
      refine D.q 5 rfl rfl rfl rfl rfl rfl ?_
      obtain ⟨_, h107, H108⟩ := bnd H105
      refine D.cap 0 rfl fun h109 => ?_
      refine D.y 6 (Yl.sv (ty := tyRowCell) h109 h107 rfl rfl rfl rfl rfl rfl rfl rfl) rfl rfl rfl rfl rfl rfl ?_
      refine D.one rfl rfl rfl (Dp.a [0] [] (Ac.cps (ty := tyRowCell) h104 rfl rfl rfl rfl rfl rfl rfl) rfl rfl rfl rfl rfl rfl ?_)
      intro _
      refine D.q 8 rfl rfl rfl rfl rfl rfl ?_
      refine D.q 9 rfl rfl rfl rfl rfl rfl ?_
      refine D.nil rfl rfl ?_
      refine E.sl 7 (k' := (cpys s67.1 s67.2.toNat).length) (cpys_len h104) rfl ?_
      refine E.block ?_
      have hr := Option.some.inj H108
      subst z92
      exact E.give (_, (a63, c64)) [0] [0] (hag93 _ rfl) ⟨rfl, rfl, trivial⟩ rfl rfl
    refine T.exit (E.then_exit' (E.then_exit' (E.block_here ?_)))
    have hr := Option.some.inj H96
    subst z92
    have hb := hbr94 _ rfl
    subst e88
    exact E.give ((), (a63, c64)) [0] [0] trivial ⟨rfl, trivial⟩ rfl rfl
  rintro ⟨_, ⟨a85, c86⟩⟩ _
  refine T.seq (T.region ?_)
  refine L.q 2 rfl ?_
  refine L.nil (E.then (T.ret ?_))
  have hr := Option.some.inj H90
  subst r
  exact E.ret (a85, c86) [0] [] (.tmp rfl .nil) rfl rfl rfl

theorem c_row_blanks {n_ : Int} {style : Int} {r : (List RowCell)} (H : p_row_blanks n_ style = some r) : CT G 33 [.int .i64 n_, .int .i64 style] [] [] (fun h : (Option Addr × Nat) => .slice h.1 r.length h.2) (fun h => [Ch.arr tyRowCell 112 h.1 h.2 r]) (fun h => []) := by
  delta p_row_blanks at H
  refine CT.of Go.Proofs.Tryz.func33 (by kernel_rfl) rfl rfl rfl fun K => ?_
  refine T.seq (T.region ?_)
  refine L.q 1 rfl ?_
  refine L.nil (E.then (T.seq (T.region ?_)))
  refine L.q 1 rfl ?_
  obtain ⟨r1, h2, H3⟩ := bnd H
  refine L.a [] [] (Ac.call (c_row_blank h2) rfl rfl rfl rfl) rfl rfl rfl rfl rfl ?_
  rintro ⟨⟩
  refine L.a [] [] (Ac.bs (ty := tyRowCell) (xs := [r1]) (.cons () [] rfl .nil) rfl rfl rfl rfl rfl rfl rfl) rfl rfl rfl rfl rfl ?_
  intro g4
  refine L.q 2 rfl ?_
  refine L.frz 0 rfl ?_
  obtain ⟨r7, h8, H9⟩ := bnd H3
  refine L.a [] [0] (Ac.call (c_slices_Repeat_row_Cell (some ⟨g4, 0, none⟩) 1 h8) rfl rfl rfl rfl) rfl rfl rfl rfl rfl ?_
  rintro ⟨a10, c11⟩
  refine L.q 1 rfl ?_
  refine L.nil (E.then (T.ret ?_))
  have hr := Option.some.inj H9
  subst r
  exact E.ret (a10, c11) [0] [] (.tmp rfl .nil) rfl rfl rfl

theorem c_row_Blank {w : Int} {style : Int} {r : RowRow} (H : p_row_Blank w style = some r) : CT G 11 [.int .i64 w, .int .i64 style] [] [] (fun h : (Option Addr × Nat) => .agg #[.slice h.1 r.cells.length h.2, .bool r.wrapped]) (fun h => []) (fun h => [Im.sl tyRowCell h.1 h.2 r.cells]) := by
  delta p_row_Blank at H
  refine CT.of Go.Proofs.Tryz.func11 (by kernel_rfl) rfl rfl rfl fun K => ?_
  refine T.seq (T.region ?_)
  refine L.a [] [] (Ac.alloc rfl rfl) rfl rfl rfl rfl rfl ?_
  intro g1
  refine L.nil (E.then (T.seq (T.region ?_)))
  refine L.q 1 rfl ?_
  obtain ⟨r2, h3, H4⟩ := bnd H
  refine L.a [] [] (Ac.call (c_row_clip h3) rfl rfl rfl rfl) rfl rfl rfl rfl rfl ?_
  rintro ⟨⟩
  refine L.q 1 rfl ?_
  obtain ⟨r5, h6, H7⟩ := bnd H4
  refine L.a [] [] (Ac.call (c_row_blanks h6) rfl rfl rfl rfl) rfl rfl rfl rfl rfl ?_
  rintro ⟨a8, c9⟩
  refine L.q 1 rfl ?_
  refine L.a [1] [] (Ac.stb rfl rfl rfl rfl rfl rfl) rfl rfl rfl rfl rfl ?_
  intro _
  refine L.nil (E.then (T.ret ?_))
  refine E.frz 1 rfl ?_
  have hr := Option.some.inj H7
  subst r
  exact E.ret (a8, c9) [] [0] (.cell 0 rfl rfl rfl .nil) rfl rfl rfl

theorem c_snap_Snap_empty {s_ : SnapSnap} (a_0_0 : Option Addr) (c_0_0 : Nat) (a_0_1 : Option Addr) (c_0_1 : Nat) {r : Bool} (H : p_snap_Snap_empty s_ = some r) : CT G 48 [.agg (bx43 s_ a_0_0 c_0_0 a_0_1 c_0_1).toArray] [] [Im.sl tyRowRow a_0_0 c_0_0 s_.rows, Im.sl tyRowGlyph a_0_1 c_0_1 s_.begun] (fun h : Unit => .bool r) (fun h => []) (fun h => []) := by
  delta p_snap_Snap_empty at H
  refine CT.of Go.Proofs.Tryz.func48 (by kernel_rfl) rfl rfl rfl fun K => ?_
  refine T.seq (T.region ?_)
  refine L.a [] [] (Ac.box rfl rfl) rfl rfl rfl rfl rfl ?_
  intro g1
  refine L.q 1 rfl ?_
  refine L.nil (E.then (T.seq ?_))
  obtain ⟨e21, H22, H23⟩ := bnd H
  refine T.join (η := Unit × Unit) (fun h => True) (fun h => [(2, .bool e21)]) (fun h => [Ch.box g1 43 (bx43 s_ a_0_0 c_0_0 a_0_1 c_0_1)]) (fun h => [Im.sl tyRowRow a_0_0 c_0_0 s_.rows, Im.sl tyRowGlyph a_0_1 c_0_1 s_.begun]) ?_ ?_
  · refine T.region ?_
    refine L.q 1 rfl ?_
    refine L.y (Yl.ldb 0 rfl rfl rfl rfl) rfl rfl rfl ?_
    refine L.q 2 rfl ?_
    refine L.cs 6 H22 rfl (fun hc H24 => ?_) (fun hc H24 => ?_)
    · refine L.q 1 rfl ?_
      refine L.y (Yl.ldb 0 rfl rfl rfl rfl) rfl rfl rfl ?_
      refine L.q 3 rfl ?_
      refine L.cs 11 H24 rfl (fun hc H25 => ?_) (fun hc H25 => ?_)
      · refine L.q 1 rfl ?_
        refine L.y (Yl.ldb 0 rfl rfl rfl rfl) rfl rfl rfl ?_
        refine L.q 3 rfl ?_
        refine L.cs 16 H25 rfl (fun hc H26 => ?_) (fun hc H26 => ?_)
        · refine L.q 1 rfl ?_
          refine L.y (Yl.ldb 0 rfl rfl rfl rfl) rfl rfl rfl ?_
          refine L.q 3 rfl ?_
          refine L.cs 21 H26 rfl (fun hc H27 => ?_) (fun hc H27 => ?_)
          · refine L.q 1 rfl ?_
            refine L.y (Yl.ldb 0 rfl rfl rfl rfl) rfl rfl rfl ?_
            refine L.q 3 rfl ?_
            refine L.cs 26 H27 rfl (fun hc H28 => ?_) (fun hc H28 => ?_)
            · refine L.q 1 rfl ?_
              refine L.y (Yl.ldb 0 rfl rfl rfl rfl) rfl rfl rfl ?_
              refine L.q 3 rfl ?_
              refine L.cs 31 H28 rfl (fun hc H29 => ?_) (fun hc H29 => ?_)
              · refine L.q 1 rfl ?_
                refine L.y (Yl.ldb 0 rfl rfl rfl rfl) rfl rfl rfl ?_
                refine L.q 4 rfl ?_
                refine L.cs 37 H29 rfl (fun hc H30 => ?_) (fun hc H30 => ?_)
                · refine L.q 1 rfl ?_
                  refine L.y (Yl.ldb 0 rfl rfl rfl rfl) rfl rfl rfl ?_
                  refine L.q 3 rfl ?_
                  refine L.cs 42 H30 rfl (fun hc H31 => ?_) (fun hc H31 => ?_)
                  · refine L.q 1 rfl ?_
                    refine L.y (Yl.ldb 0 rfl rfl rfl rfl) rfl rfl rfl ?_
                    refine L.q 3 rfl ?_
                    refine L.cs 47 H31 rfl (fun hc H32 => ?_) (fun hc H32 => ?_)
                    · refine L.q 1 rfl ?_
                      refine L.y (Yl.ldb 0 rfl rfl rfl rfl) rfl rfl rfl ?_
                      refine L.q 4 rfl ?_
                      refine L.nil ?_
                      have hr := Option.some.inj H32
                      subst e21
                      exact E.give ((), ()) [0] [0, 1] trivial ⟨rfl, trivial⟩ rfl rfl
                    refine L.q 6 rfl ?_
                    refine L.nil ?_
                    have hr := Option.some.inj H32
                    subst e21
                    exact E.give ((), ()) [0] [0, 1] trivial ⟨rfl, trivial⟩ rfl rfl
                  refine L.q 11 rfl ?_
                  refine L.nil ?_
                  have hr := Option.some.inj H31
                  subst e21
                  exact E.give ((), ()) [0] [0, 1] trivial ⟨rfl, trivial⟩ rfl rfl
                refine L.q 16 rfl ?_
                refine L.nil ?_
                have hr := Option.some.inj H30
                subst e21
                exact E.give ((), ()) [0] [0, 1] trivial ⟨rfl, trivial⟩ rfl rfl
              refine L.q 22 rfl ?_
              refine L.nil ?_
              have hr := Option.some.inj H29
              subst e21
              exact E.give ((), ()) [0] [0, 1] trivial ⟨rfl, trivial⟩ rfl rfl
            refine L.q 27 rfl ?_
            refine L.nil ?_
            have hr := Option.some.inj H28
            subst e21
            exact E.give ((), ()) [0] [0, 1] trivial ⟨rfl, trivial⟩ rfl rfl
          refine L.q 32 rfl ?_
          refine L.nil ?_
          have hr := Option.some.inj H27
          subst e21
          exact E.give ((), ()) [0] [0, 1] trivial ⟨rfl, trivial⟩ rfl rfl
        refine L.q 37 rfl ?_
        refine L.nil ?_
        have hr := Option.some.inj H26
        subst e21
        exact E.give ((), ()) [0] [0, 1] trivial ⟨rfl, trivial⟩ rfl rfl
      refine L.q 42 rfl ?_
      refine L.nil ?_
      have hr := Option.some.inj H25
      subst e21
      exact E.give ((), ()) [0] [0, 1] trivial ⟨rfl, trivial⟩ rfl rfl
    refine L.q 47 rfl ?_
    refine L.nil ?_
    have hr := Option.some.inj H24
    subst e21
    exact E.give ((), ()) [0] [0, 1] trivial ⟨rfl, trivial⟩ rfl rfl
  rintro ⟨_, ⟨⟩⟩ _
  refine T.ret ?_
  have hr := Option.some.inj H23
  subst r
  exact E.ret () [] [] (.tmp rfl .nil) rfl rfl rfl

theorem c_snap_within {n_ : Int} {lo : Int} {hi : Int} {r : Bool} (H : p_snap_within n_ lo hi = some r) : CT G 72 [.int .i64 n_, .int .i64 lo, .int .i64 hi] [] [] (fun h : Unit => .bool r) (fun h => []) (fun h => []) := by
  delta p_snap_within at H
  refine CT.of Go.Proofs.Tryz.func72 (by kernel_rfl) rfl rfl rfl fun K => ?_
  refine T.seq (T.region ?_)
  refine L.q 1 rfl ?_
  refine L.nil (E.then (T.seq ?_))
  obtain ⟨e4, H5, H6⟩ := bnd H
  refine T.join (η := Unit × Unit) (fun h => True) (fun h => [(6, .bool e4)]) (fun h => []) (fun h => []) ?_ ?_
  · refine T.region ?_
    refine L.q 4 rfl ?_
    refine L.cs 10 H5 rfl (fun hc H7 => ?_) (fun hc H7 => ?_)
    · refine L.q 5 rfl ?_
      refine L.nil ?_
      have hr := Option.some.inj H7
      subst e4
      exact E.give ((), ()) [] [] trivial ⟨rfl, trivial⟩ rfl rfl
    refine L.q 5 rfl ?_
    refine L.nil ?_
    have hr := Option.some.inj H7
    subst e4
    exact E.give ((), ()) [] [] trivial ⟨rfl, trivial⟩ rfl rfl
  rintro ⟨_, ⟨⟩⟩ _
  refine T.ret ?_
  have hr := Option.some.inj H6
  subst r
  exact E.ret () [] [] (.tmp rfl .nil) rfl rfl rfl

theorem c_snap_Snap_sizes {s_ : SnapSnap} (a_0_0 : Option Addr) (c_0_0 : Nat) (a_0_1 : Option Addr) (c_0_1 : Nat) {r : Bool} (H : p_snap_Snap_sizes s_ = some r) : CT G 49 [.agg (bx43 s_ a_0_0 c_0_0 a_0_1 c_0_1).toArray] [] [Im.sl tyRowRow a_0_0 c_0_0 s_.rows, Im.sl tyRowGlyph a_0_1 c_0_1 s_.begun] (fun h : Unit => .bool r) (fun h => []) (fun h => []) := by
  delta p_snap_Snap_sizes at H
  refine CT.of Go.Proofs.Tryz.func49 (by kernel_rfl) rfl rfl rfl fun K => ?_
  refine T.seq (T.region ?_)
  refine L.a [] [] (Ac.box rfl rfl) rfl rfl rfl rfl rfl ?_
  intro g1
  refine L.q 1 rfl ?_
  refine L.nil (E.then (T.seq ?_))
  obtain ⟨e63, H64, H65⟩ := bnd H
  refine T.join (η := Unit × Unit) (fun h => True) (fun h => [(2, .bool e63)]) (fun h => [Ch.box g1 43 (bx43 s_ a_0_0 c_0_0 a_0_1 c_0_1)]) (fun h => [Im.sl tyRowRow a_0_0 c_0_0 s_.rows, Im.sl tyRowGlyph a_0_1 c_0_1 s_.begun]) ?_ ?_
  · refine T.region ?_
    refine L.q 1 rfl ?_
    refine L.y (Yl.ldb 0 rfl rfl rfl rfl) rfl rfl rfl ?_
    obtain ⟨r66, h67, H68⟩ := bnd H64
    refine L.a [] [] (Ac.call (c_snap_within h67) rfl rfl rfl rfl) rfl rfl rfl rfl rfl ?_
    rintro ⟨⟩
    refine L.q 1 rfl ?_
    refine L.cs 6 H68 rfl (fun hc H69 => ?_) (fun hc H69 => ?_)
    · refine L.q 1 rfl ?_
      refine L.y (Yl.ldb 0 rfl rfl rfl rfl) rfl rfl rfl ?_
      obtain ⟨r70, h71, H72⟩ := bnd H69
      refine L.a [] [] (Ac.call (c_snap_within h71) rfl rfl rfl rfl) rfl rfl rfl rfl rfl ?_
      rintro ⟨⟩
      refine L.q 2 rfl ?_
      refine L.cs 11 H72 rfl (fun hc H73 => ?_) (fun hc H73 => ?_)
      · refine L.q 1 rfl ?_
        refine L.y (Yl.ldb 0 rfl rfl rfl rfl) rfl rfl rfl ?_
        obtain ⟨r74, h75, H76⟩ := bnd H73
        refine L.a [] [] (Ac.call (c_snap_within h75) rfl rfl rfl rfl) rfl rfl rfl rfl rfl ?_
        rintro ⟨⟩
        refine L.q 2 rfl ?_
        refine L.cs 16 H76 rfl (fun hc H77 => ?_) (fun hc H77 => ?_)
        · refine L.q 1 rfl ?_
          refine L.y (Yl.ldb 0 rfl rfl rfl rfl) rfl rfl rfl ?_
          refine L.q 1 rfl ?_
          refine L.y (Yl.ldb 0 rfl rfl rfl rfl) rfl rfl rfl ?_
          refine L.q 1 rfl ?_
          obtain ⟨r78, h79, H80⟩ := bnd H77
          refine L.a [] [] (Ac.call (c_snap_within h79) rfl rfl rfl rfl) rfl rfl rfl rfl rfl ?_
          rintro ⟨⟩
          refine L.q 2 rfl ?_
          refine L.cs 24 H80 rfl (fun hc H81 => ?_) (fun hc H81 => ?_)
          · refine L.q 1 rfl ?_
            refine L.y (Yl.ldb 0 rfl rfl rfl rfl) rfl rfl rfl ?_
            refine L.q 1 rfl ?_
            refine L.y (Yl.ldb 0 rfl rfl rfl rfl) rfl rfl rfl ?_
            refine L.q 1 rfl ?_
            obtain ⟨r82, h83, H84⟩ := bnd H81
            refine L.a [] [] (Ac.call (c_snap_within h83) rfl rfl rfl rfl) rfl rfl rfl rfl rfl ?_
            rintro ⟨⟩
            refine L.q 2 rfl ?_
            refine L.cs 32 H84 rfl (fun hc H85 => ?_) (fun hc H85 => ?_)
            · refine L.q 1 rfl ?_
              refine L.y (Yl.ldb 0 rfl rfl rfl rfl) rfl rfl rfl ?_
              refine L.q 2 rfl ?_
              refine L.y (Yl.ldb 0 rfl rfl rfl rfl) rfl rfl rfl ?_
              refine L.q 3 rfl ?_
              refine L.cs 40 H85 rfl (fun hc H86 => ?_) (fun hc H86 => ?_)
              · refine L.q 1 rfl ?_
                refine L.y (Yl.ldb 0 rfl rfl rfl rfl) rfl rfl rfl ?_
                refine L.q 4 rfl ?_
                refine L.cs 46 H86 rfl (fun hc H87 => ?_) (fun hc H87 => ?_)
                · refine L.q 1 rfl ?_
                  refine L.y (Yl.ldb 0 rfl rfl rfl rfl) rfl rfl rfl ?_
                  obtain ⟨r88, h89, H90⟩ := bnd H87
                  refine L.a [] [] (Ac.call (c_snap_within h89) rfl rfl rfl rfl) rfl rfl rfl rfl rfl ?_
                  rintro ⟨⟩
                  refine L.q 2 rfl ?_
                  refine L.cs 51 H90 rfl (fun hc H91 => ?_) (fun hc H91 => ?_)
                  · refine L.q 1 rfl ?_
                    refine L.y (Yl.ldb 0 rfl rfl rfl rfl) rfl rfl rfl ?_
                    obtain ⟨r92, h93, H94⟩ := bnd H91
                    refine L.a [] [] (Ac.call (c_snap_within h93) rfl rfl rfl rfl) rfl rfl rfl rfl rfl ?_
                    rintro ⟨⟩
                    refine L.q 2 rfl ?_
                    refine L.cs 56 H94 rfl (fun hc H95 => ?_) (fun hc H95 => ?_)
                    · refine L.q 1 rfl ?_
                      refine L.y (Yl.ldb 0 rfl rfl rfl rfl) rfl rfl rfl ?_
                      refine L.q 4 rfl ?_
                      refine L.nil ?_
                      have hr := Option.some.inj H95
                      subst e63
                      exact E.give ((), ()) [0] [0, 1] trivial ⟨rfl, trivial⟩ rfl rfl
                    refine L.q 6 rfl ?_
                    refine L.nil ?_
                    have hr := Option.some.inj H95
                    subst e63
                    exact E.give ((), ()) [0] [0, 1] trivial ⟨rfl, trivial⟩ rfl rfl
                  refine L.q 11 rfl ?_
                  refine L.nil ?_
                  have hr := Option.some.inj H91
                  subst e63
                  exact E.give ((), ()) [0] [0, 1] trivial ⟨rfl, trivial⟩ rfl rfl
                refine L.q 16 rfl ?_
                refine L.nil ?_
                have hr := Option.some.inj H87
                subst e63
                exact E.give ((), ()) [0] [0, 1] trivial ⟨rfl, trivial⟩ rfl rfl
              refine L.q 22 rfl ?_
              refine L.nil ?_
              have hr := Option.some.inj H86
              subst e63
              exact E.give ((), ()) [0] [0, 1] trivial ⟨rfl, trivial⟩ rfl rfl
            refine L.q 30 rfl ?_
            refine L.nil ?_
            have hr := Option.some.inj H85
            subst e63
            exact E.give ((), ()) [0] [0, 1] trivial ⟨rfl, trivial⟩ rfl rfl
          refine L.q 38 rfl ?_
          refine L.nil ?_
          have hr := Option.some.inj H81
          subst e63
          exact E.give ((), ()) [0] [0, 1] trivial ⟨rfl, trivial⟩ rfl rfl
        refine L.q 46 rfl ?_
        refine L.nil ?_
        have hr := Option.some.inj H77
        subst e63
        exact E.give ((), ()) [0] [0, 1] trivial ⟨rfl, trivial⟩ rfl rfl
      refine L.q 51 rfl ?_
      refine L.nil ?_
      have hr := Option.some.inj H73
      subst e63
      exact E.give ((), ()) [0] [0, 1] trivial ⟨rfl, trivial⟩ rfl rfl
    refine L.q 56 rfl ?_
    refine L.nil ?_
    have hr := Option.some.inj H69
    subst e63
    exact E.give ((), ()) [0] [0, 1] trivial ⟨rfl, trivial⟩ rfl rfl
  rintro ⟨_, ⟨⟩⟩ _
  refine T.ret ?_
  have hr := Option.some.inj H65
  subst r
  exact E.ret () [] [] (.tmp rfl .nil) rfl rfl rfl

theorem c_snap_shows {r_ : Int} {style : Int} {r : Bool} (H : p_snap_shows r_ style = some r) : CT G 52 [.int .i32 r_, .int .i64 style] [] [] (fun h : Unit => .bool r) (fun h => []) (fun h => []) := by
  delta p_snap_shows at H
  refine CT.of Go.Proofs.Tryz.func52 (by kernel_rfl) rfl rfl rfl fun K => ?_
  refine T.seq (T.region ?_)
  refine L.q 1 rfl ?_
  refine L.nil (E.then (T.seq ?_))
  obtain ⟨e16, H17, H18⟩ := bnd H
  refine T.join (η := Unit × Unit) (fun h => True) (fun h => [(4, .bool e16)]) (fun h => []) (fun h => []) ?_ ?_
  · refine T.region ?_
    refine L.q 2 rfl ?_
    obtain ⟨r19, h20, H21⟩ := bnd H17
    refine L.a [] [] (Ac.call (c_snap_within h20) rfl rfl rfl rfl) rfl rfl rfl rfl rfl ?_
    rintro ⟨⟩
    refine L.q 1 rfl ?_
    refine L.cs 8 H21 rfl (fun hc H22 => ?_) (fun hc H22 => ?_)
    · refine L.q 1 rfl ?_
      obtain ⟨r23, h24, H25⟩ := bnd H22
      refine L.a [] [] (Ac.call (c_snap_within h24) rfl rfl rfl rfl) rfl rfl rfl rfl rfl ?_
      rintro ⟨⟩
      refine L.q 2 rfl ?_
      refine L.nil ?_
      have hr := Option.some.inj H25
      subst e16
      exact E.give ((), ()) [] [] trivial ⟨rfl, trivial⟩ rfl rfl
    refine L.q 4 rfl ?_
    refine L.nil ?_
    have hr := Option.some.inj H22
    subst e16
    exact E.give ((), ()) [] [] trivial ⟨rfl, trivial⟩ rfl rfl
  rintro ⟨_, ⟨⟩⟩ _
  refine T.ret ?_
  have hr := Option.some.inj H18
  subst r
  exact E.ret () [] [] (.tmp rfl .nil) rfl rfl rfl

theorem c_snap_Snap_Check_1 {g : RowGlyph} {r : Bool} (H : p_snap_Snap_Check_1 g = some r) : CT G 51 [.agg #[.int .i32 g.rune, .int .i64 g.style]] [] [] (fun h : Unit => .bool r) (fun h => []) (fun h => []) := by
  delta p_snap_Snap_Check_1 at H
  refine CT.of Go.Proofs.Tryz.func51 (by kernel_rfl) rfl rfl rfl fun K => ?_
  refine T.seq (T.region ?_)
  refine L.a [] [] (Ac.box rfl rfl) rfl rfl rfl rfl rfl ?_
  intro g1
  refine L.q 1 rfl ?_
  refine L.nil (E.then (T.seq (T.region ?_)))
  refine L.q 1 rfl ?_
  refine L.y (Yl.ldb 0 rfl rfl rfl rfl) rfl rfl rfl ?_
  refine L.q 1 rfl ?_
  refine L.y (Yl.ldb 0 rfl rfl rfl rfl) rfl rfl rfl ?_
  obtain ⟨r2, h3, H4⟩ := bnd H
  refine L.a [] [] (Ac.call (c_snap_shows h3) rfl rfl rfl rfl) rfl rfl rfl rfl rfl ?_
  rintro ⟨⟩
  refine L.q 2 rfl ?_
  refine L.nil (E.then (T.ret ?_))
  have hr := Option.some.inj H4
  subst r
  exact E.ret () [] [] (.tmp rfl .nil) rfl rfl rfl

theorem c_slices_IndexFunc_row_Glyph_Snap_Check_1 {s_ : List RowGlyph} (a_0 : Option Addr) (c_0 : Nat) {r : Int} (H : p_slices_IndexFunc_row_Glyph_Snap_Check_1 s_ = some r) : CT G 73 [.slice a_0 s_.length c_0, .func (.func 51) #[] #[]] [] [Im.sl tyRowGlyph a_0 c_0 s_] (fun h : Unit => .int .i64 r) (fun h => []) (fun h => []) := by
  delta p_slices_IndexFunc_row_Glyph_Snap_Check_1 at H
  refine CT.of Go.Proofs.Tryz.func73 (by kernel_rfl) rfl rfl rfl fun K => ?_
  refine T.seq (T.region ?_)
  refine L.q 1 rfl ?_
  refine L.nil (E.then (T.seq (T.seq (T.region ?_))))
  refine L.q 3 rfl ?_
  refine L.nil (E.then ?_)
  obtain ⟨y78, H79, H80⟩ := bnd H
  refine T.join (η := Unit × Unit) (fun h => y78 = .inl h.1) (fun h => (fun e77 => []) h.1) (fun h => (fun e77 => []) h.1) (fun h => (fun e77 => [Im.sl tyRowGlyph a_0 c_0 s_]) h.1) ?_ ?_
  · refine T.block ?_
    refine T.lp (η := Unit) (fun s52 h => [(0, .slice a_0 s_.length c_0), (1, .func (.func 51) #[] #[]), (7, .int .i64 (s_.length : Int)), (8, .int .i64 s52)]) (fun s52 h => []) (fun s52 h => [Im.sl tyRowGlyph a_0 c_0 s_]) () [] [0] H79 ⟨rfl, rfl, rfl, rfl, trivial⟩ rfl rfl ?_
    rintro k_ s52 ⟨⟩ z82 H81 hag83 hbr84
    refine T.seq (T.region ?_)
    refine L.q 1 rfl ?_
    refine L.nil (E.then (T.seq ?_))
    refine T.bif rfl H81 (fun hc H86 => ?_) (fun hc H86 => ?_)
    · refine T.skip (E.then (T.seq (T.block (T.seq (T.region ?_)))))
      refine L.q 2 rfl ?_
      refine L.nil (E.then (T.seq (T.region ?_)))
      refine L.q 3 rfl ?_
      obtain ⟨x98, h99, H100⟩ := bnd H86
      refine L.addr 0 rfl (idx_lt h99) fun b101 o102 e103 => ?_
      obtain rfl : a_0 = some ⟨b101, o102, none⟩ := e103
      refine L.y (Yl.ia h99 rfl rfl rfl rfl rfl rfl) rfl rfl rfl ?_
      refine L.el 0 rfl (idx_some h99).2 ?_
      rintro _
      refine L.y (Yl.ldc 0 0 rfl rfl rfl rfl) rfl rfl rfl ?_
      obtain ⟨r105, h106, H107⟩ := bnd H100
      refine L.a [] [] (Ac.call (c_snap_Snap_Check_1 h106) rfl rfl rfl rfl) rfl rfl rfl rfl rfl ?_
      rintro ⟨⟩
      refine L.nil (E.then ?_)
      refine T.bif rfl H107 (fun hc H108 => ?_) (fun hc H108 => ?_)
      · refine T.seq (T.region ?_)
        refine L.q 2 rfl ?_
        refine L.nil (E.then (T.ret (E.block_ret (E.then_ret (E.then_ret (E.block_ret ?_))))))
        obtain ⟨w109, hz, H110⟩ := inrr_some H108
        subst z82
        have hb := hbr84 _ rfl
        subst y78
        have hw : w109 = r := Option.some.inj H80
        subst w109
        refine E.then_ret ?_
        have hr := Option.some.inj H110
        subst r
        exact E.ret () [] [] (.tmp rfl .nil) rfl rfl rfl
      refine T.skip (E.block (E.then (T.region ?_)))
      refine L.q 2 rfl ?_
      refine L.nil ?_
      have hr := Option.some.inj H108
      subst z82
      exact E.give (_, ()) [] [1] (hag83 _ rfl) ⟨rfl, rfl, rfl, rfl, trivial⟩ rfl rfl
    refine T.exit (E.then_exit' (E.then_exit' (E.block_here ?_)))
    have hr := Option.some.inj H86
    subst z82
    have hb := hbr84 _ rfl
    subst y78
    exact E.give (_, ()) [] [0] rfl trivial rfl rfl
  rintro ⟨e77, ⟨⟩⟩ hy
  subst hy
  refine T.seq (T.region ?_)
  refine L.q 1 rfl ?_
  refine L.nil (E.then (T.ret ?_))
  have hr := Option.some.inj H80
  subst r
  exact E.ret () [] [] (.tmp rfl .nil) rfl rfl rfl

theorem c_slices_ContainsFunc_row_Glyph_Snap_Check_1 {s_ : List RowGlyph} (a_0 : Option Addr) (c_0 : Nat) {r : Bool} (H : p_slices_ContainsFunc_row_Glyph_Snap_Check_1 s_ = some r) : CT G 50 [.slice a_0 s_.length c_0, .func (.func 51) #[] #[]] [] [Im.sl tyRowGlyph a_0 c_0 s_] (fun h : Unit => .bool r) (fun h => []) (fun h => []) := by
  delta p_slices_ContainsFunc_row_Glyph_Snap_Check_1 at H
  refine CT.of Go.Proofs.Tryz.func50 (by kernel_rfl) rfl rfl rfl fun K => ?_
  refine T.seq (T.region ?_)
  refine L.q 1 rfl ?_
  refine L.nil (E.then (T.seq (T.region ?_)))
  refine L.q 2 rfl ?_
  obtain ⟨r1, h2, H3⟩ := bnd H
  refine L.a [] [0] (Ac.call (c_slices_IndexFunc_row_Glyph_Snap_Check_1 a_0 c_0 h2) rfl rfl rfl rfl) rfl rfl rfl rfl rfl ?_
  rintro ⟨⟩
  refine L.q 2 rfl ?_
  refine L.nil (E.then (T.ret ?_))
  have hr := Option.some.inj H3
  subst r
  exact E.ret () [] [] (.tmp rfl .nil) rfl rfl rfl

theorem c_snap_cell {c : RowCell} {r : Bool} (H : p_snap_cell c = some r) : CT G 55 [.agg #[.int .i32 c.rune, .int .i64 c.style, .int .i64 c.part]] [] [] (fun h : Unit => .bool r) (fun h => []) (fun h => []) := by
  delta p_snap_cell at H
  refine CT.of Go.Proofs.Tryz.func55 (by kernel_rfl) rfl rfl rfl fun K => ?_
  refine T.seq (T.region ?_)
  refine L.a [] [] (Ac.box rfl rfl) rfl rfl rfl rfl rfl ?_
  intro g1
  refine L.q 1 rfl ?_
  refine L.nil (E.then (T.seq ?_))
  obtain ⟨e17, H18, H19⟩ := bnd H
  refine T.join (η := Unit × Unit) (fun h => True) (fun h => [(2, .bool e17)]) (fun h => [Ch.box g1 112 [.int .i32 c.rune, .int .i64 c.style, .int .i64 c.part]]) (fun h => []) ?_ ?_
  · refine T.region ?_
    refine L.q 1 rfl ?_
    refine L.y (Yl.ldb 0 rfl rfl rfl rfl) rfl rfl rfl ?_
    refine L.q 1 rfl ?_
    refine L.y (Yl.ldb 0 rfl rfl rfl rfl) rfl rfl rfl ?_
    obtain ⟨r20, h21, H22⟩ := bnd H18
    refine L.a [] [] (Ac.call (c_snap_shows h21) rfl rfl rfl rfl) rfl rfl rfl rfl rfl ?_
    rintro ⟨⟩
    refine L.q 1 rfl ?_
    refine L.cs 8 H22 rfl (fun hc H23 => ?_) (fun hc H23 => ?_)
    · refine L.q 1 rfl ?_
      refine L.y (Yl.ldb 0 rfl rfl rfl rfl) rfl rfl rfl ?_
      obtain ⟨r24, h25, H26⟩ := bnd H23
      refine L.a [] [] (Ac.call (c_snap_within h25) rfl rfl rfl rfl) rfl rfl rfl rfl rfl ?_
      rintro ⟨⟩
      refine L.q 2 rfl ?_
      refine L.nil ?_
      have hr := Option.some.inj H26
      subst e17
      exact E.give ((), ()) [0] [] trivial ⟨rfl, trivial⟩ rfl rfl
    refine L.q 5 rfl ?_
    refine L.nil ?_
    have hr := Option.some.inj H23
    subst e17
    exact E.give ((), ()) [0] [] trivial ⟨rfl, trivial⟩ rfl rfl
  rintro ⟨_, ⟨⟩⟩ _
  refine T.ret ?_
  have hr := Option.some.inj H19
  subst r
  exact E.ret () [] [] (.tmp rfl .nil) rfl rfl rfl

theorem c_snap_Snap_Check_2 {c : RowCell} {r : Bool} (H : p_snap_Snap_Check_2 c = some r) : CT G 54 [.agg #[.int .i32 c.rune, .int .i64 c.style, .int .i64 c.part]] [] [] (fun h : Unit => .bool r) (fun h => []) (fun h => []) := by
  delta p_snap_Snap_Check_2 at H
  refine CT.of Go.Proofs.Tryz.func54 (by kernel_rfl) rfl rfl rfl fun K => ?_
  refine T.seq (T.region ?_)
  refine L.a [] [] (Ac.box rfl rfl) rfl rfl rfl rfl rfl ?_
  intro g1
  refine L.q 1 rfl ?_
  refine L.nil (E.then (T.seq (T.region ?_)))
  refine L.y (Yl.ldb 0 rfl rfl rfl rfl) rfl rfl rfl ?_
  obtain ⟨r2, h3, H4⟩ := bnd H
  refine L.a [] [] (Ac.call (c_snap_cell h3) rfl rfl rfl rfl) rfl rfl rfl rfl rfl ?_
  rintro ⟨⟩
  refine L.q 2 rfl ?_
  refine L.nil (E.then (T.ret ?_))
  have hr := Option.some.inj H4
  subst r
  exact E.ret () [] [] (.tmp rfl .nil) rfl rfl rfl

theorem c_slices_IndexFunc_row_Cell_Snap_Check_2 {s_ : List RowCell} (a_0 : Option Addr) (c_0 : Nat) {r : Int} (H : p_slices_IndexFunc_row_Cell_Snap_Check_2 s_ = some r) : CT G 74 [.slice a_0 s_.length c_0, .func (.func 54) #[] #[]] [] [Im.sl tyRowCell a_0 c_0 s_] (fun h : Unit => .int .i64 r) (fun h => []) (fun h => []) := by
  delta p_slices_IndexFunc_row_Cell_Snap_Check_2 at H
  refine CT.of Go.Proofs.Tryz.func74 (by kernel_rfl) rfl rfl rfl fun K => ?_
  refine T.seq (T.region ?_)
  refine L.q 1 rfl ?_
  refine L.nil (E.then (T.seq (T.seq (T.region ?_))))
  refine L.q 3 rfl ?_
  refine L.nil (E.then ?_)
  obtain ⟨y78, H79, H80⟩ := bnd H
  refine T.join (η := Unit × Unit) (fun h => y78 = .inl h.1) (fun h => (fun e77 => []) h.1) (fun h => (fun e77 => []) h.1) (fun h => (fun e77 => [Im.sl tyRowCell a_0 c_0 s_]) h.1) ?_ ?_
  · refine T.block ?_
    refine T.lp (η := Unit) (fun s52 h => [(0, .slice a_0 s_.length c_0), (1, .func (.func 54) #[] #[]), (7, .int .i64 (s_.length : Int)), (8, .int .i64 s52)]) (fun s52 h => []) (fun s52 h => [Im.sl tyRowCell a_0 c_0 s_]) () [] [0] H79 ⟨rfl, rfl, rfl, rfl, trivial⟩ rfl rfl ?_
    rintro k_ s52 ⟨⟩ z82 H81 hag83 hbr84
    refine T.seq (T.region ?_)
    refine L.q 1 rfl ?_
    refine L.nil (E.then (T.seq ?_))
    refine T.bif rfl H81 (fun hc H86 => ?_) (fun hc H86 => ?_)
    · refine T.skip (E.then (T.seq (T.block (T.seq (T.region ?_)))))
      refine L.q 2 rfl ?_
      refine L.nil (E.then (T.seq (T.region ?_)))
      refine L.q 3 rfl ?_
      obtain ⟨x98, h99, H100⟩ := bnd H86
      refine L.addr 0 rfl (idx_lt h99) fun b101 o102 e103 => ?_
      obtain rfl : a_0 = some ⟨b101, o102, none⟩ := e103
      refine L.y (Yl.ia h99 rfl rfl rfl rfl rfl rfl) rfl rfl rfl ?_
      refine L.el 0 rfl (idx_some h99).2 ?_
      rintro _
      refine L.y (Yl.ldc 0 0 rfl rfl rfl rfl) rfl rfl rfl ?_
      obtain ⟨r105, h106, H107⟩ := bnd H100
      refine L.a [] [] (Ac.call (c_snap_Snap_Check_2 h106) rfl rfl rfl rfl) rfl rfl rfl rfl rfl ?_
      rintro ⟨⟩
      refine L.nil (E.then ?_)
      refine T.bif rfl H107 (fun hc H108 => ?_) (fun hc H108 => ?_)
      · refine T.seq (T.region ?_)
        refine L.q 2 rfl ?_
        refine L.nil (E.then (T.ret (E.block_ret (E.then_ret (E.then_ret (E.block_ret ?_))))))
        obtain ⟨w109, hz, H110⟩ := inrr_some H108
        subst z82
        have hb := hbr84 _ rfl
        subst y78
        have hw : w109 = r := Option.some.inj H80
        subst w109
        refine E.then_ret ?_
        have hr := Option.some.inj H110
        subst r
        exact E.ret () [] [] (.tmp rfl .nil) rfl rfl rfl
      refine T.skip (E.block (E.then (T.region ?_)))
      refine L.q 2 rfl ?_
      refine L.nil ?_
      have hr := Option.some.inj H108
      subst z82
      exact E.give (_, ()) [] [1] (hag83 _ rfl) ⟨rfl, rfl, rfl, rfl, trivial⟩ rfl rfl
    refine T.exit (E.then_exit' (E.then_exit' (E.block_here ?_)))
    have hr := Option.some.inj H86
    subst z82
    have hb := hbr84 _ rfl
    subst y78
    exact E.give (_, ()) [] [0] rfl trivial rfl rfl
  rintro ⟨e77, ⟨⟩⟩ hy
  subst hy
  refine T.seq (T.region ?_)
  refine L.q 1 rfl ?_
  refine L.nil (E.then (T.ret ?_))
  have hr := Option.some.inj H80
  subst r
  exact E.ret () [] [] (.tmp rfl .nil) rfl rfl rfl

theorem c_slices_ContainsFunc_row_Cell_Snap_Check_2 {s_ : List RowCell} (a_0 : Option Addr) (c_0 : Nat) {r : Bool} (H : p_slices_ContainsFunc_row_Cell_Snap_Check_2 s_ = some r) : CT G 53 [.slice a_0 s_.length c_0, .func (.func 54) #[] #[]] [] [Im.sl tyRowCell a_0 c_0 s_] (fun h : Unit => .bool r) (fun h => []) (fun h => []) := by
  delta p_slices_ContainsFunc_row_Cell_Snap_Check_2 at H
  refine CT.of Go.Proofs.Tryz.func53 (by kernel_rfl) rfl rfl rfl fun K => ?_
  refine T.seq (T.region ?_)
  refine L.q 1 rfl ?_
  refine L.nil (E.then (T.seq (T.region ?_)))
  refine L.q 2 rfl ?_
  obtain ⟨r1, h2, H3⟩ := bnd H
  refine L.a [] [0] (Ac.call (c_slices_IndexFunc_row_Cell_Snap_Check_2 a_0 c_0 h2) rfl rfl rfl rfl) rfl rfl rfl rfl rfl ?_
  rintro ⟨⟩
  refine L.q 2 rfl ?_
  refine L.nil (E.then (T.ret ?_))
  have hr := Option.some.inj H3
  subst r
  exact E.ret () [] [] (.tmp rfl .nil) rfl rfl rfl

theorem c_snap_Snap_Check {s_ : SnapSnap} (a_0_0 : Option Addr) (c_0_0 : Nat) (a_0_1 : Option Addr) (c_0_1 : Nat) {r : Int} (H : p_snap_Snap_Check s_ = some r) : CT G 31 [.agg (bx43 s_ a_0_0 c_0_0 a_0_1 c_0_1).toArray] [] [Im.sl tyRowRow a_0_0 c_0_0 s_.rows, Im.sl tyRowGlyph a_0_1 c_0_1 s_.begun] (fun h : Unit => .int .i64 r) (fun h => []) (fun h => []) := by
  delta p_snap_Snap_Check at H
  refine CT.of Go.Proofs.Tryz.func31 (by kernel_rfl) rfl rfl rfl fun K => ?_
  refine T.seq (T.region ?_)
  refine L.a [] [] (Ac.box rfl rfl) rfl rfl rfl rfl rfl ?_
  intro g1
  refine L.q 1 rfl ?_
  refine L.nil (E.then (T.seq (T.seq (T.region ?_))))
  refine L.y (Yl.ldb 0 rfl rfl rfl rfl) rfl rfl rfl ?_
  obtain ⟨r2, h3, H4⟩ := bnd H
  refine L.a [] [0, 1] (Ac.call (c_snap_Snap_empty a_0_0 c_0_0 a_0_1 c_0_1 h3) rfl rfl rfl rfl) rfl rfl rfl rfl rfl ?_
  rintro ⟨⟩
  refine L.nil (E.then ?_)
  refine T.bif rfl H4 (fun hc H6 => ?_) (fun hc H6 => ?_)
  · refine T.seq (T.region ?_)
    refine L.q 1 rfl ?_
    refine L.nil (E.then (T.ret (E.then_ret ?_)))
    have hr := Option.some.inj H6
    subst r
    exact E.ret () [] [] (.tmp rfl .nil) rfl rfl rfl
  refine T.skip (E.then (T.seq (T.seq ?_)))
  obtain ⟨e22, H23, H24⟩ := bnd H6
  refine T.join (η := Unit × Unit) (fun h => True) (fun h => [(1, .pointer (some ⟨g1, 0, none⟩)), (14, .bool e22)]) (fun h => [Ch.box g1 43 (bx43 s_ a_0_0 c_0_0 a_0_1 c_0_1)]) (fun h => [Im.sl tyRowRow a_0_0 c_0_0 s_.rows, Im.sl tyRowGlyph a_0_1 c_0_1 s_.begun]) ?_ ?_
  · refine T.region ?_
    refine L.y (Yl.ldb 0 rfl rfl rfl rfl) rfl rfl rfl ?_
    obtain ⟨r25, h26, H27⟩ := bnd H23
    refine L.a [] [0, 1] (Ac.call (c_snap_Snap_sizes a_0_0 c_0_0 a_0_1 c_0_1 h26) rfl rfl rfl rfl) rfl rfl rfl rfl rfl ?_
    rintro ⟨⟩
    refine L.q 2 rfl ?_
    refine L.cs 10 H27 rfl (fun hc H28 => ?_) (fun hc H28 => ?_)
    · refine L.q 4 rfl ?_
      refine L.nil ?_
      have hr := Option.some.inj H28
      subst e22
      exact E.give ((), ()) [0] [0, 1] trivial ⟨rfl, rfl, trivial⟩ rfl rfl
    refine L.q 1 rfl ?_
    refine L.y (Yl.ldb 0 rfl rfl rfl rfl) rfl rfl rfl ?_
    obtain ⟨r29, h30, H31⟩ := bnd H28
    refine L.a [] [1] (Ac.call (c_slices_ContainsFunc_row_Glyph_Snap_Check_1 a_0_1 c_0_1 h30) rfl rfl rfl rfl) rfl rfl rfl rfl rfl ?_
    rintro ⟨⟩
    refine L.q 1 rfl ?_
    refine L.nil ?_
    have hr := Option.some.inj H31
    subst e22
    exact E.give ((), ()) [0] [0, 1] trivial ⟨rfl, rfl, trivial⟩ rfl rfl
  rintro ⟨_, ⟨⟩⟩ _
  refine T.bif rfl H24 (fun hc H33 => ?_) (fun hc H33 => ?_)
  · refine T.seq (T.region ?_)
    refine L.q 1 rfl ?_
    refine L.nil (E.then (T.ret (E.then_ret ?_)))
    have hr := Option.some.inj H33
    subst r
    exact E.ret () [] [] (.tmp rfl .nil) rfl rfl rfl
  refine T.skip (E.then (T.seq (T.seq (T.region ?_))))
  refine L.q 1 rfl ?_
  refine L.y (Yl.ldb 0 rfl rfl rfl rfl) rfl rfl rfl ?_
  refine L.q 2 rfl ?_
  refine L.nil (E.then ?_)
  obtain ⟨y213, H214, H215⟩ := bnd H33
  refine T.join (η := Unit × Unit) (fun h => y213 = .inl h.1) (fun h => (fun e212 => []) h.1) (fun h => (fun e212 => [Ch.box g1 43 (bx43 s_ a_0_0 c_0_0 a_0_1 c_0_1)]) h.1) (fun h => (fun e212 => [Im.sl tyRowRow a_0_0 c_0_0 s_.rows, Im.sl tyRowGlyph a_0_1 c_0_1 s_.begun]) h.1) ?_ ?_
  · refine T.block ?_
    refine T.lp (η := Unit) (fun s153 h => [(1, .pointer (some ⟨g1, 0, none⟩)), (16, .slice a_0_0 s_.rows.length c_0_0), (17, .int .i64 (s_.rows.length : Int)), (18, .int .i64 s153)]) (fun s153 h => [Ch.box g1 43 (bx43 s_ a_0_0 c_0_0 a_0_1 c_0_1)]) (fun s153 h => [Im.sl tyRowRow a_0_0 c_0_0 s_.rows, Im.sl tyRowGlyph a_0_1 c_0_1 s_.begun]) () [0] [0, 1] H214 ⟨rfl, rfl, rfl, rfl, trivial⟩ rfl rfl ?_
    rintro k_ s153 ⟨⟩ z217 H216 hag218 hbr219
    refine T.seq (T.region ?_)
    refine L.q 1 rfl ?_
    refine L.nil (E.then (T.seq ?_))
    refine T.bif rfl H216 (fun hc H221 => ?_) (fun hc H221 => ?_)
    · refine T.skip (E.then (T.seq (T.block (T.seq (T.region ?_)))))
      obtain ⟨x250, h251, H252⟩ := bnd H221
      refine L.addr 0 rfl (idx_lt h251) fun b253 o254 e255 => ?_
      obtain rfl : a_0_0 = some ⟨b253, o254, none⟩ := e255
      refine L.y (Yl.ia h251 rfl rfl rfl rfl rfl rfl) rfl rfl rfl ?_
      refine L.el 0 rfl (idx_some h251).2 ?_
      rintro ⟨a256, c257⟩
      refine L.y (Yl.ldc 0 0 rfl rfl rfl rfl) rfl rfl rfl ?_
      refine L.a [] [] (Ac.alloc rfl rfl) rfl rfl rfl rfl rfl ?_
      intro g260
      refine L.a [0] [] (Ac.stb rfl rfl rfl rfl rfl rfl) rfl rfl rfl rfl rfl ?_
      intro _
      refine L.nil (E.then (T.seq ?_))
      obtain ⟨e270, H271, H272⟩ := bnd H252
      refine T.join (η := Unit × Unit) (fun h => True) (fun h => [(1, .pointer (some ⟨g1, 0, none⟩)), (16, .slice (some ⟨b253, o254, none⟩) s_.rows.length c_0_0), (17, .int .i64 (s_.rows.length : Int)), (18, .int .i64 s153), (32, .bool e270)]) (fun h => [Ch.box g260 54 [.slice a256 x250.cells.length c257, .bool x250.wrapped], Ch.box g1 43 [.int .i64 s_.k, .int .i64 s_.w, .int .i64 s_.h, .int .i64 s_.x, .int .i64 s_.y, .string s_.title, .slice (some ⟨b253, o254, none⟩) s_.rows.length c_0_0, .int .i64 s_.len, .int .i64 s_.chain, .slice a_0_1 s_.begun.length c_0_1]]) (fun h => [Im.cells b253 (o254 + s153.toNat * 2) [.slice a256 x250.cells.length c257, .bool x250.wrapped], Im.sl tyRowCell a256 c257 x250.cells, Im.sl tyRowRow (some ⟨b253, o254, none⟩) c_0_0 s_.rows, Im.sl tyRowGlyph a_0_1 c_0_1 s_.begun]) ?_ ?_
      · refine T.region ?_
        refine L.q 1 rfl ?_
        refine L.y (Yl.ldb 0 rfl rfl rfl rfl) rfl rfl rfl ?_
        refine L.q 2 rfl ?_
        refine L.y (Yl.ldb 1 rfl rfl rfl rfl) rfl rfl rfl ?_
        refine L.q 2 rfl ?_
        refine L.cs 28 H271 rfl (fun hc H273 => ?_) (fun hc H273 => ?_)
        · refine L.q 4 rfl ?_
          refine L.nil ?_
          have hr := Option.some.inj H273
          subst e270
          exact E.give ((), ()) [0, 0] [0, 1, 2, 3] trivial ⟨rfl, rfl, rfl, rfl, rfl, trivial⟩ rfl rfl
        refine L.q 1 rfl ?_
        refine L.y (Yl.ldb 0 rfl rfl rfl rfl) rfl rfl rfl ?_
        obtain ⟨r274, h275, H276⟩ := bnd H273
        refine L.a [] [1] (Ac.call (c_slices_ContainsFunc_row_Cell_Snap_Check_2 a256 c257 h275) rfl rfl rfl rfl) rfl rfl rfl rfl rfl ?_
        rintro ⟨⟩
        refine L.q 1 rfl ?_
        refine L.nil ?_
        have hr := Option.some.inj H276
        subst e270
        exact E.give ((), ()) [0, 0] [0, 1, 2, 3] trivial ⟨rfl, rfl, rfl, rfl, rfl, trivial⟩ rfl rfl
      rintro ⟨_, ⟨⟩⟩ _
      refine T.bif rfl H272 (fun hc H277 => ?_) (fun hc H277 => ?_)
      · refine T.seq (T.region ?_)
        refine L.q 1 rfl ?_
        refine L.nil (E.then (T.ret (E.block_ret (E.then_ret (E.then_ret (E.block_ret ?_))))))
        obtain ⟨w278, hz, H279⟩ := inrr_some H277
        subst z217
        have hb := hbr219 _ rfl
        subst y213
        have hw : w278 = r := Option.some.inj H215
        subst w278
        refine E.then_ret ?_
        have hr := Option.some.inj H279
        subst r
        exact E.ret () [] [] (.tmp rfl .nil) rfl rfl rfl
      refine T.skip (E.block (E.then (T.region ?_)))
      refine L.q 2 rfl ?_
      refine L.nil ?_
      have hr := Option.some.inj H277
      subst z217
      exact E.give (_, ()) [1] [2, 3] (hag218 _ rfl) ⟨rfl, rfl, rfl, rfl, trivial⟩ rfl rfl
    refine T.exit (E.then_exit' (E.then_exit' (E.block_here ?_)))
    have hr := Option.some.inj H221
    subst z217
    have hb := hbr219 _ rfl
    subst y213
    exact E.give (_, ()) [0] [0, 1] rfl trivial rfl rfl
  rintro ⟨e212, ⟨⟩⟩ hy
  subst hy
  refine T.seq (T.region ?_)
  refine L.q 1 rfl ?_
  refine L.nil (E.then (T.ret ?_))
  have hr := Option.some.inj H215
  subst r
  exact E.ret () [] [] (.tmp rfl .nil) rfl rfl rfl

theorem c_slices_Clone_row_Cell {s_ : List RowCell} (a_0 : Option Addr) (c_0 : Nat) {r : List RowCell} (H : p_slices_Clone_row_Cell s_ = some r) : CT G 56 [.slice a_0 s_.length c_0] [] [Im.sl tyRowCell a_0 c_0 s_] (fun h : (Option Addr × Nat) => .slice h.1 r.length h.2) (fun h => [Ch.arr tyRowCell 112 h.1 h.2 r]) (fun h => []) := by
  delta p_slices_Clone_row_Cell at H
  refine CT.of Go.Proofs.Tryz.func56 (by kernel_rfl) rfl rfl rfl fun K => ?_
  obtain ⟨_, h0, H⟩ := bnd H
  have hr := Option.some.inj H
  refine T.seq (T.region (L.q 1 rfl (L.nil (E.then (T.seq (T.seq (T.region ?_)))))))
  refine L.q 1 rfl ?_
  refine L.nilc 0 rfl rfl rfl rfl rfl rfl rfl rfl rfl (fun ha hx => ?_) ?_
  · refine L.nil (E.then (T.cond rfl (fun _ => ?_) (fun h => nomatch h)))
    refine T.seq (T.region (L.q 1 rfl (L.nil (E.then (T.ret (E.then_ret ?_))))))
    subst hx
    subst r
    refine E.nil0 tyRowCell 112 ?_
    exact E.ret (none, 0) [0] [] (.tmp rfl .nil) rfl rfl rfl
  · refine L.nil (E.then (T.cond rfl (fun h => nomatch h) (fun _ => ?_)))
    refine T.skip (E.then (T.seq (T.region ?_)))
    refine L.a [] [] (Ac.bs (ty := tyRowCell) (xs := []) .nil rfl rfl rfl rfl rfl rfl rfl) rfl rfl rfl rfl rfl ?_
    intro g1
    refine L.q 1 rfl ?_
    refine L.a [0] [0] (Ac.ap (ty := tyRowCell) h0 rfl rfl rfl rfl rfl rfl rfl) rfl rfl rfl rfl rfl ?_
    rintro ⟨a1, c1⟩
    refine L.q 1 rfl ?_
    refine L.nil (E.then (T.ret ?_))
    subst r
    exact E.ret (a1, c1) [0] [] (.tmp rfl .nil) rfl rfl rfl

theorem c_slices_Clone_row_Glyph {s_ : List RowGlyph} (a_0 : Option Addr) (c_0 : Nat) {r : List RowGlyph} (H : p_slices_Clone_row_Glyph s_ = some r) : CT G 57 [.slice a_0 s_.length c_0] [] [Im.sl tyRowGlyph a_0 c_0 s_] (fun h : (Option Addr × Nat) => .slice h.1 r.length h.2) (fun h => [Ch.arr tyRowGlyph 107 h.1 h.2 r]) (fun h => []) := by
  delta p_slices_Clone_row_Glyph at H
  refine CT.of Go.Proofs.Tryz.func57 (by kernel_rfl) rfl rfl rfl fun K => ?_
  obtain ⟨_, h0, H⟩ := bnd H
  have hr := Option.some.inj H
  refine T.seq (T.region (L.q 1 rfl (L.nil (E.then (T.seq (T.seq (T.region ?_)))))))
  refine L.q 1 rfl ?_
  refine L.nilc 0 rfl rfl rfl rfl rfl rfl rfl rfl rfl (fun ha hx => ?_) ?_
  · refine L.nil (E.then (T.cond rfl (fun _ => ?_) (fun h => nomatch h)))
    refine T.seq (T.region (L.q 1 rfl (L.nil (E.then (T.ret (E.then_ret ?_))))))
    subst hx
    subst r
    refine E.nil0 tyRowGlyph 107 ?_
    exact E.ret (none, 0) [0] [] (.tmp rfl .nil) rfl rfl rfl
  · refine L.nil (E.then (T.cond rfl (fun h => nomatch h) (fun _ => ?_)))
    refine T.skip (E.then (T.seq (T.region ?_)))
    refine L.a [] [] (Ac.bs (ty := tyRowGlyph) (xs := []) .nil rfl rfl rfl rfl rfl rfl rfl) rfl rfl rfl rfl rfl ?_
    intro g1
    refine L.q 1 rfl ?_
    refine L.a [0] [0] (Ac.ap (ty := tyRowGlyph) h0 rfl rfl rfl rfl rfl rfl rfl) rfl rfl rfl rfl rfl ?_
    rintro ⟨a1, c1⟩
    refine L.q 1 rfl ?_
    refine L.nil (E.then (T.ret ?_))
    subst r
    exact E.ret (a1, c1) [0] [] (.tmp rfl .nil) rfl rfl rfl

theorem c_snap_Snap_Clone {s_ : SnapSnap} (a_0_0 : Option Addr) (c_0_0 : Nat) (a_0_1 : Option Addr) (c_0_1 : Nat) {r : SnapSnap} (H : p_snap_Snap_Clone s_ = some r) : CT G 32 [.agg (bx43 s_ a_0_0 c_0_0 a_0_1 c_0_1).toArray] [] [Im.sl tyRowRow a_0_0 c_0_0 s_.rows, Im.sl tyRowGlyph a_0_1 c_0_1 s_.begun] (fun h : (Option Addr × Nat) × (Option Addr × Nat) => .agg (bx43 r h.1.1 h.1.2 h.2.1 h.2.2).toArray) (fun h => []) (fun h => [Im.sl tyRowRow h.1.1 h.1.2 r.rows, Im.sl tyRowGlyph h.2.1 h.2.2 r.begun]) := by
  delta p_snap_Snap_Clone at H
  refine CT.of Go.Proofs.Tryz.func32 (by kernel_rfl) rfl rfl rfl fun K => ?_
  refine T.seq (T.region ?_)
  refine L.a [] [] (Ac.box rfl rfl) rfl rfl rfl rfl rfl ?_
  intro g1
  refine L.a [] [] (Ac.alloc rfl rfl) rfl rfl rfl rfl rfl ?_
  intro g2
  refine L.nil (E.then (T.seq (T.region ?_)))
  refine L.q 1 rfl ?_
  refine L.nil (E.then (T.seq (T.seq (T.region ?_))))
  refine L.q 1 rfl ?_
  refine L.y (Yl.ldb 1 rfl rfl rfl rfl) rfl rfl rfl ?_
  refine L.q 2 rfl ?_
  refine L.nil (E.then ?_)
  obtain ⟨e279, H280, H281⟩ := bnd H
  refine T.join (η := Unit × ((Option Addr × Nat))) (fun h => True) (fun h => (fun a276 c277 => [(1, .pointer (some ⟨g1, 0, none⟩)), (2, .pointer (some ⟨g2, 0, none⟩)), (3, .slice a276 e279.length c277)]) h.2.1 h.2.2) (fun h => (fun a276 c277 => [Ch.arr tyRowRow 54 a276 c277 e279, Ch.box g2 43 [.int .i64 0, .int .i64 0, .int .i64 0, .int .i64 0, .int .i64 0, .string (ByteArray.mk #[]), .slice none 0 0, .int .i64 0, .int .i64 0, .slice none 0 0], Ch.box g1 43 (bx43 s_ a_0_0 c_0_0 a_0_1 c_0_1)]) h.2.1 h.2.2) (fun h => (fun a276 c277 => [Im.sl tyRowRow a_0_0 c_0_0 s_.rows, Im.sl tyRowGlyph a_0_1 c_0_1 s_.begun]) h.2.1 h.2.2) ?_ ?_
  · refine T.block ?_
    refine T.nil0 tyRowRow 54 ?_
    refine T.lp (η := (Option Addr × Nat)) (fun s190 h => (fun a186 c187 => [(1, .pointer (some ⟨g1, 0, none⟩)), (2, .pointer (some ⟨g2, 0, none⟩)), (3, .slice a186 s190.1.length c187), (7, .slice a_0_0 s_.rows.length c_0_0), (8, .int .i64 (s_.rows.length : Int)), (9, .int .i64 s190.2)]) h.1 h.2) (fun s190 h => (fun a186 c187 => [Ch.arr tyRowRow 54 a186 c187 s190.1, Ch.box g2 43 [.int .i64 0, .int .i64 0, .int .i64 0, .int .i64 0, .int .i64 0, .string (ByteArray.mk #[]), .slice none 0 0, .int .i64 0, .int .i64 0, .slice none 0 0], Ch.box g1 43 (bx43 s_ a_0_0 c_0_0 a_0_1 c_0_1)]) h.1 h.2) (fun s190 h => (fun a186 c187 => [Im.sl tyRowRow a_0_0 c_0_0 s_.rows, Im.sl tyRowGlyph a_0_1 c_0_1 s_.begun]) h.1 h.2) (none, 0) [0, 0, 0] [0, 1] H280 ⟨rfl, rfl, rfl, rfl, rfl, rfl, trivial⟩ rfl rfl ?_
    rintro k_ s190 ⟨a186, c187⟩ z283 H282 hag284 hbr285
    refine T.seq (T.region ?_)
    refine L.q 1 rfl ?_
    refine L.nil (E.then (T.seq ?_))
    refine T.bif rfl H282 (fun hc H287 => ?_) (fun hc H287 => ?_)
    · refine T.skip (E.then (T.seq (T.block (T.seq (T.region ?_)))))
      obtain ⟨x329, h330, H331⟩ := bnd H287
      refine L.addr 0 rfl (idx_lt h330) fun b332 o333 e334 => ?_
      obtain rfl : a_0_0 = some ⟨b332, o333, none⟩ := e334
      refine L.y (Yl.ia h330 rfl rfl rfl rfl rfl rfl) rfl rfl rfl ?_
      refine L.el 0 rfl (idx_some h330).2 ?_
      rintro ⟨a335, c336⟩
      refine L.y (Yl.ldc 0 0 rfl rfl rfl rfl) rfl rfl rfl ?_
      refine L.a [] [] (Ac.alloc rfl rfl) rfl rfl rfl rfl rfl ?_
      intro g339
      refine L.a [0] [] (Ac.stb rfl rfl rfl rfl rfl rfl) rfl rfl rfl rfl rfl ?_
      intro _
      refine L.nil (E.then ?_)
      refine T.draw [] [0, 1, 1] mo (by rfl) rfl ?_
      refine D.q 0 rfl rfl rfl rfl rfl rfl ?_
      refine D.q 1 rfl rfl rfl rfl rfl rfl ?_
      refine D.y 2 (Yl.ldb 0 rfl rfl rfl rfl) rfl rfl rfl rfl rfl rfl ?_
      refine D.q 4 rfl rfl rfl rfl rfl rfl ?_
      refine D.y 5 (Yl.ldb 0 rfl rfl rfl rfl) rfl rfl rfl rfl rfl rfl ?_
      obtain ⟨r355, h356, H357⟩ := bnd H331
      refine D.one rfl rfl rfl (Dp.a [] [1] (Ac.call (c_slices_Clone_row_Cell a335 c336 h356) rfl rfl rfl rfl) rfl rfl rfl rfl rfl rfl ?_)
      rintro ⟨a358, c359⟩
      refine D.q 6 rfl rfl rfl rfl rfl rfl ?_
      refine D.frz 0 rfl ?_
      refine D.one rfl rfl rfl (Dp.a [] [0] (Ac.bs (ty := tyRowRow) (xs := [(RowRow.mk r355 x329.wrapped)]) (.cons (a358, c359) [0] rfl .nil) rfl rfl rfl rfl rfl rfl rfl) rfl rfl rfl rfl rfl rfl ?_)
      intro g362
      refine D.frz 0 rfl ?_
      obtain ⟨_, h365, H366⟩ := bnd H357
      refine D.one rfl rfl rfl (Dp.a [0] [0] (Ac.ap (ty := tyRowRow) h365 rfl rfl rfl rfl rfl rfl rfl) rfl rfl rfl rfl rfl rfl ?_)
      rintro ⟨a367, c368⟩
      refine D.q 9 rfl rfl rfl rfl rfl rfl ?_
      refine D.nil rfl rfl ?_
      refine E.block (E.then (T.region ?_))
      refine L.q 2 rfl ?_
      refine L.nil ?_
      have hr := Option.some.inj H366
      subst z283
      exact E.give (_, (a367, c368)) [3, 1, 1] [4, 5] (hag284 _ rfl) ⟨rfl, rfl, rfl, rfl, rfl, rfl, trivial⟩ rfl rfl
    refine T.exit (E.then_exit' (E.then_exit' (E.block_here ?_)))
    have hr := Option.some.inj H287
    subst z283
    have hb := hbr285 _ rfl
    subst e279
    exact E.give ((), (a186, c187)) [0, 0, 0] [0, 1] trivial ⟨rfl, rfl, rfl, trivial⟩ rfl rfl
  rintro ⟨_, ⟨a276, c277⟩⟩ _
  refine T.seq (T.region ?_)
  refine L.q 2 rfl ?_
  refine L.y (Yl.ldb 2 rfl rfl rfl rfl) rfl rfl rfl ?_
  obtain ⟨r370, h371, H372⟩ := bnd H281
  refine L.a [] [1] (Ac.call (c_slices_Clone_row_Glyph a_0_1 c_0_1 h371) rfl rfl rfl rfl) rfl rfl rfl rfl rfl ?_
  rintro ⟨a373, c374⟩
  refine L.q 1 rfl ?_
  refine L.a [3] [] (Ac.stb rfl rfl rfl rfl rfl rfl) rfl rfl rfl rfl rfl ?_
  intro _
  refine L.q 1 rfl ?_
  refine L.a [0] [] (Ac.stb rfl rfl rfl rfl rfl rfl) rfl rfl rfl rfl rfl ?_
  intro _
  refine L.nil (E.then (T.seq (T.region ?_)))
  refine L.y (Yl.ldb 0 rfl rfl rfl rfl) rfl rfl rfl ?_
  refine L.a [3] [] (Ac.stb rfl rfl rfl rfl rfl rfl) rfl rfl rfl rfl rfl ?_
  intro _
  refine L.nil (E.then (T.ret ?_))
  refine E.frz 3 rfl ?_
  refine E.frz 2 rfl ?_
  have hr := Option.some.inj H372
  subst r
  exact E.ret ((a276, c277), (a373, c374)) [] [1, 0] (.cell 0 rfl rfl rfl .nil) rfl rfl rfl

theorem c_sender_Sender_Note {s_ : SenderSender} {x_ : SnapSnap} (g_0 : Nat) (a_0_0 : Option Addr) (c_0_0 : Nat) (a_0_1 : Option Addr) (c_0_1 : Nat) (a_0_2 : Option Addr) (c_0_2 : Nat) (a_0_3 : Option Addr) (c_0_3 : Nat) (a_0_4 : Option Addr) (c_0_4 : Nat) (a_0_5 : Option Addr) (c_0_5 : Nat) (a_0_6 : Option Addr) (c_0_6 : Nat) (a_1_0 : Option Addr) (c_1_0 : Nat) (a_1_1 : Option Addr) (c_1_1 : Nat) {r : Bool × SenderSender} (H : p_sender_Sender_Note s_ x_ = some r) : CT G 10 [.pointer (some ⟨g_0, 0, none⟩), .agg (bx43 x_ a_1_0 c_1_0 a_1_1 c_1_1).toArray] [Ch.box g_0 67 (bx67 s_ a_0_0 c_0_0 a_0_1 c_0_1 a_0_2 c_0_2 a_0_3 c_0_3 a_0_4 c_0_4 a_0_5 c_0_5 a_0_6 c_0_6), Ch.aro tySnapSnap 43 a_0_4 c_0_4 s_.kept, Ch.arr Ty.bool 4 a_0_6 c_0_6 s_.message.there] [Im.sl tyRowRow a_0_0 c_0_0 s_.current.rows, Im.sl tyRowGlyph a_0_1 c_0_1 s_.current.begun, Im.sl tyRowRow a_0_2 c_0_2 s_.acked.rows, Im.sl tyRowGlyph a_0_3 c_0_3 s_.acked.begun, Im.sl Ty.str a_0_5 c_0_5 s_.message.parts, Im.sl tyRowRow a_1_0 c_1_0 x_.rows, Im.sl tyRowGlyph a_1_1 c_1_1 x_.begun] (fun h : (Option Addr × Nat) × (Option Addr × Nat) => .bool r.1) (fun h => [Ch.box g_0 67 (bx67 r.2 h.1.1 h.1.2 h.2.1 h.2.2 a_0_2 c_0_2 a_0_3 c_0_3 a_0_4 c_0_4 a_0_5 c_0_5 a_0_6 c_0_6), Ch.aro tySnapSnap 43 a_0_4 c_0_4 r.2.kept, Ch.arr Ty.bool 4 a_0_6 c_0_6 r.2.message.there]) (fun h => [Im.sl tyRowRow h.1.1 h.1.2 r.2.current.rows, Im.sl tyRowGlyph h.2.1 h.2.2 r.2.current.begun, Im.sl tyRowRow a_0_2 c_0_2 r.2.acked.rows, Im.sl tyRowGlyph a_0_3 c_0_3 r.2.acked.begun, Im.sl Ty.str a_0_5 c_0_5 r.2.message.parts]) := by
  delta p_sender_Sender_Note at H
  refine CT.of Go.Proofs.Tryz.func10 (by kernel_rfl) rfl rfl rfl fun K => ?_
  refine T.seq (T.region ?_)
  refine L.a [] [] (Ac.box rfl rfl) rfl rfl rfl rfl rfl ?_
  intro g1
  refine L.q 1 rfl ?_
  refine L.nil (E.then (T.seq (T.seq ?_)))
  obtain ⟨e19, H20, H21⟩ := bnd H
  refine T.join (η := Unit × Unit) (fun h => True) (fun h => [(0, .pointer (some ⟨g_0, 0, none⟩)), (3, .pointer (some ⟨g1, 0, none⟩)), (17, .bool e19)]) (fun h => [Ch.box g1 43 (bx43 x_ a_1_0 c_1_0 a_1_1 c_1_1), Ch.box g_0 67 (bx67 s_ a_0_0 c_0_0 a_0_1 c_0_1 a_0_2 c_0_2 a_0_3 c_0_3 a_0_4 c_0_4 a_0_5 c_0_5 a_0_6 c_0_6), Ch.aro tySnapSnap 43 a_0_4 c_0_4 s_.kept, Ch.arr Ty.bool 4 a_0_6 c_0_6 s_.message.there]) (fun h => [Im.sl tyRowRow a_0_0 c_0_0 s_.current.rows, Im.sl tyRowGlyph a_0_1 c_0_1 s_.current.begun, Im.sl tyRowRow a_0_2 c_0_2 s_.acked.rows, Im.sl tyRowGlyph a_0_3 c_0_3 s_.acked.begun, Im.sl Ty.str a_0_5 c_0_5 s_.message.parts, Im.sl tyRowRow a_1_0 c_1_0 x_.rows, Im.sl tyRowGlyph a_1_1 c_1_1 x_.begun]) ?_ ?_
  · refine T.draw [] [0, 0, 0, 0] mo (by rfl) rfl ?_
    refine D.y 0 (Yl.ldb 0 rfl rfl rfl rfl) rfl rfl rfl rfl rfl rfl ?_
    obtain ⟨r26, h27, H28⟩ := bnd H20
    refine D.one rfl rfl rfl (Dp.a [] [5, 6] (Ac.call (c_snap_Snap_Check a_1_0 c_1_0 a_1_1 c_1_1 h27) rfl rfl rfl rfl) rfl rfl rfl rfl rfl rfl ?_)
    rintro ⟨⟩
    refine D.q 2 rfl rfl rfl rfl rfl rfl ?_
    refine D.q 3 rfl rfl rfl rfl rfl rfl ?_
    refine D.cs 8 H28 rfl (fun hc H29 => ?_) (fun hc H29 => ?_)
    · refine D.sk 4 rfl rfl rfl rfl rfl ?_
      refine D.sk 5 rfl rfl rfl rfl rfl ?_
      refine D.sk 6 rfl rfl rfl rfl rfl ?_
      refine D.sk 7 rfl rfl rfl rfl rfl ?_
      refine D.sk 8 rfl rfl rfl rfl rfl ?_
      refine D.sk 9 rfl rfl rfl rfl rfl ?_
      refine D.sk 10 rfl rfl rfl rfl rfl ?_
      refine D.sk 11 rfl rfl rfl rfl rfl ?_
      refine D.q 12 rfl rfl rfl rfl rfl rfl ?_
      refine D.nil rfl rfl ?_
      have hr := Option.some.inj H29
      subst e19
      exact E.give ((), ()) [0, 0, 0, 0] [0, 1, 2, 3, 4, 5, 6] trivial ⟨rfl, rfl, rfl, trivial⟩ rfl rfl
    refine D.q 4 rfl rfl rfl rfl rfl rfl ?_
    refine D.y 5 (Yl.ldb 0 rfl rfl rfl rfl) rfl rfl rfl rfl rfl rfl ?_
    refine D.q 6 rfl rfl rfl rfl rfl rfl ?_
    refine D.q 7 rfl rfl rfl rfl rfl rfl ?_
    refine D.q 8 rfl rfl rfl rfl rfl rfl ?_
    refine D.q 9 rfl rfl rfl rfl rfl rfl ?_
    refine D.y 10 (Yl.ldb 1 rfl rfl rfl rfl) rfl rfl rfl rfl rfl rfl ?_
    refine D.q 11 rfl rfl rfl rfl rfl rfl ?_
    refine D.q 12 rfl rfl rfl rfl rfl rfl ?_
    refine D.nil rfl rfl ?_
    have hr := Option.some.inj H29
    subst e19
    exact E.give ((), ()) [0, 0, 0, 0] [0, 1, 2, 3, 4, 5, 6] trivial ⟨rfl, rfl, rfl, trivial⟩ rfl rfl
  rintro ⟨_, ⟨⟩⟩ _
  refine T.bif rfl H21 (fun hc H31 => ?_) (fun hc H31 => ?_)
  · refine T.seq (T.region ?_)
    refine L.q 1 rfl ?_
    refine L.nil (E.then (T.ret (E.then_ret ?_)))
    have hr := Option.some.inj H31
    subst r
    exact E.ret ((a_0_0, c_0_0), (a_0_1, c_0_1)) [1, 1, 1] [0, 1, 2, 3, 4] (.tmp rfl .nil) rfl rfl rfl
  refine T.skip (E.then (T.seq (T.region ?_)))
  refine L.q 1 rfl ?_
  refine L.y (Yl.ldb 0 rfl rfl rfl rfl) rfl rfl rfl ?_
  obtain ⟨r32, h33, H34⟩ := bnd H31
  refine L.a [] [5, 6] (Ac.call (c_snap_Snap_Clone a_1_0 c_1_0 a_1_1 c_1_1 h33) rfl rfl rfl rfl) rfl rfl rfl rfl rfl ?_
  rintro ⟨⟨a35, c36⟩, ⟨a37, c38⟩⟩
  refine L.q 2 rfl ?_
  refine L.a [1] [] (Ac.stb rfl rfl rfl rfl rfl rfl) rfl rfl rfl rfl rfl ?_
  intro _
  refine L.nil (E.then (T.seq (T.region ?_)))
  refine L.q 1 rfl ?_
  refine L.nil (E.then (T.ret ?_))
  have hr := Option.some.inj H34
  subst r
  exact E.ret ((a35, c36), (a37, c38)) [0, 1, 1] [0, 1, 4, 5, 6] (.tmp rfl .nil) rfl rfl rfl

end Go.Tw.X

set_option maxHeartbeats 2000000
set_option linter.unusedVariables false
set_option linter.unusedSimpArgs false
set_option maxRecDepth 10000
namespace Go.Tw.X
open Go Go.Tw
theorem c_num_digits {n_ : Int} {r : Int} (H : p_num_digits n_ = some r) : CT G 91 [.int .i64 n_] [] [] (fun h : Nat => .func (.func 98) #[] #[.pointer (some ⟨h, 0, none⟩)]) (fun h => [Ch.box h 3 [.int .i64 r]]) (fun h => []) := by
  delta p_num_digits at H
  refine CT.of Go.Proofs.Tryz.func91 (by kernel_rfl) rfl rfl rfl fun K => ?_
  refine T.seq (T.region ?_)
  refine L.a [] [] (Ac.box rfl rfl) rfl rfl rfl rfl rfl ?_
  intro g1
  refine L.q 1 rfl ?_
  refine L.nil (E.then (T.seq (T.region ?_)))
  refine L.q 2 rfl ?_
  refine L.nil (E.then (T.ret ?_))
  have hr := Option.some.inj H
  subst r
  exact E.ret g1 [0] [] (.tmp rfl .nil) rfl rfl rfl

theorem c_num_clip {n_ : Int} {r : Int} (H : p_num_clip n_ = some r) : CT G 99 [.int .i64 n_] [] [] (fun h : Unit => .int .i64 r) (fun h => []) (fun h => []) := by
  delta p_num_clip at H
  refine CT.of Go.Proofs.Tryz.func99 (by kernel_rfl) rfl rfl rfl fun K => ?_
  refine T.seq (T.region ?_)
  refine L.q 1 rfl ?_
  refine L.nil (E.then (T.seq (T.region ?_)))
  refine L.q 4 rfl ?_
  refine L.nil (E.then (T.ret ?_))
  have hr := Option.some.inj H
  subst r
  exact E.ret () [] [] (.tmp rfl .nil) rfl rfl rfl

theorem c_num_digits_1 {σ η : Type} {Y : σ → Int → Option (σ × Bool)} {y0 : σ} {x1 : Int} {yl : Nat} {C : σ → η → Ch} (hY : ∀ s (h : η) (x : Int) (t : Unit) z, Y s x = some z → YT G yl [.int .u8 x] [C s h] [] (fun _ : η => .bool z.2) (fun h2 => [C z.1 h2]) (fun _ => [])) (h0 : η) (g_1 : Nat) {r : σ × Int} (H : p_num_digits_1 Y y0 x1 = some r) : CT G 98 [.func (.yield yl) #[] #[], .pointer (some ⟨g_1, 0, none⟩)] [C y0 h0, Ch.box g_1 3 [.int .i64 x1]] [] (fun h : η => .tuple #[]) (fun h => [C r.1 h, Ch.box g_1 3 [.int .i64 r.2]]) (fun h => []) := by
  delta p_num_digits_1 at H
  refine CT.of Go.Proofs.Tryz.func98 (by kernel_rfl) rfl rfl rfl fun K => ?_
  refine T.seq (T.seq (T.region ?_))
  refine L.y (Yl.ldb 1 rfl rfl rfl rfl) rfl rfl rfl ?_
  obtain ⟨r1, h2, H3⟩ := bnd H
  refine L.a [] [] (Ac.call (c_num_clip h2) rfl rfl rfl rfl) rfl rfl rfl rfl rfl ?_
  rintro ⟨⟩
  refine L.a [1] [] (Ac.stb rfl rfl rfl rfl rfl rfl) rfl rfl rfl rfl rfl ?_
  intro _
  refine L.nil (E.then ?_)
  obtain ⟨y54, H55, H56⟩ := bnd H3
  refine T.join (η := (Int × σ) × (η)) (fun h => y54 = .inl h.1) (fun h => (fun e53 => (fun h52 => [(0, .func (.yield yl) #[] #[]), (1, .pointer (some ⟨g_1, 0, none⟩))]) h.2) h.1) (fun h => (fun e53 => (fun h52 => [Ch.box g_1 3 [.int .i64 e53.1], C e53.2 h52]) h.2) h.1) (fun h => (fun e53 => (fun h52 => []) h.2) h.1) ?_ ?_
  · refine T.block ?_
    refine T.lp (η := η) (fun s37 h => (fun h36 => [(0, .func (.yield yl) #[] #[]), (1, .pointer (some ⟨g_1, 0, none⟩))]) h) (fun s37 h => (fun h36 => [Ch.box g_1 3 [.int .i64 s37.1], C s37.2 h36]) h) (fun s37 h => (fun h36 => []) h) h0 [0, 0] [] H55 ⟨rfl, rfl, trivial⟩ rfl rfl ?_
    rintro k_ s37 h36 z58 H57 hag59 hbr60
    refine T.seq (T.seq (T.region ?_))
    refine L.y (Yl.ldb 0 rfl rfl rfl rfl) rfl rfl rfl ?_
    refine L.q 1 rfl ?_
    refine L.nil (E.then ?_)
    refine T.bif rfl H57 (fun hc H62 => ?_) (fun hc H62 => ?_)
    · refine T.skip (E.then (T.seq (T.block (T.seq (T.region ?_)))))
      refine L.q 1 rfl ?_
      refine L.y (Yl.ldb 0 rfl rfl rfl rfl) rfl rfl rfl ?_
      refine L.q 3 rfl ?_
      obtain ⟨z68, h69, H70⟩ := bnd H62
      refine L.yd [1] [] (hY _ _ _ () _ h69) rfl rfl rfl rfl rfl rfl rfl rfl ?_
      intro h71
      refine L.q 1 rfl ?_
      refine L.nil (E.then ?_)
      refine T.bif rfl H70 (fun hc H72 => ?_) (fun hc H72 => ?_)
      · refine T.ret (E.block_ret (E.then_ret (E.then_ret (E.block_ret ?_))))
        obtain ⟨w73, hz, H74⟩ := inrr_some H72
        subst z58
        have hb := hbr60 _ rfl
        subst y54
        have hw : w73 = r := Option.some.inj H56
        subst w73
        refine E.then_ret ?_
        have hr := Option.some.inj H74
        subst r
        exact E.ret h71 [0, 0] [] .nil rfl rfl rfl
      refine T.skip (E.block (E.then (T.region ?_)))
      refine L.y (Yl.ldb 1 rfl rfl rfl rfl) rfl rfl rfl ?_
      refine L.q 1 rfl ?_
      refine L.a [1] [] (Ac.stb rfl rfl rfl rfl rfl rfl) rfl rfl rfl rfl rfl ?_
      intro _
      refine L.nil ?_
      have hr := Option.some.inj H72
      subst z58
      exact E.give (_, h71) [0, 0] [] (hag59 _ rfl) ⟨rfl, rfl, trivial⟩ rfl rfl
    refine T.exit (E.then_exit' (E.then_exit' (E.block_here ?_)))
    have hr := Option.some.inj H62
    subst z58
    have hb := hbr60 _ rfl
    subst y54
    exact E.give (_, h36) [0, 0] [] rfl ⟨rfl, rfl, trivial⟩ rfl rfl
  rintro ⟨e53, h52⟩ hy
  subst hy
  refine T.region ?_
  refine L.q 1 rfl ?_
  refine L.y (Yl.ldb 0 rfl rfl rfl rfl) rfl rfl rfl ?_
  refine L.q 1 rfl ?_
  obtain ⟨z75, h76, H77⟩ := bnd H56
  refine L.yd [1] [] (hY _ _ _ () _ h76) rfl rfl rfl rfl rfl rfl rfl rfl ?_
  intro h78
  refine L.nil (E.off ?_)
  have hr := Option.some.inj H77
  subst r
  exact E.ret h78 [0, 0] [] .nil rfl rfl rfl

theorem c_num_Out_Num {o : NumOut} {l : List Int} (g_0 : Nat) (a_0_0 : Option Addr) (c_0_0 : Nat) (a_1 : Option Addr) (c_1 : Nat) {r : NumOut} (H : p_num_Out_Num o l = some r) : CT G 77 [.pointer (some ⟨g_0, 0, none⟩), .slice a_1 l.length c_1] [Ch.box g_0 140 [.slice a_0_0 o.b.length c_0_0], Ch.arr (Ty.int .u8) 5 a_0_0 c_0_0 o.b] [Im.sl (Ty.int .i64) a_1 c_1 l] (fun h : (Option Addr × Nat) => .pointer (some ⟨g_0, 0, none⟩)) (fun h => [Ch.box g_0 140 [.slice h.1 r.b.length h.2], Ch.arr (Ty.int .u8) 5 h.1 h.2 r.b]) (fun h => []) := by
  delta p_num_Out_Num at H
  refine CT.of Go.Proofs.Tryz.func77 (by kernel_rfl) rfl rfl rfl fun K => ?_
  refine T.dfs0 ?_
  refine T.seq (T.region ?_)
  refine L.a [] [] (Ac.box rfl rfl) rfl rfl rfl rfl rfl ?_
  intro g1
  refine L.q 1 rfl ?_
  refine L.nil (E.then (T.seq (T.seq (T.region ?_))))
  refine L.q 3 rfl ?_
  refine L.nil (E.then ?_)
  obtain ⟨e518, H519, H520⟩ := bnd H
  refine T.joinD (η := Unit × ((Option Addr × Nat) × List Nat)) (fun h => True) (fun h => (fun a514 c515 ds517 => ds517) h.2.1.1 h.2.1.2 h.2.2) (fun h => (fun a514 c515 ds517 => [(2, .pointer (some ⟨g1, 0, none⟩))]) h.2.1.1 h.2.1.2 h.2.2) (fun h => (fun a514 c515 ds517 => [Ch.arr (Ty.int .u8) 5 a514 c515 e518.b, Ch.box g1 141 [.pointer (some ⟨g_0, 0, none⟩)], Ch.dfs ds517, Ch.box g_0 140 [.slice a514 e518.b.length c515]]) h.2.1.1 h.2.1.2 h.2.2) (fun h => (fun a514 c515 ds517 => [Im.sl (Ty.int .i64) a_1 c_1 l]) h.2.1.1 h.2.1.2 h.2.2) ?_ ?_
  · refine T.block ?_
    refine T.lpD (η := (Option Addr × Nat) × List Nat) (fun s348 h => (fun a343 c344 ds347 => ds347) h.1.1 h.1.2 h.2) (fun s348 h => (fun a343 c344 ds347 => [(2, .pointer (some ⟨g1, 0, none⟩)), (8, .slice a_1 l.length c_1), (9, .int .i64 (l.length : Int)), (10, .int .i64 s348.2)]) h.1.1 h.1.2 h.2) (fun s348 h => (fun a343 c344 ds347 => [Ch.arr (Ty.int .u8) 5 a343 c344 s348.1.b, Ch.box g1 141 [.pointer (some ⟨g_0, 0, none⟩)], Ch.dfs ds347, Ch.box g_0 140 [.slice a343 s348.1.b.length c344]]) h.1.1 h.1.2 h.2) (fun s348 h => (fun a343 c344 ds347 => [Im.sl (Ty.int .i64) a_1 c_1 l]) h.1.1 h.1.2 h.2) ((a_0_0, c_0_0), []) [3, 0, 0, 0] [0] H519 rfl ⟨rfl, rfl, rfl, rfl, trivial⟩ rfl rfl ?_
    rintro k_ s348 ⟨⟨a343, c344⟩, ds347⟩ z522 H521 hag523 hbr524
    refine T.seq (T.region ?_)
    refine L.q 1 rfl ?_
    refine L.nil (E.then (T.seq ?_))
    refine T.bif rfl H521 (fun hc H526 => ?_) (fun hc H526 => ?_)
    · refine T.skip (E.then (T.seq (T.block (T.seq (T.region ?_)))))
      obtain ⟨x608, h609, H610⟩ := bnd H526
      refine L.addr 0 rfl (idx_lt h609) fun b611 o612 e613 => ?_
      obtain rfl : a_1 = some ⟨b611, o612, none⟩ := e613
      refine L.y (Yl.ia h609 rfl rfl rfl rfl rfl rfl) rfl rfl rfl ?_
      refine L.el 0 rfl (idx_some h609).2 ?_
      rintro _
      refine L.y (Yl.ldc 0 0 rfl rfl rfl rfl) rfl rfl rfl ?_
      refine L.q 1 rfl ?_
      refine L.nil (E.then (T.seq (T.region ?_)))
      refine L.q 1 rfl ?_
      obtain ⟨r615, h616, H617⟩ := bnd H610
      refine L.a [] [] (Ac.call (c_num_digits h616) rfl rfl rfl rfl) rfl rfl rfl rfl rfl ?_
      rintro g618
      refine L.nil (E.then (T.block ?_))
      obtain ⟨r680, h681, H682⟩ := bnd H617
      refine T.rf2 (σ := NumOut) (η := (Option Addr × Nat)) (X := Int) (θ := Unit) (τ := (Option Addr × Nat)) (s1 := r680.1) (hx := fun x => x) (fun x t => [.int .u8 x]) (fun x t => []) (fun _ => none) (fun s661 h => (fun a638 c639 => [Ch.arr (Ty.int .u8) 5 a638 c639 s661.b, Ch.box g1 141 [.pointer (some ⟨g_0, 0, none⟩)], Ch.box g_0 140 [.slice a638 s661.b.length c639]]) h.1 h.2) (fun s661 h => (fun a638 c639 => [Im.cells b611 (o612 + s348.2.toNat * 1) [.int .i64 x608], Im.sl (Ty.int .i64) (some ⟨b611, o612, none⟩) c_1 l]) h.1 h.2) 3 [1, 1, 1, 0] [0, 1] [] rfl rfl (fun _ _ => rfl) rfl (fun yl C hY => (c_num_digits_1 hY (a343, c344) g618 h681 : _)) (fun _ _ _ _ => rfl) rfl rfl rfl rfl rfl ?_ rfl ?_
      · rintro yl K2 s661 ⟨a638, c639⟩ x619 ⟨⟩ z662 H663
        refine T.region ?_
        refine L.q 1 rfl ?_
        refine L.nil ?_
        refine E.begin fun K3 => ?_
        refine T.block ?_
        refine T.draw [10] [1, 1] mo (by rfl) rfl ?_
        refine D.y 0 (Yl.ldb 0 rfl rfl rfl rfl) rfl rfl rfl rfl rfl rfl ?_
        refine D.y 1 (Yl.ldb 0 rfl rfl rfl rfl) rfl rfl rfl rfl rfl rfl ?_
        refine D.q 2 rfl rfl rfl rfl rfl rfl ?_
        refine D.q 3 rfl rfl rfl rfl rfl rfl ?_
        refine D.y 4 (Yl.ldb 1 rfl rfl rfl rfl) rfl rfl rfl rfl rfl rfl ?_
        refine D.q 5 rfl rfl rfl rfl rfl rfl ?_
        refine D.one rfl rfl rfl (Dp.a [] [] (Ac.bs (ty := (Ty.int .u8)) (xs := [x619]) (.cons () [] rfl .nil) rfl rfl rfl rfl rfl rfl rfl) rfl rfl rfl rfl rfl rfl ?_)
        intro g672
        refine D.frz 0 rfl ?_
        obtain ⟨_, h675, H676⟩ := bnd H663
        refine D.one rfl rfl rfl (Dp.a [0] [0] (Ac.ap (ty := (Ty.int .u8)) h675 rfl rfl rfl rfl rfl rfl rfl) rfl rfl rfl rfl rfl rfl ?_)
        rintro ⟨a677, c678⟩
        refine D.q 8 rfl rfl rfl rfl rfl rfl ?_
        refine D.q 9 rfl rfl rfl rfl rfl rfl ?_
        refine D.one rfl rfl rfl (Dp.al [1] [] (Ac.stb rfl rfl rfl rfl rfl rfl) rfl rfl rfl rfl rfl rfl rfl ?_)
        intro _
        refine D.nil rfl rfl ?_
        refine E.block ?_
        have hr := Option.some.inj H676
        subst z662
        exact E.on (a677, c678) [2, 1, 0] [1, 2] rfl rfl rfl rfl
      rintro h683 D684
      refine E.block (E.block (E.then (T.region ?_)))
      refine L.q 2 rfl ?_
      refine L.nil ?_
      have hr := Option.some.inj H682
      subst z522
      exact E.giveD (_, ((h683.1, h683.2), (D684 :: ds347))) [1, 1, 0, 0] [1] (hag523 _ rfl) rfl ⟨rfl, rfl, rfl, rfl, trivial⟩ rfl rfl
    refine T.exit (E.then_exit' (E.then_exit' (E.block_here ?_)))
    have hr := Option.some.inj H526
    subst z522
    have hb := hbr524 _ rfl
    subst e518
    exact E.giveD ((), ((a343, c344), ds347)) [0, 0, 0, 0] [0] trivial rfl ⟨rfl, trivial⟩ rfl rfl
  rintro ⟨_, ⟨⟨a514, c515⟩, ds517⟩⟩ _
  refine T.seq (T.region ?_)
  refine L.y (Yl.ldb 1 rfl rfl rfl rfl) rfl rfl rfl ?_
  refine L.q 1 rfl ?_
  refine L.nil (E.then (T.ret ?_))
  have hr := Option.some.inj H520
  subst r
  exact E.retd (a514, c515) 2 [2, 0] [] rfl (.tmp rfl .nil) rfl rfl rfl

theorem c_num_Out_Raw {o : NumOut} {l : List ByteArray} (g_0 : Nat) (a_0_0 : Option Addr) (c_0_0 : Nat) (a_1 : Option Addr) (c_1 : Nat) {r : NumOut} (H : p_num_Out_Raw o l = some r) : CT G 80 [.pointer (some ⟨g_0, 0, none⟩), .slice a_1 l.length c_1] [Ch.box g_0 140 [.slice a_0_0 o.b.length c_0_0], Ch.arr (Ty.int .u8) 5 a_0_0 c_0_0 o.b] [Im.sl Ty.str a_1 c_1 l] (fun h : (Option Addr × Nat) => .pointer (some ⟨g_0, 0, none⟩)) (fun h => [Ch.box g_0 140 [.slice h.1 r.b.length h.2], Ch.arr (Ty.int .u8) 5 h.1 h.2 r.b]) (fun h => []) := by
  delta p_num_Out_Raw at H
  refine CT.of Go.Proofs.Tryz.func80 (by kernel_rfl) rfl rfl rfl fun K => ?_
  refine T.seq (T.region ?_)
  refine L.q 1 rfl ?_
  refine L.nil (E.then (T.seq (T.seq (T.region ?_))))
  refine L.q 3 rfl ?_
  refine L.nil (E.then ?_)
  obtain ⟨e99, H100, H101⟩ := bnd H
  refine T.join (η := Unit × ((Option Addr × Nat))) (fun h => True) (fun h => (fun a96 c97 => [(0, .pointer (some ⟨g_0, 0, none⟩))]) h.2.1 h.2.2) (fun h => (fun a96 c97 => [Ch.arr (Ty.int .u8) 5 a96 c97 e99.b, Ch.box g_0 140 [.slice a96 e99.b.length c97]]) h.2.1 h.2.2) (fun h => (fun a96 c97 => [Im.sl Ty.str a_1 c_1 l]) h.2.1 h.2.2) ?_ ?_
  · refine T.block ?_
    refine T.lp (η := (Option Addr × Nat)) (fun s68 h => (fun a64 c65 => [(0, .pointer (some ⟨g_0, 0, none⟩)), (7, .slice a_1 l.length c_1), (8, .int .i64 (l.length : Int)), (9, .int .i64 s68.2)]) h.1 h.2) (fun s68 h => (fun a64 c65 => [Ch.arr (Ty.int .u8) 5 a64 c65 s68.1.b, Ch.box g_0 140 [.slice a64 s68.1.b.length c65]]) h.1 h.2) (fun s68 h => (fun a64 c65 => [Im.sl Ty.str a_1 c_1 l]) h.1 h.2) (a_0_0, c_0_0) [1, 0] [0] H100 ⟨rfl, rfl, rfl, rfl, trivial⟩ rfl rfl ?_
    rintro k_ s68 ⟨a64, c65⟩ z103 H102 hag104 hbr105
    refine T.seq (T.region ?_)
    refine L.q 1 rfl ?_
    refine L.nil (E.then (T.seq ?_))
    refine T.bif rfl H102 (fun hc H107 => ?_) (fun hc H107 => ?_)
    · refine T.skip (E.then (T.seq (T.block (T.seq (T.region ?_)))))
      obtain ⟨x120, h121, H122⟩ := bnd H107
      refine L.addr 0 rfl (idx_lt h121) fun b123 o124 e125 => ?_
      obtain rfl : a_1 = some ⟨b123, o124, none⟩ := e125
      refine L.y (Yl.ia h121 rfl rfl rfl rfl rfl rfl) rfl rfl rfl ?_
      refine L.el 0 rfl (idx_some h121).2 ?_
      rintro _
      refine L.y (Yl.ldc 0 0 rfl rfl rfl rfl) rfl rfl rfl ?_
      refine L.q 1 rfl ?_
      refine L.nil (E.then (T.region ?_))
      refine L.q 4 rfl ?_
      refine L.y (Yl.ldb 1 rfl rfl rfl rfl) rfl rfl rfl ?_
      refine L.q 1 rfl ?_
      obtain ⟨_, h127, H128⟩ := bnd H122
      refine L.a [0] [] (Ac.aps h127 rfl rfl rfl rfl rfl rfl rfl rfl rfl zu8_5) rfl rfl rfl rfl rfl ?_
      rintro ⟨a129, c130⟩
      refine L.q 2 rfl ?_
      refine L.a [1] [] (Ac.stb rfl rfl rfl rfl rfl rfl) rfl rfl rfl rfl rfl ?_
      intro _
      refine L.nil (E.block (E.then (T.region ?_)))
      refine L.q 2 rfl ?_
      refine L.nil ?_
      have hr := Option.some.inj H128
      subst z103
      exact E.give (_, (a129, c130)) [1, 0] [1] (hag104 _ rfl) ⟨rfl, rfl, rfl, rfl, trivial⟩ rfl rfl
    refine T.exit (E.then_exit' (E.then_exit' (E.block_here ?_)))
    have hr := Option.some.inj H107
    subst z103
    have hb := hbr105 _ rfl
    subst e99
    exact E.give ((), (a64, c65)) [0, 0] [0] trivial ⟨rfl, trivial⟩ rfl rfl
  rintro ⟨_, ⟨a96, c97⟩⟩ _
  refine T.seq (T.region ?_)
  refine L.q 2 rfl ?_
  refine L.nil (E.then (T.ret ?_))
  have hr := Option.some.inj H101
  subst r
  exact E.ret (a96, c97) [1, 0] [] (.tmp rfl .nil) rfl rfl rfl

theorem c_num_Out_Text {o : NumOut} {l : List ByteArray} (g_0 : Nat) (a_0_0 : Option Addr) (c_0_0 : Nat) (a_1 : Option Addr) (c_1 : Nat) {r : NumOut} (H : p_num_Out_Text o l = some r) : CT G 79 [.pointer (some ⟨g_0, 0, none⟩), .slice a_1 l.length c_1] [Ch.box g_0 140 [.slice a_0_0 o.b.length c_0_0], Ch.arr (Ty.int .u8) 5 a_0_0 c_0_0 o.b] [Im.sl Ty.str a_1 c_1 l] (fun h : (Option Addr × Nat) => .pointer (some ⟨g_0, 0, none⟩)) (fun h => [Ch.box g_0 140 [.slice h.1 r.b.length h.2], Ch.arr (Ty.int .u8) 5 h.1 h.2 r.b]) (fun h => []) := by
  delta p_num_Out_Text at H
  refine CT.of Go.Proofs.Tryz.func79 (by kernel_rfl) rfl rfl rfl fun K => ?_
  refine T.seq (T.region ?_)
  refine L.q 1 rfl ?_
  refine L.nil (E.then (T.seq (T.seq (T.region ?_))))
  refine L.q 3 rfl ?_
  refine L.nil (E.then ?_)
  obtain ⟨e177, H178, H179⟩ := bnd H
  refine T.join (η := Unit × ((Option Addr × Nat))) (fun h => True) (fun h => (fun a174 c175 => [(0, .pointer (some ⟨g_0, 0, none⟩))]) h.2.1 h.2.2) (fun h => (fun a174 c175 => [Ch.arr (Ty.int .u8) 5 a174 c175 e177.b, Ch.box g_0 140 [.slice a174 e177.b.length c175]]) h.2.1 h.2.2) (fun h => (fun a174 c175 => [Im.sl Ty.str a_1 c_1 l]) h.2.1 h.2.2) ?_ ?_
  · refine T.block ?_
    refine T.lp (η := (Option Addr × Nat)) (fun s120 h => (fun a116 c117 => [(0, .pointer (some ⟨g_0, 0, none⟩)), (7, .slice a_1 l.length c_1), (8, .int .i64 (l.length : Int)), (9, .int .i64 s120.2)]) h.1 h.2) (fun s120 h => (fun a116 c117 => [Ch.arr (Ty.int .u8) 5 a116 c117 s120.1.b, Ch.box g_0 140 [.slice a116 s120.1.b.length c117]]) h.1 h.2) (fun s120 h => (fun a116 c117 => [Im.sl Ty.str a_1 c_1 l]) h.1 h.2) (a_0_0, c_0_0) [1, 0] [0] H178 ⟨rfl, rfl, rfl, rfl, trivial⟩ rfl rfl ?_
    rintro k_ s120 ⟨a116, c117⟩ z181 H180 hag182 hbr183
    refine T.seq (T.region ?_)
    refine L.q 1 rfl ?_
    refine L.nil (E.then (T.seq ?_))
    refine T.bif rfl H180 (fun hc H185 => ?_) (fun hc H185 => ?_)
    · refine T.skip (E.then (T.seq (T.block (T.seq (T.region ?_)))))
      obtain ⟨x211, h212, H213⟩ := bnd H185
      refine L.addr 0 rfl (idx_lt h212) fun b214 o215 e216 => ?_
      obtain rfl : a_1 = some ⟨b214, o215, none⟩ := e216
      refine L.y (Yl.ia h212 rfl rfl rfl rfl rfl rfl) rfl rfl rfl ?_
      refine L.el 0 rfl (idx_some h212).2 ?_
      rintro _
      refine L.y (Yl.ldc 0 0 rfl rfl rfl rfl) rfl rfl rfl ?_
      refine L.q 1 rfl ?_
      refine L.nil (E.then (T.region ?_))
      refine L.q 3 rfl ?_
      refine L.a [] [] (Ac.bs (ty := (Ty.int .i64)) (xs := [(x211.size : Int)]) (.cons () [] rfl .nil) rfl rfl rfl rfl rfl rfl rfl) rfl rfl rfl rfl rfl ?_
      intro g218
      refine L.frz 0 rfl ?_
      obtain ⟨r221, h222, H223⟩ := bnd H213
      refine L.a [1, 0] [0] (Ac.call (c_num_Out_Num g_0 a116 c117 (some ⟨g218, 0, none⟩) 1 h222) rfl rfl rfl rfl) rfl rfl rfl rfl rfl ?_
      rintro ⟨a224, c225⟩
      refine L.q 1 rfl ?_
      refine L.a [] [] (Ac.bs (ty := Ty.str) (xs := [x211]) (.cons () [] rfl .nil) rfl rfl rfl rfl rfl rfl rfl) rfl rfl rfl rfl rfl ?_
      intro g227
      refine L.frz 0 rfl ?_
      obtain ⟨r230, h231, H232⟩ := bnd H223
      refine L.a [0, 0] [0] (Ac.call (c_num_Out_Raw g_0 a224 c225 (some ⟨g227, 0, none⟩) 1 h231) rfl rfl rfl rfl) rfl rfl rfl rfl rfl ?_
      rintro ⟨a233, c234⟩
      refine L.nil (E.block (E.then (T.region ?_)))
      refine L.q 2 rfl ?_
      refine L.nil ?_
      have hr := Option.some.inj H232
      subst z181
      exact E.give (_, (a233, c234)) [1, 0] [3] (hag182 _ rfl) ⟨rfl, rfl, rfl, rfl, trivial⟩ rfl rfl
    refine T.exit (E.then_exit' (E.then_exit' (E.block_here ?_)))
    have hr := Option.some.inj H185
    subst z181
    have hb := hbr183 _ rfl
    subst e177
    exact E.give ((), (a116, c117)) [0, 0] [0] trivial ⟨rfl, trivial⟩ rfl rfl
  rintro ⟨_, ⟨a174, c175⟩⟩ _
  refine T.seq (T.region ?_)
  refine L.q 2 rfl ?_
  refine L.nil (E.then (T.ret ?_))
  have hr := Option.some.inj H179
  subst r
  exact E.ret (a174, c175) [1, 0] [] (.tmp rfl .nil) rfl rfl rfl

theorem c_num_Out_Bytes {o : NumOut} (g_0 : Nat) (a_0_0 : Option Addr) (c_0_0 : Nat) {r : ByteArray} (H : p_num_Out_Bytes o = some r) : CT G 85 [.pointer (some ⟨g_0, 0, none⟩)] [Ch.box g_0 140 [.slice a_0_0 o.b.length c_0_0], Ch.arr (Ty.int .u8) 5 a_0_0 c_0_0 o.b] [] (fun h : Unit => .string r) (fun h => [Ch.box g_0 140 [.slice a_0_0 o.b.length c_0_0], Ch.arr (Ty.int .u8) 5 a_0_0 c_0_0 o.b]) (fun h => []) := by
  delta p_num_Out_Bytes at H
  refine CT.of Go.Proofs.Tryz.func85 (by kernel_rfl) rfl rfl rfl fun K => ?_
  refine T.seq (T.region ?_)
  refine L.q 1 rfl ?_
  refine L.nil (E.then (T.seq (T.region ?_)))
  refine L.q 3 rfl ?_
  refine L.y (Yl.ldb 0 rfl rfl rfl rfl) rfl rfl rfl ?_
  refine L.y (Yl.bs 1 rfl rfl rfl rfl rfl rfl rfl rfl rfl) rfl rfl rfl ?_
  refine L.q 1 rfl ?_
  refine L.nil (E.then (T.ret ?_))
  have hr := Option.some.inj H
  subst r
  exact E.ret () [0, 0] [] (.tmp rfl .nil) rfl rfl rfl

theorem c_book_Pack {l : List RowGlyph} (a_0 : Option Addr) (c_0 : Nat) {r : ByteArray} (H : p_book_Pack l = some r) : CT G 81 [.slice a_0 l.length c_0] [] [Im.sl tyRowGlyph a_0 c_0 l] (fun h : Unit => .string r) (fun h => []) (fun h => []) := by
  delta p_book_Pack at H
  refine CT.of Go.Proofs.Tryz.func81 (by kernel_rfl) rfl rfl rfl fun K => ?_
  refine T.seq (T.region ?_)
  refine L.q 1 rfl ?_
  refine L.nil (E.then (T.seq (T.region ?_)))
  refine L.a [] [] (Ac.alloc rfl rfl) rfl rfl rfl rfl rfl ?_
  intro g1
  refine L.nil (E.then (T.seq (T.region ?_)))
  refine L.q 2 rfl ?_
  refine L.a [] [] (Ac.bs (ty := (Ty.int .i64)) (xs := [(l.length : Int)]) (.cons () [] rfl .nil) rfl rfl rfl rfl rfl rfl rfl) rfl rfl rfl rfl rfl ?_
  intro g2
  refine L.nil0 (Ty.int .u8) 5 ?_
  refine L.frz 1 rfl ?_
  obtain ⟨r6, h7, H8⟩ := bnd H
  refine L.a [1, 0] [0] (Ac.call (c_num_Out_Num g1 none 0 (some ⟨g2, 0, none⟩) 1 h7) rfl rfl rfl rfl) rfl rfl rfl rfl rfl ?_
  rintro ⟨a9, c10⟩
  refine L.nil (E.then (T.seq (T.seq (T.region ?_))))
  refine L.q 3 rfl ?_
  refine L.nil (E.then ?_)
  obtain ⟨e140, H141, H142⟩ := bnd H8
  refine T.join (η := Unit × ((Option Addr × Nat))) (fun h => True) (fun h => (fun a137 c138 => [(3, .pointer (some ⟨g1, 0, none⟩))]) h.2.1 h.2.2) (fun h => (fun a137 c138 => [Ch.arr (Ty.int .u8) 5 a137 c138 e140.b, Ch.box g1 140 [.slice a137 e140.b.length c138]]) h.2.1 h.2.2) (fun h => (fun a137 c138 => [Im.sl (Ty.int .i64) (some ⟨g2, 0, none⟩) 1 [(l.length : Int)], Im.sl tyRowGlyph a_0 c_0 l]) h.2.1 h.2.2) ?_ ?_
  · refine T.block ?_
    refine T.lp (η := (Option Addr × Nat)) (fun s99 h => (fun a95 c96 => [(3, .pointer (some ⟨g1, 0, none⟩)), (10, .slice a_0 l.length c_0), (11, .int .i64 (l.length : Int)), (12, .int .i64 s99.2)]) h.1 h.2) (fun s99 h => (fun a95 c96 => [Ch.arr (Ty.int .u8) 5 a95 c96 s99.1.b, Ch.box g1 140 [.slice a95 s99.1.b.length c96]]) h.1 h.2) (fun s99 h => (fun a95 c96 => [Im.sl (Ty.int .i64) (some ⟨g2, 0, none⟩) 1 [(l.length : Int)], Im.sl tyRowGlyph a_0 c_0 l]) h.1 h.2) (a9, c10) [1, 0] [0, 1] H141 ⟨rfl, rfl, rfl, rfl, trivial⟩ rfl rfl ?_
    rintro k_ s99 ⟨a95, c96⟩ z144 H143 hag145 hbr146
    refine T.seq (T.region ?_)
    refine L.q 1 rfl ?_
    refine L.nil (E.then (T.seq ?_))
    refine T.bif rfl H143 (fun hc H148 => ?_) (fun hc H148 => ?_)
    · refine T.skip (E.then (T.seq (T.block (T.seq (T.region ?_)))))
      obtain ⟨x166, h167, H168⟩ := bnd H148
      refine L.addr 1 rfl (idx_lt h167) fun b169 o170 e171 => ?_
      obtain rfl : a_0 = some ⟨b169, o170, none⟩ := e171
      refine L.y (Yl.ia h167 rfl rfl rfl rfl rfl rfl) rfl rfl rfl ?_
      refine L.el 1 rfl (idx_some h167).2 ?_
      rintro _
      refine L.y (Yl.ldc 0 0 rfl rfl rfl rfl) rfl rfl rfl ?_
      refine L.a [] [] (Ac.alloc rfl rfl) rfl rfl rfl rfl rfl ?_
      intro g173
      refine L.a [0] [] (Ac.stb rfl rfl rfl rfl rfl rfl) rfl rfl rfl rfl rfl ?_
      intro _
      refine L.nil (E.then (T.region ?_))
      refine L.q 1 rfl ?_
      refine L.y (Yl.ldb 0 rfl rfl rfl rfl) rfl rfl rfl ?_
      refine L.q 2 rfl ?_
      refine L.y (Yl.ldb 0 rfl rfl rfl rfl) rfl rfl rfl ?_
      refine L.a [] [] (Ac.bs (ty := (Ty.int .i64)) (xs := [(IntKind.i64.wrap x166.rune), x166.style]) (.cons () [] rfl (.cons () [] rfl .nil)) rfl rfl rfl rfl rfl rfl rfl) rfl rfl rfl rfl rfl ?_
      intro g174
      refine L.frz 0 rfl ?_
      obtain ⟨r177, h178, H179⟩ := bnd H168
      refine L.a [2, 1] [0] (Ac.call (c_num_Out_Num g1 a95 c96 (some ⟨g174, 0, none⟩) 2 h178) rfl rfl rfl rfl) rfl rfl rfl rfl rfl ?_
      rintro ⟨a180, c181⟩
      refine L.nil (E.block (E.then (T.region ?_)))
      refine L.q 2 rfl ?_
      refine L.nil ?_
      have hr := Option.some.inj H179
      subst z144
      exact E.give (_, (a180, c181)) [1, 0] [2, 3] (hag145 _ rfl) ⟨rfl, rfl, rfl, rfl, trivial⟩ rfl rfl
    refine T.exit (E.then_exit' (E.then_exit' (E.block_here ?_)))
    have hr := Option.some.inj H148
    subst z144
    have hb := hbr146 _ rfl
    subst e140
    exact E.give ((), (a95, c96)) [0, 0] [0, 1] trivial ⟨rfl, trivial⟩ rfl rfl
  rintro ⟨_, ⟨a137, c138⟩⟩ _
  refine T.seq (T.region ?_)
  obtain ⟨r183, h184, H185⟩ := bnd H142
  refine L.a [1, 0] [] (Ac.call (c_num_Out_Bytes g1 a137 c138 h184) rfl rfl rfl rfl) rfl rfl rfl rfl rfl ?_
  rintro ⟨⟩
  refine L.q 1 rfl ?_
  refine L.nil (E.then (T.ret ?_))
  have hr := Option.some.inj H185
  subst r
  exact E.ret () [] [] (.tmp rfl .nil) rfl rfl rfl

theorem c_snap_bit {is : Bool} {r : Int} (H : p_snap_bit is = some r) : CT G 96 [.bool is] [] [] (fun h : Unit => .int .i64 r) (fun h => []) (fun h => []) := by
  delta p_snap_bit at H
  refine CT.of Go.Proofs.Tryz.func96 (by kernel_rfl) rfl rfl rfl fun K => ?_
  refine T.seq (T.region ?_)
  refine L.q 1 rfl ?_
  refine L.nil (E.then (T.seq (T.seq (T.region ?_))))
  refine L.q 1 rfl ?_
  refine L.nil (E.then ?_)
  refine T.bif rfl H (fun hc H2 => ?_) (fun hc H2 => ?_)
  · refine T.seq (T.region ?_)
    refine L.q 1 rfl ?_
    refine L.nil (E.then (T.ret (E.then_ret ?_)))
    have hr := Option.some.inj H2
    subst r
    exact E.ret () [] [] (.tmp rfl .nil) rfl rfl rfl
  refine T.skip (E.then (T.seq (T.region ?_)))
  refine L.q 1 rfl ?_
  refine L.nil (E.then (T.ret ?_))
  have hr := Option.some.inj H2
  subst r
  exact E.ret () [] [] (.tmp rfl .nil) rfl rfl rfl

theorem c_snap_runs {l : List RowCell} (a_0 : Option Addr) (c_0 : Nat) {r : (List RowCell)} (H : p_snap_runs l = some r) : CT G 97 [.slice a_0 l.length c_0] [] [Im.sl tyRowCell a_0 c_0 l] (fun h : Nat => .func (.func 102) #[] #[.pointer (some ⟨h, 0, none⟩)]) (fun h => [Ch.box h 52 [.slice a_0 r.length c_0]]) (fun h => [Im.sl tyRowCell a_0 c_0 r]) := by
  delta p_snap_runs at H
  refine CT.of Go.Proofs.Tryz.func97 (by kernel_rfl) rfl rfl rfl fun K => ?_
  refine T.seq (T.region ?_)
  refine L.a [] [] (Ac.box rfl rfl) rfl rfl rfl rfl rfl ?_
  intro g1
  refine L.q 1 rfl ?_
  refine L.nil (E.then (T.seq (T.region ?_)))
  refine L.q 2 rfl ?_
  refine L.nil (E.then (T.ret ?_))
  have hr := Option.some.inj H
  subst r
  exact E.ret g1 [0] [0] (.tmp rfl .nil) rfl rfl rfl

theorem c_snap_runs_1 {σ η : Type} {Y : σ → (Int × RowCell) → Option (σ × Bool)} {y0 : σ} {x1 : List RowCell} {yl : Nat} {C : σ → η → Ch} (hY : ∀ s (h : η) (x : Int × RowCell) (t : Unit) z, Y s x = some z → YT G yl [.int .i64 x.1, .agg #[.int .i32 x.2.rune, .int .i64 x.2.style, .int .i64 x.2.part]] [C s h] [] (fun _ : η => .bool z.2) (fun h2 => [C z.1 h2]) (fun _ => [])) (h0 : η) (g_1 : Nat) (a_1_0 : Option Addr) (c_1_0 : Nat) {r : σ × (List RowCell)} (H : p_snap_runs_1 Y y0 x1 = some r) : CT G 102 [.func (.yield yl) #[] #[], .pointer (some ⟨g_1, 0, none⟩)] [C y0 h0, Ch.box g_1 52 [.slice a_1_0 x1.length c_1_0]] [Im.sl tyRowCell a_1_0 c_1_0 x1] (fun h : η × (Option Addr × Nat) => .tuple #[]) (fun h => [C r.1 h.1, Ch.box g_1 52 [.slice h.2.1 r.2.length h.2.2]]) (fun h => [Im.sl tyRowCell h.2.1 h.2.2 r.2]) := by
  delta p_snap_runs_1 at H
  refine CT.of Go.Proofs.Tryz.func102 (by kernel_rfl) rfl rfl rfl fun K => ?_
  obtain ⟨y1059, H1060, H1061⟩ := bnd H
  refine T.joinE (η := ((List RowCell) × σ) × ((Option Addr × Nat) × η)) (fun h => y1059 = .inl h.1) (fun h => (fun e1058 => (fun a1053 c1054 h1057 => []) h.2.1.1 h.2.1.2 h.2.2) h.1) (fun h => (fun e1058 => (fun a1053 c1054 h1057 => [C e1058.2 h1057, Ch.box g_1 52 [.slice a1053 e1058.1.length c1054]]) h.2.1.1 h.2.1.2 h.2.2) h.1) (fun h => (fun e1058 => (fun a1053 c1054 h1057 => [Im.sl tyRowCell a1053 c1054 e1058.1, Im.sl tyRowCell a_1_0 c_1_0 x1]) h.2.1.1 h.2.1.2 h.2.2) h.1) ?_ ?_
  · refine T.block ?_
    refine T.lp (η := (Option Addr × Nat) × η) (fun s707 h => (fun a702 c703 h706 => [(0, .func (.yield yl) #[] #[]), (1, .pointer (some ⟨g_1, 0, none⟩))]) h.1.1 h.1.2 h.2) (fun s707 h => (fun a702 c703 h706 => [C s707.2 h706, Ch.box g_1 52 [.slice a702 s707.1.length c703]]) h.1.1 h.1.2 h.2) (fun s707 h => (fun a702 c703 h706 => [Im.sl tyRowCell a702 c703 s707.1, Im.sl tyRowCell a_1_0 c_1_0 x1]) h.1.1 h.1.2 h.2) ((a_1_0, c_1_0), h0) [0, 0] [0, 0] H1060 ⟨rfl, rfl, trivial⟩ rfl rfl ?_
    rintro k_ s707 ⟨⟨a702, c703⟩, h706⟩ z1063 H1062 hag1064 hbr1065
    refine T.seq (T.seq (T.region ?_))
    refine L.y (Yl.ldb 1 rfl rfl rfl rfl) rfl rfl rfl ?_
    refine L.q 2 rfl ?_
    refine L.nil (E.then ?_)
    refine T.bif rfl H1062 (fun hc H1067 => ?_) (fun hc H1067 => ?_)
    · refine T.skip (E.then (T.block (T.seq (T.region ?_))))
      refine L.q 1 rfl ?_
      refine L.nil (E.then (T.seq ?_))
      obtain ⟨e1307, H1308, H1309⟩ := bnd H1067
      refine T.join (η := Unit × Unit) (fun h => True) (fun h => [(0, .func (.yield yl) #[] #[]), (1, .pointer (some ⟨g_1, 0, none⟩)), (3, .int .i64 e1307)]) (fun h => [C s707.2 h706, Ch.box g_1 52 [.slice a702 s707.1.length c703]]) (fun h => [Im.sl tyRowCell a702 c703 s707.1, Im.sl tyRowCell a_1_0 c_1_0 x1]) ?_ ?_
      · refine T.block ?_
        refine T.lp (η := Unit) (fun s1227 h => [(0, .func (.yield yl) #[] #[]), (1, .pointer (some ⟨g_1, 0, none⟩)), (3, .int .i64 s1227)]) (fun s1227 h => [C s707.2 h706, Ch.box g_1 52 [.slice a702 s707.1.length c703]]) (fun s1227 h => [Im.sl tyRowCell a702 c703 s707.1, Im.sl tyRowCell a_1_0 c_1_0 x1]) () [0, 0] [0, 1] H1308 ⟨rfl, rfl, rfl, trivial⟩ rfl rfl ?_
        rintro k_ s1227 ⟨⟩ z1311 H1310 hag1312 hbr1313
        refine T.seq (T.seq ?_)
        obtain ⟨e1363, H1364, H1365⟩ := bnd H1310
        refine T.join (η := Unit × Unit) (fun h => True) (fun h => [(0, .func (.yield yl) #[] #[]), (1, .pointer (some ⟨g_1, 0, none⟩)), (3, .int .i64 s1227), (20, .bool e1363)]) (fun h => [C s707.2 h706, Ch.box g_1 52 [.slice a702 s707.1.length c703]]) (fun h => [Im.sl tyRowCell a702 c703 s707.1, Im.sl tyRowCell a_1_0 c_1_0 x1]) ?_ ?_
        · refine T.draw [] [0, 0] mo (by rfl) rfl ?_
          refine D.q 0 rfl rfl rfl rfl rfl rfl ?_
          refine D.y 1 (Yl.ldb 1 rfl rfl rfl rfl) rfl rfl rfl rfl rfl rfl ?_
          refine D.q 2 rfl rfl rfl rfl rfl rfl ?_
          refine D.q 3 rfl rfl rfl rfl rfl rfl ?_
          refine D.q 4 rfl rfl rfl rfl rfl rfl ?_
          refine D.cs 11 H1364 rfl (fun hc H1378 => ?_) (fun hc H1378 => ?_)
          · refine D.y 5 (Yl.ldb 1 rfl rfl rfl rfl) rfl rfl rfl rfl rfl rfl ?_
            refine D.q 6 rfl rfl rfl rfl rfl rfl ?_
            obtain ⟨x1379, h1380, H1381⟩ := bnd H1378
            refine D.addr 0 rfl (idx_lt h1380) fun b1382 o1383 e1384 => ?_
            obtain rfl : a702 = some ⟨b1382, o1383, none⟩ := e1384
            refine D.y 7 (Yl.ia h1380 rfl rfl rfl rfl rfl rfl) rfl rfl rfl rfl rfl rfl ?_
            refine D.el 0 rfl (idx_some h1380).2 ?_
            rintro _
            refine D.y 8 (Yl.ldc 0 0 rfl rfl rfl rfl) rfl rfl rfl rfl rfl rfl ?_
            refine D.y 9 (Yl.ldb 1 rfl rfl rfl rfl) rfl rfl rfl rfl rfl rfl ?_
            obtain ⟨x1386, h1387, H1388⟩ := bnd H1381
            refine D.y 10 (Yl.ia h1387 rfl rfl rfl rfl rfl rfl) rfl rfl rfl rfl rfl rfl ?_
            refine D.el 1 rfl (idx_some h1387).2 ?_
            rintro _
            refine D.y 11 (Yl.ldc 0 0 rfl rfl rfl rfl) rfl rfl rfl rfl rfl rfl ?_
            refine D.q 12 rfl rfl rfl rfl rfl rfl ?_
            refine D.q 13 rfl rfl rfl rfl rfl rfl ?_
            refine D.nil rfl rfl ?_
            have hr := Option.some.inj H1388
            subst e1363
            exact E.give ((), ()) [0, 0] [2, 3] trivial ⟨rfl, rfl, rfl, rfl, trivial⟩ rfl rfl
          refine D.sk 5 rfl rfl rfl rfl rfl ?_
          refine D.sk 6 rfl rfl rfl rfl rfl ?_
          refine D.sk 7 rfl rfl rfl rfl rfl ?_
          refine D.sk 8 rfl rfl rfl rfl rfl ?_
          refine D.sk 9 rfl rfl rfl rfl rfl ?_
          refine D.sk 10 rfl rfl rfl rfl rfl ?_
          refine D.sk 11 rfl rfl rfl rfl rfl ?_
          refine D.sk 12 rfl rfl rfl rfl rfl ?_
          refine D.q 13 rfl rfl rfl rfl rfl rfl ?_
          refine D.nil rfl rfl ?_
          have hr := Option.some.inj H1378
          subst e1363
          exact E.give ((), ()) [0, 0] [0, 1] trivial ⟨rfl, rfl, rfl, rfl, trivial⟩ rfl rfl
        rintro ⟨_, ⟨⟩⟩ _
        refine T.bif rfl H1365 (fun hc H1391 => ?_) (fun hc H1391 => ?_)
        · refine T.skip (E.then (T.block (T.region ?_)))
          refine L.q 3 rfl ?_
          refine L.nil (E.block ?_)
          have hr := Option.some.inj H1391
          subst z1311
          exact E.give (_, ()) [0, 0] [0, 1] (hag1312 _ rfl) ⟨rfl, rfl, rfl, trivial⟩ rfl rfl
        refine T.exit (E.then_exit' (E.then_exit' (E.block_here ?_)))
        have hr := Option.some.inj H1391
        subst z1311
        have hb := hbr1313 _ rfl
        subst e1307
        exact E.give ((), ()) [0, 0] [0, 1] trivial ⟨rfl, rfl, rfl, trivial⟩ rfl rfl
      rintro ⟨_, ⟨⟩⟩ _
      refine T.seq (T.seq (T.region ?_))
      refine L.q 2 rfl ?_
      refine L.y (Yl.ldb 1 rfl rfl rfl rfl) rfl rfl rfl ?_
      obtain ⟨x1392, h1393, H1394⟩ := bnd H1309
      refine L.addr 0 rfl (idx_lt h1393) fun b1395 o1396 e1397 => ?_
      obtain rfl : a702 = some ⟨b1395, o1396, none⟩ := e1397
      refine L.y (Yl.ia h1393 rfl rfl rfl rfl rfl rfl) rfl rfl rfl ?_
      refine L.el 0 rfl (idx_some h1393).2 ?_
      rintro _
      refine L.y (Yl.ldc 0 0 rfl rfl rfl rfl) rfl rfl rfl ?_
      obtain ⟨z1399, h1400, H1401⟩ := bnd H1394
      refine L.yd [0] [] (hY _ _ _ () _ h1400) rfl rfl rfl rfl rfl rfl rfl rfl ?_
      intro h1402
      refine L.q 1 rfl ?_
      refine L.nil (E.then ?_)
      refine T.bif rfl H1401 (fun hc H1404 => ?_) (fun hc H1404 => ?_)
      · refine T.ret (E.then_ret (E.block_ret (E.then_ret (E.block_ret ?_))))
        obtain ⟨w1405, hz, H1406⟩ := inrr_some H1404
        subst z1063
        have hb := hbr1065 _ rfl
        subst y1059
        have hw : w1405 = r := Option.some.inj H1061
        subst w1405
        refine E.then_ret ?_
        have hr := Option.some.inj H1406
        subst r
        exact E.ret (h1402, ((some ⟨b1395, o1396, none⟩), c703)) [0, 0] [1] .nil rfl rfl rfl
      refine T.skip (E.then (T.region ?_))
      refine L.y (Yl.ldb 1 rfl rfl rfl rfl) rfl rfl rfl ?_
      refine L.q 1 rfl ?_
      obtain ⟨_, h1407, H1408⟩ := bnd H1404
      refine L.rs 1 h1407 rfl rfl rfl rfl rfl rfl rfl rfl rfl rfl rfl rfl ?_
      intro a1409 c1410
      refine L.a [1] [] (Ac.stb rfl rfl rfl rfl rfl rfl) rfl rfl rfl rfl rfl ?_
      intro _
      refine L.nil (E.block ?_)
      have hr := Option.some.inj H1408
      subst z1063
      exact E.give (_, ((a1409, c1410), h1402)) [1, 0] [0, 3] (hag1064 _ rfl) ⟨rfl, rfl, trivial⟩ rfl rfl
    refine T.exit (E.then_exit' (E.then_exit' (E.block_here ?_)))
    have hr := Option.some.inj H1067
    subst z1063
    have hb := hbr1065 _ rfl
    subst y1059
    exact E.give (_, ((a702, c703), h706)) [0, 0] [0, 1] rfl trivial rfl rfl
  rintro ⟨e1058, ⟨⟨a1053, c1054⟩, h1057⟩⟩ hy
  subst hy
  refine E.off ?_
  have hr := Option.some.inj H1061
  subst r
  exact E.ret (h1057, (a1053, c1054)) [0, 0] [0] .nil rfl rfl rfl

theorem c_snap_PackRow {r_ : RowRow} (a_0_0 : Option Addr) (c_0_0 : Nat) {r : ByteArray} (H : p_snap_PackRow r_ = some r) : CT G 84 [.agg #[.slice a_0_0 r_.cells.length c_0_0, .bool r_.wrapped]] [] [Im.sl tyRowCell a_0_0 c_0_0 r_.cells] (fun h : Unit => .string r) (fun h => []) (fun h => []) := by
  delta p_snap_PackRow at H
  refine CT.of Go.Proofs.Tryz.func84 (by kernel_rfl) rfl rfl rfl fun K => ?_
  refine T.dfs0 ?_
  refine T.seq (T.region ?_)
  refine L.a [] [] (Ac.box rfl rfl) rfl rfl rfl rfl rfl ?_
  intro g1
  refine L.q 1 rfl ?_
  refine L.nil (E.then (T.seq (T.region ?_)))
  refine L.a [] [] (Ac.alloc rfl rfl) rfl rfl rfl rfl rfl ?_
  intro g2
  refine L.nil (E.then (T.seq (T.region ?_)))
  refine L.q 1 rfl ?_
  refine L.y (Yl.ldb 1 rfl rfl rfl rfl) rfl rfl rfl ?_
  obtain ⟨r3, h4, H5⟩ := bnd H
  refine L.a [] [] (Ac.call (c_snap_bit h4) rfl rfl rfl rfl) rfl rfl rfl rfl rfl ?_
  rintro ⟨⟩
  refine L.a [] [] (Ac.bs (ty := (Ty.int .i64)) (xs := [r3]) (.cons () [] rfl .nil) rfl rfl rfl rfl rfl rfl rfl) rfl rfl rfl rfl rfl ?_
  intro g6
  refine L.nil0 (Ty.int .u8) 5 ?_
  refine L.frz 1 rfl ?_
  obtain ⟨r10, h11, H12⟩ := bnd H5
  refine L.a [1, 0] [0] (Ac.call (c_num_Out_Num g2 none 0 (some ⟨g6, 0, none⟩) 1 h11) rfl rfl rfl rfl) rfl rfl rfl rfl rfl ?_
  rintro ⟨a13, c14⟩
  refine L.nil (E.then (T.seq (T.seq (T.region ?_))))
  refine L.q 1 rfl ?_
  refine L.y (Yl.ldb 2 rfl rfl rfl rfl) rfl rfl rfl ?_
  obtain ⟨r16, h17, H18⟩ := bnd H12
  refine L.a [] [1] (Ac.call (c_snap_runs a_0_0 c_0_0 h17) rfl rfl rfl rfl) rfl rfl rfl rfl rfl ?_
  rintro g19
  refine L.nil (E.then (T.block ?_))
  obtain ⟨r64, h65, H66⟩ := bnd H18
  refine T.rf2 (σ := NumOut) (η := (Option Addr × Nat)) (X := Int × RowCell) (θ := Unit) (τ := (Option Addr × Nat) × (Option Addr × Nat)) (s1 := r64.1) (hx := fun x => x.1) (fun x t => [.int .i64 x.1, .agg #[.int .i32 x.2.rune, .int .i64 x.2.style, .int .i64 x.2.part]]) (fun x t => []) (fun _ => none) (fun s51 h => (fun a34 c35 => [Ch.arr (Ty.int .u8) 5 a34 c35 s51.b, Ch.box g2 140 [.slice a34 s51.b.length c35], Ch.box g1 54 [.slice a_0_0 r_.cells.length c_0_0, .bool r_.wrapped]]) h.1 h.2) (fun s51 h => (fun a34 c35 => [Im.sl tyRowCell a_0_0 c_0_0 r16, Im.sl (Ty.int .i64) (some ⟨g6, 0, none⟩) 1 [r3], Im.sl tyRowCell a_0_0 c_0_0 r_.cells]) h.1 h.2) 4 [2, 1, 1, 0] [0, 1, 2] [0] rfl rfl (fun _ _ => rfl) rfl (fun yl C hY => (c_snap_runs_1 hY (a13, c14) g19 a_0_0 c_0_0 h65 : _)) (fun _ _ _ _ => rfl) rfl rfl rfl rfl rfl ?_ rfl ?_
  · rintro yl K2 s51 ⟨a34, c35⟩ x21 ⟨⟩ z52 H53
    refine T.seq (T.region ?_)
    refine L.q 1 rfl ?_
    refine L.nil (E.then (T.region ?_))
    refine L.a [] [] (Ac.alloc rfl rfl) rfl rfl rfl rfl rfl ?_
    intro g54
    refine L.a [0] [] (Ac.stb rfl rfl rfl rfl rfl rfl) rfl rfl rfl rfl rfl ?_
    intro _
    refine L.nil ?_
    refine E.begin fun K3 => ?_
    refine T.block (T.region ?_)
    refine L.q 2 rfl ?_
    refine L.y (Yl.ldb 0 rfl rfl rfl rfl) rfl rfl rfl ?_
    refine L.q 2 rfl ?_
    refine L.y (Yl.ldb 0 rfl rfl rfl rfl) rfl rfl rfl ?_
    refine L.q 1 rfl ?_
    refine L.y (Yl.ldb 0 rfl rfl rfl rfl) rfl rfl rfl ?_
    refine L.a [] [] (Ac.bs (ty := (Ty.int .i64)) (xs := [x21.1, (IntKind.i64.wrap x21.2.rune), x21.2.style, x21.2.part]) (.cons () [] rfl (.cons () [] rfl (.cons () [] rfl (.cons () [] rfl .nil)))) rfl rfl rfl rfl rfl rfl rfl) rfl rfl rfl rfl rfl ?_
    intro g55
    refine L.frz 0 rfl ?_
    obtain ⟨r58, h59, H60⟩ := bnd H53
    refine L.a [2, 1] [0] (Ac.call (c_num_Out_Num g2 a34 c35 (some ⟨g55, 0, none⟩) 4 h59) rfl rfl rfl rfl) rfl rfl rfl rfl rfl ?_
    rintro ⟨a61, c62⟩
    refine L.nil (E.block ?_)
    have hr := Option.some.inj H60
    subst z52
    exact E.on (a61, c62) [1, 0, 1] [1, 2, 3] rfl rfl rfl rfl
  rintro ⟨h67, ⟨a68, c69⟩⟩ D70
  refine E.block (E.then (T.seq (T.region ?_)))
  obtain ⟨r76, h77, H78⟩ := bnd H66
  refine L.a [2, 1] [] (Ac.call (c_num_Out_Bytes g2 h67.1 h67.2 h77) rfl rfl rfl rfl) rfl rfl rfl rfl rfl ?_
  rintro ⟨⟩
  refine L.q 1 rfl ?_
  refine L.nil (E.then (T.ret ?_))
  have hr := Option.some.inj H78
  subst r
  exact E.retd () 2 [] [] rfl (.tmp rfl .nil) rfl rfl rfl

theorem c_snap_Snap_Pack {s_ : SnapSnap} (a_0_0 : Option Addr) (c_0_0 : Nat) (a_0_1 : Option Addr) (c_0_1 : Nat) {r : ByteArray} (H : p_snap_Snap_Pack s_ = some r) : CT G 90 [.agg (bx43 s_ a_0_0 c_0_0 a_0_1 c_0_1).toArray] [] [Im.sl tyRowRow a_0_0 c_0_0 s_.rows, Im.sl tyRowGlyph a_0_1 c_0_1 s_.begun] (fun h : Unit => .string r) (fun h => []) (fun h => []) := by
  delta p_snap_Snap_Pack at H
  refine CT.of Go.Proofs.Tryz.func90 (by kernel_rfl) rfl rfl rfl fun K => ?_
  refine T.seq (T.region ?_)
  refine L.a [] [] (Ac.box rfl rfl) rfl rfl rfl rfl rfl ?_
  intro g1
  refine L.q 1 rfl ?_
  refine L.nil (E.then (T.seq (T.seq ?_)))
  obtain ⟨e17, H18, H19⟩ := bnd H
  refine T.join (η := Unit × Unit) (fun h => True) (fun h => [(1, .pointer (some ⟨g1, 0, none⟩)), (12, .bool e17)]) (fun h => [Ch.box g1 43 (bx43 s_ a_0_0 c_0_0 a_0_1 c_0_1)]) (fun h => [Im.sl tyRowRow a_0_0 c_0_0 s_.rows, Im.sl tyRowGlyph a_0_1 c_0_1 s_.begun]) ?_ ?_
  · refine T.region ?_
    refine L.y (Yl.ldb 0 rfl rfl rfl rfl) rfl rfl rfl ?_
    obtain ⟨r20, h21, H22⟩ := bnd H18
    refine L.a [] [0, 1] (Ac.call (c_snap_Snap_empty a_0_0 c_0_0 a_0_1 c_0_1 h21) rfl rfl rfl rfl) rfl rfl rfl rfl rfl ?_
    rintro ⟨⟩
    refine L.q 1 rfl ?_
    refine L.cs 8 H22 rfl (fun hc H23 => ?_) (fun hc H23 => ?_)
    · refine L.q 4 rfl ?_
      refine L.nil ?_
      have hr := Option.some.inj H23
      subst e17
      exact E.give ((), ()) [0] [0, 1] trivial ⟨rfl, rfl, trivial⟩ rfl rfl
    refine L.y (Yl.ldb 0 rfl rfl rfl rfl) rfl rfl rfl ?_
    obtain ⟨r24, h25, H26⟩ := bnd H23
    refine L.a [] [0, 1] (Ac.call (c_snap_Snap_Check a_0_0 c_0_0 a_0_1 c_0_1 h25) rfl rfl rfl rfl) rfl rfl rfl rfl rfl ?_
    rintro ⟨⟩
    refine L.q 2 rfl ?_
    refine L.nil ?_
    have hr := Option.some.inj H26
    subst e17
    exact E.give ((), ()) [0] [0, 1] trivial ⟨rfl, rfl, trivial⟩ rfl rfl
  rintro ⟨_, ⟨⟩⟩ _
  refine T.bif rfl H19 (fun hc H28 => ?_) (fun hc H28 => ?_)
  · refine T.seq (T.region ?_)
    refine L.q 1 rfl ?_
    refine L.nil (E.then (T.ret (E.then_ret ?_)))
    have hr := Option.some.inj H28
    subst r
    exact E.ret () [] [] (.tmp rfl .nil) rfl rfl rfl
  refine T.skip (E.then (T.seq (T.region ?_)))
  refine L.a [] [] (Ac.alloc rfl rfl) rfl rfl rfl rfl rfl ?_
  intro g29
  refine L.nil (E.then (T.seq ?_))
  refine T.draw [] [1] mo (by rfl) rfl ?_
  refine D.q 0 rfl rfl rfl rfl rfl rfl ?_
  refine D.y 1 (Yl.ldb 0 rfl rfl rfl rfl) rfl rfl rfl rfl rfl rfl ?_
  refine D.q 2 rfl rfl rfl rfl rfl rfl ?_
  refine D.y 3 (Yl.ldb 0 rfl rfl rfl rfl) rfl rfl rfl rfl rfl rfl ?_
  refine D.q 4 rfl rfl rfl rfl rfl rfl ?_
  refine D.y 5 (Yl.ldb 0 rfl rfl rfl rfl) rfl rfl rfl rfl rfl rfl ?_
  refine D.q 6 rfl rfl rfl rfl rfl rfl ?_
  refine D.y 7 (Yl.ldb 0 rfl rfl rfl rfl) rfl rfl rfl rfl rfl rfl ?_
  refine D.q 8 rfl rfl rfl rfl rfl rfl ?_
  refine D.y 9 (Yl.ldb 0 rfl rfl rfl rfl) rfl rfl rfl rfl rfl rfl ?_
  refine D.q 12 rfl rfl rfl rfl rfl rfl ?_
  refine D.y 13 (Yl.ldb 0 rfl rfl rfl rfl) rfl rfl rfl rfl rfl rfl ?_
  refine D.q 16 rfl rfl rfl rfl rfl rfl ?_
  refine D.y 17 (Yl.ldb 0 rfl rfl rfl rfl) rfl rfl rfl rfl rfl rfl ?_
  refine D.q 18 rfl rfl rfl rfl rfl rfl ?_
  refine D.y 19 (Yl.ldb 0 rfl rfl rfl rfl) rfl rfl rfl rfl rfl rfl ?_
  refine D.q 22 rfl rfl rfl rfl rfl rfl ?_
  refine D.y 23 (Yl.ldb 0 rfl rfl rfl rfl) rfl rfl rfl rfl rfl rfl ?_
  refine DF.of rfl ?_
  refine DF.add _ (FSp.ac 10 [] (Ac.frz (Ac.bs (ty := (Ty.int .i64)) (xs := [s_.k, s_.w, s_.h, s_.x, s_.y]) (.cons () [] rfl (.cons () [] rfl (.cons () [] rfl (.cons () [] rfl (.cons () [] rfl .nil))))) rfl rfl rfl rfl rfl rfl rfl)) rfl rfl rfl rfl rfl) rfl ?_
  refine DF.add _ (FSp.ac 14 [] (Ac.frz (Ac.bs (ty := Ty.str) (xs := [s_.title]) (.cons () [] rfl .nil) rfl rfl rfl rfl rfl rfl rfl)) rfl rfl rfl rfl rfl) rfl ?_
  refine DF.add _ (FSp.ac 20 [] (Ac.frz (Ac.bs (ty := (Ty.int .i64)) (xs := [s_.len, s_.chain]) (.cons () [] rfl (.cons () [] rfl .nil)) rfl rfl rfl rfl rfl rfl rfl)) rfl rfl rfl rfl rfl) rfl ?_
  refine DF.step 11 rfl rfl rfl rfl rfl ?_
  refine DFp.use 2 rfl rfl rfl ?_
  intro g150
  refine DFp.nil0 (Ty.int .u8) 5 ?_
  obtain ⟨r160, h161, H162⟩ := bnd H28
  refine DFp.a [1, 0] [0] (Ac.call (c_num_Out_Num g29 none 0 (some ⟨g150, 0, none⟩) 5 h161) rfl rfl rfl rfl) rfl rfl rfl rfl rfl rfl rfl rfl ?_
  rintro ⟨a163, c164⟩
  refine DF.step 15 rfl rfl rfl rfl rfl ?_
  refine DFp.use 1 rfl rfl rfl ?_
  intro g153
  obtain ⟨r166, h167, H168⟩ := bnd H162
  refine DFp.a [0, 0] [0] (Ac.call (c_num_Out_Text g29 a163 c164 (some ⟨g153, 0, none⟩) 1 h167) rfl rfl rfl rfl) rfl rfl rfl rfl rfl rfl rfl rfl ?_
  rintro ⟨a169, c170⟩
  refine DF.step 21 rfl rfl rfl rfl rfl ?_
  refine DFp.use 0 rfl rfl rfl ?_
  intro g156
  obtain ⟨r172, h173, H174⟩ := bnd H168
  refine DFp.a [0, 0] [0] (Ac.call (c_num_Out_Num g29 a169 c170 (some ⟨g156, 0, none⟩) 2 h173) rfl rfl rfl rfl) rfl rfl rfl rfl rfl rfl rfl rfl ?_
  rintro ⟨a175, c176⟩
  obtain ⟨r178, h179, H180⟩ := bnd H174
  refine DF.add _ (FSp.ac 24 [4] (Ac.call (c_book_Pack a_0_1 c_0_1 h179) rfl rfl rfl rfl) rfl rfl rfl rfl rfl) rfl ?_
  refine DF.add _ (FSp.dep 0 rfl rfl fun ⟨⟩ => FSp.ac 25 [] (Ac.frz (Ac.bs (ty := Ty.str) (xs := [r178]) (.cons () [] rfl .nil) rfl rfl rfl rfl rfl rfl rfl)) rfl rfl rfl rfl rfl) rfl ?_
  refine DF.step 26 rfl rfl rfl rfl rfl ?_
  refine DFp.use 0 rfl rfl rfl ?_
  intro g181
  refine DFp.use 0 rfl rfl rfl ?_
  rintro ⟨⟩
  obtain ⟨r184, h185, H186⟩ := bnd H180
  refine DFp.a [0, 0] [0] (Ac.call (c_num_Out_Raw g29 a175 c176 (some ⟨g181, 0, none⟩) 1 h185) rfl rfl rfl rfl) rfl rfl rfl rfl rfl rfl rfl rfl ?_
  rintro ⟨a187, c188⟩
  refine DF.fin rfl rfl rfl rfl rfl ?_
  refine DFe.nil ?_
  refine E.then (T.seq (T.seq (T.region ?_)))
  refine L.q 1 rfl ?_
  refine L.y (Yl.ldb 0 rfl rfl rfl rfl) rfl rfl rfl ?_
  refine L.q 2 rfl ?_
  refine L.nil (E.then ?_)
  obtain ⟨e354, H355, H356⟩ := bnd H186
  refine T.join (η := Unit × ((Option Addr × Nat))) (fun h => True) (fun h => (fun a351 c352 => [(3, .pointer (some ⟨g29, 0, none⟩))]) h.2.1 h.2.2) (fun h => (fun a351 c352 => [Ch.arr (Ty.int .u8) 5 a351 c352 e354.b, Ch.box g1 43 (bx43 s_ a_0_0 c_0_0 a_0_1 c_0_1), Ch.box g29 140 [.slice a351 e354.b.length c352]]) h.2.1 h.2.2) (fun h => (fun a351 c352 => [Im.sl Ty.str (some ⟨g181, 0, none⟩) 1 [r178], Im.sl (Ty.int .i64) (some ⟨g156, 0, none⟩) 2 [s_.len, s_.chain], Im.sl Ty.str (some ⟨g153, 0, none⟩) 1 [s_.title], Im.sl (Ty.int .i64) (some ⟨g150, 0, none⟩) 5 [s_.k, s_.w, s_.h, s_.x, s_.y], Im.sl tyRowRow a_0_0 c_0_0 s_.rows, Im.sl tyRowGlyph a_0_1 c_0_1 s_.begun]) h.2.1 h.2.2) ?_ ?_
  · refine T.block ?_
    refine T.lp (η := (Option Addr × Nat)) (fun s301 h => (fun a297 c298 => [(3, .pointer (some ⟨g29, 0, none⟩)), (41, .slice a_0_0 s_.rows.length c_0_0), (42, .int .i64 (s_.rows.length : Int)), (43, .int .i64 s301.2)]) h.1 h.2) (fun s301 h => (fun a297 c298 => [Ch.arr (Ty.int .u8) 5 a297 c298 s301.1.b, Ch.box g1 43 (bx43 s_ a_0_0 c_0_0 a_0_1 c_0_1), Ch.box g29 140 [.slice a297 s301.1.b.length c298]]) h.1 h.2) (fun s301 h => (fun a297 c298 => [Im.sl Ty.str (some ⟨g181, 0, none⟩) 1 [r178], Im.sl (Ty.int .i64) (some ⟨g156, 0, none⟩) 2 [s_.len, s_.chain], Im.sl Ty.str (some ⟨g153, 0, none⟩) 1 [s_.title], Im.sl (Ty.int .i64) (some ⟨g150, 0, none⟩) 5 [s_.k, s_.w, s_.h, s_.x, s_.y], Im.sl tyRowRow a_0_0 c_0_0 s_.rows, Im.sl tyRowGlyph a_0_1 c_0_1 s_.begun]) h.1 h.2) (a187, c188) [2, 0, 0] [0, 1, 2, 3, 4, 5] H355 ⟨rfl, rfl, rfl, rfl, trivial⟩ rfl rfl ?_
    rintro k_ s301 ⟨a297, c298⟩ z358 H357 hag359 hbr360
    refine T.seq (T.region ?_)
    refine L.q 1 rfl ?_
    refine L.nil (E.then (T.seq ?_))
    refine T.bif rfl H357 (fun hc H362 => ?_) (fun hc H362 => ?_)
    · refine T.skip (E.then (T.seq (T.block (T.seq (T.region ?_)))))
      obtain ⟨x386, h387, H388⟩ := bnd H362
      refine L.addr 4 rfl (idx_lt h387) fun b389 o390 e391 => ?_
      obtain rfl : a_0_0 = some ⟨b389, o390, none⟩ := e391
      refine L.y (Yl.ia h387 rfl rfl rfl rfl rfl rfl) rfl rfl rfl ?_
      refine L.el 4 rfl (idx_some h387).2 ?_
      rintro ⟨a392, c393⟩
      refine L.y (Yl.ldc 0 0 rfl rfl rfl rfl) rfl rfl rfl ?_
      refine L.a [] [] (Ac.alloc rfl rfl) rfl rfl rfl rfl rfl ?_
      intro g396
      refine L.a [0] [] (Ac.stb rfl rfl rfl rfl rfl rfl) rfl rfl rfl rfl rfl ?_
      intro _
      refine L.nil (E.then (T.region ?_))
      refine L.y (Yl.ldb 0 rfl rfl rfl rfl) rfl rfl rfl ?_
      obtain ⟨r397, h398, H399⟩ := bnd H388
      refine L.a [] [1] (Ac.call (c_snap_PackRow a392 c393 h398) rfl rfl rfl rfl) rfl rfl rfl rfl rfl ?_
      rintro ⟨⟩
      refine L.a [] [] (Ac.bs (ty := Ty.str) (xs := [r397]) (.cons () [] rfl .nil) rfl rfl rfl rfl rfl rfl rfl) rfl rfl rfl rfl rfl ?_
      intro g400
      refine L.frz 0 rfl ?_
      obtain ⟨r403, h404, H405⟩ := bnd H399
      refine L.a [3, 1] [0] (Ac.call (c_num_Out_Raw g29 a297 c298 (some ⟨g400, 0, none⟩) 1 h404) rfl rfl rfl rfl) rfl rfl rfl rfl rfl ?_
      rintro ⟨a406, c407⟩
      refine L.nil (E.block (E.then (T.region ?_)))
      refine L.q 2 rfl ?_
      refine L.nil ?_
      have hr := Option.some.inj H405
      subst z358
      exact E.give (_, (a406, c407)) [1, 2, 0] [3, 4, 5, 6, 7, 8] (hag359 _ rfl) ⟨rfl, rfl, rfl, rfl, trivial⟩ rfl rfl
    refine T.exit (E.then_exit' (E.then_exit' (E.block_here ?_)))
    have hr := Option.some.inj H362
    subst z358
    have hb := hbr360 _ rfl
    subst e354
    exact E.give ((), (a297, c298)) [0, 0, 0] [0, 1, 2, 3, 4, 5] trivial ⟨rfl, trivial⟩ rfl rfl
  rintro ⟨_, ⟨a351, c352⟩⟩ _
  refine T.seq (T.region ?_)
  obtain ⟨r409, h410, H411⟩ := bnd H356
  refine L.a [2, 0] [] (Ac.call (c_num_Out_Bytes g29 a351 c352 h410) rfl rfl rfl rfl) rfl rfl rfl rfl rfl ?_
  rintro ⟨⟩
  refine L.q 1 rfl ?_
  refine L.nil (E.then (T.ret ?_))
  have hr := Option.some.inj H411
  subst r
  exact E.ret () [] [] (.tmp rfl .nil) rfl rfl rfl

theorem c_delta_may {s_ : SnapSnap} (a_0_0 : Option Addr) (c_0_0 : Nat) (a_0_1 : Option Addr) (c_0_1 : Nat) {r : Bool} (H : p_delta_may s_ = some r) : CT G 76 [.agg (bx43 s_ a_0_0 c_0_0 a_0_1 c_0_1).toArray] [] [Im.sl tyRowRow a_0_0 c_0_0 s_.rows, Im.sl tyRowGlyph a_0_1 c_0_1 s_.begun] (fun h : Unit => .bool r) (fun h => []) (fun h => []) := by
  delta p_delta_may at H
  refine CT.of Go.Proofs.Tryz.func76 (by kernel_rfl) rfl rfl rfl fun K => ?_
  refine T.seq (T.region ?_)
  refine L.a [] [] (Ac.box rfl rfl) rfl rfl rfl rfl rfl ?_
  intro g1
  refine L.q 1 rfl ?_
  refine L.nil (E.then (T.seq (T.region ?_)))
  refine L.y (Yl.ldb 0 rfl rfl rfl rfl) rfl rfl rfl ?_
  obtain ⟨r2, h3, H4⟩ := bnd H
  refine L.a [] [0, 1] (Ac.call (c_snap_Snap_Pack a_0_0 c_0_0 a_0_1 c_0_1 h3) rfl rfl rfl rfl) rfl rfl rfl rfl rfl ?_
  rintro ⟨⟩
  refine L.q 2 rfl ?_
  refine L.nil (E.then (T.ret ?_))
  have hr := Option.some.inj H4
  subst r
  exact E.ret () [] [] (.tmp rfl .nil) rfl rfl rfl

theorem c_sum_step {x_ : Int} {b : Int} {r : Int} (H : p_sum_step x_ b = some r) : CT G 100 [.int .u32 x_, .int .u8 b] [] [Im.sl (Ty.int .u32) (some ⟨0, 0, none⟩) 16 t_sum_half] (fun h : Unit => .int .u32 r) (fun h => []) (fun h => []) := by
  delta p_sum_step at H
  refine CT.of Go.Proofs.Tryz.func100 (by kernel_rfl) rfl rfl rfl fun K => ?_
  refine T.seq (T.region ?_)
  refine L.q 1 rfl ?_
  refine L.nil (E.then (T.seq (T.region ?_)))
  refine L.q 5 rfl ?_
  refine L.nil (E.then (T.seq (T.region ?_)))
  refine L.q 4 rfl ?_
  obtain ⟨x1, h2, H3⟩ := bnd H
  refine L.y (Yl.xg h2 rfl rfl rfl rfl rfl rfl rfl) rfl rfl rfl ?_
  refine L.el 0 rfl (idx_some h2).2 ?_
  rintro _
  refine L.y (Yl.ldc 0 0 rfl rfl rfl rfl) rfl rfl rfl ?_
  refine L.q 2 rfl ?_
  refine L.nil (E.then (T.seq (T.region ?_)))
  refine L.q 4 rfl ?_
  obtain ⟨x5, h6, H7⟩ := bnd H3
  refine L.y (Yl.xg h6 rfl rfl rfl rfl rfl rfl rfl) rfl rfl rfl ?_
  refine L.el 1 rfl (idx_some h6).2 ?_
  rintro _
  refine L.y (Yl.ldc 0 0 rfl rfl rfl rfl) rfl rfl rfl ?_
  refine L.q 2 rfl ?_
  refine L.nil (E.then (T.ret ?_))
  have hr := Option.some.inj H7
  subst r
  exact E.ret () [] [] (.tmp rfl .nil) rfl rfl rfl

theorem c_sum_Of {l : List ByteArray} (a_0 : Option Addr) (c_0 : Nat) {r : Int} (H : p_sum_Of l = some r) : CT G 92 [.slice a_0 l.length c_0] [] [Im.sl Ty.str a_0 c_0 l, Im.sl (Ty.int .u32) (some ⟨0, 0, none⟩) 16 t_sum_half] (fun h : Unit => .int .u32 r) (fun h => []) (fun h => []) := by
  delta p_sum_Of at H
  refine CT.of Go.Proofs.Tryz.func92 (by kernel_rfl) rfl rfl rfl fun K => ?_
  refine T.seq (T.region ?_)
  refine L.q 1 rfl ?_
  refine L.nil (E.then (T.seq (T.region ?_)))
  refine L.q 1 rfl ?_
  refine L.nil (E.then (T.seq (T.seq (T.region ?_))))
  refine L.q 3 rfl ?_
  refine L.nil (E.then ?_)
  obtain ⟨e483, H484, H485⟩ := bnd H
  refine T.join (η := Unit × Unit) (fun h => True) (fun h => [(3, .int .u32 e483)]) (fun h => []) (fun h => [Im.sl Ty.str a_0 c_0 l, Im.sl (Ty.int .u32) (some ⟨0, 0, none⟩) 16 t_sum_half]) ?_ ?_
  · refine T.block ?_
    refine T.lp (η := Unit) (fun s323 h => [(3, .int .u32 s323.1), (7, .slice a_0 l.length c_0), (8, .int .i64 (l.length : Int)), (9, .int .i64 s323.2)]) (fun s323 h => []) (fun s323 h => [Im.sl Ty.str a_0 c_0 l, Im.sl (Ty.int .u32) (some ⟨0, 0, none⟩) 16 t_sum_half]) () [] [0, 1] H484 ⟨rfl, rfl, rfl, rfl, trivial⟩ rfl rfl ?_
    rintro k_ s323 ⟨⟩ z487 H486 hag488 hbr489
    refine T.seq (T.region ?_)
    refine L.q 1 rfl ?_
    refine L.nil (E.then (T.seq ?_))
    refine T.bif rfl H486 (fun hc H491 => ?_) (fun hc H491 => ?_)
    · refine T.skip (E.then (T.seq (T.block (T.seq (T.region ?_)))))
      obtain ⟨x570, h571, H572⟩ := bnd H491
      refine L.addr 0 rfl (idx_lt h571) fun b573 o574 e575 => ?_
      obtain rfl : a_0 = some ⟨b573, o574, none⟩ := e575
      refine L.y (Yl.ia h571 rfl rfl rfl rfl rfl rfl) rfl rfl rfl ?_
      refine L.el 0 rfl (idx_some h571).2 ?_
      rintro _
      refine L.y (Yl.ldc 0 0 rfl rfl rfl rfl) rfl rfl rfl ?_
      refine L.q 1 rfl ?_
      refine L.nil (E.then (T.seq (T.region ?_)))
      refine L.q 3 rfl ?_
      refine L.nil (E.then ?_)
      obtain ⟨e627, H628, H629⟩ := bnd H572
      refine T.joinE (η := Unit × Unit) (fun h => True) (fun h => [(3, .int .u32 e627), (7, .slice (some ⟨b573, o574, none⟩) l.length c_0), (8, .int .i64 (l.length : Int)), (9, .int .i64 s323.2)]) (fun h => []) (fun h => [Im.cells b573 (o574 + s323.2.toNat * 1) [.string x570], Im.sl Ty.str (some ⟨b573, o574, none⟩) c_0 l, Im.sl (Ty.int .u32) (some ⟨0, 0, none⟩) 16 t_sum_half]) ?_ ?_
      · refine T.block ?_
        refine T.lp (η := Unit) (fun s611 h => [(3, .int .u32 s611.2), (5, .string x570), (7, .slice (some ⟨b573, o574, none⟩) l.length c_0), (8, .int .i64 (l.length : Int)), (9, .int .i64 s323.2), (14, .int .i64 (x570.size : Int)), (15, .int .i64 s611.1)]) (fun s611 h => []) (fun s611 h => [Im.cells b573 (o574 + s323.2.toNat * 1) [.string x570], Im.sl Ty.str (some ⟨b573, o574, none⟩) c_0 l, Im.sl (Ty.int .u32) (some ⟨0, 0, none⟩) 16 t_sum_half]) () [] [0, 1, 2] H628 ⟨rfl, rfl, rfl, rfl, rfl, rfl, rfl, trivial⟩ rfl rfl ?_
        rintro k_ s611 ⟨⟩ z631 H630 hag632 hbr633
        refine T.seq (T.region ?_)
        refine L.q 1 rfl ?_
        refine L.nil (E.then (T.seq ?_))
        refine T.bif rfl H630 (fun hc H635 => ?_) (fun hc H635 => ?_)
        · refine T.skip (E.then (T.seq (T.block (T.seq (T.region ?_)))))
          refine L.q 2 rfl ?_
          refine L.nil (E.then (T.region ?_))
          refine L.q 3 rfl ?_
          obtain ⟨b642, h643, H644⟩ := bnd H635
          refine L.y (Yl.si h643 rfl rfl rfl rfl rfl) rfl rfl rfl ?_
          obtain ⟨r645, h646, H647⟩ := bnd H644
          refine L.a [] [2] (Ac.call (c_sum_step h646) rfl rfl rfl rfl) rfl rfl rfl rfl rfl ?_
          rintro ⟨⟩
          refine L.q 1 rfl ?_
          refine L.nil (E.block (E.then (T.region ?_)))
          refine L.q 2 rfl ?_
          refine L.nil ?_
          have hr := Option.some.inj H647
          subst z631
          exact E.give (_, ()) [] [0, 1, 2] (hag632 _ rfl) ⟨rfl, rfl, rfl, rfl, rfl, rfl, rfl, trivial⟩ rfl rfl
        refine T.exit (E.then_exit' (E.then_exit' (E.block_here ?_)))
        have hr := Option.some.inj H635
        subst z631
        have hb := hbr633 _ rfl
        subst e627
        exact E.give ((), ()) [] [0, 1, 2] trivial ⟨rfl, rfl, rfl, rfl, trivial⟩ rfl rfl
      rintro ⟨_, ⟨⟩⟩ _
      refine E.block (E.then (T.region ?_))
      refine L.q 2 rfl ?_
      refine L.nil ?_
      have hr := Option.some.inj H629
      subst z487
      exact E.give (_, ()) [] [1, 2] (hag488 _ rfl) ⟨rfl, rfl, rfl, rfl, trivial⟩ rfl rfl
    refine T.exit (E.then_exit' (E.then_exit' (E.block_here ?_)))
    have hr := Option.some.inj H491
    subst z487
    have hb := hbr489 _ rfl
    subst e483
    exact E.give ((), ()) [] [0, 1] trivial ⟨rfl, trivial⟩ rfl rfl
  rintro ⟨_, ⟨⟩⟩ _
  refine T.seq (T.region ?_)
  refine L.q 1 rfl ?_
  refine L.y (Yl.com (c := 4294967295) rfl rfl rfl) rfl rfl rfl ?_
  refine L.q 1 rfl ?_
  refine L.nil (E.then (T.ret ?_))
  have hr := Option.some.inj H485
  subst r
  exact E.ret () [] [] (.tmp rfl .nil) rfl rfl rfl

theorem c_snap_Snap_Sum {s_ : SnapSnap} (a_0_0 : Option Addr) (c_0_0 : Nat) (a_0_1 : Option Addr) (c_0_1 : Nat) {r : Int} (H : p_snap_Snap_Sum s_ = some r) : CT G 78 [.agg (bx43 s_ a_0_0 c_0_0 a_0_1 c_0_1).toArray] [] [Im.sl tyRowRow a_0_0 c_0_0 s_.rows, Im.sl tyRowGlyph a_0_1 c_0_1 s_.begun, Im.sl (Ty.int .u32) (some ⟨0, 0, none⟩) 16 t_sum_half] (fun h : Unit => .int .i64 r) (fun h => []) (fun h => []) := by
  delta p_snap_Snap_Sum at H
  refine CT.of Go.Proofs.Tryz.func78 (by kernel_rfl) rfl rfl rfl fun K => ?_
  refine T.seq (T.region ?_)
  refine L.a [] [] (Ac.box rfl rfl) rfl rfl rfl rfl rfl ?_
  intro g1
  refine L.q 1 rfl ?_
  refine L.nil (E.then (T.seq (T.region ?_)))
  refine L.y (Yl.ldb 0 rfl rfl rfl rfl) rfl rfl rfl ?_
  obtain ⟨r2, h3, H4⟩ := bnd H
  refine L.a [] [0, 1] (Ac.call (c_snap_Snap_Pack a_0_0 c_0_0 a_0_1 c_0_1 h3) rfl rfl rfl rfl) rfl rfl rfl rfl rfl ?_
  rintro ⟨⟩
  refine L.a [] [] (Ac.bs (ty := Ty.str) (xs := [r2]) (.cons () [] rfl .nil) rfl rfl rfl rfl rfl rfl rfl) rfl rfl rfl rfl rfl ?_
  intro g5
  obtain ⟨r7, h8, H9⟩ := bnd H4
  refine L.br (Ac.call (c_sum_Of (some ⟨g5, 0, none⟩) 1 h8) rfl rfl rfl rfl) (Bw.ch 0 rfl (Bw.im 2 rfl (Bw.nil))) rfl rfl rfl ?_
  intro _
  refine L.q 2 rfl ?_
  refine L.nil (E.then (T.ret ?_))
  have hr := Option.some.inj H9
  subst r
  exact E.ret () [] [] (.tmp rfl .nil) rfl rfl rfl

theorem c_delta_changes {a : SnapSnap} {b : SnapSnap} (a_0_0 : Option Addr) (c_0_0 : Nat) (a_0_1 : Option Addr) (c_0_1 : Nat) (a_1_0 : Option Addr) (c_1_0 : Nat) (a_1_1 : Option Addr) (c_1_1 : Nat) {r : (SnapSnap × SnapSnap)} (H : p_delta_changes a b = some r) : CT G 83 [.agg (bx43 a a_0_0 c_0_0 a_0_1 c_0_1).toArray, .agg (bx43 b a_1_0 c_1_0 a_1_1 c_1_1).toArray] [] [Im.sl tyRowRow a_0_0 c_0_0 a.rows, Im.sl tyRowGlyph a_0_1 c_0_1 a.begun, Im.sl tyRowRow a_1_0 c_1_0 b.rows, Im.sl tyRowGlyph a_1_1 c_1_1 b.begun] (fun h : Nat × Nat => .func (.func 93) #[] #[.pointer (some ⟨h.1, 0, none⟩), .pointer (some ⟨h.2, 0, none⟩)]) (fun h => [Ch.box h.1 43 (bx43 r.1 a_1_0 c_1_0 a_1_1 c_1_1), Ch.box h.2 43 (bx43 r.2 a_0_0 c_0_0 a_0_1 c_0_1)]) (fun h => [Im.sl tyRowRow a_1_0 c_1_0 r.1.rows, Im.sl tyRowGlyph a_1_1 c_1_1 r.1.begun, Im.sl tyRowRow a_0_0 c_0_0 r.2.rows, Im.sl tyRowGlyph a_0_1 c_0_1 r.2.begun]) := by
  delta p_delta_changes at H
  refine CT.of Go.Proofs.Tryz.func83 (by kernel_rfl) rfl rfl rfl fun K => ?_
  refine T.seq (T.region ?_)
  refine L.a [] [] (Ac.box rfl rfl) rfl rfl rfl rfl rfl ?_
  intro g1
  refine L.a [] [] (Ac.box rfl rfl) rfl rfl rfl rfl rfl ?_
  intro g2
  refine L.q 1 rfl ?_
  refine L.nil (E.then (T.seq (T.region ?_)))
  refine L.q 2 rfl ?_
  refine L.nil (E.then (T.ret ?_))
  have hr := Option.some.inj H
  subst r
  exact E.ret (g2, g1) [0, 0] [2, 3, 0, 1] (.tmp rfl .nil) rfl rfl rfl

theorem c_delta_rowOf {s_ : SnapSnap} {y : Int} (a_0_0 : Option Addr) (c_0_0 : Nat) (a_0_1 : Option Addr) (c_0_1 : Nat) {r : RowRow × Bool} (H : p_delta_rowOf s_ y = some r) : CT G 94 [.agg (bx43 s_ a_0_0 c_0_0 a_0_1 c_0_1).toArray, .int .i64 y] [] [Im.sl tyRowRow a_0_0 c_0_0 s_.rows, Im.sl tyRowGlyph a_0_1 c_0_1 s_.begun] (fun h : (Option Addr × Nat) => .tuple #[.agg #[.slice h.1 r.1.cells.length h.2, .bool r.1.wrapped], .bool r.2]) (fun h => []) (fun h => [Im.sl tyRowCell h.1 h.2 r.1.cells]) := by
  delta p_delta_rowOf at H
  refine CT.of Go.Proofs.Tryz.func94 (by kernel_rfl) rfl rfl rfl fun K => ?_
  refine T.seq (T.region ?_)
  refine L.a [] [] (Ac.box rfl rfl) rfl rfl rfl rfl rfl ?_
  intro g1
  refine L.a [] [] (Ac.alloc rfl rfl) rfl rfl rfl rfl rfl ?_
  intro g2
  refine L.q 1 rfl ?_
  refine L.nil (E.then (T.seq (T.seq ?_)))
  obtain ⟨e6, H7, H8⟩ := bnd H
  refine T.join (η := Unit × Unit) (fun h => True) (fun h => [(1, .int .i64 y), (2, .pointer (some ⟨g1, 0, none⟩)), (4, .pointer (some ⟨g2, 0, none⟩)), (14, .bool e6)]) (fun h => [Ch.box g2 54 [.slice none 0 0, .bool false], Ch.box g1 43 (bx43 s_ a_0_0 c_0_0 a_0_1 c_0_1)]) (fun h => [Im.sl tyRowRow a_0_0 c_0_0 s_.rows, Im.sl tyRowGlyph a_0_1 c_0_1 s_.begun]) ?_ ?_
  · refine T.region ?_
    refine L.q 3 rfl ?_
    refine L.cs 8 H7 rfl (fun hc H9 => ?_) (fun hc H9 => ?_)
    · refine L.q 6 rfl ?_
      refine L.nil ?_
      have hr := Option.some.inj H9
      subst e6
      exact E.give ((), ()) [0, 0] [0, 1] trivial ⟨rfl, rfl, rfl, rfl, trivial⟩ rfl rfl
    refine L.q 2 rfl ?_
    refine L.y (Yl.ldb 1 rfl rfl rfl rfl) rfl rfl rfl ?_
    refine L.q 3 rfl ?_
    refine L.nil ?_
    have hr := Option.some.inj H9
    subst e6
    exact E.give ((), ()) [0, 0] [0, 1] trivial ⟨rfl, rfl, rfl, rfl, trivial⟩ rfl rfl
  rintro ⟨_, ⟨⟩⟩ _
  refine T.bif rfl H8 (fun hc H11 => ?_) (fun hc H11 => ?_)
  · refine T.seq (T.region ?_)
    refine L.q 1 rfl ?_
    refine L.a [0] [] (Ac.stb rfl rfl rfl rfl rfl rfl) rfl rfl rfl rfl rfl ?_
    intro _
    refine L.q 1 rfl ?_
    refine L.nil (E.then (T.ret (E.then_ret ?_)))
    refine E.know [Im.sl tyRowCell none 0 []] (fun A w _ _ f hf => by rw [List.mem_singleton.1 hf]; exact Im.sl_nil A w) ?_
    have hr := Option.some.inj H11
    subst r
    exact E.ret (none, 0) [] [0] (.cell 0 rfl rfl rfl (.tmp rfl .nil)) rfl rfl rfl
  refine T.skip (E.then (T.seq (T.region ?_)))
  refine L.q 1 rfl ?_
  refine L.y (Yl.ldb 1 rfl rfl rfl rfl) rfl rfl rfl ?_
  refine L.q 1 rfl ?_
  obtain ⟨x13, h14, H15⟩ := bnd H11
  refine L.addr 0 rfl (idx_lt h14) fun b16 o17 e18 => ?_
  obtain rfl : a_0_0 = some ⟨b16, o17, none⟩ := e18
  refine L.y (Yl.ia h14 rfl rfl rfl rfl rfl rfl) rfl rfl rfl ?_
  refine L.el 0 rfl (idx_some h14).2 ?_
  rintro ⟨a19, c20⟩
  refine L.y (Yl.ldc 0 0 rfl rfl rfl rfl) rfl rfl rfl ?_
  refine L.a [0] [] (Ac.stb rfl rfl rfl rfl rfl rfl) rfl rfl rfl rfl rfl ?_
  intro _
  refine L.q 1 rfl ?_
  refine L.nil (E.then (T.ret ?_))
  have hr := Option.some.inj H15
  subst r
  exact E.ret (a19, c20) [] [1] (.cell 0 rfl rfl rfl (.tmp rfl .nil)) rfl rfl rfl

end Go.Tw.X

set_option maxHeartbeats 2000000
set_option linter.unusedVariables false
set_option linter.unusedSimpArgs false
set_option maxRecDepth 10000
namespace Go.Tw.X
open Go Go.Tw
theorem c_slices_Equal_row_Cell {s1_ : List RowCell} {s2_ : List RowCell} (a_0 : Option Addr) (c_0 : Nat) (a_1 : Option Addr) (c_1 : Nat) {r : Bool} (H : p_slices_Equal_row_Cell s1_ s2_ = some r) : CT G 101 [.slice a_0 s1_.length c_0, .slice a_1 s2_.length c_1] [] [Im.sl tyRowCell a_0 c_0 s1_, Im.sl tyRowCell a_1 c_1 s2_] (fun h : Unit => .bool r) (fun h => []) (fun h => []) := by
  delta p_slices_Equal_row_Cell at H
  refine CT.of Go.Proofs.Tryz.func101 (by kernel_rfl) rfl rfl rfl fun K => ?_
  refine T.seq (T.region ?_)
  refine L.q 1 rfl ?_
  refine L.nil (E.then (T.seq (T.seq (T.region ?_))))
  refine L.q 5 rfl ?_
  refine L.nil (E.then ?_)
  refine T.bif rfl H (fun hc H2 => ?_) (fun hc H2 => ?_)
  · refine T.seq (T.region ?_)
    refine L.q 1 rfl ?_
    refine L.nil (E.then (T.ret (E.then_ret ?_)))
    have hr := Option.some.inj H2
    subst r
    exact E.ret () [] [] (.tmp rfl .nil) rfl rfl rfl
  refine T.skip (E.then (T.seq (T.seq (T.region ?_))))
  refine L.q 3 rfl ?_
  refine L.nil (E.then ?_)
  obtain ⟨y356, H357, H358⟩ := bnd H2
  refine T.join (η := Unit × Unit) (fun h => y356 = .inl h.1) (fun h => (fun e355 => []) h.1) (fun h => (fun e355 => []) h.1) (fun h => (fun e355 => [Im.sl tyRowCell a_0 c_0 s1_, Im.sl tyRowCell a_1 c_1 s2_]) h.1) ?_ ?_
  · refine T.block ?_
    refine T.lp (η := Unit) (fun s238 h => [(0, .slice a_0 s1_.length c_0), (1, .slice a_1 s2_.length c_1), (12, .int .i64 (s1_.length : Int)), (13, .int .i64 s238)]) (fun s238 h => []) (fun s238 h => [Im.sl tyRowCell a_0 c_0 s1_, Im.sl tyRowCell a_1 c_1 s2_]) () [] [0, 1] H357 ⟨rfl, rfl, rfl, rfl, trivial⟩ rfl rfl ?_
    rintro k_ s238 ⟨⟩ z360 H359 hag361 hbr362
    refine T.seq (T.region ?_)
    refine L.q 1 rfl ?_
    refine L.nil (E.then (T.seq ?_))
    refine T.bif rfl H359 (fun hc H364 => ?_) (fun hc H364 => ?_)
    · refine T.skip (E.then (T.seq (T.block (T.seq (T.region ?_)))))
      refine L.q 2 rfl ?_
      refine L.nil (E.then (T.seq ?_))
      refine T.draw [] [] mo (by rfl) rfl ?_
      refine D.q 0 rfl rfl rfl rfl rfl rfl ?_
      refine D.q 1 rfl rfl rfl rfl rfl rfl ?_
      obtain ⟨x464, h465, H466⟩ := bnd H364
      refine D.addr 0 rfl (idx_lt h465) fun b467 o468 e469 => ?_
      obtain rfl : a_0 = some ⟨b467, o468, none⟩ := e469
      refine D.y 2 (Yl.ia h465 rfl rfl rfl rfl rfl rfl) rfl rfl rfl rfl rfl rfl ?_
      refine D.el 0 rfl (idx_some h465).2 ?_
      rintro _
      refine D.y 3 (Yl.ldc 0 0 rfl rfl rfl rfl) rfl rfl rfl rfl rfl rfl ?_
      refine D.q 4 rfl rfl rfl rfl rfl rfl ?_
      refine D.q 5 rfl rfl rfl rfl rfl rfl ?_
      obtain ⟨x471, h472, H473⟩ := bnd H466
      refine D.addr 2 rfl (idx_lt h472) fun b474 o475 e476 => ?_
      obtain rfl : a_1 = some ⟨b474, o475, none⟩ := e476
      refine D.y 6 (Yl.ia h472 rfl rfl rfl rfl rfl rfl) rfl rfl rfl rfl rfl rfl ?_
      refine D.el 2 rfl (idx_some h472).2 ?_
      rintro _
      refine D.y 7 (Yl.ldc 0 0 rfl rfl rfl rfl) rfl rfl rfl rfl rfl rfl ?_
      refine D.q 8 rfl rfl rfl rfl rfl rfl ?_
      refine D.nil rfl rfl ?_
      refine E.then ?_
      refine T.bif rfl H473 (fun hc H478 => ?_) (fun hc H478 => ?_)
      · refine T.seq (T.region ?_)
        refine L.q 1 rfl ?_
        refine L.nil (E.then (T.ret (E.block_ret (E.then_ret (E.then_ret (E.block_ret ?_))))))
        obtain ⟨w479, hz, H480⟩ := inrr_some H478
        subst z360
        have hb := hbr362 _ rfl
        subst y356
        have hw : w479 = r := Option.some.inj H358
        subst w479
        refine E.then_ret ?_
        have hr := Option.some.inj H480
        subst r
        exact E.ret () [] [] (.tmp rfl .nil) rfl rfl rfl
      refine T.skip (E.block (E.then (T.region ?_)))
      refine L.q 2 rfl ?_
      refine L.nil ?_
      have hr := Option.some.inj H478
      subst z360
      exact E.give (_, ()) [] [2, 3] (hag361 _ rfl) ⟨rfl, rfl, rfl, rfl, trivial⟩ rfl rfl
    refine T.exit (E.then_exit' (E.then_exit' (E.block_here ?_)))
    have hr := Option.some.inj H364
    subst z360
    have hb := hbr362 _ rfl
    subst y356
    exact E.give (_, ()) [] [0, 1] rfl trivial rfl rfl
  rintro ⟨e355, ⟨⟩⟩ hy
  subst hy
  refine T.seq (T.region ?_)
  refine L.q 1 rfl ?_
  refine L.nil (E.then (T.ret ?_))
  have hr := Option.some.inj H358
  subst r
  exact E.ret () [] [] (.tmp rfl .nil) rfl rfl rfl

theorem c_row_Row_Same {r_ : RowRow} {q : RowRow} (a_0_0 : Option Addr) (c_0_0 : Nat) (a_1_0 : Option Addr) (c_1_0 : Nat) {r : Bool} (H : p_row_Row_Same r_ q = some r) : CT G 95 [.agg #[.slice a_0_0 r_.cells.length c_0_0, .bool r_.wrapped], .agg #[.slice a_1_0 q.cells.length c_1_0, .bool q.wrapped]] [] [Im.sl tyRowCell a_0_0 c_0_0 r_.cells, Im.sl tyRowCell a_1_0 c_1_0 q.cells] (fun h : Unit => .bool r) (fun h => []) (fun h => []) := by
  delta p_row_Row_Same at H
  refine CT.of Go.Proofs.Tryz.func95 (by kernel_rfl) rfl rfl rfl fun K => ?_
  refine T.seq (T.region ?_)
  refine L.a [] [] (Ac.box rfl rfl) rfl rfl rfl rfl rfl ?_
  intro g1
  refine L.a [] [] (Ac.box rfl rfl) rfl rfl rfl rfl rfl ?_
  intro g2
  refine L.q 1 rfl ?_
  refine L.nil (E.then (T.seq ?_))
  obtain ⟨e12, H13, H14⟩ := bnd H
  refine T.join (η := Unit × Unit) (fun h => True) (fun h => [(4, .bool e12)]) (fun h => [Ch.box g2 54 [.slice a_1_0 q.cells.length c_1_0, .bool q.wrapped], Ch.box g1 54 [.slice a_0_0 r_.cells.length c_0_0, .bool r_.wrapped]]) (fun h => [Im.sl tyRowCell a_0_0 c_0_0 r_.cells, Im.sl tyRowCell a_1_0 c_1_0 q.cells]) ?_ ?_
  · refine T.region ?_
    refine L.q 1 rfl ?_
    refine L.y (Yl.ldb 1 rfl rfl rfl rfl) rfl rfl rfl ?_
    refine L.q 1 rfl ?_
    refine L.y (Yl.ldb 0 rfl rfl rfl rfl) rfl rfl rfl ?_
    refine L.q 2 rfl ?_
    refine L.cs 10 H13 rfl (fun hc H15 => ?_) (fun hc H15 => ?_)
    · refine L.q 1 rfl ?_
      refine L.y (Yl.ldb 1 rfl rfl rfl rfl) rfl rfl rfl ?_
      refine L.q 1 rfl ?_
      refine L.y (Yl.ldb 0 rfl rfl rfl rfl) rfl rfl rfl ?_
      obtain ⟨r16, h17, H18⟩ := bnd H15
      refine L.a [] [0, 1] (Ac.call (c_slices_Equal_row_Cell a_0_0 c_0_0 a_1_0 c_1_0 h17) rfl rfl rfl rfl) rfl rfl rfl rfl rfl ?_
      rintro ⟨⟩
      refine L.q 2 rfl ?_
      refine L.nil ?_
      have hr := Option.some.inj H18
      subst e12
      exact E.give ((), ()) [0, 0] [0, 1] trivial ⟨rfl, trivial⟩ rfl rfl
    refine L.q 7 rfl ?_
    refine L.nil ?_
    have hr := Option.some.inj H15
    subst e12
    exact E.give ((), ()) [0, 0] [0, 1] trivial ⟨rfl, trivial⟩ rfl rfl
  rintro ⟨_, ⟨⟩⟩ _
  refine T.ret ?_
  have hr := Option.some.inj H14
  subst r
  exact E.ret () [] [] (.tmp rfl .nil) rfl rfl rfl

theorem c_delta_changes_1 {σ η : Type} {Y : σ → (Int × RowRow) → Option (σ × Bool)} {y0 : σ} {x1 : SnapSnap} {x2 : SnapSnap} {yl : Nat} {C : σ → η → Ch} (hY : ∀ s (h : η) (x : Int × RowRow) (t : (Option Addr × Nat)) z, Y s x = some z → YT G yl [.int .i64 x.1, .agg #[.slice t.1 x.2.cells.length t.2, .bool x.2.wrapped]] [C s h] [Im.sl tyRowCell t.1 t.2 x.2.cells] (fun _ : η => .bool z.2) (fun h2 => [C z.1 h2]) (fun _ => [])) (h0 : η) (g_1 : Nat) (a_1_0 : Option Addr) (c_1_0 : Nat) (a_1_1 : Option Addr) (c_1_1 : Nat) (g_2 : Nat) (a_2_0 : Option Addr) (c_2_0 : Nat) (a_2_1 : Option Addr) (c_2_1 : Nat) {r : σ} (H : p_delta_changes_1 Y y0 x1 x2 = some r) : CT G 93 [.func (.yield yl) #[] #[], .pointer (some ⟨g_1, 0, none⟩), .pointer (some ⟨g_2, 0, none⟩)] [C y0 h0, Ch.box g_1 43 (bx43 x1 a_1_0 c_1_0 a_1_1 c_1_1), Ch.box g_2 43 (bx43 x2 a_2_0 c_2_0 a_2_1 c_2_1)] [Im.sl tyRowRow a_1_0 c_1_0 x1.rows, Im.sl tyRowGlyph a_1_1 c_1_1 x1.begun, Im.sl tyRowRow a_2_0 c_2_0 x2.rows, Im.sl tyRowGlyph a_2_1 c_2_1 x2.begun] (fun h : η => .tuple #[]) (fun h => [C r h, Ch.box g_1 43 (bx43 x1 a_1_0 c_1_0 a_1_1 c_1_1), Ch.box g_2 43 (bx43 x2 a_2_0 c_2_0 a_2_1 c_2_1)]) (fun h => []) := by
  delta p_delta_changes_1 at H
  refine CT.of Go.Proofs.Tryz.func93 (by kernel_rfl) rfl rfl rfl fun K => ?_
  refine T.seq (T.region ?_)
  refine L.q 1 rfl ?_
  refine L.y (Yl.ldb 1 rfl rfl rfl rfl) rfl rfl rfl ?_
  refine L.q 2 rfl ?_
  refine L.nil (E.then ?_)
  obtain ⟨y413, H414, H415⟩ := bnd H
  refine T.joinE (η := σ × (η)) (fun h => y413 = .inl h.1) (fun h => (fun e412 => (fun h411 => []) h.2) h.1) (fun h => (fun e412 => (fun h411 => [C e412 h411, Ch.box g_1 43 (bx43 x1 a_1_0 c_1_0 a_1_1 c_1_1), Ch.box g_2 43 (bx43 x2 a_2_0 c_2_0 a_2_1 c_2_1)]) h.2) h.1) (fun h => (fun e412 => (fun h411 => [Im.sl tyRowRow a_1_0 c_1_0 x1.rows, Im.sl tyRowGlyph a_1_1 c_1_1 x1.begun, Im.sl tyRowRow a_2_0 c_2_0 x2.rows, Im.sl tyRowGlyph a_2_1 c_2_1 x2.begun]) h.2) h.1) ?_ ?_
  · refine T.block ?_
    refine T.lp (η := η) (fun s276 h => (fun h275 => [(0, .func (.yield yl) #[] #[]), (2, .pointer (some ⟨g_2, 0, none⟩)), (9, .slice a_1_0 x1.rows.length c_1_0), (10, .int .i64 (x1.rows.length : Int)), (11, .int .i64 s276.1)]) h) (fun s276 h => (fun h275 => [C s276.2 h275, Ch.box g_1 43 (bx43 x1 a_1_0 c_1_0 a_1_1 c_1_1), Ch.box g_2 43 (bx43 x2 a_2_0 c_2_0 a_2_1 c_2_1)]) h) (fun s276 h => (fun h275 => [Im.sl tyRowRow a_1_0 c_1_0 x1.rows, Im.sl tyRowGlyph a_1_1 c_1_1 x1.begun, Im.sl tyRowRow a_2_0 c_2_0 x2.rows, Im.sl tyRowGlyph a_2_1 c_2_1 x2.begun]) h) h0 [0, 0, 0] [0, 1, 2, 3] H414 ⟨rfl, rfl, rfl, rfl, rfl, trivial⟩ rfl rfl ?_
    rintro k_ s276 h275 z417 H416 hag418 hbr419
    refine T.seq (T.region ?_)
    refine L.q 1 rfl ?_
    refine L.nil (E.then (T.seq ?_))
    refine T.bif rfl H416 (fun hc H421 => ?_) (fun hc H421 => ?_)
    · refine T.skip (E.then (T.seq ?_))
      obtain ⟨y507, H508, H509⟩ := bnd H421
      refine T.join (η := σ × (η)) (fun h => y507 = .inl h.1) (fun h => (fun e506 => (fun h505 => [(0, .func (.yield yl) #[] #[]), (2, .pointer (some ⟨g_2, 0, none⟩)), (9, .slice a_1_0 x1.rows.length c_1_0), (10, .int .i64 (x1.rows.length : Int)), (11, .int .i64 s276.1)]) h.2) h.1) (fun h => (fun e506 => (fun h505 => [C e506 h505, Ch.box g_1 43 (bx43 x1 a_1_0 c_1_0 a_1_1 c_1_1), Ch.box g_2 43 (bx43 x2 a_2_0 c_2_0 a_2_1 c_2_1)]) h.2) h.1) (fun h => (fun e506 => (fun h505 => [Im.sl tyRowRow a_1_0 c_1_0 x1.rows, Im.sl tyRowGlyph a_1_1 c_1_1 x1.begun, Im.sl tyRowRow a_2_0 c_2_0 x2.rows, Im.sl tyRowGlyph a_2_1 c_2_1 x2.begun]) h.2) h.1) ?_ ?_
      · refine T.block (T.seq (T.region ?_))
        refine L.q 1 rfl ?_
        obtain ⟨x510, h511, H512⟩ := bnd H508
        refine L.addr 0 rfl (idx_lt h511) fun b513 o514 e515 => ?_
        obtain rfl : a_1_0 = some ⟨b513, o514, none⟩ := e515
        refine L.y (Yl.ia h511 rfl rfl rfl rfl rfl rfl) rfl rfl rfl ?_
        refine L.el 0 rfl (idx_some h511).2 ?_
        rintro ⟨a516, c517⟩
        refine L.y (Yl.ldc 0 0 rfl rfl rfl rfl) rfl rfl rfl ?_
        refine L.a [] [] (Ac.alloc rfl rfl) rfl rfl rfl rfl rfl ?_
        intro g520
        refine L.q 1 rfl ?_
        refine L.a [0] [] (Ac.stb rfl rfl rfl rfl rfl rfl) rfl rfl rfl rfl rfl ?_
        intro _
        refine L.nil (E.then (T.seq (T.seq (T.region ?_))))
        refine L.y (Yl.ldb 3 rfl rfl rfl rfl) rfl rfl rfl ?_
        refine L.q 1 rfl ?_
        obtain ⟨r521, h522, H523⟩ := bnd H512
        refine L.a [] [4, 5] (Ac.call (c_delta_rowOf a_2_0 c_2_0 a_2_1 c_2_1 h522) rfl rfl rfl rfl) rfl rfl rfl rfl rfl ?_
        rintro ⟨a524, c525⟩
        refine L.q 3 rfl ?_
        refine L.a [] [] (Ac.alloc rfl rfl) rfl rfl rfl rfl rfl ?_
        intro g527
        refine L.a [0] [] (Ac.stb rfl rfl rfl rfl rfl rfl) rfl rfl rfl rfl rfl ?_
        intro _
        refine L.q 1 rfl ?_
        refine L.nil (E.then (T.seq ?_))
        obtain ⟨e537, H538, H539⟩ := bnd H523
        refine T.join (η := Unit × Unit) (fun h => True) (fun h => [(0, .func (.yield yl) #[] #[]), (2, .pointer (some ⟨g_2, 0, none⟩)), (4, .int .i64 s276.1), (5, .pointer (some ⟨g520, 0, none⟩)), (9, .slice (some ⟨b513, o514, none⟩) x1.rows.length c_1_0), (10, .int .i64 (x1.rows.length : Int)), (11, .int .i64 s276.1), (27, .bool e537)]) (fun h => [Ch.box g527 54 [.slice a524 r521.1.cells.length c525, .bool r521.1.wrapped], Ch.box g520 54 [.slice a516 x510.cells.length c517, .bool x510.wrapped], C s276.2 h275, Ch.box g_1 43 [.int .i64 x1.k, .int .i64 x1.w, .int .i64 x1.h, .int .i64 x1.x, .int .i64 x1.y, .string x1.title, .slice (some ⟨b513, o514, none⟩) x1.rows.length c_1_0, .int .i64 x1.len, .int .i64 x1.chain, .slice a_1_1 x1.begun.length c_1_1], Ch.box g_2 43 (bx43 x2 a_2_0 c_2_0 a_2_1 c_2_1)]) (fun h => [Im.sl tyRowCell a524 c525 r521.1.cells, Im.cells b513 (o514 + s276.1.toNat * 2) [.slice a516 x510.cells.length c517, .bool x510.wrapped], Im.sl tyRowCell a516 c517 x510.cells, Im.sl tyRowRow (some ⟨b513, o514, none⟩) c_1_0 x1.rows, Im.sl tyRowGlyph a_1_1 c_1_1 x1.begun, Im.sl tyRowRow a_2_0 c_2_0 x2.rows, Im.sl tyRowGlyph a_2_1 c_2_1 x2.begun]) ?_ ?_
        · refine T.region ?_
          refine L.q 2 rfl ?_
          refine L.cs 23 H538 rfl (fun hc H540 => ?_) (fun hc H540 => ?_)
          · refine L.y (Yl.ldb 0 rfl rfl rfl rfl) rfl rfl rfl ?_
            refine L.y (Yl.ldb 1 rfl rfl rfl rfl) rfl rfl rfl ?_
            obtain ⟨r541, h542, H543⟩ := bnd H540
            refine L.a [] [0, 2] (Ac.call (c_row_Row_Same a524 c525 a516 c517 h542) rfl rfl rfl rfl) rfl rfl rfl rfl rfl ?_
            rintro ⟨⟩
            refine L.q 1 rfl ?_
            refine L.nil ?_
            have hr := Option.some.inj H543
            subst e537
            exact E.give ((), ()) [0, 0, 0, 0, 0] [0, 1, 2, 3, 4, 5, 6] trivial ⟨rfl, rfl, rfl, rfl, rfl, rfl, rfl, rfl, trivial⟩ rfl rfl
          refine L.q 4 rfl ?_
          refine L.nil ?_
          have hr := Option.some.inj H540
          subst e537
          exact E.give ((), ()) [0, 0, 0, 0, 0] [0, 1, 2, 3, 4, 5, 6] trivial ⟨rfl, rfl, rfl, rfl, rfl, rfl, rfl, rfl, trivial⟩ rfl rfl
        rintro ⟨_, ⟨⟩⟩ _
        refine T.bif rfl H539 (fun hc H545 => ?_) (fun hc H545 => ?_)
        · refine T.exit (E.then_exit' (E.block_here ?_))
          have hr := Option.some.inj H545
          subst y507
          exact E.give (_, h275) [2, 2, 2] [3, 4, 5, 6] rfl ⟨rfl, rfl, rfl, rfl, rfl, trivial⟩ rfl rfl
        refine T.skip (E.then (T.seq (T.region ?_)))
        refine L.q 2 rfl ?_
        refine L.y (Yl.ldb 1 rfl rfl rfl rfl) rfl rfl rfl ?_
        obtain ⟨z546, h547, H548⟩ := bnd H545
        refine L.yd [2] [2] (hY _ _ _ (a516, c517) _ h547) rfl rfl rfl rfl rfl rfl rfl rfl ?_
        intro h549
        refine L.q 1 rfl ?_
        refine L.nil (E.then ?_)
        refine T.bif rfl H548 (fun hc H550 => ?_) (fun hc H550 => ?_)
        · refine T.ret (E.block_ret ?_)
          obtain ⟨w551, hz, H552⟩ := inrs_some H550
          subst y507
          have hw : w551 = z417 := Option.some.inj H509
          subst w551
          refine E.then_ret (E.then_ret (E.block_ret ?_))
          obtain ⟨w553, hz, H554⟩ := inrr_some H552
          subst z417
          have hb := hbr419 _ rfl
          subst y413
          have hw : w553 = r := Option.some.inj H415
          subst w553
          refine E.then_ret ?_
          have hr := Option.some.inj H554
          subst r
          exact E.ret h549 [0, 2, 2] [] .nil rfl rfl rfl
        refine T.skip (E.block ?_)
        have hr := Option.some.inj H550
        subst y507
        exact E.give (_, h549) [0, 2, 2] [3, 4, 5, 6] rfl ⟨rfl, rfl, rfl, rfl, rfl, trivial⟩ rfl rfl
      rintro ⟨e506, h505⟩ hy
      subst hy
      refine T.region ?_
      refine L.q 2 rfl ?_
      refine L.nil ?_
      have hr := Option.some.inj H509
      subst z417
      exact E.give (_, h505) [0, 0, 0] [0, 1, 2, 3] (hag418 _ rfl) ⟨rfl, rfl, rfl, rfl, rfl, trivial⟩ rfl rfl
    refine T.exit (E.then_exit' (E.then_exit' (E.block_here ?_)))
    have hr := Option.some.inj H421
    subst z417
    have hb := hbr419 _ rfl
    subst y413
    exact E.give (_, h275) [0, 0, 0] [0, 1, 2, 3] rfl trivial rfl rfl
  rintro ⟨e412, h411⟩ hy
  subst hy
  refine E.off ?_
  have hr := Option.some.inj H415
  subst r
  exact E.ret h411 [0, 0, 0] [] .nil rfl rfl rfl

theorem c_delta_Changes {a : SnapSnap} {b : SnapSnap} (a_0_0 : Option Addr) (c_0_0 : Nat) (a_0_1 : Option Addr) (c_0_1 : Nat) (a_1_0 : Option Addr) (c_1_0 : Nat) (a_1_1 : Option Addr) (c_1_1 : Nat) {r : (List Int)} (H : p_delta_Changes a b = some r) : CT G 82 [.agg (bx43 a a_0_0 c_0_0 a_0_1 c_0_1).toArray, .agg (bx43 b a_1_0 c_1_0 a_1_1 c_1_1).toArray] [] [Im.sl tyRowRow a_0_0 c_0_0 a.rows, Im.sl tyRowGlyph a_0_1 c_0_1 a.begun, Im.sl tyRowRow a_1_0 c_1_0 b.rows, Im.sl tyRowGlyph a_1_1 c_1_1 b.begun] (fun h : (Option Addr × Nat) => .slice h.1 r.length h.2) (fun h => [Ch.arr (Ty.int .i64) 3 h.1 h.2 r]) (fun h => []) := by
  delta p_delta_Changes at H
  refine CT.of Go.Proofs.Tryz.func82 (by kernel_rfl) rfl rfl rfl fun K => ?_
  refine T.dfs0 ?_
  refine T.seq (T.region ?_)
  refine L.a [] [] (Ac.box rfl rfl) rfl rfl rfl rfl rfl ?_
  intro g1
  refine L.a [] [] (Ac.box rfl rfl) rfl rfl rfl rfl rfl ?_
  intro g2
  refine L.q 1 rfl ?_
  refine L.nil (E.then (T.seq (T.region ?_)))
  refine L.a [] [] (Ac.alloc rfl rfl) rfl rfl rfl rfl rfl ?_
  intro g3
  refine L.nil (E.then (T.seq (T.seq (T.region ?_))))
  refine L.y (Yl.ldb 2 rfl rfl rfl rfl) rfl rfl rfl ?_
  refine L.y (Yl.ldb 1 rfl rfl rfl rfl) rfl rfl rfl ?_
  obtain ⟨r4, h5, H6⟩ := bnd H
  refine L.a [] [0, 1, 2, 3] (Ac.call (c_delta_changes a_0_0 c_0_0 a_0_1 c_0_1 a_1_0 c_1_0 a_1_1 c_1_1 h5) rfl rfl rfl rfl) rfl rfl rfl rfl rfl ?_
  rintro ⟨g7, g8⟩
  refine L.nil (E.then (T.block ?_))
  refine T.nil0 (Ty.int .i64) 3 ?_
  obtain ⟨r57, h58, H59⟩ := bnd H6
  refine T.rf2 (σ := (List Int)) (η := (Option Addr × Nat)) (X := Int × RowRow) (θ := (Option Addr × Nat)) (τ := (Option Addr × Nat)) (s1 := r57) (hx := fun x => x) (fun x t => [.int .i64 x.1, .agg #[.slice t.1 x.2.cells.length t.2, .bool x.2.wrapped]]) (fun x t => [Im.sl tyRowCell t.1 t.2 x.2.cells]) (fun _ => none) (fun s44 h => (fun a28 c29 => [Ch.arr (Ty.int .i64) 3 a28 c29 s44, Ch.box g3 58 [.slice a28 s44.length c29], Ch.box g2 43 (bx43 b a_1_0 c_1_0 a_1_1 c_1_1), Ch.box g1 43 (bx43 a a_0_0 c_0_0 a_0_1 c_0_1)]) h.1 h.2) (fun s44 h => (fun a28 c29 => [Im.sl tyRowRow a_1_0 c_1_0 r4.1.rows, Im.sl tyRowGlyph a_1_1 c_1_1 r4.1.begun, Im.sl tyRowRow a_0_0 c_0_0 r4.2.rows, Im.sl tyRowGlyph a_0_1 c_0_1 r4.2.begun, Im.sl tyRowRow a_0_0 c_0_0 a.rows, Im.sl tyRowGlyph a_0_1 c_0_1 a.begun, Im.sl tyRowRow a_1_0 c_1_0 b.rows, Im.sl tyRowGlyph a_1_1 c_1_1 b.begun]) h.1 h.2) 6 [0, 2, 2, 2, 0, 0] [0, 1, 2, 3, 4, 5, 6, 7] [0, 1, 2, 3] rfl rfl (fun _ _ => rfl) rfl (fun yl C hY => (c_delta_changes_1 hY (none, 0) g7 a_1_0 c_1_0 a_1_1 c_1_1 g8 a_0_0 c_0_0 a_0_1 c_0_1 h58 : _)) (fun _ _ _ _ => rfl) rfl rfl rfl rfl rfl ?_ rfl ?_
  · rintro yl K2 s44 ⟨a28, c29⟩ x15 ⟨a13, c14⟩ z45 H46
    refine T.region ?_
    refine L.q 1 rfl ?_
    refine L.nil ?_
    refine E.begin fun K3 => ?_
    refine T.block (T.region ?_)
    refine L.y (Yl.ldb 1 rfl rfl rfl rfl) rfl rfl rfl ?_
    refine L.q 1 rfl ?_
    refine L.a [] [] (Ac.bs (ty := (Ty.int .i64)) (xs := [x15.1]) (.cons () [] rfl .nil) rfl rfl rfl rfl rfl rfl rfl) rfl rfl rfl rfl rfl ?_
    intro g48
    refine L.frz 0 rfl ?_
    obtain ⟨_, h51, H52⟩ := bnd H46
    refine L.a [0] [0] (Ac.ap (ty := (Ty.int .i64)) h51 rfl rfl rfl rfl rfl rfl rfl) rfl rfl rfl rfl rfl ?_
    rintro ⟨a53, c54⟩
    refine L.a [1] [] (Ac.stb rfl rfl rfl rfl rfl rfl) rfl rfl rfl rfl rfl ?_
    intro _
    refine L.nil (E.block ?_)
    have hr := Option.some.inj H52
    subst z45
    exact E.on (a53, c54) [1, 0, 0, 0] [2, 3, 4, 5, 6, 7, 8, 9] rfl rfl rfl rfl
  rintro h60 D62
  refine E.block (E.then (T.seq (T.region ?_)))
  refine L.y (Yl.ldb 2 rfl rfl rfl rfl) rfl rfl rfl ?_
  refine L.q 1 rfl ?_
  refine L.nil (E.then (T.ret ?_))
  have hr := Option.some.inj H59
  subst r
  exact E.retd (h60.1, h60.2) 0 [0] [] rfl (.tmp rfl .nil) rfl rfl rfl

theorem c_delta_Diff {a : SnapSnap} {b : SnapSnap} (a_0_0 : Option Addr) (c_0_0 : Nat) (a_0_1 : Option Addr) (c_0_1 : Nat) (a_1_0 : Option Addr) (c_1_0 : Nat) (a_1_1 : Option Addr) (c_1_1 : Nat) {r : ByteArray} (H : p_delta_Diff a b = some r) : CT G 61 [.agg (bx43 a a_0_0 c_0_0 a_0_1 c_0_1).toArray, .agg (bx43 b a_1_0 c_1_0 a_1_1 c_1_1).toArray] [] [Im.sl tyRowRow a_0_0 c_0_0 a.rows, Im.sl tyRowGlyph a_0_1 c_0_1 a.begun, Im.sl tyRowRow a_1_0 c_1_0 b.rows, Im.sl tyRowGlyph a_1_1 c_1_1 b.begun, Im.sl (Ty.int .u32) (some ⟨0, 0, none⟩) 16 t_sum_half] (fun h : Unit => .string r) (fun h => []) (fun h => []) := by
  delta p_delta_Diff at H
  refine CT.of Go.Proofs.Tryz.func61 (by kernel_rfl) rfl rfl rfl fun K => ?_
  refine T.dfs0 ?_
  refine T.seq (T.region ?_)
  refine L.a [] [] (Ac.box rfl rfl) rfl rfl rfl rfl rfl ?_
  intro g1
  refine L.a [] [] (Ac.box rfl rfl) rfl rfl rfl rfl rfl ?_
  intro g2
  refine L.q 1 rfl ?_
  refine L.nil (E.then (T.seq (T.seq ?_)))
  obtain ⟨e18, H19, H20⟩ := bnd H
  refine T.joinD (η := Unit × Unit) (fun h => True) (fun h => []) (fun h => [(2, .pointer (some ⟨g1, 0, none⟩)), (3, .pointer (some ⟨g2, 0, none⟩)), (15, .bool e18)]) (fun h => [Ch.box g2 43 (bx43 b a_1_0 c_1_0 a_1_1 c_1_1), Ch.box g1 43 (bx43 a a_0_0 c_0_0 a_0_1 c_0_1), Ch.dfs []]) (fun h => [Im.sl tyRowRow a_0_0 c_0_0 a.rows, Im.sl tyRowGlyph a_0_1 c_0_1 a.begun, Im.sl tyRowRow a_1_0 c_1_0 b.rows, Im.sl tyRowGlyph a_1_1 c_1_1 b.begun, Im.sl (Ty.int .u32) (some ⟨0, 0, none⟩) 16 t_sum_half]) ?_ ?_
  · refine T.region ?_
    refine L.y (Yl.ldb 1 rfl rfl rfl rfl) rfl rfl rfl ?_
    obtain ⟨r21, h22, H23⟩ := bnd H19
    refine L.a [] [0, 1] (Ac.call (c_snap_Snap_Check a_0_0 c_0_0 a_0_1 c_0_1 h22) rfl rfl rfl rfl) rfl rfl rfl rfl rfl ?_
    rintro ⟨⟩
    refine L.q 2 rfl ?_
    refine L.cs 11 H23 rfl (fun hc H24 => ?_) (fun hc H24 => ?_)
    · refine L.q 4 rfl ?_
      refine L.nil ?_
      have hr := Option.some.inj H24
      subst e18
      exact E.giveD ((), ()) [0, 0, 0] [0, 1, 2, 3, 4] trivial rfl ⟨rfl, rfl, rfl, trivial⟩ rfl rfl
    refine L.y (Yl.ldb 0 rfl rfl rfl rfl) rfl rfl rfl ?_
    obtain ⟨r25, h26, H27⟩ := bnd H24
    refine L.a [] [2, 3] (Ac.call (c_delta_may a_1_0 c_1_0 a_1_1 c_1_1 h26) rfl rfl rfl rfl) rfl rfl rfl rfl rfl ?_
    rintro ⟨⟩
    refine L.q 2 rfl ?_
    refine L.nil ?_
    have hr := Option.some.inj H27
    subst e18
    exact E.giveD ((), ()) [0, 0, 0] [0, 1, 2, 3, 4] trivial rfl ⟨rfl, rfl, rfl, trivial⟩ rfl rfl
  rintro ⟨_, ⟨⟩⟩ _
  refine T.bif rfl H20 (fun hc H29 => ?_) (fun hc H29 => ?_)
  · refine T.seq (T.region ?_)
    refine L.q 1 rfl ?_
    refine L.nil (E.then (T.ret (E.then_ret ?_)))
    have hr := Option.some.inj H29
    subst r
    exact E.retd () 2 [] [] rfl (.tmp rfl .nil) rfl rfl rfl
  refine T.skip (E.then (T.seq (T.region ?_)))
  refine L.a [] [] (Ac.alloc rfl rfl) rfl rfl rfl rfl rfl ?_
  intro g30
  refine L.nil (E.then (T.seq ?_))
  refine T.draw [] [1, 1, 1] mo (by rfl) rfl ?_
  refine D.y 0 (Yl.ldb 1 rfl rfl rfl rfl) rfl rfl rfl rfl rfl rfl ?_
  refine D.q 2 rfl rfl rfl rfl rfl rfl ?_
  refine D.y 3 (Yl.ldb 0 rfl rfl rfl rfl) rfl rfl rfl rfl rfl rfl ?_
  refine D.q 4 rfl rfl rfl rfl rfl rfl ?_
  refine D.y 5 (Yl.ldb 0 rfl rfl rfl rfl) rfl rfl rfl rfl rfl rfl ?_
  refine D.q 6 rfl rfl rfl rfl rfl rfl ?_
  refine D.y 7 (Yl.ldb 0 rfl rfl rfl rfl) rfl rfl rfl rfl rfl rfl ?_
  refine D.q 8 rfl rfl rfl rfl rfl rfl ?_
  refine D.y 9 (Yl.ldb 0 rfl rfl rfl rfl) rfl rfl rfl rfl rfl rfl ?_
  refine D.q 10 rfl rfl rfl rfl rfl rfl ?_
  refine D.y 11 (Yl.ldb 0 rfl rfl rfl rfl) rfl rfl rfl rfl rfl rfl ?_
  refine D.q 14 rfl rfl rfl rfl rfl rfl ?_
  refine D.y 15 (Yl.ldb 0 rfl rfl rfl rfl) rfl rfl rfl rfl rfl rfl ?_
  refine D.q 18 rfl rfl rfl rfl rfl rfl ?_
  refine D.y 19 (Yl.ldb 0 rfl rfl rfl rfl) rfl rfl rfl rfl rfl rfl ?_
  refine D.q 20 rfl rfl rfl rfl rfl rfl ?_
  refine D.y 21 (Yl.ldb 0 rfl rfl rfl rfl) rfl rfl rfl rfl rfl rfl ?_
  refine D.q 24 rfl rfl rfl rfl rfl rfl ?_
  refine D.y 25 (Yl.ldb 0 rfl rfl rfl rfl) rfl rfl rfl rfl rfl rfl ?_
  refine D.y 29 (Yl.ldb 1 rfl rfl rfl rfl) rfl rfl rfl rfl rfl rfl ?_
  refine D.y 30 (Yl.ldb 0 rfl rfl rfl rfl) rfl rfl rfl rfl rfl rfl ?_
  refine DF.of rfl ?_
  obtain ⟨r208, h209, H210⟩ := bnd H29
  refine DF.add _ (FSp.ac 1 [0, 1, 4] (Ac.call (c_snap_Snap_Sum a_0_0 c_0_0 a_0_1 c_0_1 h209) rfl rfl rfl rfl) rfl rfl rfl rfl rfl) rfl ?_
  refine DF.add _ (FSp.dep 0 rfl rfl fun ⟨⟩ => FSp.ac 12 [] (Ac.frz (Ac.bs (ty := (Ty.int .i64)) (xs := [r208, b.k, b.w, b.h, b.x, b.y]) (.cons () [] rfl (.cons () [] rfl (.cons () [] rfl (.cons () [] rfl (.cons () [] rfl (.cons () [] rfl .nil)))))) rfl rfl rfl rfl rfl rfl rfl)) rfl rfl rfl rfl rfl) rfl ?_
  refine DF.add _ (FSp.ac 16 [] (Ac.frz (Ac.bs (ty := Ty.str) (xs := [b.title]) (.cons () [] rfl .nil) rfl rfl rfl rfl rfl rfl rfl)) rfl rfl rfl rfl rfl) rfl ?_
  refine DF.add _ (FSp.ac 22 [] (Ac.frz (Ac.bs (ty := (Ty.int .i64)) (xs := [b.len, b.chain]) (.cons () [] rfl (.cons () [] rfl .nil)) rfl rfl rfl rfl rfl rfl rfl)) rfl rfl rfl rfl rfl) rfl ?_
  refine DF.step 13 rfl rfl rfl rfl rfl ?_
  refine DFp.use 2 rfl rfl rfl ?_
  intro g211
  refine DFp.use 2 rfl rfl rfl ?_
  rintro ⟨⟩
  refine DFp.nil0 (Ty.int .u8) 5 ?_
  obtain ⟨r221, h222, H223⟩ := bnd H210
  refine DFp.a [1, 0] [0] (Ac.call (c_num_Out_Num g30 none 0 (some ⟨g211, 0, none⟩) 6 h222) rfl rfl rfl rfl) rfl rfl rfl rfl rfl rfl rfl rfl ?_
  rintro ⟨a224, c225⟩
  refine DF.step 17 rfl rfl rfl rfl rfl ?_
  refine DFp.use 1 rfl rfl rfl ?_
  intro g214
  obtain ⟨r227, h228, H229⟩ := bnd H223
  refine DFp.a [0, 0] [0] (Ac.call (c_num_Out_Text g30 a224 c225 (some ⟨g214, 0, none⟩) 1 h228) rfl rfl rfl rfl) rfl rfl rfl rfl rfl rfl rfl rfl ?_
  rintro ⟨a230, c231⟩
  refine DF.step 23 rfl rfl rfl rfl rfl ?_
  refine DFp.use 0 rfl rfl rfl ?_
  intro g217
  obtain ⟨r233, h234, H235⟩ := bnd H229
  refine DFp.a [0, 0] [0] (Ac.call (c_num_Out_Num g30 a230 c231 (some ⟨g217, 0, none⟩) 2 h234) rfl rfl rfl rfl) rfl rfl rfl rfl rfl rfl rfl rfl ?_
  rintro ⟨a236, c237⟩
  obtain ⟨r239, h240, H241⟩ := bnd H235
  refine DF.add _ (FSp.ac 26 [6] (Ac.call (c_book_Pack a_1_1 c_1_1 h240) rfl rfl rfl rfl) rfl rfl rfl rfl rfl) rfl ?_
  refine DF.add _ (FSp.dep 0 rfl rfl fun ⟨⟩ => FSp.ac 27 [] (Ac.frz (Ac.bs (ty := Ty.str) (xs := [r239]) (.cons () [] rfl .nil) rfl rfl rfl rfl rfl rfl rfl)) rfl rfl rfl rfl rfl) rfl ?_
  refine DF.step 28 rfl rfl rfl rfl rfl ?_
  refine DFp.use 0 rfl rfl rfl ?_
  intro g242
  refine DFp.use 0 rfl rfl rfl ?_
  rintro ⟨⟩
  obtain ⟨r245, h246, H247⟩ := bnd H241
  refine DFp.a [0, 0] [0] (Ac.call (c_num_Out_Raw g30 a236 c237 (some ⟨g242, 0, none⟩) 1 h246) rfl rfl rfl rfl) rfl rfl rfl rfl rfl rfl rfl rfl ?_
  rintro ⟨a248, c249⟩
  obtain ⟨r251, h252, H253⟩ := bnd H247
  refine DF.add _ (FSp.ac 31 [4, 5, 6, 7] (Ac.frz (Ac.call (c_delta_Changes a_0_0 c_0_0 a_0_1 c_0_1 a_1_0 c_1_0 a_1_1 c_1_1 h252) rfl rfl rfl rfl)) rfl rfl rfl rfl rfl) rfl ?_
  refine DF.add _ (FSp.dep 0 rfl rfl fun ⟨a254, c255⟩ => FSp.q 32 rfl rfl rfl rfl rfl) rfl ?_
  refine DF.add _ (FSp.dep 0 rfl rfl fun _ => FSp.ac 33 [] (Ac.frz (Ac.bs (ty := (Ty.int .i64)) (xs := [(r251.length : Int)]) (.cons () [] rfl .nil) rfl rfl rfl rfl rfl rfl rfl)) rfl rfl rfl rfl rfl) rfl ?_
  refine DF.step 34 rfl rfl rfl rfl rfl ?_
  refine DFp.use 0 rfl rfl rfl ?_
  intro g258
  refine DFp.use 1 rfl rfl rfl ?_
  rintro ⟨a254, c255⟩
  obtain ⟨r261, h262, H263⟩ := bnd H253
  refine DFp.a [0, 0] [1] (Ac.call (c_num_Out_Num g30 a248 c249 (some ⟨g258, 0, none⟩) 1 h262) rfl rfl rfl rfl) rfl rfl rfl rfl rfl rfl rfl rfl ?_
  rintro ⟨a264, c265⟩
  refine DF.fin rfl rfl rfl rfl rfl ?_
  refine DFe.use ?_
  intro _
  refine DFe.nil ?_
  refine E.then (T.seq (T.seq (T.region ?_)))
  refine L.y (Yl.ldb 1 rfl rfl rfl rfl) rfl rfl rfl ?_
  refine L.y (Yl.ldb 0 rfl rfl rfl rfl) rfl rfl rfl ?_
  obtain ⟨r267, h268, H269⟩ := bnd H263
  refine L.a [] [6, 7, 8, 9] (Ac.call (c_delta_changes a_0_0 c_0_0 a_0_1 c_0_1 a_1_0 c_1_0 a_1_1 c_1_1 h268) rfl rfl rfl rfl) rfl rfl rfl rfl rfl ?_
  rintro ⟨g270, g271⟩
  refine L.nil (E.then (T.block ?_))
  obtain ⟨r423, h424, H425⟩ := bnd H269
  refine T.rf2 (σ := NumOut) (η := (Option Addr × Nat)) (X := Int × RowRow) (θ := (Option Addr × Nat)) (τ := (Option Addr × Nat)) (s1 := r423) (hx := fun x => x) (fun x t => [.int .i64 x.1, .agg #[.slice t.1 x.2.cells.length t.2, .bool x.2.wrapped]]) (fun x t => [Im.sl tyRowCell t.1 t.2 x.2.cells]) (fun _ => none) (fun s376 h => (fun a325 c326 => [Ch.arr (Ty.int .u8) 5 a325 c326 s376.b, Ch.box g2 43 (bx43 b a_1_0 c_1_0 a_1_1 c_1_1), Ch.box g1 43 (bx43 a a_0_0 c_0_0 a_0_1 c_0_1), Ch.box g30 140 [.slice a325 s376.b.length c326]]) h.1 h.2) (fun s376 h => (fun a325 c326 => [Im.sl tyRowRow a_1_0 c_1_0 r267.1.rows, Im.sl tyRowGlyph a_1_1 c_1_1 r267.1.begun, Im.sl tyRowRow a_0_0 c_0_0 r267.2.rows, Im.sl tyRowGlyph a_0_1 c_0_1 r267.2.begun, Im.sl (Ty.int .i64) a254 c255 r251, Im.sl (Ty.int .i64) (some ⟨g258, 0, none⟩) 1 [(r251.length : Int)], Im.sl Ty.str (some ⟨g242, 0, none⟩) 1 [r239], Im.sl (Ty.int .i64) (some ⟨g217, 0, none⟩) 2 [b.len, b.chain], Im.sl Ty.str (some ⟨g214, 0, none⟩) 1 [b.title], Im.sl (Ty.int .i64) (some ⟨g211, 0, none⟩) 6 [r208, b.k, b.w, b.h, b.x, b.y], Im.sl tyRowRow a_0_0 c_0_0 a.rows, Im.sl tyRowGlyph a_0_1 c_0_1 a.begun, Im.sl tyRowRow a_1_0 c_1_0 b.rows, Im.sl tyRowGlyph a_1_1 c_1_1 b.begun, Im.sl (Ty.int .u32) (some ⟨0, 0, none⟩) 16 t_sum_half]) h.1 h.2) 4 [5, 2, 2, 2, 0, 0] [0, 1, 2, 3, 4, 5, 6, 7, 8, 9, 10, 11, 12, 13, 14] [0, 1, 2, 3] rfl rfl (fun _ _ => rfl) rfl (fun yl C hY => (c_delta_changes_1 hY (a264, c265) g270 a_1_0 c_1_0 a_1_1 c_1_1 g271 a_0_0 c_0_0 a_0_1 c_0_1 h424 : _)) (fun _ _ _ _ => rfl) rfl rfl rfl rfl rfl ?_ rfl ?_
  · rintro yl K2 s376 ⟨a325, c326⟩ x278 ⟨a276, c277⟩ z377 H378
    refine T.seq (T.region ?_)
    refine L.q 1 rfl ?_
    refine L.nil (E.then (T.region ?_))
    refine L.a [] [] (Ac.alloc rfl rfl) rfl rfl rfl rfl rfl ?_
    intro g380
    refine L.a [0] [] (Ac.stb rfl rfl rfl rfl rfl rfl) rfl rfl rfl rfl rfl ?_
    intro _
    refine L.nil ?_
    refine E.begin fun K3 => ?_
    refine T.block ?_
    refine T.draw [] [0, 1, 1] mo (by rfl) rfl ?_
    refine D.q 0 rfl rfl rfl rfl rfl rfl ?_
    refine D.y 3 (Yl.ldb 0 rfl rfl rfl rfl) rfl rfl rfl rfl rfl rfl ?_
    refine D.one rfl rfl rfl (Dp.a [] [] (Ac.bs (ty := (Ty.int .i64)) (xs := [x278.1]) (.cons () [] rfl .nil) rfl rfl rfl rfl rfl rfl rfl) rfl rfl rfl rfl rfl rfl ?_)
    intro g402
    refine D.frz 0 rfl ?_
    obtain ⟨r405, h406, H407⟩ := bnd H378
    refine D.one rfl rfl rfl (Dp.a [1, 0] [0] (Ac.call (c_num_Out_Num g30 a325 c326 (some ⟨g402, 0, none⟩) 1 h406) rfl rfl rfl rfl) rfl rfl rfl rfl rfl rfl ?_)
    rintro ⟨a408, c409⟩
    obtain ⟨r411, h412, H413⟩ := bnd H407
    refine D.one rfl rfl rfl (Dp.a [] [1] (Ac.call (c_snap_PackRow a276 c277 h412) rfl rfl rfl rfl) rfl rfl rfl rfl rfl rfl ?_)
    rintro ⟨⟩
    refine D.one rfl rfl rfl (Dp.a [] [] (Ac.bs (ty := Ty.str) (xs := [r411]) (.cons () [] rfl .nil) rfl rfl rfl rfl rfl rfl rfl) rfl rfl rfl rfl rfl rfl ?_)
    intro g414
    refine D.frz 0 rfl ?_
    obtain ⟨r417, h418, H419⟩ := bnd H413
    refine D.one rfl rfl rfl (Dp.a [0, 0] [0] (Ac.call (c_num_Out_Raw g30 a408 c409 (some ⟨g414, 0, none⟩) 1 h418) rfl rfl rfl rfl) rfl rfl rfl rfl rfl rfl ?_)
    rintro ⟨a420, c421⟩
    refine D.nil rfl rfl ?_
    refine E.block ?_
    have hr := Option.some.inj H419
    subst z377
    exact E.on (a420, c421) [4, 1, 1, 1] [3, 4, 5, 6, 7, 8, 9, 10, 11, 12, 13, 14, 15, 16, 17] rfl rfl rfl rfl
  rintro h426 D428
  refine E.block (E.then (T.seq (T.region ?_)))
  obtain ⟨r433, h434, H435⟩ := bnd H425
  refine L.a [4, 1] [] (Ac.call (c_num_Out_Bytes g30 h426.1 h426.2 h434) rfl rfl rfl rfl) rfl rfl rfl rfl rfl ?_
  rintro ⟨⟩
  refine L.q 1 rfl ?_
  refine L.nil (E.then (T.ret ?_))
  have hr := Option.some.inj H435
  subst r
  exact E.retd () 2 [] [] rfl (.tmp rfl .nil) rfl rfl rfl

theorem c_parts_Split {s_ : ByteArray} {size : Int} {r : (List ByteArray)} (H : p_parts_Split s_ size = some r) : CT G 60 [.string s_, .int .i64 size] [] [] (fun h : (Option Addr × Nat) => .slice h.1 r.length h.2) (fun h => [Ch.arr Ty.str 9 h.1 h.2 r]) (fun h => []) := by
  delta p_parts_Split at H
  refine CT.of Go.Proofs.Tryz.func60 (by kernel_rfl) rfl rfl rfl fun K => ?_
  refine T.seq (T.region ?_)
  refine L.q 1 rfl ?_
  refine L.nil (E.then (T.seq (T.region ?_)))
  refine L.q 4 rfl ?_
  refine L.nil (E.then (T.seq (T.region ?_)))
  refine L.q 1 rfl ?_
  refine L.nil (E.then (T.seq ?_))
  obtain ⟨e65, H66, H67⟩ := bnd H
  refine T.join (η := Unit × ((Option Addr × Nat))) (fun h => True) (fun h => (fun a62 c63 => [(0, .string e65.1), (5, .slice a62 e65.2.length c63)]) h.2.1 h.2.2) (fun h => (fun a62 c63 => [Ch.arr Ty.str 9 a62 c63 e65.2]) h.2.1 h.2.2) (fun h => (fun a62 c63 => []) h.2.1 h.2.2) ?_ ?_
  · refine T.block ?_
    refine T.nil0 Ty.str 9 ?_
    refine T.lp (η := (Option Addr × Nat)) (fun s45 h => (fun a42 c43 => [(0, .string s45.1), (1, .int .i64 (imax 1 (imin size 8000))), (5, .slice a42 s45.2.length c43)]) h.1 h.2) (fun s45 h => (fun a42 c43 => [Ch.arr Ty.str 9 a42 c43 s45.2]) h.1 h.2) (fun s45 h => (fun a42 c43 => []) h.1 h.2) (none, 0) [0] [] H66 ⟨rfl, rfl, rfl, trivial⟩ rfl rfl ?_
    rintro k_ s45 ⟨a42, c43⟩ z69 H68 hag70 hbr71
    refine T.seq (T.seq (T.region ?_))
    refine L.q 4 rfl ?_
    refine L.nil (E.then ?_)
    refine T.bif rfl H68 (fun hc H73 => ?_) (fun hc H73 => ?_)
    · refine T.skip (E.then (T.block (T.seq (T.region ?_))))
      refine L.q 3 rfl ?_
      obtain ⟨_, h74, H75⟩ := bnd H73
      refine L.y (Yl.sc h74 rfl rfl rfl rfl rfl rfl) rfl rfl rfl ?_
      refine L.a [] [] (Ac.bs (ty := Ty.str) (xs := [(scut s45.1 0 (imax 1 (imin size 8000)))]) (.cons () [] rfl .nil) rfl rfl rfl rfl rfl rfl rfl) rfl rfl rfl rfl rfl ?_
      intro g76
      refine L.frz 0 rfl ?_
      obtain ⟨_, h79, H80⟩ := bnd H75
      refine L.a [0] [0] (Ac.ap (ty := Ty.str) h79 rfl rfl rfl rfl rfl rfl rfl) rfl rfl rfl rfl rfl ?_
      rintro ⟨a81, c82⟩
      refine L.q 1 rfl ?_
      refine L.nil (E.then (T.region ?_))
      refine L.q 2 rfl ?_
      obtain ⟨_, h84, H85⟩ := bnd H80
      refine L.y (Yl.sc h84 rfl rfl rfl rfl rfl rfl) rfl rfl rfl ?_
      refine L.q 1 rfl ?_
      refine L.nil (E.block ?_)
      have hr := Option.some.inj H85
      subst z69
      exact E.give (_, (a81, c82)) [0] [] (hag70 _ rfl) ⟨rfl, rfl, rfl, trivial⟩ rfl rfl
    refine T.exit (E.then_exit' (E.then_exit' (E.block_here ?_)))
    have hr := Option.some.inj H73
    subst z69
    have hb := hbr71 _ rfl
    subst e65
    exact E.give ((), (a42, c43)) [0] [] trivial ⟨rfl, rfl, trivial⟩ rfl rfl
  rintro ⟨_, ⟨a62, c63⟩⟩ _
  refine T.seq (T.region ?_)
  refine L.q 2 rfl ?_
  refine L.a [] [] (Ac.bs (ty := Ty.str) (xs := [e65.1]) (.cons () [] rfl .nil) rfl rfl rfl rfl rfl rfl rfl) rfl rfl rfl rfl rfl ?_
  intro g86
  refine L.frz 0 rfl ?_
  obtain ⟨_, h89, H90⟩ := bnd H67
  refine L.a [0] [0] (Ac.ap (ty := Ty.str) h89 rfl rfl rfl rfl rfl rfl rfl) rfl rfl rfl rfl rfl ?_
  rintro ⟨a91, c92⟩
  refine L.q 1 rfl ?_
  refine L.nil (E.then (T.ret ?_))
  have hr := Option.some.inj H90
  subst r
  exact E.ret (a91, c92) [0] [] (.tmp rfl .nil) rfl rfl rfl

theorem c_sender_Sender_begin_1_v2 {x_ : SnapSnap} {x1 : SenderSender} (a_0_0 : Option Addr) (c_0_0 : Nat) (a_0_1 : Option Addr) (c_0_1 : Nat) (g_1 : Nat) (g_1_0 : Nat) (a_1_1 : Option Addr) (c_1_1 : Nat) (a_1_2 : Option Addr) (c_1_2 : Nat) (a_1_3 : Option Addr) (c_1_3 : Nat) (a_1_4 : Option Addr) (c_1_4 : Nat) (a_1_5 : Option Addr) (c_1_5 : Nat) (a_1_6 : Option Addr) (c_1_6 : Nat) (a_1_7 : Option Addr) (c_1_7 : Nat) {r : Bool} (H : p_sender_Sender_begin_1_v2 x_ x1 = some r) : CT G 63 [.agg (bx43 x_ a_0_0 c_0_0 a_0_1 c_0_1).toArray, .pointer (some ⟨g_1, 0, none⟩)] [] [Im.sl tyRowRow a_0_0 c_0_0 x_.rows, Im.sl tyRowGlyph a_0_1 c_0_1 x_.begun, Im.cells g_1 0 [.pointer (some ⟨g_1_0, 0, none⟩)], Im.cells g_1_0 0 [.int .i64 x1.config.part, .int .i64 x1.config.every, .int .i64 x1.config.most, .int .i64 x1.current.k, .int .i64 x1.current.w, .int .i64 x1.current.h, .int .i64 x1.current.x, .int .i64 x1.current.y, .string x1.current.title, .slice a_1_1 x1.current.rows.length c_1_1, .int .i64 x1.current.len, .int .i64 x1.current.chain, .slice a_1_2 x1.current.begun.length c_1_2, .int .i64 x1.acked.k, .int .i64 x1.acked.w, .int .i64 x1.acked.h, .int .i64 x1.acked.x, .int .i64 x1.acked.y, .string x1.acked.title, .slice a_1_3 x1.acked.rows.length c_1_3, .int .i64 x1.acked.len, .int .i64 x1.acked.chain, .slice a_1_4 x1.acked.begun.length c_1_4, .slice a_1_5 x1.kept.length c_1_5, .int .i64 x1.message.id, .int .i64 x1.message.key, .int .i64 x1.message.base, .slice a_1_6 x1.message.parts.length c_1_6, .slice a_1_7 x1.message.there.length c_1_7, .int .i64 x1.message.due, .int .i64 x1.next], Im.sl tyRowRow a_1_1 c_1_1 x1.current.rows, Im.sl tyRowGlyph a_1_2 c_1_2 x1.current.begun, Im.sl tyRowRow a_1_3 c_1_3 x1.acked.rows, Im.sl tyRowGlyph a_1_4 c_1_4 x1.acked.begun, Im.sl tySnapSnap a_1_5 c_1_5 x1.kept, Im.sl Ty.str a_1_6 c_1_6 x1.message.parts, Im.sl Ty.bool a_1_7 c_1_7 x1.message.there] (fun h : Unit => .bool r) (fun h => []) (fun h => []) := by
  delta p_sender_Sender_begin_1_v2 at H
  refine CT.of Go.Proofs.Tryz.func63 (by kernel_rfl) rfl rfl rfl fun K => ?_
  refine T.seq (T.region ?_)
  refine L.a [] [] (Ac.box rfl rfl) rfl rfl rfl rfl rfl ?_
  intro g1
  refine L.q 1 rfl ?_
  refine L.nil (E.then (T.seq ?_))
  refine T.draw [] [0] mo (by rfl) rfl ?_
  refine D.q 0 rfl rfl rfl rfl rfl rfl ?_
  refine D.y 1 (Yl.ldb 0 rfl rfl rfl rfl) rfl rfl rfl rfl rfl rfl ?_
  refine D.y 2 (Yl.ldc 2 0 rfl rfl rfl rfl) rfl rfl rfl rfl rfl rfl ?_
  refine D.q 3 rfl rfl rfl rfl rfl rfl ?_
  refine D.q 4 rfl rfl rfl rfl rfl rfl ?_
  refine D.q 5 rfl rfl rfl rfl rfl rfl ?_
  refine D.y 6 (Yl.ldc 3 3 rfl rfl rfl rfl) rfl rfl rfl rfl rfl rfl ?_
  refine D.q 7 rfl rfl rfl rfl rfl rfl ?_
  refine D.q 8 rfl rfl rfl rfl rfl rfl ?_
  refine D.nil rfl rfl ?_
  refine E.then (T.ret ?_)
  have hr := Option.some.inj H
  subst r
  exact E.ret () [] [] (.tmp rfl .nil) rfl rfl rfl

theorem c_slices_IndexFunc_snap_Snap_Sender_begin_1_v2 {s_ : List SnapSnap} {f_0 : SenderSender} (a_0 : Option Addr) (c_0 : Nat) (g_1_0 : Nat) (g_1_0_0 : Nat) (a_1_0_1 : Option Addr) (c_1_0_1 : Nat) (a_1_0_2 : Option Addr) (c_1_0_2 : Nat) (a_1_0_3 : Option Addr) (c_1_0_3 : Nat) (a_1_0_4 : Option Addr) (c_1_0_4 : Nat) (a_1_0_5 : Option Addr) (c_1_0_5 : Nat) (a_1_0_6 : Option Addr) (c_1_0_6 : Nat) (a_1_0_7 : Option Addr) (c_1_0_7 : Nat) {r : Int} (H : p_slices_IndexFunc_snap_Snap_Sender_begin_1_v2 s_ f_0 = some r) : CT G 46 [.slice a_0 s_.length c_0, .func (.func 63) #[] #[.pointer (some ⟨g_1_0, 0, none⟩)]] [] [Im.sl tySnapSnap a_0 c_0 s_, Im.cells g_1_0 0 [.pointer (some ⟨g_1_0_0, 0, none⟩)], Im.cells g_1_0_0 0 [.int .i64 f_0.config.part, .int .i64 f_0.config.every, .int .i64 f_0.config.most, .int .i64 f_0.current.k, .int .i64 f_0.current.w, .int .i64 f_0.current.h, .int .i64 f_0.current.x, .int .i64 f_0.current.y, .string f_0.current.title, .slice a_1_0_1 f_0.current.rows.length c_1_0_1, .int .i64 f_0.current.len, .int .i64 f_0.current.chain, .slice a_1_0_2 f_0.current.begun.length c_1_0_2, .int .i64 f_0.acked.k, .int .i64 f_0.acked.w, .int .i64 f_0.acked.h, .int .i64 f_0.acked.x, .int .i64 f_0.acked.y, .string f_0.acked.title, .slice a_1_0_3 f_0.acked.rows.length c_1_0_3, .int .i64 f_0.acked.len, .int .i64 f_0.acked.chain, .slice a_1_0_4 f_0.acked.begun.length c_1_0_4, .slice a_1_0_5 f_0.kept.length c_1_0_5, .int .i64 f_0.message.id, .int .i64 f_0.message.key, .int .i64 f_0.message.base, .slice a_1_0_6 f_0.message.parts.length c_1_0_6, .slice a_1_0_7 f_0.message.there.length c_1_0_7, .int .i64 f_0.message.due, .int .i64 f_0.next], Im.sl tyRowRow a_1_0_1 c_1_0_1 f_0.current.rows, Im.sl tyRowGlyph a_1_0_2 c_1_0_2 f_0.current.begun, Im.sl tyRowRow a_1_0_3 c_1_0_3 f_0.acked.rows, Im.sl tyRowGlyph a_1_0_4 c_1_0_4 f_0.acked.begun, Im.sl tySnapSnap a_1_0_5 c_1_0_5 f_0.kept, Im.sl Ty.str a_1_0_6 c_1_0_6 f_0.message.parts, Im.sl Ty.bool a_1_0_7 c_1_0_7 f_0.message.there] (fun h : Unit => .int .i64 r) (fun h => []) (fun h => []) := by
  delta p_slices_IndexFunc_snap_Snap_Sender_begin_1_v2 at H
  refine CT.of Go.Proofs.Tryz.func46 (by kernel_rfl) rfl rfl rfl fun K => ?_
  refine T.seq (T.region ?_)
  refine L.q 1 rfl ?_
  refine L.nil (E.then (T.seq (T.seq (T.region ?_))))
  refine L.q 3 rfl ?_
  refine L.nil (E.then ?_)
  obtain ⟨y114, H115, H116⟩ := bnd H
  refine T.join (η := Unit × Unit) (fun h => y114 = .inl h.1) (fun h => (fun e113 => []) h.1) (fun h => (fun e113 => []) h.1) (fun h => (fun e113 => [Im.sl tySnapSnap a_0 c_0 s_, Im.cells g_1_0 0 [.pointer (some ⟨g_1_0_0, 0, none⟩)], Im.cells g_1_0_0 0 [.int .i64 f_0.config.part, .int .i64 f_0.config.every, .int .i64 f_0.config.most, .int .i64 f_0.current.k, .int .i64 f_0.current.w, .int .i64 f_0.current.h, .int .i64 f_0.current.x, .int .i64 f_0.current.y, .string f_0.current.title, .slice a_1_0_1 f_0.current.rows.length c_1_0_1, .int .i64 f_0.current.len, .int .i64 f_0.current.chain, .slice a_1_0_2 f_0.current.begun.length c_1_0_2, .int .i64 f_0.acked.k, .int .i64 f_0.acked.w, .int .i64 f_0.acked.h, .int .i64 f_0.acked.x, .int .i64 f_0.acked.y, .string f_0.acked.title, .slice a_1_0_3 f_0.acked.rows.length c_1_0_3, .int .i64 f_0.acked.len, .int .i64 f_0.acked.chain, .slice a_1_0_4 f_0.acked.begun.length c_1_0_4, .slice a_1_0_5 f_0.kept.length c_1_0_5, .int .i64 f_0.message.id, .int .i64 f_0.message.key, .int .i64 f_0.message.base, .slice a_1_0_6 f_0.message.parts.length c_1_0_6, .slice a_1_0_7 f_0.message.there.length c_1_0_7, .int .i64 f_0.message.due, .int .i64 f_0.next], Im.sl tyRowRow a_1_0_1 c_1_0_1 f_0.current.rows, Im.sl tyRowGlyph a_1_0_2 c_1_0_2 f_0.current.begun, Im.sl tyRowRow a_1_0_3 c_1_0_3 f_0.acked.rows, Im.sl tyRowGlyph a_1_0_4 c_1_0_4 f_0.acked.begun, Im.sl tySnapSnap a_1_0_5 c_1_0_5 f_0.kept, Im.sl Ty.str a_1_0_6 c_1_0_6 f_0.message.parts, Im.sl Ty.bool a_1_0_7 c_1_0_7 f_0.message.there]) h.1) ?_ ?_
  · refine T.block ?_
    refine T.lp (η := Unit) (fun s76 h => [(0, .slice a_0 s_.length c_0), (1, .func (.func 63) #[] #[.pointer (some ⟨g_1_0, 0, none⟩)]), (7, .int .i64 (s_.length : Int)), (8, .int .i64 s76)]) (fun s76 h => []) (fun s76 h => [Im.sl tySnapSnap a_0 c_0 s_, Im.cells g_1_0 0 [.pointer (some ⟨g_1_0_0, 0, none⟩)], Im.cells g_1_0_0 0 [.int .i64 f_0.config.part, .int .i64 f_0.config.every, .int .i64 f_0.config.most, .int .i64 f_0.current.k, .int .i64 f_0.current.w, .int .i64 f_0.current.h, .int .i64 f_0.current.x, .int .i64 f_0.current.y, .string f_0.current.title, .slice a_1_0_1 f_0.current.rows.length c_1_0_1, .int .i64 f_0.current.len, .int .i64 f_0.current.chain, .slice a_1_0_2 f_0.current.begun.length c_1_0_2, .int .i64 f_0.acked.k, .int .i64 f_0.acked.w, .int .i64 f_0.acked.h, .int .i64 f_0.acked.x, .int .i64 f_0.acked.y, .string f_0.acked.title, .slice a_1_0_3 f_0.acked.rows.length c_1_0_3, .int .i64 f_0.acked.len, .int .i64 f_0.acked.chain, .slice a_1_0_4 f_0.acked.begun.length c_1_0_4, .slice a_1_0_5 f_0.kept.length c_1_0_5, .int .i64 f_0.message.id, .int .i64 f_0.message.key, .int .i64 f_0.message.base, .slice a_1_0_6 f_0.message.parts.length c_1_0_6, .slice a_1_0_7 f_0.message.there.length c_1_0_7, .int .i64 f_0.message.due, .int .i64 f_0.next], Im.sl tyRowRow a_1_0_1 c_1_0_1 f_0.current.rows, Im.sl tyRowGlyph a_1_0_2 c_1_0_2 f_0.current.begun, Im.sl tyRowRow a_1_0_3 c_1_0_3 f_0.acked.rows, Im.sl tyRowGlyph a_1_0_4 c_1_0_4 f_0.acked.begun, Im.sl tySnapSnap a_1_0_5 c_1_0_5 f_0.kept, Im.sl Ty.str a_1_0_6 c_1_0_6 f_0.message.parts, Im.sl Ty.bool a_1_0_7 c_1_0_7 f_0.message.there]) () [] [0, 1, 2, 3, 4, 5, 6, 7, 8, 9] H115 ⟨rfl, rfl, rfl, rfl, trivial⟩ rfl rfl ?_
    rintro k_ s76 ⟨⟩ z118 H117 hag119 hbr120
    refine T.seq (T.region ?_)
    refine L.q 1 rfl ?_
    refine L.nil (E.then (T.seq ?_))
    refine T.bif rfl H117 (fun hc H122 => ?_) (fun hc H122 => ?_)
    · refine T.skip (E.then (T.seq (T.block (T.seq (T.region ?_)))))
      refine L.q 2 rfl ?_
      refine L.nil (E.then (T.seq (T.region ?_)))
      refine L.q 3 rfl ?_
      obtain ⟨x140, h141, H142⟩ := bnd H122
      refine L.addr 0 rfl (idx_lt h141) fun b143 o144 e145 => ?_
      obtain rfl : a_0 = some ⟨b143, o144, none⟩ := e145
      refine L.y (Yl.ia h141 rfl rfl rfl rfl rfl rfl) rfl rfl rfl ?_
      refine L.el 0 rfl (idx_some h141).2 ?_
      rintro ⟨⟨a146, c147⟩, ⟨a148, c149⟩⟩
      refine L.y (Yl.ldc 0 0 rfl rfl rfl rfl) rfl rfl rfl ?_
      obtain ⟨r153, h154, H155⟩ := bnd H142
      refine L.a [] [1, 2, 4, 5, 6, 7, 8, 9, 10, 11, 12] (Ac.call (c_sender_Sender_begin_1_v2 a146 c147 a148 c149 g_1_0 g_1_0_0 a_1_0_1 c_1_0_1 a_1_0_2 c_1_0_2 a_1_0_3 c_1_0_3 a_1_0_4 c_1_0_4 a_1_0_5 c_1_0_5 a_1_0_6 c_1_0_6 a_1_0_7 c_1_0_7 h154) rfl rfl rfl rfl) rfl rfl rfl rfl rfl ?_
      rintro ⟨⟩
      refine L.nil (E.then ?_)
      refine T.bif rfl H155 (fun hc H156 => ?_) (fun hc H156 => ?_)
      · refine T.seq (T.region ?_)
        refine L.q 2 rfl ?_
        refine L.nil (E.then (T.ret (E.block_ret (E.then_ret (E.then_ret (E.block_ret ?_))))))
        obtain ⟨w157, hz, H158⟩ := inrr_some H156
        subst z118
        have hb := hbr120 _ rfl
        subst y114
        have hw : w157 = r := Option.some.inj H116
        subst w157
        refine E.then_ret ?_
        have hr := Option.some.inj H158
        subst r
        exact E.ret () [] [] (.tmp rfl .nil) rfl rfl rfl
      refine T.skip (E.block (E.then (T.region ?_)))
      refine L.q 2 rfl ?_
      refine L.nil ?_
      have hr := Option.some.inj H156
      subst z118
      exact E.give (_, ()) [] [3, 4, 5, 6, 7, 8, 9, 10, 11, 12] (hag119 _ rfl) ⟨rfl, rfl, rfl, rfl, trivial⟩ rfl rfl
    refine T.exit (E.then_exit' (E.then_exit' (E.block_here ?_)))
    have hr := Option.some.inj H122
    subst z118
    have hb := hbr120 _ rfl
    subst y114
    exact E.give (_, ()) [] [0, 1, 2, 3, 4, 5, 6, 7, 8, 9] rfl trivial rfl rfl
  rintro ⟨e113, ⟨⟩⟩ hy
  subst hy
  refine T.seq (T.region ?_)
  refine L.q 1 rfl ?_
  refine L.nil (E.then (T.ret ?_))
  have hr := Option.some.inj H116
  subst r
  exact E.ret () [] [] (.tmp rfl .nil) rfl rfl rfl

theorem c_slices_ContainsFunc_snap_Snap_Sender_begin_1_v2 {s_ : List SnapSnap} {f_0 : SenderSender} (a_0 : Option Addr) (c_0 : Nat) (g_1_0 : Nat) (g_1_0_0 : Nat) (a_1_0_1 : Option Addr) (c_1_0_1 : Nat) (a_1_0_2 : Option Addr) (c_1_0_2 : Nat) (a_1_0_3 : Option Addr) (c_1_0_3 : Nat) (a_1_0_4 : Option Addr) (c_1_0_4 : Nat) (a_1_0_5 : Option Addr) (c_1_0_5 : Nat) (a_1_0_6 : Option Addr) (c_1_0_6 : Nat) (a_1_0_7 : Option Addr) (c_1_0_7 : Nat) {r : Bool} (H : p_slices_ContainsFunc_snap_Snap_Sender_begin_1_v2 s_ f_0 = some r) : CT G 62 [.slice a_0 s_.length c_0, .func (.func 63) #[] #[.pointer (some ⟨g_1_0, 0, none⟩)]] [] [Im.sl tySnapSnap a_0 c_0 s_, Im.cells g_1_0 0 [.pointer (some ⟨g_1_0_0, 0, none⟩)], Im.cells g_1_0_0 0 [.int .i64 f_0.config.part, .int .i64 f_0.config.every, .int .i64 f_0.config.most, .int .i64 f_0.current.k, .int .i64 f_0.current.w, .int .i64 f_0.current.h, .int .i64 f_0.current.x, .int .i64 f_0.current.y, .string f_0.current.title, .slice a_1_0_1 f_0.current.rows.length c_1_0_1, .int .i64 f_0.current.len, .int .i64 f_0.current.chain, .slice a_1_0_2 f_0.current.begun.length c_1_0_2, .int .i64 f_0.acked.k, .int .i64 f_0.acked.w, .int .i64 f_0.acked.h, .int .i64 f_0.acked.x, .int .i64 f_0.acked.y, .string f_0.acked.title, .slice a_1_0_3 f_0.acked.rows.length c_1_0_3, .int .i64 f_0.acked.len, .int .i64 f_0.acked.chain, .slice a_1_0_4 f_0.acked.begun.length c_1_0_4, .slice a_1_0_5 f_0.kept.length c_1_0_5, .int .i64 f_0.message.id, .int .i64 f_0.message.key, .int .i64 f_0.message.base, .slice a_1_0_6 f_0.message.parts.length c_1_0_6, .slice a_1_0_7 f_0.message.there.length c_1_0_7, .int .i64 f_0.message.due, .int .i64 f_0.next], Im.sl tyRowRow a_1_0_1 c_1_0_1 f_0.current.rows, Im.sl tyRowGlyph a_1_0_2 c_1_0_2 f_0.current.begun, Im.sl tyRowRow a_1_0_3 c_1_0_3 f_0.acked.rows, Im.sl tyRowGlyph a_1_0_4 c_1_0_4 f_0.acked.begun, Im.sl tySnapSnap a_1_0_5 c_1_0_5 f_0.kept, Im.sl Ty.str a_1_0_6 c_1_0_6 f_0.message.parts, Im.sl Ty.bool a_1_0_7 c_1_0_7 f_0.message.there] (fun h : Unit => .bool r) (fun h => []) (fun h => []) := by
  delta p_slices_ContainsFunc_snap_Snap_Sender_begin_1_v2 at H
  refine CT.of Go.Proofs.Tryz.func62 (by kernel_rfl) rfl rfl rfl fun K => ?_
  refine T.seq (T.region ?_)
  refine L.q 1 rfl ?_
  refine L.nil (E.then (T.seq (T.region ?_)))
  refine L.q 2 rfl ?_
  obtain ⟨r1, h2, H3⟩ := bnd H
  refine L.a [] [0, 1, 2, 3, 4, 5, 6, 7, 8, 9] (Ac.call (c_slices_IndexFunc_snap_Snap_Sender_begin_1_v2 a_0 c_0 g_1_0 g_1_0_0 a_1_0_1 c_1_0_1 a_1_0_2 c_1_0_2 a_1_0_3 c_1_0_3 a_1_0_4 c_1_0_4 a_1_0_5 c_1_0_5 a_1_0_6 c_1_0_6 a_1_0_7 c_1_0_7 h2) rfl rfl rfl rfl) rfl rfl rfl rfl rfl ?_
  rintro ⟨⟩
  refine L.q 2 rfl ?_
  refine L.nil (E.then (T.ret ?_))
  have hr := Option.some.inj H3
  subst r
  exact E.ret () [] [] (.tmp rfl .nil) rfl rfl rfl

theorem c_sender_Sender_begin {s_ : SenderSender} {now : Int} (g_0 : Nat) (a_0_0 : Option Addr) (c_0_0 : Nat) (a_0_1 : Option Addr) (c_0_1 : Nat) (a_0_2 : Option Addr) (c_0_2 : Nat) (a_0_3 : Option Addr) (c_0_3 : Nat) (a_0_4 : Option Addr) (c_0_4 : Nat) (a_0_5 : Option Addr) (c_0_5 : Nat) (a_0_6 : Option Addr) (c_0_6 : Nat) {r : SenderSender} (H : p_sender_Sender_begin s_ now = some r) : CT G 35 [.pointer (some ⟨g_0, 0, none⟩), .int .i64 now] [Ch.box g_0 67 (bx67 s_ a_0_0 c_0_0 a_0_1 c_0_1 a_0_2 c_0_2 a_0_3 c_0_3 a_0_4 c_0_4 a_0_5 c_0_5 a_0_6 c_0_6), Ch.aro tySnapSnap 43 a_0_4 c_0_4 s_.kept, Ch.arr Ty.bool 4 a_0_6 c_0_6 s_.message.there] [Im.sl tyRowRow a_0_0 c_0_0 s_.current.rows, Im.sl tyRowGlyph a_0_1 c_0_1 s_.current.begun, Im.sl tyRowRow a_0_2 c_0_2 s_.acked.rows, Im.sl tyRowGlyph a_0_3 c_0_3 s_.acked.begun, Im.sl Ty.str a_0_5 c_0_5 s_.message.parts, Im.sl (Ty.int .u32) (some ⟨0, 0, none⟩) 16 t_sum_half] (fun h : (Option Addr × Nat) × (Option Addr × Nat) × (Option Addr × Nat) => .tuple #[]) (fun h => [Ch.box g_0 67 (bx67 r a_0_0 c_0_0 a_0_1 c_0_1 a_0_2 c_0_2 a_0_3 c_0_3 h.1.1 h.1.2 h.2.1.1 h.2.1.2 h.2.2.1 h.2.2.2), Ch.aro tySnapSnap 43 h.1.1 h.1.2 r.kept, Ch.arr Ty.bool 4 h.2.2.1 h.2.2.2 r.message.there]) (fun h => [Im.sl tyRowRow a_0_0 c_0_0 r.current.rows, Im.sl tyRowGlyph a_0_1 c_0_1 r.current.begun, Im.sl tyRowRow a_0_2 c_0_2 r.acked.rows, Im.sl tyRowGlyph a_0_3 c_0_3 r.acked.begun, Im.sl Ty.str h.2.1.1 h.2.1.2 r.message.parts]) := by
  delta p_sender_Sender_begin at H
  refine CT.of Go.Proofs.Tryz.func35 (by kernel_rfl) rfl rfl rfl fun K => ?_
  refine T.seq (T.region ?_)
  refine L.a [] [] (Ac.box rfl rfl) rfl rfl rfl rfl rfl ?_
  intro g1
  refine L.nil (E.then (T.seq ?_))
  refine T.draw [34] [0, 0, 0, 0] mo (by rfl) rfl ?_
  refine D.y 0 (Yl.ldb 0 rfl rfl rfl rfl) rfl rfl rfl rfl rfl rfl ?_
  refine D.y 1 (Yl.ldb 0 rfl rfl rfl rfl) rfl rfl rfl rfl rfl rfl ?_
  refine D.q 2 rfl rfl rfl rfl rfl rfl ?_
  refine D.q 3 rfl rfl rfl rfl rfl rfl ?_
  refine D.y 4 (Yl.ldb 1 rfl rfl rfl rfl) rfl rfl rfl rfl rfl rfl ?_
  refine D.y 5 (Yl.ldb 0 rfl rfl rfl rfl) rfl rfl rfl rfl rfl rfl ?_
  refine D.q 6 rfl rfl rfl rfl rfl rfl ?_
  refine D.q 7 rfl rfl rfl rfl rfl rfl ?_
  refine D.q 8 rfl rfl rfl rfl rfl rfl ?_
  refine D.y 9 (Yl.ldb 1 rfl rfl rfl rfl) rfl rfl rfl rfl rfl rfl ?_
  refine D.y 10 (Yl.ldb 0 rfl rfl rfl rfl) rfl rfl rfl rfl rfl rfl ?_
  refine D.q 11 rfl rfl rfl rfl rfl rfl ?_
  refine D.q 12 rfl rfl rfl rfl rfl rfl ?_
  refine D.q 13 rfl rfl rfl rfl rfl rfl ?_
  refine D.y 14 (Yl.ldb 1 rfl rfl rfl rfl) rfl rfl rfl rfl rfl rfl ?_
  refine D.y 15 (Yl.ldb 0 rfl rfl rfl rfl) rfl rfl rfl rfl rfl rfl ?_
  refine D.q 16 rfl rfl rfl rfl rfl rfl ?_
  refine D.q 17 rfl rfl rfl rfl rfl rfl ?_
  refine D.y 18 (Yl.ldb 1 rfl rfl rfl rfl) rfl rfl rfl rfl rfl rfl ?_
  refine D.y 19 (Yl.ldb 0 rfl rfl rfl rfl) rfl rfl rfl rfl rfl rfl ?_
  refine D.q 20 rfl rfl rfl rfl rfl rfl ?_
  refine D.q 21 rfl rfl rfl rfl rfl rfl ?_
  refine D.y 22 (Yl.ldb 1 rfl rfl rfl rfl) rfl rfl rfl rfl rfl rfl ?_
  refine D.y 24 (Yl.ldb 0 rfl rfl rfl rfl) rfl rfl rfl rfl rfl rfl ?_
  refine D.q 25 rfl rfl rfl rfl rfl rfl ?_
  refine D.q 26 rfl rfl rfl rfl rfl rfl ?_
  refine D.q 27 rfl rfl rfl rfl rfl rfl ?_
  refine D.y 28 (Yl.ldb 1 rfl rfl rfl rfl) rfl rfl rfl rfl rfl rfl ?_
  refine D.q 30 rfl rfl rfl rfl rfl rfl ?_
  obtain ⟨r29, h30, H31⟩ := bnd H
  refine D.one rfl rfl rfl (Dp.a [] [2, 3, 0, 1, 5] (Ac.call (c_delta_Diff a_0_2 c_0_2 a_0_3 c_0_3 a_0_0 c_0_0 a_0_1 c_0_1 h30) rfl rfl rfl rfl) rfl rfl rfl rfl rfl rfl ?_)
  rintro ⟨⟩
  obtain ⟨r32, h33, H34⟩ := bnd H31
  refine D.one rfl rfl rfl (Dp.a [] [] (Ac.call (c_parts_Split h33) rfl rfl rfl rfl) rfl rfl rfl rfl rfl rfl ?_)
  rintro ⟨a35, c36⟩
  refine D.q 31 rfl rfl rfl rfl rfl rfl ?_
  refine D.q 32 rfl rfl rfl rfl rfl rfl ?_
  refine D.q 33 rfl rfl rfl rfl rfl rfl ?_
  refine D.one rfl rfl rfl (Dp.al [1] [] (Ac.stb rfl rfl rfl rfl rfl rfl) rfl rfl rfl rfl rfl rfl rfl ?_)
  intro _
  refine D.nil rfl rfl ?_
  refine E.then (T.seq ?_)
  refine T.draw [11] [0, 0, 0, 0, 0] mo (by rfl) rfl ?_
  refine D.y 0 (Yl.ldb 1 rfl rfl rfl rfl) rfl rfl rfl rfl rfl rfl ?_
  refine D.y 1 (Yl.ldb 1 rfl rfl rfl rfl) rfl rfl rfl rfl rfl rfl ?_
  refine D.q 2 rfl rfl rfl rfl rfl rfl ?_
  refine D.q 3 rfl rfl rfl rfl rfl rfl ?_
  refine D.q 4 rfl rfl rfl rfl rfl rfl ?_
  refine D.y 5 (Yl.ldb 0 rfl rfl rfl rfl) rfl rfl rfl rfl rfl rfl ?_
  refine D.q 6 rfl rfl rfl rfl rfl rfl ?_
  obtain ⟨_, h50, H51⟩ := bnd H34
  refine D.one rfl rfl rfl (Dp.a [] [] (Ac.mk (ty := Ty.bool) false () h50 (fun _ _ f hf => by cases hf) rfl rfl rfl rfl rfl rfl rfl) rfl rfl rfl rfl rfl rfl ?_)
  intro g52
  refine D.q 8 rfl rfl rfl rfl rfl rfl ?_
  refine D.q 9 rfl rfl rfl rfl rfl rfl ?_
  refine D.q 10 rfl rfl rfl rfl rfl rfl ?_
  refine D.one rfl rfl rfl (Dp.al [0] [] (Ac.stb rfl rfl rfl rfl rfl rfl) rfl rfl rfl rfl rfl rfl rfl ?_)
  intro _
  refine D.nil rfl rfl ?_
  refine E.then (T.seq (T.region ?_))
  refine L.y (Yl.ldb 1 rfl rfl rfl rfl) rfl rfl rfl ?_
  refine L.q 2 rfl ?_
  refine L.y (Yl.ldb 0 rfl rfl rfl rfl) rfl rfl rfl ?_
  refine L.q 3 rfl ?_
  refine L.a [0] [] (Ac.stb rfl rfl rfl rfl rfl rfl) rfl rfl rfl rfl rfl ?_
  intro _
  refine L.nil (E.then (T.seq (T.seq (T.region ?_))))
  refine L.y (Yl.ldb 1 rfl rfl rfl rfl) rfl rfl rfl ?_
  refine L.q 2 rfl ?_
  refine L.y (Yl.ldb 0 rfl rfl rfl rfl) rfl rfl rfl ?_
  refine L.q 1 rfl ?_
  obtain ⟨r54, h55, H56⟩ := bnd H51
  refine L.br (Ac.call (c_slices_ContainsFunc_snap_Snap_Sender_begin_1_v2 a_0_4 c_0_4 g1 g_0 a_0_0 c_0_0 a_0_1 c_0_1 a_0_2 c_0_2 a_0_3 c_0_3 a_0_4 c_0_4 a35 c36 (some ⟨g52, 0, none⟩) ((r32.length : Int).toNat) h55) rfl rfl rfl rfl) (Bw.cho 2 rfl (Bw.bx 1 rfl (Bw.bx 0 rfl (Bw.im 0 rfl (Bw.im 1 rfl (Bw.im 2 rfl (Bw.im 3 rfl (Bw.cho 2 rfl (Bw.ch 4 rfl (Bw.ch 5 rfl (Bw.nil))))))))))) rfl rfl rfl ?_
  intro _
  refine L.q 1 rfl ?_
  refine L.nil (E.then ?_)
  obtain ⟨e103, H104, H105⟩ := bnd H56
  refine T.join (η := Unit × ((Option Addr × Nat) × (Option Addr × Nat))) (fun h => True) (fun h => (fun a96 c97 a100 c101 => [(2, .pointer (some ⟨g1, 0, none⟩))]) h.2.1.1 h.2.1.2 h.2.2.1 h.2.2.2) (fun h => (fun a96 c97 a100 c101 => [Ch.aro tySnapSnap 43 a96 c97 e103.kept, Ch.arr Ty.str 9 a35 c36 e103.message.parts, Ch.arr Ty.bool 4 a100 c101 e103.message.there, Ch.box g_0 67 (bx67 e103 a_0_0 c_0_0 a_0_1 c_0_1 a_0_2 c_0_2 a_0_3 c_0_3 a96 c97 a35 c36 a100 c101), Ch.box g1 26 [.pointer (some ⟨g_0, 0, none⟩)]]) h.2.1.1 h.2.1.2 h.2.2.1 h.2.2.2) (fun h => (fun a96 c97 a100 c101 => [Im.sl tyRowRow a_0_0 c_0_0 e103.current.rows, Im.sl tyRowGlyph a_0_1 c_0_1 e103.current.begun, Im.sl tyRowRow a_0_2 c_0_2 e103.acked.rows, Im.sl tyRowGlyph a_0_3 c_0_3 e103.acked.begun, Im.sl tyRowRow a_0_0 c_0_0 s_.current.rows, Im.sl tyRowGlyph a_0_1 c_0_1 s_.current.begun, Im.sl tyRowRow a_0_2 c_0_2 s_.acked.rows, Im.sl tyRowGlyph a_0_3 c_0_3 s_.acked.begun, Im.sl Ty.str a_0_5 c_0_5 s_.message.parts, Im.sl (Ty.int .u32) (some ⟨0, 0, none⟩) 16 t_sum_half]) h.2.1.1 h.2.1.2 h.2.2.1 h.2.2.2) ?_ ?_
  · refine T.bif rfl H104 (fun hc H106 => ?_) (fun hc H106 => ?_)
    · refine T.draw [13] [0, 0, 1, 1, 1] mo (by rfl) rfl ?_
      refine D.y 0 (Yl.ldb 1 rfl rfl rfl rfl) rfl rfl rfl rfl rfl rfl ?_
      refine D.y 1 (Yl.ldb 1 rfl rfl rfl rfl) rfl rfl rfl rfl rfl rfl ?_
      refine D.q 2 rfl rfl rfl rfl rfl rfl ?_
      refine D.q 3 rfl rfl rfl rfl rfl rfl ?_
      refine D.y 4 (Yl.ldb 0 rfl rfl rfl rfl) rfl rfl rfl rfl rfl rfl ?_
      refine D.y 5 (Yl.ldb 1 rfl rfl rfl rfl) rfl rfl rfl rfl rfl rfl ?_
      refine D.q 6 rfl rfl rfl rfl rfl rfl ?_
      refine D.q 7 rfl rfl rfl rfl rfl rfl ?_
      refine D.y 8 (Yl.ldb 0 rfl rfl rfl rfl) rfl rfl rfl rfl rfl rfl ?_
      refine D.one rfl rfl rfl (Dp.a [] [0, 1] (Ac.bs (ty := tySnapSnap) (xs := [s_.current]) (.cons ((a_0_0, c_0_0), (a_0_1, c_0_1)) [0, 1] rfl .nil) rfl rfl rfl rfl rfl rfl rfl) rfl rfl rfl rfl rfl rfl ?_)
      intro g115
      refine D.frz 0 rfl ?_
      obtain ⟨_, h118, H119⟩ := bnd H106
      refine D.one rfl rfl rfl (Dp.a [0] [0] (Ac.oap (ty := tySnapSnap) h118 rfl rfl rfl rfl rfl rfl rfl) rfl rfl rfl rfl rfl rfl ?_)
      rintro ⟨a120, c121⟩
      refine D.q 11 rfl rfl rfl rfl rfl rfl ?_
      refine D.q 12 rfl rfl rfl rfl rfl rfl ?_
      refine D.one rfl rfl rfl (Dp.al [0] [] (Ac.stb rfl rfl rfl rfl rfl rfl) rfl rfl rfl rfl rfl rfl rfl ?_)
      intro _
      refine D.nil rfl rfl ?_
      have hr := Option.some.inj H119
      subst e103
      exact E.give ((), ((a120, c121), ((some ⟨g52, 0, none⟩), (r32.length : Int).toNat))) [5, 3, 3, 0, 0] [1, 2, 3, 4, 1, 2, 3, 4, 5, 6] trivial ⟨rfl, trivial⟩ rfl rfl
    refine T.skip ?_
    have hr := Option.some.inj H106
    subst e103
    exact E.give ((), ((a_0_4, c_0_4), ((some ⟨g52, 0, none⟩), (r32.length : Int).toNat))) [2, 3, 3, 0, 0] [0, 1, 2, 3, 0, 1, 2, 3, 4, 5] trivial ⟨rfl, trivial⟩ rfl rfl
  rintro ⟨_, ⟨⟨a96, c97⟩, ⟨a100, c101⟩⟩⟩ _
  refine T.draw [20] [1, 1, 1, 1] mo (by rfl) rfl ?_
  refine D.y 0 (Yl.ldb 3 rfl rfl rfl rfl) rfl rfl rfl rfl rfl rfl ?_
  refine D.y 1 (Yl.ldb 3 rfl rfl rfl rfl) rfl rfl rfl rfl rfl rfl ?_
  refine D.q 2 rfl rfl rfl rfl rfl rfl ?_
  refine D.q 3 rfl rfl rfl rfl rfl rfl ?_
  refine D.y 4 (Yl.ldb 2 rfl rfl rfl rfl) rfl rfl rfl rfl rfl rfl ?_
  refine D.y 5 (Yl.ldb 3 rfl rfl rfl rfl) rfl rfl rfl rfl rfl rfl ?_
  refine D.q 6 rfl rfl rfl rfl rfl rfl ?_
  refine D.q 7 rfl rfl rfl rfl rfl rfl ?_
  refine D.y 8 (Yl.ldb 2 rfl rfl rfl rfl) rfl rfl rfl rfl rfl rfl ?_
  refine D.q 9 rfl rfl rfl rfl rfl rfl ?_
  refine D.y 10 (Yl.ldb 3 rfl rfl rfl rfl) rfl rfl rfl rfl rfl rfl ?_
  refine D.q 11 rfl rfl rfl rfl rfl rfl ?_
  refine D.q 12 rfl rfl rfl rfl rfl rfl ?_
  refine D.q 13 rfl rfl rfl rfl rfl rfl ?_
  refine D.y 14 (Yl.ldb 2 rfl rfl rfl rfl) rfl rfl rfl rfl rfl rfl ?_
  refine D.q 15 rfl rfl rfl rfl rfl rfl ?_
  refine D.q 16 rfl rfl rfl rfl rfl rfl ?_
  obtain ⟨_, h128, H129⟩ := bnd H105
  refine D.one rfl rfl rfl (Dp.a [0] [] (Ac.ors (ty := tySnapSnap) h128 rfl rfl rfl rfl rfl rfl rfl rfl) rfl rfl rfl rfl rfl rfl ?_)
  rintro ⟨a130, c131⟩
  refine D.q 18 rfl rfl rfl rfl rfl rfl ?_
  refine D.q 19 rfl rfl rfl rfl rfl rfl ?_
  refine D.one rfl rfl rfl (Dp.al [2] [] (Ac.stb rfl rfl rfl rfl rfl rfl) rfl rfl rfl rfl rfl rfl rfl ?_)
  intro _
  refine D.nil rfl rfl ?_
  refine E.off ?_
  refine E.frz 1 rfl ?_
  have hr := Option.some.inj H129
  subst r
  exact E.ret ((a130, c131), (a35, c36), (a100, c101)) [0, 2, 0] [1, 2, 3, 4, 0] .nil rfl rfl rfl

end Go.Tw.X

set_option maxHeartbeats 2000000
set_option linter.unusedVariables false
set_option linter.unusedSimpArgs false
set_option maxRecDepth 10000
namespace Go.Tw.X
open Go Go.Tw
theorem c_sender_message_lacks {σ η : Type} {m_ : SenderMessage} {Y : σ → (Int × ByteArray) → Option (σ × Bool)} {y0 : σ} (a_0_0 : Option Addr) (c_0_0 : Nat) (a_0_1 : Option Addr) (c_0_1 : Nat) {yl : Nat} {C : σ → η → Ch} (hY : ∀ s (h : η) (x : Int × ByteArray) (t : Unit) z, Y s x = some z → YT G yl [.int .i64 x.1, .string x.2] [C s h] [] (fun _ : η => .bool z.2) (fun h2 => [C z.1 h2]) (fun _ => [])) (h0 : η) {r : σ} (H : p_sender_message_lacks m_ Y y0 = some r) : CT G 36 [.agg (bx65 m_ a_0_0 c_0_0 a_0_1 c_0_1).toArray, .func (.yield yl) #[] #[]] [C y0 h0, Ch.arr Ty.bool 4 a_0_1 c_0_1 m_.there] [Im.sl Ty.str a_0_0 c_0_0 m_.parts] (fun h : η => .tuple #[]) (fun h => [C r h, Ch.arr Ty.bool 4 a_0_1 c_0_1 m_.there]) (fun h => []) := by
  delta p_sender_message_lacks at H
  refine CT.of Go.Proofs.Tryz.func36 (by kernel_rfl) rfl rfl rfl fun K => ?_
  refine T.seq (T.region ?_)
  refine L.a [] [] (Ac.box rfl rfl) rfl rfl rfl rfl rfl ?_
  intro g1
  refine L.nil (E.then (T.seq (T.region ?_)))
  refine L.q 1 rfl ?_
  refine L.y (Yl.ldb 0 rfl rfl rfl rfl) rfl rfl rfl ?_
  refine L.q 2 rfl ?_
  refine L.nil (E.then ?_)
  obtain ⟨y285, H286, H287⟩ := bnd H
  refine T.joinE (η := σ × (η)) (fun h => y285 = .inl h.1) (fun h => (fun e284 => (fun h283 => []) h.2) h.1) (fun h => (fun e284 => (fun h283 => [Ch.box g1 65 (bx65 m_ a_0_0 c_0_0 a_0_1 c_0_1), C e284 h283, Ch.arr Ty.bool 4 a_0_1 c_0_1 m_.there]) h.2) h.1) (fun h => (fun e284 => (fun h283 => [Im.sl Ty.str a_0_0 c_0_0 m_.parts]) h.2) h.1) ?_ ?_
  · refine T.block ?_
    refine T.lp (η := η) (fun s191 h => (fun h190 => [(1, .func (.yield yl) #[] #[]), (2, .pointer (some ⟨g1, 0, none⟩)), (7, .slice a_0_0 m_.parts.length c_0_0), (8, .int .i64 (m_.parts.length : Int)), (9, .int .i64 s191.1)]) h) (fun s191 h => (fun h190 => [Ch.box g1 65 (bx65 m_ a_0_0 c_0_0 a_0_1 c_0_1), C s191.2 h190, Ch.arr Ty.bool 4 a_0_1 c_0_1 m_.there]) h) (fun s191 h => (fun h190 => [Im.sl Ty.str a_0_0 c_0_0 m_.parts]) h) h0 [0, 0, 0] [0] H286 ⟨rfl, rfl, rfl, rfl, rfl, trivial⟩ rfl rfl ?_
    rintro k_ s191 h190 z289 H288 hag290 hbr291
    refine T.seq (T.region ?_)
    refine L.q 1 rfl ?_
    refine L.nil (E.then (T.seq ?_))
    refine T.bif rfl H288 (fun hc H293 => ?_) (fun hc H293 => ?_)
    · refine T.skip (E.then (T.seq (T.block (T.seq (T.region ?_)))))
      refine L.q 1 rfl ?_
      obtain ⟨x338, h339, H340⟩ := bnd H293
      refine L.addr 0 rfl (idx_lt h339) fun b341 o342 e343 => ?_
      obtain rfl : a_0_0 = some ⟨b341, o342, none⟩ := e343
      refine L.y (Yl.ia h339 rfl rfl rfl rfl rfl rfl) rfl rfl rfl ?_
      refine L.el 0 rfl (idx_some h339).2 ?_
      rintro _
      refine L.y (Yl.ldc 0 0 rfl rfl rfl rfl) rfl rfl rfl ?_
      refine L.q 2 rfl ?_
      refine L.nil (E.then (T.seq ?_))
      obtain ⟨e368, H369, H370⟩ := bnd H340
      refine T.join (η := Unit × (η)) (fun h => True) (fun h => (fun h367 => [(1, .func (.yield yl) #[] #[]), (2, .pointer (some ⟨g1, 0, none⟩)), (7, .slice (some ⟨b341, o342, none⟩) m_.parts.length c_0_0), (8, .int .i64 (m_.parts.length : Int)), (9, .int .i64 s191.1), (26, .bool e368.1)]) h.2) (fun h => (fun h367 => [Ch.box g1 65 [.int .i64 m_.id, .int .i64 m_.key, .int .i64 m_.base, .slice (some ⟨b341, o342, none⟩) m_.parts.length c_0_0, .slice a_0_1 m_.there.length c_0_1, .int .i64 m_.due], C e368.2 h367, Ch.arr Ty.bool 4 a_0_1 c_0_1 m_.there]) h.2) (fun h => (fun h367 => [Im.cells b341 (o342 + s191.1.toNat * 1) [.string x338], Im.sl Ty.str (some ⟨b341, o342, none⟩) c_0_0 m_.parts]) h.2) ?_ ?_
      · refine T.region ?_
        refine L.q 1 rfl ?_
        refine L.y (Yl.ldb 0 rfl rfl rfl rfl) rfl rfl rfl ?_
        refine L.q 1 rfl ?_
        obtain ⟨x371, h372, H373⟩ := bnd H369
        refine L.addro 2 rfl (idx_lt h372) fun b374 e375 => ?_
        obtain rfl : a_0_1 = some ⟨b374, 0, none⟩ := e375
        refine L.y (Yl.ia h372 rfl rfl rfl rfl rfl rfl) rfl rfl rfl ?_
        refine L.y (Yl.lo (v := .bool x371) 2 s191.1.toNat 0 (idx_some h372).2 rfl rfl rfl rfl (fun _ => rfl)) rfl rfl rfl ?_
        refine L.q 2 rfl ?_
        refine L.cs 20 H373 rfl (fun hc H376 => ?_) (fun hc H376 => ?_)
        · refine L.q 3 rfl ?_
          obtain ⟨z377, h378, H379⟩ := bnd H376
          refine L.yd [1] [] (hY _ _ _ () _ h378) rfl rfl rfl rfl rfl rfl rfl rfl ?_
          intro h380
          refine L.q 2 rfl ?_
          refine L.nil ?_
          have hr := Option.some.inj H379
          subst e368
          exact E.give ((), h380) [1, 0, 0] [0, 1] trivial ⟨rfl, rfl, rfl, rfl, rfl, rfl, trivial⟩ rfl rfl
        refine L.q 6 rfl ?_
        refine L.nil ?_
        have hr := Option.some.inj H376
        subst e368
        exact E.give ((), h190) [0, 0, 0] [0, 1] trivial ⟨rfl, rfl, rfl, rfl, rfl, rfl, trivial⟩ rfl rfl
      rintro ⟨_, h367⟩ _
      refine T.bif rfl H370 (fun hc H381 => ?_) (fun hc H381 => ?_)
      · refine T.ret (E.block_ret (E.then_ret (E.then_ret (E.block_ret ?_))))
        obtain ⟨w382, hz, H383⟩ := inrr_some H381
        subst z289
        have hb := hbr291 _ rfl
        subst y285
        have hw : w382 = r := Option.some.inj H287
        subst w382
        refine E.then_ret ?_
        have hr := Option.some.inj H383
        subst r
        exact E.ret h367 [1, 1] [] .nil rfl rfl rfl
      refine T.skip (E.block (E.then (T.region ?_)))
      refine L.q 2 rfl ?_
      refine L.nil ?_
      have hr := Option.some.inj H381
      subst z289
      exact E.give (_, h367) [0, 0, 0] [1] (hag290 _ rfl) ⟨rfl, rfl, rfl, rfl, rfl, trivial⟩ rfl rfl
    refine T.exit (E.then_exit' (E.then_exit' (E.block_here ?_)))
    have hr := Option.some.inj H293
    subst z289
    have hb := hbr291 _ rfl
    subst y285
    exact E.give (_, h190) [0, 0, 0] [0] rfl trivial rfl rfl
  rintro ⟨e284, h283⟩ hy
  subst hy
  refine E.off ?_
  have hr := Option.some.inj H287
  subst r
  exact E.ret h283 [1, 1] [] .nil rfl rfl rfl

theorem c_sender_Sender_Step {s_ : SenderSender} {now : Int} (g_0 : Nat) (a_0_0 : Option Addr) (c_0_0 : Nat) (a_0_1 : Option Addr) (c_0_1 : Nat) (a_0_2 : Option Addr) (c_0_2 : Nat) (a_0_3 : Option Addr) (c_0_3 : Nat) (a_0_4 : Option Addr) (c_0_4 : Nat) (a_0_5 : Option Addr) (c_0_5 : Nat) (a_0_6 : Option Addr) (c_0_6 : Nat) {r : (List GramGram) × SenderSender} (H : p_sender_Sender_Step s_ now = some r) : CT G 12 [.pointer (some ⟨g_0, 0, none⟩), .int .i64 now] [Ch.box g_0 67 (bx67 s_ a_0_0 c_0_0 a_0_1 c_0_1 a_0_2 c_0_2 a_0_3 c_0_3 a_0_4 c_0_4 a_0_5 c_0_5 a_0_6 c_0_6), Ch.aro tySnapSnap 43 a_0_4 c_0_4 s_.kept, Ch.arr Ty.bool 4 a_0_6 c_0_6 s_.message.there] [Im.sl tyRowRow a_0_0 c_0_0 s_.current.rows, Im.sl tyRowGlyph a_0_1 c_0_1 s_.current.begun, Im.sl tyRowRow a_0_2 c_0_2 s_.acked.rows, Im.sl tyRowGlyph a_0_3 c_0_3 s_.acked.begun, Im.sl Ty.str a_0_5 c_0_5 s_.message.parts, Im.sl (Ty.int .u32) (some ⟨0, 0, none⟩) 16 t_sum_half] (fun h : (Option Addr × Nat) × (Option Addr × Nat) × (Option Addr × Nat) × (Option Addr × Nat) => .slice h.1.1 r.1.length h.1.2) (fun h => [Ch.arr tyGramGram 60 h.1.1 h.1.2 r.1, Ch.box g_0 67 (bx67 r.2 a_0_0 c_0_0 a_0_1 c_0_1 a_0_2 c_0_2 a_0_3 c_0_3 h.2.1.1 h.2.1.2 h.2.2.1.1 h.2.2.1.2 h.2.2.2.1 h.2.2.2.2), Ch.aro tySnapSnap 43 h.2.1.1 h.2.1.2 r.2.kept, Ch.arr Ty.bool 4 h.2.2.2.1 h.2.2.2.2 r.2.message.there]) (fun h => [Im.sl tyRowRow a_0_0 c_0_0 r.2.current.rows, Im.sl tyRowGlyph a_0_1 c_0_1 r.2.current.begun, Im.sl tyRowRow a_0_2 c_0_2 r.2.acked.rows, Im.sl tyRowGlyph a_0_3 c_0_3 r.2.acked.begun, Im.sl Ty.str h.2.2.1.1 h.2.2.1.2 r.2.message.parts]) := by
  delta p_sender_Sender_Step at H
  refine CT.of Go.Proofs.Tryz.func12 (by kernel_rfl) rfl rfl rfl fun K => ?_
  refine T.dfs0 ?_
  refine T.seq (T.region ?_)
  refine L.a [] [] (Ac.box rfl rfl) rfl rfl rfl rfl rfl ?_
  intro g1
  refine L.q 1 rfl ?_
  refine L.nil (E.then (T.seq (T.seq ?_)))
  refine T.draw [] [0, 0, 0, 0, 0] mo (by rfl) rfl ?_
  refine D.y 0 (Yl.ldb 0 rfl rfl rfl rfl) rfl rfl rfl rfl rfl rfl ?_
  refine D.q 1 rfl rfl rfl rfl rfl rfl ?_
  refine D.q 2 rfl rfl rfl rfl rfl rfl ?_
  refine D.q 3 rfl rfl rfl rfl rfl rfl ?_
  refine D.y 4 (Yl.ldb 2 rfl rfl rfl rfl) rfl rfl rfl rfl rfl rfl ?_
  refine D.y 5 (Yl.ldb 0 rfl rfl rfl rfl) rfl rfl rfl rfl rfl rfl ?_
  refine D.q 6 rfl rfl rfl rfl rfl rfl ?_
  refine D.q 7 rfl rfl rfl rfl rfl rfl ?_
  refine D.q 8 rfl rfl rfl rfl rfl rfl ?_
  refine D.y 9 (Yl.ldb 2 rfl rfl rfl rfl) rfl rfl rfl rfl rfl rfl ?_
  refine D.q 10 rfl rfl rfl rfl rfl rfl ?_
  refine D.nil rfl rfl ?_
  refine E.then ?_
  refine T.bif rfl H (fun hc H3 => ?_) (fun hc H3 => ?_)
  · refine T.seq (T.region ?_)
    refine L.y (Yl.ldb 0 rfl rfl rfl rfl) rfl rfl rfl ?_
    refine L.q 3 rfl ?_
    refine L.a [2] [] (Ac.stb rfl rfl rfl rfl rfl rfl) rfl rfl rfl rfl rfl ?_
    intro _
    refine L.nil (E.then (T.seq (T.region ?_)))
    refine L.q 1 rfl ?_
    refine L.nil (E.then (T.ret (E.then_ret ?_)))
    refine E.nil0 tyGramGram 60 ?_
    refine E.know [Im.sl Ty.str none 0 []] (fun A w _ _ f hf => by rw [List.mem_singleton.1 hf]; exact Im.sl_nil A w) ?_
    refine E.nil0 Ty.bool 4 ?_
    have hr := Option.some.inj H3
    subst r
    exact E.retd ((none, 0), (a_0_4, c_0_4), (none, 0), (none, 0)) 4 [1, 1, 2, 0] [1, 2, 3, 4, 0] rfl (.tmp rfl .nil) rfl rfl rfl
  refine T.skip (E.then (T.seq (T.seq ?_)))
  obtain ⟨e16, H17, H18⟩ := bnd H3
  refine T.joinD (η := Unit × Unit) (fun h => True) (fun h => []) (fun h => [(1, .int .i64 now), (2, .pointer (some ⟨g1, 0, none⟩)), (54, .bool e16)]) (fun h => [Ch.box g1 26 [.pointer (some ⟨g_0, 0, none⟩)], Ch.dfs [], Ch.box g_0 67 (bx67 s_ a_0_0 c_0_0 a_0_1 c_0_1 a_0_2 c_0_2 a_0_3 c_0_3 a_0_4 c_0_4 a_0_5 c_0_5 a_0_6 c_0_6), Ch.aro tySnapSnap 43 a_0_4 c_0_4 s_.kept, Ch.arr Ty.bool 4 a_0_6 c_0_6 s_.message.there]) (fun h => [Im.sl tyRowRow a_0_0 c_0_0 s_.current.rows, Im.sl tyRowGlyph a_0_1 c_0_1 s_.current.begun, Im.sl tyRowRow a_0_2 c_0_2 s_.acked.rows, Im.sl tyRowGlyph a_0_3 c_0_3 s_.acked.begun, Im.sl Ty.str a_0_5 c_0_5 s_.message.parts, Im.sl (Ty.int .u32) (some ⟨0, 0, none⟩) 16 t_sum_half]) ?_ ?_
  · refine T.draw [] [0, 0, 0, 0, 0] mo (by rfl) rfl ?_
    refine D.y 0 (Yl.ldb 0 rfl rfl rfl rfl) rfl rfl rfl rfl rfl rfl ?_
    refine D.q 1 rfl rfl rfl rfl rfl rfl ?_
    refine D.q 2 rfl rfl rfl rfl rfl rfl ?_
    refine D.q 3 rfl rfl rfl rfl rfl rfl ?_
    refine D.y 4 (Yl.ldb 2 rfl rfl rfl rfl) rfl rfl rfl rfl rfl rfl ?_
    refine D.q 5 rfl rfl rfl rfl rfl rfl ?_
    refine D.q 6 rfl rfl rfl rfl rfl rfl ?_
    refine D.cs 29 H17 rfl (fun hc H21 => ?_) (fun hc H21 => ?_)
    · refine D.sk 7 rfl rfl rfl rfl rfl ?_
      refine D.sk 8 rfl rfl rfl rfl rfl ?_
      refine D.sk 9 rfl rfl rfl rfl rfl ?_
      refine D.sk 10 rfl rfl rfl rfl rfl ?_
      refine D.sk 11 rfl rfl rfl rfl rfl ?_
      refine D.sk 12 rfl rfl rfl rfl rfl ?_
      refine D.sk 13 rfl rfl rfl rfl rfl ?_
      refine D.sk 14 rfl rfl rfl rfl rfl ?_
      refine D.sk 15 rfl rfl rfl rfl rfl ?_
      refine D.sk 16 rfl rfl rfl rfl rfl ?_
      refine D.sk 17 rfl rfl rfl rfl rfl ?_
      refine D.q 18 rfl rfl rfl rfl rfl rfl ?_
      refine D.q 19 rfl rfl rfl rfl rfl rfl ?_
      refine D.sk 20 rfl rfl rfl rfl rfl ?_
      refine D.sk 21 rfl rfl rfl rfl rfl ?_
      refine D.sk 22 rfl rfl rfl rfl rfl ?_
      refine D.sk 23 rfl rfl rfl rfl rfl ?_
      refine D.sk 24 rfl rfl rfl rfl rfl ?_
      refine D.sk 25 rfl rfl rfl rfl rfl ?_
      refine D.sk 26 rfl rfl rfl rfl rfl ?_
      refine D.sk 27 rfl rfl rfl rfl rfl ?_
      refine D.sk 28 rfl rfl rfl rfl rfl ?_
      refine D.sk 29 rfl rfl rfl rfl rfl ?_
      refine D.sk 30 rfl rfl rfl rfl rfl ?_
      refine D.q 31 rfl rfl rfl rfl rfl rfl ?_
      refine D.nil rfl rfl ?_
      have hr := Option.some.inj H21
      subst e16
      exact E.giveD ((), ()) [0, 0, 0, 0, 0] [0, 1, 2, 3, 4, 5] trivial rfl ⟨rfl, rfl, rfl, trivial⟩ rfl rfl
    refine D.y 7 (Yl.ldb 0 rfl rfl rfl rfl) rfl rfl rfl rfl rfl rfl ?_
    refine D.q 8 rfl rfl rfl rfl rfl rfl ?_
    refine D.q 9 rfl rfl rfl rfl rfl rfl ?_
    refine D.q 10 rfl rfl rfl rfl rfl rfl ?_
    refine D.y 11 (Yl.ldb 2 rfl rfl rfl rfl) rfl rfl rfl rfl rfl rfl ?_
    refine D.y 12 (Yl.ldb 0 rfl rfl rfl rfl) rfl rfl rfl rfl rfl rfl ?_
    refine D.q 13 rfl rfl rfl rfl rfl rfl ?_
    refine D.q 14 rfl rfl rfl rfl rfl rfl ?_
    refine D.q 15 rfl rfl rfl rfl rfl rfl ?_
    refine D.y 16 (Yl.ldb 2 rfl rfl rfl rfl) rfl rfl rfl rfl rfl rfl ?_
    refine D.q 17 rfl rfl rfl rfl rfl rfl ?_
    refine D.q 18 rfl rfl rfl rfl rfl rfl ?_
    refine D.q 19 rfl rfl rfl rfl rfl rfl ?_
    refine D.cs 42 H21 rfl (fun hc H22 => ?_) (fun hc H22 => ?_)
    · refine D.sk 20 rfl rfl rfl rfl rfl ?_
      refine D.sk 21 rfl rfl rfl rfl rfl ?_
      refine D.sk 22 rfl rfl rfl rfl rfl ?_
      refine D.sk 23 rfl rfl rfl rfl rfl ?_
      refine D.sk 24 rfl rfl rfl rfl rfl ?_
      refine D.sk 25 rfl rfl rfl rfl rfl ?_
      refine D.sk 26 rfl rfl rfl rfl rfl ?_
      refine D.sk 27 rfl rfl rfl rfl rfl ?_
      refine D.sk 28 rfl rfl rfl rfl rfl ?_
      refine D.sk 29 rfl rfl rfl rfl rfl ?_
      refine D.sk 30 rfl rfl rfl rfl rfl ?_
      refine D.q 31 rfl rfl rfl rfl rfl rfl ?_
      refine D.nil rfl rfl ?_
      have hr := Option.some.inj H22
      subst e16
      exact E.giveD ((), ()) [0, 0, 0, 0, 0] [0, 1, 2, 3, 4, 5] trivial rfl ⟨rfl, rfl, rfl, trivial⟩ rfl rfl
    refine D.y 20 (Yl.ldb 0 rfl rfl rfl rfl) rfl rfl rfl rfl rfl rfl ?_
    refine D.q 21 rfl rfl rfl rfl rfl rfl ?_
    refine D.q 22 rfl rfl rfl rfl rfl rfl ?_
    refine D.q 23 rfl rfl rfl rfl rfl rfl ?_
    refine D.y 24 (Yl.ldb 2 rfl rfl rfl rfl) rfl rfl rfl rfl rfl rfl ?_
    refine D.y 25 (Yl.ldb 0 rfl rfl rfl rfl) rfl rfl rfl rfl rfl rfl ?_
    refine D.q 26 rfl rfl rfl rfl rfl rfl ?_
    refine D.q 27 rfl rfl rfl rfl rfl rfl ?_
    refine D.q 28 rfl rfl rfl rfl rfl rfl ?_
    refine D.y 29 (Yl.ldb 2 rfl rfl rfl rfl) rfl rfl rfl rfl rfl rfl ?_
    refine D.q 30 rfl rfl rfl rfl rfl rfl ?_
    refine D.q 31 rfl rfl rfl rfl rfl rfl ?_
    refine D.nil rfl rfl ?_
    have hr := Option.some.inj H22
    subst e16
    exact E.giveD ((), ()) [0, 0, 0, 0, 0] [0, 1, 2, 3, 4, 5] trivial rfl ⟨rfl, rfl, rfl, trivial⟩ rfl rfl
  rintro ⟨_, ⟨⟩⟩ _
  obtain ⟨e71, H72, H73⟩ := bnd H18
  refine T.joinD (η := Unit × ((Option Addr × Nat) × (Option Addr × Nat) × (Option Addr × Nat))) (fun h => True) (fun h => (fun a62 c63 a65 c66 a68 c69 => []) h.2.1.1 h.2.1.2 h.2.2.1.1 h.2.2.1.2 h.2.2.2.1 h.2.2.2.2) (fun h => (fun a62 c63 a65 c66 a68 c69 => [(1, .int .i64 now), (2, .pointer (some ⟨g1, 0, none⟩))]) h.2.1.1 h.2.1.2 h.2.2.1.1 h.2.2.1.2 h.2.2.2.1 h.2.2.2.2) (fun h => (fun a62 c63 a65 c66 a68 c69 => [Ch.aro tySnapSnap 43 a62 c63 e71.kept, Ch.arr Ty.bool 4 a68 c69 e71.message.there, Ch.box g1 26 [.pointer (some ⟨g_0, 0, none⟩)], Ch.dfs [], Ch.box g_0 67 (bx67 e71 a_0_0 c_0_0 a_0_1 c_0_1 a_0_2 c_0_2 a_0_3 c_0_3 a62 c63 a65 c66 a68 c69)]) h.2.1.1 h.2.1.2 h.2.2.1.1 h.2.2.1.2 h.2.2.2.1 h.2.2.2.2) (fun h => (fun a62 c63 a65 c66 a68 c69 => [Im.sl tyRowRow a_0_0 c_0_0 e71.current.rows, Im.sl tyRowGlyph a_0_1 c_0_1 e71.current.begun, Im.sl tyRowRow a_0_2 c_0_2 e71.acked.rows, Im.sl tyRowGlyph a_0_3 c_0_3 e71.acked.begun, Im.sl Ty.str a65 c66 e71.message.parts, Im.sl tyRowRow a_0_0 c_0_0 s_.current.rows, Im.sl tyRowGlyph a_0_1 c_0_1 s_.current.begun, Im.sl tyRowRow a_0_2 c_0_2 s_.acked.rows, Im.sl tyRowGlyph a_0_3 c_0_3 s_.acked.begun, Im.sl Ty.str a_0_5 c_0_5 s_.message.parts, Im.sl (Ty.int .u32) (some ⟨0, 0, none⟩) 16 t_sum_half]) h.2.1.1 h.2.1.2 h.2.2.1.1 h.2.2.1.2 h.2.2.2.1 h.2.2.2.2) ?_ ?_
  · refine T.bif rfl H72 (fun hc H74 => ?_) (fun hc H74 => ?_)
    · refine T.region ?_
      refine L.y (Yl.ldb 0 rfl rfl rfl rfl) rfl rfl rfl ?_
      refine L.q 1 rfl ?_
      obtain ⟨r75, h76, H77⟩ := bnd H74
      refine L.a [2, 2, 2] [0, 1, 2, 3, 4, 5] (Ac.call (c_sender_Sender_begin g_0 a_0_0 c_0_0 a_0_1 c_0_1 a_0_2 c_0_2 a_0_3 c_0_3 a_0_4 c_0_4 a_0_5 c_0_5 a_0_6 c_0_6 h76) rfl rfl rfl rfl) rfl rfl rfl rfl rfl ?_
      rintro ⟨⟨a78, c79⟩, ⟨a80, c81⟩, ⟨a82, c83⟩⟩
      refine L.nil ?_
      have hr := Option.some.inj H77
      subst e71
      exact E.giveD ((), ((a78, c79), (a80, c81), (a82, c83))) [1, 1, 1, 1, 0] [0, 1, 2, 3, 4, 5, 6, 7, 8, 9, 10] trivial rfl ⟨rfl, rfl, trivial⟩ rfl rfl
    refine T.skip ?_
    have hr := Option.some.inj H74
    subst e71
    exact E.giveD ((), ((a_0_4, c_0_4), (a_0_5, c_0_5), (a_0_6, c_0_6))) [3, 3, 0, 0, 0] [0, 1, 2, 3, 4, 0, 1, 2, 3, 4, 5] trivial rfl ⟨rfl, rfl, trivial⟩ rfl rfl
  rintro ⟨_, ⟨⟨a62, c63⟩, ⟨a65, c66⟩, ⟨a68, c69⟩⟩⟩ _
  refine T.seq (T.seq (T.region ?_))
  refine L.q 1 rfl ?_
  refine L.y (Yl.ldb 2 rfl rfl rfl rfl) rfl rfl rfl ?_
  refine L.q 3 rfl ?_
  refine L.y (Yl.ldb 4 rfl rfl rfl rfl) rfl rfl rfl ?_
  refine L.q 1 rfl ?_
  refine L.nil (E.then ?_)
  refine T.bif rfl H73 (fun hc H92 => ?_) (fun hc H92 => ?_)
  · refine T.seq (T.region ?_)
    refine L.q 1 rfl ?_
    refine L.nil (E.then (T.ret (E.then_ret ?_)))
    refine E.nil0 tyGramGram 60 ?_
    have hr := Option.some.inj H92
    subst r
    exact E.retd ((none, 0), (a62, c63), (a65, c66), (a68, c69)) 4 [0, 3, 0, 0] [0, 1, 2, 3, 4] rfl (.tmp rfl .nil) rfl rfl rfl
  refine T.skip (E.then (T.seq ?_))
  refine T.draw [11] [0, 0, 0, 0, 0] mo (by rfl) rfl ?_
  refine D.y 0 (Yl.ldb 2 rfl rfl rfl rfl) rfl rfl rfl rfl rfl rfl ?_
  refine D.q 1 rfl rfl rfl rfl rfl rfl ?_
  refine D.y 2 (Yl.ldb 2 rfl rfl rfl rfl) rfl rfl rfl rfl rfl rfl ?_
  refine D.q 3 rfl rfl rfl rfl rfl rfl ?_
  refine D.q 4 rfl rfl rfl rfl rfl rfl ?_
  refine D.q 5 rfl rfl rfl rfl rfl rfl ?_
  refine D.y 6 (Yl.ldb 4 rfl rfl rfl rfl) rfl rfl rfl rfl rfl rfl ?_
  refine D.q 7 rfl rfl rfl rfl rfl rfl ?_
  refine D.q 8 rfl rfl rfl rfl rfl rfl ?_
  refine D.q 9 rfl rfl rfl rfl rfl rfl ?_
  refine D.q 10 rfl rfl rfl rfl rfl rfl ?_
  refine D.one rfl rfl rfl (Dp.al [4] [] (Ac.stb rfl rfl rfl rfl rfl rfl) rfl rfl rfl rfl rfl rfl rfl ?_)
  intro _
  refine D.nil rfl rfl ?_
  refine E.then (T.seq (T.region ?_))
  refine L.a [] [] (Ac.alloc rfl rfl) rfl rfl rfl rfl rfl ?_
  intro g94
  refine L.nil (E.then (T.seq (T.seq (T.region ?_))))
  refine L.y (Yl.ldb 4 rfl rfl rfl rfl) rfl rfl rfl ?_
  refine L.q 2 rfl ?_
  refine L.y (Yl.ldb 1 rfl rfl rfl rfl) rfl rfl rfl ?_
  refine L.q 1 rfl ?_
  refine L.nil (E.then (T.block ?_))
  refine T.nil0 tyGramGram 60 ?_
  obtain ⟨r177, h178, H179⟩ := bnd H92
  refine T.rf2 (σ := (List GramGram)) (η := (Option Addr × Nat)) (X := Int × ByteArray) (θ := Unit) (τ := (Option Addr × Nat)) (s1 := r177) (hx := fun x => x) (fun x t => [.int .i64 x.1, .string x.2]) (fun x t => []) (fun _ => none) (fun s151 h => (fun a122 c123 => [Ch.arr tyGramGram 60 a122 c123 s151, Ch.box g94 56 [.slice a122 s151.length c123], Ch.box g_0 67 [.int .i64 e71.config.part, .int .i64 e71.config.every, .int .i64 e71.config.most, .int .i64 e71.current.k, .int .i64 e71.current.w, .int .i64 e71.current.h, .int .i64 e71.current.x, .int .i64 e71.current.y, .string e71.current.title, .slice a_0_0 e71.current.rows.length c_0_0, .int .i64 e71.current.len, .int .i64 e71.current.chain, .slice a_0_1 e71.current.begun.length c_0_1, .int .i64 e71.acked.k, .int .i64 e71.acked.w, .int .i64 e71.acked.h, .int .i64 e71.acked.x, .int .i64 e71.acked.y, .string e71.acked.title, .slice a_0_2 e71.acked.rows.length c_0_2, .int .i64 e71.acked.len, .int .i64 e71.acked.chain, .slice a_0_3 e71.acked.begun.length c_0_3, .slice a62 e71.kept.length c63, .int .i64 e71.message.id, .int .i64 e71.message.key, .int .i64 e71.message.base, .slice a65 e71.message.parts.length c66, .slice a68 e71.message.there.length c69, .int .i64 (IntKind.i64.wrap (now + e71.config.every)), .int .i64 e71.next], Ch.box g1 26 [.pointer (some ⟨g_0, 0, none⟩)], Ch.aro tySnapSnap 43 a62 c63 e71.kept]) h.1 h.2) (fun s151 h => (fun a122 c123 => [Im.sl tyRowRow a_0_0 c_0_0 e71.current.rows, Im.sl tyRowGlyph a_0_1 c_0_1 e71.current.begun, Im.sl tyRowRow a_0_2 c_0_2 e71.acked.rows, Im.sl tyRowGlyph a_0_3 c_0_3 e71.acked.begun, Im.sl Ty.str a65 c66 e71.message.parts, Im.sl tyRowRow a_0_0 c_0_0 s_.current.rows, Im.sl tyRowGlyph a_0_1 c_0_1 s_.current.begun, Im.sl tyRowRow a_0_2 c_0_2 s_.acked.rows, Im.sl tyRowGlyph a_0_3 c_0_3 s_.acked.begun, Im.sl Ty.str a_0_5 c_0_5 s_.message.parts, Im.sl (Ty.int .u32) (some ⟨0, 0, none⟩) 16 t_sum_half]) h.1 h.2) 6 [0, 0, 0, 2, 0, 0] [0, 1, 2, 3, 4, 5, 6, 7, 8, 9, 10] [4] rfl rfl (fun _ _ => rfl) rfl (fun yl C hY => (c_sender_message_lacks a65 c66 a68 c69 hY (none, 0) h178 : _)) (fun _ _ _ _ => rfl) rfl rfl rfl rfl rfl ?_ rfl ?_
  · rintro yl K2 s151 ⟨a122, c123⟩ x95 ⟨⟩ z152 H153
    refine T.seq (T.region ?_)
    refine L.q 1 rfl ?_
    refine L.nil (E.then (T.region ?_))
    refine L.q 1 rfl ?_
    refine L.nil ?_
    refine E.begin fun K3 => ?_
    refine T.block ?_
    refine T.draw [28] [1, 1, 1, 1] mo (by rfl) rfl ?_
    refine D.y 0 (Yl.ldb 0 rfl rfl rfl rfl) rfl rfl rfl rfl rfl rfl ?_
    refine D.y 1 (Yl.ldb 2 rfl rfl rfl rfl) rfl rfl rfl rfl rfl rfl ?_
    refine D.q 2 rfl rfl rfl rfl rfl rfl ?_
    refine D.q 3 rfl rfl rfl rfl rfl rfl ?_
    refine D.q 4 rfl rfl rfl rfl rfl rfl ?_
    refine D.y 5 (Yl.ldb 1 rfl rfl rfl rfl) rfl rfl rfl rfl rfl rfl ?_
    refine D.y 6 (Yl.ldb 2 rfl rfl rfl rfl) rfl rfl rfl rfl rfl rfl ?_
    refine D.q 7 rfl rfl rfl rfl rfl rfl ?_
    refine D.q 8 rfl rfl rfl rfl rfl rfl ?_
    refine D.q 9 rfl rfl rfl rfl rfl rfl ?_
    refine D.y 10 (Yl.ldb 1 rfl rfl rfl rfl) rfl rfl rfl rfl rfl rfl ?_
    refine D.y 11 (Yl.ldb 2 rfl rfl rfl rfl) rfl rfl rfl rfl rfl rfl ?_
    refine D.q 12 rfl rfl rfl rfl rfl rfl ?_
    refine D.q 13 rfl rfl rfl rfl rfl rfl ?_
    refine D.q 14 rfl rfl rfl rfl rfl rfl ?_
    refine D.y 15 (Yl.ldb 1 rfl rfl rfl rfl) rfl rfl rfl rfl rfl rfl ?_
    refine D.q 16 rfl rfl rfl rfl rfl rfl ?_
    refine D.y 17 (Yl.ldb 2 rfl rfl rfl rfl) rfl rfl rfl rfl rfl rfl ?_
    refine D.q 18 rfl rfl rfl rfl rfl rfl ?_
    refine D.q 19 rfl rfl rfl rfl rfl rfl ?_
    refine D.q 20 rfl rfl rfl rfl rfl rfl ?_
    refine D.y 21 (Yl.ldb 1 rfl rfl rfl rfl) rfl rfl rfl rfl rfl rfl ?_
    refine D.q 22 rfl rfl rfl rfl rfl rfl ?_
    refine D.q 24 rfl rfl rfl rfl rfl rfl ?_
    refine D.one rfl rfl rfl (Dp.a [] [] (Ac.bs (ty := (Ty.int .i64)) (xs := [e71.message.id, e71.message.key, e71.message.base, x95.1, (e71.message.parts.length : Int)]) (.cons () [] rfl (.cons () [] rfl (.cons () [] rfl (.cons () [] rfl (.cons () [] rfl .nil))))) rfl rfl rfl rfl rfl rfl rfl) rfl rfl rfl rfl rfl rfl ?_)
    intro g165
    refine D.q 25 rfl rfl rfl rfl rfl rfl ?_
    refine D.frz 0 rfl ?_
    refine D.one rfl rfl rfl (Dp.a [] [0] (Ac.bs (ty := tyGramGram) (xs := [(GramGram.mk 1 1 [e71.message.id, e71.message.key, e71.message.base, x95.1, (e71.message.parts.length : Int)] x95.2)]) (.cons ((some ⟨g165, 0, none⟩), 5) [0] rfl .nil) rfl rfl rfl rfl rfl rfl rfl) rfl rfl rfl rfl rfl rfl ?_)
    intro g168
    refine D.frz 0 rfl ?_
    obtain ⟨_, h171, H172⟩ := bnd H153
    refine D.one rfl rfl rfl (Dp.a [0] [0] (Ac.ap (ty := tyGramGram) h171 rfl rfl rfl rfl rfl rfl rfl) rfl rfl rfl rfl rfl rfl ?_)
    rintro ⟨a173, c174⟩
    refine D.one rfl rfl rfl (Dp.al [0] [] (Ac.stb rfl rfl rfl rfl rfl rfl) rfl rfl rfl rfl rfl rfl rfl ?_)
    intro _
    refine D.nil rfl rfl ?_
    refine E.block ?_
    have hr := Option.some.inj H172
    subst z152
    exact E.on (a173, c174) [4, 0, 0, 0, 0] [2, 3, 4, 5, 6, 7, 8, 9, 10, 11, 12] rfl rfl rfl rfl
  rintro h180 D181
  refine E.block (E.then (T.seq (T.region ?_)))
  refine L.y (Yl.ldb 2 rfl rfl rfl rfl) rfl rfl rfl ?_
  refine L.q 1 rfl ?_
  refine L.nil (E.then (T.ret ?_))
  have hr := Option.some.inj H179
  subst r
  exact E.retd ((h180.1, h180.2), (a62, c63), (a65, c66), (a68, c69)) 0 [0, 1, 2, 2] [0, 1, 2, 3, 4] rfl (.tmp rfl .nil) rfl rfl rfl

theorem c_law01_Same {a : List Int} {b : List Int} (a_0 : Option Addr) (c_0 : Nat) (a_1 : Option Addr) (c_1 : Nat) {r : Bool} (H : p_law01_Same a b = some r) : CT G 13 [.slice a_0 a.length c_0, .slice a_1 b.length c_1] [] [Im.sl (Ty.int .i64) a_0 c_0 a, Im.sl (Ty.int .i64) a_1 c_1 b] (fun h : Unit => .bool r) (fun h => []) (fun h => []) := by
  delta p_law01_Same at H
  refine CT.of Go.Proofs.Tryz.func13 (by kernel_rfl) rfl rfl rfl fun K => ?_
  refine T.seq (T.region ?_)
  refine L.q 1 rfl ?_
  refine L.nil (E.then (T.seq (T.seq (T.region ?_))))
  refine L.q 5 rfl ?_
  refine L.nil (E.then ?_)
  refine T.bif rfl H (fun hc H2 => ?_) (fun hc H2 => ?_)
  · refine T.seq (T.region ?_)
    refine L.q 1 rfl ?_
    refine L.nil (E.then (T.ret (E.then_ret ?_)))
    have hr := Option.some.inj H2
    subst r
    exact E.ret () [] [] (.tmp rfl .nil) rfl rfl rfl
  refine T.skip (E.then (T.seq (T.seq (T.region ?_))))
  refine L.q 3 rfl ?_
  refine L.nil (E.then ?_)
  obtain ⟨y356, H357, H358⟩ := bnd H2
  refine T.join (η := Unit × Unit) (fun h => y356 = .inl h.1) (fun h => (fun e355 => []) h.1) (fun h => (fun e355 => []) h.1) (fun h => (fun e355 => [Im.sl (Ty.int .i64) a_0 c_0 a, Im.sl (Ty.int .i64) a_1 c_1 b]) h.1) ?_ ?_
  · refine T.block ?_
    refine T.lp (η := Unit) (fun s238 h => [(0, .slice a_0 a.length c_0), (1, .slice a_1 b.length c_1), (12, .int .i64 (a.length : Int)), (13, .int .i64 s238)]) (fun s238 h => []) (fun s238 h => [Im.sl (Ty.int .i64) a_0 c_0 a, Im.sl (Ty.int .i64) a_1 c_1 b]) () [] [0, 1] H357 ⟨rfl, rfl, rfl, rfl, trivial⟩ rfl rfl ?_
    rintro k_ s238 ⟨⟩ z360 H359 hag361 hbr362
    refine T.seq (T.region ?_)
    refine L.q 1 rfl ?_
    refine L.nil (E.then (T.seq ?_))
    refine T.bif rfl H359 (fun hc H364 => ?_) (fun hc H364 => ?_)
    · refine T.skip (E.then (T.seq (T.block (T.seq (T.region ?_)))))
      refine L.q 2 rfl ?_
      refine L.nil (E.then (T.seq ?_))
      refine T.draw [] [] mo (by rfl) rfl ?_
      refine D.q 0 rfl rfl rfl rfl rfl rfl ?_
      refine D.q 1 rfl rfl rfl rfl rfl rfl ?_
      obtain ⟨x464, h465, H466⟩ := bnd H364
      refine D.addr 0 rfl (idx_lt h465) fun b467 o468 e469 => ?_
      obtain rfl : a_0 = some ⟨b467, o468, none⟩ := e469
      refine D.y 2 (Yl.ia h465 rfl rfl rfl rfl rfl rfl) rfl rfl rfl rfl rfl rfl ?_
      refine D.el 0 rfl (idx_some h465).2 ?_
      rintro _
      refine D.y 3 (Yl.ldc 0 0 rfl rfl rfl rfl) rfl rfl rfl rfl rfl rfl ?_
      refine D.q 4 rfl rfl rfl rfl rfl rfl ?_
      refine D.q 5 rfl rfl rfl rfl rfl rfl ?_
      obtain ⟨x471, h472, H473⟩ := bnd H466
      refine D.addr 2 rfl (idx_lt h472) fun b474 o475 e476 => ?_
      obtain rfl : a_1 = some ⟨b474, o475, none⟩ := e476
      refine D.y 6 (Yl.ia h472 rfl rfl rfl rfl rfl rfl) rfl rfl rfl rfl rfl rfl ?_
      refine D.el 2 rfl (idx_some h472).2 ?_
      rintro _
      refine D.y 7 (Yl.ldc 0 0 rfl rfl rfl rfl) rfl rfl rfl rfl rfl rfl ?_
      refine D.q 8 rfl rfl rfl rfl rfl rfl ?_
      refine D.nil rfl rfl ?_
      refine E.then ?_
      refine T.bif rfl H473 (fun hc H478 => ?_) (fun hc H478 => ?_)
      · refine T.seq (T.region ?_)
        refine L.q 1 rfl ?_
        refine L.nil (E.then (T.ret (E.block_ret (E.then_ret (E.then_ret (E.block_ret ?_))))))
        obtain ⟨w479, hz, H480⟩ := inrr_some H478
        subst z360
        have hb := hbr362 _ rfl
        subst y356
        have hw : w479 = r := Option.some.inj H358
        subst w479
        refine E.then_ret ?_
        have hr := Option.some.inj H480
        subst r
        exact E.ret () [] [] (.tmp rfl .nil) rfl rfl rfl
      refine T.skip (E.block (E.then (T.region ?_)))
      refine L.q 2 rfl ?_
      refine L.nil ?_
      have hr := Option.some.inj H478
      subst z360
      exact E.give (_, ()) [] [2, 3] (hag361 _ rfl) ⟨rfl, rfl, rfl, rfl, trivial⟩ rfl rfl
    refine T.exit (E.then_exit' (E.then_exit' (E.block_here ?_)))
    have hr := Option.some.inj H364
    subst z360
    have hb := hbr362 _ rfl
    subst y356
    exact E.give (_, ()) [] [0, 1] rfl trivial rfl rfl
  rintro ⟨e355, ⟨⟩⟩ hy
  subst hy
  refine T.seq (T.region ?_)
  refine L.q 1 rfl ?_
  refine L.nil (E.then (T.ret ?_))
  have hr := Option.some.inj H358
  subst r
  exact E.ret () [] [] (.tmp rfl .nil) rfl rfl rfl

theorem c_law19_awake {r : Bool} (H : p_law19_awake = some r) : CT G 4 [] [] [Im.sl (Ty.int .u32) (some ⟨0, 0, none⟩) 16 t_sum_half] (fun h : Unit => .bool r) (fun h => []) (fun h => []) := by
  delta p_law19_awake at H
  refine CT.of Go.Proofs.Tryz.func4 (by kernel_rfl) rfl rfl rfl fun K => ?_
  refine T.seq (T.region ?_)
  refine L.q 1 rfl ?_
  refine L.nil (E.then (T.seq (T.region ?_)))
  refine L.q 1 rfl ?_
  obtain ⟨r1, h2, H3⟩ := bnd H
  refine L.a [] [] (Ac.call (c_sender_New h2) rfl rfl rfl rfl) rfl rfl rfl rfl rfl ?_
  rintro ⟨g4, ⟨a5, c6⟩, ⟨a7, c8⟩, ⟨a9, c10⟩, ⟨a11, c12⟩, ⟨a13, c14⟩, ⟨a15, c16⟩, ⟨a17, c18⟩⟩
  refine L.q 1 rfl ?_
  refine L.nil (E.then (T.seq (T.seq (T.region ?_))))
  refine L.q 1 rfl ?_
  refine L.y (Yl.pn rfl rfl rfl rfl rfl rfl) rfl rfl rfl ?_
  refine L.q 2 rfl ?_
  obtain ⟨r50, h51, H52⟩ := bnd H3
  refine L.a [] [] (Ac.call (c_row_Blank h51) rfl rfl rfl rfl) rfl rfl rfl rfl rfl ?_
  rintro ⟨a53, c54⟩
  refine L.a [] [0] (Ac.bs (ty := tyRowRow) (xs := [r50]) (.cons (a53, c54) [0] rfl .nil) rfl rfl rfl rfl rfl rfl rfl) rfl rfl rfl rfl rfl ?_
  intro g56
  refine L.q 1 rfl ?_
  refine L.frz 0 rfl ?_
  refine L.know [Im.sl tyRowGlyph none 0 []] (fun A w _ _ f hf => by rw [List.mem_singleton.1 hf]; exact Im.sl_nil A w) ?_
  obtain ⟨r60, h61, H62⟩ := bnd H52
  refine L.a [0, 0, 0] [3, 4, 5, 6, 7, 1, 0] (Ac.call (c_sender_Sender_Note g4 a5 c6 a7 c8 a9 c10 a11 c12 a13 c14 a15 c16 a17 c18 (some ⟨g56, 0, none⟩) 1 none 0 h61) rfl rfl rfl rfl) rfl rfl rfl rfl rfl ?_
  rintro ⟨⟨a63, c64⟩, ⟨a65, c66⟩⟩
  refine L.q 2 rfl ?_
  refine L.nil (E.then ?_)
  refine T.bif rfl H62 (fun hc H75 => ?_) (fun hc H75 => ?_)
  · refine T.seq (T.region ?_)
    refine L.q 1 rfl ?_
    refine L.nil (E.then (T.ret (E.then_ret ?_)))
    have hr := Option.some.inj H75
    subst r
    exact E.ret () [] [] (.tmp rfl .nil) rfl rfl rfl
  refine T.skip (E.then (T.seq (T.region ?_)))
  refine L.q 1 rfl ?_
  obtain ⟨r76, h77, H78⟩ := bnd H75
  refine L.a [0, 0, 0] [0, 1, 2, 3, 4, 13] (Ac.call (c_sender_Sender_Step g4 a63 c64 a65 c66 a9 c10 a11 c12 a13 c14 a15 c16 a17 c18 h77) rfl rfl rfl rfl) rfl rfl rfl rfl rfl ?_
  rintro ⟨⟨a79, c80⟩, ⟨a81, c82⟩, ⟨a83, c84⟩, ⟨a85, c86⟩⟩
  refine L.q 1 rfl ?_
  refine L.nil (E.then (T.seq ?_))
  obtain ⟨e232, H233, H234⟩ := bnd H78
  refine T.join (η := Unit × ((Option Addr × Nat) × (Option Addr × Nat) × (Option Addr × Nat))) (fun h => True) (fun h => (fun a223 c224 a226 c227 a229 c230 => [(0, .bool e232.1)]) h.2.1.1 h.2.1.2 h.2.2.1.1 h.2.2.1.2 h.2.2.2.1 h.2.2.2.2) (fun h => (fun a223 c224 a226 c227 a229 c230 => [Ch.aro tySnapSnap 43 a223 c224 e232.2.kept, Ch.arr Ty.bool 4 a229 c230 e232.2.message.there, Ch.box g4 67 (bx67 e232.2 a63 c64 a65 c66 a9 c10 a11 c12 a223 c224 a226 c227 a229 c230)]) h.2.1.1 h.2.1.2 h.2.2.1.1 h.2.2.1.2 h.2.2.2.1 h.2.2.2.2) (fun h => (fun a223 c224 a226 c227 a229 c230 => [Im.sl tyRowRow a63 c64 e232.2.current.rows, Im.sl tyRowGlyph a65 c66 e232.2.current.begun, Im.sl tyRowRow a9 c10 e232.2.acked.rows, Im.sl tyRowGlyph a11 c12 e232.2.acked.begun, Im.sl Ty.str a226 c227 e232.2.message.parts, Im.sl tyRowRow a63 c64 r76.2.current.rows, Im.sl tyRowGlyph a65 c66 r76.2.current.begun, Im.sl tyRowRow a9 c10 r76.2.acked.rows, Im.sl tyRowGlyph a11 c12 r76.2.acked.begun, Im.sl Ty.str a83 c84 r76.2.message.parts, Im.sl tyRowRow a63 c64 r60.2.current.rows, Im.sl tyRowGlyph a65 c66 r60.2.current.begun, Im.sl tyRowRow a9 c10 r60.2.acked.rows, Im.sl tyRowGlyph a11 c12 r60.2.acked.begun, Im.sl Ty.str a15 c16 r60.2.message.parts, Im.sl tyRowGlyph none 0 [], Im.sl tyRowRow (some ⟨g56, 0, none⟩) 1 [r50], Im.sl tyRowCell a53 c54 r50.cells, Im.sl tyRowRow a5 c6 r1.current.rows, Im.sl tyRowGlyph a7 c8 r1.current.begun, Im.sl tyRowRow a9 c10 r1.acked.rows, Im.sl tyRowGlyph a11 c12 r1.acked.begun, Im.sl Ty.str a15 c16 r1.message.parts, Im.sl (Ty.int .u32) (some ⟨0, 0, none⟩) 16 t_sum_half]) h.2.1.1 h.2.1.2 h.2.2.1.1 h.2.2.1.2 h.2.2.2.1 h.2.2.2.2) ?_ ?_
  · refine T.region ?_
    refine L.q 4 rfl ?_
    refine L.cs 20 H233 rfl (fun hc H235 => ?_) (fun hc H235 => ?_)
    · refine L.q 1 rfl ?_
      obtain ⟨x236, h237, H238⟩ := bnd H235
      refine L.addro 0 rfl (idx_lt h237) fun b239 e240 => ?_
      obtain rfl : a79 = some ⟨b239, 0, none⟩ := e240
      refine L.y (Yl.ia h237 rfl rfl rfl rfl rfl rfl) rfl rfl rfl ?_
      refine L.q 1 rfl ?_
      refine L.a [0] [] (Ac.lo ((0 : Int).toNat) 1 (v := (fun h : (Option Addr × Nat) => (fun a241 c242 => .int .i64 x236.kind) h.1 h.2)) (idx_some h237).2 rfl rfl rfl (fun _ => rfl)) rfl rfl rfl rfl rfl ?_
      rintro ⟨a241, c242⟩
      refine L.q 3 rfl ?_
      refine L.cs 27 H238 rfl (fun hc H244 => ?_) (fun hc H244 => ?_)
      · refine L.q 1 rfl ?_
        obtain ⟨x245, h246, H247⟩ := bnd H244
        refine L.y (Yl.ia h246 rfl rfl rfl rfl rfl rfl) rfl rfl rfl ?_
        refine L.q 1 rfl ?_
        refine L.a [0] [] (Ac.lo ((0 : Int).toNat) 2 (v := (fun h : (Option Addr × Nat) => (fun a248 c249 => .slice a248 x245.nums.length c249) h.1 h.2)) (idx_some h246).2 rfl rfl rfl (fun _ => rfl)) rfl rfl rfl rfl rfl ?_
        rintro ⟨a248, c249⟩
        refine L.a [] [] (Ac.bs (ty := (Ty.int .i64)) (xs := [1, 1, 0, 0, 1]) (.cons () [] rfl (.cons () [] rfl (.cons () [] rfl (.cons () [] rfl (.cons () [] rfl .nil))))) rfl rfl rfl rfl rfl rfl rfl) rfl rfl rfl rfl rfl ?_
        intro g251
        obtain ⟨r253, h254, H255⟩ := bnd H247
        refine L.br (Ac.call (c_law01_Same a248 c249 (some ⟨g251, 0, none⟩) 5 h254) rfl rfl rfl rfl) (Bw.im 0 rfl (Bw.ch 0 rfl (Bw.nil))) rfl rfl rfl ?_
        intro _
        refine L.q 2 rfl ?_
        refine L.cs 35 H255 rfl (fun hc H256 => ?_) (fun hc H256 => ?_)
        · refine L.q 1 rfl ?_
          obtain ⟨r257, h258, H259⟩ := bnd H256
          refine L.a [2, 2, 2] [2, 3, 4, 5, 6, 20] (Ac.call (c_sender_Sender_Step g4 a63 c64 a65 c66 a9 c10 a11 c12 a81 c82 a83 c84 a85 c86 h258) rfl rfl rfl rfl) rfl rfl rfl rfl rfl ?_
          rintro ⟨⟨a260, c261⟩, ⟨a262, c263⟩, ⟨a264, c265⟩, ⟨a266, c267⟩⟩
          refine L.q 4 rfl ?_
          refine L.cs 41 H259 rfl (fun hc H276 => ?_) (fun hc H276 => ?_)
          · refine L.q 1 rfl ?_
            obtain ⟨r277, h278, H279⟩ := bnd H276
            refine L.a [1, 1, 1] [0, 1, 2, 3, 4, 25] (Ac.call (c_sender_Sender_Step g4 a63 c64 a65 c66 a9 c10 a11 c12 a262 c263 a264 c265 a266 c267 h278) rfl rfl rfl rfl) rfl rfl rfl rfl rfl ?_
            rintro ⟨⟨a280, c281⟩, ⟨a282, c283⟩, ⟨a284, c285⟩, ⟨a286, c287⟩⟩
            refine L.q 4 rfl ?_
            refine L.nil ?_
            have hr := Option.some.inj H279
            subst e232
            exact E.give ((), ((a282, c283), (a284, c285), (a286, c287))) [2, 2, 1] [0, 1, 2, 3, 4, 12, 13, 14, 15, 16, 17, 18, 19, 20, 21, 22, 23, 24, 25, 26, 27, 28, 29, 30] trivial ⟨rfl, trivial⟩ rfl rfl
          refine L.q 6 rfl ?_
          refine L.nil ?_
          have hr := Option.some.inj H276
          subst e232
          exact E.give ((), ((a262, c263), (a264, c265), (a266, c267))) [2, 2, 1] [0, 1, 2, 3, 4, 7, 8, 9, 10, 11, 12, 13, 14, 15, 16, 17, 18, 19, 20, 21, 22, 23, 24, 25] trivial ⟨rfl, trivial⟩ rfl rfl
        refine L.q 12 rfl ?_
        refine L.nil ?_
        have hr := Option.some.inj H256
        subst e232
        exact E.give ((), ((a81, c82), (a83, c84), (a85, c86))) [3, 3, 2] [2, 3, 4, 5, 6, 2, 3, 4, 5, 6, 7, 8, 9, 10, 11, 12, 13, 14, 15, 16, 17, 18, 19, 20] trivial ⟨rfl, trivial⟩ rfl rfl
      refine L.q 20 rfl ?_
      refine L.nil ?_
      have hr := Option.some.inj H244
      subst e232
      exact E.give ((), ((a81, c82), (a83, c84), (a85, c86))) [2, 2, 1] [1, 2, 3, 4, 5, 1, 2, 3, 4, 5, 6, 7, 8, 9, 10, 11, 12, 13, 14, 15, 16, 17, 18, 19] trivial ⟨rfl, trivial⟩ rfl rfl
    refine L.q 27 rfl ?_
    refine L.nil ?_
    have hr := Option.some.inj H235
    subst e232
    exact E.give ((), ((a81, c82), (a83, c84), (a85, c86))) [2, 2, 1] [0, 1, 2, 3, 4, 0, 1, 2, 3, 4, 5, 6, 7, 8, 9, 10, 11, 12, 13, 14, 15, 16, 17, 18] trivial ⟨rfl, trivial⟩ rfl rfl
  rintro ⟨_, ⟨⟨a223, c224⟩, ⟨a226, c227⟩, ⟨a229, c230⟩⟩⟩ _
  refine T.ret ?_
  have hr := Option.some.inj H234
  subst r
  exact E.ret () [] [] (.tmp rfl .nil) rfl rfl rfl

theorem c_ref19_Clip {c : Ref19Config} {r : Ref19Config} (H : p_ref19_Clip c = some r) : CT G 15 [.agg #[.int .i64 c.part, .int .i64 c.every, .int .i64 c.most]] [] [] (fun h : Unit => .agg #[.int .i64 r.part, .int .i64 r.every, .int .i64 r.most]) (fun h => []) (fun h => []) := by
  delta p_ref19_Clip at H
  refine CT.of Go.Proofs.Tryz.func15 (by kernel_rfl) rfl rfl rfl fun K => ?_
  refine T.seq (T.region ?_)
  refine L.a [] [] (Ac.box rfl rfl) rfl rfl rfl rfl rfl ?_
  intro g1
  refine L.a [] [] (Ac.alloc rfl rfl) rfl rfl rfl rfl rfl ?_
  intro g2
  refine L.nil (E.then (T.seq (T.region ?_)))
  refine L.q 1 rfl ?_
  refine L.y (Yl.ldb 1 rfl rfl rfl rfl) rfl rfl rfl ?_
  refine L.q 3 rfl ?_
  refine L.y (Yl.ldb 1 rfl rfl rfl rfl) rfl rfl rfl ?_
  refine L.q 3 rfl ?_
  refine L.y (Yl.ldb 1 rfl rfl rfl rfl) rfl rfl rfl ?_
  refine L.q 3 rfl ?_
  refine L.a [0] [] (Ac.stb rfl rfl rfl rfl rfl rfl) rfl rfl rfl rfl rfl ?_
  intro _
  refine L.nil (E.then (T.ret ?_))
  have hr := Option.some.inj H
  subst r
  exact E.ret () [] [] (.cell 0 rfl rfl rfl .nil) rfl rfl rfl

theorem c_ref19_New {c : Ref19Config} {r : Ref19Sender} (H : p_ref19_New c = some r) : CT G 6 [.agg #[.int .i64 c.part, .int .i64 c.every, .int .i64 c.most]] [] [] (fun h : (Option Addr × Nat) × (Option Addr × Nat) × (Option Addr × Nat) × (Option Addr × Nat) × (Option Addr × Nat) × (Option Addr × Nat) × (Option Addr × Nat) => .agg (bx38 r h.1.1 h.1.2 h.2.1.1 h.2.1.2 h.2.2.1.1 h.2.2.1.2 h.2.2.2.1.1 h.2.2.2.1.2 h.2.2.2.2.1.1 h.2.2.2.2.1.2 h.2.2.2.2.2.1.1 h.2.2.2.2.2.1.2 h.2.2.2.2.2.2.1 h.2.2.2.2.2.2.2).toArray) (fun h => []) (fun h => [Im.sl tyRef09Row h.1.1 h.1.2 r.current.rows, Im.sl tyRef09Glyph h.2.1.1 h.2.1.2 r.current.begun, Im.sl tyRef09Row h.2.2.1.1 h.2.2.1.2 r.acked.rows, Im.sl tyRef09Glyph h.2.2.2.1.1 h.2.2.2.1.2 r.acked.begun, Im.sl tyRef16Snap h.2.2.2.2.1.1 h.2.2.2.2.1.2 r.kept, Im.sl Ty.str h.2.2.2.2.2.1.1 h.2.2.2.2.2.1.2 r.parts, Im.sl Ty.bool h.2.2.2.2.2.2.1 h.2.2.2.2.2.2.2 r.there]) := by
  delta p_ref19_New at H
  refine CT.of Go.Proofs.Tryz.func6 (by kernel_rfl) rfl rfl rfl fun K => ?_
  refine T.seq (T.region ?_)
  refine L.a [] [] (Ac.box rfl rfl) rfl rfl rfl rfl rfl ?_
  intro g1
  refine L.a [] [] (Ac.alloc rfl rfl) rfl rfl rfl rfl rfl ?_
  intro g2
  refine L.nil (E.then (T.seq (T.region ?_)))
  refine L.y (Yl.ldb 1 rfl rfl rfl rfl) rfl rfl rfl ?_
  obtain ⟨r3, h4, H5⟩ := bnd H
  refine L.a [] [] (Ac.call (c_ref19_Clip h4) rfl rfl rfl rfl) rfl rfl rfl rfl rfl ?_
  rintro ⟨⟩
  refine L.q 1 rfl ?_
  refine L.a [0] [] (Ac.stb rfl rfl rfl rfl rfl rfl) rfl rfl rfl rfl rfl ?_
  intro _
  refine L.nil (E.then (T.ret ?_))
  refine E.know [Im.sl tyRef09Row none 0 []] (fun A w _ _ f hf => by rw [List.mem_singleton.1 hf]; exact Im.sl_nil A w) ?_
  refine E.know [Im.sl tyRef09Glyph none 0 []] (fun A w _ _ f hf => by rw [List.mem_singleton.1 hf]; exact Im.sl_nil A w) ?_
  refine E.know [Im.sl tyRef09Row none 0 []] (fun A w _ _ f hf => by rw [List.mem_singleton.1 hf]; exact Im.sl_nil A w) ?_
  refine E.know [Im.sl tyRef09Glyph none 0 []] (fun A w _ _ f hf => by rw [List.mem_singleton.1 hf]; exact Im.sl_nil A w) ?_
  refine E.know [Im.sl tyRef16Snap none 0 []] (fun A w _ _ f hf => by rw [List.mem_singleton.1 hf]; exact Im.sl_nil A w) ?_
  refine E.know [Im.sl Ty.str none 0 []] (fun A w _ _ f hf => by rw [List.mem_singleton.1 hf]; exact Im.sl_nil A w) ?_
  refine E.know [Im.sl Ty.bool none 0 []] (fun A w _ _ f hf => by rw [List.mem_singleton.1 hf]; exact Im.sl_nil A w) ?_
  have hr := Option.some.inj H5
  subst r
  exact E.ret ((none, 0), (none, 0), (none, 0), (none, 0), (none, 0), (none, 0), (none, 0)) [] [6, 5, 4, 3, 2, 1, 0] (.cell 0 rfl rfl rfl .nil) rfl rfl rfl

theorem c_law01_Cut {s_ : ByteArray} {n_ : Int} {r : ByteArray} (H : p_law01_Cut s_ n_ = some r) : CT G 21 [.string s_, .int .i64 n_] [] [] (fun h : Unit => .string r) (fun h => []) (fun h => []) := by
  delta p_law01_Cut at H
  refine CT.of Go.Proofs.Tryz.func21 (by kernel_rfl) rfl rfl rfl fun K => ?_
  refine T.seq (T.region ?_)
  refine L.q 1 rfl ?_
  refine L.nil (E.then (T.seq (T.seq (T.region ?_))))
  refine L.q 4 rfl ?_
  refine L.nil (E.then ?_)
  refine T.bif rfl H (fun hc H4 => ?_) (fun hc H4 => ?_)
  · refine T.seq (T.region ?_)
    refine L.q 2 rfl ?_
    obtain ⟨_, h5, H6⟩ := bnd H4
    refine L.y (Yl.sc h5 rfl rfl rfl rfl rfl rfl) rfl rfl rfl ?_
    refine L.q 1 rfl ?_
    refine L.nil (E.then (T.ret (E.then_ret ?_)))
    have hr := Option.some.inj H6
    subst r
    exact E.ret () [] [] (.tmp rfl .nil) rfl rfl rfl
  refine T.skip (E.then (T.seq (T.region ?_)))
  refine L.q 2 rfl ?_
  refine L.nil (E.then (T.ret ?_))
  have hr := Option.some.inj H4
  subst r
  exact E.ret () [] [] (.tmp rfl .nil) rfl rfl rfl

theorem c_law09_Any {l : List RowCell} {wrapped : Bool} (a_0 : Option Addr) (c_0 : Nat) {r : RowRow} (H : p_law09_Any l wrapped = some r) : CT G 38 [.slice a_0 l.length c_0, .bool wrapped] [] [Im.sl tyRowCell a_0 c_0 l] (fun h : (Option Addr × Nat) => .agg #[.slice h.1 r.cells.length h.2, .bool r.wrapped]) (fun h => []) (fun h => [Im.sl tyRowCell h.1 h.2 r.cells]) := by
  delta p_law09_Any at H
  refine CT.of Go.Proofs.Tryz.func38 (by kernel_rfl) rfl rfl rfl fun K => ?_
  refine T.seq (T.region ?_)
  refine L.a [] [] (Ac.alloc rfl rfl) rfl rfl rfl rfl rfl ?_
  intro g1
  refine L.nil (E.then (T.seq (T.region ?_)))
  refine L.a [] [] (Ac.bs (ty := tyRowCell) (xs := []) .nil rfl rfl rfl rfl rfl rfl rfl) rfl rfl rfl rfl rfl ?_
  intro g2
  refine L.q 4 rfl ?_
  obtain ⟨_, h4, H5⟩ := bnd H
  refine L.rs 0 h4 rfl rfl rfl rfl rfl rfl rfl rfl rfl rfl rfl rfl ?_
  intro a6 c7
  obtain ⟨_, h9, H10⟩ := bnd H5
  refine L.a [0] [0] (Ac.ap (ty := tyRowCell) h9 rfl rfl rfl rfl rfl rfl rfl) rfl rfl rfl rfl rfl ?_
  rintro ⟨a11, c12⟩
  refine L.q 2 rfl ?_
  refine L.a [1] [] (Ac.stb rfl rfl rfl rfl rfl rfl) rfl rfl rfl rfl rfl ?_
  intro _
  refine L.nil (E.then (T.ret ?_))
  refine E.frz 1 rfl ?_
  have hr := Option.some.inj H10
  subst r
  exact E.ret (a11, c12) [] [0] (.cell 0 rfl rfl rfl .nil) rfl rfl rfl

theorem c_law16_Cut {s_ : SnapSnap} (a_0_0 : Option Addr) (c_0_0 : Nat) (a_0_1 : Option Addr) (c_0_1 : Nat) {r : SnapSnap} (H : p_law16_Cut s_ = some r) : CT G 16 [.agg (bx43 s_ a_0_0 c_0_0 a_0_1 c_0_1).toArray] [] [Im.sl tyRowRow a_0_0 c_0_0 s_.rows, Im.sl tyRowGlyph a_0_1 c_0_1 s_.begun] (fun h : (Option Addr × Nat) × (Option Addr × Nat) => .agg (bx43 r h.1.1 h.1.2 h.2.1 h.2.2).toArray) (fun h => []) (fun h => [Im.sl tyRowRow h.1.1 h.1.2 r.rows, Im.sl tyRowGlyph h.2.1 h.2.2 r.begun]) := by
  delta p_law16_Cut at H
  refine CT.of Go.Proofs.Tryz.func16 (by kernel_rfl) rfl rfl rfl fun K => ?_
  refine T.seq (T.region ?_)
  refine L.a [] [] (Ac.box rfl rfl) rfl rfl rfl rfl rfl ?_
  intro g1
  refine L.a [] [] (Ac.alloc rfl rfl) rfl rfl rfl rfl rfl ?_
  intro g2
  refine L.nil (E.then (T.seq (T.region ?_)))
  refine L.q 1 rfl ?_
  refine L.y (Yl.ldb 1 rfl rfl rfl rfl) rfl rfl rfl ?_
  obtain ⟨r3, h4, H5⟩ := bnd H
  refine L.a [] [] (Ac.call (c_law01_Cut h4) rfl rfl rfl rfl) rfl rfl rfl rfl rfl ?_
  rintro ⟨⟩
  refine L.q 1 rfl ?_
  refine L.a [1] [] (Ac.stb rfl rfl rfl rfl rfl rfl) rfl rfl rfl rfl rfl ?_
  intro _
  refine L.nil (E.then (T.seq (T.region ?_)))
  refine L.a [] [] (Ac.bs (ty := tyRowGlyph) (xs := []) .nil rfl rfl rfl rfl rfl rfl rfl) rfl rfl rfl rfl rfl ?_
  intro g6
  refine L.q 1 rfl ?_
  refine L.y (Yl.ldb 1 rfl rfl rfl rfl) rfl rfl rfl ?_
  refine L.q 1 rfl ?_
  refine L.y (Yl.ldb 1 rfl rfl rfl rfl) rfl rfl rfl ?_
  refine L.q 2 rfl ?_
  obtain ⟨_, h8, H9⟩ := bnd H5
  refine L.rs 1 h8 rfl rfl rfl rfl rfl rfl rfl rfl rfl rfl rfl rfl ?_
  intro a10 c11
  obtain ⟨_, h13, H14⟩ := bnd H9
  refine L.a [0] [0] (Ac.ap (ty := tyRowGlyph) h13 rfl rfl rfl rfl rfl rfl rfl) rfl rfl rfl rfl rfl ?_
  rintro ⟨a15, c16⟩
  refine L.q 1 rfl ?_
  refine L.a [1] [] (Ac.stb rfl rfl rfl rfl rfl rfl) rfl rfl rfl rfl rfl ?_
  intro _
  refine L.nil (E.then (T.seq (T.region ?_)))
  refine L.q 1 rfl ?_
  refine L.nil (E.then (T.seq (T.seq (T.region ?_))))
  refine L.q 1 rfl ?_
  refine L.nil (E.then ?_)
  obtain ⟨e441, H442, H443⟩ := bnd H14
  refine T.join (η := Unit × ((Option Addr × Nat))) (fun h => True) (fun h => (fun a438 c439 => [(1, .pointer (some ⟨g1, 0, none⟩)), (2, .pointer (some ⟨g2, 0, none⟩)), (3, .slice a438 e441.length c439)]) h.2.1 h.2.2) (fun h => (fun a438 c439 => [Ch.arr tyRowRow 54 a438 c439 e441, Ch.box g1 43 [.int .i64 s_.k, .int .i64 s_.w, .int .i64 s_.h, .int .i64 s_.x, .int .i64 s_.y, .string r3, .slice a_0_0 s_.rows.length c_0_0, .int .i64 s_.len, .int .i64 s_.chain, .slice a15 (([] : List RowGlyph) ++ (cut s_.begun 0 (imin (s_.begun.length : Int) 30))).length c16], Ch.box g2 43 [.int .i64 0, .int .i64 0, .int .i64 0, .int .i64 0, .int .i64 0, .string (ByteArray.mk #[]), .slice none 0 0, .int .i64 0, .int .i64 0, .slice none 0 0], Ch.arr tyRowGlyph 107 a15 c16 (([] : List RowGlyph) ++ (cut s_.begun 0 (imin (s_.begun.length : Int) 30)))]) h.2.1 h.2.2) (fun h => (fun a438 c439 => [Im.sl tyRowGlyph a10 c11 (cut s_.begun 0 (imin (s_.begun.length : Int) 30)), Im.sl tyRowRow a_0_0 c_0_0 s_.rows, Im.sl tyRowGlyph a_0_1 c_0_1 s_.begun]) h.2.1 h.2.2) ?_ ?_
  · refine T.block ?_
    refine T.nil0 tyRowRow 54 ?_
    refine T.lp (η := (Option Addr × Nat)) (fun s303 h => (fun a299 c300 => [(1, .pointer (some ⟨g1, 0, none⟩)), (2, .pointer (some ⟨g2, 0, none⟩)), (3, .slice a299 s303.1.length c300), (4, .int .i64 s303.2)]) h.1 h.2) (fun s303 h => (fun a299 c300 => [Ch.arr tyRowRow 54 a299 c300 s303.1, Ch.box g1 43 [.int .i64 s_.k, .int .i64 s_.w, .int .i64 s_.h, .int .i64 s_.x, .int .i64 s_.y, .string r3, .slice a_0_0 s_.rows.length c_0_0, .int .i64 s_.len, .int .i64 s_.chain, .slice a15 (([] : List RowGlyph) ++ (cut s_.begun 0 (imin (s_.begun.length : Int) 30))).length c16], Ch.box g2 43 [.int .i64 0, .int .i64 0, .int .i64 0, .int .i64 0, .int .i64 0, .string (ByteArray.mk #[]), .slice none 0 0, .int .i64 0, .int .i64 0, .slice none 0 0], Ch.arr tyRowGlyph 107 a15 c16 (([] : List RowGlyph) ++ (cut s_.begun 0 (imin (s_.begun.length : Int) 30)))]) h.1 h.2) (fun s303 h => (fun a299 c300 => [Im.sl tyRowGlyph a10 c11 (cut s_.begun 0 (imin (s_.begun.length : Int) 30)), Im.sl tyRowRow a_0_0 c_0_0 s_.rows, Im.sl tyRowGlyph a_0_1 c_0_1 s_.begun]) h.1 h.2) (none, 0) [0, 0, 1, 0] [0, 1, 2] H442 ⟨rfl, rfl, rfl, rfl, trivial⟩ rfl rfl ?_
    rintro k_ s303 ⟨a299, c300⟩ z445 H444 hag446 hbr447
    refine T.seq (T.seq ?_)
    obtain ⟨e451, H452, H453⟩ := bnd H444
    refine T.join (η := Unit × Unit) (fun h => True) (fun h => [(1, .pointer (some ⟨g1, 0, none⟩)), (2, .pointer (some ⟨g2, 0, none⟩)), (3, .slice a299 s303.1.length c300), (4, .int .i64 s303.2), (27, .bool e451)]) (fun h => [Ch.box g1 43 [.int .i64 s_.k, .int .i64 s_.w, .int .i64 s_.h, .int .i64 s_.x, .int .i64 s_.y, .string r3, .slice a_0_0 s_.rows.length c_0_0, .int .i64 s_.len, .int .i64 s_.chain, .slice a15 (([] : List RowGlyph) ++ (cut s_.begun 0 (imin (s_.begun.length : Int) 30))).length c16], Ch.box g2 43 [.int .i64 0, .int .i64 0, .int .i64 0, .int .i64 0, .int .i64 0, .string (ByteArray.mk #[]), .slice none 0 0, .int .i64 0, .int .i64 0, .slice none 0 0], Ch.arr tyRowRow 54 a299 c300 s303.1, Ch.arr tyRowGlyph 107 a15 c16 (([] : List RowGlyph) ++ (cut s_.begun 0 (imin (s_.begun.length : Int) 30)))]) (fun h => [Im.sl tyRowGlyph a10 c11 (cut s_.begun 0 (imin (s_.begun.length : Int) 30)), Im.sl tyRowRow a_0_0 c_0_0 s_.rows, Im.sl tyRowGlyph a_0_1 c_0_1 s_.begun]) ?_ ?_
    · refine T.region ?_
      refine L.q 2 rfl ?_
      refine L.y (Yl.ldb 1 rfl rfl rfl rfl) rfl rfl rfl ?_
      refine L.q 3 rfl ?_
      refine L.cs 24 H452 rfl (fun hc H454 => ?_) (fun hc H454 => ?_)
      · refine L.q 3 rfl ?_
        refine L.nil ?_
        have hr := Option.some.inj H454
        subst e451
        exact E.give ((), ()) [1, 1, 0, 0] [0, 1, 2] trivial ⟨rfl, rfl, rfl, rfl, rfl, trivial⟩ rfl rfl
      refine L.q 3 rfl ?_
      refine L.nil ?_
      have hr := Option.some.inj H454
      subst e451
      exact E.give ((), ()) [1, 1, 0, 0] [0, 1, 2] trivial ⟨rfl, rfl, rfl, rfl, rfl, trivial⟩ rfl rfl
    rintro ⟨_, ⟨⟩⟩ _
    refine T.bif rfl H453 (fun hc H456 => ?_) (fun hc H456 => ?_)
    · refine T.skip (E.then (T.seq (T.block ?_)))
      refine T.draw [] [0, 0, 1] mo (by rfl) rfl ?_
      refine D.q 0 rfl rfl rfl rfl rfl rfl ?_
      refine D.q 1 rfl rfl rfl rfl rfl rfl ?_
      refine D.y 2 (Yl.ldb 0 rfl rfl rfl rfl) rfl rfl rfl rfl rfl rfl ?_
      refine D.q 3 rfl rfl rfl rfl rfl rfl ?_
      obtain ⟨x550, h551, H552⟩ := bnd H456
      refine D.addr 1 rfl (idx_lt h551) fun b553 o554 e555 => ?_
      obtain rfl : a_0_0 = some ⟨b553, o554, none⟩ := e555
      refine D.y 4 (Yl.ia h551 rfl rfl rfl rfl rfl rfl) rfl rfl rfl rfl rfl rfl ?_
      refine D.el 1 rfl (idx_some h551).2 ?_
      rintro ⟨a556, c557⟩
      refine D.q 5 rfl rfl rfl rfl rfl rfl ?_
      refine D.y 6 (Yl.ldc 0 0 rfl rfl rfl rfl) rfl rfl rfl rfl rfl rfl ?_
      refine D.q 7 rfl rfl rfl rfl rfl rfl ?_
      refine D.y 8 (Yl.ldb 0 rfl rfl rfl rfl) rfl rfl rfl rfl rfl rfl ?_
      refine D.q 9 rfl rfl rfl rfl rfl rfl ?_
      obtain ⟨x560, h561, H562⟩ := bnd H552
      refine D.y 10 (Yl.ia h561 rfl rfl rfl rfl rfl rfl) rfl rfl rfl rfl rfl rfl ?_
      refine D.el 3 rfl (idx_some h561).2 ?_
      rintro ⟨a563, c564⟩
      refine D.q 11 rfl rfl rfl rfl rfl rfl ?_
      refine D.y 12 (Yl.ldc 0 1 rfl rfl rfl rfl) rfl rfl rfl rfl rfl rfl ?_
      obtain ⟨r567, h568, H569⟩ := bnd H562
      refine D.one rfl rfl rfl (Dp.a [] [3] (Ac.call (c_law09_Any a556 c557 h568) rfl rfl rfl rfl) rfl rfl rfl rfl rfl rfl ?_)
      rintro ⟨a570, c571⟩
      refine D.one rfl rfl rfl (Dp.a [] [0] (Ac.bs (ty := tyRowRow) (xs := [r567]) (.cons (a570, c571) [0] rfl .nil) rfl rfl rfl rfl rfl rfl rfl) rfl rfl rfl rfl rfl rfl ?_)
      intro g573
      refine D.frz 0 rfl ?_
      obtain ⟨_, h576, H577⟩ := bnd H569
      refine D.one rfl rfl rfl (Dp.a [0] [0] (Ac.ap (ty := tyRowRow) h576 rfl rfl rfl rfl rfl rfl rfl) rfl rfl rfl rfl rfl rfl ?_)
      rintro ⟨a578, c579⟩
      refine D.q 16 rfl rfl rfl rfl rfl rfl ?_
      refine D.nil rfl rfl ?_
      refine E.block (E.then (T.region ?_))
      refine L.q 3 rfl ?_
      refine L.nil ?_
      have hr := Option.some.inj H577
      subst z445
      exact E.give (_, (a578, c579)) [3, 0, 0, 0] [6, 7, 8] (hag446 _ rfl) ⟨rfl, rfl, rfl, rfl, trivial⟩ rfl rfl
    refine T.exit (E.then_exit' (E.then_exit' (E.block_here ?_)))
    have hr := Option.some.inj H456
    subst z445
    have hb := hbr447 _ rfl
    subst e441
    exact E.give ((), (a299, c300)) [2, 0, 0, 0] [0, 1, 2] trivial ⟨rfl, rfl, rfl, trivial⟩ rfl rfl
  rintro ⟨_, ⟨a438, c439⟩⟩ _
  refine T.seq (T.region ?_)
  refine L.q 2 rfl ?_
  refine L.a [1] [] (Ac.stb rfl rfl rfl rfl rfl rfl) rfl rfl rfl rfl rfl ?_
  intro _
  refine L.nil (E.then (T.seq (T.region ?_)))
  refine L.y (Yl.ldb 0 rfl rfl rfl rfl) rfl rfl rfl ?_
  refine L.a [2] [] (Ac.stb rfl rfl rfl rfl rfl rfl) rfl rfl rfl rfl rfl ?_
  intro _
  refine L.nil (E.then (T.ret ?_))
  refine E.frz 2 rfl ?_
  refine E.frz 2 rfl ?_
  have hr := Option.some.inj H443
  subst r
  exact E.ret ((a438, c439), (a15, c16)) [] [1, 0] (.cell 0 rfl rfl rfl .nil) rfl rfl rfl

theorem c_law14_Told {l : List RowGlyph} (a_0 : Option Addr) (c_0 : Nat) {r : (List Ref09Glyph)} (H : p_law14_Told l = some r) : CT G 40 [.slice a_0 l.length c_0] [] [Im.sl tyRowGlyph a_0 c_0 l] (fun h : (Option Addr × Nat) => .slice h.1 r.length h.2) (fun h => [Ch.arr tyRef09Glyph 122 h.1 h.2 r]) (fun h => []) := by
  delta p_law14_Told at H
  refine CT.of Go.Proofs.Tryz.func40 (by kernel_rfl) rfl rfl rfl fun K => ?_
  refine T.seq (T.region ?_)
  refine L.q 1 rfl ?_
  refine L.nil (E.then (T.seq (T.region ?_)))
  refine L.q 1 rfl ?_
  refine L.nil (E.then (T.seq (T.seq (T.region ?_))))
  refine L.q 3 rfl ?_
  refine L.nil (E.then ?_)
  obtain ⟨e125, H126, H127⟩ := bnd H
  refine T.join (η := Unit × ((Option Addr × Nat))) (fun h => True) (fun h => (fun a122 c123 => [(3, .slice a122 e125.length c123)]) h.2.1 h.2.2) (fun h => (fun a122 c123 => [Ch.arr tyRef09Glyph 122 a122 c123 e125]) h.2.1 h.2.2) (fun h => (fun a122 c123 => [Im.sl tyRowGlyph a_0 c_0 l]) h.2.1 h.2.2) ?_ ?_
  · refine T.block ?_
    refine T.nil0 tyRef09Glyph 122 ?_
    refine T.lp (η := (Option Addr × Nat)) (fun s86 h => (fun a82 c83 => [(3, .slice a82 s86.1.length c83), (6, .slice a_0 l.length c_0), (7, .int .i64 (l.length : Int)), (8, .int .i64 s86.2)]) h.1 h.2) (fun s86 h => (fun a82 c83 => [Ch.arr tyRef09Glyph 122 a82 c83 s86.1]) h.1 h.2) (fun s86 h => (fun a82 c83 => [Im.sl tyRowGlyph a_0 c_0 l]) h.1 h.2) (none, 0) [0] [0] H126 ⟨rfl, rfl, rfl, rfl, trivial⟩ rfl rfl ?_
    rintro k_ s86 ⟨a82, c83⟩ z129 H128 hag130 hbr131
    refine T.seq (T.region ?_)
    refine L.q 1 rfl ?_
    refine L.nil (E.then (T.seq ?_))
    refine T.bif rfl H128 (fun hc H133 => ?_) (fun hc H133 => ?_)
    · refine T.skip (E.then (T.seq (T.block (T.seq (T.region ?_)))))
      obtain ⟨x150, h151, H152⟩ := bnd H133
      refine L.addr 0 rfl (idx_lt h151) fun b153 o154 e155 => ?_
      obtain rfl : a_0 = some ⟨b153, o154, none⟩ := e155
      refine L.y (Yl.ia h151 rfl rfl rfl rfl rfl rfl) rfl rfl rfl ?_
      refine L.el 0 rfl (idx_some h151).2 ?_
      rintro _
      refine L.y (Yl.ldc 0 0 rfl rfl rfl rfl) rfl rfl rfl ?_
      refine L.a [] [] (Ac.alloc rfl rfl) rfl rfl rfl rfl rfl ?_
      intro g157
      refine L.a [0] [] (Ac.stb rfl rfl rfl rfl rfl rfl) rfl rfl rfl rfl rfl ?_
      intro _
      refine L.nil (E.then (T.region ?_))
      refine L.q 2 rfl ?_
      refine L.y (Yl.ldb 0 rfl rfl rfl rfl) rfl rfl rfl ?_
      refine L.q 2 rfl ?_
      refine L.y (Yl.ldb 0 rfl rfl rfl rfl) rfl rfl rfl ?_
      refine L.q 1 rfl ?_
      refine L.a [] [] (Ac.bs (ty := tyRef09Glyph) (xs := [(Ref09Glyph.mk (IntKind.i64.wrap x150.rune) x150.style)]) (.cons () [] rfl .nil) rfl rfl rfl rfl rfl rfl rfl) rfl rfl rfl rfl rfl ?_
      intro g158
      refine L.frz 0 rfl ?_
      obtain ⟨_, h161, H162⟩ := bnd H152
      refine L.a [1] [0] (Ac.ap (ty := tyRef09Glyph) h161 rfl rfl rfl rfl rfl rfl rfl) rfl rfl rfl rfl rfl ?_
      rintro ⟨a163, c164⟩
      refine L.q 1 rfl ?_
      refine L.nil (E.block (E.then (T.region ?_)))
      refine L.q 2 rfl ?_
      refine L.nil ?_
      have hr := Option.some.inj H162
      subst z129
      exact E.give (_, (a163, c164)) [0] [2] (hag130 _ rfl) ⟨rfl, rfl, rfl, rfl, trivial⟩ rfl rfl
    refine T.exit (E.then_exit' (E.then_exit' (E.block_here ?_)))
    have hr := Option.some.inj H133
    subst z129
    have hb := hbr131 _ rfl
    subst e125
    exact E.give ((), (a82, c83)) [0] [0] trivial ⟨rfl, trivial⟩ rfl rfl
  rintro ⟨_, ⟨a122, c123⟩⟩ _
  refine T.seq (T.region ?_)
  refine L.q 2 rfl ?_
  refine L.nil (E.then (T.ret ?_))
  have hr := Option.some.inj H127
  subst r
  exact E.ret (a122, c123) [0] [] (.tmp rfl .nil) rfl rfl rfl

theorem c_law09_Told {r_ : RowRow} (a_0_0 : Option Addr) (c_0_0 : Nat) {r : Ref09Row} (H : p_law09_Told r_ = some r) : CT G 41 [.agg #[.slice a_0_0 r_.cells.length c_0_0, .bool r_.wrapped]] [] [Im.sl tyRowCell a_0_0 c_0_0 r_.cells] (fun h : (Option Addr × Nat) => .agg #[.slice h.1 r.l.length h.2, .bool r.wrapped]) (fun h => []) (fun h => [Im.sl tyRef09Cell h.1 h.2 r.l]) := by
  delta p_law09_Told at H
  refine CT.of Go.Proofs.Tryz.func41 (by kernel_rfl) rfl rfl rfl fun K => ?_
  refine T.seq (T.region ?_)
  refine L.a [] [] (Ac.box rfl rfl) rfl rfl rfl rfl rfl ?_
  intro g1
  refine L.a [] [] (Ac.alloc rfl rfl) rfl rfl rfl rfl rfl ?_
  intro g2
  refine L.nil (E.then (T.seq (T.region ?_)))
  refine L.q 1 rfl ?_
  refine L.y (Yl.ldb 1 rfl rfl rfl rfl) rfl rfl rfl ?_
  refine L.q 1 rfl ?_
  refine L.a [] [] (Ac.alloc rfl rfl) rfl rfl rfl rfl rfl ?_
  intro g3
  refine L.a [0] [] (Ac.stb rfl rfl rfl rfl rfl rfl) rfl rfl rfl rfl rfl ?_
  intro _
  refine L.nil (E.then (T.seq (T.seq (T.region ?_))))
  refine L.q 1 rfl ?_
  refine L.y (Yl.ldb 2 rfl rfl rfl rfl) rfl rfl rfl ?_
  refine L.q 2 rfl ?_
  refine L.nil (E.then ?_)
  obtain ⟨e128, H129, H130⟩ := bnd H
  refine T.join (η := Unit × ((Option Addr × Nat))) (fun h => True) (fun h => (fun a125 c126 => [(2, .pointer (some ⟨g2, 0, none⟩)), (3, .pointer (some ⟨g3, 0, none⟩))]) h.2.1 h.2.2) (fun h => (fun a125 c126 => [Ch.arr tyRef09Cell 124 a125 c126 e128.l, Ch.box g3 97 [.slice a125 e128.l.length c126, .bool e128.wrapped], Ch.box g2 97 [.slice none 0 0, .bool false], Ch.box g1 54 [.slice a_0_0 r_.cells.length c_0_0, .bool r_.wrapped]]) h.2.1 h.2.2) (fun h => (fun a125 c126 => [Im.sl tyRowCell a_0_0 c_0_0 r_.cells]) h.2.1 h.2.2) ?_ ?_
  · refine T.block ?_
    refine T.nil0 tyRef09Cell 124 ?_
    refine T.lp (η := (Option Addr × Nat)) (fun s89 h => (fun a85 c86 => [(2, .pointer (some ⟨g2, 0, none⟩)), (3, .pointer (some ⟨g3, 0, none⟩)), (10, .slice a_0_0 r_.cells.length c_0_0), (11, .int .i64 (r_.cells.length : Int)), (12, .int .i64 s89.2)]) h.1 h.2) (fun s89 h => (fun a85 c86 => [Ch.arr tyRef09Cell 124 a85 c86 s89.1.l, Ch.box g3 97 [.slice a85 s89.1.l.length c86, .bool s89.1.wrapped], Ch.box g2 97 [.slice none 0 0, .bool false], Ch.box g1 54 [.slice a_0_0 r_.cells.length c_0_0, .bool r_.wrapped]]) h.1 h.2) (fun s89 h => (fun a85 c86 => [Im.sl tyRowCell a_0_0 c_0_0 r_.cells]) h.1 h.2) (none, 0) [0, 0, 0, 0] [0] H129 ⟨rfl, rfl, rfl, rfl, rfl, trivial⟩ rfl rfl ?_
    rintro k_ s89 ⟨a85, c86⟩ z132 H131 hag133 hbr134
    refine T.seq (T.region ?_)
    refine L.q 1 rfl ?_
    refine L.nil (E.then (T.seq ?_))
    refine T.bif rfl H131 (fun hc H136 => ?_) (fun hc H136 => ?_)
    · refine T.skip (E.then (T.seq (T.block (T.seq (T.region ?_)))))
      obtain ⟨x153, h154, H155⟩ := bnd H136
      refine L.addr 0 rfl (idx_lt h154) fun b156 o157 e158 => ?_
      obtain rfl : a_0_0 = some ⟨b156, o157, none⟩ := e158
      refine L.y (Yl.ia h154 rfl rfl rfl rfl rfl rfl) rfl rfl rfl ?_
      refine L.el 0 rfl (idx_some h154).2 ?_
      rintro _
      refine L.y (Yl.ldc 0 0 rfl rfl rfl rfl) rfl rfl rfl ?_
      refine L.a [] [] (Ac.alloc rfl rfl) rfl rfl rfl rfl rfl ?_
      intro g160
      refine L.a [0] [] (Ac.stb rfl rfl rfl rfl rfl rfl) rfl rfl rfl rfl rfl ?_
      intro _
      refine L.nil (E.then (T.region ?_))
      refine L.q 1 rfl ?_
      refine L.y (Yl.ldb 2 rfl rfl rfl rfl) rfl rfl rfl ?_
      refine L.q 1 rfl ?_
      refine L.y (Yl.ldb 0 rfl rfl rfl rfl) rfl rfl rfl ?_
      refine L.q 2 rfl ?_
      refine L.y (Yl.ldb 0 rfl rfl rfl rfl) rfl rfl rfl ?_
      refine L.q 1 rfl ?_
      refine L.y (Yl.ldb 0 rfl rfl rfl rfl) rfl rfl rfl ?_
      refine L.q 1 rfl ?_
      refine L.a [] [] (Ac.bs (ty := tyRef09Cell) (xs := [(Ref09Cell.mk (IntKind.i64.wrap x153.rune) x153.style x153.part)]) (.cons () [] rfl .nil) rfl rfl rfl rfl rfl rfl rfl) rfl rfl rfl rfl rfl ?_
      intro g161
      refine L.frz 0 rfl ?_
      obtain ⟨_, h164, H165⟩ := bnd H155
      refine L.a [1] [0] (Ac.ap (ty := tyRef09Cell) h164 rfl rfl rfl rfl rfl rfl rfl) rfl rfl rfl rfl rfl ?_
      rintro ⟨a166, c167⟩
      refine L.q 1 rfl ?_
      refine L.a [2] [] (Ac.stb rfl rfl rfl rfl rfl rfl) rfl rfl rfl rfl rfl ?_
      intro _
      refine L.nil (E.block (E.then (T.region ?_)))
      refine L.q 2 rfl ?_
      refine L.nil ?_
      have hr := Option.some.inj H165
      subst z132
      exact E.give (_, (a166, c167)) [1, 0, 1, 1] [2] (hag133 _ rfl) ⟨rfl, rfl, rfl, rfl, rfl, trivial⟩ rfl rfl
    refine T.exit (E.then_exit' (E.then_exit' (E.block_here ?_)))
    have hr := Option.some.inj H136
    subst z132
    have hb := hbr134 _ rfl
    subst e128
    exact E.give ((), (a85, c86)) [0, 0, 0, 0] [0] trivial ⟨rfl, rfl, trivial⟩ rfl rfl
  rintro ⟨_, ⟨a125, c126⟩⟩ _
  refine T.seq (T.region ?_)
  refine L.y (Yl.ldb 1 rfl rfl rfl rfl) rfl rfl rfl ?_
  refine L.a [2] [] (Ac.stb rfl rfl rfl rfl rfl rfl) rfl rfl rfl rfl rfl ?_
  intro _
  refine L.nil (E.then (T.ret ?_))
  refine E.frz 1 rfl ?_
  have hr := Option.some.inj H130
  subst r
  exact E.ret (a125, c126) [] [0] (.cell 0 rfl rfl rfl .nil) rfl rfl rfl

end Go.Tw.X
